import Derived.Test.YtkmicjpoekbhfaaGreatDoorQTab2
import Derived.Test.YtkmicjpoekbhfaaGreatDoorQNd
import Derived.IntWalk
import Derived.Lib.TrimByte
import Derived.Test.YtkmicjpoekbhfaaGreatDoorQVU
import Derived.Test.YtkmicjpoekbhfaaGreatDoorQNc
import Derived.Test.YtkmicjpoekbhfaaGreatDoorQShelf
/- What the walks read of the program's variables; the engine at this program. -/
set_option linter.unusedSimpArgs false
set_option linter.unusedVariables false
namespace Go.Proofs.YtkmicjpoekbhfaaGreatDoor
open Go.RowKit Lim

/-- What the walks read of the program's variables. -/
structure Env (w : World) : Prop where
  tab : Tab w
  mx : ∃ m : Int, w.cell? ⟨1, 0, none⟩ = some (.int .i64 m)
/-- Where they lie. -/
def EBl (b : Nat) : Prop := b = 1 ∨ Tryz.prog.globalNamed "internal/strconv.uint64pow10" = some b
theorem Env.keepB {w w' : World} (h : Env w) (hb : ∀ b, EBl b → b < w.heap.size → w'.heap[b]? = w.heap[b]?) : Env w' := by
  obtain ⟨m, hm⟩ := h.mx
  have h0 : w'.heap[1]? = w.heap[1]? := hb 1 (.inl rfl) (World.block_lt_of_cell? w _ hm)
  have hm' : w'.cell? ⟨1, 0, none⟩ = some (.int .i64 m) := (World.cell?_of_block (a := ⟨1, 0, none⟩) h0).trans hm
  exact ⟨tab_keepB h.tab (fun g hg hlt => hb g (.inr hg) hlt), m, hm'⟩
theorem Env.keep {w w' : World} (h : Env w) (hb : Below w.heap.size w w') : Env w' := h.keepB fun b _ hlt => hb.block b hlt
theorem Env.lt {w : World} {b : Nat} (h : Env w) (hb : EBl b) : b < w.heap.size := by
  rcases hb with rfl | hb
  · obtain ⟨m, hm⟩ := h.mx
    exact World.block_lt_of_cell? w _ hm
  · exact tab_lt h.tab hb
noncomputable def ctx : Ctx := ⟨Tryz.prog, Go.Proofs.YtkmicjpoekbhfaaGreatDoor.tab, Env, EBl, true, fun ty i h => ofL_all tabL tab_ok ty i h, fun _ _ _ hb h => h.keepB hb, fun _ _ h hb => h.lt hb, by kernel_rfl⟩
theorem ctxT : ctx.T = Go.Proofs.YtkmicjpoekbhfaaGreatDoor.tab := rfl
theorem ctxTt : ctx.t.T = Go.Proofs.YtkmicjpoekbhfaaGreatDoor.tab := rfl
attribute [go_sem] awp_skip awp_ret awp_exit awp_label awp_block awp_region awp_cond thenK_normal thenK_ret thenK_exit blockK_normal blockK_ret blockK_exit blockK_far roundK_ret roundK_exit arun_nil arun_guard arun_move arun_assign arun_pick arun_load arun_fieldAddr arun_extract arun_binOp arun_unOp arun_alloc arun_box arun_store arun_field arun_indexAddr arun_index arun_convert arun_build arun_slice arun_len arun_nilCheck arun_buildSlice onSome_some litK_lit avK_av tupK_tup aggK_agg fieldK_strct strctK_strct slcK_slc rowK_limbs rowK_row chunk natsR condK_true condK_false guardA_tt guardA_tf guardA_ft guardA_ff guardA_skip condA_true condA_false getL_tmp getL_int getL_bool getL_str getL_nil ofT_cons_eq ofT_cons_ne setT_cons_eq setT_cons_ne setT_nil ofL_cons_eq ofL_cons_ne setL_cons_eq setL_cons_ne setL_nil prepL_nil prepL_keep prepL_drop staleK_av staleK_skip staleK_ref badOf_true badOf_false movedOf keysOf bne_self_eq_false Bool.false_and stale_none stale_av stale_skip stale_ref staleT_nil staleT_cons lookL_ref lookL_ptr takeA_strct takeA_scal takeA_bool takeA_int takeA_str takeA_slc offV_ref offV_ptr strK_mk optL_none optL_some lenK_str lenK_sl lenK_nat lenK_osl decide_true decide_false lenK_nil binK_add binK_sub binK_mul binK_quo binK_rem binK_shl binK_shr binK_eql binK_neq binK_lss binK_leq binK_gtr binK_geq binK_sadd binK_seql binK_sneq binK_beql binK_bneq unK_not unK_neg start_of startL_nil startL_cons put_of put_none newsOf isNewB isBoolT normA_nat normA_sl normA_agg normA_tup normA_int normA_bool normA_str normA_nil splice cells_agg cells_lit cells_nat cells_sl cells_tup one_lit one_nat one_sl noLimb_lit noLimb_nat noLimb_sl Value.oneCell' Go.Proofs.YtkmicjpoekbhfaaGreatDoor.noLimb places List.contains_cons List.contains_nil List.elem_cons List.elem_nil Bool.or_false Bool.false_or Bool.or_true Bool.true_or Bool.false_eq_true if_true if_false ite_true ite_false Option.bind_some Option.bind_none Option.map_some Option.map_none Option.some.injEq List.drop_zero List.drop_succ_cons List.drop_nil List.take_zero List.take_succ_cons List.take_nil List.length_cons List.length_nil List.head?_cons List.headD_cons List.tail_cons List.getElem?_cons_zero List.getElem?_cons_succ List.all_cons List.all_nil Bool.and_true Bool.true_and Bool.and_self List.nil_append List.cons_append List.append_nil List.replicate_succ List.replicate_zero List.flatten_cons List.flatten_nil Prod.mk.injEq TK.strct.injEq TK.slc.injEq TV.av.injEq AV.tup.injEq AV.agg.injEq AV.lit.injEq true_and and_true and_self exists_eq_left exists_eq_left' exists_and_left exists_and_right exists_const exists_eq exists_eq' Nat.zero_add Nat.add_zero List.append_assoc Bool.not_true Bool.not_false ne_eq not_false_eq_true eq_self List.getElem?_toArray resK_nil resK_tmp resK_cell packA_one packA_two packA_nil endK_eq endK_eqN cutE_normal cutE_ret cutE_exit leL_of leT_nil leT_some leT_none leM_nil leM_cons arun_call convK_int convK_str ctxT ctxTt arun_makeSlice arun_append arun_copy arun_makeInterface arun_makeFunc arun_max arun_min nilK_ref nilK_ptr nilK_oref nilK_ifc nilK_fn idxK_sl idxK_nat idxK_osl idxK_aref idxK_aptr idxK_aoref argK_av argK_osl argsK_nil argsK_cons fillK_nil fillK_cons boxA_nil boxA_cons storeA_ref storeA_refF storeA_oref storeA_orefF rowA_row rowA_limb putA_nil putA_cons makeK_limb makeK_row intK_int baseK_nilL baseK_nilR baseK_osl baseO_row baseO_limb appK_row appK_limb copyK_osl copyO_limb copyO_row avsK_nil avsK_cons maxR_int minR_int mkEl_one mkEl_big getL_nilIface getL_nilFunc getL_nilPtr getL_nilMap getL_func delL_nil delL_cons_eq delL_cons_ne delsL_nil delsL_cons staleK_osl staleK_oref staleK_oref' stale_osl stale_oref staleO_none staleO_av staleO_skip staleO_ref staleO_osl staleO_oref staleOT_nil staleOT_cons frzL_nil frzL_cons frzV_av frzV_skip frzV_ref frzV_osl frzV_oref partO_eq partV_row partV_limb lookL_oref ovlook_row ovlook_limb ovk_row ovk_limb ovlen_row ovlen_limb ovpart_row ovpart_limb takeA_arr offV_oref binK_slss binK_sgtr binK_sleq binK_sgeq normA_ifc normA_fn normA_ptr normA_nilI normA_nilF normA_nilP normA_nilM cells_ifc cells_fn cells_ptr one_ifc one_fn one_ptr noLimb_ifc noLimb_fn noLimb_ptr eqT_nil eqT_some eqT_none hotIn_nil hotIn_row hotIn_limb slotK_av slotK_skip slotK_oref slotK_ref slotK_osl slotK_frz slotK_frzP ofL_nil ofT_nil List.length_append List.length_set List.length_replicate List.take_length Nat.le_refl Bool.and_false Option.map_map and_assoc awp_regionF fzAt_nil fzAt_cons frzBL_nil frzBL_cons frzBL_none frzBT_ref frzBT_av frzBT_osl frzBT_oref frzBT_skip delB_done delB_cons delB_nil cond_true cond_false fnK_fn arun_callV ifcK_ifc arun_invoke awp_regionL lentK_of giveL_nil giveL_cons giveO_some giveO_none retX_ret retX_nor retX_newR retX_newN pinsK_nil pinsK_cons keysL_nil keysL_cons startX_of startTL_nil startTL_cons resU_nil resU_tmp resU_cell usedT_av usedT_osl usedT_ref leM_nil leM_cons List.not_mem_nil false_imp_iff implies_true List.mem_cons tab1 tab2 tab3 tab4 tab5 tab6 tab7 tab8 tab9 tab10 tab11 tab12 tab13 tab14 tab15 tab16 tab17 tab18 tab19 tab20 tab21 tab22 tab23 tab24 tab25 tab26 tab27 tab28 tab30 tab32 tab33 tab34 tab35 tab36 tab37 tab39 tab40 tab41 tab42 tab43 tab44 tab45 tab46 tab47 tab48 tab49 tab50 tab51 tab52 tab53 tab54 tab55 tab56 tab57 tab58 tab59 tab60 tab61 tab62 tab63 tab64 tab65 tab66 tab67 tab68 tab69 tab70 tab71 tab72 tab73 tab74 tab75 tab76 tab77 tab78 tab79 tab80 tab81 tab82 tab83 tab84 tab85 tab86 tab87 tab88 tab89 tab90 tab91 tab92 tab93 tab94 tab96 tab97 tab99 tab101 tab103 tab105 tab106 tab107 tab108 tab109 tab110 tab112 tab113 tab114 tab115 tab117 tab118 tab119 tab121 tab122 tab123 tab124 tab125 tab126 tab128 tab129 tab131 tab132 tab134 tab135 tab136 tab138 tab139 tab140 tab142 tab143 tab144 tab145 tab147 tab148 tab150 tab152 tab153 tab154 tab156 tab158 tab159 tab160 tab161 tab165 tab166 tab167 tab168 tab169 tab170 tab171 tab172 tab173 tab174 tab175 tab176 tab177 tab178 tab180 tab181 tab182 tab183 tab185 tab187 tab188 tab189 tab190 tab191 tab192 tab193 tab194 tab195 tab196 tab197 tab200 tab201 tab202 tab203 tab204 tab205 tab206
abbrev AT (f : FuncId) (args : List AV) (r : AV) : Prop := ACalls ctx.t f args r
abbrev AC (f : FuncId) (args : List AV) (r : AV) : Prop := ACalls ctx f args r
abbrev i64 (n : Int) : AV := .lit (.int .i64 n)
abbrev boo (b : Bool) : AV := .lit (.bool b)
end Go.Proofs.YtkmicjpoekbhfaaGreatDoor

/- The contracts of nat, integer, ratio and decimal in the engine's words. -/
namespace Go.Proofs.YtkmicjpoekbhfaaGreatDoor
open Go.RowKit Lim

abbrev str (s : List UInt8) : AV := .lit (.string (bs s))
abbrev u64 (n : Int) : AV := .lit (.int .u64 n)
abbrev intA (t : Bool) (l : List Nat) : AV := .agg [boo t, .nat l]
abbrev ratA (t : Bool) (l m : List Nat) : AV := .agg [boo t, .nat l, .nat m]
/-- Numbers in normal form. -/
abbrev natN (n : Nat) : AV := .nat (limbs n)
abbrev intN (z : Int) : AV := .agg [boo (decide (z < 0)), .nat (limbs z.natAbs)]
abbrev decN (z : Int) (p : Int) : AV := .agg [boo (decide (z < 0)), .nat (limbs z.natAbs), i64 p]
/-- Not too long. -/
def IsN (a : AV) (n : Nat) : Prop := ∃ l, a = .nat l ∧ val l = n ∧ l.length < 1099511627776
def IsI (a : AV) (z : Int) : Prop := ∃ t l, a = intA t l ∧ sg t (val l) = z ∧ l.length < 1099511627776
theorem isN (n : Nat) (h : nlen n < 1099511627776) : IsN (natN n) n := ⟨_, rfl, val_limbs n, h⟩
theorem sg_norm (z : Int) : sg (decide (z < 0)) z.natAbs = z := by unfold sg; by_cases h : z < 0 <;> simp [h] <;> omega
theorem isI (z : Int) (h : nlen z.natAbs < 1099511627776) : IsI (intN z) z := ⟨_, _, rfl, by rw [val_limbs]; exact sg_norm z, h⟩
section
variable {w : World} {Z : Zone}
theorem reps1 {a : AV} {vs : Array Value} (h : Rep w Z (.agg [a]) (.agg vs)) : ∃ v, vs = #[v] ∧ Rep w Z a v := by
  obtain ⟨hl, hr⟩ := Rep.agg_iff.1 h
  obtain ⟨l, rfl⟩ : ∃ l, vs = List.toArray l := ⟨vs.toList, by simp⟩
  match l, hl with
  | [v], _ => exact ⟨v, rfl, hr 0 a v rfl rfl⟩
theorem reps2 {a b : AV} {vs : Array Value} (h : Rep w Z (.agg [a, b]) (.agg vs)) : ∃ v u, vs = #[v, u] ∧ Rep w Z a v ∧ Rep w Z b u := by
  obtain ⟨hl, hr⟩ := Rep.agg_iff.1 h
  obtain ⟨l, rfl⟩ : ∃ l, vs = List.toArray l := ⟨vs.toList, by simp⟩
  match l, hl with
  | [v, u], _ => exact ⟨v, u, rfl, hr 0 a v rfl rfl, hr 1 b u rfl rfl⟩
theorem reps3 {a b c : AV} {vs : Array Value} (h : Rep w Z (.agg [a, b, c]) (.agg vs)) : ∃ v u x, vs = #[v, u, x] ∧ Rep w Z a v ∧ Rep w Z b u ∧ Rep w Z c x := by
  obtain ⟨hl, hr⟩ := Rep.agg_iff.1 h
  obtain ⟨l, rfl⟩ : ∃ l, vs = List.toArray l := ⟨vs.toList, by simp⟩
  match l, hl with
  | [v, u, x], _ => exact ⟨v, u, x, rfl, hr 0 a v rfl rfl, hr 1 b u rfl rfl, hr 2 c x rfl rfl⟩
theorem rep_agg {cs : List AV} {v : Value} (h : Rep w Z (.agg cs) v) : ∃ vs, v = .agg vs ∧ Rep w Z (.agg cs) (.agg vs) := by
  cases h with
  | agg hl hr => exact ⟨_, rfl, .agg hl hr⟩
theorem rep_natI {a : AV} {n : Nat} (hi : IsN a n) {v : Value} (h : Rep w Z a v) : ∃ A c l, v = .slice A l.length c ∧ In w A c l n := by
  obtain ⟨l, rfl, hv, hl⟩ := hi
  cases h with
  | nat hr hc _ => exact ⟨_, _, l, rfl, hr, hc, hl, hv⟩
theorem rep_nat {l : List Nat} {v : Value} (h : Rep w Z (.nat l) v) : ∃ A c, v = .slice A l.length c ∧ Rd w A l ∧ l.length ≤ c := by
  cases h with
  | nat hr hc _ => exact ⟨_, _, rfl, hr, hc⟩
theorem rep_intI {a : AV} {z : Int} (hi : IsI a z) {v : Value} (h : Rep w Z a v) : ∃ t A c l, v = .agg #[.bool t, .slice A l.length c] ∧ InI w t A c l z := by
  obtain ⟨t, l, rfl, hv, hl⟩ := hi
  obtain ⟨vs, rfl, h⟩ := rep_agg h
  obtain ⟨v1, v2, rfl, h1, h2⟩ := reps2 h
  rw [h1.lit_eq]
  obtain ⟨A, c, rfl, hr, hc⟩ := rep_nat h2
  refine ⟨t, A, c, l, rfl, ?_⟩
  rw [← hv]
  exact InI.of ⟨hr, hc, hl, rfl⟩
theorem rep2 {a b : AV} {v u : Value} (h1 : Rep w Z a v) (h2 : Rep w Z b u) : Rep w Z (.agg [a, b]) (.agg #[v, u]) :=
  Rep.agg_iff.2 ⟨rfl, fun j x y hx hy => by
    match j with
    | 0 => simp at hx hy; subst hx hy; exact h1
    | 1 => simp at hx hy; subst hx hy; exact h2
    | j + 2 => simp at hx⟩
theorem rep3 {a b c : AV} {v u x : Value} (h1 : Rep w Z a v) (h2 : Rep w Z b u) (h3 : Rep w Z c x) : Rep w Z (.agg [a, b, c]) (.agg #[v, u, x]) :=
  Rep.agg_iff.2 ⟨rfl, fun j y z hx hy => by
    match j with
    | 0 => simp at hx hy; subst hx hy; exact h1
    | 1 => simp at hx hy; subst hx hy; exact h2
    | 2 => simp at hx hy; subst hx hy; exact h3
    | j + 3 => simp at hx⟩
theorem rept2 {a b : AV} {v u : Value} (h1 : Rep w Z a v) (h2 : Rep w Z b u) : Rep w Z (.tup [a, b]) (.tuple #[v, u]) := by
  cases rep2 h1 h2 with
  | agg hl hr => exact .tup hl hr
theorem rept3 {a b c : AV} {v u x : Value} (h1 : Rep w Z a v) (h2 : Rep w Z b u) (h3 : Rep w Z c x) : Rep w Z (.tup [a, b, c]) (.tuple #[v, u, x]) := by
  cases rep3 h1 h2 h3 with
  | agg hl hr => exact .tup hl hr
theorem rd_zone (hz : AllLimbs Z w) {A : Option Addr} {l : List Nat} (h : Rd w A l) : ∀ b off, A = some ⟨b, off, none⟩ → ∀ j, j < l.length → Z b (off + j) := fun b off e j hj => by
  obtain ⟨b', off', e', _, hc⟩ := h.2 (by omega)
  rw [e] at e'
  cases e'
  exact hz _ _ _ (hc j hj) rfl
theorem Out.rep (hz : AllLimbs Z w) {A : Option Addr} {c n : Nat} (h : Out w A c n) : Rep w Z (natN n) (.slice A (limbs n).length c) := .nat h.rd h.cap (rd_zone hz h.rd)
theorem OutI.rep (hz : AllLimbs Z w) {t : Bool} {A : Option Addr} {c : Nat} {l : List Nat} {z : Int} (h : OutI w t A c l z) : Rep w Z (intN z) (.agg #[.bool t, .slice A l.length c]) := by
  rw [h.lim, h.sgn]
  exact rep2 (.lit rfl) (h.mag.rep hz)
end
/-- A contract in the elder words becomes one in the engine's. -/
theorem AC.mk {f : FuncId} {args : List AV} {r : AV} (hf : FnOK Tryz.prog f) (h : ∀ w Z vs, Env w → Rep w Z (.agg args) (.agg vs) → Calls Tryz.prog f vs w fun e w' => ∃ v, e = .returned v ∧ Below w.heap.size w w' ∧ ∀ Z, AllLimbs Z w' → Rep w' Z r v) : AC f args r :=
  ⟨hf, fun w Z vs hE _ hal hr => (h w Z vs hE hr).mono fun _ w' ⟨v, h1, h2, h3⟩ => ⟨v, h1, h2, h3 _ fun b o v hc hl => by
    by_cases hb : b < w.heap.size
    · exact .inl (hal rfl b o v ((h2.cell (p := ⟨b, o, none⟩) hb).symm.trans hc) hl)
    · exact .inr ⟨by omega, World.block_lt_of_cell? w' _ hc⟩⟩⟩
end Go.Proofs.YtkmicjpoekbhfaaGreatDoor

/- The contracts of nat, integer, ratio and decimal, one by one. -/
namespace Go.Proofs.YtkmicjpoekbhfaaGreatDoor
open Go.RowKit Lim

theorem nof_c (n : Nat) (hn : n < 18446744073709551616) : AC 74 [u64 (n : Nat)] (natN n) := by
  refine AC.mk (by exact ⟨Tryz.f74, Tryz.func74, by kernel_rfl, rfl⟩) fun w Z vs hE hr => ?_
  obtain ⟨_, rfl, h1⟩ := reps1 hr
  rw [h1.lit_eq]
  refine (of_any n hn w).mono ?_
  rintro e w' ⟨A, c, rfl, o1, b1⟩
  exact ⟨_, rfl, b1, fun _ hz => (o1.rep hz)⟩
theorem nadd_c {a b : AV} {n k : Nat} (ha : IsN a n) (hb : IsN b k) : AC 113 [a, b] (natN (n + k)) := by
  refine AC.mk (by exact ⟨Tryz.f113, Tryz.func113, by kernel_rfl, rfl⟩) fun w Z vs hE hr => ?_
  obtain ⟨_, _, rfl, h1, h2⟩ := reps2 hr
  obtain ⟨A1, c1, l1, rfl, i1⟩ := rep_natI ha h1
  obtain ⟨A2, c2, l2, rfl, i2⟩ := rep_natI hb h2
  refine (add_any _ _ _ _ _ _ _ _ w i1 i2).mono ?_
  rintro e w' ⟨A, c, rfl, o1, b1⟩
  exact ⟨_, rfl, b1, fun _ hz => (o1.rep hz)⟩
theorem nmul_c {a b : AV} {n k : Nat} (ha : IsN a n) (hb : IsN b k) : AC 114 [a, b] (natN (n * k)) := by
  refine AC.mk (by exact ⟨Tryz.f114, Tryz.func114, by kernel_rfl, rfl⟩) fun w Z vs hE hr => ?_
  obtain ⟨_, _, rfl, h1, h2⟩ := reps2 hr
  obtain ⟨A1, c1, l1, rfl, i1⟩ := rep_natI ha h1
  obtain ⟨A2, c2, l2, rfl, i2⟩ := rep_natI hb h2
  refine (mul_any _ _ _ _ _ _ _ _ w i1 i2).mono ?_
  rintro e w' ⟨A, c, rfl, o1, b1⟩
  exact ⟨_, rfl, b1, fun _ hz => (o1.rep hz)⟩
theorem imake_c (t : Bool) {a : AV} {n : Nat} (ha : IsN a n) : AC 73 [boo t, a] (intN (sg t n)) := by
  refine AC.mk (by exact ⟨Tryz.f73, Tryz.func73, by kernel_rfl, rfl⟩) fun w Z vs hE hr => ?_
  obtain ⟨_, _, rfl, h1, h2⟩ := reps2 hr
  rw [h1.lit_eq]
  obtain ⟨A1, c1, l1, rfl, i1⟩ := rep_natI ha h2
  refine (make_any _ _ _ _ _ w i1).mono ?_
  rintro e w' ⟨t, A, c, l, rfl, o1, b1⟩
  exact ⟨_, rfl, b1, fun _ hz => (o1.rep hz)⟩
theorem iof_c (z : Int) (h1 : -9223372036854775808 ≤ z) (h2 : z ≤ 9223372036854775807) : AC 46 [i64 z] (intN z) := by
  refine AC.mk (by exact ⟨Tryz.f46, Tryz.func46, by kernel_rfl, rfl⟩) fun w Z vs hE hr => ?_
  obtain ⟨_, rfl, h⟩ := reps1 hr
  rw [h.lit_eq]
  refine (iof_any z h1 h2 w).mono ?_
  rintro e w' ⟨t, A, c, l, rfl, o1, b1⟩
  exact ⟨_, rfl, b1, fun _ hz => (o1.rep hz)⟩
theorem dprint_c {x y : AV} {z : Int} (ha : IsI (.agg [x, y]) z) (p : Nat) (hp : p ≤ 9) : AC 45 [.agg [x, y, i64 (p : Nat)]] (.tup [str (decTx z p), i64 0]) := by
  refine AC.mk (by exact ⟨Tryz.f45, Tryz.func45, by kernel_rfl, rfl⟩) fun w Z vs hE hr => ?_
  obtain ⟨_, rfl, h1⟩ := reps1 hr
  obtain ⟨_, rfl, h1⟩ := rep_agg h1
  obtain ⟨_, _, _, rfl, h1, h2, h3⟩ := reps3 h1
  obtain ⟨t1, A1, c1, l1, e1, i1⟩ := rep_intI ha (rep2 h1 h2)
  injection e1 with e1
  obtain ⟨rfl, rfl⟩ : _ ∧ _ := by simpa using e1
  rw [h3.lit_eq]
  refine (dprint_any _ _ _ p _ _ w i1 hp hE.tab).mono ?_
  rintro e w' ⟨rfl, b1⟩
  exact ⟨_, rfl, b1, fun _ hz => rept2 (.lit rfl) (.lit rfl)⟩
theorem isd_c (s : List UInt8) (hs : s.length ≤ 4611686018427387904) : AC 110 [str s] (boo (isDs s)) := by
  refine AC.mk (by exact ⟨Tryz.f110, Tryz.func110, by kernel_rfl, rfl⟩) fun w Z vs hE hr => ?_
  obtain ⟨_, rfl, h1⟩ := reps1 hr
  rw [h1.lit_eq]
  refine (isd_any s hs w).mono ?_
  rintro e w' ⟨rfl, rfl⟩
  exact ⟨_, rfl, Below.refl _ _, fun _ hz => .lit rfl⟩
theorem nparse_c (s : List UInt8) (hd : isDs s = true) (hz : ∀ h : 0 < s.length, ¬ ((s[0]'h).toNat = 48 ∧ 1 < s.length)) (hl : s.length ≤ 400) : AC 112 [str s] (.tup [natN (valD s), i64 0]) := by
  refine AC.mk (by exact ⟨Tryz.f112, Tryz.func112, by kernel_rfl, rfl⟩) fun w Z vs hE hr => ?_
  obtain ⟨_, rfl, h1⟩ := reps1 hr
  rw [h1.lit_eq]
  refine (nparse_ok s hd hz hl w).mono ?_
  rintro e w' ⟨A, c, rfl, o1, b1⟩
  exact ⟨_, rfl, b1, fun _ hz => rept2 (o1.rep hz) (.lit rfl)⟩
end Go.Proofs.YtkmicjpoekbhfaaGreatDoor

/- ratio.parts, Add, Sub, Div by the engine. -/
namespace Go.Proofs.YtkmicjpoekbhfaaGreatDoor
open Go.RowKit Lim

theorem IsN.nlen {a : AV} {n : Nat} (h : IsN a n) (hd : ∀ l, a = .nat l → Dig l) : nlen n < 1099511627776 := by
  obtain ⟨l, rfl, rfl, hl⟩ := h
  have := nlen_val (hd l rfl)
  omega
end Go.Proofs.YtkmicjpoekbhfaaGreatDoor

/- decimal.Parse by the engine. -/
namespace Go.Proofs.YtkmicjpoekbhfaaGreatDoor
open Go.RowKit Lim

theorem mk_bs (l : List UInt8) : (⟨List.toArray l⟩ : ByteArray) = bs l := rfl
theorem strK_bs {s : List UInt8} {q : IntKind} {n : Int} {k : UInt8 → Prop} : strK (.av (.lit (.string (bs s)))) (.av (.lit (.int q n))) k = (0 ≤ n ∧ onSome s[n.toNat]? k) := strK_mk
def pDig (s : List UInt8) : List UInt8 := Lib.trimPrefix s [45]
def pNeg (s : List UInt8) : Bool := Lib.hasPrefix s [45]
def pBef (s : List UInt8) : List UInt8 := (Lib.cut (pDig s) [46]).1
def pAft (s : List UInt8) : List UInt8 := (Lib.cut (pDig s) [46]).2.1
def pPt (s : List UInt8) : Bool := (Lib.cut (pDig s) [46]).2.2
theorem cut_len (s p : List UInt8) : (Lib.cut s p).1.length ≤ s.length ∧ (Lib.cut s p).2.1.length ≤ s.length := by
  unfold Lib.cut
  split
  · simp; omega
  · simp
theorem bs_list (s : List UInt8) : (bs s).data.toList = s := by simp [bs]
theorem cutPrefix_c (s : List UInt8) : AC 82 [str s, str [45]] (.tup [str (pDig s), boo (pNeg s)]) := by
  refine AC.mk (by exact ⟨Tryz.f82, Tryz.func82, by kernel_rfl, rfl⟩) fun w Z vs hE hr => ?_
  obtain ⟨_, _, rfl, h1, h2⟩ := reps2 hr
  rw [h1.lit_eq, h2.lit_eq]
  refine (Tryz.strings_CutPrefix (bs s) (bs [45]) w).mono ?_
  rintro e w' ⟨rfl, rfl⟩
  rw [bs_list, bs_list]
  exact ⟨_, rfl, Below.refl _ _, fun _ hz => rept2 (.lit rfl) (.lit rfl)⟩
theorem cutDot_c (s : List UInt8) (hs : s.length < 4294967281) : AC 109 [str s, str [46]] (.tup [str (Lib.cut s [46]).1, str (Lib.cut s [46]).2.1, boo (Lib.cut s [46]).2.2]) := by
  refine AC.mk (by exact ⟨Tryz.f109, Tryz.func109, by kernel_rfl, rfl⟩) fun w Z vs hE hr => ?_
  obtain ⟨_, _, rfl, h1, h2⟩ := reps2 hr
  rw [h1.lit_eq, h2.lit_eq]
  obtain ⟨m, hm⟩ := hE.mx
  refine (Tryz.strings_Cut (bs s) (bs [46]) m w (by rw [bs_size]; exact hs) hm).mono ?_
  rintro e w' ⟨rfl, n, rfl⟩
  rw [bs_list, bs_list]
  exact ⟨_, rfl, below_drewN (Below.refl _ _) n, fun _ hz => rept3 (.lit rfl) (.lit rfl) (.lit rfl)⟩
theorem trim0_c (s : List UInt8) (hs : s.length ≤ 9223372036854775807) : AC 111 [str s, str [48]] (str (Lib.trimB s 48)) := by
  refine AC.mk (by exact ⟨Tryz.f111, Tryz.func111, by kernel_rfl, rfl⟩) fun w Z vs hE hr => ?_
  obtain ⟨_, _, rfl, h1, h2⟩ := reps2 hr
  rw [h1.lit_eq, h2.lit_eq]
  refine (Tryz.strings_Trim_one (bs s) 48 (by decide) w (by rw [bs_size]; exact hs)).mono ?_
  rintro e w' ⟨rfl, h⟩
  rw [bs_list]
  refine ⟨_, rfl, ?_, fun _ hz => .lit rfl⟩
  rcases h with rfl | rfl
  · exact Below.refl _ _
  · exact (Below.refl _ _).drew
/-- The first test: not in decimal notation. -/
def bad1 (bf af : List UInt8) (pt : Bool) : Bool := !isDs bf || (decide (bf[0]? = some 48) && decide (1 < bf.length)) || (pt && !isDs af)
def bad2 (bf af : List UInt8) (ng : Bool) : Bool := ng && (Lib.trimB (bf ++ af) 48).isEmpty
def long3 (bf af : List UInt8) : Bool := decide (9 < af.length) || decide (400 < bf.length)
abbrev zErr (e : Int) : AV := .tup [.agg [boo false, .nat [], i64 0], i64 e]
set_option maxHeartbeats 2000000 in
theorem dparse_bad1 (s : List UInt8) (hs : s.length < 4294967281) (h : bad1 (pBef s) (pAft s) (pPt s) = true) : AC 80 [str s] (zErr 2) := by
  have hcl := cut_len (pDig s) [46]
  have hdl : (pDig s).length ≤ s.length := by unfold pDig Lib.trimPrefix; split <;> simp
  have CU : AC 109 [str (pDig s), str [46]] (.tup [str (pBef s), str (pAft s), boo (pPt s)]) := cutDot_c (pDig s) (by omega)
  have lb : (pBef s).length ≤ s.length := by unfold pBef; omega
  have la : (pAft s).length ≤ s.length := by unfold pAft; omega
  generalize pBef s = bf at *
  generalize pAft s = af at *
  generalize pPt s = pt at *
  refine ACalls.of ⟨13, [], []⟩ (fn := Tryz.f80) Tryz.func80 rfl rfl rfl (by kernel_rfl) (by kernel_rfl) (Nat.le_of_ble_eq_true rfl) ?_
  simp (maxSteps := 1000000) -implicitDefEqProofs only [mk_bs, go_sem, awp_seq, Nat.reduceBNe, Nat.reduceBEq, Nat.reduceAdd, Nat.reduceSub, Nat.reduceMul, Nat.reduceLeDiff, Nat.reduceLT, Nat.reduceEqDiff, Nat.reduceBneDiff]
  refine callA_mk (cutPrefix_c s) ?_
  simp (maxSteps := 1000000) -implicitDefEqProofs only [mk_bs, go_sem, awp_seq, Nat.reduceBNe, Nat.reduceBEq, Nat.reduceAdd, Nat.reduceSub, Nat.reduceMul, Nat.reduceLeDiff, Nat.reduceLT, Nat.reduceEqDiff, Nat.reduceBneDiff]
  refine callA_mk CU ?_
  simp (maxSteps := 1000000) -implicitDefEqProofs only [mk_bs, go_sem, awp_seq, Nat.reduceBNe, Nat.reduceBEq, Nat.reduceAdd, Nat.reduceSub, Nat.reduceMul, Nat.reduceLeDiff, Nat.reduceLT, Nat.reduceEqDiff, Nat.reduceBneDiff]
  refine callA_mk (isd_c bf (by omega)) ?_
  cases hA : isDs bf with
  | false => simp (maxSteps := 1000000) -implicitDefEqProofs only [go_sem, awp_seq, Nat.reduceBNe, Nat.reduceBEq, Nat.reduceAdd, Nat.reduceSub, Nat.reduceMul, Nat.reduceLeDiff, Nat.reduceLT, Nat.reduceEqDiff, Nat.reduceBneDiff]
  | true =>
    have hne : 0 < bf.length := by cases bf with | nil => simp [isDs] at hA | cons => simp
    obtain ⟨b0, hb0⟩ : ∃ b, bf[0]? = some b := ⟨_, List.getElem?_eq_getElem hne⟩
    by_cases h48 : b0 = 48
    · subst h48
      by_cases hlen : 1 < bf.length
      · have hl : decide ((1 : Int) < (bf.length : Nat)) = true := by simp; omega
        simp (maxSteps := 1000000) -implicitDefEqProofs only [strK_bs, hb0, hl, bs_size, Int.toNat_zero, Int.le_refl, UInt8.reduceToNat, Int.cast_ofNat_Int, BEq.rfl, go_sem, awp_seq, Nat.reduceBNe, Nat.reduceBEq, Nat.reduceAdd, Nat.reduceSub, Nat.reduceMul, Nat.reduceLeDiff, Nat.reduceLT, Nat.reduceEqDiff, Nat.reduceBneDiff]
      · have hl : decide ((1 : Int) < (bf.length : Nat)) = false := by simp; omega
        have hp : pt = true ∧ isDs af = false := by simp [bad1, hA, hlen] at h; exact h
        obtain ⟨rfl, hp⟩ := hp
        simp (maxSteps := 1000000) -implicitDefEqProofs only [strK_bs, hb0, hl, bs_size, Int.toNat_zero, Int.le_refl, UInt8.reduceToNat, Int.cast_ofNat_Int, BEq.rfl, go_sem, awp_seq, Nat.reduceBNe, Nat.reduceBEq, Nat.reduceAdd, Nat.reduceSub, Nat.reduceMul, Nat.reduceLeDiff, Nat.reduceLT, Nat.reduceEqDiff, Nat.reduceBneDiff]
        refine callA_mk (isd_c af (by omega)) ?_
        simp (maxSteps := 1000000) -implicitDefEqProofs only [hp, go_sem, awp_seq, Nat.reduceBNe, Nat.reduceBEq, Nat.reduceAdd, Nat.reduceSub, Nat.reduceMul, Nat.reduceLeDiff, Nat.reduceLT, Nat.reduceEqDiff, Nat.reduceBneDiff]
    · have hq : ((b0.toNat : Int) == 48) = false := by
        simp
        intro hc
        exact h48 (UInt8.toNat_inj.1 (by simpa using Int.ofNat_inj.1 hc))
      have hp : pt = true ∧ isDs af = false := by simp [bad1, hA, hb0, h48] at h; exact h
      obtain ⟨rfl, hp⟩ := hp
      simp (maxSteps := 1000000) -implicitDefEqProofs only [strK_bs, hb0, hq, bs_size, Int.toNat_zero, Int.le_refl, go_sem, awp_seq, Nat.reduceBNe, Nat.reduceBEq, Nat.reduceAdd, Nat.reduceSub, Nat.reduceMul, Nat.reduceLeDiff, Nat.reduceLT, Nat.reduceEqDiff, Nat.reduceBneDiff]
      refine callA_mk (isd_c af (by omega)) ?_
      simp (maxSteps := 1000000) -implicitDefEqProofs only [hp, go_sem, awp_seq, Nat.reduceBNe, Nat.reduceBEq, Nat.reduceAdd, Nat.reduceSub, Nat.reduceMul, Nat.reduceLeDiff, Nat.reduceLT, Nat.reduceEqDiff, Nat.reduceBneDiff]
/-- What is common to the other ways: the tests of the first if are passed. -/
theorem good1 {bf af : List UInt8} {pt : Bool} (h : bad1 bf af pt = false) : isDs bf = true ∧ (∃ b, bf[0]? = some b ∧ (b = 48 → bf.length = 1)) ∧ (pt = true → isDs af = true) := by
  simp only [bad1, Bool.or_eq_false_iff, Bool.not_eq_false', Bool.and_eq_false_iff, decide_eq_false_iff_not] at h
  obtain ⟨⟨h1, h2⟩, h3⟩ := h
  have hne : 0 < bf.length := by cases bf with | nil => simp [isDs] at h1 | cons => simp
  refine ⟨h1, ⟨_, List.getElem?_eq_getElem hne, fun hb => ?_⟩, fun hp => ?_⟩
  · rcases h2 with h2 | h2
    · exact absurd (by rw [List.getElem?_eq_getElem hne, hb]) h2
    · omega
  · rcases h3 with h3 | h3
    · rw [hp] at h3; cases h3
    · simpa using h3
theorem u8_ne {b : UInt8} {n : Nat} (hn : n < 256) (h : b ≠ UInt8.ofNat n) : ((b.toNat : Int) == (n : Int)) = false := by
  simp
  intro hc
  apply h
  apply UInt8.toNat_inj.1
  have : b.toNat = n := by omega
  rw [this]
  simp [Nat.mod_eq_of_lt hn]
set_option maxHeartbeats 4000000 in
theorem dparse_good (s : List UInt8) (hs : s.length < 4294967281) (h : bad1 (pBef s) (pAft s) (pPt s) = false) (hpt : pPt s = false → pAft s = []) (r : AV)
    (h2 : bad2 (pBef s) (pAft s) (pNeg s) = true → r = zErr 2)
    (h3 : bad2 (pBef s) (pAft s) (pNeg s) = false → long3 (pBef s) (pAft s) = true → r = zErr 5)
    (h4 : bad2 (pBef s) (pAft s) (pNeg s) = false → long3 (pBef s) (pAft s) = false → r = .tup [decN (sg (pNeg s) (valD (pBef s ++ pAft s))) ((pAft s).length : Nat), i64 0]) :
    AC 80 [str s] r := by
  have hcl := cut_len (pDig s) [46]
  have hdl : (pDig s).length ≤ s.length := by unfold pDig Lib.trimPrefix; split <;> simp
  have CU : AC 109 [str (pDig s), str [46]] (.tup [str (pBef s), str (pAft s), boo (pPt s)]) := cutDot_c (pDig s) (by omega)
  have lb : (pBef s).length ≤ s.length := by unfold pBef; omega
  have la : (pAft s).length ≤ s.length := by unfold pAft; omega
  generalize pBef s = bf at *
  generalize pAft s = af at *
  generalize hpp : pPt s = pt at *
  generalize hnn : pNeg s = ng at *
  obtain ⟨hA, ⟨b0, hb0, hb1⟩, hP⟩ := good1 h
  have hda : af.all isD = true := by
    cases pt with
    | true => have := hP rfl; simp [isDs] at this; simpa using this.1
    | false => rw [hpt rfl]; rfl
  have hdb : bf.all isD = true := by simp [isDs] at hA; simpa using hA.1
  have hsz : ((bf.length + af.length : Nat) : Int) ≤ 9223372036854775807 := by omega
  have hs2 : ((3 : Int) == 3) = true := rfl
  refine ACalls.of ⟨13, [], []⟩ (fn := Tryz.f80) Tryz.func80 rfl rfl rfl (by kernel_rfl) (by kernel_rfl) (Nat.le_of_ble_eq_true rfl) ?_
  simp (maxSteps := 1000000) -implicitDefEqProofs only [mk_bs, go_sem, awp_seq, Nat.reduceBNe, Nat.reduceBEq, Nat.reduceAdd, Nat.reduceSub, Nat.reduceMul, Nat.reduceLeDiff, Nat.reduceLT, Nat.reduceEqDiff, Nat.reduceBneDiff]
  refine callA_mk (cutPrefix_c s) ?_
  simp (maxSteps := 1000000) -implicitDefEqProofs only [hnn, mk_bs, go_sem, awp_seq, Nat.reduceBNe, Nat.reduceBEq, Nat.reduceAdd, Nat.reduceSub, Nat.reduceMul, Nat.reduceLeDiff, Nat.reduceLT, Nat.reduceEqDiff, Nat.reduceBneDiff]
  refine callA_mk CU ?_
  simp (maxSteps := 1000000) -implicitDefEqProofs only [mk_bs, go_sem, Nat.reduceBNe, Nat.reduceBEq, Nat.reduceAdd, Nat.reduceSub, Nat.reduceMul, Nat.reduceLeDiff, Nat.reduceLT, Nat.reduceEqDiff, Nat.reduceBneDiff]
  refine seq_cut monoK_end [(2, some (.ref 2 0)), (3, some (.av (i64 0))), (5, some (.av (boo ng))), (6, some (.av (str bf))), (7, some (.av (str af)))] [(2, [boo false, .nat [], i64 0])] [] ?_ ?_
  · simp (maxSteps := 1000000) -implicitDefEqProofs only [go_sem, awp_seq, Nat.reduceBNe, Nat.reduceBEq, Nat.reduceAdd, Nat.reduceSub, Nat.reduceMul, Nat.reduceLeDiff, Nat.reduceLT, Nat.reduceEqDiff, Nat.reduceBneDiff]
    refine callA_mk (isd_c bf (by omega)) ?_
    by_cases h48 : b0 = 48
    · have hl : decide ((1 : Int) < (bf.length : Nat)) = false := by have := hb1 h48; simp; omega
      subst h48
      simp (maxSteps := 1000000) -implicitDefEqProofs only [hA, strK_bs, hb0, hl, bs_size, Int.toNat_zero, Int.le_refl, UInt8.reduceToNat, Int.cast_ofNat_Int, BEq.rfl, go_sem, awp_seq, Nat.reduceBNe, Nat.reduceBEq, Nat.reduceAdd, Nat.reduceSub, Nat.reduceMul, Nat.reduceLeDiff, Nat.reduceLT, Nat.reduceEqDiff, Nat.reduceBneDiff]
      cases pt with
      | false => simp (maxSteps := 1000000) -implicitDefEqProofs only [go_sem, awp_seq, Nat.reduceBNe, Nat.reduceBEq, Nat.reduceAdd, Nat.reduceSub, Nat.reduceMul, Nat.reduceLeDiff, Nat.reduceLT, Nat.reduceEqDiff, Nat.reduceBneDiff]
      | true =>
        simp (maxSteps := 1000000) -implicitDefEqProofs only [go_sem, awp_seq, Nat.reduceBNe, Nat.reduceBEq, Nat.reduceAdd, Nat.reduceSub, Nat.reduceMul, Nat.reduceLeDiff, Nat.reduceLT, Nat.reduceEqDiff, Nat.reduceBneDiff]
        refine callA_mk (isd_c af (by omega)) ?_
        simp (maxSteps := 1000000) -implicitDefEqProofs only [hP rfl, go_sem, awp_seq, Nat.reduceBNe, Nat.reduceBEq, Nat.reduceAdd, Nat.reduceSub, Nat.reduceMul, Nat.reduceLeDiff, Nat.reduceLT, Nat.reduceEqDiff, Nat.reduceBneDiff]
    · have hq : ((b0.toNat : Int) == 48) = false := u8_ne (n := 48) (by omega) h48
      simp (maxSteps := 1000000) -implicitDefEqProofs only [hA, strK_bs, hb0, hq, bs_size, Int.toNat_zero, Int.le_refl, UInt8.reduceToNat, Int.cast_ofNat_Int, BEq.rfl, go_sem, awp_seq, Nat.reduceBNe, Nat.reduceBEq, Nat.reduceAdd, Nat.reduceSub, Nat.reduceMul, Nat.reduceLeDiff, Nat.reduceLT, Nat.reduceEqDiff, Nat.reduceBneDiff]
      cases pt with
      | false => simp (maxSteps := 1000000) -implicitDefEqProofs only [go_sem, awp_seq, Nat.reduceBNe, Nat.reduceBEq, Nat.reduceAdd, Nat.reduceSub, Nat.reduceMul, Nat.reduceLeDiff, Nat.reduceLT, Nat.reduceEqDiff, Nat.reduceBneDiff]
      | true =>
        simp (maxSteps := 1000000) -implicitDefEqProofs only [go_sem, awp_seq, Nat.reduceBNe, Nat.reduceBEq, Nat.reduceAdd, Nat.reduceSub, Nat.reduceMul, Nat.reduceLeDiff, Nat.reduceLT, Nat.reduceEqDiff, Nat.reduceBneDiff]
        refine callA_mk (isd_c af (by omega)) ?_
        simp (maxSteps := 1000000) -implicitDefEqProofs only [hP rfl, go_sem, awp_seq, Nat.reduceBNe, Nat.reduceBEq, Nat.reduceAdd, Nat.reduceSub, Nat.reduceMul, Nat.reduceLeDiff, Nat.reduceLT, Nat.reduceEqDiff, Nat.reduceBneDiff]
  · cases hb2 : bad2 bf af ng with
    | true =>
      have hr := h2 hb2
      subst hr
      simp only [bad2, Bool.and_eq_true] at hb2
      obtain ⟨rfl, ht⟩ := hb2
      have hE : Lib.trimB (bf ++ af) 48 = [] := by simpa using ht
      simp (maxSteps := 1000000) -implicitDefEqProofs only [bs_size, hsz, bs_app, go_sem, awp_seq, Nat.reduceBNe, Nat.reduceBEq, Nat.reduceAdd, Nat.reduceSub, Nat.reduceMul, Nat.reduceLeDiff, Nat.reduceLT, Nat.reduceEqDiff, Nat.reduceBneDiff]
      refine callA_mk (trim0_c (bf ++ af) (by simp; omega)) ?_
      simp (maxSteps := 1000000) -implicitDefEqProofs only [hE, mk_bs, toList_bs, BEq.rfl, go_sem, awp_seq, Nat.reduceBNe, Nat.reduceBEq, Nat.reduceAdd, Nat.reduceSub, Nat.reduceMul, Nat.reduceLeDiff, Nat.reduceLT, Nat.reduceEqDiff, Nat.reduceBneDiff]
    | false =>
      refine seq_cut monoK_end [(2, some (.ref 2 0)), (3, some (.av (i64 0))), (5, some (.av (boo ng))), (6, some (.av (str bf))), (7, some (.av (str af)))] [(2, [boo false, .nat [], i64 0])] [] ?_ ?_
      · cases ng with
        | false => simp (maxSteps := 1000000) -implicitDefEqProofs only [go_sem, awp_seq, Nat.reduceBNe, Nat.reduceBEq, Nat.reduceAdd, Nat.reduceSub, Nat.reduceMul, Nat.reduceLeDiff, Nat.reduceLT, Nat.reduceEqDiff, Nat.reduceBneDiff]
        | true =>
          have hE : (Lib.trimB (bf ++ af) 48 == []) = false := by
            simp only [bad2, Bool.true_and] at hb2
            cases hx : Lib.trimB (bf ++ af) 48 with
            | nil => rw [hx] at hb2; cases hb2
            | cons => rfl
          simp (maxSteps := 1000000) -implicitDefEqProofs only [bs_size, hsz, bs_app, go_sem, awp_seq, Nat.reduceBNe, Nat.reduceBEq, Nat.reduceAdd, Nat.reduceSub, Nat.reduceMul, Nat.reduceLeDiff, Nat.reduceLT, Nat.reduceEqDiff, Nat.reduceBneDiff]
          refine callA_mk (trim0_c (bf ++ af) (by simp; omega)) ?_
          simp (maxSteps := 1000000) -implicitDefEqProofs only [hE, mk_bs, toList_bs, go_sem, awp_seq, Nat.reduceBNe, Nat.reduceBEq, Nat.reduceAdd, Nat.reduceSub, Nat.reduceMul, Nat.reduceLeDiff, Nat.reduceLT, Nat.reduceEqDiff, Nat.reduceBneDiff]
      · cases hl3 : long3 bf af with
        | true =>
          have hr := h3 hb2 hl3
          subst hr
          simp only [long3, Bool.or_eq_true, decide_eq_true_eq] at hl3
          by_cases h9 : 9 < af.length
          · have e9 : decide ((9 : Int) < (af.length : Nat)) = true := by simp; omega
            simp (maxSteps := 1000000) -implicitDefEqProofs only [bs_size, e9, go_sem, awp_seq, Nat.reduceBNe, Nat.reduceBEq, Nat.reduceAdd, Nat.reduceSub, Nat.reduceMul, Nat.reduceLeDiff, Nat.reduceLT, Nat.reduceEqDiff, Nat.reduceBneDiff]
          · have e9 : decide ((9 : Int) < (af.length : Nat)) = false := by simp; omega
            have e4 : decide ((400 : Int) < (bf.length : Nat)) = true := by simp; omega
            simp (maxSteps := 1000000) -implicitDefEqProofs only [bs_size, e9, e4, go_sem, awp_seq, Nat.reduceBNe, Nat.reduceBEq, Nat.reduceAdd, Nat.reduceSub, Nat.reduceMul, Nat.reduceLeDiff, Nat.reduceLT, Nat.reduceEqDiff, Nat.reduceBneDiff]
        | false =>
          have hr := h4 hb2 hl3
          subst hr
          simp only [long3, Bool.or_eq_false_iff, decide_eq_false_iff_not] at hl3
          have e9 : decide ((9 : Int) < (af.length : Nat)) = false := by simp; omega
          have e4 : decide ((400 : Int) < (bf.length : Nat)) = false := by simp; omega
          simp (maxSteps := 1000000) -implicitDefEqProofs only [bs_size, e9, e4, go_sem, awp_seq, Nat.reduceBNe, Nat.reduceBEq, Nat.reduceAdd, Nat.reduceSub, Nat.reduceMul, Nat.reduceLeDiff, Nat.reduceLT, Nat.reduceEqDiff, Nat.reduceBneDiff]
          refine callA_mk (nparse_c bf hA (fun hh => ?_) (by omega)) ?_
          · intro hc
            rw [List.getElem?_eq_getElem hh] at hb0
            cases hb0
            have := hb1 (UInt8.toNat_inj.1 hc.1)
            omega
          simp (maxSteps := 1000000) -implicitDefEqProofs only [go_sem, awp_seq, Nat.reduceBNe, Nat.reduceBEq, Nat.reduceAdd, Nat.reduceSub, Nat.reduceMul, Nat.reduceLeDiff, Nat.reduceLT, Nat.reduceEqDiff, Nat.reduceBneDiff]
          refine callA_mk (nof_c 10 (by omega)) ?_
          simp (maxSteps := 1000000) -implicitDefEqProofs only [go_sem, awp_seq, Nat.reduceBNe, Nat.reduceBEq, Nat.reduceAdd, Nat.reduceSub, Nat.reduceMul, Nat.reduceLeDiff, Nat.reduceLT, Nat.reduceEqDiff, Nat.reduceBneDiff]
          clear h2 h3 h4 CU hcl hs2
          have hlim : ∀ k, k ≤ af.length → nlen (valD (bf ++ af.take k)) + 3 < 1099511627776 := fun k hk => by
            have hall : (bf ++ af.take k).all isD = true := by
              rw [List.all_append, hdb, Bool.true_and, List.all_eq_true]
              exact fun x hx => List.all_eq_true.1 hda x (List.mem_of_mem_take hx)
            have h1 := valD_lt hall (bf ++ af.take k).length (Nat.le_refl _)
            rw [List.take_length] at h1
            have h5 := nlen_q (q := 60) h1 (by simp; omega)
            omega
          refine loop_mk (α := {k : Nat // k ≤ af.length}) (fun k => [(2, some (.ref 2 0)), (3, some (.av (i64 0))), (5, some (.av (boo ng))), (7, some (.av (str af))), (9, some (.av (natN (valD (bf ++ af.take k.1))))), (11, some (.av (natN 10))), (12, some (.av (i64 (k.1 : Nat))))]) (fun _ => [(2, [boo false, .nat [], i64 0])]) (fun _ => []) (fun k => af.length - k.1) ⟨0, Nat.zero_le _⟩ ?_ ?_
          · simp (maxSteps := 1000000) -implicitDefEqProofs only [go_sem, awp_seq, Nat.reduceBNe, Nat.reduceBEq, Nat.reduceAdd, Nat.reduceSub, Nat.reduceMul, Nat.reduceLeDiff, Nat.reduceLT, Nat.reduceEqDiff, Nat.reduceBneDiff]
            simp
          · rintro ⟨k, hk⟩
            by_cases hlt : k < af.length
            · have e1 : decide ((k : Int) < (af.length : Nat)) = true := by simp; omega
              obtain ⟨b, hb⟩ : ∃ b, af[k]? = some b := ⟨_, List.getElem?_eq_getElem hlt⟩
              have hdig := isD_iff.1 (List.all_eq_true.1 hda b (List.mem_of_getElem? hb))
              have w1 : IntKind.u8.wrap ((b.toNat : Int) - 48) = ((b.toNat - 48 : Nat) : Int) := by rw [IntWalk.u8_in _ (by omega)]; omega
              have w2 : IntKind.u64.wrap ((b.toNat - 48 : Nat) : Int) = ((b.toNat - 48 : Nat) : Int) := IntWalk.u64_in _ (by omega)
              have w3 : IntKind.i64.wrap ((k : Int) + 1) = ((k + 1 : Nat) : Int) := by rw [IntWalk.i64_in _ (by omega)]; omega
              have hnext : valD (bf ++ af.take k) * 10 + (b.toNat - 48) = valD (bf ++ af.take (k + 1)) := by
                rw [List.take_succ_eq_append_getElem hlt, ← List.append_assoc, valD_snoc]
                rw [List.getElem?_eq_getElem hlt] at hb
                cases hb
                rfl
              have m1 := hlim k hk
              have m2 := nlen_mul (valD (bf ++ af.take k)) 10
              have m3 := nlen_ten
              simp (maxSteps := 1000000) -implicitDefEqProofs only [e1, bs_size, strK_bs, Int.toNat_natCast, hb, w1, w2, w3, Int.natCast_nonneg, go_sem, awp_seq, Nat.reduceBNe, Nat.reduceBEq, Nat.reduceAdd, Nat.reduceSub, Nat.reduceMul, Nat.reduceLeDiff, Nat.reduceLT, Nat.reduceEqDiff, Nat.reduceBneDiff]
              refine callA_mk (nmul_c (isN _ (by omega)) (isN 10 (by omega))) ?_
              simp (maxSteps := 1000000) -implicitDefEqProofs only [e1, bs_size, strK_bs, Int.toNat_natCast, hb, w1, w2, w3, Int.natCast_nonneg, go_sem, awp_seq, Nat.reduceBNe, Nat.reduceBEq, Nat.reduceAdd, Nat.reduceSub, Nat.reduceMul, Nat.reduceLeDiff, Nat.reduceLT, Nat.reduceEqDiff, Nat.reduceBneDiff]
              refine callA_mk (nof_c _ (by omega)) ?_
              simp (maxSteps := 1000000) -implicitDefEqProofs only [go_sem, awp_seq, Nat.reduceBNe, Nat.reduceBEq, Nat.reduceAdd, Nat.reduceSub, Nat.reduceMul, Nat.reduceLeDiff, Nat.reduceLT, Nat.reduceEqDiff, Nat.reduceBneDiff]
              refine callA_mk (nadd_c (isN _ (by omega)) (isN _ (nlen_small (by omega)))) ?_
              simp (maxSteps := 1000000) -implicitDefEqProofs only [w3, hnext, go_sem, awp_seq, Nat.reduceBNe, Nat.reduceBEq, Nat.reduceAdd, Nat.reduceSub, Nat.reduceMul, Nat.reduceLeDiff, Nat.reduceLT, Nat.reduceEqDiff, Nat.reduceBneDiff]
              refine roundK_mk ⟨k + 1, hlt⟩ ?_ (by show af.length - (k + 1) < af.length - k; omega)
              simp (maxSteps := 1000000) -implicitDefEqProofs only [go_sem, awp_seq, Nat.reduceBNe, Nat.reduceBEq, Nat.reduceAdd, Nat.reduceSub, Nat.reduceMul, Nat.reduceLeDiff, Nat.reduceLT, Nat.reduceEqDiff, Nat.reduceBneDiff]
            · have e1 : decide ((k : Int) < (af.length : Nat)) = false := by simp; omega
              obtain rfl : k = af.length := by omega
              have m1 := hlim af.length (Nat.le_refl _)
              rw [List.take_length] at m1 ⊢
              simp (maxSteps := 1000000) -implicitDefEqProofs only [e1, bs_size, go_sem, awp_seq, Nat.reduceBNe, Nat.reduceBEq, Nat.reduceAdd, Nat.reduceSub, Nat.reduceMul, Nat.reduceLeDiff, Nat.reduceLT, Nat.reduceEqDiff, Nat.reduceBneDiff]
              refine callA_mk (imake_c ng (isN _ (by omega))) ?_
              simp (maxSteps := 1000000) -implicitDefEqProofs only [bs_size, go_sem, awp_seq, Nat.reduceBNe, Nat.reduceBEq, Nat.reduceAdd, Nat.reduceSub, Nat.reduceMul, Nat.reduceLeDiff, Nat.reduceLT, Nat.reduceEqDiff, Nat.reduceBneDiff]
end Go.Proofs.YtkmicjpoekbhfaaGreatDoor
