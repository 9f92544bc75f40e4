/- From a contract of the engine to a row: the world's tables, the arguments as they read behind the call. -/
import Derived.Test.YtnifjdhjimjihaaGreatDoorWOpen
import Derived.Below
import Derived.Carry
import Derived.ChangeSame
import Derived.Lay
import Derived.MakeChecks
import Derived.Shelf.Vars
import Derived.Stop.LaidErr
set_option linter.unusedSimpArgs false
set_option linter.unusedVariables false
namespace Go.Proofs.YtnifjdhjimjihaaGreatDoor
open Go.ChangeShapes Go.WideShapes Go.ChangeAt Go.RowKit Lim

theorem own04 : ownKnob Tryz.prog.godebug = none := by kernel_rfl
theorem laidOut04 : laidOutB Tryz.prog = true := by kernel_rfl
noncomputable def laid04 : List (String × DataW Unit) := Rows.decimalMirrorUptoRow.laid
set_option maxRecDepth 100000 in
theorem env_of {W : World} (hL : laidMetH Tryz.prog laid04 W) (hs : W.ShapedOpen Tryz.prog) : Env W := by
  rw [MakeChecks.laidMetH_plain _ _ _ (by kernel_rfl)] at hL
  have h3 := hL.tail.tail
  refine ⟨Lib.tabIs_of_head (g := 3) (t := 169) (e := 81) (n := 20) (by kernel_rfl) (by kernel_rfl) Tryz.underlying169 Tryz.underlying81 (by kernel_rfl) (by kernel_rfl) h3, ?_⟩
  exact Go.Proofs.cell_of_shapedOpen_int (zero := #[.int .i64 0]) (t := 3) hs (of_decide_eq_true (by kernel_rfl)) (by kernel_rfl) rfl (by kernel_rfl) (by kernel_rfl) Tryz.underlying3

section
variable {H : Type} {enc : TypeId × Value → H} {P : Program}
theorem stay_all (hl : laidOutB P = true) {W W' : World} (hb : Below W.heap.size W W') : ∀ (ts : List TypeId) (vs : List Value) (ds : List (DataW H)) (p : List MemPlace), ts.all (fun t => P.readableRec t && decide (t < P.types.size)) = true →
    DataW.TrodAll enc P W 0 (fun _ => true) true ts vs ds p → (∀ x ∈ p, x.block < W.heap.size) → ∀ sp : Nat → Bool, (∀ q ∈ p, sp q.block = true) → DataW.TrodAll enc P W' 0 sp true ts vs ds p
  | [], vs, ds, p, _, h, _, sp, _ => by
    obtain ⟨rfl, rfl, rfl⟩ := trodAll_nil h
    exact trodAll_mk0
  | t :: ts, vs, ds, p, ht, h, hlt, sp, hsp => by
    obtain ⟨v, vs1, d, ds1, a, b, rfl, rfl, rfl, h1, h2⟩ := trodAll_cons h
    simp only [List.all_cons, Bool.and_eq_true, decide_eq_true_eq] at ht
    refine trodAll_cons_mk (WideElems.Trod_stays hl ht.1.1 ht.1.2 h1 (fun x hx => hb.same (hlt x (List.mem_append_left _ hx))) (fun x hx => hsp x (List.mem_append_left _ hx))) ?_
    exact stay_all hl hb ts vs1 ds1 b (by simpa using ht.2) h2 (fun x hx => hlt x (List.mem_append_right _ hx)) sp (fun x hx => hsp x (List.mem_append_right _ hx))

/-- A law's contract gives the row's end. -/
theorem law_end (hl : laidOutB P = true) {tb : TypeId} (hu : P.underlying tb = some .bool) {fid : FuncId} {fn : Func} {s : ChangeSpec} {apart : Bool} (hv : s.vars = []) (hres : fn.resultTypes = #[tb]) (hts : fn.params.toList.all (fun t => P.readableRec t && decide (t < P.types.size)) = true)
    {W : World} {args : Array Value} {ds : List (DataW H)} {before : List MemPlace} (hW : DataW.Whole enc P fn.params.toList s.vars apart W args.toList ds [] before)
    (hfn : s.fn H (ds ++ []) = { results := [.lit (.bool true)], args := ds }) (hc : Calls P fid args W fun e W' => e = .returned (.bool true) ∧ Below W.heap.size W W') :
    Calls P fid args W fun e W' => ∃ v, e = .returned v ∧ s.post enc P fn apart true false false W args v W' := by
  have hW' := hW
  obtain ⟨p, q, hA, hV, rfl, hfz, hnd⟩ := hW
  rw [hv] at hV
  obtain ⟨_, rfl⟩ := trodVars_none hV
  refine hc.mono fun e W' ⟨he, hb⟩ => ⟨.bool true, he, ?_⟩
  have hlt : ∀ x ∈ p, x.block < W.heap.size := fun x hx => hW'.lt x (List.mem_append_left _ hx)
  have hl2 : ∀ x ∈ p ++ [], x.block < W.heap.size := fun x hx => hW'.lt x hx
  have hA2 : ∀ sp : Nat → Bool, (∀ x ∈ p, sp x.block = true) → DataW.TrodAll enc P W' 0 sp true fn.params.toList args.toList (s.fn H (ds ++ [])).args p := fun sp h => by
    rw [hfn]
    exact stay_all hl hb _ _ _ _ hts hA hlt sp h
  have hR2 : ∀ b sp hd, DataW.TrodAll enc P W' b sp hd fn.resultTypes.toList ((Value.bool true).resultList fn.resultTypes.size) (s.fn H (ds ++ [])).results [] := fun b sp hd => by
    rw [hfn, hres]
    exact trodAll_cons_mk (shut_bool hu _) trodAll_mk0
  have hV2 : ∀ sp, DataW.TrodVars enc P W' sp s.vars (s.fn H (ds ++ [])).vars [] := fun sp => by
    rw [hfn, hv]
    rfl
  refine ⟨ds, [], p ++ [], [], p, [], hW', hR2 _ _ _, hA2 _ (fun x hx => by simpa using hlt x hx), hV2 _, World.keptBut_mono (fun x hx => ⟨hx, .inr (List.mem_append.1 hx)⟩) (hb.frame (· ∈ p ++ [])), fun _ =>
    ⟨ok_one hres rfl (okWide_bool_mk hu _), _, _, ([] ++ p) ++ [], ⟨[] ++ p, [], trodAll_append (hA2 _ fun _ _ => rfl) (hR2 _ _ _), hV2 _, rfl, fun b off hx => ?_, fun h => by simpa using hnd h⟩, fun x hx _ => by simpa using hx⟩⟩
  have hx2 : MemPlace.cell b off ∈ p ++ [] := by simpa using hx
  rw [hb.frozen (hl2 _ hx2)]
  exact hfz b off hx2
end
theorem ac_calls {fid : FuncId} {avs : List AV} {W : World} {args : Array Value} (hc : AC fid avs (boo true)) (hE : Env W) (hR : Rep W (fun b _ => b < W.heap.size) (.agg avs) (.agg args)) :
    Calls Tryz.prog fid args W fun e W' => e = .returned (.bool true) ∧ Below W.heap.size W W' := by
  refine (hc.2 W _ args hE (fun _ _ h => h) (fun _ b o v h _ => World.block_lt_of_cell? W _ h) hR).mono fun e W' ⟨v, he, hb, hr⟩ => ⟨?_, hb⟩
  cases hr
  exact he
/-! What an opened argument stands for. -/
theorem agg_val {P : Program} {t : TypeId} {fs : Array Field} {W : World} {r : Reach} {base j : Nat} {v : Value} {cs : List Value} {ps : Array TypeId} {args : Array Value} (hu : P.underlying t = some (.struct fs))
    (hval : ∀ (j : Nat) t v, ps[j]? = some t → args[j]? = some v → Value.okWide P W r base t v) (hp : ps[j]? = some t) (ha : args[j]? = some v) (h : v.cells.toList = cs) : v = .agg cs.toArray := by
  obtain ⟨a, rfl, _⟩ := okWide_struct hu (hval j t v hp ha)
  simp only [Value.cells] at h
  rw [← h]
theorem Rd.inW {W : World} {A : Option Addr} {l : List Nat} (h : Rd W A l) : ∀ b off, A = some ⟨b, off, none⟩ → ∀ j, j < l.length → b < W.heap.size := fun b off e j hj => by
  obtain ⟨b', off', e', hb, _⟩ := h.2 (by omega)
  rw [e] at e'
  cases e'
  exact hb
theorem rep_limbs {W : World} {A : Option Addr} {c : Nat} {l : List Nat} (h1 : Rd W A l) (h2 : l.length ≤ c) : Rep W (fun b _ => b < W.heap.size) (.nat l) (.slice A l.length c) := .nat h1 h2 h1.inW
theorem rep_rat {W : World} {t : Bool} {A B : Option Addr} {c f : Nat} {l m : List Nat} (h1 : Rd W A l) (h2 : l.length ≤ c) (h3 : Rd W B m) (h4 : m.length ≤ f) :
    Rep W (fun b _ => b < W.heap.size) (ratA t l m) (.agg #[.bool t, .slice A l.length c, .slice B m.length f]) := rep3 (.lit rfl) (rep_limbs h1 h2) (rep_limbs h3 h4)
theorem rep_str {W : World} {Z : Zone} (s : ByteArray) : Rep W Z (str s.data.toList) (.string s) := by
  have e : bs s.data.toList = s := by cases s; simp [bs]
  show Rep W Z (.lit (.string (bs s.data.toList))) (.string s)
  rw [e]
  exact .lit rfl
end Go.Proofs.YtnifjdhjimjihaaGreatDoor
