import Derived.Test.YtfchbehmeppckaaGreatQWa
import Derived.Test.YtfchbehmeppckaaGreatRows
import Derived.ProofKit
import Derived.OpenShut
import Derived.ChangeArms
import Derived.ChangeSlices
import Derived.Deep.DeepHandedRow
import Derived.Deep.Slices
import Derived.Below
import Derived.Carry
import Derived.ChangeSame
import Derived.Lay
import Derived.MakeChecks
import Derived.Shelf.Vars
/- Texts merged: WSh WSi Wr1 Wr2 Wr3 Wr4 Wr5 Wr6 Wr7 WLaw4 WLawM WMono WNear Wr8 Ws1 Ws2. -/
/- What an argument that can be read is, by the shape of its type. -/
set_option linter.unusedSimpArgs false
set_option linter.unusedVariables false
namespace Go.Proofs.YtfchbehmeppckaaGreat
open Go.ChangeShapes Go.WideShapes Go.ChangeAt Go.RowKit Lim

/-- The shape of a type; a struct is a chain of its members. -/
inductive SH where
  | int (k : IntKind)
  | bool
  | str
  | nat
  | sl (e : SH)
  | nil
  | cons (f r : SH)
def SH.sz : SH → Nat
  | .nil => 0
  | .cons f r => f.sz + r.sz
  | _ => 1
/-- Cells of a shape, each row at most B long. -/
inductive Ok (B : Nat) : SH → List AV → Prop
  | int {k : IntKind} {z : Int} (h : k.min ≤ z ∧ z ≤ k.max) : Ok B (.int k) [.lit (.int k z)]
  | bool {b : Bool} : Ok B .bool [.lit (.bool b)]
  | str {l : List UInt8} (h : l.length ≤ B) : Ok B .str [Go.Proofs.YtfchbehmeppckaaGreat.str l]
  | nat {l : List Nat} (h1 : Dig l) (h2 : l.length ≤ B) : Ok B .nat [.nat l]
  | sl {e : SH} {xs : List (List AV)} (h1 : xs.length ≤ B) (h2 : ∀ x, x ∈ xs → Ok B e x) : Ok B (.sl e) [.sl e.sz (xs.map (mkEl e.sz))]
  | nil : Ok B .nil []
  | cons {f r : SH} {a b : List AV} (h1 : Ok B f a) (h2 : Ok B r b) : Ok B (.cons f r) (a ++ b)
theorem Ok.facts {B : Nat} {s : SH} {cs : List AV} (h : Ok B s cs) : cs.length = s.sz ∧ cs.all AV.one = true := by
  induction h with
  | cons _ _ ih1 ih2 => simp only [SH.sz, List.length_append, List.all_append, ih1.1, ih2.1, ih1.2, ih2.2, Bool.and_self]; exact ⟨trivial, trivial⟩
  | nil => exact ⟨rfl, rfl⟩
  | _ => exact ⟨rfl, rfl⟩
/-- Whether a type has a shape; whether members have it. -/
def shB (P : Program) : SH → (TypeId → Bool) × (List Field → Nat → Bool)
  | .int k => (fun t => match P.underlying t with | some (.int k') => decide (k' = k) | _ => false, fun _ _ => false)
  | .bool => (fun t => match P.underlying t with | some .bool => true | _ => false, fun _ _ => false)
  | .str => (fun t => match P.underlying t with | some .string => true | _ => false, fun _ _ => false)
  | .nat => (fun t => match P.underlying t with | some (.slice e) => (match P.underlying e with | some (.int .u32) => P.cellsOf e == 1 | _ => false) | _ => false, fun _ _ => false)
  | .sl s => (fun t => match P.underlying t with | some (.slice e) => (shB P s).1 e && P.cellsOf e == s.sz && decide (0 < s.sz) | _ => false, fun _ _ => false)
  | .nil => (fun t => match P.underlying t with | some (.struct fs) => fs.toList.isEmpty && P.cellsOf t == 0 | _ => false, fun fs _ => fs.isEmpty)
  | .cons f r => (fun t => match P.underlying t with | some (.struct fs) => (match fs.toList with | g :: gs => g.offset == 0 && (shB P f).1 g.type && P.cellsOf g.type == f.sz && (shB P r).2 gs (0 + f.sz) | [] => false) && P.cellsOf t == f.sz + r.sz | _ => false,
      fun fs off => match fs with | g :: gs => g.offset == off && (shB P f).1 g.type && P.cellsOf g.type == f.sz && (shB P r).2 gs (off + f.sz) | [] => false)
theorem bulk_one {H : Type} (d : DataW H) : 1 ≤ Rows.uptoBulk d := by
  cases d with
  | lit l => cases l <;> simp [Rows.uptoBulk]
  | nil => simp [Rows.uptoBulk]
  | ptr d => simp [Rows.uptoBulk]
  | slice elems spare => simp [Rows.uptoBulk]
  | agg parts => simp [Rows.uptoBulk]
  | iface t d => simp [Rows.uptoBulk]
  | map entries => simp [Rows.uptoBulk]
  | held h => simp [Rows.uptoBulk]
theorem bulk_len {H : Type} (l : List (DataW H)) : l.length ≤ Rows.uptoBulkAll l := by
  induction l with
  | nil => simp [Rows.uptoBulkAll]
  | cons x r ih => have := bulk_one x; simp only [Rows.uptoBulkAll, List.length_cons]; omega
theorem bulk_mem {H : Type} {l : List (DataW H)} {x : DataW H} (h : x ∈ l) : Rows.uptoBulk x ≤ Rows.uptoBulkAll l := by
  induction l with
  | nil => simp at h
  | cons y r ih =>
    simp only [Rows.uptoBulkAll]
    rcases List.mem_cons.1 h with rfl | h
    · omega
    · have := ih h; omega
theorem cell_spot {w : World} {a : Addr} {v : Value} (h : w.cell? a = some v) : a = ⟨a.block, a.off, none⟩ := by
  obtain ⟨b, o, s⟩ := a
  cases s with
  | none => rfl
  | some q =>
    simp only [World.cell?] at h
    split at h <;> simp at h
abbrev inW (w : World) : Zone := fun b _ => b < w.heap.size
section
variable {H : Type} {enc : TypeId × Value → H} {P : Program} {w : World} {base : Nat} {spare : Nat → Bool} {held : Bool} {B : Nat}

theorem open_nat {t e : TypeId} {fuel : Nat} {cs : List Value} {x : DataW H × List MemPlace} (ht : P.underlying t = some (.slice e)) (he : P.underlying e = some (.int .u32)) (hc : P.cellsOf e = 1)
    (h : DataW.trod enc P w base spare held fuel t cs = some x) (hB : Rows.uptoBulk x.1 ≤ B) : ∃ l v, cs = [v] ∧ Dig l ∧ l.length ≤ B ∧ Rep w (inW w) (.nat l) v := by
  rcases open_ints ht he hc h with ⟨rfl, rfl⟩ | ⟨a, len, cap, zs, rfl, _, hl, hm, hz, rfl, hcell, hwf⟩
  · exact ⟨[], _, rfl, dig_nil, by simp, Rep.nat (l := []) (Rd.nil _ _) (by simp) (fun _ _ _ j hj => by simp at hj)⟩
  · have hlen : len ≤ zs.length := by rw [hz]; split <;> omega
    have hb : ∀ n ∈ zs, 0 ≤ n ∧ n < 4294967296 := fun n hn => by
      have := hwf n hn
      simp [Lit.wf, IntKind.min, IntKind.max, IntKind.signed, IntKind.bits] at this
      omega
    have hl2 : ((zs.take len).map Int.toNat).length = len := by simp; omega
    have hd : Dig ((zs.take len).map Int.toNat) := by
      intro y hy
      obtain ⟨n, hn, rfl⟩ := List.mem_map.1 hy
      have := hb n (List.mem_of_mem_take hn)
      omega
    have hR : Rd w (some a) ((zs.take len).map Int.toNat) := ⟨hd, fun hpos => by
      have h0 := hcell 0 (by omega)
      rw [show a.add 0 = a by simp [Addr.add]] at h0
      have ha := cell_spot h0
      refine ⟨a.block, a.off, by rw [← ha], World.block_lt_of_cell? w a h0, fun j hj => ?_⟩
      have hj2 : j < zs.length := by omega
      have := hcell j hj2
      rw [ha, add_addr] at this
      rw [this]
      simp only [List.getElem_map, List.getElem_take]
      have hb2 := hb zs[j] (List.getElem_mem hj2)
      rw [Int.toNat_of_nonneg hb2.1]
      simp [List.getD, List.getElem?_eq_getElem hj2]⟩
    refine ⟨(zs.take len).map Int.toNat, .slice (some a) ((zs.take len).map Int.toNat).length cap, by rw [hl2], hd, ?_, .nat hR (by omega) ?_⟩
    · rw [hl2]
      simp only [Rows.uptoBulk] at hB
      have h1 := bulk_len (lits (H := H) .u32 (zs.take len))
      have : (lits (H := H) .u32 (zs.take len)).length = len := by simp [lits]; omega
      omega
    · intro b off e j hj
      obtain ⟨b', off', e', hb', _⟩ := hR.2 (by omega)
      rw [e] at e'
      cases e'
      exact hb'
/-- Cells that stand for abstract ones. -/
def Stand (w : World) (as' : List AV) (cs : List Value) : Prop := as'.length = cs.length ∧ ∀ j (h1 : j < as'.length) (h2 : j < cs.length), Rep w (inW w) (as'[j]'h1) (cs[j]'h2)
theorem Stand.one {a : AV} {v : Value} (h : Rep w (inW w) a v) : Stand w [a] [v] := ⟨rfl, fun j h1 h2 => by
  have : j = 0 := by simp at h1; exact h1
  subst this
  exact h⟩
theorem add_cell {a : Addr} {i j : Nat} : (a.add i).add j = a.add (i + j) := Go.Deep.add_add a i j
theorem open_sl {s : SH} {t e : TypeId} {fuel : Nat} {cs : List Value} {x : DataW H × List MemPlace} (ht : P.underlying t = some (.slice e)) (hc : P.cellsOf e = s.sz) (hs : 0 < s.sz)
    (ih : ∀ {n : Nat} {cs' : List Value} {y : DataW H × List MemPlace}, DataW.trod enc P w base spare held n e cs' = some y → Rows.uptoBulk y.1 ≤ B → ∃ as', Ok B s as' ∧ Stand w as' cs')
    (h : DataW.trod enc P w base spare held fuel t cs = some x) (hB : Rows.uptoBulk x.1 ≤ B) : ∃ as', Ok B (.sl s) as' ∧ Stand w as' cs := by
  rcases Go.Deep.open_slice ht h with ⟨rfl, rfl⟩ | ⟨a, len, cap, m, n, D, Pl, rfl, hb, hl, hm, hmm, rfl, hx⟩
  · exact ⟨_, .sl (xs := []) (by simp) (fun x hx => by simp at hx), Stand.one .nil⟩
  have hlm : len ≤ m := by rw [hmm]; split <;> omega
  simp only [Rows.uptoBulk] at hB
  have h1 := bulk_len ((List.range len).map D)
  have h2 : ((List.range len).map D).length = len := by simp
  have hel : ∀ i, i < len → ∃ as', Ok B s as' ∧ ∃ cs', w.cells? base (a.add (i * s.sz)) s.sz = some cs' ∧ Stand w as' cs' := fun i hi => by
    obtain ⟨cs', k1, k2⟩ := hx i (by omega)
    rw [hc] at k1
    have k3 : Rows.uptoBulk (D i) ≤ Rows.uptoBulkAll ((List.range len).map D) := bulk_mem (List.mem_map.2 ⟨i, List.mem_range.2 hi, rfl⟩)
    obtain ⟨as', o1, o2⟩ := ih k2 (show Rows.uptoBulk (D i) ≤ B by omega)
    exact ⟨as', o1, cs', k1, o2⟩
  let A : Nat → List AV := fun i => if h : i < len then Classical.choose (hel i h) else []
  have hA : ∀ i (hi : i < len), Ok B s (A i) ∧ ∃ cs', w.cells? base (a.add (i * s.sz)) s.sz = some cs' ∧ Stand w (A i) cs' := fun i hi => by
    have := Classical.choose_spec (hel i hi)
    simp only [A, dif_pos hi]
    exact this
  let V : Nat → List Value := fun i => (w.cells? base (a.add (i * s.sz)) s.sz).getD []
  have hV : ∀ i (hi : i < len), w.cells? base (a.add (i * s.sz)) s.sz = some (V i) ∧ Stand w (A i) (V i) := fun i hi => by
    obtain ⟨_, cs', k1, k2⟩ := hA i hi
    simp only [V, k1, Option.getD_some]
    exact ⟨trivial, k2⟩
  have hcl : ∀ i (hi : i < len) j (hj : j < s.sz), ∃ hv : j < (V i).length, w.cell? (a.add (i * s.sz + j)) = some ((V i)[j]'hv) := fun i hi j hj => by
    obtain ⟨_, k2, k3⟩ := World.cells?_some (hV i hi).1
    refine ⟨by omega, ?_⟩
    rw [← add_cell, k3 j hj, List.getElem?_eq_getElem]
  have hE : ∀ i (hi : i < len), (mkEl s.sz (A i)).cells = A i := fun i hi => mkEl_cells hs (hA i hi).1.facts.1 (hA i hi).1.facts.2
  have hmm' : ((List.range len).map A).map (mkEl s.sz) = (List.range len).map fun i => mkEl s.sz (A i) := by rw [List.map_map]; rfl
  refine ⟨_, .sl (xs := (List.range len).map A) (by simp; omega) (fun x hx => ?_), Stand.one ?_⟩
  · obtain ⟨i, hi, rfl⟩ := List.mem_map.1 hx
    exact (hA i (List.mem_range.1 hi)).1
  · rw [hmm']
    by_cases h0 : len = 0
    · subst h0
      exact .nil
    · obtain ⟨_, hc0⟩ := hcl 0 (by omega) 0 hs
      have hadd0 : a.add (0 * s.sz + 0) = a := by simp [Addr.add]
      rw [hadd0] at hc0
      have ha := cell_spot hc0
      have hlt := World.block_lt_of_cell? w a hc0
      have key : Rep w (inW w) (.sl s.sz ((List.range len).map fun i => mkEl s.sz (A i))) (.slice (some ⟨a.block, a.off, none⟩) ((List.range len).map fun i => mkEl s.sz (A i)).length cap) := by
        refine .sl (fun i j => (V i).getD j undef) hlt (by simp; exact hl) (fun i hi => ?_) (fun i j hi hj => ?_) (fun i hi j hj => ?_)
        · simp only [List.length_map, List.length_range] at hi
          simp only [List.getElem_map, List.getElem_range, hE i hi]
          exact (hA i hi).1.facts.1
        · simp only [List.length_map, List.length_range] at hi
          obtain ⟨q1, q2⟩ := hcl i hi j hj
          rw [ha, add_addr] at q2
          refine ⟨?_, hlt⟩
          rw [Nat.add_assoc, q2]
          simp [List.getD, List.getElem?_eq_getElem q1]
        · simp only [List.length_map, List.length_range] at hi
          have e0 : ((List.range len).map fun i => mkEl s.sz (A i))[i]'(by simpa using hi) = mkEl s.sz (A i) := by simp
          have hj' : j < (A i).length := by
            rw [← hE i hi]
            simpa [e0] using hj
          obtain ⟨q1, q2⟩ := hcl i hi j (by rw [← (hA i hi).1.facts.1]; exact hj')
          have := (hV i hi).2.2 j hj' q1
          have e1 : (V i).getD j undef = (V i)[j] := by simp [List.getD, List.getElem?_eq_getElem q1]
          rw [e1]
          have e2 : (((List.range len).map fun i => mkEl s.sz (A i))[i]'(by simpa using hi)).cells[j]'hj = (A i)[j] := by simp only [e0, hE i hi]
          rw [e2]
          exact this
      rw [ha]
      simpa using key
end
end Go.Proofs.YtfchbehmeppckaaGreat

/- The opener of arguments; from a contract to a row's end. -/
set_option linter.unusedSimpArgs false
set_option linter.unusedVariables false
namespace Go.Proofs.YtfchbehmeppckaaGreat
open Go.ChangeShapes Go.WideShapes Go.ChangeAt Go.RowKit Lim

section
variable {H : Type} {enc : TypeId × Value → H} {P : Program} {w : World} {base : Nat} {spare : Nat → Bool} {held : Bool} {B : Nat}

theorem Stand.app {as' bs' : List AV} {cs ds : List Value} (h1 : Stand w as' cs) (h2 : Stand w bs' ds) : Stand w (as' ++ bs') (cs ++ ds) := by
  refine ⟨by rw [List.length_append, List.length_append, h1.1, h2.1], fun j k1 k2 => ?_⟩
  by_cases hj : j < as'.length
  · rw [List.getElem_append_left hj, List.getElem_append_left (by rw [← h1.1]; exact hj)]
    exact h1.2 j hj _
  · have e : cs.length = as'.length := h1.1.symm
    rw [List.getElem_append_right (by omega), List.getElem_append_right (by omega)]
    have := h2.2 (j - as'.length) (by simp at k1; omega) (by simp at k2; omega)
    simpa [e] using this
/-- Members, from an offset on. -/
def OpenF (enc : TypeId × Value → H) (P : Program) (w : World) (base : Nat) (spare : Nat → Bool) (held : Bool) (B : Nat) (s : SH) : Prop :=
  ∀ (fs : List Field) (off n : Nat) (cs : List Value) (xs : List (DataW H × List MemPlace)), (shB P s).2 fs off = true → off + s.sz ≤ cs.length →
    (∀ (i : Nat) (f : Field), fs[i]? = some f → DataW.trod enc P w base spare held n f.type ((cs.drop f.offset).take (P.cellsOf f.type)) = xs[i]?) → xs.length = fs.length →
    Rows.uptoBulkAll (xs.map (·.1)) ≤ B → ∃ as', Ok B s as' ∧ Stand w as' ((cs.drop off).take s.sz)
def OpenT (enc : TypeId × Value → H) (P : Program) (w : World) (base : Nat) (spare : Nat → Bool) (held : Bool) (B : Nat) (s : SH) : Prop :=
  ∀ (t : TypeId) (n : Nat) (cs : List Value) (x : DataW H × List MemPlace), (shB P s).1 t = true → DataW.trod enc P w base spare held n t cs = some x → Rows.uptoBulk x.1 ≤ B → ∃ as', Ok B s as' ∧ Stand w as' cs
theorem openT_struct {s : SH} (hF : OpenF enc P w base spare held B s) {t : TypeId} {fs : Array Field} (hu : P.underlying t = some (.struct fs)) (hs : (shB P s).2 fs.toList 0 = true) (hc : P.cellsOf t = s.sz)
    {n : Nat} {cs : List Value} {x : DataW H × List MemPlace} (h : DataW.trod enc P w base spare held n t cs = some x) (hB : Rows.uptoBulk x.1 ≤ B) : ∃ as', Ok B s as' ∧ Stand w as' cs := by
  obtain ⟨xs, n, rfl, rfl, hl, hx, hf⟩ := DataW.trod_struct hu h
  rw [hc] at hl
  simp only [Rows.uptoBulk] at hB
  obtain ⟨as', h1, h2⟩ := hF fs.toList 0 n cs xs hs (by omega) (fun i f hi => hf i f (by simpa using hi)) (by simpa using hx) (by omega)
  rw [List.drop_zero, List.take_of_length_le (by omega)] at h2
  exact ⟨as', h1, h2⟩
theorem open_sh : ∀ s : SH, OpenT enc P w base spare held B s ∧ OpenF enc P w base spare held B s
  | .int k => ⟨fun t n cs x hs h hB => by
      simp only [shB] at hs
      split at hs
      · rename_i k' hu
        have hs := of_decide_eq_true hs
        subst hs
        obtain ⟨z, rfl, rfl, hw⟩ := DataW.trod_int hu h
        refine ⟨_, .int (z := z) ?_, Stand.one (.lit rfl)⟩
        simpa [Lit.wf] using hw
      · exact Bool.noConfusion hs, fun fs off n cs xs hs => by simp [shB] at hs⟩
  | .bool => ⟨fun t n cs x hs h hB => by
      simp only [shB] at hs
      split at hs
      · rename_i hu
        obtain ⟨b, rfl, rfl⟩ := DataW.trod_bool hu h
        exact ⟨_, .bool (b := b), Stand.one (.lit rfl)⟩
      · exact Bool.noConfusion hs, fun fs off n cs xs hs => by simp [shB] at hs⟩
  | .str => ⟨fun t n cs x hs h hB => by
      simp only [shB] at hs
      split at hs
      · rename_i hu
        obtain ⟨b, rfl, rfl, _⟩ := DataW.trod_string hu h
        simp only [Rows.uptoBulk] at hB
        refine ⟨_, .str (l := b.data.toList) (by omega), Stand.one ?_⟩
        have e : bs b.data.toList = b := by cases b; simp [bs]
        show Rep w _ (.lit (.string (bs b.data.toList))) (.string b)
        rw [e]
        exact .lit rfl
      · exact Bool.noConfusion hs, fun fs off n cs xs hs => by simp [shB] at hs⟩
  | .nat => ⟨fun t n cs x hs h hB => by
      simp only [shB] at hs
      split at hs
      · rename_i e hu
        split at hs
        · rename_i he
          obtain ⟨l, v, rfl, h1, h2, h3⟩ := open_nat hu he (by simpa using hs) h hB
          exact ⟨_, .nat h1 h2, Stand.one h3⟩
        · cases hs
      · exact Bool.noConfusion hs, fun fs off n cs xs hs => by simp [shB] at hs⟩
  | .sl s => ⟨fun t n cs x hs h hB => by
      simp only [shB] at hs
      split at hs
      · rename_i e hu
        simp only [Bool.and_eq_true, beq_iff_eq, decide_eq_true_eq] at hs
        exact open_sl hu hs.1.2 hs.2 (fun hy hb => (open_sh s).1 e _ _ _ hs.1.1 hy hb) h hB
      · exact Bool.noConfusion hs, fun fs off n cs xs hs => by simp [shB] at hs⟩
  | .nil => by
    have hF : OpenF enc P w base spare held B .nil := fun fs off n cs xs hs hl hf hx hb => ⟨[], .nil, by simp [SH.sz], fun j h1 h2 => by simp at h1⟩
    refine ⟨fun t n cs x hs h hB => ?_, hF⟩
    simp only [shB] at hs
    split at hs
    · rename_i fs hu
      simp only [Bool.and_eq_true, beq_iff_eq] at hs
      exact openT_struct hF hu hs.1 hs.2 h hB
    · cases hs
  | .cons f r => by
    have hF : OpenF enc P w base spare held B (.cons f r) := fun fs off n cs xs hs hl hf hx hb => by
      cases fs with
      | nil => simp [shB] at hs
      | cons g gs =>
        simp only [shB, Bool.and_eq_true, beq_iff_eq] at hs
        obtain ⟨⟨⟨ho, hg⟩, hc⟩, hr⟩ := hs
        cases xs with
        | nil => simp at hx
        | cons x xs =>
          simp only [List.map_cons, Rows.uptoBulkAll] at hb
          simp only [SH.sz] at hl
          have h0 := hf 0 g rfl
          rw [ho, hc] at h0
          obtain ⟨as1, k1, k2⟩ := (open_sh f).1 g.type n _ x hg h0 (by omega)
          obtain ⟨as2, k3, k4⟩ := (open_sh r).2 gs (off + f.sz) n cs xs hr (by omega) (fun i q hi => hf (i + 1) q (by simpa using hi)) (by simpa using hx) (by omega)
          refine ⟨as1 ++ as2, .cons k1 k3, ?_⟩
          have e : (cs.drop off).take (f.sz + r.sz) = (cs.drop off).take f.sz ++ (cs.drop (off + f.sz)).take r.sz := by
            rw [List.take_add, List.drop_drop]
          show Stand w _ ((cs.drop off).take (f.sz + r.sz))
          rw [e]
          exact k2.app k4
    refine ⟨fun t n cs x hs h hB => ?_, hF⟩
    simp only [shB] at hs
    split at hs
    · rename_i fs hu
      simp only [Bool.and_eq_true, beq_iff_eq] at hs
      exact openT_struct hF hu hs.1 hs.2 h hB
    · cases hs
/-- What a value of a shape reads as. -/
def SH.top : SH → List AV → AV
  | .nil, cs => .agg cs
  | .cons _ _, cs => .agg cs
  | _, cs => cs.headD (.agg [])
/-- A value whose cells stand for abstract ones. -/
theorem stand_top {s : SH} {t : TypeId} {v : Value} {as' : List AV} {r : Reach} (hs : (shB P s).1 t = true) (ho : Ok B s as') (h : Stand w as' v.cells.toList) (hv : Value.okWide P w r base t v) : Rep w (inW w) (s.top as') v := by
  have one : ∀ {a : AV}, as' = [a] → v.cells.toList = [v] → Rep w (inW w) a v := fun {a} e1 e2 => by
    subst e1
    rw [e2] at h
    exact h.2 0 (by simp) (by simp)
  have agg : (∃ cs, v = .agg cs) → Rep w (inW w) (.agg as') v := fun ⟨cs, e⟩ => by
    subst e
    have h' : Stand w as' cs.toList := h
    exact .agg (by have := h'.1; simp at this; omega) fun j hj => by
      have := h'.2 j hj (by have := h'.1; simp at this ⊢; omega)
      simpa using this
  cases ho with
  | int hh =>
    simp only [shB] at hs
    split at hs
    · rename_i hu
      obtain ⟨n, rfl⟩ := okWide_int hu hv
      exact one rfl rfl
    · cases hs
  | bool =>
    simp only [shB] at hs
    split at hs
    · rename_i hu
      obtain ⟨n, rfl⟩ := okWide_bool hu hv
      exact one rfl rfl
    · cases hs
  | str hh =>
    simp only [shB] at hs
    split at hs
    · rename_i hu
      obtain ⟨n, rfl⟩ := okWide_string hu hv
      exact one rfl rfl
    · cases hs
  | nat h1 h2 =>
    simp only [shB] at hs
    split at hs
    · rename_i hu
      obtain ⟨a, n, c, rfl⟩ := okWide_slice hu hv
      exact one rfl rfl
    · cases hs
  | sl h1 h2 =>
    simp only [shB] at hs
    split at hs
    · rename_i hu
      obtain ⟨a, n, c, rfl⟩ := okWide_slice hu hv
      exact one rfl rfl
    · cases hs
  | nil =>
    simp only [shB] at hs
    split at hs
    · rename_i hu
      obtain ⟨cs, e, _⟩ := okWide_struct hu hv
      exact agg ⟨cs, e⟩
    · cases hs
  | cons h1 h2 =>
    simp only [shB] at hs
    split at hs
    · rename_i hu
      obtain ⟨cs, e, _⟩ := okWide_struct hu hv
      exact agg ⟨cs, e⟩
    · cases hs
/-- Arguments of shapes. -/
inductive OkA (B : Nat) : List SH → List AV → Prop
  | nil : OkA B [] []
  | cons {s : SH} {ss : List SH} {cs : List AV} {as' : List AV} (h1 : Ok B s cs) (h2 : OkA B ss as') : OkA B (s :: ss) (s.top cs :: as')
def shAll (P : Program) : List SH → List TypeId → Bool
  | [], [] => true
  | s :: ss, t :: ts => (shB P s).1 t && shAll P ss ts
  | _, _ => false
theorem args_open : ∀ (ss : List SH) (ts : List TypeId) (vs : List Value) (ds : List (DataW H)) (p : List MemPlace) (r : Reach) (b : Nat), shAll P ss ts = true → DataW.TrodAll enc P w base spare held ts vs ds p →
    (∀ (j : Nat) (t : TypeId) (v : Value), ts[j]? = some t → vs[j]? = some v → Value.okWide P w r b t v) → Rows.uptoBulkAll ds ≤ B → ∃ as', OkA B ss as' ∧ Stand w as' vs
  | [], [], vs, ds, p, r, b, _, h, _, _ => by
    obtain ⟨rfl, rfl, rfl⟩ := trodAll_nil h
    exact ⟨[], .nil, rfl, fun j h1 => by simp at h1⟩
  | [], t :: ts, _, _, _, _, _, hs, _, _, _ => by simp [shAll] at hs
  | s :: ss, [], _, _, _, _, _, hs, _, _, _ => by simp [shAll] at hs
  | s :: ss, t :: ts, vs, ds, p, r, b, hs, h, hv, hB => by
    obtain ⟨v, vs1, d, ds1, p1, p2, rfl, rfl, rfl, ⟨n, h1⟩, h2⟩ := trodAll_cons h
    simp only [shAll, Bool.and_eq_true] at hs
    simp only [Rows.uptoBulkAll] at hB
    obtain ⟨cs, k1, k2⟩ := (open_sh s).1 t n _ _ hs.1 h1 (show Rows.uptoBulk d ≤ B by omega)
    obtain ⟨as', k3, k4⟩ := args_open ss ts vs1 ds1 p2 r b hs.2 h2 (fun j t v ht hv' => hv (j + 1) t v (by simpa using ht) (by simpa using hv')) (by omega)
    have hr := stand_top hs.1 k1 k2 (hv 0 t v rfl rfl)
    exact ⟨_, .cons k1 k3, (Stand.one hr).app k4⟩
theorem stand_args {as' : List AV} {args : Array Value} (h : Stand w as' args.toList) : Rep w (inW w) (.agg as') (.agg args) :=
  .agg (by have := h.1; simp at this; omega) fun j hj => by
    have := h.2 j hj (by have := h.1; simp at this ⊢; omega)
    simpa using this
end
section
variable {H : Type} {enc : TypeId × Value → H} {P : Program}
theorem stay_all (hl : laidOutB P = true) {W W' : World} (hb : Below W.heap.size W W') : ∀ (ts : List TypeId) (vs : List Value) (ds : List (DataW H)) (p : List MemPlace), ts.all (fun t => P.readableRec t && decide (t < P.types.size)) = true →
    DataW.TrodAll enc P W 0 (fun _ => true) true ts vs ds p → (∀ x ∈ p, x.block < W.heap.size) → ∀ sp : Nat → Bool, (∀ q ∈ p, sp q.block = true) → DataW.TrodAll enc P W' 0 sp true ts vs ds p
  | [], vs, ds, p, _, h, _, sp, _ => by
    obtain ⟨rfl, rfl, rfl⟩ := trodAll_nil h
    exact trodAll_mk0
  | t :: ts, vs, ds, p, ht, h, hlt, sp, hsp => by
    obtain ⟨v, vs1, d, ds1, a, b, rfl, rfl, rfl, h1, h2⟩ := trodAll_cons h
    simp only [List.all_cons, Bool.and_eq_true, decide_eq_true_eq] at ht
    refine trodAll_cons_mk (WideElems.Trod_stays hl ht.1.1 ht.1.2 h1 (fun x hx => hb.same (hlt x (List.mem_append_left _ hx))) (fun x hx => hsp x (List.mem_append_left _ hx))) ?_
    exact stay_all hl hb ts vs1 ds1 b (by simpa using ht.2) h2 (fun x hx => hlt x (List.mem_append_right _ hx)) sp (fun x hx => hsp x (List.mem_append_right _ hx))
/-- A law's contract gives the row's end. -/
theorem law_end (hl : laidOutB P = true) {tb : TypeId} (hu : P.underlying tb = some .bool) {fid : FuncId} {fn : Func} {s : ChangeSpec} {apart : Bool} (hv : s.vars = []) (hres : fn.resultTypes = #[tb]) (hts : fn.params.toList.all (fun t => P.readableRec t && decide (t < P.types.size)) = true)
    {W : World} {args : Array Value} {ds : List (DataW H)} {before : List MemPlace} (hW : DataW.Whole enc P fn.params.toList s.vars apart W args.toList ds [] before)
    (hfn : s.fn H (ds ++ []) = { results := [.lit (.bool true)], args := ds }) (hc : Calls P fid args W fun e W' => e = .returned (.bool true) ∧ Below W.heap.size W W') :
    Calls P fid args W fun e W' => ∃ v, e = .returned v ∧ s.post enc P fn apart true false false W args v W' := by
  have hW' := hW
  obtain ⟨p, q, hA, hV, rfl, hfz, hnd⟩ := hW
  rw [hv] at hV
  obtain ⟨_, rfl⟩ := trodVars_none hV
  refine hc.mono fun e W' ⟨he, hb⟩ => ⟨.bool true, he, ?_⟩
  have hlt : ∀ x ∈ p, x.block < W.heap.size := fun x hx => hW'.lt x (List.mem_append_left _ hx)
  have hl2 : ∀ x ∈ p ++ [], x.block < W.heap.size := fun x hx => hW'.lt x hx
  have hA2 : ∀ sp : Nat → Bool, (∀ x ∈ p, sp x.block = true) → DataW.TrodAll enc P W' 0 sp true fn.params.toList args.toList (s.fn H (ds ++ [])).args p := fun sp h => by
    rw [hfn]
    exact stay_all hl hb _ _ _ _ hts hA hlt sp h
  have hR2 : ∀ b sp hd, DataW.TrodAll enc P W' b sp hd fn.resultTypes.toList ((Value.bool true).resultList fn.resultTypes.size) (s.fn H (ds ++ [])).results [] := fun b sp hd => by
    rw [hfn, hres]
    exact trodAll_cons_mk (shut_bool hu _) trodAll_mk0
  have hV2 : ∀ sp, DataW.TrodVars enc P W' sp s.vars (s.fn H (ds ++ [])).vars [] := fun sp => by
    rw [hfn, hv]
    rfl
  refine ⟨ds, [], p ++ [], [], p, [], hW', hR2 _ _ _, hA2 _ (fun x hx => by simpa using hlt x hx), hV2 _, World.keptBut_mono (fun x hx => ⟨hx, .inr (List.mem_append.1 hx)⟩) (hb.frame (· ∈ p ++ [])), fun _ =>
    ⟨ok_one hres rfl (okWide_bool_mk hu _), _, _, ([] ++ p) ++ [], ⟨[] ++ p, [], trodAll_append (hA2 _ fun _ _ => rfl) (hR2 _ _ _), hV2 _, rfl, fun b off hx => ?_, fun h => by simpa using hnd h⟩, fun x hx _ => by simpa using hx⟩⟩
  have hx2 : MemPlace.cell b off ∈ p ++ [] := by simpa using hx
  rw [hb.frozen (hl2 _ hx2)]
  exact hfz b off hx2
end
theorem ac_calls {fid : FuncId} {avs : List AV} {W : World} {args : Array Value} (hc : AC fid avs (boo true)) (hE : Env W) (hR : Rep W (inW W) (.agg avs) (.agg args)) :
    Calls Tryz.prog fid args W fun e W' => e = .returned (.bool true) ∧ Below W.heap.size W W' := by
  refine (hc.2 W _ args hE (fun _ _ h => h) (fun _ b o v h _ => World.block_lt_of_cell? W _ h) hR).mono fun e W' ⟨v, he, hb, hr⟩ => ⟨?_, hb⟩
  cases hr
  exact he
set_option maxRecDepth 100000 in
/-- A law that holds for all arguments of its shapes. -/
theorem law_row {H : Type} {enc : TypeId × Value → H} (hl : laidOutB Tryz.prog = true) {tb : TypeId} (hu : Tryz.prog.underlying tb = some .bool) {fid : FuncId} {fn : Func} {s : ChangeSpec} (hv : s.vars = []) (hres : fn.resultTypes = #[tb]) (hts : fn.params.toList.all (fun t => Tryz.prog.readableRec t && decide (t < Tryz.prog.types.size)) = true)
    (ss : List SH) (hss : shAll Tryz.prog ss fn.params.toList = true) (hfn : ∀ ds : List (DataW H), ds.length = fn.params.toList.length → s.fn H (ds ++ []) = { results := [.lit (.bool true)], args := ds })
    (law : ∀ as', OkA 1048576 ss as' → AC fid as' (boo true))
    {W : World} {base : Nat} {args : Array Value} {ds gs : List (DataW H)} {before : List MemPlace} (hval : ∀ (j : Nat) t v, fn.params[j]? = some t → args[j]? = some v → Value.okWide Tryz.prog W .any base t v)
    (hW : DataW.Whole enc Tryz.prog fn.params.toList s.vars false W args.toList ds gs before) (hE : Env W) (hsm : Rows.uptoSmall H (ds ++ gs) = true) :
    Calls Tryz.prog fid args W fun e W' => ∃ v, e = .returned v ∧ s.post enc Tryz.prog fn false true false false W args v W' := by
  have hW' := hW
  obtain ⟨p, q, hA, hV, rfl, hfz, hnd⟩ := hW
  rw [hv] at hV
  obtain ⟨rfl, rfl⟩ := trodVars_none hV
  simp only [Rows.uptoSmall, List.append_nil, decide_eq_true_eq] at hsm
  obtain ⟨as', k1, k2⟩ := args_open ss _ _ _ _ .any base hss hA (fun j t v ht hv' => hval j t v (by simpa using ht) (by simpa using hv')) hsm
  have hlen : ds.length = fn.params.toList.length := by
    have : ∀ (ts : List TypeId) (vs : List Value) (ds : List (DataW H)) (p : List MemPlace), DataW.TrodAll enc Tryz.prog W 0 (fun _ => true) true ts vs ds p → ds.length = ts.length := by
      intro ts
      induction ts with
      | nil => intro vs ds p h; obtain ⟨rfl, rfl, rfl⟩ := trodAll_nil h; rfl
      | cons t ts ih =>
        intro vs ds p h
        obtain ⟨v, vs1, d, ds1, p1, p2, rfl, rfl, rfl, _, h2⟩ := trodAll_cons h
        rw [List.length_cons, List.length_cons, ih _ _ _ h2]
    exact this _ _ _ _ hA
  exact law_end hl hu hv hres hts hW' (hfn ds hlen) (ac_calls (law as' k1) hE (stand_args k2))
end Go.Proofs.YtfchbehmeppckaaGreat

/- The document's natural numbers (examboardref01), by the engine. -/
set_option linter.unusedSimpArgs false
set_option linter.unusedVariables false
namespace Go.Proofs.YtfchbehmeppckaaGreat
open Go.RowKit Lim

theorem getD_some {l : List Nat} {i : Nat} (h : i < l.length) : l[i]? = some (l.getD i 0) := by rw [List.getElem?_eq_getElem h, List.getD_eq_getElem?_getD, List.getElem?_eq_getElem h]; rfl
theorem r1limb_c (l : List Nat) (hd : Dig l) (i : Nat) : AT 110 [.nat l, i64 (i : Nat)] (u64 (l.getD i 0 : Nat)) := by
  refine ACalls.of ⟨5, []⟩ (fn := Tryz.f110) Tryz.func110 rfl rfl rfl (by kernel_rfl) (by kernel_rfl) (Nat.le_of_ble_eq_true rfl) ?_
  by_cases h : i < l.length
  · have e1 : decide ((i : Int) < (l.length : Nat)) = true := by simp; omega
    have hx := dig_getD hd i
    have w1 : IntKind.u64.wrap ((l.getD i 0 : Nat) : Int) = ((l.getD i 0 : Nat) : Int) := IntWalk.u64_in _ (by omega)
    simp -implicitDefEqProofs only [e1, Int.toNat_natCast, getD_some h, w1, Int.natCast_nonneg, go_sem, awp_seq, Nat.reduceBNe, Nat.reduceBEq, Nat.reduceAdd, Nat.reduceSub, Nat.reduceMul, Nat.reduceLeDiff, Nat.reduceLT, Nat.reduceEqDiff, Nat.reduceBneDiff]
  · have e1 : decide ((i : Int) < (l.length : Nat)) = false := by simp; omega
    have e2 : l.getD i 0 = 0 := by simp [List.getElem?_eq_none (show l.length ≤ i by omega)]
    simp -implicitDefEqProofs only [e1, e2, go_sem, awp_seq, Nat.reduceBNe, Nat.reduceBEq, Nat.reduceAdd, Nat.reduceSub, Nat.reduceMul, Nat.reduceLeDiff, Nat.reduceLT, Nat.reduceEqDiff, Nat.reduceBneDiff]
    rfl
theorem norm_end {l : List Nat} (hd : Dig l) {k : Nat} (hk : k ≤ l.length) (hz : val (l.drop k) = 0) (hn : k = 0 ∨ l.getD (k - 1) 0 ≠ 0) : limbs (val l) = l.take k :=
  limbs_take hd hk hz fun h0 => by
    rcases hn with h | h
    · omega
    · rw [List.getD_eq_getElem?_getD, List.getElem?_eq_getElem (show k - 1 < l.length by omega)] at h
      simpa using h
theorem norm_fin {l : List Nat} (hd : Dig l) {k : Nat} (hk : k ≤ l.length) (hz : val (l.drop k) = 0) (hn : k = 0 ∨ l.getD (k - 1) 0 ≠ 0) : k ≤ k + ((List.replicate k 0).drop k).length ∧ AV.nat ((l.take k ++ (List.replicate k 0).drop k).take k) = natN (val l) := by
  refine ⟨by omega, ?_⟩
  rw [List.drop_eq_nil_of_le (by simp), List.append_nil, List.take_take, Nat.min_self, ← norm_end hd hk hz hn]
set_option maxHeartbeats 1000000 in
theorem r1norm_c (l : List Nat) (hd : Dig l) (hl : l.length < 1099511627776) : AT 90 [.nat l] (natN (val l)) := by
  refine ACalls.of ⟨5, []⟩ (fn := Tryz.f90) Tryz.func90 rfl rfl rfl (by kernel_rfl) (by kernel_rfl) (Nat.le_of_ble_eq_true rfl) ?_
  simp -implicitDefEqProofs only [go_sem, awp_seq, Nat.reduceBNe, Nat.reduceBEq, Nat.reduceAdd, Nat.reduceSub, Nat.reduceMul, Nat.reduceLeDiff, Nat.reduceLT, Nat.reduceEqDiff, Nat.reduceBneDiff]
  refine loop_mk (α := {k : Nat // k ≤ l.length ∧ val (l.drop k) = 0}) (fun k => [(0, some (.av (.nat l))), (3, some (.av (i64 (k.1 : Nat))))]) (fun _ => []) (fun _ => []) (fun k => k.1) ⟨l.length, Nat.le_refl _, by simp [val]⟩ ?_ ?_
  · simp -implicitDefEqProofs only [go_sem, awp_seq, Nat.reduceBNe, Nat.reduceBEq, Nat.reduceAdd, Nat.reduceSub, Nat.reduceMul, Nat.reduceLeDiff, Nat.reduceLT, Nat.reduceEqDiff, Nat.reduceBneDiff]
  · rintro ⟨k, hk, hz⟩
    have w1 : 0 < k → IntKind.i64.wrap ((k : Int) - 1) = ((k - 1 : Nat) : Int) := fun h => by rw [IntWalk.i64_in _ (by omega)]; omega
    have m1 : (k : Int) * ((4 : Nat) : Int) ≤ 140737488355328 := by omega
    have m2 : (k : Int) ≤ 9223372036854775807 := by omega
    have hmin : min k l.length = k := Nat.min_eq_left hk
    by_cases h0 : 0 < k
    · have e1 : decide ((0 : Int) < (k : Nat)) = true := by simp; omega
      by_cases hx : l.getD (k - 1) 0 = 0
      · have e2 : (((l.getD (k - 1) 0 : Nat) : Int) == 0) = true := by rw [hx]; rfl
        simp -implicitDefEqProofs only [e1, w1 h0, e2, Int.toNat_natCast, getD_some (show k - 1 < l.length by omega), Int.natCast_nonneg, go_sem, awp_seq, Nat.reduceBNe, Nat.reduceBEq, Nat.reduceAdd, Nat.reduceSub, Nat.reduceMul, Nat.reduceLeDiff, Nat.reduceLT, Nat.reduceEqDiff, Nat.reduceBneDiff]
        refine roundK_mk ⟨k - 1, by omega, ?_⟩ ?_ (by show k - 1 < k; omega)
        · rw [val_drop_cons l (k - 1) (by omega), show k - 1 + 1 = k by omega, hz]
          rw [List.getD_eq_getElem?_getD, List.getElem?_eq_getElem (show k - 1 < l.length by omega)] at hx
          simpa using hx
        · simp -implicitDefEqProofs only [go_sem, awp_seq, Nat.reduceBNe, Nat.reduceBEq, Nat.reduceAdd, Nat.reduceSub, Nat.reduceMul, Nat.reduceLeDiff, Nat.reduceLT, Nat.reduceEqDiff, Nat.reduceBneDiff]
      · have e2 : (((l.getD (k - 1) 0 : Nat) : Int) == 0) = false := by rw [beq_eq_false_iff_ne]; omega
        simp -implicitDefEqProofs only [e1, w1 h0, e2, Int.toNat_natCast, getD_some (show k - 1 < l.length by omega), Int.natCast_nonneg, Int.le_refl, m1, m2, List.length_take, hmin, go_sem, awp_seq, Nat.reduceBNe, Nat.reduceBEq, Nat.reduceAdd, Nat.reduceSub, Nat.reduceMul, Nat.reduceLeDiff, Nat.reduceLT, Nat.reduceEqDiff, Nat.reduceBneDiff]
        exact norm_fin hd hk hz (.inr hx)
    · have e1 : decide ((0 : Int) < (k : Nat)) = false := by simp; omega
      simp -implicitDefEqProofs only [e1, Int.toNat_natCast, Int.natCast_nonneg, Int.le_refl, m1, m2, List.length_take, hmin, go_sem, awp_seq, Nat.reduceBNe, Nat.reduceBEq, Nat.reduceAdd, Nat.reduceSub, Nat.reduceMul, Nat.reduceLeDiff, Nat.reduceLT, Nat.reduceEqDiff, Nat.reduceBneDiff]
      exact norm_fin hd hk hz (.inl (by omega))
/-- A call that is handed a row; the result may hold it. -/
theorem callA_rowTT {C : Ctx} {ops : Array Oper} {os : List Oper} {l : LT} {m : LM} {q : LQ} {K : AS → Prop} {t : Nat} {f : FuncId} {args : List AV} {us : List Nat} {r : AV} (h : ACalls C.t f args r) (hk1 : arun C.t false ops os ⟨ofT (setT (frzL q us l) t (.av r)), ofL m, ofL (delsL us q)⟩ K) (hk2 : arun C.t false ops os ⟨ofT (setT l t (.av r)), ofL m, ofL q⟩ K) : callA C.t false ops os l m q (some t) f args us K := by
  cases hf : r.flat with
  | true => exact callA_flatTT h hf hk2
  | false => exact callA_frzTT h hf hk1
theorem set_fill (s : List Nat) (N x : Nat) (h : s.length < N) : (s ++ List.replicate (N - s.length) 0).set s.length x = s ++ [x] ++ List.replicate (N - (s.length + 1)) 0 := by
  rw [List.set_append_right _ _ (Nat.le_refl _), Nat.sub_self, show N - s.length = (N - (s.length + 1)) + 1 by omega, List.replicate_succ]
  simp
theorem fill_len (s : List Nat) (N : Nat) (h : s.length ≤ N) : s.length + (N - s.length) = N := by omega
theorem two32 : (2 : Int) ^ min (Int.toNat 32) 64 = 4294967296 := rfl
theorem shr32 (n : Nat) : (n : Int).fdiv 4294967296 = ((n / 4294967296 : Nat) : Int) := by
  rw [Int.fdiv_eq_ediv_of_nonneg _ (by omega)]; omega
theorem w32 (n : Nat) : IntKind.u32.wrap (n : Int) = ((n % 4294967296 : Nat) : Int) := by rw [IntKind.wrap_u32]; omega
theorem w64 {n : Nat} (h : n < 18446744073709551616) : IntKind.u64.wrap (n : Int) = (n : Int) := IntWalk.u64_in _ (by omega)
theorem w63 {n : Nat} (h : n < 9223372036854775808) : IntKind.i64.wrap (n : Int) = (n : Int) := IntWalk.i64_in _ (by omega)
theorem le32 : (0 : Int) ≤ 32 := by omega
theorem r1of_c (n : Nat) (hn : n < 18446744073709551616) : AT 89 [u64 (n : Nat)] (natN n) := by
  have m1 : ((n % 4294967296 : Nat) : Int) < 4294967296 := by omega
  have m2 : ((n / 4294967296 % 4294967296 : Nat) : Int) < 4294967296 := by omega
  have hv : val [n % 4294967296, n / 4294967296 % 4294967296] = n := by simp only [val]; omega
  refine ACalls.of ⟨3, []⟩ (fn := Tryz.f89) Tryz.func89 rfl rfl rfl (by kernel_rfl) (by kernel_rfl) (Nat.le_of_ble_eq_true rfl) ?_
  simp -implicitDefEqProofs only [two32, shr32, w32, le32, Int.toNat_natCast, Int.natCast_nonneg, m1, m2, go_sem, awp_seq, Nat.reduceBNe, Nat.reduceBEq, Nat.reduceAdd, Nat.reduceSub, Nat.reduceMul, Nat.reduceLeDiff, Nat.reduceLT, Nat.reduceEqDiff, Nat.reduceBneDiff]
  refine callA_tt (r1norm_c _ (dig_cons.2 ⟨by omega, dig_cons.2 ⟨by omega, dig_nil⟩⟩) (by simp)) ?_
  simp -implicitDefEqProofs only [hv, go_sem, awp_seq, Nat.reduceBNe, Nat.reduceBEq, Nat.reduceAdd, Nat.reduceSub, Nat.reduceMul, Nat.reduceLeDiff, Nat.reduceLT, Nat.reduceEqDiff, Nat.reduceBneDiff]
theorem take_getD (l : List Nat) (k : Nat) : val (l.take (k + 1)) = val (l.take k) + pw k * l.getD k 0 := val_take_succ' l k
theorem add_next {a b s : List Nat} {c x y t : Nat} (hx : a.getD s.length 0 = x) (hy : b.getD s.length 0 = y) (ht : x + y + c = t) (h : val s + pw s.length * c = val (a.take s.length) + val (b.take s.length)) :
    val (s ++ [t % 4294967296]) + pw (s.length + 1) * (t / 4294967296) = val (a.take (s.length + 1)) + val (b.take (s.length + 1)) := by
  rw [take_getD, take_getD, hx, hy, val_snoc, pw_succ]
  have : t = t % 4294967296 + 4294967296 * (t / 4294967296) := by omega
  generalize t % 4294967296 = u at *
  generalize t / 4294967296 = v at *
  subst this
  grind
theorem add_end {a b s : List Nat} {c : Nat} (ha : Dig a) (hb : Dig b) (h : val s + pw s.length * c = val a + val b) (hN : max a.length b.length + 1 = s.length) : val s = val a + val b := by
  have h1 := val_lt ha
  have h2 := val_lt hb
  have h3 : pw a.length ≤ pw (max a.length b.length) := pw_mono (by omega)
  have h4 : pw b.length ≤ pw (max a.length b.length) := pw_mono (by omega)
  rw [← hN, pw_succ] at h
  cases c with
  | zero => simpa using h
  | succ c =>
    have : 4294967296 * pw (max a.length b.length) * 1 ≤ 4294967296 * pw (max a.length b.length) * (c + 1) := Nat.mul_le_mul_left _ (by omega)
    omega
set_option maxHeartbeats 1000000 in
theorem r1add_c (a b : List Nat) (ha : Dig a) (hb : Dig b) (hla : a.length < 1000000000000) (hlb : b.length < 1000000000000) : AT 93 [.nat a, .nat b] (natN (val a + val b)) := by
  have m0 : (if ((b.length : Nat) : Int) > (a.length : Nat) then ((b.length : Nat) : Int) else (a.length : Nat)) = ((max a.length b.length : Nat) : Int) := by split <;> omega
  have w0 : IntKind.i64.wrap (((max a.length b.length : Nat) : Int) + 1) = ((max a.length b.length + 1 : Nat) : Int) := by rw [IntWalk.i64_in _ (by omega)]; omega
  generalize hN : max a.length b.length + 1 = N at *
  have m1 : (N : Int) * ((4 : Nat) : Int) ≤ 140737488355328 := by omega
  have m2 : (N : Int) ≤ 9223372036854775807 := by omega
  refine ACalls.of ⟨9, []⟩ (fn := Tryz.f93) Tryz.func93 rfl rfl rfl (by kernel_rfl) (by kernel_rfl) (Nat.le_of_ble_eq_true rfl) ?_
  simp -implicitDefEqProofs only [m0, w0, Int.toNat_natCast, Int.natCast_nonneg, Int.le_refl, m1, m2, go_sem, awp_seq, Nat.reduceBNe, Nat.reduceBEq, Nat.reduceAdd, Nat.reduceSub, Nat.reduceMul, Nat.reduceLeDiff, Nat.reduceLT, Nat.reduceEqDiff, Nat.reduceBneDiff]
  refine loop_mk (α := {x : List Nat × Nat // x.1.length ≤ N ∧ Dig x.1 ∧ x.2 ≤ 1 ∧ val x.1 + pw x.1.length * x.2 = val (a.take x.1.length) + val (b.take x.1.length)}) (fun x => [(0, some (.av (.nat a))), (1, some (.av (.nat b))), (5, some (.osl 15 1 0 N)), (6, some (.av (u64 (x.1.2 : Nat)))), (7, some (.av (i64 (x.1.1.length : Nat))))]) (fun _ => []) (fun x => [(15, .limb 52 (x.1.1 ++ List.replicate (N - x.1.1.length) 0))]) (fun x => N - x.1.1.length) ⟨([], 0), by simp, dig_nil, by simp, by simp [val]⟩ ?_ ?_
  · simp -implicitDefEqProofs only [go_sem, awp_seq, Nat.reduceBNe, Nat.reduceBEq, Nat.reduceAdd, Nat.reduceSub, Nat.reduceMul, Nat.reduceLeDiff, Nat.reduceLT, Nat.reduceEqDiff, Nat.reduceBneDiff]
    exact ⟨rfl, rfl, rfl⟩
  · rintro ⟨⟨s, c⟩, hs, hds, hc, hv⟩
    dsimp only at hs hds hc hv
    by_cases hlt : s.length < N
    · have e1 : decide ((s.length : Int) < (N : Nat)) = true := by simp; omega
      simp -implicitDefEqProofs only [e1, go_sem, awp_seq, Nat.reduceBNe, Nat.reduceBEq, Nat.reduceAdd, Nat.reduceSub, Nat.reduceMul, Nat.reduceLeDiff, Nat.reduceLT, Nat.reduceEqDiff, Nat.reduceBneDiff]
      refine callA_tt (r1limb_c a ha s.length) ?_
      simp -implicitDefEqProofs only [go_sem, awp_seq, Nat.reduceBNe, Nat.reduceBEq, Nat.reduceAdd, Nat.reduceSub, Nat.reduceMul, Nat.reduceLeDiff, Nat.reduceLT, Nat.reduceEqDiff, Nat.reduceBneDiff]
      refine callA_tt (r1limb_c b hb s.length) ?_
      have dx := dig_getD ha s.length
      have dy := dig_getD hb s.length
      generalize hx : a.getD s.length 0 = x at *
      generalize hy : b.getD s.length 0 = y at *
      have n1 : IntKind.u64.wrap ((x : Int) + y) = ((x + y : Nat) : Int) := by rw [IntWalk.u64_in _ (by omega)]; omega
      have n2 : IntKind.u64.wrap (((x + y : Nat) : Int) + c) = ((x + y + c : Nat) : Int) := by rw [IntWalk.u64_in _ (by omega)]; omega
      have n3 : IntKind.i64.wrap ((s.length : Int) + 1) = ((s.length + 1 : Nat) : Int) := by rw [IntWalk.i64_in _ (by omega)]; omega
      generalize ht : x + y + c = t at *
      have m3 : ((t % 4294967296 : Nat) : Int) < 4294967296 := by omega
      simp -implicitDefEqProofs only [n1, n2, n3, two32, shr32, w32, le32, Int.toNat_natCast, Int.natCast_nonneg, hlt, m3, fill_len s N hs, set_fill s N _ hlt, go_sem, awp_seq, Nat.reduceBNe, Nat.reduceBEq, Nat.reduceAdd, Nat.reduceSub, Nat.reduceMul, Nat.reduceLeDiff, Nat.reduceLT, Nat.reduceEqDiff, Nat.reduceBneDiff]
      refine roundK_mk ⟨(s ++ [t % 4294967296], t / 4294967296), ?_⟩ ?_ ?_
      · simp only [List.length_append, List.length_cons, List.length_nil, Nat.zero_add]
        exact ⟨by omega, dig_snoc hds (by omega), by omega, add_next hx hy ht hv⟩
      · simp -implicitDefEqProofs only [go_sem, awp_seq, Nat.reduceBNe, Nat.reduceBEq, Nat.reduceAdd, Nat.reduceSub, Nat.reduceMul, Nat.reduceLeDiff, Nat.reduceLT, Nat.reduceEqDiff, Nat.reduceBneDiff]
      · simp; omega
    · have e1 : decide ((s.length : Int) < (N : Nat)) = false := by simp; omega
      obtain rfl : s.length = N := by omega
      have ta : a.take s.length = a := List.take_of_length_le (by omega)
      have tb : b.take s.length = b := List.take_of_length_le (by omega)
      rw [ta, tb] at hv
      have hend : val s = val a + val b := add_end ha hb hv hN
      simp -implicitDefEqProofs only [e1, fill_len s s.length hs, Nat.sub_self, List.replicate_zero, List.append_nil, List.take_length, go_sem, awp_seq, Nat.reduceBNe, Nat.reduceBEq, Nat.reduceAdd, Nat.reduceSub, Nat.reduceMul, Nat.reduceLeDiff, Nat.reduceLT, Nat.reduceEqDiff, Nat.reduceBneDiff]
      refine callA_rowTT (r1norm_c s hds (by omega)) ?_ ?_ <;> simp -implicitDefEqProofs only [hend, Nat.sub_self, List.replicate_zero, List.append_nil, List.take_length, go_sem, awp_seq, Nat.reduceBNe, Nat.reduceBEq, Nat.reduceAdd, Nat.reduceSub, Nat.reduceMul, Nat.reduceLeDiff, Nat.reduceLT, Nat.reduceEqDiff, Nat.reduceBneDiff]
theorem val_take_cmp {a b : List Nat} (ha : Dig a) (hb : Dig b) (k : Nat) (h : val (a.take k) < val (b.take k)) (hk : ∀ j, k ≤ j → a.getD j 0 = b.getD j 0) : val a < val b := by
  have key : ∀ n, val (a.take (k + n)) < val (b.take (k + n)) := fun n => by
    induction n with
    | zero => exact h
    | succ n ih => rw [← Nat.add_assoc, take_getD, take_getD, hk (k + n) (by omega)]; omega
  have := key (a.length + b.length)
  rwa [List.take_of_length_le (by omega), List.take_of_length_le (by omega)] at this
theorem take_lt {a : List Nat} (ha : Dig a) (k : Nat) : val (a.take k) < pw k := by
  have h := val_lt (dig_take ha k)
  exact Nat.lt_of_lt_of_le h (pw_mono (by simp; omega))
theorem cmp_lt {a b : List Nat} (ha : Dig a) (hb : Dig b) (k : Nat) (h : a.getD k 0 < b.getD k 0) (hk : ∀ j, k + 1 ≤ j → a.getD j 0 = b.getD j 0) : val a < val b := by
  refine val_take_cmp ha hb (k + 1) ?_ hk
  rw [take_getD, take_getD]
  have h1 := take_lt ha k
  have h2 : pw k * (a.getD k 0 + 1) ≤ pw k * b.getD k 0 := Nat.mul_le_mul_left _ h
  rw [Nat.mul_add] at h2
  omega
theorem cmp_eq {a b : List Nat} (hk : ∀ j, a.getD j 0 = b.getD j 0) : val a = val b := by
  have key : ∀ n, val (a.take n) = val (b.take n) := fun n => by
    induction n with
    | zero => simp
    | succ n ih => rw [take_getD, take_getD, hk n, ih]
  have := key (a.length + b.length)
  rwa [List.take_of_length_le (by omega), List.take_of_length_le (by omega)] at this
set_option maxHeartbeats 1000000 in
theorem r1cmp_c (a b : List Nat) (ha : Dig a) (hb : Dig b) (hla : a.length < 1000000000000) (hlb : b.length < 1000000000000) : AT 91 [.nat a, .nat b] (i64 (cmpI (val a) (val b))) := by
  have m0 : (if ((b.length : Nat) : Int) > (a.length : Nat) then ((b.length : Nat) : Int) else (a.length : Nat)) = ((max a.length b.length : Nat) : Int) := by split <;> omega
  generalize hN : max a.length b.length = N at *
  have w0 : ∀ k : Nat, k ≤ N → IntKind.i64.wrap ((k : Int) - 1) = ((k : Int) - 1) := fun k hk => IntWalk.i64_in _ (by omega)
  refine ACalls.of ⟨8, []⟩ (fn := Tryz.f91) Tryz.func91 rfl rfl rfl (by kernel_rfl) (by kernel_rfl) (Nat.le_of_ble_eq_true rfl) ?_
  simp -implicitDefEqProofs only [m0, w0 N (Nat.le_refl _), go_sem, awp_seq, Nat.reduceBNe, Nat.reduceBEq, Nat.reduceAdd, Nat.reduceSub, Nat.reduceMul, Nat.reduceLeDiff, Nat.reduceLT, Nat.reduceEqDiff, Nat.reduceBneDiff]
  refine loop_mk (α := {k : Nat // k ≤ N ∧ ∀ j, k ≤ j → a.getD j 0 = b.getD j 0}) (fun k => [(0, some (.av (.nat a))), (1, some (.av (.nat b))), (5, some (.av (i64 ((k.1 : Int) - 1))))]) (fun _ => []) (fun _ => []) (fun k => k.1) ⟨N, Nat.le_refl _, fun j hj => by simp [List.getElem?_eq_none (show a.length ≤ j by omega), List.getElem?_eq_none (show b.length ≤ j by omega)]⟩ ?_ ?_
  · simp -implicitDefEqProofs only [go_sem, awp_seq, Nat.reduceBNe, Nat.reduceBEq, Nat.reduceAdd, Nat.reduceSub, Nat.reduceMul, Nat.reduceLeDiff, Nat.reduceLT, Nat.reduceEqDiff, Nat.reduceBneDiff]
  · rintro ⟨k, hk, hj⟩
    cases k with
    | zero =>
      have e0 : cmpI (val a) (val b) = 0 := by rw [cmp_eq fun j => hj j (Nat.zero_le _)]; exact cmpI_self _
      have e1 : decide ((0 : Int) ≤ ((0 : Nat) : Int) - 1) = false := by simp
      simp -implicitDefEqProofs only [e0, e1, go_sem, awp_seq, Nat.reduceBNe, Nat.reduceBEq, Nat.reduceAdd, Nat.reduceSub, Nat.reduceMul, Nat.reduceLeDiff, Nat.reduceLT, Nat.reduceEqDiff, Nat.reduceBneDiff]
    | succ k =>
      have e1 : decide ((0 : Int) ≤ (k : Nat)) = true := by simp
      have e2 : ((k + 1 : Nat) : Int) - 1 = (k : Int) := by omega
      simp -implicitDefEqProofs only [e1, e2, w0 k (by omega), go_sem, awp_seq, Nat.reduceBNe, Nat.reduceBEq, Nat.reduceAdd, Nat.reduceSub, Nat.reduceMul, Nat.reduceLeDiff, Nat.reduceLT, Nat.reduceEqDiff, Nat.reduceBneDiff]
      refine callA_tt (r1limb_c a ha k) ?_
      simp -implicitDefEqProofs only [go_sem, awp_seq, Nat.reduceBNe, Nat.reduceBEq, Nat.reduceAdd, Nat.reduceSub, Nat.reduceMul, Nat.reduceLeDiff, Nat.reduceLT, Nat.reduceEqDiff, Nat.reduceBneDiff]
      refine callA_tt (r1limb_c b hb k) ?_
      rcases Nat.lt_trichotomy (a.getD k 0) (b.getD k 0) with h | h | h
      · have d1 : decide (((a.getD k 0 : Nat) : Int) < (b.getD k 0 : Nat)) = true := by rw [decide_eq_true_eq]; omega
        have e3 : cmpI (val a) (val b) = -1 := cmpI_lt (cmp_lt ha hb k h hj)
        simp -implicitDefEqProofs only [d1, e3, go_sem, awp_seq, Nat.reduceBNe, Nat.reduceBEq, Nat.reduceAdd, Nat.reduceSub, Nat.reduceMul, Nat.reduceLeDiff, Nat.reduceLT, Nat.reduceEqDiff, Nat.reduceBneDiff]
      · have d1 : decide (((a.getD k 0 : Nat) : Int) < (b.getD k 0 : Nat)) = false := by rw [decide_eq_false_iff_not]; omega
        have d2 : decide (((b.getD k 0 : Nat) : Int) < (a.getD k 0 : Nat)) = false := by rw [decide_eq_false_iff_not]; omega
        simp -implicitDefEqProofs only [d1, d2, w0 k (by omega), go_sem, awp_seq, Nat.reduceBNe, Nat.reduceBEq, Nat.reduceAdd, Nat.reduceSub, Nat.reduceMul, Nat.reduceLeDiff, Nat.reduceLT, Nat.reduceEqDiff, Nat.reduceBneDiff]
        refine roundK_mk ⟨k, by omega, fun j hjj => ?_⟩ ?_ (by show k < k + 1; omega)
        · rcases Nat.lt_or_eq_of_le hjj with h1 | h1
          · exact hj j h1
          · subst h1; exact h
        · simp -implicitDefEqProofs only [go_sem, awp_seq, Nat.reduceBNe, Nat.reduceBEq, Nat.reduceAdd, Nat.reduceSub, Nat.reduceMul, Nat.reduceLeDiff, Nat.reduceLT, Nat.reduceEqDiff, Nat.reduceBneDiff]
      · have d1 : decide (((a.getD k 0 : Nat) : Int) < (b.getD k 0 : Nat)) = false := by rw [decide_eq_false_iff_not]; omega
        have d2 : decide (((b.getD k 0 : Nat) : Int) < (a.getD k 0 : Nat)) = true := by rw [decide_eq_true_eq]; omega
        have e3 : cmpI (val a) (val b) = 1 := cmpI_gt (cmp_lt hb ha k h (fun j hjj => (hj j hjj).symm))
        simp -implicitDefEqProofs only [d1, d2, e3, go_sem, awp_seq, Nat.reduceBNe, Nat.reduceBEq, Nat.reduceAdd, Nat.reduceSub, Nat.reduceMul, Nat.reduceLeDiff, Nat.reduceLT, Nat.reduceEqDiff, Nat.reduceBneDiff]
theorem sub_next {a b s : List Nat} {c x y : Nat} (hx : a.getD s.length 0 = x) (hy : b.getD s.length 0 = y) (h : val s + val (b.take s.length) = val (a.take s.length) + pw s.length * c) (u c' : Nat) (hu : u + (y + c) = x + 4294967296 * c') :
    val (s ++ [u]) + val (b.take (s.length + 1)) = val (a.take (s.length + 1)) + pw (s.length + 1) * c' := by
  rw [take_getD, take_getD, hx, hy, val_snoc, pw_succ]
  have e : pw s.length * u + (pw s.length * y + pw s.length * c) = pw s.length * x + 4294967296 * pw s.length * c' := by
    rw [← Nat.mul_add, ← Nat.mul_add, hu, Nat.mul_add]; grind
  omega
theorem sub_end {a b s : List Nat} {c : Nat} (ha : Dig a) (hb : Dig b) (hs : Dig s) (hle : val b ≤ val a) (hl : s.length = a.length) (h : val s + val (b.take a.length) = val a + pw a.length * c) : val s = val a - val b := by
  have h1 := val_lt hs
  rw [hl] at h1
  have h2 : val (b.take a.length) ≤ val b := by
    by_cases hk : a.length ≤ b.length
    · have := val_take_drop b a.length hk; omega
    · rw [List.take_of_length_le (by omega)]; omega
  cases c with
  | zero =>
    have h3 : val (b.take a.length) = val b := by
      by_cases hk : a.length ≤ b.length
      · have h4 := val_take_drop b a.length hk
        by_cases h5 : val (b.drop a.length) = 0
        · rw [h4, h5]; omega
        · have h6 := val_lt ha
          have h7 : pw a.length * 1 ≤ pw a.length * val (b.drop a.length) := Nat.mul_le_mul_left _ (by omega)
          omega
      · rw [List.take_of_length_le (by omega)]
    omega
  | succ c =>
    have : pw a.length * 1 ≤ pw a.length * (c + 1) := Nat.mul_le_mul_left _ (by omega)
    omega
set_option maxHeartbeats 1000000 in
theorem r1sub_no (a b : List Nat) (ha : Dig a) (hb : Dig b) (hla : a.length < 1000000000000) (hlb : b.length < 1000000000000) (h : val a < val b) : AT 119 [.nat a, .nat b] (.tup [.nat [], boo false]) := by
  have e0 := cmpI_lt h
  have e1 : decide ((-1 : Int) < 0) = true := rfl
  refine ACalls.of ⟨11, []⟩ (fn := Tryz.f119) Tryz.func119 rfl rfl rfl (by kernel_rfl) (by kernel_rfl) (Nat.le_of_ble_eq_true rfl) ?_
  simp -implicitDefEqProofs only [go_sem, awp_seq, Nat.reduceBNe, Nat.reduceBEq, Nat.reduceAdd, Nat.reduceSub, Nat.reduceMul, Nat.reduceLeDiff, Nat.reduceLT, Nat.reduceEqDiff, Nat.reduceBneDiff]
  refine callA_tt (r1cmp_c a b ha hb hla hlb) ?_
  simp -implicitDefEqProofs only [e0, e1, go_sem, awp_seq, Nat.reduceBNe, Nat.reduceBEq, Nat.reduceAdd, Nat.reduceSub, Nat.reduceMul, Nat.reduceLeDiff, Nat.reduceLT, Nat.reduceEqDiff, Nat.reduceBneDiff]
set_option maxHeartbeats 2000000 in
theorem r1sub_yes (a b : List Nat) (ha : Dig a) (hb : Dig b) (hla : a.length < 1000000000000) (hlb : b.length < 1000000000000) (h : val b ≤ val a) : AT 119 [.nat a, .nat b] (.tup [natN (val a - val b), boo true]) := by
  have e0 : decide (cmpI (val a) (val b) < 0) = false := by
    rcases Nat.lt_or_eq_of_le h with h | h
    · rw [cmpI_gt h]; rfl
    · rw [h, cmpI_eq]; rfl
  have m1 : (a.length : Int) * ((4 : Nat) : Int) ≤ 140737488355328 := by omega
  have m2 : (a.length : Int) ≤ 9223372036854775807 := by omega
  refine ACalls.of ⟨11, []⟩ (fn := Tryz.f119) Tryz.func119 rfl rfl rfl (by kernel_rfl) (by kernel_rfl) (Nat.le_of_ble_eq_true rfl) ?_
  simp -implicitDefEqProofs only [go_sem, awp_seq, Nat.reduceBNe, Nat.reduceBEq, Nat.reduceAdd, Nat.reduceSub, Nat.reduceMul, Nat.reduceLeDiff, Nat.reduceLT, Nat.reduceEqDiff, Nat.reduceBneDiff]
  refine callA_tt (r1cmp_c a b ha hb hla hlb) ?_
  simp -implicitDefEqProofs only [e0, Int.toNat_natCast, Int.natCast_nonneg, Int.le_refl, m1, m2, go_sem, awp_seq, Nat.reduceBNe, Nat.reduceBEq, Nat.reduceAdd, Nat.reduceSub, Nat.reduceMul, Nat.reduceLeDiff, Nat.reduceLT, Nat.reduceEqDiff, Nat.reduceBneDiff]
  refine loop_mk (α := {x : List Nat × Nat // x.1.length ≤ a.length ∧ Dig x.1 ∧ x.2 ≤ 1 ∧ val x.1 + val (b.take x.1.length) = val (a.take x.1.length) + pw x.1.length * x.2}) (fun x => [(0, some (.av (.nat a))), (1, some (.av (.nat b))), (6, some (.osl 17 1 0 a.length)), (7, some (.av (u64 (x.1.2 : Nat)))), (8, some (.av (i64 (x.1.1.length : Nat))))]) (fun _ => []) (fun x => [(17, .limb 52 (x.1.1 ++ List.replicate (a.length - x.1.1.length) 0))]) (fun x => a.length - x.1.1.length) ⟨([], 0), by simp, dig_nil, by simp, by simp [val]⟩ ?_ ?_
  · simp -implicitDefEqProofs only [go_sem, awp_seq, Nat.reduceBNe, Nat.reduceBEq, Nat.reduceAdd, Nat.reduceSub, Nat.reduceMul, Nat.reduceLeDiff, Nat.reduceLT, Nat.reduceEqDiff, Nat.reduceBneDiff]
    exact ⟨rfl, rfl, rfl⟩
  · rintro ⟨⟨s, c⟩, hs, hds, hc, hv⟩
    dsimp only at hs hds hc hv
    by_cases hlt : s.length < a.length
    · have f1 : decide ((s.length : Int) < (a.length : Nat)) = true := by simp; omega
      simp -implicitDefEqProofs only [f1, go_sem, awp_seq, Nat.reduceBNe, Nat.reduceBEq, Nat.reduceAdd, Nat.reduceSub, Nat.reduceMul, Nat.reduceLeDiff, Nat.reduceLT, Nat.reduceEqDiff, Nat.reduceBneDiff]
      refine callA_tt (r1limb_c a ha s.length) ?_
      simp -implicitDefEqProofs only [go_sem, awp_seq, Nat.reduceBNe, Nat.reduceBEq, Nat.reduceAdd, Nat.reduceSub, Nat.reduceMul, Nat.reduceLeDiff, Nat.reduceLT, Nat.reduceEqDiff, Nat.reduceBneDiff]
      refine callA_tt (r1limb_c b hb s.length) ?_
      have dx := dig_getD ha s.length
      have dy := dig_getD hb s.length
      generalize hx : a.getD s.length 0 = x at *
      generalize hy : b.getD s.length 0 = y at *
      have n1 : IntKind.u64.wrap ((y : Int) + c) = ((y + c : Nat) : Int) := by rw [IntWalk.u64_in _ (by omega)]; omega
      have n3 : IntKind.i64.wrap ((s.length : Int) + 1) = ((s.length + 1 : Nat) : Int) := by rw [IntWalk.i64_in _ (by omega)]; omega
      by_cases hb2 : x < y + c
      · have d1 : decide ((x : Int) < ((y + c : Nat) : Int)) = true := by rw [decide_eq_true_eq]; omega
        have n2 : IntKind.u64.wrap ((x : Int) + 4294967296) = ((x + 4294967296 : Nat) : Int) := by rw [IntWalk.u64_in _ (by omega)]; omega
        have n4 : IntKind.u64.wrap (((x + 4294967296 : Nat) : Int) - ((y + c : Nat) : Int)) = ((x + 4294967296 - (y + c) : Nat) : Int) := by rw [IntWalk.u64_in _ (by omega)]; omega
        have n5 : IntKind.u32.wrap ((x + 4294967296 - (y + c) : Nat) : Int) = ((x + 4294967296 - (y + c) : Nat) : Int) := IntWalk.u32_in _ (by omega)
        have m3 : ((x + 4294967296 - (y + c) : Nat) : Int) < 4294967296 := by omega
        simp -implicitDefEqProofs only [n1, n2, n3, n4, n5, d1, Int.toNat_natCast, Int.natCast_nonneg, hlt, m3, fill_len s a.length hs, set_fill s a.length _ hlt, go_sem, awp_seq, Nat.reduceBNe, Nat.reduceBEq, Nat.reduceAdd, Nat.reduceSub, Nat.reduceMul, Nat.reduceLeDiff, Nat.reduceLT, Nat.reduceEqDiff, Nat.reduceBneDiff]
        refine roundK_mk ⟨(s ++ [x + 4294967296 - (y + c)], 1), ?_⟩ ?_ ?_
        · simp only [List.length_append, List.length_cons, List.length_nil, Nat.zero_add]
          exact ⟨by omega, dig_snoc hds (by omega), by omega, sub_next hx hy hv _ _ (by omega)⟩
        · simp -implicitDefEqProofs only [go_sem, awp_seq, Nat.reduceBNe, Nat.reduceBEq, Nat.reduceAdd, Nat.reduceSub, Nat.reduceMul, Nat.reduceLeDiff, Nat.reduceLT, Nat.reduceEqDiff, Nat.reduceBneDiff]
          exact rfl
        · simp; omega
      · have d1 : decide ((x : Int) < ((y + c : Nat) : Int)) = false := by rw [decide_eq_false_iff_not]; omega
        have n4 : IntKind.u64.wrap ((x : Int) - ((y + c : Nat) : Int)) = ((x - (y + c) : Nat) : Int) := by rw [IntWalk.u64_in _ (by omega)]; omega
        have n5 : IntKind.u32.wrap ((x - (y + c) : Nat) : Int) = ((x - (y + c) : Nat) : Int) := IntWalk.u32_in _ (by omega)
        have m3 : ((x - (y + c) : Nat) : Int) < 4294967296 := by omega
        simp -implicitDefEqProofs only [n1, n3, n4, n5, d1, Int.toNat_natCast, Int.natCast_nonneg, hlt, m3, fill_len s a.length hs, set_fill s a.length _ hlt, go_sem, awp_seq, Nat.reduceBNe, Nat.reduceBEq, Nat.reduceAdd, Nat.reduceSub, Nat.reduceMul, Nat.reduceLeDiff, Nat.reduceLT, Nat.reduceEqDiff, Nat.reduceBneDiff]
        refine roundK_mk ⟨(s ++ [x - (y + c)], 0), ?_⟩ ?_ ?_
        · simp only [List.length_append, List.length_cons, List.length_nil, Nat.zero_add]
          exact ⟨by omega, dig_snoc hds (by omega), by omega, sub_next hx hy hv _ _ (by omega)⟩
        · simp -implicitDefEqProofs only [go_sem, awp_seq, Nat.reduceBNe, Nat.reduceBEq, Nat.reduceAdd, Nat.reduceSub, Nat.reduceMul, Nat.reduceLeDiff, Nat.reduceLT, Nat.reduceEqDiff, Nat.reduceBneDiff]
          exact rfl
        · simp; omega
    · have f1 : decide ((a.length : Int) < (a.length : Nat)) = false := by simp
      have hl : s.length = a.length := by omega
      rw [hl, List.take_length] at hv
      have hend : val s = val a - val b := sub_end ha hb hds h hl hv
      have hfill : s ++ List.replicate (a.length - a.length) 0 = s := by rw [Nat.sub_self]; simp
      have htake : s.take a.length = s := by rw [← hl, List.take_length]
      simp -implicitDefEqProofs only [f1, hfill, htake, hl, Nat.le_refl, go_sem, awp_seq, Nat.reduceBNe, Nat.reduceBEq, Nat.reduceAdd, Nat.reduceSub, Nat.reduceMul, Nat.reduceLeDiff, Nat.reduceLT, Nat.reduceEqDiff, Nat.reduceBneDiff]
      refine callA_rowTT (r1norm_c s hds (by omega)) ?_ ?_ <;> simp -implicitDefEqProofs only [hend, hfill, htake, hl, go_sem, awp_seq, Nat.reduceBNe, Nat.reduceBEq, Nat.reduceAdd, Nat.reduceSub, Nat.reduceMul, Nat.reduceLeDiff, Nat.reduceLT, Nat.reduceEqDiff, Nat.reduceBneDiff]
/-! A row that is filled from its end. -/
def zrow (k : Nat) (s : List Nat) : List Nat := List.replicate k 0 ++ s
theorem zrow_nil (k : Nat) : List.replicate k 0 = zrow k [] := by simp [zrow]
theorem zrow_zero (s : List Nat) : zrow 0 s = s := by simp [zrow]
theorem zrow_len (k : Nat) (s : List Nat) : (zrow k s).length = k + s.length := by simp [zrow]
theorem zrow_set (s : List Nat) (k x : Nat) : (zrow (k + 1) s).set k x = zrow k (x :: s) := by
  unfold zrow
  rw [List.set_append_left _ _ (by simp), List.replicate_succ', List.set_append_right _ _ (by simp)]
  simp
theorem short_next {a s : List Nat} {d k r : Nat} (hk : k < a.length) (hd : 0 < d) (h : val (a.drop (k + 1)) = val s * d + r) :
    val (a.drop k) = val ((r * 4294967296 + a.getD k 0) / d :: s) * d + (r * 4294967296 + a.getD k 0) % d := by
  rw [val_drop_cons a k hk, h, val_cons]
  have e : a[k] = a.getD k 0 := by rw [List.getD_eq_getElem?_getD, List.getElem?_eq_getElem hk]; rfl
  rw [e]
  generalize a.getD k 0 = x
  have := Nat.div_add_mod (r * 4294967296 + x) d
  generalize (r * 4294967296 + x) / d = u at *
  generalize (r * 4294967296 + x) % d = v at *
  grind
set_option maxHeartbeats 2000000 in
theorem r1short_c (a : List Nat) (d : Nat) (ha : Dig a) (hla : a.length < 1000000000000) (hd0 : 0 < d) (hd : d < 4294967296) : AT 125 [.nat a, u64 (d : Nat)] (.tup [natN (val a / d), u64 (val a % d : Nat)]) := by
  have m1 : (a.length : Int) * ((4 : Nat) : Int) ≤ 140737488355328 := by omega
  have m2 : (a.length : Int) ≤ 9223372036854775807 := by omega
  have w0 : ∀ k : Nat, k ≤ a.length → IntKind.i64.wrap ((k : Int) - 1) = ((k : Int) - 1) := fun k hk => IntWalk.i64_in _ (by omega)
  refine ACalls.of ⟨10, []⟩ (fn := Tryz.f125) Tryz.func125 rfl rfl rfl (by kernel_rfl) (by kernel_rfl) (Nat.le_of_ble_eq_true rfl) ?_
  simp -implicitDefEqProofs only [w0 _ (Nat.le_refl _), Int.toNat_natCast, Int.natCast_nonneg, Int.le_refl, m1, m2, go_sem, awp_seq, Nat.reduceBNe, Nat.reduceBEq, Nat.reduceAdd, Nat.reduceSub, Nat.reduceMul, Nat.reduceLeDiff, Nat.reduceLT, Nat.reduceEqDiff, Nat.reduceBneDiff]
  refine loop_mk (α := {x : Nat × List Nat × Nat // x.1 + x.2.1.length = a.length ∧ Dig x.2.1 ∧ x.2.2 < d ∧ val (a.drop x.1) = val x.2.1 * d + x.2.2}) (fun x => [(0, some (.av (.nat a))), (1, some (.av (u64 (d : Nat)))), (6, some (.osl 12 1 0 a.length)), (7, some (.av (u64 (x.1.2.2 : Nat)))), (8, some (.av (i64 ((x.1.1 : Int) - 1))))]) (fun _ => []) (fun x => [(12, .limb 52 (zrow x.1.1 x.1.2.1))]) (fun x => x.1.1) ⟨(a.length, [], 0), by simp, dig_nil, hd0, by simp [val]⟩ ?_ ?_
  · simp -implicitDefEqProofs only [zrow_nil, go_sem, awp_seq, Nat.reduceBNe, Nat.reduceBEq, Nat.reduceAdd, Nat.reduceSub, Nat.reduceMul, Nat.reduceLeDiff, Nat.reduceLT, Nat.reduceEqDiff, Nat.reduceBneDiff]
    exact rfl
  · rintro ⟨⟨k, s, r⟩, hs, hds, hr, hv⟩
    dsimp only at hs hds hr hv
    cases k with
    | zero =>
      have f1 : decide ((0 : Int) ≤ ((0 : Nat) : Int) - 1) = false := by simp
      have hl : s.length = a.length := by omega
      have hq : val s = val a / d := by
        rw [List.drop_zero] at hv
        rw [hv, Nat.mul_comm, Nat.mul_add_div hd0, Nat.div_eq_of_lt hr]; omega
      have hm : r = val a % d := by
        rw [List.drop_zero] at hv
        rw [hv, Nat.mul_comm, Nat.mul_add_mod, Nat.mod_eq_of_lt hr]
      have htake : s.take a.length = s := by rw [← hl, List.take_length]
      simp -implicitDefEqProofs only [f1, htake, hl, zrow_zero, Nat.le_refl, go_sem, awp_seq, Nat.reduceBNe, Nat.reduceBEq, Nat.reduceAdd, Nat.reduceSub, Nat.reduceMul, Nat.reduceLeDiff, Nat.reduceLT, Nat.reduceEqDiff, Nat.reduceBneDiff]
      refine callA_rowTT (r1norm_c s hds (by omega)) ?_ ?_ <;> simp -implicitDefEqProofs only [hq, ← hm, htake, hl, zrow_zero, go_sem, awp_seq, Nat.reduceBNe, Nat.reduceBEq, Nat.reduceAdd, Nat.reduceSub, Nat.reduceMul, Nat.reduceLeDiff, Nat.reduceLT, Nat.reduceEqDiff, Nat.reduceBneDiff]
    | succ k =>
      have f1 : decide ((0 : Int) ≤ (k : Nat)) = true := by simp
      have e2 : ((k + 1 : Nat) : Int) - 1 = (k : Int) := by omega
      have hk : k < a.length := by omega
      have dx := dig_getD ha k
      have hnext := short_next hk hd0 hv
      have hget := getD_some hk
      generalize a.getD k 0 = x at *
      have n1 : IntKind.u64.wrap ((r : Int) * 4294967296) = ((r * 4294967296 : Nat) : Int) := by rw [IntWalk.u64_in _ (by omega)]; omega
      have n2 : IntKind.u64.wrap (x : Int) = (x : Int) := IntWalk.u64_in _ (by omega)
      have n3 : IntKind.u64.wrap (((r * 4294967296 : Nat) : Int) + (x : Int)) = ((r * 4294967296 + x : Nat) : Int) := by rw [IntWalk.u64_in _ (by omega)]; omega
      have hlt : r * 4294967296 + x < d * 4294967296 := by
        have : (r + 1) * 4294967296 ≤ d * 4294967296 := Nat.mul_le_mul_right _ hr
        omega
      have hX : r * 4294967296 + x < 18446744073709551616 := by omega
      generalize hX2 : r * 4294967296 + x = X at *
      have hq : X / d < 4294967296 := Nat.div_lt_of_lt_mul hlt
      have hmod : X % d < d := Nat.mod_lt _ hd0
      have n4 : IntKind.u64.wrap ((X : Int).tdiv (d : Int)) = ((X / d : Nat) : Int) := by rw [IntWalk.u64_quo _ _ ⟨by omega, by omega, by omega⟩]; simp
      have n5 : (X : Int).tmod (d : Int) = ((X % d : Nat) : Int) := by rw [Int.tmod_eq_emod_of_nonneg (by omega)]; simp
      generalize X / d = q at *
      generalize X % d = u at *
      have n6 : IntKind.u32.wrap (q : Int) = (q : Int) := IntWalk.u32_in _ ⟨by omega, by omega⟩
      have hd1 : ¬ ((d : Int) = 0) := by omega
      have m3 : (q : Int) < 4294967296 := by omega
      have m4 : k < k + 1 + s.length := by omega
      simp -implicitDefEqProofs only [decide_true, e2, n1, n2, n3, n4, n5, n6, hd1, two32, le32, w0 k (by omega), Int.toNat_natCast, Int.natCast_nonneg, hget, m3, hk, zrow_len, zrow_set, m4, go_sem, awp_seq, Nat.reduceBNe, Nat.reduceBEq, Nat.reduceAdd, Nat.reduceSub, Nat.reduceMul, Nat.reduceLeDiff, Nat.reduceLT, Nat.reduceEqDiff, Nat.reduceBneDiff]
      refine roundK_mk ⟨(k, q :: s, u), ?_⟩ ?_ (by show k < k + 1; omega)
      · exact ⟨by simp; omega, dig_cons.2 ⟨hq, hds⟩, hmod, hnext⟩
      · simp -implicitDefEqProofs only [go_sem, awp_seq, Nat.reduceBNe, Nat.reduceBEq, Nat.reduceAdd, Nat.reduceSub, Nat.reduceMul, Nat.reduceLeDiff, Nat.reduceLT, Nat.reduceEqDiff, Nat.reduceBneDiff]
end Go.Proofs.YtfchbehmeppckaaGreat

/- The document's natural numbers, continued: half, Bits, Mul, Shift. -/
set_option linter.unusedSimpArgs false
set_option linter.unusedVariables false
namespace Go.Proofs.YtfchbehmeppckaaGreat
open Go.RowKit Lim

theorem half_next {a s : List Nat} {x y u : Nat} (hx : a.getD s.length 0 = x) (hu : 2 * u + x % 2 = x + 4294967296 * (y % 2)) (h : 2 * val s + a.getD 0 0 % 2 = val (a.take s.length) + pw s.length * (x % 2)) :
    2 * val (s ++ [u]) + a.getD 0 0 % 2 = val (a.take (s.length + 1)) + pw (s.length + 1) * (y % 2) := by
  rw [take_getD, hx, val_snoc, pw_succ]
  have e : pw s.length * (2 * u) + pw s.length * (x % 2) = pw s.length * x + 4294967296 * pw s.length * (y % 2) := by
    rw [← Nat.mul_add, hu, Nat.mul_add]; grind
  have e2 : 2 * (pw s.length * u) = pw s.length * (2 * u) := by grind
  omega
theorem two1 : (2 : Int) ^ min (Int.toNat 1) 64 = 2 := rfl
theorem le1 : (0 : Int) ≤ 1 := by omega
theorem fdiv2 (n : Nat) : (n : Int).fdiv 2 = ((n / 2 : Nat) : Int) := by
  rw [Int.fdiv_eq_ediv_of_nonneg _ (by omega)]; omega
set_option maxHeartbeats 2000000 in
theorem r1half_c (a : List Nat) (ha : Dig a) (hla : a.length < 1000000000000) : AT 127 [.nat a] (natN (val a / 2)) := by
  have m1 : (a.length : Int) * ((4 : Nat) : Int) ≤ 140737488355328 := by omega
  have m2 : (a.length : Int) ≤ 9223372036854775807 := by omega
  refine ACalls.of ⟨5, []⟩ (fn := Tryz.f127) Tryz.func127 rfl rfl rfl (by kernel_rfl) (by kernel_rfl) (Nat.le_of_ble_eq_true rfl) ?_
  simp -implicitDefEqProofs only [Int.toNat_natCast, Int.natCast_nonneg, Int.le_refl, m1, m2, go_sem, awp_seq, Nat.reduceBNe, Nat.reduceBEq, Nat.reduceAdd, Nat.reduceSub, Nat.reduceMul, Nat.reduceLeDiff, Nat.reduceLT, Nat.reduceEqDiff, Nat.reduceBneDiff]
  refine loop_mk (α := {s : List Nat // s.length ≤ a.length ∧ Dig s ∧ 2 * val s + a.getD 0 0 % 2 = val (a.take s.length) + pw s.length * (a.getD s.length 0 % 2)}) (fun x => [(0, some (.av (.nat a))), (3, some (.osl 7 1 0 a.length)), (4, some (.av (i64 (x.1.length : Nat))))]) (fun _ => []) (fun x => [(7, .limb 52 (x.1 ++ List.replicate (a.length - x.1.length) 0))]) (fun x => a.length - x.1.length) ⟨[], by simp, dig_nil, by simp [val, pw_zero]⟩ ?_ ?_
  · simp -implicitDefEqProofs only [go_sem, awp_seq, Nat.reduceBNe, Nat.reduceBEq, Nat.reduceAdd, Nat.reduceSub, Nat.reduceMul, Nat.reduceLeDiff, Nat.reduceLT, Nat.reduceEqDiff, Nat.reduceBneDiff]
    exact ⟨rfl, rfl⟩
  · rintro ⟨s, hs, hds, hv⟩
    by_cases hlt : s.length < a.length
    · have f1 : decide ((s.length : Int) < (a.length : Nat)) = true := by simp; omega
      have n3 : IntKind.i64.wrap ((s.length : Int) + 1) = ((s.length + 1 : Nat) : Int) := by rw [IntWalk.i64_in _ (by omega)]; omega
      simp -implicitDefEqProofs only [f1, n3, go_sem, awp_seq, Nat.reduceBNe, Nat.reduceBEq, Nat.reduceAdd, Nat.reduceSub, Nat.reduceMul, Nat.reduceLeDiff, Nat.reduceLT, Nat.reduceEqDiff, Nat.reduceBneDiff]
      refine callA_tt (r1limb_c a ha (s.length + 1)) ?_
      have dx := dig_getD ha s.length
      have dy := dig_getD ha (s.length + 1)
      have hget := getD_some hlt
      obtain ⟨x, hx⟩ : ∃ x, a.getD s.length 0 = x := ⟨_, rfl⟩
      obtain ⟨y, hy⟩ : ∃ y, a.getD (s.length + 1) 0 = y := ⟨_, rfl⟩
      rw [hx] at dx hget
      rw [hy] at dy
      have n1 : IntKind.u64.wrap ((y : Int) * 4294967296) = ((y * 4294967296 : Nat) : Int) := by rw [IntWalk.u64_in _ (by omega)]; omega
      have n2 : IntKind.u64.wrap (x : Int) = (x : Int) := IntWalk.u64_in _ (by omega)
      have n4 : IntKind.u64.wrap (((y * 4294967296 : Nat) : Int) + x) = ((y * 4294967296 + x : Nat) : Int) := by rw [IntWalk.u64_in _ (by omega)]; omega
      have m3 : (((y * 4294967296 + x) / 2 % 4294967296 : Nat) : Int) < 4294967296 := by omega
      simp -implicitDefEqProofs only [hy, n1, n2, n3, n4, two32, two1, le1, le32, fdiv2, w32, Int.toNat_natCast, Int.natCast_nonneg, hget, hlt, m3, fill_len s a.length hs, set_fill s a.length _ hlt, go_sem, awp_seq, Nat.reduceBNe, Nat.reduceBEq, Nat.reduceAdd, Nat.reduceSub, Nat.reduceMul, Nat.reduceLeDiff, Nat.reduceLT, Nat.reduceEqDiff, Nat.reduceBneDiff]
      refine roundK_mk ⟨s ++ [(y * 4294967296 + x) / 2 % 4294967296], ?_⟩ ?_ ?_
      · simp only [List.length_append, List.length_cons, List.length_nil, Nat.zero_add]
        refine ⟨by omega, dig_snoc hds (by omega), ?_⟩
        rw [hy]
        rw [hx] at hv
        exact half_next hx (by omega) hv
      · simp -implicitDefEqProofs only [go_sem, awp_seq, Nat.reduceBNe, Nat.reduceBEq, Nat.reduceAdd, Nat.reduceSub, Nat.reduceMul, Nat.reduceLeDiff, Nat.reduceLT, Nat.reduceEqDiff, Nat.reduceBneDiff]
      · simp; omega
    · have f1 : decide ((a.length : Int) < (a.length : Nat)) = false := by simp
      have hl : s.length = a.length := by omega
      rw [hl, List.take_length, show a.getD a.length 0 = 0 by simp] at hv
      have hend : val s = val a / 2 := by omega
      have hfill : s ++ List.replicate (a.length - a.length) 0 = s := by rw [Nat.sub_self]; simp
      have htake : s.take a.length = s := by rw [← hl, List.take_length]
      simp -implicitDefEqProofs only [f1, hfill, htake, hl, Nat.le_refl, go_sem, awp_seq, Nat.reduceBNe, Nat.reduceBEq, Nat.reduceAdd, Nat.reduceSub, Nat.reduceMul, Nat.reduceLeDiff, Nat.reduceLT, Nat.reduceEqDiff, Nat.reduceBneDiff]
      refine callA_rowTT (r1norm_c s hds (by omega)) ?_ ?_ <;> simp -implicitDefEqProofs only [hend, hfill, htake, hl, go_sem, awp_seq, Nat.reduceBNe, Nat.reduceBEq, Nat.reduceAdd, Nat.reduceSub, Nat.reduceMul, Nat.reduceLeDiff, Nat.reduceLT, Nat.reduceEqDiff, Nat.reduceBneDiff]
/-- How many binary digits a number has. -/
def bitsN (n : Nat) : Nat := if h : n = 0 then 0 else bitsN (n / 2) + 1 termination_by n decreasing_by omega
theorem bitsN_zero : bitsN 0 = 0 := by unfold bitsN; simp
theorem bitsN_pos {n : Nat} (h : 0 < n) : bitsN n = bitsN (n / 2) + 1 := by rw [bitsN, dif_neg (by omega)]
theorem bitsN_shift (j : Nat) : ∀ (m r : Nat), 0 < m → r < 2 ^ j → bitsN (r + 2 ^ j * m) = j + bitsN m := by
  induction j with
  | zero => intro m r hm hr; simp at hr; subst hr; simp
  | succ j ih =>
    intro m r hm hr
    rw [Nat.pow_succ] at hr ⊢
    have hp : 0 < 2 ^ j := Nat.two_pow_pos j
    have h1 : 0 < 2 ^ j * 2 * m := Nat.mul_pos (Nat.mul_pos hp (by omega)) hm
    rw [bitsN_pos (by omega)]
    have h2 : (r + 2 ^ j * 2 * m) / 2 = r / 2 + 2 ^ j * m := by
      rw [show 2 ^ j * 2 * m = 2 * (2 ^ j * m) by grind]; omega
    rw [h2, ih m (r / 2) hm (by omega)]
    omega
theorem bitsN_lt (n : Nat) : n < 2 ^ bitsN n := by
  induction n using Nat.strongRecOn with
  | _ n ih =>
    by_cases h : n = 0
    · subst h; simp [bitsN_zero]
    · rw [bitsN_pos (by omega), Nat.pow_succ]
      have := ih (n / 2) (by omega)
      omega
theorem bitsN_le {n : Nat} (h : 0 < n) : 2 ^ (bitsN n - 1) ≤ n := by
  induction n using Nat.strongRecOn with
  | _ n ih =>
    rw [bitsN_pos h]
    by_cases h1 : n / 2 = 0
    · rw [h1, bitsN_zero]; simp; omega
    · have := ih (n / 2) (by omega) (by omega)
      have h2 := bitsN_pos (show 0 < n / 2 by omega)
      rw [show bitsN (n / 2) + 1 - 1 = (bitsN (n / 2) - 1) + 1 by omega, Nat.pow_succ]
      omega
theorem pw_two (k : Nat) : pw k = 2 ^ (32 * k) := by unfold pw; rw [show 4294967296 = 2 ^ 32 from rfl, ← Nat.pow_mul]
theorem limbs_last {n : Nat} (h : 0 < n) : ∃ lo top, n = lo + pw ((limbs n).length - 1) * top ∧ lo < pw ((limbs n).length - 1) ∧ (limbs n)[(limbs n).length - 1]? = some top ∧ 0 < top ∧ top < 4294967296 := by
  have hl : 0 < (limbs n).length := by
    cases he : limbs n with
    | nil => have := limbs_eq_nil.1 he; omega
    | cons => simp
  have hlt : (limbs n).length - 1 < (limbs n).length := by omega
  refine ⟨val ((limbs n).take ((limbs n).length - 1)), (limbs n)[(limbs n).length - 1], ?_, ?_, List.getElem?_eq_getElem hlt, ?_, dig_get (dig_limbs n) hlt⟩
  · have h1 := val_take_succ (limbs n) _ hlt
    rw [show (limbs n).length - 1 + 1 = (limbs n).length by omega, List.take_length, val_limbs] at h1
    exact h1
  · exact take_lt (dig_limbs n) _
  · have := nrm_limbs n hl; omega
theorem bitsN_small {n j : Nat} (h : n < 2 ^ j) : bitsN n ≤ j := by
  by_cases h0 : n = 0
  · subst h0; rw [bitsN_zero]; omega
  · have h1 := bitsN_le (show 0 < n by omega)
    have h2 := Nat.lt_of_le_of_lt h1 h
    have h3 := (Nat.pow_lt_pow_iff_right (by omega : 1 < 2)).1 h2
    omega
theorem bitsN_top {n : Nat} (h : 0 < n) {top : Nat} (ht : (limbs n)[(limbs n).length - 1]? = some top) : bitsN n = 32 * ((limbs n).length - 1) + bitsN top := by
  obtain ⟨lo, t, h1, h2, h3, h4, _⟩ := limbs_last h
  rw [ht] at h3
  cases h3
  rw [pw_two] at h1 h2
  conv => lhs; rw [h1]
  exact bitsN_shift _ _ _ h4 h2
set_option maxHeartbeats 2000000 in
theorem r1bits_c (a : List Nat) (ha : Dig a) (hla : a.length < 1000000000000) : AT 75 [.nat a] (i64 (bitsN (val a) : Nat)) := by
  have hnl := nlen_val ha
  refine ACalls.of ⟨5, []⟩ (fn := Tryz.f75) Tryz.func75 rfl rfl rfl (by kernel_rfl) (by kernel_rfl) (Nat.le_of_ble_eq_true rfl) ?_
  simp -implicitDefEqProofs only [go_sem, awp_seq, Nat.reduceBNe, Nat.reduceBEq, Nat.reduceAdd, Nat.reduceSub, Nat.reduceMul, Nat.reduceLeDiff, Nat.reduceLT, Nat.reduceEqDiff, Nat.reduceBneDiff]
  refine callA_tt (r1norm_c a ha (by omega)) ?_
  generalize val a = n at *
  by_cases h0 : n = 0
  · subst h0
    have f1 : (((limbs 0).length : Int) == 0) = true := by rw [limbs_zero]; rfl
    simp -implicitDefEqProofs only [f1, bitsN_zero, go_sem, awp_seq, Nat.reduceBNe, Nat.reduceBEq, Nat.reduceAdd, Nat.reduceSub, Nat.reduceMul, Nat.reduceLeDiff, Nat.reduceLT, Nat.reduceEqDiff, Nat.reduceBneDiff]
    rfl
  · obtain ⟨lo, top, _, _, h3, h4, h5⟩ := limbs_last (show 0 < n by omega)
    have hb := bitsN_top (by omega) h3
    have hl : 0 < (limbs n).length := by
      cases he : limbs n with
      | nil => have := limbs_eq_nil.1 he; omega
      | cons => simp
    have hl2 : (limbs n).length = nlen n := rfl
    generalize hL : limbs n = L at *
    have f1 : ((L.length : Int) == 0) = false := by rw [beq_eq_false_iff_ne]; omega
    have n1 : IntKind.i64.wrap ((L.length : Int) - 1) = ((L.length - 1 : Nat) : Int) := by rw [IntWalk.i64_in _ (by omega)]; omega
    have n2 : IntKind.i64.wrap (32 * ((L.length - 1 : Nat) : Int)) = ((32 * (L.length - 1) : Nat) : Int) := by rw [IntWalk.i64_in _ (by omega)]; omega
    have hB : bitsN n < 33000000000000 := by have := bitsN_small (j := 32) h5; omega
    simp -implicitDefEqProofs only [natN, hL, f1, n1, n2, h3, Int.toNat_natCast, Int.natCast_nonneg, go_sem, awp_seq, Nat.reduceBNe, Nat.reduceBEq, Nat.reduceAdd, Nat.reduceSub, Nat.reduceMul, Nat.reduceLeDiff, Nat.reduceLT, Nat.reduceEqDiff, Nat.reduceBneDiff]
    refine loop_mk (α := {x : Nat × Nat // x.1 < 4294967296 ∧ x.2 + bitsN x.1 = bitsN n}) (fun x => [(3, some (.av (i64 (x.1.2 : Nat)))), (4, some (.av (.lit (.int .u32 (x.1.1 : Nat)))))]) (fun _ => []) (fun _ => []) (fun x => x.1.1) ⟨(top, 32 * (L.length - 1)), h5, hb.symm⟩ ?_ ?_
    · simp -implicitDefEqProofs only [go_sem, awp_seq, Nat.reduceBNe, Nat.reduceBEq, Nat.reduceAdd, Nat.reduceSub, Nat.reduceMul, Nat.reduceLeDiff, Nat.reduceLT, Nat.reduceEqDiff, Nat.reduceBneDiff]
    · rintro ⟨⟨x, k⟩, hx, hk⟩
      dsimp only at hx hk
      by_cases hx0 : x = 0
      · subst hx0
        have g1 : decide ((0 : Int) < ((0 : Nat) : Int)) = false := by simp
        rw [bitsN_zero, Nat.add_zero] at hk
        simp -implicitDefEqProofs only [g1, hk, go_sem, awp_seq, Nat.reduceBNe, Nat.reduceBEq, Nat.reduceAdd, Nat.reduceSub, Nat.reduceMul, Nat.reduceLeDiff, Nat.reduceLT, Nat.reduceEqDiff, Nat.reduceBneDiff]
      · have g1 : decide ((0 : Int) < (x : Nat)) = true := by simp; omega
        have hbp := bitsN_pos (show 0 < x by omega)
        have p1 : IntKind.i64.wrap ((k : Int) + 1) = ((k + 1 : Nat) : Int) := by rw [IntWalk.i64_in _ (by omega)]; omega
        have p2 : IntKind.u32.wrap ((x : Int).tdiv 2) = ((x / 2 : Nat) : Int) := by rw [IntWalk.u32_quo _ _ (by omega)]; omega
        have p3 : ¬ ((2 : Int) = 0) := by omega
        simp -implicitDefEqProofs only [g1, p1, p2, p3, go_sem, awp_seq, Nat.reduceBNe, Nat.reduceBEq, Nat.reduceAdd, Nat.reduceSub, Nat.reduceMul, Nat.reduceLeDiff, Nat.reduceLT, Nat.reduceEqDiff, Nat.reduceBneDiff]
        refine roundK_mk ⟨(x / 2, k + 1), by show x / 2 < _; omega, ?_⟩ ?_ (by show x / 2 < x; omega)
        · show k + 1 + bitsN (x / 2) = _
          rw [← hk, bitsN_pos (show 0 < x by omega)]
          omega
        · simp -implicitDefEqProofs only [go_sem, awp_seq, Nat.reduceBNe, Nat.reduceBEq, Nat.reduceAdd, Nat.reduceSub, Nat.reduceMul, Nat.reduceLeDiff, Nat.reduceLT, Nat.reduceEqDiff, Nat.reduceBneDiff]
end Go.Proofs.YtfchbehmeppckaaGreat

/- The document's natural numbers, continued: Mul, Pow. -/
set_option linter.unusedSimpArgs false
set_option linter.unusedVariables false
namespace Go.Proofs.YtfchbehmeppckaaGreat
open Go.RowKit Lim

theorem mul_in {b p : List Nat} {i k c A V z y u v : Nat} (hk : i + k < p.length) (hz : p.getD (i + k) 0 = z) (hy : b.getD k 0 = y) (ht : z + A * y + c = u + 4294967296 * v)
    (h : val p + pw (i + k) * c = V + pw i * (A * val (b.take k))) : val (p.set (i + k) u) + pw (i + (k + 1)) * v = V + pw i * (A * val (b.take (k + 1))) := by
  have h1 := val_set p (i + k) u hk
  rw [show p[i + k] = z by rw [← hz, List.getD_eq_getElem?_getD, List.getElem?_eq_getElem hk]; rfl] at h1
  rw [take_getD, hy, ← Nat.add_assoc, pw_succ]
  rw [pw_add] at h h1 ⊢
  generalize val (p.set (i + k) u) = S at *
  generalize val p = T at *
  generalize val (b.take k) = W at *
  generalize pw i = P at *
  generalize pw k = Q at *
  have e3 : P * Q * (z + A * y + c) = P * Q * (u + 4294967296 * v) := by rw [ht]
  grind
theorem row_get {p : List Nat} {j N : Nat} (h : j < p.length) : (p ++ List.replicate N 0)[j]? = some (p.getD j 0) := by
  rw [List.getElem?_append_left h]; exact getD_some h
theorem row_set {p : List Nat} {j N x : Nat} (h : j < p.length) : (p ++ List.replicate (N - p.length) 0).set j x = p.set j x ++ List.replicate (N - (p.set j x).length) 0 := by
  rw [List.set_append_left _ _ h, List.length_set]
def frow (N : Nat) (p : List Nat) : List Nat := p ++ List.replicate (N - p.length) 0
theorem frow_len {N : Nat} {p : List Nat} (h : p.length ≤ N) : (frow N p).length = N := by simp [frow]; omega
theorem frow_get {N : Nat} {p : List Nat} {j : Nat} (h : j < p.length) : (frow N p)[j]? = some (p.getD j 0) := row_get h
theorem frow_set {N : Nat} {p : List Nat} {j x : Nat} (h : j < p.length) : (frow N p).set j x = frow N (p.set j x) := row_set h
theorem frow_put {N : Nat} {p : List Nat} {x j : Nat} (hj : j = p.length) (h : p.length < N) : (frow N p).set j x = frow N (p ++ [x]) := by
  subst hj; unfold frow; rw [set_fill p N x h]; simp
theorem frow_full {N : Nat} {p : List Nat} (h : p.length = N) : frow N p = p := by simp [frow, h]
theorem frow_start {N k : Nat} (h : k ≤ N) : List.replicate N 0 = frow N (List.replicate k 0) := by
  unfold frow; rw [List.replicate_append_replicate, List.length_replicate]; congr 1; omega
theorem prod_lt {x y z c : Nat} (hx : x < 4294967296) (hy : y < 4294967296) (hz : z < 4294967296) (hc : c < 4294967296) : z + x * y + c < 18446744073709551616 ∧ x * y < 18446744073709551616 ∧ z + x * y < 18446744073709551616 := by
  have : x * y ≤ 4294967295 * 4294967295 := Nat.mul_le_mul (by omega) (by omega)
  omega
set_option maxHeartbeats 4000000 in
theorem r1mul_c (a b : List Nat) (ha : Dig a) (hb : Dig b) (hlab : a.length + b.length < 1000000000000) : AT 88 [.nat a, .nat b] (natN (val a * val b)) := by
  have w0 : IntKind.i64.wrap ((a.length : Int) + (b.length : Int)) = ((a.length + b.length : Nat) : Int) := by rw [IntWalk.i64_in _ (by omega)]; omega
  generalize hN : a.length + b.length = N at *
  have m1 : (N : Int) * ((4 : Nat) : Int) ≤ 140737488355328 := by omega
  have m2 : (N : Int) ≤ 9223372036854775807 := by omega
  refine ACalls.of ⟨10, []⟩ (fn := Tryz.f88) Tryz.func88 rfl rfl rfl (by kernel_rfl) (by kernel_rfl) (Nat.le_of_ble_eq_true rfl) ?_
  simp -implicitDefEqProofs only [w0, Int.toNat_natCast, Int.natCast_nonneg, Int.le_refl, m1, m2, go_sem, awp_seq, Nat.reduceBNe, Nat.reduceBEq, Nat.reduceAdd, Nat.reduceSub, Nat.reduceMul, Nat.reduceLeDiff, Nat.reduceLT, Nat.reduceEqDiff, Nat.reduceBneDiff]
  refine loop_mk (α := {x : Nat × List Nat // x.1 ≤ a.length ∧ x.2.length = x.1 + b.length ∧ Dig x.2 ∧ val x.2 = val (a.take x.1) * val b}) (fun x => [(0, some (.av (.nat a))), (1, some (.av (.nat b))), (5, some (.osl 15 1 0 N)), (6, some (.av (i64 (x.1.1 : Nat))))]) (fun _ => []) (fun x => [(15, .limb 52 (frow N x.1.2))]) (fun x => a.length - x.1.1) ⟨(0, List.replicate b.length 0), by simp, by simp, dig_replicate _, by simp [val, val_replicate]⟩ ?_ ?_
  · simp -implicitDefEqProofs only [frow_start (show b.length ≤ N by omega), go_sem, awp_seq, Nat.reduceBNe, Nat.reduceBEq, Nat.reduceAdd, Nat.reduceSub, Nat.reduceMul, Nat.reduceLeDiff, Nat.reduceLT, Nat.reduceEqDiff, Nat.reduceBneDiff]
    exact rfl
  · rintro ⟨⟨i, p⟩, hi, hp, hdp, hv⟩
    dsimp only at hi hp hdp hv
    have p1 : IntKind.i64.wrap ((i : Int) + 1) = ((i + 1 : Nat) : Int) := by rw [IntWalk.i64_in _ (by omega)]; omega
    by_cases hlt : i < a.length
    · have f1 : decide ((i : Int) < (a.length : Nat)) = true := by simp; omega
      have dA := dig_getD ha i
      have hA := getD_some hlt
      have hTA := take_getD a i
      generalize a.getD i 0 = A at *
      have nA : IntKind.u64.wrap (A : Int) = (A : Int) := IntWalk.u64_in _ (by omega)
      simp -implicitDefEqProofs only [f1, go_sem, awp_seq, Nat.reduceBNe, Nat.reduceBEq, Nat.reduceAdd, Nat.reduceSub, Nat.reduceMul, Nat.reduceLeDiff, Nat.reduceLT, Nat.reduceEqDiff, Nat.reduceBneDiff]
      refine loop_mk (α := {x : Nat × List Nat × Nat // x.1 ≤ b.length ∧ x.2.1.length = i + b.length ∧ Dig x.2.1 ∧ x.2.2 < 4294967296 ∧ val x.2.1 + pw (i + x.1) * x.2.2 = val (a.take i) * val b + pw i * (A * val (b.take x.1))}) (fun x => [(0, some (.av (.nat a))), (1, some (.av (.nat b))), (5, some (.osl 15 1 0 N)), (6, some (.av (i64 (i : Nat)))), (7, some (.av (u64 (x.1.2.2 : Nat)))), (8, some (.av (i64 (x.1.1 : Nat))))]) (fun _ => []) (fun x => [(15, .limb 52 (frow N x.1.2.1))]) (fun x => b.length - x.1.1) ⟨(0, p, 0), by simp, hp, hdp, by simp, by simp [val, hv]⟩ ?_ ?_
      · simp -implicitDefEqProofs only [go_sem, awp_seq, Nat.reduceBNe, Nat.reduceBEq, Nat.reduceAdd, Nat.reduceSub, Nat.reduceMul, Nat.reduceLeDiff, Nat.reduceLT, Nat.reduceEqDiff, Nat.reduceBneDiff]
        exact ⟨rfl, rfl⟩
      · rintro ⟨⟨k, r, c⟩, hk, hr, hdr, hc, hw⟩
        dsimp only at hk hr hdr hc hw
        by_cases hklt : k < b.length
        · have g1 : decide ((k : Int) < (b.length : Nat)) = true := by simp; omega
          have q1 : IntKind.i64.wrap ((k : Int) + 1) = ((k + 1 : Nat) : Int) := by rw [IntWalk.i64_in _ (by omega)]; omega
          have q2 : IntKind.i64.wrap ((i : Int) + (k : Int)) = ((i + k : Nat) : Int) := by rw [IntWalk.i64_in _ (by omega)]; omega
          obtain ⟨y, hy⟩ : ∃ y, b.getD k 0 = y := ⟨_, rfl⟩
          obtain ⟨z, hz⟩ : ∃ z, r.getD (i + k) 0 = z := ⟨_, rfl⟩
          have dy := dig_getD hb k
          have dz := dig_getD hdr (i + k)
          have hgy := getD_some hklt
          have hgz := frow_get (N := N) (show i + k < r.length by omega)
          rw [hy] at dy hgy
          rw [hz] at dz hgz
          have hb3 := prod_lt dA dy dz hc
          have ny : IntKind.u64.wrap (y : Int) = (y : Int) := IntWalk.u64_in _ (by omega)
          have nz : IntKind.u64.wrap (z : Int) = (z : Int) := IntWalk.u64_in _ (by omega)
          have hin := fun u v ht => mul_in (A := A) (u := u) (v := v) (show i + k < r.length by omega) hz hy ht hw
          have n1 : IntKind.u64.wrap ((A : Int) * (y : Int)) = ((A * y : Nat) : Int) := by rw [← Int.natCast_mul, w64 hb3.2.1]
          have n2 : IntKind.u64.wrap ((z : Int) + ((A * y : Nat) : Int)) = ((z + A * y : Nat) : Int) := by rw [← Int.natCast_add, w64 hb3.2.2]
          have n3 : IntKind.u64.wrap (((z + A * y : Nat) : Int) + (c : Int)) = ((z + A * y + c : Nat) : Int) := by rw [← Int.natCast_add, w64 hb3.1]
          obtain ⟨t, ht⟩ : ∃ t, z + A * y + c = t := ⟨_, rfl⟩
          rw [ht] at n3 hb3 hin
          have m3 : ((t % 4294967296 : Nat) : Int) < 4294967296 := by omega
          have m4 : i + k < N := by omega
          simp -implicitDefEqProofs only [g1, q1, q2, nA, ny, nz, n1, n2, n3, hA, hgy, hgz, two32, shr32, w32, le32, Int.toNat_natCast, Int.natCast_nonneg, m3, m4, frow_len (show r.length ≤ N by omega), frow_set (show i + k < r.length by omega), go_sem, awp_seq, Nat.reduceBNe, Nat.reduceBEq, Nat.reduceAdd, Nat.reduceSub, Nat.reduceMul, Nat.reduceLeDiff, Nat.reduceLT, Nat.reduceEqDiff, Nat.reduceBneDiff]
          refine roundK_mk ⟨(k + 1, r.set (i + k) (t % 4294967296), t / 4294967296), ?_⟩ ?_ (by show b.length - (k + 1) < b.length - k; omega)
          · have h1 : t / 4294967296 < 4294967296 := by omega
            exact ⟨hklt, by simp [hr], dig_set hdr _ (by omega), h1, hin (t % 4294967296) (t / 4294967296) (by omega)⟩
          · simp -implicitDefEqProofs only [go_sem, awp_seq, Nat.reduceBNe, Nat.reduceBEq, Nat.reduceAdd, Nat.reduceSub, Nat.reduceMul, Nat.reduceLeDiff, Nat.reduceLT, Nat.reduceEqDiff, Nat.reduceBneDiff]
        · have g1 : decide ((b.length : Int) < (b.length : Nat)) = false := by simp
          obtain rfl : k = b.length := by omega
          have q2 : IntKind.i64.wrap ((i : Int) + (b.length : Int)) = ((i + b.length : Nat) : Int) := by rw [IntWalk.i64_in _ (by omega)]; omega
          have n5 : c % 4294967296 = c := Nat.mod_eq_of_lt hc
          have m3 : (c : Int) < 4294967296 := by omega
          have m4 : i + b.length < N := by omega
          simp -implicitDefEqProofs only [g1, q2, w32, n5, p1, Int.toNat_natCast, Int.natCast_nonneg, m3, m4, frow_len (show r.length ≤ N by omega), frow_put hr.symm (show r.length < N by omega), go_sem, awp_seq, Nat.reduceBNe, Nat.reduceBEq, Nat.reduceAdd, Nat.reduceSub, Nat.reduceMul, Nat.reduceLeDiff, Nat.reduceLT, Nat.reduceEqDiff, Nat.reduceBneDiff]
          refine roundK_mk ⟨(i + 1, r ++ [c]), ?_⟩ ?_ (by show a.length - (i + 1) < a.length - i; omega)
          · refine ⟨hlt, by simp [hr]; omega, dig_snoc hdr hc, ?_⟩
            show val (r ++ [c]) = val (a.take (i + 1)) * val b
            rw [val_snoc, hr, hw, List.take_length, hTA]
            grind
          · simp -implicitDefEqProofs only [go_sem, awp_seq, Nat.reduceBNe, Nat.reduceBEq, Nat.reduceAdd, Nat.reduceSub, Nat.reduceMul, Nat.reduceLeDiff, Nat.reduceLT, Nat.reduceEqDiff, Nat.reduceBneDiff]
    · have f1 : decide ((a.length : Int) < (a.length : Nat)) = false := by simp
      obtain rfl : i = a.length := by omega
      rw [List.take_length] at hv
      have hl : p.length = N := by omega
      have htake : p.take N = p := by rw [← hl, List.take_length]
      simp -implicitDefEqProofs only [f1, frow_full hl, htake, hl, Nat.le_refl, go_sem, awp_seq, Nat.reduceBNe, Nat.reduceBEq, Nat.reduceAdd, Nat.reduceSub, Nat.reduceMul, Nat.reduceLeDiff, Nat.reduceLT, Nat.reduceEqDiff, Nat.reduceBneDiff]
      refine callA_rowTT (r1norm_c p hdp (by omega)) ?_ ?_ <;> simp -implicitDefEqProofs only [hv, frow_full hl, htake, hl, go_sem, awp_seq, Nat.reduceBNe, Nat.reduceBEq, Nat.reduceAdd, Nat.reduceSub, Nat.reduceMul, Nat.reduceLeDiff, Nat.reduceLT, Nat.reduceEqDiff, Nat.reduceBneDiff]
end Go.Proofs.YtfchbehmeppckaaGreat

/- The document's natural numbers, continued: Shift, DivMod, Gcd. -/
set_option linter.unusedSimpArgs false
set_option linter.unusedVariables false
namespace Go.Proofs.YtfchbehmeppckaaGreat
open Go.RowKit Lim

theorem or_nat {z m sh : Nat} (hz : z < 2 ^ sh) : z ||| 2 ^ sh * m = z + 2 ^ sh * m := by
  rw [Nat.or_comm, ← Nat.two_pow_add_eq_or_of_lt hz, Nat.add_comm]
theorem binK_or32 {b : Bool} {z y : Nat} {K : Value → Prop} : binK b .or (.int .u32 (z : Int)) (.int .u32 (y : Int)) K = K (.int .u32 (((z % 4294967296 ||| y % 4294967296) % 4294967296 : Nat) : Int)) := by
  have h : (BitVec.ofInt IntKind.u32.bits (z : Int) ||| BitVec.ofInt IntKind.u32.bits (y : Int)).toNat = z % 4294967296 ||| y % 4294967296 := by
    rw [BitVec.ofInt_natCast, BitVec.ofInt_natCast, BitVec.toNat_or, BitVec.toNat_ofNat, BitVec.toNat_ofNat]
    rfl
  rw [binK_or, h, w32]
theorem or32 {z y m sh : Nat} (hz : z < 2 ^ sh) (hy : y = 2 ^ sh * m) (h : z + y < 4294967296) : (z % 4294967296 ||| y % 4294967296) % 4294967296 = z + y := by
  rw [Nat.mod_eq_of_lt (show z < 4294967296 by omega), Nat.mod_eq_of_lt (show y < 4294967296 by omega), hy, or_nat hz, ← hy, Nat.mod_eq_of_lt h]
theorem or32' {z y m sh : Nat} (hz : z < 2 ^ sh) (hy : y = 2 ^ sh * m) (h : z + y < 4294967296) : (y % 4294967296 ||| z % 4294967296) % 4294967296 = z + y := by
  rw [Nat.or_comm]; exact or32 hz hy h
theorem shift_next {a p : List Nat} {i w sh x z : Nat} (hi : a.getD i 0 = x) (hp : p.length = i + w + 1) (hz : p.getD (i + w) 0 = z) (h : val p = val (a.take i) * 2 ^ sh * pw w) :
    val (p.set (i + w) (z + x * 2 ^ sh % 4294967296) ++ [x * 2 ^ sh / 4294967296]) = val (a.take (i + 1)) * 2 ^ sh * pw w := by
  have h1 := val_set p (i + w) (z + x * 2 ^ sh % 4294967296) (by omega)
  rw [show p[i + w] = z by rw [← hz, List.getD_eq_getElem?_getD, List.getElem?_eq_getElem (show i + w < p.length by omega)]; rfl] at h1
  rw [val_snoc, List.length_set, hp, take_getD, hi, pw_succ]
  rw [pw_add] at h1 ⊢
  have e : x * 2 ^ sh = x * 2 ^ sh % 4294967296 + 4294967296 * (x * 2 ^ sh / 4294967296) := by omega
  generalize x * 2 ^ sh % 4294967296 = u at *
  generalize x * 2 ^ sh / 4294967296 = v at *
  generalize val (p.set (i + w) (z + u)) = V at *
  generalize 2 ^ sh = T at *
  generalize pw i = P at *
  generalize pw w = Q at *
  have e2 : P * Q * (x * T) = P * Q * (u + 4294967296 * v) := by rw [← e]
  grind
set_option maxHeartbeats 4000000 in
theorem r1shift_c (a : List Nat) (n : Nat) (ha : Dig a) (hla : a.length < 100000000000) (hn : n < 10000000000000) : AT 126 [.nat a, i64 (n : Nat)] (natN (val a * 2 ^ n)) := by
  obtain ⟨w, hw⟩ : ∃ w, n / 32 = w := ⟨_, rfl⟩
  obtain ⟨sh, hsh⟩ : ∃ sh, n % 32 = sh := ⟨_, rfl⟩
  have hn2 : n = 32 * w + sh := by omega
  have d1 : IntKind.i64.wrap ((n : Int).tdiv 32) = (w : Int) := by rw [Int.tdiv_eq_ediv_of_nonneg (by omega), IntWalk.i64_in _ (by omega)]; omega
  have d2 : (n : Int).tmod 32 = (sh : Int) := by rw [Int.tmod_eq_emod_of_nonneg (by omega)]; omega
  have d3 : IntKind.u64.wrap (sh : Int) = (sh : Int) := IntWalk.u64_in _ (by omega)
  have d4 : min sh 64 = sh := by omega
  have d5 : ¬ ((32 : Int) = 0) := by omega
  have w0 : IntKind.i64.wrap ((a.length : Int) + (w : Int)) = ((a.length + w : Nat) : Int) := by rw [IntWalk.i64_in _ (by omega)]; omega
  have w1 : IntKind.i64.wrap (((a.length + w : Nat) : Int) + 1) = ((a.length + w + 1 : Nat) : Int) := by rw [IntWalk.i64_in _ (by omega)]; omega
  generalize hN : a.length + w + 1 = N at *
  have m1 : (N : Int) * ((4 : Nat) : Int) ≤ 140737488355328 := by omega
  have m2 : (N : Int) ≤ 9223372036854775807 := by omega
  have hpow : 2 ^ n = 2 ^ sh * pw w := by rw [hn2, Nat.pow_add, pw_two, Nat.mul_comm]
  have hT : 2 ^ sh ≤ 2147483648 := by
    have : 2 ^ sh ≤ 2 ^ 31 := Nat.pow_le_pow_right (by omega) (by omega)
    omega
  have hB : 4294967296 = 2 ^ sh * 2 ^ (32 - sh) := by rw [← Nat.pow_add, show sh + (32 - sh) = 32 by omega]
  refine ACalls.of ⟨8, []⟩ (fn := Tryz.f126) Tryz.func126 rfl rfl rfl (by kernel_rfl) (by kernel_rfl) (Nat.le_of_ble_eq_true rfl) ?_
  simp -implicitDefEqProofs only [d1, d5, w0, w1, Int.toNat_natCast, Int.natCast_nonneg, Int.le_refl, m1, m2, go_sem, awp_seq, Nat.reduceBNe, Nat.reduceBEq, Nat.reduceAdd, Nat.reduceSub, Nat.reduceMul, Nat.reduceLeDiff, Nat.reduceLT, Nat.reduceEqDiff, Nat.reduceBneDiff]
  refine loop_mk (α := {x : Nat × List Nat // x.1 ≤ a.length ∧ x.2.length = x.1 + w + 1 ∧ Dig x.2 ∧ val x.2 = val (a.take x.1) * 2 ^ sh * pw w ∧ x.2.getD (x.1 + w) 0 < 2 ^ sh}) (fun x => [(0, some (.av (.nat a))), (1, some (.av (i64 (n : Nat)))), (5, some (.osl 14 1 0 N)), (6, some (.av (i64 (x.1.1 : Nat))))]) (fun _ => []) (fun x => [(14, .limb 52 (frow N x.1.2))]) (fun x => a.length - x.1.1) ⟨(0, List.replicate (w + 1) 0), by simp, by simp, dig_replicate _, by simp [val, val_replicate], by simp [Nat.two_pow_pos]⟩ ?_ ?_
  · simp -implicitDefEqProofs only [frow_start (show w + 1 ≤ N by omega), go_sem, awp_seq, Nat.reduceBNe, Nat.reduceBEq, Nat.reduceAdd, Nat.reduceSub, Nat.reduceMul, Nat.reduceLeDiff, Nat.reduceLT, Nat.reduceEqDiff, Nat.reduceBneDiff]
    exact rfl
  · rintro ⟨⟨i, p⟩, hi, hp, hdp, hv, htop⟩
    dsimp only at hi hp hdp hv htop
    by_cases hlt : i < a.length
    · have f1 : decide ((i : Int) < (a.length : Nat)) = true := by simp; omega
      have p1 : IntKind.i64.wrap ((i : Int) + 1) = ((i + 1 : Nat) : Int) := by rw [IntWalk.i64_in _ (by omega)]; omega
      have q2 : IntKind.i64.wrap ((i : Int) + (w : Int)) = ((i + w : Nat) : Int) := by rw [IntWalk.i64_in _ (by omega)]; omega
      have q3 : IntKind.i64.wrap (((i + w : Nat) : Int) + 1) = ((i + w + 1 : Nat) : Int) := by rw [IntWalk.i64_in _ (by omega)]; omega
      obtain ⟨x, hx⟩ : ∃ x, a.getD i 0 = x := ⟨_, rfl⟩
      obtain ⟨z, hz⟩ : ∃ z, p.getD (i + w) 0 = z := ⟨_, rfl⟩
      have dx := dig_getD ha i
      have hgx := getD_some hlt
      have hgz := frow_get (N := N) (show i + w < p.length by omega)
      rw [hx] at dx hgx
      rw [hz] at htop hgz
      have hnext := shift_next hx hp hz hv
      have hxT : x * 2 ^ sh < 4294967296 * 2 ^ sh := Nat.mul_lt_mul_of_pos_right dx (Nat.two_pow_pos _)
      have nx : IntKind.u64.wrap (x : Int) = (x : Int) := IntWalk.u64_in _ (by omega)
      have n1 : IntKind.u64.wrap ((x : Int) * 2 ^ sh) = ((x * 2 ^ sh : Nat) : Int) := by
        rw [show (x : Int) * 2 ^ sh = ((x * 2 ^ sh : Nat) : Int) by simp, w64 (by omega)]
      have hmod : ∃ mm, x * 2 ^ sh % 4294967296 = 2 ^ sh * mm := by
        refine ⟨x % 2 ^ (32 - sh), ?_⟩
        rw [hB, Nat.mul_comm x, Nat.mul_mod_mul_left]
      have hdivT : x * 2 ^ sh / 4294967296 < 2 ^ sh := Nat.div_lt_of_lt_mul hxT
      obtain ⟨mm, hmm⟩ := hmod
      have hsum : z + 2 ^ sh * mm < 4294967296 := by
        have h1 : 2 ^ sh * mm < 2 ^ sh * 2 ^ (32 - sh) := by rw [← hmm, ← hB]; omega
        have h2 : mm < 2 ^ (32 - sh) := Nat.lt_of_mul_lt_mul_left h1
        have h3 : 2 ^ sh * (mm + 1) ≤ 2 ^ sh * 2 ^ (32 - sh) := Nat.mul_le_mul_left _ h2
        rw [Nat.mul_add, Nat.mul_one, ← hB] at h3
        omega
      rw [← hmm] at hsum
      have hor := or32 htop hmm hsum
      generalize x * 2 ^ sh = X at *
      have m3 : ((z + X % 4294967296 : Nat) : Int) < 4294967296 := by omega
      have n6 : (z + X % 4294967296) % 4294967296 = z + X % 4294967296 := Nat.mod_eq_of_lt hsum
      have n5 : X / 4294967296 % 4294967296 = X / 4294967296 := Nat.mod_eq_of_lt (by omega)
      have m4 : ((X / 4294967296 : Nat) : Int) < 4294967296 := by omega
      have m5 : i + w < N := by omega
      have m6 : i + w + 1 < N := by omega
      have l1 : (p.set (i + w) (z + X % 4294967296)).length = i + w + 1 := by simp [hp]
      simp -implicitDefEqProofs only [f1, d1, d2, d3, d4, d5, p1, q2, q3, nx, n1, hgx, hgz, binK_or32, hor, two32, shr32, w32, n5, n6, le32, Int.toNat_natCast, Int.natCast_nonneg, m3, m4, m5, m6, frow_len (show p.length ≤ N by omega), frow_set (show i + w < p.length by omega), frow_len (show (p.set (i + w) (z + X % 4294967296)).length ≤ N by omega), frow_put l1.symm (show (p.set (i + w) (z + X % 4294967296)).length < N by omega), go_sem, awp_seq, Nat.reduceBNe, Nat.reduceBEq, Nat.reduceAdd, Nat.reduceSub, Nat.reduceMul, Nat.reduceLeDiff, Nat.reduceLT, Nat.reduceEqDiff, Nat.reduceBneDiff]
      refine roundK_mk ⟨(i + 1, p.set (i + w) (z + X % 4294967296) ++ [X / 4294967296]), ?_⟩ ?_ (by show a.length - (i + 1) < a.length - i; omega)
      · refine ⟨hlt, by simp [hp]; omega, dig_snoc (dig_set hdp _ (by omega)) (by omega), hnext, ?_⟩
        show (p.set (i + w) (z + X % 4294967296) ++ [X / 4294967296]).getD (i + 1 + w) 0 < 2 ^ sh
        rw [List.getD_eq_getElem?_getD, List.getElem?_append_right (by omega), l1, show i + 1 + w - (i + w + 1) = 0 by omega]
        simpa using hdivT
      · simp -implicitDefEqProofs only [go_sem, awp_seq, Nat.reduceBNe, Nat.reduceBEq, Nat.reduceAdd, Nat.reduceSub, Nat.reduceMul, Nat.reduceLeDiff, Nat.reduceLT, Nat.reduceEqDiff, Nat.reduceBneDiff]
    · have f1 : decide ((a.length : Int) < (a.length : Nat)) = false := by simp
      obtain rfl : i = a.length := by omega
      rw [List.take_length, Nat.mul_assoc, ← hpow] at hv
      have hl : p.length = N := by omega
      have htake : p.take N = p := by rw [← hl, List.take_length]
      simp -implicitDefEqProofs only [f1, frow_full hl, htake, hl, Nat.le_refl, go_sem, awp_seq, Nat.reduceBNe, Nat.reduceBEq, Nat.reduceAdd, Nat.reduceSub, Nat.reduceMul, Nat.reduceLeDiff, Nat.reduceLT, Nat.reduceEqDiff, Nat.reduceBneDiff]
      refine callA_rowTT (r1norm_c p hdp (by omega)) ?_ ?_ <;> simp -implicitDefEqProofs only [hv, frow_full hl, htake, hl, go_sem, awp_seq, Nat.reduceBNe, Nat.reduceBEq, Nat.reduceAdd, Nat.reduceSub, Nat.reduceMul, Nat.reduceLeDiff, Nat.reduceLT, Nat.reduceEqDiff, Nat.reduceBneDiff]
end Go.Proofs.YtfchbehmeppckaaGreat

/- The document's natural numbers, continued: DivMod, Gcd. -/
set_option linter.unusedSimpArgs false
set_option linter.unusedVariables false
namespace Go.Proofs.YtfchbehmeppckaaGreat
open Go.RowKit Lim

theorem limbs_single {n : Nat} (h0 : 0 < n) (h : n < 4294967296) : limbs n = [n] := by
  rw [limbs_pos (by omega), Nat.mod_eq_of_lt h, Nat.div_eq_of_lt h, limbs_zero]
theorem nlen_single {n : Nat} (h : nlen n = 1) : 0 < n ∧ n < 4294967296 := by
  refine ⟨?_, ?_⟩
  · rcases Nat.eq_zero_or_pos n with h0 | h0
    · subst h0; rw [nlen_zero] at h; omega
    · exact h0
  · have := lt_nlen n
    rw [h, pw_succ, pw_zero] at this
    omega
theorem limb_val {r : List Nat} (hr : Dig r) (j : Nat) : r.getD j 0 = val r / pw j % 4294967296 := by
  by_cases hj : j ≤ r.length
  · have h1 := val_take_drop r j hj
    have h2 := val_take_lt hr hj
    have h3 : val r / pw j = val (r.drop j) := by rw [h1, Nat.add_mul_div_left _ _ (pw_pos j), Nat.div_eq_of_lt h2]; omega
    rw [h3, val_head _ (dig_drop hr j)]
    simp
  · have h1 := val_lt hr
    have h2 := pw_mono (show r.length ≤ j by omega)
    rw [Nat.div_eq_of_lt (by omega)]
    simp [List.getElem?_eq_none (show r.length ≤ j by omega)]
/-- A bit is put where none was. -/
theorem bit_put {r : List Nat} (hr : Dig r) {i m : Nat} (hm : val r = 2 ^ (i + 1) * m) : ∃ q, r.getD (i / 32) 0 = 2 ^ (i % 32 + 1) * q ∧ 2 ^ (i % 32) + 2 ^ (i % 32 + 1) * q < 4294967296 := by
  have hi : i + 1 = 32 * (i / 32) + (i % 32 + 1) := by omega
  have e1 : r.getD (i / 32) 0 = 2 ^ (i % 32 + 1) * m % 4294967296 := by
    rw [limb_val hr, hm, hi, Nat.pow_add, pw_two, Nat.mul_assoc, Nat.mul_div_cancel_left _ (Nat.two_pow_pos _)]
  have hB : 4294967296 = 2 ^ (i % 32 + 1) * 2 ^ (31 - i % 32) := by rw [← Nat.pow_add, show i % 32 + 1 + (31 - i % 32) = 32 by omega]
  refine ⟨m % 2 ^ (31 - i % 32), ?_, ?_⟩
  · rw [e1, hB, Nat.mul_mod_mul_left]
  · have h1 : m % 2 ^ (31 - i % 32) < 2 ^ (31 - i % 32) := Nat.mod_lt _ (Nat.two_pow_pos _)
    have h2 : 2 ^ (i % 32 + 1) * (m % 2 ^ (31 - i % 32) + 1) ≤ 2 ^ (i % 32 + 1) * 2 ^ (31 - i % 32) := Nat.mul_le_mul_left _ h1
    rw [← hB, Nat.mul_add] at h2
    have h3 : 2 ^ (i % 32 + 1) = 2 * 2 ^ (i % 32) := by rw [Nat.pow_succ]; omega
    have h4 := Nat.two_pow_pos (i % 32)
    omega
theorem pw_bit (i : Nat) : pw (i / 32) * 2 ^ (i % 32) = 2 ^ i := by rw [pw_two, ← Nat.pow_add]; congr 1; omega
theorem r1div_one (a b : List Nat) (ha : Dig a) (hb : Dig b) (hla : a.length < 10000000000) (hlb : b.length < 10000000000) (h : nlen (val b) = 1) : AT 122 [.nat a, .nat b] (.tup [natN (val a / val b), natN (val a % val b), boo true]) := by
  obtain ⟨h0, h1⟩ := nlen_single h
  have hL := limbs_single h0 h1
  have hna := nlen_val ha
  have hlt := Nat.mod_lt (val a) h0
  generalize hd : val b = d at *
  have f1 : (((1 : Nat) : Int) == 0) = false := rfl
  have f2 : (((1 : Nat) : Int) == 1) = true := rfl
  have n1 : IntKind.u64.wrap (d : Int) = (d : Int) := IntWalk.u64_in _ (by omega)
  refine ACalls.of ⟨13, []⟩ (fn := Tryz.f122) Tryz.func122 rfl rfl rfl (by kernel_rfl) (by kernel_rfl) (Nat.le_of_ble_eq_true rfl) ?_
  simp -implicitDefEqProofs only [go_sem, awp_seq, Nat.reduceBNe, Nat.reduceBEq, Nat.reduceAdd, Nat.reduceSub, Nat.reduceMul, Nat.reduceLeDiff, Nat.reduceLT, Nat.reduceEqDiff, Nat.reduceBneDiff]
  refine callA_tt (r1norm_c a ha (by omega)) ?_
  simp -implicitDefEqProofs only [go_sem, awp_seq, Nat.reduceBNe, Nat.reduceBEq, Nat.reduceAdd, Nat.reduceSub, Nat.reduceMul, Nat.reduceLeDiff, Nat.reduceLT, Nat.reduceEqDiff, Nat.reduceBneDiff]
  refine callA_tt (r1norm_c b hb (by omega)) ?_
  simp -implicitDefEqProofs only [natN, hd, hL, n1, f1, f2, Int.toNat_zero, Int.le_refl, go_sem, awp_seq, Nat.reduceBNe, Nat.reduceBEq, Nat.reduceAdd, Nat.reduceSub, Nat.reduceMul, Nat.reduceLeDiff, Nat.reduceLT, Nat.reduceEqDiff, Nat.reduceBneDiff]
  refine callA_tt (r1short_c _ d (dig_limbs _) (by show nlen _ < _; omega) h0 h1) ?_
  simp -implicitDefEqProofs only [natN, val_limbs, go_sem, awp_seq, Nat.reduceBNe, Nat.reduceBEq, Nat.reduceAdd, Nat.reduceSub, Nat.reduceMul, Nat.reduceLeDiff, Nat.reduceLT, Nat.reduceEqDiff, Nat.reduceBneDiff]
  refine callA_tt (r1of_c _ (by omega)) ?_
  simp -implicitDefEqProofs only [natN, go_sem, awp_seq, Nat.reduceBNe, Nat.reduceBEq, Nat.reduceAdd, Nat.reduceSub, Nat.reduceMul, Nat.reduceLeDiff, Nat.reduceLT, Nat.reduceEqDiff, Nat.reduceBneDiff]
set_option maxHeartbeats 4000000 in
theorem r1div_long (a b : List Nat) (ha : Dig a) (hb : Dig b) (hla : a.length < 10000000000) (hlb : b.length < 10000000000) (h : 2 ≤ nlen (val b)) : AT 122 [.nat a, .nat b] (.tup [natN (val a / val b), natN (val a % val b), boo true]) := by
  have hna := nlen_val ha
  have hnb := nlen_val hb
  generalize hA : val a = A at *
  generalize hB : val b = B at *
  have f1 : (((limbs B).length : Int) == 0) = false := by rw [beq_eq_false_iff_ne]; show ((nlen B : Nat) : Int) ≠ 0; omega
  have f2 : (((limbs B).length : Int) == 1) = false := by rw [beq_eq_false_iff_ne]; show ((nlen B : Nat) : Int) ≠ 1; omega
  have hB0 : 0 < B := by rcases Nat.eq_zero_or_pos B with h0 | h0; · subst h0; rw [nlen_zero] at h; omega
                         · exact h0
  have bA : bitsN A ≤ 32 * nlen A := bitsN_small (by rw [← pw_two]; exact lt_nlen A)
  have bB : bitsN B ≤ 32 * nlen B := bitsN_small (by rw [← pw_two]; exact lt_nlen B)
  have w0 : IntKind.i64.wrap ((bitsN A : Int) - (bitsN B : Int)) = (bitsN A : Int) - (bitsN B : Int) := IntWalk.i64_in _ (by omega)
  refine ACalls.of ⟨13, []⟩ (fn := Tryz.f122) Tryz.func122 rfl rfl rfl (by kernel_rfl) (by kernel_rfl) (Nat.le_of_ble_eq_true rfl) ?_
  simp -implicitDefEqProofs only [go_sem, awp_seq, Nat.reduceBNe, Nat.reduceBEq, Nat.reduceAdd, Nat.reduceSub, Nat.reduceMul, Nat.reduceLeDiff, Nat.reduceLT, Nat.reduceEqDiff, Nat.reduceBneDiff]
  refine callA_tt (r1norm_c a ha (by omega)) ?_
  simp -implicitDefEqProofs only [go_sem, awp_seq, Nat.reduceBNe, Nat.reduceBEq, Nat.reduceAdd, Nat.reduceSub, Nat.reduceMul, Nat.reduceLeDiff, Nat.reduceLT, Nat.reduceEqDiff, Nat.reduceBneDiff]
  refine callA_tt (r1norm_c b hb (by omega)) ?_
  simp -implicitDefEqProofs only [natN, hA, hB, f1, f2, go_sem, awp_seq, Nat.reduceBNe, Nat.reduceBEq, Nat.reduceAdd, Nat.reduceSub, Nat.reduceMul, Nat.reduceLeDiff, Nat.reduceLT, Nat.reduceEqDiff, Nat.reduceBneDiff]
  refine callA_tt (r1bits_c _ (dig_limbs A) (by show nlen _ < _; omega)) ?_
  simp -implicitDefEqProofs only [go_sem, awp_seq, Nat.reduceBNe, Nat.reduceBEq, Nat.reduceAdd, Nat.reduceSub, Nat.reduceMul, Nat.reduceLeDiff, Nat.reduceLT, Nat.reduceEqDiff, Nat.reduceBneDiff]
  refine callA_tt (r1bits_c _ (dig_limbs B) (by show nlen _ < _; omega)) ?_
  by_cases hlt : bitsN A < bitsN B
  · have g1 : decide ((bitsN A : Int) - (bitsN B : Int) < 0) = true := by simp; omega
    have hAB : A < B := by
      have h1 := bitsN_lt A
      have h2 := bitsN_le hB0
      have h3 : 2 ^ bitsN A ≤ 2 ^ (bitsN B - 1) := Nat.pow_le_pow_right (by omega) (by omega)
      omega
    simp -implicitDefEqProofs only [val_limbs, w0, g1, natN, Nat.div_eq_of_lt hAB, Nat.mod_eq_of_lt hAB, limbs_zero, go_sem, awp_seq, Nat.reduceBNe, Nat.reduceBEq, Nat.reduceAdd, Nat.reduceSub, Nat.reduceMul, Nat.reduceLeDiff, Nat.reduceLT, Nat.reduceEqDiff, Nat.reduceBneDiff]
  · obtain ⟨n, hn⟩ : ∃ n, bitsN A = bitsN B + n := ⟨bitsN A - bitsN B, by omega⟩
    have e0 : (bitsN A : Int) - (bitsN B : Int) = (n : Int) := by omega
    have g1 : decide ((n : Int) < 0) = false := by simp
    have d1 : ∀ i : Nat, i ≤ n → IntKind.i64.wrap ((i : Int).tdiv 32) = ((i / 32 : Nat) : Int) := fun i hi => by rw [Int.tdiv_eq_ediv_of_nonneg (by omega), IntWalk.i64_in _ (by omega)]; omega
    have d2 : ∀ i : Nat, (i : Int).tmod 32 = ((i % 32 : Nat) : Int) := fun i => by rw [Int.tmod_eq_emod_of_nonneg (by omega)]; omega
    have d3 : ∀ i : Nat, IntKind.u64.wrap ((i % 32 : Nat) : Int) = ((i % 32 : Nat) : Int) := fun i => IntWalk.u64_in _ (by omega)
    have d5 : ¬ ((32 : Int) = 0) := by omega
    have w1 : IntKind.i64.wrap (((n / 32 : Nat) : Int) + 1) = ((n / 32 + 1 : Nat) : Int) := by rw [IntWalk.i64_in _ (by omega)]; omega
    have m1 : ((n / 32 + 1 : Nat) : Int) * ((4 : Nat) : Int) ≤ 140737488355328 := by omega
    have m2 : ((n / 32 + 1 : Nat) : Int) ≤ 9223372036854775807 := by omega
    have w2 : IntKind.i64.wrap (n : Int) = (n : Int) := w63 (by omega)
    simp -implicitDefEqProofs only [val_limbs, w2, e0, g1, d1 n (Nat.le_refl _), d5, w1, Int.toNat_natCast, Int.natCast_nonneg, Int.le_refl, m1, m2, go_sem, awp_seq, Nat.reduceBNe, Nat.reduceBEq, Nat.reduceAdd, Nat.reduceSub, Nat.reduceMul, Nat.reduceLeDiff, Nat.reduceLT, Nat.reduceEqDiff, Nat.reduceBneDiff]
    refine callA_tt (r1shift_c _ n (dig_limbs B) (by show nlen _ < _; omega) (by omega)) ?_
    simp -implicitDefEqProofs only [val_limbs, natN, go_sem, awp_seq, Nat.reduceBNe, Nat.reduceBEq, Nat.reduceAdd, Nat.reduceSub, Nat.reduceMul, Nat.reduceLeDiff, Nat.reduceLT, Nat.reduceEqDiff, Nat.reduceBneDiff]
    have hA2 : A < B * 2 ^ (n + 1) := by
      have h1 := bitsN_lt A
      have h2 := bitsN_le hB0
      have h4 := bitsN_pos hB0
      have h3 : 2 ^ bitsN A = 2 ^ (bitsN B - 1) * 2 ^ (n + 1) := by rw [← Nat.pow_add]; congr 1; omega
      have h5 := Nat.mul_le_mul_right (2 ^ (n + 1)) h2
      omega
    have hDn : ∀ k, k ≤ n + 1 → nlen (B * 2 ^ k / 2) ≤ nlen A := fun k hk => by
      refine nlen_le ?_
      have h1 := bitsN_lt B
      have h2 : B * 2 ^ k ≤ B * 2 ^ (n + 1) := Nat.mul_le_mul_left _ (Nat.pow_le_pow_right (by omega) hk)
      have h3 : B * 2 ^ (n + 1) < 2 ^ bitsN B * 2 ^ (n + 1) := Nat.mul_lt_mul_of_pos_right h1 (Nat.two_pow_pos _)
      have h4 : 2 ^ bitsN B * 2 ^ (n + 1) = 2 * 2 ^ bitsN A := by rw [← Nat.pow_add, hn, ← Nat.add_assoc, Nat.pow_succ]; omega
      have h5 : 2 ^ bitsN A ≤ pw (nlen A) := by rw [pw_two]; exact Nat.pow_le_pow_right (by omega) bA
      omega
    refine loop_mk (α := {x : Nat × List Nat × Nat // x.1 ≤ n + 1 ∧ x.2.1.length = n / 32 + 1 ∧ Dig x.2.1 ∧ A = val x.2.1 * B + x.2.2 ∧ x.2.2 < B * 2 ^ x.1 ∧ ∃ m, val x.2.1 = 2 ^ x.1 * m}) (fun x => [(0, some (.av (.nat (limbs x.1.2.2)))), (10, some (.osl 46 1 0 (n / 32 + 1))), (11, some (.av (.nat (limbs (B * 2 ^ x.1.1 / 2))))), (12, some (.av (i64 ((x.1.1 : Int) - 1))))]) (fun _ => []) (fun x => [(46, .limb 52 x.1.2.1)]) (fun x => x.1.1) ⟨(n + 1, List.replicate (n / 32 + 1) 0, A), Nat.le_refl _, by simp, dig_replicate _, by simp [val_replicate], hA2, 0, by simp [val_replicate]⟩ ?_ ?_
    · have e3 : B * 2 ^ (n + 1) / 2 = B * 2 ^ n := by rw [Nat.pow_succ, ← Nat.mul_assoc, Nat.mul_div_cancel _ (by omega)]
      have e4 : ((n + 1 : Nat) : Int) - 1 = (n : Int) := by omega
      simp -implicitDefEqProofs only [e3, e4, go_sem, awp_seq, Nat.reduceBNe, Nat.reduceBEq, Nat.reduceAdd, Nat.reduceSub, Nat.reduceMul, Nat.reduceLeDiff, Nat.reduceLT, Nat.reduceEqDiff, Nat.reduceBneDiff]
    · rintro ⟨⟨k, r, R⟩, hk, hr, hdr, hAe, hR, m, hm⟩
      dsimp only at hk hr hdr hAe hR hm
      cases k with
      | zero =>
        have g2 : decide ((0 : Int) ≤ ((0 : Nat) : Int) - 1) = false := by simp
        rw [Nat.pow_zero, Nat.mul_one] at hR
        have hq : val r = A / B := by rw [hAe, Nat.mul_comm, Nat.mul_add_div hB0, Nat.div_eq_of_lt hR]; omega
        have hrem : R = A % B := by rw [hAe, Nat.mul_comm, Nat.mul_add_mod, Nat.mod_eq_of_lt hR]
        have htake : r.take (n / 32 + 1) = r := by rw [← hr, List.take_length]
        simp -implicitDefEqProofs only [g2, htake, hr, Nat.le_refl, go_sem, awp_seq, Nat.reduceBNe, Nat.reduceBEq, Nat.reduceAdd, Nat.reduceSub, Nat.reduceMul, Nat.reduceLeDiff, Nat.reduceLT, Nat.reduceEqDiff, Nat.reduceBneDiff]
        refine callA_rowTT (r1norm_c r hdr (by omega)) ?_ ?_ <;> simp -implicitDefEqProofs only [natN, hq, ← hrem, htake, hr, go_sem, awp_seq, Nat.reduceBNe, Nat.reduceBEq, Nat.reduceAdd, Nat.reduceSub, Nat.reduceMul, Nat.reduceLeDiff, Nat.reduceLT, Nat.reduceEqDiff, Nat.reduceBneDiff]
      | succ i =>
        have g2 : decide ((0 : Int) ≤ (i : Nat)) = true := by simp
        have e2 : ((i + 1 : Nat) : Int) - 1 = (i : Int) := by omega
        have hD : B * 2 ^ (i + 1) / 2 = B * 2 ^ i := by rw [Nat.pow_succ, ← Nat.mul_assoc, Nat.mul_div_cancel _ (by omega)]
        have hDl := hDn (i + 1) hk
        have q1 : IntKind.i64.wrap ((i : Int) - 1) = (i : Int) - 1 := IntWalk.i64_in _ (by omega)
        have hRA : R ≤ A := by omega
        have hRl := nlen_mono hRA
        rw [hD] at hDl
        simp -implicitDefEqProofs only [e2, hD, decide_true, Int.natCast_nonneg, go_sem, awp_seq, Nat.reduceBNe, Nat.reduceBEq, Nat.reduceAdd, Nat.reduceSub, Nat.reduceMul, Nat.reduceLeDiff, Nat.reduceLT, Nat.reduceEqDiff, Nat.reduceBneDiff]
        refine callA_tt (r1cmp_c _ _ (dig_limbs R) (dig_limbs _) (by show nlen _ < _; omega) (by show nlen _ < _; omega)) ?_
        simp -implicitDefEqProofs only [val_limbs, go_sem, awp_seq, Nat.reduceBNe, Nat.reduceBEq, Nat.reduceAdd, Nat.reduceSub, Nat.reduceMul, Nat.reduceLeDiff, Nat.reduceLT, Nat.reduceEqDiff, Nat.reduceBneDiff]
        rw [Nat.pow_succ, show B * (2 ^ i * 2) = 2 * (B * 2 ^ i) by grind] at hR
        by_cases hge : B * 2 ^ i ≤ R
        · have c1 : decide ((0 : Int) ≤ cmpI R (B * 2 ^ i)) = true := by
            rcases Nat.lt_or_eq_of_le hge with h1 | h1
            · rw [cmpI_gt h1]; rfl
            · rw [← h1, cmpI_eq]; rfl
          simp -implicitDefEqProofs only [c1, go_sem, awp_seq, Nat.reduceBNe, Nat.reduceBEq, Nat.reduceAdd, Nat.reduceSub, Nat.reduceMul, Nat.reduceLeDiff, Nat.reduceLT, Nat.reduceEqDiff, Nat.reduceBneDiff]
          refine callA_tt (r1sub_yes _ _ (dig_limbs R) (dig_limbs _) (by show nlen _ < _; omega) (by show nlen _ < _; omega) (by rw [val_limbs, val_limbs]; exact hge)) ?_
          have hil : i / 32 < r.length := by omega
          have hil2 : i / 32 < n / 32 + 1 := by omega
          obtain ⟨bq, hb1, hb2⟩ := bit_put hdr hm
          have hgr := getD_some hil
          have hset := val_set r (i / 32) (2 ^ (i % 32) + r.getD (i / 32) 0) hil
          have hrl : r[i / 32] = r.getD (i / 32) 0 := by rw [List.getD_eq_getElem?_getD, List.getElem?_eq_getElem hil]; rfl
          rw [hrl, Nat.mul_add, pw_bit] at hset
          obtain ⟨L, hL⟩ : ∃ L, r.getD (i / 32) 0 = L := ⟨_, rfl⟩
          rw [hL] at hb1 hgr hset
          rw [← hb1] at hb2
          have hor := or32' (sh := i % 32 + 1) (show 2 ^ (i % 32) < 2 ^ (i % 32 + 1) from Nat.pow_lt_pow_right (by omega) (by omega)) hb1 hb2
          have hmin : min (i % 32) 32 = i % 32 := by omega
          have s1 : IntKind.u32.wrap (1 * 2 ^ (i % 32)) = ((2 ^ (i % 32) : Nat) : Int) := by
            rw [show (1 : Int) * 2 ^ (i % 32) = ((2 ^ (i % 32) : Nat) : Int) by simp]
            have hle : 2 ^ (i % 32) ≤ 4294967295 := by omega
            exact IntWalk.u32_in _ ⟨Int.natCast_nonneg _, Int.ofNat_le.2 hle⟩
          have m3 : ((2 ^ (i % 32) + L : Nat) : Int) < 4294967296 := by omega
          simp -implicitDefEqProofs only [val_limbs, natN, d1 i (by omega), d2, d3, d5, s1, hmin, binK_or32, hor, hgr, Int.toNat_natCast, Int.natCast_nonneg, hil, hil2, m3, go_sem, awp_seq, Nat.reduceBNe, Nat.reduceBEq, Nat.reduceAdd, Nat.reduceSub, Nat.reduceMul, Nat.reduceLeDiff, Nat.reduceLT, Nat.reduceEqDiff, Nat.reduceBneDiff]
          refine callA_tt (r1half_c _ (dig_limbs _) (by show nlen _ < _; omega)) ?_
          simp -implicitDefEqProofs only [val_limbs, natN, q1, go_sem, awp_seq, Nat.reduceBNe, Nat.reduceBEq, Nat.reduceAdd, Nat.reduceSub, Nat.reduceMul, Nat.reduceLeDiff, Nat.reduceLT, Nat.reduceEqDiff, Nat.reduceBneDiff]
          refine roundK_mk ⟨(i, r.set (i / 32) (2 ^ (i % 32) + L), R - B * 2 ^ i), by omega, by simp [hr], dig_set hdr _ hb2, ?_, by show R - B * 2 ^ i < B * 2 ^ i; omega, 2 * m + 1, ?_⟩ ?_ (by show i < i + 1; omega)
          · show A = val (r.set (i / 32) (2 ^ (i % 32) + L)) * B + (R - B * 2 ^ i)
            have e5 : val (r.set (i / 32) (2 ^ (i % 32) + L)) = val r + 2 ^ i := by omega
            rw [e5, Nat.add_mul, Nat.mul_comm (2 ^ i) B]
            omega
          · show val (r.set (i / 32) (2 ^ (i % 32) + L)) = 2 ^ i * (2 * m + 1)
            have e5 : val (r.set (i / 32) (2 ^ (i % 32) + L)) = val r + 2 ^ i := by omega
            rw [e5, hm, Nat.pow_succ]
            grind
          · simp -implicitDefEqProofs only [go_sem, awp_seq, Nat.reduceBNe, Nat.reduceBEq, Nat.reduceAdd, Nat.reduceSub, Nat.reduceMul, Nat.reduceLeDiff, Nat.reduceLT, Nat.reduceEqDiff, Nat.reduceBneDiff]
        · have c1 : decide ((0 : Int) ≤ cmpI R (B * 2 ^ i)) = false := by rw [cmpI_lt (by omega)]; rfl
          simp -implicitDefEqProofs only [c1, go_sem, awp_seq, Nat.reduceBNe, Nat.reduceBEq, Nat.reduceAdd, Nat.reduceSub, Nat.reduceMul, Nat.reduceLeDiff, Nat.reduceLT, Nat.reduceEqDiff, Nat.reduceBneDiff]
          refine callA_tt (r1half_c _ (dig_limbs _) (by show nlen _ < _; omega)) ?_
          simp -implicitDefEqProofs only [val_limbs, natN, q1, go_sem, awp_seq, Nat.reduceBNe, Nat.reduceBEq, Nat.reduceAdd, Nat.reduceSub, Nat.reduceMul, Nat.reduceLeDiff, Nat.reduceLT, Nat.reduceEqDiff, Nat.reduceBneDiff]
          refine roundK_mk ⟨(i, r, R), by omega, hr, hdr, hAe, by show R < B * 2 ^ i; omega, 2 * m, by show val r = _; rw [hm, Nat.pow_succ]; grind⟩ ?_ (by show i < i + 1; omega)
          simp -implicitDefEqProofs only [go_sem, awp_seq, Nat.reduceBNe, Nat.reduceBEq, Nat.reduceAdd, Nat.reduceSub, Nat.reduceMul, Nat.reduceLeDiff, Nat.reduceLT, Nat.reduceEqDiff, Nat.reduceBneDiff]
theorem r1div_c (a b : List Nat) (ha : Dig a) (hb : Dig b) (hla : a.length < 10000000000) (hlb : b.length < 10000000000) (h : 0 < val b) : AT 122 [.nat a, .nat b] (.tup [natN (val a / val b), natN (val a % val b), boo true]) := by
  have h1 : nlen (val b) ≠ 0 := fun h2 => by have := nlen_eq_zero.1 h2; omega
  by_cases h2 : nlen (val b) = 1
  · exact r1div_one a b ha hb hla hlb h2
  · exact r1div_long a b ha hb hla hlb (by omega)
set_option maxHeartbeats 2000000 in
theorem r1gcd_c (a b : List Nat) (ha : Dig a) (hb : Dig b) (hla : a.length < 10000000000) (hlb : b.length < 10000000000) : AT 121 [.nat a, .nat b] (natN (Nat.gcd (val a) (val b))) := by
  have hna := nlen_val ha
  have hnb := nlen_val hb
  refine ACalls.of ⟨8, []⟩ (fn := Tryz.f121) Tryz.func121 rfl rfl rfl (by kernel_rfl) (by kernel_rfl) (Nat.le_of_ble_eq_true rfl) ?_
  simp -implicitDefEqProofs only [go_sem, awp_seq, Nat.reduceBNe, Nat.reduceBEq, Nat.reduceAdd, Nat.reduceSub, Nat.reduceMul, Nat.reduceLeDiff, Nat.reduceLT, Nat.reduceEqDiff, Nat.reduceBneDiff]
  refine callA_tt (r1norm_c a ha (by omega)) ?_
  simp -implicitDefEqProofs only [go_sem, awp_seq, Nat.reduceBNe, Nat.reduceBEq, Nat.reduceAdd, Nat.reduceSub, Nat.reduceMul, Nat.reduceLeDiff, Nat.reduceLT, Nat.reduceEqDiff, Nat.reduceBneDiff]
  refine callA_tt (r1norm_c b hb (by omega)) ?_
  simp -implicitDefEqProofs only [go_sem, awp_seq, Nat.reduceBNe, Nat.reduceBEq, Nat.reduceAdd, Nat.reduceSub, Nat.reduceMul, Nat.reduceLeDiff, Nat.reduceLT, Nat.reduceEqDiff, Nat.reduceBneDiff]
  refine loop_mk (α := {x : Nat × Nat // nlen x.1 < 10000000000 ∧ nlen x.2 < 10000000000 ∧ Nat.gcd x.1 x.2 = Nat.gcd (val a) (val b)}) (fun x => [(0, some (.av (natN x.1.1))), (1, some (.av (natN x.1.2)))]) (fun _ => []) (fun _ => []) (fun x => x.1.2) ⟨(val a, val b), by show nlen (val a) < _; omega, by show nlen (val b) < _; omega, rfl⟩ ?_ ?_
  · simp -implicitDefEqProofs only [go_sem, awp_seq, Nat.reduceBNe, Nat.reduceBEq, Nat.reduceAdd, Nat.reduceSub, Nat.reduceMul, Nat.reduceLeDiff, Nat.reduceLT, Nat.reduceEqDiff, Nat.reduceBneDiff]
  · rintro ⟨⟨x, y⟩, hx, hy, hg⟩
    dsimp only at hx hy hg
    by_cases h0 : y = 0
    · subst h0
      have f1 : decide ((0 : Int) < ((limbs 0).length : Nat)) = false := by rw [limbs_zero]; rfl
      rw [Nat.gcd_zero_right] at hg
      simp -implicitDefEqProofs only [natN, f1, hg, go_sem, awp_seq, Nat.reduceBNe, Nat.reduceBEq, Nat.reduceAdd, Nat.reduceSub, Nat.reduceMul, Nat.reduceLeDiff, Nat.reduceLT, Nat.reduceEqDiff, Nat.reduceBneDiff]
    · have hy0 : 0 < (limbs y).length := by
        cases he : limbs y with
        | nil => have := limbs_eq_nil.1 he; omega
        | cons => simp
      have f1 : decide ((0 : Int) < ((limbs y).length : Nat)) = true := by simp; omega
      simp -implicitDefEqProofs only [natN, f1, go_sem, awp_seq, Nat.reduceBNe, Nat.reduceBEq, Nat.reduceAdd, Nat.reduceSub, Nat.reduceMul, Nat.reduceLeDiff, Nat.reduceLT, Nat.reduceEqDiff, Nat.reduceBneDiff]
      refine callA_tt (r1div_c _ _ (dig_limbs x) (dig_limbs y) hx hy (by rw [val_limbs]; omega)) ?_
      simp -implicitDefEqProofs only [natN, val_limbs, go_sem, awp_seq, Nat.reduceBNe, Nat.reduceBEq, Nat.reduceAdd, Nat.reduceSub, Nat.reduceMul, Nat.reduceLeDiff, Nat.reduceLT, Nat.reduceEqDiff, Nat.reduceBneDiff]
      have hlt := Nat.mod_lt x (show 0 < y by omega)
      refine roundK_mk ⟨(y, x % y), hy, by show nlen (x % y) < _; have := nlen_mono (Nat.le_of_lt hlt); omega, by show Nat.gcd y (x % y) = _; rw [← hg, Nat.gcd_comm x y, Nat.gcd_rec y x, Nat.gcd_comm]⟩ ?_ hlt
      simp -implicitDefEqProofs only [natN, go_sem, awp_seq, Nat.reduceBNe, Nat.reduceBEq, Nat.reduceAdd, Nat.reduceSub, Nat.reduceMul, Nat.reduceLeDiff, Nat.reduceLT, Nat.reduceEqDiff, Nat.reduceBneDiff]
end Go.Proofs.YtfchbehmeppckaaGreat

/- The document's integers (examboardref02), by the engine. -/
set_option linter.unusedSimpArgs false
set_option linter.unusedVariables false
namespace Go.Proofs.YtfchbehmeppckaaGreat
open Go.RowKit Lim

/-- An argument that stands for a number, in limbs, not too long. -/
def DN (a : AV) (n : Nat) : Prop := ∃ l, a = .nat l ∧ Dig l ∧ val l = n ∧ l.length < 1000000000
def DI (a : AV) (z : Int) : Prop := ∃ t l, a = intA t l ∧ Dig l ∧ sg t (val l) = z ∧ l.length < 1000000000
theorem dN (n : Nat) (h : nlen n < 1000000000) : DN (natN n) n := ⟨_, rfl, dig_limbs n, val_limbs n, h⟩
theorem dI (z : Int) (h : nlen z.natAbs < 1000000000) : DI (intN z) z := ⟨_, _, rfl, dig_limbs _, by rw [val_limbs]; exact sg_norm z, h⟩
theorem sg_natAbs (t : Bool) (n : Nat) : (sg t n).natAbs = n := by unfold sg; cases t <;> simp
theorem sg_neg (t : Bool) (n : Nat) : decide (sg t n < 0) = (t && decide (0 < n)) := by unfold sg; cases t <;> simp <;> omega
theorem limbs_len_pos (n : Nat) : decide ((0 : Int) < ((limbs n).length : Nat)) = decide (0 < n) := by
  by_cases h : n = 0
  · subst h; rw [limbs_zero]; rfl
  · have : 0 < (limbs n).length := by
      cases he : limbs n with
      | nil => have := limbs_eq_nil.1 he; omega
      | cons => simp
    have h1 : 0 < n := by omega
    simp [h1]; omega
theorem r2norm_c {a : AV} {z : Int} (ha : DI a z) : AT 74 [a] (intN z) := by
  obtain ⟨t, l, rfl, hd, rfl, hl⟩ := ha
  refine ACalls.of ⟨4, []⟩ (fn := Tryz.f74) Tryz.func74 rfl rfl rfl (by kernel_rfl) (by kernel_rfl) (Nat.le_of_ble_eq_true rfl) ?_
  simp -implicitDefEqProofs only [go_sem, awp_seq, Nat.reduceBNe, Nat.reduceBEq, Nat.reduceAdd, Nat.reduceSub, Nat.reduceMul, Nat.reduceLeDiff, Nat.reduceLT, Nat.reduceEqDiff, Nat.reduceBneDiff]
  refine callA_tt (r1norm_c l hd (by omega)) ?_
  cases t with
  | false => simp -implicitDefEqProofs only [natN, intN, sg_natAbs, sg_neg, Bool.false_and, go_sem, awp_seq, Nat.reduceBNe, Nat.reduceBEq, Nat.reduceAdd, Nat.reduceSub, Nat.reduceMul, Nat.reduceLeDiff, Nat.reduceLT, Nat.reduceEqDiff, Nat.reduceBneDiff]
  | true => simp -implicitDefEqProofs only [natN, intN, limbs_len_pos, sg_natAbs, sg_neg, Bool.true_and, go_sem, awp_seq, Nat.reduceBNe, Nat.reduceBEq, Nat.reduceAdd, Nat.reduceSub, Nat.reduceMul, Nat.reduceLeDiff, Nat.reduceLT, Nat.reduceEqDiff, Nat.reduceBneDiff]
theorem r2make_c (t : Bool) {a : AV} {n : Nat} (ha : DN a n) : AT 52 [boo t, a] (intN (sg t n)) := by
  obtain ⟨l, rfl, hd, rfl, hl⟩ := ha
  refine ACalls.of ⟨5, []⟩ (fn := Tryz.f52) Tryz.func52 rfl rfl rfl (by kernel_rfl) (by kernel_rfl) (Nat.le_of_ble_eq_true rfl) ?_
  simp -implicitDefEqProofs only [go_sem, awp_seq, Nat.reduceBNe, Nat.reduceBEq, Nat.reduceAdd, Nat.reduceSub, Nat.reduceMul, Nat.reduceLeDiff, Nat.reduceLT, Nat.reduceEqDiff, Nat.reduceBneDiff]
  refine callA_tt (r2norm_c ⟨t, l, rfl, hd, rfl, hl⟩) ?_
  simp -implicitDefEqProofs only [go_sem, awp_seq, Nat.reduceBNe, Nat.reduceBEq, Nat.reduceAdd, Nat.reduceSub, Nat.reduceMul, Nat.reduceLeDiff, Nat.reduceLT, Nat.reduceEqDiff, Nat.reduceBneDiff]
theorem r2neg_c {a : AV} {z : Int} (ha : DI a z) : AT 118 [a] (intN (-z)) := by
  obtain ⟨t, l, rfl, hd, rfl, hl⟩ := ha
  have e : sg (!t) (val l) = -(sg t (val l)) := by unfold sg; cases t <;> simp
  refine ACalls.of ⟨3, []⟩ (fn := Tryz.f118) Tryz.func118 rfl rfl rfl (by kernel_rfl) (by kernel_rfl) (Nat.le_of_ble_eq_true rfl) ?_
  simp -implicitDefEqProofs only [go_sem, awp_seq, Nat.reduceBNe, Nat.reduceBEq, Nat.reduceAdd, Nat.reduceSub, Nat.reduceMul, Nat.reduceLeDiff, Nat.reduceLT, Nat.reduceEqDiff, Nat.reduceBneDiff]
  refine callA_tt (r2make_c (!t) ⟨l, rfl, hd, rfl, hl⟩) ?_
  simp -implicitDefEqProofs only [e, go_sem, awp_seq, Nat.reduceBNe, Nat.reduceBEq, Nat.reduceAdd, Nat.reduceSub, Nat.reduceMul, Nat.reduceLeDiff, Nat.reduceLT, Nat.reduceEqDiff, Nat.reduceBneDiff]
theorem r2mul_c {a b : AV} {z y : Int} (ha : DI a z) (hb : DI b y) (hl : nlen z.natAbs + nlen y.natAbs < 1000000000) : AT 51 [a, b] (intN (z * y)) := by
  obtain ⟨t, l, rfl, hd, rfl, hl1⟩ := ha
  obtain ⟨s, m, rfl, hd2, rfl, hl2⟩ := hb
  have e : sg (!(t == s)) (val l * val m) = sg t (val l) * sg s (val m) := by unfold sg; cases t <;> cases s <;> simp [Int.neg_mul, Int.mul_neg]
  rw [sg_natAbs, sg_natAbs] at hl
  have h1 := nlen_mul (val l) (val m)
  refine ACalls.of ⟨5, []⟩ (fn := Tryz.f51) Tryz.func51 rfl rfl rfl (by kernel_rfl) (by kernel_rfl) (Nat.le_of_ble_eq_true rfl) ?_
  simp -implicitDefEqProofs only [go_sem, awp_seq, Nat.reduceBNe, Nat.reduceBEq, Nat.reduceAdd, Nat.reduceSub, Nat.reduceMul, Nat.reduceLeDiff, Nat.reduceLT, Nat.reduceEqDiff, Nat.reduceBneDiff]
  refine callA_tt (r1mul_c l m hd hd2 (by omega)) ?_
  simp -implicitDefEqProofs only [go_sem, awp_seq, Nat.reduceBNe, Nat.reduceBEq, Nat.reduceAdd, Nat.reduceSub, Nat.reduceMul, Nat.reduceLeDiff, Nat.reduceLT, Nat.reduceEqDiff, Nat.reduceBneDiff]
  refine callA_tt (r2make_c _ (dN _ (by omega))) ?_
  simp -implicitDefEqProofs only [e, go_sem, awp_seq, Nat.reduceBNe, Nat.reduceBEq, Nat.reduceAdd, Nat.reduceSub, Nat.reduceMul, Nat.reduceLeDiff, Nat.reduceLT, Nat.reduceEqDiff, Nat.reduceBneDiff]
theorem r2sign_c {a : AV} {z : Int} (ha : DI a z) : AT 46 [a] (i64 (sgnI z)) := by
  have hn := r2norm_c ha
  obtain ⟨t, l, rfl, hd, rfl, hl⟩ := ha
  generalize sg t (val l) = z at *
  refine ACalls.of ⟨4, []⟩ (fn := Tryz.f46) Tryz.func46 rfl rfl rfl (by kernel_rfl) (by kernel_rfl) (Nat.le_of_ble_eq_true rfl) ?_
  simp -implicitDefEqProofs only [go_sem, awp_seq, Nat.reduceBNe, Nat.reduceBEq, Nat.reduceAdd, Nat.reduceSub, Nat.reduceMul, Nat.reduceLeDiff, Nat.reduceLT, Nat.reduceEqDiff, Nat.reduceBneDiff]
  refine callA_tt hn ?_
  by_cases h0 : z = 0
  · subst h0
    have f1 : (((limbs (0 : Int).natAbs).length : Int) == 0) = true := by rw [show (0 : Int).natAbs = 0 from rfl, limbs_zero]; rfl
    have e : sgnI 0 = 0 := rfl
    simp -implicitDefEqProofs only [intN, f1, e, go_sem, awp_seq, Nat.reduceBNe, Nat.reduceBEq, Nat.reduceAdd, Nat.reduceSub, Nat.reduceMul, Nat.reduceLeDiff, Nat.reduceLT, Nat.reduceEqDiff, Nat.reduceBneDiff]
  · have f1 : (((limbs z.natAbs).length : Int) == 0) = false := by
      rw [beq_eq_false_iff_ne]
      intro hc
      have h1 : nlen z.natAbs = 0 := by have : ((nlen z.natAbs : Nat) : Int) = 0 := hc; omega
      have := nlen_eq_zero.1 h1
      omega
    by_cases h1 : z < 0
    · have e : sgnI z = -1 := by unfold sgnI; rw [if_pos h1]
      simp -implicitDefEqProofs only [intN, f1, e, h1, decide_true, go_sem, awp_seq, Nat.reduceBNe, Nat.reduceBEq, Nat.reduceAdd, Nat.reduceSub, Nat.reduceMul, Nat.reduceLeDiff, Nat.reduceLT, Nat.reduceEqDiff, Nat.reduceBneDiff]
    · have e : sgnI z = 1 := by unfold sgnI; rw [if_neg h1, if_pos (by omega)]
      simp -implicitDefEqProofs only [intN, f1, e, h1, decide_false, go_sem, awp_seq, Nat.reduceBNe, Nat.reduceBEq, Nat.reduceAdd, Nat.reduceSub, Nat.reduceMul, Nat.reduceLeDiff, Nat.reduceLT, Nat.reduceEqDiff, Nat.reduceBneDiff]
theorem r2add_c {a b : AV} {z y : Int} (ha : DI a z) (hb : DI b y) (hl : nlen z.natAbs + nlen y.natAbs + 1 < 1000000000) : AT 107 [a, b] (intN (z + y)) := by
  obtain ⟨t, l, rfl, hd, rfl, hl1⟩ := ha
  obtain ⟨s, m, rfl, hd2, rfl, hl2⟩ := hb
  rw [sg_natAbs, sg_natAbs] at hl
  have h1 := nlen_add (val l) (val m)
  by_cases hts : t = s
  · subst hts
    have f1 : (t == t) = true := by simp
    have e : sg t (val l + val m) = sg t (val l) + sg t (val m) := by unfold sg; cases t <;> simp <;> omega
    refine ACalls.of ⟨9, []⟩ (fn := Tryz.f107) Tryz.func107 rfl rfl rfl (by kernel_rfl) (by kernel_rfl) (Nat.le_of_ble_eq_true rfl) ?_
    simp -implicitDefEqProofs only [f1, go_sem, awp_seq, Nat.reduceBNe, Nat.reduceBEq, Nat.reduceAdd, Nat.reduceSub, Nat.reduceMul, Nat.reduceLeDiff, Nat.reduceLT, Nat.reduceEqDiff, Nat.reduceBneDiff]
    refine callA_tt (r1add_c l m hd hd2 (by omega) (by omega)) ?_
    simp -implicitDefEqProofs only [go_sem, awp_seq, Nat.reduceBNe, Nat.reduceBEq, Nat.reduceAdd, Nat.reduceSub, Nat.reduceMul, Nat.reduceLeDiff, Nat.reduceLT, Nat.reduceEqDiff, Nat.reduceBneDiff]
    refine callA_tt (r2make_c _ (dN _ (by omega))) ?_
    simp -implicitDefEqProofs only [e, go_sem, awp_seq, Nat.reduceBNe, Nat.reduceBEq, Nat.reduceAdd, Nat.reduceSub, Nat.reduceMul, Nat.reduceLeDiff, Nat.reduceLT, Nat.reduceEqDiff, Nat.reduceBneDiff]
  · have f1 : (t == s) = false := by simpa using hts
    by_cases hle : val m ≤ val l
    · have e : sg t (val l - val m) = sg t (val l) + sg s (val m) := by unfold sg; cases t <;> cases s <;> simp at hts ⊢ <;> omega
      have h2 := nlen_mono (Nat.sub_le (val l) (val m))
      refine ACalls.of ⟨9, []⟩ (fn := Tryz.f107) Tryz.func107 rfl rfl rfl (by kernel_rfl) (by kernel_rfl) (Nat.le_of_ble_eq_true rfl) ?_
      simp -implicitDefEqProofs only [f1, go_sem, awp_seq, Nat.reduceBNe, Nat.reduceBEq, Nat.reduceAdd, Nat.reduceSub, Nat.reduceMul, Nat.reduceLeDiff, Nat.reduceLT, Nat.reduceEqDiff, Nat.reduceBneDiff]
      refine callA_tt (r1sub_yes l m hd hd2 (by omega) (by omega) hle) ?_
      simp -implicitDefEqProofs only [go_sem, awp_seq, Nat.reduceBNe, Nat.reduceBEq, Nat.reduceAdd, Nat.reduceSub, Nat.reduceMul, Nat.reduceLeDiff, Nat.reduceLT, Nat.reduceEqDiff, Nat.reduceBneDiff]
      refine callA_tt (r2make_c _ (dN _ (by omega))) ?_
      simp -implicitDefEqProofs only [e, go_sem, awp_seq, Nat.reduceBNe, Nat.reduceBEq, Nat.reduceAdd, Nat.reduceSub, Nat.reduceMul, Nat.reduceLeDiff, Nat.reduceLT, Nat.reduceEqDiff, Nat.reduceBneDiff]
    · have e : sg s (val m - val l) = sg t (val l) + sg s (val m) := by unfold sg; cases t <;> cases s <;> simp at hts ⊢ <;> omega
      have h2 := nlen_mono (Nat.sub_le (val m) (val l))
      refine ACalls.of ⟨9, []⟩ (fn := Tryz.f107) Tryz.func107 rfl rfl rfl (by kernel_rfl) (by kernel_rfl) (Nat.le_of_ble_eq_true rfl) ?_
      simp -implicitDefEqProofs only [f1, go_sem, awp_seq, Nat.reduceBNe, Nat.reduceBEq, Nat.reduceAdd, Nat.reduceSub, Nat.reduceMul, Nat.reduceLeDiff, Nat.reduceLT, Nat.reduceEqDiff, Nat.reduceBneDiff]
      refine callA_tt (r1sub_no l m hd hd2 (by omega) (by omega) (by omega)) ?_
      simp -implicitDefEqProofs only [go_sem, awp_seq, Nat.reduceBNe, Nat.reduceBEq, Nat.reduceAdd, Nat.reduceSub, Nat.reduceMul, Nat.reduceLeDiff, Nat.reduceLT, Nat.reduceEqDiff, Nat.reduceBneDiff]
      refine callA_tt (r1sub_yes m l hd2 hd (by omega) (by omega) (by omega)) ?_
      simp -implicitDefEqProofs only [go_sem, awp_seq, Nat.reduceBNe, Nat.reduceBEq, Nat.reduceAdd, Nat.reduceSub, Nat.reduceMul, Nat.reduceLeDiff, Nat.reduceLT, Nat.reduceEqDiff, Nat.reduceBneDiff]
      refine callA_tt (r2make_c _ (dN _ (by omega))) ?_
      simp -implicitDefEqProofs only [e, go_sem, awp_seq, Nat.reduceBNe, Nat.reduceBEq, Nat.reduceAdd, Nat.reduceSub, Nat.reduceMul, Nat.reduceLeDiff, Nat.reduceLT, Nat.reduceEqDiff, Nat.reduceBneDiff]
theorem r2of_c (z : Int) (h1 : -9223372036854775808 ≤ z) (h2 : z ≤ 9223372036854775807) : AT 76 [i64 z] (intN z) := by
  have hl : nlen z.natAbs < 1000000000 := by
    have : nlen z.natAbs ≤ 2 := nlen_le (by rw [show pw 2 = 18446744073709551616 from rfl]; omega)
    omega
  by_cases h : z < 0
  · have f1 : decide (z < 0) = true := by simp [h]
    have n1 : IntKind.i64.wrap (z + 1) = z + 1 := IntWalk.i64_in _ (by omega)
    have n2 : IntKind.i64.wrap (0 - (z + 1)) = 0 - (z + 1) := IntWalk.i64_in _ (by omega)
    have n3 : IntKind.u64.wrap (0 - (z + 1)) = 0 - (z + 1) := IntWalk.u64_in _ (by omega)
    have n4 : IntKind.u64.wrap (0 - (z + 1) + 1) = ((z.natAbs : Nat) : Int) := by rw [IntWalk.u64_in _ (by omega)]; omega
    have e : sg true z.natAbs = z := by unfold sg; simp; omega
    refine ACalls.of ⟨3, []⟩ (fn := Tryz.f76) Tryz.func76 rfl rfl rfl (by kernel_rfl) (by kernel_rfl) (Nat.le_of_ble_eq_true rfl) ?_
    simp -implicitDefEqProofs only [f1, n1, n2, n3, n4, go_sem, awp_seq, Nat.reduceBNe, Nat.reduceBEq, Nat.reduceAdd, Nat.reduceSub, Nat.reduceMul, Nat.reduceLeDiff, Nat.reduceLT, Nat.reduceEqDiff, Nat.reduceBneDiff]
    refine callA_tt (r1of_c _ (by omega)) ?_
    simp -implicitDefEqProofs only [go_sem, awp_seq, Nat.reduceBNe, Nat.reduceBEq, Nat.reduceAdd, Nat.reduceSub, Nat.reduceMul, Nat.reduceLeDiff, Nat.reduceLT, Nat.reduceEqDiff, Nat.reduceBneDiff]
    refine callA_tt (r2make_c true (dN _ hl)) ?_
    simp -implicitDefEqProofs only [e, go_sem, awp_seq, Nat.reduceBNe, Nat.reduceBEq, Nat.reduceAdd, Nat.reduceSub, Nat.reduceMul, Nat.reduceLeDiff, Nat.reduceLT, Nat.reduceEqDiff, Nat.reduceBneDiff]
  · have f1 : decide (z < 0) = false := by simp; omega
    have n1 : IntKind.u64.wrap z = ((z.natAbs : Nat) : Int) := by rw [IntWalk.u64_in _ (by omega)]; omega
    have e : sg false z.natAbs = z := by unfold sg; simp; omega
    refine ACalls.of ⟨3, []⟩ (fn := Tryz.f76) Tryz.func76 rfl rfl rfl (by kernel_rfl) (by kernel_rfl) (Nat.le_of_ble_eq_true rfl) ?_
    simp -implicitDefEqProofs only [f1, n1, go_sem, awp_seq, Nat.reduceBNe, Nat.reduceBEq, Nat.reduceAdd, Nat.reduceSub, Nat.reduceMul, Nat.reduceLeDiff, Nat.reduceLT, Nat.reduceEqDiff, Nat.reduceBneDiff]
    refine callA_tt (r1of_c _ (by omega)) ?_
    simp -implicitDefEqProofs only [go_sem, awp_seq, Nat.reduceBNe, Nat.reduceBEq, Nat.reduceAdd, Nat.reduceSub, Nat.reduceMul, Nat.reduceLeDiff, Nat.reduceLT, Nat.reduceEqDiff, Nat.reduceBneDiff]
    refine callA_tt (r2make_c false (dN _ hl)) ?_
    simp -implicitDefEqProofs only [e, go_sem, awp_seq, Nat.reduceBNe, Nat.reduceBEq, Nat.reduceAdd, Nat.reduceSub, Nat.reduceMul, Nat.reduceLeDiff, Nat.reduceLT, Nat.reduceEqDiff, Nat.reduceBneDiff]
theorem r2cmp_c {a b : AV} {z y : Int} (ha : DI a z) (hb : DI b y) : AT 54 [a, b] (i64 (cmpZ z y)) := by
  have s1 := r2sign_c ha
  have s2 := r2sign_c hb
  obtain ⟨t, l, rfl, hd, hz, hl1⟩ := ha
  obtain ⟨s, m, rfl, hd2, hy, hl2⟩ := hb
  have az : z.natAbs = val l := by rw [← hz, sg_natAbs]
  have ay : y.natAbs = val m := by rw [← hy, sg_natAbs]
  refine ACalls.of ⟨7, []⟩ (fn := Tryz.f54) Tryz.func54 rfl rfl rfl (by kernel_rfl) (by kernel_rfl) (Nat.le_of_ble_eq_true rfl) ?_
  simp -implicitDefEqProofs only [go_sem, awp_seq, Nat.reduceBNe, Nat.reduceBEq, Nat.reduceAdd, Nat.reduceSub, Nat.reduceMul, Nat.reduceLeDiff, Nat.reduceLT, Nat.reduceEqDiff, Nat.reduceBneDiff]
  refine callA_tt s1 ?_
  simp -implicitDefEqProofs only [go_sem, awp_seq, Nat.reduceBNe, Nat.reduceBEq, Nat.reduceAdd, Nat.reduceSub, Nat.reduceMul, Nat.reduceLeDiff, Nat.reduceLT, Nat.reduceEqDiff, Nat.reduceBneDiff]
  refine callA_tt s2 ?_
  rcases Int.lt_trichotomy (sgnI z) (sgnI y) with h | h | h
  · have f1 : decide (sgnI z < sgnI y) = true := by simp [h]
    simp -implicitDefEqProofs only [f1, cmpZ_lt h, go_sem, awp_seq, Nat.reduceBNe, Nat.reduceBEq, Nat.reduceAdd, Nat.reduceSub, Nat.reduceMul, Nat.reduceLeDiff, Nat.reduceLT, Nat.reduceEqDiff, Nat.reduceBneDiff]
  · have f1 : decide (sgnI z < sgnI y) = false := by simp; omega
    have f2 : decide (sgnI y < sgnI z) = false := by simp; omega
    have hc := cmpZ_eq h
    rw [az, ay] at hc
    by_cases h0 : sgnI z < 0
    · have f3 : decide (sgnI z < 0) = true := by simp [h0]
      have e : cmpI (val m) (val l) = cmpZ z y := by
        have h1 : sgnI z = -1 := by unfold sgnI at h0 ⊢; split at h0 <;> (try split at h0) <;> simp_all
        rw [← hc, h1]
        unfold cmpI
        split <;> split <;> (try split) <;> omega
      simp -implicitDefEqProofs only [f1, f2, f3, go_sem, awp_seq, Nat.reduceBNe, Nat.reduceBEq, Nat.reduceAdd, Nat.reduceSub, Nat.reduceMul, Nat.reduceLeDiff, Nat.reduceLT, Nat.reduceEqDiff, Nat.reduceBneDiff]
      refine callA_tt (r1cmp_c m l hd2 hd (by omega) (by omega)) ?_
      simp -implicitDefEqProofs only [e, go_sem, awp_seq, Nat.reduceBNe, Nat.reduceBEq, Nat.reduceAdd, Nat.reduceSub, Nat.reduceMul, Nat.reduceLeDiff, Nat.reduceLT, Nat.reduceEqDiff, Nat.reduceBneDiff]
    · have f3 : decide (sgnI z < 0) = false := by simp; omega
      have e : cmpI (val l) (val m) = cmpZ z y := by
        by_cases h1 : sgnI z = 0
        · have hz0 : z = 0 := by unfold sgnI at h1; split at h1 <;> (try split at h1) <;> omega
          have hy0 : y = 0 := by rw [h] at h1; unfold sgnI at h1; split at h1 <;> (try split at h1) <;> omega
          rw [← az, ← ay, hz0, hy0]; rfl
        · have h2 : sgnI z = 1 := by unfold sgnI at h0 h1 ⊢; split at h0 <;> (try split at h0) <;> simp_all
          rw [← hc, h2, Int.one_mul]
      simp -implicitDefEqProofs only [f1, f2, f3, go_sem, awp_seq, Nat.reduceBNe, Nat.reduceBEq, Nat.reduceAdd, Nat.reduceSub, Nat.reduceMul, Nat.reduceLeDiff, Nat.reduceLT, Nat.reduceEqDiff, Nat.reduceBneDiff]
      refine callA_tt (r1cmp_c l m hd hd2 (by omega) (by omega)) ?_
      simp -implicitDefEqProofs only [e, go_sem, awp_seq, Nat.reduceBNe, Nat.reduceBEq, Nat.reduceAdd, Nat.reduceSub, Nat.reduceMul, Nat.reduceLeDiff, Nat.reduceLT, Nat.reduceEqDiff, Nat.reduceBneDiff]
  · have f1 : decide (sgnI z < sgnI y) = false := by simp; omega
    have f2 : decide (sgnI y < sgnI z) = true := by simp [h]
    simp -implicitDefEqProofs only [f1, f2, cmpZ_gt h, go_sem, awp_seq, Nat.reduceBNe, Nat.reduceBEq, Nat.reduceAdd, Nat.reduceSub, Nat.reduceMul, Nat.reduceLeDiff, Nat.reduceLT, Nat.reduceEqDiff, Nat.reduceBneDiff]
end Go.Proofs.YtfchbehmeppckaaGreat

/- The document's integers, continued: DivMod. -/
set_option linter.unusedSimpArgs false
set_option linter.unusedVariables false
namespace Go.Proofs.YtfchbehmeppckaaGreat
open Go.RowKit Lim

theorem nlen_div (n k : Nat) : nlen (n / k) ≤ nlen n := nlen_mono (Nat.div_le_self n k)
end Go.Proofs.YtfchbehmeppckaaGreat

/- decimal.Integer; the law's rounds, awake, valid. -/
set_option linter.unusedSimpArgs false
set_option linter.unusedVariables false
namespace Go.Proofs.YtfchbehmeppckaaGreat
open Go.RowKit Lim

abbrev u32 (n : Int) : AV := .lit (.int .u32 n)
theorem nlen_u32 {n : Nat} (h : n < 4294967296) : nlen n ≤ 1 := nlen_le (by have h1 : pw 1 = 4294967296 := (by decide); omega)
end Go.Proofs.YtfchbehmeppckaaGreat

/- The law DecimalMirror: its walk and its arithmetic. -/
set_option linter.unusedSimpArgs false
set_option linter.unusedVariables false
namespace Go.Proofs.YtfchbehmeppckaaGreat
open Go.RowKit Lim

theorem pz_pos (z : Int) {d : Nat} (h : 0 < d) : pz z d = z := by unfold pz; rw [if_neg (by omega)]
theorem pd_id {d : Nat} (h : 0 < d) : pd d = d := by unfold pd; rw [if_neg (by omega)]
end Go.Proofs.YtfchbehmeppckaaGreat

/- The law DecimalMonotone: its arithmetic and its walk. -/
set_option linter.unusedSimpArgs false
set_option linter.unusedVariables false
namespace Go.Proofs.YtfchbehmeppckaaGreat
open Go.RowKit Lim

end Go.Proofs.YtfchbehmeppckaaGreat

/- The law DecimalNearest: its arithmetic and its walk. -/
set_option linter.unusedSimpArgs false
set_option linter.unusedVariables false
namespace Go.Proofs.YtfchbehmeppckaaGreat
open Go.RowKit Lim

/-- Two fractions of one value. -/
structure Eqv (n : Int) (d : Nat) (x : Int) (y : Nat) : Prop where
  dp : 0 < d
  yp : 0 < y
  e : n * (y : Int) = x * (d : Int)
theorem Eqv.refl (n : Int) {d : Nat} (h : 0 < d) : Eqv n d n d := ⟨h, h, rfl⟩
theorem Eqv.norm (z : Int) {d : Nat} (h : 0 < d) : Eqv (rn z d) (rd z d) z d := ⟨rd_pos z h, h, rn_mul z d⟩
theorem Eqv.symm {n x : Int} {d y : Nat} (h : Eqv n d x y) : Eqv x y n d := ⟨h.yp, h.dp, h.e.symm⟩
theorem Eqv.trans {n x p : Int} {d y q : Nat} (h : Eqv n d x y) (k : Eqv x y p q) : Eqv n d p q := by
  refine ⟨h.dp, k.yp, ?_⟩
  have h1 := h.e
  have h2 := k.e
  have hy : (y : Int) ≠ 0 := by have := h.yp; omega
  refine Int.eq_of_mul_eq_mul_right hy ?_
  calc n * (q : Int) * y = n * (y : Int) * q := by grind
    _ = x * (q : Int) * d := by rw [h1]; grind
    _ = p * (d : Int) * y := by rw [h2]; grind
theorem Eqv.add {n x n' x' : Int} {d y d' y' : Nat} (h : Eqv n d x y) (k : Eqv n' d' x' y') : Eqv (n * (d' : Int) + n' * (d : Int)) (d * d') (x * (y' : Int) + x' * (y : Int)) (y * y') := by
  refine ⟨Nat.mul_pos h.dp k.dp, Nat.mul_pos h.yp k.yp, ?_⟩
  have h1 := h.e
  have h2 := k.e
  rw [Int.natCast_mul, Int.natCast_mul]
  have e1 : (n * (d' : Int) + n' * (d : Int)) * ((y : Int) * y') = n * y * (d' * y') + n' * y' * (d * y) := by grind
  have e2 : (x * (y' : Int) + x' * (y : Int)) * ((d : Int) * d') = x * d * (d' * y') + x' * d' * (d * y) := by grind
  rw [e1, e2, h1, h2]
theorem Eqv.neg {n x : Int} {d y : Nat} (h : Eqv n d x y) : Eqv (-n) d (-x) y := ⟨h.dp, h.yp, by rw [Int.neg_mul, Int.neg_mul, h.e]⟩
theorem cmpZ_scale {k : Int} (hk : 0 < k) (a b : Int) : cmpZ (a * k) (b * k) = cmpZ a b := by
  unfold cmpZ
  by_cases h : a < b
  · rw [if_pos h, if_pos (Int.mul_lt_mul_of_pos_right h hk)]
  · have h1 : ¬ a * k < b * k := fun hc => h (Int.lt_of_mul_lt_mul_right hc (Int.le_of_lt hk))
    rw [if_neg h, if_neg h1]
    by_cases h2 : b < a
    · rw [if_pos h2, if_pos (Int.mul_lt_mul_of_pos_right h2 hk)]
    · have h3 : ¬ b * k < a * k := fun hc => h2 (Int.lt_of_mul_lt_mul_right hc (Int.le_of_lt hk))
      rw [if_neg h2, if_neg h3]
theorem Eqv.cmp {n x n' x' : Int} {d y d' y' : Nat} (h : Eqv n d x y) (k : Eqv n' d' x' y') : cmpZ (n * (d' : Int)) (n' * (d : Int)) = cmpZ (x * (y' : Int)) (x' * (y : Int)) := by
  have p1 : (0 : Int) < (y : Int) * y' := Int.mul_pos (by have := h.yp; omega) (by have := k.yp; omega)
  have p2 : (0 : Int) < (d : Int) * d' := Int.mul_pos (by have := h.dp; omega) (by have := k.dp; omega)
  rw [← cmpZ_scale p1, ← cmpZ_scale p2 (x * (y' : Int))]
  have h1 := h.e
  have h2 := k.e
  have e1 : n * (d' : Int) * ((y : Int) * y') = n * y * (d' * y') := by grind
  have e2 : x * (y' : Int) * ((d : Int) * d') = x * d * (d' * y') := by grind
  have e3 : n' * (d : Int) * ((y : Int) * y') = n' * y' * (d * y) := by grind
  have e4 : x' * (y : Int) * ((d : Int) * d') = x' * d' * (d * y) := by grind
  rw [e1, e2, e3, e4, h1, h2]
theorem nlen_rn (z : Int) (d : Nat) : nlen (rn z d).natAbs ≤ nlen z.natAbs := nlen_mono (by rw [rn_abs]; exact Nat.div_le_self _ _)
theorem nlen_rd (z : Int) (d : Nat) : nlen (rd z d) ≤ nlen d := nlen_mono (Nat.div_le_self _ _)
/-! The arithmetic of rounding. -/
end Go.Proofs.YtfchbehmeppckaaGreat

/- The document's ratios (examboardref03), by the engine. -/
set_option linter.unusedSimpArgs false
set_option linter.unusedVariables false
namespace Go.Proofs.YtfchbehmeppckaaGreat
open Go.RowKit Lim

/-- An argument that stands for a ratio, in limbs, not too long. -/
def DR (a : AV) (z : Int) (d : Nat) : Prop := ∃ t l m, a = ratA t l m ∧ Dig l ∧ Dig m ∧ sg t (val l) = z ∧ val m = d ∧ l.length < 100000000 ∧ m.length < 100000000
theorem dR (z : Int) (d : Nat) (h : nlen z.natAbs < 100000000) (h2 : nlen d < 100000000) : DR (ratN z d) z d := ⟨_, _, _, rfl, dig_limbs _, dig_limbs _, by rw [val_limbs]; exact sg_norm z, val_limbs d, h, h2⟩
theorem DR.n1 {a : AV} {z : Int} {d : Nat} (h : DR a z d) : nlen z.natAbs < 100000000 ∧ nlen d < 100000000 := by
  obtain ⟨t, l, m, _, h1, h2, rfl, rfl, h3, h4⟩ := h
  rw [sg_natAbs]
  have := nlen_val h1
  have := nlen_val h2
  omega
theorem DI.n1 {a : AV} {z : Int} (h : DI a z) : nlen z.natAbs < 1000000000 := by
  obtain ⟨t, l, _, h1, rfl, h3⟩ := h
  rw [sg_natAbs]
  have := nlen_val h1
  omega
theorem DN.n1 {a : AV} {n : Nat} (h : DN a n) : nlen n < 1000000000 := by
  obtain ⟨l, _, h1, rfl, h3⟩ := h
  have := nlen_val h1
  omega
theorem ratN_zero : ratN 0 1 = .agg [boo false, .nat [], natN 1] := by simp [limbs_zero]
theorem bits_zero {n : Nat} (h : n = 0) : (((bitsN n : Nat) : Int) == 0) = true := by rw [h, bitsN_zero]; rfl
theorem bits_pos {n : Nat} (h : n ≠ 0) : (((bitsN n : Nat) : Int) == 0) = false := by
  have := bitsN_pos (show 0 < n by omega)
  rw [beq_eq_false_iff_ne]
  omega
theorem sg_false (n : Nat) : sg false n = (n : Int) := rfl
theorem r3zero_c : AT 120 [] (ratN 0 1) := by
  rw [ratN_zero]
  refine ACalls.of ⟨1, []⟩ (fn := Tryz.f120) Tryz.func120 rfl rfl rfl (by kernel_rfl) (by kernel_rfl) (Nat.le_of_ble_eq_true rfl) ?_
  simp -implicitDefEqProofs only [go_sem, awp_seq, Nat.reduceBNe, Nat.reduceBEq, Nat.reduceAdd, Nat.reduceSub, Nat.reduceMul, Nat.reduceLeDiff, Nat.reduceLT, Nat.reduceEqDiff, Nat.reduceBneDiff]
  refine callA_tt (r1of_c 1 (by omega)) ?_
  simp -implicitDefEqProofs only [go_sem, awp_seq, Nat.reduceBNe, Nat.reduceBEq, Nat.reduceAdd, Nat.reduceSub, Nat.reduceMul, Nat.reduceLeDiff, Nat.reduceLT, Nat.reduceEqDiff, Nat.reduceBneDiff]
theorem r3top_c {a : AV} {z : Int} {d : Nat} (ha : DR a z d) : AT 47 [a] (intN (pz z d)) := by
  obtain ⟨t, l, m, rfl, hl, hm, rfl, rfl, h1, h2⟩ := ha
  by_cases h0 : val m = 0
  · have f1 := bits_zero h0
    have e : pz (sg t (val l)) (val m) = 0 := by unfold pz; rw [if_pos h0]
    rw [e]
    refine ACalls.of ⟨3, []⟩ (fn := Tryz.f47) Tryz.func47 rfl rfl rfl (by kernel_rfl) (by kernel_rfl) (Nat.le_of_ble_eq_true rfl) ?_
    simp -implicitDefEqProofs only [go_sem, awp_seq, Nat.reduceBNe, Nat.reduceBEq, Nat.reduceAdd, Nat.reduceSub, Nat.reduceMul, Nat.reduceLeDiff, Nat.reduceLT, Nat.reduceEqDiff, Nat.reduceBneDiff]
    refine callA_tt (r1bits_c m hm (by omega)) ?_
    simp -implicitDefEqProofs only [f1, go_sem, awp_seq, Nat.reduceBNe, Nat.reduceBEq, Nat.reduceAdd, Nat.reduceSub, Nat.reduceMul, Nat.reduceLeDiff, Nat.reduceLT, Nat.reduceEqDiff, Nat.reduceBneDiff]
    refine callA_tt (r2of_c 0 (by omega) (by omega)) ?_
    simp -implicitDefEqProofs only [go_sem, awp_seq, Nat.reduceBNe, Nat.reduceBEq, Nat.reduceAdd, Nat.reduceSub, Nat.reduceMul, Nat.reduceLeDiff, Nat.reduceLT, Nat.reduceEqDiff, Nat.reduceBneDiff]
  · have f1 := bits_pos h0
    have e : pz (sg t (val l)) (val m) = sg t (val l) := by unfold pz; rw [if_neg h0]
    rw [e]
    refine ACalls.of ⟨3, []⟩ (fn := Tryz.f47) Tryz.func47 rfl rfl rfl (by kernel_rfl) (by kernel_rfl) (Nat.le_of_ble_eq_true rfl) ?_
    simp -implicitDefEqProofs only [go_sem, awp_seq, Nat.reduceBNe, Nat.reduceBEq, Nat.reduceAdd, Nat.reduceSub, Nat.reduceMul, Nat.reduceLeDiff, Nat.reduceLT, Nat.reduceEqDiff, Nat.reduceBneDiff]
    refine callA_tt (r1bits_c m hm (by omega)) ?_
    simp -implicitDefEqProofs only [f1, go_sem, awp_seq, Nat.reduceBNe, Nat.reduceBEq, Nat.reduceAdd, Nat.reduceSub, Nat.reduceMul, Nat.reduceLeDiff, Nat.reduceLT, Nat.reduceEqDiff, Nat.reduceBneDiff]
    refine callA_tt (r2norm_c ⟨t, l, rfl, hl, rfl, by omega⟩) ?_
    simp -implicitDefEqProofs only [go_sem, awp_seq, Nat.reduceBNe, Nat.reduceBEq, Nat.reduceAdd, Nat.reduceSub, Nat.reduceMul, Nat.reduceLeDiff, Nat.reduceLT, Nat.reduceEqDiff, Nat.reduceBneDiff]
theorem r3low_c {a : AV} {z : Int} {d : Nat} (ha : DR a z d) : AT 53 [a] (natN (pd d)) := by
  obtain ⟨t, l, m, rfl, hl, hm, rfl, rfl, h1, h2⟩ := ha
  by_cases h0 : val m = 0
  · have f1 := bits_zero h0
    have e : pd (val m) = 1 := by unfold pd; rw [if_pos h0]
    rw [e]
    refine ACalls.of ⟨3, []⟩ (fn := Tryz.f53) Tryz.func53 rfl rfl rfl (by kernel_rfl) (by kernel_rfl) (Nat.le_of_ble_eq_true rfl) ?_
    simp -implicitDefEqProofs only [go_sem, awp_seq, Nat.reduceBNe, Nat.reduceBEq, Nat.reduceAdd, Nat.reduceSub, Nat.reduceMul, Nat.reduceLeDiff, Nat.reduceLT, Nat.reduceEqDiff, Nat.reduceBneDiff]
    refine callA_tt (r1bits_c m hm (by omega)) ?_
    simp -implicitDefEqProofs only [f1, go_sem, awp_seq, Nat.reduceBNe, Nat.reduceBEq, Nat.reduceAdd, Nat.reduceSub, Nat.reduceMul, Nat.reduceLeDiff, Nat.reduceLT, Nat.reduceEqDiff, Nat.reduceBneDiff]
    refine callA_tt (r1of_c 1 (by omega)) ?_
    simp -implicitDefEqProofs only [go_sem, awp_seq, Nat.reduceBNe, Nat.reduceBEq, Nat.reduceAdd, Nat.reduceSub, Nat.reduceMul, Nat.reduceLeDiff, Nat.reduceLT, Nat.reduceEqDiff, Nat.reduceBneDiff]
  · have f1 := bits_pos h0
    have e : pd (val m) = val m := by unfold pd; rw [if_neg h0]
    rw [e]
    refine ACalls.of ⟨3, []⟩ (fn := Tryz.f53) Tryz.func53 rfl rfl rfl (by kernel_rfl) (by kernel_rfl) (Nat.le_of_ble_eq_true rfl) ?_
    simp -implicitDefEqProofs only [go_sem, awp_seq, Nat.reduceBNe, Nat.reduceBEq, Nat.reduceAdd, Nat.reduceSub, Nat.reduceMul, Nat.reduceLeDiff, Nat.reduceLT, Nat.reduceEqDiff, Nat.reduceBneDiff]
    refine callA_tt (r1bits_c m hm (by omega)) ?_
    simp -implicitDefEqProofs only [f1, go_sem, awp_seq, Nat.reduceBNe, Nat.reduceBEq, Nat.reduceAdd, Nat.reduceSub, Nat.reduceMul, Nat.reduceLeDiff, Nat.reduceLT, Nat.reduceEqDiff, Nat.reduceBneDiff]
    refine callA_tt (r1norm_c m hm (by omega)) ?_
    simp -implicitDefEqProofs only [go_sem, awp_seq, Nat.reduceBNe, Nat.reduceBEq, Nat.reduceAdd, Nat.reduceSub, Nat.reduceMul, Nat.reduceLeDiff, Nat.reduceLT, Nat.reduceEqDiff, Nat.reduceBneDiff]
theorem r3reduce_c {a b : AV} {z : Int} {d : Nat} (ha : DI a z) (hb : DN b d) (hd0 : 0 < d) : AT 109 [a, b] (ratN (rn z d) (rd z d)) := by
  have s1 := r2norm_c ha
  have n1 := ha.n1
  have n2 := hb.n1
  obtain ⟨t, l, rfl, hl, hz, h1⟩ := ha
  obtain ⟨m, rfl, hm, rfl, h2⟩ := hb
  have hg : 0 < Nat.gcd z.natAbs (val m) := Nat.gcd_pos_of_pos_right _ hd0
  have ng : nlen (Nat.gcd z.natAbs (val m)) ≤ nlen (val m) := nlen_mono (Nat.le_of_dvd hd0 (Nat.gcd_dvd_right _ _))
  by_cases h0 : z.natAbs = 0
  · have f1 := bits_zero h0
    have z0 : z = 0 := by omega
    have e1 : rn z (val m) = 0 := by rw [z0]; simp [rn, sg]
    have e2 : rd z (val m) = 1 := by rw [z0]; simp only [rd, Int.natAbs_zero, Nat.gcd_zero_left]; exact Nat.div_self hd0
    rw [e1, e2]
    refine ACalls.of ⟨11, []⟩ (fn := Tryz.f109) Tryz.func109 rfl rfl rfl (by kernel_rfl) (by kernel_rfl) (Nat.le_of_ble_eq_true rfl) ?_
    simp -implicitDefEqProofs only [go_sem, awp_seq, Nat.reduceBNe, Nat.reduceBEq, Nat.reduceAdd, Nat.reduceSub, Nat.reduceMul, Nat.reduceLeDiff, Nat.reduceLT, Nat.reduceEqDiff, Nat.reduceBneDiff]
    refine callA_tt s1 ?_
    simp -implicitDefEqProofs only [intN, go_sem, awp_seq, Nat.reduceBNe, Nat.reduceBEq, Nat.reduceAdd, Nat.reduceSub, Nat.reduceMul, Nat.reduceLeDiff, Nat.reduceLT, Nat.reduceEqDiff, Nat.reduceBneDiff]
    refine callA_tt (r1bits_c _ (dig_limbs z.natAbs) (by show nlen _ < _; omega)) ?_
    simp -implicitDefEqProofs only [val_limbs, f1, go_sem, awp_seq, Nat.reduceBNe, Nat.reduceBEq, Nat.reduceAdd, Nat.reduceSub, Nat.reduceMul, Nat.reduceLeDiff, Nat.reduceLT, Nat.reduceEqDiff, Nat.reduceBneDiff]
    refine callA_tt r3zero_c ?_
    simp -implicitDefEqProofs only [go_sem, awp_seq, Nat.reduceBNe, Nat.reduceBEq, Nat.reduceAdd, Nat.reduceSub, Nat.reduceMul, Nat.reduceLeDiff, Nat.reduceLT, Nat.reduceEqDiff, Nat.reduceBneDiff]
  · have f1 := bits_pos h0
    have e1 : sg (decide (z < 0)) (z.natAbs / Nat.gcd z.natAbs (val m)) = rn z (val m) := rfl
    have e2 : val m / Nat.gcd z.natAbs (val m) = rd z (val m) := rfl
    have nq := nlen_div z.natAbs (Nat.gcd z.natAbs (val m))
    refine ACalls.of ⟨11, []⟩ (fn := Tryz.f109) Tryz.func109 rfl rfl rfl (by kernel_rfl) (by kernel_rfl) (Nat.le_of_ble_eq_true rfl) ?_
    simp -implicitDefEqProofs only [go_sem, awp_seq, Nat.reduceBNe, Nat.reduceBEq, Nat.reduceAdd, Nat.reduceSub, Nat.reduceMul, Nat.reduceLeDiff, Nat.reduceLT, Nat.reduceEqDiff, Nat.reduceBneDiff]
    refine callA_tt s1 ?_
    simp -implicitDefEqProofs only [intN, go_sem, awp_seq, Nat.reduceBNe, Nat.reduceBEq, Nat.reduceAdd, Nat.reduceSub, Nat.reduceMul, Nat.reduceLeDiff, Nat.reduceLT, Nat.reduceEqDiff, Nat.reduceBneDiff]
    refine callA_tt (r1bits_c _ (dig_limbs z.natAbs) (by show nlen _ < _; omega)) ?_
    simp -implicitDefEqProofs only [val_limbs, f1, go_sem, awp_seq, Nat.reduceBNe, Nat.reduceBEq, Nat.reduceAdd, Nat.reduceSub, Nat.reduceMul, Nat.reduceLeDiff, Nat.reduceLT, Nat.reduceEqDiff, Nat.reduceBneDiff]
    refine callA_tt (r1gcd_c _ _ (dig_limbs z.natAbs) hm (by show nlen _ < _; omega) (by omega)) ?_
    simp -implicitDefEqProofs only [val_limbs, natN, go_sem, awp_seq, Nat.reduceBNe, Nat.reduceBEq, Nat.reduceAdd, Nat.reduceSub, Nat.reduceMul, Nat.reduceLeDiff, Nat.reduceLT, Nat.reduceEqDiff, Nat.reduceBneDiff]
    refine callA_tt (r1div_c _ _ (dig_limbs z.natAbs) (dig_limbs _) (by show nlen _ < _; omega) (by show nlen _ < _; omega) (by rw [val_limbs]; exact hg)) ?_
    simp -implicitDefEqProofs only [val_limbs, natN, go_sem, awp_seq, Nat.reduceBNe, Nat.reduceBEq, Nat.reduceAdd, Nat.reduceSub, Nat.reduceMul, Nat.reduceLeDiff, Nat.reduceLT, Nat.reduceEqDiff, Nat.reduceBneDiff]
    refine callA_tt (r1div_c _ _ hm (dig_limbs _) (by omega) (by show nlen _ < _; omega) (by rw [val_limbs]; exact hg)) ?_
    simp -implicitDefEqProofs only [val_limbs, natN, go_sem, awp_seq, Nat.reduceBNe, Nat.reduceBEq, Nat.reduceAdd, Nat.reduceSub, Nat.reduceMul, Nat.reduceLeDiff, Nat.reduceLT, Nat.reduceEqDiff, Nat.reduceBneDiff]
    refine callA_tt (r2make_c (decide (z < 0)) (dN _ (by omega))) ?_
    simp -implicitDefEqProofs only [e1, e2, intN, go_sem, awp_seq, Nat.reduceBNe, Nat.reduceBEq, Nat.reduceAdd, Nat.reduceSub, Nat.reduceMul, Nat.reduceLeDiff, Nat.reduceLT, Nat.reduceEqDiff, Nat.reduceBneDiff]
theorem r3sign_c {a : AV} {z : Int} {d : Nat} (ha : DR a z d) : AT 27 [a] (i64 (sgnI (pz z d))) := by
  have s1 := r3top_c ha
  have n1 := ha.n1
  have n2 := nlen_pz' z d
  obtain ⟨t, l, m, rfl, _⟩ := ha
  refine ACalls.of ⟨3, []⟩ (fn := Tryz.f27) Tryz.func27 rfl rfl rfl (by kernel_rfl) (by kernel_rfl) (Nat.le_of_ble_eq_true rfl) ?_
  simp -implicitDefEqProofs only [go_sem, awp_seq, Nat.reduceBNe, Nat.reduceBEq, Nat.reduceAdd, Nat.reduceSub, Nat.reduceMul, Nat.reduceLeDiff, Nat.reduceLT, Nat.reduceEqDiff, Nat.reduceBneDiff]
  refine callA_tt s1 ?_
  simp -implicitDefEqProofs only [intN, go_sem, awp_seq, Nat.reduceBNe, Nat.reduceBEq, Nat.reduceAdd, Nat.reduceSub, Nat.reduceMul, Nat.reduceLeDiff, Nat.reduceLT, Nat.reduceEqDiff, Nat.reduceBneDiff]
  refine callA_tt (r2sign_c (dI (pz z d) (by omega))) ?_
  simp -implicitDefEqProofs only [go_sem, awp_seq, Nat.reduceBNe, Nat.reduceBEq, Nat.reduceAdd, Nat.reduceSub, Nat.reduceMul, Nat.reduceLeDiff, Nat.reduceLT, Nat.reduceEqDiff, Nat.reduceBneDiff]
theorem nlen_mulZ (a : Int) (b : Nat) : nlen (a * (b : Int)).natAbs ≤ nlen a.natAbs + nlen b := by
  rw [Int.natAbs_mul, Int.natAbs_natCast]
  exact nlen_mul _ _
theorem r3cmp_c {a b : AV} {z y : Int} {d f : Nat} (ha : DR a z d) (hb : DR b y f) : AT 35 [a, b] (i64 (cmpZ (pz z d * (pd f : Int)) (pz y f * (pd d : Int)))) := by
  have t1 := r3top_c ha
  have t2 := r3top_c hb
  have l1 := r3low_c ha
  have l2 := r3low_c hb
  have n1 := ha.n1
  have n2 := hb.n1
  have p1 := nlen_pz' z d
  have p2 := nlen_pz' y f
  have q1 := nlen_pd' d
  have q2 := nlen_pd' f
  have m1 := nlen_mulZ (pz z d) (pd f)
  have m2 := nlen_mulZ (pz y f) (pd d)
  obtain ⟨_, _, _, rfl, _⟩ := ha
  obtain ⟨_, _, _, rfl, _⟩ := hb
  refine ACalls.of ⟨7, []⟩ (fn := Tryz.f35) Tryz.func35 rfl rfl rfl (by kernel_rfl) (by kernel_rfl) (Nat.le_of_ble_eq_true rfl) ?_
  simp -implicitDefEqProofs only [go_sem, awp_seq, Nat.reduceBNe, Nat.reduceBEq, Nat.reduceAdd, Nat.reduceSub, Nat.reduceMul, Nat.reduceLeDiff, Nat.reduceLT, Nat.reduceEqDiff, Nat.reduceBneDiff]
  refine callA_tt t1 ?_
  simp -implicitDefEqProofs only [go_sem, awp_seq, Nat.reduceBNe, Nat.reduceBEq, Nat.reduceAdd, Nat.reduceSub, Nat.reduceMul, Nat.reduceLeDiff, Nat.reduceLT, Nat.reduceEqDiff, Nat.reduceBneDiff]
  refine callA_tt l2 ?_
  simp -implicitDefEqProofs only [go_sem, awp_seq, Nat.reduceBNe, Nat.reduceBEq, Nat.reduceAdd, Nat.reduceSub, Nat.reduceMul, Nat.reduceLeDiff, Nat.reduceLT, Nat.reduceEqDiff, Nat.reduceBneDiff]
  refine callA_tt (r2make_c false (dN _ (by omega))) ?_
  simp -implicitDefEqProofs only [sg_false, go_sem, awp_seq, Nat.reduceBNe, Nat.reduceBEq, Nat.reduceAdd, Nat.reduceSub, Nat.reduceMul, Nat.reduceLeDiff, Nat.reduceLT, Nat.reduceEqDiff, Nat.reduceBneDiff]
  refine callA_tt (r2mul_c (dI (pz z d) (by omega)) (dI (pd f : Int) (by rw [Int.natAbs_natCast]; omega)) (by rw [Int.natAbs_natCast]; omega)) ?_
  simp -implicitDefEqProofs only [go_sem, awp_seq, Nat.reduceBNe, Nat.reduceBEq, Nat.reduceAdd, Nat.reduceSub, Nat.reduceMul, Nat.reduceLeDiff, Nat.reduceLT, Nat.reduceEqDiff, Nat.reduceBneDiff]
  refine callA_tt t2 ?_
  simp -implicitDefEqProofs only [go_sem, awp_seq, Nat.reduceBNe, Nat.reduceBEq, Nat.reduceAdd, Nat.reduceSub, Nat.reduceMul, Nat.reduceLeDiff, Nat.reduceLT, Nat.reduceEqDiff, Nat.reduceBneDiff]
  refine callA_tt l1 ?_
  simp -implicitDefEqProofs only [go_sem, awp_seq, Nat.reduceBNe, Nat.reduceBEq, Nat.reduceAdd, Nat.reduceSub, Nat.reduceMul, Nat.reduceLeDiff, Nat.reduceLT, Nat.reduceEqDiff, Nat.reduceBneDiff]
  refine callA_tt (r2make_c false (dN _ (by omega))) ?_
  simp -implicitDefEqProofs only [sg_false, go_sem, awp_seq, Nat.reduceBNe, Nat.reduceBEq, Nat.reduceAdd, Nat.reduceSub, Nat.reduceMul, Nat.reduceLeDiff, Nat.reduceLT, Nat.reduceEqDiff, Nat.reduceBneDiff]
  refine callA_tt (r2mul_c (dI (pz y f) (by omega)) (dI (pd d : Int) (by rw [Int.natAbs_natCast]; omega)) (by rw [Int.natAbs_natCast]; omega)) ?_
  simp -implicitDefEqProofs only [go_sem, awp_seq, Nat.reduceBNe, Nat.reduceBEq, Nat.reduceAdd, Nat.reduceSub, Nat.reduceMul, Nat.reduceLeDiff, Nat.reduceLT, Nat.reduceEqDiff, Nat.reduceBneDiff]
  refine callA_tt (r2cmp_c (dI _ (by omega)) (dI _ (by omega))) ?_
  simp -implicitDefEqProofs only [go_sem, awp_seq, Nat.reduceBNe, Nat.reduceBEq, Nat.reduceAdd, Nat.reduceSub, Nat.reduceMul, Nat.reduceLeDiff, Nat.reduceLT, Nat.reduceEqDiff, Nat.reduceBneDiff]
theorem r3add_c {a b : AV} {z y : Int} {d f : Nat} (ha : DR a z d) (hb : DR b y f) : AT 105 [a, b] (ratN (rn (pz z d * (pd f : Int) + pz y f * (pd d : Int)) (pd d * pd f)) (rd (pz z d * (pd f : Int) + pz y f * (pd d : Int)) (pd d * pd f))) := by
  have t1 := r3top_c ha
  have t2 := r3top_c hb
  have l1 := r3low_c ha
  have l2 := r3low_c hb
  have n1 := ha.n1
  have n2 := hb.n1
  have p1 := nlen_pz' z d
  have p2 := nlen_pz' y f
  have q1 := nlen_pd' d
  have q2 := nlen_pd' f
  have m1 := nlen_mulZ (pz z d) (pd f)
  have m2 := nlen_mulZ (pz y f) (pd d)
  have m3 := nlen_mul (pd d) (pd f)
  have m4 : nlen (pz z d * (pd f : Int) + pz y f * (pd d : Int)).natAbs ≤ max (nlen (pz z d * (pd f : Int)).natAbs) (nlen (pz y f * (pd d : Int)).natAbs) + 1 := Nat.le_trans (nlen_mono (Int.natAbs_add_le _ _)) (nlen_add _ _)
  have h0 : 0 < pd d * pd f := Nat.mul_pos (pd_pos _) (pd_pos _)
  obtain ⟨_, _, _, rfl, _⟩ := ha
  obtain ⟨_, _, _, rfl, _⟩ := hb
  refine ACalls.of ⟨7, []⟩ (fn := Tryz.f105) Tryz.func105 rfl rfl rfl (by kernel_rfl) (by kernel_rfl) (Nat.le_of_ble_eq_true rfl) ?_
  simp -implicitDefEqProofs only [go_sem, awp_seq, Nat.reduceBNe, Nat.reduceBEq, Nat.reduceAdd, Nat.reduceSub, Nat.reduceMul, Nat.reduceLeDiff, Nat.reduceLT, Nat.reduceEqDiff, Nat.reduceBneDiff]
  refine callA_tt t1 ?_
  simp -implicitDefEqProofs only [go_sem, awp_seq, Nat.reduceBNe, Nat.reduceBEq, Nat.reduceAdd, Nat.reduceSub, Nat.reduceMul, Nat.reduceLeDiff, Nat.reduceLT, Nat.reduceEqDiff, Nat.reduceBneDiff]
  refine callA_tt l2 ?_
  simp -implicitDefEqProofs only [go_sem, awp_seq, Nat.reduceBNe, Nat.reduceBEq, Nat.reduceAdd, Nat.reduceSub, Nat.reduceMul, Nat.reduceLeDiff, Nat.reduceLT, Nat.reduceEqDiff, Nat.reduceBneDiff]
  refine callA_tt (r2make_c false (dN _ (by omega))) ?_
  simp -implicitDefEqProofs only [sg_false, go_sem, awp_seq, Nat.reduceBNe, Nat.reduceBEq, Nat.reduceAdd, Nat.reduceSub, Nat.reduceMul, Nat.reduceLeDiff, Nat.reduceLT, Nat.reduceEqDiff, Nat.reduceBneDiff]
  refine callA_tt (r2mul_c (dI (pz z d) (by omega)) (dI (pd f : Int) (by rw [Int.natAbs_natCast]; omega)) (by rw [Int.natAbs_natCast]; omega)) ?_
  simp -implicitDefEqProofs only [go_sem, awp_seq, Nat.reduceBNe, Nat.reduceBEq, Nat.reduceAdd, Nat.reduceSub, Nat.reduceMul, Nat.reduceLeDiff, Nat.reduceLT, Nat.reduceEqDiff, Nat.reduceBneDiff]
  refine callA_tt t2 ?_
  simp -implicitDefEqProofs only [go_sem, awp_seq, Nat.reduceBNe, Nat.reduceBEq, Nat.reduceAdd, Nat.reduceSub, Nat.reduceMul, Nat.reduceLeDiff, Nat.reduceLT, Nat.reduceEqDiff, Nat.reduceBneDiff]
  refine callA_tt l1 ?_
  simp -implicitDefEqProofs only [go_sem, awp_seq, Nat.reduceBNe, Nat.reduceBEq, Nat.reduceAdd, Nat.reduceSub, Nat.reduceMul, Nat.reduceLeDiff, Nat.reduceLT, Nat.reduceEqDiff, Nat.reduceBneDiff]
  refine callA_tt (r2make_c false (dN _ (by omega))) ?_
  simp -implicitDefEqProofs only [sg_false, go_sem, awp_seq, Nat.reduceBNe, Nat.reduceBEq, Nat.reduceAdd, Nat.reduceSub, Nat.reduceMul, Nat.reduceLeDiff, Nat.reduceLT, Nat.reduceEqDiff, Nat.reduceBneDiff]
  refine callA_tt (r2mul_c (dI (pz y f) (by omega)) (dI (pd d : Int) (by rw [Int.natAbs_natCast]; omega)) (by rw [Int.natAbs_natCast]; omega)) ?_
  simp -implicitDefEqProofs only [go_sem, awp_seq, Nat.reduceBNe, Nat.reduceBEq, Nat.reduceAdd, Nat.reduceSub, Nat.reduceMul, Nat.reduceLeDiff, Nat.reduceLT, Nat.reduceEqDiff, Nat.reduceBneDiff]
  refine callA_tt (r2add_c (dI _ (by omega)) (dI _ (by omega)) (by omega)) ?_
  simp -implicitDefEqProofs only [go_sem, awp_seq, Nat.reduceBNe, Nat.reduceBEq, Nat.reduceAdd, Nat.reduceSub, Nat.reduceMul, Nat.reduceLeDiff, Nat.reduceLT, Nat.reduceEqDiff, Nat.reduceBneDiff]
  refine callA_tt l1 ?_
  simp -implicitDefEqProofs only [go_sem, awp_seq, Nat.reduceBNe, Nat.reduceBEq, Nat.reduceAdd, Nat.reduceSub, Nat.reduceMul, Nat.reduceLeDiff, Nat.reduceLT, Nat.reduceEqDiff, Nat.reduceBneDiff]
  refine callA_tt l2 ?_
  simp -implicitDefEqProofs only [go_sem, awp_seq, Nat.reduceBNe, Nat.reduceBEq, Nat.reduceAdd, Nat.reduceSub, Nat.reduceMul, Nat.reduceLeDiff, Nat.reduceLT, Nat.reduceEqDiff, Nat.reduceBneDiff]
  refine callA_tt (r1mul_c _ _ (dig_limbs _) (dig_limbs _) (by show nlen _ + nlen _ < _; omega)) ?_
  simp -implicitDefEqProofs only [val_limbs, go_sem, awp_seq, Nat.reduceBNe, Nat.reduceBEq, Nat.reduceAdd, Nat.reduceSub, Nat.reduceMul, Nat.reduceLeDiff, Nat.reduceLT, Nat.reduceEqDiff, Nat.reduceBneDiff]
  refine callA_tt (r3reduce_c (dI _ (by omega)) (dN _ (by omega)) h0) ?_
  simp -implicitDefEqProofs only [go_sem, awp_seq, Nat.reduceBNe, Nat.reduceBEq, Nat.reduceAdd, Nat.reduceSub, Nat.reduceMul, Nat.reduceLeDiff, Nat.reduceLT, Nat.reduceEqDiff, Nat.reduceBneDiff]
theorem r3mul_c {a b : AV} {z y : Int} {d f : Nat} (ha : DR a z d) (hb : DR b y f) : AT 87 [a, b] (ratN (rn (pz z d * pz y f) (pd d * pd f)) (rd (pz z d * pz y f) (pd d * pd f))) := by
  have t1 := r3top_c ha
  have t2 := r3top_c hb
  have l1 := r3low_c ha
  have l2 := r3low_c hb
  have n1 := ha.n1
  have n2 := hb.n1
  have p1 := nlen_pz' z d
  have p2 := nlen_pz' y f
  have q1 := nlen_pd' d
  have q2 := nlen_pd' f
  have m1 : nlen (pz z d * pz y f).natAbs ≤ nlen (pz z d).natAbs + nlen (pz y f).natAbs := by rw [Int.natAbs_mul]; exact nlen_mul _ _
  have m3 := nlen_mul (pd d) (pd f)
  have h0 : 0 < pd d * pd f := Nat.mul_pos (pd_pos _) (pd_pos _)
  obtain ⟨_, _, _, rfl, _⟩ := ha
  obtain ⟨_, _, _, rfl, _⟩ := hb
  refine ACalls.of ⟨5, []⟩ (fn := Tryz.f87) Tryz.func87 rfl rfl rfl (by kernel_rfl) (by kernel_rfl) (Nat.le_of_ble_eq_true rfl) ?_
  simp -implicitDefEqProofs only [go_sem, awp_seq, Nat.reduceBNe, Nat.reduceBEq, Nat.reduceAdd, Nat.reduceSub, Nat.reduceMul, Nat.reduceLeDiff, Nat.reduceLT, Nat.reduceEqDiff, Nat.reduceBneDiff]
  refine callA_tt t1 ?_
  simp -implicitDefEqProofs only [go_sem, awp_seq, Nat.reduceBNe, Nat.reduceBEq, Nat.reduceAdd, Nat.reduceSub, Nat.reduceMul, Nat.reduceLeDiff, Nat.reduceLT, Nat.reduceEqDiff, Nat.reduceBneDiff]
  refine callA_tt t2 ?_
  simp -implicitDefEqProofs only [go_sem, awp_seq, Nat.reduceBNe, Nat.reduceBEq, Nat.reduceAdd, Nat.reduceSub, Nat.reduceMul, Nat.reduceLeDiff, Nat.reduceLT, Nat.reduceEqDiff, Nat.reduceBneDiff]
  refine callA_tt (r2mul_c (dI (pz z d) (by omega)) (dI (pz y f) (by omega)) (by omega)) ?_
  simp -implicitDefEqProofs only [go_sem, awp_seq, Nat.reduceBNe, Nat.reduceBEq, Nat.reduceAdd, Nat.reduceSub, Nat.reduceMul, Nat.reduceLeDiff, Nat.reduceLT, Nat.reduceEqDiff, Nat.reduceBneDiff]
  refine callA_tt l1 ?_
  simp -implicitDefEqProofs only [go_sem, awp_seq, Nat.reduceBNe, Nat.reduceBEq, Nat.reduceAdd, Nat.reduceSub, Nat.reduceMul, Nat.reduceLeDiff, Nat.reduceLT, Nat.reduceEqDiff, Nat.reduceBneDiff]
  refine callA_tt l2 ?_
  simp -implicitDefEqProofs only [go_sem, awp_seq, Nat.reduceBNe, Nat.reduceBEq, Nat.reduceAdd, Nat.reduceSub, Nat.reduceMul, Nat.reduceLeDiff, Nat.reduceLT, Nat.reduceEqDiff, Nat.reduceBneDiff]
  refine callA_tt (r1mul_c _ _ (dig_limbs _) (dig_limbs _) (by show nlen _ + nlen _ < _; omega)) ?_
  simp -implicitDefEqProofs only [val_limbs, go_sem, awp_seq, Nat.reduceBNe, Nat.reduceBEq, Nat.reduceAdd, Nat.reduceSub, Nat.reduceMul, Nat.reduceLeDiff, Nat.reduceLT, Nat.reduceEqDiff, Nat.reduceBneDiff]
  refine callA_tt (r3reduce_c (dI _ (by omega)) (dN _ (by omega)) h0) ?_
  simp -implicitDefEqProofs only [go_sem, awp_seq, Nat.reduceBNe, Nat.reduceBEq, Nat.reduceAdd, Nat.reduceSub, Nat.reduceMul, Nat.reduceLeDiff, Nat.reduceLT, Nat.reduceEqDiff, Nat.reduceBneDiff]
theorem r3neg_c {a : AV} {z : Int} {d : Nat} (ha : DR a z d) : AT 106 [a] (ratN (rn (-pz z d) (pd d)) (rd (-pz z d) (pd d))) := by
  have t1 := r3top_c ha
  have l1 := r3low_c ha
  have n1 := ha.n1
  have p1 := nlen_pz' z d
  have q1 := nlen_pd' d
  have h0 := pd_pos d
  obtain ⟨_, _, _, rfl, _⟩ := ha
  refine ACalls.of ⟨3, []⟩ (fn := Tryz.f106) Tryz.func106 rfl rfl rfl (by kernel_rfl) (by kernel_rfl) (Nat.le_of_ble_eq_true rfl) ?_
  simp -implicitDefEqProofs only [go_sem, awp_seq, Nat.reduceBNe, Nat.reduceBEq, Nat.reduceAdd, Nat.reduceSub, Nat.reduceMul, Nat.reduceLeDiff, Nat.reduceLT, Nat.reduceEqDiff, Nat.reduceBneDiff]
  refine callA_tt t1 ?_
  simp -implicitDefEqProofs only [go_sem, awp_seq, Nat.reduceBNe, Nat.reduceBEq, Nat.reduceAdd, Nat.reduceSub, Nat.reduceMul, Nat.reduceLeDiff, Nat.reduceLT, Nat.reduceEqDiff, Nat.reduceBneDiff]
  refine callA_tt (r2neg_c (dI (pz z d) (by omega))) ?_
  simp -implicitDefEqProofs only [go_sem, awp_seq, Nat.reduceBNe, Nat.reduceBEq, Nat.reduceAdd, Nat.reduceSub, Nat.reduceMul, Nat.reduceLeDiff, Nat.reduceLT, Nat.reduceEqDiff, Nat.reduceBneDiff]
  refine callA_tt l1 ?_
  simp -implicitDefEqProofs only [go_sem, awp_seq, Nat.reduceBNe, Nat.reduceBEq, Nat.reduceAdd, Nat.reduceSub, Nat.reduceMul, Nat.reduceLeDiff, Nat.reduceLT, Nat.reduceEqDiff, Nat.reduceBneDiff]
  refine callA_tt (r3reduce_c (dI (-pz z d) (by rw [Int.natAbs_neg]; omega)) (dN _ (by omega)) h0) ?_
  simp -implicitDefEqProofs only [go_sem, awp_seq, Nat.reduceBNe, Nat.reduceBEq, Nat.reduceAdd, Nat.reduceSub, Nat.reduceMul, Nat.reduceLeDiff, Nat.reduceLT, Nat.reduceEqDiff, Nat.reduceBneDiff]
theorem r3sub_c {a b : AV} {z y : Int} {d f : Nat} (ha : DR a z d) (hb : DR b y f) (hf : nlen f + 8 < 100000000) : ∃ R G, AT 85 [a, b] (ratN R G) ∧ Eqv R G (pz z d * (pd f : Int) - pz y f * (pd d : Int)) (pd d * pd f) ∧ nlen R.natAbs ≤ nlen z.natAbs + nlen y.natAbs + nlen d + nlen f + 8 ∧ nlen G ≤ nlen d + nlen f + 4 := by
  have s1 := r3neg_c hb
  have n1 := ha.n1
  have n2 := hb.n1
  have p1 := nlen_pz' z d
  have p2 := nlen_pz' y f
  have q1 := nlen_pd' d
  have q2 := nlen_pd' f
  have e1 := Eqv.norm (-pz y f) (pd_pos f)
  have r1 := nlen_rn (-pz y f) (pd f)
  have r2 := nlen_rd (-pz y f) (pd f)
  rw [Int.natAbs_neg] at r1
  generalize rn (-pz y f) (pd f) = u at *
  generalize rd (-pz y f) (pd f) = v at *
  have s2 := r3add_c ha (dR u v (by omega) (by omega))
  rw [pz_pos u e1.dp, pd_id e1.dp] at s2
  have e2 := Eqv.norm (pz z d * (v : Int) + u * (pd d : Int)) (Nat.mul_pos (pd_pos d) e1.dp)
  have e3 := (Eqv.refl (pz z d) (pd_pos d)).add e1
  have e4 := e2.trans e3
  have m1 := nlen_mulZ (pz z d) v
  have m2 := nlen_mulZ u (pd d)
  have m3 := nlen_mul (pd d) v
  have m4 : nlen (pz z d * (v : Int) + u * (pd d : Int)).natAbs ≤ max (nlen (pz z d * (v : Int)).natAbs) (nlen (u * (pd d : Int)).natAbs) + 1 := Nat.le_trans (nlen_mono (Int.natAbs_add_le _ _)) (nlen_add _ _)
  have r3 := nlen_rn (pz z d * (v : Int) + u * (pd d : Int)) (pd d * v)
  have r4 := nlen_rd (pz z d * (v : Int) + u * (pd d : Int)) (pd d * v)
  refine ⟨_, _, ?_, by rw [Int.neg_mul, ← Int.sub_eq_add_neg] at e4; exact e4, by omega, by omega⟩
  obtain ⟨_, _, _, rfl, _⟩ := ha
  obtain ⟨_, _, _, rfl, _⟩ := hb
  refine ACalls.of ⟨5, []⟩ (fn := Tryz.f85) Tryz.func85 rfl rfl rfl (by kernel_rfl) (by kernel_rfl) (Nat.le_of_ble_eq_true rfl) ?_
  simp -implicitDefEqProofs only [go_sem, awp_seq, Nat.reduceBNe, Nat.reduceBEq, Nat.reduceAdd, Nat.reduceSub, Nat.reduceMul, Nat.reduceLeDiff, Nat.reduceLT, Nat.reduceEqDiff, Nat.reduceBneDiff]
  refine callA_tt s1 ?_
  simp -implicitDefEqProofs only [go_sem, awp_seq, Nat.reduceBNe, Nat.reduceBEq, Nat.reduceAdd, Nat.reduceSub, Nat.reduceMul, Nat.reduceLeDiff, Nat.reduceLT, Nat.reduceEqDiff, Nat.reduceBneDiff]
  refine callA_tt s2 ?_
  simp -implicitDefEqProofs only [go_sem, awp_seq, Nat.reduceBNe, Nat.reduceBEq, Nat.reduceAdd, Nat.reduceSub, Nat.reduceMul, Nat.reduceLeDiff, Nat.reduceLT, Nat.reduceEqDiff, Nat.reduceBneDiff]
end Go.Proofs.YtfchbehmeppckaaGreat

/- Chapter 38: small functions of nat, integer, ratio; grids. INTS -/
set_option linter.unusedSimpArgs false
set_option linter.unusedVariables false
namespace Go.Proofs.YtfchbehmeppckaaGreat
open Go.RowKit Lim

abbrev ints (l : List Int) : AV := .sl 1 (l.map (fun x => i64 x))
theorem ntrim_c (l : List Nat) (hd : Dig l) (hl : l.length < 1099511627776) : AC 95 [.nat l] (natN (val l)) := by
  refine AC.mk (by exact ⟨Tryz.f95, Tryz.func95, by kernel_rfl, rfl⟩) fun w Z vs hE hr => ?_
  obtain ⟨_, rfl, h1⟩ := reps1 hr
  obtain ⟨A, c, rfl, hR, hc⟩ := rep_nat h1
  refine (trim_any A c l w hR hc (by omega)).mono ?_
  rintro e w' ⟨rfl, rfl⟩
  have hp := limbs_prefix hd
  have hk : (limbs (val l)).length ≤ l.length := nlen_val hd
  have hR2 : Rd w A (limbs (val l)) := by
    refine ⟨dig_limbs _, fun hpos => ?_⟩
    obtain ⟨b, off, rfl, hb, hcell⟩ := hR.2 (by omega)
    refine ⟨b, off, rfl, hb, fun j hj => ?_⟩
    rw [hcell j (by omega)]
    congr 3
    have : (limbs (val l))[j]? = (l.take (limbs (val l)).length)[j]? := by rw [← hp]
    rw [List.getElem?_take_of_lt hj, List.getElem?_eq_getElem hj, List.getElem?_eq_getElem (show j < l.length by omega)] at this
    exact (Option.some.inj this).symm
  exact ⟨_, rfl, Below.refl _ _, fun _ hz => .nat hR2 (by omega) (rd_zone hz hR2)⟩
theorem len32_c (n : Nat) (hn : n < 4294967296) : AC 117 [.lit (.int .u32 (n : Nat))] (i64 (Lib.bitLen n : Nat)) := by
  refine AC.mk (by exact ⟨Tryz.f117, Tryz.func117, by kernel_rfl, rfl⟩) fun w Z vs hE hr => ?_
  obtain ⟨_, rfl, h1⟩ := reps1 hr
  rw [h1.lit_eq]
  refine (Tryz.bits_Len32 (n : Nat) w (by omega) (by omega)).mono ?_
  rintro e w' ⟨rfl, rfl⟩
  rw [Int.toNat_natCast]
  exact ⟨_, rfl, Below.refl _ _, fun _ hz => .lit rfl⟩
theorem bitLen_pos {n : Nat} (h : 0 < n) : 0 < Lib.bitLen n := by
  unfold Lib.bitLen Lib.bitLenAux
  rw [if_neg (by omega)]
  omega
theorem bitLen_le (n : Nat) : Lib.bitLen n ≤ 64 := by
  have : ∀ f x, Lib.bitLenAux f x ≤ f := by
    intro f
    induction f with
    | zero => intro x; simp [Lib.bitLenAux]
    | succ f ih => intro x; unfold Lib.bitLenAux; split; omega; have := ih (x / 2); omega
  exact this 64 n
theorem nbits_zero (l : List Nat) (hd : Dig l) (hl : l.length < 1099511627776) (h : val l = 0) : AC 102 [.nat l] (i64 0) := by
  refine ACalls.of ⟨3, []⟩ (fn := Tryz.f102) Tryz.func102 rfl rfl rfl (by kernel_rfl) (by kernel_rfl) (Nat.le_of_ble_eq_true rfl) ?_
  simp -implicitDefEqProofs only [go_sem, awp_seq, Nat.reduceBNe, Nat.reduceBEq, Nat.reduceAdd, Nat.reduceSub, Nat.reduceMul, Nat.reduceLeDiff, Nat.reduceLT, Nat.reduceEqDiff, Nat.reduceBneDiff, Int.reduceLE, Int.reduceLT, Int.reduceToNat, Int.reduceBEq, Int.reduceBNe, Int.reduceAdd, Int.reduceSub, Int.cast_ofNat_Int]
  refine callA_mk (ntrim_c l hd hl) ?_
  simp -implicitDefEqProofs only [natN, h, limbs_zero, go_sem, awp_seq, Nat.reduceBNe, Nat.reduceBEq, Nat.reduceAdd, Nat.reduceSub, Nat.reduceMul, Nat.reduceLeDiff, Nat.reduceLT, Nat.reduceEqDiff, Nat.reduceBneDiff, Int.reduceLE, Int.reduceLT, Int.reduceToNat, Int.reduceBEq, Int.reduceBNe, Int.reduceAdd, Int.reduceSub, Int.cast_ofNat_Int]
theorem nbits_pos (l : List Nat) (hd : Dig l) (hl : l.length < 1000000000) (h : val l ≠ 0) : ∃ k : Nat, 0 < k ∧ AC 102 [.nat l] (i64 (k : Nat)) := by
  obtain ⟨lo, top, _, _, ht, ht0, ht1⟩ := limbs_last (show 0 < val l by omega)
  have hlen : 0 < (limbs (val l)).length := by
    cases he : limbs (val l) with
    | nil => have := limbs_eq_nil.1 he; omega
    | cons => simp
  have hk : (limbs (val l)).length ≤ l.length := nlen_val hd
  have h64 := bitLen_le top
  have f1 : ((((limbs (val l)).length : Nat) : Int) == 0) = false := by rw [beq_eq_false_iff_ne]; omega
  have w1 : IntKind.i64.wrap ((((limbs (val l)).length : Nat) : Int) - 1) = (((limbs (val l)).length - 1 : Nat) : Int) := by rw [IntWalk.i64_in _ (by omega)]; omega
  have w2 : IntKind.i64.wrap (32 * (((limbs (val l)).length - 1 : Nat) : Int)) = ((32 * ((limbs (val l)).length - 1) : Nat) : Int) := by rw [IntWalk.i64_in _ (by omega)]; omega
  have w3 : IntKind.i64.wrap (((32 * ((limbs (val l)).length - 1) : Nat) : Int) + ((Lib.bitLen top : Nat) : Int)) = ((32 * ((limbs (val l)).length - 1) + Lib.bitLen top : Nat) : Int) := by rw [IntWalk.i64_in _ (by omega)]; omega
  refine ⟨32 * ((limbs (val l)).length - 1) + Lib.bitLen top, by have := bitLen_pos ht0; omega, ?_⟩
  refine ACalls.of ⟨3, []⟩ (fn := Tryz.f102) Tryz.func102 rfl rfl rfl (by kernel_rfl) (by kernel_rfl) (Nat.le_of_ble_eq_true rfl) ?_
  simp -implicitDefEqProofs only [go_sem, awp_seq, Nat.reduceBNe, Nat.reduceBEq, Nat.reduceAdd, Nat.reduceSub, Nat.reduceMul, Nat.reduceLeDiff, Nat.reduceLT, Nat.reduceEqDiff, Nat.reduceBneDiff, Int.reduceLE, Int.reduceLT, Int.reduceToNat, Int.reduceBEq, Int.reduceBNe, Int.reduceAdd, Int.reduceSub, Int.cast_ofNat_Int]
  refine callA_mk (ntrim_c l hd (by omega)) ?_
  simp -implicitDefEqProofs only [natN, f1, w1, w2, ht, Int.toNat_natCast, Int.natCast_nonneg, go_sem, awp_seq, Nat.reduceBNe, Nat.reduceBEq, Nat.reduceAdd, Nat.reduceSub, Nat.reduceMul, Nat.reduceLeDiff, Nat.reduceLT, Nat.reduceEqDiff, Nat.reduceBneDiff, Int.reduceLE, Int.reduceLT, Int.reduceToNat, Int.reduceBEq, Int.reduceBNe, Int.reduceAdd, Int.reduceSub, Int.cast_ofNat_Int]
  refine callA_mk (len32_c top ht1) ?_
  simp -implicitDefEqProofs only [w3, go_sem, awp_seq, Nat.reduceBNe, Nat.reduceBEq, Nat.reduceAdd, Nat.reduceSub, Nat.reduceMul, Nat.reduceLeDiff, Nat.reduceLT, Nat.reduceEqDiff, Nat.reduceBneDiff, Int.reduceLE, Int.reduceLT, Int.reduceToNat, Int.reduceBEq, Int.reduceBNe, Int.reduceAdd, Int.reduceSub, Int.cast_ofNat_Int]
theorem isub_c {a b : AV} {z y : Int} (ha : IsI a z) (hb : IsI b y) (hl : max (nlen z.natAbs) (nlen y.natAbs) + 1 < 1099511627776) : AC 79 [a, b] (intN (z - y)) := by
  have hn := ineg_c hb
  have hA := iadd_c ha (isI (-y) (by rw [Int.natAbs_neg]; omega)) (by rw [Int.natAbs_neg]; exact hl)
  obtain ⟨t, l, rfl, _⟩ := ha
  obtain ⟨s, m, rfl, _⟩ := hb
  refine ACalls.of ⟨5, []⟩ (fn := Tryz.f79) Tryz.func79 rfl rfl rfl (by kernel_rfl) (by kernel_rfl) (Nat.le_of_ble_eq_true rfl) ?_
  simp -implicitDefEqProofs only [go_sem, awp_seq, Nat.reduceBNe, Nat.reduceBEq, Nat.reduceAdd, Nat.reduceSub, Nat.reduceMul, Nat.reduceLeDiff, Nat.reduceLT, Nat.reduceEqDiff, Nat.reduceBneDiff, Int.reduceLE, Int.reduceLT, Int.reduceToNat, Int.reduceBEq, Int.reduceBNe, Int.reduceAdd, Int.reduceSub, Int.cast_ofNat_Int]
  refine callA_mk hn ?_
  simp -implicitDefEqProofs only [go_sem, awp_seq, Nat.reduceBNe, Nat.reduceBEq, Nat.reduceAdd, Nat.reduceSub, Nat.reduceMul, Nat.reduceLeDiff, Nat.reduceLT, Nat.reduceEqDiff, Nat.reduceBneDiff, Int.reduceLE, Int.reduceLT, Int.reduceToNat, Int.reduceBEq, Int.reduceBNe, Int.reduceAdd, Int.reduceSub, Int.cast_ofNat_Int]
  refine callA_mk hA ?_
  simp -implicitDefEqProofs only [← Int.sub_eq_add_neg, go_sem, awp_seq, Nat.reduceBNe, Nat.reduceBEq, Nat.reduceAdd, Nat.reduceSub, Nat.reduceMul, Nat.reduceLeDiff, Nat.reduceLT, Nat.reduceEqDiff, Nat.reduceBneDiff, Int.reduceLE, Int.reduceLT, Int.reduceToNat, Int.reduceBEq, Int.reduceBNe, Int.reduceAdd, Int.reduceSub, Int.cast_ofNat_Int]
theorem rof_c (z : Int) (d : Nat) (hd : 0 < d) (h1 : -9223372036854775808 ≤ z) (h2 : z ≤ 9223372036854775807) (h3 : d ≤ 9223372036854775807) : AC 43 [i64 z, i64 (d : Nat)] (.tup [ratN (rn z d) (rd z d), boo true]) := by
  have n1 : nlen z.natAbs < 1099511627776 := by
    have : nlen z.natAbs ≤ 2 := nlen_le (by rw [show pw 2 = 18446744073709551616 from rfl]; omega)
    omega
  have n2 : nlen ((d : Int)).natAbs < 1099511627776 := by
    rw [Int.natAbs_natCast]
    have : nlen d ≤ 2 := nlen_le (by rw [show pw 2 = 18446744073709551616 from rfl]; omega)
    omega
  have hm := rmake_c (isI z n1) (isI (d : Int) n2) (by omega)
  have e1 : mz z (d : Int) = z := by unfold mz; rw [if_neg (by omega)]
  rw [e1, Int.natAbs_natCast] at hm
  refine ACalls.of ⟨6, []⟩ (fn := Tryz.f43) Tryz.func43 rfl rfl rfl (by kernel_rfl) (by kernel_rfl) (Nat.le_of_ble_eq_true rfl) ?_
  simp -implicitDefEqProofs only [go_sem, awp_seq, Nat.reduceBNe, Nat.reduceBEq, Nat.reduceAdd, Nat.reduceSub, Nat.reduceMul, Nat.reduceLeDiff, Nat.reduceLT, Nat.reduceEqDiff, Nat.reduceBneDiff, Int.reduceLE, Int.reduceLT, Int.reduceToNat, Int.reduceBEq, Int.reduceBNe, Int.reduceAdd, Int.reduceSub, Int.cast_ofNat_Int]
  refine callA_mk (iof_c z h1 h2) ?_
  simp -implicitDefEqProofs only [go_sem, awp_seq, Nat.reduceBNe, Nat.reduceBEq, Nat.reduceAdd, Nat.reduceSub, Nat.reduceMul, Nat.reduceLeDiff, Nat.reduceLT, Nat.reduceEqDiff, Nat.reduceBneDiff, Int.reduceLE, Int.reduceLT, Int.reduceToNat, Int.reduceBEq, Int.reduceBNe, Int.reduceAdd, Int.reduceSub, Int.cast_ofNat_Int]
  refine callA_mk (iof_c (d : Int) (by omega) (by omega)) ?_
  simp -implicitDefEqProofs only [go_sem, awp_seq, Nat.reduceBNe, Nat.reduceBEq, Nat.reduceAdd, Nat.reduceSub, Nat.reduceMul, Nat.reduceLeDiff, Nat.reduceLT, Nat.reduceEqDiff, Nat.reduceBneDiff, Int.reduceLE, Int.reduceLT, Int.reduceToNat, Int.reduceBEq, Int.reduceBNe, Int.reduceAdd, Int.reduceSub, Int.cast_ofNat_Int]
  refine callA_mk hm ?_
  simp -implicitDefEqProofs only [go_sem, awp_seq, Nat.reduceBNe, Nat.reduceBEq, Nat.reduceAdd, Nat.reduceSub, Nat.reduceMul, Nat.reduceLeDiff, Nat.reduceLT, Nat.reduceEqDiff, Nat.reduceBneDiff, Int.reduceLE, Int.reduceLT, Int.reduceToNat, Int.reduceBEq, Int.reduceBNe, Int.reduceAdd, Int.reduceSub, Int.cast_ofNat_Int]
theorem rsign_c {a : AV} {z : Int} {d : Nat} (ha : IsR a z d) : AC 20 [a] (i64 (sgnI (pz z d))) := by
  obtain ⟨t, l, m, h1, h2, h3⟩ := parts_c ha
  obtain ⟨_, _, _, rfl, _⟩ := ha
  refine ACalls.of ⟨4, []⟩ (fn := Tryz.f20) Tryz.func20 rfl rfl rfl (by kernel_rfl) (by kernel_rfl) (Nat.le_of_ble_eq_true rfl) ?_
  simp -implicitDefEqProofs only [go_sem, awp_seq, Nat.reduceBNe, Nat.reduceBEq, Nat.reduceAdd, Nat.reduceSub, Nat.reduceMul, Nat.reduceLeDiff, Nat.reduceLT, Nat.reduceEqDiff, Nat.reduceBneDiff, Int.reduceLE, Int.reduceLT, Int.reduceToNat, Int.reduceBEq, Int.reduceBNe, Int.reduceAdd, Int.reduceSub, Int.cast_ofNat_Int]
  refine callA_mk h3 ?_
  simp -implicitDefEqProofs only [go_sem, awp_seq, Nat.reduceBNe, Nat.reduceBEq, Nat.reduceAdd, Nat.reduceSub, Nat.reduceMul, Nat.reduceLeDiff, Nat.reduceLT, Nat.reduceEqDiff, Nat.reduceBneDiff, Int.reduceLE, Int.reduceLT, Int.reduceToNat, Int.reduceBEq, Int.reduceBNe, Int.reduceAdd, Int.reduceSub, Int.cast_ofNat_Int]
  refine callA_mk (isign_c h1) ?_
  simp -implicitDefEqProofs only [go_sem, awp_seq, Nat.reduceBNe, Nat.reduceBEq, Nat.reduceAdd, Nat.reduceSub, Nat.reduceMul, Nat.reduceLeDiff, Nat.reduceLT, Nat.reduceEqDiff, Nat.reduceBneDiff, Int.reduceLE, Int.reduceLT, Int.reduceToNat, Int.reduceBEq, Int.reduceBNe, Int.reduceAdd, Int.reduceSub, Int.cast_ofNat_Int]
end Go.Proofs.YtfchbehmeppckaaGreat

/- Chapter 38: grids. INTS -/
set_option linter.unusedSimpArgs false
set_option linter.unusedVariables false
namespace Go.Proofs.YtfchbehmeppckaaGreat
open Go.RowKit Lim

def inR (p q : Int) : Bool := !(decide (p < -1000) || decide (1000 < p) || decide (q < 1) || decide (1000 < q))
/-- The first rule that a grid violates. -/
def gridE (pts prs : List Int) : Int :=
  if 21 < pts.length then 5 else if pts.length = 0 then 20 else if prs.length ≠ pts.length then 1
  else if (List.range pts.length).all (fun i => inR (pts.getD i 0) (prs.getD i 0)) then
    (if (List.range (pts.length - 1)).all (fun i => decide (pts.getD i 0 < pts.getD (i + 1) 0)) then 0 else 23)
  else 3
theorem map_get {α β : Type} (f : α → β) (l : List α) {k : Nat} (h : k < l.length) : (l.map f)[k]? = some (f l[k]) := by simp [h]
theorem getD_get (l : List Int) {k : Nat} (h : k < l.length) : l.getD k 0 = l[k] := by simp [List.getD, h]
abbrev gridA (pts prs : List Int) : AV := .agg [ints pts, ints prs]
theorem gvalid_c (pts prs : List Int) : AT 22 [gridA pts prs] (i64 (gridE pts prs)) := by
  by_cases h1 : 21 < pts.length
  · have f1 : decide ((21 : Int) < (pts.length : Nat)) = true := by simp; omega
    have e : gridE pts prs = 5 := by unfold gridE; rw [if_pos h1]
    rw [e]
    refine ACalls.of ⟨25, []⟩ (fn := Tryz.f22) Tryz.func22 rfl rfl rfl (by kernel_rfl) (by kernel_rfl) (Nat.le_of_ble_eq_true rfl) ?_
    simp -implicitDefEqProofs only [List.length_map, f1, go_sem, awp_seq, Nat.reduceBNe, Nat.reduceBEq, Nat.reduceAdd, Nat.reduceSub, Nat.reduceMul, Nat.reduceLeDiff, Nat.reduceLT, Nat.reduceEqDiff, Nat.reduceBneDiff, Int.reduceLE, Int.reduceLT, Int.reduceToNat, Int.reduceBEq, Int.reduceBNe, Int.reduceAdd, Int.reduceSub, Int.cast_ofNat_Int]
  have f1 : decide ((21 : Int) < (pts.length : Nat)) = false := by simp; omega
  by_cases h2 : pts.length = 0
  · have e : gridE pts prs = 20 := by unfold gridE; rw [if_neg h1, if_pos h2]
    have f2 : (((pts.length : Nat) : Int) == 0) = true := by rw [h2]; rfl
    rw [e]
    refine ACalls.of ⟨25, []⟩ (fn := Tryz.f22) Tryz.func22 rfl rfl rfl (by kernel_rfl) (by kernel_rfl) (Nat.le_of_ble_eq_true rfl) ?_
    simp -implicitDefEqProofs only [List.length_map, f1, f2, go_sem, awp_seq, Nat.reduceBNe, Nat.reduceBEq, Nat.reduceAdd, Nat.reduceSub, Nat.reduceMul, Nat.reduceLeDiff, Nat.reduceLT, Nat.reduceEqDiff, Nat.reduceBneDiff, Int.reduceLE, Int.reduceLT, Int.reduceToNat, Int.reduceBEq, Int.reduceBNe, Int.reduceAdd, Int.reduceSub, Int.cast_ofNat_Int]
  have f2 : (((pts.length : Nat) : Int) == 0) = false := by rw [beq_eq_false_iff_ne]; omega
  by_cases h3 : prs.length ≠ pts.length
  · have e : gridE pts prs = 1 := by unfold gridE; rw [if_neg h1, if_neg h2, if_pos h3]
    have f3 : (((prs.length : Nat) : Int) != (pts.length : Nat)) = true := by rw [bne_iff_ne]; omega
    rw [e]
    refine ACalls.of ⟨25, []⟩ (fn := Tryz.f22) Tryz.func22 rfl rfl rfl (by kernel_rfl) (by kernel_rfl) (Nat.le_of_ble_eq_true rfl) ?_
    simp -implicitDefEqProofs only [List.length_map, f1, f2, f3, go_sem, awp_seq, Nat.reduceBNe, Nat.reduceBEq, Nat.reduceAdd, Nat.reduceSub, Nat.reduceMul, Nat.reduceLeDiff, Nat.reduceLT, Nat.reduceEqDiff, Nat.reduceBneDiff, Int.reduceLE, Int.reduceLT, Int.reduceToNat, Int.reduceBEq, Int.reduceBNe, Int.reduceAdd, Int.reduceSub, Int.cast_ofNat_Int]
  have h3' : prs.length = pts.length := by omega
  have f3 : (((prs.length : Nat) : Int) != (pts.length : Nat)) = false := by rw [h3']; simp
  have bad : ∀ k, k < pts.length → inR (pts.getD k 0) (prs.getD k 0) = false → gridE pts prs = 3 := fun k hk hb => by
    unfold gridE
    rw [if_neg h1, if_neg h2, if_neg h3, if_neg]
    intro hc
    have := List.all_eq_true.1 hc k (List.mem_range.2 hk)
    rw [hb] at this
    cases this
  refine ACalls.of ⟨25, []⟩ (fn := Tryz.f22) Tryz.func22 rfl rfl rfl (by kernel_rfl) (by kernel_rfl) (Nat.le_of_ble_eq_true rfl) ?_
  simp -implicitDefEqProofs only [List.length_map, f1, f2, f3, go_sem, awp_seq, Nat.reduceBNe, Nat.reduceBEq, Nat.reduceAdd, Nat.reduceSub, Nat.reduceMul, Nat.reduceLeDiff, Nat.reduceLT, Nat.reduceEqDiff, Nat.reduceBneDiff, Int.reduceLE, Int.reduceLT, Int.reduceToNat, Int.reduceBEq, Int.reduceBNe, Int.reduceAdd, Int.reduceSub, Int.cast_ofNat_Int]
  refine loop_mk (α := {k : Nat // k ≤ pts.length ∧ ∀ i, i < k → inR (pts.getD i 0) (prs.getD i 0) = true}) (fun k => [(0, some (.av (gridA pts prs))), (1, some (.ref 1 0)), (2, some (.av (i64 0))), (22, some (.av (ints pts))), (23, some (.av (i64 (pts.length : Nat)))), (24, some (.av (i64 (k.1 : Nat))))]) (fun _ => [(1, [ints pts, ints prs])]) (fun _ => []) (fun k => pts.length - k.1) ⟨0, Nat.zero_le _, fun i hi => by omega⟩ ?_ ?_
  · simp -implicitDefEqProofs only [go_sem, awp_seq, Nat.reduceBNe, Nat.reduceBEq, Nat.reduceAdd, Nat.reduceSub, Nat.reduceMul, Nat.reduceLeDiff, Nat.reduceLT, Nat.reduceEqDiff, Nat.reduceBneDiff, Int.reduceLE, Int.reduceLT, Int.reduceToNat, Int.reduceBEq, Int.reduceBNe, Int.reduceAdd, Int.reduceSub, Int.cast_ofNat_Int]
  · rintro ⟨k, hk, hall⟩
    by_cases hlt : k < pts.length
    · have g1 : decide (((k : Nat) : Int) < (pts.length : Nat)) = true := by simp; omega
      have e1 := map_get (fun x => i64 x) pts hlt
      have e2 := map_get (fun x => i64 x) prs (show k < prs.length by omega)
      have d1 := getD_get pts hlt
      have d2 := getD_get prs (show k < prs.length by omega)
      have w1 : IntKind.i64.wrap ((k : Int) + 1) = ((k + 1 : Nat) : Int) := by rw [IntWalk.i64_in _ (by omega)]; omega
      have b0 := bad k hlt
      rw [d1, d2] at b0
      generalize pts[k] = p at *
      generalize prs[k] = r at *
      cases c1 : decide (p < -1000) with
      | true =>
        have e := b0 (by simp [inR, c1])
        simp -implicitDefEqProofs only [g1, e1, e2, c1, e, Int.toNat_natCast, Int.natCast_nonneg, go_sem, awp_seq, Nat.reduceBNe, Nat.reduceBEq, Nat.reduceAdd, Nat.reduceSub, Nat.reduceMul, Nat.reduceLeDiff, Nat.reduceLT, Nat.reduceEqDiff, Nat.reduceBneDiff, Int.reduceLE, Int.reduceLT, Int.reduceToNat, Int.reduceBEq, Int.reduceBNe, Int.reduceAdd, Int.reduceSub, Int.cast_ofNat_Int]
      | false =>
        cases c2 : decide (1000 < p) with
        | true =>
          have e := b0 (by simp [inR, c2])
          simp -implicitDefEqProofs only [g1, e1, e2, c1, c2, e, Int.toNat_natCast, Int.natCast_nonneg, go_sem, awp_seq, Nat.reduceBNe, Nat.reduceBEq, Nat.reduceAdd, Nat.reduceSub, Nat.reduceMul, Nat.reduceLeDiff, Nat.reduceLT, Nat.reduceEqDiff, Nat.reduceBneDiff, Int.reduceLE, Int.reduceLT, Int.reduceToNat, Int.reduceBEq, Int.reduceBNe, Int.reduceAdd, Int.reduceSub, Int.cast_ofNat_Int]
        | false =>
          cases c3 : decide (r < 1) with
          | true =>
            have e := b0 (by simp [inR, c3])
            simp -implicitDefEqProofs only [g1, e1, e2, c1, c2, c3, e, Int.toNat_natCast, Int.natCast_nonneg, go_sem, awp_seq, Nat.reduceBNe, Nat.reduceBEq, Nat.reduceAdd, Nat.reduceSub, Nat.reduceMul, Nat.reduceLeDiff, Nat.reduceLT, Nat.reduceEqDiff, Nat.reduceBneDiff, Int.reduceLE, Int.reduceLT, Int.reduceToNat, Int.reduceBEq, Int.reduceBNe, Int.reduceAdd, Int.reduceSub, Int.cast_ofNat_Int]
          | false =>
            cases c4 : decide (1000 < r) with
            | true =>
              have e := b0 (by simp [inR, c4])
              simp -implicitDefEqProofs only [g1, e1, e2, c1, c2, c3, c4, e, Int.toNat_natCast, Int.natCast_nonneg, go_sem, awp_seq, Nat.reduceBNe, Nat.reduceBEq, Nat.reduceAdd, Nat.reduceSub, Nat.reduceMul, Nat.reduceLeDiff, Nat.reduceLT, Nat.reduceEqDiff, Nat.reduceBneDiff, Int.reduceLE, Int.reduceLT, Int.reduceToNat, Int.reduceBEq, Int.reduceBNe, Int.reduceAdd, Int.reduceSub, Int.cast_ofNat_Int]
            | false =>
              simp -implicitDefEqProofs only [g1, e1, e2, c1, c2, c3, c4, w1, Int.toNat_natCast, Int.natCast_nonneg, go_sem, awp_seq, Nat.reduceBNe, Nat.reduceBEq, Nat.reduceAdd, Nat.reduceSub, Nat.reduceMul, Nat.reduceLeDiff, Nat.reduceLT, Nat.reduceEqDiff, Nat.reduceBneDiff, Int.reduceLE, Int.reduceLT, Int.reduceToNat, Int.reduceBEq, Int.reduceBNe, Int.reduceAdd, Int.reduceSub, Int.cast_ofNat_Int]
              refine roundK_mk ⟨k + 1, by omega, fun i hi => ?_⟩ ?_ (by show pts.length - (k + 1) < pts.length - k; omega)
              · by_cases hik : i = k
                · subst hik; rw [d1, d2]; simp [inR, c1, c2, c3, c4]
                · exact hall i (by omega)
              · simp -implicitDefEqProofs only [go_sem, awp_seq, Nat.reduceBNe, Nat.reduceBEq, Nat.reduceAdd, Nat.reduceSub, Nat.reduceMul, Nat.reduceLeDiff, Nat.reduceLT, Nat.reduceEqDiff, Nat.reduceBneDiff, Int.reduceLE, Int.reduceLT, Int.reduceToNat, Int.reduceBEq, Int.reduceBNe, Int.reduceAdd, Int.reduceSub, Int.cast_ofNat_Int]
    · have g1 : decide (((k : Nat) : Int) < (pts.length : Nat)) = false := by simp; omega
      have hk' : k = pts.length := by omega
      subst hk'
      have hA : (List.range pts.length).all (fun i => inR (pts.getD i 0) (prs.getD i 0)) = true := List.all_eq_true.2 fun i hi => hall i (List.mem_range.1 hi)
      have bad2 : ∀ j, j + 1 < pts.length → ¬ pts.getD j 0 < pts.getD (j + 1) 0 → gridE pts prs = 23 := fun j hj hb => by
        unfold gridE
        rw [if_neg h1, if_neg h2, if_neg h3, if_pos hA, if_neg]
        intro hc
        have := List.all_eq_true.1 hc j (List.mem_range.2 (by omega))
        exact hb (of_decide_eq_true this)
      simp -implicitDefEqProofs only [g1, go_sem, awp_seq, Nat.reduceBNe, Nat.reduceBEq, Nat.reduceAdd, Nat.reduceSub, Nat.reduceMul, Nat.reduceLeDiff, Nat.reduceLT, Nat.reduceEqDiff, Nat.reduceBneDiff, Int.reduceLE, Int.reduceLT, Int.reduceToNat, Int.reduceBEq, Int.reduceBNe, Int.reduceAdd, Int.reduceSub, Int.cast_ofNat_Int]
      refine loop_mk (α := {j : Nat // j + 1 ≤ pts.length ∧ ∀ i, i < j → pts.getD i 0 < pts.getD (i + 1) 0}) (fun j => [(0, some (.av (gridA pts prs))), (1, some (.ref 1 0)), (2, some (.av (i64 0))), (5, some (.av (i64 (j.1 + 1 : Nat))))]) (fun _ => [(1, [ints pts, ints prs])]) (fun _ => []) (fun j => pts.length - j.1) ⟨0, by omega, fun i hi => by omega⟩ ?_ ?_
      · simp -implicitDefEqProofs only [go_sem, awp_seq, Nat.reduceBNe, Nat.reduceBEq, Nat.reduceAdd, Nat.reduceSub, Nat.reduceMul, Nat.reduceLeDiff, Nat.reduceLT, Nat.reduceEqDiff, Nat.reduceBneDiff, Int.reduceLE, Int.reduceLT, Int.reduceToNat, Int.reduceBEq, Int.reduceBNe, Int.reduceAdd, Int.reduceSub, Int.cast_ofNat_Int]
      · rintro ⟨j, hj, hall2⟩
        by_cases hlt2 : j + 1 < pts.length
        · have g2 : decide (((j + 1 : Nat) : Int) < (pts.length : Nat)) = true := by simp only [decide_eq_true_eq]; omega
          have e1 := map_get (fun x => i64 x) pts hlt2
          have e2 := map_get (fun x => i64 x) pts (show j < pts.length by omega)
          have d1 := getD_get pts hlt2
          have d2 := getD_get pts (show j < pts.length by omega)
          have w1 : IntKind.i64.wrap (((j + 1 : Nat) : Int) + 1) = ((j + 1 + 1 : Nat) : Int) := by rw [IntWalk.i64_in _ (by omega)]; omega
          have w2 : IntKind.i64.wrap (((j + 1 : Nat) : Int) - 1) = ((j : Nat) : Int) := by rw [IntWalk.i64_in _ (by omega)]; omega
          have b0 := bad2 j hlt2
          rw [d1, d2] at b0
          generalize pts[j + 1] = p at *
          generalize pts[j] = r at *
          cases c1 : decide (p ≤ r) with
          | true =>
            have e := b0 (by simp at c1; omega)
            simp -implicitDefEqProofs only [List.length_map, g2, e1, e2, w2, c1, e, Int.toNat_natCast, Int.natCast_nonneg, go_sem, awp_seq, Nat.reduceBNe, Nat.reduceBEq, Nat.reduceAdd, Nat.reduceSub, Nat.reduceMul, Nat.reduceLeDiff, Nat.reduceLT, Nat.reduceEqDiff, Nat.reduceBneDiff, Int.reduceLE, Int.reduceLT, Int.reduceToNat, Int.reduceBEq, Int.reduceBNe, Int.reduceAdd, Int.reduceSub, Int.cast_ofNat_Int]
          | false =>
            simp -implicitDefEqProofs only [List.length_map, g2, e1, e2, w1, w2, c1, Int.toNat_natCast, Int.natCast_nonneg, go_sem, awp_seq, Nat.reduceBNe, Nat.reduceBEq, Nat.reduceAdd, Nat.reduceSub, Nat.reduceMul, Nat.reduceLeDiff, Nat.reduceLT, Nat.reduceEqDiff, Nat.reduceBneDiff, Int.reduceLE, Int.reduceLT, Int.reduceToNat, Int.reduceBEq, Int.reduceBNe, Int.reduceAdd, Int.reduceSub, Int.cast_ofNat_Int]
            refine roundK_mk ⟨j + 1, by omega, fun i hi => ?_⟩ ?_ (by show pts.length - (j + 1) < pts.length - j; omega)
            · by_cases hik : i = j
              · subst hik; rw [d1, d2]; simp at c1; omega
              · exact hall2 i (by omega)
            · simp -implicitDefEqProofs only [go_sem, awp_seq, Nat.reduceBNe, Nat.reduceBEq, Nat.reduceAdd, Nat.reduceSub, Nat.reduceMul, Nat.reduceLeDiff, Nat.reduceLT, Nat.reduceEqDiff, Nat.reduceBneDiff, Int.reduceLE, Int.reduceLT, Int.reduceToNat, Int.reduceBEq, Int.reduceBNe, Int.reduceAdd, Int.reduceSub, Int.cast_ofNat_Int]
        · have g2 : decide (((j + 1 : Nat) : Int) < (pts.length : Nat)) = false := by simp only [decide_eq_false_iff_not]; omega
          have e : gridE pts prs = 0 := by
            unfold gridE
            rw [if_neg h1, if_neg h2, if_neg h3, if_pos hA, if_pos]
            exact List.all_eq_true.2 fun i hi => decide_eq_true (hall2 i (by have := List.mem_range.1 hi; omega))
          simp -implicitDefEqProofs only [List.length_map, g2, e, go_sem, awp_seq, Nat.reduceBNe, Nat.reduceBEq, Nat.reduceAdd, Nat.reduceSub, Nat.reduceMul, Nat.reduceLeDiff, Nat.reduceLT, Nat.reduceEqDiff, Nat.reduceBneDiff, Int.reduceLE, Int.reduceLT, Int.reduceToNat, Int.reduceBEq, Int.reduceBNe, Int.reduceAdd, Int.reduceSub, Int.cast_ofNat_Int]
end Go.Proofs.YtfchbehmeppckaaGreat
