/- The engine, part A: abstract values, and what they stand for in memory. -/
import Derived.Test.YtnifjdhjimjihaaGreatDoorNb
import Derived.Laws.Cells
import Derived.Laws.CopyRow
set_option linter.unusedSimpArgs false
set_option linter.unusedVariables false
namespace Go.Proofs.YtnifjdhjimjihaaGreatDoor
open Go.RowKit Lim

/-- An abstract value: a plain value; a row of limbs; a slice that nobody writes to; a struct; several results. -/
inductive AV where
  | lit (v : Value)
  | nat (l : List Nat)
  | sl (k : Nat) (es : List AV)
  | agg (cs : List AV)
  | tup (vs : List AV)

def AV.cells : AV → List AV
  | .agg cs => cs
  | a => [a]
/-- No limb. -/
def AV.noLimb : AV → Bool
  | .lit v => Go.Proofs.YtnifjdhjimjihaaGreatDoor.noLimb v
  | _ => true

/-- The value of one cell. -/
def AV.one : AV → Bool
  | .agg _ | .tup _ => false
  | _ => true
theorem one_cells {v : Value} (h : v.oneCell' = true) : v.cells = #[v] := by cases v <;> simp_all [Value.oneCell', Value.cells]

/-- Cells that nobody writes to. -/
abbrev Zone := Nat → Nat → Prop

inductive Rep (w : World) (Z : Zone) : AV → Value → Prop
  | lit {v : Value} (hv : v.oneCell' = true) : Rep w Z (.lit v) v
  | nat {l : List Nat} {A : Option Addr} {c : Nat} (h : Rd w A l) (hc : l.length ≤ c) : Rep w Z (.nat l) (.slice A l.length c)
  | nil {k : Nat} {A : Option Addr} {c : Nat} : Rep w Z (.sl k []) (.slice A 0 c)
  | sl {k : Nat} {es : List AV} {b off c : Nat} (vs : Nat → Nat → Value) (hb : b < w.heap.size) (hc : es.length ≤ c)
      (hk : ∀ i (hi : i < es.length), (es[i]'hi).cells.length = k)
      (hm : ∀ i j, i < es.length → j < k → w.cell? ⟨b, off + i * k + j, none⟩ = some (vs i j) ∧ Z b (off + i * k + j))
      (hr : ∀ i (hi : i < es.length) j (hj : j < (es[i]'hi).cells.length), Rep w Z ((es[i]'hi).cells[j]'hj) (vs i j)) : Rep w Z (.sl k es) (.slice (some ⟨b, off, none⟩) es.length c)
  | agg {cs : List AV} {vs : Array Value} (hl : vs.size = cs.length) (hr : ∀ j (hj : j < cs.length), Rep w Z (cs[j]'hj) (vs[j]'(by omega))) : Rep w Z (.agg cs) (.agg vs)
  | tup {cs : List AV} {vs : Array Value} (hl : vs.size = cs.length) (hr : ∀ j (hj : j < cs.length), Rep w Z (cs[j]'hj) (vs[j]'(by omega))) : Rep w Z (.tup cs) (.tuple vs)

/-- What lies in the zone, and every limb, is as it was. -/
structure Keeps (Z : Zone) (w w' : World) : Prop where
  size : w.heap.size ≤ w'.heap.size
  zone : ∀ b o v, Z b o → w.cell? ⟨b, o, none⟩ = some v → w'.cell? ⟨b, o, none⟩ = some v
  limb : ∀ b o v, noLimb v = false → w.cell? ⟨b, o, none⟩ = some v → w'.cell? ⟨b, o, none⟩ = some v
theorem Keeps.refl (Z : Zone) (w : World) : Keeps Z w w := ⟨Nat.le_refl _, fun _ _ _ _ h => h, fun _ _ _ _ h => h⟩
theorem Keeps.ofBelow {Z : Zone} {w w' : World} (h : Below w.heap.size w w') : Keeps Z w w' :=
  ⟨h.size, fun b o v _ hc => (h.cell (p := ⟨b, o, none⟩) (World.block_lt_of_cell? w _ hc)).trans hc, fun b o v _ hc => (h.cell (p := ⟨b, o, none⟩) (World.block_lt_of_cell? w _ hc)).trans hc⟩
theorem Rd.keeps {Z : Zone} {w w' : World} {A : Option Addr} {l : List Nat} (h : Rd w A l) (hk : Keeps Z w w') : Rd w' A l :=
  ⟨h.1, fun hl => by
    obtain ⟨b, off, e, hlt, hc⟩ := h.2 hl
    exact ⟨b, off, e, Nat.lt_of_lt_of_le hlt hk.size, fun j hj => hk.limb _ _ _ rfl (hc j hj)⟩⟩
theorem Rep.keep {Z Z' : Zone} {w w' : World} {a : AV} {v : Value} (h : Rep w Z a v) (hk : Keeps Z w w') (hz : ∀ b o, Z b o → Z' b o) : Rep w' Z' a v := by
  induction h with
  | lit hv => exact .lit hv
  | nat h hc => exact .nat (h.keeps hk) hc
  | nil => exact .nil
  | sl vs hb hc hkk hm hr ih =>
    exact .sl vs (Nat.lt_of_lt_of_le hb hk.size) hc hkk (fun i j hi hj => ⟨hk.zone _ _ _ (hm i j hi hj).2 (hm i j hi hj).1, hz _ _ (hm i j hi hj).2⟩) ih
  | agg hl hr ih => exact .agg hl ih
  | tup hl hr ih => exact .tup hl ih
theorem Rep.cells {Z : Zone} {w : World} {a : AV} {v : Value} (h : Rep w Z a v) : v.cells.size = a.cells.length ∧ ∀ j (hj : j < a.cells.length) (hj' : j < v.cells.size), Rep w Z (a.cells[j]'hj) (v.cells[j]'hj') := by
  cases h with
  | lit hv' =>
    have hv := one_cells hv'
    refine ⟨by rw [hv]; rfl, fun j hj hj' => ?_⟩
    have : j = 0 := by simp [AV.cells] at hj; omega
    subst this
    simp only [AV.cells, List.getElem_cons_zero]
    have e : v.cells[0]'hj' = v := by simp [hv]
    rw [e]; exact .lit hv'
  | nat h hc =>
    refine ⟨rfl, fun j hj hj' => ?_⟩
    have : j = 0 := by simp [AV.cells] at hj; omega
    subst this
    exact .nat h hc
  | nil =>
    refine ⟨rfl, fun j hj hj' => ?_⟩
    have : j = 0 := by simp [AV.cells] at hj; omega
    subst this
    exact .nil
  | sl vs hb hc hk hm hr =>
    refine ⟨rfl, fun j hj hj' => ?_⟩
    have : j = 0 := by simp [AV.cells] at hj; omega
    subst this
    exact .sl vs hb hc hk hm hr
  | agg hl hr => exact ⟨hl, fun j hj hj' => hr j hj⟩
  | tup hl hr =>
    refine ⟨rfl, fun j hj hj' => ?_⟩
    have : j = 0 := by simp [AV.cells] at hj; omega
    subst this
    exact .tup hl hr
theorem Rep.one {Z : Zone} {w : World} {a : AV} {v : Value} (h : Rep w Z a v) (ha : a.one = true) : v.oneCell' = true := by
  cases h <;> first | assumption | rfl | (simp [AV.one] at ha)
theorem Rep.noLimb {Z : Zone} {w : World} {a : AV} {v : Value} (h : Rep w Z a v) (ha : a.noLimb = true) : Go.Proofs.YtnifjdhjimjihaaGreatDoor.noLimb v = true := by
  cases h <;> first | exact ha | rfl
theorem AV.agg_ne (cs : List AV) : AV.agg cs ∉ cs := by
  intro h
  have := List.sizeOf_lt_of_mem h
  simp at this
  omega
end Go.Proofs.YtnifjdhjimjihaaGreatDoor
/- The engine, part B: abstract states. -/
namespace Go.Proofs.YtnifjdhjimjihaaGreatDoor
open Go.RowKit Lim

/-- What a slot holds: a value; a pointer into a variable of the call's own (the variable by the slot that allocated it); a pointer into memory that nobody writes to; nothing. -/
inductive TV where
  | av (a : AV)
  | ref (t off : Nat)
  | ptr (cs : List AV)
  | skip

structure AS where
  tm : Nat → Option TV
  mem : Nat → Option (List AV)

/-- A type, as the steps need it. -/
inductive TK where
  | scal
  | bool
  | int (k : IntKind)
  | str
  | strct (fs : List (Nat × Nat × TypeId))
  | slc (e : TypeId) (k : Nat) (limbs : Bool)
structure TI where
  kind : TK
  zero : List AV
abbrev TyTab := TypeId → Option TI

structure TIOK (P : Program) (ty : TypeId) (i : TI) : Prop where
  inf : ∃ info zv, P.info? ty = some info ∧ info.size = i.zero.length ∧ info.zero = some zv ∧ ∀ w Z, Rep w Z (.agg i.zero) (.agg zv.cells)
  und : match i.kind with
    | .scal => ∃ d, P.underlying ty = some d ∧ (match d with | .struct _ | .array _ _ => False | _ => True)
    | .bool => P.underlying ty = some .bool
    | .int k => P.underlying ty = some (.int k)
    | .str => P.underlying ty = some .string
    | .strct fs => ∃ fds : Array Field, P.underlying ty = some (.struct fds) ∧ fds.size = fs.length ∧ ∀ (f o n : Nat) (t : TypeId), fs[f]? = some (o, n, t) → ∃ fd : Field, fds[f]? = some fd ∧ fd.offset = o ∧ fd.type = t ∧ n ≠ 0 ∧ ∃ fi, P.info? fd.type = some fi ∧ fi.size = n
    | .slc e k _ => P.underlying ty = some (.slice e) ∧ ∃ ei, P.info? e = some ei ∧ ei.size = k

/-- What an operation looks at, for whatever program. -/
structure Ctx where
  P : Program
  T : TyTab
  E : World → Prop
  hT : ∀ ty i, T ty = some i → TIOK P ty i
  hE : ∀ w w', Below w.heap.size w w' → E w → E w'
  hm : P.follows .mixedOrders = true

def RepT (w : World) (Z : Zone) (β : Nat → Nat) : TV → Value → Prop
  | .av a, v => Rep w Z a v
  | .ref t off, v => v = .pointer (some ⟨β t, off, none⟩)
  | .ptr cs, v => ∃ b o, v = .pointer (some ⟨b, o, none⟩) ∧ ∀ q (hq : q < cs.length), ∃ u, w.cell? ⟨b, o + q, none⟩ = some u ∧ (Z b (o + q) ∨ noLimb u = false) ∧ Rep w Z (cs[q]'hq) u
  | .skip, v => v = undef

/-- A variable of the call's own. -/
structure Loc (w : World) (Z : Zone) (g : Nat) (cs : List AV) : Prop where
  ex : ∃ vs ty, Box w g vs ty ∧ Rep w Z (.agg cs) (.agg vs)
  one : cs.all AV.one = true
  nl : cs.all AV.noLimb = true
  out : ∀ o, ¬ Z g o

structure Sim1 (w0 : World) (Z0 : Zone) (σ : AS) (a : Act) (w : World) (Z : Zone) (β : Nat → Nat) : Prop where
  z0 : ∀ b o, Z0 b o → Z b o
  z1 : ∀ b o, Z b o → Z0 b o ∨ (w0.heap.size ≤ b ∧ b < w.heap.size)
  tm : ∀ t x, σ.tm t = some x → t < a.tmps.size ∧ RepT w Z β x (a.tmps.getD t undef)
  mem : ∀ t cs, σ.mem t = some cs → w0.heap.size ≤ β t ∧ Loc w Z (β t) cs
  inj : ∀ t t' cs cs', σ.mem t = some cs → σ.mem t' = some cs' → β t = β t' → t = t'
  below : Below w0.heap.size w0 w
  defers : a.defers = []

def upd {α : Type} (f : Nat → Option α) (t : Nat) (v : Option α) : Nat → Option α := fun x => if x = t then v else f x
def AS.put (σ : AS) (d : Option Nat) (v : TV) : AS :=
  match d with
  | some t => { σ with tm := upd σ.tm t (some v) }
  | none => σ
/-- Stale pointers into variable t are forgotten. -/
def stale (t : Nat) : Option TV → Option TV
  | some (.ref t' o) => if t' = t then none else some (.ref t' o)
  | x => x
def AS.new (σ : AS) (t : Nat) (cs : List AV) : AS := { tm := upd (fun x => stale t (σ.tm x)) t (some (.ref t 0)), mem := upd σ.mem t (some cs) }
def AS.setMem (σ : AS) (t : Nat) (cs : List AV) : AS := { σ with mem := upd σ.mem t (some cs) }

theorem Loc.keep {w w' : World} {Z Z' : Zone} {g : Nat} {cs : List AV} (h : Loc w Z g cs) (hb : w'.heap[g]? = w.heap[g]?) (hk : Keeps Z w w') (hz : ∀ b o, Z b o → Z' b o) (ho : ∀ o, ¬ Z' g o) : Loc w' Z' g cs := by
  obtain ⟨vs, ty, hx, hr⟩ := h.ex
  exact ⟨⟨vs, ty, hb.trans hx, hr.keep hk hz⟩, h.one, h.nl, ho⟩
theorem Loc.lt {w : World} {Z : Zone} {g : Nat} {cs : List AV} (h : Loc w Z g cs) : g < w.heap.size := by
  obtain ⟨vs, ty, hx, _⟩ := h.ex
  exact hx.lt
theorem RepT.keep {w w' : World} {Z Z' : Zone} {β : Nat → Nat} {x : TV} {v : Value} (h : RepT w Z β x v) (hk : Keeps Z w w') (hz : ∀ b o, Z b o → Z' b o) : RepT w' Z' β x v := by
  cases x with
  | av a => exact Rep.keep h hk hz
  | ref t off => exact h
  | ptr cs =>
    obtain ⟨b, o, rfl, hc⟩ := h
    refine ⟨b, o, rfl, fun q hq => ?_⟩
    obtain ⟨u, h1, h2, h3⟩ := hc q hq
    refine ⟨u, ?_, ?_, h3.keep hk hz⟩
    · rcases h2 with h2 | h2
      · exact hk.zone _ _ _ h2 h1
      · exact hk.limb _ _ _ h2 h1
    · exact h2.imp (hz _ _) id
  | skip => exact h

theorem Sim1.put {w0 w : World} {Z0 Z : Zone} {σ : AS} {a : Act} {β : Nat → Nat} (S : Sim1 w0 Z0 σ a w Z β) {d : Option Nat} {x : TV} {v : Value} (hd : ∀ t, d = some t → t < a.tmps.size) (h : RepT w Z β x v) : Sim1 w0 Z0 (σ.put d x) (a.put d v) w Z β := by
  cases d with
  | none => exact S
  | some t =>
    refine ⟨S.z0, S.z1, ?_, S.mem, S.inj, S.below, S.defers⟩
    intro t' x' hx'
    simp only [AS.put, upd] at hx'
    simp only [Act.put]
    by_cases e : t' = t
    · subst e
      simp at hx'
      subst hx'
      have := hd t' rfl
      exact ⟨by simpa using this, by simpa [this] using h⟩
    · rw [if_neg e] at hx'
      obtain ⟨h1, h2⟩ := S.tm t' x' hx'
      refine ⟨by simpa using h1, ?_⟩
      simpa [Array.getElem?_setIfInBounds_ne (Ne.symm e)] using h2

/-- The world has grown; a new part of it may join the zone. -/
theorem Sim1.grow {w0 w w' : World} {Z0 Z Z' : Zone} {σ : AS} {a : Act} {β : Nat → Nat} (S : Sim1 w0 Z0 σ a w Z β) (hb : Below w.heap.size w w') (hz : ∀ b o, Z b o → Z' b o) (hz' : ∀ b o, Z' b o → Z b o ∨ (w.heap.size ≤ b ∧ b < w'.heap.size)) : Sim1 w0 Z0 σ a w' Z' β := by
  have hk : Keeps Z w w' := Keeps.ofBelow hb
  refine ⟨fun b o h => hz _ _ (S.z0 b o h), fun b o h => ?_, fun t x h => ⟨(S.tm t x h).1, (S.tm t x h).2.keep hk hz⟩, fun t cs h => ?_, S.inj, S.below.trans (hb.mono S.below.size), S.defers⟩
  · rcases hz' b o h with h1 | h1
    · rcases S.z1 b o h1 with h2 | h2
      · exact .inl h2
      · exact .inr ⟨h2.1, Nat.lt_of_lt_of_le h2.2 hb.size⟩
    · exact .inr ⟨Nat.le_trans S.below.size h1.1, h1.2⟩
  · obtain ⟨h1, h2⟩ := S.mem t cs h
    refine ⟨h1, h2.keep (hb.block _ h2.lt) hk hz fun o ho => ?_⟩
    rcases hz' _ _ ho with h3 | h3
    · exact h2.out o h3
    · exact absurd h2.lt (Nat.not_lt.2 h3.1)

/-- A new variable. -/
theorem Sim1.new {w0 w : World} {Z0 Z : Zone} {σ : AS} {a : Act} {β : Nat → Nat} (S : Sim1 w0 Z0 σ a w Z β) (hz0 : ∀ b o, Z0 b o → b < w0.heap.size) {t : Nat} (ht : t < a.tmps.size) {cs : List AV} {vs : Array Value} {ty : TypeId} (hr : Rep w Z (.agg cs) (.agg vs)) (h1 : cs.all AV.one = true) (h2 : cs.all AV.noLimb = true) :
    Sim1 w0 Z0 (σ.new t cs) (a.put (some t) (.pointer (some ⟨w.heap.size, 0, none⟩))) (w.alloc (.cells vs ty)) Z (fun x => if x = t then w.heap.size else β x) := by
  have hb : Below w.heap.size w (w.alloc (.cells vs ty)) := (Below.refl _ _).alloc (Nat.le_refl _) _
  have hk : Keeps Z w (w.alloc (.cells vs ty)) := Keeps.ofBelow hb
  have hfresh : ∀ o, ¬ Z w.heap.size o := fun o ho => by
    rcases S.z1 _ _ ho with h | h
    · exact absurd (hz0 _ _ h) (Nat.not_lt.2 S.below.size)
    · exact absurd h.2 (Nat.lt_irrefl _)
  have S' := S.grow hb (fun _ _ h => h) (fun _ _ h => .inl h)
  refine ⟨S'.z0, S'.z1, ?_, ?_, ?_, S'.below, S.defers⟩
  · intro t' x hx
    simp only [AS.new, upd] at hx
    by_cases e : t' = t
    · subst e
      simp at hx
      subst hx
      refine ⟨by simpa [Act.put] using ht, ?_⟩
      simp [Act.put, ht, RepT]
    · rw [if_neg e] at hx
      have hx2 : σ.tm t' = some x ∧ ∀ o, x ≠ .ref t o := by
        cases hh : σ.tm t' with
        | none => rw [hh] at hx; simp [stale] at hx
        | some y =>
          rw [hh] at hx
          cases y with
          | ref t2 o =>
            simp only [stale] at hx
            split at hx
            · cases hx
            · rename_i hne
              cases hx
              exact ⟨rfl, fun o' h => by cases h; exact hne rfl⟩
          | _ => simp only [stale] at hx; cases hx; exact ⟨rfl, fun o h => by cases h⟩
      obtain ⟨q1, q2⟩ := S'.tm t' x hx2.1
      refine ⟨by simpa [Act.put] using q1, ?_⟩
      have q3 : (a.put (some t) (.pointer (some ⟨w.heap.size, 0, none⟩))).tmps.getD t' undef = a.tmps.getD t' undef := by
        simp [Act.put, Array.getElem?_setIfInBounds_ne (Ne.symm e)]
      rw [q3]
      cases x with
      | ref t2 o =>
        have : t2 ≠ t := fun h => hx2.2 o (by rw [h])
        simp only [RepT, if_neg this]
        exact q2
      | av _ => exact q2
      | ptr _ => exact q2
      | skip => exact q2
  · intro t' cs' hc
    simp only [AS.new, upd] at hc
    by_cases e : t' = t
    · subst e
      simp at hc
      subst hc
      simp only [if_true]
      exact ⟨S.below.size, ⟨vs, ty, Box.new w vs ty, hr.keep hk (fun _ _ h => h)⟩, h1, h2, hfresh⟩
    · rw [if_neg e] at hc
      simp only [if_neg e]
      exact S'.mem t' cs' hc
  · intro x y cs1 cs2 hx hy hxy
    simp only [AS.new, upd] at hx hy
    by_cases ex : x = t
    · by_cases ey : y = t
      · rw [ex, ey]
      · rw [if_neg ey] at hy
        simp only [if_pos ex, if_neg ey] at hxy
        have := (S.mem y cs2 hy).2.lt
        omega
    · by_cases ey : y = t
      · rw [if_neg ex] at hx
        simp only [if_neg ex, if_pos ey] at hxy
        have := (S.mem x cs1 hx).2.lt
        omega
      · rw [if_neg ex] at hx
        rw [if_neg ey] at hy
        simp only [if_neg ex, if_neg ey] at hxy
        exact S.inj x y cs1 cs2 hx hy hxy
end Go.Proofs.YtnifjdhjimjihaaGreatDoor
/- The engine, part C: the steps that leave memory alone. -/
namespace Go.Proofs.YtnifjdhjimjihaaGreatDoor
open Go.RowKit Lim

def constT : Value → Option TV
  | .int k n => some (.av (.lit (.int k n)))
  | .bool b => some (.av (.lit (.bool b)))
  | .string s => some (.av (.lit (.string s)))
  | .slice none 0 0 => some (.av (.lit (.slice none 0 0)))
  | _ => none
def AS.get (σ : AS) : Operand → Option TV
  | .tmp t => σ.tm t
  | .const v => constT v
  | _ => none
/-- A nil slice, by its type. -/
def normA (T : TyTab) (ty : TypeId) (a : AV) : AV :=
  match a with
  | .lit (.slice none 0 0) => (match T ty with
    | some ⟨.slc _ k l, _⟩ => (match l with | true => .nat [] | false => .sl k [])
    | _ => .lit (.slice none 0 0))
  | a => a
def AS.look (σ : AS) : Option TV → Option (List AV)
  | some (.ref t off) => (σ.mem t).map (·.drop off)
  | some (.ptr cs) => some cs
  | _ => none
def takeA (i : TI) (cs : List AV) : Option AV :=
  match i.kind with
  | .strct _ => if i.zero.length ≤ cs.length then some (.agg (cs.take i.zero.length)) else none
  | _ => cs.head?
def offT (o : Nat) : Option TV → Option TV
  | some (.ref t off) => some (.ref t (off + o))
  | some (.ptr cs) => some (.ptr (cs.drop o))
  | _ => none
/-- The elements of a slice whose elements take k cells. -/
def elemA (k : Nat) (s : AV) (n : Nat) (e : AV) : Prop :=
  match s with
  | .sl k' es => k' = k ∧ es[n]? = some e
  | .nat l => k = 1 ∧ ∃ x, l[n]? = some x ∧ e = .lit (.int .u32 (x : Nat))
  | _ => False
def lenA (s : AV) : Option Nat :=
  match s with
  | .sl _ es => some es.length
  | .nat l => some l.length
  | .lit (.slice none 0 0) => some 0
  | _ => none
def splice {α : Type} (cs : List α) (o : Nat) (xs : List α) : List α := cs.take o ++ xs ++ cs.drop (o + xs.length)
def fillA (T : TyTab) (σ : AS) (fs : List (Nat × Nat × TypeId)) : List AV → List (Nat × Operand) → Option (List AV)
  | cs, [] => some cs
  | cs, (f, x) :: rest =>
    match fs[f]?, σ.get x with
    | some (o, n, t), some (.av a) => if (normA T t a).cells.length = n ∧ o + n ≤ cs.length then fillA T σ fs (splice cs o (normA T t a).cells) rest else none
    | _, _ => none

def binR (b : Bool) : BinOp → Value → Value → Value → Prop
  | .add, .int k m, .int k' n, r => k = k' ∧ r = .int k (k.wrap (m + n))
  | .sub, .int k m, .int k' n, r => k = k' ∧ r = .int k (k.wrap (m - n))
  | .mul, .int k m, .int k' n, r => k = k' ∧ r = .int k (k.wrap (m * n))
  | .quo, .int k m, .int k' n, r => k = k' ∧ n ≠ 0 ∧ r = .int k (k.wrap (m.tdiv n))
  | .rem, .int k m, .int k' n, r => k = k' ∧ n ≠ 0 ∧ r = .int k (m.tmod n)
  | .shl, .int k m, .int _ n, r => 0 ≤ n ∧ r = .int k (k.wrap (m * 2 ^ (min n.toNat k.bits)))
  | .shr, .int k m, .int _ n, r => 0 ≤ n ∧ r = .int k (m.fdiv (2 ^ (min n.toNat k.bits)))
  | .and, .int k m, .int k' n, r => k = k' ∧ r = .int k (k.wrap (BitVec.ofInt k.bits m &&& BitVec.ofInt k.bits n).toNat)
  | .or, .int k m, .int k' n, r => k = k' ∧ r = .int k (k.wrap (BitVec.ofInt k.bits m ||| BitVec.ofInt k.bits n).toNat)
  | .xor, .int k m, .int k' n, r => k = k' ∧ r = .int k (k.wrap (BitVec.ofInt k.bits m ^^^ BitVec.ofInt k.bits n).toNat)
  | .eql, .int k m, .int k' n, r => k = k' ∧ r = .bool (m == n)
  | .neq, .int k m, .int k' n, r => k = k' ∧ r = .bool (m != n)
  | .lss, .int k m, .int k' n, r => k = k' ∧ r = .bool (decide (m < n))
  | .leq, .int k m, .int k' n, r => k = k' ∧ r = .bool (decide (m ≤ n))
  | .gtr, .int k m, .int k' n, r => k = k' ∧ r = .bool (decide (n < m))
  | .geq, .int k m, .int k' n, r => k = k' ∧ r = .bool (decide (n ≤ m))
  | .add, .string x, .string y, r => ((x.size + y.size : Nat) : Int) ≤ 9223372036854775807 ∧ r = .string (x ++ y)
  | .eql, .string x, .string y, r => r = .bool (x.toList == y.toList)
  | .neq, .string x, .string y, r => r = .bool (!(x.toList == y.toList))
  | .lss, .string x, .string y, r => r = .bool (Op.bytesLess x.toList y.toList)
  | .leq, .string x, .string y, r => r = .bool (Op.bytesLess x.toList y.toList || x.toList == y.toList)
  | .gtr, .string x, .string y, r => r = .bool (!(Op.bytesLess x.toList y.toList || x.toList == y.toList))
  | .geq, .string x, .string y, r => r = .bool (!(Op.bytesLess x.toList y.toList))
  | .eql, .bool x, .bool y, r => b = true ∧ r = .bool (x == y)
  | .neq, .bool x, .bool y, r => b = true ∧ r = .bool (!(x == y))
  | _, _, _, _ => False
def unR : UnOp → Value → Value → Prop
  | .neg, .int k m, r => r = .int k (k.wrap (0 - m))
  | .not, .bool b, r => r = .bool (!b)
  | _, _, _ => False
def isBoolT (T : TyTab) (ty : TypeId) : Bool := match T ty with | some ⟨.bool, _⟩ => true | _ => false
/-- A bound m of a slice expression, at most n; d if it is left out. -/
def boundR (n m d : Nat) : Option TV → Prop
  | none => m = d
  | some (.av (.lit (.int _ q))) => 0 ≤ q ∧ q ≤ n ∧ m = q.toNat
  | _ => False
def sliceR (lo hi : Option TV) (n : Nat) (l h : Nat) : Prop := boundR n h n hi ∧ boundR h l 0 lo
def optGet (σ : AS) : Option Operand → Option (Option TV)
  | none => some none
  | some x => (σ.get x).map some

/-- What an operation that only computes and reads gives. -/
def aval (C : Ctx) (σ : AS) (o : Oper) (v : TV) : Prop :=
  match o.op with
  | .move x | .assign x => σ.get x = some v
  | .pick c x y => ∃ t, σ.get c = some (.av (.lit (.bool t))) ∧ σ.get (if t then x else y) = some v
  | .load ty x => ∃ i cs a, C.T ty = some i ∧ σ.look (σ.get x) = some cs ∧ takeA i cs = some a ∧ v = .av a
  | .fieldAddr ty x f => ∃ fs z o n t, C.T ty = some ⟨.strct fs, z⟩ ∧ fs[f]? = some (o, n, t) ∧ offT o (σ.get x) = some v
  | .field ty x f => ∃ fs z o n t cs i a, C.T ty = some ⟨.strct fs, z⟩ ∧ fs[f]? = some (o, n, t) ∧ σ.get x = some (.av (.agg cs)) ∧ C.T t = some i ∧ takeA i (cs.drop o) = some a ∧ v = .av a
  | .extract x i => ∃ vs a, σ.get x = some (.av (.tup vs)) ∧ vs[i]? = some a ∧ v = .av a
  | .indexAddr ty x ix => ∃ e0 k l z s q n e, C.T ty = some ⟨.slc e0 k l, z⟩ ∧ σ.get x = some (.av s) ∧ σ.get ix = some (.av (.lit (.int q n))) ∧ 0 ≤ n ∧ elemA k s n.toNat e ∧ v = .ptr e.cells
  | .index ty x ix => ∃ z s q n b, C.T ty = some ⟨.str, z⟩ ∧ σ.get x = some (.av (.lit (.string s))) ∧ σ.get ix = some (.av (.lit (.int q n))) ∧ 0 ≤ n ∧ s.data.toList[n.toNat]? = some b ∧ v = .av (.lit (.int .u8 (b.toNat : Nat)))
  | .binOp op ty x y _ => ∃ a b r, σ.get x = some (.av (.lit a)) ∧ σ.get y = some (.av (.lit b)) ∧ binR (isBoolT C.T ty) op a b r ∧ v = .av (.lit r)
  | .unOp op _ x => ∃ a r, σ.get x = some (.av (.lit a)) ∧ unR op a r ∧ v = .av (.lit r)
  | .convert src dst x => ∃ i j k z m n, C.T src = some i ∧ C.T dst = some j ∧ j = ⟨.int k, z⟩ ∧ σ.get x = some (.av (.lit (.int m n))) ∧ v = .av (.lit (.int k (k.wrap n)))
  | .build ty parts => ∃ fs z cs, C.T ty = some ⟨.strct fs, z⟩ ∧ fillA C.T σ fs z parts.toList = some cs ∧ v = .av (.agg cs)
  | .slice ty x lo hi none => ∃ i lo' hi', C.T ty = some i ∧ optGet σ lo = some lo' ∧ optGet σ hi = some hi' ∧
      (match i.kind, σ.get x with
       | .str, some (.av (.lit (.string s))) => ∃ l h, sliceR lo' hi' s.size l h ∧ v = .av (.lit (.string (s.extract l h)))
       | .slc _ k _, some (.av (.sl k' es)) => k = k' ∧ ∃ l h, sliceR lo' hi' es.length l h ∧ v = .av (.sl k ((es.take h).drop l))
       | .slc _ k _, some (.av (.nat es)) => k = 1 ∧ ∃ l h, sliceR lo' hi' es.length l h ∧ v = .av (.nat ((es.take h).drop l))
       | _, _ => False)
  | .nilCheck x => (match σ.get x with | some (.ref t off) => v = .ref t off | some (.ptr cs) => v = .ptr cs | _ => False)
  | .call c => (match c.callee with
    | .builtin .len => ∃ x ty i, c.args = #[x] ∧ c.argTypes = #[ty] ∧ C.T ty = some i ∧
      (match i.kind, σ.get x with
       | .str, some (.av (.lit (.string s))) => v = .av (.lit (.int .i64 (s.size : Nat)))
       | .slc _ _ _, some (.av s) => ∃ n, lenA s = some n ∧ v = .av (.lit (.int .i64 (n : Nat)))
       | _, _ => False)
    | _ => False)
  | _ => False

section
variable {C : Ctx} {w0 w : World} {Z0 Z : Zone} {σ : AS} {a : Act} {β : Nat → Nat}

theorem constT_sound {v : Value} {x : TV} (h : constT v = some x) : ∃ u, x = .av (.lit u) ∧ u = v ∧ v.oneCell' = true := by
  unfold constT at h
  split at h <;> (first | (cases h; exact ⟨_, rfl, rfl, rfl⟩) | cases h)
theorem Sim1.get (S : Sim1 w0 Z0 σ a w Z β) {x : Operand} {v : TV} (h : σ.get x = some v) : RepT w Z β v (a.eval x) := by
  cases x with
  | tmp t => exact (S.tm t v h).2
  | const u =>
    obtain ⟨u', rfl, rfl, h1⟩ := constT_sound h
    exact Rep.lit h1
  | global g => cases h
  | func f => cases h
theorem Sim1.lit (S : Sim1 w0 Z0 σ a w Z β) {x : Operand} {v : Value} (h : σ.get x = some (.av (.lit v))) : a.eval x = v := by
  have := S.get h
  cases this
  rfl
theorem normA_sound {T : TyTab} {ty : TypeId} {x : AV} {v : Value} (h : Rep w Z x v) : Rep w Z (normA T ty x) v := by
  unfold normA
  split
  · cases h
    split
    · rename_i k l _ _
      cases l
      · exact .nil
      · exact Rep.nat (l := []) (Rd.nil _ _) (by simp)
    · exact .lit rfl
  · exact h
theorem run_under {P : Program} {ty : TypeId} {d : TypeDesc} (h : P.underlying ty = some d) (w : World) : (underlying ty).run P w = .ok d w := by
  simp [underlying, h]
theorem run_size {P : Program} {ty : TypeId} {i : TypeInfo} (h : P.info? ty = some i) (w : World) : (Go.sizeOf ty).run P w = .ok i.size w := by
  simp [Go.sizeOf, typeInfo, h]
theorem run_isAgg {P : Program} {ty : TypeId} {i : TI} (h : TIOK P ty i) (w : World) : (isAgg ty).run P w = .ok (match i.kind with | .strct _ => true | _ => false) w := by
  have hu := h.und
  cases hk : i.kind <;> rw [hk] at hu <;> simp only at hu
  · obtain ⟨d, h1, h2⟩ := hu
    simp only [isAgg, Sem.run_bind, run_under h1, Result.andThen_ok]
    cases d <;> simp_all
  · simp [isAgg, run_under hu]
  · simp [isAgg, run_under hu]
  · simp [isAgg, run_under hu]
  · obtain ⟨fds, h1, _⟩ := hu
    simp [isAgg, run_under h1]
  · simp [isAgg, run_under hu.1]
/-- Cells that read so. -/
def CellsAt (w : World) (Z : Zone) (b o : Nat) (cs : List AV) : Prop := ∀ q (hq : q < cs.length), ∃ u, w.cell? ⟨b, o + q, none⟩ = some u ∧ Rep w Z (cs[q]'hq) u
theorem CellsAt.drop {b o n : Nat} {cs : List AV} (h : CellsAt w Z b o cs) : CellsAt w Z b (o + n) (cs.drop n) := by
  intro q hq
  simp at hq
  obtain ⟨u, h1, h2⟩ := h (n + q) (by omega)
  exact ⟨u, by rw [Nat.add_assoc]; exact h1, by rw [List.getElem_drop]; exact h2⟩
theorem Loc.cellsAt {g : Nat} {cs : List AV} (h : Loc w Z g cs) : CellsAt w Z g 0 cs := by
  obtain ⟨vs, ty, hb, hr⟩ := h.ex
  cases hr with
  | agg hl hr =>
    intro q hq
    refine ⟨vs[q]'(by omega), ?_, hr q hq⟩
    rw [Nat.zero_add, hb.cell]
    exact Array.getElem?_eq_getElem (by omega)
theorem look_sound (S : Sim1 w0 Z0 σ a w Z β) {x : Operand} {cs : List AV} (h : σ.look (σ.get x) = some cs) : ∃ b o, a.eval x = .pointer (some ⟨b, o, none⟩) ∧ CellsAt w Z b o cs := by
  cases hx : σ.get x with
  | none => rw [hx] at h; cases h
  | some y =>
    rw [hx] at h
    have hg := S.get hx
    cases y with
    | av _ => cases h
    | skip => cases h
    | ref t off =>
      simp only [AS.look, Option.map_eq_some_iff] at h
      obtain ⟨cs0, h1, rfl⟩ := h
      have := (S.mem t cs0 h1).2.cellsAt.drop (n := off)
      rw [Nat.zero_add] at this
      exact ⟨_, _, hg, this⟩
    | ptr cs' =>
      cases h
      obtain ⟨b, o, h1, h2⟩ := hg
      exact ⟨b, o, h1, fun q hq => (h2 q hq).imp fun u hu => ⟨hu.1, hu.2.2⟩⟩
/-- Reading a variable. -/
theorem run_loadVar_A {ty : TypeId} {i : TI} (h : TIOK C.P ty i) {b o : Nat} {cs : List AV} (hc : CellsAt w Z b o cs) {x : AV} (ht : takeA i cs = some x) :
    ∃ u, (loadVar ty ⟨b, o, none⟩).run C.P w = .ok u w ∧ Rep w Z x u := by
  obtain ⟨info, zv, h1, h2, _⟩ := h.inf
  have ha := run_isAgg h w
  unfold takeA at ht
  split at ht
  · rename_i fs hk
    rw [hk] at ha
    split at ht
    · rename_i hle
      cases ht
      have hc' : ∀ q, q < i.zero.length → ∃ u, w.cell? ⟨b, o + q, none⟩ = some u ∧ ∀ hq : q < cs.length, Rep w Z (cs[q]'hq) u := fun q hq => by
        obtain ⟨u, q1, q2⟩ := hc q (by omega)
        exact ⟨u, q1, fun _ => q2⟩
      have hf : ∃ f : Nat → Value, ∀ q, q < i.zero.length → w.cell? ⟨b, o + q, none⟩ = some (f q) ∧ ∀ hq : q < cs.length, Rep w Z (cs[q]'hq) (f q) :=
        ⟨fun q => if hq : q < i.zero.length then (hc' q hq).choose else undef, fun q hq => by simp only [hq, dif_pos]; exact (hc' q hq).choose_spec⟩
      obtain ⟨f, hf⟩ := hf
      refine ⟨.agg ((List.range i.zero.length).map f).toArray, ?_, ?_⟩
      · simp only [loadVar, Sem.run_bind, ha, Result.andThen_ok, if_true, run_size h1, h2]
        rw [run_loadCells w ⟨b, o, none⟩ i.zero.length f (fun j hj => by rw [add_addr]; exact (hf j hj).1)]
        rfl
      · refine .agg (by simp; omega) fun j hj => ?_
        simp at hj
        simp only [List.getElem_toArray, List.getElem_map, List.getElem_range, List.getElem_take]
        exact (hf j (by omega)).2 _
    · cases ht
  · rename_i hk
    cases cs with
    | nil => cases ht
    | cons c cs =>
      cases ht
      obtain ⟨u, q1, q2⟩ := hc 0 (by simp)
      rw [Nat.add_zero] at q1
      refine ⟨u, ?_, q2⟩
      have ha' : (isAgg ty).run C.P w = .ok false w := by
        rw [ha]
        cases hkk : i.kind <;> first | rfl | exact absurd hkk (hk _)
      simp [loadVar, ha', q1]
end
end Go.Proofs.YtnifjdhjimjihaaGreatDoor
/- The engine, part D: the steps that leave memory alone are sound. -/
namespace Go.Proofs.YtnifjdhjimjihaaGreatDoor
open Go.RowKit Lim

section
variable {C : Ctx} {w0 w : World} {Z0 Z : Zone} {σ : AS} {a : Act} {β : Nat → Nat}

theorem max_i64 : IntKind.i64.max = 9223372036854775807 := by decide
theorem run_eq_bool {P : Program} {ty : TypeId} (h : P.underlying ty = some .bool) (x y : Bool) (w : World) : (Op.equal ty (.bool x) (.bool y)).run P w = .ok (x == y) w := by
  show (Op.equalIn (9999 + 1) ty (.bool x) (.bool y)).run P w = _
  rw [Op.equalIn]
  simp only [Sem.run_bind, run_under h, Result.andThen_ok, Sem.run_pure]
set_option maxHeartbeats 1000000 in
theorem binR_sound {P : Program} {b : Bool} {op : BinOp} {ty : TypeId} {x y r : Value} (hb : b = true → P.underlying ty = some .bool) (h : binR b op x y r) (ox oy : Operand) (w : World) :
    (do eqGuard op ty ox oy x y; binOp op ty x y : Sem Value).run P w = .ok r w ∧ r.oneCell' = true := by
  unfold binR at h
  split at h <;> first
    | exact h.elim
    | (obtain ⟨rfl, rfl⟩ := h; refine ⟨?_, rfl⟩; simp [eqGuard, binOp, Op.intArith, Op.intCmp, Op.intBits]; done)
    | (obtain ⟨rfl, h0, rfl⟩ := h; refine ⟨?_, rfl⟩; simp [eqGuard, binOp, Op.intDiv, h0]; done)
    | (obtain ⟨h0, rfl⟩ := h; refine ⟨?_, rfl⟩; simp [eqGuard, binOp, Op.shift, Int.not_lt.2 h0]; done)
    | (subst h; refine ⟨?_, rfl⟩; simp [eqGuard, binOp, Op.stringOp]; done)
    | (obtain ⟨h0, rfl⟩ := h; refine ⟨?_, rfl⟩; simp [eqGuard, binOp, Op.stringOp, max_i64]; omega)
    | (obtain ⟨h0, rfl⟩ := h; refine ⟨?_, rfl⟩; simp [eqGuard, binOp, run_eq_bool (hb h0)])
theorem unR_sound {P : Program} {op : UnOp} {x r : Value} (h : unR op x r) (w : World) : (Op.unary op x).run P w = .ok r w ∧ r.oneCell' = true := by
  unfold unR at h
  split at h <;> first
    | exact h.elim
    | (subst h; exact ⟨by simp [Op.unary, Op.intArith], rfl⟩)
theorem isBoolT_sound {ty : TypeId} (h : isBoolT C.T ty = true) : C.P.underlying ty = some .bool := by
  unfold isBoolT at h
  split at h
  · rename_i z hz
    exact (C.hT _ _ hz).und
  · cases h
theorem splice_len {α : Type} {cs xs : List α} {o : Nat} (h : o + xs.length ≤ cs.length) : (splice cs o xs).length = cs.length := by simp [splice]; omega
theorem splice_get? {α : Type} {cs xs : List α} {o : Nat} (h : o + xs.length ≤ cs.length) (j : Nat) : (splice cs o xs)[j]? = if o ≤ j ∧ j < o + xs.length then xs[j - o]? else cs[j]? := by
  unfold splice
  have ht : (cs.take o).length = o := by simp; omega
  by_cases h1 : j < o
  · rw [if_neg (by omega), List.append_assoc, List.getElem?_append_left (by omega), List.getElem?_take_of_lt h1]
  · rw [List.append_assoc, List.getElem?_append_right (by omega), ht]
    by_cases h2 : j < o + xs.length
    · rw [if_pos ⟨by omega, h2⟩, List.getElem?_append_left (by omega)]
    · rw [if_neg (by omega), List.getElem?_append_right (by omega), List.getElem?_drop]
      congr 1
      omega
/-- A part is laid into an aggregate. -/
def layV (cells : Array Value) (off : Nat) (xs : Array Value) : Array Value := xs.zipIdx.foldl (fun cs (c, j) => cs.setIfInBounds (off + j) c) cells
theorem layV_aux (off : Nat) : ∀ (xs : List Value) (k : Nat) (cells : Array Value),
    ((xs.zipIdx k).foldl (fun cs (c, j) => cs.setIfInBounds (off + j) c) cells).size = cells.size ∧
    ∀ j, ((xs.zipIdx k).foldl (fun cs (c, j) => cs.setIfInBounds (off + j) c) cells)[j]? = if off + k ≤ j ∧ j < off + k + xs.length ∧ j < cells.size then xs[j - (off + k)]? else cells[j]?
  | [], k, cells => by
    refine ⟨rfl, fun j => ?_⟩
    simp
    intro h1 h2
    omega
  | x :: xs, k, cells => by
    obtain ⟨h1, h2⟩ := layV_aux off xs (k + 1) (cells.setIfInBounds (off + k) x)
    simp only [List.zipIdx_cons, List.foldl_cons]
    refine ⟨by rw [h1]; simp, fun j => ?_⟩
    rw [h2 j]
    by_cases e : j = off + k
    · subst e
      simp
      by_cases hlt : off + k < cells.size
      · simp [hlt, Array.getElem?_setIfInBounds]
        intro h
        omega
      · simp [hlt, Array.getElem?_setIfInBounds]
    · by_cases hc : off + k ≤ j ∧ j < off + k + (xs.length + 1) ∧ j < cells.size
      · have : off + (k + 1) ≤ j ∧ j < off + (k + 1) + xs.length ∧ j < (cells.setIfInBounds (off + k) x).size := by simp; omega
        rw [if_pos this, if_pos (by simpa using hc)]
        have e2 : j - (off + k) = (j - (off + (k + 1))) + 1 := by omega
        rw [e2, List.getElem?_cons_succ]
      · have : ¬ (off + (k + 1) ≤ j ∧ j < off + (k + 1) + xs.length ∧ j < (cells.setIfInBounds (off + k) x).size) := by simp; omega
        rw [if_neg this, if_neg (by simpa using hc), Array.getElem?_setIfInBounds_ne (by omega)]
theorem Rep.agg_iff {cs : List AV} {vs : Array Value} : Rep w Z (.agg cs) (.agg vs) ↔ vs.size = cs.length ∧ ∀ (j : Nat) (x : AV) (u : Value), cs[j]? = some x → vs[j]? = some u → Rep w Z x u := by
  constructor
  · intro h
    cases h with
    | agg hl hr =>
      refine ⟨hl, fun j x u h1 h2 => ?_⟩
      obtain ⟨q1, q2⟩ := List.getElem?_eq_some_iff.1 h1
      obtain ⟨q3, q4⟩ := Array.getElem?_eq_some_iff.1 h2
      subst q2 q4
      exact hr j q1
  · rintro ⟨hl, hr⟩
    exact .agg hl fun j hj => hr j _ _ (List.getElem?_eq_getElem hj) (Array.getElem?_eq_getElem (by omega))
theorem layV_rep {cs : List AV} {vs : Array Value} {x : AV} {u : Value} {o : Nat} (h : Rep w Z (.agg cs) (.agg vs)) (hx : Rep w Z x u) (ho : o + x.cells.length ≤ cs.length) : Rep w Z (.agg (splice cs o x.cells)) (.agg (layV vs o u.cells)) := by
  rw [Rep.agg_iff] at h ⊢
  obtain ⟨hl, hr⟩ := h
  obtain ⟨c1, c2⟩ := hx.cells
  obtain ⟨q1, q2⟩ := layV_aux o u.cells.toList 0 vs
  have e : layV vs o u.cells = (u.cells.toList.zipIdx 0).foldl (fun cs (c, j) => cs.setIfInBounds (o + j) c) vs := by
    unfold layV
    rw [← Array.foldl_toList]
    simp
  refine ⟨by rw [e, q1, hl, splice_len ho], fun j y v h1 h2 => ?_⟩
  rw [splice_get? ho j] at h1
  rw [e, q2 j] at h2
  by_cases hh : o ≤ j ∧ j < o + x.cells.length
  · rw [if_pos hh] at h1
    rw [if_pos ⟨by omega, by simp; omega, by omega⟩] at h2
    obtain ⟨a1, a2⟩ := List.getElem?_eq_some_iff.1 h1
    simp only [Nat.add_zero, Array.getElem?_toList] at h2
    obtain ⟨a3, a4⟩ := Array.getElem?_eq_some_iff.1 h2
    subst a2 a4
    exact c2 _ a1 a3
  · rw [if_neg hh] at h1
    rw [if_neg (by simp; omega)] at h2
    exact hr j y v h1 h2
theorem layV_eq {vs xs : Array Value} {o : Nat} (h : o + xs.size ≤ vs.size) : layV vs o xs = (splice vs.toList o xs.toList).toArray := by
  obtain ⟨q1, q2⟩ := layV_aux o xs.toList 0 vs
  have e : layV vs o xs = (xs.toList.zipIdx 0).foldl (fun cs (c, j) => cs.setIfInBounds (o + j) c) vs := by
    unfold layV
    rw [← Array.foldl_toList]
    simp
  apply Array.ext_getElem?
  intro j
  rw [e, q2 j]
  simp only [List.getElem?_toArray]
  rw [splice_get? (by simpa using h)]
  by_cases hh : o ≤ j ∧ j < o + xs.size
  · rw [if_pos ⟨by omega, by simp; omega, by omega⟩, if_pos (by simpa using hh)]
    simp
  · rw [if_neg (by simp; omega), if_neg (by simpa using hh)]
    simp
theorem fillA_len {T : TyTab} {σ : AS} {fs : List (Nat × Nat × TypeId)} : ∀ (parts : List (Nat × Operand)) (cs cs' : List AV), fillA T σ fs cs parts = some cs' → cs'.length = cs.length
  | [], cs, cs', h => by cases h; rfl
  | (f, x) :: rest, cs, cs', h => by
    unfold fillA at h
    split at h
    · split at h
      · rename_i hc
        rw [fillA_len rest _ cs' h, splice_len (by omega)]
      · cases h
    · cases h
theorem fill_sound (S : Sim1 w0 Z0 σ a w Z β) {fs : List (Nat × Nat × TypeId)} {place : Nat → Option (Nat × Nat)} (hp : ∀ (f o n : Nat) (t : TypeId), fs[f]? = some (o, n, t) → place f = some (o, n)) :
    ∀ (parts : List (Nat × Operand)) (cs : List AV) (vs : Array Value) (cs' : List AV), Rep w Z (.agg cs) (.agg vs) → fillA C.T σ fs cs parts = some cs' →
      ∃ vs', Instr.fill place vs (parts.map fun (i, x) => (i, a.eval x)) = some vs' ∧ Rep w Z (.agg cs') (.agg vs')
  | [], cs, vs, cs', hr, h => by
    cases h
    exact ⟨vs, rfl, hr⟩
  | (f, x) :: rest, cs, vs, cs', hr, h => by
    unfold fillA at h
    split at h
    · rename_i o n t y h1 h2
      split at h
      · rename_i hc
        have hg : Rep w Z y (a.eval x) := S.get h2
        have hn := normA_sound (T := C.T) (ty := t) hg
        have hl := hn.cells.1
        have hr' := layV_rep (o := o) hr hn (by omega)
        obtain ⟨vs', q1, q2⟩ := fill_sound S hp rest _ _ cs' hr' h
        refine ⟨vs', ?_, q2⟩
        simp only [List.map_cons, Instr.fill, hp f o n t h1]
        have hsz : vs.size = cs.length := by cases hr with | agg hl _ => exact hl
        rw [if_neg (by simp; omega)]
        exact q1
      · cases h
    · cases h
theorem run_zero {ty : TypeId} {i : TI} (h : TIOK C.P ty i) (w : World) : ∃ zv, (zeroValue ty).run C.P w = .ok zv w ∧ ∀ w Z, Rep w Z (.agg i.zero) (.agg zv.cells) := by
  obtain ⟨info, zv, h1, _, h3, h4⟩ := h.inf
  exact ⟨zv, by simp [zeroValue, typeInfo, h1, h3], h4⟩
end
end Go.Proofs.YtnifjdhjimjihaaGreatDoor
