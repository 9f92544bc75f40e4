/- The engine, part I: what a step looks at and turns. -/
import Derived.Test.YtnifjdhjimjihaaGreatDoorEH
import Derived.Orders
set_option linter.unusedSimpArgs false
set_option linter.unusedVariables false
namespace Go.Proofs.YtnifjdhjimjihaaGreatDoor
open Go.RowKit Lim

def wantedA (ops : Array Oper) (σ : AS) (o : Oper) : Option Bool :=
  match o.guard with
  | none => some true
  | some (j, want) =>
    match (ops[j]?).bind (·.dst) with
    | none => none
    | some t =>
      match σ.tm t with
      | some (.av (.lit (.bool b))) => some (b == want)
      | some .skip => some false
      | _ => none
/-- One operation, carried out or passed over. -/
def astepG (C : Ctx) (ops : Array Oper) (o : Oper) (σ : AS) (K : AS → Prop) : Prop :=
  ∃ b, wantedA ops σ o = some b ∧ (b = true → astep C o σ K) ∧ (b = false → K (σ.put o.dst .skip))

inductive Eff where
  | put (d : Option Nat) (v : TV)
  | new (t : Nat) (cs : List AV)
  | set (t : Nat) (cs : List AV) (d : Option Nat)
def Eff.apply (σ : AS) : Eff → AS
  | .put d v => σ.put d v
  | .new t cs => σ.new t cs
  | .set t cs d => (σ.setMem t cs).put d .skip
def eff1 (C : Ctx) (o : Oper) (σ : AS) (e : Eff) : Prop := astep C o σ (fun _ => True) ∧ match o.op with
  | .alloc ty => ∃ t i, o.dst = some t ∧ C.T ty = some i ∧ e = .new t i.zero
  | .box _ x => ∃ t y, o.dst = some t ∧ σ.get x = some (.av y) ∧ e = .new t y.cells
  | .store ty x y => ∃ t off cs z, σ.get x = some (.ref t off) ∧ σ.mem t = some cs ∧ σ.get y = some (.av z) ∧ e = .set t (splice cs off (normA C.T ty z).cells) o.dst
  | .buildSlice ty n parts => ∃ e0 k l z i cs, C.T ty = some ⟨.slc e0 k l, z⟩ ∧ C.T e0 = some i ∧ fillA C.T σ (places k e0 n 0) (List.replicate n i.zero).flatten parts.toList = some cs ∧
      (match l with
       | true => ∃ ns, natsR cs ns ∧ e = .put o.dst (.av (.nat ns))
       | false => e = .put o.dst (.av (.sl k (chunk k n cs))))
  | .call c => (match c.callee with
    | .value (.func f) => ∃ args r, σ.args C.T c.args.toList c.argTypes.toList = some args ∧ ACalls C f args r ∧ e = .put o.dst (.av r)
    | _ => ∃ v, aval C σ o v ∧ e = .put o.dst v)
  | _ => ∃ v, aval C σ o v ∧ e = .put o.dst v
def eff (C : Ctx) (ops : Array Oper) (o : Oper) (σ : AS) (e : Eff) : Prop :=
  (wantedA ops σ o = some true ∧ eff1 C o σ e) ∨ (wantedA ops σ o = some false ∧ e = .put o.dst .skip)

section
variable {C : Ctx} {σ τ : AS} {ops : Array Oper} {o : Oper}

theorem eff1_of {K : AS → Prop} (h : astep C o σ K) : ∃ e, eff1 C o σ e ∧ K (e.apply σ) := by
  obtain ⟨dst, op, type, pos, after, guard⟩ := o
  have val : (∃ v, aval C σ ⟨dst, op, type, pos, after, guard⟩ v ∧ K (σ.put dst v)) → ∃ e, (∃ v, aval C σ ⟨dst, op, type, pos, after, guard⟩ v ∧ e = .put dst v) ∧ K (Eff.apply σ e) := by
    rintro ⟨v, h1, h2⟩
    exact ⟨.put dst v, ⟨v, h1, rfl⟩, h2⟩
  cases op with
  | alloc ty =>
    obtain ⟨t, i, h1, h2, h3, h4, h5⟩ := h
    exact ⟨.new t i.zero, ⟨⟨t, i, h1, h2, h3, h4, trivial⟩, t, i, h1, h2, rfl⟩, h5⟩
  | box ty x =>
    obtain ⟨t, y, h1, h2, h3, h4, h5⟩ := h
    exact ⟨.new t y.cells, ⟨⟨t, y, h1, h2, h3, h4, trivial⟩, t, y, h1, h2, rfl⟩, h5⟩
  | store ty x y =>
    obtain ⟨i, t, off, cs, z, h1, h2, h3, h4, h5, h6, h7, h8, h9⟩ := h
    exact ⟨.set t _ dst, ⟨⟨i, t, off, cs, z, h1, h2, h3, h4, h5, h6, h7, h8, trivial⟩, t, off, cs, z, h2, h3, h4, rfl⟩, h9⟩
  | buildSlice ty n parts =>
    obtain ⟨e, k, l, z, i, cs, h1, h2, h3, h4, h5, h6, h7, h8⟩ := h
    cases l with
    | true =>
      obtain ⟨hk, ns, h8, h9⟩ := h8
      exact ⟨.put dst _, ⟨⟨e, k, true, z, i, cs, h1, h2, h3, h4, h5, h6, h7, hk, ns, h8, trivial⟩, e, k, true, z, i, cs, h1, h2, h6, ns, h8, rfl⟩, h9⟩
    | false => exact ⟨.put dst _, ⟨⟨e, k, false, z, i, cs, h1, h2, h3, h4, h5, h6, h7, trivial⟩, e, k, false, z, i, cs, h1, h2, h6, rfl⟩, h8⟩
  | call c =>
    simp only [astep] at h
    simp only [eff1, astep]
    split at h
    · rename_i f hc
      obtain ⟨args, r, h1, h2, h3⟩ := h
      refine ⟨.put dst (.av r), ⟨?_, ?_⟩, h3⟩
      · exact ⟨args, r, h1, h2, trivial⟩
      · first | exact ⟨args, r, h1, h2, rfl⟩ | (rw [hc]; exact ⟨args, r, h1, h2, rfl⟩)
    · rename_i hc
      obtain ⟨e, h1, h2⟩ := val h
      refine ⟨e, ⟨?_, ?_⟩, h2⟩
      · obtain ⟨v, h3, _⟩ := h1
        exact ⟨v, h3, trivial⟩
      · first
        | exact h1
        | (split
           · rename_i f hf; exact absurd hf (hc f)
           · exact h1)
  | _ =>
    obtain ⟨v, h1, h2⟩ := h
    exact ⟨.put dst v, ⟨⟨v, h1, trivial⟩, v, h1, rfl⟩, h2⟩
theorem astep_of {K : AS → Prop} {e : Eff} (h : eff1 C o σ e) (hK : K (e.apply σ)) : astep C o σ K := by
  obtain ⟨h0, h⟩ := h
  obtain ⟨dst, op, type, pos, after, guard⟩ := o
  cases op with
  | alloc ty =>
    obtain ⟨t, i, h1, h2, rfl⟩ := h
    obtain ⟨t', i', g1, g2, g3, g4, _⟩ := h0
    rw [h1] at g1; cases g1
    rw [h2] at g2; cases g2
    exact ⟨t, i, h1, h2, g3, g4, hK⟩
  | box ty x =>
    obtain ⟨t, i, h1, h2, rfl⟩ := h
    obtain ⟨t', i', g1, g2, g3, g4, _⟩ := h0
    rw [h1] at g1; cases g1
    rw [h2] at g2; cases g2
    exact ⟨t, i, h1, h2, g3, g4, hK⟩
  | store ty x y =>
    obtain ⟨t, off, cs, z, h2, h3, h4, rfl⟩ := h
    obtain ⟨i, t', off', cs', z', g1, g2, g3, g4, g5, g6, g7, g8, _⟩ := h0
    rw [h2] at g2; cases g2
    rw [h3] at g3; cases g3
    rw [h4] at g4; cases g4
    exact ⟨i, t, off, cs, z, g1, h2, h3, h4, g5, g6, g7, g8, hK⟩
  | buildSlice ty n parts =>
    obtain ⟨e0, k, l, z, i, cs, h1, h2, h6, h8⟩ := h
    obtain ⟨e', k', l', z', i', cs', g1, g2, g3, g4, g5, g6, g7, g8⟩ := h0
    rw [h1] at g1; cases g1
    rw [h2] at g2; cases g2
    rw [h6] at g6; cases g6
    refine ⟨e0, k, l, z, i, cs, h1, h2, g3, g4, g5, h6, g7, ?_⟩
    cases l with
    | true =>
      obtain ⟨ns, h8, rfl⟩ := h8
      exact ⟨g8.1, ns, h8, hK⟩
    | false => cases h8; exact hK
  | call c =>
    simp only [astep] at h0 ⊢
    simp only at h
    split
    · rename_i f hc
      rw [hc] at h
      obtain ⟨args, r, h1, h2, rfl⟩ := h
      exact ⟨args, r, h1, h2, hK⟩
    · rename_i hc
      split at h
      · rename_i f hf; exact absurd hf (hc f)
      · obtain ⟨v, h1, rfl⟩ := h
        exact ⟨v, h1, hK⟩
  | _ =>
    obtain ⟨v, h1, rfl⟩ := h
    exact ⟨v, h1, hK⟩
theorem astepG_iff {K : AS → Prop} : astepG C ops o σ K ↔ ∃ e, eff C ops o σ e ∧ K (e.apply σ) := by
  constructor
  · rintro ⟨b, h1, h2, h3⟩
    cases b with
    | true =>
      obtain ⟨e, h4, h5⟩ := eff1_of (h2 rfl)
      exact ⟨e, .inl ⟨h1, h4⟩, h5⟩
    | false => exact ⟨_, .inr ⟨h1, rfl⟩, h3 rfl⟩
  · rintro ⟨e, ⟨h1, h2⟩ | ⟨h1, rfl⟩, hK⟩
    · exact ⟨true, h1, fun _ => astep_of h2 hK, fun h => by cases h⟩
    · exact ⟨false, h1, (fun h => by cases h), fun _ => hK⟩
end
end Go.Proofs.YtnifjdhjimjihaaGreatDoor
/- The engine, part J: two steps that nothing ties may change places. -/
namespace Go.Proofs.YtnifjdhjimjihaaGreatDoor
open Go.RowKit Lim

/-- The slot that holds the address that an operation reads or writes. -/
def addrOf (o : Oper) : Option Nat := match o.op with | .load _ (.tmp a) => some a | .store _ (.tmp a) _ => some a | _ => none
def isStoreB (o : Oper) : Bool := match o.op with | .store .. => true | _ => false
def isNewB (o : Oper) : Bool := match o.op with | .alloc .. | .box .. => true | _ => false
def look2 : List (Nat × Nat) → Nat → Nat
  | [], x => x
  | (k, v) :: l, x => if x = k then v else look2 l x
def clash (rt : Nat → Nat) (x y : Oper) : Bool := match addrOf x, addrOf y with | some a, some b => rt a == rt b | _, _ => false
/-- Nothing ties the two but, perhaps, an order that the region asks for. -/
def indep (ops : Array Oper) (rt : Nat → Nat) (x y : Oper) : Bool := x.apart ops y && !(clash rt x y && (isStoreB x || isStoreB y))

section
variable {C : Ctx} {σ τ : AS} {ops : Array Oper} {o : Oper}

theorem get_congr {x : Operand} {xs : Array Operand} (hx : x ∈ xs) (h : ∀ t, Operand.tmp t ∈ xs → τ.tm t = σ.tm t) : τ.get x = σ.get x := by
  cases x with
  | tmp t => exact h t hx
  | _ => rfl
theorem fillA_congr {T : TyTab} {fs : List (Nat × Nat × TypeId)} : ∀ (parts : List (Nat × Operand)) (cs : List AV), (∀ p ∈ parts, τ.get p.2 = σ.get p.2) → fillA T τ fs cs parts = fillA T σ fs cs parts
  | [], cs, _ => rfl
  | (f, x) :: rest, cs, h => by
    have h1 : τ.get x = σ.get x := h (f, x) (by simp)
    unfold fillA
    rw [h1]
    split
    · split
      · exact fillA_congr rest _ fun p hp => h p (by simp [hp])
      · rfl
    · rfl
theorem args_congr {T : TyTab} : ∀ (xs : List Operand) (tys : List TypeId), (∀ x ∈ xs, τ.get x = σ.get x) → τ.args T xs tys = σ.args T xs tys
  | [], _, _ => rfl
  | x :: xs, tys, h => by
    unfold AS.args
    rw [h x (by simp), args_congr xs tys.tail fun y hy => h y (by simp [hy])]
theorem wantedA_congr (h : ∀ t ∈ o.looksAt ops, τ.tm t = σ.tm t) : wantedA ops τ o = wantedA ops σ o := by
  unfold wantedA
  cases hg : o.guard with
  | none => rfl
  | some p =>
    obtain ⟨j, want⟩ := p
    simp only
    cases hj : (ops[j]?).bind (·.dst) with
    | none => rfl
    | some t =>
      have : τ.tm t = σ.tm t := h t (by simp [Oper.looksAt, hg, hj])
      simp only [this]
set_option maxHeartbeats 1000000 in
theorem aval_congr {v : TV} (hg : ∀ x ∈ o.op.operands, τ.get x = σ.get x) (hm : ∀ a, addrOf o = some a → ∀ t off, σ.tm a = some (.ref t off) → τ.mem t = σ.mem t) (h : aval C σ o v) : aval C τ o v := by
  obtain ⟨dst, op, type, pos, after, guard⟩ := o
  simp only at hg hm
  cases op with
  | move x => have := hg x (by simp [Op.operands]); simp only [aval, this] at h ⊢; exact h
  | assign x => have := hg x (by simp [Op.operands]); simp only [aval, this] at h ⊢; exact h
  | pick c x y =>
    have h1 := hg c (by simp [Op.operands])
    have h2 := hg x (by simp [Op.operands])
    have h3 := hg y (by simp [Op.operands])
    obtain ⟨t, q1, q2⟩ := h
    refine ⟨t, by rw [h1]; exact q1, ?_⟩
    cases t
    · exact h3.trans q2
    · exact h2.trans q2
  | load ty x =>
    have h1 := hg x (by simp [Op.operands])
    have h2 : τ.look (τ.get x) = σ.look (σ.get x) := by
      rw [h1]
      cases hx : σ.get x with
      | none => rfl
      | some y =>
        cases y with
        | ref t off =>
          cases x with
          | tmp a => simp only [AS.look]; rw [hm a rfl t off hx]
          | const v => obtain ⟨u, h3, _⟩ := constT_sound hx; cases h3
          | _ => cases hx
        | _ => rfl
    simp only [aval, h2] at h ⊢
    exact h
  | fieldAddr ty x f => have := hg x (by simp [Op.operands]); simp only [aval, this] at h ⊢; exact h
  | field ty x f => have := hg x (by simp [Op.operands]); simp only [aval, this] at h ⊢; exact h
  | extract x i => have := hg x (by simp [Op.operands]); simp only [aval, this] at h ⊢; exact h
  | indexAddr ty x ix =>
    have h1 := hg x (by simp [Op.operands])
    have h2 := hg ix (by simp [Op.operands])
    simp only [aval, h1, h2] at h ⊢; exact h
  | index ty x ix =>
    have h1 := hg x (by simp [Op.operands])
    have h2 := hg ix (by simp [Op.operands])
    simp only [aval, h1, h2] at h ⊢; exact h
  | binOp b ty x y yt =>
    have h1 := hg x (by simp [Op.operands])
    have h2 := hg y (by simp [Op.operands])
    simp only [aval, h1, h2] at h ⊢; exact h
  | unOp b xt x => have := hg x (by simp [Op.operands]); simp only [aval, this] at h ⊢; exact h
  | convert src dst x => have := hg x (by simp [Op.operands]); simp only [aval, this] at h ⊢; exact h
  | build ty parts =>
    have h1 : ∀ fs z, fillA C.T τ fs z parts.toList = fillA C.T σ fs z parts.toList := fun fs z => fillA_congr _ _ fun p hp => hg p.2 (by simp [Op.operands]; exact ⟨p.1, by simpa using hp⟩)
    simp only [aval, h1] at h ⊢; exact h
  | slice ty x lo hi mx =>
    cases mx with
    | some m => exact h.elim
    | none =>
      have h1 := hg x (by simp [Op.operands])
      have h2 : optGet τ lo = optGet σ lo := by
        cases lo with
        | none => rfl
        | some y => simp only [optGet]; rw [hg y (by simp [Op.operands])]
      have h3 : optGet τ hi = optGet σ hi := by
        cases hi with
        | none => rfl
        | some y => simp only [optGet]; rw [hg y (by simp [Op.operands])]
      simp only [aval, h1, h2, h3] at h ⊢; exact h
  | nilCheck x => have := hg x (by simp [Op.operands]); simp only [aval, this] at h ⊢; exact h
  | call c =>
    simp only [aval] at h ⊢
    split at h
    · obtain ⟨x, ty, i, h1, h2, h3, h4⟩ := h
      have := hg x (by simp [Op.operands, Call.operands, h1])
      exact ⟨x, ty, i, h1, h2, h3, by rw [this]; exact h4⟩
    · exact h.elim
  | _ => exact h.elim
theorem looks_get (h : ∀ t ∈ o.looksAt ops, τ.tm t = σ.tm t) : ∀ x ∈ o.op.operands, τ.get x = σ.get x := fun x hx =>
  get_congr hx fun t ht => h t (by
    unfold Oper.looksAt
    exact List.mem_append_left _ (List.mem_filterMap.2 ⟨.tmp t, by simpa using ht, rfl⟩))
theorem eff_congr {e : Eff} (hl : ∀ t ∈ o.looksAt ops, τ.tm t = σ.tm t) (hm : ∀ a, addrOf o = some a → ∀ t off, σ.tm a = some (.ref t off) → τ.mem t = σ.mem t) (h : eff C ops o σ e) : eff C ops o τ e := by
  have hg := looks_get hl
  have hw := wantedA_congr hl
  rcases h with ⟨h1, h2⟩ | ⟨h1, h2⟩
  · refine .inl ⟨hw.trans h1, ?_⟩
    clear hw h1 hl
    obtain ⟨dst, op, type, pos, after, guard⟩ := o
    have key : ∀ v, aval C σ ⟨dst, op, type, pos, after, guard⟩ v → aval C τ ⟨dst, op, type, pos, after, guard⟩ v := fun v => aval_congr hg hm
    simp only at hg hm
    obtain ⟨h0, h2⟩ := h2
    cases op with
    | alloc ty => exact ⟨h0, h2⟩
    | box ty x =>
      have := hg x (by simp [Op.operands])
      simp only [eff1, astep, this] at h0 h2 ⊢
      exact ⟨h0, h2⟩
    | store ty x y =>
      have q1 := hg x (by simp [Op.operands])
      have q2 := hg y (by simp [Op.operands])
      obtain ⟨t, off, cs, z, g2, g3, g4, g5⟩ := h2
      have q3 : τ.mem t = σ.mem t := by
        cases x with
        | tmp a => exact hm a rfl t off g2
        | const v => obtain ⟨u, h3, _⟩ := constT_sound g2; cases h3
        | _ => cases g2
      obtain ⟨i, t', off', cs', z', f1, f2, f3, f4, f5, f6, f7, f8, _⟩ := h0
      rw [g2] at f2; cases f2
      rw [g3] at f3; cases f3
      rw [g4] at f4; cases f4
      exact ⟨⟨i, t, off, cs, z, f1, q1.trans g2, q3.trans g3, q2.trans g4, f5, f6, f7, f8, trivial⟩, t, off, cs, z, q1.trans g2, q3.trans g3, q2.trans g4, g5⟩
    | buildSlice ty n parts =>
      have h1 : ∀ fs z, fillA C.T τ fs z parts.toList = fillA C.T σ fs z parts.toList := fun fs z => fillA_congr _ _ fun p hp => hg p.2 (by simp [Op.operands]; exact ⟨p.1, by simpa using hp⟩)
      simp only [eff1, astep, h1] at h0 h2 ⊢
      exact ⟨h0, h2⟩
    | call c =>
      have h1 : ∀ tys, τ.args C.T c.args.toList tys = σ.args C.T c.args.toList tys := fun tys => args_congr _ _ fun x hx => hg x (by simp [Op.operands, Call.operands]; exact .inr (by simpa using hx))
      simp only [eff1, astep, h1] at h0 h2 ⊢
      obtain ⟨callee, cargs, ctys⟩ := c
      cases callee with
      | value f =>
        cases f with
        | func f => exact ⟨h0, h2⟩
        | _ =>
          obtain ⟨v, g1, g2⟩ := h2
          exact ⟨⟨v, key v g1, trivial⟩, v, key v g1, g2⟩
      | _ =>
        obtain ⟨v, g1, g2⟩ := h2
        exact ⟨⟨v, key v g1, trivial⟩, v, key v g1, g2⟩
    | _ =>
      obtain ⟨v, g1, g2⟩ := h2
      exact ⟨⟨v, key v g1, trivial⟩, v, key v g1, g2⟩
  · exact .inr ⟨hw.trans h1, h2⟩
/-- No slot points into the variable s. -/
def NoRef (σ : AS) (s : Nat) : Prop := ∀ x off, σ.tm x ≠ some (.ref s off)
theorem NoRef.get {s : Nat} (h : NoRef σ s) {x : Operand} {off : Nat} : σ.get x ≠ some (.ref s off) := by
  cases x with
  | tmp t => exact h t off
  | const v =>
    intro he
    obtain ⟨u, h1, _⟩ := constT_sound he
    cases h1
  | _ => intro he; cases he
theorem NoRef.aval {s off : Nat} {v : TV} (h : NoRef σ s) (hv : aval C σ o v) : v ≠ .ref s off := by
  rintro rfl
  obtain ⟨dst, op, type, pos, after, guard⟩ := o
  cases op with
  | move x => exact h.get hv
  | assign x => exact h.get hv
  | pick c x y =>
    obtain ⟨t, _, q2⟩ := hv
    exact h.get q2
  | load ty x => obtain ⟨_, _, _, _, _, _, q⟩ := hv; cases q
  | fieldAddr ty x f =>
    obtain ⟨_, _, o, _, _, _, _, q⟩ := hv
    cases hx : σ.get x with
    | none => rw [hx] at q; cases q
    | some y =>
      rw [hx] at q
      cases y with
      | ref t off' => cases q; exact h.get hx
      | _ => cases q
  | field ty x f => obtain ⟨_, _, _, _, _, _, _, _, _, _, _, _, _, q⟩ := hv; cases q
  | extract x i => obtain ⟨_, _, _, _, q⟩ := hv; cases q
  | indexAddr ty x ix => obtain ⟨_, _, _, _, _, _, _, _, _, _, _, _, _, q⟩ := hv; cases q
  | index ty x ix => obtain ⟨_, _, _, _, _, _, _, _, _, _, q⟩ := hv; cases q
  | binOp b ty x y yt => obtain ⟨_, _, _, _, _, _, q⟩ := hv; cases q
  | unOp b xt x => obtain ⟨_, _, _, _, q⟩ := hv; cases q
  | convert src dst x => obtain ⟨_, _, _, _, _, _, _, _, _, _, q⟩ := hv; cases q
  | build ty parts => obtain ⟨_, _, _, _, _, q⟩ := hv; cases q
  | slice ty x lo hi mx =>
    cases mx with
    | some m => exact hv.elim
    | none =>
      obtain ⟨_, _, _, _, _, _, q⟩ := hv
      split at q
      · obtain ⟨_, _, _, q⟩ := q; cases q
      · obtain ⟨_, _, _, _, q⟩ := q; cases q
      · obtain ⟨_, _, _, _, q⟩ := q; cases q
      · exact q.elim
  | nilCheck x =>
    simp only [Go.Proofs.YtnifjdhjimjihaaGreatDoor.aval] at hv
    split at hv
    · rename_i hx; cases hv; exact h.get hx
    · cases hv
    · exact hv.elim
  | call c =>
    simp only [Go.Proofs.YtnifjdhjimjihaaGreatDoor.aval] at hv
    split at hv
    · obtain ⟨_, _, _, _, _, _, q⟩ := hv
      split at q
      · cases q
      · obtain ⟨_, _, q⟩ := q; cases q
      · exact q.elim
    · exact hv.elim
  | _ => exact hv.elim
/-- What an effect does, in one word: it puts no pointer into s anywhere, and makes no variable s. -/
theorem eff_shape {e : Eff} (h : eff C ops o σ e) :
    (∃ t cs, e = .new t cs ∧ isNewB o = true ∧ o.dst = some t) ∨ (∃ t cs, e = .set t cs o.dst ∧ isStoreB o = true ∧ ∃ a off, addrOf o = some a ∧ σ.tm a = some (.ref t off)) ∨ (∃ v, e = .put o.dst v ∧ ∀ s, NoRef σ s → ∀ off, v ≠ .ref s off) := by
  rcases h with ⟨_, h0, h⟩ | ⟨_, rfl⟩
  · obtain ⟨dst, op, type, pos, after, guard⟩ := o
    cases op with
    | alloc ty => obtain ⟨t, i, h1, _, rfl⟩ := h; exact .inl ⟨t, _, rfl, rfl, h1⟩
    | box ty x => obtain ⟨t, i, h1, _, rfl⟩ := h; exact .inl ⟨t, _, rfl, rfl, h1⟩
    | store ty x y => 
      obtain ⟨t, off, cs, z, hx, _, _, rfl⟩ := h
      refine .inr (.inl ⟨t, _, rfl, rfl, ?_⟩)
      cases x with
      | tmp a => exact ⟨a, off, rfl, hx⟩
      | const v => obtain ⟨u, h3, _⟩ := constT_sound hx; cases h3
      | _ => cases hx
    | buildSlice ty n parts =>
      obtain ⟨_, _, l, _, _, _, _, _, _, q⟩ := h
      cases l
      · cases q
        exact .inr (.inr ⟨_, rfl, fun _ _ _ h => by cases h⟩)
      · obtain ⟨_, _, rfl⟩ := q
        exact .inr (.inr ⟨_, rfl, fun _ _ _ h => by cases h⟩)
    | call c =>
      obtain ⟨callee, cargs, ctys⟩ := c
      cases callee with
      | value f =>
        cases f with
        | func f =>
          obtain ⟨_, _, _, _, rfl⟩ := h
          exact .inr (.inr ⟨_, rfl, fun _ _ _ h => by cases h⟩)
        | _ =>
          obtain ⟨v, h1, rfl⟩ := h
          exact .inr (.inr ⟨v, rfl, fun s hs off => hs.aval h1⟩)
      | _ =>
        obtain ⟨v, h1, rfl⟩ := h
        exact .inr (.inr ⟨v, rfl, fun s hs off => hs.aval h1⟩)
    | _ =>
      obtain ⟨v, h1, rfl⟩ := h
      exact .inr (.inr ⟨v, rfl, fun s hs off => hs.aval h1⟩)
  · exact .inr (.inr ⟨_, rfl, fun _ _ _ h => by cases h⟩)
end
end Go.Proofs.YtnifjdhjimjihaaGreatDoor
/- The engine, part K: a region whose order is open. -/
namespace Go.Proofs.YtnifjdhjimjihaaGreatDoor
open Go.RowKit Lim

section
variable {C : Ctx} {σ τ : AS} {ops : Array Oper} {o oi oj : Oper}

def Eff.dst : Eff → Option Nat
  | .put d _ => d
  | .new t _ => some t
  | .set _ _ d => d
def Eff.val : Eff → TV
  | .put _ v => v
  | .new t _ => .ref t 0
  | .set _ _ _ => .skip
def updO {α : Type} (f : Nat → Option α) (d : Option Nat) (v : α) : Nat → Option α := match d with | some t => upd f t (some v) | none => f
def Eff.memKey : Eff → Option Nat
  | .put _ _ => none
  | .new t _ => some t
  | .set t _ _ => some t
def Eff.memVal : Eff → List AV
  | .put _ _ => []
  | .new _ cs => cs
  | .set _ cs _ => cs
/-- What is pending: no slot points into a variable that is still to be made. -/
def Pend (σ : AS) (o : Oper) : Prop := isNewB o = true → ∀ s, o.dst = some s → NoRef σ s
theorem stale_id {s : Nat} (h : NoRef σ s) (x : Nat) : stale s (σ.tm x) = σ.tm x := by
  cases hx : σ.tm x with
  | none => rfl
  | some y =>
    cases y with
    | ref t off =>
      simp only [stale]
      rw [if_neg]
      rintro rfl
      exact h x off hx
    | _ => rfl
theorem apply_eq {e : Eff} (hp : Pend σ o) (h : eff C ops o σ e) : e.apply σ = ⟨updO σ.tm o.dst e.val, updO σ.mem e.memKey e.memVal⟩ ∧ e.dst = o.dst := by
  rcases eff_shape h with ⟨t, cs, rfl, h1, h2⟩ | ⟨t, cs, rfl, _, _⟩ | ⟨v, rfl, _⟩
  · refine ⟨?_, h2.symm⟩
    rw [h2]
    have hn := hp h1 t h2
    have : (fun x => stale t (σ.tm x)) = σ.tm := funext fun x => stale_id hn x
    simp only [Eff.apply, AS.new, this, updO, Eff.val, Eff.memKey, Eff.memVal]
  · refine ⟨?_, rfl⟩
    cases o.dst <;> rfl
  · refine ⟨?_, rfl⟩
    cases o.dst <;> rfl
theorem updO_ne {α : Type} {f : Nat → Option α} {d : Option Nat} {v : α} {x : Nat} (h : d ≠ some x) : updO f d v x = f x := by
  cases d with
  | none => rfl
  | some t => simp only [updO, upd]; rw [if_neg]; rintro rfl; exact h rfl
theorem updO_comm {α : Type} {f : Nat → Option α} {d d' : Option Nat} {v v' : α} (h : ∀ t, d = some t → d' ≠ some t) : updO (updO f d v) d' v' = updO (updO f d' v') d v := by
  funext x
  by_cases h1 : d = some x
  · have h2 := h x h1
    rw [updO_ne h2]
    subst h1
    simp [updO, upd]
  · rw [updO_ne (f := updO f d' v') h1]
    by_cases h2 : d' = some x
    · subst h2
      simp [updO, upd]
    · rw [updO_ne h2, updO_ne h1, updO_ne h2]
theorem NoRef.apply {e : Eff} {s : Nat} (hp : Pend σ o) (h : eff C ops o σ e) (hs : NoRef σ s) (hd : isNewB o = true → o.dst ≠ some s) : NoRef (e.apply σ) s := by
  intro x off
  rw [(apply_eq hp h).1]
  simp only
  by_cases hx : o.dst = some x
  · rw [hx]
    simp only [updO, upd, if_true]
    intro he
    have hv := Option.some.inj he
    rcases eff_shape h with ⟨t, cs, rfl, h1, h2⟩ | ⟨t, cs, rfl, _, _⟩ | ⟨v, rfl, h1⟩
    · simp only [Eff.val] at hv
      injection hv with hv1
      exact hd h1 (by rw [h2, hv1])
    · cases hv
    · exact h1 s hs off hv
  · rw [updO_ne hx]
    exact hs x off
theorem eff_key {e : Eff} (h : eff C ops o σ e) {t : Nat} (hk : e.memKey = some t) : (isNewB o = true ∧ o.dst = some t) ∨ (isStoreB o = true ∧ ∃ a off, addrOf o = some a ∧ σ.tm a = some (.ref t off)) := by
  rcases eff_shape h with ⟨t', cs, rfl, h1, h2⟩ | ⟨t', cs, rfl, h1, h2⟩ | ⟨v, rfl, h1⟩
  · cases hk; exact .inl ⟨h1, h2⟩
  · cases hk; exact .inr ⟨h1, h2⟩
  · cases hk
theorem get_apply {e : Eff} (hp : Pend σ o) (h : eff C ops o σ e) {x : Operand} (hx : ∀ t, x = .tmp t → o.dst ≠ some t) : (e.apply σ).get x = σ.get x := by
  cases x with
  | tmp t =>
    simp only [AS.get, (apply_eq hp h).1]
    exact updO_ne (hx t rfl)
  | _ => rfl
theorem mem_apply {e : Eff} (hp : Pend σ o) (h : eff C ops o σ e) {t : Nat} (hne : e.memKey ≠ some t) : (e.apply σ).mem t = σ.mem t := by
  rw [(apply_eq hp h).1]
  exact updO_ne hne
theorem mem_looks {t : Nat} (h : Operand.tmp t ∈ o.op.operands) : t ∈ o.looksAt ops := by
  unfold Oper.looksAt
  exact List.mem_append_left _ (List.mem_filterMap.2 ⟨.tmp t, by simpa using h, rfl⟩)
/-- What o looks at is not turned by p's effect e. -/
theorem addr_operand {a : Nat} (h : addrOf o = some a) : Operand.tmp a ∈ o.op.operands := by
  unfold addrOf at h
  split at h <;> first | (cases h; rename_i e; rw [e]; simp [Op.operands]) | cases h
/-- Every pointer into a variable lies where the roots say. -/
def Rooted (rt : Nat → Nat) (mv : List Nat) (σ : AS) : Prop := (∀ a t off, σ.tm a = some (.ref t off) → rt a = t) ∧ ∀ a ∈ mv, ∀ t off, σ.tm a ≠ some (.ref t off)
theorem eff_past {rt : Nat → Nat} {mv : List Nat} {p : Oper} {e ep : Eff} (hJ : Rooted rt mv σ) (hp : Pend σ p) (h : eff C ops p σ ep) (hd : ∀ d, p.dst = some d → d ∉ o.looksAt ops) (hst : isStoreB p = true → clash rt p o = false) :
    eff C ops o σ e ↔ eff C ops o (ep.apply σ) e := by
  have htm : ∀ t ∈ o.looksAt ops, (ep.apply σ).tm t = σ.tm t := fun t ht => by
    rw [(apply_eq hp h).1]
    exact updO_ne fun hh => hd t hh ht
  have hget : ∀ x ∈ o.op.operands, (ep.apply σ).get x = σ.get x := looks_get htm
  have hmem : ∀ a, addrOf o = some a → ∀ t off, σ.tm a = some (.ref t off) → (ep.apply σ).mem t = σ.mem t := fun a ha t off hxt => by
    refine mem_apply hp h fun hk => ?_
    rcases eff_key h hk with ⟨k1, k2⟩ | ⟨k1, b, off', hb, k2⟩
    · exact (hp k1 t k2) a off hxt
    · have := hst k1
      simp only [clash, hb, ha] at this
      rw [hJ.1 b t off' k2, hJ.1 a t off hxt] at this
      simp at this
  constructor
  · exact eff_congr htm hmem
  · refine eff_congr (fun t ht => (htm t ht).symm) fun a ha t off hxt => ?_
    have hg := hget (.tmp a) (addr_operand ha)
    simp only [AS.get] at hg
    rw [hg] at hxt
    exact (hmem a ha t off hxt).symm
theorem clash_comm (rt : Nat → Nat) (x y : Oper) : clash rt x y = clash rt y x := by
  unfold clash
  cases addrOf x <;> cases addrOf y <;> simp [Bool.beq_comm]
theorem eff_swap {rt : Nat → Nat} {mv : List Nat} {ei ej : Eff} (hJ : Rooted rt mv σ) (hind : indep ops rt oi oj = true) (hi : Pend σ oi) (hj : Pend σ oj) (h1 : eff C ops oj σ ej) (h2 : eff C ops oi (ej.apply σ) ei) :
    eff C ops oi σ ei ∧ eff C ops oj (ei.apply σ) ej ∧ ej.apply (ei.apply σ) = ei.apply (ej.apply σ) := by
  simp only [indep, Bool.and_eq_true, Bool.not_eq_true'] at hind
  obtain ⟨hap, hcl⟩ := hind
  obtain ⟨a1, a2, a3⟩ := Oper.apart_spec hap
  have g1 : eff C ops oi σ ei := (eff_past hJ hj h1 a3 (fun hs => by rw [clash_comm]; rw [hs, Bool.or_true, Bool.and_true] at hcl; exact hcl)).2 h2
  have g2 : eff C ops oj (ei.apply σ) ej := (eff_past hJ hi g1 a1 (fun hs => by rw [hs, Bool.true_or, Bool.and_true] at hcl; exact hcl)).1 h1
  have hi2 : Pend (ej.apply σ) oi := fun k s hs => (hi k s hs).apply hj h1 fun _ he => a2 s hs he
  have hj2 : Pend (ei.apply σ) oj := fun k s hs => (hj k s hs).apply hi g1 fun _ he => a2 s he hs
  refine ⟨g1, g2, ?_⟩
  rw [(apply_eq hj2 g2).1, (apply_eq hi2 h2).1, (apply_eq hi g1).1, (apply_eq hj h1).1]
  simp only
  rw [updO_comm (d := oi.dst) (d' := oj.dst) (fun t ht => a2 t ht)]
  rw [updO_comm (d := ei.memKey) (d' := ej.memKey)]
  intro t ht ht'
  rcases eff_key g1 ht with ⟨k1, k2⟩ | ⟨k1, x, off, hx, k2⟩
  · rcases eff_key h1 ht' with ⟨l1, l2⟩ | ⟨l1, y, off', hy, l2⟩
    · exact a2 t k2 l2
    · exact (hi k1 t k2) y off' l2
  · rcases eff_key h1 ht' with ⟨l1, l2⟩ | ⟨l1, y, off', hy, l2⟩
    · exact (hj l1 t l2) x off k2
    · rw [k1, Bool.true_or, Bool.and_true] at hcl
      simp only [clash, hx, hy] at hcl
      rw [hJ.1 x t off k2, hJ.1 y t off' l2] at hcl
      simp at hcl
/-- What the roots and the moves of a region ask of one operation. -/
def rootB (rt : Nat → Nat) (mv : List Nat) (o : Oper) : Bool :=
  match o.op with
  | .fieldAddr _ (.tmp a) _ | .nilCheck (.tmp a) => (match o.dst with | some d => rt d == rt a && !mv.contains d | none => true)
  | .alloc _ | .box _ _ => (match o.dst with | some d => rt d == d && !mv.contains d | none => true)
  | .move (.tmp a) | .assign (.tmp a) => mv.contains a
  | .pick _ x y => (match x with | .tmp a => mv.contains a | _ => true) && (match y with | .tmp a => mv.contains a | _ => true)
  | _ => true
theorem aval_ref {rt : Nat → Nat} {mv : List Nat} (hJ : Rooted rt mv σ) (hb : rootB rt mv o = true) {t off : Nat} (hv : aval C σ o (.ref t off)) {d : Nat} (hd : o.dst = some d) : rt d = t ∧ d ∉ mv := by
  obtain ⟨dst, op, type, pos, after, guard⟩ := o
  simp only at hd
  subst hd
  have nr : ∀ x, (match x with | .tmp a => mv.contains a | _ => true) = true → σ.get x ≠ some (.ref t off) := fun x hx hg => by
    cases x with
    | tmp a => exact hJ.2 a (by simpa using hx) t off hg
    | const v => obtain ⟨u, h3, _⟩ := constT_sound hg; cases h3
    | _ => cases hg
  cases op with
  | move x =>
    refine absurd hv (nr x ?_)
    cases x <;> first | exact hb | rfl
  | assign x =>
    refine absurd hv (nr x ?_)
    cases x <;> first | exact hb | rfl
  | pick c x y =>
    simp only [rootB, Bool.and_eq_true] at hb
    obtain ⟨b, _, q2⟩ := hv
    cases b
    · exact absurd q2 (nr y hb.2)
    · exact absurd q2 (nr x hb.1)
  | load ty x => obtain ⟨_, _, _, _, _, _, q⟩ := hv; cases q
  | fieldAddr ty x f =>
    obtain ⟨_, _, o, _, _, _, _, q⟩ := hv
    cases hx : σ.get x with
    | none => rw [hx] at q; cases q
    | some y =>
      rw [hx] at q
      cases y with
      | ref t' off' =>
        cases q
        cases x with
        | tmp a =>
          simp only [rootB, Bool.and_eq_true, beq_iff_eq, Bool.not_eq_true'] at hb
          exact ⟨hb.1.trans (hJ.1 a t off' hx), by simpa using hb.2⟩
        | const v => obtain ⟨u, h3, _⟩ := constT_sound hx; cases h3
        | _ => cases hx
      | _ => cases q
  | field ty x f => obtain ⟨_, _, _, _, _, _, _, _, _, _, _, _, _, q⟩ := hv; cases q
  | extract x i => obtain ⟨_, _, _, _, q⟩ := hv; cases q
  | indexAddr ty x ix => obtain ⟨_, _, _, _, _, _, _, _, _, _, _, _, _, q⟩ := hv; cases q
  | index ty x ix => obtain ⟨_, _, _, _, _, _, _, _, _, _, q⟩ := hv; cases q
  | binOp b ty x y yt => obtain ⟨_, _, _, _, _, _, q⟩ := hv; cases q
  | unOp b xt x => obtain ⟨_, _, _, _, q⟩ := hv; cases q
  | convert src dst x => obtain ⟨_, _, _, _, _, _, _, _, _, _, q⟩ := hv; cases q
  | build ty parts => obtain ⟨_, _, _, _, _, q⟩ := hv; cases q
  | slice ty x lo hi mx =>
    cases mx with
    | some m => exact hv.elim
    | none =>
      obtain ⟨_, _, _, _, _, _, q⟩ := hv
      split at q
      · obtain ⟨_, _, _, q⟩ := q; cases q
      · obtain ⟨_, _, _, _, q⟩ := q; cases q
      · obtain ⟨_, _, _, _, q⟩ := q; cases q
      · exact q.elim
  | nilCheck x =>
    simp only [Go.Proofs.YtnifjdhjimjihaaGreatDoor.aval] at hv
    split at hv
    · rename_i hx
      cases hv
      cases x with
      | tmp a =>
        simp only [rootB, Bool.and_eq_true, beq_iff_eq, Bool.not_eq_true'] at hb
        exact ⟨hb.1.trans (hJ.1 a _ _ hx), by simpa using hb.2⟩
      | const v => obtain ⟨u, h3, _⟩ := constT_sound hx; cases h3
      | _ => cases hx
    · cases hv
    · exact hv.elim
  | call c =>
    simp only [Go.Proofs.YtnifjdhjimjihaaGreatDoor.aval] at hv
    split at hv
    · obtain ⟨_, _, _, _, _, _, q⟩ := hv
      split at q
      · cases q
      · obtain ⟨_, _, q⟩ := q; cases q
      · exact q.elim
    · exact hv.elim
  | _ => exact hv.elim
theorem eff_val {e : Eff} (h : eff C ops o σ e) {t off : Nat} (hv : e.val = .ref t off) : (isNewB o = true ∧ o.dst = some t ∧ e.val = .ref t 0) ∨ aval C σ o (.ref t off) := by
  rcases h with ⟨_, h0, h⟩ | ⟨_, rfl⟩
  · obtain ⟨dst, op, type, pos, after, guard⟩ := o
    cases op with
    | alloc ty => obtain ⟨t', i, h1, _, rfl⟩ := h; cases hv; exact .inl ⟨rfl, h1, rfl⟩
    | box ty x => obtain ⟨t', i, h1, _, rfl⟩ := h; cases hv; exact .inl ⟨rfl, h1, rfl⟩
    | store ty x y => obtain ⟨t', off', cs, z, hx, _, _, rfl⟩ := h; cases hv
    | buildSlice ty n parts =>
      obtain ⟨_, _, l, _, _, _, _, _, _, q⟩ := h
      cases l
      · cases q; cases hv
      · obtain ⟨_, _, rfl⟩ := q; cases hv
    | call c =>
      obtain ⟨callee, cargs, ctys⟩ := c
      cases callee with
      | value f =>
        cases f with
        | func f => obtain ⟨_, _, _, _, rfl⟩ := h; cases hv
        | _ => obtain ⟨v, h1, rfl⟩ := h; cases hv; exact .inr h1
      | _ => obtain ⟨v, h1, rfl⟩ := h; cases hv; exact .inr h1
    | _ => obtain ⟨v, h1, rfl⟩ := h; cases hv; exact .inr h1
  · cases hv
theorem Rooted.step {rt : Nat → Nat} {mv : List Nat} {e : Eff} (hJ : Rooted rt mv σ) (hp : Pend σ o) (h : eff C ops o σ e) (hb : rootB rt mv o = true) : Rooted rt mv (e.apply σ) := by
  have key : ∀ a t off, (e.apply σ).tm a = some (.ref t off) → rt a = t ∧ (a ∈ mv → False) := fun a t off ha => by
    rw [(apply_eq hp h).1] at ha
    simp only at ha
    by_cases hx : o.dst = some a
    · rw [hx] at ha
      simp only [updO, upd, if_true] at ha
      have hv := Option.some.inj ha
      rcases eff_val h hv with ⟨k1, k2, k3⟩ | k1
      · obtain ⟨dst, op, type, pos, after, guard⟩ := o
        simp only at hx k2
        subst hx
        cases k2
        cases op with
        | alloc ty => simp only [rootB, Bool.and_eq_true, beq_iff_eq, Bool.not_eq_true'] at hb; exact ⟨hb.1, fun hm => by simp at hb; exact hb.2 hm⟩
        | box ty x => simp only [rootB, Bool.and_eq_true, beq_iff_eq, Bool.not_eq_true'] at hb; exact ⟨hb.1, fun hm => by simp at hb; exact hb.2 hm⟩
        | _ => cases k1
      · exact aval_ref hJ hb k1 hx
    · rw [updO_ne hx] at ha
      exact ⟨hJ.1 a t off ha, fun hm => hJ.2 a hm t off ha⟩
  exact ⟨fun a t off ha => (key a t off ha).1, fun a hm t off ha => (key a t off ha).2 hm⟩
end
end Go.Proofs.YtnifjdhjimjihaaGreatDoor
/- The engine, part L: a region, in whatever order. -/
namespace Go.Proofs.YtnifjdhjimjihaaGreatDoor
open Go.RowKit Lim

def arunI (C : Ctx) (ops : Array Oper) : List Nat → AS → (AS → Prop) → Prop
  | [], σ, K => K σ
  | i :: l, σ, K => ∃ o, ops[i]? = some o ∧ astepG C ops o σ (fun σ' => arunI C ops l σ' K)
/-- k x, where the kernel first reckons x. -/
def force {α : Type} (x : Nat) (k : Nat → α) : α := match x with | 0 => k 0 | n + 1 => k (n + 1)
theorem force_eq {α : Type} (x : Nat) (k : Nat → α) : force x k = k x := by cases x <;> rfl
/-- Bit 128 i + j of M: operation j comes before operation i. -/
def maskGo (M : Nat) : List Edge → Nat → Nat
  | [], acc => acc
  | e :: l, acc => force (if Region.binds .any e then acc ||| (2 ^ e.on ||| (M >>> (128 * e.on)) % 2 ^ 128) else acc) (maskGo M l)
def maskC {α : Type} (k : Nat → α) : Nat → Nat → List Oper → α
  | _, M, [] => k M
  | i, M, o :: l => force (M ||| (maskGo M o.after.toList 0 <<< (128 * i))) (fun M' => maskC k (i + 1) M' l)
/-- The roots: which variable the address in a slot belongs to. -/
def rtC {α : Type} (k : List (Nat × Nat) → α) : List (Nat × Nat) → List Oper → α
  | L, [] => k L
  | L, o :: l => match o.op, o.dst with
    | .fieldAddr _ (.tmp a) _, some d => force (look2 L a) (fun r => rtC k ((d, r) :: L) l)
    | .nilCheck (.tmp a), some d => force (look2 L a) (fun r => rtC k ((d, r) :: L) l)
    | _, _ => rtC k L l
def rtL (ops : Array Oper) : List (Nat × Nat) := rtC id [] ops.toList
def maskM (ops : Array Oper) : Nat := maskC id 0 0 ops.toList
def movedOf : List Oper → List Nat
  | [] => []
  | o :: l => match o.op with
    | .move (.tmp a) => a :: movedOf l
    | .assign (.tmp a) => a :: movedOf l
    | .pick _ x y => (match x with | .tmp a => [a] | _ => []) ++ (match y with | .tmp a => [a] | _ => []) ++ movedOf l
    | _ => movedOf l
def fineC (ops : Array Oper) (N M : Nat) (L : List (Nat × Nat)) : Bool :=
  decide (ops.size ≤ 128) && (List.range ops.size).all fun i =>
    match ops[i]? with
    | none => false
    | some oi =>
      (match oi.dst with | some t => decide (t < N) | none => true) && rootB (look2 L) (movedOf ops.toList) oi &&
      (oi.after.toList.all fun e => !Region.binds .any e || decide (e.on < i)) &&
      decide ((M >>> (128 * i)) % 2 ^ 128 = maskGo M oi.after.toList 0) &&
      ((List.range i).all fun j =>
        match ops[j]? with
        | none => false
        | some oj => (M.testBit (128 * i + j) || indep ops (look2 L) oi oj) && !(isNewB oi && isNewB oj && oi.dst == oj.dst))
/-- A region that may run in every order that its edges allow. -/
def fineB (ops : Array Oper) (N : Nat) : Bool := rtC (fun L => maskC (fun M => fineC ops N M L) 0 0 ops.toList) [] ops.toList
theorem maskC_eq {α : Type} (k : Nat → α) : ∀ (l : List Oper) (i M : Nat), maskC k i M l = k (maskC id i M l)
  | [], _, _ => rfl
  | o :: l, i, M => by simp only [maskC, force_eq]; exact maskC_eq k l _ _
theorem rtC_eq {α : Type} (k : List (Nat × Nat) → α) : ∀ (l : List Oper) (L : List (Nat × Nat)), rtC k L l = k (rtC id L l)
  | [], _ => rfl
  | o :: l, L => by
    simp only [rtC]
    split
    · simp only [force_eq]; exact rtC_eq k l _
    · simp only [force_eq]; exact rtC_eq k l _
    · exact rtC_eq k l _
theorem fineB_eq (ops : Array Oper) (N : Nat) : fineB ops N = fineC ops N (maskM ops) (rtL ops) := by
  unfold fineB
  rw [rtC_eq, maskC_eq]
  rfl

structure Fine (ops : Array Oper) (N : Nat) (ms : Nat) (rt : Nat → Nat) (mv : List Nat) : Prop where
  root : ∀ (i : Nat) (o : Oper), ops[i]? = some o → rootB rt mv o = true
  dst : ∀ (i : Nat) (o : Oper), ops[i]? = some o → ∀ t, o.dst = some t → t < N
  back : ∀ (i : Nat) (o : Oper), ops[i]? = some o → ∀ e ∈ o.after, Region.binds .any e = true → e.on < i
  mask : ∀ (i : Nat) (o : Oper), ops[i]? = some o → (ms >>> (128 * i)) % 2 ^ 128 = maskGo ms o.after.toList 0
  small : ops.size ≤ 128
  ind : ∀ (i j : Nat) (oi oj : Oper), ops[i]? = some oi → ops[j]? = some oj → j < i → ms.testBit (128 * i + j) = true ∨ indep ops rt oi oj = true
  new : ∀ (i j : Nat) (oi oj : Oper), ops[i]? = some oi → ops[j]? = some oj → i ≠ j → isNewB oi = true → isNewB oj = true → oi.dst ≠ oj.dst
theorem fine_of {ops : Array Oper} {N : Nat} (h : fineB ops N = true) : Fine ops N (maskM ops) (look2 (rtL ops)) (movedOf ops.toList) := by
  rw [fineB_eq] at h
  unfold fineC at h
  simp only [List.all_eq_true, List.mem_range, Bool.and_eq_true, decide_eq_true_eq] at h
  obtain ⟨hsm, h⟩ := h
  have key : ∀ (i : Nat) (o : Oper), ops[i]? = some o → (∀ t, o.dst = some t → t < N) ∧ rootB (look2 (rtL ops)) (movedOf ops.toList) o = true ∧ (∀ e ∈ o.after, Region.binds .any e = true → e.on < i) ∧ (maskM ops >>> (128 * i)) % 2 ^ 128 = maskGo (maskM ops) o.after.toList 0 ∧ (∀ j, j < i → ∀ oj, ops[j]? = some oj → (maskM ops).testBit (128 * i + j) = true ∨ indep ops (look2 (rtL ops)) o oj = true) ∧ (∀ j, j < i → ∀ oj, ops[j]? = some oj → isNewB o = true → isNewB oj = true → o.dst ≠ oj.dst) := by
    intro i o hi
    have h1 := h i (Array.getElem?_eq_some_iff.1 hi).1
    simp only [hi, Bool.and_eq_true, List.all_eq_true, List.mem_range, decide_eq_true_eq] at h1
    obtain ⟨⟨⟨⟨h2, h6⟩, h3⟩, h4⟩, h5⟩ := h1
    refine ⟨fun t ht => ?_, h6, fun e he hb => ?_, h4, fun j hj oj hoj => ?_, fun j hj oj hoj n1 n2 hd => ?_⟩
    · rw [ht] at h2; simpa using h2
    · have := h3 e (by simpa using he)
      simpa [hb] using this
    · have := h5 j hj
      simp only [hoj, Bool.and_eq_true, Bool.or_eq_true] at this
      exact this.1
    · have := h5 j hj
      simp only [hoj, Bool.and_eq_true, Bool.not_eq_true', n1, n2, Bool.true_and] at this
      rw [hd] at this
      simp at this
  refine ⟨fun i o hi => (key i o hi).2.1, fun i o hi => (key i o hi).1, fun i o hi => (key i o hi).2.2.1, fun i o hi => (key i o hi).2.2.2.1, hsm, fun i j oi oj hi hj hji => (key i oi hi).2.2.2.2.1 j hji oj hj, fun i j oi oj hi hj hne n1 n2 => ?_⟩
  rcases Nat.lt_or_gt_of_ne hne with hlt | hgt
  · exact fun he => (key j oj hj).2.2.2.2.2 i hlt oi hi n2 n1 he.symm
  · exact (key i oi hi).2.2.2.2.2 j hgt oj hj n1 n2
theorem chunk_bit (M k j : Nat) (hj : j < 128) : ((M >>> (128 * k)) % 2 ^ 128).testBit j = M.testBit (128 * k + j) := by
  rw [Nat.testBit_mod_two_pow, Nat.testBit_shiftRight]
  simp [hj]
theorem mask_bit (M j : Nat) (hj : j < 128) : ∀ (l : List Edge) (acc : Nat), (maskGo M l acc).testBit j = true → acc.testBit j = true ∨ ∃ e ∈ l, Region.binds .any e = true ∧ (e.on = j ∨ M.testBit (128 * e.on + j) = true)
  | [], acc, h => .inl h
  | e :: l, acc, h => by
    simp only [maskGo, force_eq] at h
    rcases mask_bit M j hj l _ h with h1 | ⟨e', h1, h2⟩
    · split at h1
      · rename_i hb
        rw [Nat.testBit_or, Nat.testBit_or, Nat.testBit_two_pow, chunk_bit _ _ _ hj] at h1
        simp only [Bool.or_eq_true, decide_eq_true_eq] at h1
        rcases h1 with h1 | h1 | h1
        · exact .inl h1
        · exact .inr ⟨e, by simp, hb, .inl h1⟩
        · exact .inr ⟨e, by simp, hb, .inr h1⟩
      · exact .inl h1
    · exact .inr ⟨e', by simp [h1], h2⟩

section
variable {C : Ctx} {ops : Array Oper} {N : Nat} {ms : Nat} {rt : Nat → Nat} {mv : List Nat} {w0 : World} {Z0 : Zone}

theorem wantedA_sound {σ : AS} {a : Act} {w : World} (S : Sim w0 Z0 N σ a w) {o : Oper} {b : Bool} (h : wantedA ops σ o = some b) : Region.wanted o (yielded ops a.tmps) = b := by
  obtain ⟨⟨Z, β, S⟩, _⟩ := S
  unfold wantedA at h
  unfold Region.wanted
  split at h
  · rename_i hg
    rw [hg]
    cases h
    rfl
  · rename_i j want hg
    rw [hg]
    simp only
    cases ht : (ops[j]?).bind (·.dst) with
    | none => rw [ht] at h; cases h
    | some t =>
      rw [ht] at h
      simp only at h
      have hy : ∀ x, σ.tm t = some x → ∀ u, a.tmps.getD t undef = u → yielded ops a.tmps j = (match u with | .bool b => some b | _ => none) := fun x hx u hu => by
        have hlt := (S.tm t x hx).1
        unfold yielded
        rw [ht]
        simp only [Option.bind_some]
        rw [Array.getElem?_eq_getElem hlt]
        simp [hlt] at hu
        rw [hu]
        cases u <;> rfl
      split at h
      · rename_i b' hx
        have : a.tmps.getD t undef = .bool b' := (S.tm t _ hx).2.lit_eq
        rw [hy _ hx _ this]
        cases h
        cases b' <;> cases want <;> rfl
      · rename_i hx
        have : a.tmps.getD t undef = undef := (S.tm t _ hx).2
        rw [hy _ hx _ this]
        cases h
        rfl
      · cases h
theorem astepG_sound {σ : AS} {a : Act} {w : World} (S : Sim w0 Z0 N σ a w) (hE : C.E w0) (hz0 : ∀ b o, Z0 b o → b < w0.heap.size) {i : Nat} {o : Oper} (hi : ops[i]? = some o) (hd : ∀ t, o.dst = some t → t < N) {K : AS → Prop} {Q : Exit → Act → World → Prop} (h : astepG C ops o σ K) :
    wpOp C.P ops Q i (fun a' w' => ∃ σ', K σ' ∧ Sim w0 Z0 N σ' a' w') a w := by
  obtain ⟨b, h1, h2, h3⟩ := h
  unfold wpOp
  simp only [hi]
  rw [wantedA_sound S h1]
  cases b with
  | true =>
    simp only [if_true]
    exact .inl (astep_sound S hE hz0 hd (h2 rfl))
  | false =>
    simp only [Bool.false_eq_true, if_false]
    obtain ⟨⟨Z, β, S⟩, hN⟩ := S
    exact ⟨_, h3 rfl, ⟨Z, β, S.put (fun t ht => by rw [hN]; exact hd t ht) rfl⟩, by rw [put_size, hN]⟩
/-- In the order of the text. -/
theorem wpOps_of_arun (hE : C.E w0) (hz0 : ∀ b o, Z0 b o → b < w0.heap.size) (hd : ∀ (i : Nat) (o : Oper), ops[i]? = some o → ∀ t, o.dst = some t → t < N) {K : AS → Prop} {Q : Exit → Act → World → Prop} (hK : ∀ σ a w, K σ → Sim w0 Z0 N σ a w → Q .normal a w) :
    ∀ (l : List Nat) (σ : AS) (a : Act) (w : World), Sim w0 Z0 N σ a w → arunI C ops l σ K → wpOps C.P ops Q l a w
  | [], σ, a, w, S, h => hK σ a w h S
  | i :: l, σ, a, w, S, h => by
    obtain ⟨o, hi, h⟩ := h
    rw [wpOps_cons]
    exact wpOp_mono (fun a' w' ⟨σ', h1, h2⟩ => wpOps_of_arun hE hz0 hd hK l σ' a' w' h2 h1) (astepG_sound S hE hz0 hi (hd i o hi) h)
def PendL (ops : Array Oper) (σ : AS) (l : List Nat) : Prop := ∀ i ∈ l, ∀ o, ops[i]? = some o → Pend σ o
theorem PendL.step (hf : Fine ops N ms rt mv) {σ : AS} {i : Nat} {l : List Nat} {o : Oper} {e : Eff} (hp : PendL ops σ (i :: l)) (hi : ops[i]? = some o) (hn : i ∉ l) (h : eff C ops o σ e) : PendL ops (e.apply σ) l := by
  intro k hk ok hok hnew s hs
  refine (hp k (by simp [hk]) ok hok hnew s hs).apply (hp i (by simp) o hi) h fun hno he => ?_
  exact hf.new i k o ok hi hok (fun hik => hn (hik ▸ hk)) hno hnew (he.trans hs.symm)
theorem arun_front (hf : Fine ops N ms rt mv) {K : AS → Prop} {i : Nat} {oi : Oper} (hi : ops[i]? = some oi) : ∀ (pre post : List Nat) (σ : AS), (∀ j ∈ pre, ∀ oj, ops[j]? = some oj → indep ops rt oi oj = true) → (pre ++ i :: post).Nodup → PendL ops σ (pre ++ i :: post) → Rooted rt mv σ → arunI C ops (pre ++ i :: post) σ K → arunI C ops (i :: (pre ++ post)) σ K
  | [], post, σ, _, _, _, _, h => h
  | j :: pre, post, σ, hind, hnd, hp, hJ, h => by
    obtain ⟨oj, hj, h⟩ := h
    obtain ⟨ej, h1, h2⟩ := astepG_iff.1 h
    simp only [List.cons_append, List.nodup_cons] at hnd
    have hp1 : PendL ops (ej.apply σ) (pre ++ i :: post) := PendL.step hf hp hj hnd.1 h1
    have hJ1 : Rooted rt mv (ej.apply σ) := hJ.step (hp j (by simp) oj hj) h1 (hf.root j oj hj)
    have ih := arun_front hf hi pre post (ej.apply σ) (fun k hk => hind k (by simp [hk])) hnd.2 hp1 hJ1 h2
    obtain ⟨oi', hi', ih⟩ := ih
    rw [hi] at hi'
    cases hi'
    obtain ⟨ei, h3, h4⟩ := astepG_iff.1 ih
    obtain ⟨g1, g2, g3⟩ := eff_swap hJ (hind j (by simp) oj hj) (hp i (by simp) oi hi) (hp j (by simp) oj hj) h1 h3
    refine ⟨oi, hi, astepG_iff.2 ⟨ei, g1, oj, hj, astepG_iff.2 ⟨ej, g2, ?_⟩⟩⟩
    rw [g3]
    exact h4
end
end Go.Proofs.YtnifjdhjimjihaaGreatDoor
