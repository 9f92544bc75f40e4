/- The engine, part R: who knows more can do as much: cuts. -/
import Derived.Test.YtkmicjpoekbhfaaGreatDoorQVQ
set_option linter.unusedSimpArgs false
set_option linter.unusedVariables false
namespace Go.Proofs.YtkmicjpoekbhfaaGreatDoor
open Go.RowKit Lim

/-- Less is known, but of all rows of limbs. -/
structure AS.le0 (τ σ : AS) : Prop where
  tm : ∀ x v, τ.tm x = some v → σ.tm x = some v
  mem : ∀ t cs, τ.mem t = some cs → σ.mem t = some cs
  own : ∀ t ov, τ.own t = some ov → σ.own t = some ov
  hot : ∀ t ov, σ.own t = some ov → ov.hot = true → τ.own t = some ov
section
variable {C : Ctx} {σ τ : AS} {ops : Array Oper} {o : Oper} {dr : Bool}

theorem AS.le0.get (h : AS.le0 τ σ) {x : Operand} {v : TV} (hx : τ.get x = some v) : σ.get x = some v := by
  cases x with
  | tmp t => exact h.tm t v hx
  | const u => exact hx
  | func f => exact hx
  | _ => cases hx
theorem AS.le0.argV (h : AS.le0 τ σ) {T : TyTab} {ty : TypeId} {x : Operand} {y : AV} (hx : τ.argV T ty x = some y) : σ.argV T ty x = some y ∧ σ.usedV x = τ.usedV x := by
  simp only [AS.argV, Option.bind_eq_some_iff] at hx
  obtain ⟨v, h1, h2⟩ := hx
  refine ⟨?_, by simp only [AS.usedV, h1, h.get h1]⟩
  simp only [AS.argV, h.get h1, Option.bind_some]
  cases v with
  | av a => exact h2
  | osl t k off len =>
    simp only [AS.argT] at h2 ⊢
    split at h2
    · rename_i ov ho
      rw [h.own t ov ho]
      exact h2
    · cases h2
  | _ => cases h2
end
/-- What is kept at a cut. -/
def eqT (f : Nat → Option TV) : LT → Prop
  | [] => True
  | (k, some v) :: l => f k = some v ∧ eqT f l
  | (_, none) :: l => eqT f l
def HotIn (f : Nat → Option OV) (Q : LQ) : Prop := ∀ t ov, f t = some ov → ov.hot = true → ofL Q t = some ov
def cutE (L : LT) (M : LM) (Q : LQ) (K : Exit → AS → Prop) : Exit → AS → Prop := fun e σ => match e with | .normal => eqT σ.tm L ∧ leM σ.mem M ∧ leM σ.own Q ∧ HotIn σ.own Q | e => K e σ
theorem cutE_normal {L : LT} {M : LM} {Q : LQ} {K : Exit → AS → Prop} {l : LT} {m : LM} {q : LQ} : cutE L M Q K .normal ⟨ofT l, ofL m, ofL q⟩ = (eqT (ofT l) L ∧ leM (ofL m) M ∧ leM (ofL q) Q ∧ HotIn (ofL q) Q) := rfl
theorem cutE_ret {L : LT} {M : LM} {Q : LQ} {K : Exit → AS → Prop} {σ : AS} : cutE L M Q K .ret σ = K .ret σ := rfl
theorem cutE_exit {L : LT} {M : LM} {Q : LQ} {K : Exit → AS → Prop} {σ : AS} {i : Nat} : cutE L M Q K (.exit i) σ = K (.exit i) σ := rfl
theorem eqT_nil (f : Nat → Option TV) : eqT f [] = True := rfl
theorem eqT_some (f : Nat → Option TV) (k : Nat) (v : TV) (l : LT) : eqT f ((k, some v) :: l) = (f k = some v ∧ eqT f l) := rfl
theorem eqT_none (f : Nat → Option TV) (k : Nat) (l : LT) : eqT f ((k, none) :: l) = eqT f l := rfl
theorem leM_nil {α : Type} (f : Nat → Option α) : leM f [] = True := rfl
theorem leM_cons {α : Type} (f : Nat → Option α) (k : Nat) (v : α) (l : List (Nat × α)) : leM f ((k, v) :: l) = (f k = some v ∧ leM f l) := rfl
theorem hotIn_nil (Q : LQ) : HotIn (ofL []) Q = True := propext ⟨fun _ => trivial, fun _ t ov h => by cases h⟩
theorem ofL_del {α : Type} (k t : Nat) (q : List (Nat × α)) : ofL (delL k q) t = if t = k then none else ofL q t := by rw [← delL_get]; rfl
theorem hotIn_row (k e kk : Nat) (es : List AV) (q Q : LQ) : HotIn (ofL ((k, .row e kk es) :: q)) Q = HotIn (ofL (delL k q)) Q := by
  apply propext
  constructor
  · intro h t ov ho hh
    rw [ofL_del] at ho
    split at ho
    · cases ho
    · rename_i hne; exact h t ov (by simp only [ofL, if_neg hne]; exact ho) hh
  · intro h t ov ho hh
    simp only [ofL] at ho
    split at ho
    · cases ho; cases hh
    · rename_i hne; exact h t ov (by rw [ofL_del, if_neg hne]; exact ho) hh
theorem hotIn_limb (k e : Nat) (l : List Nat) (q Q : LQ) : HotIn (ofL ((k, .limb e l) :: q)) Q = (ofL Q k = some (.limb e l) ∧ HotIn (ofL (delL k q)) Q) := by
  apply propext
  constructor
  · intro h
    refine ⟨h k _ (by simp [ofL]) rfl, fun t ov ho hh => ?_⟩
    rw [ofL_del] at ho
    split at ho
    · cases ho
    · rename_i hne; exact h t ov (by simp only [ofL, if_neg hne]; exact ho) hh
  · rintro ⟨h1, h⟩ t ov ho hh
    simp only [ofL] at ho
    split at ho
    · rename_i e; subst e; cases ho; exact h1
    · rename_i hne; exact h t ov (by rw [ofL_del, if_neg hne]; exact ho) hh
/-! The states of a round: a slot as it is, or frozen. -/
theorem leL_of (l : LT) (m : LM) (q : LQ) (L : LT) (M : LM) (Q : LQ) : leL ⟨ofT l, ofL m, ofL q⟩ L M Q = (leT ⟨ofT l, ofL m, ofL q⟩ M Q L ∧ leM (ofL m) M ∧ leM (ofL q) Q) := rfl
theorem leT_nil (σ : AS) (M : LM) (Q : LQ) : leT σ M Q [] = True := rfl
theorem leT_none (σ : AS) (M : LM) (Q : LQ) (k : Nat) (l : LT) : leT σ M Q ((k, none) :: l) = leT σ M Q l := rfl
def slotK (m : LM) (q : LQ) (M : LM) (Q : LQ) (x v : TV) : Prop := leV ⟨fun _ => none, ofL M, ofL Q⟩ ⟨fun _ => none, ofL m, ofL q⟩ (some x) v
theorem leT_some (l : LT) (m : LM) (q : LQ) (M : LM) (Q : LQ) (k : Nat) (v : TV) (L : LT) : leT ⟨ofT l, ofL m, ofL q⟩ M Q ((k, some v) :: L) = (onSome (ofT l k) (fun x => slotK m q M Q x v) ∧ leT ⟨ofT l, ofL m, ofL q⟩ M Q L) := by
  show (leV _ _ (ofT l k) v ∧ _) = _
  congr 1
  apply propext
  cases h : ofT l k with
  | none => simp [onSome, leV]
  | some x => rw [onSome_some]; rfl
theorem slotK_av {m : LM} {q : LQ} {M : LM} {Q : LQ} {a : AV} {v : TV} : slotK m q M Q (.av a) v = (TV.av a = v) := by simp [slotK, leV]
theorem slotK_skip {m : LM} {q : LQ} {M : LM} {Q : LQ} {v : TV} : slotK m q M Q .skip v = (TV.skip = v) := by simp [slotK, leV]
theorem slotK_oref {m : LM} {q : LQ} {M : LM} {Q : LQ} {t k i o : Nat} {v : TV} : slotK m q M Q (.oref t k i o) v = (TV.oref t k i o = v) := by simp [slotK, leV]
theorem slotK_ref {m : LM} {q : LQ} {M : LM} {Q : LQ} {t o t' o' : Nat} : slotK m q M Q (.ref t o) (.ref t' o') = (t = t' ∧ o = o') := by simp [slotK, leV]
theorem slotK_osl {m : LM} {q : LQ} {M : LM} {Q : LQ} {t k o n t' k' o' n' : Nat} : slotK m q M Q (.osl t k o n) (.osl t' k' o' n') = (t = t' ∧ k = k' ∧ o = o' ∧ n = n') := by simp [slotK, leV]
theorem slotK_frz {m : LM} {q : LQ} {M : LM} {Q : LQ} {t k o n : Nat} {a : AV} : slotK m q M Q (.osl t k o n) (.av a) = onSome (ofL q t) (fun ov => ofL Q t = none ∧ ov.k = k ∧ o + n ≤ ov.len ∧ a = ov.part o n) := by
  simp only [slotK, leV, onSome]
  apply propext
  constructor
  · rintro (h | ⟨t', k', o', n', ov, h1, h2, h3, h4, h5, h6⟩ | ⟨t', o', cs, h1, _⟩)
    · cases h
    · cases h1; cases h6; exact ⟨ov, h2, h3, h4, h5, rfl⟩
    · cases h1
  · rintro ⟨ov, h2, h3, h4, h5, rfl⟩
    exact .inr (.inl ⟨t, k, o, n, ov, rfl, h2, h3, h4, h5, rfl⟩)
theorem slotK_frzP {m : LM} {q : LQ} {M : LM} {Q : LQ} {t o : Nat} {a : AV} : slotK m q M Q (.ref t o) (.av a) = onSome (ofL m t) (fun cs => ofL M t = none ∧ a = .ptr (cs.drop o)) := by
  simp only [slotK, leV, onSome]
  apply propext
  constructor
  · rintro (h | ⟨t', k', o', n', ov, h1, _⟩ | ⟨t', o', cs, h1, h2, h3, h4⟩)
    · cases h
    · cases h1
    · cases h1; cases h4; exact ⟨cs, h2, h3, rfl⟩
  · rintro ⟨cs, h2, h3, rfl⟩
    exact .inr (.inr ⟨t, o, cs, rfl, h2, h3, rfl⟩)
theorem ofL_nil {α : Type} (t : Nat) : ofL ([] : List (Nat × α)) t = none := rfl
theorem ofT_nil (t : Nat) : ofT [] t = none := rfl
end Go.Proofs.YtkmicjpoekbhfaaGreatDoor
