/- The engine, part Q: rules by which the walk is reckoned, one operation at a time. -/
import Derived.Test.YtnifjdhjimjihaaGreatDoorEP
set_option linter.unusedSimpArgs false
set_option linter.unusedVariables false
namespace Go.Proofs.YtnifjdhjimjihaaGreatDoor
open Go.RowKit Lim

/-- x is known, and k holds of it. -/
def onSome {α : Type} (x : Option α) (k : α → Prop) : Prop := ∃ v, x = some v ∧ k v
theorem onSome_some {α : Type} (v : α) (k : α → Prop) : onSome (some v) k = k v := by simp [onSome]
theorem onSome_congr {α : Type} {x y : Option α} {k : α → Prop} (h : x = y) : onSome x k = onSome y k := by rw [h]
/-- A plain value. -/
def litK (v : TV) (k : Value → Prop) : Prop := ∃ a, v = .av (.lit a) ∧ k a
theorem litK_lit (a : Value) (k : Value → Prop) : litK (.av (.lit a)) k = k a := by simp [litK]
theorem litK_congr {x y : TV} {k : Value → Prop} (h : x = y) : litK x k = litK y k := by rw [h]
def avK (v : TV) (k : AV → Prop) : Prop := ∃ a, v = .av a ∧ k a
theorem avK_av (a : AV) (k : AV → Prop) : avK (.av a) k = k a := by simp [avK]
theorem avK_congr {x y : TV} {k : AV → Prop} (h : x = y) : avK x k = avK y k := by rw [h]
/-- A condition. -/
def condK (v : TV) (A B : Prop) : Prop := ∃ b, v = .av (.lit (.bool b)) ∧ (b = true → A) ∧ (b = false → B)
theorem condK_true (A B : Prop) : condK (.av (.lit (.bool true))) A B = A := by simp [condK]
theorem condK_false (A B : Prop) : condK (.av (.lit (.bool false))) A B = B := by simp [condK]
theorem condK_congr {x y : TV} {A B : Prop} (h : x = y) : condK x A B = condK y A B := by rw [h]
theorem condK_mk {b : Bool} {A B : Prop} (h1 : b = true → A) (h2 : b = false → B) : condK (.av (.lit (.bool b))) A B := ⟨b, rfl, h1, h2⟩
/-- A guard. -/
def guardK (v : TV) (want : Bool) (A B : Prop) : Prop := (∃ b, v = .av (.lit (.bool b)) ∧ (b = want → A) ∧ (b ≠ want → B)) ∨ (v = .skip ∧ B)
theorem guardK_bool (b want : Bool) (A B : Prop) : guardK (.av (.lit (.bool b))) want A B = ((b = want → A) ∧ (b ≠ want → B)) := by simp [guardK]
theorem guardK_tt (A B : Prop) : guardK (.av (.lit (.bool true))) true A B = A := by simp [guardK]
theorem guardK_tf (A B : Prop) : guardK (.av (.lit (.bool true))) false A B = B := by simp [guardK]
theorem guardK_ft (A B : Prop) : guardK (.av (.lit (.bool false))) true A B = B := by simp [guardK]
theorem guardK_ff (A B : Prop) : guardK (.av (.lit (.bool false))) false A B = A := by simp [guardK]
theorem guardK_skip (want : Bool) (A B : Prop) : guardK .skip want A B = B := by simp [guardK]
theorem guardK_congr {x y : TV} {w : Bool} {A B : Prop} (h : x = y) : guardK x w A B = guardK y w A B := by rw [h]
/-- A call. -/
def callK (C : Ctx) (f : FuncId) (args : List AV) (k : AV → Prop) : Prop := ∃ r, ACalls C f args r ∧ k r
theorem callK_mk {C : Ctx} {f : FuncId} {args : List AV} {k : AV → Prop} {r : AV} (h : ACalls C f args r) (hk : k r) : callK C f args k := ⟨r, h, hk⟩
theorem callK_congr {C : Ctx} {f : FuncId} {x y : List AV} {k : AV → Prop} (h : x = y) : callK C f x k = callK C f y k := by rw [h]

def refK (v : TV) (k : Nat → Nat → Prop) : Prop := ∃ t off, v = .ref t off ∧ k t off
theorem refK_ref (t off : Nat) (k : Nat → Nat → Prop) : refK (.ref t off) k = k t off := propext ⟨fun ⟨t', off', h, hk⟩ => by cases h; exact hk, fun h => ⟨t, off, rfl, h⟩⟩
def tupK (v : TV) (k : List AV → Prop) : Prop := ∃ vs, v = .av (.tup vs) ∧ k vs
theorem tupK_tup (vs : List AV) (k : List AV → Prop) : tupK (.av (.tup vs)) k = k vs := propext ⟨fun ⟨t', h, hk⟩ => by cases h; exact hk, fun h => ⟨vs, rfl, h⟩⟩
def aggK (v : TV) (k : List AV → Prop) : Prop := ∃ vs, v = .av (.agg vs) ∧ k vs
theorem aggK_agg (vs : List AV) (k : List AV → Prop) : aggK (.av (.agg vs)) k = k vs := propext ⟨fun ⟨t', h, hk⟩ => by cases h; exact hk, fun h => ⟨vs, rfl, h⟩⟩
def fieldK (i : TI) (f : Nat) (k : Nat → TypeId → Prop) : Prop := ∃ fs o n ft, i.kind = .strct fs ∧ fs[f]? = some (o, n, ft) ∧ k o ft
theorem fieldK_strct (fs : List (Nat × Nat × TypeId)) (z : List AV) (f : Nat) (k : Nat → TypeId → Prop) : fieldK ⟨.strct fs, z⟩ f k = onSome fs[f]? (fun q => k q.1 q.2.2) := propext ⟨fun ⟨fs', o, n, ft, h, h1, hk⟩ => by cases h; exact ⟨_, h1, hk⟩, fun ⟨q, h1, hk⟩ => ⟨fs, q.1, q.2.1, q.2.2, rfl, h1, hk⟩⟩
def strctK (i : TI) (k : List (Nat × Nat × TypeId) → Prop) : Prop := ∃ fs, i.kind = .strct fs ∧ k fs
theorem strctK_strct (fs : List (Nat × Nat × TypeId)) (z : List AV) (k : List (Nat × Nat × TypeId) → Prop) : strctK ⟨.strct fs, z⟩ k = k fs := propext ⟨fun ⟨fs', h, hk⟩ => by cases h; exact hk, fun h => ⟨fs, rfl, h⟩⟩
def slcK (i : TI) (k : TypeId → Nat → Bool → Prop) : Prop := ∃ e n l, i.kind = .slc e n l ∧ k e n l
theorem slcK_slc (e n : Nat) (l : Bool) (z : List AV) (k : TypeId → Nat → Bool → Prop) : slcK ⟨.slc e n l, z⟩ k = k e n l := propext ⟨fun ⟨_, _, _, h, hk⟩ => by cases h; exact hk, fun h => ⟨e, n, l, rfl, h⟩⟩
theorem arun_congr {C : Ctx} {ops : Array Oper} {os : List Oper} {σ τ : AS} {K : AS → Prop} (h : σ = τ) : arun C ops os σ K = arun C ops os τ K := by rw [h]
theorem awp_congr {C : Ctx} {n : Nat} {c : Code} {σ τ : AS} {K : Exit → AS → Prop} (h : σ = τ) : awp C n c K σ = awp C n c K τ := by rw [h]

def thenK (C : Ctx) (n : Nat) (b : Code) (K : Exit → AS → Prop) : Exit → AS → Prop := fun e σ => match e with | .normal => awp C n b K σ | e => K e σ
theorem thenK_normal {C : Ctx} {n : Nat} {b : Code} {K : Exit → AS → Prop} {σ : AS} : thenK C n b K .normal σ = awp C n b K σ := rfl
theorem thenK_ret {C : Ctx} {n : Nat} {b : Code} {K : Exit → AS → Prop} {σ : AS} : thenK C n b K .ret σ = K .ret σ := rfl
theorem thenK_exit {C : Ctx} {n i : Nat} {b : Code} {K : Exit → AS → Prop} {σ : AS} : thenK C n b K (.exit i) σ = K (.exit i) σ := rfl
def blockK (id : Nat) (K : Exit → AS → Prop) : Exit → AS → Prop := fun e σ => match e with | .exit i => if i = id then K .normal σ else K (.exit i) σ | e => K e σ
theorem blockK_normal {id : Nat} {K : Exit → AS → Prop} {σ : AS} : blockK id K .normal σ = K .normal σ := rfl
theorem blockK_ret {id : Nat} {K : Exit → AS → Prop} {σ : AS} : blockK id K .ret σ = K .ret σ := rfl
theorem blockK_exit {id : Nat} {K : Exit → AS → Prop} {σ : AS} : blockK id K (.exit id) σ = K .normal σ := by simp [blockK]
theorem blockK_far {id i : Nat} {K : Exit → AS → Prop} {σ : AS} (h : i ≠ id) : blockK id K (.exit i) σ = K (.exit i) σ := by simp [blockK, h]
/-- The end of a round. -/
def roundK {α : Type} (L : α → List (Nat × Option TV)) (M : α → List (Nat × List AV)) (μ : α → Nat) (x : α) (K : Exit → AS → Prop) : Exit → AS → Prop := fun e σ => match e with | .normal => ∃ x', leL σ (L x') (M x') ∧ μ x' < μ x | e => K e σ
theorem roundK_ret {α : Type} {L : α → List (Nat × Option TV)} {M : α → List (Nat × List AV)} {μ : α → Nat} {x : α} {K : Exit → AS → Prop} {σ : AS} : roundK L M μ x K .ret σ = K .ret σ := rfl
theorem roundK_exit {α : Type} {L : α → List (Nat × Option TV)} {M : α → List (Nat × List AV)} {μ : α → Nat} {x : α} {K : Exit → AS → Prop} {σ : AS} {i : Nat} : roundK L M μ x K (.exit i) σ = K (.exit i) σ := rfl
theorem roundK_mk {α : Type} {L : α → List (Nat × Option TV)} {M : α → List (Nat × List AV)} {μ : α → Nat} {x : α} {K : Exit → AS → Prop} {σ : AS} (x' : α) (h1 : leL σ (L x') (M x')) (h2 : μ x' < μ x) : roundK L M μ x K .normal σ := ⟨x', h1, h2⟩

def getL (l : List (Nat × Option TV)) : Operand → Option TV
  | .tmp t => ofT l t
  | .const v => constT v
  | _ => none
theorem getL_tmp (l : List (Nat × Option TV)) (t : Nat) : getL l (.tmp t) = ofT l t := rfl
theorem getL_int (l : List (Nat × Option TV)) (k : IntKind) (n : Int) : getL l (.const (.int k n)) = some (.av (.lit (.int k n))) := rfl
theorem getL_bool (l : List (Nat × Option TV)) (b : Bool) : getL l (.const (.bool b)) = some (.av (.lit (.bool b))) := rfl
theorem getL_str (l : List (Nat × Option TV)) (s : ByteArray) : getL l (.const (.string s)) = some (.av (.lit (.string s))) := rfl
theorem getL_nil (l : List (Nat × Option TV)) : getL l (.const (.slice none 0 0)) = some (.av (.lit (.slice none 0 0))) := rfl
theorem ofT_cons_eq (k : Nat) (v : Option TV) (l : List (Nat × Option TV)) : ofT ((k, v) :: l) k = v := by simp [ofT]
theorem ofT_cons_ne {k x : Nat} (h : (x == k) = false) (v : Option TV) (l : List (Nat × Option TV)) : ofT ((k, v) :: l) x = ofT l x := by simp at h; simp [ofT, h]
theorem setT_cons_eq (k : Nat) (u : Option TV) (v : TV) (l : List (Nat × Option TV)) : setT ((k, u) :: l) k v = (k, some v) :: l := by simp [setT]
theorem setT_cons_ne {k t : Nat} (h : (k == t) = false) (u : Option TV) (v : TV) (l : List (Nat × Option TV)) : setT ((k, u) :: l) t v = (k, u) :: setT l t v := by simp at h; simp [setT, h]
theorem setT_nil (t : Nat) (v : TV) : setT [] t v = [(t, some v)] := rfl
theorem ofL_cons_eq {α : Type} (k : Nat) (v : α) (l : List (Nat × α)) : ofL ((k, v) :: l) k = some v := by simp [ofL]
theorem ofL_cons_ne {α : Type} {k x : Nat} (h : (x == k) = false) (v : α) (l : List (Nat × α)) : ofL ((k, v) :: l) x = ofL l x := by simp at h; simp [ofL, h]
theorem setL_cons_eq {α : Type} (k : Nat) (u v : α) (l : List (Nat × α)) : setL ((k, u) :: l) k v = (k, v) :: l := by simp [setL]
theorem setL_cons_ne {α : Type} {k t : Nat} (h : (k == t) = false) (u v : α) (l : List (Nat × α)) : setL ((k, u) :: l) t v = (k, u) :: setL l t v := by simp at h; simp [setL, h]
theorem setL_nil {α : Type} (t : Nat) (v : α) : setL [] t v = [(t, v)] := rfl
theorem prepL_nil (n : Nat) (d : Bool) (bad : List Nat) : prepL n d bad [] = [] := rfl
theorem prepL_keep {n k : Nat} (h : k < n) (d : Bool) (bad : List Nat) (v : Option TV) (l : List (Nat × Option TV)) : prepL n d bad ((k, v) :: l) = (k, v.bind (staleK d k bad)) :: prepL n d bad l := by simp [prepL, h]
theorem prepL_drop {n k : Nat} (h : n ≤ k) (d : Bool) (bad : List Nat) (v : Option TV) (l : List (Nat × Option TV)) : prepL n d bad ((k, v) :: l) = prepL n d bad l := by simp [prepL, Nat.not_lt.2 h]
theorem staleK_av (d : Bool) (x : Nat) (bad : List Nat) (a : AV) : staleK d x bad (.av a) = some (.av a) := rfl
theorem staleK_ptr (d : Bool) (x : Nat) (bad : List Nat) (a : List AV) : staleK d x bad (.ptr a) = some (.ptr a) := rfl
theorem staleK_skip (d : Bool) (x : Nat) (bad : List Nat) : staleK d x bad .skip = some .skip := rfl
theorem staleK_ref (d : Bool) (x : Nat) (bad : List Nat) (t o : Nat) : staleK d x bad (.ref t o) = if bad.contains t || (d && t != x) then none else some (.ref t o) := rfl
theorem badOf_true (os : List Oper) : badOf true os = newsOf os ++ (movedOf os ++ keysOf os) := rfl
theorem badOf_false (os : List Oper) : badOf false os = newsOf os := rfl
theorem stale_none (t : Nat) : stale t none = none := rfl
theorem stale_av (t : Nat) (a : AV) : stale t (some (.av a)) = some (.av a) := rfl
theorem stale_ptr (t : Nat) (a : List AV) : stale t (some (.ptr a)) = some (.ptr a) := rfl
theorem stale_skip (t : Nat) : stale t (some .skip) = some .skip := rfl
theorem stale_ref (t t' o : Nat) : stale t (some (.ref t' o)) = if t' = t then none else some (.ref t' o) := rfl
theorem staleT_nil (t : Nat) : staleT t [] = [] := rfl
theorem staleT_cons (t k : Nat) (v : Option TV) (l : List (Nat × Option TV)) : staleT t ((k, v) :: l) = (k, stale t v) :: staleT t l := rfl
def lookL (m : List (Nat × List AV)) : TV → Option (List AV)
  | .ref t off => (ofL m t).map (·.drop off)
  | .ptr cs => some cs
  | _ => none
theorem lookL_ref (m : List (Nat × List AV)) (t off : Nat) : lookL m (.ref t off) = (ofL m t).map (List.drop off) := rfl
theorem lookL_ptr (m : List (Nat × List AV)) (cs : List AV) : lookL m (.ptr cs) = some cs := rfl
theorem takeA_strct (fs : List (Nat × Nat × TypeId)) (z cs : List AV) : takeA ⟨.strct fs, z⟩ cs = if z.length ≤ cs.length then some (.agg (cs.take z.length)) else none := rfl
theorem takeA_scal (z cs : List AV) : takeA ⟨.scal, z⟩ cs = cs.head? := rfl
theorem takeA_bool (z cs : List AV) : takeA ⟨.bool, z⟩ cs = cs.head? := rfl
theorem takeA_int (k : IntKind) (z cs : List AV) : takeA ⟨.int k, z⟩ cs = cs.head? := rfl
theorem takeA_str (z cs : List AV) : takeA ⟨.str, z⟩ cs = cs.head? := rfl
theorem takeA_slc (e k : Nat) (l : Bool) (z cs : List AV) : takeA ⟨.slc e k l, z⟩ cs = cs.head? := rfl
def offV (o : Nat) : TV → Option TV
  | .ref t off => some (.ref t (off + o))
  | .ptr cs => some (.ptr (cs.drop o))
  | _ => none
theorem offV_ref (o t off : Nat) : offV o (.ref t off) = some (.ref t (off + o)) := rfl
theorem offV_ptr (o : Nat) (cs : List AV) : offV o (.ptr cs) = some (.ptr (cs.drop o)) := rfl

section
variable {C : Ctx} {ops : Array Oper} {os : List Oper} {l : List (Nat × Option TV)} {m : List (Nat × List AV)} {K : AS → Prop} {ty : TypeId} {p : String} {af : Array Edge} {t : Nat} {d : Option Nat}

theorem get_of (x : Operand) : AS.get ⟨ofT l, ofL m⟩ x = getL l x := by cases x <;> rfl
theorem arun_val {op : Op} (h : ∀ σ k, astep C ⟨d, op, ty, p, af, none⟩ σ k = ∃ v, aval C σ ⟨d, op, ty, p, af, none⟩ v ∧ k (σ.put d v)) {σ : AS} : arun C ops (⟨d, op, ty, p, af, none⟩ :: os) σ K = ∃ v, aval C σ ⟨d, op, ty, p, af, none⟩ v ∧ arun C ops os (σ.put d v) K := by
  simp only [arun, astepG, wantedA, Option.some.injEq, exists_eq_left', forall_const, h]
  simp
theorem arun_nil : arun C ops [] ⟨ofT l, ofL m⟩ K = K ⟨ofT l, ofL m⟩ := rfl
/-- A guard; what follows is kept as data. -/
def guardA (C : Ctx) (ops : Array Oper) (os : List Oper) (l : List (Nat × Option TV)) (m : List (Nat × List AV)) (d : Option Nat) (op : Op) (ty : TypeId) (p : String) (af : Array Edge) (w : Bool) (v : TV) (K : AS → Prop) : Prop :=
  guardK v w (arun C ops (⟨d, op, ty, p, af, none⟩ :: os) ⟨ofT l, ofL m⟩ K) (arun C ops os (AS.put ⟨ofT l, ofL m⟩ d .skip) K)
theorem guardA_tt {op : Op} : guardA C ops os l m d op ty p af true (.av (.lit (.bool true))) K = arun C ops (⟨d, op, ty, p, af, none⟩ :: os) ⟨ofT l, ofL m⟩ K := guardK_tt _ _
theorem guardA_ff {op : Op} : guardA C ops os l m d op ty p af false (.av (.lit (.bool false))) K = arun C ops (⟨d, op, ty, p, af, none⟩ :: os) ⟨ofT l, ofL m⟩ K := guardK_ff _ _
theorem guardA_tf {op : Op} : guardA C ops os l m (some t) op ty p af false (.av (.lit (.bool true))) K = arun C ops os ⟨ofT (setT l t .skip), ofL m⟩ K := by rw [← put_of]; exact guardK_tf _ _
theorem guardA_ft {op : Op} : guardA C ops os l m (some t) op ty p af true (.av (.lit (.bool false))) K = arun C ops os ⟨ofT (setT l t .skip), ofL m⟩ K := by rw [← put_of]; exact guardK_ft _ _
theorem guardA_skip {op : Op} {w : Bool} : guardA C ops os l m (some t) op ty p af w .skip K = arun C ops os ⟨ofT (setT l t .skip), ofL m⟩ K := by rw [← put_of]; exact guardK_skip _ _ _
theorem guardA_mk {op : Op} {b w : Bool} (h1 : b = w → arun C ops (⟨d, op, ty, p, af, none⟩ :: os) ⟨ofT l, ofL m⟩ K) (h2 : b ≠ w → arun C ops os (AS.put ⟨ofT l, ofL m⟩ d .skip) K) : guardA C ops os l m d op ty p af w (.av (.lit (.bool b))) K := by
  unfold guardA
  rw [guardK_bool]
  exact ⟨h1, h2⟩
theorem guardA_congr {op : Op} {w : Bool} {v v' : TV} {l' : List (Nat × Option TV)} {m' : List (Nat × List AV)} (h1 : l = l') (h2 : m = m') (h3 : v = v') : guardA C ops os l m d op ty p af w v K = guardA C ops os l' m' d op ty p af w v' K := by rw [h1, h2, h3]
theorem arun_guard {op : Op} {j : Nat} {w : Bool} : arun C ops (⟨d, op, ty, p, af, some (j, w)⟩ :: os) ⟨ofT l, ofL m⟩ K = onSome ((ops[j]?).bind (fun o => o.dst)) (fun g => onSome (ofT l g) (fun v => guardA C ops os l m d op ty p af w v K)) := by
  have hs : ∀ k, astep C ⟨d, op, ty, p, af, some (j, w)⟩ ⟨ofT l, ofL m⟩ k = astep C ⟨d, op, ty, p, af, none⟩ ⟨ofT l, ofL m⟩ k := fun k => rfl
  unfold guardA
  cases hg : (ops[j]?).bind (fun o => o.dst) with
  | none => simp [arun, astepG, wantedA, hg, onSome]
  | some g =>
    rw [onSome_some]
    simp only [arun, astepG, wantedA, hg, hs, onSome]
    cases hv : ofT l g with
    | none => simp
    | some v =>
      cases v with
      | av a =>
        cases a with
        | lit u =>
          cases u with
          | bool b =>
            simp only [Option.some.injEq, exists_eq_left', guardK_bool]
            cases b <;> cases w <;> simp
          | _ => simp [guardK]
        | _ => simp [guardK]
      | skip => simp [guardK]
      | _ => simp [guardK]
theorem arun_move (x : Operand) : arun C ops (⟨some t, .move x, ty, p, af, none⟩ :: os) ⟨ofT l, ofL m⟩ K = onSome (getL l x) (fun v => arun C ops os ⟨ofT (setT l t v), ofL m⟩ K) := by
  rw [arun_val fun _ _ => rfl]
  simp only [aval, get_of, put_of, onSome]
theorem arun_assign (x : Operand) : arun C ops (⟨some t, .assign x, ty, p, af, none⟩ :: os) ⟨ofT l, ofL m⟩ K = onSome (getL l x) (fun v => arun C ops os ⟨ofT (setT l t v), ofL m⟩ K) := by
  rw [arun_val fun _ _ => rfl]
  simp only [aval, get_of, put_of, onSome]
theorem arun_pick (c x y : Operand) : arun C ops (⟨some t, .pick c x y, ty, p, af, none⟩ :: os) ⟨ofT l, ofL m⟩ K = onSome (getL l c) (fun v => condK v (onSome (getL l x) (fun v => arun C ops os ⟨ofT (setT l t v), ofL m⟩ K)) (onSome (getL l y) (fun v => arun C ops os ⟨ofT (setT l t v), ofL m⟩ K))) := by
  rw [arun_val fun _ _ => rfl]
  simp only [aval, get_of, put_of, onSome, condK]
  apply propext
  constructor
  · rintro ⟨v, ⟨b, h1, h2⟩, h3⟩
    refine ⟨_, h1, b, rfl, fun hb => ?_, fun hb => ?_⟩
    · subst hb; exact ⟨v, h2, h3⟩
    · subst hb; exact ⟨v, h2, h3⟩
  · rintro ⟨v, h1, b, rfl, h2, h3⟩
    cases b with
    | true => obtain ⟨u, h4, h5⟩ := h2 rfl; exact ⟨u, ⟨true, h1, h4⟩, h5⟩
    | false => obtain ⟨u, h4, h5⟩ := h3 rfl; exact ⟨u, ⟨false, h1, h4⟩, h5⟩
theorem look_of (v : TV) : AS.look ⟨ofT l, ofL m⟩ (some v) = lookL m v := by cases v <;> rfl
theorem arun_load (ty' : TypeId) (x : Operand) : arun C ops (⟨some t, .load ty' x, ty, p, af, none⟩ :: os) ⟨ofT l, ofL m⟩ K = onSome (getL l x) (fun v => onSome (lookL m v) (fun cs => onSome (C.T ty') (fun i => onSome (takeA i cs) (fun a => arun C ops os ⟨ofT (setT l t (.av a)), ofL m⟩ K)))) := by
  rw [arun_val fun _ _ => rfl]
  simp only [aval, get_of, put_of, onSome]
  apply propext
  constructor
  · rintro ⟨v, ⟨i, cs, a, h1, h2, h3, rfl⟩, h4⟩
    cases hx : getL l x with
    | none => rw [hx] at h2; cases h2
    | some y => rw [hx, look_of] at h2; exact ⟨y, rfl, cs, h2, i, h1, a, h3, h4⟩
  · rintro ⟨v, h1, cs, h2, i, h3, a, h4, h5⟩
    exact ⟨_, ⟨i, cs, a, h3, by rw [h1, look_of]; exact h2, h4, rfl⟩, h5⟩
theorem arun_fieldAddr (ty' : TypeId) (x : Operand) (f : Nat) : arun C ops (⟨some t, .fieldAddr ty' x f, ty, p, af, none⟩ :: os) ⟨ofT l, ofL m⟩ K = onSome (getL l x) (fun v => onSome (C.T ty') (fun i => fieldK i f (fun o _ => onSome (offV o v) (fun v' => arun C ops os ⟨ofT (setT l t v'), ofL m⟩ K)))) := by
  rw [arun_val fun _ _ => rfl]
  simp only [aval, get_of, put_of, onSome, fieldK]
  have e : ∀ (o : Nat) v, offT o (some v) = offV o v := fun o v => by cases v <;> rfl
  apply propext
  constructor
  · rintro ⟨v, ⟨fs, z, o, n, ft, h1, h2, h3⟩, h4⟩
    cases hx : getL l x with
    | none => rw [hx] at h3; cases h3
    | some y => rw [hx, e] at h3; exact ⟨y, rfl, _, h1, fs, o, n, ft, rfl, h2, v, h3, h4⟩
  · rintro ⟨v, h1, ⟨k, z⟩, h2, fs, o, n, ft, rfl, h3, v', h4, h5⟩
    exact ⟨v', ⟨fs, z, o, n, ft, h2, h3, by rw [h1, e]; exact h4⟩, h5⟩
theorem arun_extract (x : Operand) (i : Nat) : arun C ops (⟨some t, .extract x i, ty, p, af, none⟩ :: os) ⟨ofT l, ofL m⟩ K = onSome (getL l x) (fun v => tupK v (fun vs => onSome vs[i]? (fun a => arun C ops os ⟨ofT (setT l t (.av a)), ofL m⟩ K))) := by
  rw [arun_val fun _ _ => rfl]
  simp only [aval, get_of, put_of, onSome, tupK]
  apply propext
  constructor
  · rintro ⟨v, ⟨vs, a, h1, h2, rfl⟩, h4⟩
    exact ⟨_, h1, vs, rfl, a, h2, h4⟩
  · rintro ⟨v, h1, vs, rfl, a, h2, h4⟩
    exact ⟨_, ⟨vs, a, h1, h2, rfl⟩, h4⟩
def binK (b : Bool) (op : BinOp) (x y : Value) (k : Value → Prop) : Prop := ∃ r, binR b op x y r ∧ k r
theorem arun_binOp (op : BinOp) (xt yt : TypeId) (x y : Operand) : arun C ops (⟨some t, .binOp op xt x y yt, ty, p, af, none⟩ :: os) ⟨ofT l, ofL m⟩ K = onSome (getL l x) (fun v => onSome (getL l y) (fun u => litK v (fun a => litK u (fun b => binK (isBoolT C.T xt) op a b (fun r => arun C ops os ⟨ofT (setT l t (.av (.lit r))), ofL m⟩ K))))) := by
  rw [arun_val fun _ _ => rfl]
  simp only [aval, get_of, put_of, onSome, litK, binK]
  apply propext
  constructor
  · rintro ⟨v, ⟨a, b, r, h1, h2, h3, rfl⟩, h4⟩
    exact ⟨_, h1, _, h2, a, rfl, b, rfl, r, h3, h4⟩
  · rintro ⟨_, h1, _, h2, a, rfl, b, rfl, r, h3, h4⟩
    exact ⟨_, ⟨a, b, r, h1, h2, h3, rfl⟩, h4⟩
def unK (op : UnOp) (x : Value) (k : Value → Prop) : Prop := ∃ r, unR op x r ∧ k r
theorem arun_unOp (op : UnOp) (xt : TypeId) (x : Operand) : arun C ops (⟨some t, .unOp op xt x, ty, p, af, none⟩ :: os) ⟨ofT l, ofL m⟩ K = onSome (getL l x) (fun v => litK v (fun a => unK op a (fun r => arun C ops os ⟨ofT (setT l t (.av (.lit r))), ofL m⟩ K))) := by
  rw [arun_val fun _ _ => rfl]
  simp only [aval, get_of, put_of, onSome, litK, unK]
  apply propext
  constructor
  · rintro ⟨v, ⟨a, r, h1, h2, rfl⟩, h4⟩
    exact ⟨_, h1, a, rfl, r, h2, h4⟩
  · rintro ⟨_, h1, a, rfl, r, h3, h4⟩
    exact ⟨_, ⟨a, r, h1, h3, rfl⟩, h4⟩
/-- A call; what follows is kept as data. -/
def callA (C : Ctx) (ops : Array Oper) (os : List Oper) (l : List (Nat × Option TV)) (m : List (Nat × List AV)) (t : Nat) (f : FuncId) (args : List AV) (K : AS → Prop) : Prop := ∃ r, ACalls C f args r ∧ arun C ops os ⟨ofT (setT l t (.av r)), ofL m⟩ K
theorem callA_mk {f : FuncId} {args : List AV} {r : AV} (h : ACalls C f args r) (hk : arun C ops os ⟨ofT (setT l t (.av r)), ofL m⟩ K) : callA C ops os l m t f args K := ⟨r, h, hk⟩
theorem callA_congr {f : FuncId} {args args' : List AV} {l' : List (Nat × Option TV)} {m' : List (Nat × List AV)} (h1 : l = l') (h2 : m = m') (h3 : args = args') : callA C ops os l m t f args K = callA C ops os l' m' t f args' K := by rw [h1, h2, h3]
theorem arun_call (f : FuncId) (args : Array Operand) (tys : Array TypeId) : arun C ops (⟨some t, .call ⟨.value (.func f), args, tys⟩, ty, p, af, none⟩ :: os) ⟨ofT l, ofL m⟩ K = onSome (AS.args C.T ⟨ofT l, ofL m⟩ args.toList tys.toList) (fun as' => callA C ops os l m t f as' K) := by
  simp only [arun, astepG, wantedA, Option.some.injEq, exists_eq_left', forall_const, astep, put_of, onSome, callA]
  apply propext
  constructor
  · rintro ⟨⟨as', r, h1, h2, h3⟩, _⟩
    exact ⟨as', h1, r, h2, h3⟩
  · rintro ⟨as', h1, r, h2, h3⟩
    exact ⟨⟨as', r, h1, h2, h3⟩, by simp⟩
theorem arun_alloc (ty' : TypeId) : arun C ops (⟨some t, .alloc ty', ty, p, af, none⟩ :: os) ⟨ofT l, ofL m⟩ K = onSome (C.T ty') (fun i => i.zero.all AV.one = true ∧ i.zero.all AV.noLimb = true ∧ arun C ops os ⟨ofT (setT (staleT t l) t (.ref t 0)), ofL (setL m t i.zero)⟩ K) := by
  simp only [arun, astepG, wantedA, Option.some.injEq, exists_eq_left', forall_const, astep, new_of, onSome]
  simp
theorem arun_box (ty' : TypeId) (x : Operand) : arun C ops (⟨some t, .box ty' x, ty, p, af, none⟩ :: os) ⟨ofT l, ofL m⟩ K = onSome (getL l x) (fun v => avK v (fun a => a.cells.all AV.one = true ∧ a.cells.all AV.noLimb = true ∧ arun C ops os ⟨ofT (setT (staleT t l) t (.ref t 0)), ofL (setL m t a.cells)⟩ K)) := by
  simp only [arun, astepG, wantedA, Option.some.injEq, exists_eq_left', forall_const, astep, new_of, onSome, get_of, avK]
  apply propext
  constructor
  · rintro ⟨⟨t', a, ht, h1, h2, h3, h4⟩, _⟩
    subst ht
    exact ⟨_, h1, a, rfl, h2, h3, h4⟩
  · rintro ⟨_, h1, a, rfl, h2, h3, h4⟩
    exact ⟨⟨t, a, rfl, h1, h2, h3, h4⟩, by simp⟩
theorem arun_store (ty' : TypeId) (x y : Operand) : arun C ops (⟨none, .store ty' x y, ty, p, af, none⟩ :: os) ⟨ofT l, ofL m⟩ K = onSome (getL l x) (fun v => refK v (fun t off => onSome (getL l y) (fun u => avK u (fun z => onSome (ofL m t) (fun cs => onSome (C.T ty') (fun i =>
      (normA C.T ty' z).cells.length = i.zero.length ∧ off + (normA C.T ty' z).cells.length ≤ cs.length ∧ (normA C.T ty' z).cells.all AV.one = true ∧ (normA C.T ty' z).cells.all AV.noLimb = true ∧ arun C ops os ⟨ofT l, ofL (setL m t (splice cs off (normA C.T ty' z).cells))⟩ K)))))) := by
  simp only [arun, astepG, wantedA, Option.some.injEq, exists_eq_left', forall_const, astep, setMem_of, put_none, onSome, get_of, avK, refK]
  apply propext
  constructor
  · rintro ⟨⟨i, t, off, cs, z, h1, h2, h3, h4, h5, h6, h7, h8, h9⟩, _⟩
    exact ⟨_, h2, t, off, rfl, _, h4, z, rfl, cs, h3, i, h1, h5, h6, h7, h8, h9⟩
  · rintro ⟨_, h2, t, off, rfl, _, h4, z, rfl, cs, h3, i, h1, h5, h6, h7, h8, h9⟩
    exact ⟨⟨i, t, off, cs, z, h1, h2, h3, h4, h5, h6, h7, h8, h9⟩, by simp⟩
end
end Go.Proofs.YtnifjdhjimjihaaGreatDoor
/- The engine, part R: more rules; the walk's words for code. -/
namespace Go.Proofs.YtnifjdhjimjihaaGreatDoor
open Go.RowKit Lim
section
variable {C : Ctx} {ops : Array Oper} {os : List Oper} {l : List (Nat × Option TV)} {m : List (Nat × List AV)} {K : AS → Prop} {ty : TypeId} {p : String} {af : Array Edge} {t : Nat} {d : Option Nat}

theorem arun_field (ty' : TypeId) (x : Operand) (f : Nat) : arun C ops (⟨some t, .field ty' x f, ty, p, af, none⟩ :: os) ⟨ofT l, ofL m⟩ K = onSome (getL l x) (fun v => aggK v (fun cs => onSome (C.T ty') (fun i => fieldK i f (fun o ft => onSome (C.T ft) (fun i' => onSome (takeA i' (cs.drop o)) (fun a => arun C ops os ⟨ofT (setT l t (.av a)), ofL m⟩ K)))))) := by
  rw [arun_val fun _ _ => rfl]
  simp only [aval, get_of, put_of, onSome, aggK, fieldK]
  apply propext
  constructor
  · rintro ⟨v, ⟨fs, z, o, n, ft, cs, i, a, h1, h2, h3, h4, h5, rfl⟩, h6⟩
    exact ⟨_, h3, cs, rfl, _, h1, fs, o, n, ft, rfl, h2, i, h4, a, h5, h6⟩
  · rintro ⟨_, h3, cs, rfl, ⟨k, z⟩, h1, fs, o, n, ft, rfl, h2, i, h4, a, h5, h6⟩
    exact ⟨_, ⟨fs, z, o, n, ft, cs, i, a, h1, h2, h3, h4, h5, rfl⟩, h6⟩
/-- An element. -/
def elemK (i : TI) (v u : TV) (k : AV → Prop) : Prop := ∃ e0 kk lm s q n e, i.kind = .slc e0 kk lm ∧ v = .av s ∧ u = .av (.lit (.int q n)) ∧ 0 ≤ n ∧ elemA kk s n.toNat e ∧ k e
theorem arun_indexAddr (ty' : TypeId) (x y : Operand) : arun C ops (⟨some t, .indexAddr ty' x y, ty, p, af, none⟩ :: os) ⟨ofT l, ofL m⟩ K = onSome (getL l x) (fun v => onSome (getL l y) (fun u => onSome (C.T ty') (fun i => elemK i v u (fun e => arun C ops os ⟨ofT (setT l t (.ptr e.cells)), ofL m⟩ K)))) := by
  rw [arun_val fun _ _ => rfl]
  simp only [aval, get_of, put_of, onSome, elemK]
  apply propext
  constructor
  · rintro ⟨v, ⟨e0, k, lm, z, s, q, n, e, h1, h2, h3, h4, h5, rfl⟩, h6⟩
    exact ⟨_, h2, _, h3, _, h1, e0, k, lm, s, q, n, e, rfl, rfl, rfl, h4, h5, h6⟩
  · rintro ⟨_, h2, _, h3, ⟨kd, z⟩, h1, e0, k, lm, s, q, n, e, rfl, rfl, rfl, h4, h5, h6⟩
    exact ⟨_, ⟨e0, k, lm, z, s, q, n, e, h1, h2, h3, h4, h5, rfl⟩, h6⟩
theorem elemK_sl {e0 k : Nat} {z : List AV} {lm : Bool} {es : List AV} {q : IntKind} {n : Int} {K : AV → Prop} : elemK ⟨.slc e0 k lm, z⟩ (.av (.sl k es)) (.av (.lit (.int q n))) K = (0 ≤ n ∧ onSome es[n.toNat]? K) := by
  simp only [elemK, elemA, onSome]
  apply propext
  constructor
  · rintro ⟨e1, k1, lm1, s, q1, n1, e, h1, h2, h3, h4, h5, h6⟩
    cases h1; cases h2; cases h3
    exact ⟨h4, e, h5.2, h6⟩
  · rintro ⟨h4, e, h5, h6⟩
    exact ⟨e0, k, lm, .sl k es, q, n, e, rfl, rfl, rfl, h4, ⟨rfl, h5⟩, h6⟩
theorem elemK_nat {e0 : Nat} {z : List AV} {lm : Bool} {es : List Nat} {q : IntKind} {n : Int} {K : AV → Prop} : elemK ⟨.slc e0 1 lm, z⟩ (.av (.nat es)) (.av (.lit (.int q n))) K = (0 ≤ n ∧ onSome es[n.toNat]? (fun x => K (.lit (.int .u32 (x : Nat))))) := by
  simp only [elemK, elemA, onSome]
  apply propext
  constructor
  · rintro ⟨e1, k1, lm1, s, q1, n1, e, h1, h2, h3, h4, h5, h6⟩
    cases h1; cases h2; cases h3
    obtain ⟨_, x, h7, rfl⟩ := h5
    exact ⟨h4, x, h7, h6⟩
  · rintro ⟨h4, e, h5, h6⟩
    exact ⟨e0, 1, lm, .nat es, q, n, _, rfl, rfl, rfl, h4, ⟨rfl, e, h5, rfl⟩, h6⟩
def strK (v u : TV) (k : UInt8 → Prop) : Prop := ∃ s q n, v = .av (.lit (.string s)) ∧ u = .av (.lit (.int q n)) ∧ 0 ≤ n ∧ onSome s.data.toList[n.toNat]? k
theorem arun_index (ty' : TypeId) (x y : Operand) : arun C ops (⟨some t, .index ty' x y, ty, p, af, none⟩ :: os) ⟨ofT l, ofL m⟩ K = onSome (getL l x) (fun v => onSome (getL l y) (fun u => onSome (C.T ty') (fun i => i.kind = .str ∧ strK v u (fun b => arun C ops os ⟨ofT (setT l t (.av (.lit (.int .u8 (b.toNat : Nat))))), ofL m⟩ K)))) := by
  rw [arun_val fun _ _ => rfl]
  simp only [aval, get_of, put_of, onSome, strK]
  apply propext
  constructor
  · rintro ⟨v, ⟨z, s, q, n, b, h1, h2, h3, h4, h5, rfl⟩, h6⟩
    exact ⟨_, h2, _, h3, _, h1, rfl, s, q, n, rfl, rfl, h4, b, h5, h6⟩
  · rintro ⟨_, h2, _, h3, ⟨kd, z⟩, h1, rfl, s, q, n, rfl, rfl, h4, b, h5, h6⟩
    exact ⟨_, ⟨z, s, q, n, b, h1, h2, h3, h4, h5, rfl⟩, h6⟩
theorem strK_mk {s : List UInt8} {q : IntKind} {n : Int} {k : UInt8 → Prop} : strK (.av (.lit (.string ⟨s.toArray⟩))) (.av (.lit (.int q n))) k = (0 ≤ n ∧ onSome s[n.toNat]? k) := by
  simp only [strK, onSome]
  apply propext
  constructor
  · rintro ⟨s', q', n', h1, h2, h3, b, h4, h5⟩
    cases h1; cases h2
    exact ⟨h3, b, by simpa using h4, h5⟩
  · rintro ⟨h3, b, h4, h5⟩
    exact ⟨_, q, n, rfl, rfl, h3, b, by simpa using h4, h5⟩
def convK (j : TI) (v : TV) (k : Value → Prop) : Prop := ∃ kk q n, j.kind = .int kk ∧ v = .av (.lit (.int q n)) ∧ k (.int kk (kk.wrap n))
theorem convK_int {kk q : IntKind} {z : List AV} {n : Int} {k : Value → Prop} : convK ⟨.int kk, z⟩ (.av (.lit (.int q n))) k = k (.int kk (kk.wrap n)) := by
  simp only [convK]
  apply propext
  constructor
  · rintro ⟨k1, q1, n1, h1, h2, h3⟩
    cases h1; cases h2
    exact h3
  · intro h
    exact ⟨kk, q, n, rfl, rfl, h⟩
theorem arun_convert (src dst : TypeId) (x : Operand) : arun C ops (⟨some t, .convert src dst x, ty, p, af, none⟩ :: os) ⟨ofT l, ofL m⟩ K = onSome (getL l x) (fun v => onSome (C.T src) (fun _ => onSome (C.T dst) (fun j => convK j v (fun r => arun C ops os ⟨ofT (setT l t (.av (.lit r))), ofL m⟩ K)))) := by
  rw [arun_val fun _ _ => rfl]
  simp only [aval, get_of, put_of, onSome, convK]
  apply propext
  constructor
  · rintro ⟨v, ⟨i, j, k, z, q, n, h1, h2, rfl, h3, rfl⟩, h6⟩
    exact ⟨_, h3, i, h1, _, h2, k, q, n, rfl, rfl, h6⟩
  · rintro ⟨_, h3, i, h1, ⟨kd, z⟩, h2, k, q, n, rfl, rfl, h6⟩
    exact ⟨_, ⟨i, _, k, z, q, n, h1, h2, rfl, h3, rfl⟩, h6⟩
theorem arun_build (ty' : TypeId) (parts : Array (Nat × Operand)) : arun C ops (⟨some t, .build ty' parts, ty, p, af, none⟩ :: os) ⟨ofT l, ofL m⟩ K = onSome (C.T ty') (fun i => strctK i (fun fs => onSome (fillA C.T ⟨ofT l, ofL m⟩ fs i.zero parts.toList) (fun cs => arun C ops os ⟨ofT (setT l t (.av (.agg cs))), ofL m⟩ K))) := by
  rw [arun_val fun _ _ => rfl]
  simp only [aval, put_of, onSome, strctK]
  apply propext
  constructor
  · rintro ⟨v, ⟨fs, z, cs, h1, h2, rfl⟩, h6⟩
    exact ⟨_, h1, fs, rfl, cs, h2, h6⟩
  · rintro ⟨⟨k, z⟩, h1, fs, rfl, cs, h2, h6⟩
    exact ⟨_, ⟨fs, z, cs, h1, h2, rfl⟩, h6⟩
def sliceK (i : TI) (v : TV) (lo hi : Option TV) (k : AV → Prop) : Prop := ∃ r, (match i.kind, v with
       | .str, .av (.lit (.string s)) => ∃ l h, sliceR lo hi s.size l h ∧ r = .lit (.string (s.extract l h))
       | .slc _ k _, .av (.sl k' es) => k = k' ∧ ∃ l h, sliceR lo hi es.length l h ∧ r = .sl k ((es.take h).drop l)
       | .slc _ k _, .av (.nat es) => k = 1 ∧ ∃ l h, sliceR lo hi es.length l h ∧ r = .nat ((es.take h).drop l)
       | _, _ => False) ∧ k r
def optL (l : List (Nat × Option TV)) : Option Operand → Option (Option TV)
  | none => some none
  | some x => (getL l x).map some
theorem optL_none : optL l none = some none := rfl
theorem optL_some (x : Operand) : optL l (some x) = (getL l x).map some := rfl
theorem arun_slice (ty' : TypeId) (x : Operand) (lo hi : Option Operand) : arun C ops (⟨some t, .slice ty' x lo hi none, ty, p, af, none⟩ :: os) ⟨ofT l, ofL m⟩ K = onSome (getL l x) (fun v => onSome (optL l lo) (fun lo' => onSome (optL l hi) (fun hi' => onSome (C.T ty') (fun i => sliceK i v lo' hi' (fun r => arun C ops os ⟨ofT (setT l t (.av r)), ofL m⟩ K))))) := by
  have e : ∀ x, optGet ⟨ofT l, ofL m⟩ x = optL l x := fun x => by
    cases x with
    | none => rfl
    | some y => simp only [optGet, optL, get_of]
  rw [arun_val fun _ _ => rfl]
  simp only [aval, get_of, put_of, onSome, sliceK, e]
  apply propext
  constructor
  · rintro ⟨v, ⟨i, lo', hi', h1, h2, h3, h4⟩, h6⟩
    split at h4
    · rename_i s hk hx
      obtain ⟨a, b, h7, rfl⟩ := h4
      exact ⟨_, hx, lo', h2, hi', h3, i, h1, _, by rw [hk]; exact ⟨a, b, h7, rfl⟩, h6⟩
    · rename_i e0 k lm k' es hk hx
      obtain ⟨rfl, a, b, h7, rfl⟩ := h4
      exact ⟨_, hx, lo', h2, hi', h3, i, h1, _, by rw [hk]; exact ⟨rfl, a, b, h7, rfl⟩, h6⟩
    · rename_i e0 k lm es hk hx
      obtain ⟨rfl, a, b, h7, rfl⟩ := h4
      exact ⟨_, hx, lo', h2, hi', h3, i, h1, _, by rw [hk]; exact ⟨rfl, a, b, h7, rfl⟩, h6⟩
    · exact h4.elim
  · rintro ⟨v, hx, lo', h2, hi', h3, i, h1, r, h4, h6⟩
    refine ⟨.av r, ⟨i, lo', hi', h1, h2, h3, ?_⟩, h6⟩
    rw [hx]
    split at h4
    · rename_i hk; rw [hk]; obtain ⟨a, b, h7, rfl⟩ := h4; exact ⟨a, b, h7, rfl⟩
    · rename_i hk; rw [hk]; obtain ⟨h8, a, b, h7, rfl⟩ := h4; exact ⟨h8, a, b, h7, rfl⟩
    · rename_i hk; rw [hk]; obtain ⟨h8, a, b, h7, rfl⟩ := h4; exact ⟨h8, a, b, h7, rfl⟩
    · exact h4.elim
def lenK (i : TI) (v : TV) (k : Nat → Prop) : Prop := ∃ n, (match i.kind, v with
       | .str, .av (.lit (.string s)) => n = s.size
       | .slc _ _ _, .av s => lenA s = some n
       | _, _ => False) ∧ k n
theorem lenK_str {z : List AV} {s : ByteArray} {k : Nat → Prop} : lenK ⟨.str, z⟩ (.av (.lit (.string s))) k = k s.size := by simp [lenK]
theorem lenK_sl {z : List AV} {e0 kk : Nat} {lm : Bool} {q : Nat} {es : List AV} {k : Nat → Prop} : lenK ⟨.slc e0 kk lm, z⟩ (.av (.sl q es)) k = k es.length := by simp [lenK, lenA]
theorem lenK_nat {z : List AV} {e0 kk : Nat} {lm : Bool} {es : List Nat} {k : Nat → Prop} : lenK ⟨.slc e0 kk lm, z⟩ (.av (.nat es)) k = k es.length := by simp [lenK, lenA]
theorem lenK_nil {z : List AV} {e0 kk : Nat} {lm : Bool} {k : Nat → Prop} : lenK ⟨.slc e0 kk lm, z⟩ (.av (.lit (.slice none 0 0))) k = k 0 := by simp [lenK, lenA]
theorem arun_len (x : Operand) (ty' : TypeId) : arun C ops (⟨some t, .call ⟨.builtin .len, #[x], #[ty']⟩, ty, p, af, none⟩ :: os) ⟨ofT l, ofL m⟩ K = onSome (getL l x) (fun v => onSome (C.T ty') (fun i => lenK i v (fun n => arun C ops os ⟨ofT (setT l t (.av (.lit (.int .i64 (n : Nat))))), ofL m⟩ K))) := by
  rw [arun_val fun _ _ => rfl]
  simp only [aval, get_of, put_of, onSome, lenK]
  apply propext
  constructor
  · rintro ⟨v, ⟨x', ty2, i, h1, h2, h3, h4⟩, h6⟩
    simp only [Array.mk.injEq, List.cons.injEq, and_true] at h1 h2
    subst h1 h2
    split at h4
    · rename_i s hk hx
      subst h4
      exact ⟨_, hx, i, h3, _, by rw [hk], h6⟩
    · rename_i e0 k lm s hk hx
      obtain ⟨n, h5, rfl⟩ := h4
      exact ⟨_, hx, i, h3, n, by rw [hk]; exact h5, h6⟩
    · exact h4.elim
  · rintro ⟨v, hx, i, h3, n, h4, h6⟩
    refine ⟨_, ⟨x, ty', i, rfl, rfl, h3, ?_⟩, h6⟩
    rw [hx]
    split at h4
    · rename_i hk; rw [hk, h4]
    · rename_i hk; rw [hk]; exact ⟨n, h4, rfl⟩
    · exact h4.elim
theorem arun_nilCheck (x : Operand) : arun C ops (⟨some t, .nilCheck x, ty, p, af, none⟩ :: os) ⟨ofT l, ofL m⟩ K = onSome (getL l x) (fun v => onSome (offV 0 v) (fun _ => arun C ops os ⟨ofT (setT l t v), ofL m⟩ K)) := by
  rw [arun_val fun _ _ => rfl]
  simp only [aval, get_of, put_of, onSome]
  apply propext
  constructor
  · rintro ⟨v, h1, h2⟩
    split at h1
    · rename_i hx; subst h1; exact ⟨_, hx, _, rfl, h2⟩
    · rename_i hx; subst h1; exact ⟨_, hx, _, rfl, h2⟩
    · exact h1.elim
  · rintro ⟨v, h1, u, h2, h3⟩
    refine ⟨v, ?_, h3⟩
    rw [h1]
    cases v <;> first | rfl | cases h2
def rowK (C : Ctx) (e : TypeId) (k : Nat) (n : Nat) (lm : Bool) (cs : List AV) (kk : AV → Prop) : Prop := cs.all AV.one = true ∧ (match lm with | true => k = 1 ∧ ∃ ns, natsR cs ns ∧ kk (.nat ns) | false => kk (.sl k (chunk k n cs)))
theorem arun_buildSlice (ty' : TypeId) (n : Nat) (parts : Array (Nat × Operand)) : arun C ops (⟨some t, .buildSlice ty' n parts, ty, p, af, none⟩ :: os) ⟨ofT l, ofL m⟩ K = onSome (C.T ty') (fun i => slcK i (fun e k lm => onSome (C.T e) (fun j => j.zero.length = k ∧ 0 < k ∧ n * k ≤ 16777216 ∧ onSome (fillA C.T ⟨ofT l, ofL m⟩ (places k e n 0) (List.replicate n j.zero).flatten parts.toList) (fun cs => rowK C e k n lm cs (fun r => arun C ops os ⟨ofT (setT l t (.av r)), ofL m⟩ K))))) := by
  simp only [arun, astepG, wantedA, Option.some.injEq, exists_eq_left', forall_const, astep, put_of, onSome, rowK, slcK]
  apply propext
  constructor
  · rintro ⟨⟨e, k, lm, z, i, cs, h1, h2, h3, h4, h5, h6, h7, h8⟩, _⟩
    exact ⟨_, h1, e, k, lm, rfl, i, h2, h3, h4, h5, cs, h6, h7, h8⟩
  · rintro ⟨⟨kd, z⟩, h1, e, k, lm, rfl, i, h2, h3, h4, h5, cs, h6, h7, h8⟩
    exact ⟨⟨e, k, lm, z, i, cs, h1, h2, h3, h4, h5, h6, h7, h8⟩, by simp⟩
end
section
variable {C : Ctx} {n : Nat} {K : Exit → AS → Prop} {l : List (Nat × Option TV)} {m : List (Nat × List AV)}
theorem awp_seq (a b : Code) {σ : AS} : awp C n (.seq a b) K σ = awp C n a (thenK C n b K) σ := rfl
theorem awp_skip : awp C n .skip K ⟨ofT l, ofL m⟩ = K .normal ⟨ofT l, ofL m⟩ := rfl
theorem awp_ret : awp C n .ret K ⟨ofT l, ofL m⟩ = K .ret ⟨ofT l, ofL m⟩ := rfl
theorem awp_exit (id : Nat) : awp C n (.exit id) K ⟨ofT l, ofL m⟩ = K (.exit id) ⟨ofT l, ofL m⟩ := rfl
theorem awp_label (id : Nat) : awp C n (.label id) K ⟨ofT l, ofL m⟩ = K .normal ⟨ofT l, ofL m⟩ := rfl
theorem awp_block (id : Nat) (c : Code) {σ : AS} : awp C n (.block id c) K σ = awp C n c (blockK id K) σ := rfl
theorem awp_region (id : Nat) (os : List Oper) (d : Bool) : awp C n (.region id (List.toArray os) d) K ⟨ofT l, ofL m⟩ = arun C (List.toArray os) os ⟨ofT (prepL n d (badOf d os) l), ofL m⟩ (K .normal) := by
  show arun C _ _ (prep n _ _ _) _ = _
  rw [prep_of]
/-- A branch; both ways are kept as data. -/
def condA (C : Ctx) (n : Nat) (a b : Code) (l : List (Nat × Option TV)) (m : List (Nat × List AV)) (v : TV) (K : Exit → AS → Prop) : Prop := condK v (awp C n a K ⟨ofT l, ofL m⟩) (awp C n b K ⟨ofT l, ofL m⟩)
theorem condA_true {a b : Code} : condA C n a b l m (.av (.lit (.bool true))) K = awp C n a K ⟨ofT l, ofL m⟩ := condK_true _ _
theorem condA_false {a b : Code} : condA C n a b l m (.av (.lit (.bool false))) K = awp C n b K ⟨ofT l, ofL m⟩ := condK_false _ _
theorem condA_mk {a b : Code} {x : Bool} (h1 : x = true → awp C n a K ⟨ofT l, ofL m⟩) (h2 : x = false → awp C n b K ⟨ofT l, ofL m⟩) : condA C n a b l m (.av (.lit (.bool x))) K := condK_mk h1 h2
theorem condA_congr {a b : Code} {v v' : TV} {l' : List (Nat × Option TV)} {m' : List (Nat × List AV)} (h1 : l = l') (h2 : m = m') (h3 : v = v') : condA C n a b l m v K = condA C n a b l' m' v' K := by rw [h1, h2, h3]
theorem awp_cond (c : Operand) (a b : Code) : awp C n (.cond c a b) K ⟨ofT l, ofL m⟩ = onSome (getL l c) (fun v => condA C n a b l m v K) := by
  show (∃ t, AS.get _ _ = _ ∧ _) = _
  simp only [get_of, onSome, condA, condK]
  apply propext
  constructor
  · rintro ⟨t, h1, h2⟩; exact ⟨_, h1, t, rfl, h2⟩
  · rintro ⟨_, h1, t, rfl, h2⟩; exact ⟨t, h1, h2⟩
theorem loop_mk {c : Code} {α : Type} (L : α → List (Nat × Option TV)) (M : α → List (Nat × List AV)) (μ : α → Nat) (x : α) {σ : AS} (h0 : leL σ (L x) (M x)) (h : ∀ x, awp C n c (roundK L M μ x K) ⟨ofT (L x), ofL (M x)⟩) : awp C n (.loop c) K σ := awp_loop L M μ x h0 h
end
theorem binK_add {b : Bool} {k : IntKind} {x y : Int} {K : Value → Prop} : binK b .add (.int k x) (.int k y) K = K (.int k (k.wrap (x + y))) := by simp [binK, binR]
theorem binK_sub {b : Bool} {k : IntKind} {x y : Int} {K : Value → Prop} : binK b .sub (.int k x) (.int k y) K = K (.int k (k.wrap (x - y))) := by simp [binK, binR]
theorem binK_mul {b : Bool} {k : IntKind} {x y : Int} {K : Value → Prop} : binK b .mul (.int k x) (.int k y) K = K (.int k (k.wrap (x * y))) := by simp [binK, binR]
theorem binK_quo {b : Bool} {k : IntKind} {x y : Int} {K : Value → Prop} : binK b .quo (.int k x) (.int k y) K = (y ≠ 0 ∧ K (.int k (k.wrap (x.tdiv y)))) := by simp [binK, binR, and_assoc]
theorem binK_rem {b : Bool} {k : IntKind} {x y : Int} {K : Value → Prop} : binK b .rem (.int k x) (.int k y) K = (y ≠ 0 ∧ K (.int k (x.tmod y))) := by simp [binK, binR, and_assoc]
theorem binK_shl {b : Bool} {k k' : IntKind} {x y : Int} {K : Value → Prop} : binK b .shl (.int k x) (.int k' y) K = (0 ≤ y ∧ K (.int k (k.wrap (x * 2 ^ (min y.toNat k.bits))))) := by simp [binK, binR, and_assoc]
theorem binK_shr {b : Bool} {k k' : IntKind} {x y : Int} {K : Value → Prop} : binK b .shr (.int k x) (.int k' y) K = (0 ≤ y ∧ K (.int k (x.fdiv (2 ^ (min y.toNat k.bits))))) := by simp [binK, binR, and_assoc]
theorem binK_eql {b : Bool} {k : IntKind} {x y : Int} {K : Value → Prop} : binK b .eql (.int k x) (.int k y) K = K (.bool (x == y)) := by simp [binK, binR]
theorem binK_neq {b : Bool} {k : IntKind} {x y : Int} {K : Value → Prop} : binK b .neq (.int k x) (.int k y) K = K (.bool (x != y)) := by simp [binK, binR]
theorem binK_lss {b : Bool} {k : IntKind} {x y : Int} {K : Value → Prop} : binK b .lss (.int k x) (.int k y) K = K (.bool (decide (x < y))) := by simp [binK, binR]
theorem binK_leq {b : Bool} {k : IntKind} {x y : Int} {K : Value → Prop} : binK b .leq (.int k x) (.int k y) K = K (.bool (decide (x ≤ y))) := by simp [binK, binR]
theorem binK_gtr {b : Bool} {k : IntKind} {x y : Int} {K : Value → Prop} : binK b .gtr (.int k x) (.int k y) K = K (.bool (decide (y < x))) := by simp [binK, binR]
theorem binK_geq {b : Bool} {k : IntKind} {x y : Int} {K : Value → Prop} : binK b .geq (.int k x) (.int k y) K = K (.bool (decide (y ≤ x))) := by simp [binK, binR]
theorem binK_sadd {b : Bool} {x y : ByteArray} {K : Value → Prop} : binK b .add (.string x) (.string y) K = (((x.size + y.size : Nat) : Int) ≤ 9223372036854775807 ∧ K (.string (x ++ y))) := by simp only [binK, binR]; exact propext ⟨fun ⟨r, ⟨h1, h2⟩, h3⟩ => ⟨h1, h2 ▸ h3⟩, fun ⟨h1, h2⟩ => ⟨_, ⟨h1, rfl⟩, h2⟩⟩
theorem binK_seql {b : Bool} {x y : ByteArray} {K : Value → Prop} : binK b .eql (.string x) (.string y) K = K (.bool (x.toList == y.toList)) := by simp [binK, binR]
theorem binK_sneq {b : Bool} {x y : ByteArray} {K : Value → Prop} : binK b .neq (.string x) (.string y) K = K (.bool (!(x.toList == y.toList))) := by simp [binK, binR]
theorem binK_beql {x y : Bool} {K : Value → Prop} : binK true .eql (.bool x) (.bool y) K = K (.bool (x == y)) := by simp [binK, binR]
theorem binK_bneq {x y : Bool} {K : Value → Prop} : binK true .neq (.bool x) (.bool y) K = K (.bool (!(x == y))) := by simp [binK, binR]
theorem unK_not {b : Bool} {K : Value → Prop} : unK .not (.bool b) K = K (.bool (!b)) := by simp [unK, unR]
theorem unK_neg {k : IntKind} {x : Int} {K : Value → Prop} : unK .neg (.int k x) K = K (.int k (k.wrap (0 - x))) := by simp [unK, unR]
theorem binK_congr {b b' : Bool} {op : BinOp} {x y x' y' : Value} {K : Value → Prop} (h0 : b = b') (h1 : x = x') (h2 : y = y') : binK b op x y K = binK b' op x' y' K := by rw [h0, h1, h2]
theorem unK_congr {op : UnOp} {x x' : Value} {K : Value → Prop} (h1 : x = x') : unK op x K = unK op x' K := by rw [h1]
theorem elemK_congr {i : TI} {v u v' u' : TV} {K : AV → Prop} (h1 : v = v') (h2 : u = u') : elemK i v u K = elemK i v' u' K := by rw [h1, h2]
theorem strK_congr {v u v' u' : TV} {K : UInt8 → Prop} (h1 : v = v') (h2 : u = u') : strK v u K = strK v' u' K := by rw [h1, h2]
theorem lenK_congr {i : TI} {v v' : TV} {K : Nat → Prop} (h1 : v = v') : lenK i v K = lenK i v' K := by rw [h1]
theorem convK_congr {i : TI} {v v' : TV} {K : Value → Prop} (h1 : v = v') : convK i v K = convK i v' K := by rw [h1]
theorem sliceK_congr {i : TI} {v v' : TV} {lo hi lo' hi' : Option TV} {K : AV → Prop} (h1 : v = v') (h2 : lo = lo') (h3 : hi = hi') : sliceK i v lo hi K = sliceK i v' lo' hi' K := by rw [h1, h2, h3]
theorem rowK_congr {C : Ctx} {e k n : Nat} {lm : Bool} {cs cs' : List AV} {K : AV → Prop} (h1 : cs = cs') : rowK C e k n lm cs K = rowK C e k n lm cs' K := by rw [h1]
theorem rowK_limbs {C : Ctx} {e n : Nat} {cs : List AV} {K : AV → Prop} : rowK C e 1 n true cs K = (cs.all AV.one = true ∧ ∃ ns, natsR cs ns ∧ K (.nat ns)) := by simp [rowK]
theorem rowK_row {C : Ctx} {e k n : Nat} {cs : List AV} {K : AV → Prop} : rowK C e k n false cs K = (cs.all AV.one = true ∧ K (.sl k (chunk k n cs))) := rfl
theorem start_of (args : List AV) : start args = ⟨ofT (startL 0 args), ofL []⟩ := rfl
theorem startL_nil (k : Nat) : startL k [] = [] := rfl
theorem startL_cons (k : Nat) (a : AV) (l : List AV) : startL k (a :: l) = (k, some (.av a)) :: startL (k + 1) l := rfl
end Go.Proofs.YtnifjdhjimjihaaGreatDoor
/- The engine, part S: the end of a function. -/
namespace Go.Proofs.YtnifjdhjimjihaaGreatDoor
open Go.RowKit Lim

def resK (C : Ctx) (l : List (Nat × Option TV)) (m : List (Nat × List AV)) : List ResultVar → List TypeId → (List AV → Prop) → Prop
  | [], _, k => k []
  | .tmp t :: rs, tys, k => onSome (ofT l t) (fun v => avK v (fun a => resK C l m rs tys.tail (fun r => k (normA C.T (tys.headD 0) a :: r))))
  | .cell t ty :: rs, tys, k => onSome (ofT l t) (fun v => onSome (lookL m v) (fun cs => onSome (C.T ty) (fun i => onSome (takeA i cs) (fun a => resK C l m rs tys.tail (fun r => k (a :: r))))))
theorem resK_sound {C : Ctx} {l : List (Nat × Option TV)} {m : List (Nat × List AV)} : ∀ (rs : List ResultVar) (tys : List TypeId) (k : List AV → Prop), resK C l m rs tys k → ∃ r, resL C ⟨ofT l, ofL m⟩ rs tys = some r ∧ k r
  | [], tys, k, h => ⟨[], rfl, h⟩
  | .tmp t :: rs, tys, k, h => by
    obtain ⟨v, h1, a, rfl, h2⟩ := h
    obtain ⟨r, h3, h4⟩ := resK_sound rs tys.tail _ h2
    refine ⟨_, ?_, h4⟩
    simp only [resL, resA, h1, h3]
  | .cell t ty :: rs, tys, k, h => by
    obtain ⟨v, h1, cs, h2, i, h5, a, h6, h7⟩ := h
    obtain ⟨r, h3, h4⟩ := resK_sound rs tys.tail _ h7
    refine ⟨_, ?_, h4⟩
    have h8 : AS.look ⟨ofT l, ofL m⟩ (ofT l t) = some cs := by rw [h1, look_of]; exact h2
    simp only [resL, resA, h3, h5, h8, h6]
theorem resK_nil {C : Ctx} {l : List (Nat × Option TV)} {m : List (Nat × List AV)} {tys : List TypeId} {k : List AV → Prop} : resK C l m [] tys k = k [] := rfl
theorem resK_tmp {C : Ctx} {l : List (Nat × Option TV)} {m : List (Nat × List AV)} {t : Nat} {rs : List ResultVar} {tys : List TypeId} {k : List AV → Prop} : resK C l m (.tmp t :: rs) tys k = onSome (ofT l t) (fun v => avK v (fun a => resK C l m rs tys.tail (fun r => k (normA C.T (tys.headD 0) a :: r)))) := rfl
theorem resK_cell {C : Ctx} {l : List (Nat × Option TV)} {m : List (Nat × List AV)} {t : Nat} {ty : TypeId} {rs : List ResultVar} {tys : List TypeId} {k : List AV → Prop} : resK C l m (.cell t ty :: rs) tys k = onSome (ofT l t) (fun v => onSome (lookL m v) (fun cs => onSome (C.T ty) (fun i => onSome (takeA i cs) (fun a => resK C l m rs tys.tail (fun r => k (a :: r)))))) := rfl
theorem resK_congr {C : Ctx} {l l' : List (Nat × Option TV)} {m m' : List (Nat × List AV)} {rs : List ResultVar} {tys : List TypeId} {k : List AV → Prop} (h1 : l = l') (h2 : m = m') : resK C l m rs tys k = resK C l' m' rs tys k := by rw [h1, h2]
/-- The end of a function, with its results written out. -/
def endK (C : Ctx) (rs : List ResultVar) (tys : List TypeId) (r : AV) : Exit → AS → Prop := fun e σ => (e = .ret ∨ e = .normal) ∧ ∃ l, resL C σ rs tys = some l ∧ packA l = r
theorem endK_congr {C : Ctx} {rs : List ResultVar} {tys : List TypeId} {r r' : AV} {e : Exit} {σ σ' : AS} (h1 : σ = σ') (h2 : r = r') : endK C rs tys r e σ = endK C rs tys r' e σ' := by rw [h1, h2]
theorem endK_ret {C : Ctx} {rs : List ResultVar} {tys : List TypeId} {r : AV} {l : List (Nat × Option TV)} {m : List (Nat × List AV)} (h : resK C l m rs tys (fun x => packA x = r)) : endK C rs tys r .ret ⟨ofT l, ofL m⟩ := ⟨.inl rfl, resK_sound rs tys _ h⟩
theorem endK_end {C : Ctx} {rs : List ResultVar} {tys : List TypeId} {r : AV} {l : List (Nat × Option TV)} {m : List (Nat × List AV)} (h : resK C l m rs tys (fun x => packA x = r)) : endK C rs tys r .normal ⟨ofT l, ofL m⟩ := ⟨.inr rfl, resK_sound rs tys _ h⟩
theorem resK_conv {C : Ctx} {l : List (Nat × Option TV)} {m : List (Nat × List AV)} : ∀ (rs : List ResultVar) (tys : List TypeId) (k : List AV → Prop) (r : List AV), resL C ⟨ofT l, ofL m⟩ rs tys = some r → k r → resK C l m rs tys k
  | [], tys, k, r, h, hk => by cases h; exact hk
  | .tmp t :: rs, tys, k, r, h, hk => by
    simp only [resL] at h
    split at h
    · rename_i a r' h1 h2
      cases h
      simp only [resA] at h1
      split at h1
      · rename_i b hb
        cases h1
        exact ⟨_, hb, b, rfl, resK_conv rs tys.tail _ r' h2 hk⟩
      · cases h1
    · cases h
  | .cell t ty :: rs, tys, k, r, h, hk => by
    simp only [resL] at h
    split at h
    · rename_i a r' h1 h2
      cases h
      simp only [resA] at h1
      split at h1
      · rename_i i cs h3 h4
        cases hx : ofT l t with
        | none => rw [hx] at h4; cases h4
        | some y =>
          rw [hx, look_of] at h4
          exact ⟨y, hx, cs, h4, i, h3, a, h1, resK_conv rs tys.tail _ r' h2 hk⟩
      · cases h1
    · cases h
theorem endK_eq {C : Ctx} {rs : List ResultVar} {tys : List TypeId} {r : AV} {l : List (Nat × Option TV)} {m : List (Nat × List AV)} : endK C rs tys r .ret ⟨ofT l, ofL m⟩ = resK C l m rs tys (fun x => packA x = r) := by
  apply propext
  constructor
  · rintro ⟨_, x, h1, h2⟩
    exact resK_conv rs tys _ x h1 h2
  · exact endK_ret
theorem endK_eqN {C : Ctx} {rs : List ResultVar} {tys : List TypeId} {r : AV} {l : List (Nat × Option TV)} {m : List (Nat × List AV)} : endK C rs tys r .normal ⟨ofT l, ofL m⟩ = resK C l m rs tys (fun x => packA x = r) := by
  apply propext
  constructor
  · rintro ⟨_, x, h1, h2⟩
    exact resK_conv rs tys _ x h1 h2
  · exact endK_end
theorem ACalls.of {C : Ctx} {f : FuncId} {fn : Func} {c : Code} {rs : List ResultVar} {tys : List TypeId} {args : List AV} {r : AV} (n : Nat) (hf : C.P.funcs[f]? = some fn) (hb : fn.body = some c) (hrs : fn.results = List.toArray rs) (hrt : fn.resultTypes = List.toArray tys) (hnm : (fn.name == "runtime.NumGoroutine") = false) (hok : codeOK fn.ntmps c = true) (hl : args.length ≤ fn.ntmps)
    (h : awp C n c (endK C rs tys r) (start args)) : ACalls C f args r := by
  refine ACalls.of_awp n hf hb hnm hok hl ?_
  have : endK C rs tys r = retA C fn r := by
    unfold endK retA
    rw [hrs, hrt]
  rw [← this]
  exact h
theorem normA_nat (T : TyTab) (ty : TypeId) (l : List Nat) : normA T ty (.nat l) = .nat l := rfl
theorem normA_sl (T : TyTab) (ty : TypeId) (k : Nat) (l : List AV) : normA T ty (.sl k l) = .sl k l := rfl
theorem normA_agg (T : TyTab) (ty : TypeId) (l : List AV) : normA T ty (.agg l) = .agg l := rfl
theorem normA_tup (T : TyTab) (ty : TypeId) (l : List AV) : normA T ty (.tup l) = .tup l := rfl
theorem normA_int (T : TyTab) (ty : TypeId) (k : IntKind) (n : Int) : normA T ty (.lit (.int k n)) = .lit (.int k n) := rfl
theorem normA_bool (T : TyTab) (ty : TypeId) (b : Bool) : normA T ty (.lit (.bool b)) = .lit (.bool b) := rfl
theorem normA_str (T : TyTab) (ty : TypeId) (b : ByteArray) : normA T ty (.lit (.string b)) = .lit (.string b) := rfl
theorem normA_nil (T : TyTab) (ty : TypeId) : normA T ty (.lit (.slice none 0 0)) = (match T ty with | some ⟨.slc _ k l, _⟩ => (match l with | true => .nat [] | false => .sl k []) | _ => .lit (.slice none 0 0)) := rfl
theorem cells_agg (l : List AV) : AV.cells (.agg l) = l := rfl
theorem cells_lit (v : Value) : AV.cells (.lit v) = [.lit v] := rfl
theorem cells_nat (l : List Nat) : AV.cells (.nat l) = [.nat l] := rfl
theorem cells_sl (k : Nat) (l : List AV) : AV.cells (.sl k l) = [.sl k l] := rfl
theorem cells_tup (l : List AV) : AV.cells (.tup l) = [.tup l] := rfl
theorem one_lit (v : Value) : AV.one (.lit v) = true := rfl
theorem one_nat (l : List Nat) : AV.one (.nat l) = true := rfl
theorem one_sl (k : Nat) (l : List AV) : AV.one (.sl k l) = true := rfl
theorem noLimb_lit (v : Value) : AV.noLimb (.lit v) = Go.Proofs.YtnifjdhjimjihaaGreatDoor.noLimb v := rfl
theorem noLimb_nat (l : List Nat) : AV.noLimb (.nat l) = true := rfl
theorem noLimb_sl (k : Nat) (l : List AV) : AV.noLimb (.sl k l) = true := rfl
theorem packA_one (a : AV) : packA [a] = a := rfl
theorem packA_two (a b : AV) (l : List AV) : packA (a :: b :: l) = .tup (a :: b :: l) := rfl
theorem packA_nil : packA [] = .tup [] := rfl
end Go.Proofs.YtnifjdhjimjihaaGreatDoor
/- The engine, part T: who knows more can do as much: cuts. -/
namespace Go.Proofs.YtnifjdhjimjihaaGreatDoor
open Go.RowKit Lim

section
variable {C : Ctx} {σ τ : AS} {ops : Array Oper} {o : Oper}

theorem AS.le.get (h : AS.le τ σ) {x : Operand} {v : TV} (hx : τ.get x = some v) : σ.get x = some v := by
  cases x with
  | tmp t => exact h.1 t v hx
  | const u => exact hx
  | _ => cases hx
theorem fillA_le (h : AS.le τ σ) {T : TyTab} {fs : List (Nat × Nat × TypeId)} : ∀ (parts : List (Nat × Operand)) (cs cs' : List AV), fillA T τ fs cs parts = some cs' → fillA T σ fs cs parts = some cs'
  | [], cs, cs', hh => hh
  | (f, x) :: rest, cs, cs', hh => by
    unfold fillA at hh ⊢
    split at hh
    · rename_i o n t a h1 h2
      rw [h1, h.get h2]
      simp only
      split at hh
      · rename_i hc
        rw [if_pos hc]
        exact fillA_le h rest _ _ hh
      · cases hh
    · cases hh
theorem args_le (h : AS.le τ σ) {T : TyTab} : ∀ (xs : List Operand) (tys : List TypeId) (as' : List AV), τ.args T xs tys = some as' → σ.args T xs tys = some as'
  | [], _, _, hh => hh
  | x :: xs, tys, as', hh => by
    unfold AS.args at hh ⊢
    split at hh
    · rename_i a ha
      rw [h.get ha]
      simp only
      simp only [Option.map_eq_some_iff] at hh ⊢
      obtain ⟨l, h1, h2⟩ := hh
      exact ⟨l, args_le h xs _ l h1, h2⟩
    · cases hh
theorem look_le (h : AS.le τ σ) {x : Operand} {cs : List AV} (hh : τ.look (τ.get x) = some cs) : σ.look (σ.get x) = some cs := by
  cases hx : τ.get x with
  | none => rw [hx] at hh; cases hh
  | some y =>
    rw [hx] at hh
    rw [h.get hx]
    cases y with
    | ref t off =>
      simp only [AS.look, Option.map_eq_some_iff] at hh ⊢
      obtain ⟨c, h1, h2⟩ := hh
      exact ⟨c, h.2 t c h1, h2⟩
    | ptr c => exact hh
    | _ => cases hh
theorem optGet_le (h : AS.le τ σ) {x : Option Operand} {y : Option TV} (hh : optGet τ x = some y) : optGet σ x = some y := by
  cases x with
  | none => exact hh
  | some z =>
    simp only [optGet, Option.map_eq_some_iff] at hh ⊢
    obtain ⟨v, h1, h2⟩ := hh
    exact ⟨v, h.get h1, h2⟩
set_option maxHeartbeats 1000000 in
theorem aval_le (h : AS.le τ σ) {v : TV} (hv : aval C τ o v) : aval C σ o v := by
  obtain ⟨dst, op, type, pos, after, guard⟩ := o
  cases op with
  | move x => exact h.get hv
  | assign x => exact h.get hv
  | pick c x y => obtain ⟨t, q1, q2⟩ := hv; exact ⟨t, h.get q1, h.get q2⟩
  | load ty x => obtain ⟨i, cs, a, q1, q2, q3⟩ := hv; exact ⟨i, cs, a, q1, look_le h q2, q3⟩
  | fieldAddr ty x f =>
    obtain ⟨fs, z, o, n, t, q1, q2, q3⟩ := hv
    refine ⟨fs, z, o, n, t, q1, q2, ?_⟩
    cases hx : τ.get x with
    | none => rw [hx] at q3; cases q3
    | some y => rw [hx] at q3; rw [h.get hx]; exact q3
  | field ty x f => obtain ⟨fs, z, o, n, t, cs, i, a, q1, q2, q3, q4⟩ := hv; exact ⟨fs, z, o, n, t, cs, i, a, q1, q2, h.get q3, q4⟩
  | extract x i => obtain ⟨vs, a, q1, q2⟩ := hv; exact ⟨vs, a, h.get q1, q2⟩
  | indexAddr ty x ix => obtain ⟨e0, k, l, z, s, q, n, e, q1, q2, q3, q4⟩ := hv; exact ⟨e0, k, l, z, s, q, n, e, q1, h.get q2, h.get q3, q4⟩
  | index ty x ix => obtain ⟨z, s, q, n, b, q1, q2, q3, q4⟩ := hv; exact ⟨z, s, q, n, b, q1, h.get q2, h.get q3, q4⟩
  | binOp b ty x y yt => obtain ⟨a, c, r, q1, q2, q3⟩ := hv; exact ⟨a, c, r, h.get q1, h.get q2, q3⟩
  | unOp b xt x => obtain ⟨a, r, q1, q2⟩ := hv; exact ⟨a, r, h.get q1, q2⟩
  | convert src dst x => obtain ⟨i, j, k, z, m, n, q1, q2, q3, q4, q5⟩ := hv; exact ⟨i, j, k, z, m, n, q1, q2, q3, h.get q4, q5⟩
  | build ty parts => obtain ⟨fs, z, cs, q1, q2, q3⟩ := hv; exact ⟨fs, z, cs, q1, fillA_le h _ _ _ q2, q3⟩
  | slice ty x lo hi mx =>
    cases mx with
    | some m => exact hv.elim
    | none =>
      obtain ⟨i, lo', hi', q1, q2, q3, q4⟩ := hv
      refine ⟨i, lo', hi', q1, optGet_le h q2, optGet_le h q3, ?_⟩
      cases hx : τ.get x with
      | none =>
        rw [hx] at q4
        split at q4 <;> rename_i heq <;> first | cases heq | exact q4.elim
      | some y => rw [hx] at q4; rw [h.get hx]; exact q4
  | nilCheck x =>
    simp only [aval] at hv ⊢
    cases hx : τ.get x with
    | none => rw [hx] at hv; exact hv.elim
    | some y => rw [hx] at hv; rw [h.get hx]; exact hv
  | call c =>
    simp only [aval] at hv ⊢
    split at hv
    · obtain ⟨x, ty, i, q1, q2, q3, q4⟩ := hv
      refine ⟨x, ty, i, q1, q2, q3, ?_⟩
      cases hx : τ.get x with
      | none =>
        rw [hx] at q4
        split at q4 <;> rename_i heq <;> first | cases heq | exact q4.elim
      | some y => rw [hx] at q4; rw [h.get hx]; exact q4
    · exact hv.elim
  | _ => exact hv.elim
theorem wantedA_le (h : AS.le τ σ) {b : Bool} (hw : wantedA ops τ o = some b) : wantedA ops σ o = some b := by
  unfold wantedA at hw ⊢
  cases hg : o.guard with
  | none => rw [hg] at hw; exact hw
  | some p =>
    obtain ⟨j, want⟩ := p
    rw [hg] at hw
    simp only at hw ⊢
    cases hj : (ops[j]?).bind (·.dst) with
    | none => rw [hj] at hw; cases hw
    | some t =>
      rw [hj] at hw
      simp only at hw ⊢
      cases ht : τ.tm t with
      | none => rw [ht] at hw; cases hw
      | some y => rw [ht] at hw; rw [h.1 t y ht]; exact hw
theorem put_le (h : AS.le τ σ) (d : Option Nat) (v : TV) : AS.le (τ.put d v) (σ.put d v) := by
  cases d with
  | none => exact h
  | some t =>
    refine ⟨fun x u hx => ?_, h.2⟩
    simp only [AS.put, upd] at hx ⊢
    split at hx
    · rename_i e; rw [if_pos e]; exact hx
    · rename_i e; rw [if_neg e]; exact h.1 x u hx
theorem new_le (h : AS.le τ σ) (t : Nat) (cs : List AV) : AS.le (τ.new t cs) (σ.new t cs) := by
  refine ⟨fun x u hx => ?_, fun x u hx => ?_⟩
  · simp only [AS.new, upd] at hx ⊢
    split at hx
    · rename_i e; rw [if_pos e]; exact hx
    · rename_i e
      rw [if_neg e]
      cases hy : τ.tm x with
      | none => rw [hy] at hx; cases hx
      | some y => rw [hy] at hx; rw [h.1 x y hy]; exact hx
  · simp only [AS.new, upd] at hx ⊢
    split at hx
    · rename_i e; rw [if_pos e]; exact hx
    · rename_i e; rw [if_neg e]; exact h.2 x u hx
theorem setMem_le (h : AS.le τ σ) (t : Nat) (cs : List AV) : AS.le (τ.setMem t cs) (σ.setMem t cs) := by
  refine ⟨h.1, fun x u hx => ?_⟩
  simp only [AS.setMem, upd] at hx ⊢
  split at hx
  · rename_i e; rw [if_pos e]; exact hx
  · rename_i e; rw [if_neg e]; exact h.2 x u hx
theorem astep_le (h : AS.le τ σ) {K K' : AS → Prop} (hK : ∀ τ' σ', AS.le τ' σ' → K τ' → K' σ') (hs : astep C o τ K) : astep C o σ K' := by
  obtain ⟨dst, op, type, pos, after, guard⟩ := o
  have val : (∃ v, aval C τ ⟨dst, op, type, pos, after, guard⟩ v ∧ K (τ.put dst v)) → ∃ v, aval C σ ⟨dst, op, type, pos, after, guard⟩ v ∧ K' (σ.put dst v) := by
    rintro ⟨v, h1, h2⟩
    exact ⟨v, aval_le h h1, hK _ _ (put_le h _ _) h2⟩
  cases op with
  | alloc ty =>
    obtain ⟨t, i, h1, h2, h3, h4, h5⟩ := hs
    exact ⟨t, i, h1, h2, h3, h4, hK _ _ (new_le h _ _) h5⟩
  | box ty x =>
    obtain ⟨t, y, h1, h2, h3, h4, h5⟩ := hs
    exact ⟨t, y, h1, h.get h2, h3, h4, hK _ _ (new_le h _ _) h5⟩
  | store ty x y =>
    obtain ⟨i, t, off, cs, z, h1, h2, h3, h4, h5, h6, h7, h8, h9⟩ := hs
    exact ⟨i, t, off, cs, z, h1, h.get h2, h.2 _ _ h3, h.get h4, h5, h6, h7, h8, hK _ _ (put_le (setMem_le h _ _) _ _) h9⟩
  | buildSlice ty n parts =>
    obtain ⟨e, k, l, z, i, cs, h1, h2, h3, h4, h5, h6, h7, h8⟩ := hs
    refine ⟨e, k, l, z, i, cs, h1, h2, h3, h4, h5, fillA_le h _ _ _ h6, h7, ?_⟩
    cases l with
    | true => obtain ⟨hk, ns, h8, h9⟩ := h8; exact ⟨hk, ns, h8, hK _ _ (put_le h _ _) h9⟩
    | false => exact hK _ _ (put_le h _ _) h8
  | call c =>
    simp only [astep] at hs ⊢
    obtain ⟨callee, cargs, ctys⟩ := c
    cases callee with
    | value f =>
      cases f with
      | func f =>
        obtain ⟨args, r, h1, h2, h3⟩ := hs
        exact ⟨args, r, args_le h _ _ _ h1, h2, hK _ _ (put_le h _ _) h3⟩
      | _ => exact val hs
    | _ => exact val hs
  | _ => exact val hs
theorem arun_le {K K' : AS → Prop} (hK : ∀ τ' σ', AS.le τ' σ' → K τ' → K' σ') : ∀ (os : List Oper) (τ σ : AS), AS.le τ σ → arun C ops os τ K → arun C ops os σ K'
  | [], τ, σ, h, hr => hK τ σ h hr
  | o :: os, τ, σ, h, hr => by
    obtain ⟨b, h1, h2, h3⟩ := hr
    refine ⟨b, wantedA_le h h1, fun hb => ?_, fun hb => ?_⟩
    · exact astep_le h (fun τ' σ' hle hk => arun_le hK os τ' σ' hle hk) (h2 hb)
    · exact arun_le hK os _ _ (put_le h _ _) (h3 hb)
theorem le_refl (σ : AS) : AS.le σ σ := ⟨fun _ _ h => h, fun _ _ h => h⟩
theorem le_trans {a b c : AS} (h : AS.le a b) (k : AS.le b c) : AS.le a c := ⟨fun x v hx => k.1 x v (h.1 x v hx), fun x v hx => k.2 x v (h.2 x v hx)⟩
theorem prep_mono {n : Nat} {d : Bool} (h : AS.le τ σ) : AS.le (prep n d ops τ) (prep n d ops σ) := by
  refine ⟨fun x v hx => ?_, h.2⟩
  simp only [prep] at hx ⊢
  split at hx
  · rename_i e
    rw [if_pos e]
    cases hy : τ.tm x with
    | none => rw [hy] at hx; cases hx
    | some y => rw [hy] at hx; rw [h.1 x y hy]; exact hx
  · cases hx
theorem awp_le {n : Nat} (c : Code) : ∀ (K K' : Exit → AS → Prop), (∀ e τ' σ', AS.le τ' σ' → K e τ' → K' e σ') → ∀ (τ σ : AS), AS.le τ σ → awp C n c K τ → awp C n c K' σ := by
  induction c with
  | skip => intro K K' hK τ σ h hw; exact hK _ _ _ h hw
  | region id ops d => intro K K' hK τ σ h hw; exact arun_le (fun τ' σ' hle hk => hK _ _ _ hle hk) _ _ _ (prep_mono h) hw
  | seq a b iha ihb =>
    intro K K' hK τ σ h hw
    refine iha _ _ (fun e τ' σ' hle hk => ?_) τ σ h hw
    cases e with
    | normal => exact ihb K K' hK τ' σ' hle hk
    | _ => exact hK _ _ _ hle hk
  | cond c a b iha ihb =>
    intro K K' hK τ σ h hw
    obtain ⟨t, h1, h2, h3⟩ := hw
    exact ⟨t, h.get h1, fun ht => iha K K' hK τ σ h (h2 ht), fun ht => ihb K K' hK τ σ h (h3 ht)⟩
  | block id c ih =>
    intro K K' hK τ σ h hw
    refine ih _ _ (fun e τ' σ' hle hk => ?_) τ σ h hw
    cases e with
    | exit i =>
      simp only at hk ⊢
      split
      · rename_i hi; rw [if_pos hi] at hk; exact hK _ _ _ hle hk
      · rename_i hi; rw [if_neg hi] at hk; exact hK _ _ _ hle hk
    | _ => exact hK _ _ _ hle hk
  | loop c ih =>
    intro K K' hK τ σ h hw
    obtain ⟨α, I, μ, x, h1, h2⟩ := hw
    refine ⟨α, I, μ, x, le_trans h1 h, fun x => ih _ _ (fun e τ' σ' hle hk => ?_) _ _ (le_refl _) (h2 x)⟩
    cases e with
    | normal =>
      obtain ⟨x', h3, h4⟩ := hk
      exact ⟨x', le_trans h3 hle, h4⟩
    | _ => exact hK _ _ _ hle hk
  | exit id => intro K K' hK τ σ h hw; exact hK _ _ _ h hw
  | ret => intro K K' hK τ σ h hw; exact hK _ _ _ h hw
  | label l => intro K K' hK τ σ h hw; exact hK _ _ _ h hw
  | _ => intro K K' hK τ σ h hw; exact hw.elim
end
/-- A post that does not mind more knowledge. -/
def MonoK (K : Exit → AS → Prop) : Prop := ∀ e τ σ, AS.le τ σ → K e τ → K e σ
theorem monoK_then {C : Ctx} {n : Nat} {b : Code} {K : Exit → AS → Prop} (h : MonoK K) : MonoK (thenK C n b K) := fun e τ σ hle hk => by
  cases e with
  | normal => exact awp_le b K K h τ σ hle hk
  | _ => exact h _ _ _ hle hk
theorem monoK_block {id : Nat} {K : Exit → AS → Prop} (h : MonoK K) : MonoK (blockK id K) := fun e τ σ hle hk => by
  cases e with
  | exit i =>
    simp only [blockK] at hk ⊢
    split
    · rename_i hi; rw [if_pos hi] at hk; exact h _ _ _ hle hk
    · rename_i hi; rw [if_neg hi] at hk; exact h _ _ _ hle hk
  | _ => exact h _ _ _ hle hk
theorem leT_mono {τ σ : AS} (h : AS.le τ σ) : ∀ l : List (Nat × Option TV), leT τ.tm l → leT σ.tm l
  | [], _ => trivial
  | (_, some _) :: l, hh => ⟨h.1 _ _ hh.1, leT_mono h l hh.2⟩
  | (_, none) :: l, hh => leT_mono h l hh
theorem leM_mono {τ σ : AS} (h : AS.le τ σ) : ∀ l : List (Nat × List AV), leM τ.mem l → leM σ.mem l
  | [], _ => trivial
  | (_, _) :: l, hh => ⟨h.2 _ _ hh.1, leM_mono h l hh.2⟩
theorem monoK_round {α : Type} {L : α → List (Nat × Option TV)} {M : α → List (Nat × List AV)} {μ : α → Nat} {x : α} {K : Exit → AS → Prop} (h : MonoK K) : MonoK (roundK L M μ x K) := fun e τ σ hle hk => by
  cases e with
  | normal =>
    obtain ⟨x', h1, h2⟩ := hk
    exact ⟨x', ⟨leT_mono hle _ h1.1, leM_mono hle _ h1.2⟩, h2⟩
  | _ => exact h _ _ _ hle hk
theorem resA_le {C : Ctx} {τ σ : AS} (h : AS.le τ σ) {x : ResultVar} {ty : TypeId} {a : AV} (hh : resA C τ x ty = some a) : resA C σ x ty = some a := by
  cases x with
  | tmp t =>
    simp only [resA] at hh ⊢
    cases ht : τ.tm t with
    | none => rw [ht] at hh; cases hh
    | some y => rw [ht] at hh; rw [h.1 t y ht]; exact hh
  | cell t ty' =>
    simp only [resA] at hh ⊢
    split at hh
    · rename_i i cs h1 h2
      have h3 : σ.look (σ.tm t) = some cs := look_le (x := .tmp t) h h2
      rw [h1, h3]
      exact hh
    · cases hh
theorem resL_le {C : Ctx} {τ σ : AS} (h : AS.le τ σ) : ∀ (rs : List ResultVar) (tys : List TypeId) (l : List AV), resL C τ rs tys = some l → resL C σ rs tys = some l
  | [], _, _, hh => hh
  | x :: rs, tys, l, hh => by
    simp only [resL] at hh ⊢
    split at hh
    · rename_i a l' h1 h2
      rw [resA_le h h1, resL_le h rs _ l' h2]
      exact hh
    · cases hh
theorem monoK_end {C : Ctx} {rs : List ResultVar} {tys : List TypeId} {r : AV} : MonoK (endK C rs tys r) := fun e τ σ hle ⟨h1, l, h2, h3⟩ => ⟨h1, l, resL_le hle rs tys l h2, h3⟩
/-- What is kept at a cut. -/
def cutE (L : List (Nat × Option TV)) (M : List (Nat × List AV)) (K : Exit → AS → Prop) : Exit → AS → Prop := fun e σ => match e with | .normal => leL σ L M | e => K e σ
theorem cutE_normal {L : List (Nat × Option TV)} {M : List (Nat × List AV)} {K : Exit → AS → Prop} {σ : AS} : cutE L M K .normal σ = leL σ L M := rfl
theorem cutE_ret {L : List (Nat × Option TV)} {M : List (Nat × List AV)} {K : Exit → AS → Prop} {σ : AS} : cutE L M K .ret σ = K .ret σ := rfl
theorem cutE_exit {L : List (Nat × Option TV)} {M : List (Nat × List AV)} {K : Exit → AS → Prop} {σ : AS} {i : Nat} : cutE L M K (.exit i) σ = K (.exit i) σ := rfl
theorem leL_of (l : List (Nat × Option TV)) (m : List (Nat × List AV)) (L : List (Nat × Option TV)) (M : List (Nat × List AV)) : leL ⟨ofT l, ofL m⟩ L M = (leT (ofT l) L ∧ leM (ofL m) M) := rfl
theorem leT_nil (f : Nat → Option TV) : leT f [] = True := rfl
theorem leT_some (f : Nat → Option TV) (k : Nat) (v : TV) (l : List (Nat × Option TV)) : leT f ((k, some v) :: l) = (f k = some v ∧ leT f l) := rfl
theorem leT_none (f : Nat → Option TV) (k : Nat) (l : List (Nat × Option TV)) : leT f ((k, none) :: l) = leT f l := rfl
theorem leM_nil (f : Nat → Option (List AV)) : leM f [] = True := rfl
theorem leM_cons (f : Nat → Option (List AV)) (k : Nat) (v : List AV) (l : List (Nat × List AV)) : leM f ((k, v) :: l) = (f k = some v ∧ leM f l) := rfl
/-- **A cut**: of the state that the first statement reaches, this much is kept. -/
theorem seq_cut {C : Ctx} {n : Nat} {a b : Code} {K : Exit → AS → Prop} {σ : AS} (hK : MonoK K) (L : List (Nat × Option TV)) (M : List (Nat × List AV)) (h1 : awp C n a (cutE L M K) σ) (h2 : awp C n b K ⟨ofT L, ofL M⟩) : awp C n (.seq a b) K σ := by
  have key : ∀ e τ σ, AS.le τ σ → cutE L M K e τ → thenK C n b K e σ := fun e τ σ hle hk => by
    cases e with
    | normal => exact awp_le b K K hK _ σ (le_trans (leL_le τ L M hk) hle) h2
    | _ => exact hK _ _ _ hle hk
  exact awp_le a (cutE L M K) (thenK C n b K) key σ σ (le_refl σ) h1
end Go.Proofs.YtnifjdhjimjihaaGreatDoor
