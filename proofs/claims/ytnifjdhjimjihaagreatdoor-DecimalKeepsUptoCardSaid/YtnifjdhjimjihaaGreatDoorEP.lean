/- The engine, part M: a region that draws its order; the walk of a function's code. -/
import Derived.Test.YtnifjdhjimjihaaGreatDoorEL
set_option linter.unusedSimpArgs false
set_option linter.unusedVariables false
namespace Go.Proofs.YtnifjdhjimjihaaGreatDoor
open Go.RowKit Lim

section
variable {C : Ctx} {ops : Array Oper} {N : Nat} {ms : Nat} {rt : Nat → Nat} {mv : List Nat} {w0 : World} {Z0 : Zone}

def rest (ops : Array Oper) (listed : Array Bool) : List Nat := (List.range ops.size).filter fun i => !listed.getD i true
theorem mem_rest {listed : Array Bool} {i : Nat} : i ∈ rest ops listed ↔ i < ops.size ∧ listed.getD i true = false := by
  unfold rest
  rw [List.mem_filter, List.mem_range]
  simp
theorem rest_nodup (listed : Array Bool) : (rest ops listed).Nodup := List.nodup_range.filter _
theorem rest_sorted (listed : Array Bool) : (rest ops listed).Pairwise (· < ·) := List.pairwise_lt_range.filter _
theorem rest_step {listed : Array Bool} (hs : listed.size = ops.size) {i : Nat} {pre post : List Nat} (h : rest ops listed = pre ++ i :: post) : rest ops (listed.setIfInBounds i true) = pre ++ post := by
  have hnd := rest_nodup (ops := ops) listed
  have e : rest ops (listed.setIfInBounds i true) = (rest ops listed).filter (fun j => decide (j ≠ i)) := by
    unfold rest
    rw [List.filter_filter]
    apply List.filter_congr
    intro j hj
    rw [List.mem_range] at hj
    by_cases e : j = i
    · subst e
      have : j < listed.size := by omega
      simp [this]
    · simp [e, Array.getElem?_setIfInBounds_ne (Ne.symm e)]
  rw [h] at hnd
  rw [e, h, List.filter_append, List.filter_cons]
  have h1 : pre.filter (fun j => decide (j ≠ i)) = pre := List.filter_eq_self.2 fun j hj => by
    simp
    rintro rfl
    exact (List.nodup_append.1 hnd).2.2 j hj j (by simp) rfl
  have h2 : post.filter (fun j => decide (j ≠ i)) = post := List.filter_eq_self.2 fun j hj => by
    simp
    rintro rfl
    have := (List.nodup_append.1 hnd).2.1
    simp at this
    exact this.1 hj
  rw [h1, h2]
  simp
/-- In whatever order. -/
theorem wpAny_of_arun (hf : Fine ops N ms rt mv) (hE : C.E w0) (hz0 : ∀ b o, Z0 b o → b < w0.heap.size) {K : AS → Prop} {Q : Exit → Act → World → Prop} (hK : ∀ σ a w, K σ → Sim w0 Z0 N σ a w → Q .normal a w) :
    ∀ (fuel : Nat) (listed : Array Bool) (σ : AS) (a : Act) (w : World), listed.size = ops.size → (rest ops listed).length ≤ fuel →
      (∀ k, k < ops.size → listed.getD k true = true → ∀ j, j < 128 → ms.testBit (128 * k + j) = true → listed.getD j false = true) →
      PendL ops σ (rest ops listed) → Rooted rt mv σ → Sim w0 Z0 N σ a w → arunI C ops (rest ops listed) σ K → wpAny C.P .any ops Q fuel listed a w := by
  intro fuel
  have hnil : ∀ (listed : Array Bool), listed.size = ops.size → Region.ready .any ops listed = [] → rest ops listed = [] := by
    intro listed hs hr
    cases hl : rest ops listed with
    | nil => rfl
    | cons m l =>
      have hm : m ∈ rest ops listed := by rw [hl]; simp
      obtain ⟨m1, m2⟩ := mem_rest.1 hm
      have hlt : ∀ k, k < m → listed.getD k false = true := fun k hk => by
        have hnot : k ∉ rest ops listed := fun hk' => by
          have hsort := rest_sorted (ops := ops) listed
          rw [hl] at hsort hk'
          rcases List.mem_cons.1 hk' with rfl | hk''
          · omega
          · have := (List.pairwise_cons.1 hsort).1 k hk''
            omega
        rw [mem_rest] at hnot
        have hk2 : k < listed.size := by omega
        simp [hk2] at hnot ⊢
        exact hnot (by omega)
      have : m ∈ Region.ready .any ops listed := mem_ready.2 ⟨m2, ops[m], Array.getElem?_eq_getElem m1, fun e he hb => hlt _ (hf.back m _ (Array.getElem?_eq_getElem m1) e he hb)⟩
      rw [hr] at this
      cases this
  induction fuel with
  | zero =>
    intro listed σ a w hs hlen hcl hp hJ S h
    have h0 : rest ops listed = [] := List.eq_nil_of_length_eq_zero (by omega)
    refine ⟨?_, ?_⟩
    · apply List.eq_nil_iff_forall_not_mem.2
      intro i hi
      obtain ⟨h1, o, ho, _⟩ := mem_ready.1 hi
      have : i ∈ rest ops listed := mem_rest.2 ⟨(Array.getElem?_eq_some_iff.1 ho).1, h1⟩
      rw [h0] at this
      cases this
    · rw [h0] at h
      exact hK σ a w h S
  | succ fuel ih =>
    intro listed σ a w hs hlen hcl hp hJ S h
    refine ⟨fun hr => ?_, fun i hi => ?_⟩
    · rw [hnil listed hs hr] at h
      exact hK σ a w h S
    · obtain ⟨h1, oi, hoi, hedges⟩ := mem_ready.1 hi
      have hil : i < ops.size := (Array.getElem?_eq_some_iff.1 hoi).1
      have him : i ∈ rest ops listed := mem_rest.2 ⟨hil, h1⟩
      obtain ⟨pre, post, hsplit⟩ := List.append_of_mem him
      have hanc : ∀ j, j < 128 → ms.testBit (128 * i + j) = true → listed.getD j false = true := fun j hj0 hj => by
        rw [← chunk_bit _ _ _ hj0, hf.mask i oi hoi] at hj
        rcases mask_bit ms j hj0 oi.after.toList 0 hj with h2 | ⟨e, he, hb, h2⟩
        · simp at h2
        · have he' := hedges e (by simpa using he) hb
          rcases h2 with rfl | h2
          · exact he'
          · have hlt := hf.back i oi hoi e (by simpa using he) hb
            refine hcl e.on (by omega) ?_ j hj0 h2
            have : e.on < listed.size := by omega
            simp [this] at he' ⊢
            exact he'
      have hind : ∀ j ∈ pre, ∀ oj, ops[j]? = some oj → indep ops rt oi oj = true := fun j hj oj hoj => by
        have hji : j < i := by
          have hsort := rest_sorted (ops := ops) listed
          rw [hsplit] at hsort
          exact (List.pairwise_append.1 hsort).2.2 j hj i (by simp)
        have hjm : j ∈ rest ops listed := by rw [hsplit]; simp [hj]
        rcases hf.ind i j oi oj hoi hoj hji with h2 | h2
        · have := hanc j (by have := hf.small; omega) h2
          have hj2 := (mem_rest.1 hjm).2
          have hlt : j < listed.size := by omega
          simp [hlt] at this hj2
          rw [this] at hj2
          cases hj2
        · exact h2
      have hnd := rest_nodup (ops := ops) listed
      rw [hsplit] at h hp hnd
      have hrun := arun_front hf hoi pre post σ hind hnd hp hJ h
      obtain ⟨oi', hoi', hrun⟩ := hrun
      rw [hoi] at hoi'
      cases hoi'
      have hrest := rest_step hs hsplit
      have hstep : astepG C ops oi σ (fun σ' => (PendL ops σ' (pre ++ post) ∧ Rooted rt mv σ') ∧ arunI C ops (pre ++ post) σ' K) := by
        obtain ⟨e, g1, g2⟩ := astepG_iff.1 hrun
        refine astepG_iff.2 ⟨e, g1, ⟨PendL.step hf (i := i) ?_ hoi ?_ g1, hJ.step (hp i (by simp) oi hoi) g1 (hf.root i oi hoi)⟩, g2⟩
        · intro k hk
          exact hp k (by simp at hk ⊢; rcases hk with rfl | hk | hk <;> simp [*])
        · intro hk
          rcases List.mem_append.1 hk with hk | hk
          · exact (List.nodup_append.1 hnd).2.2 i hk i (by simp) rfl
          · have := (List.nodup_append.1 hnd).2.1
            simp at this
            exact this.1 hk
      refine wpOp_mono (fun a' w' ⟨σ', ⟨g0, g1⟩, g2⟩ => ?_) (astepG_sound S hE hz0 hoi (hf.dst i oi hoi) hstep)
      refine ih (listed.setIfInBounds i true) σ' a' w' (by simpa using hs) ?_ ?_ (by rw [hrest]; exact g0.1) g0.2 g2 (by rw [hrest]; exact g1)
      · rw [hrest]
        rw [hsplit] at hlen
        simp at hlen ⊢
        omega
      · intro k hk hkl j hj0 hj
        by_cases e : k = i
        · subst e
          exact getD_set_true (hanc j hj0 hj)
        · rw [getD_set_ne true (Ne.symm e)] at hkl
          exact getD_set_true (hcl k hk hkl j hj0 hj)
end
end Go.Proofs.YtnifjdhjimjihaaGreatDoor
/- The engine, part N: the walk of a function's code. -/
namespace Go.Proofs.YtnifjdhjimjihaaGreatDoor
open Go.RowKit Lim

def arun (C : Ctx) (ops : Array Oper) : List Oper → AS → (AS → Prop) → Prop
  | [], σ, K => K σ
  | o :: l, σ, K => astepG C ops o σ (fun σ' => arun C ops l σ' K)
/-- The variables that a region makes. -/
def newsOf : List Oper → List Nat
  | [] => []
  | o :: l => match isNewB o, o.dst with | true, some t => t :: newsOf l | _, _ => newsOf l
/-- The slots that hold addresses that the region reckons. -/
def keysOf : List Oper → List Nat
  | [] => []
  | o :: l => match o.op, o.dst with
    | .fieldAddr _ _ _, some d => d :: keysOf l
    | .nilCheck _, some d => d :: keysOf l
    | _, _ => keysOf l
def badOf (d : Bool) (os : List Oper) : List Nat := match d with | true => newsOf os ++ (movedOf os ++ keysOf os) | false => newsOf os
def staleK (d : Bool) (x : Nat) (bad : List Nat) : TV → Option TV
  | .ref t o => if bad.contains t || (d && t != x) then none else some (.ref t o)
  | x => some x
/-- What a region is entered with: the slots below n (what lies above is scratch), without pointers into variables that the region makes. -/
def prep (n : Nat) (d : Bool) (ops : Array Oper) (σ : AS) : AS := { σ with tm := fun x => if x < n then (σ.tm x).bind (staleK d x (badOf d ops.toList)) else none }
def AS.le (τ σ : AS) : Prop := (∀ x v, τ.tm x = some v → σ.tm x = some v) ∧ (∀ t cs, τ.mem t = some cs → σ.mem t = some cs)

def dstB (ops : Array Oper) (N : Nat) : Bool := ops.all fun o => match o.dst with | some t => decide (t < N) | none => true
def codeOK (N : Nat) : Code → Bool
  | .skip => true
  | .region _ ops d => if d then fineB ops N else dstB ops N
  | .seq a b => codeOK N a && codeOK N b
  | .cond _ a b => codeOK N a && codeOK N b
  | .block _ c => codeOK N c
  | .loop c => codeOK N c
  | .exit _ => true
  | .ret => true
  | .label _ => true
  | _ => false

def awp (C : Ctx) (n : Nat) : Code → (Exit → AS → Prop) → AS → Prop
  | .skip, K, σ => K .normal σ
  | .region _ ops d, K, σ => arun C ops ops.toList (prep n d ops σ) (K .normal)
  | .seq a b, K, σ => awp C n a (fun e σ' => match e with | .normal => awp C n b K σ' | e => K e σ') σ
  | .cond c a b, K, σ => ∃ t, σ.get c = some (.av (.lit (.bool t))) ∧ (t = true → awp C n a K σ) ∧ (t = false → awp C n b K σ)
  | .block id c, K, σ => awp C n c (fun e σ' => match e with | .exit i => if i = id then K .normal σ' else K (.exit i) σ' | e => K e σ') σ
  | .loop c, K, σ => ∃ (α : Type) (I : α → AS) (μ : α → Nat) (x : α), AS.le (I x) σ ∧ ∀ x, awp C n c (fun e σ' => match e with | .normal => ∃ x', AS.le (I x') σ' ∧ μ x' < μ x | e => K e σ') (I x)
  | .exit id, K, σ => K (.exit id) σ
  | .ret, K, σ => K .ret σ
  | .label _, K, σ => K .normal σ
  | _, _, _ => False

def Exit.plainB : Exit → Bool
  | .normal | .exit _ | .ret => true
  | _ => false

theorem Sim.mono {w0 : World} {Z0 : Zone} {N : Nat} {σ τ : AS} {a : Act} {w : World} (S : Sim w0 Z0 N σ a w) (h : AS.le τ σ) : Sim w0 Z0 N τ a w := by
  obtain ⟨⟨Z, β, S⟩, hN⟩ := S
  exact ⟨⟨Z, β, S.z0, S.z1, fun t x hx => S.tm t x (h.1 t x hx), fun t cs hc => S.mem t cs (h.2 t cs hc), fun t t' cs cs' hc hc' => S.inj t t' cs cs' (h.2 t cs hc) (h.2 t' cs' hc'), S.below, S.defers⟩, hN⟩
theorem Sim.drew {w0 : World} {Z0 : Zone} {N : Nat} {σ : AS} {a : Act} {w : World} (S : Sim w0 Z0 N σ a w) : Sim w0 Z0 N σ a { w with drawn := w.drawn + 1 } := by
  obtain ⟨⟨Z, β, S⟩, hN⟩ := S
  have hb : Below w.heap.size w { w with drawn := w.drawn + 1 } := ⟨rfl, rfl, rfl, Nat.le_refl _, fun _ _ => rfl⟩
  exact ⟨⟨Z, β, S.grow hb (fun _ _ h => h) (fun _ _ h => .inl h)⟩, hN⟩
theorem prep_ref {n : Nat} {d : Bool} {ops : Array Oper} {σ : AS} {x t off : Nat} (h : (prep n d ops σ).tm x = some (.ref t off)) : σ.tm x = some (.ref t off) ∧ t ∉ badOf d ops.toList ∧ (d = true → t = x) := by
  simp only [prep] at h
  split at h
  · cases hx : σ.tm x with
    | none => rw [hx] at h; cases h
    | some y =>
      rw [hx] at h
      cases y with
      | ref t' o =>
        simp only [Option.bind_some, staleK] at h
        split at h
        · cases h
        · rename_i hc
          cases h
          simp only [Bool.or_eq_true, Bool.and_eq_true, not_or, not_and] at hc
          refine ⟨rfl, by simpa using hc.1, fun hd => ?_⟩
          have := hc.2 hd
          simpa using this
      | _ => cases h
  · cases h
theorem prep_le (n : Nat) (d : Bool) (ops : Array Oper) (σ : AS) : AS.le (prep n d ops σ) σ := by
  refine ⟨fun x v h => ?_, fun _ _ h => h⟩
  cases v with
  | ref t off => exact (prep_ref h).1
  | _ =>
    simp only [prep] at h
    split at h
    · cases hx : σ.tm x with
      | none => rw [hx] at h; cases h
      | some y =>
        rw [hx] at h
        cases y with
        | ref t' o =>
          simp only [Option.bind_some, staleK] at h
          split at h <;> cases h
        | _ => exact h
    · cases h
theorem newsOf_bad {d : Bool} {os : List Oper} {s : Nat} (h : s ∈ newsOf os) : s ∈ badOf d os := by
  cases d
  · exact h
  · exact List.mem_append_left _ h
theorem prep_noref {n : Nat} {d : Bool} {ops : Array Oper} {σ : AS} {s : Nat} (h : s ∈ newsOf ops.toList) : NoRef (prep n d ops σ) s := fun _ _ hx => (prep_ref hx).2.1 (newsOf_bad h)
theorem look2_id : ∀ (L : List (Nat × Nat)) (x : Nat), x ∉ L.map (·.1) → look2 L x = x
  | [], _, _ => rfl
  | (k, v) :: L, x, h => by
    simp at h
    simp only [look2]
    rw [if_neg h.1]
    exact look2_id L x (by simpa using h.2)
theorem rtL_keys (ops : Array Oper) (x : Nat) (h : x ∈ (rtL ops).map (·.1)) : x ∈ keysOf ops.toList := by
  unfold rtL at h
  have key : ∀ (l : List Oper) (L : List (Nat × Nat)), x ∈ (rtC id L l).map (·.1) → x ∈ L.map (·.1) ∨ x ∈ keysOf l := by
    intro l
    induction l with
    | nil => intro L h; exact .inl h
    | cons o l ih =>
      intro L h
      simp only [rtC] at h
      simp only [keysOf]
      split at h
      · rename_i h3 h4
        rw [h3, h4]
        simp only [force_eq] at h
        rcases ih _ h with h2 | h2
        · simp only [List.map_cons, List.mem_cons] at h2
          rcases h2 with h2 | h2
          · exact .inr (by simp [h2])
          · exact .inl h2
        · exact .inr (by simp [h2])
      · rename_i h3 h4
        rw [h3, h4]
        simp only [force_eq] at h
        rcases ih _ h with h2 | h2
        · simp only [List.map_cons, List.mem_cons] at h2
          rcases h2 with h2 | h2
          · exact .inr (by simp [h2])
          · exact .inl h2
        · exact .inr (by simp [h2])
      · rcases ih _ h with h2 | h2
        · exact .inl h2
        · right
          split
          · exact List.mem_cons_of_mem _ h2
          · exact List.mem_cons_of_mem _ h2
          · exact h2
  rcases key _ _ h with h | h
  · cases h
  · exact h
theorem prep_rooted {n : Nat} {ops : Array Oper} {σ : AS} : Rooted (look2 (rtL ops)) (movedOf ops.toList) (prep n true ops σ) := by
  refine ⟨fun a t off h => ?_, fun a hm t off h => ?_⟩
  · obtain ⟨_, h2, h3⟩ := prep_ref h
    obtain rfl := h3 rfl
    refine look2_id _ _ fun hk => h2 ?_
    exact List.mem_append_right _ (List.mem_append_right _ (rtL_keys ops _ hk))
  · obtain ⟨_, h2, h3⟩ := prep_ref h
    obtain rfl := h3 rfl
    exact h2 (List.mem_append_right _ (List.mem_append_left _ hm))
theorem newsOf_mem (o : Oper) (s : Nat) (h1 : isNewB o = true) (h2 : o.dst = some s) (l : List Oper) (hm : o ∈ l) : s ∈ newsOf l := by
  induction l with
  | nil => cases hm
  | cons o' l ih =>
    rcases List.mem_cons.1 hm with rfl | hm
    · simp [newsOf, h1, h2]
    · have := ih hm
      simp only [newsOf]
      split
      · exact List.mem_cons_of_mem _ this
      · exact this
theorem arunI_of {C : Ctx} {ops : Array Oper} {K : AS → Prop} : ∀ (l : List Oper) (k : Nat) (σ : AS), ops.toList.drop k = l → arun C ops l σ K → arunI C ops (List.range' k l.length) σ K
  | [], k, σ, _, h => h
  | o :: l, k, σ, hd, h => by
    have hk : ops[k]? = some o := by
      have := congrArg (·[0]?) hd
      simpa using this
    have hd' : ops.toList.drop (k + 1) = l := by
      have := congrArg (List.drop 1) hd
      simpa [Nat.add_comm] using this
    refine ⟨o, hk, ?_⟩
    obtain ⟨e, h1, h2⟩ := astepG_iff.1 h
    exact astepG_iff.2 ⟨e, h1, arunI_of l (k + 1) _ hd' h2⟩
theorem wp_loop_g {P : Program} {Q : Exit → Act → World → Prop} {a : Act} {w : World} {c : Code} {α : Type} (I : α → Act → World → Prop) (μ : α → Nat) (x0 : α) (h₀ : I x0 a w)
    (round : ∀ x a w, I x a w → c.wp P (Exit.then (fun a' w' => ∃ x', I x' a' w' ∧ μ x' < μ x) Q) a w) : (Code.loop c).wp P Q a w := by
  intro b k cs
  have key : ∀ n x a w, μ x = n → I x a w →
      ∃ e a' w', Q e a' w' ∧ Arrives P (lone (b.at a (.code c :: .inLoop c :: k)) cs w) b k cs e a' w' := by
    intro n
    induction n using Nat.strongRecOn with
    | _ n ih =>
      intro x a w hn hI
      obtain ⟨e, a₁, w₁, hq, harr⟩ := round x a w hI b (.inLoop c :: k) cs
      cases e with
      | normal =>
        obtain ⟨x', hI₁, hlt⟩ := hq
        obtain ⟨e₂, a₂, w₂, hq₂, harr₂⟩ := ih (μ x') (hn ▸ hlt) x' a₁ w₁ rfl hI₁
        exact ⟨e₂, a₂, w₂, hq₂, .of_steps (Steps.trans harr (.one step_inLoop)) harr₂⟩
      | exit id => exact ⟨_, a₁, w₁, hq, .pass (x := .inLoop c) rfl (fun _ _ => .inl (by simp)) harr⟩
      | goto l => exact ⟨_, a₁, w₁, hq, .pass (x := .inLoop c) rfl (fun _ _ => .inl (by simp)) harr⟩
      | ret => exact ⟨_, a₁, w₁, hq, .pass (x := .inLoop c) rfl (fun _ _ => .inl (by simp)) harr⟩
      | panic ch => exact ⟨_, a₁, w₁, hq, .pass (x := .inLoop c) rfl (fun _ _ => .inl (by simp)) harr⟩
      | outgrown => exact ⟨_, a₁, w₁, hq, .pass (x := .inLoop c) rfl (fun _ _ => .inl (by simp)) harr⟩
  obtain ⟨e, a', w', hq, harr⟩ := key _ x0 a w rfl h₀
  exact ⟨e, a', w', hq, .of_steps (.one step_loop) harr⟩

section
variable {C : Ctx} {N n : Nat} {w0 : World} {Z0 : Zone}

theorem awp_sound (hE : C.E w0) (hz0 : ∀ b o, Z0 b o → b < w0.heap.size) : ∀ (c : Code) (K : Exit → AS → Prop) (σ : AS) (a : Act) (w : World), codeOK N c = true → awp C n c K σ → Sim w0 Z0 N σ a w →
    c.wp C.P (fun e a' w' => Exit.plainB e = true ∧ ∃ σ', K e σ' ∧ Sim w0 Z0 N σ' a' w') a w := by
  intro c
  induction c with
  | skip => intro K σ a w _ h S; exact wp_skip ⟨rfl, σ, h, S⟩
  | region id ops d =>
    intro K σ a w hok h S
    have S' := S.mono (prep_le n d ops σ)
    have hI := arunI_of ops.toList 0 _ (by simp) h
    have hr : List.range' 0 ops.toList.length = List.range ops.size := by rw [List.range_eq_range']; simp
    rw [hr] at hI
    simp only [codeOK] at hok
    cases d with
    | false =>
      simp only [Bool.false_eq_true, if_false, dstB] at hok
      refine wp_region (wpOps_of_arun (K := K .normal) hE hz0 (fun i o hi t ht => ?_) (fun σ' a' w' h1 h2 => ⟨rfl, σ', h1, h2⟩) _ _ a w S' hI)
      have := Array.all_eq_true_iff_forall_mem.1 hok o (Array.mem_of_getElem? hi)
      rw [ht] at this
      simpa using this
    | true =>
      simp only [if_true] at hok
      have hf := fine_of hok
      refine wp_region_any C.hm ?_
      have hrest : rest ops (Array.replicate ops.size false) = List.range ops.size := by
        unfold rest
        apply List.filter_eq_self.2
        intro i hi
        rw [List.mem_range] at hi
        simp [hi]
      refine wpAny_of_arun (K := K .normal) hf hE hz0 (fun σ' a' w' h1 h2 => ⟨rfl, σ', h1, h2⟩) _ _ (prep n true ops σ) a _ (by simp) (by rw [hrest]; simp) (fun k hk hkl => ?_) ?_ prep_rooted S'.drew (by rw [hrest]; exact hI)
      · simp [hk] at hkl
      · intro i hi o ho hnew s hs
        exact prep_noref (newsOf_mem o s hnew hs _ (by have := Array.mem_of_getElem? ho; simpa using this))
  | seq x y ihx ihy =>
    intro K σ a w hok h S
    simp only [codeOK, Bool.and_eq_true] at hok
    refine wp_seq (wp_mono (ihx _ σ a w hok.1 h S) ?_)
    rintro e a' w' ⟨he, σ', h1, h2⟩
    cases e with
    | normal => exact ihy K σ' a' w' hok.2 h1 h2
    | exit id => exact ⟨rfl, σ', h1, h2⟩
    | ret => exact ⟨rfl, σ', h1, h2⟩
    | _ => cases he
  | cond c x y ihx ihy =>
    intro K σ a w hok h S
    simp only [codeOK, Bool.and_eq_true] at hok
    obtain ⟨t, h1, h2, h3⟩ := h
    obtain ⟨⟨Z, β, S1⟩, hN⟩ := S
    refine wp_cond_split (S1.lit h1) (fun ht => ihx K σ a w hok.1 (h2 ht) ⟨⟨Z, β, S1⟩, hN⟩) (fun ht => ihy K σ a w hok.2 (h3 ht) ⟨⟨Z, β, S1⟩, hN⟩)
  | block id c ih =>
    intro K σ a w hok h S
    refine wp_block (wp_mono (ih _ σ a w hok h S) ?_)
    rintro e a' w' ⟨he, σ', h1, h2⟩
    cases e with
    | normal => exact ⟨rfl, σ', h1, h2⟩
    | exit i =>
      simp only [Exit.inBlock]
      simp only at h1
      split
      · rename_i hi
        rw [if_pos hi] at h1
        exact ⟨rfl, σ', h1, h2⟩
      · rename_i hi
        rw [if_neg hi] at h1
        exact ⟨rfl, σ', h1, h2⟩
    | ret => exact ⟨rfl, σ', h1, h2⟩
    | _ => cases he
  | loop c ih =>
    intro K σ a w hok h S
    obtain ⟨α, I, μ, x, h1, h2⟩ := h
    refine wp_loop_g (fun x a w => Sim w0 Z0 N (I x) a w) μ x (S.mono h1) fun x a w hI => ?_
    refine wp_mono (ih _ (I x) a w hok (h2 x) hI) ?_
    rintro e a' w' ⟨he, σ', h3, h4⟩
    cases e with
    | normal =>
      obtain ⟨x', h5, h6⟩ := h3
      exact ⟨x', h4.mono h5, h6⟩
    | exit id => exact ⟨rfl, σ', h3, h4⟩
    | ret => exact ⟨rfl, σ', h3, h4⟩
    | _ => cases he
  | exit id => intro K σ a w _ h S; exact wp_exit ⟨rfl, σ, h, S⟩
  | ret => intro K σ a w _ h S; exact wp_ret ⟨rfl, σ, h, S⟩
  | label l => intro K σ a w _ h S; exact wp_label ⟨rfl, σ, h, S⟩
  | _ => intro K σ a w hok; simp [codeOK] at hok
end
end Go.Proofs.YtnifjdhjimjihaaGreatDoor
/- The engine, part O: the contract of a function, from the walk of its code. -/
namespace Go.Proofs.YtnifjdhjimjihaaGreatDoor
open Go.RowKit Lim

def ofL {α : Type} : List (Nat × α) → Nat → Option α
  | [], _ => none
  | (k, v) :: l, x => if x = k then some v else ofL l x
/-- A state's slots, written out. -/
def ofT : List (Nat × Option TV) → Nat → Option TV
  | [], _ => none
  | (k, v) :: l, x => if x = k then v else ofT l x
def startL : Nat → List AV → List (Nat × Option TV)
  | _, [] => []
  | k, a :: l => (k, some (.av a)) :: startL (k + 1) l
def start (args : List AV) : AS := ⟨ofT (startL 0 args), ofL []⟩
def resA (C : Ctx) (σ : AS) : ResultVar → TypeId → Option AV
  | .tmp t, ty => (match σ.tm t with | some (.av a) => some (normA C.T ty a) | _ => none)
  | .cell t ty, _ => (match C.T ty, σ.look (σ.tm t) with | some i, some cs => takeA i cs | _, _ => none)
def resL (C : Ctx) (σ : AS) : List ResultVar → List TypeId → Option (List AV)
  | [], _ => some []
  | x :: l, tys => (match resA C σ x (tys.headD 0), resL C σ l tys.tail with | some a, some l' => some (a :: l') | _, _ => none)
def packA : List AV → AV
  | [a] => a
  | l => .tup l
/-- The function ends here with the result r. -/
def retA (C : Ctx) (fn : Func) (r : AV) (e : Exit) (σ : AS) : Prop := (e = .ret ∨ e = .normal) ∧ ∃ l, resL C σ fn.results.toList fn.resultTypes.toList = some l ∧ packA l = r

theorem startL_get : ∀ (args : List AV) (k x : Nat), ofT (startL k args) x = if k ≤ x then (args[x - k]?).map .av else none
  | [], k, x => by simp [startL, ofT]
  | a :: l, k, x => by
    simp only [startL, ofT]
    by_cases h : x = k
    · subst h; simp
    · rw [if_neg h, startL_get l (k + 1) x]
      by_cases h2 : k ≤ x
      · rw [if_pos (by omega), if_pos h2]
        have : x - k = (x - (k + 1)) + 1 := by omega
        rw [this, List.getElem?_cons_succ]
      · rw [if_neg (by omega), if_neg h2]
theorem start_get (args : List AV) (x : Nat) : (start args).tm x = (args[x]?).map .av := by
  have := startL_get args 0 x
  simpa [start] using this

section
variable {C : Ctx} {w0 w : World} {Z0 Z : Zone} {σ : AS} {a : Act} {β : Nat → Nat}

def resG (a : Act) : ResultVar → Sem Value
  | .tmp t => pure (a.tmps.getD t undef)
  | .cell p t => do loadVar t (← asAddr (a.tmps.getD p undef))
theorem resA_sound (S : Sim1 w0 Z0 σ a w Z β) {x : ResultVar} {ty : TypeId} {y : AV} (h : resA C σ x ty = some y) : ∃ u, (resG a x).run C.P w = .ok u w ∧ Rep w Z y u := by
  cases x with
  | tmp t =>
    simp only [resA] at h
    split at h
    · rename_i b hb
      cases h
      exact ⟨_, rfl, normA_sound (S.tm t _ hb).2⟩
    · cases h
  | cell p t =>
    simp only [resA] at h
    split at h
    · rename_i i cs h1 h2
      obtain ⟨b, o, e, hc⟩ := look_sound (x := .tmp p) S h2
      obtain ⟨u, r1, r2⟩ := run_loadVar_A (C.hT _ _ h1) hc h
      have e' : a.tmps.getD p undef = .pointer (some ⟨b, o, none⟩) := e
      exact ⟨u, by simp only [resG, e', asAddr, Sem.run_bind, Sem.run_pure, Result.andThen_ok, r1], r2⟩
    · cases h
theorem resL_sound (S : Sim1 w0 Z0 σ a w Z β) : ∀ (xs : List ResultVar) (tys : List TypeId) (l : List AV), resL C σ xs tys = some l →
    ∃ f : ResultVar → Value, (∀ x ∈ xs, (resG a x).run C.P w = .ok (f x) w) ∧ Rep w Z (.agg l) (.agg (xs.map f).toArray) := by
  intro xs tys l h
  refine ⟨fun x => match (resG a x).run C.P w with | .ok u _ => u | _ => undef, ?_⟩
  induction xs generalizing tys l with
  | nil =>
    cases h
    exact ⟨by simp, Rep.agg_iff.2 ⟨rfl, fun j x u h1 => by simp at h1⟩⟩
  | cons x xs ih =>
    simp only [resL] at h
    split at h
    · rename_i y ys h1 h2
      cases h
      obtain ⟨q1, q2⟩ := ih tys.tail ys h2
      obtain ⟨u, r1, r2⟩ := resA_sound S h1
      obtain ⟨l1, l2⟩ := Rep.agg_iff.1 q2
      refine ⟨fun z hz => ?_, Rep.agg_iff.2 ⟨by simpa using l1, fun j z v h3 h4 => ?_⟩⟩
      · rcases List.mem_cons.1 hz with rfl | hz
        · simp only [r1]
        · exact q1 z hz
      · cases j with
        | zero =>
          simp at h3 h4
          subst h3
          rw [r1] at h4
          simp at h4
          subst h4
          exact r2
        | succ j =>
          simp at h3 h4
          exact l2 j z v h3 (by simpa using h4)
    · cases h
theorem retA_sound (S : Sim1 w0 Z0 σ a w Z β) {fn : Func} {r : AV} {e : Exit} (h : retA C fn r e σ) : ∃ v, (results fn a.tmps).run C.P w = .ok v w ∧ Rep w Z r v := by
  obtain ⟨_, l, h1, rfl⟩ := h
  obtain ⟨f, q1, q2⟩ := resL_sound S _ _ _ h1
  have hm : (fn.results.mapM (resG a)).run C.P w = .ok (fn.results.map f) w := by
    rw [Array.mapM_eq_foldlM, ← Array.foldlM_toList, run_mapM (P := C.P) _ f w fn.results.toList #[] q1]
    congr 1
    apply Array.ext'
    simp
  have hm' : (results fn a.tmps).run C.P w = .ok (if h : (fn.results.map f).size = 1 then (fn.results.map f)[0] else .tuple (fn.results.map f)) w := by
    have : results fn a.tmps = (do let vs ← fn.results.mapM (resG a); pure (if h : vs.size = 1 then vs[0] else .tuple vs)) := rfl
    rw [this, Sem.run_bind, hm]
    rfl
  obtain ⟨l1, l2⟩ := Rep.agg_iff.1 q2
  have e : (fn.results.toList.map f).toArray = fn.results.map f := by apply Array.ext'; simp
  rw [e] at q2 l1 l2
  refine ⟨_, hm', ?_⟩
  by_cases hone : (fn.results.map f).size = 1
  · rw [dif_pos hone]
    have hl : l.length = 1 := by omega
    obtain ⟨x, rfl⟩ : ∃ x, l = [x] := List.length_eq_one_iff.1 hl
    exact l2 0 x _ rfl (Array.getElem?_eq_getElem (by omega))
  · rw [dif_neg hone]
    have : packA l = .tup l := by
      unfold packA
      split
      · simp at l1; exact absurd (by simpa using l1) hone
      · rfl
    rw [this]
    exact .tup l1 fun j hj => l2 j _ _ (List.getElem?_eq_getElem hj) (Array.getElem?_eq_getElem (by omega))
end

/-- **The contract of a function**, from the walk of its code. -/
theorem ACalls.of_awp {C : Ctx} {f : FuncId} {fn : Func} {c : Code} (n : Nat) {args : List AV} {r : AV} (hf : C.P.funcs[f]? = some fn) (hb : fn.body = some c) (hnm : (fn.name == "runtime.NumGoroutine") = false) (hok : codeOK fn.ntmps c = true) (hl : args.length ≤ fn.ntmps)
    (h : awp C n c (retA C fn r) (start args)) : ACalls C f args r := by
  refine ⟨⟨fn, hf, hnm, by rw [hb]; rfl⟩, fun w Z vs hE hz hr => ?_⟩
  refine calls_of_wp hf hb ?_
  obtain ⟨l1, l2⟩ := Rep.agg_iff.1 hr
  have S : Sim w Z fn.ntmps (start args) { tmps := vs ++ Array.replicate (fn.ntmps - vs.size) undef, defers := [] } w := by
    refine ⟨⟨Z, fun _ => 0, fun _ _ h => h, fun _ _ h => .inl h, fun t x hx => ?_, fun t cs hc => by simp [start, ofL] at hc, fun t t' cs cs' hc => by simp [start, ofL] at hc, Below.refl _ _, rfl⟩, by simp; omega⟩
    rw [start_get] at hx
    simp only [Option.map_eq_some_iff] at hx
    obtain ⟨y, hy, rfl⟩ := hx
    have hlt := (List.getElem?_eq_some_iff.1 hy).1
    refine ⟨by simp; omega, ?_⟩
    have hv : (vs ++ Array.replicate (fn.ntmps - vs.size) undef)[t]? = some (vs[t]'(by omega)) := by
      rw [Array.getElem?_append_left (by omega)]
      exact Array.getElem?_eq_getElem (by omega)
    have : (vs ++ Array.replicate (fn.ntmps - vs.size) undef).getD t undef = vs[t]'(by omega) := by
      simp only [Array.getD_eq_getD_getElem?, hv, Option.getD_some]
    rw [this]
    exact l2 t y _ hy (Array.getElem?_eq_getElem (by omega))
  refine wp_mono (awp_sound hE hz c _ _ _ _ hok h S) ?_
  rintro e a' w' ⟨he, σ', h1, ⟨Z', β, S'⟩, _⟩
  have hpost : a'.defers = [] ∧ ∃ v, (results fn a'.tmps).run C.P w' = .ok v w' ∧ ∃ u, Ending.returned v = .returned u ∧ Below w.heap.size w w' ∧ Rep w' (grown Z w w') r u := by
    obtain ⟨v, r1, r2⟩ := retA_sound S' h1
    exact ⟨S'.defers, v, r1, v, rfl, S'.below, r2.keep (Keeps.refl _ _) S'.z1⟩
  rcases h1.1 with rfl | rfl
  · exact hpost
  · exact hpost
end Go.Proofs.YtnifjdhjimjihaaGreatDoor
/- The engine, part P: the table of types is checked by the kernel; words for the walk. -/
namespace Go.Proofs.YtnifjdhjimjihaaGreatDoor
open Go.RowKit Lim

def zeroB : AV → Value → Bool
  | .lit (.int k n), .int k' n' => decide (k = k') && decide (n = n')
  | .lit (.bool b), .bool b' => b == b'
  | .lit (.string s), .string s' => s.data.toList.isEmpty && s'.data.toList.isEmpty
  | .lit (.pointer none), .pointer none => true
  | .lit .nilIface, .nilIface => true
  | .lit .nilFunc, .nilFunc => true
  | .lit (.map none), .map none => true
  | .nat [], .slice none 0 0 => true
  | .sl _ [], .slice none 0 0 => true
  | _, _ => false
theorem zeroB_sound {a : AV} {v : Value} (h : zeroB a v = true) (w : World) (Z : Zone) : Rep w Z a v := by
  unfold zeroB at h
  split at h
  · simp at h; obtain ⟨rfl, rfl⟩ := h; exact .lit rfl
  · simp at h; subst h; exact .lit rfl
  · rename_i s s'
    simp at h
    have : s = s' := by
      cases s; cases s'
      simp at h
      rw [h.1, h.2]
    subst this
    exact .lit rfl
  · exact .lit rfl
  · exact .lit rfl
  · exact .lit rfl
  · exact .lit rfl
  · exact Rep.nat (l := []) (Rd.nil _ _) (by simp)
  · exact .nil
  · cases h
def zerosB : List AV → List Value → Bool
  | [], [] => true
  | a :: as', v :: vs => zeroB a v && zerosB as' vs
  | _, _ => false
theorem zerosB_sound : ∀ (as' : List AV) (vs : List Value), zerosB as' vs = true → as'.length = vs.length ∧ ∀ (j : Nat) (a : AV) (v : Value), as'[j]? = some a → vs[j]? = some v → ∀ w Z, Rep w Z a v
  | [], [], _ => ⟨rfl, fun j a v h => by simp at h⟩
  | a :: l, v :: vs, h => by
    simp only [zerosB, Bool.and_eq_true] at h
    obtain ⟨h1, h2⟩ := zerosB_sound l vs h.2
    refine ⟨by simp [h1], fun j x u hx hu => ?_⟩
    cases j with
    | zero => simp at hx hu; subst hx hu; exact fun w Z => zeroB_sound h.1 w Z
    | succ j => simp at hx hu; exact h2 j x u hx hu
  | [], _ :: _, h => by cases h
  | _ :: _, [], h => by cases h
def fieldsB (P : Program) : List (Nat × Nat × TypeId) → List Field → Bool
  | [], [] => true
  | (o, n, t) :: l, f :: fs => decide (f.offset = o) && decide (f.type = t) && decide (n ≠ 0) && (match P.info? f.type with | some i => decide (i.size = n) | none => false) && fieldsB P l fs
  | _, _ => false
theorem fieldsB_sound {P : Program} : ∀ (l : List (Nat × Nat × TypeId)) (fs : List Field), fieldsB P l fs = true → l.length = fs.length ∧ ∀ (f o n : Nat) (t : TypeId), l[f]? = some (o, n, t) → ∃ fd : Field, fs[f]? = some fd ∧ fd.offset = o ∧ fd.type = t ∧ n ≠ 0 ∧ ∃ fi, P.info? fd.type = some fi ∧ fi.size = n
  | [], [], _ => ⟨rfl, fun f o n t h => by simp at h⟩
  | (o, n, t) :: l, f :: fs, h => by
    simp only [fieldsB, Bool.and_eq_true, decide_eq_true_eq] at h
    obtain ⟨⟨⟨⟨h1, h2⟩, h3⟩, h4⟩, h5⟩ := h
    obtain ⟨q1, q2⟩ := fieldsB_sound l fs h5
    refine ⟨by simp [q1], fun j o' n' t' hj => ?_⟩
    cases j with
    | zero =>
      simp at hj
      obtain ⟨rfl, rfl, rfl⟩ := hj
      refine ⟨f, rfl, h1, h2, h3, ?_⟩
      split at h4
      · rename_i i hi
        exact ⟨i, hi, by simpa using h4⟩
      · cases h4
    | succ j => simp at hj; exact q2 j o' n' t' hj
  | [], _ :: _, h => by cases h
  | _ :: _, [], h => by cases h
def kindB (P : Program) : TK → TypeDesc → Bool
  | .scal, d => (match d with | .struct _ | .array _ _ => false | _ => true)
  | .bool, .bool => true
  | .int k, .int k' => decide (k = k')
  | .str, .string => true
  | .strct fs, .struct fds => fieldsB P fs fds.toList
  | .slc e k _, .slice e' => decide (e = e') && (match P.info? e with | some i => decide (i.size = k) | none => false)
  | _, _ => false
def tiB (P : Program) (ty : TypeId) (i : TI) : Bool :=
  (match P.info? ty with
   | some info => decide (info.size = i.zero.length) && (match info.zero with | some zv => zerosB i.zero zv.cells.toList | none => false)
   | none => false) &&
  (match P.underlying ty with
   | some d => kindB P i.kind d
   | none => false)
theorem tiB_sound {P : Program} {ty : TypeId} {i : TI} (h : tiB P ty i = true) : TIOK P ty i := by
  simp only [tiB, Bool.and_eq_true] at h
  obtain ⟨h1, h2⟩ := h
  refine ⟨?_, ?_⟩
  · split at h1
    · rename_i info hi
      simp only [Bool.and_eq_true, decide_eq_true_eq] at h1
      obtain ⟨h3, h4⟩ := h1
      split at h4
      · rename_i zv hz
        obtain ⟨q1, q2⟩ := zerosB_sound _ _ h4
        exact ⟨info, zv, hi, h3, hz, fun w Z => Rep.agg_iff.2 ⟨by simpa using q1.symm, fun j x u hx hu => q2 j x u hx (by simpa using hu) w Z⟩⟩
      · cases h4
    · cases h1
  · split at h2
    · rename_i d hd
      cases hk : i.kind with
      | scal =>
        rw [hk] at h2
        refine ⟨d, hd, ?_⟩
        simp only [kindB] at h2
        cases d <;> simp_all
      | bool => rw [hk] at h2; cases d <;> first | exact hd | cases h2
      | int k =>
        rw [hk] at h2
        cases d <;> first | cases h2 | skip
        rename_i k'
        simp [kindB] at h2
        subst h2
        exact hd
      | str => rw [hk] at h2; cases d <;> first | exact hd | cases h2
      | strct fs =>
        rw [hk] at h2
        cases d <;> first | cases h2 | skip
        rename_i fds
        obtain ⟨q1, q2⟩ := fieldsB_sound fs fds.toList h2
        refine ⟨fds, hd, by simpa using q1.symm, fun f o n t hf => ?_⟩
        obtain ⟨fd, v1, v2⟩ := q2 f o n t hf
        exact ⟨fd, by simpa using v1, v2⟩
      | slc e k l =>
        rw [hk] at h2
        cases d <;> first | cases h2 | skip
        rename_i e'
        simp only [kindB, Bool.and_eq_true, decide_eq_true_eq] at h2
        obtain ⟨rfl, h2⟩ := h2
        refine ⟨hd, ?_⟩
        split at h2
        · rename_i ei he
          exact ⟨ei, he, by simpa using h2⟩
        · cases h2
    · cases h2
theorem ofL_all {P : Program} : ∀ (l : List (Nat × TI)), l.all (fun p => tiB P p.1 p.2) = true → ∀ ty i, ofL l ty = some i → TIOK P ty i
  | [], _, ty, i, h => by cases h
  | (k, v) :: l, h, ty, i, hi => by
    simp only [List.all_cons, Bool.and_eq_true] at h
    simp only [ofL] at hi
    split at hi
    · rename_i e
      cases hi
      subst e
      exact tiB_sound h.1
    · exact ofL_all l h.2 ty i hi
/-! Words for the walk: states that are written out. -/
def setL {α : Type} : List (Nat × α) → Nat → α → List (Nat × α)
  | [], t, v => [(t, v)]
  | (k, u) :: l, t, v => if k = t then (t, v) :: l else (k, u) :: setL l t v
theorem setL_ofL {α : Type} (t : Nat) (v : α) : ∀ l : List (Nat × α), upd (ofL l) t (some v) = ofL (setL l t v)
  | [] => by
    funext x
    simp only [upd, ofL, setL]
  | (k, u) :: l => by
    funext x
    have ih := congrFun (setL_ofL t v l) x
    simp only [upd, ofL, setL] at ih ⊢
    by_cases h : k = t
    · subst h
      simp only [if_true, ofL]
      split
      · rfl
      · rfl
    · simp only [if_neg h, ofL]
      by_cases hx : x = k
      · subst hx
        simp [h]
      · simp only [if_neg hx]
        exact ih
def setT : List (Nat × Option TV) → Nat → TV → List (Nat × Option TV)
  | [], t, v => [(t, some v)]
  | (k, u) :: l, t, v => if k = t then (t, some v) :: l else (k, u) :: setT l t v
theorem setT_ofT (t : Nat) (v : TV) : ∀ l : List (Nat × Option TV), upd (ofT l) t (some v) = ofT (setT l t v)
  | [] => by
    funext x
    simp only [upd, ofT, setT]
  | (k, u) :: l => by
    funext x
    have ih := congrFun (setT_ofT t v l) x
    simp only [upd, ofT, setT] at ih ⊢
    by_cases h : k = t
    · subst h
      simp only [if_true, ofT]
      split
      · rfl
      · rfl
    · simp only [if_neg h, ofT]
      by_cases hx : x = k
      · subst hx
        simp [h]
      · simp only [if_neg hx]
        exact ih
/-- The slots below n, without pointers into the variables in bad. -/
def prepL (n : Nat) (d : Bool) (bad : List Nat) : List (Nat × Option TV) → List (Nat × Option TV)
  | [] => []
  | (k, v) :: l => if k < n then (k, v.bind (staleK d k bad)) :: prepL n d bad l else prepL n d bad l
theorem prepL_get (n : Nat) (d : Bool) (bad : List Nat) : ∀ (l : List (Nat × Option TV)) (x : Nat), ofT (prepL n d bad l) x = if x < n then (ofT l x).bind (staleK d x bad) else none
  | [], x => by simp [prepL, ofT]
  | (k, v) :: l, x => by
    have ih := prepL_get n d bad l x
    simp only [prepL]
    by_cases hk : k < n
    · rw [if_pos hk]
      simp only [ofT]
      by_cases hx : x = k
      · subst hx
        simp [hk]
      · simp only [if_neg hx]
        exact ih
    · rw [if_neg hk, ih]
      simp only [ofT]
      by_cases hx : x = k
      · subst hx
        simp [hk]
      · simp only [if_neg hx]
def staleT (t : Nat) : List (Nat × Option TV) → List (Nat × Option TV)
  | [] => []
  | (k, v) :: l => (k, stale t v) :: staleT t l
theorem staleT_get (t : Nat) : ∀ (l : List (Nat × Option TV)) (x : Nat), stale t (ofT l x) = ofT (staleT t l) x
  | [], x => rfl
  | (k, v) :: l, x => by
    simp only [ofT, staleT]
    split
    · rfl
    · exact staleT_get t l x
theorem prep_of (n : Nat) (d : Bool) (ops : Array Oper) (l : List (Nat × Option TV)) (m : Nat → Option (List AV)) : prep n d ops ⟨ofT l, m⟩ = ⟨ofT (prepL n d (badOf d ops.toList) l), m⟩ := by
  simp only [prep]
  congr 1
  funext x
  exact (prepL_get n d _ l x).symm
theorem put_of (l : List (Nat × Option TV)) (m : Nat → Option (List AV)) (t : Nat) (v : TV) : AS.put ⟨ofT l, m⟩ (some t) v = ⟨ofT (setT l t v), m⟩ := by
  simp only [AS.put, setT_ofT]
theorem put_none (σ : AS) (v : TV) : AS.put σ none v = σ := rfl
theorem new_of (l : List (Nat × Option TV)) (m : List (Nat × List AV)) (t : Nat) (cs : List AV) : AS.new ⟨ofT l, ofL m⟩ t cs = ⟨ofT (setT (staleT t l) t (.ref t 0)), ofL (setL m t cs)⟩ := by
  simp only [AS.new, setL_ofL]
  congr 1
  have : (fun x => stale t (ofT l x)) = ofT (staleT t l) := funext fun x => staleT_get t l x
  rw [this, setT_ofT]
theorem setMem_of (l : Nat → Option TV) (m : List (Nat × List AV)) (t : Nat) (cs : List AV) : AS.setMem ⟨l, ofL m⟩ t cs = ⟨l, ofL (setL m t cs)⟩ := by
  simp only [AS.setMem, setL_ofL]
theorem get_tmp (l : Nat → Option TV) (m : Nat → Option (List AV)) (t : Nat) : AS.get ⟨l, m⟩ (.tmp t) = l t := rfl
/-- A state is at least as well known as one that is written out. -/
def leT (f : Nat → Option TV) : List (Nat × Option TV) → Prop
  | [] => True
  | (k, some v) :: l => f k = some v ∧ leT f l
  | (_, none) :: l => leT f l
def leM (f : Nat → Option (List AV)) : List (Nat × List AV) → Prop
  | [] => True
  | (k, cs) :: m => f k = some cs ∧ leM f m
def leL (σ : AS) (l : List (Nat × Option TV)) (m : List (Nat × List AV)) : Prop := leT σ.tm l ∧ leM σ.mem m
theorem leT_le (f : Nat → Option TV) : ∀ (l : List (Nat × Option TV)), leT f l → ∀ x v, ofT l x = some v → f x = some v
  | [], _, x, v, h => by cases h
  | (k, some u) :: l, h, x, v, hx => by
    simp only [ofT] at hx
    split at hx
    · rename_i e
      subst e
      rw [← hx]
      exact h.1
    · exact leT_le f l h.2 x v hx
  | (k, none) :: l, h, x, v, hx => by
    simp only [ofT] at hx
    split at hx
    · cases hx
    · exact leT_le f l h x v hx
theorem leM_le (f : Nat → Option (List AV)) : ∀ (l : List (Nat × List AV)), leM f l → ∀ x v, ofL l x = some v → f x = some v
  | [], _, x, v, h => by cases h
  | (k, u) :: l, h, x, v, hx => by
    simp only [ofL] at hx
    split at hx
    · rename_i e
      subst e
      rw [← hx]
      exact h.1
    · exact leM_le f l h.2 x v hx
theorem leL_le (σ : AS) (l : List (Nat × Option TV)) (m : List (Nat × List AV)) (h : leL σ l m) : AS.le ⟨ofT l, ofL m⟩ σ := ⟨leT_le _ l h.1, leM_le _ m h.2⟩
/-- A loop, with a state for each round, written out. -/
theorem awp_loop {C : Ctx} {n : Nat} {c : Code} {K : Exit → AS → Prop} {σ : AS} {α : Type} (L : α → List (Nat × Option TV)) (M : α → List (Nat × List AV)) (μ : α → Nat) (x : α) (h0 : leL σ (L x) (M x))
    (h : ∀ x, awp C n c (fun e σ' => match e with | .normal => ∃ x', leL σ' (L x') (M x') ∧ μ x' < μ x | e => K e σ') ⟨ofT (L x), ofL (M x)⟩) : awp C n (.loop c) K σ := by
  refine ⟨α, fun x => ⟨ofT (L x), ofL (M x)⟩, μ, x, leL_le _ _ _ h0, fun x => ?_⟩
  have mono : ∀ (c : Code) (K K' : Exit → AS → Prop), (∀ e σ, K e σ → K' e σ) → ∀ σ, awp C n c K σ → awp C n c K' σ := by
    intro c
    have hrun : ∀ (ops : Array Oper) (l : List Oper) (K K' : AS → Prop), (∀ σ, K σ → K' σ) → ∀ σ, arun C ops l σ K → arun C ops l σ K' := by
      intro ops l
      induction l with
      | nil => intro K K' hk σ h; exact hk σ h
      | cons o l ih =>
        intro K K' hk σ h
        obtain ⟨e, h1, h2⟩ := astepG_iff.1 h
        exact astepG_iff.2 ⟨e, h1, ih K K' hk _ h2⟩
    induction c with
    | skip => intro K K' hk σ h; exact hk _ _ h
    | region id ops d => intro K K' hk σ h; exact hrun ops _ _ _ (fun σ h => hk _ _ h) _ h
    | seq a b iha ihb =>
      intro K K' hk σ h
      refine iha _ _ (fun e σ h => ?_) σ h
      cases e with
      | normal => exact ihb K K' hk σ h
      | _ => exact hk _ _ h
    | cond c a b iha ihb =>
      intro K K' hk σ h
      obtain ⟨t, h1, h2, h3⟩ := h
      exact ⟨t, h1, fun ht => iha K K' hk σ (h2 ht), fun ht => ihb K K' hk σ (h3 ht)⟩
    | block id c ih =>
      intro K K' hk σ h
      refine ih _ _ (fun e σ h => ?_) σ h
      cases e with
      | exit i =>
        simp only at h ⊢
        split
        · rename_i hi; rw [if_pos hi] at h; exact hk _ _ h
        · rename_i hi; rw [if_neg hi] at h; exact hk _ _ h
      | _ => exact hk _ _ h
    | loop c ih =>
      intro K K' hk σ h
      obtain ⟨α, I, μ, x, h1, h2⟩ := h
      refine ⟨α, I, μ, x, h1, fun x => ih _ _ (fun e σ h => ?_) _ (h2 x)⟩
      cases e with
      | normal => exact h
      | _ => exact hk _ _ h
    | exit id => intro K K' hk σ h; exact hk _ _ h
    | ret => intro K K' hk σ h; exact hk _ _ h
    | label l => intro K K' hk σ h; exact hk _ _ h
    | _ => intro K K' hk σ h; exact h.elim
  refine mono c _ _ (fun e σ h => ?_) _ (h x)
  cases e with
  | normal =>
    obtain ⟨x', h1, h2⟩ := h
    exact ⟨x', leL_le _ _ _ h1, h2⟩
  | _ => exact h
end Go.Proofs.YtnifjdhjimjihaaGreatDoor
