/- The engine, part E: the steps that leave memory alone are sound, all of them. -/
import Derived.Test.YtnifjdhjimjihaaGreatDoorED
set_option linter.unusedSimpArgs false
set_option linter.unusedVariables false
namespace Go.Proofs.YtnifjdhjimjihaaGreatDoor
open Go.RowKit Lim

section
variable {C : Ctx} {w0 w : World} {Z0 Z : Zone} {σ : AS} {a : Act} {β : Nat → Nat}

theorem offT_sound (S : Sim1 w0 Z0 σ a w Z β) {x : Operand} {o : Nat} {v : TV} (h : offT o (σ.get x) = some v) : ∃ b q, a.eval x = .pointer (some ⟨b, q, none⟩) ∧ RepT w Z β v (.pointer (some ⟨b, q + o, none⟩)) := by
  cases hx : σ.get x with
  | none => rw [hx] at h; cases h
  | some y =>
    rw [hx] at h
    have hg := S.get hx
    cases y with
    | av _ => cases h
    | skip => cases h
    | ref t off =>
      cases h
      exact ⟨_, _, hg, rfl⟩
    | ptr cs =>
      cases h
      obtain ⟨b, q, h1, h2⟩ := hg
      refine ⟨b, q, h1, b, q + o, rfl, fun j hj => ?_⟩
      simp at hj
      obtain ⟨u, q1, q2, q3⟩ := h2 (o + j) (by omega)
      rw [← Nat.add_assoc] at q1 q2
      exact ⟨u, q1, q2, by rw [List.getElem_drop]; exact q3⟩
theorem takeA_part {ty : TypeId} {i : TI} (h : TIOK C.P ty i) {cs : List AV} {vs : Array Value} (hr : Rep w Z (.agg cs) (.agg vs)) {o : Nat} {x : AV} (ht : takeA i (cs.drop o) = some x) : ∃ u, (part ty vs o).run C.P w = .ok u w ∧ Rep w Z x u := by
  obtain ⟨info, zv, h1, h2, _⟩ := h.inf
  have ha := run_isAgg h w
  obtain ⟨hl, hrr⟩ := Rep.agg_iff.1 hr
  unfold takeA at ht
  split at ht
  · rename_i fs hk
    rw [hk] at ha
    split at ht
    · rename_i hle
      cases ht
      simp at hle
      refine ⟨.agg (vs.extract o (o + i.zero.length)), by simp [part, ha, run_size h1, h2], ?_⟩
      rw [Rep.agg_iff]
      refine ⟨by simp; omega, fun j y v h3 h4 => ?_⟩
      have hj : j < i.zero.length := by
        have := (List.getElem?_eq_some_iff.1 h3).1
        simp at this
        omega
      rw [List.getElem?_take_of_lt hj, List.getElem?_drop] at h3
      rw [Array.getElem?_extract] at h4
      split at h4
      · exact hrr _ _ _ h3 h4
      · cases h4
    · cases ht
  · rename_i hk
    have ha' : (isAgg ty).run C.P w = .ok false w := by
      rw [ha]
      cases hkk : i.kind <;> first | rfl | exact absurd hkk (hk _)
    rw [List.head?_eq_getElem?, List.getElem?_drop, Nat.add_zero] at ht
    have hlt := (List.getElem?_eq_some_iff.1 ht).1
    have hv : vs[o]? = some (vs[o]'(by omega)) := Array.getElem?_eq_getElem (by omega)
    exact ⟨_, by simp [part, ha', hv], hrr _ _ _ ht hv⟩
theorem elemA_sound {k n : Nat} {s e : AV} {u : Value} (hs : Rep w Z s u) (h : elemA k s n e) : ∃ b o len cap, u = .slice (some ⟨b, o, none⟩) len cap ∧ n < len ∧ RepT w Z β (.ptr e.cells) (.pointer (some ⟨b, o + n * k, none⟩)) := by
  cases hs with
  | lit hv => exact h.elim
  | agg hl hr => exact h.elim
  | tup hl hr => exact h.elim
  | nil => exact absurd h.2 (by simp)
  | nat hr hc =>
    obtain ⟨rfl, x, hx, rfl⟩ := h
    obtain ⟨hlt, hx2⟩ := List.getElem?_eq_some_iff.1 hx
    obtain ⟨b, off, rfl, hb, hcell⟩ := hr.2 (by omega)
    refine ⟨b, off, _, _, rfl, hlt, b, off + n * 1, rfl, fun q hq => ?_⟩
    have : q = 0 := by simp [AV.cells] at hq; omega
    subst this
    have := hcell n hlt
    rw [hx2] at this
    exact ⟨_, by simpa using this, .inr rfl, Rep.lit rfl⟩
  | sl vs hb hc hk hm hr =>
    obtain ⟨rfl, hx⟩ := h
    obtain ⟨hlt, hx2⟩ := List.getElem?_eq_some_iff.1 hx
    subst hx2
    refine ⟨_, _, _, _, rfl, hlt, _, _, rfl, fun q hq => ?_⟩
    have h1 := hm n q hlt (by rw [← hk n hlt]; exact hq)
    exact ⟨_, h1.1, .inl h1.2, hr n hlt q hq⟩
theorem lenA_sound {s : AV} {n : Nat} {u : Value} (hs : Rep w Z s u) (h : lenA s = some n) : ∃ A c, u = .slice A n c := by
  cases hs with
  | lit hv =>
    unfold lenA at h
    split at h
    · rename_i heq; cases heq
    · rename_i heq; cases heq
    · rename_i heq; cases heq; cases h; exact ⟨_, _, rfl⟩
    · cases h
  | agg hl hr => cases h
  | tup hl hr => cases h
  | nil => cases h; exact ⟨_, _, rfl⟩
  | nat hr hc => cases h; exact ⟨_, _, rfl⟩
  | sl vs hb hc hk hm hr => cases h; exact ⟨_, _, rfl⟩
theorem optGet_cases {x : Option Operand} {y : Option TV} (h : optGet σ x = some y) : (x = none ∧ y = none) ∨ ∃ o v, x = some o ∧ y = some v ∧ σ.get o = some v := by
  cases x with
  | none => cases h; exact .inl ⟨rfl, rfl⟩
  | some o =>
    simp only [optGet, Option.map_eq_some_iff] at h
    obtain ⟨v, h1, h2⟩ := h
    exact .inr ⟨o, v, rfl, h2.symm, h1⟩
/-- A bound: none, or a number. -/
theorem bound_cases (S : Sim1 w0 Z0 σ a w Z β) {x : Option Operand} {y : Option TV} (h : optGet σ x = some y) {n m d : Nat} (hr : boundR n m d y) :
    (x.map a.eval = none ∧ m = d) ∨ ∃ k : IntKind, m ≤ n ∧ x.map a.eval = some (.int k (m : Int)) := by
  rcases optGet_cases h with ⟨rfl, rfl⟩ | ⟨o, v, rfl, rfl, hg⟩
  · exact .inl ⟨rfl, hr⟩
  · right
    unfold boundR at hr
    split at hr
    · rename_i heq; cases heq
    · rename_i k q heq
      cases heq
      obtain ⟨h0, h1, rfl⟩ := hr
      exact ⟨k, by omega, by simp only [Option.map_some]; rw [S.lit hg, Int.toNat_of_nonneg h0]⟩
    · exact hr.elim
theorem sliceR_sound (S : Sim1 w0 Z0 σ a w Z β) {lo hi : Option Operand} {lo' hi' : Option TV} {n cap l h : Nat} (isS : Bool) (h1 : optGet σ lo = some lo') (h2 : optGet σ hi = some hi') (hr : sliceR lo' hi' n l h) (hn : n ≤ cap) :
    (Instr.sliceBounds isS n cap (lo.map a.eval) (hi.map a.eval) none).run C.P w = .ok (l, h, cap) w ∧ l ≤ h ∧ h ≤ n := by
  obtain ⟨r1, r2⟩ := hr
  rcases bound_cases S h2 r1 with ⟨e1, rfl⟩ | ⟨k, b1, e1⟩
  · rcases bound_cases S h1 r2 with ⟨e2, rfl⟩ | ⟨k2, b2, e2⟩
    · exact ⟨by simp [Instr.sliceBounds, e1, e2], Nat.zero_le _, Nat.le_refl _⟩
    · refine ⟨?_, b2, Nat.le_refl _⟩
      simp [Instr.sliceBounds, e1, e2, Instr.sliceBound, asIntOf, b2]
  · have b3 : (h : Int) ≤ cap := by omega
    rcases bound_cases S h1 r2 with ⟨e2, rfl⟩ | ⟨k2, b2, e2⟩
    · refine ⟨?_, Nat.zero_le _, b1⟩
      simp [Instr.sliceBounds, e1, e2, Instr.sliceBound, asIntOf, Int.ofNat_le.1 b3]
    · refine ⟨?_, b2, b1⟩
      simp [Instr.sliceBounds, e1, e2, Instr.sliceBound, asIntOf, b2, Int.ofNat_le.1 b3]
theorem Rd.drop {A : Option Addr} {l : List Nat} (h : Rd w A l) (n : Nat) : Rd w (A.map (·.add n)) (l.drop n) :=
  ⟨dig_drop h.1 n, fun hl => by
    simp at hl
    obtain ⟨b, off, rfl, hb, hc⟩ := h.2 (by omega)
    refine ⟨b, off + n, by simp [add_addr], hb, fun j hj => ?_⟩
    simp at hj
    have := hc (n + j) (by omega)
    rw [List.getElem_drop, Nat.add_assoc]
    exact this⟩
end
end Go.Proofs.YtnifjdhjimjihaaGreatDoor
/- The engine, part F: whatever only computes and reads is sound. -/
namespace Go.Proofs.YtnifjdhjimjihaaGreatDoor
open Go.RowKit Lim

section
variable {C : Ctx} {w0 w : World} {Z0 Z : Zone} {σ : AS} {a : Act} {β : Nat → Nat}

theorem slice_nat {A : Option Addr} {es : List Nat} {c l h : Nat} (hr : Rd w A es) (hc : es.length ≤ c) (h1 : l ≤ h) (h2 : h ≤ es.length) : Rep w Z (.nat ((es.take h).drop l)) (.slice (if c = l then A else A.map (·.add (l * 1))) (h - l) (c - l)) := by
  have hlen : ((es.take h).drop l).length = h - l := by simp; omega
  rw [← hlen]
  refine .nat ?_ (by omega)
  split
  · have : (es.take h).drop l = [] := List.eq_nil_of_length_eq_zero (by omega)
    rw [this]
    exact Rd.nil _ _
  · rw [Nat.mul_one]
    exact (hr.take h).drop l
theorem slice_sl {A : Option Addr} {es : List AV} {k c l h : Nat} (hr : Rep w Z (.sl k es) (.slice A es.length c)) (h1 : l ≤ h) (h2 : h ≤ es.length) : Rep w Z (.sl k ((es.take h).drop l)) (.slice (if c = l then A else A.map (·.add (l * k))) (h - l) (c - l)) := by
  have hlen : ((es.take h).drop l).length = h - l := by simp; omega
  rw [← hlen]
  by_cases he : h - l = 0
  · have : (es.take h).drop l = [] := List.eq_nil_of_length_eq_zero (by omega)
    rw [this]
    exact .nil
  · cases hr with
    | nil => exact absurd h2 (by simp; omega)
    | sl vs hb hc hk hm hr =>
      rw [if_neg (by omega)]
      simp only [Option.map_some, add_addr]
      have hget : ∀ i (hi : i < ((es.take h).drop l).length) (hi' : l + i < es.length), ((es.take h).drop l)[i] = es[l + i] := fun i hi hi' => by
        rw [List.getElem_drop, List.getElem_take]
      refine .sl (fun i j => vs (l + i) j) hb (by omega) (fun i hi => ?_) (fun i j hi hj => ?_) (fun i hi j hj => ?_)
      · rw [hget i hi (by omega)]
        exact hk _ _
      · have := hm (l + i) j (by omega) hj
        rw [Nat.add_mul, ← Nat.add_assoc] at this
        exact this
      · have e := hget i hi (by omega)
        have := hr (l + i) (by omega) j (by rw [← e]; exact hj)
        simp only [e]
        exact this
theorem run_mapM {P : Program} {α γ : Type} (g : α → Sem γ) (f : α → γ) (w : World) : ∀ (l : List α) (acc : Array γ), (∀ x ∈ l, (g x).run P w = .ok (f x) w) → (l.foldlM (fun bs x => bs.push <$> g x) acc : Sem (Array γ)).run P w = .ok (acc ++ (l.map f).toArray) w
  | [], acc, _ => by simp
  | x :: l, acc, h => by
    have h1 := h x (by simp)
    have ih := run_mapM g f w l (acc.push (f x)) (fun y hy => h y (by simp [hy]))
    simp only [List.foldlM_cons, Sem.run_bind, Sem.run_map, h1, Result.andThen_ok, ih]
    simp
theorem run_places {P : Program} (fds : Array Field) (f : Field → Nat) (hf : ∀ fd ∈ fds, (Go.sizeOf fd.type).run P w = .ok (f fd) w) :
    (fds.mapM fun fd => do pure (fd.offset, ← Go.sizeOf fd.type) : Sem (Array (Nat × Nat))).run P w = .ok (fds.map fun fd => (fd.offset, f fd)) w := by
  rw [Array.mapM_eq_foldlM, ← Array.foldlM_toList, run_mapM (P := P) _ (fun fd => (fd.offset, f fd)) w fds.toList #[]]
  · congr 1
    apply Array.ext'
    simp
  · intro x hx
    have := hf x (by simpa using hx)
    simp [this]
set_option maxHeartbeats 1000000 in
theorem aval_sound (S : Sim1 w0 Z0 σ a w Z β) {o : Oper} {v : TV} (h : aval C σ o v) : ∃ u, (execOp a.eval o).run C.P w = .ok (.value u) w ∧ RepT w Z β v u := by
  obtain ⟨dst, op, type, pos, after, guard⟩ := o
  cases op with
  | move x => exact ⟨_, rfl, S.get h⟩
  | assign x => exact ⟨_, rfl, S.get h⟩
  | pick c x y =>
    obtain ⟨t, h1, h2⟩ := h
    refine ⟨_, ?_, S.get h2⟩
    simp only [execOp, S.lit h1, asBool]
    cases t <;> rfl
  | load ty x =>
    obtain ⟨i, cs, y, h1, h2, h3, rfl⟩ := h
    obtain ⟨b, q, e, hc⟩ := look_sound S h2
    obtain ⟨u, r1, r2⟩ := run_loadVar_A (C.hT _ _ h1) hc h3
    exact ⟨u, by simp [execOp, Instr.loadAt, Instr.sureAddr, e, r1], r2⟩
  | fieldAddr ty x f =>
    obtain ⟨fs, z, o, n, t, h1, h2, h3⟩ := h
    obtain ⟨b, q, e, hr⟩ := offT_sound S h3
    obtain ⟨fds, u1, _, u2⟩ := (C.hT _ _ h1).und
    obtain ⟨fd, v1, rfl, _, v3, fi, v4, v5⟩ := u2 f o n t h2
    refine ⟨_, ?_, hr⟩
    have hs : (Go.sizeOf fd.type).run C.P w = .ok fi.size w := run_size v4 w
    simp [execOp, Instr.fieldAt, run_under u1, v1, Instr.sureAddr, e, fieldPlace, hs, v5, v3, add_addr]
  | field ty x f =>
    obtain ⟨fs, z, o, n, t, cs, i, y, h1, h2, h3, h4, h5, rfl⟩ := h
    have hg : Rep w Z (.agg cs) (a.eval x) := S.get h3
    obtain ⟨fds, u1, _, u2⟩ := (C.hT _ _ h1).und
    obtain ⟨fd, v1, rfl, rfl, _⟩ := u2 f o n t h2
    simp only [execOp]
    generalize a.eval x = u0 at *
    cases hg with
    | agg hl hr =>
      obtain ⟨u, r1, r2⟩ := takeA_part (C.hT _ _ h4) (.agg hl hr) h5
      exact ⟨u, by simp [Instr.field, run_under u1, v1, asAgg, r1], r2⟩
  | extract x i =>
    obtain ⟨vs, y, h1, h2, rfl⟩ := h
    have hg : Rep w Z (.tup vs) (a.eval x) := S.get h1
    simp only [execOp]
    generalize a.eval x = u0 at *
    cases hg with
    | tup hl hr =>
      rename_i us
      obtain ⟨q1, rfl⟩ := List.getElem?_eq_some_iff.1 h2
      exact ⟨us[i]'(by omega), by simp [Instr.extract, Array.getElem?_eq_getElem (show i < us.size by omega)], hr i q1⟩
  | indexAddr ty x ix =>
    obtain ⟨e0, k, l, z, s, q, n, e, h1, h2, h3, h4, h5, rfl⟩ := h
    obtain ⟨u1, ei, u2, u3⟩ := (C.hT _ _ h1).und
    obtain ⟨b, o, len, cap, r1, r2, r3⟩ := elemA_sound (β := β) (S.get h2) h5
    refine ⟨_, ?_, r3⟩
    have hlt : n < (len : Int) := by omega
    simp [execOp, Instr.indexAt, S.lit h3, asIntOf, run_under u1, r1, h4, hlt, run_size u2, u3, add_addr]
  | index ty x ix =>
    obtain ⟨z, s, q, n, b, h1, h2, h3, h4, h5, rfl⟩ := h
    have u1 : C.P.underlying ty = some .string := (C.hT _ _ h1).und
    refine ⟨.int .u8 (b.toNat : Nat), ?_, Rep.lit rfl⟩
    have h6 : s[n.toNat]? = some b := by
      obtain ⟨q1, q2⟩ := List.getElem?_eq_some_iff.1 h5
      have hlt : n.toNat < s.size := by simpa using q1
      rw [getElem?_pos s n.toNat hlt]
      exact congrArg some q2
    simp [execOp, Instr.index, S.lit h2, S.lit h3, asIntOf, run_under u1, h4, h6]
  | binOp op ty x y yt =>
    obtain ⟨p, q, r, h1, h2, h3, rfl⟩ := h
    obtain ⟨r1, r2⟩ := binR_sound (P := C.P) (ty := ty) (fun hb => isBoolT_sound hb) h3 x y w
    refine ⟨r, ?_, Rep.lit r2⟩
    simp only [execOp, S.lit h1, S.lit h2]
    rw [Sem.run_bind, r1]
    rfl
  | unOp op xt x =>
    obtain ⟨p, r, h1, h2, rfl⟩ := h
    obtain ⟨r1, r2⟩ := unR_sound (P := C.P) h2 w
    refine ⟨r, ?_, Rep.lit r2⟩
    simp only [execOp, S.lit h1]
    rw [Sem.run_bind, r1]
    rfl
  | convert src dst x =>
    obtain ⟨i, j, k, z, m, n, h1, h2, rfl, h4, rfl⟩ := h
    have u2 : C.P.underlying dst = some (.int k) := (C.hT _ _ h2).und
    refine ⟨_, ?_, Rep.lit rfl⟩
    have u1 : ∃ d, C.P.underlying src = some d := by
      have := (C.hT _ _ h1).und
      cases hk : i.kind <;> rw [hk] at this <;> simp only at this
      · obtain ⟨d, hd, _⟩ := this; exact ⟨d, hd⟩
      · exact ⟨_, this⟩
      · exact ⟨_, this⟩
      · exact ⟨_, this⟩
      · obtain ⟨d, hd, _⟩ := this; exact ⟨_, hd⟩
      · exact ⟨_, this.1⟩
    obtain ⟨d, u1⟩ := u1
    simp [execOp, convert, run_under u1, run_under u2, S.lit h4, Conv.intToInt]
  | build ty parts =>
    obtain ⟨fs, z, cs, h1, h2, rfl⟩ := h
    obtain ⟨zv, z1, z2⟩ := run_zero (C.hT _ _ h1) w
    obtain ⟨fds, u1, u0, u2⟩ := (C.hT _ _ h1).und
    have hpl : ∃ places : Array (Nat × Nat), (fds.mapM fun f => do pure (f.offset, ← Go.sizeOf f.type) : Sem (Array (Nat × Nat))).run C.P w = .ok places w ∧ ∀ (f o n : Nat) (t : TypeId), fs[f]? = some (o, n, t) → places[f]? = some (o, n) := by
      refine ⟨fds.map fun fd => (fd.offset, ((C.P.info? fd.type).map (·.size)).getD 0), run_places fds _ fun fd hfd => ?_, fun f o n t hf => ?_⟩
      · obtain ⟨f, hlt, rfl⟩ := Array.mem_iff_getElem.1 hfd
        obtain ⟨⟨o, n, t⟩, hp⟩ : ∃ p, fs[f]? = some p := ⟨_, List.getElem?_eq_getElem (by omega)⟩
        obtain ⟨fd, v1, _, _, _, fi, v4, v5⟩ := u2 f o n t hp
        rw [Array.getElem?_eq_getElem hlt] at v1
        cases v1
        rw [run_size v4, v4]
        rfl
      · obtain ⟨fd, v1, rfl, rfl, _, fi, v4, rfl⟩ := u2 f o n t hf
        simp [v1, v4]
    obtain ⟨places, p1, p2⟩ := hpl
    obtain ⟨vs', q1, q2⟩ := fill_sound S (place := (places[·]?)) p2 parts.toList z zv.cells cs (z2 w Z) h2
    refine ⟨.agg vs', ?_, q2⟩
    have e : (parts.map fun (i, x) => (i, a.eval x)).toList = parts.toList.map fun (i, x) => (i, a.eval x) := by simp
    simp only [execOp, Instr.build, Sem.run_bind, z1, Result.andThen_ok, run_under u1, p1, e, q1]
    rfl
  | slice ty x lo hi mx =>
    cases mx with
    | some m => exact h.elim
    | none =>
      obtain ⟨i, lo', hi', h1, h2, h3, h4⟩ := h
      have hu := (C.hT _ _ h1).und
      split at h4
      · rename_i s hk hx
        rw [hk] at hu
        obtain ⟨l, hh, h5, rfl⟩ := h4
        obtain ⟨b1, b2, b3⟩ := sliceR_sound S (C := C) (cap := s.size) false h2 h3 h5 (Nat.le_refl _)
        exact ⟨_, by simp [execOp, Instr.sliceAt, Instr.slice, run_under hu, S.lit hx, b1], Rep.lit rfl⟩
      · rename_i e0 k lm k' es hk hx
        rw [hk] at hu
        obtain ⟨rfl, l, hh, h5, rfl⟩ := h4
        obtain ⟨u1, ei, u2, u3⟩ := hu
        have hg : Rep w Z (.sl k es) (a.eval x) := S.get hx
        have hg2 : ∃ A c, a.eval x = .slice A es.length c ∧ es.length ≤ c := by
          obtain ⟨A, c, e⟩ := lenA_sound hg rfl
          refine ⟨A, c, e, ?_⟩
          rw [e] at hg
          cases hg with
          | nil => simp
          | sl vs hb hc hk hm hr => exact hc
        obtain ⟨A, c, e, hc⟩ := hg2
        rw [e] at hg
        obtain ⟨b1, b2, b3⟩ := sliceR_sound S (C := C) (cap := c) true h2 h3 h5 hc
        refine ⟨_, ?_, slice_sl (l := l) (h := hh) hg b2 b3⟩
        simp [execOp, Instr.sliceAt, Instr.slice, run_under u1, e, b1, run_size u2, u3]
      · rename_i e0 k lm es hk hx
        rw [hk] at hu
        obtain ⟨rfl, l, hh, h5, rfl⟩ := h4
        obtain ⟨u1, ei, u2, u3⟩ := hu
        have hg : Rep w Z (.nat es) (a.eval x) := S.get hx
        simp only [execOp]
        generalize a.eval x = u0 at *
        cases hg with
        | nat hr hc =>
          obtain ⟨b1, b2, b3⟩ := sliceR_sound S (C := C) true h2 h3 h5 hc
          refine ⟨_, ?_, slice_nat (l := l) (h := hh) hr hc b2 b3⟩
          simp [Instr.sliceAt, Instr.slice, run_under u1, b1, run_size u2, u3]
      · exact h4.elim
  | nilCheck x =>
    simp only [aval] at h
    split at h
    · rename_i t off hx
      subst h
      have e : a.eval x = .pointer (some ⟨β t, off, none⟩) := S.get hx
      exact ⟨_, by simp [execOp, e], rfl⟩
    · rename_i cs hx
      subst h
      have hg := S.get hx
      obtain ⟨b, q, e, hc⟩ := hg
      exact ⟨_, by simp [execOp, e], b, q, rfl, hc⟩
    · exact h.elim
  | call c =>
    simp only [aval] at h
    split at h
    · rename_i hc
      obtain ⟨x, ty, i, h1, h2, h3, h4⟩ := h
      obtain ⟨callee, args, argTypes⟩ := c
      simp only at hc h1 h2
      subst hc h1 h2
      have hu := (C.hT _ _ h3).und
      split at h4
      · rename_i s hk hx
        rw [hk] at hu
        subst h4
        exact ⟨_, by simp [execOp, resolve, invoke, builtin, Builtin.len_, run_under hu, S.lit hx, goInt], Rep.lit rfl⟩
      · rename_i e0 k lm s hk hx
        rw [hk] at hu
        obtain ⟨n, h5, rfl⟩ := h4
        obtain ⟨A, c, e⟩ := lenA_sound (S.get hx) h5
        exact ⟨_, by simp [execOp, resolve, invoke, builtin, Builtin.len_, run_under hu.1, e, goInt], Rep.lit rfl⟩
      · exact h4.elim
    · exact h.elim
  | _ => exact h.elim
end
end Go.Proofs.YtnifjdhjimjihaaGreatDoor
/- The engine, part G: the steps that turn memory, and calls. -/
namespace Go.Proofs.YtnifjdhjimjihaaGreatDoor
open Go.RowKit Lim

def grown (Z : Zone) (w w' : World) : Zone := fun b o => Z b o ∨ (w.heap.size ≤ b ∧ b < w'.heap.size)
def FnOK (P : Program) (f : FuncId) : Prop := ∃ fn, P.funcs[f]? = some fn ∧ (fn.name == "runtime.NumGoroutine") = false ∧ fn.body.isNone = false
/-- The contract of a function: from arguments that read so it returns what reads so; nothing that was there has turned. -/
def ACalls (C : Ctx) (f : FuncId) (args : List AV) (r : AV) : Prop :=
  FnOK C.P f ∧ ∀ w Z vs, C.E w → (∀ b o, Z b o → b < w.heap.size) → Rep w Z (.agg args) (.agg vs) →
    Calls C.P f vs w fun e w' => ∃ v, e = .returned v ∧ Below w.heap.size w w' ∧ Rep w' (grown Z w w') r v

def AS.args (T : TyTab) (σ : AS) : List Operand → List TypeId → Option (List AV)
  | [], _ => some []
  | x :: xs, tys =>
    match σ.get x with
    | some (.av a) => (AS.args T σ xs tys.tail).map (normA T (tys.headD 0) a :: ·)
    | _ => none
def natsR : List AV → List Nat → Prop
  | [], l => l = []
  | .lit (.int .u32 x) :: es, l => 0 ≤ x ∧ x < 4294967296 ∧ ∃ l', natsR es l' ∧ l = x.toNat :: l'
  | _, _ => False
def chunk (k : Nat) : Nat → List AV → List AV
  | 0, _ => []
  | n + 1, cs => (match k, cs with | 1, c :: _ => c | k, cs => .agg (cs.take k)) :: chunk k n (cs.drop k)
def places (k : Nat) (e : TypeId) : Nat → Nat → List (Nat × Nat × TypeId)
  | 0, _ => []
  | n + 1, o => (o, k, e) :: places k e n (o + k)

/-- One operation, carried out. -/
def astep (C : Ctx) (o : Oper) (σ : AS) (K : AS → Prop) : Prop :=
  match o.op with
  | .alloc ty => ∃ t i, o.dst = some t ∧ C.T ty = some i ∧ i.zero.all AV.one = true ∧ i.zero.all AV.noLimb = true ∧ K (σ.new t i.zero)
  | .box _ x => ∃ t y, o.dst = some t ∧ σ.get x = some (.av y) ∧ y.cells.all AV.one = true ∧ y.cells.all AV.noLimb = true ∧ K (σ.new t y.cells)
  | .store ty x y => ∃ i t off cs z, C.T ty = some i ∧ σ.get x = some (.ref t off) ∧ σ.mem t = some cs ∧ σ.get y = some (.av z) ∧
      (normA C.T ty z).cells.length = i.zero.length ∧ off + (normA C.T ty z).cells.length ≤ cs.length ∧ (normA C.T ty z).cells.all AV.one = true ∧ (normA C.T ty z).cells.all AV.noLimb = true ∧
      K ((σ.setMem t (splice cs off (normA C.T ty z).cells)).put o.dst .skip)
  | .buildSlice ty n parts => ∃ e k l z i cs, C.T ty = some ⟨.slc e k l, z⟩ ∧ C.T e = some i ∧ i.zero.length = k ∧ 0 < k ∧ n * k ≤ 16777216 ∧
      fillA C.T σ (places k e n 0) (List.replicate n i.zero).flatten parts.toList = some cs ∧ cs.all AV.one = true ∧
      (match l with
       | true => k = 1 ∧ ∃ ns, natsR cs ns ∧ K (σ.put o.dst (.av (.nat ns)))
       | false => K (σ.put o.dst (.av (.sl k (chunk k n cs)))))
  | .call c => (match c.callee with
    | .value (.func f) => ∃ args r, σ.args C.T c.args.toList c.argTypes.toList = some args ∧ ACalls C f args r ∧ K (σ.put o.dst (.av r))
    | _ => ∃ v, aval C σ o v ∧ K (σ.put o.dst v))
  | _ => ∃ v, aval C σ o v ∧ K (σ.put o.dst v)

section
variable {C : Ctx} {w0 w : World} {Z0 Z : Zone} {σ : AS} {a : Act} {β : Nat → Nat}

theorem args_sound (S : Sim1 w0 Z0 σ a w Z β) : ∀ (xs : List Operand) (tys : List TypeId) (args : List AV), σ.args C.T xs tys = some args → Rep w Z (.agg args) (.agg (xs.map a.eval).toArray)
  | [], tys, args, h => by
    cases h
    exact Rep.agg_iff.2 ⟨rfl, fun j x u h1 => by simp at h1⟩
  | x :: xs, tys, args, h => by
    unfold AS.args at h
    split at h
    · rename_i y hy
      simp only [Option.map_eq_some_iff] at h
      obtain ⟨l, h1, rfl⟩ := h
      obtain ⟨q1, q2⟩ := Rep.agg_iff.1 (args_sound S xs _ l h1)
      refine Rep.agg_iff.2 ⟨by simpa using q1, fun j z u h2 h3 => ?_⟩
      cases j with
      | zero =>
        simp at h2 h3
        subst h2 h3
        exact normA_sound (S.get hy)
      | succ j =>
        simp at h2 h3
        exact q2 j z u h2 (by simpa using h3)
    · cases h
theorem run_enter {P : Program} {f : FuncId} (h : FnOK P f) (args : Array Value) (w : World) : (callFunc f args).run P w = .ok (.enter f args) w := by
  obtain ⟨fn, h1, h2, h3⟩ := h
  simp only [callFunc, Sem.run_bind, run_program, Result.andThen_ok, h1, h2, h3, Bool.false_eq_true, if_false]
  rfl
theorem keeps_loc {g : Nat} {cs : List AV} (h : Loc w Z g cs) (cells : Array Value) : Keeps Z w (w.setRow g cells) := by
  obtain ⟨vs, ty, hb, hr⟩ := h.ex
  obtain ⟨hl, hrr⟩ := Rep.agg_iff.1 hr
  have far : ∀ b o, b ≠ g → (w.setRow g cells).cell? ⟨b, o, none⟩ = w.cell? ⟨b, o, none⟩ := fun b o hne => by
    simp [World.cell?, World.setRow, Array.getElem?_modify, Ne.symm hne]
  refine ⟨by simp [World.setRow], fun b o v hz hc => ?_, fun b o v hv hc => ?_⟩
  · by_cases e : b = g
    · subst e; exact absurd hz (h.out o)
    · rw [far b o e]; exact hc
  · by_cases e : b = g
    · subst e
      rw [hb.cell] at hc
      have hlt := (Array.getElem?_eq_some_iff.1 hc).1
      have hx : cs[o]? = some (cs[o]'(by omega)) := List.getElem?_eq_getElem (by omega)
      have h1 := (hrr o _ _ hx hc).noLimb (List.all_eq_true.1 h.nl _ (List.getElem_mem (by omega)))
      rw [hv] at h1
      cases h1
    · rw [far b o e]; exact hc
/-- A variable of the call's own is written. -/
theorem Sim1.set (S : Sim1 w0 Z0 σ a w Z β) {t : Nat} {cs cs' : List AV} {cells : Array Value} (ht : σ.mem t = some cs) (hr : Rep w Z (.agg cs') (.agg cells)) (h1 : cs'.all AV.one = true) (h2 : cs'.all AV.noLimb = true) : Sim1 w0 Z0 (σ.setMem t cs') a (w.setRow (β t) cells) Z β := by
  obtain ⟨g1, hL⟩ := S.mem t cs ht
  have hk := keeps_loc hL cells
  obtain ⟨vs, ty, hb, _⟩ := hL.ex
  have hblk : ∀ b, b ≠ β t → (w.setRow (β t) cells).heap[b]? = w.heap[b]? := fun b hne => by simp [World.setRow, Array.getElem?_modify, Ne.symm hne]
  refine ⟨S.z0, fun b o h => ?_, fun x y h => ⟨(S.tm x y h).1, (S.tm x y h).2.keep hk (fun _ _ h => h)⟩, fun x ys h => ?_, fun x y xs ys hx hy hxy => ?_, ?_, S.defers⟩
  · rcases S.z1 b o h with h | h
    · exact .inl h
    · exact .inr ⟨h.1, by simpa [World.setRow] using h.2⟩
  · simp only [AS.setMem, upd] at h
    by_cases e : x = t
    · subst e
      simp at h
      subst h
      refine ⟨g1, ⟨cells, ty, ?_, hr.keep hk (fun _ _ h => h)⟩, h1, h2, hL.out⟩
      exact setRow_heap w (β x) vs cells ty (0, 0) hb
    · rw [if_neg e] at h
      obtain ⟨g2, hL2⟩ := S.mem x ys h
      exact ⟨g2, hL2.keep (hblk _ fun he => e (S.inj x t ys cs h ht he)) hk (fun _ _ h => h) hL2.out⟩
  · have hmem : ∀ z zs, (σ.setMem t cs').mem z = some zs → ∃ zs', σ.mem z = some zs' := fun z zs hz => by
      simp only [AS.setMem, upd] at hz
      by_cases e : z = t
      · subst e; exact ⟨cs, ht⟩
      · rw [if_neg e] at hz; exact ⟨zs, hz⟩
    obtain ⟨xs', hx'⟩ := hmem x xs hx
    obtain ⟨ys', hy'⟩ := hmem y ys hy
    exact S.inj x y xs' ys' hx' hy' hxy
  · exact S.below.trans ⟨rfl, rfl, rfl, by simp [World.setRow], fun k hk => hblk k (by omega)⟩
end
end Go.Proofs.YtnifjdhjimjihaaGreatDoor
/- The engine, part H: every step is sound. -/
namespace Go.Proofs.YtnifjdhjimjihaaGreatDoor
open Go.RowKit Lim

section
variable {C : Ctx} {w0 w : World} {Z0 Z : Zone} {σ : AS} {a : Act} {β : Nat → Nat}

theorem Rep.lit_eq {v u : Value} (h : Rep w Z (.lit v) u) : u = v := by cases h; rfl
theorem put_size (a : Act) (d : Option Tmp) (v : Value) : (a.put d v).tmps.size = a.tmps.size := by cases d <;> simp [Act.put]
theorem flat_get (z : List AV) : ∀ (n j : Nat), j < n * z.length → (List.replicate n z).flatten[j]? = z[j % z.length]?
  | 0, j, h => by omega
  | n + 1, j, h => by
    rw [List.replicate_succ, List.flatten_cons]
    by_cases hj : j < z.length
    · rw [List.getElem?_append_left hj, Nat.mod_eq_of_lt hj]
    · rw [List.getElem?_append_right (by omega), flat_get z n (j - z.length) (by rw [Nat.add_mul] at h; omega)]
      congr 1
      exact (Nat.mod_eq_sub_mod (by omega)).symm
theorem flat_len (z : List AV) (n : Nat) : (List.replicate n z).flatten.length = n * z.length := by simp
theorem places_get (k : Nat) (e : TypeId) : ∀ (n o f : Nat) (p : Nat × Nat × TypeId), (places k e n o)[f]? = some p → p = (o + f * k, k, e) ∧ f < n
  | 0, o, f, p, h => by simp [places] at h
  | n + 1, o, f, p, h => by
    cases f with
    | zero => simp [places] at h; subst h; simp
    | succ f =>
      simp only [places, List.getElem?_cons_succ] at h
      obtain ⟨h1, h2⟩ := places_get k e n (o + k) f p h
      refine ⟨?_, by omega⟩
      rw [h1, Nat.add_mul]
      congr 1
      omega
theorem chunk_len (k : Nat) : ∀ (n : Nat) (cs : List AV), (chunk k n cs).length = n
  | 0, _ => rfl
  | n + 1, cs => by simp [chunk, chunk_len k n]
/-- What a slice literal lays. -/
theorem chunk_get (k : Nat) (hk : 0 < k) : ∀ (n : Nat) (cs : List AV), cs.length = n * k → cs.all AV.one = true → ∀ i (hi : i < (chunk k n cs).length), ((chunk k n cs)[i]'hi).cells.length = k ∧ ∀ j, j < k → ((chunk k n cs)[i]'hi).cells[j]? = cs[i * k + j]?
  | 0, cs, _, _, i, hi => by simp [chunk] at hi
  | n + 1, cs, hl, ho, i, hi => by
    rw [Nat.add_mul] at hl
    cases i with
    | zero =>
      simp only [chunk, List.getElem_cons_zero, Nat.zero_mul, Nat.zero_add]
      split
      · rename_i c rest
        have hc : c.one = true := by simp at ho; exact ho.1
        have : c.cells = [c] := by cases c <;> first | rfl | (simp [AV.one] at hc)
        rw [this]
        refine ⟨rfl, fun j hj => ?_⟩
        obtain rfl : j = 0 := by omega
        rfl
      · refine ⟨by simp [AV.cells]; omega, fun j hj => ?_⟩
        simp only [AV.cells]
        rw [List.getElem?_take_of_lt hj]
    | succ i =>
      have hi' : i < (chunk k n (cs.drop k)).length := by simpa [chunk] using hi
      have := chunk_get k hk n (cs.drop k) (by simp; omega) (by rw [List.all_eq_true] at ho ⊢; exact fun x hx => ho x (List.mem_of_mem_drop hx)) i hi'
      simp only [chunk, List.getElem_cons_succ]
      refine ⟨this.1, fun j hj => ?_⟩
      rw [this.2 j hj, List.getElem?_drop]
      congr 1
      rw [Nat.add_mul]
      omega
theorem natsR_sound : ∀ (cs : List AV) (ns : List Nat), natsR cs ns → Dig ns ∧ cs.length = ns.length ∧ ∀ (j : Nat) (x : Nat), ns[j]? = some x → cs[j]? = some (.lit (.int .u32 (x : Nat)))
  | [], ns, h => by
    cases h
    exact ⟨dig_nil, rfl, fun j x hx => by simp at hx⟩
  | c :: cs, ns, h => by
    unfold natsR at h
    split at h
    · rename_i heq; cases heq
    · rename_i x es heq
      cases heq
      obtain ⟨h0, h1, l', h2, rfl⟩ := h
      obtain ⟨q1, q2, q3⟩ := natsR_sound cs l' h2
      refine ⟨fun y hy => ?_, by simp [q2], fun j y hy => ?_⟩
      · simp at hy
        rcases hy with rfl | hy
        · omega
        · exact q1 y hy
      · cases j with
        | zero =>
          simp at hy
          subst hy
          simp [Int.toNat_of_nonneg h0]
        | succ j =>
          simp at hy
          simpa using q3 j y hy
    · exact h.elim
theorem Sim1.zlt (S : Sim1 w0 Z0 σ a w Z β) (hz0 : ∀ b o, Z0 b o → b < w0.heap.size) : ∀ b o, Z b o → b < w.heap.size := fun b o h => by
  rcases S.z1 b o h with h1 | h1
  · exact Nat.lt_of_lt_of_le (hz0 b o h1) S.below.size
  · exact h1.2
/-- A slice literal. -/
theorem run_buildSlice {ty e : TypeId} {n : Nat} {z : List AV} {k : Nat} {l : Bool} (S : Sim1 w0 Z0 σ a w Z β) (h1 : C.T ty = some ⟨.slc e k l, z⟩) {i : TI} (h2 : C.T e = some i) (h3 : i.zero.length = k) (h4 : 0 < k) (h5 : n * k ≤ 16777216) {parts : Array (Nat × Operand)} {cs : List AV}
    (h6 : fillA C.T σ (places k e n 0) (List.replicate n i.zero).flatten parts.toList = some cs) :
    ∃ vs : Array Value, (Instr.buildSlice ty n (parts.map fun (i, x) => (i, a.eval x))).run C.P w = .ok (.slice (some ⟨w.heap.size, 0, none⟩) n n) (w.alloc (.cells vs e)) ∧ Rep w Z (.agg cs) (.agg vs) := by
  obtain ⟨u1, ei, u2, u3⟩ := (C.hT _ _ h1).und
  obtain ⟨zv, z1, z2⟩ := run_zero (C.hT _ _ h2) w
  obtain ⟨y1, y2⟩ := Rep.agg_iff.1 (z2 w Z)
  have hzs : zv.cells.size = k := by rw [y1, h3]
  have hstart : Rep w Z (.agg (List.replicate n i.zero).flatten) (.agg ((Array.range (n * k)).map (zv.cells[· % zv.cells.size]!))) := by
    refine Rep.agg_iff.2 ⟨by simp [h3], fun j x u q1 q2 => ?_⟩
    have hj : j < n * k := by have := (List.getElem?_eq_some_iff.1 q1).1; rw [flat_len, h3] at this; exact this
    rw [flat_get i.zero n j (by rw [h3]; exact hj), h3] at q1
    have hjk : j % k < k := Nat.mod_lt _ h4
    refine y2 (j % k) x u q1 ?_
    simp [Array.getElem?_map, hj, hzs] at q2
    rw [← q2, getElem!_pos zv.cells (j % k) (by omega)]
    exact Array.getElem?_eq_getElem (by omega)
  obtain ⟨vs', q1, q2⟩ := fill_sound S (C := C) (place := fun i => some (i * k, k)) (fs := places k e n 0) (fun f o m t hf => by
    obtain ⟨hp, _⟩ := places_get k e n 0 f _ hf
    simp at hp
    obtain ⟨rfl, rfl, _⟩ := hp
    rfl) parts.toList _ _ cs hstart h6
  refine ⟨vs', ?_, q2⟩
  have ep : (parts.map fun (i, x) => (i, a.eval x)).toList = parts.toList.map fun x => (x.1, a.eval x.2) := by simp
  have q1' : Instr.fill (fun i => some (i * k, k)) ((Array.range (n * k)).map (zv.cells[· % zv.cells.size]!)) (parts.toList.map fun x => (x.1, a.eval x.2)) = some vs' := q1
  by_cases hn : n * k = 0
  · have e0 : (Array.range (n * k)).map (zv.cells[· % zv.cells.size]!) = (Array.range (n * k)).map ((#[] : Array Value)[· % (#[] : Array Value).size]!) := by rw [hn]; simp
    rw [e0] at q1'
    simp only [Instr.buildSlice, Sem.run_bind, run_under u1, run_size u2, u3, Result.andThen_ok, show ¬ (n * k > 2 ^ 24) by omega, if_false, Sem.run_pure, if_pos hn, ep, q1']
    rfl
  · simp only [Instr.buildSlice, Sem.run_bind, run_under u1, run_size u2, u3, Result.andThen_ok, show ¬ (n * k > 2 ^ 24) by omega, if_false, Sem.run_pure, if_neg hn, ep, z1, q1']
    rfl
def Sim (w0 : World) (Z0 : Zone) (N : Nat) (σ : AS) (a : Act) (w : World) : Prop := (∃ Z β, Sim1 w0 Z0 σ a w Z β) ∧ a.tmps.size = N

set_option maxHeartbeats 1000000 in
theorem astep_sound {N : Nat} (S0 : Sim w0 Z0 N σ a w) (hE : C.E w0) (hz0 : ∀ b o, Z0 b o → b < w0.heap.size) {o : Oper} (hd : ∀ t, o.dst = some t → t < N) {K : AS → Prop} {Q : Exit → Act → World → Prop} (h : astep C o σ K) :
    o.wp C.P a w (fun a' w' => ∃ σ', K σ' ∧ Sim w0 Z0 N σ' a' w') Q := by
  obtain ⟨⟨Z, β, S⟩, hN⟩ := S0
  have hd' : ∀ t, o.dst = some t → t < a.tmps.size := fun t ht => by rw [hN]; exact hd t ht
  have val : (∃ v, aval C σ o v ∧ K (σ.put o.dst v)) → o.wp C.P a w (fun a' w' => ∃ σ', K σ' ∧ Sim w0 Z0 N σ' a' w') Q := by
    rintro ⟨v, h1, h2⟩
    obtain ⟨u, r1, r2⟩ := aval_sound S h1
    unfold Oper.wp
    rw [r1, Oper.upon_value]
    exact ⟨_, h2, ⟨Z, β, S.put hd' r2⟩, by rw [put_size, hN]⟩
  obtain ⟨dst, op, type, pos, after, guard⟩ := o
  cases op with
  | alloc ty =>
    obtain ⟨t, i, ht, h1, h2, h3, h4⟩ := h
    obtain rfl : dst = some t := ht
    obtain ⟨zv, z1, z2⟩ := run_zero (C.hT _ _ h1) w
    have hr : (execOp a.eval ⟨some t, .alloc ty, type, pos, after, guard⟩).run C.P w = .ok (.value (.pointer (some ⟨w.heap.size, 0, none⟩))) (w.alloc (.cells zv.cells ty)) := by
      simp [execOp, Instr.alloc, z1, newVar, newRow]
    unfold Oper.wp
    rw [hr, Oper.upon_value]
    exact ⟨_, h4, ⟨Z, _, S.new hz0 (hd' t rfl) (z2 w Z) h2 h3⟩, by rw [put_size, hN]⟩
  | box ty x =>
    obtain ⟨t, y, ht, h1, h2, h3, h4⟩ := h
    obtain rfl : dst = some t := ht
    have hg : Rep w Z y (a.eval x) := S.get h1
    have hr : (execOp a.eval ⟨some t, .box ty x, type, pos, after, guard⟩).run C.P w = .ok (.value (.pointer (some ⟨w.heap.size, 0, none⟩))) (w.alloc (.cells (a.eval x).cells ty)) := by
      simp [execOp, Instr.box, newVar, newRow]
    unfold Oper.wp
    rw [hr, Oper.upon_value]
    obtain ⟨c1, c2⟩ := hg.cells
    exact ⟨_, h4, ⟨Z, _, S.new hz0 (hd' t rfl) (.agg c1 fun j hj => c2 j hj (by omega)) h2 h3⟩, by rw [put_size, hN]⟩
  | store ty x y =>
    obtain ⟨i, t, off, cs, z, h1, h2, h3, h4, h5, h6, h7, h8, h9⟩ := h
    obtain ⟨info, _, i1, i2, _⟩ := (C.hT _ _ h1).inf
    have ex : a.eval x = .pointer (some ⟨β t, off, none⟩) := S.get h2
    have hg := normA_sound (T := C.T) (ty := ty) (S.get h4 : Rep w Z z (a.eval y))
    obtain ⟨c1, c2⟩ := hg.cells
    obtain ⟨_, hL⟩ := S.mem t cs h3
    obtain ⟨vs, ty', hb, hr⟩ := hL.ex
    obtain ⟨l1, l2⟩ := Rep.agg_iff.1 hr
    generalize normA C.T ty z = zz at *
    have hone : ∀ v ∈ (a.eval y).cells.toList, v.oneCell' = true := fun v hv => by
      obtain ⟨j, hj, rfl⟩ := List.mem_iff_getElem.1 hv
      simp at hj
      have := (c2 j (by omega) hj).one (List.all_eq_true.1 h7 _ (List.getElem_mem (by omega)))
      simpa using this
    have hst := run_storeCells_at (P := C.P) (β t) off ty' (a.eval y).cells.toList 0 vs w hb (by simp; omega) hone
    have hrun : (execOp a.eval ⟨dst, .store ty x y, type, pos, after, guard⟩).run C.P w = .ok .skip (w.setRow (β t) (layV vs off (a.eval y).cells)) := by
      have hlay : layV vs off (a.eval y).cells = (vs.toList.take (off + 0) ++ (a.eval y).cells.toList ++ vs.toList.drop (off + 0 + (a.eval y).cells.toList.length)).toArray := by
        rw [layV_eq (by omega)]
        simp [splice]
      simp only [execOp, Instr.storeAt, Instr.sureAddr, ex, storeVar, Sem.run_bind, Sem.run_pure, Result.andThen_ok, run_size i1]
      rw [if_neg (by simp; omega)]
      simp only [Sem.run_bind, Sem.run_pure, Result.andThen_ok, hst, hlay]
    unfold Oper.wp
    rw [hrun, Oper.upon_skip]
    have hnew := layV_rep (o := off) hr hg h6
    have hall : ∀ p : AV → Bool, cs.all p = true → zz.cells.all p = true → (splice cs off zz.cells).all p = true := fun p q1 q2 => by
      rw [List.all_eq_true] at *
      intro v hv
      simp only [splice, List.mem_append] at hv
      rcases hv with (hv | hv) | hv
      · exact q1 v (List.mem_of_mem_take hv)
      · exact q2 v hv
      · exact q1 v (List.mem_of_mem_drop hv)
    have S2 := S.set h3 hnew (hall _ hL.one h7) (hall _ hL.nl h8)
    exact ⟨_, h9, ⟨Z, β, S2.put hd' rfl⟩, by rw [put_size, hN]⟩
  | buildSlice ty n parts =>
    obtain ⟨e, k, l, z, i, cs, h1, h2, h3, h4, h5, h6, h7, h8⟩ := h
    obtain ⟨vs, r1, r2⟩ := run_buildSlice S h1 h2 h3 h4 h5 h6
    have hb : Below w.heap.size w (w.alloc (.cells vs e)) := (Below.refl _ _).alloc (Nat.le_refl _) _
    have hbox := Box.new w vs e
    have hk : Keeps Z w (w.alloc (.cells vs e)) := Keeps.ofBelow hb
    obtain ⟨l1, l2⟩ := Rep.agg_iff.1 r2
    have hcl : cs.length = n * k := by rw [fillA_len _ _ _ h6, flat_len, h3]
    have S2 := S.grow (Z' := grown Z w (w.alloc (.cells vs e))) hb (fun _ _ h => .inl h) (fun _ _ h => h)
    unfold Oper.wp
    simp only [execOp, Sem.run_bind, r1, Result.andThen_ok, Sem.run_pure, Oper.upon_value]
    have hcell : ∀ j (hj : j < cs.length), (w.alloc (.cells vs e)).cell? ⟨w.heap.size, j, none⟩ = some (vs[j]'(by omega)) := fun j hj => by
      rw [hbox.cell]; exact Array.getElem?_eq_getElem (by omega)
    cases l with
    | true =>
      obtain ⟨rfl, ns, h8, h9⟩ := h8
      obtain ⟨n1, n2, n3⟩ := natsR_sound cs ns h8
      refine ⟨_, h9, ⟨_, β, S2.put hd' ?_⟩, by rw [put_size, hN]⟩
      have hnl : ns.length = n := by omega
      have : Rep (w.alloc (.cells vs e)) (grown Z w (w.alloc (.cells vs e))) (.nat ns) (.slice (some ⟨w.heap.size, 0, none⟩) ns.length n) := by
        refine .nat ⟨n1, fun _ => ⟨w.heap.size, 0, rfl, hbox.lt, fun j hj => ?_⟩⟩ (by omega)
        rw [Nat.zero_add, hcell j (by omega)]
        have hx := n3 j ns[j] (List.getElem?_eq_getElem hj)
        have := l2 j _ (vs[j]'(by omega)) hx (Array.getElem?_eq_getElem (by omega))
        rw [this.lit_eq]
      rw [hnl] at this
      exact this
    | false =>
      refine ⟨_, h8, ⟨_, β, S2.put hd' ?_⟩, by rw [put_size, hN]⟩
      have hch := chunk_len k n cs
      have : Rep (w.alloc (.cells vs e)) (grown Z w (w.alloc (.cells vs e))) (.sl k (chunk k n cs)) (.slice (some ⟨w.heap.size, 0, none⟩) (chunk k n cs).length n) := by
        refine .sl (fun i j => vs[i * k + j]?.getD undef) hbox.lt (by omega) (fun i hi => (chunk_get k h4 n cs hcl h7 i hi).1) (fun i j hi hj => ?_) (fun i hi j hj => ?_)
        · have hlt : i * k + j < cs.length := by
            rw [hcl]
            have : i + 1 ≤ n := by omega
            have := Nat.mul_le_mul_right k this
            rw [Nat.add_mul] at this
            omega
          refine ⟨?_, .inr ⟨Nat.le_refl _, hbox.lt⟩⟩
          rw [Nat.zero_add, hcell _ hlt, Array.getElem?_eq_getElem (by omega)]
          rfl
        · obtain ⟨g1, g2⟩ := chunk_get k h4 n cs hcl h7 i hi
          have hjk : j < k := by omega
          have hg := g2 j hjk
          rw [List.getElem?_eq_getElem hj] at hg
          have hlt := (List.getElem?_eq_some_iff.1 hg.symm).1
          have := l2 _ _ (vs[i * k + j]'(by omega)) hg.symm (Array.getElem?_eq_getElem (by omega))
          rw [Array.getElem?_eq_getElem (show i * k + j < vs.size by omega)]
          exact this.keep hk (fun _ _ h => .inl h)
      rw [hch] at this
      exact this
  | call c =>
    simp only [astep] at h
    split at h
    · rename_i f hc
      obtain ⟨args, r, h1, h2, h3⟩ := h
      obtain ⟨callee, cargs, ctys⟩ := c
      simp only at hc h1
      subst hc
      have hargs := args_sound S _ _ _ h1
      obtain ⟨hf, hcalls⟩ := h2
      have hr : (execOp a.eval ⟨dst, .call ⟨.value (.func f), cargs, ctys⟩, type, pos, after, guard⟩).run C.P w = .ok (.enter f (cargs.toList.map a.eval).toArray) w := by
        have e : (cargs.toList.map a.eval).toArray = cargs.map a.eval := by apply Array.ext'; simp
        simp only [execOp, resolve, Sem.run_bind, Act.eval, Deferred.ofValue, Sem.run_pure, Result.andThen_ok, invoke]
        rw [run_enter hf]
        simp [e]
      unfold Oper.wp
      rw [hr, Oper.upon_enter]
      refine (hcalls w Z _ (C.hE _ _ S.below hE) (S.zlt hz0) hargs).mono fun e' w' ⟨v, he, hb, hv⟩ => ?_
      subst he
      have S2 := S.grow (Z' := grown Z w w') hb (fun _ _ h => .inl h) (fun _ _ h => h)
      exact ⟨_, h3, ⟨_, β, S2.put hd' hv⟩, by rw [put_size, hN]⟩
    · exact val h
  | _ => exact val h
end
end Go.Proofs.YtnifjdhjimjihaaGreatDoor
