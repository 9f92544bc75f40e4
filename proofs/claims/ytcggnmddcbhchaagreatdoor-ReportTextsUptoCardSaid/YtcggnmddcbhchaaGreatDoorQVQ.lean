import Derived.Test.YtcggnmddcbhchaaGreatDoorQVP
/- Text VQ. -/
set_option linter.unusedSimpArgs false
set_option linter.unusedVariables false
namespace Go.Proofs.YtcggnmddcbhchaaGreatDoor
open Go.RowKit Lim
section
variable {C : Ctx} {dr : Bool} {ops : Array Oper} {os : List Oper} {l : LT} {m : LM} {q : LQ} {K : AS → Prop} {ty : TypeId} {p : String} {af : Array Edge} {t : Nat} {d : Option Nat}
def idxK (i : TI) (v u : TV) (k : TV → Prop) : Prop := ∃ qq n r, u = .av (.lit (.int qq n)) ∧ 0 ≤ n ∧ idxT i v n.toNat r ∧ k r
theorem arun_indexAddr (ty' : TypeId) (x y : Operand) : arun C dr ops (⟨some t, .indexAddr ty' x y, ty, p, af, none⟩ :: os) ⟨ofT l, ofL m, ofL q⟩ K = onSome (getL l x) (fun v => onSome (getL l y) (fun u => onSome (C.T ty') (fun i => idxK i v u (fun r => arun C dr ops os ⟨ofT (setT l t r), ofL m, ofL q⟩ K)))) := by
  rw [arun_val fun _ _ => rfl]
  simp only [aval, get_of, put_of, onSome, idxK]
  apply propext
  constructor
  · rintro ⟨v, ⟨i, s, qq, n, h1, h2, h3, h4, h5⟩, h6⟩
    exact ⟨_, h2, _, h3, _, h1, qq, n, v, rfl, h4, h5, h6⟩
  · rintro ⟨_, h2, _, h3, i, h1, qq, n, v, rfl, h4, h5, h6⟩
    exact ⟨v, ⟨i, _, qq, n, h1, h2, h3, h4, h5⟩, h6⟩
theorem idxK_lit {i : TI} {v : TV} {qq : IntKind} {n : Int} {K : TV → Prop} : idxK i v (.av (.lit (.int qq n))) K = (0 ≤ n ∧ ∃ r, idxT i v n.toNat r ∧ K r) := by
  simp only [idxK]
  apply propext
  constructor
  · rintro ⟨q1, n1, r, h1, h2, h3⟩; cases h1; exact ⟨h2, r, h3⟩
  · rintro ⟨h2, r, h3⟩; exact ⟨qq, n, r, rfl, h2, h3⟩
theorem idxK_nat {e0 b : Nat} {z : List AV} {lm : Bool} {es : List Nat} {qq : IntKind} {n : Int} {K : TV → Prop} : idxK ⟨.slc e0 1 lm, z, b⟩ (.av (.nat es)) (.av (.lit (.int qq n))) K = (0 ≤ n ∧ onSome es[n.toNat]? (fun x => K (.av (.ptr [.lit (.int .u32 (x : Nat))])))) := by
  rw [idxK_lit]
  simp only [idxT, elemA, onSome]
  congr 1
  apply propext
  constructor
  · rintro ⟨r, ⟨e, ⟨_, x, h1, rfl⟩, rfl⟩, h2⟩; exact ⟨x, h1, h2⟩
  · rintro ⟨x, h1, h2⟩; exact ⟨_, ⟨_, ⟨trivial, x, h1, rfl⟩, rfl⟩, h2⟩
theorem idxK_osl {e0 k b s off len : Nat} {z : List AV} {lm : Bool} {qq : IntKind} {n : Int} {K : TV → Prop} : idxK ⟨.slc e0 k lm, z, b⟩ (.osl s k off len) (.av (.lit (.int qq n))) K = (0 ≤ n ∧ n.toNat < len ∧ K (.oref s k (off + n.toNat) 0)) := by
  rw [idxK_lit]
  simp only [idxT]
  congr 1
  apply propext
  constructor
  · rintro ⟨r, ⟨_, h1, rfl⟩, h2⟩; exact ⟨h1, h2⟩
  · rintro ⟨h1, h2⟩; exact ⟨_, ⟨trivial, h1, rfl⟩, h2⟩
def convR (C : Ctx) (q : LQ) (i j : TI) (v : TV) (r : Value) : Prop := match i.kind, j.kind, v with
       | .int _, .int k, .av (.lit (.int _ n)) => r = .int k (k.wrap n)
       | .str, .str, .av (.lit (.string s)) => r = .string s
       | .slc e0 k _, .str, .av (.sl k' es) => isByteT C.T e0 = true ∧ k = 1 ∧ k' = 1 ∧ ∃ l : List UInt8, es = l.map byteA ∧ r = .string ⟨l.toArray⟩
       | .slc e0 k _, .str, .osl t k' off len => isByteT C.T e0 = true ∧ k = 1 ∧ k' = 1 ∧ ∃ (e : TypeId) (l : List UInt8), ofL q t = some (.row e 1 (l.map byteA)) ∧ off = 0 ∧ len = l.length ∧ r = .string ⟨l.toArray⟩
       | .slc e0 k _, .str, .av (.lit (.slice none 0 0)) => isByteT C.T e0 = true ∧ k = 1 ∧ r = .string ⟨#[]⟩
       | _, _, _ => False
def convK (C : Ctx) (q : LQ) (i j : TI) (v : TV) (k : Value → Prop) : Prop := ∃ r, convR C q i j v r ∧ k r
theorem convK_int {kk q1 qq : IntKind} {z z' : List AV} {b b' : Nat} {n : Int} {k : Value → Prop} : convK C q ⟨.int q1, z, b⟩ ⟨.int kk, z', b'⟩ (.av (.lit (.int qq n))) k = k (.int kk (kk.wrap n)) := by
  simp [convK, convR]
theorem arun_convert (src dst : TypeId) (x : Operand) : arun C dr ops (⟨some t, .convert src dst x, ty, p, af, none⟩ :: os) ⟨ofT l, ofL m, ofL q⟩ K = onSome (getL l x) (fun v => onSome (C.T src) (fun i => onSome (C.T dst) (fun j => convK C q i j v (fun r => arun C dr ops os ⟨ofT (setT l t (.av (.lit r))), ofL m, ofL q⟩ K)))) := by
  rw [arun_val fun _ _ => rfl]
  simp only [aval, get_of, put_of, onSome, convK]
  apply propext
  constructor
  · rintro ⟨v, ⟨i, j, h1, h2, h3⟩, h6⟩
    cases hx : getL l x with
    | none => rw [hx] at h3; split at h3 <;> first | exact h3.elim | (rename_i hh; cases hh)
    | some y =>
      rw [hx] at h3
      have key : ∃ r, v = .av (.lit r) ∧ convR C q i j y r := by
        split at h3
        · rename_i hk1 hk2 hh; cases hh; exact ⟨_, h3, by simp only [convR, hk1, hk2]⟩
        · rename_i hk1 hk2 hh; cases hh; exact ⟨_, h3, by simp only [convR, hk1, hk2]⟩
        · rename_i hk1 hk2 hh; cases hh; obtain ⟨g1, g2, g3, bs, g4, g5⟩ := h3; exact ⟨_, g5, by simp only [convR, hk1, hk2]; exact ⟨g1, g2, g3, bs, g4, rfl⟩⟩
        · rename_i hk1 hk2 hh; cases hh; obtain ⟨g1, g2, g3, e, bs, g4, g5, g6, g7⟩ := h3; exact ⟨_, g7, by simp only [convR, hk1, hk2]; exact ⟨g1, g2, g3, e, bs, g4, g5, g6, rfl⟩⟩
        · rename_i hk1 hk2 hh; cases hh; obtain ⟨g1, g2, g3⟩ := h3; exact ⟨_, g3, by simp only [convR, hk1, hk2]; exact ⟨g1, g2, trivial⟩⟩
        · exact h3.elim
      obtain ⟨r, rfl, h7⟩ := key
      exact ⟨y, rfl, i, h1, j, h2, r, h7, h6⟩
  · rintro ⟨y, hx, i, h1, j, h2, r, h3, h6⟩
    refine ⟨_, ⟨i, j, h1, h2, ?_⟩, h6⟩
    rw [hx]
    unfold convR at h3
    split at h3
    · rename_i hk1 hk2; rw [hk1, hk2, h3]
    · rename_i hk1 hk2; rw [hk1, hk2, h3]
    · rename_i hk1 hk2; rw [hk1, hk2]; obtain ⟨g1, g2, g3, bs, g4, rfl⟩ := h3; exact ⟨g1, g2, g3, bs, g4, rfl⟩
    · rename_i hk1 hk2; rw [hk1, hk2]; obtain ⟨g1, g2, g3, e, bs, g4, g5, g6, rfl⟩ := h3; exact ⟨g1, g2, g3, e, bs, g4, g5, g6, rfl⟩
    · rename_i hk1 hk2; rw [hk1, hk2]; obtain ⟨g1, g2, rfl⟩ := h3; exact ⟨g1, g2, rfl⟩
    · exact h3.elim
def putA (C : Ctx) (dr : Bool) (ops : Array Oper) (os : List Oper) (l : LT) (m : LM) (q : LQ) (t : Nat) (v : TV) (us : List Nat) (K : AS → Prop) : Prop := (dr = true → us = []) ∧ arun C dr ops os ((AS.frz ⟨ofT l, ofL m, ofL q⟩ us).put (some t) v) K
theorem putA_nil {v : TV} : putA C dr ops os l m q t v [] K = arun C dr ops os ⟨ofT (setT l t v), ofL m, ofL q⟩ K := by
  simp only [putA, frz_nil, put_of]; simp
theorem arun_build (ty' : TypeId) (parts : Array (Nat × Operand)) : arun C dr ops (⟨some t, .build ty' parts, ty, p, af, none⟩ :: os) ⟨ofT l, ofL m, ofL q⟩ K = onSome (C.T ty') (fun i => strctK i (fun fs => fillK C.T l q fs i.zero parts.toList (fun cs us => putA C dr ops os l m q t (.av (.agg cs)) us K))) := by
  rw [arun_one rfl]
  simp only [onSome, strctK]
  apply propext
  constructor
  · rintro ⟨fs, z, b, cs, h1, h2, h3, h4⟩
    refine ⟨_, h1, fs, rfl, ?_⟩
    rw [← fill_k (m := m)]
    exact ⟨cs, h2, h3, h4⟩
  · rintro ⟨⟨k, z, b⟩, h1, fs, rfl, h2⟩
    rw [← fill_k (m := m)] at h2
    obtain ⟨cs, h2, h3, h4⟩ := h2
    exact ⟨fs, z, b, cs, h1, h2, h3, h4⟩
def optL (l : LT) : Option Operand → Option (Option TV)
  | none => some none
  | some x => (getL l x).map some
theorem optL_none : optL l none = some none := rfl
theorem optL_some (x : Operand) : optL l (some x) = (getL l x).map some := rfl
def lenK (i : TI) (v : TV) (k : Nat → Prop) : Prop := ∃ n, (match i.kind, v with
       | .str, .av (.lit (.string s)) => n = s.size
       | .slc _ _ _, s => lenT s = some n
       | _, _ => False) ∧ k n
theorem lenK_nat {z : List AV} {e0 kk b : Nat} {lm : Bool} {es : List Nat} {k : Nat → Prop} : lenK ⟨.slc e0 kk lm, z, b⟩ (.av (.nat es)) k = k es.length := by simp [lenK, lenT, lenA]
theorem arun_len (x : Operand) (ty' : TypeId) : arun C dr ops (⟨some t, .call ⟨.builtin .len, #[x], #[ty']⟩, ty, p, af, none⟩ :: os) ⟨ofT l, ofL m, ofL q⟩ K = onSome (getL l x) (fun v => onSome (C.T ty') (fun i => lenK i v (fun n => arun C dr ops os ⟨ofT (setT l t (.av (.lit (.int .i64 (n : Nat))))), ofL m, ofL q⟩ K))) := by
  rw [arun_val fun _ _ => rfl]
  simp only [aval, get_of, put_of, onSome, lenK]
  apply propext
  constructor
  · rintro ⟨v, ⟨x', ty2, i, h1, h2, h3, h4⟩, h6⟩
    simp only [Array.mk.injEq, List.cons.injEq, and_true] at h1 h2
    subst h1 h2
    split at h4
    · rename_i s hk hx
      subst h4
      exact ⟨_, hx, i, h3, _, by rw [hk], h6⟩
    · rename_i e0 k lm s hk hx
      obtain ⟨n, h5, rfl⟩ := h4
      exact ⟨_, hx, i, h3, n, by rw [hk]; exact h5, h6⟩
    · exact h4.elim
  · rintro ⟨v, hx, i, h3, n, h4, h6⟩
    refine ⟨_, ⟨x, ty', i, rfl, rfl, h3, ?_⟩, h6⟩
    rw [hx]
    split at h4
    · rename_i hk; rw [hk, h4]
    · rename_i hk; rw [hk]; exact ⟨n, h4, rfl⟩
    · exact h4.elim
theorem arun_max (x y : Operand) (tys : Array TypeId) : arun C dr ops (⟨some t, .call ⟨.builtin .max, #[x, y], tys⟩, ty, p, af, none⟩ :: os) ⟨ofT l, ofL m, ofL q⟩ K = onSome (getL l x) (fun v => onSome (getL l y) (fun u => litK v (fun a => litK u (fun b => ∃ r, maxR a b r ∧ arun C dr ops os ⟨ofT (setT l t (.av (.lit r))), ofL m, ofL q⟩ K)))) := by
  rw [arun_val fun _ _ => rfl]
  simp only [aval, get_of, put_of, onSome, litK]
  apply propext
  constructor
  · rintro ⟨v, ⟨x', y', a, b, r, h1, h2, h3, h4, rfl⟩, h6⟩
    simp only [Array.mk.injEq, List.cons.injEq, and_true] at h1
    obtain ⟨rfl, rfl⟩ := h1
    exact ⟨_, h2, _, h3, a, rfl, b, rfl, r, h4, h6⟩
  · rintro ⟨_, h2, _, h3, a, rfl, b, rfl, r, h4, h6⟩
    exact ⟨_, ⟨x, y, a, b, r, rfl, h2, h3, h4, rfl⟩, h6⟩
theorem mkEl_one (c : AV) (l : List AV) : mkEl 1 (c :: l) = c := rfl
theorem mkEl_big (k : Nat) (l : List AV) (h : (k == 1) = false) : mkEl k l = .agg l := by
  simp at h
  unfold mkEl
  split
  · exact absurd rfl h
  · rfl
theorem maxR_int {k : IntKind} {x y : Int} {K : Value → Prop} : (∃ r, maxR (.int k x) (.int k y) r ∧ K r) = K (.int k (if y > x then y else x)) := by simp [maxR]
def rowK (k : Nat) (n : Nat) (lm : Bool) (cs : List AV) (kk : AV → Prop) : Prop := cs.all AV.one = true ∧ (match lm with | true => k = 1 ∧ ∃ ns, natsR cs ns ∧ kk (.nat ns) | false => kk (.sl k (chunk k n cs)))
theorem rowK_limbs {n : Nat} {cs : List AV} {K : AV → Prop} : rowK 1 n true cs K = (cs.all AV.one = true ∧ ∃ ns, natsR cs ns ∧ K (.nat ns)) := by simp [rowK]
theorem rowK_row {k n : Nat} {cs : List AV} {K : AV → Prop} : rowK k n false cs K = (cs.all AV.one = true ∧ K (.sl k (chunk k n cs))) := rfl
theorem arun_buildSlice (ty' : TypeId) (n : Nat) (parts : Array (Nat × Operand)) : arun C dr ops (⟨some t, .buildSlice ty' n parts, ty, p, af, none⟩ :: os) ⟨ofT l, ofL m, ofL q⟩ K = onSome (C.T ty') (fun i => slcK i (fun e k lm => onSome (C.T e) (fun j => j.zero.length = k ∧ 0 < k ∧ n * k ≤ 16777216 ∧ fillK C.T l q (places k e n 0) (List.replicate n j.zero).flatten parts.toList (fun cs us => rowK k n lm cs (fun r => putA C dr ops os l m q t (.av r) us K))))) := by
  rw [arun_one rfl]
  simp only [onSome, slcK]
  apply propext
  constructor
  · rintro ⟨e, k, lm, z, b, i, cs, h1, h2, h3, h4, h5, h6, h7, h8, h9⟩
    refine ⟨_, h1, e, k, lm, rfl, i, h2, h3, h4, h5, ?_⟩
    rw [← fill_k (m := m)]
    refine ⟨cs, h6, h7, ?_⟩
    cases lm with
    | true => obtain ⟨g1, ns, g2, g3⟩ := h9; exact ⟨g1, ns, g2, h8, g3⟩
    | false => exact ⟨h8, h9⟩
  · rintro ⟨⟨kd, z, b⟩, h1, e, k, lm, rfl, i, h2, h3, h4, h5, h6⟩
    rw [← fill_k (m := m)] at h6
    obtain ⟨cs, h6, h7, h9⟩ := h6
    cases lm with
    | true => obtain ⟨g1, ns, g2, g3, g4⟩ := h9; exact ⟨e, k, true, z, b, i, cs, h1, h2, h3, h4, h5, h6, h7, g3, g1, ns, g2, g4⟩
    | false => exact ⟨e, k, false, z, b, i, cs, h1, h2, h3, h4, h5, h6, h7, h9.1, h9.2⟩
def makeK (l : LT) (q : LQ) (t : Nat) (e k : Nat) (lm : Bool) (i : TI) (n : Nat) (kk : LT → LQ → Prop) : Prop := match lm with
  | true => k = 1 ∧ i.zero = [.lit (.int .u32 0)] ∧ kk (setT (staleOT t l) t (.osl t 1 0 (List.replicate n 0).length)) (setL q t (.limb e (List.replicate n 0)))
  | false => i.zero.all AV.one = true ∧ i.zero.all AV.noLimb = true ∧ kk (setT (staleOT t l) t (.osl t k 0 (List.replicate n (mkEl k i.zero)).length)) (setL q t (.row e k (List.replicate n (mkEl k i.zero))))
theorem makeK_limb {e n b : Nat} {kd : TK} {kk : LT → LQ → Prop} : makeK l q t e 1 true ⟨kd, [.lit (.int .u32 0)], b⟩ n kk = kk (setT (staleOT t l) t (.osl t 1 0 n)) (setL q t (.limb e (List.replicate n 0))) := by simp [makeK]
theorem arun_makeSlice (ty' : TypeId) (x y : Operand) : arun C dr ops (⟨some t, .makeSlice ty' x y, ty, p, af, none⟩ :: os) ⟨ofT l, ofL m, ofL q⟩ K = onSome (C.T ty') (fun i => slcK i (fun e k lm => onSome (C.T e) (fun j => onSome (getL l x) (fun u => onSome (getL l y) (fun v => intK u (fun n => intK v (fun c => j.zero.length = k ∧ 0 < k ∧ 0 ≤ n ∧ n ≤ c ∧ c * j.bytes ≤ 140737488355328 ∧ c ≤ 9223372036854775807 ∧ makeK l q t e k lm j n.toNat (fun l' q' => arun C dr ops os ⟨ofT l', ofL m, ofL q'⟩ K)))))))) := by
  rw [arun_one rfl]
  simp only [onSome, slcK, intK]
  apply propext
  constructor
  · rintro ⟨t', e, k, lm, z, b, i, q1, q2, n, c, h1, h2, h3, h4, h5, h6, h7, h8, h9, h10, h11, h12⟩
    cases h1
    rw [get_of] at h6 h7
    refine ⟨_, h2, e, k, lm, rfl, i, h3, _, h6, _, h7, q1, n, rfl, q2, c, rfl, h4, h5, h8, h9, h10, h11, ?_⟩
    cases lm with
    | true => obtain ⟨g1, g2, g3⟩ := h12; rw [newOwn_none] at g3; exact ⟨g1, g2, g3⟩
    | false => obtain ⟨g1, g2, g3⟩ := h12; rw [newOwn_none] at g3; exact ⟨g1, g2, g3⟩
  · rintro ⟨⟨kd, z, b⟩, h2, e, k, lm, rfl, i, h3, _, h6, _, h7, q1, n, rfl, q2, c, rfl, h4, h5, h8, h9, h10, h11, h12⟩
    refine ⟨t, e, k, lm, z, b, i, q1, q2, n, c, rfl, h2, h3, h4, h5, by rw [get_of]; exact h6, by rw [get_of]; exact h7, h8, h9, h10, h11, ?_⟩
    cases lm with
    | true => obtain ⟨g1, g2, g3⟩ := h12; refine ⟨g1, g2, ?_⟩; show arun C dr ops os _ K; rw [newOwn_none]; exact g3
    | false => obtain ⟨g1, g2, g3⟩ := h12; refine ⟨g1, g2, ?_⟩; show arun C dr ops os _ K; rw [newOwn_none]; exact g3
def copyK (q : LQ) (k : Nat) (v : TV) (y : AV) (kk : Nat → LQ → Prop) : Prop := ∃ s off n ov c y' ov', v = .osl s k off n ∧ ofL q s = some ov ∧ ov.k = k ∧ off + n ≤ ov.len ∧ takeSl n y = some (c, y') ∧ ov.over off y' = some ov' ∧ kk c (setL q s ov')
def copyO (q : LQ) (s off n : Nat) (ov : OV) (y : AV) (kk : Nat → LQ → Prop) : Prop := off + n ≤ ov.len ∧ (match ov, y with
  | .limb e ns, .nat ys => kk (min n ys.length) (setL q s (.limb e (ns.take off ++ ys.take n ++ ns.drop (off + min n ys.length))))
  | .row e k ns, .sl k' ys => k' = k ∧ (ys.take n).all (fun y => y.cells.all AV.one && y.cells.all AV.noLimb) = true ∧ kk (min n ys.length) (setL q s (.row e k (ns.take off ++ ys.take n ++ ns.drop (off + min n ys.length))))
  | _, _ => False)
theorem copyO_limb {s off n : Nat} {ys ns : List Nat} {e : TypeId} {kk : Nat → LQ → Prop} : copyO q s off n (.limb e ns) (.nat ys) kk = (off + n ≤ ns.length ∧ kk (min n ys.length) (setL q s (.limb e (ns.take off ++ ys.take n ++ ns.drop (off + min n ys.length))))) := rfl
theorem copyK_osl {s off n k : Nat} {y : AV} {kk : Nat → LQ → Prop} : copyK q k (.osl s k off n) y kk = onSome (ofL q s) (fun ov => ov.k = k ∧ copyO q s off n ov y kk) := by
  simp only [copyK, onSome, copyO]
  apply propext
  constructor
  · rintro ⟨s', off', n', ov, c, y', ov', h1, h2, h3, h4, h5, h6, h7⟩
    cases h1
    refine ⟨ov, h2, h3, h4, ?_⟩
    cases y with
    | nat ys =>
      simp only [takeSl] at h5; cases h5
      cases ov with
      | row => cases h6
      | limb e ns =>
        simp only [OV.over, List.length_take] at h6
        split at h6
        · cases h6; exact h7
        · cases h6
    | sl k' ys =>
      simp only [takeSl] at h5; cases h5
      cases ov with
      | limb => cases h6
      | row e k2 ns =>
        simp only [OV.over, List.length_take] at h6
        split at h6
        · rename_i hc; cases h6; exact ⟨hc.1, hc.2.2, h7⟩
        · cases h6
    | _ => cases h5
  · rintro ⟨ov, h2, h3, h4, h5⟩
    cases ov with
    | limb e ns =>
      cases y with
      | nat ys =>
        refine ⟨s, off, n, _, _, _, _, rfl, h2, h3, h4, rfl, ?_, h5⟩
        simp only [OV.len] at h4
        simp only [OV.over, List.length_take]
        rw [if_pos (by omega)]
      | _ => exact h5.elim
    | row e k2 ns =>
      cases y with
      | sl k' ys =>
        obtain ⟨g1, g2, g3⟩ := h5
        refine ⟨s, off, n, _, _, _, _, rfl, h2, h3, h4, rfl, ?_, g3⟩
        simp only [OV.len] at h4
        simp only [OV.over, List.length_take]
        rw [if_pos ⟨g1, by omega, g2⟩]
      | _ => exact h5.elim
theorem arun_copy (x y : Operand) (ty' ty2 : TypeId) : arun C dr ops (⟨some t, .call ⟨.builtin .copy, #[x, y], #[ty', ty2]⟩, ty, p, af, none⟩ :: os) ⟨ofT l, ofL m, ofL q⟩ K = onSome (C.T ty') (fun i => slcK i (fun _ k _ => onSome (getL l x) (fun u => onSome (getL l y) (fun v => argK C.T q ty' v (fun yv _ => copyK q k u yv (fun c q' => arun C dr ops os ⟨ofT (setT l t (.av (.lit (.int .i64 (c : Nat))))), ofL m, ofL q'⟩ K)))))) := by
  rw [arun_one rfl]
  simp only [onSome, slcK]
  have key : ∀ (R : AV → Prop), (∃ v, getL l y = some v ∧ argK C.T q ty' v (fun yv _ => R yv)) ↔ ∃ z, AS.argV C.T ⟨ofT l, ofL m, ofL q⟩ ty' y = some z ∧ R z := fun R => by
    have := argV_k (l := l) (m := m) (q := q) (ty := ty') C.T y (fun z _ => R z)
    rw [this]; rfl
  apply propext
  constructor
  · rintro ⟨x', y', tya, tyb, e, k, lm, z, b, s, off, n, ov, yv, c, yv', ov', h2, h3, h5, h9, h10, h11, h12, h13, h14, h15, h17⟩
    simp only [Array.mk.injEq, List.cons.injEq, and_true] at h2 h3
    obtain ⟨rfl, rfl⟩ := h2
    obtain ⟨rfl, rfl⟩ := h3
    rw [get_of] at h9
    rw [setOwn_of, put_of] at h17
    obtain ⟨v, g1, g2⟩ := (key (fun yv => copyK q k (.osl s k off n) yv (fun c q' => arun C dr ops os ⟨ofT (setT l t (.av (.lit (.int .i64 (c : Nat))))), ofL m, ofL q'⟩ K))).2 ⟨yv, h13, s, off, n, ov, c, yv', ov', rfl, h10, h11, h12, h14, h15, h17⟩
    exact ⟨_, h5, e, k, lm, rfl, _, h9, v, g1, g2⟩
  · rintro ⟨⟨kd, z, b⟩, h5, e, k, lm, rfl, xv, h9, v, g1, g2⟩
    obtain ⟨yv, h13, s, off, n, ov, c, yv', ov', rfl, h10, h11, h12, h14, h15, h17⟩ := (key (fun yv => copyK q k xv yv (fun c q' => arun C dr ops os ⟨ofT (setT l t (.av (.lit (.int .i64 (c : Nat))))), ofL m, ofL q'⟩ K))).1 ⟨v, g1, g2⟩
    exact ⟨x, y, ty', ty2, e, k, lm, z, b, s, off, n, ov, yv, c, yv', ov', rfl, rfl, h5, by rw [get_of]; exact h9, h10, h11, h12, h13, h14, h15, by rw [setOwn_of, put_of]; exact h17⟩
def avsK (l : LT) : List Operand → (List AV → Prop) → Prop
  | [], k => k []
  | x :: xs, k => onSome (getL l x) (fun v => avK v (fun a => avsK l xs (fun r => k (a :: r))))
theorem avsK_nil (k : List AV → Prop) : avsK l [] k = k [] := rfl
theorem avsK_cons (x : Operand) (xs : List Operand) (k : List AV → Prop) : avsK l (x :: xs) k = onSome (getL l x) (fun v => avK v (fun a => avsK l xs (fun r => k (a :: r)))) := rfl
end
section
variable {C : Ctx} {n : Scr} {K : Exit → AS → Prop} {l : LT} {m : LM} {q : LQ}
theorem awp_seq (a b : Code) {σ : AS} : awp C n (.seq a b) K σ = awp C n a (thenK C n b K) σ := rfl
theorem awp_skip : awp C n .skip K ⟨ofT l, ofL m, ofL q⟩ = K .normal ⟨ofT l, ofL m, ofL q⟩ := rfl
theorem awp_ret : awp C n .ret K ⟨ofT l, ofL m, ofL q⟩ = K .ret ⟨ofT l, ofL m, ofL q⟩ := rfl
theorem awp_exit (id : Nat) : awp C n (.exit id) K ⟨ofT l, ofL m, ofL q⟩ = K (.exit id) ⟨ofT l, ofL m, ofL q⟩ := rfl
theorem awp_label (id : Nat) : awp C n (.label id) K ⟨ofT l, ofL m, ofL q⟩ = K .normal ⟨ofT l, ofL m, ofL q⟩ := rfl
theorem awp_block (id : Nat) (c : Code) {σ : AS} : awp C n (.block id c) K σ = awp C n c (blockK id K) σ := rfl
theorem awp_region (n : Nat) (id : Nat) (os : List Oper) (d : Bool) : awp C ⟨n, [], []⟩ (.region id (List.toArray os) d) K ⟨ofT l, ofL m, ofL q⟩ = arun C d (List.toArray os) os ⟨ofT (prepL n d (badOf d os) l), ofL m, ofL q⟩ (K .normal) := by
  show arun C _ _ _ (prep n _ _ _) _ = _
  rw [frzB_of, prep_of]
  simp only [fzAt, frzBL_none, delB_nil]
def lentA (C : Ctx) (n : Nat) (d : Bool) (os : List Oper) (fs : List Nat) (l : LT) (m : LM) (q : LQ) (K : AS → Prop) : Prop := lentR C d (List.toArray os) ⟨ofT (prepL n d (badOf d os) (frzBL m fs l)), ofL (delB fs m), ofL q⟩ K
theorem awp_regionL (n : Nat) (fz : List (Nat × Nat)) (i : Nat) (ln : List Nat) (id : Nat) (os : List Oper) (d : Bool) : awp C ⟨n, fz, i :: ln⟩ (.region id (List.toArray os) d) K ⟨ofT l, ofL m, ofL q⟩ = bif (i :: ln).contains id then lentA C n d os (fzAt fz id) l m q (K .normal) else arun C d (List.toArray os) os ⟨ofT (prepL n d (badOf d os) (frzBL m (fzAt fz id) l)), ofL (delB (fzAt fz id) m), ofL q⟩ (K .normal) := by
  show (bif (i :: ln).contains id then lentR C _ _ (prep n _ _ _) _ else arun C _ _ _ (prep n _ _ _) _) = _
  rw [frzB_of, prep_of]
  rfl
theorem fzAt_nil (id : Nat) : fzAt [] id = [] := rfl
theorem fzAt_cons (i t id : Nat) (fz : List (Nat × Nat)) : fzAt ((i, t) :: fz) id = bif i == id then t :: fzAt fz id else fzAt fz id := rfl
theorem frzBL_nil {ts : List Nat} : frzBL m ts [] = [] := rfl
theorem frzBL_cons {t : Nat} {ts : List Nat} (k : Nat) (v : Option TV) : frzBL m (t :: ts) ((k, v) :: l) = (k, v.bind (frzBT (ofL m) (t :: ts))) :: frzBL m (t :: ts) l := rfl
theorem frzBT_ref {f : Nat → Option (List AV)} {ts : List Nat} (t off : Nat) : frzBT f ts (.ref t off) = bif ts.contains t then (f t).map (fun cs => .av (.ptr (cs.drop off))) else some (.ref t off) := rfl
theorem frzBT_av {f : Nat → Option (List AV)} {ts : List Nat} (a : AV) : frzBT f ts (.av a) = some (.av a) := rfl
theorem frzBT_osl {f : Nat → Option (List AV)} {ts : List Nat} (t k o n : Nat) : frzBT f ts (.osl t k o n) = some (.osl t k o n) := rfl
theorem frzBT_oref {f : Nat → Option (List AV)} {ts : List Nat} (t k i o : Nat) : frzBT f ts (.oref t k i o) = some (.oref t k i o) := rfl
theorem frzBT_skip {f : Nat → Option (List AV)} {ts : List Nat} : frzBT f ts .skip = some .skip := rfl
theorem delB_done {ts : List Nat} : delB ts [] = [] := rfl
theorem delB_cons {t : Nat} {ts : List Nat} (k : Nat) (v : List AV) : delB (t :: ts) ((k, v) :: m) = bif (t :: ts).contains k then delB (t :: ts) m else (k, v) :: delB (t :: ts) m := rfl
def condA (C : Ctx) (n : Scr) (a b : Code) (l : LT) (m : LM) (q : LQ) (v : TV) (K : Exit → AS → Prop) : Prop := condK v (awp C n a K ⟨ofT l, ofL m, ofL q⟩) (awp C n b K ⟨ofT l, ofL m, ofL q⟩)
theorem condA_true {a b : Code} : condA C n a b l m q (.av (.lit (.bool true))) K = awp C n a K ⟨ofT l, ofL m, ofL q⟩ := condK_true _ _
theorem condA_false {a b : Code} : condA C n a b l m q (.av (.lit (.bool false))) K = awp C n b K ⟨ofT l, ofL m, ofL q⟩ := condK_false _ _
theorem awp_cond (c : Operand) (a b : Code) : awp C n (.cond c a b) K ⟨ofT l, ofL m, ofL q⟩ = onSome (getL l c) (fun v => condA C n a b l m q v K) := by
  show (∃ t, AS.get _ _ = _ ∧ _) = _
  simp only [get_of, onSome, condA, condK]
  apply propext
  constructor
  · rintro ⟨t, h1, h2⟩; exact ⟨_, h1, t, rfl, h2⟩
  · rintro ⟨_, h1, t, rfl, h2⟩; exact ⟨t, h1, h2⟩
theorem loop_mk {c : Code} {α : Type} (L : α → LT) (M : α → LM) (Q : α → LQ) (μ : α → Nat) (x : α) {σ : AS} (h0 : leL σ (L x) (M x) (Q x)) (h : ∀ x, awp C n c (roundK L M Q μ x K) ⟨ofT (L x), ofL (M x), ofL (Q x)⟩) : awp C n (.loop c) K σ := awp_loop L M Q μ x h0 h
end
theorem binK_add {b : Bool} {k : IntKind} {x y : Int} {K : Value → Prop} : binK b .add (.int k x) (.int k y) K = K (.int k (k.wrap (x + y))) := by simp [binK, binR]
theorem binK_sub {b : Bool} {k : IntKind} {x y : Int} {K : Value → Prop} : binK b .sub (.int k x) (.int k y) K = K (.int k (k.wrap (x - y))) := by simp [binK, binR]
theorem binK_mul {b : Bool} {k : IntKind} {x y : Int} {K : Value → Prop} : binK b .mul (.int k x) (.int k y) K = K (.int k (k.wrap (x * y))) := by simp [binK, binR]
theorem binK_quo {b : Bool} {k : IntKind} {x y : Int} {K : Value → Prop} : binK b .quo (.int k x) (.int k y) K = (y ≠ 0 ∧ K (.int k (k.wrap (x.tdiv y)))) := by simp [binK, binR, and_assoc]
theorem binK_rem {b : Bool} {k : IntKind} {x y : Int} {K : Value → Prop} : binK b .rem (.int k x) (.int k y) K = (y ≠ 0 ∧ K (.int k (x.tmod y))) := by simp [binK, binR, and_assoc]
theorem binK_shl {b : Bool} {k k' : IntKind} {x y : Int} {K : Value → Prop} : binK b .shl (.int k x) (.int k' y) K = (0 ≤ y ∧ K (.int k (k.wrap (x * 2 ^ (min y.toNat k.bits))))) := by simp [binK, binR, and_assoc]
theorem binK_shr {b : Bool} {k k' : IntKind} {x y : Int} {K : Value → Prop} : binK b .shr (.int k x) (.int k' y) K = (0 ≤ y ∧ K (.int k (x.fdiv (2 ^ (min y.toNat k.bits))))) := by simp [binK, binR, and_assoc]
theorem binK_or {b : Bool} {k : IntKind} {x y : Int} {K : Value → Prop} : binK b .or (.int k x) (.int k y) K = K (.int k (k.wrap (BitVec.ofInt k.bits x ||| BitVec.ofInt k.bits y).toNat)) := by simp [binK, binR]
theorem binK_eql {b : Bool} {k : IntKind} {x y : Int} {K : Value → Prop} : binK b .eql (.int k x) (.int k y) K = K (.bool (x == y)) := by simp [binK, binR]
theorem binK_lss {b : Bool} {k : IntKind} {x y : Int} {K : Value → Prop} : binK b .lss (.int k x) (.int k y) K = K (.bool (decide (x < y))) := by simp [binK, binR]
theorem binK_gtr {b : Bool} {k : IntKind} {x y : Int} {K : Value → Prop} : binK b .gtr (.int k x) (.int k y) K = K (.bool (decide (y < x))) := by simp [binK, binR]
theorem binK_geq {b : Bool} {k : IntKind} {x y : Int} {K : Value → Prop} : binK b .geq (.int k x) (.int k y) K = K (.bool (decide (y ≤ x))) := by simp [binK, binR]
theorem unK_neg {k : IntKind} {x : Int} {K : Value → Prop} : unK .neg (.int k x) K = K (.int k (k.wrap (0 - x))) := by simp [unK, unR]
theorem start_of (args : List AV) : start args = ⟨ofT (startL 0 args), ofL [], ofL []⟩ := rfl
theorem startL_nil (k : Nat) : startL k [] = [] := rfl
theorem startL_cons (k : Nat) (a : AV) (l : List AV) : startL k (a :: l) = (k, some (.av a)) :: startL (k + 1) l := rfl
def resK (C : Ctx) (l : LT) (m : LM) (q : LQ) : List ResultVar → List TypeId → (List AV → Prop) → Prop
  | [], _, k => k []
  | .tmp t :: rs, tys, k => onSome (ofT l t) (fun v => argK C.T q (tys.headD 0) v (fun a _ => resK C l m q rs tys.tail (fun r => k (a :: r))))
  | .cell t ty :: rs, tys, k => onSome (ofT l t) (fun v => onSome (lookL m q v) (fun cs => onSome (C.T ty) (fun i => onSome (takeA i cs) (fun a => resK C l m q rs tys.tail (fun r => k (a :: r))))))
section
variable {C : Ctx} {l : LT} {m : LM} {q : LQ}
theorem argT_k (T : TyTab) (ty : TypeId) (v : TV) (R : AV → Prop) : (∃ a, AS.argT T ⟨ofT l, ofL m, ofL q⟩ ty v = some a ∧ R a) ↔ argK T q ty v (fun a _ => R a) := by
  cases v with
  | av a => simp [AS.argT, argK]
  | osl t k off len =>
    rw [argK_osl]
    simp only [AS.argT, onSome]
    constructor
    · rintro ⟨a, h1, h2⟩
      split at h1
      · rename_i ov ho
        split at h1
        · rename_i hc; cases h1; exact ⟨ov, ho, hc.1, hc.2, h2⟩
        · cases h1
      · cases h1
    · rintro ⟨ov, h1, h2, h3, h4⟩
      exact ⟨_, by rw [h1]; simp only; rw [if_pos ⟨h2, h3⟩], h4⟩
  | _ => simp [AS.argT, argK]
theorem res_k : ∀ (rs : List ResultVar) (tys : List TypeId) (k : List AV → Prop), (∃ r, resL C ⟨ofT l, ofL m, ofL q⟩ rs tys = some r ∧ k r) ↔ resK C l m q rs tys k
  | [], tys, k => by simp [resL, resK]
  | .tmp t :: rs, tys, k => by
    simp only [resK, onSome]
    constructor
    · rintro ⟨r, h, hk⟩
      simp only [resL] at h
      split at h
      · rename_i a r' h1 h2
        cases h
        simp only [resA, Option.bind_eq_some_iff] at h1
        obtain ⟨v, h3, h4⟩ := h1
        exact ⟨v, h3, (argT_k (m := m) C.T _ v (fun a => resK C l m q rs tys.tail (fun r => k (a :: r)))).1 ⟨a, h4, (res_k rs tys.tail _).1 ⟨r', h2, hk⟩⟩⟩
      · cases h
    · rintro ⟨v, h3, h4⟩
      obtain ⟨a, h5, h6⟩ := (argT_k (l := l) (m := m) C.T _ v (fun a => resK C l m q rs tys.tail (fun r => k (a :: r)))).2 h4
      obtain ⟨r, h7, h8⟩ := (res_k rs tys.tail _).2 h6
      refine ⟨a :: r, ?_, h8⟩
      have : resA C ⟨ofT l, ofL m, ofL q⟩ (.tmp t) (tys.headD 0) = some a := by simp only [resA, h3, Option.bind_some, h5]
      simp only [resL, this, h7]
  | .cell t ty :: rs, tys, k => by
    simp only [resK, onSome]
    constructor
    · rintro ⟨r, h, hk⟩
      simp only [resL] at h
      split at h
      · rename_i a r' h1 h2
        cases h
        simp only [resA] at h1
        split at h1
        · rename_i i cs h3 h4
          cases hx : ofT l t with
          | none => rw [hx] at h4; cases h4
          | some y =>
            rw [hx, look_of] at h4
            exact ⟨y, rfl, cs, h4, i, h3, a, h1, (res_k rs tys.tail _).1 ⟨r', h2, hk⟩⟩
        · cases h1
      · cases h
    · rintro ⟨v, h1, cs, h2, i, h5, a, h6, h7⟩
      obtain ⟨r, h3, h4⟩ := (res_k rs tys.tail _).2 h7
      refine ⟨_, ?_, h4⟩
      have h8 : AS.look ⟨ofT l, ofL m, ofL q⟩ (ofT l t) = some cs := by rw [h1, look_of]; exact h2
      simp only [resL, resA, h3, h5, h8, h6]
theorem resK_nil {tys : List TypeId} {k : List AV → Prop} : resK C l m q [] tys k = k [] := rfl
theorem resK_tmp {t : Nat} {rs : List ResultVar} {tys : List TypeId} {k : List AV → Prop} : resK C l m q (.tmp t :: rs) tys k = onSome (ofT l t) (fun v => argK C.T q (tys.headD 0) v (fun a _ => resK C l m q rs tys.tail (fun r => k (a :: r)))) := rfl
theorem resK_cell {t : Nat} {ty : TypeId} {rs : List ResultVar} {tys : List TypeId} {k : List AV → Prop} : resK C l m q (.cell t ty :: rs) tys k = onSome (ofT l t) (fun v => onSome (lookL m q v) (fun cs => onSome (C.T ty) (fun i => onSome (takeA i cs) (fun a => resK C l m q rs tys.tail (fun r => k (a :: r)))))) := rfl
def endK (C : Ctx) (rs : List ResultVar) (tys : List TypeId) (r : AV) : Exit → AS → Prop := fun e σ => (e = .ret ∨ e = .normal) ∧ ∃ l, resL C σ rs tys = some l ∧ packA l = r
theorem endK_eq {rs : List ResultVar} {tys : List TypeId} {r : AV} : endK C rs tys r .ret ⟨ofT l, ofL m, ofL q⟩ = resK C l m q rs tys (fun x => packA x = r) := by
  apply propext
  rw [← res_k]
  simp [endK]
end
theorem ACalls.of {C : Ctx} {f : FuncId} {fn : Func} {c : Code} {rs : List ResultVar} {tys : List TypeId} {args : List AV} {r : AV} (n : Scr) (hf : C.P.funcs[f]? = some fn) (hb : fn.body = some c) (hrs : fn.results = List.toArray rs) (hrt : fn.resultTypes = List.toArray tys) (hnm : (fn.name == "runtime.NumGoroutine") = false) (hok : codeOK fn.ntmps c = true) (hl : args.length ≤ fn.ntmps)
    (h : awp C n c (endK C rs tys r) (start args)) : ACalls C f args r := by
  refine ACalls.of_awp n hf hb hnm hok hl ?_
  have : endK C rs tys r = retA C fn r := by
    unfold endK retA
    rw [hrs, hrt]
  rw [← this]
  exact h
theorem normA_nat (T : TyTab) (ty : TypeId) (l : List Nat) : normA T ty (.nat l) = .nat l := rfl
theorem normA_sl (T : TyTab) (ty : TypeId) (k : Nat) (l : List AV) : normA T ty (.sl k l) = .sl k l := rfl
theorem normA_agg (T : TyTab) (ty : TypeId) (l : List AV) : normA T ty (.agg l) = .agg l := rfl
theorem normA_tup (T : TyTab) (ty : TypeId) (l : List AV) : normA T ty (.tup l) = .tup l := rfl
theorem normA_ifc (T : TyTab) (ty t : TypeId) (a : AV) : normA T ty (.ifc t a) = .ifc t a := rfl
theorem normA_fn (T : TyTab) (ty : TypeId) (f : Fn) (a b : List AV) : normA T ty (.fn f a b) = .fn f a b := rfl
theorem normA_ptr (T : TyTab) (ty : TypeId) (a : List AV) : normA T ty (.ptr a) = .ptr a := rfl
theorem normA_int (T : TyTab) (ty : TypeId) (k : IntKind) (n : Int) : normA T ty (.lit (.int k n)) = .lit (.int k n) := rfl
theorem normA_bool (T : TyTab) (ty : TypeId) (b : Bool) : normA T ty (.lit (.bool b)) = .lit (.bool b) := rfl
theorem normA_str (T : TyTab) (ty : TypeId) (b : ByteArray) : normA T ty (.lit (.string b)) = .lit (.string b) := rfl
theorem normA_nilI (T : TyTab) (ty : TypeId) : normA T ty (.lit .nilIface) = .lit .nilIface := rfl
theorem normA_nilF (T : TyTab) (ty : TypeId) : normA T ty (.lit .nilFunc) = .lit .nilFunc := rfl
theorem normA_nilP (T : TyTab) (ty : TypeId) : normA T ty (.lit (.pointer none)) = .lit (.pointer none) := rfl
theorem normA_nilM (T : TyTab) (ty : TypeId) : normA T ty (.lit (.map none)) = .lit (.map none) := rfl
theorem normA_nil (T : TyTab) (ty : TypeId) : normA T ty (.lit (.slice none 0 0)) = (match T ty with | some ⟨.slc _ k l, _, _⟩ => (match l with | true => .nat [] | false => .sl k []) | _ => .lit (.slice none 0 0)) := rfl
theorem cells_agg (l : List AV) : AV.cells (.agg l) = l := rfl
theorem cells_lit (v : Value) : AV.cells (.lit v) = [.lit v] := rfl
theorem cells_nat (l : List Nat) : AV.cells (.nat l) = [.nat l] := rfl
theorem cells_sl (k : Nat) (l : List AV) : AV.cells (.sl k l) = [.sl k l] := rfl
theorem cells_tup (l : List AV) : AV.cells (.tup l) = [.tup l] := rfl
theorem cells_ifc (t : TypeId) (a : AV) : AV.cells (.ifc t a) = [.ifc t a] := rfl
theorem cells_fn (f : Fn) (a b : List AV) : AV.cells (.fn f a b) = [.fn f a b] := rfl
theorem cells_ptr (a : List AV) : AV.cells (.ptr a) = [.ptr a] := rfl
theorem one_lit (v : Value) : AV.one (.lit v) = true := rfl
theorem one_nat (l : List Nat) : AV.one (.nat l) = true := rfl
theorem one_sl (k : Nat) (l : List AV) : AV.one (.sl k l) = true := rfl
theorem one_ifc (t : TypeId) (a : AV) : AV.one (.ifc t a) = true := rfl
theorem one_fn (f : Fn) (a b : List AV) : AV.one (.fn f a b) = true := rfl
theorem one_ptr (a : List AV) : AV.one (.ptr a) = true := rfl
theorem noLimb_lit (v : Value) : AV.noLimb (.lit v) = Go.Proofs.YtcggnmddcbhchaaGreatDoor.noLimb v := rfl
theorem noLimb_nat (l : List Nat) : AV.noLimb (.nat l) = true := rfl
theorem noLimb_sl (k : Nat) (l : List AV) : AV.noLimb (.sl k l) = true := rfl
theorem noLimb_ifc (t : TypeId) (a : AV) : AV.noLimb (.ifc t a) = true := rfl
theorem noLimb_fn (f : Fn) (a b : List AV) : AV.noLimb (.fn f a b) = true := rfl
theorem noLimb_ptr (a : List AV) : AV.noLimb (.ptr a) = true := rfl
theorem packA_one (a : AV) : packA [a] = a := rfl
theorem packA_two (a b : AV) (l : List AV) : packA (a :: b :: l) = .tup (a :: b :: l) := rfl
theorem packA_nil : packA [] = .tup [] := rfl
end Go.Proofs.YtcggnmddcbhchaaGreatDoor
