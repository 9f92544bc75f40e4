/- nat.Norm, nat.Of. -/
import Derived.Test.YtnifjdhjimjihaaGreatDoorTrim
import Derived.OwnWalk
namespace Go.Proofs.YtnifjdhjimjihaaGreatDoor
open Go.RowKit Lim

theorem info_u32 : (Tryz.prog.info? 55).map (fun i => (i.zero, i.size, i.bytes)) = some (some (.int .u32 0), 1, 4) := by kernel_rfl

set_option maxHeartbeats 400000 in
theorem of_any (n : Nat) (hn : n < 18446744073709551616) (w : World) :
    Calls Tryz.prog 57 #[.int .u64 n] w fun e w' => ∃ A c, e = .returned (.slice A (limbs n).length c) ∧ Out w' A c n ∧ Below w.heap.size w w' := by
  have hin : In (w.alloc (.cells (cells [n % 4294967296, n / 4294967296]) 55)) (some ⟨w.heap.size, 0, none⟩) 2 [n % 4294967296, n / 4294967296] n :=
    ⟨(Blk.new w _).rd (by rw [dig_cons, dig_cons]; exact ⟨by omega, by omega, dig_nil⟩), by simp, by simp, by simp [val]; omega⟩
  have ht := trim_in _ _ _ _ _ hin _ rfl
  have e : cells [n % 4294967296, n / 4294967296] = #[.int .u32 ((n : Int) % 4294967296), .int .u32 ((n : Int) / 4294967296)] := by simp [cells]
  rw [e] at ht hin
  have ht' := Lib.hid ht; clear ht
  go_enter Tryz.func57, Tryz.ntmps57
  go_wp2_with fail
  refine ht'.out.mono ?_
  rintro e w' ⟨rfl, rfl⟩
  go_wp2
  go_ret
  exact ⟨_, _, rfl, hin.trim, (Below.refl _ _).alloc (Nat.le_refl _) _⟩

theorem run_append_empty (ty : TypeId) (A : Option Addr) (c : Nat) (w : World) : (Builtin.append_ #[23, 23] ty #[.slice none 0 0, .slice A 0 c]).run Tryz.prog w = .ok (.slice none 0 0) w := by
  obtain ⟨i0, hi0, hz0, hz1, hz2⟩ := info_parts info_u32
  cases A <;> simp [Builtin.append_, run_underlying Tryz.underlying23, sizeOf, typeInfo, hi0, Builtin.lenOf, Builtin.firstCells, loadCells, loadCellsFrom]
theorem wpList_append_empty {w : World} {ops : Array Oper} {rest : List Oper} {o : Oper} {a : Act} {Q : Exit → Act → World → Prop} (hgd : o.guard = none) (s x : Operand)
    (ho : o.op = .call { callee := .builtin .append, args := #[s, x], argTypes := #[23, 23] })
    (A : Option Addr) (c : Nat) (hs : a.eval s = .slice none 0 0) (hx : a.eval x = .slice A 0 c)
    (h : wpList Tryz.prog ops Q rest (a.put o.dst (.slice none 0 0)) w) : wpList Tryz.prog ops Q (o :: rest) a w := by
  refine wpList_plain hgd fun K hK => ?_
  have hrun := run_append_empty o.type A c w
  unfold Oper.wp
  simp [execOp, ho, resolve, invoke, builtin, hs, hx, hrun, Result.andThen]
  exact hK _ _ h

set_option maxHeartbeats 400000 in
theorem norm_any (A : Option Addr) (c : Nat) (l : List Nat) (n : Nat) (w : World) (h : In w A c l n) :
    Calls Tryz.prog 69 #[.slice A l.length c] w fun e w' => ∃ A c, e = .returned (.slice A (limbs n).length c) ∧ Out w' A c n ∧ Below w.heap.size w w' := by
  have ht := h.trim
  have hl := h.nlen
  rcases Nat.eq_zero_or_pos (limbs n).length with h0 | h0
  · have hn : limbs n = [] := List.eq_nil_of_length_eq_zero h0
    have hn0 := limbs_eq_nil.1 hn
    have hn' := Lib.hid hn; clear hn h0
    go_enter Tryz.func69, Tryz.ntmps69
    go_wp2_with fail
    refine (trim_in _ _ _ _ _ h [] hn'.out).mono ?_
    rintro e w' ⟨rfl, rfl⟩
    go_wp2_with (at_builtin; refine wpList_append_empty rfl _ _ rfl A c rfl rfl ?_)
    go_ret
    exact ⟨none, 0, by rw [hn'.out]; rfl, by rw [hn0]; exact Out.zero _ _ _, Below.refl _ _⟩
  · obtain ⟨b, off, rfl, hlt, hc⟩ := ht.rd.2 h0
    obtain ⟨i0, hi0, hz0, hz1, hz2⟩ := info_parts info_u32
    have hl' : (limbs n).length < 1099511627776 := hl
    have g2 : ∀ (j : Nat) (u : Value), (cells (limbs n)).toList[j]? = some u → w.cell? ((⟨b, off, none⟩ : Addr).add j) = some u := by
      intro j u hu
      have hj : j < (limbs n).length := by
        have := (List.getElem?_eq_some_iff.1 hu).1
        simpa [cells] using this
      rw [add_addr, hc j hj]
      rw [Array.getElem?_toList, cells_get _ _ hj] at hu
      exact hu
    have g3 : ∀ (u : Value), u ∈ (cells (limbs n)).toList → u.oneCell' = true := by
      intro u hu
      simp only [cells, List.mem_map] at hu
      obtain ⟨x, _, rfl⟩ := hu
      rfl
    have G2 := Lib.hid g2; clear g2
    have G3 := Lib.hid g3; clear g3
    have G4 := Lib.hid hc; clear hc
    go_enter Tryz.func69, Tryz.ntmps69
    go_wp2_with fail
    refine (trim_in _ _ _ _ _ h _ rfl).mono ?_
    rintro e w' ⟨rfl, rfl⟩
    go_wp2_with (at_builtin; refine wpList_append_lies _ rfl _ _ _ rfl w.heap.size 55 i0 _ 1 4 Tryz.underlying23 hi0 hz0 hz1 hz2 rfl (by omega) (.slice none 0 0) 0 [] rfl ⟨by simp, .inl ⟨rfl, rfl⟩⟩ ⟨b, off, none⟩ (limbs n).length c (cells (limbs n)).toList rfl ?h1 G2.out G3.out h0 ?h4 ?h5 (Nat.le_refl _) w.heap.size rfl ?_)
    case h1 => simp [cells]
    case h4 => simp only [maxLen]; omega
    case h5 => omega
    intro g cap w1 hown hg _ hgl
    go_wp2
    go_ret
    have hb : Below w.heap.size w w1 := (Below.refl _ _).grown hg (Nat.le_refl _) (by simp [Value.ownBlock])
    obtain ⟨r1, r2⟩ := Rd.of_own hown (dig_limbs n) hgl
    exact ⟨_, _, rfl, ⟨r1, r2⟩, hb⟩
end Go.Proofs.YtnifjdhjimjihaaGreatDoor
