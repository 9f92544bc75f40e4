/- decimal.Round and Value where they refuse; Integer. -/
import Derived.Test.YtnifjdhjimjihaaGreatDoorRound
namespace Go.Proofs.YtnifjdhjimjihaaGreatDoor
open Go.RowKit Lim
attribute [local go_sem ↓] Go.wp_at_zero Go.wp_at_succ

/-- The zero decimal and an error. -/
def RetE (w : World) (err : Int) (e : Ending) (w' : World) : Prop := e = .returned (.tuple #[.agg #[.bool false, .slice none 0 0, .int .i64 0], .int .i64 err]) ∧ Below w.heap.size w w'

set_option maxHeartbeats 1000000 in
theorem round_range (t : Bool) (A B : Option Addr) (c f a b : Nat) (places mode : Int) (w : World) (h : places < 0 ∨ 9 < places) :
    Calls Tryz.prog 9 #[.agg #[.bool t, .slice A a c, .slice B b f], .int .i64 places, .int .i64 mode] w (RetE w 3) := by
  have hbel : Below w.heap.size w ((w.alloc (.cells #[.bool t, .slice A a c, .slice B b f] 27)).alloc (.cells #[.bool false, .slice none 0 0, .int .i64 0] 29)) := ((Below.refl _ _).alloc (Nat.le_refl _) _).alloc (by simp) _
  have br := Box.new (w.alloc (.cells #[.bool t, .slice A a c, .slice B b f] 27)) #[.bool false, .slice none 0 0, .int .i64 0] 29
  rw [World.size_alloc] at br
  go_enter Tryz.func9, Tryz.ntmps9
  go_wp2_with fail
  refine (validPlaces_no _ h _).mono ?_
  rintro e w' ⟨rfl, rfl⟩
  go_wp2_with fail
  exact bodyPost_ret (results_dec Tryz.results9 rfl rfl br) rfl ⟨rfl, hbel⟩

set_option maxHeartbeats 1000000 in
theorem round_mode (t : Bool) (A B : Option Addr) (c f a b : Nat) (places mode : Int) (w : World) (h0 : 0 ≤ places) (h9 : places ≤ 9) (h : mode < 1 ∨ 7 < mode) :
    Calls Tryz.prog 9 #[.agg #[.bool t, .slice A a c, .slice B b f], .int .i64 places, .int .i64 mode] w (RetE w 1) := by
  have hbel : Below w.heap.size w ((w.alloc (.cells #[.bool t, .slice A a c, .slice B b f] 27)).alloc (.cells #[.bool false, .slice none 0 0, .int .i64 0] 29)) := ((Below.refl _ _).alloc (Nat.le_refl _) _).alloc (by simp) _
  have br := Box.new (w.alloc (.cells #[.bool t, .slice A a c, .slice B b f] 27)) #[.bool false, .slice none 0 0, .int .i64 0] 29
  rw [World.size_alloc] at br
  go_enter Tryz.func9, Tryz.ntmps9
  go_wp2_with fail
  refine (validPlaces_yes _ h0 h9 _).mono ?_
  rintro e w' ⟨rfl, rfl⟩
  go_wp2_with fail
  refine (validMode_no _ h _).mono ?_
  rintro e w' ⟨rfl, rfl⟩
  go_wp2_with fail
  exact bodyPost_ret (results_dec Tryz.results9 rfl rfl br) rfl ⟨rfl, hbel⟩

set_option maxHeartbeats 1000000 in
theorem value_range (t : Bool) (A : Option Addr) (a c : Nat) (places : Int) (w : World) (h : places < 0 ∨ 9 < places) :
    Calls Tryz.prog 23 #[.agg #[.bool t, .slice A a c, .int .i64 places]] w fun e w' => e = .returned (.tuple #[.agg #[.bool false, .slice none 0 0, .slice none 0 0], .int .i64 3]) ∧ Below w.heap.size w w' := by
  have hbel : Below w.heap.size w ((w.alloc (.cells #[.bool t, .slice A a c, .int .i64 places] 29)).alloc (.cells #[.bool false, .slice none 0 0, .slice none 0 0] 27)) := ((Below.refl _ _).alloc (Nat.le_refl _) _).alloc (by simp) _
  have br := Box.new (w.alloc (.cells #[.bool t, .slice A a c, .int .i64 places] 29)) #[.bool false, .slice none 0 0, .slice none 0 0] 27
  rw [World.size_alloc] at br
  go_enter Tryz.func23, Tryz.ntmps23
  go_wp2_with fail
  refine (validPlaces_no _ h _).mono ?_
  rintro e w' ⟨rfl, rfl⟩
  go_wp2_with fail
  exact bodyPost_ret (results_ratT Tryz.results23 rfl rfl br) rfl ⟨rfl, hbel⟩
end Go.Proofs.YtnifjdhjimjihaaGreatDoor
