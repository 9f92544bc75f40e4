import Derived.Test.YtcaahphghaddgaaGreatDoorF3
/- Texts merged: Qe Uj. -/
set_option linter.unusedSimpArgs false
set_option linter.unusedVariables false
namespace Go.Proofs.YtcaahphghaddgaaGreatDoor
open Go.RowKit Lim
noncomputable section
noncomputable def primA:List (Nat × PrimK):=(17,kMemo probA probR) :: (10,kPrint 20) :: primKL
theorem primA_ok:∀p∈primA,∀args r,p.2 args=some r→AT p.1 args r :=
 List.forall_mem_cons.2 ⟨fun _ _ h=>kMemo_ok (KR_calls prob_k) h,List.forall_mem_cons.2 ⟨fun _ _=>kPrint_ok,primKL_ok⟩⟩
theorem awake_k:KRp primA 30 14 []=some (.lit (.bool true)):=by kernel_rfl
theorem awake_c:AC 14 [] (boo true):=(KRp_calls primA_ok awake_k).ofT
end
end Go.Proofs.YtcaahphghaddgaaGreatDoor
set_option linter.unusedSimpArgs false
set_option linter.unusedVariables false
namespace Go.Proofs.YtcaahphghaddgaaGreatDoor
open Go.RowKit Lim
theorem pools.law (as':List AV) (h:OkA 1048576 [.sl shPI,shI] as'):AC 4 as' (boo true):=pools_law awake_c as' h
end Go.Proofs.YtcaahphghaddgaaGreatDoor
