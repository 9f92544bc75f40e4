import Derived.Test.YtmekiphpjpblpaaGreatEVQ
/- Text VR. -/
set_option linter.unusedSimpArgs false
set_option linter.unusedVariables false
set_option maxHeartbeats 40000000
set_option maxRecDepth 100000
namespace Go.Proofs.YtmekiphpjpblpaaGreat
open Go.RowKit Lim
structure AS.le0 (τ σ:AS):Prop where
 tm:∀x v,τ.tm x=some v→σ.tm x=some v
 mem:∀t cs,τ.mem t=some cs→σ.mem t=some cs
 own:∀t ov,τ.own t=some ov→σ.own t=some ov
 hot:∀t ov,σ.own t=some ov→ov.hot=true→τ.own t=some ov
section
variable {C:Ctx} {σ τ:AS} {ops:Array Oper} {o:Oper} {dr:Bool}
end
theorem leM_nil {α:Type} (f:Nat→Option α):leM f []=True:=rfl
theorem leM_cons {α:Type} (f:Nat→Option α) (k:Nat) (v:α) (l:List (Nat × α)):leM f ((k,v) :: l)=(f k=some v∧leM f l):=rfl
theorem leL_of (l:LT) (m:LM) (q:LQ) (L:LT) (M:LM) (Q:LQ):leL ⟨ofT l,ofL m,ofL q⟩ L M Q=(leT ⟨ofT l,ofL m,ofL q⟩ M Q L∧leM (ofL m) M∧leM (ofL q) Q):=rfl
theorem leT_nil (σ:AS) (M:LM) (Q:LQ):leT σ M Q []=True:=rfl
def slotK (m:LM) (q:LQ) (M:LM) (Q:LQ) (x v:TV):Prop:=leV ⟨fun _=>none,ofL M,ofL Q⟩ ⟨fun _=>none,ofL m,ofL q⟩ (some x) v
theorem leT_some (l:LT) (m:LM) (q:LQ) (M:LM) (Q:LQ) (k:Nat) (v:TV) (L:LT):leT ⟨ofT l,ofL m,ofL q⟩ M Q ((k,some v) :: L)=(onSome (ofT l k) (fun x=>slotK m q M Q x v)∧leT ⟨ofT l,ofL m,ofL q⟩ M Q L):=by
 show (leV _ _ (ofT l k) v∧_)=_
 congr 1
 apply propext
 cases h:ofT l k with
 | none=>simp [onSome,leV]
 | some x=>rw [onSome_some];rfl
theorem slotK_av {m:LM} {q:LQ} {M:LM} {Q:LQ} {a:AV} {v:TV}:slotK m q M Q (.av a) v=(TV.av a=v):=by simp [slotK,leV]
theorem slotK_ref {m:LM} {q:LQ} {M:LM} {Q:LQ} {t o t' o':Nat}:slotK m q M Q (.ref t o) (.ref t' o')=(t=t'∧o=o'):=by simp [slotK,leV]
theorem slotK_osl {m:LM} {q:LQ} {M:LM} {Q:LQ} {t k o n t' k' o' n':Nat}:slotK m q M Q (.osl t k o n) (.osl t' k' o' n')=(t=t'∧k=k'∧o=o'∧n=n'):=by simp [slotK,leV]
end Go.Proofs.YtmekiphpjpblpaaGreat
