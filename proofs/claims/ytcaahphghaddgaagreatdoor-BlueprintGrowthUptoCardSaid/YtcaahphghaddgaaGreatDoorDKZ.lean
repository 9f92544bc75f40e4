import Derived.Test.YtcaahphghaddgaaGreatDoorDVZ
/- Text KZ. -/
set_option linter.unusedSimpArgs false
set_option linter.unusedVariables false
namespace Go.Proofs.YtcaahphghaddgaaGreatDoor
open Go.RowKit Lim
noncomputable section
section
variable {β:Type}
def fN (n:Nat) (k:Nat→β):β:=match n with
 | 0=>k 0
 | n+1=>k (n+1)
def fI (z:Int) (k:Int→β):β:=match z with
 | .ofNat n=>fN n fun n=>k (.ofNat n)
 | .negSucc n=>fN n fun n=>k (.negSucc n)
def fL {α:Type} (f:α→(α→β)→β) (l:List α) (k:List α→β):β:=List.rec (motive:=fun _=>(List α→β)→β) (fun k=>k []) (fun x _ ih k=>f x fun x=>ih fun l=>k (x :: l)) l k
def fB (b:Bool) (k:Bool→β):β:=match b with
 | true=>k true
 | false=>k false
def fV (v:Value) (k:Value→β):β:=match v with
 | .int q z=>fI z fun z=>k (.int q z)
 | .bool b=>fB b fun b=>k (.bool b)
 | .string ⟨⟨l⟩⟩=>fL (fun x k=>k x) l fun l=>k (.string ⟨⟨l⟩⟩)
 | v=>k v
def fAV:Nat→AV→(AV→β)→β
 | 0,a,k=>k a
 | _,.lit v,k=>fV v fun v=>k (.lit v)
 | _,.nat l,k=>fL fN l fun l=>k (.nat l)
 | n+1,.sl e l,k=>fN e fun e=>fL (fAV n) l fun l=>k (.sl e l)
 | n+1,.agg l,k=>fL (fAV n) l fun l=>k (.agg l)
 | n+1,.tup l,k=>fL (fAV n) l fun l=>k (.tup l)
 | n+1,.ptr l,k=>fL (fAV n) l fun l=>k (.ptr l)
 | n+1,.ifc t a,k=>fN t fun t=>fAV n a fun a=>k (.ifc t a)
 | n+1,.fn f l m,k=>fL (fAV n) l fun l=>fL (fAV n) m fun m=>k (.fn f l m)
 | _,.lnk a b,k=>fN a fun a=>fN b fun b=>k (.lnk a b)
theorem fN_eq (n:Nat) (k:Nat→β):fN n k=k n:=by cases n <;> rfl
theorem fI_eq (z:Int) (k:Int→β):fI z k=k z:=by cases z <;> simp only [fI,fN_eq]
theorem fB_eq (b:Bool) (k:Bool→β):fB b k=k b:=by cases b <;> rfl
theorem fL_eq {α:Type} {f:α→(α→β)→β} (hf:∀x k,f x k=k x):∀(l:List α) (k:List α→β),fL f l k=k l
 | [],k=>rfl
 | x :: l,k=>by
  have e:fL f (x :: l) k=f x fun x=>fL f l fun l=>k (x :: l):=rfl
  rw [e,hf,fL_eq hf l]
theorem fV_eq (v:Value) (k:Value→β):fV v k=k v:=by
 unfold fV
 split
 ·rw [fI_eq]
 ·rw [fB_eq]
 ·rw [fL_eq fun _ _=>rfl]
 ·rfl
theorem fAV_eq:∀(n:Nat) (a:AV) (k:AV→β),fAV n a k=k a
 | 0,a,k=>by unfold fAV;rfl
 | n+1,a,k=>by
  have ih:∀x (k:AV→β),fAV n x k=k x:=fun x k=>fAV_eq n x k
  have il:=fun (l:List AV) (k:List AV→β)=>fL_eq (f:=fAV n) ih l k
  cases a with
  | lit v=>simp only [fAV,fV_eq]
  | nat l=>simp only [fAV];rw [fL_eq fN_eq]
  | sl e l=>simp only [fAV,fN_eq,il]
  | agg l=>simp only [fAV,il]
  | tup l=>simp only [fAV,il]
  | ptr l=>simp only [fAV,il]
  | ifc t a=>simp only [fAV,fN_eq,ih]
  | fn f l m=>simp only [fAV,il]
  | lnk a b=>simp only [fAV,fN_eq]
def fTV (x:TV) (k:TV→β):β:=match x with
 | .av a=>fAV 40 a fun a=>k (.av a)
 | .avl a=>fAV 40 a fun a=>k (.avl a)
 | .ref t o=>fN t fun t=>fN o fun o=>k (.ref t o)
 | .osl t e o l=>fN t fun t=>fN e fun e=>fN o fun o=>fN l fun l=>k (.osl t e o l)
 | .oref t e i o=>fN t fun t=>fN e fun e=>fN i fun i=>fN o fun o=>k (.oref t e i o)
 | .omap t=>fN t fun t=>k (.omap t)
 | .skip=>k .skip
theorem fTV_eq (x:TV) (k:TV→β):fTV x k=k x:=by
 cases x <;> simp only [fTV,fAV_eq,fN_eq]
def fOV (x:OV) (k:OV→β):β:=match x with
 | .row e n l=>fN e fun e=>fN n fun n=>fL (fAV 40) l fun l=>k (.row e n l)
 | .limb e l=>fN e fun e=>fL fN l fun l=>k (.limb e l)
 | .map q m=>fL (fun p k=>fV p.1 fun a=>fAV 40 p.2 fun b=>k (a,b)) m fun m=>k (.map q m)
theorem fOV_eq (x:OV) (k:OV→β):fOV x k=k x:=by
 cases x with
 | row e n l=>simp only [fOV,fN_eq];rw [fL_eq (fAV_eq 40)]
 | limb e l=>simp only [fOV,fN_eq];rw [fL_eq fN_eq]
 | map q m=>simp only [fOV];rw [fL_eq fun p k=>by rw [fV_eq,fAV_eq]]
def fO {α:Type} (f:α→(α→β)→β) (p:Nat × Option α) (k:Nat × Option α→β):β:=match p with
 | (n,some x)=>fN n fun n=>f x fun x=>k (n,some x)
 | (n,none)=>fN n fun n=>k (n,none)
theorem fO_eq {α:Type} {f:α→(α→β)→β} (hf:∀x k,f x k=k x) (p:Nat × Option α) (k:Nat × Option α→β):fO f p k=k p:=by
 obtain ⟨n,x⟩:=p
 cases x <;> simp only [fO,fN_eq,hf]
end
end
end Go.Proofs.YtcaahphghaddgaaGreatDoor
