import Derived.Test.YtcaahphghaddgaaGreatDoorEVP
/- Text VQ. -/
set_option linter.unusedSimpArgs false
set_option linter.unusedVariables false
namespace Go.Proofs.YtcaahphghaddgaaGreatDoor
open Go.RowKit Lim
section
variable {C:Ctx} {dr:Bool} {ops:Array Oper} {os:List Oper} {l:LT} {m:LM} {q:LQ} {K:AS→Prop} {ty:TypeId} {p:String} {af:Array Edge} {t:Nat} {d:Option Nat}
end
section
variable {C:Ctx} {n:Scr} {K:Exit→AS→Prop} {l:LT} {m:LM} {q:LQ}
theorem awp_seq (a b:Code) {σ:AS}:awp C n (.seq a b) K σ=awp C n a (thenK C n b K) σ:=rfl
theorem awp_ret:awp C n .ret K ⟨ofT l,ofL m,ofL q⟩=K .ret ⟨ofT l,ofL m,ofL q⟩:=rfl
theorem awp_region (n:Nat) (id:Nat) (os:List Oper) (d:Bool):awp C ⟨n,[],[]⟩ (.region id (List.toArray os) d) K ⟨ofT l,ofL m,ofL q⟩=arun C d (List.toArray os) os ⟨ofT (prepL n d (badOf d os) l),ofL m,ofL q⟩ (K .normal):=by
 show arun C _ _ _ (prep n _ _ _) _=_
 rw [frzB_of,prep_of]
 simp only [fzAt,frzBL_none,delB_nil]
end
theorem binK_eql {b:Bool} {k:IntKind} {x y:Int} {K:Value→Prop}:binK b .eql (.int k x) (.int k y) K=K (.bool (x == y)):=by simp [binK,binR]
theorem start_of (args:List AV):start args=⟨ofT (startL 0 args),ofL [],ofL []⟩:=rfl
theorem startL_nil (k:Nat):startL k []=[]:=rfl
theorem startL_cons (k:Nat) (a:AV) (l:List AV):startL k (a :: l)=(k,some (.av a)) :: startL (k+1) l:=rfl
def resK (C:Ctx) (l:LT) (m:LM) (q:LQ):List ResultVar→List TypeId→(List AV→Prop)→Prop
 | [],_,k=>k []
 | .tmp t :: rs,tys,k=>onSome (ofT l t) (fun v=>argK C.T q (tys.headD 0) v (fun a _=>resK C l m q rs tys.tail (fun r=>k (a :: r))))
 | .cell t ty :: rs,tys,k=>onSome (ofT l t) (fun v=>onSome (lookL m q v) (fun cs=>onSome (C.T ty) (fun i=>onSome (takeA i cs) (fun a=>resK C l m q rs tys.tail (fun r=>k (a :: r))))))
section
variable {C:Ctx} {l:LT} {m:LM} {q:LQ}
theorem argT_k (T:TyTab) (ty:TypeId) (v:TV) (R:AV→Prop):(∃a,AS.argT T ⟨ofT l,ofL m,ofL q⟩ ty v=some a∧R a) ↔ argK T q ty v (fun a _=>R a):=by
 cases v with
 | av a=>simp [AS.argT,argK]
 | osl t k off len =>
  rw [argK_osl]
  simp only [AS.argT,onSome]
  constructor
  ·rintro ⟨a,h1,h2⟩
   split at h1
   ·rename_i ov ho
    split at h1
    ·rename_i hc;cases h1;exact ⟨ov,ho,hc.1,hc.2,h2⟩
    ·cases h1
   ·cases h1
  ·rintro ⟨ov,h1,h2,h3,h4⟩
   exact ⟨_,by rw [h1];simp only;rw [if_pos ⟨h2,h3⟩],h4⟩
 | _=>simp [AS.argT,argK]
theorem res_k:∀(rs:List ResultVar) (tys:List TypeId) (k:List AV→Prop),(∃r,resL C ⟨ofT l,ofL m,ofL q⟩ rs tys=some r∧k r) ↔ resK C l m q rs tys k
 | [],tys,k=>by simp [resL,resK]
 | .tmp t :: rs,tys,k=>by
  simp only [resK,onSome]
  constructor
  ·rintro ⟨r,h,hk⟩
   simp only [resL]at h
   split at h
   ·rename_i a r' h1 h2
    cases h
    simp only [resA,Option.bind_eq_some_iff]at h1
    obtain ⟨v,h3,h4⟩:=h1
    exact ⟨v,h3,(argT_k (m:=m) C.T _ v (fun a=>resK C l m q rs tys.tail (fun r=>k (a :: r)))).1 ⟨a,h4,(res_k rs tys.tail _).1 ⟨r',h2,hk⟩⟩⟩
   ·cases h
  ·rintro ⟨v,h3,h4⟩
   obtain ⟨a,h5,h6⟩:=(argT_k (l:=l) (m:=m) C.T _ v (fun a=>resK C l m q rs tys.tail (fun r=>k (a :: r)))).2 h4
   obtain ⟨r,h7,h8⟩:=(res_k rs tys.tail _).2 h6
   refine ⟨a :: r,?_,h8⟩
   have:resA C ⟨ofT l,ofL m,ofL q⟩ (.tmp t) (tys.headD 0)=some a:=by simp only [resA,h3,Option.bind_some,h5]
   simp only [resL,this,h7]
 | .cell t ty :: rs,tys,k=>by
  simp only [resK,onSome]
  constructor
  ·rintro ⟨r,h,hk⟩
   simp only [resL]at h
   split at h
   ·rename_i a r' h1 h2
    cases h
    simp only [resA]at h1
    split at h1
    ·rename_i i cs h3 h4
     cases hx:ofT l t with
     | none=>rw [hx]at h4;cases h4
     | some y =>
      rw [hx,look_of]at h4
      exact ⟨y,rfl,cs,h4,i,h3,a,h1,(res_k rs tys.tail _).1 ⟨r',h2,hk⟩⟩
    ·cases h1
   ·cases h
  ·rintro ⟨v,h1,cs,h2,i,h5,a,h6,h7⟩
   obtain ⟨r,h3,h4⟩:=(res_k rs tys.tail _).2 h7
   refine ⟨_,?_,h4⟩
   have h8:AS.look ⟨ofT l,ofL m,ofL q⟩ (ofT l t)=some cs:=by rw [h1,look_of];exact h2
   simp only [resL,resA,h3,h5,h8,h6]
theorem resK_nil {tys:List TypeId} {k:List AV→Prop}:resK C l m q [] tys k=k []:=rfl
theorem resK_tmp {t:Nat} {rs:List ResultVar} {tys:List TypeId} {k:List AV→Prop}:resK C l m q (.tmp t :: rs) tys k=onSome (ofT l t) (fun v=>argK C.T q (tys.headD 0) v (fun a _=>resK C l m q rs tys.tail (fun r=>k (a :: r)))):=rfl
def endK (C:Ctx) (rs:List ResultVar) (tys:List TypeId) (r:AV):Exit→AS→Prop:=fun e σ=>(e=.ret∨e=.normal)∧∃l,resL C σ rs tys=some l∧packA l=r
theorem endK_eq {rs:List ResultVar} {tys:List TypeId} {r:AV}:endK C rs tys r .ret ⟨ofT l,ofL m,ofL q⟩=resK C l m q rs tys (fun x=>packA x=r):=by
 apply propext
 rw [←res_k]
 simp [endK]
end
theorem ACalls.of {C : Ctx} {f : FuncId} {fn : Func} {c : Code} {rs : List ResultVar} {tys : List TypeId} {args : List AV} {r : AV} (n : Scr) (hf : C.P.funcs[f]? = some fn) (hb : fn.body = some c) (hrs : fn.results = List.toArray rs) (hrt : fn.resultTypes = List.toArray tys) (hnm : (fn.name == "runtime.NumGoroutine") = false) (hok : codeOK fn.ntmps c = true) (hl : args.length ≤ fn.ntmps)
  (h:awp C n c (endK C rs tys r) (start args)):ACalls C f args r:=by
 refine ACalls.of_awp n hf hb hnm hok hl ?_
 have:endK C rs tys r=retA C fn r:=by
  unfold endK retA
  rw [hrs,hrt]
 rw [←this]
 exact h
theorem normA_sl (T:TyTab) (ty:TypeId) (k:Nat) (l:List AV):normA T ty (.sl k l)=.sl k l:=rfl
theorem normA_int (T:TyTab) (ty:TypeId) (k:IntKind) (n:Int):normA T ty (.lit (.int k n))=.lit (.int k n):=rfl
theorem normA_bool (T:TyTab) (ty:TypeId) (b:Bool):normA T ty (.lit (.bool b))=.lit (.bool b):=rfl
theorem packA_one (a:AV):packA [a]=a:=rfl
end Go.Proofs.YtcaahphghaddgaaGreatDoor
