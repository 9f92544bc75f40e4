import Derived.Test.YtmekiphpjpblpaaGreatEVI
import Derived.Orders
/- Text VJ. -/
set_option linter.unusedSimpArgs false
set_option linter.unusedVariables false
set_option maxHeartbeats 40000000
set_option maxRecDepth 100000
namespace Go.Proofs.YtmekiphpjpblpaaGreat
open Go.RowKit Lim
def wantedA (ops:Array Oper) (σ:AS) (o:Oper):Option Bool :=
 match o.guard with
 | none=>some true
 | some (j,want) =>
  match (ops[j]?).bind (·.dst)with
  | none=>none
  | some t =>
   match σ.tm t with
   | some (.av (.lit (.bool b)))=>some (b == want)
   | some .skip=>some false
   | _=>none
def astepG (C:Ctx) (dr:Bool) (ops:Array Oper) (o:Oper) (σ:AS) (K:AS→Prop):Prop :=
 ∃b,wantedA ops σ o=some b∧(b=true→astep C dr o σ K)∧(b=false→K (σ.put o.dst .skip))
inductive Eff where
 | put (d:Option Nat) (v:TV)
 | new (t:Nat) (cs:List AV)
 | set (t:Nat) (cs:List AV) (d:Option Nat)
def Eff.apply (σ:AS):Eff→AS
 | .put d v=>σ.put d v
 | .new t cs=>σ.new t cs
 | .set t cs d=>(σ.setMem t cs).put d .skip
def callE (C:Ctx) (σ:AS) (d:Option Nat) (c:Call) (e:Eff):Prop :=
 ∃f pre post args r,tgt C σ c.callee f pre post∧σ.args C.T c.args.toList c.argTypes.toList=some args∧Con C σ f (pre ++ args ++ post) r∧(r.flat=true∨(true=true→σ.usedL c.args.toList=[]))∧e=.put d (.av r)
def eff1 (C:Ctx) (o:Oper) (σ:AS) (e:Eff):Prop:=astep C true o σ (fun _=>True)∧match o.op with
 | .alloc ty=>∃t i,o.dst=some t∧C.T ty=some i∧e=.new t i.zero
 | .box ty x=>∃t y,o.dst=some t∧σ.argV C.T ty x=some y∧e=.new t y.cells
 | .store ty x y=>∃t off cs z,σ.get x=some (.ref t off)∧σ.mem t=some cs∧σ.argV C.T ty y=some z∧e=.set t (splice cs off z.cells) o.dst
 | .build ty parts=>∃fs z b cs,C.T ty=some ⟨.strct fs,z,b⟩∧fillV C.T σ fs z parts.toList=some cs∧e=.put o.dst (.av (.agg cs))
 | .buildSlice ty n parts=>∃e0 k l z b i cs,C.T ty=some ⟨.slc e0 k l,z,b⟩∧C.T e0=some i∧fillV C.T σ (places k e0 n 0) (List.replicate n i.zero).flatten parts.toList=some cs ∧
   (match l with
    | true=>∃ns,natsR cs ns∧e=.put o.dst (.av (.nat ns))
    | false=>e=.put o.dst (.av (.sl k (chunk k n cs))))
 | .makeSlice _ _ _=>False
 | .makeMap _ _=>False
 | .mapUpdate _ _ _ _=>False
 | .call c=>(match c.callee with
  | .value _=>callE C σ o.dst c e
  | .builtin .append=>False
  | .builtin .copy=>False
  | .invoke _ _=>callE C σ o.dst c e
  | _=>∃v,aval C σ o v∧e=.put o.dst v)
 | _=>∃v,aval C σ o v∧e=.put o.dst v
def eff (C:Ctx) (ops:Array Oper) (o:Oper) (σ:AS) (e:Eff):Prop :=
 (wantedA ops σ o=some true∧eff1 C o σ e)∨(wantedA ops σ o=some false∧e=.put o.dst .skip)
def ixC:List Nat→List Oper→List Nat
 | L,[]=>L
 | L,o :: l=>match o.op,o.dst with
  | .indexAddr _ _ _,some d=>ixC (d :: L) l
  | .fieldAddr _ (.tmp a) _,some d=>if L.contains a then ixC (d :: L) l else ixC L l
  | .nilCheck (.tmp a),some d=>if L.contains a then ixC (d :: L) l else ixC L l
  | _,_=>ixC L l
def ixOf (os:List Oper):List Nat:=ixC [] os
def loudB (ix:List Nat) (o:Oper):Bool :=
 match o.op with
 | .makeSlice _ _ _=>true
 | .makeMap _ _=>true
 | .mapUpdate _ _ _ _=>true
 | .store _ (.tmp a) _=>ix.contains a
 | .call c=>(match c.callee with|.builtin .append=>true|.builtin .copy=>true|_=>false)
 | _=>false
section
variable {C:Ctx} {σ τ:AS} {ops:Array Oper} {o:Oper}
theorem store_get {ty:TypeId} {x y:Operand} {dst:Option Tmp} {type:TypeId} {pos:String} {after:Array Edge} {guard:Option (Nat × Bool)} {ix:List Nat} (hl:loudB ix ⟨dst,.store ty x y,type,pos,after,guard⟩=false) (hix:∀x t k i o,σ.tm x=some (.oref t k i o)→x∈ix) {t k j q:Nat}:σ.get x≠some (.oref t k j q):=by
 intro h
 cases x with
 | tmp s =>
  have:=hix s t k j q h
  simp only [loudB]at hl
  simp at hl
  exact hl this
 | const v=>obtain ⟨u,h3,_⟩:=constT_sound h;cases h3
 | func f=>cases h
 | _=>cases h
theorem eff1_of {ix:List Nat} {K:AS→Prop} (hl:loudB ix o=false) (hix:∀x t k i o,σ.tm x=some (.oref t k i o)→x∈ix) (h:astep C true o σ K):∃e,eff1 C o σ e∧K (e.apply σ):=by
 obtain ⟨dst,op,type,pos,after,guard⟩:=o
 have val:(∃v,aval C σ ⟨dst,op,type,pos,after,guard⟩ v∧K (σ.put dst v))→∃e,(∃v,aval C σ ⟨dst,op,type,pos,after,guard⟩ v∧e=.put dst v)∧K (Eff.apply σ e):=by
  rintro ⟨v,h1,h2⟩
  exact ⟨.put dst v,⟨v,h1,rfl⟩,h2⟩
 cases op with
 | alloc ty =>
  obtain ⟨t,i,h1,h2,h3,h4,h5⟩:=h
  exact ⟨.new t i.zero,⟨⟨t,i,h1,h2,h3,h4,trivial⟩,t,i,h1,h2,rfl⟩,h5⟩
 | box ty x =>
  obtain ⟨t,y,h1,h2,hu,h3,h4,h5⟩:=h
  rw [hu rfl,frz_nil]at h5
  exact ⟨.new t y.cells,⟨⟨t,y,h1,h2,hu,h3,h4,trivial⟩,t,y,h1,h2,rfl⟩,h5⟩
 | store ty x y =>
  obtain ⟨i,z,h1,h2,hu,h3,h4,h5⟩:=h
  cases hx:σ.get x with
  | none=>rw [hx]at h5;exact h5.elim
  | some v =>
   cases v with
   | ref t off =>
    rw [hx]at h5
    obtain ⟨h6,cs,h7,h8,h9⟩:=h5
    rw [hu rfl,frz_nil]at h9
    refine ⟨.set t _ dst,⟨⟨i,z,h1,h2,hu,h3,h4,?_⟩,t,off,cs,z,hx,h7,h2,rfl⟩,h9⟩
    rw [hx]
    exact ⟨h6,cs,h7,h8,trivial⟩
   | oref t k j q=>exact absurd hx (store_get hl hix)
   | _=>rw [hx]at h5;exact h5.elim
 | build ty parts =>
  obtain ⟨fs,z,b,cs,h1,h2,hu,h3⟩:=h
  rw [hu rfl,frz_nil]at h3
  exact ⟨.put dst _,⟨⟨fs,z,b,cs,h1,h2,hu,trivial⟩,fs,z,b,cs,h1,h2,rfl⟩,h3⟩
 | buildSlice ty n parts =>
  obtain ⟨e,k,l,z,b,i,cs,h1,h2,h3,h4,h5,h6,h7,hu,h8⟩:=h
  rw [hu rfl,frz_nil]at h8
  cases l with
  | true =>
   obtain ⟨hk,ns,h8,h9⟩:=h8
   exact ⟨.put dst _,⟨⟨e,k,true,z,b,i,cs,h1,h2,h3,h4,h5,h6,h7,hu,hk,ns,h8,trivial⟩,e,k,true,z,b,i,cs,h1,h2,h6,ns,h8,rfl⟩,h9⟩
  | false=>exact ⟨.put dst _,⟨⟨e,k,false,z,b,i,cs,h1,h2,h3,h4,h5,h6,h7,hu,trivial⟩,e,k,false,z,b,i,cs,h1,h2,h6,rfl⟩,h8⟩
 | makeSlice ty x y=>cases hl
 | makeMap ty r=>cases hl
 | mapUpdate ty x q y=>cases hl
 | call c =>
  obtain ⟨callee,cargs,ctys⟩:=c
  dsimp only [astep]at h
  dsimp only [eff1]
  have hcall:callS C true dst ⟨callee,cargs,ctys⟩ σ K→∃e,(callS C true dst ⟨callee,cargs,ctys⟩ σ (fun _=>True)∧callE C σ dst ⟨callee,cargs,ctys⟩ e)∧K (Eff.apply σ e):=by
   rintro ⟨f,pre,post,args,r,h0,h1,h2,h3,h4⟩
   have e0:(if r.flat=true then σ else σ.frz (σ.usedL cargs.toList))=σ:=by
    rcases h3 with h3|h3
    ·rw [if_pos h3]
    ·rw [h3 rfl,frz_nil];split <;> rfl
   rw [e0]at h4
   exact ⟨.put dst (.av r),⟨⟨f,pre,post,args,r,h0,h1,h2,h3,trivial⟩,f,pre,post,args,r,h0,h1,h2,h3,rfl⟩,h4⟩
  split at h
  ·exact hcall h
  ·cases hl
  ·cases hl
  ·exact hcall h
  ·rename_i n1 n2 n3 n4
   obtain ⟨e,h1,h2⟩:=val h
   refine ⟨e,⟨?_,?_⟩,h2⟩
   ·obtain ⟨v,h3,_⟩:=h1
    dsimp only [astep]
    split
    ·exact (n1 _ rfl).elim
    ·exact (n2 rfl).elim
    ·exact (n3 rfl).elim
    ·exact (n4 _ _ rfl).elim
    ·exact ⟨v,h3,trivial⟩
   ·split
    ·exact (n1 _ rfl).elim
    ·exact (n2 rfl).elim
    ·exact (n3 rfl).elim
    ·exact (n4 _ _ rfl).elim
    ·exact h1
 | _ =>
  obtain ⟨v,h1,h2⟩:=h
  exact ⟨.put dst v,⟨⟨v,h1,trivial⟩,v,h1,rfl⟩,h2⟩
theorem astep_of {K:AS→Prop} {e:Eff} (h:eff1 C o σ e) (hK:K (e.apply σ)):astep C true o σ K:=by
 obtain ⟨h0,h⟩:=h
 obtain ⟨dst,op,type,pos,after,guard⟩:=o
 cases op with
 | alloc ty =>
  obtain ⟨t,i,h1,h2,rfl⟩:=h
  obtain ⟨t',i',g1,g2,g3,g4,_⟩:=h0
  rw [h1]at g1;cases g1
  rw [h2]at g2;cases g2
  exact ⟨t,i,h1,h2,g3,g4,hK⟩
 | box ty x =>
  obtain ⟨t,i,h1,h2,rfl⟩:=h
  obtain ⟨t',i',g1,g2,gu,g3,g4,_⟩:=h0
  rw [h1]at g1;cases g1
  rw [h2]at g2;cases g2
  refine ⟨t,i,h1,h2,gu,g3,g4,?_⟩
  rw [gu rfl,frz_nil]
  exact hK
 | store ty x y =>
  obtain ⟨t,off,cs,z,h2,h3,h4,rfl⟩:=h
  obtain ⟨i,z',g1,g4,gu,g5,g6,g7⟩:=h0
  rw [h4]at g4;cases g4
  rw [h2]at g7
  obtain ⟨g8,cs',g9,g10,_⟩:=g7
  rw [h3]at g9;cases g9
  refine ⟨i,z,g1,h4,gu,g5,g6,?_⟩
  rw [h2]
  refine ⟨g8,cs,h3,g10,?_⟩
  rw [gu rfl,frz_nil]
  exact hK
 | build ty parts =>
  obtain ⟨fs,z,b,cs,h1,h2,rfl⟩:=h
  obtain ⟨fs',z',b',cs',g1,g2,gu,_⟩:=h0
  rw [h1]at g1;cases g1
  rw [h2]at g2;cases g2
  refine ⟨fs,z,b,cs,h1,h2,gu,?_⟩
  rw [gu rfl,frz_nil]
  exact hK
 | buildSlice ty n parts =>
  obtain ⟨e0,k,l,z,b,i,cs,h1,h2,h6,h8⟩:=h
  obtain ⟨e',k',l',z',b',i',cs',g1,g2,g3,g4,g5,g6,g7,gu,g8⟩:=h0
  rw [h1]at g1;cases g1
  rw [h2]at g2;cases g2
  rw [h6]at g6;cases g6
  refine ⟨e0,k,l,z,b,i,cs,h1,h2,g3,g4,g5,h6,g7,gu,?_⟩
  rw [gu rfl,frz_nil]
  cases l with
  | true =>
   obtain ⟨ns,h8,rfl⟩:=h8
   exact ⟨g8.1,ns,h8,hK⟩
  | false=>cases h8;exact hK
 | makeSlice ty x y=>exact h.elim
 | makeMap ty r=>exact h.elim
 | mapUpdate ty x q y=>exact h.elim
 | call c =>
  obtain ⟨callee,cargs,ctys⟩:=c
  dsimp only [astep]at h0 ⊢
  dsimp only at h
  have hcall:callE C σ dst ⟨callee,cargs,ctys⟩ e→callS C true dst ⟨callee,cargs,ctys⟩ σ K:=by
   rintro ⟨f,pre,post,args,r,g0,h1,h2,h3,rfl⟩
   refine ⟨f,pre,post,args,r,g0,h1,h2,h3,?_⟩
   have e0:(if r.flat=true then σ else σ.frz (σ.usedL cargs.toList))=σ:=by
    rcases h3 with h3|h3
    ·rw [if_pos h3]
    ·rw [h3 rfl,frz_nil];split <;> rfl
   rw [e0]
   exact hK
  split
  ·exact hcall h
  ·exact h.elim
  ·exact h.elim
  ·exact hcall h
  ·rename_i n1 n2 n3 n4
   split at h
   ·exact (n1 _ rfl).elim
   ·exact (n2 rfl).elim
   ·exact (n3 rfl).elim
   ·exact (n4 _ _ rfl).elim
   ·obtain ⟨v,h1,rfl⟩:=h
    exact ⟨v,h1,hK⟩
 | _ =>
  obtain ⟨v,h1,rfl⟩:=h
  exact ⟨v,h1,hK⟩
theorem astepG_eff {ix:List Nat} {K:AS→Prop} (hl:loudB ix o=false) (hix:∀x t k i o,σ.tm x=some (.oref t k i o)→x∈ix) (h:astepG C true ops o σ K):∃e,eff C ops o σ e∧K (e.apply σ):=by
 obtain ⟨b,h1,h2,h3⟩:=h
 cases b with
 | true =>
  obtain ⟨e,h4,h5⟩:=eff1_of hl hix (h2 rfl)
  exact ⟨e,.inl ⟨h1,h4⟩,h5⟩
 | false=>exact ⟨_,.inr ⟨h1,rfl⟩,h3 rfl⟩
theorem eff_astepG {K:AS→Prop} {e:Eff} (h:eff C ops o σ e) (hK:K (e.apply σ)):astepG C true ops o σ K:=by
 rcases h with ⟨h1,h2⟩|⟨h1,rfl⟩
 ·exact ⟨true,h1,fun _=>astep_of h2 hK,fun h=>by cases h⟩
 ·exact ⟨false,h1,(fun h=>by cases h),fun _=>hK⟩
end
end Go.Proofs.YtmekiphpjpblpaaGreat
