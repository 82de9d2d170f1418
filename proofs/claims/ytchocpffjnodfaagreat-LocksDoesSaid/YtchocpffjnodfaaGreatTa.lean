import Derived.Test.YtchocpffjnodfaaGreatFn
namespace Go.Bur
open Go.RowKit
set_option linter.unusedVariables false
theorem HRep.mono{S:Tab}{w w':World}(e:Ext w w'):∀{ts:List Ty} {vs:List Value} {h:HL S.τ ts},HRep S w ts vs h→HRep S w' ts vs h
 |[],_,_,h=>h
 |t::ts,_,_,⟨v,vs',e0,h1,h2⟩=>⟨v,vs',e0,(S.GT t).mono h1 e,HRep.mono e h2⟩
theorem HRep.one{S:Tab}{w:World}:∀{ts:List Ty} {vs:List Value} {h:HL S.τ ts},HRep S w ts vs h→∀v∈vs,v.oneCell'=true
 |[],vs,_,h=>by simp[HRep] at h;subst h;simp
 |t::ts,_,_,⟨v,vs',e0,h1,h2⟩=>by
  subst e0
  intro u hu
  rcases List.mem_cons.1 hu with rfl|hu
  ·exact(S.GT t).one h1 _ (List.mem_singleton_self _)
  ·exact HRep.one h2 u hu
@[reducible] def pullG(S:Tab)(ts:List Ty){α:Type}(f:α→HL S.τ ts):GoT α where
 sz:=ts.length
 rep w vs x:=HRep S w ts vs (f x)
 len h:=HRep.len h
 mono h e:=HRep.mono e h
 one h:=HRep.one h
@[reducible] def noG{α:Type}:GoT α where
 sz:=0
 rep _ vs _:=vs=[]
 len h:=by rw[h];rfl
 mono h _:=h
 one h:=by rw[h];simp
section
variable (τ : Nat → Type) (lv : Nat → List Ty) (get : (i : Nat) → τ i → HL τ (lv i)) (mkS : (i : Nat) → HL τ (lv i) → τ i)
set_option warn.classDefReducibility false in
def tabG:Nat→(i:Nat)→GoT (τ i)
 |0,_=>noG
 |d+1,i=>pullG ⟨τ,lv,get,mkS,tabG d⟩ (lv i) (get i)
@[reducible] def mkTab(d:Nat):Tab:=⟨τ,lv,get,mkS,tabG τ lv get mkS d⟩
end
end Go.Bur
