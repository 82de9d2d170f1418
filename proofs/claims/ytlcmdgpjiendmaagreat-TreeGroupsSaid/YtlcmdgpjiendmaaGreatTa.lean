import Derived.Test.YtlcmdgpjiendmaaGreatFn
namespace Go.Bur
open Go.RowKit
set_option linter.unusedVariables false
theorem iI.mono{S:Tab}{w w':World}(e:Ext w w'):∀{ts:List Ty} {vs:List Value} {h:HL S.τ ts},iI S w ts vs h->iI S w' ts vs h
 |[],_,_,h=>h
 |t::ts,_,_,⟨v,vs',e0,h1,h2⟩=>⟨v,vs',e0,(S.GT t).mono h1 e,iI.mono e h2⟩
theorem iI.one{S:Tab}{w:World}:∀{ts:List Ty} {vs:List Value} {h:HL S.τ ts},iI S w ts vs h->∀v∈vs,v.oneCell'=true
 |[],vs,_,h=>by simp[iI] at h;subst h;simp
 |t::ts,_,_,⟨v,vs',e0,h1,h2⟩=>by
  subst e0
  intro u hu
  rcases List.mem_cons.1 hu with rfl|hu
  ·exact(S.GT t).one h1 _ (List.mem_singleton_self _)
  ·exact iI.one h2 u hu
@[reducible] def abb(S:Tab)(ts:List Ty){α:Type}(f:α->HL S.τ ts):GoT α where
 sz:=ts.length
 rep w vs x:=iI S w ts vs (f x)
 len h:=iI.len h
 mono h e:=iI.mono e h
 one h:=iI.one h
@[reducible] def noG{α:Type}:GoT α where
 sz:=0
 rep _ vs _:=vs=[]
 len h:=by rw[h];rfl
 mono h _:=h
 one h:=by rw[h];simp
section
variable (τ : Nat -> Type) (lv : Nat -> List Ty) (get : (i : Nat) -> τ i -> HL τ (lv i)) (mkS : (i : Nat) -> HL τ (lv i) -> τ i)
set_option warn.classDefReducibility false in
def R5:Nat->(i:Nat)->GoT (τ i)
 |0,_=>noG
 |d+1,i=>abb ⟨τ,lv,get,mkS,R5 d⟩ (lv i) (get i)
@[reducible] def WA(d:Nat):Tab:=⟨τ,lv,get,mkS,R5 τ lv get mkS d⟩
def Ty.inDep(dep:Nat->Nat)(n:Nat):Ty->Bool
 | .st i=>Nat.blt (dep i) n
 | .sl e=>e.inDep dep n
 |_=>true
theorem Yx{α:Type}{a b:GoT α}(h1:a.sz=b.sz)(h2:a.rep=b.rep):a=b:=by
 cases a
 cases b
 simp only at h1 h2
 subst h1
 subst h2
 rfl
theorem S3{G G':(i:Nat)->GoT (τ i)}{dep:Nat->Nat}{n:Nat}(h:∀j,dep j<n->G j=G' j):∀t:Ty,t.inDep dep n=true->Tab.GT ⟨τ,lv,get,mkS,G⟩ t=Tab.GT ⟨τ,lv,get,mkS,G'⟩ t
 | .int _,_=>rfl
 | .bool,_=>rfl
 | .str,_=>rfl
 | .fnc _,_=>rfl
 | .mp _,_=>rfl
 | .st i,hb=>h i (by have:Nat.blt (dep i) n=true:=hb;rwa[Nat.blt_eq] at this)
 | .sl e,hb=>congrArg slG (S3 h e hb)
theorem Mz{G G':(i:Nat)->GoT (τ i)}{dep:Nat->Nat}{n:Nat}(h:∀j,dep j<n->G j=G' j)(w:World):∀(ts:List Ty)(vs:List Value)(x:HL τ ts),(∀t∈ts,t.inDep dep n=true)->iI ⟨τ,lv,get,mkS,G⟩ w ts vs x=iI ⟨τ,lv,get,mkS,G'⟩ w ts vs x
 |[],_,_,_=>rfl
 |t::ts,vs,x,hb=>by
  have e1:=S3 τ lv get mkS h t (hb t (List.mem_cons_self ..))
  have e2:=λvs'=>Mz h w ts vs' x.2 λt ht=>hb t (List.mem_cons_of_mem _ ht)
  have e3:=λv=>congrArg (λg:GoT (Dn τ t)=>g.rep w [v] x.1) e1
  show(∃v vs',vs=v::vs'/\_/\_)=(∃v vs',vs=v::vs'/\_/\_)
  exact congrArg _ (funext λv=>congrArg _ (funext λvs'=>congrArg _ (congr (congrArg And (e3 v)) (e2 vs'))))
theorem MA{dep:Nat->Nat}(hd:∀i,1<=dep i)(hb:∀i,∀t∈lv i,t.inDep dep (dep i)=true):∀e i,dep i<=e->R5 τ lv get mkS e i=R5 τ lv get mkS (e+1) i
 |0,i,h=>by have:=hd i;omega
 |e+1,i,h=>by
  have ih:=MA hd hb e
  refine Yx rfl ?_
  show(λw vs x=>iI ⟨τ,lv,get,mkS,R5 τ lv get mkS e⟩ w (lv i) vs (get i x))=λw vs x=>iI ⟨τ,lv,get,mkS,R5 τ lv get mkS (e+1)⟩ w (lv i) vs (get i x)
  funext w vs x
  exact Mz τ lv get mkS (dep:=dep) (n:=dep i) (λj hj=>ih j (by omega)) w (lv i) vs (get i x) (hb i)
theorem Yy{dep:Nat->Nat}(hd:∀i,1<=dep i)(hb:∀i,∀t∈lv i,t.inDep dep (dep i)=true)(d:Nat)(hD:∀i,dep i<=d)(i:Nat)(w:World)(vs:List Value)(x:τ i):((WA τ lv get mkS d).G i).rep w vs x↔iI (WA τ lv get mkS d) w (lv i) vs (get i x):=by
 show(R5 τ lv get mkS d i).rep w vs x↔_
 rw[MA τ lv get mkS hd hb d i (hD i)]
 exact Iff.rfl
end
end Go.Bur
