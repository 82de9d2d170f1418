import Derived.Test.YtlcmdgpjiendmaaGreatVa
namespace Go.Bur
open Go.RowKit
set_option linter.unusedVariables false
set_option linter.unusedSimpArgs false
section
variable {τ : Nat -> Type}
def look:List (Nat×AV τ)->Nat->Option (AV τ)
 |[],_=>none
 |(t,x)::r,k=>match Nat.beq t k with
  |true=>some x
  |false=>look r k
def XX:Value->Option (Lf τ)
 | .int k x=>some (.d (.int k) x)
 | .bool b=>some (.d .bool b)
 | .string s=>some (.d .str s)
 | .slice none 0 0=>some .nil
 | .pointer none=>some .nptr
 | .map none=>some .nmap
 | .nilFunc=>some .nfn
 | .nilIface=>some (.er false)
 |_=>none
def LP:List Value->Option (List (Lf τ))
 |[]=>some []
 |v::r=>match XX v,LP r with
  |some x,some xs=>some (x::xs)
  |_,_=>none
def LQ:Value->Option (A1 τ)
 | .agg cs=>match LP cs.toList with
  |some xs=>some (.agg xs)
  |none=>none
 | .func (.func g) f c=>match f.toList,c.toList with
  |[],[]=>some (.one (.fn g []))
  |_,_=>none
 |v=>match XX v with
  |some x=>some (.one x)
  |none=>none
def evO(env:List (Nat×AV τ)):Operand->Option (AV τ)
 | .tmp t=>look env t
 | .const v=>match LQ v with
  |some x=>some (.v x)
  |none=>none
 | .func g=>some (.v (.one (.fn g [])))
 | .global _=>none
def SE:Lf τ->Option Value
 | .d (.int k) x=>some (.int k x)
 | .d .bool x=>some (.bool x)
 | .d .str x=>some (.string x)
 | .nil=>some (.slice none 0 0)
 | .nptr=>some (.pointer none)
 | .nmap=>some (.map none)
 | .nfn=>some .nilFunc
 | .lit b=>some (.bool b)
 |_=>none
def NH:List (Lf τ)->Option (List Value)
 |[]=>some []
 |x::r=>match SE x,NH r with
  |some v,some vs=>some (v::vs)
  |_,_=>none
def XY:AV τ->Option Value
 | .v (.one x)=>SE x
 | .v (.agg xs)=>match NH xs with
  |some vs=>some (.agg vs.toArray)
  |none=>none
 | .tup _=>none
structure Out(τ:Nat->Type) where
 v:AV τ
 take:List Nat
 put:List (Nat×Item τ)
 use:List Nat
 nn:Nat
abbrev Ev(τ:Nat->Type):=Operand->Option (AV τ)
end
section
variable {P : Program} {S : Tab} {ρ : Rho} {Ps : List (World -> Prop)}
theorem Pd:∀{v:Value} {x:Lf S.τ},XX v=some x->aU S ρ Ps x v:=by
 intro v x h
 unfold XX at h
 split at h<;>first|(obtain rfl:=someI' h;rfl)|(obtain rfl:=someI' h;exact .inl ⟨rfl,rfl⟩)|cases h
theorem Gz:∀{vs:List Value} {xs:List (Lf S.τ)},LP vs=some xs->aH (aU S ρ Ps) xs vs
 |[],xs,h=>by obtain rfl:=someI' h;trivial
 |v::r,xs,h=>by
  simp only[LP] at h
  split at h
  ·rename_i x ys h1 h2
   obtain rfl:=someI' h
   exact⟨Pd h1,Gz h2⟩
  ·cases h
theorem CX{v:Value}{x:A1 S.τ}(h:LQ v=some x):bJ S ρ Ps x v:=by
 unfold LQ at h
 split at h
 ·rename_i cs
  split at h
  ·rename_i xs hx
   obtain rfl:=someI' h
   exact⟨cs.toList,by simp,Gz hx⟩
  ·cases h
 ·rename_i g f c
  split at h
  ·rename_i h1 h2
   obtain rfl:=someI' h
   exact⟨[],by rw[Array.toList_eq_nil_iff.1 h1,Array.toList_eq_nil_iff.1 h2],trivial⟩
  ·cases h
 ·split at h
  ·rename_i x1 hx
   obtain rfl:=someI' h
   exact Pd hx
  ·cases h
theorem LR{x:Lf S.τ}{u v:Value}(h:SE x=some u)(hr:aU S ρ Ps x v):v=u:=by
 unfold SE at h
 split at h<;>first|(obtain rfl:=someI' h;exact hr)|cases h
theorem I9:∀{xs:List (Lf S.τ)} {us vs:List Value},NH xs=some us->aH (aU S ρ Ps) xs vs->vs=us
 |[],us,vs,h,hr=>by obtain rfl:=someI' h;exact aH.nil_left hr
 |x::r,us,vs,h,hr=>by
  simp only[NH] at h
  split at h
  ·rename_i v ws h1 h2
   obtain rfl:=someI' h
   obtain⟨y,ys,rfl,h3,h4⟩:=aH.cons_left hr
   rw[LR h1 h3,I9 h2 h4]
  ·cases h
theorem VC{x:AV S.τ}{u v:Value}(h:XY x=some u)(hr:cM S ρ Ps x v):v=u:=by
 unfold XY at h
 split at h
 ·exact LR h hr
 ·rename_i xs
  split at h
  ·rename_i vs hv
   obtain rfl:=someI' h
   obtain⟨ws,rfl,h1⟩:=hr
   rw[I9 hv h1]
  ·cases h
 ·cases h
def jV(S:Tab)(ρ:Rho)(Ps:List (World->Prop))(ev:Ev S.τ)(a:Act):Prop:=∀x y,ev x=some y->cM S ρ Ps y (a.eval x)
theorem FH{env:List (Nat×AV S.τ)}{a:Act}(h:∀t x,look env t=some x->cM S ρ Ps x (a.tmps.getD t undef)):jV S ρ Ps (evO env) a:=by
 intro x y hy
 cases x with
 |tmp t=>exact h t y hy
 |const v=>
  simp only[evO] at hy
  split at hy
  ·rename_i x1 hx
   obtain rfl:=someI' hy
   exact CX hx
  ·cases hy
 |func g=>
  obtain rfl:=someI' hy
  exact⟨[],rfl,trivial⟩
 |global g=>cases hy
def bM(P:Program)(S:Tab)(o:Oper)(ev:Ev S.τ)(it:Nat->Option (Item S.τ))(nx:Nat)(out:Out S.τ):Prop:=
 ∀(a:Act)(w:World)(R:List Nat)(ρ:Rho)(Ps:List (World->Prop))(At Au:List Asn)(tk us:List (Nat×Item S.τ)),a.defers=[]->jV S ρ Ps ev a->
  tk.map (·.1)=out.take->us.map (·.1)=out.use->(∀x∈tk++us,it x.1=some x.2)->aH (aI S ρ Ps P) tk At->aH (aI S ρ Ps P) us Au->St R w (At++Au) Ps->
  (∀k,nx<=k->k<nx+out.nn->ρ k=none)->∀(K:Act->World->Prop)(Q:Exit->Act->World->Prop),
  (∀v w' ρ' Ps' Ap,wV ρ ρ' nx out.nn->(∀p∈Ps,p∈Ps')->cM S ρ' Ps' out.v v->aH (aI S ρ' Ps' P) out.put Ap->St R w' (Ap++Au) Ps'->bD (fps At) w w'->(∀b∈fps Ap,b∈fps At\/w.heap.size<=b)->K (a.put o.dst v) w')->
  wpX P o a w K Q
theorem St.addPs{R:List Nat}{w:World}{As:List Asn}{ps:List (World->Prop)}(h:St R w As Ps)(hp:∀p∈ps,Bx (R++fps As) w p):St R w As (ps++Ps):=
 ⟨h.own,h.lt,h.nd,λq hq=>by
  rcases List.mem_append.1 hq with hq|hq
  ·exact hp q hq
  ·exact h.per q hq,h.gl⟩
theorem dA{o:Oper}{ev:Ev S.τ}{it:Nat->Option (Item S.τ)}{nx:Nat}{out:AV S.τ}(use:List Nat)
  (h:∀(a:Act)(w:World)(F:List Nat)(ρ:Rho)(Ps:List (World->Prop))(Au:List Asn)(us:List (Nat×Item S.τ)),jV S ρ Ps ev a->us.map (·.1)=use->(∀x∈us,it x.1=some x.2)->aH (aI S ρ Ps P) us Au->(∀A∈Au,A.holds w)->(∀p∈Ps,Bx F w p)->
   ∃v ps,(execOp a.eval o).run P w= .ok (.value v) w/\(∀p∈ps,Bx F w p)/\cM S ρ (ps++Ps) out v):bM P S o ev it nx ⟨out,[],[],use,0⟩:=by
 intro a w R ρ Ps At Au tk us hd hev htk hus hit hAt hAu hst hn K Q hK
 have e:tk=[]:=List.map_eq_nil_iff.1 htk
 subst e
 have e:=aH.nil_left hAt
 subst e
 obtain⟨v,ps,hr,hps,hv⟩:=h a w (R++fps ([]++Au)) ρ Ps Au us hev hus (λx hx=>hit x (by simpa using hx)) hAu (λA hA=>hst.own A (by simpa using hA)) hst.per
 unfold wpX
 rw[hr]
 exact hK v w ρ (ps++Ps) [] (wV.refl _ _ _) (λp hp=>List.mem_append_right _ hp) hv trivial (hst.addPs hps) (bD.refl _ _) (by simp[fps])
theorem lM{o:Oper}{ev:Ev S.τ}{it:Nat->Option (Item S.τ)}{nx:Nat}{out:AV S.τ}(h:∀(a:Act)(w:World)(ρ:Rho)(Ps:List (World->Prop)),jV S ρ Ps ev a->∃v,(execOp a.eval o).run P w= .ok (.value v) w/\cM S ρ Ps out v):
  bM P S o ev it nx ⟨out,[],[],[],0⟩:=
 dA [] λa w F ρ Ps Au us hev _ _ _ _ _=>let⟨v,h1,h2⟩:=h a w ρ Ps hev;⟨v,[],h1,by simp,h2⟩
end
def Rr:Op->Bool
 | .binOp op _ _ _ _=>match op with
  | .shl| .shr| .quo| .rem=>false
  |_=>true
 | .unOp _ _ _| .convert _ _ _=>true
 | .call c=>match c.callee with
  | .builtin .len| .builtin .max| .builtin .min=>true
  |_=>false
 |_=>false
section
variable {P : Program} {S : Tab}
def FI{τ:Nat->Type}(ev:Ev τ)(x:Operand):Value:=match ev x with
 |some y=>match XY y with
  |some v=>v
  |none=>undef
 |none=>undef
def VD{τ:Nat->Type}(ev:Ev τ)(x:Operand):Bool:=match ev x with
 |some y=>match XY y with
  |some _=>true
  |none=>false
 |none=>false
def ZQ:Value->Bool
 | .agg _=>true
 |_=>false
def AO{τ:Nat->Type}(P:Program)(ev:Ev τ)(o:Oper):Option (AV τ):=match Rr o.op,o.op.operands.toList.all (VD ev) with
 |true,true=>match o.op,(match o.op with| .binOp _ _ x _ _=>ZQ (FI ev x)|_=>false) with
  | .binOp op t x y _,true=>match FI ev x,FI ev y,P.eqGuardType P.depth t with
   | .agg xs,.agg ys,false=>match eqE P 20 t (.agg xs) (.agg ys),op with
    |some b,.eql=>some (.v (.one (.d .bool b)))
    |some b,.neq=>some (.v (.one (.d .bool (!b))))
    |_,_=>none
   |_,_,_=>none
  |_,true=>none
  |_,false=>match wX P (execOp (FI ev) o) with
   |some (.value v)=>match LQ v with
    |some x=>some (.v x)
    |none=>none
   |_=>none
 |_,_=>none
theorem VE{ρ:Rho}{Ps:List (World->Prop)}{ev:Ev S.τ}{a:Act}(h:jV S ρ Ps ev a){x:Operand}(hk:VD ev x=true):a.eval x=FI ev x:=by
 unfold VD at hk
 split at hk
 ·rename_i y hy
  split at hk
  ·rename_i v hv
   have e:=VC hv (h x y hy)
   rw[e]
   have:FI ev x=v:=by unfold FI;rw[hy];simp only;rw[hv]
   exact this.symm
  ·cases hk
 ·cases hk
theorem FJ{o:Oper}{ev:Ev S.τ}{it:Nat->Option (Item S.τ)}{nx:Nat}{out:AV S.τ}(h:AO P ev o=some out):bM P S o ev it nx ⟨out,[],[],[],0⟩:=by
 refine lM λa w ρ Ps hev=> ?_
 unfold AO at h
 split at h
 ·rename_i hs hk
  have hsel:∀cs b,o.op≠ .select cs b:=λcs b e=>by rw[e] at hs;simp[Rr] at hs
  have hcong:execOp a.eval o=execOp (FI ev) o:=execOp_congr o hsel λx hx=>VE hev (List.all_eq_true.1 hk x (Array.mem_toList_iff.2 hx))
  rw[hcong]
  split at h
  ·rename_i op t x y yt hop hagg
   split at h
   ·rename_i xs ys hx hy hg
    have run:∀v,Rf P op t (.agg xs) (.agg ys) v w->(execOp (FI ev) o).run P w= .ok (.value v) w:=λv hv=>by
     have:=hv x y
     simp only[Sem.run_bind] at this
     simp only[execOp,hop,hx,hy,Sem.run_bind]
     rw[this];rfl
    split at h
    ·rename_i b he
     obtain rfl:=someI' h
     exact⟨_,run _ (Vk hg he),rfl⟩
    ·rename_i b he
     obtain rfl:=someI' h
     exact⟨_,run _ (Vl hg he),rfl⟩
    ·cases h
   ·cases h
  ·cases h
  ·split at h
   ·rename_i v hp
    split at h
    ·rename_i x hx
     obtain rfl:=someI' h
     exact⟨v,fW _ hp w,CX hx⟩
    ·cases h
   ·cases h
 ·cases h
end
section
variable {P : Program} {S : Tab} {R : Type}
def kR{τ:Nat->Type}:Option (AV τ)->Option (IntKind×Int)
 |some (.v (.one (.d (.int k) x)))=>some (k,x)
 |_=>none
theorem cY{ρ:Rho}{Ps:List (World->Prop)}{ev:Ev S.τ}{a:Act}(h:jV S ρ Ps ev a){x:Operand}{k:IntKind}{n:Int}(hx:kR (ev x)=some (k,n)):a.eval x= .int k n:=by
 unfold kR at hx
 split at hx
 ·rename_i k1 x1 he
  simp only[Option.some.injEq,Prod.mk.injEq] at hx
  obtain⟨rfl,rfl⟩:=hx
  exact h x _ he
 ·cases hx
def Pe{τ:Nat->Type}(k:IntKind)(x:Int):AV τ:= .v (.one (.d (.int k) x))
def SF{τ:Nat->Type}(x:Bool):AV τ:= .v (.one (.d .bool x))
def ikB(a b:IntKind):Bool:=match abe a b with
 |some _=>true
 |none=>false
theorem wL{a b:IntKind}(h:ikB a b=true):a=b:=by
 unfold ikB at h
 split at h
 ·rename_i x _;exact x.down
 ·cases h
def Rs{τ:Nat->Type}(ev:Ev τ):Op->Option (IntKind×Option Int)
 | .binOp op _ x y _=>match kR (ev x),kR (ev y) with
  |some (k,a),some (k',b)=>match op with
   | .shl=>some (k,Zz k a b)
   | .shr=>some (k,ZA k a b)
   | .quo=>match ikB k k' with
    |true=>some (k,ZB k a b)
    |false=>none
   | .rem=>match ikB k k' with
    |true=>some (k,ZC a b)
    |false=>none
   |_=>none
  |_,_=>none
 |_=>none
theorem NI{o:Oper}{ev:Ev S.τ}{it:Nat->Option (Item S.τ)}{nx:Nat}{k:IntKind}{z:Int}(h:Rs ev o.op=some (k,some z)):bM P S o ev it nx ⟨Pe k z,[],[],[],0⟩:=by
 refine lM λa w ρ Ps hev=>⟨.int k z, ?_,rfl⟩
 obtain⟨dst,op,type,pos,after,guard⟩:=o
 simp only[Rs] at h
 split at h
 ·rename_i op' t x y yt
  split at h
  ·rename_i k1 m1 k2 m2 hx hy
   have ex:=cY hev hx
   have ey:=cY hev hy
   split at h
   ·simp only[Option.some.injEq,Prod.mk.injEq] at h
    obtain⟨rfl,hz⟩:=h
    obtain⟨h0,rfl⟩:=TE hz
    simp[execOp,ex,ey,eqGuard,Go.binOp,Op.shift,show ¬m2<0 from by omega,Vc]
   ·simp only[Option.some.injEq,Prod.mk.injEq] at h
    obtain⟨rfl,hz⟩:=h
    obtain⟨h0,rfl⟩:=TF hz
    simp[execOp,ex,ey,eqGuard,Go.binOp,Op.shift,show ¬m2<0 from by omega,Vd]
   ·split at h
    ·rename_i hk
     obtain rfl:=wL hk
     simp only[Option.some.injEq,Prod.mk.injEq] at h
     obtain⟨rfl,hz⟩:=h
     obtain⟨h0,rfl⟩:=TG hz
     simp[execOp,ex,ey,eqGuard,Go.binOp,Op.intDiv,h0]
    ·cases h
   ·split at h
    ·rename_i hk
     obtain rfl:=wL hk
     simp only[Option.some.injEq,Prod.mk.injEq] at h
     obtain⟨rfl,hz⟩:=h
     obtain⟨h0,rfl⟩:=TH hz
     simp[execOp,ex,ey,eqGuard,Go.binOp,Op.intDiv,h0]
    ·cases h
   ·cases h
  ·cases h
 ·cases h
end
end Go.Bur
