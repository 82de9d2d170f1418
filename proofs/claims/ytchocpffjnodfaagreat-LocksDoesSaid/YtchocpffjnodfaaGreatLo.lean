import Derived.Test.YtchocpffjnodfaaGreatVa
namespace Go.Bur
open Go.RowKit
set_option linter.unusedVariables false
set_option linter.unusedSimpArgs false
section
variable {τ : Nat → Type}
def look:List (Nat×AV τ)→Nat→Option (AV τ)
 |[],_=>none
 |(t,x)::r,k=>match Nat.beq t k with
  |true=>some x
  |false=>look r k
def ofLf:Value→Option (Lf τ)
 | .int k x=>some (.d (.int k) x)
 | .bool b=>some (.d .bool b)
 | .string s=>some (.d .str s)
 | .slice none 0 0=>some .nil
 | .pointer none=>some .nptr
 | .map none=>some .nmap
 | .nilFunc=>some .nfn
 | .nilIface=>some (.er false)
 |_=>none
def ofLfs:List Value→Option (List (Lf τ))
 |[]=>some []
 |v::r=>match ofLf v,ofLfs r with
  |some x,some xs=>some (x::xs)
  |_,_=>none
def ofVal:Value→Option (A1 τ)
 | .agg cs=>match ofLfs cs.toList with
  |some xs=>some (.agg xs)
  |none=>none
 | .func (.func g) f c=>match f.toList,c.toList with
  |[],[]=>some (.one (.fn g []))
  |_,_=>none
 |v=>match ofLf v with
  |some x=>some (.one x)
  |none=>none
def evO(env:List (Nat×AV τ)):Operand→Option (AV τ)
 | .tmp t=>look env t
 | .const v=>match ofVal v with
  |some x=>some (.v x)
  |none=>none
 | .func g=>some (.v (.one (.fn g [])))
 | .global _=>none
def toVal:Lf τ→Option Value
 | .d (.int k) x=>some (.int k x)
 | .d .bool x=>some (.bool x)
 | .d .str x=>some (.string x)
 | .nil=>some (.slice none 0 0)
 | .nptr=>some (.pointer none)
 | .nmap=>some (.map none)
 | .nfn=>some .nilFunc
 | .lit b=>some (.bool b)
 |_=>none
def toVals:List (Lf τ)→Option (List Value)
 |[]=>some []
 |x::r=>match toVal x,toVals r with
  |some v,some vs=>some (v::vs)
  |_,_=>none
def sVal:AV τ→Option Value
 | .v (.one x)=>toVal x
 | .v (.agg xs)=>match toVals xs with
  |some vs=>some (.agg vs.toArray)
  |none=>none
 | .tup _=>none
structure Out(τ:Nat→Type) where
 v:AV τ
 take:List Nat
 put:List (Nat×Item τ)
 use:List Nat
 nn:Nat
abbrev Ev(τ:Nat→Type):=Operand→Option (AV τ)
end
section
variable {P : Program} {S : Tab} {ρ : Rho} {Ps : List (World → Prop)}
theorem ofLf_rel:∀{v:Value} {x:Lf S.τ},ofLf v=some x→RelLf S ρ Ps x v:=by
 intro v x h
 unfold ofLf at h
 split at h<;>first|(obtain rfl:=someI' h;rfl)|(obtain rfl:=someI' h;exact .inl ⟨rfl,rfl⟩)|cases h
theorem ofLfs_rel:∀{vs:List Value} {xs:List (Lf S.τ)},ofLfs vs=some xs→All2 (RelLf S ρ Ps) xs vs
 |[],xs,h=>by obtain rfl:=someI' h;trivial
 |v::r,xs,h=>by
  simp only[ofLfs] at h
  split at h
  ·rename_i x ys h1 h2
   obtain rfl:=someI' h
   exact⟨ofLf_rel h1,ofLfs_rel h2⟩
  ·cases h
theorem ofVal_rel{v:Value}{x:A1 S.τ}(h:ofVal v=some x):RelA1 S ρ Ps x v:=by
 unfold ofVal at h
 split at h
 ·rename_i cs
  split at h
  ·rename_i xs hx
   obtain rfl:=someI' h
   exact⟨cs.toList,by simp,ofLfs_rel hx⟩
  ·cases h
 ·rename_i g f c
  split at h
  ·rename_i h1 h2
   obtain rfl:=someI' h
   exact⟨[],by rw[Array.toList_eq_nil_iff.1 h1,Array.toList_eq_nil_iff.1 h2],trivial⟩
  ·cases h
 ·split at h
  ·rename_i x1 hx
   obtain rfl:=someI' h
   exact ofLf_rel hx
  ·cases h
theorem toVal_rel{x:Lf S.τ}{u v:Value}(h:toVal x=some u)(hr:RelLf S ρ Ps x v):v=u:=by
 unfold toVal at h
 split at h<;>first|(obtain rfl:=someI' h;exact hr)|cases h
theorem toVals_rel:∀{xs:List (Lf S.τ)} {us vs:List Value},toVals xs=some us→All2 (RelLf S ρ Ps) xs vs→vs=us
 |[],us,vs,h,hr=>by obtain rfl:=someI' h;exact All2.nil_left hr
 |x::r,us,vs,h,hr=>by
  simp only[toVals] at h
  split at h
  ·rename_i v ws h1 h2
   obtain rfl:=someI' h
   obtain⟨y,ys,rfl,h3,h4⟩:=All2.cons_left hr
   rw[toVal_rel h1 h3,toVals_rel h2 h4]
  ·cases h
theorem sVal_rel{x:AV S.τ}{u v:Value}(h:sVal x=some u)(hr:RelAV S ρ Ps x v):v=u:=by
 unfold sVal at h
 split at h
 ·exact toVal_rel h hr
 ·rename_i xs
  split at h
  ·rename_i vs hv
   obtain rfl:=someI' h
   obtain⟨ws,rfl,h1⟩:=hr
   rw[toVals_rel hv h1]
  ·cases h
 ·cases h
def EvRel(S:Tab)(ρ:Rho)(Ps:List (World→Prop))(ev:Ev S.τ)(a:Act):Prop:=∀x y,ev x=some y→RelAV S ρ Ps y (a.eval x)
theorem evO_rel{env:List (Nat×AV S.τ)}{a:Act}(h:∀t x,look env t=some x→RelAV S ρ Ps x (a.tmps.getD t undef)):EvRel S ρ Ps (evO env) a:=by
 intro x y hy
 cases x with
 |tmp t=>exact h t y hy
 |const v=>
  simp only[evO] at hy
  split at hy
  ·rename_i x1 hx
   obtain rfl:=someI' hy
   exact ofVal_rel hx
  ·cases hy
 |func g=>
  obtain rfl:=someI' hy
  exact⟨[],rfl,trivial⟩
 |global g=>cases hy
def LocSem(P:Program)(S:Tab)(o:Oper)(ev:Ev S.τ)(it:Nat→Option (Item S.τ))(nx:Nat)(out:Out S.τ):Prop:=
 ∀(a:Act)(w:World)(R:List Nat)(ρ:Rho)(Ps:List (World→Prop))(At Au:List Asn)(tk us:List (Nat×Item S.τ)),a.defers=[]→EvRel S ρ Ps ev a→
  tk.map (·.1)=out.take→us.map (·.1)=out.use→(∀x∈tk++us,it x.1=some x.2)→All2 (RelItem S ρ Ps P) tk At→All2 (RelItem S ρ Ps P) us Au→St R w (At++Au) Ps→
  (∀k,nx≤k→k<nx+out.nn→ρ k=none)→∀(K:Act→World→Prop)(Q:Exit→Act→World→Prop),
  (∀v w' ρ' Ps' Ap,Grow ρ ρ' nx out.nn→(∀p∈Ps,p∈Ps')→RelAV S ρ' Ps' out.v v→All2 (RelItem S ρ' Ps' P) out.put Ap→St R w' (Ap++Au) Ps'→Keep (fps At) w w'→(∀b∈fps Ap,b∈fps At∨w.heap.size≤b)→K (a.put o.dst v) w')→
  wpX P o a w K Q
theorem St.addPs{R:List Nat}{w:World}{As:List Asn}{ps:List (World→Prop)}(h:St R w As Ps)(hp:∀p∈ps,Bx (R++fps As) w p):St R w As (ps++Ps):=
 ⟨h.own,h.lt,h.nd,λq hq=>by
  rcases List.mem_append.1 hq with hq|hq
  ·exact hp q hq
  ·exact h.per q hq,h.gl⟩
theorem loc_read{o:Oper}{ev:Ev S.τ}{it:Nat→Option (Item S.τ)}{nx:Nat}{out:AV S.τ}(use:List Nat)
  (h:∀(a:Act)(w:World)(F:List Nat)(ρ:Rho)(Ps:List (World→Prop))(Au:List Asn)(us:List (Nat×Item S.τ)),EvRel S ρ Ps ev a→us.map (·.1)=use→(∀x∈us,it x.1=some x.2)→All2 (RelItem S ρ Ps P) us Au→(∀A∈Au,A.holds w)→(∀p∈Ps,Bx F w p)→
   ∃v ps,(execOp a.eval o).run P w= .ok (.value v) w∧(∀p∈ps,Bx F w p)∧RelAV S ρ (ps++Ps) out v):LocSem P S o ev it nx ⟨out,[],[],use,0⟩:=by
 intro a w R ρ Ps At Au tk us hd hev htk hus hit hAt hAu hst hn K Q hK
 have e:tk=[]:=List.map_eq_nil_iff.1 htk
 subst e
 have e:=All2.nil_left hAt
 subst e
 obtain⟨v,ps,hr,hps,hv⟩:=h a w (R++fps ([]++Au)) ρ Ps Au us hev hus (λx hx=>hit x (by simpa using hx)) hAu (λA hA=>hst.own A (by simpa using hA)) hst.per
 unfold wpX
 rw[hr]
 exact hK v w ρ (ps++Ps) [] (Grow.refl _ _ _) (λp hp=>List.mem_append_right _ hp) hv trivial (hst.addPs hps) (Keep.refl _ _) (by simp[fps])
theorem loc_val{o:Oper}{ev:Ev S.τ}{it:Nat→Option (Item S.τ)}{nx:Nat}{out:AV S.τ}(h:∀(a:Act)(w:World)(ρ:Rho)(Ps:List (World→Prop)),EvRel S ρ Ps ev a→∃v,(execOp a.eval o).run P w= .ok (.value v) w∧RelAV S ρ Ps out v):
  LocSem P S o ev it nx ⟨out,[],[],[],0⟩:=
 loc_read [] λa w F ρ Ps Au us hev _ _ _ _ _=>let⟨v,h1,h2⟩:=h a w ρ Ps hev;⟨v,[],h1,by simp,h2⟩
end
def isScal:Op→Bool
 | .binOp op _ _ _ _=>match op with
  | .shl| .shr| .quo| .rem=>false
  |_=>true
 | .unOp _ _ _| .convert _ _ _=>true
 | .call c=>match c.callee with
  | .builtin .len| .builtin .max| .builtin .min=>true
  |_=>false
 |_=>false
section
variable {P : Program} {S : Tab}
def scalE{τ:Nat→Type}(ev:Ev τ)(x:Operand):Value:=match ev x with
 |some y=>match sVal y with
  |some v=>v
  |none=>undef
 |none=>undef
def scalK{τ:Nat→Type}(ev:Ev τ)(x:Operand):Bool:=match ev x with
 |some y=>match sVal y with
  |some _=>true
  |none=>false
 |none=>false
def isAggV:Value→Bool
 | .agg _=>true
 |_=>false
def opScal{τ:Nat→Type}(P:Program)(ev:Ev τ)(o:Oper):Option (AV τ):=match isScal o.op,o.op.operands.toList.all (scalK ev) with
 |true,true=>match o.op,(match o.op with| .binOp _ _ x _ _=>isAggV (scalE ev x)|_=>false) with
  | .binOp op t x y _,true=>match scalE ev x,scalE ev y,P.eqGuardType P.depth t with
   | .agg xs,.agg ys,false=>match eqE P 20 t (.agg xs) (.agg ys),op with
    |some b,.eql=>some (.v (.one (.d .bool b)))
    |some b,.neq=>some (.v (.one (.d .bool (!b))))
    |_,_=>none
   |_,_,_=>none
  |_,true=>none
  |_,false=>match peval P (execOp (scalE ev) o) with
   |some (.value v)=>match ofVal v with
    |some x=>some (.v x)
    |none=>none
   |_=>none
 |_,_=>none
theorem scal_rel{ρ:Rho}{Ps:List (World→Prop)}{ev:Ev S.τ}{a:Act}(h:EvRel S ρ Ps ev a){x:Operand}(hk:scalK ev x=true):a.eval x=scalE ev x:=by
 unfold scalK at hk
 split at hk
 ·rename_i y hy
  split at hk
  ·rename_i v hv
   have e:=sVal_rel hv (h x y hy)
   rw[e]
   have:scalE ev x=v:=by unfold scalE;rw[hy];simp only;rw[hv]
   exact this.symm
  ·cases hk
 ·cases hk
theorem opScal_sound{o:Oper}{ev:Ev S.τ}{it:Nat→Option (Item S.τ)}{nx:Nat}{out:AV S.τ}(h:opScal P ev o=some out):LocSem P S o ev it nx ⟨out,[],[],[],0⟩:=by
 refine loc_val λa w ρ Ps hev=> ?_
 unfold opScal at h
 split at h
 ·rename_i hs hk
  have hsel:∀cs b,o.op≠ .select cs b:=λcs b e=>by rw[e] at hs;simp[isScal] at hs
  have hcong:execOp a.eval o=execOp (scalE ev) o:=execOp_congr o hsel λx hx=>scal_rel hev (List.all_eq_true.1 hk x (Array.mem_toList_iff.2 hx))
  rw[hcong]
  split at h
  ·rename_i op t x y yt hop hagg
   split at h
   ·rename_i xs ys hx hy hg
    have run:∀v,EqOk P op t (.agg xs) (.agg ys) v w→(execOp (scalE ev) o).run P w= .ok (.value v) w:=λv hv=>by
     have:=hv x y
     simp only[Sem.run_bind] at this
     simp only[execOp,hop,hx,hy,Sem.run_bind]
     rw[this];rfl
    split at h
    ·rename_i b he
     obtain rfl:=someI' h
     exact⟨_,run _ (eqOk_eql hg he),rfl⟩
    ·rename_i b he
     obtain rfl:=someI' h
     exact⟨_,run _ (eqOk_neq hg he),rfl⟩
    ·cases h
   ·cases h
  ·cases h
  ·split at h
   ·rename_i v hp
    split at h
    ·rename_i x hx
     obtain rfl:=someI' h
     exact⟨v,peval_sound _ hp w,ofVal_rel hx⟩
    ·cases h
   ·cases h
 ·cases h
end
section
variable {P : Program} {S : Tab} {R : Type}
def asInt1{τ:Nat→Type}:Option (AV τ)→Option (IntKind×Int)
 |some (.v (.one (.d (.int k) x)))=>some (k,x)
 |_=>none
theorem asInt1_rel{ρ:Rho}{Ps:List (World→Prop)}{ev:Ev S.τ}{a:Act}(h:EvRel S ρ Ps ev a){x:Operand}{k:IntKind}{n:Int}(hx:asInt1 (ev x)=some (k,n)):a.eval x= .int k n:=by
 unfold asInt1 at hx
 split at hx
 ·rename_i k1 x1 he
  simp only[Option.some.injEq,Prod.mk.injEq] at hx
  obtain⟨rfl,rfl⟩:=hx
  exact h x _ he
 ·cases hx
def dint{τ:Nat→Type}(k:IntKind)(x:Int):AV τ:= .v (.one (.d (.int k) x))
def dbool{τ:Nat→Type}(x:Bool):AV τ:= .v (.one (.d .bool x))
def ikB(a b:IntKind):Bool:=match ikEq a b with
 |some _=>true
 |none=>false
theorem ikB_eq{a b:IntKind}(h:ikB a b=true):a=b:=by
 unfold ikB at h
 split at h
 ·rename_i x _;exact x.down
 ·cases h
def arithO{τ:Nat→Type}(ev:Ev τ):Op→Option (IntKind×Option Int)
 | .binOp op _ x y _=>match asInt1 (ev x),asInt1 (ev y) with
  |some (k,a),some (k',b)=>match op with
   | .shl=>some (k,shlP k a b)
   | .shr=>some (k,shrP k a b)
   | .quo=>match ikB k k' with
    |true=>some (k,quoP k a b)
    |false=>none
   | .rem=>match ikB k k' with
    |true=>some (k,remP a b)
    |false=>none
   |_=>none
  |_,_=>none
 |_=>none
theorem arithO_sound{o:Oper}{ev:Ev S.τ}{it:Nat→Option (Item S.τ)}{nx:Nat}{k:IntKind}{z:Int}(h:arithO ev o.op=some (k,some z)):LocSem P S o ev it nx ⟨dint k z,[],[],[],0⟩:=by
 refine loc_val λa w ρ Ps hev=>⟨.int k z, ?_,rfl⟩
 obtain⟨dst,op,type,pos,after,guard⟩:=o
 simp only[arithO] at h
 split at h
 ·rename_i op' t x y yt
  split at h
  ·rename_i k1 m1 k2 m2 hx hy
   have ex:=asInt1_rel hev hx
   have ey:=asInt1_rel hev hy
   split at h
   ·simp only[Option.some.injEq,Prod.mk.injEq] at h
    obtain⟨rfl,hz⟩:=h
    obtain⟨h0,rfl⟩:=shlP_some hz
    simp[execOp,ex,ey,eqGuard,Go.binOp,Op.shift,show ¬m2<0 from by omega,shlV]
   ·simp only[Option.some.injEq,Prod.mk.injEq] at h
    obtain⟨rfl,hz⟩:=h
    obtain⟨h0,rfl⟩:=shrP_some hz
    simp[execOp,ex,ey,eqGuard,Go.binOp,Op.shift,show ¬m2<0 from by omega,shrV]
   ·split at h
    ·rename_i hk
     obtain rfl:=ikB_eq hk
     simp only[Option.some.injEq,Prod.mk.injEq] at h
     obtain⟨rfl,hz⟩:=h
     obtain⟨h0,rfl⟩:=quoP_some hz
     simp[execOp,ex,ey,eqGuard,Go.binOp,Op.intDiv,h0]
    ·cases h
   ·split at h
    ·rename_i hk
     obtain rfl:=ikB_eq hk
     simp only[Option.some.injEq,Prod.mk.injEq] at h
     obtain⟨rfl,hz⟩:=h
     obtain⟨h0,rfl⟩:=remP_some hz
     simp[execOp,ex,ey,eqGuard,Go.binOp,Op.intDiv,h0]
    ·cases h
   ·cases h
  ·cases h
 ·cases h
end
end Go.Bur
