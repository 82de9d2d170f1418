import Derived.Test.YtlcmdgpjiendmaaGreatMi
import Derived.Laws.BytesArg
namespace Go.Bur
open Go.RowKit
set_option linter.unusedVariables false
set_option linter.unusedSimpArgs false
section
variable {P : Program} {S : Tab} {R : Type}
def Xv(P:Program)(S:Tab)(ty:TypeId->Option Ty)(ev:Ev S.τ):Op->Option (AV S.τ)
 | .fieldAddr s x f=>match ev x,zR P s f with
  |some (.v (.one (.ro t y o))),some (n,ft)=>match ty ft with
   |some (.st j)=>match GJ (S.lvs (.st j)) (ZW S t y (o+n) (S.lvs (.st j)).length) with
    |some h=>some (.v (.one (.ro (.st j) (S.mkT (.st j) h) 0)))
    |none=>none
   |_=>none
  |_,_=>none
 |_=>none
theorem Q5(ok:bB S){ty:TypeId->Option Ty}{o:Oper}{ev:Ev S.τ}{it:Nat->Option (Item S.τ)}{nx:Nat}{out:AV S.τ}(h:Xv P S ty ev o.op=some out):bM P S o ev it nx ⟨out,[],[],[],0⟩:=by
 obtain⟨dst,op,type,pos,after,guard⟩:=o
 simp only at h
 unfold Xv at h
 split at h
 ·rename_i s x f
  split at h
  ·rename_i t y o n ft hx hf
   split at h
   ·rename_i j hj
    split at h
    ·rename_i hl hhl
     obtain rfl:=someI' h
     refine dA [] λa w F ρ Ps Au us hev hus hit hAu hh hps=> ?_
     obtain⟨A,hxv,hm⟩:aU S ρ Ps (.ro t y o) (a.eval x):=hev _ _ hx
     obtain⟨cs,ps,hlen,hcel,hp,hr⟩:=PA ok (hps _ hm)
     have hrel:aH (aU S ρ ps) (tP (S.lvs (.st j)) hl) ((cs.drop (o+n)).take (S.lvs (.st j)).length):=kS hhl (((hr ρ).drop _).take _)
     have hrep:=AR (t:= .st j) ok hp hrel
     refine⟨.pointer (some ((A.add o).add n)),[RoF S (.st j) (S.mkT (.st j) hl) ((A.add o).add n)], ?_,λp hpp=> ?_,(A.add o).add n,by rw[add_zero'],by simp⟩
     ·simp only[execOp,hxv,Sem.run_bind,FR hf,Result.andThen_ok,Sem.run_pure]
     ·rw[List.mem_singleton] at hpp
      subst hpp
      intro w' hk
      refine⟨_, ?_,hrep w' hk⟩
      rw[add_add]
      exact aX.sub (hcel w' hk) (o+n) _
    ·cases h
   ·cases h
  ·cases h
 ·cases h
def KF(P:Program)(ev:Ev S.τ):Op->Option (AV S.τ)
 | .binOp b t x y _=>match P.underlying t,isEq b,ev y with
  |some (.pointer _),some neg,some (.v (.one .nptr))=>match ev x with
   |some (.v (.one .nptr))=>some (.v (.one (.lit (!neg))))
   |some (.v (.one (.ro _ _ _)))=>some (.v (.one (.lit neg)))
   |some (.v (.one (.box _ _)))=>some (.v (.one (.lit neg)))
   |_=>none
  |_,_,_=>none
 |_=>none
theorem Xw{t e:TypeId}{A:Option Addr}{w:World}(hu:P.underlying t=some (.pointer e))(b:BinOp)(neg:Bool)(hb:isEq b=some neg):Rf P b t (.pointer A) (.pointer none) (.bool (A.isNone !=neg)) w:=by
 have h:∀d,(Op.equalIn (d+1) t (.pointer A) (.pointer none)).run P w= .ok A.isNone w:=λd=>by
  cases A<;>simp[Op.equalIn,run_underlying hu]
 cases b<;>first|(cases hb;done)|skip
 ·obtain rfl:=someI' hb
  intro xo yo
  have hb:(Go.binOp .eql t (.pointer A) (.pointer none):Sem Value)=(do pure (.bool (<-Op.equalIn (9999+1) t (.pointer A) (.pointer none)))):=rfl
  have hg:eqGuard .eql t xo yo (.pointer A) (.pointer none)=pure ():=rfl
  rw[hg,hb]
  simp only[Sem.run_bind,Sem.run_pure,Result.andThen_ok,h]
  cases A<;>rfl
 ·obtain rfl:=someI' hb
  intro xo yo
  have hb:(Go.binOp .neq t (.pointer A) (.pointer none):Sem Value)=(do pure (.bool (!(<-Op.equalIn (9999+1) t (.pointer A) (.pointer none))))):=rfl
  have hg:eqGuard .neq t xo yo (.pointer A) (.pointer none)=pure ():=rfl
  rw[hg,hb]
  simp only[Sem.run_bind,Sem.run_pure,Result.andThen_ok,h]
  cases A<;>rfl
theorem KG{o:Oper}{ev:Ev S.τ}{it:Nat->Option (Item S.τ)}{nx:Nat}{out:AV S.τ}(h:KF P ev o.op=some out):bM P S o ev it nx ⟨out,[],[],[],0⟩:=by
 obtain⟨dst,op,type,pos,after,guard⟩:=o
 simp only at h
 unfold KF at h
 split at h
 ·rename_i b t x y yt
  split at h
  ·rename_i e neg hu hb hy
   have run:∀(a:Act)(w:World)(A:Option Addr),a.eval x= .pointer A->a.eval y= .pointer none->(execOp a.eval (⟨dst,.binOp b t x y yt,type,pos,after,guard⟩:Oper)).run P w= .ok (.value (.bool (A.isNone !=neg))) w:=λa w A hx hy=>by
    have h1:=Xw (P:=P) (A:=A) (w:=w) hu b neg hb x y
    simp only[Sem.run_bind] at h1
    simp only[execOp,hx,hy,Sem.run_bind]
    rw[h1];rfl
   split at h
   ·rename_i hx
    obtain rfl:=someI' h
    refine lM λa w ρ Ps hev=> ?_
    exact⟨_,run a w none (hev _ _ hx) (hev _ _ hy),by cases neg<;>rfl⟩
   ·rename_i u z o hx
    obtain rfl:=someI' h
    refine lM λa w ρ Ps hev=> ?_
    obtain⟨A,hxv,_⟩:aU S ρ Ps (.ro u z o) (a.eval x):=hev _ _ hx
    exact⟨_,run a w _ hxv (hev _ _ hy),by cases neg<;>rfl⟩
   ·rename_i j o hx
    obtain rfl:=someI' h
    refine lM λa w ρ Ps hev=> ?_
    obtain⟨g,_,hxv⟩:aU S ρ Ps (.box j o) (a.eval x):=hev _ _ hx
    exact⟨_,run a w _ hxv (hev _ _ hy),by cases neg<;>rfl⟩
   ·cases h
  ·cases h
 ·cases h
def abi{τ:Nat->Type}:Option (AV τ)->Option ByteArray
 |some (.v (.one (.d .str s)))=>some s
 |_=>none
def Q6(P:Program)(S:Tab)(ev:Ev S.τ)(it:Nat->Option (Item S.τ))(o:Op)(k:Out S.τ->Option R):Option R:=none
theorem CJ{o:Oper}{ev:Ev S.τ}{it:Nat->Option (Item S.τ)}{nx:Nat}{k:Out S.τ->Option R}{r:R}(h:Q6 P S ev it o.op k=some r):∃out,k out=some r/\bM P S o ev it nx out:=by
 unfold Q6 at h
 cases h
def Xx(P:Program)(ev:Ev S.τ):Op->Option (AV S.τ):=λ_=>none
theorem Q7{o:Oper}{ev:Ev S.τ}{it:Nat->Option (Item S.τ)}{nx:Nat}{out:AV S.τ}(h:Xx P ev o.op=some out):bM P S o ev it nx ⟨out,[],[],[],0⟩:=by
 unfold Xx at h
 cases h
end
end Go.Bur
namespace Go.Bur
open Go.RowKit
set_option linter.unusedVariables false
set_option linter.unusedSimpArgs false
section
variable {P : Program} {S : Tab} {R : Type}
def Y1(P:Program)(S:Tab)(t:TypeId):Option (TypeId×TypeId×List (Lf S.τ)):=match P.underlying t with
 |some (.map k e)=>match P.underlying k,wX P (zeroValue e) with
  |some .string,some (.agg cs)=>match LP cs.toList with
   |some zs=>some (k,e,zs)
   |none=>none
  |_,_=>none
 |_=>none
def abj{τ:Nat->Type}(x:A1 τ)(b:Bool):Bool->AV τ
 |true=> .tup [x,.one (.d .bool b)]
 |false=> .v x
def Xy{α:Type}:Option α->Bool
 |some _=>true
 |none=>false
def orZ{α:Type}(z:α):Option α->α
 |some x=>x
 |none=>z
def asAgg{τ:Nat->Type}:Option (AV τ)->Option (List (Lf τ))
 |some (.v (.agg xs))=>some xs
 |_=>none
def Sn(P:Program)(S:Tab)(ev:Ev S.τ)(it:Nat->Option (Item S.τ))(nx:Nat)(o:Op)(k:Out S.τ->Option R):Option R:=none
theorem OI{o:Oper}{ev:Ev S.τ}{it:Nat->Option (Item S.τ)}{nx:Nat}{k:Out S.τ->Option R}{r:R}(h:Sn P S ev it nx o.op k=some r):∃out,k out=some r/\bM P S o ev it nx out:=by
 unfold Sn at h
 cases h
end
end Go.Bur
namespace Go.Bur
open Go.RowKit
set_option linter.unusedVariables false
set_option linter.unusedSimpArgs false
section
variable {P : Program} {S : Tab} {R : Type}
def Bn{τ:Nat->Type}:(ts:List Ty)->HL τ ts->HL τ ts->Bool
 |[],_,_=>true
 | .int _::ts,a,b=>(a.1==b.1)&&Bn ts a.2 b.2
 |_::_,_,_=>false
def pX(S:Tab):(t:Ty)->Dn S.τ t->Dn S.τ t->Bool
 | .int _,a,b=>decide ((a:Int)=b)
 | .st i,a,b=>Bn (S.lv i) (S.get i a) (S.get i b)
 |_,_,_=>false
def mW(P:Program):List Field->List Ty->Nat->Bool
 |[],[],_=>true
 |f::fs,.int q::ts,n=>match f.name != "_",Nat.beq f.offset n,P.underlying f.type,wX P (isAgg f.type) with
  |true,true,some (.int q'),some false=>ikB q q'&&mW P fs ts (n+1)
  |_,_,_,_=>false
 |_,_,_=>false
def mL(P:Program)(S:Tab)(kt:TypeId):Ty->Bool
 | .int q=>match P.underlying kt with
  |some (.int q')=>ikB q q'
  |_=>false
 | .st i=>match P.underlying kt with
  |some (.struct fs)=> !P.stoodInHeld kt&&mW P fs.toList (S.lv i) 0
  |_=>false
 |_=>false
def Y2(P:Program)(S:Tab)(ty:TypeId->Option Ty)(t:TypeId):Option (TypeId×TypeId×Ty×Ty):=match P.underlying t with
 |some (.map k e)=>match ty k,ty e with
  |some kT,some vT=>match mL P S k kT with
   |true=>some (k,e,kT,vT)
   |false=>none
  |_,_=>none
 |_=>none
def A8{K V:Type}(eq:K->K->Bool):List (K×V)->K->Option V
 |[],_=>none
 |(k',v)::r,k=>match eq k k' with
  |true=>some v
  |false=>A8 eq r k
def E4{K V:Type}(eq:K->K->Bool):List (K×V)->K->V->List (K×V)
 |[],k,v=>[(k,v)]
 |(k',v')::r,k,v=>match eq k k' with
  |true=>(k',v)::r
  |false=>(k',v')::E4 eq r k v
def wW{τ:Nat->Type}:(ts:List Ty)->HL τ ts->List Value
 |[],_=>[]
 | .int q::ts,a=> .int q a.1::wW ts a.2
 |_::_,_=>[]
theorem M4:∀{fs:List Field} {ts:List Ty} {n:Nat},mW P fs ts n=true->∀{w:World} {vs:List Value} {h:HL S.τ ts},iI S w ts vs h->vs=wW ts h
 |[],[],_,_,_,vs,h,hh=>hh
 |f::fs,.int q::ts,n,hf,w,vs,h,hh=>by
  simp only[mW] at hf
  split at hf
  ·simp only[Bool.and_eq_true] at hf
   obtain⟨v,vs',rfl,h1,h2⟩:=hh
   have e:=M4 hf.2 h2
   rw[e]
   have:[v]=[Value.int q h.1]:=h1
   simp only[List.cons.injEq,and_true] at this
   rw[this];rfl
  ·cases hf
 |[],_::_,_,hf,_,_,_,_=>by simp[mW] at hf
 |_::_,[],_,hf,_,_,_,_=>by simp[mW] at hf
 |_::_,.bool::_,_,hf,_,_,_,_=>by simp[mW] at hf
 |_::_,.str::_,_,hf,_,_,_,_=>by simp[mW] at hf
 |_::_,.st _::_,_,hf,_,_,_,_=>by simp[mW] at hf
 |_::_,.fnc _::_,_,hf,_,_,_,_=>by simp[mW] at hf
 |_::_,.sl _::_,_,hf,_,_,_,_=>by simp[mW] at hf
 |_::_,.mp _::_,_,hf,_,_,_,_=>by simp[mW] at hf
theorem Zv(d:Nat){w:World}:∀{fs:List Field} {ts:List Ty} {n:Nat},mW P fs ts n=true->∀{xs ys:Array Value} {a b:HL S.τ ts},xs.toList.drop n=wW ts a->ys.toList.drop n=wW ts b->
  (Op.eqFields (d+1) xs ys fs).run P w= .ok (Bn ts a b) w
 |[],[],_,_,xs,ys,a,b,_,_=>rfl
 |f::fs,.int q::ts,n,hf,xs,ys,a,b,hx,hy=>by
  simp only[mW] at hf
  split at hf
  ·rename_i q' hn ho hu hag
   simp only[Bool.and_eq_true] at hf
   obtain rfl:=Nat.eq_of_beq_eq_true ho
   have hn':f.name≠ "_" :=by simpa using hn
   obtain rfl:=wL hf.1
   have px:∀(zs:Array Value)(z:Value)(r:List Value),zs.toList.drop f.offset=z::r->(part f.type zs f.offset).run P w= .ok z w:=λzs z r hz=>by
    have h1:zs[f.offset]? =some z:=by
     have:=congrArg List.head? hz
     simp only[List.head?_drop,List.head?_cons] at this
     simpa using this
    unfold part
    simp[Sem.run_bind,fW _ hag w,h1]
   have hx2:=px xs _ _ hx
   have hy2:=px ys _ _ hy
   have tx:xs.toList.drop (f.offset+1)=wW ts a.2:=by
    have:=congrArg List.tail hx
    simpa[List.tail_drop,wW] using this
   have ty:ys.toList.drop (f.offset+1)=wW ts b.2:=by
    have:=congrArg List.tail hy
    simpa[List.tail_drop,wW] using this
   have ih:=Zv d (w:=w) hf.2 tx ty
   have he:(Op.equalIn (d+1) f.type (.int q a.1) (.int q b.1)).run P w= .ok (a.1==b.1) w:=by simp[Op.equalIn,run_underlying hu]
   simp only[Op.eqFields,if_pos hn',Sem.run_bind,hx2,hy2,Result.andThen_ok,he,Sem.run_ite]
   unfold Bn
   cases hab:(a.1==b.1) with
   |true=>simp[ih]
   |false=>simp
  ·cases hf
 |[],_::_,_,hf,_,_,_,_,_,_=>by simp[mW] at hf
 |_::_,[],_,hf,_,_,_,_,_,_=>by simp[mW] at hf
 |_::_,.bool::_,_,hf,_,_,_,_,_,_=>by simp[mW] at hf
 |_::_,.str::_,_,hf,_,_,_,_,_,_=>by simp[mW] at hf
 |_::_,.st _::_,_,hf,_,_,_,_,_,_=>by simp[mW] at hf
 |_::_,.fnc _::_,_,hf,_,_,_,_,_,_=>by simp[mW] at hf
 |_::_,.sl _::_,_,hf,_,_,_,_,_,_=>by simp[mW] at hf
 |_::_,.mp _::_,_,hf,_,_,_,_,_,_=>by simp[mW] at hf
theorem Q8{α:Type}{w:World}{body:α->PUnit->Sem (ForInStep PUnit)}:∀(l:List α),(∀x∈l,∀u,(body x u).run P w= .ok (.yield PUnit.unit) w)->∀u:PUnit,(forIn l u body).run P w= .ok PUnit.unit w
 |[],_,_=>by simp
 |x::l,h,u=>by
  simp only[List.forIn_cons,Sem.run_bind,h x (List.mem_cons_self ..) u,Result.andThen_ok]
  exact Q8 l (λy hy=>h y (List.mem_cons_of_mem _ hy)) _
theorem Xz{w:World}:∀{fs:List Field} {ts:List Ty} {n:Nat},mW P fs ts n=true->∀{xs:Array Value} {a:HL S.τ ts},xs.toList.drop n=wW ts a->
  ∀f∈fs,f.name≠ "_" /\∃q z,(part f.type xs f.offset).run P w= .ok (.int q z) w/\P.underlying f.type=some (.int q)
 |[],[],_,_,xs,a,_,f,hf=>by cases hf
 |f::fs,.int q::ts,n,hf,xs,a,hx,g,hg=>by
  simp only[mW] at hf
  split at hf
  ·rename_i q' hn ho hu hag
   simp only[Bool.and_eq_true] at hf
   obtain rfl:=Nat.eq_of_beq_eq_true ho
   obtain rfl:=wL hf.1
   rcases List.mem_cons.1 hg with rfl|hg
   ·refine⟨by simpa using hn,q,a.1, ?_,hu⟩
    have h1:xs[g.offset]? =some (.int q a.1):=by
     have:=congrArg List.head? hx
     simp only[List.head?_drop,wW,List.head?_cons] at this
     simpa using this
    unfold part
    simp[Sem.run_bind,fW _ hag w,h1]
   ·refine Xz hf.2 (xs:=xs) (a:=a.2) ?_ g hg
    have:=congrArg List.tail hx
    simpa[List.tail_drop,wW] using this
  ·cases hf
 |[],_::_,_,hf,_,_,_,_,_=>by simp[mW] at hf
 |_::_,[],_,hf,_,_,_,_,_=>by simp[mW] at hf
 |_::_,.bool::_,_,hf,_,_,_,_,_=>by simp[mW] at hf
 |_::_,.str::_,_,hf,_,_,_,_,_=>by simp[mW] at hf
 |_::_,.st _::_,_,hf,_,_,_,_,_=>by simp[mW] at hf
 |_::_,.fnc _::_,_,hf,_,_,_,_,_=>by simp[mW] at hf
 |_::_,.sl _::_,_,hf,_,_,_,_,_=>by simp[mW] at hf
 |_::_,.mp _::_,_,hf,_,_,_,_,_=>by simp[mW] at hf
def mX(S:Tab):(t:Ty)->Dn S.τ t->Value
 | .int q,a=> .int q a
 | .st i,a=> .agg (wW (S.lv i) (S.get i a)).toArray
 |_,_=>undef
theorem Iu(ok:bB S){kt:TypeId}{kT:Ty}(hk:mL P S kt kT=true){w:World}{cs:List Value}{x:Dn S.τ kT}(h:(S.GT kT).rep w cs x):qC kT cs=mX S kT x:=by
 cases kT with
 |int q=>
  have:cs=[Value.int q x]:=h
  rw[this];rfl
 |st i=>
  simp only[mL] at hk
  split at hk
  ·rename_i fs hu
   simp only[Bool.and_eq_true] at hk
   have:=M4 hk.2 ((Hh ok (.st i) w cs x).1 h)
   show Value.agg cs.toArray= .agg (wW (S.lv i) (S.get i x)).toArray
   rw[this];rfl
  ·cases hk
 |_=>cases hk
theorem M5{kt:TypeId}{kT:Ty}(hk:mL P S kt kT=true)(x:Dn S.τ kT)(e:Bool)(d:Nat)(w:World):(Instr.checkKey e (d+2) kt (mX S kT x)).run P w= .ok () w:=by
 cases kT with
 |int q=>
  simp only[mL] at hk
  split at hk
  ·rename_i q' hu
   unfold Instr.checkKey
   simp[Sem.run_bind,run_underlying hu,mX]
  ·cases hk
 |st i=>
  simp only[mL] at hk
  split at hk
  ·rename_i fs hu
   simp only[Bool.and_eq_true] at hk
   unfold Instr.checkKey
   have h1:=Xz (S:=S) (w:=w) hk.2 (xs:=(wW (S.lv i) (S.get i x)).toArray) (a:=S.get i x) (by simp)
   simp only[mX,Sem.run_bind,run_underlying hu,Result.andThen_ok,<-Array.forIn_toList]
   rw[Q8 (P:=P) (w:=w) fs.toList ?_ PUnit.unit]
   ·rfl
   intro f hf u
   obtain⟨h2,q,z,h3,h4⟩:=h1 f hf
   have hc:(Instr.checkKey e (d+1) f.type (.int q z)).run P w= .ok () w:=by
    unfold Instr.checkKey
    simp[Sem.run_bind,run_underlying h4]
   simp[h2,Sem.run_bind,h3,hc]
  ·cases hk
 |_=>cases hk
theorem UR{kt:TypeId}{kT:Ty}(hk:mL P S kt kT=true)(x y:Dn S.τ kT)(d:Nat)(w:World):(Op.equalIn (d+2) kt (mX S kT x) (mX S kT y)).run P w= .ok (pX S kT x y) w:=by
 cases kT with
 |int q=>
  simp only[mL] at hk
  split at hk
  ·rename_i q' hu
   simp[Op.equalIn,run_underlying hu,mX,pX]
   rfl
  ·cases hk
 |st i=>
  simp only[mL] at hk
  split at hk
  ·rename_i fs hu
   simp only[Bool.and_eq_true,Bool.not_eq_true'] at hk
   have hf:P.fieldsOf kt=fs:=by unfold Program.fieldsOf;rw[hu]
   show(Op.equalIn (d+2) kt (.agg (wW (S.lv i) (S.get i x)).toArray) (.agg (wW (S.lv i) (S.get i y)).toArray)).run P w=_
   rw[run_equalIn_struct w _ kt _ _ (by rw[hf];exact hu) hk.1,hf]
   exact Zv d hk.2 (by simp) (by simp)
  ·cases hk
 |_=>cases hk
def Ib{K V:Type}(eq:K->K->Bool):List (K×V)->K->Nat->Option Nat
 |[],_,_=>none
 |(k',_)::r,k,i=>match eq k k' with
  |true=>some i
  |false=>Ib eq r k (i+1)
theorem XA{kt:TypeId}{kT vT:Ty}(hk:mL P S kt kT=true)(x:Dn S.τ kT)(w:World):∀{l:List (Dn S.τ kT×Dn S.τ vT)} {vs:List (List Value×List Value)} {es:List MapEntry} (i:Nat),
  es.map (λe=>(e.key,e.val))=vs.map (λx=>(qC kT x.1,qC vT x.2))->aH (fun(a:Dn S.τ kT×Dn S.τ vT) (y:List Value×List Value)=>qC kT y.1=mX S kT a.1) l vs->
  ∃o,(Instr.findAsking kt (mX S kT x) es i).run P w= .ok o w/\(∀q,Instr.findNow q (mX S kT x) es i=some o\/Instr.findNow q (mX S kT x) es i=none)/\
   match o with
   |some (j,v)=>Ib (pX S kT) l x i=some j/\∃c y,vs[j-i]? =some c/\l[j-i]? =some y/\i<=j/\v=qC vT c.2/\A8 (pX S kT) l x=some y.2
   |none=>Ib (pX S kT) l x i=none/\A8 (pX S kT) l x=none
 |[],[],[],i,_,_=>⟨none,rfl,λq=> .inl rfl,rfl,rfl⟩
 |(k',v')::l,(c1,c2)::vs,e::es,i,h,⟨ha,hb⟩=>by
  simp only[List.map_cons,List.cons.injEq,Prod.mk.injEq] at h
  obtain⟨⟨h1,h2⟩,h3⟩:=h
  simp only at ha
  have heq:(Op.equal kt (mX S kT x) e.key).run P w= .ok (pX S kT x k') w:=by
   rw[h1,ha]
   exact UR hk x k' 9998 w
  obtain⟨o,g1,g2,g3⟩:=XA hk x w (l:=l) (vs:=vs) (es:=es) (i+1) h3 hb
  have hnow:∀q,(Instr.sameNow q (mX S kT x) e.key=some (pX S kT x k'))\/Instr.sameNow q (mX S kT x) e.key=none:=λq=>by
   rw[h1,ha]
   cases kT with
   |int q'=>
    cases q<;>first|(right;rfl)|skip
    left
    simp[Instr.sameNow,mX,pX]
    rfl
   |st _=>right;cases q<;>rfl
   |_=>cases hk
  cases hd:pX S kT x k' with
  |true=>
   refine⟨some (i,e.val), ?_,λq=> ?_, ?_⟩
   ·unfold Instr.findAsking
    simp[Sem.run_bind,heq,hd]
   ·unfold Instr.findNow
    rcases hnow q with h|h
    ·rw[h,hd];exact .inl rfl
    ·rw[h];exact .inr rfl
   ·exact⟨by simp[Ib,hd],(c1,c2),(k',v'),by simp,by simp,Nat.le_refl _,h2,by simp[A8,hd]⟩
  |false=>
   refine⟨o, ?_,λq=> ?_, ?_⟩
   ·unfold Instr.findAsking
    simp[Sem.run_bind,heq,hd,g1]
   ·unfold Instr.findNow
    rcases hnow q with h|h
    ·rw[h,hd]
     exact g2 q
    ·rw[h];exact .inr rfl
   ·cases o with
    |none=>exact⟨by simp only[Ib,hd];exact g3.1,by simp only[A8,hd];exact g3.2⟩
    |some p=>
     obtain⟨j,v⟩:=p
     obtain⟨p1,c,y,p2,p3,p4,p5,p6⟩:=g3
     have e1:j-i=(j-(i+1))+1:=by omega
     exact⟨by simp only[Ib,hd];exact p1,c,y,by rw[e1];simpa using p2,by rw[e1];simpa using p3,by omega,p5,by simp only[A8,hd];exact p6⟩
theorem TA{kt:TypeId}{kT vT:Ty}(hk:mL P S kt kT=true)(x:Dn S.τ kT)(w:World){l:List (Dn S.τ kT×Dn S.τ vT)}{vs:List (List Value×List Value)}{es:List MapEntry}
  (h:es.map (λe=>(e.key,e.val))=vs.map (λx=>(qC kT x.1,qC vT x.2))) (hl:aH (fun(a:Dn S.τ kT×Dn S.τ vT) (y:List Value×List Value)=>qC kT y.1=mX S kT a.1) l vs):
  ∃o,(Instr.findKey kt (mX S kT x) es).run P w= .ok o w/\
   match o with
   |some (j,v)=>Ib (pX S kT) l x 0=some j/\∃c y,vs[j]? =some c/\l[j]? =some y/\v=qC vT c.2/\A8 (pX S kT) l x=some y.2
   |none=>Ib (pX S kT) l x 0=none/\A8 (pX S kT) l x=none:=by
 obtain⟨o,g1,g2,g3⟩:=XA hk x w 0 h hl
 have hu:∃d,P.underlying kt=some d:=by
  cases kT with
  |int q=>simp only[mL] at hk;split at hk;(· exact⟨_,‹_›⟩);(· cases hk)
  |st i=>simp only[mL] at hk;split at hk;(· exact⟨_,‹_›⟩);(· cases hk)
  |_=>cases hk
 obtain⟨d,hu⟩:=hu
 refine⟨o, ?_, ?_⟩
 ·unfold Instr.findKey
  simp only[Sem.run_bind,run_underlying hu,Result.andThen_ok]
  rcases g2 d with h|h
  ·rw[h];simp
  ·rw[h];exact g1
 ·cases o with
  |none=>exact g3
  |some p=>
   obtain⟨j,v⟩:=p
   obtain⟨p1,c,y,p2,p3,_,p5,p6⟩:=g3
   exact⟨p1,c,y,by simpa using p2,by simpa using p3,p5,p6⟩
def XB{τ:Nat->Type}:Option (AV τ)->Option (Lf τ)
 |some (.v (.one l))=>some l
 |_=>none
def HY{τ:Nat->Type}(t:Ty)(x:Option (AV τ)):Option (Dn τ t):=match XB x with
 |some l=>toD t l
 |none=>none
def dOf(S:Tab)(t:Ty)(x:Option (AV S.τ)):Option (Dn S.τ t):=match t with
 | .st i=>match asAgg x with
  |some ls=>match GJ (S.lv i) ls with
   |some h=>some (S.mkS i h)
   |none=>none
  |none=>none
 | .int q=>HY (.int q) x
 | .bool=>HY .bool x
 | .str=>HY .str x
 | .fnc g=>HY (.fnc g) x
 | .sl e=>HY (.sl e) x
 | .mp e=>HY (.mp e) x
theorem XC{τ:Nat->Type}{x:Option (AV τ)}{ls:List (Lf τ)}(h:asAgg x=some ls):x=some (.v (.agg ls)):=by
 unfold asAgg at h
 split at h
 ·rw[someI' h]
 ·cases h
theorem XD{τ:Nat->Type}{x:Option (AV τ)}{l:Lf τ}(h:XB x=some l):x=some (.v (.one l)):=by
 unfold XB at h
 split at h
 ·rw[someI' h]
 ·cases h
theorem Iv(ok:bB S){t:Ty}{ev:Ev S.τ}{a:Act}{ρ:Rho}{Ps:List (World->Prop)}{F:List Nat}{w:World}{x:Operand}{y:Dn S.τ t}(hy:dOf S t (ev x)=some y)(hev:jV S ρ Ps ev a)(hps:∀p∈Ps,Bx F w p):
  ∃cs,a.eval x=qC t cs/\Bx F w (λw=>(S.GT t).rep w cs y):=by
 have leaf:∀(t:Ty)(y:Dn S.τ t),t.leaf=true->(∀cs,qC t cs=cs.headD undef)->HY t (ev x)=some y->∃cs,a.eval x=qC t cs/\Bx F w (λw=>(S.GT t).rep w cs y):=by
  intro t y ht hv hl
  unfold HY at hl
  split at hl
  ·rename_i l he
   have h1:=rU hl (hev _ _ (XD he))
   exact⟨[a.eval x],by rw[hv];rfl,Ky hps h1⟩
  ·cases hl
 cases t with
 |st i=>
  simp only[dOf] at hy
  split at hy
  ·rename_i ls he
   split at hy
   ·rename_i h hh
    obtain rfl:=someI' hy
    obtain⟨vs,hv,hr⟩:=hev _ _ (XC he)
    exact⟨vs,hv,AR (t:= .st i) ok hps (kS hh hr)⟩
   ·cases hy
  ·cases hy
 |int q=>exact leaf _ _ rfl (λ_=>rfl) hy
 |bool=>exact leaf _ _ rfl (λ_=>rfl) hy
 |str=>exact leaf _ _ rfl (λ_=>rfl) hy
 |fnc g=>exact leaf _ _ rfl (λ_=>rfl) hy
 |sl e=>exact leaf _ _ rfl (λ_=>rfl) hy
 |mp e=>exact leaf _ _ rfl (λ_=>rfl) hy
theorem Y3(ok:bB S){t:Ty}{ρ:Rho}{F:List Nat}{w:World}{cs:List Value}{y:Dn S.τ t}(h:Bx F w (λw=>(S.GT t).rep w cs y)):∃ps,(∀p∈ps,Bx F w p)/\bJ S ρ ps (Ia S t y) (qC t cs):=by
 have leaf:∀(t:Ty)(y:Dn S.τ t)(cs:List Value),t.leaf=true->(∀cs,qC t cs=cs.headD undef)->Ia S t y= .one (.d t y)->Bx F w (λw=>(S.GT t).rep w cs y)->∃ps,(∀p∈ps,Bx F w p)/\bJ S ρ ps (Ia S t y) (qC t cs):=by
  intro t y cs ht hv hc h
  obtain⟨v,rfl⟩:=QY _ (by rw[mV ok,Tu ht]) h.here
  obtain⟨ps,h1,h2⟩:=Q1 (S:=S) ht h
  refine⟨ps,h1, ?_⟩
  rw[hc,hv]
  exact h2
 cases t with
 |st i=>
  obtain⟨ps,h1,h2⟩:=NW ok h
  exact⟨ps,h1,cs,rfl,h2 ρ⟩
 |int q=>exact leaf _ _ _ rfl (λ_=>rfl) rfl h
 |bool=>exact leaf _ _ _ rfl (λ_=>rfl) rfl h
 |str=>exact leaf _ _ _ rfl (λ_=>rfl) rfl h
 |fnc g=>exact leaf _ _ _ rfl (λ_=>rfl) rfl h
 |sl e=>exact leaf _ _ _ rfl (λ_=>rfl) rfl h
 |mp e=>exact leaf _ _ _ rfl (λ_=>rfl) rfl h
def XE(P:Program)(S:Tab)(et:TypeId)(t:Ty):Option (Dn S.τ t):=match wX P (zeroValue et) with
 |some v=>match LQ v with
  |some x=>dOf S t (some (.v x))
  |none=>none
 |none=>none
theorem US(ok:bB S){et:TypeId}{t:Ty}{z:Dn S.τ t}(h:XE P S et t=some z)(F:List Nat)(w:World):∃cs,(∀w,(zeroValue et).run P w= .ok (qC t cs) w)/\Bx F w (λw=>(S.GT t).rep w cs z):=by
 unfold XE at h
 split at h
 ·rename_i v hv
  split at h
  ·rename_i x hx
   have hev:jV S (λ_=>none) [] (λo=>match o with| .tmp 0=>some (.v x)|_=>none) {tmps:= #[v],defers:=[]}:=by
    intro o y hy
    simp only at hy
    split at hy
    ·obtain rfl:=someI' hy
     exact CX hx
    ·cases hy
   obtain⟨cs,h1,h2⟩:=Iv (S:=S) (F:=F) (w:=w) ok (x:= .tmp 0) h hev (by simp)
   refine⟨cs,λw=> ?_,h2⟩
   rw[<-h1]
   exact fW _ hv w
  ·cases h
 ·cases h
theorem Q9{K V:Type}{eq:K->K->Bool}{k:K}{v:V}:∀{l:List (K×V)} {i j:Nat},Ib eq l k i=some j->∃y,l[j-i]? =some y/\eq k y.1=true/\i<=j/\E4 eq l k v=l.set (j-i) (y.1,v)
 |[],i,j,h=>by cases h
 |(k',v')::r,i,j,h=>by
  simp only[Ib] at h
  cases he:eq k k' with
  |true=>
   rw[he] at h
   obtain rfl:=someI' h
   exact⟨(k',v'),by simp,he,Nat.le_refl _,by simp[E4,he]⟩
  |false=>
   rw[he] at h
   obtain⟨y,h1,h2,h3,h4⟩:=Q9 (v:=v) (l:=r) (i:=i+1) (j:=j) h
   have e1:j-i=(j-(i+1))+1:=by omega
   exact⟨y,by rw[e1];simpa using h1,h2,by omega,by rw[e1];simp[E4,he,h4]⟩
theorem Ra{K V:Type}{eq:K->K->Bool}{k:K}{v:V}:∀{l:List (K×V)} {i:Nat},Ib eq l k i=none->E4 eq l k v=l++[(k,v)]
 |[],i,h=>rfl
 |(k',v')::r,i,h=>by
  simp only[Ib] at h
  cases he:eq k k' with
  |true=>rw[he] at h;cases h
  |false=>
   rw[he] at h
   simp[E4,he,Ra h]
theorem aH.set{α β:Type}{R:α->β->Prop}{x:α}{y:β}(hxy:R x y):∀{xs:List α} {ys:List β} (i:Nat),aH R xs ys->aH R (xs.set i x) (ys.set i y)
 |[],[],_,_=>trivial
 |_::_,_::_,0,h=>⟨hxy,h.2⟩
 |_::_,_::_,i+1,h=>⟨h.1,aH.set hxy i h.2⟩
theorem M6{τ:Nat->Type}:∀{ts:List Ty} {a b:HL τ ts},Bn ts a b=true->wW ts a=wW ts b
 |[],_,_,_=>rfl
 | .int q::ts,a,b,h=>by
  simp only[Bn,Bool.and_eq_true,beq_iff_eq] at h
  simp only[wW]
  rw[h.1,M6 h.2]
 | .bool::_,_,_,h=>by simp[Bn] at h
 | .str::_,_,_,h=>by simp[Bn] at h
 | .st _::_,_,_,h=>by simp[Bn] at h
 | .fnc _::_,_,_,h=>by simp[Bn] at h
 | .sl _::_,_,_,h=>by simp[Bn] at h
 | .mp _::_,_,_,h=>by simp[Bn] at h
theorem TB{kT:Ty}{x y:Dn S.τ kT}(h:pX S kT x y=true):mX S kT x=mX S kT y:=by
 cases kT with
 |int q=>
  have:=of_decide_eq_true h
  show Value.int q x=Value.int q y
  rw[this]
 |st i=>show Value.agg _=Value.agg _;rw[M6 h]
 |_=>cases h
theorem M7{τ:Nat->Type}(n:Nat):∀(ts:List Ty)(a:HL τ ts),((wW ts a).zip (wW ts a)).all (fun(x,y)=>Instr.sameBits n x y)=true
 |[],_=>rfl
 | .int q::ts,a=>by simp only[wW,List.zip_cons_cons,List.all_cons,M7 n ts a.2,Bool.and_true];cases n<;>simp[Instr.sameBits]
 | .bool::_,_=>rfl
 | .str::_,_=>rfl
 | .st _::_,_=>rfl
 | .fnc _::_,_=>rfl
 | .sl _::_,_=>rfl
 | .mp _::_,_=>rfl
theorem UT{kt:TypeId}{kT:Ty}(hk:mL P S kt kT=true)(x:Dn S.τ kT):Instr.sameBits 10000 (mX S kT x) (mX S kT x)=true:=by
 cases kT with
 |int q=>simp[mX,Instr.sameBits]
 |st i=>
  show Instr.sameBits (9999+1) (.agg _) (.agg _)=true
  unfold Instr.sameBits
  simp only[beq_self_eq_true,Bool.true_and]
  exact M7 9999 _ _
 |_=>cases hk
def TC(P:Program)(S:Tab)(ev:Ev S.τ)(it:Nat->Option (Item S.τ))(t:TypeId)(m x v:Operand)(k:Out S.τ->Option R):Option R:=match P.underlying t,ev m with
 |some (.map kt et),some (.v (.one (.map j)))=>match it j with
  |some (.dmap kt' et' kT vT l)=>match Nat.beq kt kt',Nat.beq et et',mL P S kt kT,dOf S kT (ev x),dOf S vT (ev v) with
   |true,true,true,some y,some z=>k ⟨.v (.one .ud),[j],[(j,.dmap kt' et' kT vT (E4 (pX S kT) l y z))],[],0⟩
   |_,_,_,_,_=>none
  |_=>none
 |_,_=>none
def So(P:Program)(S:Tab)(ty:TypeId->Option Ty)(ev:Ev S.τ)(it:Nat->Option (Item S.τ))(nx:Nat)(o:Op)(k:Out S.τ->Option R):Option R:=match o with
 | .makeMap t none=>match Y2 P S ty t with
  |some (kt,et,kT,vT)=>k ⟨.v (.one (.map nx)),[],[(nx,.dmap kt et kT vT [])],[],1⟩
  |none=>none
 | .lookup t m x ok=>match P.underlying t,ev m with
  |some (.map kt et),some (.v (.one (.map j)))=>match it j with
   |some (.dmap kt' et' kT vT l)=>match Nat.beq kt kt',Nat.beq et et',mL P S kt kT,dOf S kT (ev x),XE P S et vT with
    |true,true,true,some y,some z=>k ⟨abj (Ia S vT (orZ z (A8 (pX S kT) l y))) (Xy (A8 (pX S kT) l y)) ok,[],[],[j],0⟩
    |_,_,_,_,_=>none
   |_=>none
  |_,_=>none
 | .insert t m x v=>TC P S ev it t m x v k
 | .mapUpdate t m x v=>TC P S ev it t m x v k
 |_=>none
theorem M8{ρ:Rho}{Ps:List (World->Prop)}{j:Nat}{kt et:TypeId}{kT vT:Ty}{l:List (Dn S.τ kT×Dn S.τ vT)}{A:Asn}(h:aI S ρ Ps P (j,.dmap kt et kT vT l) A):∃g vs,ρ j=some g/\A=CH kT vT g.b vs/\UP S kT vT l vs∈Ps:=h
theorem HZ(ok:bB S){op0:Oper}{t:TypeId}{m x v:Operand}(hop:op0.op= .insert t m x v\/op0.op= .mapUpdate t m x v){ev:Ev S.τ}{it:Nat->Option (Item S.τ)}{nx:Nat}{k:Out S.τ->Option R}{r:R}(h:TC P S ev it t m x v k=some r):∃out,k out=some r/\bM P S op0 ev it nx out:=by
 unfold TC at h
 split at h
 ·rename_i kt et j hu hm
  split at h
  ·rename_i kt' et' kT vT l hj
   split at h
   ·rename_i y z e1 e2 hk hy hz
    refine⟨_,h,CL hj λa w R ρ Ps A hev hrel hA hst=> ?_⟩
    obtain⟨g,vs,hg,rfl,hmem⟩:=M8 hrel
    obtain⟨g',hg',hmv⟩:=hev _ _ hm
    rw[hg] at hg'
    obtain rfl:=someI' hg'
    obtain⟨kc,hxv,hxr⟩:=Iv (F:=R++fps [CH kT vT g.b vs]) (w:=w) ok hy hev hst.per
    obtain⟨vc,hvv,hvr⟩:=Iv (F:=R++fps [CH kT vT g.b vs]) (w:=w) ok hz hev hst.per
    have hkv:=Iu ok hk hxr.here
    rw[hkv] at hxv
    have hD:=hst.per _ hmem
    obtain⟨es,clock,hb,hes⟩:=hA w λ_ _=>rfl
    have hkeys:aH (fun(a:Dn S.τ kT×Dn S.τ vT) (y:List Value×List Value)=>qC kT y.1=mX S kT a.1) l vs:=aH.mono (λa b h=>Iu ok hk h.1) hD.here
    obtain⟨o,hf,ho⟩:=TA hk y w hes hkeys
    have hck:=M5 (P:=P) hk y false 9998 w
    have fin:∀(es':Array MapEntry)(clock':Nat)(vs':List (List Value×List Value))(l':List (Dn S.τ kT×Dn S.τ vT)),l'=E4 (pX S kT) l y z->es'.toList.map (λe=>(e.key,e.val))=vs'.map (λx=>(qC kT x.1,qC vT x.2))->
      (Instr.mapUpdate t (.map (some g.b)) (mX S kT y) (qC vT vc)).run P w= .ok () {w with heap:=w.heap.setIfInBounds g.b (.map es' clock')}->
      Bx (R++fps [CH kT vT g.b vs]) w (UP S kT vT l' vs')->
      ∃w' B ps,(execOp a.eval op0).run P w= .ok .skip w'/\bD (CH kT vT g.b vs).fp w w'/\B.holds w'/\B.fp=(CH kT vT g.b vs).fp/\(∀p∈ps,Bx (R++fps [CH kT vT g.b vs]) w p)/\aI S ρ (ps++Ps) P (j,.dmap kt' et' kT vT (E4 (pX S kT) l y z)) B:=by
     intro es' clock' vs' l' hl' hes' hrun hDb
     have hset:=MapKept.heap_set (o':= .map es' clock') hb
     refine⟨{w with heap:=w.heap.setIfInBounds g.b (.map es' clock')},CH kT vT g.b vs',[UP S kT vT l' vs'],by rcases hop with hop|hop<;>simp only[execOp,hop,hmv,hxv,hvv,Sem.run_bind,hrun,Result.andThen_ok,Sem.run_pure],⟨rfl,rfl,rfl,Nat.le_refl _,by simp,λc hc hn=>hset.2 c (by simpa[Asn.fp] using hn)⟩,λw' hw=>⟨es',clock', ?_,hes'⟩,rfl,λp hp=>by rw[List.mem_singleton] at hp;subst hp;exact hDb,g,vs',hg,rfl,by rw[<-hl'];simp⟩
     rw[hw _ (by simp)]
     exact hset.1
    cases o with
    |none=>
     refine fin (es.push {key:=mX S kT y,val:=qC vT vc,born:=clock}) (clock+1) (vs++[(kc,vc)]) (l++[(y,z)]) (Ra ho.1).symm (by simp[hes,hkv]) ?_ λw' hk'=>(hD w' hk').app ⟨⟨hxr w' hk',hvr w' hk'⟩,trivial⟩
     simp[Instr.mapUpdate,run_underlying hu,MapKept.run_getObj_map hb,hck,hf,MapKept.run_setObj_map _ hb,Result.andThen,Sem.run_bind]
    |some p=>
     obtain⟨i,v0⟩:=p
     obtain⟨hp,c,yl,p2,p3,_,p6⟩:=ho
     obtain⟨y',q1,q2,q3,q4⟩:=Q9 (v:=z) hp
     rw[Nat.sub_zero,p3] at q1
     obtain rfl:=someI' q1
     rw[Nat.sub_zero] at q4
     have hlen:i<es.size:=by
      have h1:i<vs.length:=(List.getElem?_eq_some_iff.1 p2).1
      have:=congrArg List.length hes
      simp only[List.length_map,Array.length_toList] at this
      omega
     have hkey:es[i].key=mX S kT y:=by
      have h1:=congrArg (λl=>l[i]?) hes
      simp only[List.getElem?_map,p2,Option.map_some,Array.getElem?_toList,Array.getElem?_eq_getElem hlen] at h1
      simp only[Option.some.injEq,Prod.mk.injEq] at h1
      obtain⟨c',g1,g2⟩:=hkeys.get p3
      rw[p2] at g1
      obtain rfl:=someI' g1
      rw[h1.1,g2]
      exact(TB q2).symm
     have hstay:(Instr.keyThatStays (mX S kT y) (mX S kT y)).run P w= .ok (mX S kT y) w:=by
      unfold Instr.keyThatStays
      rw[if_pos (UT hk y)]
      rfl
     refine fin (es.modify i λe=>{e with key:=mX S kT y,val:=qC vT vc}) clock (vs.set i (c.1,vc)) _ q4.symm ?_ ?_ λw' hk'=> ?_
     ·refine List.ext_getElem? λn=> ?_
      have h1:=congrArg (λl=>l[n]?) hes
      simp only[List.getElem?_map] at h1|-
      by_cases hn:i=n
      ·subst hn
       have hlv:i<vs.length:=(List.getElem?_eq_some_iff.1 p2).1
       obtain⟨c',g1,g2⟩:=hkeys.get p3
       rw[p2] at g1
       obtain rfl:=someI' g1
       simp[Array.getElem?_modify,hlen,List.getElem?_set_self hlv,g2,TB q2]
      ·rw[List.getElem?_set_ne hn,<-h1]
       simp[Array.getElem?_modify,hn]
     ·simp only[Instr.mapUpdate,run_underlying hu,MapKept.run_getObj_map hb,hck,hf,Sem.run_bind,Result.andThen_ok]
      rw[Array.getElem?_eq_getElem hlen]
      simp only[Option.map_some,Option.getD_some,hkey,hstay,Result.andThen_ok]
      exact MapKept.run_setObj_map _ hb
     ·have h1:=hD w' hk'
      refine aH.set ⟨?_,hvr w' hk'⟩ i h1
      obtain⟨c',g1,g2⟩:=h1.get p3
      rw[p2] at g1
      obtain rfl:=someI' g1
      exact g2.1
   ·cases h
  ·cases h
 ·cases h
theorem OJ(ok:bB S){ty:TypeId->Option Ty}{o:Oper}{ev:Ev S.τ}{it:Nat->Option (Item S.τ)}{nx:Nat}{k:Out S.τ->Option R}{r:R}(h:So P S ty ev it nx o.op k=some r):∃out,k out=some r/\bM P S o ev it nx out:=by
 obtain⟨dst,op,type,pos,after,guard⟩:=o
 simp only at h
 unfold So at h
 split at h
 ·rename_i t
  split at h
  ·rename_i kt et kT vT hc
   refine⟨_,h, ?_⟩
   intro a w R ρ Ps At Au tk us hd hev htk hus hit hAt hAu hst hn K Q hK
   have e:tk=[]:=List.map_eq_nil_iff.1 htk
   subst e
   have e:=aH.nil_left hAt
   subst e
   have e:us=[]:=List.map_eq_nil_iff.1 hus
   subst e
   have e:=aH.nil_left hAu
   subst e
   have hg:wV ρ (ghost ρ nx ⟨none,0,0,w.heap.size,noJ,noS⟩) nx 1:=nF (hn nx (Nat.le_refl _) (Nat.lt_succ_self nx))
   have hr:(Instr.makeMap t none).run P w= .ok (.map (some w.heap.size)) (w.alloc (.map #[] 0)):=rfl
   have he:=Ext.alloc w (.map #[] 0)
   have hst1:=hst.addPs (ps:=[UP S kT vT [] []]) λp hp=>by
    rw[List.mem_singleton] at hp
    subst hp
    exact λ_ _=>trivial
   unfold wpX
   simp only[execOp,Option.map_none,Sem.run_bind,hr,Result.andThen_ok,Sem.run_pure,KE]
   refine hK _ _ (ghost ρ nx ⟨none,0,0,w.heap.size,noJ,noS⟩) ([UP S kT vT [] []]++Ps) [CH kT vT w.heap.size []] hg (λp hp=>List.mem_append_right _ hp) ⟨_,gA,rfl⟩ ⟨⟨_,[],gA,rfl,by simp⟩,trivial⟩ ?_ (bD.ofExt he) ?_
   ·refine St.new (A:=CH kT vT w.heap.size []) hst1 he (λw' hw=>⟨#[],0, ?_,rfl⟩) (λc hc=>by simp[Asn.fp] at hc;subst hc;simp) (by simp[Asn.fp])
    rw[hw _ (by simp)]
    exact heap_alloc_new w _
   ·intro b hb
    simp[fps,Asn.fp] at hb;subst hb;exact .inr (Nat.le_refl _)
  ·cases h
 ·rename_i t m x okB
  split at h
  ·rename_i kt et j hu hm
   split at h
   ·rename_i kt' et' kT vT l hj
    split at h
    ·rename_i y z e1 e2 hk hy hz
     refine⟨_,h,dA [j] λa w F ρ Ps Au us hev hus hit hAu hh hps=> ?_⟩
     obtain⟨A,rfl,_,hrel⟩:=Dz hus hit hj hAu
     obtain⟨g,vs,hg,rfl,hmem⟩:=M8 hrel
     obtain⟨g',hg',hmv⟩:=hev _ _ hm
     rw[hg] at hg'
     obtain rfl:=someI' hg'
     obtain⟨cs,hxv,hxr⟩:=Iv (F:=F) (w:=w) ok hy hev hps
     rw[Iu ok hk hxr.here] at hxv
     have hD:=hps _ hmem
     obtain⟨es,clock,hb,hes⟩:=hh _ (List.mem_singleton_self _) w λ_ _=>rfl
     have hkeys:aH (fun(a:Dn S.τ kT×Dn S.τ vT) (y:List Value×List Value)=>qC kT y.1=mX S kT a.1) l vs:=aH.mono (λa b h=>Iu ok hk h.1) hD.here
     obtain⟨o,hf,ho⟩:=TA hk y w hes hkeys
     obtain⟨zc,hzr,hzb⟩:=US (P:=P) ok hz F w
     have hck:=λe=>M5 (P:=P) hk y e 9998 w
     have main:∀(v:Dn S.τ vT)(b:Bool)(cs:List Value),(∀c:Bool,(Instr.lookup t (.map (some g.b)) (mX S kT y) c).run P w= .ok (if c then .tuple #[qC vT cs,.bool b] else qC vT cs) w)->Bx F w (λw=>(S.GT vT).rep w cs v)->
       ∃u ps,(execOp a.eval (⟨dst,.lookup t m x okB,type,pos,after,guard⟩:Oper)).run P w= .ok (.value u) w/\(∀p∈ps,Bx F w p)/\cM S ρ (ps++Ps) (abj (Ia S vT v) b okB) u:=by
      intro v b cs hrun hb
      obtain⟨ps,h1,h2⟩:=Y3 (ρ:=ρ) ok hb
      have h3:=bJ.mono (Ps':=ps++Ps) (λ_ _ h=>h) (λp hp=>List.mem_append_left _ hp) h2
      cases okB with
      |true=>exact⟨_,ps,by simp only[execOp,hmv,hxv,Sem.run_bind,hrun,Result.andThen_ok,Sem.run_pure,if_true],h1,[qC vT cs,.bool b],rfl,h3,rfl,trivial⟩
      |false=>exact⟨_,ps,by simp only[execOp,hmv,hxv,Sem.run_bind,hrun,Result.andThen_ok,Sem.run_pure];rfl,h1,h3⟩
     cases o with
     |none=>
      rw[ho.2]
      refine main z false zc (λc=> ?_) hzb
      simp only[Instr.lookup,run_underlying hu,MapKept.run_getObj_map hb,Sem.run_bind,Result.andThen_ok,Sem.run_pure,hck,hf,hzr]
     |some p=>
      obtain⟨i,v⟩:=p
      obtain⟨_,c,yl,p2,p3,rfl,p6⟩:=ho
      rw[p6]
      refine main yl.2 true c.2 (λc=> ?_) λw' hk'=> ?_
      ·simp only[Instr.lookup,run_underlying hu,MapKept.run_getObj_map hb,Sem.run_bind,Result.andThen_ok,Sem.run_pure,hck,hf]
      ·obtain⟨c',h1,h2⟩:=(hD w' hk').get p3
       rw[p2] at h1
       obtain rfl:=someI' h1
       exact h2.2
    ·cases h
   ·cases h
  ·cases h
 ·exact HZ ok (.inl rfl) h
 ·exact HZ ok (.inr rfl) h
 ·cases h
end
end Go.Bur
