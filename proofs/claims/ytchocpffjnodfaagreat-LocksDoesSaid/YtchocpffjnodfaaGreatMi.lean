import Derived.Test.YtchocpffjnodfaaGreatMp
namespace Go.Bur
open Go.RowKit
set_option linter.unusedVariables false
set_option linter.unusedSimpArgs false
open Classical in
noncomputable def pickK{R:Type}(l:List Int)(a:Option R)(f:Int→List Int→Option R):Option R:=match l with
 |[]=>a
 |x::r=>if(∀y∈x::r,f y ((x::r).filter λz=> !decide (z=y))=f x ((x::r).filter λz=> !decide (z=x))) then f x ((x::r).filter λz=> !decide (z=x)) else none
theorem pickK_some{R:Type}{l:List Int}{a:Option R}{f:Int→List Int→Option R}{r:R}(h:pickK l a f=some r):(l=[]→a=some r)∧∀y∈l,f y (l.filter λz=> !decide (z=y))=some r:=by
 cases l with
 |nil=>exact⟨λ_=>h,by simp⟩
 |cons x t=>
  simp only[pickK] at h
  split at h
  ·rename_i hh
   exact⟨nofun,λy hy=>(hh y hy).trans h⟩
  ·cases h
section
variable {P : Program} {S : Tab} {R : Type}
def opLenM(P:Program)(S:Tab)(ev:Ev S.τ)(it:Nat→Option (Item S.τ)):Op→Option (Int×List Nat)
 | .call c=>match c.callee,c.args.toList,c.argTypes.toList with
  | .builtin .len,[x],[t]=>match mapChk P t,ev x with
   |some (q,kt,et),some (.v (.one (.map j)))=>match it j with
    |some (.map q2 kt2 et2 .bool l)=>match ikB q q2,Nat.beq kt kt2,Nat.beq et et2 with
     |true,true,true=>some (((mkeys (l:List (Int×Bool))).length:Int),[j])
     |_,_,_=>none
    |_=>none
   |_,_=>none
  |_,_,_=>none
 |_=>none
theorem opLenM_sound{o:Oper}{ev:Ev S.τ}{it:Nat→Option (Item S.τ)}{nx:Nat}{z:Int}{us:List Nat}(h:opLenM P S ev it o.op=some (z,us)):LocSem P S o ev it nx ⟨dint .i64 z,[],[],us,0⟩:=by
 obtain⟨dst,op,type,pos,after,guard⟩:=o
 simp only at h
 unfold opLenM at h
 split at h
 ·rename_i c
  obtain⟨callee,⟨args⟩,⟨tys⟩⟩:=c
  split at h
  ·rename_i x t h1 h2 h3
   simp only at h1 h2 h3
   subst h1 h2 h3
   split at h
   ·rename_i q kt et j hc hx
    split at h
    ·rename_i q2 kt2 et2 l hj
     split at h
     ·rename_i e1 e2 e3
      obtain rfl:=ikB_eq e1
      obtain rfl:=Nat.eq_of_beq_eq_true e2
      obtain rfl:=Nat.eq_of_beq_eq_true e3
      simp only[Option.some.injEq,Prod.mk.injEq] at h
      obtain⟨rfl,rfl⟩:=h
      refine loc_read [j] λa w F ρ Ps Au us hev hus hit hAu hh hps=> ?_
      obtain⟨A,rfl,_,hrel⟩:=use1 hus hit hj hAu
      obtain⟨g,hg,rfl⟩:=map_open hrel
      obtain⟨g',hg',hmv⟩:=hev _ _ hx
      rw[hg] at hg'
      obtain rfl:=someI' hg'
      have hr:=map_len (mapChk_ok hc) (hh _ (List.mem_singleton_self _)) type
      exact⟨_,[],by simp[execOp,resolve,invoke,builtin,hmv,hr],by simp,rfl⟩
     ·cases h
    ·cases h
   ·cases h
  ·cases h
 ·cases h
def opDel(P:Program)(S:Tab)(ev:Ev S.τ)(it:Nat→Option (Item S.τ))(o:Op)(k:Out S.τ→Option R):Option R:=none
theorem opDel_sound{o:Oper}{ev:Ev S.τ}{it:Nat→Option (Item S.τ)}{nx:Nat}{k:Out S.τ→Option R}{r:R}(h:opDel P S ev it o.op k=some r):∃out,k out=some r∧LocSem P S o ev it nx out:=by
 unfold opDel at h
 cases h
def opRange(P:Program)(S:Tab)(ev:Ev S.τ)(it:Nat→Option (Item S.τ))(nx:Nat)(o:Op)(k:Out S.τ→Option R):Option R:=none
theorem opRange_sound{o:Oper}{ev:Ev S.τ}{it:Nat→Option (Item S.τ)}{nx:Nat}{k:Out S.τ→Option R}{r:R}(h:opRange P S ev it nx o.op k=some r):∃out,k out=some r∧LocSem P S o ev it nx out:=by
 unfold opRange at h
 cases h
def opEntry(P:Program)(S:Tab)(ev:Ev S.τ)(it:Nat→Option (Item S.τ))(o:Op)(k:Out S.τ→Option R):Option R:=none
theorem opEntry_sound{o:Oper}{ev:Ev S.τ}{it:Nat→Option (Item S.τ)}{nx:Nat}{k:Out S.τ→Option R}{r:R}(h:opEntry P S ev it o.op k=some r):∃out,k out=some r∧LocSem P S o ev it nx out:=by
 unfold opEntry at h
 cases h
def LocSemO(P:Program)(S:Tab)(o:Oper)(ev:Ev S.τ)(it:Nat→Option (Item S.τ))(nx:Nat)(take use:List Nat)(nn:Nat)(O:AV S.τ→List (Nat×Item S.τ)→Prop):Prop:=
 ∀(a:Act)(w:World)(R:List Nat)(ρ:Rho)(Ps:List (World→Prop))(At Au:List Asn)(tk us:List (Nat×Item S.τ)),a.defers=[]→EvRel S ρ Ps ev a→
  tk.map (·.1)=take→us.map (·.1)=use→(∀x∈tk++us,it x.1=some x.2)→All2 (RelItem S ρ Ps P) tk At→All2 (RelItem S ρ Ps P) us Au→St R w (At++Au) Ps→
  (∀k,nx≤k→k<nx+nn→ρ k=none)→∀(K:Act→World→Prop)(Q:Exit→Act→World→Prop),
  (∀vv put v w' ρ' Ps' Ap,O vv put→Grow ρ ρ' nx nn→(∀p∈Ps,p∈Ps')→RelAV S ρ' Ps' vv v→All2 (RelItem S ρ' Ps' P) put Ap→St R w' (Ap++Au) Ps'→Keep (fps At) w w'→(∀b∈fps Ap,b∈fps At∨w.heap.size≤b)→K (a.put o.dst v) w')→
  wpX P o a w K Q
theorem LocSem.toO{o:Oper}{ev:Ev S.τ}{it:Nat→Option (Item S.τ)}{nx:Nat}{out:Out S.τ}(h:LocSem P S o ev it nx out):LocSemO P S o ev it nx out.take out.use out.nn λv p=>v=out.v∧p=out.put:=by
 intro a w R ρ Ps At Au tk us h1 h2 h3 h4 h5 h6 h7 h8 h9 K Q hK
 exact h a w R ρ Ps At Au tk us h1 h2 h3 h4 h5 h6 h7 h8 h9 K Q λv w' ρ' Ps' Ap=>hK out.v out.put v w' ρ' Ps' Ap ⟨rfl,rfl⟩
def nextOf(S:Tab)(ev:Ev S.τ)(it:Nat→Option (Item S.τ)):Op→Option (Nat×Nat×IntKind×TypeId×TypeId×List (Int×Bool)×List Int):=λ_=>none
def isNext:Op→Bool
 | .next _ false=>true
 |_=>false
def mapK(P:Program)(q:IntKind)(kt et:TypeId):Bool:=match P.underlying kt,P.underlying et with
 |some (.int q'),some .bool=>ikB q q'
 |_,_=>false
theorem next_sound{o:Oper}{ev:Ev S.τ}{it:Nat→Option (Item S.τ)}{nx:Nat}{i j:Nat}{q:IntKind}{kt et:TypeId}{m:List (Int×Bool)}{l:List Int}(h:nextOf S ev it o.op=some (i,j,q,kt,et,m,l))(hk:mapK P q kt et=true):
  LocSemO P S o ev it nx [i,j] [] 0 λv p=>(l=[]∧v= .tup [.one (.lit false)]∧p=[(j,.map q kt et .bool m)])∨
   ∃x∈l,v= .tup [.one (.lit true),.one (.d (.int q) x),.one (.d .bool (mget false m x))]∧p=[(i,.mit j q kt et .bool m (l.filter λz=> !decide (z=x)) (some x)),(j,.gst)]:=by
 unfold nextOf at h
 cases h
end
end Go.Bur
