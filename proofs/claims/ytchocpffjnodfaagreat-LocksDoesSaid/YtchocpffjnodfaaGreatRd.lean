import Derived.Test.YtchocpffjnodfaaGreatUf
namespace Go.Bur
open Go.RowKit
set_option linter.unusedVariables false
set_option linter.unusedSimpArgs false
section
variable {τ : Nat → Type}
def numE(k:Nat):List (A1 τ)→List (Nat×AV τ)
 |[]=>[]
 |x::r=>(k,.v x)::numE (k+1) r
def strip:List (Nat×AV τ)→Option (List (A1 τ))
 |[]=>some []
 |(_,.v x)::r=>match strip r with
  |some xs=>some (x::xs)
  |none=>none
 |(_,.tup _)::_=>none
def frzB(its:List (Nat×Item τ))(is:List PI):Mp→List Nat
 |[]=>[]
 |(j,k)::r=>(match is[j]?,lookI its k with
  |some (.box ps),some (.box ls)=>frzPs ps ls
  |some (.bst _),some (.box ls)=>ownLs ls
  |_,_=>[])++frzB its is r
def nilL(is:List PI):PL→Lf τ→Nat→Lf τ×List (Item τ)
 | .own j,.nil,nx=>match is[j]? with
  |some (.row e t)=>(.own nx,[.row e t []])
  |some (.deep e t es)=>(.own nx,[.deep e t es none []])
  |some (.scr t _)=>(.own nx,[.scr t true []])
  |_=>(.nil,[])
 |_,l,_=>(l,[])
def nilLs(is:List PI):List PL→List (Lf τ)→Nat→List (Lf τ)×List (Item τ)
 |p::ps,l::ls,nx=>match nilL is p l nx with
  |(l',n1)=>match nilLs is ps ls (nx+n1.length) with
   |(ls',n2)=>(l'::ls',n1++n2)
 |_,ls,_=>(ls,[])
def nilV(is:List PI):PV→A1 τ→Nat→A1 τ×List (Item τ)
 | .one p,.one l,nx=>match nilL is p l nx with
  |(l',n1)=>(.one l',n1)
 | .agg ps,.agg ls,nx=>match nilLs is ps ls nx with
  |(ls',n1)=>(.agg ls',n1)
 |_,a,_=>(a,[])
def nilVs(is:List PI):List PV→List (A1 τ)→Nat→List (A1 τ)×List (Item τ)
 |p::ps,l::ls,nx=>match nilV is p l nx with
  |(l',n1)=>match nilVs is ps ls (nx+n1.length) with
   |(ls',n2)=>(l'::ls',n1++n2)
 |_,ls,_=>(ls,[])
def boxPat(is:List PI)(k:Nat):Mp→Option (List PL)
 |[]=>none
 |(j,k')::r=>match Nat.beq k' k with
  |true=>match is[j]? with
   |some (.box ps)=>some ps
   |_=>none
  |false=>boxPat is k r
def nilIs(is:List PI)(m:Mp):List (Nat×Item τ)→Nat→List (Nat×Item τ)×List (Item τ)
 |[],_=>([],[])
 |(k,.box ls)::r,nx=>match boxPat is k m with
  |some ps=>match nilLs is ps ls nx with
   |(ls',n1)=>match nilIs is m r (nx+n1.length) with
    |(r',n2)=>((k,.box ls')::r',n1++n2)
  |none=>match nilIs is m r nx with
   |(r',n2)=>((k,.box ls)::r',n2)
 |x::r,nx=>match nilIs is m r nx with
  |(r',n2)=>(x::r',n2)
end
def rdA0(S:Tab)(m0:Mp)(pv:List PV)(is:List PI)(s:ASt S.τ)(as:List (A1 S.τ)):Option (PVsT S.τ pv (PIsT S.τ is Unit)×List Nat):=
 match freezes (frzVs pv as++frzB s.its is (colIs (lookI s.its) 0 is (colVs pv as m0))) ⟨s.nx,numE 0 as,s.its,s.org⟩ with
 |⟨nx,env,its,_⟩=>match strip env with
  |some as1=>match nilVs is pv as1 nx with
   |(as2,n1)=>match nilIs is (colIs (lookI its) 0 is (colVs pv as1 m0)) its (nx+n1.length) with
    |(its1,n2)=>match numI nx (n1++n2)++its1 with
     |its2=>match idsOf (colIs (lookI its2) 0 is (colVs pv as2 m0)) 0 is.length with
      |some ks=>match ndN ks,itsOf (lookI its2) ks with
       |true,some xs=>match rdIs S (atN ks) is xs () with
        |some t1=>match rdVs S (atN ks) pv as2 t1 with
         |some x=>some (x,ks)
         |none=>none
        |none=>none
       |_,_=>none
      |none=>none
  |none=>none
def rdA(S:Tab)(m0:Mp)(pv:List PV)(is:List PI)(s:ASt S.τ)(as:List (A1 S.τ)):Option (PVsT S.τ pv (PIsT S.τ is Unit)×List Nat):=rdA0 S m0 pv is ⟨s.nx,s.env,unfAll S s.its,s.org⟩ as
section
variable {P : Program} {S : Tab} {C : Cy} {w : World}
structure HA(P:Program)(S:Tab)(C:Cy)(nx:Nat)(its:List (Nat×Item S.τ))(org:Mp)(as:List (A1 S.τ))(vs:List Value)(w:World)(ρ:Rho)(As:List Asn)(Ps:List (World→Prop)):Prop where
 st:St C.R w As Ps
 keep:Keep C.F C.w0 w
 old:∀b∈fps As,b∈C.F∨C.w0.heap.size≤b
 vals:All2 (RelA1 S ρ Ps) as vs
 its:All2 (RelItem S ρ Ps P) its As
 dom:∀k g,ρ k=some g→k<nx
 org:∀i k g,mpGet org i=some k→C.r0 i=some g→ρ k=some g
theorem numE_look:∀{as:List (A1 S.τ)} {k t:Nat} {x:AV S.τ},look (numE k as) t=some x→∃i y,t=k+i∧as[i]? =some y∧x= .v y
 |[],k,t,x,h=>by cases h
 |y::r,k,t,x,h=>by
  simp only[numE,look] at h
  split at h
  ·rename_i hb
   obtain rfl:=Nat.eq_of_beq_eq_true hb
   exact⟨0,y,by omega,rfl,(someI' h).symm⟩
  ·obtain⟨i,z,h1,h2,h3⟩:=numE_look h
   exact⟨i+1,z,by omega,by simpa using h2,h3⟩
theorem keys_freeze{k:Nat}{s:ASt S.τ}:(freeze k s).env.map (·.1)=s.env.map (·.1)∧(freeze k s).nx=s.nx∧(freeze k s).org=s.org:=by
 unfold freeze
 split
 ·simp
 ·exact⟨rfl,rfl,rfl⟩
theorem keys_freezes:∀{ks:List Nat} {s:ASt S.τ},(freezes ks s).env.map (·.1)=s.env.map (·.1)∧(freezes ks s).nx=s.nx∧(freezes ks s).org=s.org
 |[],s=>⟨rfl,rfl,rfl⟩
 |k::ks,s=>by
  obtain⟨h1,h2,h3⟩:=keys_freezes (ks:=ks) (s:=freeze k s)
  obtain⟨g1,g2,g3⟩:=keys_freeze (k:=k) (s:=s)
  exact⟨h1.trans g1,h2.trans g2,h3.trans g3⟩
theorem numE_keys:∀{as:List (A1 S.τ)} {k:Nat},(numE k as).map (·.1)=List.range' k as.length
 |[],k=>rfl
 |x::r,k=>by simp only[numE,List.map_cons,List.length_cons,List.range'_succ,numE_keys]
theorem strip_all{ρ:Rho}{Ps:List (World→Prop)}:∀{env:List (Nat×AV S.τ)} {as:List (A1 S.τ)} {k:Nat} {vs:List Value},strip env=some as→env.map (·.1)=List.range' k vs.length→(∀t x,look env t=some x→RelAV S ρ Ps x (vs.getD (t-k) undef))→All2 (RelA1 S ρ Ps) as vs
 |[],as,k,vs,h,hk,hr=>by
  obtain rfl:=someI' h
  cases vs with
  |nil=>trivial
  |cons v r=>simp[List.range'_succ] at hk
 |(t,.v x)::r,as,k,vs,h,hk,hr=>by
  simp only[strip] at h
  split at h
  ·rename_i xs hxs
   obtain rfl:=someI' h
   cases vs with
   |nil=>simp at hk
   |cons v vs=>
    simp only[List.map_cons,List.length_cons,List.range'_succ,List.cons.injEq] at hk
    obtain⟨rfl,hk⟩:=hk
    refine⟨?_,strip_all (k:=t+1) hxs hk λq z hq=> ?_⟩
    ·have:=hr t (.v x) (by simp only[look];rw[show Nat.beq t t=true from Nat.beq_eq▸rfl])
     simpa[RelAV] using this
    ·have hlt:t+1≤q:=by
      have:q∈r.map (·.1):=by
       clear hr hxs hk h
       induction r with
       |nil=>cases hq
       |cons y r ih=>
        obtain⟨d,y⟩:=y
        simp only[look] at hq
        split at hq
        ·rename_i hb;simp[Nat.eq_of_beq_eq_true hb]
        ·exact List.mem_cons_of_mem _ (ih hq)
      rw[hk] at this
      exact(List.mem_range'_1.1 this).1
     have:=hr q z (by
      simp only[look]
      have:Nat.beq t q=false:=by
       cases hb:Nat.beq t q with
       |false=>rfl
       |true=>have:=Nat.eq_of_beq_eq_true hb;omega
      rw[this];exact hq)
     rw[show q-t=(q-(t+1))+1 from by omega] at this
     simpa using this
  ·cases h
 |(t,.tup _)::r,as,k,vs,h,hk,hr=>by cases h
structure NilR(ρ ρ':Rho)(nx:Nat)(n:Nat):Prop where
 keep:∀k g,ρ k=some g→ρ' k=some g
 new:∀k,nx≤k→k<nx+n→ρ' k=some ⟨none,0,0,0,noJ,noS⟩
inductive IsNil{τ:Nat→Type}:Item τ→Prop
 |row (e t):IsNil (.row e t [])
 |deep (e t es):IsNil (.deep e t es none [])
 |scr (t):IsNil (.scr t true [])
def AllNil{τ:Nat→Type}(xs:List (Item τ)):Prop:=∀x∈xs,IsNil x
theorem nilL_ok{ρ ρ':Rho}{Ps:List (World→Prop)}{is:List PI}{p:PL}{l l':Lf S.τ}{nx:Nat}{n1:List (Item S.τ)}(h:nilL is p l nx=(l',n1))(hr:NilR ρ ρ' nx n1.length):AllNil n1∧∀v,RelLf S ρ Ps l v→RelLf S ρ' Ps l' v:=by
 unfold nilL at h
 split at h
 ·split at h
  ·rename_i e t _
   simp only[Prod.mk.injEq] at h
   obtain⟨rfl,rfl⟩:=h
   exact⟨λx hx=>by rw[List.mem_singleton] at hx;subst hx;exact .row e t,λv hv=>⟨_,hr.new nx (Nat.le_refl _) (by simp),hv⟩⟩
  ·rename_i e t es _
   simp only[Prod.mk.injEq] at h
   obtain⟨rfl,rfl⟩:=h
   exact⟨λx hx=>by rw[List.mem_singleton] at hx;subst hx;exact .deep e t es,λv hv=>⟨_,hr.new nx (Nat.le_refl _) (by simp),hv⟩⟩
  ·rename_i t ex _
   simp only[Prod.mk.injEq] at h
   obtain⟨rfl,rfl⟩:=h
   exact⟨λx hx=>by rw[List.mem_singleton] at hx;subst hx;exact .scr t,λv hv=>⟨_,hr.new nx (Nat.le_refl _) (by simp),hv⟩⟩
  ·simp only[Prod.mk.injEq] at h
   obtain⟨rfl,rfl⟩:=h
   exact⟨(λx hx=>by cases hx),λv hv=>hv⟩
 ·simp only[Prod.mk.injEq] at h
  obtain⟨rfl,rfl⟩:=h
  exact⟨(λx hx=>by cases hx),λv hv=>RelLf.mono hr.keep (λ_ h=>h) hv⟩
theorem NilR.left{ρ ρ':Rho}{nx a b:Nat}(h:NilR ρ ρ' nx (a+b)):NilR ρ ρ' nx a:=⟨h.keep,λk h1 h2=>h.new k h1 (by omega)⟩
theorem NilR.right{ρ ρ':Rho}{nx a b:Nat}(h:NilR ρ ρ' nx (a+b)):NilR ρ ρ' (nx+a) b:=⟨h.keep,λk h1 h2=>h.new k (by omega) (by omega)⟩
theorem AllNil.app{τ:Nat→Type}{xs ys:List (Item τ)}(h:AllNil xs)(k:AllNil ys):AllNil (xs++ys):=λx hx=>by
 rcases List.mem_append.1 hx with hx|hx
 ·exact h x hx
 ·exact k x hx
theorem nilLs_ok{ρ ρ':Rho}{Ps:List (World→Prop)}{is:List PI}:∀{ps:List PL} {ls ls':List (Lf S.τ)} {nx:Nat} {n1:List (Item S.τ)},nilLs is ps ls nx=(ls',n1)→NilR ρ ρ' nx n1.length→AllNil n1∧∀vs,All2 (RelLf S ρ Ps) ls vs→All2 (RelLf S ρ' Ps) ls' vs
 |[],ls,ls',nx,n1,h,hr=>by
  simp only[nilLs,Prod.mk.injEq] at h
  obtain⟨rfl,rfl⟩:=h
  exact⟨by simp[AllNil],λvs h=>h.mono λ_ _ h=>RelLf.mono hr.keep (λ_ h=>h) h⟩
 |p::ps,[],ls',nx,n1,h,hr=>by
  simp only[nilLs,Prod.mk.injEq] at h
  obtain⟨rfl,rfl⟩:=h
  exact⟨by simp[AllNil],λvs h=>h.mono λ_ _ h=>RelLf.mono hr.keep (λ_ h=>h) h⟩
 |p::ps,l::ls,ls',nx,n1,h,hr=>by
  simp only[nilLs] at h
  cases h1:nilL is p l nx with
  |mk l1 m1=>
   rw[h1] at h
   simp only at h
   cases h2:nilLs is ps ls (nx+m1.length) with
   |mk ls1 m2=>
    rw[h2] at h
    simp only[Prod.mk.injEq] at h
    obtain⟨rfl,rfl⟩:=h
    rw[List.length_append] at hr
    obtain⟨a1,a2⟩:=nilL_ok (Ps:=Ps) h1 hr.left
    obtain⟨b1,b2⟩:=nilLs_ok h2 hr.right
    refine⟨AllNil.app a1 b1,λvs hv=> ?_⟩
    obtain⟨v,vs',rfl,h5,h6⟩:=All2.cons_left hv
    exact⟨a2 _ h5,b2 _ h6⟩
theorem nilV_ok{ρ ρ':Rho}{Ps:List (World→Prop)}{is:List PI}{p:PV}{l l':A1 S.τ}{nx:Nat}{n1:List (Item S.τ)}(h:nilV is p l nx=(l',n1))(hr:NilR ρ ρ' nx n1.length):AllNil n1∧∀v,RelA1 S ρ Ps l v→RelA1 S ρ' Ps l' v:=by
 have plain:nilV is p l nx=(l,[])→AllNil n1∧∀v,RelA1 S ρ Ps l v→RelA1 S ρ' Ps l' v:=λe=>by
  rw[e] at h
  simp only[Prod.mk.injEq] at h
  obtain⟨rfl,rfl⟩:=h
  exact⟨by simp[AllNil],λv h=>RelA1.mono hr.keep (λ_ h=>h) h⟩
 cases p with
 |one p=>
  cases l with
  |one l=>
   simp only[nilV] at h
   cases h1:nilL is p l nx with
   |mk l1 m1=>
    rw[h1] at h
    simp only[Prod.mk.injEq] at h
    obtain⟨rfl,rfl⟩:=h
    exact nilL_ok h1 hr
  |agg ls=>exact plain rfl
 |agg ps=>
  cases l with
  |one l=>exact plain rfl
  |agg ls=>
   simp only[nilV] at h
   cases h1:nilLs is ps ls nx with
   |mk l1 m1=>
    rw[h1] at h
    simp only[Prod.mk.injEq] at h
    obtain⟨rfl,rfl⟩:=h
    obtain⟨a1,a2⟩:=nilLs_ok (Ps:=Ps) h1 hr
    exact⟨a1,λv ⟨vs,h3,h4⟩=>⟨vs,h3,a2 _ h4⟩⟩
 |st i=>exact plain (by cases l<;>rfl)
theorem nilVs_ok{ρ ρ':Rho}{Ps:List (World→Prop)}{is:List PI}:∀{ps:List PV} {ls ls':List (A1 S.τ)} {nx:Nat} {n1:List (Item S.τ)},nilVs is ps ls nx=(ls',n1)→NilR ρ ρ' nx n1.length→AllNil n1∧∀vs,All2 (RelA1 S ρ Ps) ls vs→All2 (RelA1 S ρ' Ps) ls' vs
 |[],ls,ls',nx,n1,h,hr=>by
  simp only[nilVs,Prod.mk.injEq] at h
  obtain⟨rfl,rfl⟩:=h
  exact⟨by simp[AllNil],λvs h=>h.mono λ_ _ h=>RelA1.mono hr.keep (λ_ h=>h) h⟩
 |p::ps,[],ls',nx,n1,h,hr=>by
  simp only[nilVs,Prod.mk.injEq] at h
  obtain⟨rfl,rfl⟩:=h
  exact⟨by simp[AllNil],λvs h=>h.mono λ_ _ h=>RelA1.mono hr.keep (λ_ h=>h) h⟩
 |p::ps,l::ls,ls',nx,n1,h,hr=>by
  simp only[nilVs] at h
  cases h1:nilV is p l nx with
  |mk l1 m1=>
   rw[h1] at h
   simp only at h
   cases h2:nilVs is ps ls (nx+m1.length) with
   |mk ls1 m2=>
    rw[h2] at h
    simp only[Prod.mk.injEq] at h
    obtain⟨rfl,rfl⟩:=h
    rw[List.length_append] at hr
    obtain⟨a1,a2⟩:=nilV_ok (Ps:=Ps) h1 hr.left
    obtain⟨b1,b2⟩:=nilVs_ok h2 hr.right
    refine⟨AllNil.app a1 b1,λvs hv=> ?_⟩
    obtain⟨v,vs',rfl,h5,h6⟩:=All2.cons_left hv
    exact⟨a2 _ h5,b2 _ h6⟩
theorem nilIs_ok{ρ ρ':Rho}{Ps:List (World→Prop)}{is:List PI}{m:Mp}:∀{xs xs':List (Nat×Item S.τ)} {nx:Nat} {n1:List (Item S.τ)},nilIs is m xs nx=(xs',n1)→NilR ρ ρ' nx n1.length→AllNil n1∧∀As,All2 (RelItem S ρ Ps P) xs As→All2 (RelItem S ρ' Ps P) xs' As:=by
 intro xs
 induction xs with
 |nil=>
  intro xs' nx n1 h hr
  simp only[nilIs,Prod.mk.injEq] at h
  obtain⟨rfl,rfl⟩:=h
  exact⟨by simp[AllNil],λvs h=>by have:=All2.nil_left h;subst this;trivial⟩
 |cons x r ih=>
  intro xs' nx n1 h hr
  have plain:∀r' n2,nilIs is m r nx=(r',n2)→NilR ρ ρ' nx n2.length→AllNil n2∧∀As,All2 (RelItem S ρ Ps P) (x::r) As→All2 (RelItem S ρ' Ps P) (x::r') As:=λr' n2 h1 hr=>by
   obtain⟨a1,a2⟩:=ih h1 hr
   refine⟨a1,λAs hA=> ?_⟩
   obtain⟨A,As',rfl,h5,h6⟩:=All2.cons_left hA
   exact⟨RelItem.mono hr.keep (λ_ h=>h) h5,a2 _ h6⟩
  obtain⟨k,y⟩:=x
  cases y with
  |box ls=>
   simp only[nilIs] at h
   split at h
   ·rename_i ps hps
    cases h1:nilLs is ps ls nx with
    |mk l1 m1=>
     rw[h1] at h
     simp only at h
     cases h2:nilIs is m r (nx+m1.length) with
     |mk r1 m2=>
      rw[h2] at h
      simp only[Prod.mk.injEq] at h
      obtain⟨rfl,rfl⟩:=h
      rw[List.length_append] at hr
      obtain⟨a1,a2⟩:=nilLs_ok (Ps:=Ps) h1 hr.left
      obtain⟨b1,b2⟩:=ih h2 hr.right
      refine⟨AllNil.app a1 b1,λAs hA=> ?_⟩
      obtain⟨A,As',rfl,⟨g,vs,h5,h6,h7⟩,h8⟩:=All2.cons_left hA
      exact⟨⟨g,vs,hr.keep _ _ h5,h6,a2 _ h7⟩,b2 _ h8⟩
   ·cases h2:nilIs is m r nx with
    |mk r1 m2=>
     rw[h2] at h
     simp only[Prod.mk.injEq] at h
     obtain⟨rfl,rfl⟩:=h
     exact plain _ _ h2 hr
  |row e t l=>
   simp only[nilIs] at h
   cases h2:nilIs is m r nx with
   |mk r1 m2=>
    rw[h2] at h
    simp only[Prod.mk.injEq] at h
    obtain⟨rfl,rfl⟩:=h
    exact plain _ _ h2 hr
  |gst=>
   simp only[nilIs] at h
   cases h2:nilIs is m r nx with
   |mk r1 m2=>
    rw[h2] at h
    simp only[Prod.mk.injEq] at h
    obtain⟨rfl,rfl⟩:=h
    exact plain _ _ h2 hr
  |mit jm q kt et vt l ks c=>
   simp only[nilIs] at h
   cases h2:nilIs is m r nx with
   |mk r1 m2=>
    rw[h2] at h
    simp only[Prod.mk.injEq] at h
    obtain⟨rfl,rfl⟩:=h
    exact plain _ _ h2 hr
  |map q kt et vt l=>
   simp only[nilIs] at h
   cases h2:nilIs is m r nx with
   |mk r1 m2=>
    rw[h2] at h
    simp only[Prod.mk.injEq] at h
    obtain⟨rfl,rfl⟩:=h
    exact plain _ _ h2 hr
  |lmap kt et l=>
   simp only[nilIs] at h
   cases h2:nilIs is m r nx with
   |mk r1 m2=>
    rw[h2] at h
    simp only[Prod.mk.injEq] at h
    obtain⟨rfl,rfl⟩:=h
    exact plain _ _ h2 hr
  |dmap kt et ky vt l=>
   simp only[nilIs] at h
   cases h2:nilIs is m r nx with
   |mk r1 m2=>
    rw[h2] at h
    simp only[Prod.mk.injEq] at h
    obtain⟨rfl,rfl⟩:=h
    exact plain _ _ h2 hr
  |cmap q kt et l=>
   simp only[nilIs] at h
   cases h2:nilIs is m r nx with
   |mk r1 m2=>
    rw[h2] at h
    simp only[Prod.mk.injEq] at h
    obtain⟨rfl,rfl⟩:=h
    exact plain _ _ h2 hr
  |deep e t es m0 l=>
   simp only[nilIs] at h
   cases h2:nilIs is m r (nx) with
   |mk r1 m2=>
    rw[h2] at h
    simp only[Prod.mk.injEq] at h
    obtain⟨rfl,rfl⟩:=h
    exact plain _ _ h2 hr
  |rest e t es m0 l i kb=>
   simp only[nilIs] at h
   cases h2:nilIs is m r (nx) with
   |mk r1 m2=>
    rw[h2] at h
    simp only[Prod.mk.injEq] at h
    obtain⟨rfl,rfl⟩:=h
    exact plain _ _ h2 hr
  |shed e t es m0 l=>
   simp only[nilIs] at h
   cases h2:nilIs is m r (nx) with
   |mk r1 m2=>
    rw[h2] at h
    simp only[Prod.mk.injEq] at h
    obtain⟨rfl,rfl⟩:=h
    exact plain _ _ h2 hr
  |srest e t es l i kb=>
   simp only[nilIs] at h
   cases h2:nilIs is m r (nx) with
   |mk r1 m2=>
    rw[h2] at h
    simp only[Prod.mk.injEq] at h
    obtain⟨rfl,rfl⟩:=h
    exact plain _ _ h2 hr
  |scr t ex l=>
   simp only[nilIs] at h
   cases h2:nilIs is m r nx with
   |mk r1 m2=>
    rw[h2] at h
    simp only[Prod.mk.injEq] at h
    obtain⟨rfl,rfl⟩:=h
    exact plain _ _ h2 hr
  |opq ys ts f m0 x0=>
   simp only[nilIs] at h
   cases h2:nilIs is m r nx with
   |mk r1 m2=>
    rw[h2] at h
    simp only[Prod.mk.injEq] at h
    obtain⟨rfl,rfl⟩:=h
    exact plain _ _ h2 hr
def nilAsn(S:Tab):Item S.τ→Asn
 | .row e t _=> .row none 0 e (S.sz t) 0 []
 | .deep e t es _ _=>deepA S ⟨none,0,0,0,noJ,noS⟩ e t es [] [] [] []
 | .scr t _ _=> .any [] (ScrP S ⟨none,0,0,0,noJ,noS⟩ t true [])
 |_=> .row none 0 0 0 0 []
def nilPs(S:Tab):List (Item S.τ)→List (World→Prop)
 |[]=>[]
 | .row e t _::r=>RepsB (S.GT t) [] []::nilPs S r
 |_::r=>nilPs S r
theorem nilPs_true:∀(xs:List (Item S.τ)),∀p∈nilPs S xs,∀w,p w
 |[],p,h,w=>by cases h
 | .row e t l::r,p,h,w=>by
  rcases List.mem_cons.1 h with rfl|h
  ·exact .nil
  ·exact nilPs_true r p h w
 | .box _::r,p,h,w=>nilPs_true r p h w
 | .map _ _ _ _ _::r,p,h,w=>nilPs_true r p h w
 | .cmap _ _ _ _::r,p,h,w=>nilPs_true r p h w
 | .lmap _ _ _::r,p,h,w=>nilPs_true r p h w
 | .dmap _ _ _ _ _::r,p,h,w=>nilPs_true r p h w
 | .opq _ _ _ _ _::r,p,h,w=>nilPs_true r p h w
 | .gst::r,p,h,w=>nilPs_true r p h w
 | .mit _ _ _ _ _ _ _ _::r,p,h,w=>nilPs_true r p h w
 | .deep _ _ _ _ _::r,p,h,w=>nilPs_true r p h w
 | .rest _ _ _ _ _ _ _::r,p,h,w=>nilPs_true r p h w
 | .shed _ _ _ _ _::r,p,h,w=>nilPs_true r p h w
 | .srest _ _ _ _ _ _::r,p,h,w=>nilPs_true r p h w
 | .scr _ _ _::r,p,h,w=>nilPs_true r p h w
theorem nil_st(ok:TabOk S){R:List Nat}{As:List Asn}{Ps:List (World→Prop)}:∀(xs:List (Item S.τ)),St R w As Ps→St R w (xs.map (nilAsn S)++As) Ps∧fps (xs.map (nilAsn S)++As)=fps As
 |[],h=>⟨h,rfl⟩
 |x::r,h=>by
  obtain⟨h1,h2⟩:=nil_st ok r h
  have hh:(nilAsn S x).holds w∧(nilAsn S x).fp=[]:=by
   cases x with
   |row e t l=>exact⟨World.ownsRow_nil w 0 e (S.sz t),rfl⟩
   |deep e t es m l=>exact⟨deepA_of ok (World.ownsRow_nil w 0 e (S.sz t)) ⟨rfl,rfl⟩,rfl⟩
   |scr t ex l=>exact⟨λw2 _=>⟨λ_=>RS.nil _ _ _,λA v hm=>by cases hm⟩,rfl⟩
   |_=>exact⟨World.ownsRow_nil w 0 0 0,rfl⟩
  exact⟨St.new (A:=nilAsn S x) h1 (Ext.refl w) hh.1 (by rw[hh.2];simp) (by rw[hh.2];simp),by simp only[List.map_cons,List.cons_append,fps_cons,h2];rw[hh.2];rfl⟩
theorem nil_its{ρ':Rho}:∀(xs:List (Item S.τ))(nx:Nat),AllNil xs→(∀k,nx≤k→k<nx+xs.length→ρ' k=some ⟨none,0,0,0,noJ,noS⟩)→All2 (RelItem S ρ' (nilPs S xs) P) (numI nx xs) (xs.map (nilAsn S))
 |[],_,_,_=>trivial
 |x::r,nx,h,hn=>by
  have hr:=nil_its r (nx+1) (λy hy=>h y (List.mem_cons_of_mem _ hy)) λk h1 h2=>hn k (by omega) (by simp only[List.length_cons];omega)
  cases h x (List.mem_cons_self ..) with
  |row e t=>
   refine⟨⟨_,[],hn nx (Nat.le_refl _) (by simp),rfl,rfl,List.mem_cons_self ..⟩, ?_⟩
   exact hr.mono λ_ _ h=>RelItem.mono (λ_ _ h=>h) (λp hp=>List.mem_cons_of_mem _ hp) h
  |deep e t es=>exact⟨⟨_,[],[],[],hn nx (Nat.le_refl _) (by simp),rfl,rfl,Nat.le_refl _,.inl ⟨rfl,rfl⟩⟩,hr⟩
  |scr t=>exact⟨⟨_,[],true,hn nx (Nat.le_refl _) (by simp),rfl,(λe=>e),rfl,(λh=>absurd rfl h),(λB v hm=>by cases hm),λi x hx=>by simp at hx⟩,hr⟩
theorem rdA0_ok(ok:TabOk S){m0:Mp}{pv:List PV}{is:List PI}{s:ASt S.τ}{as:List (A1 S.τ)}{vs:List Value}{x:PVsT S.τ pv (PIsT S.τ is Unit)}{ks:List Nat}(hrd:rdA0 S m0 pv is s as=some (x,ks)){ρ:Rho}{As:List Asn}{Ps:List (World→Prop)}(h:HA P S C s.nx s.its s.org as vs w ρ As Ps):
  ∃ρ2 As2 Ps2,St C.R w As2 Ps2∧(∀b∈fps As2,b∈C.F∨C.w0.heap.size≤b)∧All2 (RelA1 S ρ2 Ps2) (putVs S (λj=>j) pv x).1 vs∧All2 (RelItem S ρ2 Ps2 P) (numI 0 (putIs S (λj=>j) is (putVs S (λj=>j) pv x).2).1) As2∧
   (∀j g,ρ2 j=some g→j<is.length)∧∀i k j g,mpGet s.org i=some k→ks[j]? =some k→C.r0 i=some g→ρ2 j=some g:=by
 unfold rdA0 at hrd
 have hv:Hold P S C vs.length ⟨s.nx,numE 0 as,s.its,s.org⟩ ⟨vs.toArray,[]⟩ w:=by
  refine⟨ρ,As,Ps,h.st,h.keep,h.old,by simp,rfl,λt y hy=> ?_,h.its,h.dom,h.org⟩
  obtain⟨i,z,rfl,h1,rfl⟩:=numE_look hy
  obtain⟨v,h2,h3⟩:=h.vals.get h1
  have:(vs.toArray.getD (0+i) undef)=v:=by simp[h2]
  rw[this];exact h3
 have hlen:as.length=vs.length:=h.vals.len
 generalize hfz:freezes (frzVs pv as++frzB s.its is (colIs (lookI s.its) 0 is (colVs pv as m0))) ⟨s.nx,numE 0 as,s.its,s.org⟩=s1 at hrd
 have hv1:Hold P S C vs.length s1 ⟨vs.toArray,[]⟩ w:=hfz▸freezes_hold ok hv
 obtain⟨hkeys,hnx,horg⟩:=keys_freezes (ks:=frzVs pv as++frzB s.its is (colIs (lookI s.its) 0 is (colVs pv as m0))) (s:=⟨s.nx,numE 0 as,s.its,s.org⟩)
 rw[hfz] at hkeys hnx horg
 obtain⟨nx,env,its,org⟩:=s1
 simp only at hrd hkeys hnx horg
 subst hnx horg
 obtain⟨ρ1,As1,Ps1,hv1⟩:=hv1
 split at hrd
 ·rename_i as1 hstrip
  have hvals:All2 (RelA1 S ρ1 Ps1) as1 vs:=strip_all (k:=0) hstrip (by rw[hkeys,numE_keys,hlen]) λt y hy=>by
   have:=hv1.env t y hy
   simpa using this
  cases hn1:nilVs is pv as1 s.nx with
  |mk as2 n1=>
   rw[hn1] at hrd
   simp only at hrd
   cases hn2:nilIs is (colIs (lookI its) 0 is (colVs pv as1 m0)) its (s.nx+n1.length) with
   |mk its1 n2=>
    rw[hn2] at hrd
    simp only at hrd
    let ρn:Rho:=λk=>match Nat.ble s.nx k&&Nat.blt k (s.nx+(n1.length+n2.length)) with
     |true=>some ⟨none,0,0,0,noJ,noS⟩
     |false=>ρ1 k
    have hnil:NilR ρ1 ρn s.nx (n1.length+n2.length):=by
     refine⟨λk g hk=> ?_,λk h1 h2=> ?_⟩
     ·show(match Nat.ble s.nx k&&Nat.blt k (s.nx+(n1.length+n2.length)) with|true=>some (⟨none,0,0,0,noJ,noS⟩:Gh)|false=>ρ1 k)=some g
      have:=hv1.dom k g hk
      have:Nat.ble s.nx k=false:=by
       cases hb:Nat.ble s.nx k with
       |false=>rfl
       |true=>have:=Nat.le_of_ble_eq_true hb;simp only at*;omega
      rw[this];exact hk
     ·show(match Nat.ble s.nx k&&Nat.blt k (s.nx+(n1.length+n2.length)) with|true=>some (⟨none,0,0,0,noJ,noS⟩:Gh)|false=>ρ1 k)=_
      rw[show Nat.ble s.nx k=true from Nat.ble_eq▸h1,show Nat.blt k (s.nx+(n1.length+n2.length))=true from Nat.blt_eq▸h2];rfl
    obtain⟨a1,a2⟩:=nilVs_ok (Ps:=Ps1) hn1 hnil.left
    obtain⟨b1,b2⟩:=nilIs_ok (P:=P) (Ps:=Ps1) hn2 hnil.right
    have hst2:=(nil_st (S:=S) ok (n1++n2) hv1.st)
    have hst3:=hst2.1.addPs (ps:=nilPs S (n1++n2)) λp hp w' _=>nilPs_true _ p hp w'
    have hi2:All2 (RelItem S ρn (nilPs S (n1++n2)++Ps1) P) (numI s.nx (n1++n2)++its1) ((n1++n2).map (nilAsn S)++As1):=by
     refine All2.app ?_ ?_
     ·exact(nil_its (P:=P) (n1++n2) s.nx (AllNil.app a1 b1) λk h1 h2=>hnil.new k h1 (by rw[List.length_append] at h2;exact h2)).mono λ_ _ h=>RelItem.mono (λ_ _ h=>h) (λp hp=>List.mem_append_left _ hp) h
     ·exact(b2 _ hv1.its).mono λ_ _ h=>RelItem.mono (λ_ _ h=>h) (λp hp=>List.mem_append_right _ hp) h
    have hvals2:All2 (RelA1 S ρn (nilPs S (n1++n2)++Ps1)) as2 vs:=(a2 _ hvals).mono λ_ _ h=>RelA1.mono (λ_ _ h=>h) (λp hp=>List.mem_append_right _ hp) h
    generalize numI s.nx (n1++n2)++its1=its2 at hrd hi2
    split at hrd
    ·rename_i ks0 hks
     split at hrd
     ·rename_i xs hnd hxs
      split at hrd
      ·rename_i t1 ht1
       split at hrd
       ·rename_i x0 hx0
        simp only[Option.some.injEq,Prod.mk.injEq] at hrd
        obtain⟨rfl,rfl⟩:=hrd
        obtain⟨tk,e1,e2,e3⟩:=pull_perm (ndN_iff hnd) hxs
        have hxs':=itsOf_eq hxs e1 e2
        subst hxs'
        obtain⟨As3,hp3,hi3⟩:=All2.perm e3 hi2
        obtain⟨At,Ar,rfl,hAt,_⟩:=All2.split hi3
        have hst4:=(hst3.perm hp3).sub (Qs:=nilPs S (n1++n2)++Ps1) λ_ h=>h
        have hrc:Ren (atN ks0) (λj=>j) ρn (λj=>(atN ks0 j).bind ρn):=λj q gg h1 h2=>by simp[h1,h2]
        obtain⟨f1,f2⟩:=rdVs_ok (Ps:=nilPs S (n1++n2)++Ps1) ok hrc hx0
        obtain⟨f3,f4⟩:=rdIs_ok (Ps:=nilPs S (n1++n2)++Ps1) (P:=P) (i:=0) ok hrc ht1 λq q' hq gg hg=>by
         have:ks0[q]? =some q':=by rw[←e1];simpa using hq
         simp[atN,this,hg]
        refine⟨λj=>(atN ks0 j).bind ρn,At,nilPs S (n1++n2)++Ps1,hst4,λb hb=> ?_,f2 _ hvals2,by rw[f1];exact f4 _ hAt,λj g hj=> ?_,λi k j g h1 h2 h3=> ?_⟩
        ·have:=(fps_perm hp3).mem_iff.2 (by rw[fps_append];exact List.mem_append_left _ hb)
         rw[hst2.2] at this
         exact hv1.old b this
        ·have hlk:ks0.length=is.length:=by
          have:∀(m:Mp)(j n:Nat)(l:List Nat),idsOf m j n=some l→l.length=n:=by
           intro m j n
           induction n generalizing j with
           |zero=>intro l h;obtain rfl:=someI' h;rfl
           |succ n ih=>
            intro l h
            simp only[idsOf] at h
            split at h
            ·rename_i h1 h2
             obtain rfl:=someI' h
             rw[List.length_cons,ih _ _ h2]
            ·cases h
          exact this _ _ _ _ hks
         replace hj:(atN ks0 j).bind ρn=some g:=hj
         cases hq:atN ks0 j with
         |none=>rw[hq] at hj;cases hj
         |some q=>
          have:=(List.getElem?_eq_some_iff.1 (show ks0[j]? =some q from hq)).1
          omega
        ·have h4:ρn k=some g:=hnil.keep _ _ (hv1.org i k g h1 h3)
         show(atN ks0 j).bind ρn=some g
         rw[show atN ks0 j=some k from h2];exact h4
       ·cases hrd
      ·cases hrd
     ·cases hrd
    ·cases hrd
 ·cases hrd
theorem rdA_ok(ok:TabOk S){m0:Mp}{pv:List PV}{is:List PI}{s:ASt S.τ}{as:List (A1 S.τ)}{vs:List Value}{x:PVsT S.τ pv (PIsT S.τ is Unit)}{ks:List Nat}(hrd:rdA S m0 pv is s as=some (x,ks)){ρ:Rho}{As:List Asn}{Ps:List (World→Prop)}(h:HA P S C s.nx s.its s.org as vs w ρ As Ps):
  ∃ρ2 As2 Ps2,St C.R w As2 Ps2∧(∀b∈fps As2,b∈C.F∨C.w0.heap.size≤b)∧All2 (RelA1 S ρ2 Ps2) (putVs S (λj=>j) pv x).1 vs∧All2 (RelItem S ρ2 Ps2 P) (numI 0 (putIs S (λj=>j) is (putVs S (λj=>j) pv x).2).1) As2∧
   (∀j g,ρ2 j=some g→j<is.length)∧∀i k j g,mpGet s.org i=some k→ks[j]? =some k→C.r0 i=some g→ρ2 j=some g:=by
 obtain⟨As',h1,h2,h3⟩:=unfs_ok (P:=P) ok (ks:=restIds s.its) h.st h.its
 exact rdA0_ok (s:=⟨s.nx,s.env,unfAll S s.its,s.org⟩) ok hrd ⟨h1,h.keep,λb hb=>h.old b (h3.mem_iff.1 hb),h.vals,h2,h.dom,h.org⟩
end
end Go.Bur
