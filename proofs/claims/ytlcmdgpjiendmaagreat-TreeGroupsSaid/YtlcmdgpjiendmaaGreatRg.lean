import Derived.Test.YtlcmdgpjiendmaaGreatXv
namespace Go.Bur
open Go.RowKit
set_option linter.unusedVariables false
set_option linter.unusedSimpArgs false
structure ASt(τ:Nat->Type) where
 nx:Nat
 env:List (Nat×AV τ)
 its:List (Nat×Item τ)
 org:Mp
structure Wk where
 P:Program
 S:Tab
 ty:TypeId->Option Ty
 Γ:List (Ct S)
 A:Option Nat
 D:List (TypeId×List (Option TypeId))
 cut:Bool
structure JJ(W:Wk):Prop where
 ok:bB W.S
 Γ:UZ W.P W.S W.Γ
 A:Su W.P W.A
section
variable {τ : Nat -> Type}
def bP:List (Nat×Item τ)->Nat->Option (Item τ)
 |[],_=>none
 |(j,x)::r,k=>match Nat.beq j k with
  |true=>some x
  |false=>bP r k
def er1(k:Nat):List (Nat×Item τ)->List (Nat×Item τ)
 |[]=>[]
 |(j,x)::r=>match Nat.beq j k with
  |true=>r
  |false=>(j,x)::er1 k r
def erN:List Nat->List (Nat×Item τ)->List (Nat×Item τ)
 |[],its=>its
 |k::ks,its=>erN ks (er1 k its)
def GW(env:List (Nat×AV τ))(d:Option Nat)(v:AV τ):List (Nat×AV τ):=match d with
 |some d=>(d,v)::env
 |none=>env
def Mi(k:Nat)(y:Lf τ):Lf τ->Lf τ
 | .own j=>match Nat.beq j k with
  |true=>y
  |false=> .own j
 |l=>l
def SW(k:Nat)(y:Lf τ):A1 τ->A1 τ
 | .one x=> .one (Mi k y x)
 | .agg xs=> .agg (xs.map (Mi k y))
def SX(k:Nat)(y:Lf τ):AV τ->AV τ
 | .v x=> .v (SW k y x)
 | .tup xs=> .tup (xs.map (SW k y))
def Zh(k:Nat)(y:Lf τ):Item τ->Item τ
 | .box xs=> .box (xs.map (Mi k y))
 |x=>x
def rowOf:Item τ->Option ((t:Ty)×List (Dn τ t))
 | .row _ t l=>some ⟨t,l⟩
 | .deep _ t _ _ l=>some ⟨t,l⟩
 |_=>none
def RR:Option (Item τ)->Option ((t:Ty)×List (Dn τ t))
 |some x=>rowOf x
 |none=>none
def freeze(k:Nat)(s:ASt τ):ASt τ:=match RR (bP s.its k) with
 |some ⟨t,l⟩=>⟨s.nx,s.env.map λx=>(x.1,SX k (.d (.sl t) l) x.2),(er1 k s.its).map (λx=>(x.1,Zh k (.d (.sl t) l) x.2)),s.org⟩
 |_=>s
def pP:List Nat->ASt τ->ASt τ
 |[],s=>s
 |k::ks,s=>pP ks (freeze k s)
end
structure Cy extends Cx where
 r0:Rho
structure Zi(P:Program)(S:Tab)(C:Cy)(n:Nat)(s:ASt S.τ)(a:Act)(w:World)(ρ:Rho)(As:List Asn)(Ps:List (World->Prop)):Prop where
 st:St C.R w As Ps
 keep:bD C.F C.w0 w
 old:∀b∈fps As,b∈C.F\/C.w0.heap.size<=b
 size:a.tmps.size=n
 dfr:a.defers=[]
 env:∀t x,look s.env t=some x->cM S ρ Ps x (a.tmps.getD t undef)
 its:aH (aI S ρ Ps P) s.its As
 dom:∀k g,ρ k=some g->k<s.nx
 org:∀i k g,oM s.org i=some k->C.r0 i=some g->ρ k=some g
def eE(P:Program)(S:Tab)(C:Cy)(n:Nat)(s:ASt S.τ)(a:Act)(w:World):Prop:=∃ρ As Ps,Zi P S C n s a w ρ As Ps
section
variable {P : Program} {S : Tab} {C : Cy} {n : Nat} {s : ASt S.τ} {a : Act} {w : World} {ρ : Rho} {As : List Asn} {Ps : List (World -> Prop)}
theorem zS:∀{its:List (Nat×Item S.τ)} {k:Nat} {x:Item S.τ},bP its k=some x->its.Perm ((k,x)::er1 k its)
 |[],k,x,h=>by cases h
 |(j,y)::r,k,x,h=>by
  simp only[bP] at h
  simp only[er1]
  split at h
  ·rename_i hb
   obtain rfl:=someI' h
   obtain rfl:=Nat.eq_of_beq_eq_true hb
   exact List.Perm.refl _
  ·rename_i hb
   exact((zS h).cons _).trans (List.Perm.swap _ _ _)
theorem zT:∀{its:List (Nat×Item S.τ)} {j k:Nat},j≠k->bP (er1 j its) k=bP its k
 |[],j,k,h=>rfl
 |(i,y)::r,j,k,h=>by
  simp only[er1]
  cases hb:Nat.beq i j with
  |true=>
   obtain rfl:=Nat.eq_of_beq_eq_true hb
   simp only[bP]
   have:Nat.beq i k=false:=by
    cases hq:Nat.beq i k with
    |false=>rfl
    |true=>exact absurd (Nat.eq_of_beq_eq_true hq) h
   rw[this]
  |false=>
   simp only[bP]
   rw[zT h]
theorem zU:∀{ks:List Nat} {its:List (Nat×Item S.τ)} {xs:List (Item S.τ)},ks.Nodup->gB (bP its) ks=some xs->∃tk:List (Nat×Item S.τ),tk.map (·.1)=ks/\(∀x∈tk,bP its x.1=some x.2)/\its.Perm (tk++erN ks its)
 |[],its,xs,_,h=>⟨[],rfl,by simp,List.Perm.refl _⟩
 |k::ks,its,xs,hn,h=>by
  simp only[gB] at h
  split at h
  ·rename_i x ys h1 h2
   obtain⟨hk,hn'⟩:=List.nodup_cons.1 hn
   have h3:gB (bP (er1 k its)) ks=some ys:=by
    rw[<-h2]
    clear h2 h
    induction ks with
    |nil=>rfl
    |cons j r ih=>
     have hjk:k≠j:=λe=>hk (by simp[e])
     simp only[gB]
     rw[zT hjk,ih (List.nodup_cons.2 ⟨λh=>hk (List.mem_cons_of_mem _ h),(List.nodup_cons.1 hn').2⟩) (λh=>hk (List.mem_cons_of_mem _ h)) (List.nodup_cons.1 hn').2]
   obtain⟨tk,e1,e2,e3⟩:=zU hn' h3
   refine⟨(k,x)::tk,by simp[e1],λz hz=> ?_, ?_⟩
   ·rcases List.mem_cons.1 hz with rfl|hz
    ·exact h1
    ·have hz2:k≠z.1:=λe=>hk (by rw[e,<-e1];exact List.mem_map_of_mem hz)
     rw[<-zT hz2]
     exact e2 z hz
   ·exact(zS h1).trans (e3.cons _)
  ·cases h
theorem Mj:∀{js:List Nat} {its:List (Nat×Item S.τ)} {ks:List Nat},(∀j∈js,∀k∈ks,j≠k)->gB (bP (erN js its)) ks=gB (bP its) ks
 |[],_,_,_=>rfl
 |j::js,its,ks,h=>by
  simp only[erN]
  rw[Mj λi hi k hk=>h i (List.mem_cons_of_mem _ hi) k hk]
  induction ks with
  |nil=>rfl
  |cons k r ih=>
   simp only[gB]
   rw[zT (h j (List.mem_cons_self ..) k (List.mem_cons_self ..)),ih λi hi k hk=>h i hi k (List.mem_cons_of_mem _ hk)]
theorem Ml{it:Nat->Option (Item S.τ)}:∀{ks js:List Nat} {xs:List (Item S.τ)},gB it (ks++js)=some xs->∃ys zs,gB it ks=some ys/\gB it js=some zs
 |[],js,xs,h=>⟨[],xs,rfl,h⟩
 |k::ks,js,xs,h=>by
  simp only[List.cons_append,gB] at h
  split at h
  ·rename_i x ys h1 h2
   obtain⟨y1,z1,h3,h4⟩:=Ml h2
   exact⟨x::y1,z1,by simp only[gB];rw[h1,h3],h4⟩
  ·cases h
theorem zV:∀{js:List Nat} {its:List (Nat×Item S.τ)} {k:Nat},k∉js->bP (erN js its) k=bP its k
 |[],_,_,_=>rfl
 |j::js,its,k,h=>by
  simp only[erN]
  rw[zV λhk=>h (List.mem_cons_of_mem _ hk),zT λe=>h (by simp[e])]
theorem Mm{k:Nat}{y x:Lf S.τ}{v:Value}{Ps':List (World->Prop)}(hP:∀p∈Ps,p∈Ps')(hy:∀v,aU S ρ Ps (.own k) v->aU S ρ Ps' y v)(h:aU S ρ Ps x v):aU S ρ Ps' (Mi k y x) v:=by
 unfold Mi
 split
 ·rename_i j
  split
  ·rename_i hb
   obtain rfl:=Nat.eq_of_beq_eq_true hb
   exact hy v h
  ·exact aU.mono (λ_ _ h=>h) hP h
 ·exact aU.mono (λ_ _ h=>h) hP h
theorem ER{k:Nat}{y:Lf S.τ}{Ps':List (World->Prop)}(hP:∀p∈Ps,p∈Ps')(hy:∀v,aU S ρ Ps (.own k) v->aU S ρ Ps' y v):∀{xs:List (Lf S.τ)} {vs:List Value},aH (aU S ρ Ps) xs vs->aH (aU S ρ Ps') (xs.map (Mi k y)) vs
 |[],vs,h=>by have:=aH.nil_left h;subst this;trivial
 |x::xs,vs,h=>by
  obtain⟨v,vs',rfl,h1,h2⟩:=aH.cons_left h
  exact⟨Mm hP hy h1,ER hP hy h2⟩
theorem Mn{k:Nat}{y:Lf S.τ}{x:A1 S.τ}{v:Value}{Ps':List (World->Prop)}(hP:∀p∈Ps,p∈Ps')(hy:∀v,aU S ρ Ps (.own k) v->aU S ρ Ps' y v)(h:bJ S ρ Ps x v):bJ S ρ Ps' (SW k y x) v:=by
 cases x with
 |one x=>exact Mm hP hy h
 |agg xs=>obtain⟨vs,h1,h2⟩:=h;exact⟨vs,h1,ER hP hy h2⟩
theorem JK{k:Nat}{y:Lf S.τ}{Ps':List (World->Prop)}(hP:∀p∈Ps,p∈Ps')(hy:∀v,aU S ρ Ps (.own k) v->aU S ρ Ps' y v):∀{xs:List (A1 S.τ)} {vs:List Value},aH (bJ S ρ Ps) xs vs->aH (bJ S ρ Ps') (xs.map (SW k y)) vs
 |[],vs,h=>by have:=aH.nil_left h;subst this;trivial
 |x::xs,vs,h=>by
  obtain⟨v,vs',rfl,h1,h2⟩:=aH.cons_left h
  exact⟨Mn hP hy h1,JK hP hy h2⟩
theorem Mo{k:Nat}{y:Lf S.τ}{x:AV S.τ}{v:Value}{Ps':List (World->Prop)}(hP:∀p∈Ps,p∈Ps')(hy:∀v,aU S ρ Ps (.own k) v->aU S ρ Ps' y v)(h:cM S ρ Ps x v):cM S ρ Ps' (SX k y x) v:=by
 cases x with
 |v x=>exact Mn hP hy h
 |tup xs=>obtain⟨vs,h1,h2⟩:=h;exact⟨vs,h1,JK hP hy h2⟩
theorem JL{k:Nat}{y:Lf S.τ}{Ps':List (World->Prop)}(hP:∀p∈Ps,p∈Ps')(hy:∀v,aU S ρ Ps (.own k) v->aU S ρ Ps' y v):∀{xs:List (Nat×Item S.τ)} {As:List Asn},aH (aI S ρ Ps P) xs As->aH (aI S ρ Ps' P) (xs.map λx=>(x.1,Zh k y x.2)) As
 |[],vs,h=>by have:=aH.nil_left h;subst this;trivial
 |(j,x)::xs,vs,h=>by
  obtain⟨v,vs',rfl,h1,h2⟩:=aH.cons_left h
  refine⟨?_,JL hP hy h2⟩
  cases x with
  |box xs=>obtain⟨g,vs,e1,e2,e3⟩:=h1;exact⟨g,vs,e1,e2,ER hP hy e3⟩
  |row e t l=>exact aI.mono (λ_ _ h=>h) hP h1
  |map q kt et vt m=>exact aI.mono (λ_ _ h=>h) hP h1
  |cmap q kt et m=>exact aI.mono (λ_ _ h=>h) hP h1
  |lmap kt et m=>exact aI.mono (λ_ _ h=>h) hP h1
  |dmap kt et ky vt m=>exact aI.mono (λ_ _ h=>h) hP h1
  |opq ys ts f m x=>exact aI.mono (λ_ _ h=>h) hP h1
  |gst=>exact aI.mono (λ_ _ h=>h) hP h1
  |mit jm q kt et vt m l c=>exact aI.mono (λ_ _ h=>h) hP h1
  |deep e t es m l=>exact aI.mono (λ_ _ h=>h) hP h1
  |rest e t es m l i kb=>exact aI.mono (λ_ _ h=>h) hP h1
  |shed e t es m l=>exact aI.mono (λ_ _ h=>h) hP h1
  |srest e t es l i kb=>exact aI.mono (λ_ _ h=>h) hP h1
theorem P5{f:AV S.τ->AV S.τ}:∀{env:List (Nat×AV S.τ)} {t:Nat} {x:AV S.τ},look (env.map λx=>(x.1,f x.2)) t=some x->∃y,look env t=some y/\x=f y
 |[],t,x,h=>by cases h
 |(d,y)::r,t,x,h=>by
  simp only[List.map_cons,look] at h
  simp only[look]
  split at h
  ·exact⟨y,rfl,(someI' h).symm⟩
  ·exact P5 h
theorem SY{R:List Nat}{w:World}{As:List Asn}{A:Asn}{k:Nat}{t:Ty}{l:List (Dn S.τ t)}{g:Gh}(hst:St R w (A::As) Ps)(hg:ρ k=some g)(hn:g.n=l.length)(hRS:Bx (R++fps As) w (RSg (S.GT t) g.a g.c l)):
  ∃p,St R w As (p::Ps)/\∀v,aU S ρ Ps (.own k) v->aU S ρ (p::Ps) (.d (.sl t) l) v:=by
 have hst2:St R w As (RSg (S.GT t) g.a g.c l::Ps):=hst.tail.addPs (ps:=[RSg (S.GT t) g.a g.c l]) λp hp=>by rw[List.mem_singleton] at hp;subst hp;exact hRS
 refine⟨_,hst2,λv ⟨g',hg',hv⟩=> ?_⟩
 rw[hg] at hg'
 obtain rfl:=someI' hg'
 exact⟨g.a,g.c,by rw[hv,hn],.inr (List.mem_cons_self ..)⟩
theorem Wi(ok:bB S){R:List Nat}{w:World}{As:List Asn}{A:Asn}{k:Nat}{x:Item S.τ}{t:Ty}{l:List (Dn S.τ t)}(hx:rowOf x=some ⟨t,l⟩)(hst:St R w (A::As) Ps)(hA:aI S ρ Ps P (k,x) A):
  ∃p,St R w As (p::Ps)/\∀v,aU S ρ Ps (.own k) v->aU S ρ (p::Ps) (.d (.sl t) l) v:=by
 have hF:∀p∈Ps,Bx (R++fps As) w p:=λp hp=>(hst.per p hp).weak λx hx=> .inl (by
  rw[cD];simp only[List.mem_append] at hx|-
  rcases hx with hx|hx
  ·exact .inl hx
  ·exact .inr (.inr hx))
 cases x with
 |row e t' l'=>
  have hx:=someI' hx
  cases hx
  obtain⟨g,cs,hg,rfl,hn,hmem⟩:=kU hA
  refine SY hst hg hn λw' hk'=> ?_
  obtain⟨h4,h5,h6⟩:=kX (hst.own_bx w' hk')
  exact(hF _ hmem w' hk').rs h4 (by omega) λhne=>h6 λe=>hne (List.eq_nil_of_length_eq_zero (by omega))
 |deep e t' es m l'=>
  have hx:=someI' hx
  cases hx
  obtain⟨g,hg,hn,hb⟩:=Sx ok hF hA hst.own_bx
  exact SY hst hg hn hb
 |box _=>cases hx
 |map _ _ _ _ _=>cases hx
 |cmap _ _ _ _=>cases hx
 |lmap _ _ _=>cases hx
 |dmap _ _ _ _ _=>cases hx
 |opq _ _ _ _ _=>cases hx
 |gst=>cases hx
 |mit _ _ _ _ _ _ _ _=>cases hx
 |rest _ _ _ _ _ _ _=>cases hx
 |shed _ _ _ _ _=>cases hx
 |srest _ _ _ _ _ _=>cases hx
theorem P6(ok:bB S){k:Nat}(h:eE P S C n s a w):eE P S C n (freeze k s) a w:=by
 unfold freeze
 split
 ·rename_i t l hk
  obtain⟨ρ,As,Ps,h⟩:=h
  obtain⟨x,hk1,hk2⟩:∃x,bP s.its k=some x/\rowOf x=some ⟨t,l⟩:=by
   cases hx:bP s.its k with
   |none=>rw[hx] at hk;cases hk
   |some x=>rw[hx] at hk;exact⟨x,rfl,hk⟩
  obtain⟨As1,hp1,h1⟩:=aH.perm (zS hk1) h.its
  obtain⟨A,As',rfl,hA,hr⟩:=aH.cons_left h1
  obtain⟨p,hst2,hy⟩:=Wi ok hk2 (h.st.perm hp1) hA
  have hP:∀q∈Ps,q∈p::Ps:=λq hq=>List.mem_cons_of_mem _ hq
  refine⟨ρ,As',p::Ps,hst2,h.keep,λb hb=>h.old b ((fT hp1).mem_iff.2 (by rw[cD];exact List.mem_append_right _ hb)),h.size,h.dfr,λq x hx=> ?_,JL hP hy hr,h.dom,h.org⟩
  obtain⟨y,h3,rfl⟩:=P5 hx
  exact Mo hP hy (h.env q y h3)
 ·exact h
theorem uT(ok:bB S):∀{ks:List Nat} {s:ASt S.τ},eE P S C n s a w->eE P S C n (pP ks s) a w
 |[],s,h=>h
 |k::ks,s,h=>show eE P S C n (pP ks (freeze k s)) a w from uT ok (P6 ok h)
end
section
variable {R : Type}
def aa1(W:Wk)(ev:Ev W.S.τ)(o:Op):Option (AV W.S.τ):=match W.cut with
 |true=>Xv W.P W.S W.ty ev o
 |false=>none
def aa2{τ:Nat->Type}(ev:Ev τ):Op->Bool
 | .binOp .add _ x _ _=>match abi (ev x) with
  |some _=>true
  |none=>false
 |_=>false
def GX(W:Wk)(ev:Ev W.S.τ)(it:Nat->Option (Item W.S.τ))(nx:Nat)(t:TypeId)(o:Op)(k:Out W.S.τ->Option R):Option R:=match Y1 W.P W.S t with
 |some _=>Sn W.P W.S ev it nx o k
 |none=>match Yb W.P t with
  |some _=>RK W.P W.S ev it nx o k
  |none=>So W.P W.S W.ty ev it nx o k
theorem uU{W:Wk}(ok:bB W.S){o:Oper}{ev:Ev W.S.τ}{it:Nat->Option (Item W.S.τ)}{nx:Nat}{t:TypeId}{k:Out W.S.τ->Option R}{r:R}(h:GX W ev it nx t o.op k=some r):∃out,k out=some r/\bM W.P W.S o ev it nx out:=by
 unfold GX at h
 split at h
 ·exact OI h
 ·split at h
  ·exact N6 h
  ·exact OJ ok h
def P7(W:Wk)(n:Nat)(o:Oper)(ev:Ev W.S.τ)(it:Nat->Option (Item W.S.τ))(nx:Nat)(k:Out W.S.τ->Option R):Option R:=
 match o.op with
 | .move x=>match pN W.P ev (.move x) with
  |some v=>k ⟨v,[],[],[],0⟩
  |none=>none
 | .assign x=>match pN W.P ev (.assign x) with
  |some v=>k ⟨v,[],[],[],0⟩
  |none=>none
 | .nilCheck x=>match pN W.P ev (.nilCheck x) with
  |some v=>k ⟨v,[],[],[],0⟩
  |none=>none
 | .pick c x y=>match pN W.P ev (.pick c x y) with
  |some v=>k ⟨v,[],[],[],0⟩
  |none=>none
 | .extract x i=>match pN W.P ev (.extract x i) with
  |some v=>k ⟨v,[],[],[],0⟩
  |none=>none
 | .makeFunc f x c=>match pN W.P ev (.makeFunc f x c) with
  |some v=>k ⟨v,[],[],[],0⟩
  |none=>none
 | .fieldAddr t x f=>match aa1 W ev (.fieldAddr t x f) with
  |some v=>k ⟨v,[],[],[],0⟩
  |none=>match pN W.P ev (.fieldAddr t x f) with
   |some v=>k ⟨v,[],[],[],0⟩
   |none=>none
 | .build t ps=>match FS W.P ev (.build t ps) with
  |some v=>k ⟨v,[],[],[],0⟩
  |none=>none
 | .field t x f=>match FS W.P ev (.field t x f) with
  |some v=>k ⟨v,[],[],[],0⟩
  |none=>none
 | .binOp b t x y yt=>match Rr (.binOp b t x y yt) with
  |true=>match aa2 ev (.binOp b t x y yt) with
   |true=>Q6 W.P W.S ev it (.binOp b t x y yt) k
   |false=>match AO W.P ev o with
    |some v=>k ⟨v,[],[],[],0⟩
    |none=>match V4 W.P W.S ev it (.binOp b t x y yt) with
     |some (v,us)=>k ⟨v,[],[],us,0⟩
     |none=>match KF W.P ev (.binOp b t x y yt) with
      |some v=>k ⟨v,[],[],[],0⟩
      |none=>match Xx W.P ev (.binOp b t x y yt) with
       |some v=>k ⟨v,[],[],[],0⟩
       |none=>none
  |false=>match Rs ev (.binOp b t x y yt) with
   |some (q,z)=>z.bind λz=>k ⟨Pe q z,[],[],[],0⟩
   |none=>none
 | .unOp _ _ _=>match AO W.P ev o with
  |some v=>k ⟨v,[],[],[],0⟩
  |none=>none
 | .convert t u x=>match UY (ev x) with
  |true=>Q6 W.P W.S ev it (.convert t u x) k
  |false=>match AO W.P ev o with
   |some v=>k ⟨v,[],[],[],0⟩
   |none=>none
 | .index t x i=>Q6 W.P W.S ev it (.index t x i) k
 | .load t x=>RD W.P W.S ev it t x k
 | .store t x v=>M9 W.P W.S ev it t x v k
 | .indexAddr t x i=>match aby (ev x) with
  |true=>KA W.P W.S ev it t x i k
  |false=>NY W.P W.S ev it t x i k
 | .slice t x lo hi none=>match UY (ev x) with
  |true=>match hi with
   |none=>KC W.P W.S ev it t x lo k
   |some y=>Iy W.P W.S ev it nx t x lo (some y) k
  |false=>NZ W.P W.S W.ty ev t x lo hi k
 | .slice t x none (some hi) (some mx)=>Jr W.P W.S ev t x hi mx k
 | .alloc t=>match Ic W.P W.S ev nx (.alloc t) with
  |some xs=>k ⟨.v (.one (.box nx 0)),[],[(nx,.box xs)],[],1⟩
  |none=>none
 | .box t x=>match Ic W.P W.S ev nx (.box t x) with
  |some xs=>k ⟨.v (.one (.box nx 0)),[],[(nx,.box xs)],[],1⟩
  |none=>none
 | .buildSlice t m ps=>match IL W.P W.S W.D W.ty ev (.buildSlice t m ps) with
  |some (e,es,⟨t,y⟩)=>k ⟨.v (.one (.own nx)),[],[(nx,.deep e t es none [y])],[],1⟩
  |none=>match Iw W.P W.S W.ty ev (.buildSlice t m ps) with
   |some (e,⟨t,l⟩)=>k ⟨.v (.one (.own nx)),[],[(nx,.row e t l)],[],1⟩
   |none=>none
 | .makeSlice t a c=>Xs W.P W.S W.ty ev nx t a c k
 | .makeMap t r=>match tL W.P t with
  |some _=>L6 W.P W.S ev it nx (.makeMap t r) k
  |none=>GX W ev it nx t (.makeMap t r) k
 | .lookup t m x ok=>match tL W.P t with
  |some _=>L6 W.P W.S ev it nx (.lookup t m x ok) k
  |none=>GX W ev it nx t (.lookup t m x ok) k
 | .mapUpdate t m x v=>match tL W.P t with
  |some _=>L6 W.P W.S ev it nx (.mapUpdate t m x v) k
  |none=>GX W ev it nx t (.mapUpdate t m x v) k
 | .insert t m x v=>match tL W.P t with
  |some _=>L6 W.P W.S ev it nx (.insert t m x v) k
  |none=>GX W ev it nx t (.insert t m x v) k
 | .call c=>match c.callee with
  | .value _=>match Vb W.A ev c with
   |some (x,y)=>k ⟨.tup [.one (.d (.int .u64) (Nf x y)),.one (.d (.int .u64) (Ng x y))],[],[],[],0⟩
   |none=>IG W.S W.Γ ev it nx n c k
  | .builtin .append=>match OU (.call c) with
   |some (t,s,x)=>UX W.P W.S W.ty ev it nx t s x k
   |none=>none
  | .builtin .len=>match V0 W.P W.S ev it (.call c) with
   |some (z,us)=>k ⟨Pe .i64 z,[],[],us,0⟩
   |none=>match RF W.P W.S ev it (.call c) with
    |some (z,us)=>k ⟨Pe .i64 z,[],[],us,0⟩
    |none=>match Sj W.P W.S ev it (.call c) with
     |some (z,us)=>k ⟨Pe .i64 z,[],[],us,0⟩
     |none=>match AO W.P ev o with
      |some v=>k ⟨v,[],[],[],0⟩
      |none=>none
  | .builtin .clear=>Sk W.P W.S ev it (.call c) k
  | .builtin .delete=>V2 W.P W.S ev it (.call c) k
  | .builtin .max=>match AO W.P ev o with
   |some v=>k ⟨v,[],[],[],0⟩
   |none=>none
  | .builtin .min=>match AO W.P ev o with
   |some v=>k ⟨v,[],[],[],0⟩
   |none=>none
  |_=>none
 | .range t x=>N2 W.P W.S ev it nx (.range t x) k
 | .entry x=>N3 W.P W.S ev it (.entry x) k
 |_=>none
theorem Cu{W:Wk}(hW:JJ W){n:Nat}{o:Oper}{ev:Ev W.S.τ}{it:Nat->Option (Item W.S.τ)}{nx:Nat}{k:Out W.S.τ->Option R}{r:R}(h:P7 W n o ev it nx k=some r):∃out,k out=some r/\bM W.P W.S o ev it nx out:=by
 have mv:∀op,o.op=op->(match pN W.P ev op with|some v=>k ⟨v,[],[],[],0⟩|none=>none)=some r->∃out,k out=some r/\bM W.P W.S o ev it nx out:=λop ho h=>by
  split at h
  ·rename_i v hv;exact⟨_,h,N4 (by rw[ho];exact hv)⟩
  ·cases h
 have bd:∀op,o.op=op->(match FS W.P ev op with|some v=>k ⟨v,[],[],[],0⟩|none=>none)=some r->∃out,k out=some r/\bM W.P W.S o ev it nx out:=λop ho h=>by
  split at h
  ·rename_i v hv;exact⟨_,h,K9 (by rw[ho];exact hv)⟩
  ·cases h
 have sc:(match AO W.P ev o with|some v=>k ⟨v,[],[],[],0⟩|none=>none)=some r->∃out,k out=some r/\bM W.P W.S o ev it nx out:=λh=>by
  split at h
  ·rename_i v hv;exact⟨_,h,FJ hv⟩
  ·cases h
 unfold P7 at h
 split at h
 ·rename_i x ho;exact mv _ ho h
 ·rename_i x ho;exact mv _ ho h
 ·rename_i x ho;exact mv _ ho h
 ·rename_i ho;exact mv _ ho h
 ·rename_i ho;exact mv _ ho h
 ·rename_i ho;exact mv _ ho h
 ·rename_i ho
  split at h
  ·rename_i v hv
   unfold aa1 at hv
   split at hv
   ·exact⟨_,h,Q5 hW.ok (by rw[ho];exact hv)⟩
   ·cases hv
  ·exact mv _ ho h
 ·rename_i ho;exact bd _ ho h
 ·rename_i ho;exact bd _ ho h
 ·rename_i ho
  split at h
  ·split at h
   ·exact CJ (by rw[ho];exact h)
   ·split at h
    ·rename_i v hv;exact⟨_,h,FJ hv⟩
    ·split at h
     ·rename_i v us hv;exact⟨_,h,PN (by rw[ho];exact hv)⟩
     ·split at h
      ·rename_i v hv;exact⟨_,h,KG (by rw[ho];exact hv)⟩
      ·split at h
       ·rename_i v hv;exact⟨_,h,Q7 (by rw[ho];exact hv)⟩
       ·cases h
  ·split at h
   ·rename_i q z hz
    obtain⟨z',rfl,h⟩:=oO h
    exact⟨_,h,NI (by rw[ho];exact hz)⟩
   ·cases h
 ·exact sc h
 ·rename_i ho
  split at h
  ·exact CJ (by rw[ho];exact h)
  ·exact sc h
 ·rename_i ho;exact CJ (by rw[ho];exact h)
 ·rename_i ho;exact NX hW.ok ho h
 ·rename_i ho;exact KH hW.ok ho h
 ·rename_i ho
  split at h
  ·exact KB hW.ok ho h
  ·exact K5 hW.ok ho h
 ·rename_i ho
  split at h
  ·split at h
   ·exact KD hW.ok ho h
   ·exact Iz hW.ok ho h
  ·exact K6 hW.ok ho h
 ·rename_i ho;exact Js hW.ok ho h
 ·rename_i ho
  split at h
  ·rename_i xs hx;exact⟨_,h,DA (by rw[ho];exact hx)⟩
  ·cases h
 ·rename_i ho
  split at h
  ·rename_i xs hx;exact⟨_,h,DA (by rw[ho];exact hx)⟩
  ·cases h
 ·rename_i ho
  split at h
  ·rename_i e es t y hx;exact⟨_,h,IM hW.ok (by rw[ho];exact hx)⟩
  ·split at h
   ·rename_i e t l hx;exact⟨_,h,Ix hW.ok (by rw[ho];exact hx)⟩
   ·cases h
 ·rename_i ho;exact Q3 hW.ok ho h
 ·rename_i ho
  split at h
  ·exact xM (by rw[ho];exact h)
  ·exact uU hW.ok (by rw[ho];exact h)
 ·rename_i ho
  split at h
  ·exact xM (by rw[ho];exact h)
  ·exact uU hW.ok (by rw[ho];exact h)
 ·rename_i ho
  split at h
  ·exact xM (by rw[ho];exact h)
  ·exact uU hW.ok (by rw[ho];exact h)
 ·rename_i ho
  split at h
  ·exact xM (by rw[ho];exact h)
  ·exact uU hW.ok (by rw[ho];exact h)
 ·rename_i c ho
  split at h
  ·split at h
   ·rename_i x y hx;exact⟨_,h,OQ hW.A ho hx⟩
   ·exact E9 hW.ok hW.Γ ho h
  ·split at h
   ·rename_i t s x hx;exact OM hW.ok (by rw[ho];exact hx) h
   ·cases h
  ·split at h
   ·rename_i z us hz;exact⟨_,h,PE (by rw[ho];exact hz)⟩
   ·split at h
    ·rename_i z us hz;exact⟨_,h,N1 (by rw[ho];exact hz)⟩
    ·split at h
     ·rename_i z us hz;exact⟨_,h,OE (by rw[ho];exact hz)⟩
     ·exact sc h
  ·exact OG hW.ok (by rw[ho];exact h)
  ·exact PG (by rw[ho];exact h)
  ·exact sc h
  ·exact sc h
  ·cases h
 ·rename_i ho;exact K7 (by rw[ho];exact h)
 ·rename_i ho;exact K8 (by rw[ho];exact h)
 ·cases h
section
variable {τ : Nat -> Type}
def aa3:Lf τ->List Nat
 | .own k=>[k]
 |_=>[]
def SZ:List (Lf τ)->List Nat
 |[]=>[]
 |x::r=>aa3 x++SZ r
def abr:A1 τ->List Nat
 | .one x=>aa3 x
 | .agg xs=>SZ xs
def Yl(ev:Ev τ)(x:Operand):List Nat:=match ev x with
 |some (.v y)=>abr y
 |_=>[]
def Zj(ev:Ev τ):List (Nat×Operand)->List Nat
 |[]=>[]
 |(_,x)::r=>Yl ev x++Zj ev r
def aa4:PL->Lf τ->List Nat
 | .d _,.own k=>[k]
 |_,_=>[]
def Wj:List PL->List (Lf τ)->List Nat
 |p::ps,l::ls=>aa4 p l++Wj ps ls
 |_,_=>[]
def abt:PV->A1 τ->List Nat
 | .one p,.one l=>aa4 p l
 | .agg ps,.agg ls=>Wj ps ls
 | .st _,.agg ls=>SZ ls
 |_,_=>[]
def P8:List PV->List (A1 τ)->List Nat
 |p::ps,l::ls=>abt p l++P8 ps ls
 |_,_=>[]
end
def aae(S:Tab)(g:Nat)(as:List (A1 S.τ)):List (Ct S)->List Nat
 |[]=>[]
 |c::r=>match Nat.beq c.g g with
  |true=>match c.rv.all (PV.flatR S),(c.ri.map (·.2)).all (PI.flatR S) with
   |true,true=>[]
   |_,_=>P8 c.av as
  |false=>aae S g as r
def Wl(W:Wk)(ev:Ev W.S.τ):Op->List Nat
 | .slice _ x lo hi mx=>match W.cut,lo,hi,mx with
  |true,none,some _,none=>[]
  |true,some _,none,none=>[]
  |_,_,_,_=>Yl ev x
 | .buildSlice _ _ ps=>Zj ev ps.toList
 | .call c=>match c.callee with
  | .value f=>match ev f,a1s ev c.args.toList with
   |some (.v (.one (.fn g cs))),some as=>aae W.S g (as++Hl cs) W.Γ
   |some (.v (.one (.bfn g cs))),some as=>aae W.S g (Hl cs++as) W.Γ
   |_,_=>[]
  |_=>[]
 | .store _ x v=>match ev x with
  |some (.v (.one (.el _ _ _ _)))=>Yl ev v
  |_=>[]
 |_=>[]
def P9{S:Tab}(it:Nat->Option (Item S.τ)):List Nat->Ev S.τ->Ev S.τ
 |[],ev=>ev
 |k::ks,ev=>match RR (it k) with
  |some ⟨t,l⟩=>P9 it ks λx=>(ev x).map (SX k (.d (.sl t) l))
  |_=>P9 it ks ev
def RT(W:Wk)(n:Nat)(o:Oper)(ev:Ev W.S.τ)(it:Nat->Option (Item W.S.τ))(nx:Nat)(k:Out W.S.τ->Option R):Option R:=match ddN (Wl W ev o.op) with
 |[]=>P7 W n o ev it nx k
 |ks=>P7 W n o (P9 it ks ev) it nx λout=>k ⟨out.v,ks++out.take,out.put,out.use,out.nn⟩
theorem Qa{S:Tab}(ok:bB S){P:Program}{o:Oper}{ev ev1:Ev S.τ}{it:Nat->Option (Item S.τ)}{nx k:Nat}{out:Out S.τ}
  (he:∀x y,ev1 x=some y->∃z,ev x=some z/\(y=z\/∃t l,RR (it k)=some ⟨t,l⟩/\y=SX k (.d (.sl t) l) z)) (h:bM P S o ev1 it nx out):bM P S o ev it nx ⟨out.v,k::out.take,out.put,out.use,out.nn⟩:=by
 intro a w R ρ Ps At Au tk us hd hev htk hus hit hAt hAu hst hn K Q hK
 match tk,htk,hAt,hit with
 |[],htk,_,_=>cases htk
 |(k',x)::tk,htk0,hAt,hit=>
  simp only[List.map_cons,List.cons.injEq] at htk0
  obtain⟨hk0,htk1⟩:=htk0
  subst hk0
  obtain⟨A,At',rfl,hA,hAt⟩:=aH.cons_left hAt
  have hx:it k'=some x:=hit (k',x) (by simp)
  have hlow:∃ps,St R w (At'++Au) (ps++Ps)/\∀t l,rowOf x=some ⟨t,l⟩->∀v,aU S ρ Ps (.own k') v->aU S ρ (ps++Ps) (.d (.sl t) l) v:=by
   cases hr:rowOf x with
   |none=>exact⟨[],hst.tail,λt l he=>by cases he⟩
   |some q=>
    obtain⟨t,l⟩:=q
    obtain⟨p,h1,h2⟩:=Wi (As:=At'++Au) ok hr hst hA
    exact⟨[p],h1,λt' l' he'=>by cases he';exact h2⟩
  obtain⟨ps,h1,h2⟩:=hlow
  have hP:∀p∈Ps,p∈ps++Ps:=λp hp=>List.mem_append_right _ hp
  refine h a w R ρ (ps++Ps) At' Au tk us hd (λy z hy=> ?_) htk1 hus (λz hz=>hit z (by simp at hz|-;exact .inr hz)) (hAt.mono λ_ _ h=>aI.mono (λ_ _ h=>h) hP h) (hAu.mono λ_ _ h=>aI.mono (λ_ _ h=>h) hP h) h1 hn K Q λv w' ρ' Ps' Ap k1 k2 k3 k4 k5 k6 k7=> ?_
  ·obtain⟨u,h3,h4⟩:=he y z hy
   have h5:=hev y u h3
   rcases h4 with rfl|⟨t,l,h4,rfl⟩
   ·exact cM.mono (λ_ _ h=>h) hP h5
   ·rw[hx] at h4
    exact Mo hP (h2 t l h4) h5
  ·have hsub:∀b∈fps At',b∈fps (A::At'):=λb hb=>by rw[cD];exact List.mem_append_right _ hb
   exact hK v w' ρ' Ps' Ap k1 (λp hp=>k2 p (hP p hp)) k3 k4 k5 ⟨k6.os,k6.tape,k6.output,k6.drawn,k6.size,λj hj hnj=>k6.block j hj λhm=>hnj (hsub j hm)⟩ λb hb=>(k7 b hb).imp (hsub b) id
theorem GY{S:Tab}(ok:bB S){P:Program}{o:Oper}{it:Nat->Option (Item S.τ)}{nx:Nat}:∀{ks:List Nat} {ev:Ev S.τ} {out:Out S.τ},bM P S o (P9 it ks ev) it nx out->bM P S o ev it nx ⟨out.v,ks++out.take,out.put,out.use,out.nn⟩
 |[],ev,out,h=>h
 |k::ks,ev,out,h=>by
  unfold P9 at h
  split at h
  ·rename_i t l hk
   refine Qa ok (out:=⟨out.v,ks++out.take,out.put,out.use,out.nn⟩) (λx y hy=> ?_) (GY ok h)
   obtain⟨z,h1,h2⟩:=Option.map_eq_some_iff.1 hy
   exact⟨z,h1,.inr ⟨t,l,hk,h2.symm⟩⟩
  ·exact Qa ok (out:=⟨out.v,ks++out.take,out.put,out.use,out.nn⟩) (λx y hy=>⟨y,hy,.inl rfl⟩) (GY ok h)
theorem Oc{W:Wk}(hW:JJ W){n:Nat}{o:Oper}{ev:Ev W.S.τ}{it:Nat->Option (Item W.S.τ)}{nx:Nat}{k:Out W.S.τ->Option R}{r:R}(h:RT W n o ev it nx k=some r):∃out,k out=some r/\bM W.P W.S o ev it nx out:=by
 unfold RT at h
 split at h
 ·exact Cu hW h
 ·obtain⟨out,h1,h2⟩:=Cu hW h
  exact⟨_,h1,GY hW.ok h2⟩
def Ym(ro:Option Nat)(ks:List Nat):Bool:=match ro with
 |none=>true
 |some m=>ks.all λk=>Nat.ble m k
def dOk(n:Nat):Option Nat->Bool
 |some d=>Nat.blt d n
 |none=>true
def after{τ:Nat->Type}(s:ASt τ)(d:Option Nat)(out:Out τ):ASt τ:=⟨s.nx+out.nn,GW s.env d out.v,out.put++erN out.take s.its,s.org⟩
def ahead(W:Wk)(ro:Option Nat)(o:Oper)(s:ASt W.S.τ):ASt W.S.τ:=match ro with
 |none=>pP (Wl W (evO s.env) o.op) s
 |some _=>s
noncomputable def Wm(W:Wk)(N n:Nat)(ro:Option Nat)(o:Oper)(s:ASt W.S.τ)(k:ASt W.S.τ->Option R):Option R:=
 match ZX o.op with
 |true=>match RG W.S (evO s.env) (bP s.its) o.op with
  |some (i,j,q,kt,et,m,l)=>match aaZ W.P q kt et,ndN [i,j],Ym ro [i,j],dOk N o.dst,gB (bP s.its) [i,j] with
   |true,true,true,true,some _=>V1 l (k (after s o.dst ⟨.tup [.one (.lit false)],[i,j],[(j,.map q kt et .bool m)],[],0⟩)) λx l'=>
     k (after s o.dst ⟨.tup [.one (.lit true),.one (.d (.int q) x),.one (.d .bool (kA false m x))],[i,j],[(i,.mit j q kt et .bool m l' (some x)),(j,.gst)],[],0⟩)
   |_,_,_,_,_=>none
  |none=>none
 |false=>match ahead W ro o s with
  |s=>P7 W n o (evO s.env) (bP s.its) s.nx λout=>match ndN (out.take++out.use),Ym ro out.take,dOk N o.dst,gB (bP s.its) (out.take++out.use) with
   |true,true,true,some _=>k (after s o.dst out)
   |_,_,_,_=>none
def Fr{τ:Nat->Type}(ro:Option Nat)(ds:List Nat)(s s':ASt τ):Prop:=match ro with
 |none=>True
 |some m=>s'.org=s.org/\(∀t,t∉ds->look s'.env t=look s.env t)/\∀base:List (Nat×Item τ),(∀x∈base,x.1<m)->(∃X,s.its.Perm (X++base))->∃X,s'.its.Perm (X++base)
theorem Fr.refl{τ:Nat->Type}(ro:Option Nat)(ds:List Nat)(s:ASt τ):Fr ro ds s s:=by
 cases ro with
 |none=>trivial
 |some m=>exact⟨rfl,λ_ _=>rfl,λ_ _ h=>h⟩
theorem Fr.trans{τ:Nat->Type}{ro:Option Nat}{ds ds' ds2:List Nat}{s s' s2:ASt τ}(h:Fr ro ds s s')(k:Fr ro ds' s' s2)(h1:∀d∈ds,d∈ds2)(h2:∀d∈ds',d∈ds2):Fr ro ds2 s s2:=by
 cases ro with
 |none=>trivial
 |some m=>exact⟨k.1.trans h.1,λt ht=>(k.2.1 t λhm=>ht (h2 t hm)).trans (h.2.1 t λhm=>ht (h1 t hm)),λbase hb hx=>k.2.2 base hb (h.2.2 base hb hx)⟩
theorem zW{τ:Nat->Type}{env:List (Nat×AV τ)}{d:Option Nat}{v:AV τ}{t:Nat}(h:t∉d.toList):look (GW env d v) t=look env t:=by
 cases d with
 |none=>rfl
 |some d=>
  simp only[GW,look]
  have:Nat.beq d t=false:=by
   cases hb:Nat.beq d t with
   |false=>rfl
   |true=>exact absurd (by simp[Nat.eq_of_beq_eq_true hb]) h
  rw[this]
theorem Wn{S:Tab}{k:Nat}:∀{its base X:List (Nat×Item S.τ)},its.Perm (X++base)->(∀x∈base,x.1≠k)->∃X',(er1 k its).Perm (X'++base):=by
 intro its base X hp hb
 cases hk:bP its k with
 |none=>
  have:er1 k its=its:=by
   clear hp
   induction its with
   |nil=>rfl
   |cons x r ih=>
    obtain⟨j,y⟩:=x
    simp only[bP] at hk
    simp only[er1]
    split at hk
    ·cases hk
    ·rename_i hb;rw[ih hk]
  rw[this];exact⟨X,hp⟩
 |some x=>
  have h1:=(zS hk).symm.trans hp
  have hm:(k,x)∈X:=by
   have:=h1.mem_iff.1 (List.mem_cons_self ..)
   rcases List.mem_append.1 this with h|h
   ·exact h
   ·exact absurd rfl (hb _ h)
  obtain⟨X1,X2,rfl⟩:=List.append_of_mem hm
  refine⟨X1++X2, ?_⟩
  have h2:(X1++(k,x)::X2++base).Perm ((k,x)::(X1++X2++base)):=by
   rw[List.append_assoc,List.append_assoc]
   exact List.perm_middle
  exact(h1.trans h2).cons_inv
theorem Qb{S:Tab}:∀{ks:List Nat} {its base X:List (Nat×Item S.τ)},its.Perm (X++base)->(∀x∈base,x.1∉ks)->∃X',(erN ks its).Perm (X'++base)
 |[],its,base,X,hp,_=>⟨X,hp⟩
 |k::ks,its,base,X,hp,hb=>by
  obtain⟨X1,h1⟩:=Wn (k:=k) hp λx hx e=>hb x hx (by simp[e])
  exact show ∃X',(erN ks (er1 k its)).Perm (X'++base) from Qb h1 λx hx hm=>hb x hx (List.mem_cons_of_mem _ hm)
theorem RU{W:Wk}(hW:JJ W){C:Cy}{N:Nat}{ro:Option Nat}{o:Oper}{s:ASt W.S.τ}{a:Act}{w:World}(h:eE W.P W.S C N s a w):eE W.P W.S C N (ahead W ro o s) a w:=by
 cases ro with
 |none=>exact uT hW.ok h
 |some m=>exact h
theorem Qc{W:Wk}{ro:Option Nat}{o:Oper}{s:ASt W.S.τ}{out:Out W.S.τ}(hro:Ym ro out.take=true):Fr ro o.dst.toList s (after (ahead W ro o s) o.dst out):=by
 cases ro with
 |none=>trivial
 |some m=>
  refine⟨rfl,λt ht=>zW ht,λbase hb ⟨X,hp⟩=> ?_⟩
  obtain⟨X',h1⟩:=Qb (ks:=out.take) hp λx hx hm=>by
   have:=List.all_eq_true.1 hro _ hm
   have:=Nat.le_of_ble_eq_true this
   have:=hb x hx
   omega
  exact⟨out.put++X',by rw[List.append_assoc];exact h1.append_left _⟩
theorem Mq{P:Program}{S:Tab}{C:Cy}{o:Oper}{ev:Ev S.τ}{it:Nat->Option (Item S.τ)}{nx:Nat}{take use:List Nat}{nn:Nat}{O:AV S.τ->List (Nat×Item S.τ)->Prop}{a:Act}{w:World}{ρ:Rho}{As:List Asn}{Ps:List (World->Prop)}{its:List (Nat×Item S.τ)}(hS:Ii P S o ev it nx take use nn O)(hev:jV S ρ Ps ev a)(hst0:St C.R w As Ps)(hkeep0:bD C.F C.w0 w)(hold0:∀b∈fps As,b∈C.F\/C.w0.heap.size<=b)(hdf:a.defers=[])
  (hits0:aH (aI S ρ Ps P) its As) (hnd:ndN (take++use)=true) {xs:List (Item S.τ)} (hi:gB (bP its) (take++use)=some xs) (hag:∀k x,k∈take++use->bP its k=some x->it k=some x) (hfr:∀k,nx<=k->k<nx+nn->ρ k=none)
  {K:Act->World->Prop} {Q:Exit->Act->World->Prop} (hK:∀vv put v w' ρ' As' Ps',O vv put->wV ρ ρ' nx nn->(∀p∈Ps,p∈Ps')->cM S ρ' Ps' vv v->aH (aI S ρ' Ps' P) (put++erN take its) As'->St C.R w' As' Ps'->bD C.F C.w0 w'->(∀b∈fps As',b∈C.F\/C.w0.heap.size<=b)->K (a.put o.dst v) w'):wpX P o a w K Q:=by
 have hnd':=uS hnd
 obtain⟨ys,zs,hi1,hi2⟩:=Ml hi
 obtain⟨hn1,hn2,hn3⟩:=List.nodup_append.1 hnd'
 obtain⟨tk,e1,e2,e3⟩:=zU hn1 hi1
 have hi3:gB (bP (erN take its)) use=some zs:=by rw[Mj λj hj k hk=>hn3 j hj k hk];exact hi2
 obtain⟨us,g1,g2,g3⟩:=zU hn2 hi3
 obtain⟨As1,hp1,h1⟩:=aH.perm (e3.trans (g3.append_left tk)) hits0
 obtain⟨At,As2,rfl,hAt,h2⟩:=aH.split h1
 obtain⟨Au,Ar,rfl,hAu,hAr⟩:=aH.split h2
 have hst:=hst0.perm hp1
 have hst':St C.R w ((At++Au)++([]++Ar)) Ps:=by rw[List.nil_append,List.append_assoc];exact hst
 have hin:∀x∈C.R++fps Ar++fps (At++Au),x∈C.R++fps (At++(Au++Ar)):=λx hx=>by
  simp only[bA,List.mem_append] at hx|-
  rcases hx with(hx|hx)|hx|hx
  ·exact .inl hx
  ·exact .inr (.inr (.inr hx))
  ·exact .inr (.inl hx)
  ·exact .inr (.inr (.inl hx))
 have hlend:=St.lend (Ag:=At++Au) (Al:=[]) (Ar:=Ar) hst' λp hp=>(hst.per p hp).weak λx hx=> .inl (hin x hx)
 refine hS a w (C.R++fps Ar) ρ Ps At Au tk us hdf hev e1 g1 (λx hx=> ?_) hAt hAu hlend hfr K Q λvv put v w' ρ' Ps' Ap hO hg hP hv hput hst2 hk hb=> ?_
 ·refine hag x.1 x.2 ?_ ?_
  ·rcases List.mem_append.1 hx with hx|hx
   ·exact List.mem_append_left _ (by rw[<-e1];exact List.mem_map_of_mem hx)
   ·exact List.mem_append_right _ (by rw[<-g1];exact List.mem_map_of_mem hx)
  ·rcases List.mem_append.1 hx with hx|hx
   ·exact e2 x hx
   ·have:=g2 x hx
    rwa[zV λhm=>hn3 _ hm _ (by rw[<-g1];exact List.mem_map_of_mem hx) rfl] at this
 ·have hkeep:bD (fps (At++Au)) w w':=hk.weak λx hx=>by rw[bA];exact List.mem_append_left _ hx
  obtain⟨_,hst3⟩:=St.back (Ag:=At++Au) (Al:=[]) (Ar:=Ar) (A':=Ap++Au) hst' hst2 hkeep λb hb'=>by
   simp only[bA,List.mem_append] at hb'|-
   rcases hb' with hb'|hb'
   ·exact(hb b hb').imp .inl id
   ·exact .inl (.inr hb')
  have hst4:=hst3 rfl
  rw[List.nil_append,List.append_assoc] at hst4
  have hmono:∀p∈Ps,p∈Ps'++Ps:=λp hp=>List.mem_append_right _ hp
  have hmono':∀p∈Ps',p∈Ps'++Ps:=λp hp=>List.mem_append_left _ hp
  have hits:aH (aI S ρ' (Ps'++Ps) P) (put++(us++erN use (erN take its))) (Ap++(Au++Ar)):=by
   refine(hput.mono λ_ _ h=>aI.mono (λ_ _ h=>h) hmono' h).app ?_
   refine(hAu.mono λ_ _ h=>aI.mono hg.keep hmono h).app ?_
   exact hAr.mono λ_ _ h=>aI.mono hg.keep hmono h
  obtain⟨As3,hp3,hits3⟩:=aH.perm (g3.symm.append_left put) hits
  refine hK vv put v w' ρ' As3 (Ps'++Ps) hO hg hmono (cM.mono (λ_ _ h=>h) hmono' hv) hits3 (hst4.perm hp3) ?_ λb hb'=> ?_
  ·refine hkeep0.step hkeep λx hx=>hold0 x ((fT hp1).mem_iff.2 ?_)
   simp only[bA,List.mem_append] at hx|-
   rcases hx with hx|hx
   ·exact .inl hx
   ·exact .inr (.inl hx)
  ·have:=(fT hp3).mem_iff.2 hb'
   simp only[bA,List.mem_append] at this
   have hold:∀b,b∈fps At\/b∈fps Au\/b∈fps Ar->b∈C.F\/C.w0.heap.size<=b:=λb hh=>hold0 b ((fT hp1).mem_iff.2 (by simp only[bA,List.mem_append];exact hh))
   rcases this with h1|h1
   ·rcases hb b h1 with h2|h2
    ·exact hold b (.inl h2)
    ·exact .inr (Nat.le_trans hkeep0.size h2)
   ·exact hold b (.inr h1)
theorem Qd{P:Program}{S:Tab}{C:Cy}{o:Oper}{ev:Ev S.τ}{it:Nat->Option (Item S.τ)}{nx:Nat}{out:Out S.τ}{a:Act}{w:World}{ρ:Rho}{As:List Asn}{Ps:List (World->Prop)}{its:List (Nat×Item S.τ)}(hS:bM P S o ev it nx out)(hev:jV S ρ Ps ev a)(hst0:St C.R w As Ps)(hkeep0:bD C.F C.w0 w)(hold0:∀b∈fps As,b∈C.F\/C.w0.heap.size<=b)(hdf:a.defers=[])
  (hits0:aH (aI S ρ Ps P) its As) (hnd:ndN (out.take++out.use)=true) {xs:List (Item S.τ)} (hi:gB (bP its) (out.take++out.use)=some xs) (hag:∀k x,k∈out.take++out.use->bP its k=some x->it k=some x) (hfr:∀k,nx<=k->k<nx+out.nn->ρ k=none)
  {K:Act->World->Prop} {Q:Exit->Act->World->Prop} (hK:∀v w' ρ' As' Ps',wV ρ ρ' nx out.nn->(∀p∈Ps,p∈Ps')->cM S ρ' Ps' out.v v->aH (aI S ρ' Ps' P) (out.put++erN out.take its) As'->St C.R w' As' Ps'->bD C.F C.w0 w'->(∀b∈fps As',b∈C.F\/C.w0.heap.size<=b)->K (a.put o.dst v) w'):wpX P o a w K Q:=
 Mq hS.toO hev hst0 hkeep0 hold0 hdf hits0 hnd hi hag hfr λvv put v w' ρ' As' Ps' hO hg hP hv hits=>by
  obtain⟨rfl,rfl⟩:=hO
  exact hK v w' ρ' As' Ps' hg hP hv hits
theorem Od{a:Act}{N d t:Nat}{v:Value}(hs:a.tmps.size=N)(hd:d<N):((a.put (some d) v).tmps).getD t undef=match Nat.beq d t with|true=>v|false=>a.tmps.getD t undef:=by
 cases hb:Nat.beq d t with
 |true=>
  obtain rfl:=Nat.eq_of_beq_eq_true hb
  have:d<a.tmps.size:=hs▸hd
  simp[Act.put,this]
 |false=>
  have hne:d≠t:=λe=>by rw[e,show Nat.beq t t=true from Nat.beq_eq▸rfl] at hb;cases hb
  simp[Act.put,hne]
theorem Mr{W:Wk}{C:Cy}{N:Nat}{o:Oper}{s:ASt W.S.τ}{take use:List Nat}{nn:Nat}{O:AV W.S.τ->List (Nat×Item W.S.τ)->Prop}{a:Act}{w:World}(hS:Ii W.P W.S o (evO s.env) (bP s.its) s.nx take use nn O)(h:eE W.P W.S C N s a w)(hnd:ndN (take++use)=true)(hd:dOk N o.dst=true){xs:List (Item W.S.τ)}(hi:gB (bP s.its) (take++use)=some xs)
  {K:Act->World->Prop} {Q:Exit->Act->World->Prop} (hK:∀vv put a' w',O vv put->eE W.P W.S C N (after s o.dst ⟨vv,take,put,use,nn⟩) a' w'->K a' w'):wpX W.P o a w K Q:=by
 obtain⟨ρ,As,Ps,h⟩:=h
 refine Mq hS (FH h.env) h.st h.keep h.old h.dfr h.its hnd hi (λk x _ hx=>hx) (λk h1 _=> ?_) λvv put v w' ρ' As' Ps' hO hg hP hv hits hst hkeep hold=>hK vv put _ _ hO ?_
 ·cases hr:ρ k with
  |none=>rfl
  |some g=>have:=h.dom k g hr;omega
 ·refine⟨ρ',As',Ps',hst,hkeep,hold, ?_, ?_,λt x hx=> ?_,hits,λk g hr=> ?_,λi k g h1 h2=>hg.keep _ _ (h.org i k g h1 h2)⟩
  ·cases hd:o.dst<;>simp[Act.put,h.size]
  ·cases hd:o.dst<;>simp[Act.put,h.dfr]
  ·replace hx:look (GW s.env o.dst vv) t=some x:=hx
   cases hdst:o.dst with
   |none=>
    rw[hdst] at hx
    exact cM.mono hg.keep hP (h.env t x hx)
   |some d=>
    rw[hdst] at hx hd
    rw[Od h.size (Nat.blt_eq▸hd)]
    simp only[GW,look] at hx
    split at hx
    ·rename_i hbq
     obtain rfl:=someI' hx
     rw[hbq];exact hv
    ·rename_i hbq
     rw[hbq];exact cM.mono hg.keep hP (h.env t x hx)
  ·rcases hg.new k g hr with h1|h1
   ·have:=h.dom k g h1
    show k<s.nx+nn
    omega
   ·exact h1.2
theorem Wo{W:Wk}{C:Cy}{N:Nat}{o:Oper}{s:ASt W.S.τ}{out:Out W.S.τ}{a:Act}{w:World}(hS:bM W.P W.S o (evO s.env) (bP s.its) s.nx out)(h:eE W.P W.S C N s a w)(hnd:ndN (out.take++out.use)=true)(hd:dOk N o.dst=true){xs:List (Item W.S.τ)}(hi:gB (bP s.its) (out.take++out.use)=some xs)
  {K:Act->World->Prop} {Q:Exit->Act->World->Prop} (hK:∀a' w',eE W.P W.S C N (after s o.dst out) a' w'->K a' w'):wpX W.P o a w K Q:=
 Mr hS.toO h hnd hd hi λvv put a' w' hO hh=>by
  obtain⟨rfl,rfl⟩:=hO
  exact hK a' w' hh
theorem Ms{W:Wk}{ro:Option Nat}{o:Oper}{s:ASt W.S.τ}{out:Out W.S.τ}(hro:Ym ro out.take=true):Fr ro o.dst.toList s (after s o.dst out):=by
 cases ro with
 |none=>trivial
 |some m=>exact Qc (W:=W) (ro:=some m) hro
theorem Qe{W:Wk}(hW:JJ W){C:Cy}{N n:Nat}{ro:Option Nat}{o:Oper}{s:ASt W.S.τ}{k:ASt W.S.τ->Option R}{r:R}{a:Act}{w:World}(h:Wm W N n ro o s k=some r)(hH:eE W.P W.S C N s a w){K:Act->World->Prop}{Q:Exit->Act->World->Prop}
  (hK:∀s' a' w',k s'=some r->Fr ro o.dst.toList s s'->eE W.P W.S C N s' a' w'->K a' w'):wpX W.P o a w K Q:=by
 unfold Wm at h
 split at h
 ·split at h
  ·rename_i i j q kt et m l hn
   split at h
   ·rename_i xs h1 h2 h3 h4 h5
    obtain⟨g1,g2⟩:=RE h
    refine Mr (RH hn h1) hH (by simpa using h2) h4 (by simpa using h5) λvv put a' w' hO hh=> ?_
    rcases hO with⟨hl,rfl,rfl⟩|⟨x,hx,rfl,rfl⟩
    ·exact hK _ a' w' (g1 hl) (Ms (W:=W) h3) hh
    ·exact hK _ a' w' (g2 x hx) (Ms (W:=W) h3) hh
   ·cases h
  ·cases h
 ·have hH1:=RU hW (ro:=ro) (o:=o) hH
  obtain⟨out,h,hS⟩:=Cu hW h
  split at h
  ·rename_i xs h1 h2 h3 h4
   exact Wo hS hH1 h1 h3 h4 λa' w' hh=>hK _ a' w' h (Qc h2) hh
  ·cases h
end
end Go.Bur
