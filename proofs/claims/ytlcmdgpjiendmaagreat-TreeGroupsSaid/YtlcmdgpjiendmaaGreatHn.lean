import Derived.Test.YtlcmdgpjiendmaaGreatTa
namespace Go.Bur
open Go.RowKit
set_option linter.unusedVariables false
set_option linter.unusedSimpArgs false
abbrev Raw(sz:Nat):Type:={l:List Value//l.length=sz/\∀v∈l,v.oneCell'=true}
@[reducible] def aB(sz:Nat):Flat (Raw sz) where
 sz:=sz
 enc x:=x.1
 len x:=x.2.1
 one x:=x.2.2
section
variable {α : Type} {G : GoT α} {w : World} {m : Nat}
theorem Vx(hm:G.sz=m){cs:List Value}{l:List α}(h:gN G w cs l):∃xs:List (Raw m),cs=xs.flatMap (aB m).enc/\xs.length=l.length:=by
 subst hm
 induction h with
 |nil=>exact⟨[],rfl,rfl⟩
 |cons h1 _ ih=>
  obtain⟨xs,rfl,h2⟩:=ih
  exact⟨⟨_,G.len h1,G.one h1⟩::xs,by rw[List.flatMap_cons];rfl,by simp[h2]⟩
theorem Cl(hm:G.sz=m):∀{xs:List (Raw m)} {l:List α},xs.length=l.length->gN G w (xs.flatMap (aB m).enc) l->aH (λx y=>G.rep w x.1 y) xs l
 |[],[],_,_=>trivial
 |x::xs,y::l,hn,h=>by
  rw[List.flatMap_cons] at h
  generalize hc:(aB m).enc x++xs.flatMap (aB m).enc=cs at h
  cases h with
  |cons h1 h2=>
   obtain⟨e1,e2⟩:=List.append_inj hc (by rw[G.len h1,hm];exact x.2.1)
   subst e2
   refine⟨?_,Cl hm (by simpa using hn) h2⟩
   show G.rep w ((aB m).enc x) y
   rw[e1];exact h1
theorem I7:∀{xs:List (Raw m)} {l:List α},aH (λx y=>G.rep w x.1 y) xs l->gN G w (xs.flatMap (aB m).enc) l
 |[],[],_=> .nil
 |x::xs,y::l,h=>by
  rw[List.flatMap_cons]
  exact .cons h.1 (I7 h.2)
end
theorem Bm.carry{P:Program}{g:FuncId}{args:Array Value}{As:List Asn}{Q:Value->List Asn->List (World->Prop)->Prop}(h:Bm P g args As [] Q){R:List Nat}{w:World}{Ps:List (World->Prop)}(hst:St R w As Ps):
  Calls P g args w λe w'=>∃v A' P',e= .returned v/\Q v A' P'/\bD (fps As) w w'/\St R w' A' Ps/\∀b∈fps A',b∈fps As\/w.heap.size<=b:=by
 have h0:St R w As []:=⟨hst.own,hst.lt,hst.nd,(λp hp=>by cases hp),hst.gl⟩
 refine Calls.mono (h.2 R w h0) λe w' ⟨v,A',P',h1,h2,h3,h4,h5⟩=>⟨v,A',P',h1,h2,h3,⟨h4.own,h4.lt,h4.nd,λp hp=> ?_,h4.gl⟩,h5⟩
 refine(hst.per p hp).step h3 (λx hx=> .inl (List.mem_append_right _ hx)) λx hx=> ?_
 rcases List.mem_append.1 hx with hx|hx
 ·exact .inl (List.mem_append_left _ hx)
 ·rcases h5 x hx with h6|h6
  ·exact .inl (List.mem_append_right _ h6)
  ·exact .inr h6
def Dx{α:Type}(p0:List α)(p1 p2:Int):Option (List α):=if 0<=p1/\p1<=p2/\p2<=(p0.length:Int) then some (p0.take p1.toNat++p0.drop p2.toNat) else none
def Dy{α:Type}(bytes:Nat)(p0:List α)(p1:Int)(p2:List α):Option (List α):=if 0<=p1/\p1<=(p0.length:Int) then(match room (p0.length+p2.length) bytes with|true=>some (p0.take p1.toNat++p2++p0.drop p1.toNat)|false=>none) else none
def tZ{α:Type}(bytes:Nat)(p1:Int):Option (List α):=if 0<=p1 then(match room p1.toNat bytes with|true=>some []|false=>none) else none
section
variable (S : Tab)
@[reducible] def Za(g e:Nat)(t:Ty):Ct S:=⟨g,[.one (.own 0),.one (.d (.int .i64)),.one (.d (.int .i64))],[.row e t],[.one (.own 0)],[(none,.row e t)],List (Dn S.τ t),λy=>(y,()),λy=>y.1,λ_=>rfl,λn x=>Dx x.2.2.1 x.1 x.2.1⟩
@[reducible] def Zb(g e bytes:Nat)(t:Ty):Ct S:=⟨g,[.one (.own 0),.one (.d (.int .i64)),.one (.own 1)],[.row e t,.row e t],[.one (.own 0)],[(none,.row e t)],List (Dn S.τ t),λy=>(y,()),λy=>y.1,λ_=>rfl,λn x=>Dy bytes x.2.1 x.1 x.2.2.1⟩
@[reducible] def Vy(g e bytes:Nat)(t:Ty):Ct S:=⟨g,[.one .nil,.one (.d (.int .i64))],[],[.one (.own 0)],[(none,.row e t)],List (Dn S.τ t),λy=>(y,()),λy=>y.1,λ_=>rfl,λn x=>tZ bytes x.1⟩
end
section
variable {P : Program} {S : Tab} {ρ : Rho} {Ps : List (World -> Prop)} {R : List Nat} {w : World} {m : Nat}
theorem NG(ok:bB S){As:List Asn}(hst:St R w As Ps){k e:Nat}{t:Ty}(hm:S.sz t=m){l:List (Dn S.τ t)}{A:Asn}(hA:aI S ρ Ps P (k,.row e t l) A):
  ∃(g:Gh) (xs:List (Raw m)),ρ k=some g/\A=bC (aB m) e g.a g.c xs/\xs.length=l.length/\g.n=xs.length/\kB (S.GT t) (xs.flatMap (aB m).enc) l∈Ps:=by
 obtain⟨g,cs,h1,rfl,h2,h3⟩:=hA
 have hz:=(mV ok t).trans hm
 obtain⟨xs,rfl,h4⟩:=Vx hz (hst.per _ h3).here
 exact⟨g,xs,h1,by rw[h2,hm,<-h4];rfl,h4,by rw[h2,h4],h3⟩
theorem I8(ok:bB S){t:Ty}(hm:S.sz t=m){e:Nat}{a:Option Addr}{c:Nat}{xs:List (Raw m)}{l:List (Dn S.τ t)}{F:List Nat}{w0 w':World}(hn:xs.length=l.length)
  (hst:St R w' [bC (aB m) e a c xs] Ps) (hr:∀w2,(∀p∈Ps,p w2)->gN (S.GT t) w2 (xs.flatMap (aB m).enc) l) {c':Ct S} {ρ:Rho} {y:sX S.τ c'.rv (pO S.τ (c'.ri.map (·.2)) Unit)}
  (h1:(dQ S (λj=>j) c'.rv y).1=[.one (.own 0)]) (h2:(gM S (λj=>j) (c'.ri.map (·.2)) (dQ S (λj=>j) c'.rv y).2).1=[.row e t l]) (h3:c'.ri=[(none,.row e t)]):
  ∃ρ' As' Ps',Ls P S c' ρ y (.slice a xs.length c) As' ρ' Ps'/\St R w' As' Ps'/\As'=[bC (aB m) e a c xs]:=by
 refine⟨λk=>match k with|0=>some ⟨a,c,xs.length,0,noJ,noS⟩|_+1=>none,[bC (aB m) e a c xs],kB (S.GT t) (xs.flatMap (aB m).enc) l::Ps,⟨?_, ?_, ?_, ?_⟩, ?_,rfl⟩
 ·rw[h1];exact⟨_,rfl,rfl⟩
 ·rw[h2];exact⟨⟨_,_,rfl,by rw[hm];rfl,hn,List.mem_cons_self ..⟩,trivial⟩
 ·intro r g hg
  rw[h3]
  cases r with
  |zero=>exact Nat.zero_lt_one
  |succ r=>cases hg
 ·intro r j p g hj
  rw[h3] at hj
  cases r with
  |zero=>simp at hj
  |succ r=>simp at hj
 ·refine hst.addPs (ps:=[kB (S.GT t) (xs.flatMap (aB m).enc) l]) λp hp w2 hk=> ?_
  simp only[List.mem_singleton] at hp
  subst hp
  exact hr w2 λp hp=>hst.per p hp w2 hk
theorem Vz(ok:bB S){g e:Nat}{t:Ty}(hm:S.sz t=m)
  (hc:∀args w,(callFunc g args).run P w= .ok (.enter g args) w)
  (h:∀{a0:Option Addr} {c0:Nat} (p0:List (Raw m)) (p1 p2:Int) (r:List (Raw m)),Dx p0 p1 p2=some r->Bm P g #[.slice a0 p0.length c0,.int .i64 p1,.int .i64 p2] [bC (aB m) e a0 c0 p0] [] λv A P=>∃(a:Option Addr) (c:Nat),v= .slice a r.length c/\A=[bC (aB m) e a c r]/\P=[]):
  OkC P S (Za S g e t):=by
 refine⟨hc,λn x y hy R w ρ As Ps args hst hdom hargs hits=> ?_⟩
 obtain⟨p1,p2,l,u⟩:=x
 obtain⟨v0,_,rfl,hv0,hargs⟩:=hargs.cons_left
 obtain⟨v1,_,rfl,hv1,hargs⟩:=hargs.cons_left
 obtain⟨v2,_,rfl,hv2,hargs⟩:=hargs.cons_left
 obtain rfl:=hargs.nil_left
 obtain⟨A,_,rfl,hA,hits⟩:=hits.cons_left
 obtain rfl:=hits.nil_left
 obtain⟨g',xs,hg,rfl,hn,hgn,hmem⟩:=NG ok hst hm hA
 obtain⟨g2,hg2,hv0⟩:=hv0
 rw[hg] at hg2
 obtain rfl:=someI' hg2
 have hv1:v1= .int .i64 p1:=hv1
 have hv2:v2= .int .i64 p2:=hv2
 subst hv1 hv2
 have hy:Dx l p1 p2=some y:=hy
 unfold Dx at hy
 split at hy
 ·rename_i hb
  obtain rfl:=someI' hy
  have hr:Dx xs p1 p2=some (xs.take p1.toNat++xs.drop p2.toNat):=by unfold Dx;rw[if_pos (by rw[hn];exact hb)]
  have hv0:v0= .slice g'.a xs.length g'.c:=by rw[hv0,hgn]
  subst hv0
  refine Calls.mono ((h xs p1 p2 _ hr).carry hst) λe' w' ⟨v,A',P',h1,⟨a,c,h2,h3,h4⟩,h5,h6,h7⟩=> ?_
  subst h2 h3
  obtain⟨ρ',As',Ps',k1,k2,k3⟩:=I8 (P:=P) (c':=Za S g e t) (ρ:=ρ) (y:=(l.take p1.toNat++l.drop p2.toNat,())) ok hm (w0:=w) (F:=[]) (by rw[List.length_append,List.length_append,List.length_take,List.length_take,List.length_drop,List.length_drop,hn]) h6 (λw2 hp=>I7 (aH.app ((Cl ((mV ok t).trans hm) hn (hp _ hmem)).take _) ((Cl ((mV ok t).trans hm) hn (hp _ hmem)).drop _))) rfl rfl rfl
  subst k3
  exact⟨_,ρ',_,Ps',h1,k1,h5,k2,h7⟩
 ·cases hy
theorem VA(ok:bB S){g e bytes:Nat}{t:Ty}(hm:S.sz t=m)
  (hc:∀args w,(callFunc g args).run P w= .ok (.enter g args) w)
  (h:∀{a0:Option Addr} {c0:Nat} {a2:Option Addr} {c2:Nat} (p0:List (Raw m)) (p1:Int) (p2:List (Raw m)) (r:List (Raw m)),Dy bytes p0 p1 p2=some r->Bm P g #[.slice a0 p0.length c0,.int .i64 p1,.slice a2 p2.length c2] [bC (aB m) e a0 c0 p0,bC (aB m) e a2 c2 p2] [] λv A P=>∃(a:Option Addr) (c:Nat),v= .slice a r.length c/\A=[bC (aB m) e a c r]/\P=[]):
  OkC P S (Zb S g e bytes t):=by
 refine⟨hc,λn x y hy R w ρ As Ps args hst hdom hargs hits=> ?_⟩
 obtain⟨p1,l,l2,u⟩:=x
 obtain⟨v0,_,rfl,hv0,hargs⟩:=hargs.cons_left
 obtain⟨v1,_,rfl,hv1,hargs⟩:=hargs.cons_left
 obtain⟨v2,_,rfl,hv2,hargs⟩:=hargs.cons_left
 obtain rfl:=hargs.nil_left
 obtain⟨A,_,rfl,hA,hits⟩:=hits.cons_left
 obtain⟨A2,_,rfl,hA2,hits⟩:=hits.cons_left
 obtain rfl:=hits.nil_left
 obtain⟨g',xs,hg,rfl,hn,hgn,hmem⟩:=NG ok hst hm hA
 obtain⟨g2',xs2,hg',rfl,hn2,hgn2,hmem2⟩:=NG ok hst hm hA2
 obtain⟨g2,hg2,hv0⟩:=hv0
 rw[hg] at hg2
 obtain rfl:=someI' hg2
 obtain⟨g3,hg3,hv2⟩:=hv2
 rw[hg'] at hg3
 obtain rfl:=someI' hg3
 have hv1:v1= .int .i64 p1:=hv1
 subst hv1
 have hy:Dy bytes l p1 l2=some y:=hy
 unfold Dy at hy
 split at hy
 ·rename_i hb
  split at hy
  ·rename_i hroom
   obtain rfl:=someI' hy
   have hn:xs.length=l.length:=hn
   have hn2:xs2.length=l2.length:=hn2
   have hr:Dy bytes xs p1 xs2=some (xs.take p1.toNat++xs2++xs.drop p1.toNat):=by unfold Dy;rw[if_pos (by rw[hn];exact hb),hn,hn2,hroom]
   have hv0:v0= .slice g'.a xs.length g'.c:=by rw[hv0,hgn]
   have hv2:v2= .slice g2'.a xs2.length g2'.c:=by rw[hv2,hgn2]
   subst hv0 hv2
   refine Calls.mono ((h xs p1 xs2 _ hr).carry hst) λe' w' ⟨v,A',P',h1,⟨a,c,h2,h3,h4⟩,h5,h6,h7⟩=> ?_
   subst h2 h3
   have hall:=λw2 (hp:∀p∈Ps,p w2)=>Cl ((mV ok t).trans hm) hn (hp _ hmem)
   obtain⟨ρ',As',Ps',k1,k2,k3⟩:=I8 (P:=P) (c':=Zb S g e bytes t) (ρ:=ρ) (y:=(l.take p1.toNat++l2++l.drop p1.toNat,())) ok hm (w0:=w) (F:=[]) (by simp only[List.length_append,List.length_take,List.length_drop,hn,hn2]) h6 (λw2 hp=>I7 (aH.app (aH.app ((hall w2 hp).take _) (Cl ((mV ok t).trans hm) hn2 (hp _ hmem2))) ((hall w2 hp).drop _))) rfl rfl rfl
   subst k3
   exact⟨_,ρ',_,Ps',h1,k1,h5,k2,h7⟩
  ·cases hy
 ·cases hy
theorem SD(ok:bB S){g e bytes:Nat}{t:Ty}(hm:S.sz t=m)
  (hc:∀args w,(callFunc g args).run P w= .ok (.enter g args) w)
  (h:∀(p1:Int)(r:List (Raw m)),tZ bytes p1=some r->Bm P g #[.slice none 0 0,.int .i64 p1] [] [] λv A P=>∃(a:Option Addr) (c:Nat),v= .slice a r.length c/\A=[bC (aB m) e a c r]/\P=[]):
  OkC P S (Vy S g e bytes t):=by
 refine⟨hc,λn x y hy R w ρ As Ps args hst hdom hargs hits=> ?_⟩
 obtain⟨p1,u⟩:=x
 obtain⟨v0,_,rfl,hv0,hargs⟩:=hargs.cons_left
 obtain⟨v1,_,rfl,hv1,hargs⟩:=hargs.cons_left
 obtain rfl:=hargs.nil_left
 obtain rfl:=hits.nil_left
 have hv0:v0= .slice none 0 0:=hv0
 have hv1:v1= .int .i64 p1:=hv1
 subst hv0 hv1
 have hy:tZ bytes p1=some y:=hy
 unfold tZ at hy
 split at hy
 ·rename_i hb
  split at hy
  ·rename_i hroom
   obtain rfl:=someI' hy
   have hr:tZ bytes p1=some ([]:List (Raw m)):=by unfold tZ;rw[if_pos hb,hroom]
   refine Calls.mono ((h p1 _ hr).carry hst) λe' w' ⟨v,A',P',h1,⟨a,c,h2,h3,h4⟩,h5,h6,h7⟩=> ?_
   subst h2 h3
   obtain⟨ρ',As',Ps',k1,k2,k3⟩:=I8 (P:=P) (c':=Vy S g e bytes t) (ρ:=ρ) (y:=(([]:List (Dn S.τ t)),())) ok hm (w0:=w) (F:=[]) rfl h6 (λw2 hp=> .nil) rfl rfl rfl
   subst k3
   exact⟨_,ρ',_,Ps',h1,k1,h5,k2,h7⟩
  ·cases hy
 ·cases hy
def VB:Rho:=λ_=>none
end
end Go.Bur
