import Derived.Test.YtlcmdgpjiendmaaGreatAp
namespace Go.Bur
open Go.RowKit
set_option linter.unusedVariables false
set_option linter.unusedSimpArgs false
section
variable {S : Tab} {ρ : Rho} {Ps : List (World -> Prop)}
theorem Vq(ok:bB S){t:Ty}(ht:Kw S t=true){w w':World}{vs:List Value}{x:Dn S.τ t}(h:(S.GT t).rep w vs x):(S.GT t).rep w' vs x:=by
 have hl:(S.lvs t).all Ty.flat=true:=by cases t<;>first|exact ht|(simpa[Tab.lvs] using ht)
 rw[Hh ok] at h|-
 have key:∀(ts:List Ty)(ht:ts.all Ty.flat=true)(vs:List Value)(h:HL S.τ ts),iI S w ts vs h->iI S w' ts vs h:=by
  intro ts
  induction ts with
  |nil=>intro _ vs h hh;exact hh
  |cons t ts ih=>
   intro ht vs h hh
   simp only[List.all_cons,Bool.and_eq_true] at ht
   obtain⟨v,vs',e,h1,h2⟩:=hh
   refine⟨v,vs',e, ?_,ih ht.2 _ _ h2⟩
   have h3:=ht.1
   cases t with
   |st i=>cases h3
   |sl e=>cases h3
   |mp e=>cases h3
   |int k=>exact h1
   |bool=>exact h1
   |str=>exact h1
   |fnc g=>exact h1
 exact key _ hl _ _ h
theorem LD(ok:bB S){t:Ty}(ht:Kw S t=true){w w':World}{cs:List Value}{l:List (Dn S.τ t)}(h:gN (S.GT t) w cs l):gN (S.GT t) w' cs l:=by
 induction h with
 |nil=>exact .nil
 |cons h1 _ ih=>exact .cons (Vq ok ht h1) ih
theorem InR.same(ok:bB S){e:TypeId}{t:Ty}(ht:Kw S t=true){w w':World}{v:Value}{l:List (Dn S.τ t)}{F:List Nat}(h:InR S e t w v l F)(hk:∀k∈F,w'.heap[k]? =w.heap[k]?):InR S e t w' v l F:=by
 obtain⟨a,c,cs,h1,h2,h3,h4⟩:=h
 exact⟨a,c,cs,h1,h2,Asn.same h3 λk hm=>hk k (h2▸hm),LD ok ht h4⟩
theorem UO.same(ok:bB S){w w':World}:∀{es:Option TypeId} {t:Ty} {x:Dn S.τ t} {v:Value} {F:List Nat},UO S w es t x v F->(∀k∈F,w'.heap[k]? =w.heap[k]?)->UO S w' es t x v F
 |some e,.sl t,l,v,F,h,hk=>⟨h.1,h.2.same ok h.1 hk⟩
 |none,t,x,v,F,h,_=>h
 |some _,.int _,_,_,_,h,_=>h.elim
 |some _,.bool,_,_,_,h,_=>h.elim
 |some _,.str,_,_,_,h,_=>h.elim
 |some _,.fnc _,_,_,_,h,_=>h.elim
 |some _,.st _,_,_,_,h,_=>h.elim
 |some _,.mp _,_,_,_,h,_=>h.elim
theorem LvR.same(ok:bB S){w w':World}:∀{ts:List Ty} {es:List (Option TypeId)} {h:HL S.τ ts} {vs:List Value} {F:List Nat},LvR S w ts es h vs F->(∀k∈F,w'.heap[k]? =w.heap[k]?)->LvR S w' ts es h vs F
 |[],_,_,_,_,h,_=>h
 |t::ts,es,h,vs,F,⟨v,vs',F1,F2,e1,e2,h1,h2⟩,hk=>by
  subst e2
  exact⟨v,vs',F1,F2,e1,rfl,h1.same ok λk hm=>hk k (List.mem_append_left _ hm),LvR.same ok h2 λk hm=>hk k (List.mem_append_right _ hm)⟩
theorem iX.same(ok:bB S){w w':World}{t:Ty}{es:List (Option TypeId)}:∀{l:List (Dn S.τ t)} {cs:List Value} {F:List Nat},iX S w t es l cs F->(∀k∈F,w'.heap[k]? =w.heap[k]?)->iX S w' t es l cs F
 |[],_,_,h,_=>h
 |x::l,cs,F,⟨c,cs',F1,F2,e1,e2,h1,h2⟩,hk=>by
  subst e2
  exact⟨c,cs',F1,F2,e1,rfl,h1.same ok λk hm=>hk k (List.mem_append_left _ hm),iX.same ok h2 λk hm=>hk k (List.mem_append_right _ hm)⟩
theorem UO.rep(ok:bB S){w:World}:∀{es:Option TypeId} {t:Ty} {x:Dn S.τ t} {v:Value} {F:List Nat},UO S w es t x v F->(S.GT t).rep w [v] x
 |some e,.sl t,l,v,F,⟨_,a,c,cs,h1,h2,h3,h4⟩=>by
  obtain⟨g1,g2,g3⟩:=kX h3
  exact⟨a,c,by rw[h1],h4.rs g1 g2 λhne=>g3 λe=>hne (List.eq_nil_of_length_eq_zero e)⟩
 |none,t,x,v,F,⟨_,h,_⟩=>(Ky (S:=S) (Ps:=[]) (F:=[]) (w:=w) (by simp) h).here
 |some _,.int _,_,_,_,h=>h.elim
 |some _,.bool,_,_,_,h=>h.elim
 |some _,.str,_,_,_,h=>h.elim
 |some _,.fnc _,_,_,_,h=>h.elim
 |some _,.st _,_,_,_,h=>h.elim
 |some _,.mp _,_,_,_,h=>h.elim
theorem LvR.rep(ok:bB S){w:World}:∀{ts:List Ty} {es:List (Option TypeId)} {h:HL S.τ ts} {vs:List Value} {F:List Nat},LvR S w ts es h vs F->iI S w ts vs h
 |[],_,_,_,_,h=>h.1
 |t::ts,es,h,vs,F,⟨v,vs',F1,F2,e1,e2,h1,h2⟩=>⟨v,vs',e1,h1.rep ok,LvR.rep ok h2⟩
theorem iX.reps(ok:bB S){w:World}{t:Ty}{es:List (Option TypeId)}:∀{l:List (Dn S.τ t)} {cs:List Value} {F:List Nat},iX S w t es l cs F->gN (S.GT t) w cs l
 |[],_,_,⟨h,_⟩=>h▸ .nil
 |x::l,cs,F,⟨c,cs',F1,F2,e1,e2,h1,h2⟩=>by
  rw[e1]
  exact .cons ((Hh ok t w c x).2 (h1.rep ok)) (iX.reps ok h2)
theorem iX.len(ok:bB S){w:World}{t:Ty}{es:List (Option TypeId)}{l:List (Dn S.τ t)}{cs:List Value}{F:List Nat}(h:iX S w t es l cs F):cs.length=l.length*S.sz t:=by
 rw[(h.reps ok).len,mV ok]
theorem iX.app{w:World}{t:Ty}{es:List (Option TypeId)}:∀{l1 l2:List (Dn S.τ t)} {c1 c2:List Value} {F1 F2:List Nat},iX S w t es l1 c1 F1->iX S w t es l2 c2 F2->iX S w t es (l1++l2) (c1++c2) (F1++F2)
 |[],l2,c1,c2,F1,F2,⟨h1,h2⟩,h=>by rw[h1,h2];exact h
 |x::l1,l2,c1,c2,F1,F2,⟨c,cs',G1,G2,e1,e2,h1,h2⟩,h=>by
  refine⟨c,cs'++c2,G1,G2++F2,by rw[e1,List.append_assoc],by rw[e2,List.append_assoc],h1,iX.app h2 h⟩
theorem iX.split{w:World}{t:Ty}{es:List (Option TypeId)}:∀{l1 l2:List (Dn S.τ t)} {cs:List Value} {F:List Nat},iX S w t es (l1++l2) cs F->∃c1 c2 F1 F2,cs=c1++c2/\F=F1++F2/\iX S w t es l1 c1 F1/\iX S w t es l2 c2 F2
 |[],l2,cs,F,h=>⟨[],cs,[],F,rfl,rfl,⟨rfl,rfl⟩,h⟩
 |x::l1,l2,cs,F,⟨c,cs',G1,G2,e1,e2,h1,h2⟩=>by
  obtain⟨c1,c2,F1,F2,g1,g2,g3,g4⟩:=iX.split h2
  exact⟨c++c1,c2,G1++F1,F2,by rw[e1,g1,List.append_assoc],by rw[e2,g2,List.append_assoc],⟨c,c1,G1,F1,rfl,rfl,h1,g3⟩,g4⟩
theorem iX.one{w:World}{t:Ty}{es:List (Option TypeId)}{x:Dn S.τ t}{c:List Value}{F:List Nat}:iX S w t es [x] c F↔LvR S w (S.lvs t) es (S.getT t x) c F:=by
 constructor
 ·rintro⟨c',cs',F1,F2,rfl,rfl,h1,rfl,rfl⟩
  simpa using h1
 ·intro h
  exact⟨c,[],F,[],by simp,by simp,h,rfl,rfl⟩
theorem O3{g:Gh}{e:TypeId}{t:Ty}{es:List (Option TypeId)}{l:List (Dn S.τ t)}{cs1 cs:List Value}{F:List Nat}{w:World}(h:(Q0 S g e t es l cs1 cs F).holds w):(Asn.row g.a g.c e (S.sz t) g.n cs).holds w/\iX S w t es l cs1 F:=h w λ_ _=>rfl
theorem Vr(ok:bB S){g:Gh}{e:TypeId}{t:Ty}{es:List (Option TypeId)}{l:List (Dn S.τ t)}{cs1 cs:List Value}{F:List Nat}{w:World}(h1:(Asn.row g.a g.c e (S.sz t) g.n cs).holds w)(h2:iX S w t es l cs1 F):(Q0 S g e t es l cs1 cs F).holds w:=
 λw' hk=>⟨Asn.same h1 λk hm=>hk k (List.mem_append_left _ hm),h2.same ok λk hm=>hk k (List.mem_append_right _ hm)⟩
theorem ShR.reps{F:List Nat}{w:World}(hp:∀p∈Ps,Bx F w p){t:Ty}{cs:List Value}{l:List (Dn S.τ t)}(h:ShR S Ps t cs l):Bx F w (kB (S.GT t) cs l):=by
 rcases h with⟨rfl,rfl⟩|h
 ·exact λw' _=> .nil
 ·exact hp _ h
theorem Sx{P:Program}(ok:bB S){F:List Nat}{w:World}(hp:∀p∈Ps,Bx F w p){k:Nat}{e:TypeId}{t:Ty}{es:List (Option TypeId)}{m:Option Nat}{l:List (Dn S.τ t)}{A:Asn}(h2:aI S ρ Ps P (k,.deep e t es m l) A)(h3:Bx F w (λw=>A.holds w)):
  ∃g,ρ k=some g/\g.n=l.length/\Bx F w (RSg (S.GT t) g.a g.c l):=by
 obtain⟨g,c1,c2,G,h4,rfl,h5,h6,h7⟩:=h2
 refine⟨g,h4,h5,λw' hk=> ?_⟩
 obtain⟨g1,g2⟩:=O3 (h3 w' hk)
 obtain⟨g3,g4,g5⟩:=kX g1
 have hr:=(g2.reps ok).app (h7.reps hp w' hk)
 rw[List.take_append_drop] at hr
 exact hr.rs g3 (by omega) λhne=>g5 λe=>hne (List.eq_nil_of_length_eq_zero (by omega))
theorem St.own_bx{R:List Nat}{w:World}{A:Asn}{As:List Asn}(hst:St R w (A::As) Ps):Bx (R++fps As) w (λw=>A.holds w):=λw' hk'=>by
 have hnd:=hst.nd
 rw[cD,List.nodup_append] at hnd
 obtain⟨_,hAA,hRA⟩:=hnd
 rw[List.nodup_append] at hAA
 refine Asn.same (hst.own _ (List.mem_cons_self ..)) (w':=w') λb hb=>hk'.block b (hst.lt b (by rw[cD];simp only[List.mem_append];exact .inr (.inl hb))) λhm=> ?_
 rcases List.mem_append.1 hm with hm|hm
 ·exact hRA b hm b (List.mem_append_left _ hb) rfl
 ·exact hAA.2.2 b hb b hm rfl
theorem St.tail{R:List Nat}{w:World}{A:Asn}{As:List Asn}(hst:St R w (A::As) Ps):St R w As Ps:=(hst.perm (List.perm_append_comm (l₁:=[A]))).sub (Qs:=Ps) λ_ h=>h
end
def gB{τ:Nat->Type}(it:Nat->Option (Item τ)):List Nat->Option (List (Item τ))
 |[]=>some []
 |k::ks=>match it k,gB it ks with
  |some x,some xs=>some (x::xs)
  |_,_=>none
section
variable (S : Tab)
end
section
variable {P : Program} {S : Tab} {ρ : Rho} {Ps : List (World -> Prop)} {w : World}
theorem LF{Ps':List (World->Prop)}{t:Ty}(ht:t.flat=true){x:Dn S.τ t}{v:Value}(h:Kx S Ps t x v):Kx S Ps' t x v:=by
 cases t<;>first|exact h|cases ht
end
section
variable {P : Program} {S : Tab} {R : Type}
def IL(P:Program)(S:Tab)(D:List (TypeId×List (Option TypeId)))(ty:TypeId->Option Ty)(ev:Ev S.τ):Op->Option (Nat×List (Option TypeId)×(t:Ty)×Dn S.τ t):=λ_=>none
theorem IM(ok:bB S){D:List (TypeId×List (Option TypeId))}{ty:TypeId->Option Ty}{o:Oper}{ev:Ev S.τ}{it:Nat->Option (Item S.τ)}{nx:Nat}{e:TypeId}{es:List (Option TypeId)}{t:Ty}{y:Dn S.τ t}(h:IL P S D ty ev o.op=some (e,es,⟨t,y⟩)):bM P S o ev it nx ⟨.v (.one (.own nx)),[],[(nx,.deep e t es none [y])],[],1⟩:=by
 unfold IL at h
 cases h
end
end Go.Bur
