import Derived.Test.YtchocpffjnodfaaGreatAp
namespace Go.Bur
open Go.RowKit
set_option linter.unusedVariables false
set_option linter.unusedSimpArgs false
section
variable {S : Tab} {ρ : Rho} {Ps : List (World → Prop)}
theorem flat_rep(ok:TabOk S){t:Ty}(ht:flatT S t=true){w w':World}{vs:List Value}{x:Dn S.τ t}(h:(S.GT t).rep w vs x):(S.GT t).rep w' vs x:=by
 have hl:(S.lvs t).all Ty.flat=true:=by cases t<;>first|exact ht|(simpa[Tab.lvs] using ht)
 rw[GT_rep ok] at h⊢
 have key:∀(ts:List Ty)(ht:ts.all Ty.flat=true)(vs:List Value)(h:HL S.τ ts),HRep S w ts vs h→HRep S w' ts vs h:=by
  intro ts
  induction ts with
  |nil=>intro _ vs h hh;exact hh
  |cons t ts ih=>
   intro ht vs h hh
   simp only[List.all_cons,Bool.and_eq_true] at ht
   obtain⟨v,vs',e,h1,h2⟩:=hh
   refine⟨v,vs',e, ?_,ih ht.2 _ _ h2⟩
   have h3:=ht.1
   cases t with
   |st i=>cases h3
   |sl e=>cases h3
   |mp e=>cases h3
   |int k=>exact h1
   |bool=>exact h1
   |str=>exact h1
   |fnc g=>exact h1
 exact key _ hl _ _ h
theorem flat_reps(ok:TabOk S){t:Ty}(ht:flatT S t=true){w w':World}{cs:List Value}{l:List (Dn S.τ t)}(h:Reps (S.GT t) w cs l):Reps (S.GT t) w' cs l:=by
 induction h with
 |nil=>exact .nil
 |cons h1 _ ih=>exact .cons (flat_rep ok ht h1) ih
theorem InR.same(ok:TabOk S){e:TypeId}{t:Ty}(ht:flatT S t=true){w w':World}{v:Value}{l:List (Dn S.τ t)}{F:List Nat}(h:InR S e t w v l F)(hk:∀k∈F,w'.heap[k]? =w.heap[k]?):InR S e t w' v l F:=by
 obtain⟨a,c,cs,h1,h2,h3,h4⟩:=h
 exact⟨a,c,cs,h1,h2,Asn.same h3 λk hm=>hk k (h2▸hm),flat_reps ok ht h4⟩
theorem OneR.same(ok:TabOk S){w w':World}:∀{es:Option TypeId} {t:Ty} {x:Dn S.τ t} {v:Value} {F:List Nat},OneR S w es t x v F→(∀k∈F,w'.heap[k]? =w.heap[k]?)→OneR S w' es t x v F
 |some e,.sl t,l,v,F,h,hk=>⟨h.1,h.2.same ok h.1 hk⟩
 |none,t,x,v,F,h,_=>h
 |some _,.int _,_,_,_,h,_=>h.elim
 |some _,.bool,_,_,_,h,_=>h.elim
 |some _,.str,_,_,_,h,_=>h.elim
 |some _,.fnc _,_,_,_,h,_=>h.elim
 |some _,.st _,_,_,_,h,_=>h.elim
 |some _,.mp _,_,_,_,h,_=>h.elim
theorem LvR.same(ok:TabOk S){w w':World}:∀{ts:List Ty} {es:List (Option TypeId)} {h:HL S.τ ts} {vs:List Value} {F:List Nat},LvR S w ts es h vs F→(∀k∈F,w'.heap[k]? =w.heap[k]?)→LvR S w' ts es h vs F
 |[],_,_,_,_,h,_=>h
 |t::ts,es,h,vs,F,⟨v,vs',F1,F2,e1,e2,h1,h2⟩,hk=>by
  subst e2
  exact⟨v,vs',F1,F2,e1,rfl,h1.same ok λk hm=>hk k (List.mem_append_left _ hm),LvR.same ok h2 λk hm=>hk k (List.mem_append_right _ hm)⟩
theorem DeepR.same(ok:TabOk S){w w':World}{t:Ty}{es:List (Option TypeId)}:∀{l:List (Dn S.τ t)} {cs:List Value} {F:List Nat},DeepR S w t es l cs F→(∀k∈F,w'.heap[k]? =w.heap[k]?)→DeepR S w' t es l cs F
 |[],_,_,h,_=>h
 |x::l,cs,F,⟨c,cs',F1,F2,e1,e2,h1,h2⟩,hk=>by
  subst e2
  exact⟨c,cs',F1,F2,e1,rfl,h1.same ok λk hm=>hk k (List.mem_append_left _ hm),DeepR.same ok h2 λk hm=>hk k (List.mem_append_right _ hm)⟩
theorem OneR.rep(ok:TabOk S){w:World}:∀{es:Option TypeId} {t:Ty} {x:Dn S.τ t} {v:Value} {F:List Nat},OneR S w es t x v F→(S.GT t).rep w [v] x
 |some e,.sl t,l,v,F,⟨_,a,c,cs,h1,h2,h3,h4⟩=>by
  obtain⟨g1,g2,g3⟩:=row_cells h3
  exact⟨a,c,by rw[h1],h4.rs g1 g2 λhne=>g3 λe=>hne (List.eq_nil_of_length_eq_zero e)⟩
 |none,t,x,v,F,⟨_,h,_⟩=>(rel_leaf (S:=S) (Ps:=[]) (F:=[]) (w:=w) (by simp) h).here
 |some _,.int _,_,_,_,h=>h.elim
 |some _,.bool,_,_,_,h=>h.elim
 |some _,.str,_,_,_,h=>h.elim
 |some _,.fnc _,_,_,_,h=>h.elim
 |some _,.st _,_,_,_,h=>h.elim
 |some _,.mp _,_,_,_,h=>h.elim
theorem LvR.rep(ok:TabOk S){w:World}:∀{ts:List Ty} {es:List (Option TypeId)} {h:HL S.τ ts} {vs:List Value} {F:List Nat},LvR S w ts es h vs F→HRep S w ts vs h
 |[],_,_,_,_,h=>h.1
 |t::ts,es,h,vs,F,⟨v,vs',F1,F2,e1,e2,h1,h2⟩=>⟨v,vs',e1,h1.rep ok,LvR.rep ok h2⟩
theorem DeepR.reps(ok:TabOk S){w:World}{t:Ty}{es:List (Option TypeId)}:∀{l:List (Dn S.τ t)} {cs:List Value} {F:List Nat},DeepR S w t es l cs F→Reps (S.GT t) w cs l
 |[],_,_,⟨h,_⟩=>h▸ .nil
 |x::l,cs,F,⟨c,cs',F1,F2,e1,e2,h1,h2⟩=>by
  rw[e1]
  exact .cons ((GT_rep ok t w c x).2 (h1.rep ok)) (DeepR.reps ok h2)
theorem DeepR.len(ok:TabOk S){w:World}{t:Ty}{es:List (Option TypeId)}{l:List (Dn S.τ t)}{cs:List Value}{F:List Nat}(h:DeepR S w t es l cs F):cs.length=l.length*S.sz t:=by
 rw[(h.reps ok).len,sz_eq ok]
theorem DeepR.app{w:World}{t:Ty}{es:List (Option TypeId)}:∀{l1 l2:List (Dn S.τ t)} {c1 c2:List Value} {F1 F2:List Nat},DeepR S w t es l1 c1 F1→DeepR S w t es l2 c2 F2→DeepR S w t es (l1++l2) (c1++c2) (F1++F2)
 |[],l2,c1,c2,F1,F2,⟨h1,h2⟩,h=>by rw[h1,h2];exact h
 |x::l1,l2,c1,c2,F1,F2,⟨c,cs',G1,G2,e1,e2,h1,h2⟩,h=>by
  refine⟨c,cs'++c2,G1,G2++F2,by rw[e1,List.append_assoc],by rw[e2,List.append_assoc],h1,DeepR.app h2 h⟩
theorem DeepR.split{w:World}{t:Ty}{es:List (Option TypeId)}:∀{l1 l2:List (Dn S.τ t)} {cs:List Value} {F:List Nat},DeepR S w t es (l1++l2) cs F→∃c1 c2 F1 F2,cs=c1++c2∧F=F1++F2∧DeepR S w t es l1 c1 F1∧DeepR S w t es l2 c2 F2
 |[],l2,cs,F,h=>⟨[],cs,[],F,rfl,rfl,⟨rfl,rfl⟩,h⟩
 |x::l1,l2,cs,F,⟨c,cs',G1,G2,e1,e2,h1,h2⟩=>by
  obtain⟨c1,c2,F1,F2,g1,g2,g3,g4⟩:=DeepR.split h2
  exact⟨c++c1,c2,G1++F1,F2,by rw[e1,g1,List.append_assoc],by rw[e2,g2,List.append_assoc],⟨c,c1,G1,F1,rfl,rfl,h1,g3⟩,g4⟩
theorem DeepR.one{w:World}{t:Ty}{es:List (Option TypeId)}{x:Dn S.τ t}{c:List Value}{F:List Nat}:DeepR S w t es [x] c F↔LvR S w (S.lvs t) es (S.getT t x) c F:=by
 constructor
 ·rintro⟨c',cs',F1,F2,rfl,rfl,h1,rfl,rfl⟩
  simpa using h1
 ·intro h
  exact⟨c,[],F,[],by simp,by simp,h,rfl,rfl⟩
theorem deepA_at{g:Gh}{e:TypeId}{t:Ty}{es:List (Option TypeId)}{l:List (Dn S.τ t)}{cs1 cs:List Value}{F:List Nat}{w:World}(h:(deepA S g e t es l cs1 cs F).holds w):(Asn.row g.a g.c e (S.sz t) g.n cs).holds w∧DeepR S w t es l cs1 F:=h w λ_ _=>rfl
theorem deepA_of(ok:TabOk S){g:Gh}{e:TypeId}{t:Ty}{es:List (Option TypeId)}{l:List (Dn S.τ t)}{cs1 cs:List Value}{F:List Nat}{w:World}(h1:(Asn.row g.a g.c e (S.sz t) g.n cs).holds w)(h2:DeepR S w t es l cs1 F):(deepA S g e t es l cs1 cs F).holds w:=
 λw' hk=>⟨Asn.same h1 λk hm=>hk k (List.mem_append_left _ hm),h2.same ok λk hm=>hk k (List.mem_append_right _ hm)⟩
theorem restA_at{t:Ty}{es:List (Option TypeId)}{l1 l2:List (Dn S.τ t)}{c1 c2:List Value}{F1 F2:List Nat}{w:World}(h:(restA S t es l1 l2 c1 c2 F1 F2).holds w):DeepR S w t es l1 c1 F1∧DeepR S w t es l2 c2 F2:=h w λ_ _=>rfl
theorem restA_of(ok:TabOk S){t:Ty}{es:List (Option TypeId)}{l1 l2:List (Dn S.τ t)}{c1 c2:List Value}{F1 F2:List Nat}{w:World}(h1:DeepR S w t es l1 c1 F1)(h2:DeepR S w t es l2 c2 F2):(restA S t es l1 l2 c1 c2 F1 F2).holds w:=
 λw' hk=>⟨h1.same ok λk hm=>hk k (List.mem_append_left _ hm),h2.same ok λk hm=>hk k (List.mem_append_right _ hm)⟩
theorem ShR.reps{F:List Nat}{w:World}(hp:∀p∈Ps,Bx F w p){t:Ty}{cs:List Value}{l:List (Dn S.τ t)}(h:ShR S Ps t cs l):Bx F w (RepsB (S.GT t) cs l):=by
 rcases h with⟨rfl,rfl⟩|h
 ·exact λw' _=> .nil
 ·exact hp _ h
theorem deep_rs{P:Program}(ok:TabOk S){F:List Nat}{w:World}(hp:∀p∈Ps,Bx F w p){k:Nat}{e:TypeId}{t:Ty}{es:List (Option TypeId)}{m:Option Nat}{l:List (Dn S.τ t)}{A:Asn}(h2:RelItem S ρ Ps P (k,.deep e t es m l) A)(h3:Bx F w (λw=>A.holds w)):
  ∃g,ρ k=some g∧g.n=l.length∧Bx F w (RSg (S.GT t) g.a g.c l):=by
 obtain⟨g,c1,c2,G,h4,rfl,h5,h6,h7⟩:=h2
 refine⟨g,h4,h5,λw' hk=> ?_⟩
 obtain⟨g1,g2⟩:=deepA_at (h3 w' hk)
 obtain⟨g3,g4,g5⟩:=row_cells g1
 have hr:=(g2.reps ok).app (h7.reps hp w' hk)
 rw[List.take_append_drop] at hr
 exact hr.rs g3 (by omega) λhne=>g5 λe=>hne (List.eq_nil_of_length_eq_zero (by omega))
theorem St.own_bx{R:List Nat}{w:World}{A:Asn}{As:List Asn}(hst:St R w (A::As) Ps):Bx (R++fps As) w (λw=>A.holds w):=λw' hk'=>by
 have hnd:=hst.nd
 rw[fps_cons,List.nodup_append] at hnd
 obtain⟨_,hAA,hRA⟩:=hnd
 rw[List.nodup_append] at hAA
 refine Asn.same (hst.own _ (List.mem_cons_self ..)) (w':=w') λb hb=>hk'.block b (hst.lt b (by rw[fps_cons];simp only[List.mem_append];exact .inr (.inl hb))) λhm=> ?_
 rcases List.mem_append.1 hm with hm|hm
 ·exact hRA b hm b (List.mem_append_left _ hb) rfl
 ·exact hAA.2.2 b hb b hm rfl
theorem St.tail{R:List Nat}{w:World}{A:Asn}{As:List Asn}(hst:St R w (A::As) Ps):St R w As Ps:=(hst.perm (List.perm_append_comm (l₁:=[A]))).sub (Qs:=Ps) λ_ h=>h
theorem St.re{R:List Nat}{w:World}{Bs Cs As:List Asn}(hst:St R w (Bs++As) Ps)(hC:∀C∈Cs,C.holds w)(hp:(fps Cs).Perm (fps Bs)):St R w (Cs++As) Ps:=by
 have hq:(R++fps (Cs++As)).Perm (R++fps (Bs++As)):=by
  rw[fps_append,fps_append];exact(hp.append_right _).append_left _
 refine⟨λA hA=> ?_,λb hb=>hst.lt b (hq.mem_iff.1 hb),hq.nodup_iff.2 hst.nd,λp hpp=>(hst.per p hpp).weak λx hx=> .inl (hq.mem_iff.1 hx),λp hpp=>(hst.gl p hpp).weak λx hx=> .inl (hq.mem_iff.1 hx)⟩
 rcases List.mem_append.1 hA with hA|hA
 ·exact hC A hA
 ·exact hst.own A (List.mem_append_right _ hA)
end
def itsOf{τ:Nat→Type}(it:Nat→Option (Item τ)):List Nat→Option (List (Item τ))
 |[]=>some []
 |k::ks=>match it k,itsOf it ks with
  |some x,some xs=>some (x::xs)
  |_,_=>none
section
variable (S : Tab)
def ufL(it:Nat→Option (Item S.τ)):Option TypeId→(t:Ty)→Lf S.τ→Option (Dn S.τ t×List Nat)
 |some e,.sl u,x=>match x with
  | .own k=>match it k with
   |some (.row e' u' l)=>match Nat.beq e e',castL (S:=S) (u:=u) l,flatT S u with
    |true,some l',true=>some (l',[k])
    |_,_,_=>none
   |_=>none
  | .nil=>match flatT S u with
   |true=>some ([],[])
   |false=>none
  |_=>none
 |none,t,x=>match t.flat,toD t x with
  |true,some y=>some (y,[])
  |_,_=>none
 |some _,.int _,_=>none
 |some _,.bool,_=>none
 |some _,.str,_=>none
 |some _,.fnc _,_=>none
 |some _,.st _,_=>none
 |some _,.mp _,_=>none
def ufLs(it:Nat→Option (Item S.τ)):List (Option TypeId)→(ts:List Ty)→List (Lf S.τ)→Option (HL S.τ ts×List Nat)
 |_,[],[]=>some ((),[])
 |es,t::ts,x::xs=>match ufL S it (esH es) t x,ufLs it es.tail ts xs with
  |some (y,ks),some (h,js)=>some ((y,h),ks++js)
  |_,_=>none
 |_,[],_::_=>none
 |_,_::_,[]=>none
end
section
variable {P : Program} {S : Tab} {ρ : Rho} {Ps : List (World → Prop)} {w : World}
theorem flat_leaf{Ps':List (World→Prop)}{t:Ty}(ht:t.flat=true){x:Dn S.τ t}{v:Value}(h:RelD S Ps t x v):RelD S Ps' t x v:=by
 cases t<;>first|exact h|cases ht
theorem ufL_its{it:Nat→Option (Item S.τ)}{eo:Option TypeId}{t:Ty}{x:Lf S.τ}{y:Dn S.τ t}{ks:List Nat}(h:ufL S it eo t x=some (y,ks)):ks=[]∨∃k z,ks=[k]∧it k=some z:=by
 cases eo with
 |none=>
  simp only[ufL] at h
  split at h
  ·have h:=someI' h
   cases h
   exact .inl rfl
  ·cases h
 |some e=>
  cases t with
  |sl u=>
   simp only[ufL] at h
   split at h
   ·split at h
    ·rename_i k _ _ _ hk
     split at h
     ·have h:=someI' h
      cases h
      exact .inr ⟨_,_,rfl,hk⟩
     ·cases h
    ·cases h
   ·split at h
    ·have h:=someI' h
     cases h
     exact .inl rfl
    ·cases h
   ·cases h
  |_=>cases h
theorem ufL_ok(ok:TabOk S){it:Nat→Option (Item S.τ)}(hw:∀p∈Ps,p w){eo:Option TypeId}{t:Ty}{x:Lf S.τ}{y:Dn S.τ t}{k1:List Nat}{v:Value}{t1:List (Nat×Item S.τ)}{A1:List Asn}(h3:ufL S it eo t x=some (y,k1))(hv1:RelLf S ρ Ps x v)
  (hk1:t1.map (·.1)=k1) (hit:∀x∈t1,it x.1=some x.2) (hA1:All2 (RelItem S ρ Ps P) t1 A1) (hw':∀A∈A1,A.holds w):OneR S w eo t y v (fps A1):=by
 have hnil:k1=[]→A1=[]:=λe=>by
  subst e
  have:=List.map_eq_nil_iff.1 hk1
  subst this
  exact All2.nil_left hA1
 cases eo with
 |none=>
  simp only[ufL] at h3
  split at h3
  ·rename_i y' hfl hd
   have h3:=someI' h3
   cases h3
   rw[hnil rfl]
   exact⟨hfl,flat_leaf hfl (toD_rel hd hv1),rfl⟩
  ·cases h3
 |some e=>
  cases t with
  |sl u=>
   simp only[ufL] at h3
   split at h3
   ·rename_i k
    split at h3
    ·rename_i e' u' l hkk
     split at h3
     ·rename_i l' he hl hf
      have h3:=someI' h3
      cases h3
      obtain rfl:=Nat.eq_of_beq_eq_true he
      obtain⟨rfl,rfl⟩:=castL_eq hl
      match t1,hk1,hA1 with
      |[(k',z)],hk1,hA1=>
       simp only[List.map_cons,List.map_nil,List.cons.injEq,and_true] at hk1
       subst hk1
       have hz:=hit (k',z) (by simp)
       rw[hkk] at hz
       obtain rfl:=someI' hz
       obtain⟨A,A1',rfl,h5,h6⟩:=All2.cons_left hA1
       have:=All2.nil_left h6
       subst this
       obtain⟨g,cs,hg,rfl,hn,hmem⟩:=row_open h5
       obtain⟨g',hg',hvv⟩:=hv1
       rw[hg] at hg'
       obtain rfl:=someI' hg'
       refine⟨hf,g.a,g.c,cs,by rw[hvv,hn],by rw[←hn];simp[fps], ?_,hw _ hmem⟩
       rw[←hn]
       exact hw' _ (by simp)
     ·cases h3
    ·cases h3
   ·split at h3
    ·rename_i hf
     have h3:=someI' h3
     cases h3
     rw[hnil rfl]
     exact⟨hf,none,0,[],hv1,rfl,World.ownsRow_nil w 0 e _,.nil⟩
    ·cases h3
   ·cases h3
  |_=>cases h3
theorem ufLs_its{it:Nat→Option (Item S.τ)}:∀{es:List (Option TypeId)} {ts:List Ty} {ls:List (Lf S.τ)} {h:HL S.τ ts} {ks:List Nat},ufLs S it es ts ls=some (h,ks)→∃xs,itsOf it ks=some xs
 |_,[],[],h,ks,hh=>by
  have hh:=someI' hh
  cases hh
  exact⟨[],rfl⟩
 |es,t::ts,x::xs,h,ks,hh=>by
  simp only[ufLs] at hh
  split at hh
  ·rename_i y k1 h2 k2 h3 h4
   have hh:=someI' hh
   cases hh
   obtain⟨z2,h5⟩:=ufLs_its h4
   have h6:=ufL_its h3
   rcases h6 with rfl|⟨k,z,rfl,hk⟩
   ·exact⟨z2,h5⟩
   ·exact⟨z::z2,by simp only[List.cons_append,List.nil_append,itsOf,hk,h5]⟩
  ·cases hh
 |_,[],_::_,_,_,hh=>by cases hh
 |_,_::_,[],_,_,hh=>by cases hh
theorem ufLs_ok(ok:TabOk S){it:Nat→Option (Item S.τ)}(hw:∀p∈Ps,p w):∀{es:List (Option TypeId)} {ts:List Ty} {ls:List (Lf S.τ)} {h:HL S.τ ts} {ks:List Nat} {vs:List Value} {tk:List (Nat×Item S.τ)} {At:List Asn},ufLs S it es ts ls=some (h,ks)→All2 (RelLf S ρ Ps) ls vs→
  tk.map (·.1)=ks→(∀x∈tk,it x.1=some x.2)→All2 (RelItem S ρ Ps P) tk At→(∀A∈At,A.holds w)→LvR S w ts es h vs (fps At)
 |_,[],[],h,ks,vs,tk,At,hh,hv,hk,hit,hA,hw'=>by
  have hh:=someI' hh
  cases hh
  have:=All2.nil_left hv
  subst this
  have:=List.map_eq_nil_iff.1 hk
  subst this
  have:=All2.nil_left hA
  subst this
  exact⟨rfl,rfl⟩
 |es,t::ts,x::xs,h,ks,vs,tk,At,hh,hv,hk,hit,hA,hw'=>by
  simp only[ufLs] at hh
  split at hh
  ·rename_i y k1 h2 k2 h3 h4
   have hh:=someI' hh
   cases hh
   obtain⟨v,vs',rfl,hv1,hv2⟩:=All2.cons_left hv
   obtain⟨t1,t2,rfl,hk1,hk2⟩:=List.map_eq_append_iff.1 hk
   obtain⟨A1,A2,rfl,hA1,hA2⟩:=All2.split hA
   refine⟨v,vs',fps A1,fps A2,rfl,fps_append _ _, ?_,ufLs_ok ok hw h4 hv2 hk2 (λx hx=>hit x (List.mem_append_right _ hx)) hA2 λA hA=>hw' A (List.mem_append_right _ hA)⟩
   show OneR S w (esH es) t y v (fps A1)
   exact ufL_ok ok hw h3 hv1 hk1 (λx hx=>hit x (List.mem_append_left _ hx)) hA1 λA hA=>hw' A (List.mem_append_left _ hA)
  ·cases hh
 |_,[],_::_,_,_,_,_,_,hh,_,_,_,_,_=>by cases hh
 |_,_::_,[],_,_,_,_,_,hh,_,_,_,_,_=>by cases hh
theorem row_of{A:Option Addr}{b c e sz n:Nat}{cs ex:List Value}(ha:A=some ⟨b,0,none⟩)(hh:w.heap[b]? =some (.cells (cs++ex).toArray e (0,0)))(hl:cs.length=n*sz)(hc:(cs++ex).length=c*sz)(hn:n≤c)(hm:c≤maxLen):(Asn.row A c e sz n cs).holds w:=by
 subst ha
 refine⟨hl,.inr ⟨b,c,_,rfl,Nat.zero_le _,hh,hn,hm,by simpa using hc, ?_⟩⟩
 simp only[←hl]
 exact List.take_left
end
section
variable {P : Program} {S : Tab} {R : Type}
def lookD:List (TypeId×List (Option TypeId))→TypeId→Option (List (Option TypeId))
 |[],_=>none
 |(e,es)::r,t=>match Nat.beq e t with
  |true=>some es
  |false=>lookD r t
def opBuildD(P:Program)(S:Tab)(D:List (TypeId×List (Option TypeId)))(ty:TypeId→Option Ty)(ev:Ev S.τ):Op→Option (Nat×List (Option TypeId)×(t:Ty)×Dn S.τ t)
 | .buildSlice t 1 parts=>match P.underlying t with
  |some (.slice e)=>match lookD D e with
   |some es=>match P.info? e,partsOf ev parts.toList,ty e with
    |some i,some ps,some u=>match i.zero,Nat.ble (1*i.size) (2^24),Nat.beq i.size (S.sz u),fillL (λk=>some (k*i.size,i.size)) (List.replicate (1*i.size) .un) ps with
     |some _,true,true,some xs=>match ufLs S (λ_=>none) es (S.lvs u) xs with
      |some (h,[])=>some (e,es,⟨u,S.mkT u h⟩)
      |_=>none
     |_,_,_,_=>none
    |_,_,_=>none
   |none=>none
  |_=>none
 |_=>none
theorem opBuildD_sound(ok:TabOk S){D:List (TypeId×List (Option TypeId))}{ty:TypeId→Option Ty}{o:Oper}{ev:Ev S.τ}{it:Nat→Option (Item S.τ)}{nx:Nat}{e:TypeId}{es:List (Option TypeId)}{t:Ty}{y:Dn S.τ t}(h:opBuildD P S D ty ev o.op=some (e,es,⟨t,y⟩)):LocSem P S o ev it nx ⟨.v (.one (.own nx)),[],[(nx,.deep e t es none [y])],[],1⟩:=by
 unfold opBuildD at h
 split at h
 ·rename_i tt parts hop
  split at h
  ·rename_i e' hu
   split at h
   ·rename_i es' hD
    split at h
    ·rename_i i ps u hi hps hty
     split at h
     ·rename_i z xs hz hb hsz hf
      split at h
      ·rename_i hh huf
       simp only[Option.some.injEq,Prod.mk.injEq,Sigma.mk.injEq] at h
       obtain⟨rfl,rfl,rfl,h⟩:=h
       have h:=eq_of_heq h
       subst h
       intro a w R ρ Ps At Au tk us hd hev htk hus hit hAt hAu hst hn K Q hK
       have e0:tk=[]:=List.map_eq_nil_iff.1 htk
       subst e0
       have e0:=All2.nil_left hAt
       subst e0
       have e0:us=[]:=List.map_eq_nil_iff.1 hus
       subst e0
       have e0:=All2.nil_left hAu
       subst e0
       have h0:All2 (RelLf S ρ Ps) (List.replicate (1*i.size) .un) ((Array.range (1*i.size)).map ((if 1*i.size=0 then #[] else z.cells)[· % (if 1*i.size=0 then #[] else z.cells).size]!)).toList:=by
        have:=un_all (S:=S) (ρ:=ρ) (Ps:=Ps) ((Array.range (1*i.size)).map ((if 1*i.size=0 then #[] else z.cells)[· % (if 1*i.size=0 then #[] else z.cells).size]!)).toList
        rwa[Array.length_toList,Array.size_map,Array.size_range] at this
       obtain⟨ds,hds,hr⟩:=fill_rel ps _ _ xs _ hf h0 (partsOf_rel hev hps)
       have hpm:(parts.map fun(x:Nat×Operand)=>(x.1,a.eval x.2)).toList=parts.toList.map λx=>(x.1,a.eval x.2):=by simp
       have hrun:=newOp_build (ev:=a.eval) hop hu hi hz (Nat.le_of_ble_eq_true hb) (by rw[hpm];exact hds) w
       have hlv:=ufLs_ok (P:=P) (w:=w) ok (λp hp=>(hst.per p hp).here) huf hr (tk:=[]) (At:=[]) rfl (by simp) trivial (by simp)
       have hlen:ds.toList.length=S.sz u:=(LvR.rep ok hlv).len
       have hg:Grow ρ (ghost ρ nx ⟨some ⟨w.heap.size,0,none⟩,1,1,0,noJ,noS⟩) nx 1:=ghost_grow (hn nx (Nat.le_refl _) (Nat.lt_succ_self nx))
       unfold wpX
       rw[hrun]
       have he:=Ext.alloc w (.cells ds e')
       have hA:(Asn.row (some ⟨w.heap.size,0,none⟩) 1 e' (S.sz u) 1 (ds.toList++[])).holds (w.alloc (.cells ds e')):=by
        refine row_of (ex:=[]) rfl ?_ ?_ ?_ (Nat.le_refl _) (by simp[maxLen])
        ·rw[List.append_nil,List.append_nil,Array.toArray_toList];exact heap_alloc_new w _
        ·rw[List.append_nil,hlen,Nat.one_mul]
        ·rw[List.append_nil,List.append_nil,hlen,Nat.one_mul]
       have hd':DeepR S (w.alloc (.cells ds e')) u es' [S.mkT u hh] ds.toList []:=by
        rw[DeepR.one,getT_mkT ok]
        exact hlv.same ok (by simp[fps])
       have h2:=St.new (A:=deepA S ⟨some ⟨w.heap.size,0,none⟩,1,1,0,noJ,noS⟩ e' u es' [S.mkT u hh] ds.toList (ds.toList++[]) []) hst he (deepA_of ok hA hd') (λb hb=>by simp[deepA,Asn.fp] at hb;subst hb;simp) (by simp[deepA,Asn.fp])
       refine hK _ _ (ghost ρ nx ⟨some ⟨w.heap.size,0,none⟩,1,1,0,noJ,noS⟩) Ps [deepA S ⟨some ⟨w.heap.size,0,none⟩,1,1,0,noJ,noS⟩ e' u es' [S.mkT u hh] ds.toList (ds.toList++[]) []] hg (λp hp=>hp) ⟨_,ghost_at,rfl⟩ ⟨⟨_,ds.toList,[],[],ghost_at,rfl,rfl,Nat.le_refl _,.inl ⟨rfl,rfl⟩⟩,trivial⟩ h2 (Keep.ofExt he) ?_
       intro b hb
       simp[fps,deepA,Asn.fp] at hb;subst hb;exact .inr (Nat.le_refl _)
      ·cases h
     ·cases h
    ·cases h
   ·cases h
  ·cases h
 ·cases h
end
end Go.Bur
