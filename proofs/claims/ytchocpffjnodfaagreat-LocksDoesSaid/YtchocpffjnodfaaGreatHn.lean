import Derived.Test.YtchocpffjnodfaaGreatTa
namespace Go.Bur
open Go.RowKit
set_option linter.unusedVariables false
set_option linter.unusedSimpArgs false
abbrev Raw(sz:Nat):Type:={l:List Value//l.length=sz∧∀v∈l,v.oneCell'=true}
@[reducible] def rawF(sz:Nat):Flat (Raw sz) where
 sz:=sz
 enc x:=x.1
 len x:=x.2.1
 one x:=x.2.2
section
variable {α : Type} {G : GoT α} {w : World} {m : Nat}
theorem reps_raw(hm:G.sz=m){cs:List Value}{l:List α}(h:Reps G w cs l):∃xs:List (Raw m),cs=xs.flatMap (rawF m).enc∧xs.length=l.length:=by
 subst hm
 induction h with
 |nil=>exact⟨[],rfl,rfl⟩
 |cons h1 _ ih=>
  obtain⟨xs,rfl,h2⟩:=ih
  exact⟨⟨_,G.len h1,G.one h1⟩::xs,by rw[List.flatMap_cons];rfl,by simp[h2]⟩
theorem reps_all(hm:G.sz=m):∀{xs:List (Raw m)} {l:List α},xs.length=l.length→Reps G w (xs.flatMap (rawF m).enc) l→All2 (λx y=>G.rep w x.1 y) xs l
 |[],[],_,_=>trivial
 |x::xs,y::l,hn,h=>by
  rw[List.flatMap_cons] at h
  generalize hc:(rawF m).enc x++xs.flatMap (rawF m).enc=cs at h
  cases h with
  |cons h1 h2=>
   obtain⟨e1,e2⟩:=List.append_inj hc (by rw[G.len h1,hm];exact x.2.1)
   subst e2
   refine⟨?_,reps_all hm (by simpa using hn) h2⟩
   show G.rep w ((rawF m).enc x) y
   rw[e1];exact h1
theorem all_reps:∀{xs:List (Raw m)} {l:List α},All2 (λx y=>G.rep w x.1 y) xs l→Reps G w (xs.flatMap (rawF m).enc) l
 |[],[],_=> .nil
 |x::xs,y::l,h=>by
  rw[List.flatMap_cons]
  exact .cons h.1 (all_reps h.2)
end
def keepF{α:Type}(l:List α)(bs:List Bool):List α:=((l.zip bs).filter λp=> !p.2).map (·.1)
theorem keepF_cons{α:Type}{x:α}{l:List α}{y:Bool}{bs:List Bool}:keepF (x::l) (y::bs)=cond y (keepF l bs) (x::keepF l bs):=by
 unfold keepF
 rw[List.zip_cons_cons,List.filter_cons]
 cases y<;>rfl
theorem keepF_all{α:Type}:∀{l:List α} {bs:List Bool},bs.length=l.length→(∀y∈bs,y=false)→keepF l bs=l
 |[],_,_,_=>rfl
 |x::l,[],h,_=>by cases h
 |x::l,y::bs,h,hb=>by
  rw[keepF_cons,hb y (List.mem_cons_self ..),keepF_all (by simpa using h) λz hz=>hb z (List.mem_cons_of_mem _ hz)]
  rfl
theorem keepF_snoc{α:Type}{x:α}{y:Bool}:∀{l:List α} {bs:List Bool},bs.length=l.length→keepF (l++[x]) (bs++[y])=keepF l bs++cond y [] [x]
 |[],[],_=>by cases y<;>rfl
 |[],_::_,h=>by cases h
 |_::_,[],h=>by cases h
 |z::l,u::bs,h=>by
  rw[List.cons_append,List.cons_append,keepF_cons,keepF_cons,keepF_snoc (by simpa using h)]
  cases u<;>rfl
theorem wrap_s{i:Nat}(h:i<4611686018427387904):IntKind.wrap .i64 ((i:Int)+1)=((i+1:Nat):Int):=by rw[IntKind.wrap_i64];omega
theorem Sy.env4{C:Cx}{n:Nat}{a:Act}{w:World}{As:List Asn}{Ps:List (World→Prop)}{x0 x1 x5 x6 x7 x29:Value}(h:Sy C n a w [(0,x0),(1,x1),(5,x5),(6,x6),(7,x7),(29,x29)] As Ps):Sy C n a w [(0,x0),(1,x1),(5,x5),(6,x6)] As Ps:=⟨h.has.keep [0,1,5,6] rfl,h.st,h.keep,h.old⟩
theorem Meets.carry{P:Program}{g:FuncId}{args:Array Value}{As:List Asn}{Q:Value→List Asn→List (World→Prop)→Prop}(h:Meets P g args As [] Q){R:List Nat}{w:World}{Ps:List (World→Prop)}(hst:St R w As Ps):
  Calls P g args w λe w'=>∃v A' P',e= .returned v∧Q v A' P'∧Keep (fps As) w w'∧St R w' A' Ps∧∀b∈fps A',b∈fps As∨w.heap.size≤b:=by
 have h0:St R w As []:=⟨hst.own,hst.lt,hst.nd,(λp hp=>by cases hp),hst.gl⟩
 refine Calls.mono (h.2 R w h0) λe w' ⟨v,A',P',h1,h2,h3,h4,h5⟩=>⟨v,A',P',h1,h2,h3,⟨h4.own,h4.lt,h4.nd,λp hp=> ?_,h4.gl⟩,h5⟩
 refine(hst.per p hp).step h3 (λx hx=> .inl (List.mem_append_right _ hx)) λx hx=> ?_
 rcases List.mem_append.1 hx with hx|hx
 ·exact .inl (List.mem_append_left _ hx)
 ·rcases h5 x hx with h6|h6
  ·exact .inl (List.mem_append_right _ h6)
  ·exact .inr h6
def insL{α:Type}(bytes:Nat)(p0:List α)(p1:Int)(p2:List α):Option (List α):=if 0≤p1∧p1≤(p0.length:Int) then(match room (p0.length+p2.length) bytes with|true=>some (p0.take p1.toNat++p2++p0.drop p1.toNat)|false=>none) else none
section
variable (S : Tab)
@[reducible] def insCt(g e bytes:Nat)(t:Ty):Ct S:=⟨g,[.one (.own 0),.one (.d (.int .i64)),.one (.own 1)],[.row e t,.row e t],[.one (.own 0)],[(none,.row e t)],List (Dn S.τ t),λy=>(y,()),λy=>y.1,λ_=>rfl,λn x=>insL bytes x.2.1 x.1 x.2.2.1⟩
end
section
variable {P : Program} {S : Tab} {ρ : Rho} {Ps : List (World → Prop)} {R : List Nat} {w : World} {m : Nat}
theorem row_raw(ok:TabOk S){As:List Asn}(hst:St R w As Ps){k e:Nat}{t:Ty}(hm:S.sz t=m){l:List (Dn S.τ t)}{A:Asn}(hA:RelItem S ρ Ps P (k,.row e t l) A):
  ∃(g:Gh) (xs:List (Raw m)),ρ k=some g∧A=rowF (rawF m) e g.a g.c xs∧xs.length=l.length∧g.n=xs.length∧RepsB (S.GT t) (xs.flatMap (rawF m).enc) l∈Ps:=by
 obtain⟨g,cs,h1,rfl,h2,h3⟩:=hA
 have hz:=(sz_eq ok t).trans hm
 obtain⟨xs,rfl,h4⟩:=reps_raw hz (hst.per _ h3).here
 exact⟨g,xs,h1,by rw[h2,hm,←h4];rfl,h4,by rw[h2,h4],h3⟩
theorem row_back(ok:TabOk S){t:Ty}(hm:S.sz t=m){e:Nat}{a:Option Addr}{c:Nat}{xs:List (Raw m)}{l:List (Dn S.τ t)}{F:List Nat}{w0 w':World}(hn:xs.length=l.length)
  (hst:St R w' [rowF (rawF m) e a c xs] Ps) (hr:∀w2,(∀p∈Ps,p w2)→Reps (S.GT t) w2 (xs.flatMap (rawF m).enc) l) {c':Ct S} {ρ:Rho} {y:PVsT S.τ c'.rv (PIsT S.τ (c'.ri.map (·.2)) Unit)}
  (h1:(putVs S (λj=>j) c'.rv y).1=[.one (.own 0)]) (h2:(putIs S (λj=>j) (c'.ri.map (·.2)) (putVs S (λj=>j) c'.rv y).2).1=[.row e t l]) (h3:c'.ri=[(none,.row e t)]):
  ∃ρ' As' Ps',ResOk P S c' ρ y (.slice a xs.length c) As' ρ' Ps'∧St R w' As' Ps'∧As'=[rowF (rawF m) e a c xs]:=by
 refine⟨λk=>match k with|0=>some ⟨a,c,xs.length,0,noJ,noS⟩|_+1=>none,[rowF (rawF m) e a c xs],RepsB (S.GT t) (xs.flatMap (rawF m).enc) l::Ps,⟨?_, ?_, ?_, ?_⟩, ?_,rfl⟩
 ·rw[h1];exact⟨_,rfl,rfl⟩
 ·rw[h2];exact⟨⟨_,_,rfl,by rw[hm];rfl,hn,List.mem_cons_self ..⟩,trivial⟩
 ·intro r g hg
  rw[h3]
  cases r with
  |zero=>exact Nat.zero_lt_one
  |succ r=>cases hg
 ·intro r j p g hj
  rw[h3] at hj
  cases r with
  |zero=>simp at hj
  |succ r=>simp at hj
 ·refine hst.addPs (ps:=[RepsB (S.GT t) (xs.flatMap (rawF m).enc) l]) λp hp w2 hk=> ?_
  simp only[List.mem_singleton] at hp
  subst hp
  exact hr w2 λp hp=>hst.per p hp w2 hk
theorem ins_ok(ok:TabOk S){g e bytes:Nat}{t:Ty}(hm:S.sz t=m)
  (hc:∀args w,(callFunc g args).run P w= .ok (.enter g args) w)
  (h:∀{a0:Option Addr} {c0:Nat} {a2:Option Addr} {c2:Nat} (p0:List (Raw m)) (p1:Int) (p2:List (Raw m)) (r:List (Raw m)),insL bytes p0 p1 p2=some r→Meets P g #[.slice a0 p0.length c0,.int .i64 p1,.slice a2 p2.length c2] [rowF (rawF m) e a0 c0 p0,rowF (rawF m) e a2 c2 p2] [] λv A P=>∃(a:Option Addr) (c:Nat),v= .slice a r.length c∧A=[rowF (rawF m) e a c r]∧P=[]):
  OkC P S (insCt S g e bytes t):=by
 refine⟨hc,λn x y hy R w ρ As Ps args hst hdom hargs hits=> ?_⟩
 obtain⟨p1,l,l2,u⟩:=x
 obtain⟨v0,_,rfl,hv0,hargs⟩:=hargs.cons_left
 obtain⟨v1,_,rfl,hv1,hargs⟩:=hargs.cons_left
 obtain⟨v2,_,rfl,hv2,hargs⟩:=hargs.cons_left
 obtain rfl:=hargs.nil_left
 obtain⟨A,_,rfl,hA,hits⟩:=hits.cons_left
 obtain⟨A2,_,rfl,hA2,hits⟩:=hits.cons_left
 obtain rfl:=hits.nil_left
 obtain⟨g',xs,hg,rfl,hn,hgn,hmem⟩:=row_raw ok hst hm hA
 obtain⟨g2',xs2,hg',rfl,hn2,hgn2,hmem2⟩:=row_raw ok hst hm hA2
 obtain⟨g2,hg2,hv0⟩:=hv0
 rw[hg] at hg2
 obtain rfl:=someI' hg2
 obtain⟨g3,hg3,hv2⟩:=hv2
 rw[hg'] at hg3
 obtain rfl:=someI' hg3
 have hv1:v1= .int .i64 p1:=hv1
 subst hv1
 have hy:insL bytes l p1 l2=some y:=hy
 unfold insL at hy
 split at hy
 ·rename_i hb
  split at hy
  ·rename_i hroom
   obtain rfl:=someI' hy
   have hn:xs.length=l.length:=hn
   have hn2:xs2.length=l2.length:=hn2
   have hr:insL bytes xs p1 xs2=some (xs.take p1.toNat++xs2++xs.drop p1.toNat):=by unfold insL;rw[if_pos (by rw[hn];exact hb),hn,hn2,hroom]
   have hv0:v0= .slice g'.a xs.length g'.c:=by rw[hv0,hgn]
   have hv2:v2= .slice g2'.a xs2.length g2'.c:=by rw[hv2,hgn2]
   subst hv0 hv2
   refine Calls.mono ((h xs p1 xs2 _ hr).carry hst) λe' w' ⟨v,A',P',h1,⟨a,c,h2,h3,h4⟩,h5,h6,h7⟩=> ?_
   subst h2 h3
   have hall:=λw2 (hp:∀p∈Ps,p w2)=>reps_all ((sz_eq ok t).trans hm) hn (hp _ hmem)
   obtain⟨ρ',As',Ps',k1,k2,k3⟩:=row_back (P:=P) (c':=insCt S g e bytes t) (ρ:=ρ) (y:=(l.take p1.toNat++l2++l.drop p1.toNat,())) ok hm (w0:=w) (F:=[]) (by simp only[List.length_append,List.length_take,List.length_drop,hn,hn2]) h6 (λw2 hp=>all_reps (All2.app (All2.app ((hall w2 hp).take _) (reps_all ((sz_eq ok t).trans hm) hn2 (hp _ hmem2))) ((hall w2 hp).drop _))) rfl rfl rfl
   subst k3
   exact⟨_,ρ',_,Ps',h1,k1,h5,k2,h7⟩
  ·cases hy
 ·cases hy
abbrev El(S:Tab)(t:Ty)(m:Nat):Type:=Raw m×Dn S.τ t×List Nat
def ElOk(S:Tab)(t:Ty)(es:List (Option TypeId))(w:World)(y:El S t m):Prop:=LvR S w (S.lvs t) es (S.getT t y.2.1) y.1.1 y.2.2
theorem LvR.oneCell{w:World}:∀{ts:List Ty} {es:List (Option TypeId)} {h:HL S.τ ts} {vs:List Value} {F:List Nat},LvR S w ts es h vs F→∀v∈vs,v.oneCell'=true
 |[],_,_,_,_,⟨h,_⟩,v,hv=>by subst h;cases hv
 |t::ts,es,h,vs,F,⟨u,vs',F1,F2,e1,e2,h1,h2⟩,v,hv=>by
  subst e1
  rcases List.mem_cons.1 hv with rfl|hv
  ·generalize esH es=eo at h1
   match eo,t,h,h1 with
   |some e,.sl t',h,⟨_,a,c,cs,h3,_⟩=>rw[h3];rfl
   |none,t',h,⟨hf,h3,_⟩=>
    cases t' with
    |int k=>rw[show v=_ from h3];rfl
    |bool=>rw[show v=_ from h3];rfl
    |str=>rw[show v=_ from h3];rfl
    |fnc g=>rw[show v=_ from h3];rfl
    |st i=>exact h3.elim
    |sl e=>cases hf
    |mp e=>cases hf
   |some _,.int _,_,h1=>exact h1.elim
   |some _,.bool,_,h1=>exact h1.elim
   |some _,.str,_,h1=>exact h1.elim
   |some _,.fnc _,_,h1=>exact h1.elim
   |some _,.st _,_,h1=>exact h1.elim
   |some _,.mp _,_,h1=>exact h1.elim
  ·exact LvR.oneCell h2 v hv
theorem deep_els(ok:TabOk S){t:Ty}(hm:S.sz t=m){es:List (Option TypeId)}:∀{l:List (Dn S.τ t)} {cs:List Value} {F:List Nat},DeepR S w t es l cs F→∃ys:List (El S t m),cs=(ys.map (·.1)).flatMap (rawF m).enc∧l=ys.map (·.2.1)∧F=ys.flatMap (·.2.2)∧∀y∈ys,ElOk S t es w y
 |[],_,_,⟨h1,h2⟩=>⟨[],h1,rfl,h2,by simp⟩
 |x::l,cs,F,⟨c,cs',F1,F2,e1,e2,h1,h2⟩=>by
  obtain⟨ys,g1,g2,g3,g4⟩:=deep_els ok hm h2
  refine⟨(⟨c,by rw[(LvR.rep ok h1).len,←hm];rfl,h1.oneCell⟩,x,F1)::ys,by rw[e1,g1];rfl,by rw[g2];rfl,by rw[e2,g3];rfl,λy hy=> ?_⟩
  rcases List.mem_cons.1 hy with rfl|hy
  ·exact h1
  ·exact g4 y hy
theorem els_deep{t:Ty}{es:List (Option TypeId)}:∀{ys:List (El S t m)},(∀y∈ys,ElOk S t es w y)→DeepR S w t es (ys.map (·.2.1)) ((ys.map (·.1)).flatMap (rawF m).enc) (ys.flatMap (·.2.2))
 |[],_=>⟨rfl,rfl⟩
 |y::ys,h=>⟨y.1.1,_,y.2.2,_,rfl,rfl,h y (List.mem_cons_self ..),els_deep λz hz=>h z (List.mem_cons_of_mem _ hz)⟩
def innA(S:Tab)(t:Ty)(es:List (Option TypeId))(ys:List (El S t m)):Asn:= .any (ys.flatMap (·.2.2)) λw=>∀y∈ys,ElOk S t es w y
theorem innA_of(ok:TabOk S){t:Ty}{es:List (Option TypeId)}{ys:List (El S t m)}(h:∀y∈ys,ElOk S t es w y):(innA S t es ys).holds w:=λw' hk y hy=>(h y hy).same ok λk hm=>hk k (List.mem_flatMap.2 ⟨y,hy,hm⟩)
theorem innA_at{t:Ty}{es:List (Option TypeId)}{ys:List (El S t m)}(h:(innA S t es ys).holds w):∀y∈ys,ElOk S t es w y:=h w λ_ _=>rfl
theorem deep_apart(ok:TabOk S){t:Ty}(hm:S.sz t=m){k e:Nat}{es:List (Option TypeId)}{l:List (Dn S.τ t)}{A:Asn}{As:List Asn}(hst:St R w (A::As) Ps)(hA:RelItem S ρ Ps P (k,.deep e t es none l) A):
  ∃(g:Gh) (ys:List (El S t m)),ρ k=some g∧l=ys.map (·.2.1)∧g.n=ys.length∧(∀y∈ys,ElOk S t es w y)∧A.fp=(rowF (rawF m) e g.a g.c (ys.map (·.1))).fp++ys.flatMap (·.2.2)∧St R w (rowF (rawF m) e g.a g.c (ys.map (·.1))::innA S t es ys::As) Ps:=by
 obtain⟨g,c1,c2,F,hg,rfl,hn,_,hsh⟩:=hA
 simp only[mOf,List.take_length,List.drop_length] at hsh hst
 have hc2:c2=[]:=by
  rcases hsh with h|h
  ·exact h.2
  ·have:=(hst.per _ h).here
   cases this
   rfl
 subst hc2
 obtain⟨d1,d2⟩:=deepA_at (hst.own _ (List.mem_cons_self ..))
 obtain⟨ys,e1,e2,e3,e4⟩:=deep_els ok hm d2
 have hlen:l.length=ys.length:=by rw[e2,List.length_map]
 have hrow:Asn.row g.a g.c e (S.sz t) g.n (c1++[])=rowF (rawF m) e g.a g.c (ys.map (·.1)):=by
  rw[List.append_nil,e1,hm,hn,hlen]
  unfold rowF
  rw[List.length_map];rfl
 have hfp:(deepA S g e t es l c1 (c1++[]) F).fp=(rowF (rawF m) e g.a g.c (ys.map (·.1))).fp++ys.flatMap (·.2.2):=by
  rw[←hrow,←e3];rfl
 refine⟨g,ys,hg,e2,by rw[hn,hlen],e4,by simpa[mOf] using hfp, ?_⟩
 refine St.re (Bs:=[deepA S g e t es l c1 (c1++[]) F]) (Cs:=[rowF (rawF m) e g.a g.c (ys.map (·.1)),innA S t es ys]) hst (λC hC=> ?_) ?_
 ·simp only[List.mem_cons,List.not_mem_nil,or_false] at hC
  rcases hC with rfl|rfl
  ·rw[←hrow];exact d1
  ·exact innA_of ok e4
 ·have h5:∀X Y:Asn,fps [X,Y]=X.fp++Y.fp:=λX Y=>by simp[fps]
  have h6:∀X:Asn,fps [X]=X.fp:=λX=>by simp[fps]
  rw[h5,h6,hfp]
  exact List.Perm.refl _
theorem deep_back(ok:TabOk S){t:Ty}(hm:S.sz t=m){e:Nat}{es:List (Option TypeId)}{a:Option Addr}{c:Nat}{ys:List (El S t m)}{w':World}(hst:St R w' [rowF (rawF m) e a c (ys.map (·.1)),innA S t es ys] Ps)
  {c':Ct S} {ρ:Rho} {y:PVsT S.τ c'.rv (PIsT S.τ (c'.ri.map (·.2)) Unit)} (h1:(putVs S (λj=>j) c'.rv y).1=[.one (.own 0)]) (h2:(putIs S (λj=>j) (c'.ri.map (·.2)) (putVs S (λj=>j) c'.rv y).2).1=[.deep e t es none (ys.map (·.2.1))]) (h3:c'.ri=[(none,.deep e t es)]):
  ∃ρ' As',ResOk P S c' ρ y (.slice a ys.length c) As' ρ' Ps∧St R w' As' Ps∧(fps As').Perm (fps [rowF (rawF m) e a c (ys.map (·.1)),innA S t es ys]):=by
 have h0:=hst.own (rowF (rawF m) e a c (ys.map (·.1))) (by simp)
 have h4:=innA_at (hst.own (innA S t es ys) (by simp))
 have hd:=els_deep h4
 have hrow:rowF (rawF m) e a c (ys.map (·.1))=Asn.row a c e (S.sz t) ys.length ((ys.map (·.1)).flatMap (rawF m).enc):=by
  unfold rowF;rw[hm,List.length_map];rfl
 have hfp:(fps [deepA S ⟨a,c,ys.length,0,noJ,noS⟩ e t es ((ys.map (·.2.1)).take (mOf none (ys.map (·.2.1)))) ((ys.map (·.1)).flatMap (rawF m).enc) (((ys.map (·.1)).flatMap (rawF m).enc)++[]) (ys.flatMap (·.2.2))]).Perm (fps [rowF (rawF m) e a c (ys.map (·.1)),innA S t es ys]):=by
  simp only[fps,List.flatMap_cons,List.flatMap_nil,List.append_nil]
  rw[hrow]
  exact List.Perm.refl _
 refine⟨λk=>match k with|0=>some ⟨a,c,ys.length,0,noJ,noS⟩|_+1=>none,[deepA S ⟨a,c,ys.length,0,noJ,noS⟩ e t es ((ys.map (·.2.1)).take (mOf none (ys.map (·.2.1)))) ((ys.map (·.1)).flatMap (rawF m).enc) (((ys.map (·.1)).flatMap (rawF m).enc)++[]) (ys.flatMap (·.2.2))],⟨?_, ?_, ?_, ?_⟩, ?_,hfp⟩
 ·rw[h1];exact⟨_,rfl,rfl⟩
 ·rw[h2];exact⟨⟨_,_,[],_,rfl,rfl,by rw[List.length_map],Nat.le_refl _,.inl ⟨by simp[mOf],rfl⟩⟩,trivial⟩
 ·intro r g hg
  rw[h3]
  cases r with
  |zero=>exact Nat.zero_lt_one
  |succ r=>cases hg
 ·intro r j p g hj
  rw[h3] at hj
  cases r with
  |zero=>simp at hj
  |succ r=>simp at hj
 ·have hst2:St R w' ([rowF (rawF m) e a c (ys.map (·.1)),innA S t es ys]++[]) Ps:=by simpa using hst
  have:=St.re (Cs:=[deepA S ⟨a,c,ys.length,0,noJ,noS⟩ e t es ((ys.map (·.2.1)).take (mOf none (ys.map (·.2.1)))) ((ys.map (·.1)).flatMap (rawF m).enc) (((ys.map (·.1)).flatMap (rawF m).enc)++[]) (ys.flatMap (·.2.2))]) hst2 (λC hC=>by
   rw[List.mem_singleton] at hC
   subst hC
   refine deepA_of ok ?_ ?_
   ·rw[List.append_nil,←hrow];exact h0
   ·simp only[mOf,List.take_length];exact hd) hfp
  simpa using this
@[reducible] def insCtD(S:Tab)(g e bytes:Nat)(t:Ty)(es:List (Option TypeId)):Ct S:=⟨g,[.one (.own 0),.one (.d (.int .i64)),.one (.own 1)],[.deep e t es,.deep e t es],[.one (.own 0)],[(none,.deep e t es)],List (Dn S.τ t),λy=>(y,()),λy=>y.1,λ_=>rfl,λn x=>insL bytes x.2.1 x.1 x.2.2.1⟩
theorem ins_okD(ok:TabOk S){g e bytes:Nat}{t:Ty}{es:List (Option TypeId)}(hm:S.sz t=m)
  (hc:∀args w,(callFunc g args).run P w= .ok (.enter g args) w)
  (h:∀{a0:Option Addr} {c0:Nat} {a2:Option Addr} {c2:Nat} (p0:List (Raw m)) (p1:Int) (p2:List (Raw m)) (r:List (Raw m)),insL bytes p0 p1 p2=some r→Meets P g #[.slice a0 p0.length c0,.int .i64 p1,.slice a2 p2.length c2] [rowF (rawF m) e a0 c0 p0,rowF (rawF m) e a2 c2 p2] [] λv A P=>∃(a:Option Addr) (c:Nat),v= .slice a r.length c∧A=[rowF (rawF m) e a c r]∧P=[]):
  OkC P S (insCtD S g e bytes t es):=by
 refine⟨hc,λn x y hy R w ρ As Ps args hst hdom hargs hits=> ?_⟩
 obtain⟨p1,l,l2,u⟩:=x
 obtain⟨v0,_,rfl,hv0,hargs⟩:=hargs.cons_left
 obtain⟨v1,_,rfl,hv1,hargs⟩:=hargs.cons_left
 obtain⟨v2,_,rfl,hv2,hargs⟩:=hargs.cons_left
 obtain rfl:=hargs.nil_left
 obtain⟨A,_,rfl,hA,hits⟩:=hits.cons_left
 obtain⟨A2,_,rfl,hA2,hits⟩:=hits.cons_left
 obtain rfl:=hits.nil_left
 obtain⟨g1,ys,hg,hl,hgn,hy1,hf1,hst1⟩:=deep_apart (P:=P) ok hm hst hA
 obtain⟨g2,zs,hg2,hl2,hgn2,hy2,hf2,hst2⟩:=deep_apart (P:=P) ok hm (hst1.perm (List.perm_append_comm (l₁:=[_,_]) (l₂:=[A2]))) hA2
 have hst3:St R w ([rowF (rawF m) e g1.a g1.c (ys.map (·.1)),rowF (rawF m) e g2.a g2.c (zs.map (·.1))]++([]++[innA S t es ys,innA S t es zs])) Ps:=
  (hst2.perm (List.perm_append_comm (l₁:=[_,_]) (l₂:=[_,_]))).perm ((List.Perm.swap _ _ _).cons _)
 obtain⟨g0,hg0,hv0⟩:=hv0
 rw[hg] at hg0
 obtain rfl:=someI' hg0
 obtain⟨g3,hg3,hv2⟩:=hv2
 rw[hg2] at hg3
 obtain rfl:=someI' hg3
 have hv1:v1= .int .i64 p1:=hv1
 subst hv1
 have hy:insL bytes l p1 l2=some y:=hy
 unfold insL at hy
 split at hy
 ·rename_i hb
  split at hy
  ·rename_i hroom
   obtain rfl:=someI' hy
   subst hl hl2
   have hn:(ys.map (·.1)).length=(ys.map (·.2.1)).length:=by rw[List.length_map,List.length_map]
   have hn2:(zs.map (·.1)).length=(zs.map (·.2.1)).length:=by rw[List.length_map,List.length_map]
   have hr:insL bytes (ys.map (·.1)) p1 (zs.map (·.1))=some ((ys.take p1.toNat++zs++ys.drop p1.toNat).map (·.1)):=by
    unfold insL
    rw[if_pos (by rw[hn];exact hb),hn,hn2,hroom]
    simp only[List.map_append,List.map_take,List.map_drop]
   have hv0:v0= .slice g1.a (ys.map (·.1)).length g1.c:=by rw[hv0,hgn,List.length_map]
   have hv2:v2= .slice g2.a (zs.map (·.1)).length g2.c:=by rw[hv2,hgn2,List.length_map]
   subst hv0 hv2
   have hl:=hst3.lend (Pg:=[]) (λp hp=>by cases hp)
   refine Calls.mono ((h _ p1 _ _ hr).2 _ w hl) λe' w' ⟨v,A',P',h1,⟨a,c,h2,h3,h4⟩,h5,h6,h7⟩=> ?_
   subst h2 h3
   obtain⟨hback,_⟩:=hst3.back h6 h5 h7
   have hq:∀z∈ys.take p1.toNat++zs++ys.drop p1.toNat,z∈ys∨z∈zs:=λz hz=>by
    simp only[List.mem_append] at hz
    rcases hz with(hz|hz)|hz
    ·exact .inl (List.mem_of_mem_take hz)
    ·exact .inr hz
    ·exact .inl (List.mem_of_mem_drop hz)
   have hi1:=innA_at (hback.own (innA S t es ys) (by simp))
   have hi2:=innA_at (hback.own (innA S t es zs) (by simp))
   have hfpi:(fps [innA S t es (ys.take p1.toNat++zs++ys.drop p1.toNat)]).Perm (fps [innA S t es ys,innA S t es zs]):=by
    have h5:∀X Y:Asn,fps [X,Y]=X.fp++Y.fp:=λX Y=>by simp[fps]
    have h6:∀X:Asn,fps [X]=X.fp:=λX=>by simp[fps]
    rw[h5,h6]
    show(List.flatMap _ _).Perm (ys.flatMap (·.2.2)++zs.flatMap (·.2.2))
    have e1:ys.flatMap (·.2.2)=(ys.take p1.toNat).flatMap (·.2.2)++(ys.drop p1.toNat).flatMap (·.2.2):=by rw[←List.flatMap_append,List.take_append_drop]
    rw[e1,List.flatMap_append,List.flatMap_append,List.perm_iff_count]
    intro x
    simp only[List.count_append]
    omega
   have hst4:St R w' [rowF (rawF m) e a c ((ys.take p1.toNat++zs++ys.drop p1.toNat).map (·.1)),innA S t es (ys.take p1.toNat++zs++ys.drop p1.toNat)] Ps:=by
    have h8:=hback.perm (List.perm_append_comm (l₁:=[_]) (l₂:=[innA S t es ys,innA S t es zs]))
    have h9:=St.re (Cs:=[innA S t es (ys.take p1.toNat++zs++ys.drop p1.toNat)]) h8 (λC hC=>by
     rw[List.mem_singleton] at hC
     subst hC
     exact innA_of ok λz hz=>(hq z hz).elim (hi1 z) (hi2 z)) hfpi
    exact h9.perm (List.Perm.swap _ _ _)
   obtain⟨ρ',As',k1,k2,k3⟩:=deep_back (P:=P) (c':=insCtD S g e bytes t es) (ρ:=ρ) (y:=((ys.take p1.toNat++zs++ys.drop p1.toNat).map (·.2.1),())) ok hm hst4 rfl rfl rfl
   have hsub:∀b∈fps [rowF (rawF m) e g1.a g1.c (ys.map (·.1)),rowF (rawF m) e g2.a g2.c (zs.map (·.1))],b∈fps [A,A2]:=λb hb=>by
    simp only[fps,List.flatMap_cons,List.flatMap_nil,List.append_nil,List.mem_append] at hb⊢
    rw[hf1,hf2]
    simp only[List.mem_append]
    rcases hb with hb|hb
    ·exact .inl (.inl hb)
    ·exact .inr (.inl hb)
   have e3:((ys.map (·.2.1)).take p1.toNat++zs.map (·.2.1)++(ys.map (·.2.1)).drop p1.toNat,())=((ys.take p1.toNat++zs++ys.drop p1.toNat).map (·.2.1),()):=by simp only[List.map_append,List.map_take,List.map_drop]
   refine⟨_,ρ',As',Ps,h1, ?_,h5.weak hsub,k2,λb hb=> ?_⟩
   ·have k1':=k1
    rw[←e3] at k1'
    have e4:(ys.take p1.toNat++zs++ys.drop p1.toNat).length=((ys.take p1.toNat++zs++ys.drop p1.toNat).map (·.1)).length:=by rw[List.length_map]
    rw[←e4]
    exact k1'
   ·have hb2:=k3.mem_iff.1 hb
    simp only[fps,List.flatMap_cons,List.flatMap_nil,List.append_nil,List.mem_append] at hb2
    rcases hb2 with hb2|hb2
    ·exact(h7 b (by simpa[fps] using hb2)).imp (hsub b) id
    ·refine .inl ?_
     obtain⟨z,hz1,hz2⟩:=List.mem_flatMap.1 (show b∈(ys.take p1.toNat++zs++ys.drop p1.toNat).flatMap (·.2.2) from hb2)
     simp only[fps,List.flatMap_cons,List.flatMap_nil,List.append_nil,List.mem_append]
     rw[hf1,hf2]
     simp only[List.mem_append]
     rcases hq z hz1 with h9|h9
     ·exact .inl (.inr (List.mem_flatMap.2 ⟨z,h9,hz2⟩))
     ·exact .inr (.inr (List.mem_flatMap.2 ⟨z,h9,hz2⟩))
  ·cases hy
 ·cases hy
def bsF{α:Type}(f:α→Option Bool):List α→Option (List Bool)
 |[]=>some []
 |x::l=>(f x).bind λb=>(bsF f l).bind λbs=>some (b::bs)
def fstOk(z:Int)(bs:List Bool):Bool:=(decide (z= -1)&&bs.all (!·))||(decide (0≤z)&&(match bs[z.toNat]? with|some b=>b|none=>false)&&(bs.take z.toNat).all (!·))
def delF{α:Type}(f:α→Option Bool)(z:Int)(l:List α):Option (List α):=(bsF f l).bind λbs=>if fstOk z bs=true∧l.length<4611686018427387904 then some (keepF l bs) else none
theorem bsF_len{α:Type}{f:α→Option Bool}:∀{l:List α} {bs:List Bool},bsF f l=some bs→bs.length=l.length
 |[],bs,h=>by obtain rfl:=someI' h;rfl
 |x::l,bs,h=>by
  obtain⟨b,_,h⟩:=bindS h
  obtain⟨bs',h2,h⟩:=bindS h
  obtain rfl:=someI' h
  rw[List.length_cons,List.length_cons,bsF_len h2]
theorem bsF_at{α:Type}{f:α→Option Bool}:∀{l:List α} {bs:List Bool},bsF f l=some bs→∀(j:Nat)(x:α)(b:Bool),l[j]? =some x→bs[j]? =some b→f x=some b
 |[],bs,h,j,x,b,h1,_=>by simp at h1
 |y::l,bs,h,j,x,b,h1,h3=>by
  obtain⟨b',hb,h⟩:=bindS h
  obtain⟨bs',h2,h⟩:=bindS h
  obtain rfl:=someI' h
  cases j with
  |zero=>
   simp at h1 h3
   subst h1 h3
   exact hb
  |succ j=>exact bsF_at h2 j x b (by simpa using h1) (by simpa using h3)
theorem fstOk_or{z:Int}{bs:List Bool}(h:fstOk z bs=true):(z= -1∧∀y∈bs,y=false)∨∃k:Nat,z=(k:Int)∧bs[k]? =some true∧∀y∈bs.take k,y=false:=by
 unfold fstOk at h
 simp only[Bool.or_eq_true,Bool.and_eq_true,decide_eq_true_eq,List.all_eq_true,Bool.not_eq_true'] at h
 rcases h with⟨h1,h2⟩|⟨⟨h1,h2⟩,h3⟩
 ·exact .inl ⟨h1,h2⟩
 ·refine .inr ⟨z.toNat,by omega, ?_,h3⟩
  cases hb:bs[z.toNat]? with
  |none=>rw[hb] at h2;cases h2
  |some b=>rw[hb] at h2;rw[show b=true from h2]
theorem All2.keepF{α β:Type}{R:α→β→Prop}:∀{xs:List α} {ys:List β} {bs:List Bool},All2 R xs ys→All2 R (Bur.keepF xs bs) (Bur.keepF ys bs)
 |[],[],_,_=>trivial
 |_::_,_::_,[],_=>trivial
 |x::xs,y::ys,b::bs,h=>by
  rw[keepF_cons,keepF_cons]
  cases b
  ·exact⟨h.1,All2.keepF h.2⟩
  ·exact All2.keepF h.2
theorem keepF_len{α β:Type}{xs:List α}{ys:List β}(h:xs.length=ys.length){bs:List Bool}:(keepF xs bs).length=(keepF ys bs).length:=
 (All2.keepF (R:=λ_ _=>True) (bs:=bs) (by
  induction xs generalizing ys with
  |nil=>cases ys with
   |nil=>trivial
   |cons _ _=>cases h
  |cons x xs ih=>cases ys with
   |nil=>cases h
   |cons y ys=>exact⟨trivial,ih (by simpa using h)⟩)).len
def isRoC:PC→Bool
 | .ro _=>true
 | .bx _=>false
def rho0:Rho:=λ_=>none
theorem ro_caps{ρ':Rho}:∀{cs:List PC} {r:Type} {x:PCsT S.τ cs r} {vs:List Value},cs.all isRoC=true→All2 (RelCap S ρ Ps) (putCs (λj=>j) cs x).1 vs→All2 (RelCap S ρ' Ps) (putCs (λj=>j) cs x).1 vs
 |[],_,_,vs,_,h=>by have:=All2.nil_left h;subst this;trivial
 | .ro t::cs,_,x,vs,hc,h=>by
  obtain⟨v,vs',rfl,h1,h2⟩:=All2.cons_left h
  exact⟨h1,ro_caps (by simpa[isRoC] using hc) h2⟩
 | .bx _::_,_,_,_,hc,_=>by simp[isRoC] at hc
theorem dlf_core(ok:TabOk S){i:Nat}{gi gd g e m:Nat}(hm:S.sz (.st i)=m){cv:List Value}{Pf:List (World→Prop)}{xs:List (Raw m)}{l:List (S.τ i)}{fd:S.τ i→Option Bool}{bs:List Bool}{z:Int}{a0:Option Addr}{c0:Nat}(hbs:bsF fd l=some bs)(hz:fstOk z bs=true)(hlt:l.length<4611686018427387904)(hn:xs.length=l.length)
  (hgi:∀args w,(callFunc gi args).run P w= .ok (.enter gi args) w) (hgd:∀args w,(callFunc gd args).run P w= .ok (.enter gd args) w)
  (hrep:∀(F:List Nat)(w:World),AllB F w Pf→Bx F w (λw=>Reps (S.GT (.st i)) w (xs.flatMap (rawF m).enc) l))
  (hI:∀(R:List Nat)(w:World)(Ps:List (World→Prop))(v:Value),(∀p∈Pf,p∈Ps)→St R w [] Ps→RelA1 S rho0 Ps (.one (.d (.sl (.st i)) l)) v→Calls P gi #[v,.func (.func gd) #[] cv.toArray] w λe w'=>e= .returned (.int .i64 z)∧Keep [] w w')
  (hD:∀(y:S.τ i)(b:Bool),fd y=some b→∀(R:List Nat)(w:World)(Ps:List (World→Prop))(v:Value),(∀p∈Pf,p∈Ps)→St R w [] Ps→RelA1 S rho0 Ps (canY S (.st i) y) v→Calls P gd (([v]++cv).toArray) w λe w'=>e= .returned (.bool b)∧Keep [] w w')
  (hraw:∀{a0:Option Addr} {c0 gd:Nat} {cv:List Value} {Pf PI:List (World→Prop)} (p0:List (Raw m)) (bs:List Bool) (hbl:bs.length=p0.length) (ix:Int)
   (hI:Meets P gi #[.slice a0 p0.length c0,.func (.func gd) #[] cv.toArray] [] PI λv A P=>v= .int .i64 ix∧A=[]∧P=[])
   (hPI:∀(F:List Nat)(w:World),AllB F w Pf→Bx F w (λw=>(rowF (rawF m) e a0 c0 p0).holds w)→AllB F w PI)
   (hix:(ix= -1∧∀y∈bs,y=false)∨∃k:Nat,ix=(k:Int)∧bs[k]? =some true∧∀y∈bs.take k,y=false)
   (hD:∀(j:Nat)(x:Raw m)(y:Bool),p0[j]? =some x→bs[j]? =some y→Meets P gd (([Value.agg x.1.toArray]++cv).toArray) [] Pf λv A P=>v= .bool y∧A=[]∧P=[]) (hsm:p0.length<4611686018427387904),
   Meets P g #[.slice a0 p0.length c0,.func (.func gd) #[] cv.toArray] [rowF (rawF m) e a0 c0 p0] Pf λv A P=>∃(a:Option Addr) (c:Nat),v= .slice a (keepF p0 bs).length c∧A=[rowF (rawF m) e a c (keepF p0 bs)]∧P=[]):
  Meets P g #[.slice a0 xs.length c0,.func (.func gd) #[] cv.toArray] [rowF (rawF m) e a0 c0 xs] Pf λv A P=>∃(a:Option Addr) (c:Nat),v= .slice a (keepF xs bs).length c∧A=[rowF (rawF m) e a c (keepF xs bs)]∧P=[]:=by
 have hszm:(S.GT (.st i)).sz=m:=(sz_eq ok _).trans hm
 have hall:∀l:List (World→Prop),∀(F:List Nat)(w:World),(∀p∈l,Bx F w p)→AllB F w l:=λl=>by
  induction l with
  |nil=>intro _ _ _;trivial
  |cons p r ih=>intro F w h;exact⟨h p (by simp),ih F w λq hq=>h q (by simp[hq])⟩
 refine hraw xs bs ((bsF_len hbs).trans hn.symm) z (PI:=RSg (S.GT (.st i)) a0 c0 l::Pf) ⟨hgi,λR w hst=> ?_⟩ (λF w h1 h2=>⟨λw' hk=> ?_,h1⟩) (fstOk_or hz) (λj x y hx hy=>⟨hgd,λR w hst=> ?_⟩) (by rw[hn];exact hlt)
 ·refine Calls.mono (hI R w _ (.slice a0 xs.length c0) (λp hp=>List.mem_cons_of_mem _ hp) hst ⟨a0,c0,by rw[hn],.inr (List.mem_cons_self ..)⟩) λe w' ⟨h1,h2⟩=>⟨_,[],[],h1,⟨rfl,rfl,rfl⟩,h2,⟨by simp,λb hb=>Nat.lt_of_lt_of_le (hst.lt b hb) h2.size,hst.nd,by simp,λp hp=>(hst.gl p hp).step h2 (by simp) λx hx=> .inl hx⟩,by simp[fps]⟩
 ·obtain⟨h3,h4,h5⟩:=row_cells (h2 w' hk)
  exact(hrep F w h1 w' hk).rs h3 (by omega) λhne=>h5 λe=>hne (List.eq_nil_of_length_eq_zero (by omega))
 ·have hbx:Bx (R++fps []) w (λw=>Reps (S.GT (.st i)) w (xs.flatMap (rawF m).enc) l):=hrep _ _ (hall _ _ _ hst.per)
  obtain⟨y0,hy0⟩:∃y0,l[j]? =some y0:=by
   obtain⟨hj,_⟩:=List.getElem?_eq_some_iff.1 hx
   exact⟨_,List.getElem?_eq_getElem (by omega)⟩
  have hel:Bx (R++fps []) w (λw=>(S.GT (.st i)).rep w x.1 y0):=λw' hk=>by
   obtain⟨y1,h1,h2⟩:=(reps_all hszm hn (hbx w' hk)).get hx
   rw[hy0] at h1
   obtain rfl:=someI' h1
   exact h2
  obtain⟨ps,hps,hrel⟩:=rep_rel ok hel
  refine Calls.mono (hD y0 y (bsF_at hbs j y0 y hy0 hy) R w (ps++Pf) (.agg x.1.toArray) (λp hp=>List.mem_append_right _ hp) (hst.addPs hps) ⟨x.1,rfl,(hrel rho0).mono2 λp hp=>List.mem_append_left _ hp⟩) λe w' ⟨h1,h2⟩=>⟨_,[],[],h1,⟨rfl,rfl,rfl⟩,h2,⟨by simp,λb hb=>Nat.lt_of_lt_of_le (hst.lt b hb) h2.size,hst.nd,by simp,λp hp=>(hst.gl p hp).step h2 (by simp) λx hx=> .inl hx⟩,by simp[fps]⟩
theorem Meets.carry2{g:FuncId}{args:Array Value}{As:List Asn}{Q:Value→List Asn→List (World→Prop)→Prop}(h:Meets P g args As Ps Q)(hst:St R w As Ps):
  Calls P g args w λe w'=>∃v A' P',e= .returned v∧Q v A' P'∧Keep (fps As) w w'∧St R w' A' Ps∧∀b∈fps A',b∈fps As∨w.heap.size≤b:=by
 refine Calls.mono (h.2 R w hst) λe w' ⟨v,A',P',h1,h2,h3,h4,h5⟩=>⟨v,A',P',h1,h2,h3,⟨h4.own,h4.lt,h4.nd,λp hp=> ?_,h4.gl⟩,h5⟩
 refine(hst.per p hp).step h3 (λx hx=> .inl (List.mem_append_right _ hx)) λx hx=> ?_
 rcases List.mem_append.1 hx with hx|hx
 ·exact .inl (List.mem_append_left _ hx)
 ·rcases h5 x hx with h6|h6
  ·exact .inl (List.mem_append_right _ h6)
  ·exact .inr h6
abbrev DlfRaw(P:Program)(g gi e m:Nat):Prop:=∀{a0:Option Addr} {c0 gd:Nat} {cv:List Value} {Pf PI:List (World→Prop)} (p0:List (Raw m)) (bs:List Bool) (hbl:bs.length=p0.length) (ix:Int)
   (hI:Meets P gi #[.slice a0 p0.length c0,.func (.func gd) #[] cv.toArray] [] PI λv A P=>v= .int .i64 ix∧A=[]∧P=[])
   (hPI:∀(F:List Nat)(w:World),AllB F w Pf→Bx F w (λw=>(rowF (rawF m) e a0 c0 p0).holds w)→AllB F w PI)
   (hix:(ix= -1∧∀y∈bs,y=false)∨∃k:Nat,ix=(k:Int)∧bs[k]? =some true∧∀y∈bs.take k,y=false)
   (hD:∀(j:Nat)(x:Raw m)(y:Bool),p0[j]? =some x→bs[j]? =some y→Meets P gd (([Value.agg x.1.toArray]++cv).toArray) [] Pf λv A P=>v= .bool y∧A=[]∧P=[]) (hsm:p0.length<4611686018427387904),
   Meets P g #[.slice a0 p0.length c0,.func (.func gd) #[] cv.toArray] [rowF (rawF m) e a0 c0 p0] Pf λv A P=>∃(a:Option Addr) (c:Nat),v= .slice a (keepF p0 bs).length c∧A=[rowF (rawF m) e a c (keepF p0 bs)]∧P=[]
abbrev DlfI(P:Program)(S:Tab)(gi gd i:Nat)(cs:List PC)(fI:Nat→PCsT S.τ cs (List (S.τ i)×Unit)→Option Int):Prop:=∀(n:Nat)(x:PCsT S.τ cs (List (S.τ i)×Unit))(z:Int),fI n x=some z→∀(R:List Nat)(w:World)(Ps:List (World→Prop))(v:Value)(cv:List Value),St R w [] Ps→RelA1 S rho0 Ps (.one (.d (.sl (.st i)) (putCs (τ:=S.τ) (λj=>j) cs x).2.1)) v→All2 (RelCap S rho0 Ps) (putCs (λj=>j) cs x).1 cv→
 Calls P gi #[v,.func (.func gd) #[] cv.toArray] w λe w'=>e= .returned (.int .i64 z)∧Keep [] w w'
abbrev DlfD(P:Program)(S:Tab)(gd i:Nat)(cs:List PC)(fD:Nat→PCsT S.τ cs (List (S.τ i)×Unit)→S.τ i→Option Bool):Prop:=∀(n:Nat)(x:PCsT S.τ cs (List (S.τ i)×Unit))(y:S.τ i)(b:Bool),fD n x y=some b→∀(R:List Nat)(w:World)(Ps:List (World→Prop))(v:Value)(cv:List Value),St R w [] Ps→RelA1 S rho0 Ps (canY S (.st i) y) v→All2 (RelCap S rho0 Ps) (putCs (λj=>j) cs x).1 cv→
 Calls P gd (([v]++cv).toArray) w λe w'=>e= .returned (.bool b)∧Keep [] w w'
@[reducible] def dlfCt(S:Tab)(g gd e i:Nat)(cs:List PC)(fI:Nat→PCsT S.τ cs (List (S.τ i)×Unit)→Option Int)(fD:Nat→PCsT S.τ cs (List (S.τ i)×Unit)→S.τ i→Option Bool):Ct S:=⟨g,[.one (.own 0),.one (.fn gd cs)],[.row e (.st i)],[.one (.own 0)],[(none,.row e (.st i))],List (S.τ i),λy=>(y,()),λy=>y.1,λ_=>rfl,λn x=>(fI n x).bind λz=>delF (fD n x) z (putCs (τ:=S.τ) (λj=>j) cs x).2.1⟩
theorem delF_some{α:Type}{f:α→Option Bool}{z:Int}{l y:List α}(h:delF f z l=some y):∃bs,bsF f l=some bs∧fstOk z bs=true∧l.length<4611686018427387904∧y=keepF l bs:=by
 obtain⟨bs,h1,h⟩:=bindS h
 split at h
 ·rename_i h2
  exact⟨bs,h1,h2.1,h2.2,(someI' h).symm⟩
 ·cases h
theorem dlf_ok(ok:TabOk S){g gi gd e i:Nat}{cs:List PC}{fI:Nat→PCsT S.τ cs (List (S.τ i)×Unit)→Option Int}{fD:Nat→PCsT S.τ cs (List (S.τ i)×Unit)→S.τ i→Option Bool}(hm:S.sz (.st i)=m)(hcs:cs.all isRoC=true)
  (hc:∀args w,(callFunc g args).run P w= .ok (.enter g args) w) (hgi:∀args w,(callFunc gi args).run P w= .ok (.enter gi args) w) (hgd:∀args w,(callFunc gd args).run P w= .ok (.enter gd args) w)
  (hI:DlfI P S gi gd i cs fI) (hD:DlfD P S gd i cs fD) (hraw:DlfRaw P g gi e m):OkC P S (dlfCt S g gd e i cs fI fD):=by
 refine⟨hc,λn x y hy R w ρ As Ps args hst hdom hargs hits=> ?_⟩
 obtain⟨v0,_,rfl,hv0,hargs⟩:=hargs.cons_left
 obtain⟨v1,_,rfl,hv1,hargs⟩:=hargs.cons_left
 obtain rfl:=hargs.nil_left
 obtain⟨A,_,rfl,hA,hits⟩:=hits.cons_left
 obtain rfl:=hits.nil_left
 obtain⟨g',xs,hg,rfl,hn,hgn,hmem⟩:=row_raw ok hst hm hA
 obtain⟨g2,hg2,hv0⟩:=hv0
 rw[hg] at hg2
 obtain rfl:=someI' hg2
 obtain⟨cv,hv1,hcv⟩:=hv1
 obtain⟨z,hz,hy⟩:=bindS hy
 obtain⟨bs,hb1,hb2,hlt,rfl⟩:=delF_some hy
 have hv0:v0= .slice g'.a xs.length g'.c:=by rw[hv0,hgn]
 subst hv0 hv1
 have hcv0:=ro_caps (ρ':=rho0) hcs hcv
 have hM:=dlf_core (P:=P) (Pf:=Ps) (gi:=gi) (cv:=cv) (a0:=g'.a) (c0:=g'.c) ok hm hb1 hb2 hlt hn hgi hgd (λF w h=>AllB.mem h _ hmem)
  (λR w Ps' v hP hst hv=>hI n x z hz R w Ps' v cv hst hv (hcv0.mono λ_ _ h=>RelCap.mono (λ_ _ h=>h) hP h))
  (λy b hf R w Ps' v hP hst hv=>hD n x y b hf R w Ps' v cv hst hv (hcv0.mono λ_ _ h=>RelCap.mono (λ_ _ h=>h) hP h)) hraw
 refine Calls.mono (hM.carry2 hst) λe' w' ⟨v,A',P',h1,⟨a,c,h2,h3,h4⟩,h5,h6,h7⟩=> ?_
 subst h2 h3
 obtain⟨ρ',As',Ps',k1,k2,k3⟩:=row_back (P:=P) (c':=dlfCt S g gd e i cs fI fD) (ρ:=ρ) (y:=(keepF (putCs (τ:=S.τ) (λj=>j) cs x).2.1 bs,())) ok hm (w0:=w) (F:=[]) (keepF_len hn) h6 (λw2 hp=>all_reps (All2.keepF (reps_all ((sz_eq ok _).trans hm) hn (hp _ hmem)))) rfl rfl rfl
 subst k3
 exact⟨_,ρ',_,Ps',h1,k1,h5,k2,h7⟩
end
end Go.Bur
