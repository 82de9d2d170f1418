import Derived.Test.YtchocpffjnodfaaGreatSd
namespace Go.Bur
open Go.RowKit
set_option linter.unusedVariables false
set_option linter.unusedSimpArgs false
inductive Gs where
 |foc (k t:Nat)
 |ufo (k:Nat)
 |dpn (k:Nat) (es:List (Option Nat))
 |fin (k:Nat)
 |nrb (k i e:Nat) (t:Ty)
 |shd (k:Nat)
 |frz (k:Nat)
 |frb (k:Nat)
 |shu (k:Nat)
 |shf (k:Nat)
 |dsc (k:Nat)
def idxM{α:Type}(l:List α)(i:Int)(m:Nat):Option α:=if i=(m:Int) then idx l i else none
def sameN(a b:Nat):Option Unit:=if a=b then some () else none
theorem sameN_eq{i j:Nat}{u:Unit}(h:sameN i j=some u):i=j:=by
 unfold sameN at h
 split at h
 ·assumption
 ·cases h
section
variable (S : Tab)
def foL:Option TypeId→(t:Ty)→Dn S.τ t→Nat→Lf S.τ×List (Item S.τ)
 |some e,.sl u,l,nx=>(.own nx,[.row e u l])
 |none,t,x,_=>(.d t x,[])
 |some _,.int k,x,_=>(.d (.int k) x,[])
 |some _,.bool,x,_=>(.d .bool x,[])
 |some _,.str,x,_=>(.d .str x,[])
 |some _,.fnc g,x,_=>(.d (.fnc g) x,[])
 |some _,.st i,x,_=>(.d (.st i) x,[])
 |some _,.mp e,x,_=>(.d (.mp e) x,[])
def foLs:List (Option TypeId)→(ts:List Ty)→HL S.τ ts→Nat→List (Lf S.τ)×List (Item S.τ)
 |_,[],_,_=>([],[])
 |es,t::ts,h,nx=>((foL S (esH es) t h.1 nx).1::(foLs es.tail ts h.2 (nx+(foL S (esH es) t h.1 nx).2.length)).1,(foL S (esH es) t h.1 nx).2++(foLs es.tail ts h.2 (nx+(foL S (esH es) t h.1 nx).2.length)).2)
def focO(s:ASt S.τ)(k e:Nat)(t:Ty)(es:List (Option Nat))(l:List (Dn S.τ t))(i:Int)(y:Dn S.τ t):ASt S.τ:=
 ⟨s.nx+1+(foLs S es (S.lvs t) (S.getT t y) (s.nx+1)).2.length,s.env,(numI (s.nx+1) (foLs S es (S.lvs t) (S.getT t y) (s.nx+1)).2++[(s.nx,.box (foLs S es (S.lvs t) (S.getT t y) (s.nx+1)).1),(k,.rest e t es none l i s.nx)])++er1 k s.its,s.org⟩
def focS(s:ASt S.τ)(k e:Nat)(t:Ty)(es:List (Option Nat))(m:Nat)(l:List (Dn S.τ t))(i:Int)(y:Dn S.τ t):ASt S.τ:=
 ⟨s.nx+1,s.env,[(s.nx,.box (hlLf (S.lvs t) (S.getT t y))),(k,.rest e t es (some m) l i s.nx)]++er1 k s.its,s.org⟩
def focH(s:ASt S.τ)(k e:Nat)(t:Ty)(es:List (Option Nat))(l:List (Dn S.τ t))(i:Int)(y:Dn S.τ t):ASt S.τ:=
 ⟨s.nx+1+(foLs S es (S.lvs t) (S.getT t y) (s.nx+1)).2.length,s.env,(numI (s.nx+1) (foLs S es (S.lvs t) (S.getT t y) (s.nx+1)).2++[(s.nx,.box (foLs S es (S.lvs t) (S.getT t y) (s.nx+1)).1),(k,.srest e t es l i s.nx)])++er1 k s.its,s.org⟩
def gho{R:Type}:List Gs→ASt S.τ→(ASt S.τ→Option R)→Option R
 |[],s,K=>K s
 | .foc k t::r,s,K=>match lookI s.its k,asInt1 (look s.env t) with
  |some (.deep e ty es m l),some (_,i)=>match m with
   |none=>(idx l i).bind λy=>gho r (focO S s k e ty es l i y) K
   |some m=>(idxM l i m).bind λy=>gho r (focS S s k e ty es m l i y) K
  |some (.shed e ty es m l),some (_,i)=>(idxM l i m).bind λy=>gho r (focH S s k e ty es l i y) K
  |_,_=>none
 | .shd k::r,s,K=>match lookI s.its k with
  |some (.deep e t es m l)=>match m with
   |none=>gho r ⟨s.nx,s.env,(k,.shed e t es 0 l)::er1 k s.its,s.org⟩ K
   |some _=>none
  |_=>none
 | .frz k::r,s,K=>gho r (freeze k s) K
 | .frb k::r,s,K=>match lookI s.its k with
  |some (.srest _ _ _ _ _ kb)=>match lookI s.its kb with
   |some (.box ls)=>gho r (freezes (ownLs ls) s) K
   |_=>none
  |_=>none
 | .shu k::r,s,K=>match lookI s.its k with
  |some (.srest e t es l i kb)=>match lookI (er1 k s.its) kb with
   |some (.box ls)=>match toHL (S.lvs t) ls with
    |some h=>gho r ⟨s.nx,s.env,(k,.shed e t es (i.toNat+1) (List.set l i.toNat (S.mkT t h)))::er1 kb (er1 k s.its),s.org⟩ K
    |none=>none
   |_=>none
  |_=>none
 | .shf k::r,s,K=>match lookI s.its k with
  |some (.shed e t es m l)=>(sameN m l.length).bind λ_=>gho r ⟨s.nx,s.env,(k,.row e t l)::er1 k s.its,s.org⟩ K
  |_=>none
 | .dsc k::r,s,K=>match lookI s.its k with
  |some (.deep e t es m l)=>match m,two S t with
   |none,true=>gho r ⟨s.nx+1,s.env.map (λx=>(x.1,avSub k (.own s.nx) x.2)),(s.nx,.scr t true l)::(er1 k s.its).map (λx=>(x.1,itSub k (.own s.nx) x.2)),s.org⟩ K
   |_,_=>none
  |_=>none
 | .ufo k::r,s,K=>match unf1 S k s.its with
  |some its=>gho r ⟨s.nx,s.env,its,s.org⟩ K
  |none=>none
 | .dpn k es::r,s,K=>match lookI s.its k with
  |some (.row e t l)=>gho r ⟨s.nx,s.env,(k,.deep e t es (some 0) l)::er1 k s.its,s.org⟩ K
  |_=>none
 | .fin k::r,s,K=>match lookI s.its k with
  |some (.deep e t es m l)=>match m with
   |some m=>(sameN m l.length).bind λ_=>gho r ⟨s.nx,s.env,(k,.deep e t es none l)::er1 k s.its,s.org⟩ K
   |none=>none
  |_=>none
 | .nrb k i e t::r,s,K=>match lookI s.its k with
  |some (.box ls)=>match ls[i]? with
   |some .nil=>gho r ⟨s.nx+1,s.env,(s.nx,.row e t [])::(k,.box (ls.set i (.own s.nx)))::er1 k s.its,s.org⟩ K
   |_=>none
  |_=>none
end
theorem All2.set_left{α β:Type}{R R':α→β→Prop}(hm:∀x y,R x y→R' x y){z:α}:∀{xs:List α} {ys:List β} {i:Nat},(∀x y,xs[i]? =some x→R x y→R' z y)→All2 R xs ys→All2 R' (xs.set i z) ys
 |[],ys,i,_,h=>by obtain rfl:=All2.nil_left h;trivial
 |x::xs,ys,0,hz,h=>by
  obtain⟨y,ys',rfl,h1,h2⟩:=All2.cons_left h
  exact⟨hz x y rfl h1,h2.mono hm⟩
 |x::xs,ys,i+1,hz,h=>by
  obtain⟨y,ys',rfl,h1,h2⟩:=All2.cons_left h
  exact⟨hm _ _ h1,All2.set_left hm (λx y hx=>hz x y (by simpa using hx)) h2⟩
section
variable {P : Program} {S : Tab} {ρ : Rho} {Ps : List (World → Prop)} {w : World}
theorem lv_open(ok:TabOk S):∀{ts:List Ty} {es:List (Option TypeId)} {h:HL S.τ ts} {vs:List Value} {F:List Nat} {nx:Nat} {ρ:Rho},LvR S w ts es h vs F→(∀k,nx≤k→k<nx+(foLs S es ts h nx).2.length→ρ k=none)→
  ∃ρ' Bs ps,Grow ρ ρ' nx (foLs S es ts h nx).2.length∧All2 (RelItem S ρ' ps P) (numI nx (foLs S es ts h nx).2) Bs∧fps Bs=F∧(∀B∈Bs,B.holds w)∧(∀p∈ps,∀w',p w')∧All2 (RelLf S ρ' ps) (foLs S es ts h nx).1 vs
 |[],es,h,vs,F,nx,ρ,⟨h1,h2⟩,_=>by
  subst h1 h2
  exact⟨ρ,[],[],Grow.refl _ _ _,trivial,rfl,by simp,by simp,trivial⟩
 |t::ts,es,h,vs,F,nx,ρ,⟨v,vs',F1,F2,e1,e2,h1,h2⟩,hn=>by
  subst e1 e2
  have one:∃ρ' Bs ps,Grow ρ ρ' nx (foL S (esH es) t h.1 nx).2.length∧All2 (RelItem S ρ' ps P) (numI nx (foL S (esH es) t h.1 nx).2) Bs∧fps Bs=F1∧(∀B∈Bs,B.holds w)∧(∀p∈ps,∀w',p w')∧RelLf S ρ' ps (foL S (esH es) t h.1 nx).1 v:=by
   simp only[foLs,List.length_append] at hn
   generalize esH es=eo at h1 hn
   match eo,t,h,h1 with
   |none,t,h,⟨g1,g2,g3⟩=>
    subst g3
    exact⟨ρ,[],[],Grow.refl _ _ _,trivial,rfl,by simp,by simp,g2⟩
   |some e,.sl u,h,⟨g0,a,c,cs,g1,g2,g3,g4⟩=>
    subst g1 g2
    have hg:=ghost_grow (ρ:=ρ) (nx:=nx) (g:=⟨a,c,h.1.length,0,noJ,noS⟩) (hn nx (Nat.le_refl _) (by simp only[foL,List.length_singleton];omega))
    refine⟨ghost ρ nx ⟨a,c,h.1.length,0,noJ,noS⟩,[.row a c e (S.sz u) h.1.length cs],[RepsB (S.GT u) cs h.1],hg,⟨⟨_,cs,ghost_at,rfl,rfl,List.mem_singleton_self _⟩,trivial⟩,by simp[fps], ?_, ?_,⟨_,ghost_at,rfl⟩⟩
    ·intro B hB
     rw[List.mem_singleton] at hB
     subst hB
     exact g3
    ·intro p hp w'
     rw[List.mem_singleton] at hp
     subst hp
     exact flat_reps ok g0 g4
   |some _,.int _,_,h1=>exact h1.elim
   |some _,.bool,_,h1=>exact h1.elim
   |some _,.str,_,h1=>exact h1.elim
   |some _,.fnc _,_,h1=>exact h1.elim
   |some _,.st _,_,h1=>exact h1.elim
   |some _,.mp _,_,h1=>exact h1.elim
  simp only[foLs,List.length_append] at hn⊢
  obtain⟨ρ1,B1,p1,k1,k2,k3,k4,k5,k6⟩:=one
  obtain⟨ρ2,B2,p2,l1,l2,l3,l4,l5,l6⟩:=lv_open ok (nx:=nx+(foL S (esH es) t h.1 nx).2.length) (ρ:=ρ1) h2 λk g1 g2=>by
   cases hk:ρ1 k with
   |none=>rfl
   |some g=>
    rcases k1.new k g hk with h3|h3
    ·rw[hn k (by omega) (by omega)] at h3;cases h3
    ·omega
  refine⟨ρ2,B1++B2,p1++p2,⟨λk g hk=>l1.keep k g (k1.keep k g hk),λk g hk=> ?_⟩, ?_,by rw[fps_append,k3,l3], ?_, ?_, ?_⟩
  ·rcases l1.new k g hk with h3|h3
   ·rcases k1.new k g h3 with h4|h4
    ·exact .inl h4
    ·exact .inr (by omega)
   ·exact .inr (by omega)
  ·have hsp:∀(a b:List (Item S.τ))(n:Nat),numI n (a++b)=numI n a++numI (n+a.length) b:=by
    intro a
    induction a with
    |nil=>intro b n;rfl
    |cons x a ih=>intro b n;simp only[List.cons_append,numI,ih,List.length_cons];rw[show n+1+a.length=n+(a.length+1) from by omega]
   rw[hsp]
   exact All2.app (k2.mono λ_ _ h=>RelItem.mono l1.keep (λp hp=>List.mem_append_left _ hp) h) (l2.mono λ_ _ h=>RelItem.mono (λ_ _ h=>h) (λp hp=>List.mem_append_right _ hp) h)
  ·intro B hB
   rcases List.mem_append.1 hB with hB|hB
   ·exact k4 B hB
   ·exact l4 B hB
  ·intro p hp
   rcases List.mem_append.1 hp with hp|hp
   ·exact k5 p hp
   ·exact l5 p hp
  ·exact⟨RelLf.mono l1.keep (λp hp=>List.mem_append_left _ hp) k6,l6.mono λ_ _ h=>RelLf.mono (λ_ _ h=>h) (λp hp=>List.mem_append_right _ hp) h⟩
theorem row_parts{A:Option Addr}{c e sz n:Nat}{cs:List Value}(h:(Asn.row A c e sz n cs).holds w)(hn:0<n):∃b ex,A=some ⟨b,0,none⟩∧w.heap[b]? =some (.cells (cs++ex).toArray e (0,0))∧cs.length+ex.length=c*sz∧n≤c∧c≤maxLen:=by
 have h':w.ownsRow 0 e sz (.slice A n c) n cs:=h
 rcases h'.2 with⟨_,h0⟩|⟨g,cap,cur,hv,_,hg,hnc,hcm,hcs,htake⟩
 ·omega
 ·injection hv with e1 e2 e3
  subst e1 e3
  have hcur:cur.toList=cs++cur.toList.drop (n*sz):=by rw[←htake,List.take_append_drop]
  refine⟨g,cur.toList.drop (n*sz),rfl, ?_, ?_,hnc,hcm⟩
  ·rw[hg,←hcur,Array.toArray_toList]
  ·rw[←hcs,←Array.length_toList,←List.length_append,←hcur]
theorem idx_split{α:Type}{l:List α}{i:Int}{y:α}(h:idx l i=some y):0≤i∧i.toNat<l.length∧l=l.take i.toNat++y::l.drop (i.toNat+1):=by
 unfold idx at h
 split at h
 ·rename_i h0
  obtain⟨hlt,he⟩:=List.getElem?_eq_some_iff.1 h
  refine⟨h0,hlt, ?_⟩
  have:=List.take_append_drop i.toNat l
  rw[List.drop_eq_getElem_cons hlt,he] at this
  exact this.symm
 ·cases h
variable {C : Cy} {N : Nat} {s : ASt S.τ} {a : Act}
theorem foc_none(ok:TabOk S){k e:Nat}{t:Ty}{es:List (Option Nat)}{l:List (Dn S.τ t)}{i:Int}{y:Dn S.τ t}(hk:lookI s.its k=some (.deep e t es none l))(hy:idx l i=some y)(h:Hold P S C N s a w):Hold P S C N (focO S s k e t es l i y) a w:=by
 obtain⟨ρ,As,Ps,h⟩:=h
 obtain⟨As1,hp1,h1⟩:=All2.perm (er1_perm hk) h.its
 obtain⟨A,As',rfl,hA,hr⟩:=All2.cons_left h1
 obtain⟨g,cs1,cs2,F,hg,rfl,hn,hm,hsh⟩:=hA
 have hst:=h.st.perm hp1
 obtain⟨d1,d2⟩:=deepA_at (hst.own _ (List.mem_cons_self ..))
 obtain⟨h0,hlt,hl⟩:=idx_split hy
 simp only[mOf] at d2 hsh hm
 rw[List.take_length,hl] at d2
 obtain⟨c1,c',F1,F',rfl,rfl,d3,c,c2,Fy,F2,rfl,rfl,d4,d5⟩:=DeepR.split d2
 obtain⟨b,ex,ha,hheap,hcap,hnc,hcm⟩:=row_parts d1 (by omega)
 have hl1:=d3.len ok
 have hl2:=(LvR.rep ok d4).len
 have hl3:=d5.len ok
 have hl4:=hsh.reps (F:=[]) (w:=w) (λp hp=>(hst.per p hp).weak (F':=[]) (by simp))|>.here.len
 rw[List.drop_length,List.length_nil,Nat.zero_mul] at hl4
 obtain rfl:cs2=[]:=List.eq_nil_of_length_eq_zero hl4
 rw[List.length_take,Nat.min_eq_left (by omega)] at hl1
 rw[List.length_drop] at hl3
 have hdom:∀j,s.nx≤j→ρ j=none:=λj hj=>by
  cases hq:ρ j with
  |none=>rfl
  |some g=>have:=h.dom j g hq;omega
 generalize hgb:(⟨none,0,0,b,noJ,⟨c1,c2++[]++ex,some e⟩⟩:Gh)=gb
 have hgr:=ghost_grow (ρ:=ρ) (nx:=s.nx) (g:=gb) (hdom _ (Nat.le_refl _))
 obtain⟨ρ',Bs,ps,k1,k2,k3,k4,k5,k6⟩:=lv_open (P:=P) ok (nx:=s.nx+1) (ρ:=ghost ρ s.nx gb) d4 λj h3 _=>by
  cases hq:ghost ρ s.nx gb j with
  |none=>rfl
  |some g'=>
   rcases hgr.new j g' hq with h4|h4
   ·rw[hdom j (by omega)] at h4;cases h4
   ·omega
 have hkeep:∀j g',ρ j=some g'→ρ' j=some g':=λj g' hj=>k1.keep _ _ (hgr.keep _ _ hj)
 have hgbat:ρ' s.nx=some gb:=k1.keep _ _ ghost_at
 have hP:∀p∈Ps,p∈ps++Ps:=λp hp=>List.mem_append_right _ hp
 have hP':∀p∈ps,p∈ps++Ps:=λp hp=>List.mem_append_left _ hp
 have hsz:l.length*S.sz t=i.toNat*S.sz t+S.sz t+(l.length-(i.toNat+1))*S.sz t:=by
  have:l.length=i.toNat+1+(l.length-(i.toNat+1)):=by omega
  generalize l.length-(i.toNat+1)=q at*
  rw[this,Nat.add_mul,Nat.succ_mul]
 have hfp:(fps (Bs++[boxA gb c,restA S t es (l.take i.toNat) ((l.take (mOf none l)).drop (i.toNat+1)) c1 c2 F1 F2])).Perm (deepA S g e t es (l.take (mOf none l)) (c1++(c++c2)) (c1++(c++c2)++[]) (F1++(Fy++F2))).fp:=by
  rw[fps_append,k3]
  simp only[fps,List.flatMap_cons,List.flatMap_nil,List.append_nil,restA,boxA,deepA,Asn.fp,ha]
  rw[←hgb,List.perm_iff_count]
  intro x
  simp only[List.count_append]
  omega
 have hst2:St C.R w ((Bs++[boxA gb c,restA S t es (l.take i.toNat) ((l.take (mOf none l)).drop (i.toNat+1)) c1 c2 F1 F2])++As') Ps:=by
  refine St.re (Bs:=[deepA S g e t es (l.take (mOf none l)) (c1++(c++c2)) (c1++(c++c2)++[]) (F1++(Fy++F2))]) hst (λD hD=> ?_) (by simpa[fps] using hfp)
  rcases List.mem_append.1 hD with hD|hD
  ·exact k4 D hD
  ·simp only[List.mem_cons,List.not_mem_nil,or_false] at hD
   rcases hD with rfl|rfl
   ·refine boxA_of ⟨e, ?_,λe' he'=> ?_⟩
    ·rw[←hgb,hheap];simp[List.append_assoc]
    ·rw[←hgb] at he';exact someI' he'
   ·refine restA_of ok d3 ?_
    simp only[mOf,List.take_length]
    exact d5
 refine⟨ρ',(Bs++[boxA gb c,restA S t es (l.take i.toNat) ((l.take (mOf none l)).drop (i.toNat+1)) c1 c2 F1 F2])++As',ps++Ps,hst2.addPs λp hp w' _=>k5 p hp w',h.keep,λq hq=>h.old q ((fps_perm hp1).mem_iff.2 ?_),h.size,h.dfr,λq x hx=>RelAV.mono hkeep hP (h.env q x hx), ?_,λj g' hj=> ?_,λj q g' h3 h4=>hkeep _ _ (h.org j q g' h3 h4)⟩
 ·rw[fps_append] at hq
  rw[fps_cons]
  rcases List.mem_append.1 hq with hq|hq
  ·exact List.mem_append_left _ (hfp.mem_iff.1 hq)
  ·exact List.mem_append_right _ hq
 ·refine All2.app (All2.app (k2.mono λ_ _ h=>RelItem.mono (λ_ _ h=>h) hP' h) ⟨⟨gb,c,hgbat,rfl,k6.mono λ_ _ h=>RelLf.mono (λ_ _ h=>h) hP' h⟩, ?_,trivial⟩) (hr.mono λ_ _ h=>RelItem.mono hkeep hP h)
  refine⟨g,gb,c1,c2,[],ex,F1,F2,hkeep _ _ hg,hgbat,rfl,by rw[ha,←hgb],hn,by rw[←hgb],h0,hlt, ?_,Nat.le_refl _,(λj hj=>by cases hj),hl1, ?_, ?_, ?_,hcm,.inl ⟨?_,rfl⟩⟩
  ·simp only[mOf];omega
  ·rw[hl1,List.append_nil,hl3];exact hsz.symm
  ·rw[←hcap];simp only[List.length_append,hl2,List.length_nil];unfold Tab.sz;omega
  ·omega
  ·simp only[mOf];exact List.drop_eq_nil_of_le (by omega)
 ·rcases k1.new j g' hj with h3|h3
  ·rcases hgr.new j g' h3 with h4|h4
   ·have:=h.dom j g' h4;show j<s.nx+1+_;omega
   ·show j<s.nx+1+_;omega
  ·show j<s.nx+1+_;omega
theorem foc_some(ok:TabOk S){k e:Nat}{t:Ty}{es:List (Option Nat)}{m:Nat}{l:List (Dn S.τ t)}{i:Int}{y:Dn S.τ t}(hk:lookI s.its k=some (.deep e t es (some m) l))(hy:idxM l i m=some y)(h:Hold P S C N s a w):Hold P S C N (focS S s k e t es m l i y) a w:=by
 unfold idxM at hy
 split at hy
 ·rename_i him
  subst him
  obtain⟨ρ,As,Ps,h⟩:=h
  obtain⟨As1,hp1,h1⟩:=All2.perm (er1_perm hk) h.its
  obtain⟨A,As',rfl,hA,hr⟩:=All2.cons_left h1
  obtain⟨g,c1,cs2,F,hg,rfl,hn,hm,hsh⟩:=hA
  have hst:=h.st.perm hp1
  obtain⟨d1,d2⟩:=deepA_at (hst.own _ (List.mem_cons_self ..))
  obtain⟨h0,hlt,hl⟩:=idx_split hy
  rw[Int.toNat_natCast] at hlt hl
  simp only[mOf] at d2 hsh hm
  have hbx:=hsh.reps hst.per
  have hld:l.drop m=y::l.drop (m+1):=by
   have h3:l.drop m=(l.take m++y::l.drop (m+1)).drop m:=congrArg (List.drop m) hl
   rw[h3,List.drop_append,List.length_take,Nat.min_eq_left (by omega),Nat.sub_self,List.drop_of_length_le (by rw[List.length_take];omega)]
   rfl
  have hl1:=d2.len ok
  rw[List.length_take,Nat.min_eq_left hm] at hl1
  have hl2:=hbx.here.len
  rw[hld,List.length_cons,List.length_drop,sz_eq ok] at hl2
  have hy0:Bx (C.R++fps (deepA S g e t es (l.take m) c1 (c1++cs2) F::As')) w (λw=>(S.GT t).rep w (cs2.take (S.sz t)) y):=λw' hk'=>by
   have:=Reps.at_ (hbx w' hk') 0 y (by rw[hld];rfl)
   rwa[Nat.zero_mul,List.drop_zero,sz_eq ok] at this
  have ht0:Bx (C.R++fps (deepA S g e t es (l.take m) c1 (c1++cs2) F::As')) w (RepsB (S.GT t) (cs2.drop (S.sz t)) (l.drop (m+1))):=λw' hk'=>by
   have h3:=hbx w' hk'
   rw[hld] at h3
   generalize hc:cs2=cs at h3
   cases h3 with
   | @cons e0 _ cs0 _ h4 h5=>
    have:cs2.drop (S.sz t)=cs0:=by rw[hc,←sz_eq ok,←(S.GT t).len h4,List.drop_left]
    rw[←hc,this];exact h5
  obtain⟨ps,hps,hrel⟩:=rep_rel ok hy0
  obtain⟨b,ex,ha,hheap,hcap,hnc,hcm⟩:=row_parts d1 (by omega)
  have hdom:∀j,s.nx≤j→ρ j=none:=λj hj=>by
   cases hq:ρ j with
   |none=>rfl
   |some g=>have:=h.dom j g hq;omega
  generalize hgb:(⟨none,0,0,b,noJ,⟨c1,[]++cs2.drop (S.sz t)++ex,some e⟩⟩:Gh)=gb
  have hgr:=ghost_grow (ρ:=ρ) (nx:=s.nx) (g:=gb) (hdom _ (Nat.le_refl _))
  have hgbat:ghost ρ s.nx gb s.nx=some gb:=ghost_at
  have hmm:(l.take m).drop (m+1)=[]:=List.drop_eq_nil_of_le (by rw[List.length_take];omega)
  have hsz:l.length*S.sz t=m*S.sz t+S.sz t+(l.length-(m+1))*S.sz t:=by
   have:l.length=m+1+(l.length-(m+1)):=by omega
   generalize l.length-(m+1)=q at*
   rw[this,Nat.add_mul,Nat.succ_mul]
  have hl2':cs2.length=S.sz t+(l.length-(m+1))*S.sz t:=by rw[hl2,Nat.succ_mul,Nat.add_comm]
  have htk:(cs2.take (S.sz t)).length=S.sz t:=by rw[List.length_take];omega
  have hfp:(fps [boxA gb (cs2.take (S.sz t)),restA S t es (l.take m) ((l.take m).drop (m+1)) c1 [] F []]).Perm (deepA S g e t es (l.take m) c1 (c1++cs2) F).fp:=by
   simp only[fps,List.flatMap_cons,List.flatMap_nil,List.append_nil,restA,boxA,deepA,Asn.fp,ha]
   rw[←hgb]
  have hst1:St C.R w (deepA S g e t es (l.take m) c1 (c1++cs2) F::As') ([RepsB (S.GT t) (cs2.drop (S.sz t)) (l.drop (m+1))]++(ps++Ps)):=by
   refine(hst.addPs (ps:=ps) hps).addPs λp hp=> ?_
   rw[List.mem_singleton] at hp
   subst hp
   exact ht0
  have hst2:St C.R w ([boxA gb (cs2.take (S.sz t)),restA S t es (l.take m) ((l.take m).drop (m+1)) c1 [] F []]++As') ([RepsB (S.GT t) (cs2.drop (S.sz t)) (l.drop (m+1))]++(ps++Ps)):=by
   refine St.re (Bs:=[deepA S g e t es (l.take m) c1 (c1++cs2) F]) hst1 (λD hD=> ?_) (by simpa[fps] using hfp)
   simp only[List.mem_cons,List.not_mem_nil,or_false] at hD
   rcases hD with rfl|rfl
   ·refine boxA_of ⟨e, ?_,λe' he'=> ?_⟩
    ·rw[←hgb,hheap]
     have:c1++cs2++ex=c1++cs2.take (S.sz t)++([]++cs2.drop (S.sz t)++ex):=by
      conv=>lhs;rw[show cs2=cs2.take (S.sz t)++cs2.drop (S.sz t) from(List.take_append_drop ..).symm]
      simp only[List.append_assoc,List.nil_append]
     rw[this]
    ·rw[←hgb] at he';exact someI' he'
   ·rw[hmm];exact restA_of ok d2 ⟨rfl,rfl⟩
  have hP:∀p∈Ps,p∈[RepsB (S.GT t) (cs2.drop (S.sz t)) (l.drop (m+1))]++(ps++Ps):=λp hp=>List.mem_append_right _ (List.mem_append_right _ hp)
  have hP':∀p∈ps,p∈[RepsB (S.GT t) (cs2.drop (S.sz t)) (l.drop (m+1))]++(ps++Ps):=λp hp=>List.mem_append_right _ (List.mem_append_left _ hp)
  refine⟨ghost ρ s.nx gb,_,_,hst2,h.keep,λq hq=>h.old q ((fps_perm hp1).mem_iff.2 ?_),h.size,h.dfr,λq x hx=>RelAV.mono hgr.keep hP (h.env q x hx), ?_,λj g' hj=> ?_,λj q g' h3 h4=>hgr.keep _ _ (h.org j q g' h3 h4)⟩
  ·rw[fps_append] at hq
   rw[fps_cons]
   rcases List.mem_append.1 hq with hq|hq
   ·exact List.mem_append_left _ (hfp.mem_iff.1 hq)
   ·exact List.mem_append_right _ hq
  ·refine All2.app ⟨⟨gb,_,hgbat,rfl,(hrel (ghost ρ s.nx gb)).mono λ_ _ h=>RelLf.mono (λ_ _ h=>h) hP' h⟩, ?_,trivial⟩ (hr.mono λ_ _ h=>RelItem.mono hgr.keep hP h)
   refine⟨g,gb,c1,[],cs2.drop (S.sz t),ex,F,[],hgr.keep _ _ hg,hgbat, ?_,by rw[ha,←hgb],hn,by rw[←hgb],h0,by rw[Int.toNat_natCast];exact hlt, ?_,hm,λj hj=> ?_,by rw[Int.toNat_natCast];exact hl1, ?_, ?_,by omega,hcm,.inr ?_⟩
   ·simp only[Int.toNat_natCast,mOf]
   ·simp only[Int.toNat_natCast,mOf];exact Nat.le_refl _
   ·rw[Int.toNat_natCast];exact someI' hj
   ·rw[hl1,List.nil_append,List.length_drop,hl2'];omega
   ·rw[←hcap];simp only[List.length_append,List.nil_append,List.length_drop,hl2'];omega
   ·simp only[Int.toNat_natCast,mOf]
    rw[show max m (m+1)=m+1 from by omega]
    exact List.mem_append_left _ (List.mem_singleton_self _)
  ·rcases hgr.new j g' hj with h4|h4
   ·have:=h.dom j g' h4;show j<s.nx+1;omega
   ·show j<s.nx+1;omega
 ·cases hy
theorem foc_shed(ok:TabOk S){k e:Nat}{t:Ty}{es:List (Option Nat)}{m:Nat}{l:List (Dn S.τ t)}{i:Int}{y:Dn S.τ t}(hk:lookI s.its k=some (.shed e t es m l))(hy:idxM l i m=some y)(h:Hold P S C N s a w):Hold P S C N (focH S s k e t es l i y) a w:=by
 unfold idxM at hy
 split at hy
 case isFalse=>cases hy
 rename_i him
 subst him
 obtain⟨ρ,As,Ps,h⟩:=h
 obtain⟨As1,hp1,h1⟩:=All2.perm (er1_perm hk) h.its
 obtain⟨A,As',rfl,hA,hr⟩:=All2.cons_left h1
 obtain⟨g,c1,cs2,F,hg,rfl,hn,hm,hsh⟩:=hA
 have hst:=h.st.perm hp1
 obtain⟨d1,d2⟩:=deepA_at (hst.own _ (List.mem_cons_self ..))
 obtain⟨h0,hlt,hl⟩:=idx_split hy
 rw[Int.toNat_natCast] at hlt hl
 have hld:l.drop m=y::l.drop (m+1):=by
  have h3:l.drop m=(l.take m++y::l.drop (m+1)).drop m:=congrArg (List.drop m) hl
  rw[h3,List.drop_append,List.length_take,Nat.min_eq_left (by omega),Nat.sub_self,List.drop_of_length_le (by rw[List.length_take];omega)]
  rfl
 rw[hld] at d2
 obtain⟨c,c2,Fy,F2,rfl,rfl,d4,d5⟩:=d2
 obtain⟨b,ex,ha,hheap,hcap,hnc,hcm⟩:=row_parts d1 (by omega)
 have hl1:=hsh.reps (F:=[]) (w:=w) (λp hp=>(hst.per p hp).weak (F':=[]) (by simp))|>.here.len
 rw[List.length_take,Nat.min_eq_left (by omega),sz_eq ok] at hl1
 have hl2:=(LvR.rep ok d4).len
 have hl3:=d5.len ok
 rw[List.length_drop] at hl3
 have hdom:∀j,s.nx≤j→ρ j=none:=λj hj=>by
  cases hq:ρ j with
  |none=>rfl
  |some g=>have:=h.dom j g hq;omega
 generalize hgb:(⟨none,0,0,b,noJ,⟨c1,c2++ex,some e⟩⟩:Gh)=gb
 have hgr:=ghost_grow (ρ:=ρ) (nx:=s.nx) (g:=gb) (hdom _ (Nat.le_refl _))
 obtain⟨ρ',Bs,ps,k1,k2,k3,k4,k5,k6⟩:=lv_open (P:=P) ok (nx:=s.nx+1) (ρ:=ghost ρ s.nx gb) d4 λj h3 _=>by
  cases hq:ghost ρ s.nx gb j with
  |none=>rfl
  |some g'=>
   rcases hgr.new j g' hq with h4|h4
   ·rw[hdom j (by omega)] at h4;cases h4
   ·omega
 have hkeep:∀j g',ρ j=some g'→ρ' j=some g':=λj g' hj=>k1.keep _ _ (hgr.keep _ _ hj)
 have hgbat:ρ' s.nx=some gb:=k1.keep _ _ ghost_at
 have hP:∀p∈Ps,p∈ps++Ps:=λp hp=>List.mem_append_right _ hp
 have hP':∀p∈ps,p∈ps++Ps:=λp hp=>List.mem_append_left _ hp
 have hsz:l.length*S.sz t=m*S.sz t+S.sz t+(l.length-(m+1))*S.sz t:=by
  have:l.length=m+1+(l.length-(m+1)):=by omega
  generalize l.length-(m+1)=q at*
  rw[this,Nat.add_mul,Nat.succ_mul]
 have hfp:(fps (Bs++[boxA gb c,restA S t es [] (l.drop (m+1)) [] c2 [] F2])).Perm (deepA S g e t es (l.drop m) (c++c2) (c1++(c++c2)) (Fy++F2)).fp:=by
  rw[fps_append,k3]
  simp only[fps,List.flatMap_cons,List.flatMap_nil,List.append_nil,List.nil_append,restA,boxA,deepA,Asn.fp,ha]
  rw[←hgb,List.perm_iff_count]
  intro x
  simp only[List.count_append]
  omega
 have hst2:St C.R w ((Bs++[boxA gb c,restA S t es [] (l.drop (m+1)) [] c2 [] F2])++As') Ps:=by
  refine St.re (Bs:=[deepA S g e t es (l.drop m) (c++c2) (c1++(c++c2)) (Fy++F2)]) hst (λD hD=> ?_) (by simpa[fps] using hfp)
  rcases List.mem_append.1 hD with hD|hD
  ·exact k4 D hD
  ·simp only[List.mem_cons,List.not_mem_nil,or_false] at hD
   rcases hD with rfl|rfl
   ·refine boxA_of ⟨e, ?_,λe' he'=> ?_⟩
    ·rw[←hgb,hheap];simp[List.append_assoc]
    ·rw[←hgb] at he';exact someI' he'
   ·exact restA_of ok ⟨rfl,rfl⟩ d5
 refine⟨ρ',(Bs++[boxA gb c,restA S t es [] (l.drop (m+1)) [] c2 [] F2])++As',ps++Ps,hst2.addPs λp hp w' _=>k5 p hp w',h.keep,λq hq=>h.old q ((fps_perm hp1).mem_iff.2 ?_),h.size,h.dfr,λq x hx=>RelAV.mono hkeep hP (h.env q x hx), ?_,λj g' hj=> ?_,λj q g' h3 h4=>hkeep _ _ (h.org j q g' h3 h4)⟩
 ·rw[fps_append] at hq
  rw[fps_cons]
  rcases List.mem_append.1 hq with hq|hq
  ·exact List.mem_append_left _ (hfp.mem_iff.1 hq)
  ·exact List.mem_append_right _ hq
 ·refine All2.app (All2.app (k2.mono λ_ _ h=>RelItem.mono (λ_ _ h=>h) hP' h) ⟨⟨gb,c,hgbat,rfl,k6.mono λ_ _ h=>RelLf.mono (λ_ _ h=>h) hP' h⟩, ?_,trivial⟩) (hr.mono λ_ _ h=>RelItem.mono hkeep hP h)
  refine⟨g,gb,c1,c2,ex,F2,hkeep _ _ hg,hgbat,by rw[Int.toNat_natCast],by rw[ha,←hgb],hn,by rw[←hgb],h0,by rw[Int.toNat_natCast];exact hlt,by rw[Int.toNat_natCast];exact hl1, ?_, ?_,by omega,hcm, ?_⟩
  ·rw[hl1,hl3];exact hsz.symm
  ·rw[←hcap];simp only[List.length_append,hl2];unfold Tab.sz;omega
  ·rw[Int.toNat_natCast];exact hsh.imp id (hP _)
 ·rcases k1.new j g' hj with h3|h3
  ·rcases hgr.new j g' h3 with h4|h4
   ·have:=h.dom j g' h4;show j<s.nx+1+_;omega
   ·show j<s.nx+1+_;omega
  ·show j<s.nx+1+_;omega
theorem shu_ok(ok:TabOk S){k e kb:Nat}{t:Ty}{es:List (Option Nat)}{l:List (Dn S.τ t)}{i:Int}{ls:List (Lf S.τ)}{hh:HL S.τ (S.lvs t)}(hk:lookI s.its k=some (.srest e t es l i kb))(hkb:lookI (er1 k s.its) kb=some (.box ls))(hls:toHL (S.lvs t) ls=some hh)(h:Hold P S C N s a w):
  Hold P S C N ⟨s.nx,s.env,(k,.shed e t es (i.toNat+1) (List.set l i.toNat (S.mkT t hh)))::er1 kb (er1 k s.its),s.org⟩ a w:=by
 obtain⟨ρ,As,Ps,h⟩:=h
 obtain⟨As1,hp1,h1⟩:=All2.perm (er1_perm hk) h.its
 obtain⟨A1,As2,rfl,hA1,hr1⟩:=All2.cons_left h1
 obtain⟨As3,hp2,h2⟩:=All2.perm (er1_perm hkb) hr1
 obtain⟨A2,Ar,rfl,hA2,hr⟩:=All2.cons_left h2
 obtain⟨g,gb,c1,c2,ex,F2,hg,hgb,rfl,ha,hn,hs,h0,hlt,hc1,hsz1,hsz2,hlc,hcm,hsh⟩:=hA1
 obtain⟨gb',vs,hgb',rfl,hvs⟩:=box_open hA2
 rw[hgb] at hgb'
 obtain rfl:=someI' hgb'
 have hp3:=hp1.trans (hp2.cons (restA S t es [] (l.drop (i.toNat+1)) [] c2 [] F2))
 have hst:=h.st.perm hp3
 obtain⟨_,d2⟩:=restA_at (hst.own _ (List.mem_cons_self ..))
 obtain⟨T,hT,hTe⟩:=boxA_at (hst.own (boxA gb vs) (by simp))
 have hTe:=hTe e (by rw[hs])
 subst hTe
 have hrep:=rel_rep (S:=S) ok (t:=t) (h:=hh) hst.per (toHL_rel hls hvs)
 have hvl:vs.length=S.sz t:=by rw[←sz_eq ok];exact((S.GT t).len hrep.here)
 have hset:(List.set l i.toNat (S.mkT t hh)).take (i.toNat+1)=l.take i.toNat++[S.mkT t hh]:=by
  rw[List.set_eq_take_append_cons_drop,if_pos hlt]
  have h1:(l.take i.toNat).length=i.toNat:=by rw[List.length_take];omega
  rw[List.take_append,h1,List.take_of_length_le (by omega),show i.toNat+1-i.toNat=0+1 from by omega,List.take_succ_cons,List.take_zero]
 have hdr:(List.set l i.toNat (S.mkT t hh)).drop (i.toNat+1)=l.drop (i.toNat+1):=List.drop_set_of_lt (by omega)
 have hnew:Bx (C.R++fps (restA S t es [] (l.drop (i.toNat+1)) [] c2 [] F2::boxA gb vs::Ar)) w (RepsB (S.GT t) (c1++vs) (l.take i.toNat++[S.mkT t hh])):=λw' hk'=>
  (hsh.reps hst.per w' hk').app (by
   have:=Reps.cons (G:=S.GT t) (hrep w' hk') .nil
   rwa[List.append_nil] at this)
 have hst1:St C.R w (restA S t es [] (l.drop (i.toNat+1)) [] c2 [] F2::boxA gb vs::Ar) ([RepsB (S.GT t) (c1++vs) (l.take i.toNat++[S.mkT t hh])]++Ps):=hst.addPs λp hp=>by
  rw[List.mem_singleton] at hp
  subst hp
  exact hnew
 have hP:∀p∈Ps,p∈[RepsB (S.GT t) (c1++vs) (l.take i.toNat++[S.mkT t hh])]++Ps:=λp hp=>List.mem_append_right _ hp
 have hfp:(fps [deepA S g T t es ((List.set l i.toNat (S.mkT t hh)).drop (i.toNat+1)) c2 ((c1++vs)++c2) F2]).Perm (fps [restA S t es [] (l.drop (i.toNat+1)) [] c2 [] F2,boxA gb vs]):=by
  simp only[fps,List.flatMap_cons,List.flatMap_nil,List.append_nil,List.nil_append,restA,boxA,deepA,Asn.fp,ha]
  rw[List.perm_iff_count]
  intro x
  simp only[List.count_append]
  omega
 have hst2:St C.R w ([deepA S g T t es ((List.set l i.toNat (S.mkT t hh)).drop (i.toNat+1)) c2 ((c1++vs)++c2) F2]++Ar) ([RepsB (S.GT t) (c1++vs) (l.take i.toNat++[S.mkT t hh])]++Ps):=by
  refine St.re (Bs:=[restA S t es [] (l.drop (i.toNat+1)) [] c2 [] F2,boxA gb vs]) hst1 (λD hD=> ?_) hfp
  rw[List.mem_singleton] at hD
  subst hD
  refine deepA_of ok (row_of (ex:=ex) ha ?_ ?_ ?_ (by omega) hcm) (by rw[hdr];exact d2)
  ·rw[hT,hs];simp[List.append_assoc]
  ·rw[hn,←hsz1];simp only[List.length_append,hvl]
  ·rw[←hsz2];simp only[List.length_append,hvl]
 refine⟨ρ,_,_,hst2,h.keep,λq hq=>h.old q ((fps_perm hp3).mem_iff.2 ?_),h.size,h.dfr,λq x hx=>RelAV.mono (λ_ _ h=>h) hP (h.env q x hx),⟨⟨g,c1++vs,c2,F2,hg,rfl,by rw[hn,List.length_set],by rw[List.length_set];omega,.inr (by rw[hset];exact List.mem_append_left _ (List.mem_singleton_self _))⟩,hr.mono λ_ _ h=>RelItem.mono (λ_ _ h=>h) hP h⟩,h.dom,h.org⟩
 rw[fps_append] at hq
 rw[show(restA S t es [] (l.drop (i.toNat+1)) [] c2 [] F2::boxA gb vs::Ar)=[restA S t es [] (l.drop (i.toNat+1)) [] c2 [] F2,boxA gb vs]++Ar from rfl,fps_append]
 rcases List.mem_append.1 hq with hq|hq
 ·exact List.mem_append_left _ (hfp.mem_iff.1 hq)
 ·exact List.mem_append_right _ hq
theorem gho_sound(ok:TabOk S){R:Type}{r:R}{K:ASt S.τ→Option R}:∀{gs:List Gs} {s:ASt S.τ},gho S gs s K=some r→Hold P S C N s a w→∃s',K s'=some r∧Hold P S C N s' a w
 |[],s,h,hH=>⟨s,h,hH⟩
 | .foc k t::gs,s,h,hH=>by
  simp only[gho] at h
  split at h
  ·rename_i e ty es m l q i hk hi
   split at h
   ·obtain⟨y,hy,h2⟩:=bindS h
    exact gho_sound ok h2 (foc_none ok hk hy hH)
   ·obtain⟨y,hy,h2⟩:=bindS h
    exact gho_sound ok h2 (foc_some ok hk hy hH)
  ·rename_i e ty es m l q i hk hi
   obtain⟨y,hy,h2⟩:=bindS h
   exact gho_sound ok h2 (foc_shed ok hk hy hH)
  ·cases h
 | .shd k::gs,s,h,hH=>by
  simp only[gho] at h
  split at h
  ·rename_i e t es m l hk
   split at h
   ·rename_i hk
    refine gho_sound ok h ?_
    obtain⟨ρ,As,Ps,hH⟩:=hH
    obtain⟨As1,hp1,h1⟩:=All2.perm (er1_perm hk) hH.its
    obtain⟨A,As',rfl,hA,hr⟩:=All2.cons_left h1
    obtain⟨g,c1,c2,F,hg,rfl,hn,hm,hsh⟩:=hA
    have hl4:=hsh.reps (F:=[]) (w:=w) (λp hp=>((hH.st.perm hp1).per p hp).weak (F':=[]) (by simp))|>.here.len
    simp only[mOf,List.drop_length,List.length_nil,Nat.zero_mul] at hl4
    obtain rfl:c2=[]:=List.eq_nil_of_length_eq_zero hl4
    refine⟨ρ,_,Ps,hH.st.perm hp1,hH.keep,λb hb=>hH.old b ((fps_perm hp1).mem_iff.2 hb),hH.size,hH.dfr,hH.env,⟨⟨g,[],c1,F,hg, ?_,hn,Nat.zero_le _,.inl ⟨rfl,rfl⟩⟩,hr⟩,hH.dom,hH.org⟩
    simp only[mOf,List.take_length,List.drop_zero,List.append_nil,List.nil_append]
   ·cases h
  ·cases h
 | .frz k::gs,s,h,hH=>by
  simp only[gho] at h
  exact gho_sound ok h (freeze_hold ok hH)
 | .frb k::gs,s,h,hH=>by
  simp only[gho] at h
  split at h
  ·split at h
   ·exact gho_sound ok h (freezes_hold ok hH)
   ·cases h
  ·cases h
 | .shu k::gs,s,h,hH=>by
  simp only[gho] at h
  split at h
  ·rename_i e t es l i kb hk
   split at h
   ·rename_i ls hkb
    split at h
    ·rename_i hh hls
     exact gho_sound ok h (shu_ok ok hk hkb hls hH)
    ·cases h
   ·cases h
  ·cases h
 | .shf k::gs,s,h,hH=>by
  simp only[gho] at h
  split at h
  ·rename_i e t es m l hk
   obtain⟨u,hu,h2⟩:=bindS h
   obtain rfl:=sameN_eq hu
   refine gho_sound ok h2 ?_
   obtain⟨ρ,As,Ps,hH⟩:=hH
   obtain⟨As1,hp1,h1⟩:=All2.perm (er1_perm hk) hH.its
   obtain⟨A,As',rfl,hA,hr⟩:=All2.cons_left h1
   obtain⟨g,c1,c2,F,hg,rfl,hn,hm,hsh⟩:=hA
   have hst:=hH.st.perm hp1
   obtain⟨d1,d2⟩:=deepA_at (hst.own _ (List.mem_cons_self ..))
   rw[List.drop_length] at d2
   obtain⟨rfl,rfl⟩:=d2
   rw[List.take_length] at hsh
   rw[List.append_nil] at d1
   have hfp:(fps [Asn.row g.a g.c e (S.sz t) g.n c1]).Perm (fps [deepA S g e t es (l.drop l.length) [] (c1++[]) []]):=by
    simp only[fps,List.flatMap_cons,List.flatMap_nil,List.append_nil,deepA,Asn.fp]
    exact List.Perm.refl _
   have hst2:St C.R w ([Asn.row g.a g.c e (S.sz t) g.n c1]++As') Ps:=St.re (Bs:=[deepA S g e t es (l.drop l.length) [] (c1++[]) []]) hst (λD hD=>by
    rw[List.mem_singleton] at hD
    subst hD
    exact d1) hfp
   have hst3:=hst2.addPs (ps:=[RepsB (S.GT t) c1 l]) λp hp=>by
    rw[List.mem_singleton] at hp
    subst hp
    exact hsh.reps hst2.per
   have hP:∀p∈Ps,p∈[RepsB (S.GT t) c1 l]++Ps:=λp hp=>List.mem_append_right _ hp
   refine⟨ρ,_,_,hst3,hH.keep,λb hb=>hH.old b ((fps_perm hp1).mem_iff.2 ?_),hH.size,hH.dfr,λq x hx=>RelAV.mono (λ_ _ h=>h) hP (hH.env q x hx),⟨⟨g,c1,hg,rfl,hn,List.mem_append_left _ (List.mem_singleton_self _)⟩,hr.mono λ_ _ h=>RelItem.mono (λ_ _ h=>h) hP h⟩,hH.dom,hH.org⟩
   rw[fps_append] at hb
   rw[fps_cons]
   rcases List.mem_append.1 hb with hb|hb
   ·have:=hfp.mem_iff.1 hb
    simp only[fps,List.flatMap_cons,List.flatMap_nil,List.append_nil] at this⊢
    exact List.mem_append_left _ this
   ·exact List.mem_append_right _ hb
  ·cases h
 | .dsc k::gs,s,h,hH=>by
  simp only[gho] at h
  split at h
  ·rename_i e t es m l hk
   split at h
   ·rename_i hk ht
    refine gho_sound ok h ?_
    obtain⟨ρ,As,Ps,hH⟩:=hH
    obtain⟨As1,hp1,h1⟩:=All2.perm (er1_perm hk) hH.its
    obtain⟨A,As',rfl,hA,hr⟩:=All2.cons_left h1
    have hst:=hH.st.perm hp1
    obtain⟨g0,hg0,hn0,hr0⟩:=deep_rs0 ok (λp hp=>(hst.per p hp).here) hA
    have h0:=hst.own A (List.mem_cons_self ..)
    obtain⟨gg,ea,ec,en,hsc⟩:=scr_mk ok ht (F:=A.fp) (w:=w) (nf_item (r:=Unit) (m:=λj=>j) (p:= .deep e t es) rfl (z:=(l,())) hA h0) (λw2 hw=>hr0 w2 (Asn.same h0 hw)) P s.nx
    have hn:ρ s.nx=none:=by
     cases hq:ρ s.nx with
     |none=>rfl
     |some g=>exact absurd (hH.dom _ g hq) (Nat.lt_irrefl _)
    have hgr:=ghost_grow (ρ:=ρ) (nx:=s.nx) (g:=gg) hn
    obtain⟨j0,hold0⟩:=hsc (ghost ρ s.nx gg) Ps ghost_at
    have hfp:fps [Asn.any A.fp (ScrP S gg t true l)]=fps [A]:=by simp[fps,Asn.fp]
    have hst2:St C.R w ([Asn.any A.fp (ScrP S gg t true l)]++As') Ps:=St.re (Bs:=[A]) hst (λD hD=>by
     rw[List.mem_singleton] at hD
     subst hD
     exact hold0) (by rw[hfp])
    have hy:∀v,RelLf S (ghost ρ s.nx gg) Ps (.own k) v→RelLf S (ghost ρ s.nx gg) Ps (.own s.nx) v:=λv hv=>by
     obtain⟨g',h3,h4⟩:=hv
     rw[hgr.keep _ _ hg0] at h3
     obtain rfl:=someI' h3
     exact⟨gg,ghost_at,by rw[h4,ea,ec,en,hn0]⟩
    refine⟨ghost ρ s.nx gg,_,Ps,hst2,hH.keep,λb hb=>hH.old b ((fps_perm hp1).mem_iff.2 ?_),hH.size,hH.dfr,λq x hx=> ?_,⟨j0,itSubs_rel (λ_ h=>h) hy (hr.mono λ_ _ h=>RelItem.mono hgr.keep (λ_ h=>h) h)⟩,λj g' hj=> ?_,λj q g' h3 h4=>hgr.keep _ _ (hH.org j q g' h3 h4)⟩
    ·rw[fps_append,hfp] at hb
     rw[fps_cons]
     simpa[fps] using hb
    ·obtain⟨y,h3,rfl⟩:=look_map hx
     exact avSub_rel (λ_ h=>h) hy (RelAV.mono hgr.keep (λ_ h=>h) (hH.env q y h3))
    ·rcases hgr.new j g' hj with h4|h4
     ·have:=hH.dom j g' h4;show j<s.nx+1;omega
     ·show j<s.nx+1;omega
   ·cases h
  ·cases h
 | .ufo k::gs,s,h,hH=>by
  simp only[gho] at h
  split at h
  ·rename_i its hu
   refine gho_sound ok h ?_
   obtain⟨ρ,As,Ps,hH⟩:=hH
   obtain⟨As',h1,h2,h3⟩:=unf1_ok (P:=P) ok hu hH.st hH.its
   exact⟨ρ,As',Ps,h1,hH.keep,λb hb=>hH.old b (h3.mem_iff.1 hb),hH.size,hH.dfr,hH.env,h2,hH.dom,hH.org⟩
  ·cases h
 | .dpn k es::gs,s,h,hH=>by
  simp only[gho] at h
  split at h
  ·rename_i e t l hk
   refine gho_sound ok h ?_
   obtain⟨ρ,As,Ps,hH⟩:=hH
   obtain⟨As1,hp1,h1⟩:=All2.perm (er1_perm hk) hH.its
   obtain⟨A,As',rfl,hA,hr⟩:=All2.cons_left h1
   obtain⟨g,cs,hg,rfl,hn,hmem⟩:=row_open hA
   have hst:=hH.st.perm hp1
   have hfp:(fps [deepA S g e t es (l.take 0) [] ([]++cs) []]).Perm (fps [Asn.row g.a g.c e (S.sz t) g.n cs]):=by
    simp only[fps,List.flatMap_cons,List.flatMap_nil,List.append_nil,deepA,Asn.fp,List.nil_append]
    exact List.Perm.refl _
   have hst2:St C.R w ([deepA S g e t es (l.take 0) [] ([]++cs) []]++As') Ps:=St.re (Bs:=[Asn.row g.a g.c e (S.sz t) g.n cs]) hst (λD hD=>by
    rw[List.mem_singleton] at hD
    subst hD
    exact deepA_of ok (hst.own _ (List.mem_cons_self ..)) ⟨rfl,rfl⟩) hfp
   refine⟨ρ,_,Ps,hst2,hH.keep,λb hb=>hH.old b ((fps_perm hp1).mem_iff.2 ?_),hH.size,hH.dfr,hH.env,⟨⟨g,[],cs,[],hg,rfl,hn,Nat.zero_le _,.inr hmem⟩,hr⟩,hH.dom,hH.org⟩
   rw[fps_append] at hb
   rw[fps_cons]
   rcases List.mem_append.1 hb with hb|hb
   ·have:=hfp.mem_iff.1 hb
    simp only[fps,List.flatMap_cons,List.flatMap_nil,List.append_nil] at this
    exact List.mem_append_left _ this
   ·exact List.mem_append_right _ hb
  ·cases h
 | .fin k::gs,s,h,hH=>by
  simp only[gho] at h
  split at h
  ·rename_i e t es m l hk
   split at h
   ·rename_i m hk
    obtain⟨u,hu,h2⟩:=bindS h
    obtain rfl:=sameN_eq hu
    refine gho_sound ok h2 ?_
    obtain⟨ρ,As,Ps,hH⟩:=hH
    obtain⟨As1,hp1,h1⟩:=All2.perm (er1_perm hk) hH.its
    obtain⟨A,As',rfl,hA,hr⟩:=All2.cons_left h1
    obtain⟨g,c1,c2,F,hg,rfl,hn,hm,hsh⟩:=hA
    exact⟨ρ,_,Ps,hH.st.perm hp1,hH.keep,λb hb=>hH.old b ((fps_perm hp1).mem_iff.2 hb),hH.size,hH.dfr,hH.env,⟨⟨g,c1,c2,F,hg,rfl,hn,Nat.le_refl _,hsh⟩,hr⟩,hH.dom,hH.org⟩
   ·cases h
  ·cases h
 | .nrb k i e t::gs,s,h,hH=>by
  simp only[gho] at h
  split at h
  ·rename_i ls hk
   split at h
   ·rename_i hi
    refine gho_sound ok h ?_
    obtain⟨ρ,As,Ps,hH⟩:=hH
    obtain⟨As1,hp1,h1⟩:=All2.perm (er1_perm hk) hH.its
    obtain⟨A,As',rfl,hA,hr⟩:=All2.cons_left h1
    obtain⟨g,vs,hg,rfl,hv⟩:=box_open hA
    have hst:=hH.st.perm hp1
    have hn:ρ s.nx=none:=by
     cases hq:ρ s.nx with
     |none=>rfl
     |some g=>exact absurd (hH.dom _ g hq) (Nat.lt_irrefl _)
    have hgr:=ghost_grow (ρ:=ρ) (nx:=s.nx) (g:=⟨none,0,0,0,noJ,noS⟩) hn
    obtain⟨q1,q2⟩:=nil_st (S:=S) ok [Item.row e t []] hst
    have q3:=q1.addPs (ps:=nilPs S [Item.row e t []]) λp hp w' _=>nilPs_true _ p hp w'
    have hP:∀p∈Ps,p∈nilPs S [Item.row e t []]++Ps:=λp hp=>List.mem_append_right _ hp
    refine⟨ghost ρ s.nx ⟨none,0,0,0,noJ,noS⟩,_,_,q3,hH.keep,λb hb=>hH.old b ((fps_perm hp1).mem_iff.2 (by rw[q2] at hb;exact hb)),hH.size,hH.dfr,λq x hx=>RelAV.mono hgr.keep hP (hH.env q x hx), ?_,λj g' hj=> ?_,λj q g' h3 h4=>hgr.keep _ _ (hH.org j q g' h3 h4)⟩
    ·refine⟨⟨_,[],ghost_at,rfl,rfl,List.mem_cons_self ..⟩,⟨g,vs,hgr.keep _ _ hg,rfl, ?_⟩,hr.mono λ_ _ h=>RelItem.mono hgr.keep hP h⟩
     refine All2.set_left (λ_ _ h=>RelLf.mono hgr.keep hP h) (λx y hx hxy=> ?_) hv
     rw[hi] at hx
     obtain rfl:=someI' hx
     exact⟨_,ghost_at,hxy⟩
    ·rcases hgr.new j g' hj with h4|h4
     ·have:=hH.dom j g' h4;show j<s.nx+1;omega
     ·show j<s.nx+1;omega
   ·cases h
  ·cases h
end
end Go.Bur
