import Derived.Test.YtlcmdgpjiendmaaGreatTreP
namespace Go.Proofs.YtlcmdgpjiendmaaGreat
open Go.Bur
set_option linter.unusedSimpArgs false
set_option linter.unusedVariables false
set_option maxRecDepth 100000
theorem depth_uniq{f:List Content}:∀{a b:Nat} {n:Int} {lo lo':Key} {hi hi':Option Key},sub f a n lo hi→sub f b n lo' hi'→a=b:=by
 intro a
 induction a with
 |zero=>intro b n lo lo' hi hi' h;exact h.elim
 |succ a ih=>
  intro b n lo lo' hi hi' h g
  cases b with
  |zero=>exact g.elim
  |succ b=>
   cases a with
   |zero=>
    cases b with
    |zero=>rfl
    |succ b=>
     obtain⟨_,_,l,e,_⟩:=h
     obtain⟨_,_,m,e',_⟩:=g
     rw[e] at e';cases e'
   |succ a=>
    cases b with
    |zero=>
     obtain⟨_,_,l,e,_⟩:=h
     obtain⟨_,_,m,e',_⟩:=g
     rw[e] at e';cases e'
    |succ b=>
     obtain⟨l,e,h2,_,h4⟩:=inner_of h
     obtain⟨m,e',_,_,g4⟩:=inner_of g
     rw[e] at e'
     injection e' with _ _ e'
     subst e'
     obtain⟨k,t,el⟩:∃k t,l=k::t:=by
      match l,h2 with
      |k::t,_=>exact⟨k,t,rfl⟩
     have hk:k∈l:=by rw[el];exact List.mem_cons_self ..
     obtain⟨_,_,s1⟩:=kidsOk_all h4.ok k hk
     obtain⟨_,_,s2⟩:=kidsOk_all g4.ok k hk
     have:=ih s1 s2
     omega
theorem On.inner{f:List Content}{D d:Nat}{n:Int}{k:Key}(h:On f D (d+2) n k){l:List Kid}(hp:pg f n=⟨2,[],l⟩):InnerOk l:=by
 obtain⟨lo,hi,Q,R1,R2,h1,hw,_⟩:=h
 obtain⟨l',e,hl2,hl4,hK⟩:=inner_of h1.tree
 rw[hp] at e
 injection e with _ _ e
 rw[e];exact(hK.inner h1.low hl2 hl4).1
theorem On.zero{f:List Content}{D d:Nat}{k:Key}(h:On f D d 0 k):D=d:=by
 have hg:=h.good
 obtain⟨lo,hi,Q,R1,R2,h1,hw,_⟩:=h
 exact depth_uniq hg.tree h1.tree
def nextPg(f:List Content)(n:Int)(k:Key):Int:=(kidAt (pg f n).kids (kidI (pg f n).kids k)).page
def feedAt(l:List Kid)(i:Nat):Nat:=if i+1=l.length then i else i+1
def joinS(f:List Content)(n:Int)(a:Nat):List Sheet:=
 let l:=(pg f n).kids
 [⟨n,⟨2,[],l.take a++l.drop (a+1)⟩⟩,⟨(kidAt l (a-1)).page,bothC (pg f (kidAt l (a-1)).page) (pg f (kidAt l a).page) (kidAt l a).least⟩,⟨(kidAt l a).page,cont0⟩]
def rootS(f:List Content)(n:Int)(a:Nat):List Sheet:=
 let l:=(pg f n).kids
 [⟨0,bothC (pg f (kidAt l (a-1)).page) (pg f (kidAt l a).page) (kidAt l a).least⟩,⟨(kidAt l (a-1)).page,cont0⟩,⟨(kidAt l a).page,cont0⟩]
def levS(f:List Content)(n:Int)(a:Nat):List Sheet:=
 let l:=(pg f n).kids
 let A:=pg f (kidAt l (a-1)).page
 let C:=pg f (kidAt l a).page
 let B:=bothC A C (kidAt l a).least
 [⟨n,⟨2,[],l.take a++⟨cutS B (cutM A C),(kidAt l a).page⟩::l.drop (a+1)⟩⟩,⟨(kidAt l (a-1)).page,cutA B (cutM A C)⟩,⟨(kidAt l a).page,cutB B (cutM A C)⟩]
def sizeB(f:List Content)(n:Int)(a:Nat):Nat:=sizeP (pg f (kidAt (pg f n).kids (a-1)).page)+sizeP (pg f (kidAt (pg f n).kids a).page)
def feedP(f:List Content)(n:Int)(k:Key):List Content×Int×List Group:=
 let l:=(pg f n).kids
 let a:=feedAt l (kidI l k)
 if sizeP (pg f (nextPg f n k))≤2 then
  if sizeB f n a≤4 then
   if n=0∧l.length=2 then(withS f (srtS (rootS f n a)),0,[⟨srtS (rootS f n a)⟩])
   else(withS f (srtS (joinS f n a)),nextPg (withS f (srtS (joinS f n a))) n k,[⟨srtS (joinS f n a)⟩])
  else(withS f (srtS (levS f n a)),nextPg (withS f (srtS (levS f n a))) n k,[⟨srtS (levS f n a)⟩])
 else(f,nextPg f n k,[])
theorem feed_pair{l:List Kid}(h2:2≤l.length){l1 l2:List Kid}{x:Kid}(e:l=l1++x::l2):∃p1 u v p2,l=p1++u::v::p2∧feedAt l l1.length=p1.length+1∧((u=x∧p1=l1∧l2=v::p2)∨(v=x∧l1=p1++[u]∧p2=[]∧l2=[])):=by
 cases l2 with
 |nil=>
  have hne:l1≠[]:=λh=>by subst h;subst e;simp at h2
  refine⟨l1.dropLast,l1.getLast hne,x,[], ?_, ?_,Or.inr ⟨rfl,(List.dropLast_concat_getLast hne).symm,rfl,rfl⟩⟩
  ·rw[e]
   conv=>lhs;rw[←List.dropLast_concat_getLast hne]
   simp
  ·unfold feedAt
   rw[if_pos (by rw[e];simp),List.length_dropLast]
   have:=List.length_pos_iff.2 hne
   omega
 |cons v p2=>
  refine⟨l1,x,v,p2,e, ?_,Or.inl ⟨rfl,rfl,rfl⟩⟩
  unfold feedAt
  rw[if_neg (by rw[e];simp)]
theorem kidAt_u{p1 p2:List Kid}{u v:Kid}:kidAt (p1++u::v::p2) (p1.length+1-1)=u:=by simp[kidAt]
theorem kidAt_v{p1 p2:List Kid}{u v:Kid}:kidAt (p1++u::v::p2) (p1.length+1)=v:=by
 rw[show p1++u::v::p2=(p1++[u])++v::p2 by simp,show p1.length+1=(p1++[u]).length by simp,kidAt_mid]
theorem take_v{p1 p2:List Kid}{u v:Kid}:(p1++u::v::p2).take (p1.length+1)=p1++[u]:=by
 rw[show p1++u::v::p2=(p1++[u])++v::p2 by simp,show p1.length+1=(p1++[u]).length by simp,List.take_left]
theorem drop_v{p1 p2:List Kid}{u v:Kid}:(p1++u::v::p2).drop (p1.length+1+1)=p2:=by
 rw[show p1++u::v::p2=(p1++[u,v])++p2 by simp,show p1.length+1+1=(p1++[u,v]).length by simp,List.drop_left]
theorem feed_on{f:List Content}{D d:Nat}{n:Int}{k:Key}(h:On f D (d+2) n k)(hs:n≠0→3≤sizeP (pg f n)):
  ∃D',On (feedP f n k).1 D' (d+1) (feedP f n k).2.1 k∧((feedP f n k).2.1≠0→3≤sizeP (pg (feedP f n k).1 (feedP f n k).2.1))∧rws (feedP f n k).1 D' 0=rws f D 0∧Chain (rws f D 0) f (feedP f n k).2.2 (feedP f n k).1∧
   ∃u v,((feedP f n k).2.1=u∨(feedP f n k).2.1=v∨(feedP f n k).2.1=n)∧∀g∈(feedP f n k).2.2,∀s∈g.sheets,s.page=n∨s.page=u∨s.page=v:=by
 obtain⟨l1,x,l2,hp,hI,hi,c1,c2,hd⟩:=h.kids
 have hik:kidI (pg f n).kids k=l1.length:=by rw[hp];exact hi.symm
 have hnx:nextPg f n k=x.page:=by unfold nextPg;rw[hik,hp];exact congrArg (·.page) kidAt_mid
 obtain⟨p1,u,v,p2,e,ha,hcase⟩:=feed_pair hI.two rfl
 have hp':pg f n=⟨2,[],p1++u::v::p2⟩:=by rw[←e];exact hp
 have hI':InnerOk (p1++u::v::p2):=e▸hI
 have haf:feedAt (pg f n).kids (kidI (pg f n).kids k)=p1.length+1:=by rw[hik,hp];exact ha
 have hsB:sizeB f n (p1.length+1)=sizeP (pg f u.page)+sizeP (pg f v.page):=by unfold sizeB;rw[hp'];simp only;rw[kidAt_u,kidAt_v]
 have hh:=h
 obtain⟨lo,hiB,Q,R1,R2,hA,hw,hr1,hr2⟩:=hh
 obtain⟨P,hu,hv⟩:=hA.pair hp'
 have hb:=P.both.2.2.2
 have hxs:x=u∨x=v:=by rcases hcase with⟨a,_⟩|⟨a,_⟩;exact Or.inl a.symm;exact Or.inr a.symm
 have hx2:2≤sizeP (pg f x.page):=by rcases hxs with e|e<;>rw[e];exact P.x2;exact P.y2
 have hr:=hI'.rise
 obtain⟨_,rr,rm⟩:=List.pairwise_append.1 hr
 obtain⟨ru,rv⟩:=List.pairwise_cons.1 rr
 obtain⟨rv,_⟩:=List.pairwise_cons.1 rv
 have huv:ltK u.least v.least=true:=ru v (List.mem_cons_self ..)
 have q:=P.x2;have q2:=P.y2;have q3:=P.x4;have q4:=P.y4
 unfold feedP
 simp only[hnx,haf,hsB]
 by_cases hsm:sizeP (pg f x.page)≤2
 case neg=>
  rw[if_neg hsm]
  exact⟨D,hd,λ_=>by simp only;omega,rfl,rfl,x.page,x.page,Or.inl rfl,by simp⟩
 rw[if_pos hsm]
 by_cases hj:sizeP (pg f u.page)+sizeP (pg f v.page)≤4
 ·rw[if_pos hj]
  by_cases hroot:n=0∧(pg f n).kids.length=2
  ·rw[if_pos hroot]
   obtain⟨rfl,hlen⟩:=hroot
   have hD:=h.zero
   subst hD
   have hlen':(p1++u::v::p2).length=2:=by rw[hp'] at hlen;exact hlen
   obtain⟨rfl,rfl⟩:p1=[]∧p2=[]:=by
    simp only[List.length_append,List.length_cons] at hlen'
    exact⟨List.eq_nil_of_length_eq_zero (by omega),List.eq_nil_of_length_eq_zero (by omega)⟩
   have hS:rootS f 0 ([]:List Kid).length.succ=[⟨0,bothC (pg f u.page) (pg f v.page) v.least⟩,⟨u.page,cont0⟩,⟨v.page,cont0⟩]:=by unfold rootS;rw[hp'];rfl
   obtain⟨g1,g2,g3⟩:=root_good h.good hp' rfl (by rw[hb];exact hj) rfl
   rw[show([]:List Kid).length+1=([]:List Kid).length.succ from rfl,hS]
   refine⟨d+1,On.root g2 h.low,λe=>absurd rfl e,g3,chain_one g1 g2 g3,u.page,v.page,Or.inr (Or.inr rfl),λg hg s hs=> ?_⟩
   cases List.mem_singleton.1 hg
   have:=(srtS_perm _).mem_iff.1 hs
   simp only[List.mem_cons,List.not_mem_nil,or_false] at this
   rcases this with rfl|rfl|rfl<;>simp
  ·rw[if_neg hroot]
   have hS:joinS f n (p1.length+1)=[⟨n,⟨2,[],p1++u::p2⟩⟩,⟨u.page,bothC (pg f u.page) (pg f v.page) v.least⟩,⟨v.page,cont0⟩]:=by
    unfold joinS;rw[hp'];simp only;rw[kidAt_u,kidAt_v,take_v,drop_v];simp
   have h3:3≤(p1++u::v::p2).length:=by
    by_cases h0:n=0
    ·have:=hI'.two
     have hne:¬(p1++u::v::p2).length=2:=λe=>hroot ⟨h0,by rw[hp'];exact e⟩
     omega
    ·have:=hs h0;rw[hp'] at this;simpa[sizeP] using this
   obtain⟨g1,g2,g3,g4,g5⟩:=join_on h hp' rfl h3 (by rw[hb];exact hj) rfl
   rw[hS]
   have hch:=chain_one g1 g2.good g3
   generalize hf':withS f (srtS [⟨n,⟨2,[],p1++u::p2⟩⟩,⟨u.page,bothC (pg f u.page) (pg f v.page) v.least⟩,⟨v.page,cont0⟩])=f' at g2 g3 g4 g5 hch⊢
   have c1':p1≠[]→ltK k u.least=false:=λhne=>by
    rcases hcase with⟨a,b,c⟩|⟨a,b,c⟩
    ·rw[a];exact c1 (b▸hne)
    ·have:=c1 (by rw[b];simp)
     rw[←a] at this
     exact le_le (lt_asymm huv) this
   have c2':∀y t,p2=y::t→ltK k y.least=true:=λy t ey=>by
    rcases hcase with⟨a,b,c⟩|⟨a,b,c,_⟩
    ·exact ltK_trans (c2 v p2 c) (rv y (by rw[ey];exact List.mem_cons_self ..))
    ·rw[c] at ey;cases ey
   have hnext:nextPg f' n k=u.page:=by
    unfold nextPg
    rw[g4]
    simp only
    rw[kidI_of (g2.inner g4).rise c1' c2',kidAt_mid]
   rw[hnext]
   refine⟨D,g2.down g4 c1' c2',λ_=>by rw[g5,hb];omega,g3,hch,u.page,v.page,Or.inl rfl,λg hg s hs=> ?_⟩
   cases List.mem_singleton.1 hg
   have:=(srtS_perm _).mem_iff.1 hs
   simp only[List.mem_cons,List.not_mem_nil,or_false] at this
   rcases this with rfl|rfl|rfl<;>simp
 ·rw[if_neg hj]
  generalize hm:cutM (pg f u.page) (pg f v.page)=m
  have hS:levS f n (p1.length+1)=[⟨n,⟨2,[],p1++u::⟨cutS (bothC (pg f u.page) (pg f v.page) v.least) m,v.page⟩::p2⟩⟩,⟨u.page,cutA (bothC (pg f u.page) (pg f v.page) v.least) m⟩,⟨v.page,cutB (bothC (pg f u.page) (pg f v.page) v.least) m⟩]:=by
   unfold levS;rw[hp'];simp only;rw[kidAt_u,kidAt_v,take_v,drop_v,hm];simp
  have hmm:(x=u∧m=3∧sizeP (pg f u.page)=2)∨(x=v∧m+1=sizeP (pg f u.page)∧sizeP (pg f v.page)=2):=by
   unfold cutM at hm
   rcases hxs with e|e
   ·rw[e] at hsm hx2
    left
    rw[if_neg (by omega)] at hm
    exact⟨e,by omega,by omega⟩
   ·rw[e] at hsm hx2
    right
    rw[if_pos (by omega)] at hm
    exact⟨e,by omega,by omega⟩
  obtain⟨g1,g2,g3,g4,g5,g6⟩:=level_on h hp' rfl (m:=m) (by rcases hmm with h|h<;>omega) (by rcases hmm with h|h<;>omega) (by rw[hb];rcases hmm with h|h<;>omega) (by rw[hb];rcases hmm with h|h<;>omega) rfl
  rw[hS]
  have hch:=chain_one g1 g2.good g3
  obtain⟨_,_,_,_,_,d6,d7⟩:=con_cut (m:=m) P.both.1 (by rcases hmm with h|h<;>omega) (by rw[hb];rcases hmm with h|h<;>omega)
  have hup:x=u→ltK (cutS (bothC (pg f u.page) (pg f v.page) v.least) m) v.least=false:=λe=>lvl_up P.cx P.cy (by rcases hmm with h|h;omega;exact absurd (e.symm.trans h.1) (λe=>P.xy (by rw[e]))) (by rcases hmm with h|h<;>omega)
  have hdn:x=v→ltK (cutS (bothC (pg f u.page) (pg f v.page) v.least) m) v.least=true:=λe=>lvl_dn P.cx P.cy (by rcases hmm with h|h<;>omega) (by rcases hmm with h|h;exact absurd (h.1.symm.trans e) (λe=>P.xy (by rw[e]));omega)
  generalize hB:bothC (pg f u.page) (pg f v.page) v.least=B at*
  generalize hf':withS f (srtS [⟨n,⟨2,[],p1++u::⟨cutS B m,v.page⟩::p2⟩⟩,⟨u.page,cutA B m⟩,⟨v.page,cutB B m⟩])=f' at g2 g3 g4 g5 g6 hch⊢
  have hgs:∀g∈[Group.mk (srtS [⟨n,⟨2,[],p1++u::⟨cutS B m,v.page⟩::p2⟩⟩,⟨u.page,cutA B m⟩,⟨v.page,cutB B m⟩])],∀s∈g.sheets,s.page=n∨s.page=u.page∨s.page=v.page:=λg hg s hs=>by
   cases List.mem_singleton.1 hg
   have:=(srtS_perm _).mem_iff.1 hs
   simp only[List.mem_cons,List.not_mem_nil,or_false] at this
   rcases this with rfl|rfl|rfl<;>simp
  rcases hcase with⟨a,b,c⟩|⟨a,b,c,c'⟩
  ·have hxu:x=u:=a.symm
   have c1':p1≠[]→ltK k u.least=false:=λhne=>by rw[a];exact c1 (b▸hne)
   have c2':∀y t,(⟨cutS B m,v.page⟩::p2:List Kid)=y::t→ltK k y.least=true:=λy t ey=>by
    cases ey;exact lt_le (c2 v p2 c) (hup hxu)
   have hnext:nextPg f' n k=u.page:=by
    unfold nextPg
    rw[g4]
    simp only
    rw[kidI_of (g2.inner g4).rise c1' c2',kidAt_mid]
   rw[hnext]
   exact⟨D,g2.down g4 c1' c2',λ_=>by rw[g5,d6];rcases hmm with h|h;omega;exact absurd (hxu.symm.trans h.1) (λe=>P.xy (by rw[e])),g3,hch,u.page,v.page,Or.inl rfl,hgs⟩
  ·have hxv:x=v:=a.symm
   have e':p1++u::⟨cutS B m,v.page⟩::p2=(p1++[u])++⟨cutS B m,v.page⟩::p2:=by simp
   have c1':p1++[u]≠[]→ltK k (Kid.mk (cutS B m) v.page).least=false:=λ_=>by
    have:=c1 (by rw[b];simp)
    rw[hxv] at this
    exact le_le (lt_asymm (hdn hxv)) this
   have c2':∀y t,p2=y::t→ltK k y.least=true:=λy t ey=>by rw[c] at ey;cases ey
   rw[e'] at g4
   have hnext:nextPg f' n k=v.page:=by
    unfold nextPg
    rw[g4]
    simp only
    rw[kidI_of (g2.inner g4).rise c1' c2',kidAt_mid]
   rw[hnext]
   exact⟨D,g2.down (x:=⟨cutS B m,v.page⟩) g4 c1' c2',λ_=>by rw[g6,d7,hb];rcases hmm with h|h;exact absurd (h.1.symm.trans hxv) (λe=>P.xy (by rw[e]));omega,g3,hch,u.page,v.page,Or.inr (Or.inl rfl),hgs⟩
def takeW(k:Key):Nat→List Content→Int→List Content×Int×List Group
 |0,f,n=>(f,n,[])
 |d+1,f,n=>((takeW k d (feedP f n k).1 (feedP f n k).2.1).1,(takeW k d (feedP f n k).1 (feedP f n k).2.1).2.1,(feedP f n k).2.2++(takeW k d (feedP f n k).1 (feedP f n k).2.1).2.2)
theorem takeW_on{k:Key}:∀{d D:Nat} {f:List Content} {n:Int},On f D (d+1) n k→(n≠0→3≤sizeP (pg f n))→
  ∃D',On (takeW k d f n).1 D' 1 (takeW k d f n).2.1 k∧((takeW k d f n).2.1≠0→3≤sizeP (pg (takeW k d f n).1 (takeW k d f n).2.1))∧rws (takeW k d f n).1 D' 0=rws f D 0∧Chain (rws f D 0) f (takeW k d f n).2.2 (takeW k d f n).1∧
   ∃T:List Int,T.length≤2*d∧(takeW k d f n).2.1∈n::T∧∀g∈(takeW k d f n).2.2,∀s∈g.sheets,s.page∈n::T
 |0,D,f,n,h,hs=>⟨D,h,hs,rfl,rfl,[],by simp,by simp[takeW],by simp[takeW]⟩
 |d+1,D,f,n,h,hs=>by
  obtain⟨D1,h2,h3,h4,h5,u,v,h6,h7⟩:=feed_on h hs
  obtain⟨D2,g2,g3,g4,g5,T,g6,g7,g8⟩:=takeW_on h2 h3
  have hk:∀p,p∈(feedP f n k).2.1::T→p∈n::u::v::T:=λp hp=>by
   rcases List.mem_cons.1 hp with e|e
   ·rw[e];rcases h6 with e|e|e<;>rw[e]<;>simp
   ·simp[e]
  refine⟨D2,g2,g3,g4.trans h4,chain_app h5 (h4▸g5),u::v::T,by simp only[List.length_cons];omega,hk _ g7,λg hg s hs'=> ?_⟩
  rcases List.mem_append.1 hg with hg|hg
  ·rcases h7 g hg s hs' with e|e|e<;>rw[e]<;>simp
  ·exact hk _ (g8 g hg s hs')
theorem others_len{l:List Row}(hs:Srt l){k:Key}{x:Row}(hf:findK l k=some x):(others k l).length+1=l.length:=by
 rcases stand hs k with⟨pre,y,post,rfl,hx,hc,_⟩|⟨pre,post,rfl,hc,h⟩
 ·rw[others_in hx hc];simp;omega
 ·rw[hf] at h;cases h
theorem take_leaf{f:List Content}{D:Nat}{n:Int}{k:Key}(h:On f D 1 n k){x:Row}(hf:findK (rws f D 0) k=some x)(hs:n≠0→3≤sizeP (pg f n)){l:List Row}(hp:pg f n=⟨1,l,[]⟩):
  Grp f (one n (others k l))∧Good (withS f (one n (others k l))) D∧rws (withS f (one n (others k l))) D 0=others k (rws f D 0)∧LeafOk (others k l)∧findK l k=some x:=by
 obtain⟨l0,g3,g4,g5,g6⟩:=h.leaf
 obtain rfl:l0=l:=by rw[hp] at g3;injection g3 with _ g3;exact g3.symm
 obtain⟨lo,hi,Q,R1,R2,hA,hw,h1,h2⟩:=h
 rw[g6] at hf
 have hlen:=others_len g4.srt hf
 obtain⟨_,_,l1,g3',_,g5'⟩:=hA.tree
 obtain rfl:l1=l0:=by rw[hp] at g3';injection g3' with _ g3';exact g3'.symm
 have hsub:∀y∈others k l1,y∈l1:=λy hy=>(List.mem_filter.1 hy).1
 have hL:LeafOk (others k l1):=⟨by have:=g4.len;omega,λy hy=>g4.row y (hsub y hy),g4.srt.sublist List.filter_sublist⟩
 obtain⟨q1,q2,q3,q4⟩:=leaf_change hA hp hL (λy hy=>g5' y (hsub y hy)) (λe=>by have:=hs e;rw[hp] at this;simp[sizeP] at this;omega)
 refine⟨q1,q2, ?_,hL,hf⟩
 have o1:others k R1=R1:=List.filter_eq_self.2 λy hy=>by simpa using lt_ne (h1 y hy)
 have o2:others k R2=R2:=List.filter_eq_self.2 λy hy=>by simpa using (lt_ne (h2 y hy)).symm
 rw[q3,q4]
 unfold others at o1 o2⊢
 rw[List.filter_append,List.filter_append,o1,o2]
theorem take_on{f:List Content}{D:Nat}{k:Key}(h:Good f D)(hk:ltK k key0=false):
  ∃D',On (takeW k (D-1) f 0).1 D' 1 (takeW k (D-1) f 0).2.1 k∧((takeW k (D-1) f 0).2.1≠0→3≤sizeP (pg (takeW k (D-1) f 0).1 (takeW k (D-1) f 0).2.1))∧rws (takeW k (D-1) f 0).1 D' 0=rws f D 0∧Chain (rws f D 0) f (takeW k (D-1) f 0).2.2 (takeW k (D-1) f 0).1∧
   ∃T:List Int,T.length≤2*(D-1)∧(takeW k (D-1) f 0).2.1∈0::T∧∀g∈(takeW k (D-1) f 0).2.2,∀s∈g.sheets,s.page∈0::T:=by
 obtain⟨d,rfl⟩:∃d,D=d+1:=⟨D-1,by have:=h.pos;omega⟩
 exact takeW_on (On.root h hk) λe=>absurd rfl e
end Go.Proofs.YtlcmdgpjiendmaaGreat
namespace Go.Proofs.YtlcmdgpjiendmaaGreat
open Go.Bur
set_option linter.unusedSimpArgs false
set_option linter.unusedVariables false
set_option maxRecDepth 100000
def mapI(g:Nat→Kid→List Kid):Nat→List Kid→List Kid
 |_,[]=>[]
 |j,y::t=>g j y++mapI g (j+1) t
theorem mapI_same{g:Nat→Kid→List Kid}:∀{l:List Kid} {j:Nat},(∀i y,j≤i→i<j+l.length→g i y=[y])→mapI g j l=l
 |[],_,_=>rfl
 |y::t,j,h=>by
  rw[mapI,h j y (Nat.le_refl _) (by simp),mapI_same λi z h1 h2=>h i z (by omega) (by simp only[List.length_cons];omega)];rfl
theorem mapI_app{g:Nat→Kid→List Kid}:∀{l m:List Kid} {j:Nat},mapI g j (l++m)=mapI g j l++mapI g (j+l.length) m
 |[],_,_=>rfl
 |y::t,m,j=>by
  rw[List.cons_append,mapI,mapI,mapI_app,List.append_assoc,List.length_cons,show j+1+t.length=j+(t.length+1) by omega]
theorem mapI_mid{g:Nat→Kid→List Kid}{l1 l2:List Kid}{x:Kid}(h:∀i y,i≠l1.length→g i y=[y]):mapI g 0 (l1++x::l2)=l1++(g l1.length x++l2):=by
 rw[mapI_app,mapI_same λi y _ h2=>h i y (by omega),mapI,mapI_same λi y h1 _=>h i y (by omega),Nat.zero_add]
theorem mapI_loop{R:Type}{F:((Nat×List Kid)→Option R)→(Nat×List Kid)→Option R}{T:Type}{G:(T→Option R)→T→Option R}(g:Nat→Kid→List Kid)(hg:∀i y,(g i y).length≤2)(l:List Kid)(mk:Nat→List Kid→T)(fin:List Kid→Option R)
  (hG:∀r i y acc,l[i]? =some y→i<l.length→acc.length≤2*i→G r (mk i acc)=r (mk (i+1) (acc++g i y))) (hE:∀r acc,G r (mk l.length acc)=fin acc):
  ∀m i acc,i≤l.length→l.length-i<m→acc.length≤2*i→loopF G m (mk i acc)=fin (acc++mapI g i (l.drop i)):=by
 intro m
 induction m with
 |zero=>intro i acc _ h;omega
 |succ m ih=>
  intro i acc hi hm ha
  rw[loopF_succ]
  by_cases h:i<l.length
  ·have:=hg i l[i]
   rw[hG _ i _ acc (get_some h) h ha,ih (i+1) _ (by omega) (by omega) (by rw[List.length_append];omega),drop_cons h,mapI,List.append_assoc]
  ·obtain rfl:i=l.length:=by omega
   rw[hE,drop_nil h,mapI,List.append_nil]
theorem eqi{i j:Nat}:((i:Int)==(j:Int))=decide (i=j):=ieq4
theorem radopt_eq(n:Nat)(hn:1003≤n)(c:Content){l1 l2:List Kid}{x:Kid}(hc:c.kids=l1++x::l2)(hl:(l1++x::l2).length≤100)(m:Int)(s:Key):ref11_Adopt n c (l1.length:Int) m s=some ⟨2,[],l1++x::⟨s,m⟩::l2⟩:=by
 show ref11_Adopt_l1 n n ((l1.length:Int),m,((0:Nat):Int),c,s,_,[],())=_
 unfold ref11_Adopt_l1
 refine(mapI_loop (F:=λ_ _=>none) (λi y=>if i=l1.length then [y,⟨s,m⟩] else [y]) (λi y=>by split<;>simp) c.kids (λi acc=>((l1.length:Int),m,(i:Int),c,s,Content.mk 0 [] [],acc,())) (λacc=>some ⟨2,[],acc⟩) (λr i y acc hy hi ha=> ?_) (λr acc=> ?_) n 0 [] (Nat.zero_le _) (by rw[hc];omega) (by simp)).trans ?_
 ·rw[hc] at hi
  simp only[lt_dec (hc▸hi:i<c.kids.length),cond_true,idx_nat,hy,Option.bind_some,app_lt (show acc.length+[y].length≤1000000 by simp;omega) (show 24≤1000 by omega),jn,ref11_Adopt_j2,eqi,wrap_succ (show i<4611686018427387904 by omega)]
  by_cases e:i=l1.length
  ·rw[decide_eq_true e,cond_true,if_pos e,app_lt (by simp;omega) (by decide)]
   simp
  ·rw[decide_eq_false e,cond_false,if_neg e]
 ·simp only[ge_dec (Nat.lt_irrefl _),cond_false];rfl
 ·rw[List.drop_zero,hc,mapI_mid λi y h=>if_neg h,if_pos rfl];simp
theorem rdisown_eq(n:Nat)(hn:1003≤n)(c:Content){l1 l2:List Kid}{x:Kid}(hc:c.kids=l1++x::l2)(hl:(l1++x::l2).length≤100):ref11_Disown n c (l1.length:Int)=some ⟨2,[],l1++l2⟩:=by
 show ref11_Disown_l1 n n ((l1.length:Int),((0:Nat):Int),c,_,[],())=_
 unfold ref11_Disown_l1
 refine(mapI_loop (F:=λ_ _=>none) (λi y=>if i=l1.length then [] else [y]) (λi y=>by split<;>simp) c.kids (λi acc=>((l1.length:Int),(i:Int),c,Content.mk 0 [] [],acc,())) (λacc=>some ⟨2,[],acc⟩) (λr i y acc hy hi ha=> ?_) (λr acc=> ?_) n 0 [] (Nat.zero_le _) (by rw[hc];omega) (by simp)).trans ?_
 ·rw[hc] at hi
  simp only[lt_dec (hc▸hi:i<c.kids.length),cond_true,idx_nat,hy,Option.bind_some,app_lt (show acc.length+[y].length≤1000000 by simp;omega) (show 24≤1000 by omega),jn,ref11_Disown_j2,ineN,wrap_succ (show i<4611686018427387904 by omega)]
  by_cases e:i=l1.length
  ·rw[decide_eq_true e,if_pos e];simp
  ·rw[decide_eq_false e,if_neg e];simp
 ·simp only[ge_dec (Nat.lt_irrefl _),cond_false];rfl
 ·rw[List.drop_zero,hc,mapI_mid λi y h=>if_neg h,if_pos rfl];simp
theorem rstep_eq(n:Nat)(hn:1003≤n)(c:Content){l1 l2:List Kid}{x:Kid}(hc:c.kids=l1++x::l2)(hl:(l1++x::l2).length≤100)(s:Key):ref11_Step n c (l1.length:Int) s=some ⟨2,[],l1++⟨s,x.page⟩::l2⟩:=by
 show ref11_Step_l1 n n ((l1.length:Int),((0:Nat):Int),c,s,_,[],())=_
 unfold ref11_Step_l1
 refine(mapI_loop (F:=λ_ _=>none) (λi y=>if i=l1.length then [⟨s,y.page⟩] else [y]) (λi y=>by split<;>simp) c.kids (λi acc=>((l1.length:Int),(i:Int),c,s,Content.mk 0 [] [],acc,())) (λacc=>some ⟨2,[],acc⟩) (λr i y acc hy hi ha=> ?_) (λr acc=> ?_) n 0 [] (Nat.zero_le _) (by rw[hc];omega) (by simp)).trans ?_
 ·rw[hc] at hi
  simp only[lt_dec (hc▸hi:i<c.kids.length),cond_true,idx_nat,hy,Option.bind_some,jn,ref11_Step_j2,eqi,wrap_succ (show i<4611686018427387904 by omega)]
  by_cases e:i=l1.length
  ·rw[decide_eq_true e,cond_true,if_pos e,app_lt (by simp;omega) (by decide)];rfl
  ·rw[decide_eq_false e,cond_false,if_neg e,app_lt (by simp;omega) (by decide)];rfl
 ·simp only[ge_dec (Nat.lt_irrefl _),cond_false];rfl
 ·rw[List.drop_zero,hc,mapI_mid λi y h=>if_neg h,if_pos rfl];simp
theorem lt_uniq:∀{l m:List Sheet},l.Perm m→(l.Pairwise λa b=>a.page<b.page)→(m.Pairwise λa b=>a.page<b.page)→l=m
 |[],m,h,_,_=>(List.nil_perm.1 h).symm
 |x::l,[],h,_,_=>absurd h.length_eq (by simp)
 |x::l,y::m,h,h1,h2=>by
  obtain⟨a1,a2⟩:=List.pairwise_cons.1 h1
  obtain⟨b1,b2⟩:=List.pairwise_cons.1 h2
  have e:x=y:=by
   rcases List.mem_cons.1 (h.mem_iff.1 (List.mem_cons_self ..):x∈y::m) with e|hx
   ·exact e
   ·rcases List.mem_cons.1 (h.mem_iff.2 (List.mem_cons_self ..):y∈x::l) with e|hy
    ·exact e.symm
    ·have:=b1 x hx;have:=a1 y hy;omega
  subst e
  rw[lt_uniq h.cons_inv a2 b2]
def pickS(l:List Sheet)(j:Nat):List Sheet:=l.filter λs=>decide (s.page=(j:Int))
theorem pick_all {l : List Sheet} (hl : SheetsIn l) (hd : (l.map (·.page)).Nodup) : (List.range' 0 64).flatMap (pickS l) = srtS l := by
  have hf1 : ∀ j, (pickS l j).length ≤ 1 := fun j => by
    match h : pickS l j with
    | [] => simp
    | [_] => simp
    | a :: b :: t =>
      have hs : (pickS l j).Sublist l := List.filter_sublist
      have hn := (hs.map (·.page)).nodup hd
      have ha : a.page = (j : Int) := by have : a ∈ pickS l j := by rw [h]; simp
                                         exact of_decide_eq_true (List.mem_filter.1 this).2
      have hb : b.page = (j : Int) := by have : b ∈ pickS l j := by rw [h]; simp
                                         exact of_decide_eq_true (List.mem_filter.1 this).2
      rw [h] at hn
      simp only [List.map_cons, List.nodup_cons, List.mem_cons, not_or] at hn
      exact absurd (ha.trans hb.symm) hn.1.1
  have hmem : ∀ {j s}, s ∈ pickS l j → s ∈ l ∧ s.page = (j : Int) := fun hs => ⟨(List.mem_filter.1 hs).1, of_decide_eq_true (List.mem_filter.1 hs).2⟩
  have hsorted : ∀ (k i : Nat), ((List.range' i k).flatMap (pickS l)).Pairwise fun a b => a.page < b.page := by
    intro k
    induction k with
    | zero => intro i; simp
    | succ k ih =>
      intro i
      rw [List.range'_succ, List.flatMap_cons]
      refine List.pairwise_append.2 ⟨?_, ih (i + 1), fun a ha b hb => ?_⟩
      · match h : pickS l i, hf1 i with
        | [], _ => simp
        | [_], _ => simp
      · obtain ⟨j, hj, hb⟩ := List.mem_flatMap.1 hb
        rw [List.mem_range'_1] at hj
        have := (hmem ha).2; have := (hmem hb).2; omega
  have hnd : l.Nodup := List.Pairwise.imp (fun h e => h (by rw [e])) (List.pairwise_map.1 hd)
  have hperm : ((List.range' 0 64).flatMap (pickS l)).Perm l := (List.perm_ext_iff_of_nodup ((hsorted 64 0).imp fun h e => by rw [e] at h; omega) hnd).2 fun s => by
    rw [List.mem_flatMap]
    constructor
    · rintro ⟨j, _, hs⟩; exact (hmem hs).1
    · intro hs
      have := hl s hs
      refine ⟨s.page.toNat, by rw [List.mem_range'_1]; omega, List.mem_filter.2 ⟨hs, decide_eq_true (by omega)⟩⟩
  exact lt_uniq (hperm.trans (srtS_perm l).symm) (hsorted 64 0) (srtS_lt hd)
theorem sorted_l2(n:Nat)(r1:(List Sheet)×Int×(List Sheet)×Unit→Option (List Sheet))(l:List Sheet)(hl:l.length≤100000)(j:Nat)(hj:j<64):∀(m:Nat)(t:List Sheet)(i:Nat)(acc:List Sheet),l.drop i=t→i≤l.length→t.length<m→acc.length+t.length≤100000→
  ref13_sorted_l2 n r1 m (l,(j:Int),(i:Int),acc,())=r1 (l,((j+1:Nat):Int),acc++pickS t j,()):=by
 intro m
 induction m with
 |zero=>intro t i acc _ _ h;omega
 |succ m ih=>
  intro t i acc ht hi hk ha
  unfold ref13_sorted_l2
  rw[loopF_succ]
  generalize hr:loopF _ m=r2
  replace hr:ref13_sorted_l2 n r1 m=r2:=hr
  simp only[hr] at ih
  cases t with
  |nil=>
   cases drop_end ht hi
   simp only[ge_dec (Nat.lt_irrefl _),cond_false,wrap_succ (show j<4611686018427387904 by omega)]
   simp[pickS]
  |cons x t=>
   obtain⟨h1,h2,h3⟩:=drop_get ht
   simp only[List.length_cons] at ha hk
   simp only[lt_dec h3,cond_true,idx_nat,h1,Option.bind_some,jn,ref13_sorted_j3,ibeq,wrap_succ (show i<4611686018427387904 by omega)]
   by_cases e:x.page=(j:Int)
   ·rw[decide_eq_true e,cond_true,app_lt (by simp;omega) (by decide)]
    simp only[Option.bind_some]
    rw[ih t (i+1) _ h2 (by omega) (by omega) (by simp;omega)]
    simp[pickS,e]
   ·rw[decide_eq_false e,cond_false,ih t (i+1) _ h2 (by omega) (by omega) (by omega)]
    simp[pickS,e]
theorem rsorted_eq(n:Nat)(hn:1003≤n){l:List Sheet}(hl:SheetsIn l)(hd:(l.map (·.page)).Nodup)(hlen:l.length≤100):ref13_sorted n l=some (srtS l):=by
 have key:∀(m j:Nat)(acc:List Sheet),j≤64→64-j<m→acc.length≤100*j→ref13_sorted_l1 n m (l,(j:Int),acc,())=some (acc++(List.range' j (64-j)).flatMap (pickS l)):=by
  intro m
  induction m with
  |zero=>intro j acc _ h;omega
  |succ m ih=>
   intro j acc hj hm ha
   unfold ref13_sorted_l1
   rw[loopF_succ]
   generalize hr:loopF _ m=r1
   replace hr:ref13_sorted_l1 n m=r1:=hr
   simp only[hr] at ih
   by_cases h:j<64
   ·simp only[show decide ((j:Int)<64)=true from decide_eq_true (by omega),cond_true]
    have hp:(pickS l j).length≤l.length:=List.length_filter_le ..
    refine(sorted_l2 n r1 l (by omega) j h n l 0 acc rfl (Nat.zero_le _) (by omega) (by omega)).trans ?_
    rw[ih (j+1) _ (by omega) (by omega) (by rw[List.length_append];omega),show 64-j=(64-(j+1))+1 by omega,List.range'_succ,List.flatMap_cons,List.append_assoc]
   ·obtain rfl:j=64:=by omega
    simp only[show decide (((64:Nat):Int)<64)=false from rfl,cond_false]
    simp
 have:=key n 0 [] (by omega) (by omega) (by simp)
 rw[List.nil_append,Nat.sub_zero,pick_all hl hd] at this
 exact this
theorem rwith_eq(n:Nat)(hn:1003≤n){f:List Content}(hf:f.length=64){l:List Sheet}(hl:SheetsIn l)(hlen:l.length≤900):ref13_With n ⟨f⟩ l=some ⟨withS f l⟩:=by
 have key:∀(m:Nat)(t:List Sheet)(i:Nat)(g:List Content),l.drop i=t→i≤l.length→t.length<m→g.length=64→ref13_With_l1 n m (l,(i:Int),⟨[]⟩,g,())=some ⟨withS g t⟩:=by
  intro m
  induction m with
  |zero=>intro t i g _ _ h;omega
  |succ m ih=>
   intro t i g ht hi hk hg
   unfold ref13_With_l1
   rw[loopF_succ]
   generalize hr:loopF _ m=r1
   replace hr:ref13_With_l1 n m=r1:=hr
   simp only[hr] at ih
   cases t with
   |nil=>
    cases drop_end ht hi
    simp only[ge_dec (Nat.lt_irrefl _),cond_false];rfl
   |cons x t=>
    obtain⟨h1,h2,h3⟩:=drop_get ht
    have hx:=hl x (List.mem_of_getElem? h1)
    obtain⟨j,hj⟩:∃j:Nat,x.page=(j:Int):=⟨x.page.toNat,by omega⟩
    have hput:put g x.page x.content=some (setP g x.page x.content):=by unfold setP;rw[hj,Int.toNat_natCast];exact put_ok (by omega)
    simp only[lt_dec h3,cond_true,idx_nat,h1,Option.bind_some,show idx g x.page=some (pg g x.page) from idx_pg ⟨hx.1,by omega⟩,hput,wrap_succ (show i<4611686018427387904 by omega)]
    exact ih t (i+1) _ h2 (by omega) (by simp only[List.length_cons] at hk;omega) (by rw[set_len];exact hg)
 unfold ref13_With
 rw[app_lt (by simp;omega) (by decide)]
 simp only[Option.bind_some,List.nil_append]
 exact key n l 0 f rfl (Nat.zero_le _) (by omega) hf
end Go.Proofs.YtlcmdgpjiendmaaGreat
namespace Go.Proofs.YtlcmdgpjiendmaaGreat
open Go.Bur
set_option linter.unusedSimpArgs false
set_option linter.unusedVariables false
set_option maxRecDepth 20000
def insN(s:Sheet):List Sheet→List Sheet
 |[]=>[s]
 |x::t=>if x.page<s.page then x::insN s t else if x.page=s.page then x::t else s::x::t
def netS(l:List Sheet):List Sheet:=l.foldr insN []
def allS(gs:List Group):List Sheet:=gs.flatMap (·.sheets)
def UpS(l:List Sheet):Prop:=l.Pairwise λa b=>a.page<b.page
theorem insN_mem{s:Sheet}:∀{o:List Sheet},UpS o→∀x,x∈insN s o↔x∈o∨(x=s∧∀y∈o,y.page≠s.page)
 |[],_,x=>by simp[insN]
 |y::t,h,x=>by
  obtain⟨h1,h2⟩:=List.pairwise_cons.1 h
  have ih:=insN_mem (s:=s) h2 x
  unfold insN
  split
  ·simp only[List.mem_cons,ih];grind
  ·split
   ·simp only[List.mem_cons];grind
   ·simp only[List.mem_cons];grind
theorem insN_up{s:Sheet}:∀{o:List Sheet},UpS o→UpS (insN s o)
 |[],_=>by simp[insN,UpS]
 |y::t,h=>by
  obtain⟨h1,h2⟩:=List.pairwise_cons.1 h
  unfold insN
  split
  ·rename_i hlt
   refine List.pairwise_cons.2 ⟨λz hz=> ?_,insN_up h2⟩
   rcases(insN_mem h2 z).1 hz with e|⟨e,_⟩
   ·exact h1 z e
   ·rw[e];exact hlt
  ·split
   ·exact h
   ·rename_i hlt he
    refine List.pairwise_cons.2 ⟨λz hz=> ?_,h⟩
    rcases List.mem_cons.1 hz with rfl|hz
    ·omega
    ·have:=h1 z hz;omega
theorem netS_up:∀{l:List Sheet},UpS (netS l)
 |[]=>List.Pairwise.nil
 |s::t=>insN_up (netS_up (l:=t))
theorem netS_sub:∀{l:List Sheet},∀x∈netS l,x∈l
 |[],x,h=>by cases h
 |s::t,x,h=>by
  rcases(insN_mem netS_up x).1 h with e|⟨e,_⟩
  ·exact List.mem_cons_of_mem _ (netS_sub x e)
  ·rw[e];exact List.mem_cons_self ..
theorem netS_len:∀{l:List Sheet},(netS l).length≤l.length
 |[]=>Nat.le_refl _
 |s::t=>by
  have h:∀(o:List Sheet),(insN s o).length≤o.length+1:=by
   intro o
   induction o with
   |nil=>simp[insN]
   |cons y o ih=>
    unfold insN
    split
    ·simp only[List.length_cons];omega
    ·split<;>simp
  have:=h (netS t)
  have:=netS_len (l:=t)
  show(insN s (netS t)).length≤_
  simp only[List.length_cons];omega
theorem up_nodup'{l:List Sheet}(h:UpS l):(l.map (·.page)).Nodup:=List.pairwise_map.2 (h.imp λh=>by omega)
theorem with_ins{f:List Content}(hf:f.length=64){s:Sheet}(hs:0≤s.page∧s.page<64){o:List Sheet}(ho:UpS o)(hi:SheetsIn o):withS f (insN s o)=withS (setP f s.page s.content) o:=by
 have hi':SheetsIn (insN s o):=λx hx=>by
  rcases(insN_mem ho x).1 hx with e|⟨e,_⟩
  ·exact hi x e
  ·rw[e];exact hs
 have hn:=up_nodup' (insN_up (s:=s) ho)
 have hn':=up_nodup' ho
 have hf':(setP f s.page s.content).length=64:=by rw[set_len];exact hf
 refine pg_ext (by rw[with_len];exact hf) (by rw[with_len];exact hf') λm hm=> ?_
 by_cases h:∃x∈o,x.page=m
 ·obtain⟨x,hx,rfl⟩:=h
  rw[with_at hf hi' hn x ((insN_mem ho x).2 (Or.inl hx)),with_at hf' hi hn' x hx]
 ·rw[with_other (l:=o) hf' hi λx hx e=>h ⟨x,hx,e⟩,pg_set hf hs]
  by_cases e:m=s.page
  ·subst e
   rw[if_pos rfl,with_at hf hi' hn s ((insN_mem ho s).2 (Or.inr ⟨rfl,λy hy e=>h ⟨y,hy,e⟩⟩))]
  ·rw[if_neg e,with_other hf hi' λx hx e'=>by
    rcases(insN_mem ho x).1 hx with e2|⟨e2,_⟩
    ·exact h ⟨x,e2,e'⟩
    ·rw[e2] at e';exact e e'.symm]
theorem with_net:∀{l:List Sheet} {f:List Content},f.length=64→SheetsIn l→withS f (netS l)=withS f l
 |[],_,_,_=>rfl
 |s::t,f,hf,hl=>by
  have ht:SheetsIn t:=λx hx=>hl x (List.mem_cons_of_mem _ hx)
  show withS f (insN s (netS t))=withS (setP f s.page s.content) t
  rw[with_ins hf (hl s (List.mem_cons_self ..)) netS_up (λx hx=>ht x (netS_sub x hx)),with_net (by rw[set_len];exact hf) ht]
theorem with_append:∀{a b:List Sheet} {f:List Content},withS f (a++b)=withS (withS f a) b
 |[],_,_=>rfl
 |s::t,b,f=>by rw[List.cons_append,withS,withS,with_append]
theorem chain_with{R:List Row}:∀{gs:List Group} {f f':List Content},Chain R f gs f'→withS f (allS gs)=f'∧SheetsIn (allS gs)
 |[],_,_,h=>⟨h.symm,by simp[allS,SheetsIn]⟩
 |g::gs,f,f',⟨h1,_,_,h2⟩=>by
  obtain⟨e1,e2⟩:=chain_with h2
  refine⟨by rw[allS,List.flatMap_cons,with_append];exact e1,λs hs=> ?_⟩
  rw[allS,List.flatMap_cons] at hs
  rcases List.mem_append.1 hs with hs|hs
  ·exact h1.rng s hs
  ·exact e2 s hs
theorem net_l4(n:Nat)(j3:(List Group)×Int×Int×(List Sheet)×Unit→Option (List Sheet))(gs:List Group)(a b:Int)(s:Sheet):∀(m:Nat)(t pre:List Sheet),t.length<m→(pre++t).length≤20000→(∀x∈pre,x.page<s.page)→
  ref13_Net_l4 n j3 m (gs,a,b,(pre.length:Int),pre++t,s,())=j3 (gs,a,b,pre++insN s t,()):=by
 intro m
 induction m with
 |zero=>intro t pre h;omega
 |succ m ih=>
  intro t pre hk hl hp
  unfold ref13_Net_l4
  rw[loopF_succ]
  generalize hr:loopF _ m=r1
  replace hr:ref13_Net_l4 n j3 m=r1:=hr
  simp only[hr] at ih
  have hins:((sub3 (pre++t) (pre.length:Int) (pre.length:Int)).bind λl45=>(Go.Bur.sub (pre++t) (pre.length:Int) ((pre++t).length:Int)).bind λl46=>(app 64 ([s]:List Sheet) l46).bind λl47=>neL l47 ((app 64 l45 l47).bind λl48=>j3 (gs,a,b,l48,())))=j3 (gs,a,b,pre++s::t,()):=by
   rw[List.length_append] at hl
   have e1:sub3 (pre++t) (pre.length:Int) (pre.length:Int)=some pre:=by
    unfold sub3
    have:=sub_ok (l:=pre++t) (a:=0) (b:=pre.length) (by omega) (by simp)
    rw[show((0:Nat):Int)=0 from rfl] at this
    simp[this]
   have e2:Go.Bur.sub (pre++t) (pre.length:Int) ((pre++t).length:Int)=some t:=by
    rw[sub_ok (by simp) (Nat.le_refl _)]
    simp
   rw[e1,e2]
   simp only[Option.bind_some]
   rw[app_lt (by simp;omega) (by decide)]
   simp only[Option.bind_some,neL,List.cons_append,List.nil_append,List.isEmpty_cons]
   rw[app_lt (by simp;omega) (by decide)]
   rfl
  cases t with
  |nil=>
   rw[List.append_nil] at hins⊢
   simp only[ge_dec (Nat.lt_irrefl _),cond_false,jn]
   exact hins
  |cons x t=>
   have hget:idx (pre++x::t) (pre.length:Int)=some x:=idx_app
   have hlt:pre.length<(pre++x::t).length:=by simp
   simp only[lt_dec hlt,cond_true,hget,Option.bind_some,jn,ibeq]
   by_cases h1:x.page<s.page
   ·rw[decide_eq_true h1,cond_true,wrap_succ (by rw[List.length_append] at hl;omega)]
    have:=ih t (pre++[x]) (by simp only[List.length_cons] at hk;omega) (by simpa using hl) (λy hy=>by
     rcases List.mem_append.1 hy with hy|hy
     ·exact hp y hy
     ·cases List.mem_singleton.1 hy;exact h1)
    rw[List.length_append,List.append_assoc,List.append_assoc] at this
    rw[insN,if_pos h1]
    exact this
   ·rw[decide_eq_false h1,cond_false]
    by_cases h2:x.page=s.page
    ·rw[decide_eq_true h2,cond_true,insN,if_neg h1,if_pos h2]
    ·rw[decide_eq_false h2,cond_false,insN,if_neg h1,if_neg h2]
     exact hins
theorem fold_len:∀{l o:List Sheet},(l.foldr insN o).length≤l.length+o.length
 |[],o=>by simp
 |s::t,o=>by
  have h:∀(o:List Sheet),(insN s o).length≤o.length+1:=by
   intro o
   induction o with
   |nil=>simp[insN]
   |cons y o ih=>
    unfold insN
    split
    ·simp only[List.length_cons];omega
    ·split<;>simp
  have:=h (t.foldr insN o)
  have:=fold_len (l:=t) (o:=o)
  simp only[List.foldr_cons,List.length_cons];omega
theorem net_l2(n:Nat)(hn:20002≤n)(r1:(List Group)×Int×(List Sheet)×Unit→Option (List Sheet))(gs:List Group)(j:Nat)(g:Group)(hg:gs[j]? =some g)(hj:j≤20000):∀(m k:Nat)(o:List Sheet),k≤g.sheets.length→k<m→o.length+k≤20000→
  ref13_Net_l2 n r1 m (gs,(j:Int),(k:Int)-1,o,())=r1 (gs,(j:Int)-1,(g.sheets.take k).foldr insN o,()):=by
 intro m
 induction m with
 |zero=>intro k o _ h;omega
 |succ m ih=>
  intro k o hk hm ho
  unfold ref13_Net_l2
  rw[loopF_succ]
  generalize hr:loopF _ m=r2
  replace hr:ref13_Net_l2 n r1 m=r2:=hr
  simp only[hr] at ih
  cases k with
  |zero=>
   simp only[show decide (((0:Nat):Int)-1≥0)=false from rfl,cond_false,wrap_in (show-9223372036854775808≤(j:Int)-1∧(j:Int)-1≤9223372036854775807 by omega)]
   rfl
  |succ k=>
   have e:((k+1:Nat):Int)-1=(k:Int):=by omega
   obtain⟨s,hs⟩:∃s,g.sheets[k]? =some s:=⟨_,get_some (by omega)⟩
   simp only[e,show decide ((k:Int)≥0)=true from decide_eq_true (by omega),cond_true,jn,idx_nat,hg,hs,Option.bind_some]
   refine(net_l4 n (ref13_Net_j3 n r2) gs (j:Int) (k:Int) s n o [] (by omega) (by simp;omega) (by simp)).trans ?_
   unfold ref13_Net_j3
   have hl:=fold_len (l:=[s]) (o:=o)
   simp only[List.nil_append,wrap_in (show-9223372036854775808≤(k:Int)-1∧(k:Int)-1≤9223372036854775807 by omega)]
   rw[ih k (insN s o) (by omega) (by omega) (by simp at hl;omega),List.take_add_one,hs]
   simp
theorem rnet_eq(n:Nat)(hn:20002≤n)(gs:List Group)(h:(allS gs).length+gs.length≤10000):ref13_Net n gs=some (netS (allS gs)):=by
 have hlen:∀(a:List Group),(∀g∈a,g∈gs)→a.length≤gs.length→True:=λ_ _ _=>trivial
 have key:∀(m k:Nat)(o:List Sheet),k≤gs.length→k<m→o.length+(allS (gs.take k)).length≤10000→ref13_Net_l1 n m (gs,(k:Int)-1,o,())=some ((allS (gs.take k)).foldr insN o):=by
  intro m
  induction m with
  |zero=>intro k o _ h;omega
  |succ m ih=>
   intro k o hk hm ho
   unfold ref13_Net_l1
   rw[loopF_succ]
   generalize hr:loopF _ m=r1
   replace hr:ref13_Net_l1 n m=r1:=hr
   simp only[hr] at ih
   cases k with
   |zero=>rfl
   |succ k=>
    have e:((k+1:Nat):Int)-1=(k:Int):=by omega
    obtain⟨g,hg⟩:∃g,gs[k]? =some g:=⟨_,get_some (by omega)⟩
    have et:gs.take (k+1)=gs.take k++[g]:=by rw[List.take_add_one,hg];rfl
    have es:allS (gs.take (k+1))=allS (gs.take k)++g.sheets:=by rw[et,allS,List.flatMap_append];simp[allS]
    rw[es,List.length_append] at ho
    simp only[e,show decide ((k:Int)≥0)=true from decide_eq_true (by omega),cond_true,idx_nat,hg,Option.bind_some,wrap_in (show-9223372036854775808≤(g.sheets.length:Int)-1∧(g.sheets.length:Int)-1≤9223372036854775807 by omega)]
    rw[net_l2 n hn r1 gs k g hg (by omega) n g.sheets.length o (Nat.le_refl _) (by omega) (by omega),List.take_length]
    have hl:=fold_len (l:=g.sheets) (o:=o)
    rw[ih k _ (by omega) (by omega) (by omega),es,List.foldr_append]
 unfold ref13_Net
 rw[wrap_in (by omega)]
 have:=key n gs.length [] (Nat.le_refl _) (by omega) (by rw[List.take_length];simp;omega)
 rw[List.take_length] at this
 exact this
end Go.Proofs.YtlcmdgpjiendmaaGreat
namespace Go.Proofs.YtlcmdgpjiendmaaGreat
open Go.Bur
set_option linter.unusedSimpArgs false
set_option linter.unusedVariables false
set_option maxRecDepth 100000
theorem On.page{f:List Content}{D d:Nat}{n:Int}{k:Key}(h:On f D d n k):(0≤n∧n<64)∧f.length=64∧idx f n=some (pg f n)∧checkP (pg f n)=true:=by
 obtain⟨lo,hi,Q,R1,R2,h,_⟩:=h
 have hn:=sub_page h.tree
 exact⟨hn,h.len,idx_pg ⟨hn.1,by have:=h.len;omega⟩,h.ok n hn⟩
theorem On.next{f:List Content}{D d:Nat}{n:Int}{k:Key}(h:On f D (d+2) n k):On f D (d+1) (nextPg f n k) k:=by
 obtain⟨l1,x,l2,hp,hI,hi,c1,c2,hd⟩:=h.kids
 have hnx:nextPg f n k=x.page:=by unfold nextPg;rw[hp];simp only;rw[←hi];exact congrArg (·.page) kidAt_mid
 rw[hnx];exact hd
theorem On.kind{f:List Content}{D d:Nat}{n:Int}{k:Key}(h:On f D (d+2) n k):(pg f n).kind=2∧(pg f n).rows=[]∧InnerOk (pg f n).kids∧pg f n=⟨2,[],(pg f n).kids⟩:=by
 obtain⟨l1,x,l2,hp,hI,_⟩:=h.kids
 rw[hp];exact⟨rfl,rfl,hI,rfl⟩
theorem On.kid_idx{f:List Content}{D d:Nat}{n:Int}{k:Key}(h:On f D (d+2) n k):idx (pg f n).kids (kidI (pg f n).kids k:Int)=some (kidAt (pg f n).kids (kidI (pg f n).kids k)):=by
 have:=kidI_lt h.kind.2.2.1 k
 rw[idx_nat,kidAt,get_some this];rfl
theorem On.rkid{f:List Content}{D d:Nat}{n:Int}{k:Key}(h:On f D (d+2) n k)(N:Nat)(hN:1003≤N):ref11_Kid N (pg f n) k=some (kidI (pg f n).kids k:Int):=by
 have h1:=h.kind
 rw[h1.2.2.2];exact rkid_eq N hN h1.2.2.1 k
theorem room_leaf(N:Nat)(hN:1003≤N){f:List Content}{D:Nat}{n:Int}{k:Key}(h:On f D 1 n k)(hs:sizeP (pg f n)≤3):ref13_room N ⟨f⟩ n k=some (true,[]):=by
 obtain⟨hn,hf,hi,hc⟩:=h.page
 obtain⟨l,hp,_⟩:=h.leaf
 have hfull:fullP (pg f n)=false:=by unfold fullP;rw[show decide (sizeP (pg f n)=4)=false from decide_eq_false (by omega),Bool.and_false]
 unfold ref13_room
 rw[show idx (Forest.mk f).pages n=some (pg f n) from hi,rfree_eq N hN hf]
 simp only[Option.bind_some,jn,fullR_eq N _ (fine_check hc) hc,hfull,ieq0]
 rw[show((pg f n).kind !=2)=true from by rw[hp];rfl]
 cases decide (n=0)<;>rfl
theorem room_in(N:Nat)(hN:1003≤N){f:List Content}{D d:Nat}{n:Int}{k:Key}(h:On f D (d+2) n k)(hs:sizeP (pg f n)≤3):ref13_room N ⟨f⟩ n k=
  if fullP (pg f (nextPg f n k))=true then(match frees f with|[]=>some (false,[])|m::_=>some (true,srtS (splitS f n (kidI (pg f n).kids k) m))) else some (true,[]):=by
 obtain⟨hn,hf,hi,hc⟩:=h.page
 obtain⟨h1,h2,h3,h4⟩:=h.kind
 have hfull:fullP (pg f n)=false:=by unfold fullP;rw[show decide (sizeP (pg f n)=4)=false from decide_eq_false (by omega),Bool.and_false]
 obtain⟨hx,_,hxi,hxc⟩:=h.next.page
 have hxp:(kidAt (pg f n).kids (kidI (pg f n).kids k)).page=nextPg f n k:=rfl
 unfold ref13_room
 rw[show idx (Forest.mk f).pages n=some (pg f n) from hi,rfree_eq N hN hf]
 simp only[Option.bind_some,jn,fullR_eq N _ (fine_check hc) hc,hfull,ieq0,h.rkid N hN,h.kid_idx,hxp,show idx (Forest.mk f).pages (nextPg f n k)=some (pg f (nextPg f n k)) from hxi,fullR_eq N _ (fine_check hxc) hxc,len0]
 rw[show((pg f n).kind !=2)=false from by rw[h1];rfl]
 have hgo:∀X:Option (Bool×List Sheet),(bif decide (n=0) then X else X)=X:=λX=>by cases decide (n=0)<;>rfl
 simp only[cond_false]
 rw[hgo]
 by_cases hfu:fullP (pg f (nextPg f n k))=true
 case neg=>
  rw[if_neg hfu]
  rw[Bool.not_eq_true] at hfu
  rw[hfu];rfl
 rw[if_pos hfu,hfu]
 simp only[Bool.not_true,cond_false]
 cases hfr:frees f with
 |nil=>rfl
 |cons m t=>
  obtain⟨l1,x,l2,hp,hI,hii,c1,c2,hd⟩:=h.kids
  have hnx:nextPg f n k=x.page:=by unfold nextPg;rw[hp];simp only;rw[←hii];exact congrArg (·.page) kidAt_mid
  have hik:kidI (pg f n).kids k=l1.length:=by rw[hp];exact hii.symm
  rw[hnx] at hfu hxc⊢
  have hsz:sizeP (pg f x.page)=4:=by unfold fullP at hfu;rw[Bool.and_eq_true] at hfu;exact of_decide_eq_true hfu.2
  obtain⟨g1,_⟩:=split_on h hp c1 c2 (by rw[hp] at hs;simpa[sizeP] using hs) hsz (m:=m) (by rw[hfr];exact List.mem_cons_self ..)
  have hlen:(l1++x::l2).length≤100:=by have:=hI.four;omega
  rw[hik]
  simp only[List.length_cons,decide_eq_false (show ¬t.length+1=0 by omega),cond_false,idx_zero,List.getElem?_cons_zero,Option.bind_some,show idx (Forest.mk f).pages x.page=some (pg f x.page) from by rw[←hnx];exact hxi,show ref11_Cut N (pg f x.page) 2=some (cutA (pg f x.page) 2,cutB (pg f x.page) 2,cutS (pg f x.page) 2) from rcut_eq N hN _ (fine_check hxc) 2,radopt_eq N hN (pg f n) (show(pg f n).kids=l1++x::l2 by rw[hp]) hlen]
  rw[splitS_eq hp] at g1⊢
  rw[rsorted_eq N hN g1.rng g1.nodup (by simp)]
  rfl
theorem part_srt{f:List Content}{a b:Int}(h:0<a∧a<b∧b<64):srtS (partS f a b)=partS f a b:=by
 unfold partS srtS srtS srtS srtS insS insS insS
 simp only
 rw[if_pos (by omega)]
 simp only[insS]
 rw[if_pos (by omega)]
theorem room_root(N:Nat)(hN:1003≤N){f:List Content}{D:Nat}(h:Good f D)(hs:sizeP (pg f 0)=4)(k:Key):ref13_room N ⟨f⟩ 0 k=(match frees f with|a::b::_=>some (true,partS f a b)|_=>some (false,[])):=by
 have hc:=h.ok 0 ⟨by omega,by omega⟩
 have hi:idx f 0=some (pg f 0):=idx_pg ⟨by omega,by have:=h.len;omega⟩
 obtain⟨d,rfl⟩:∃d,D=d+1:=⟨D-1,by have:=h.pos;omega⟩
 have hfull:fullP (pg f 0)=true:=by rw[fullP_size h.tree,decide_eq_true hs]
 unfold ref13_room
 rw[show idx (Forest.mk f).pages 0=some (pg f 0) from hi,rfree_eq N hN h.len]
 simp only[Option.bind_some,jn,fullR_eq N _ (fine_check hc) hc,hfull,show((0:Int)==0)=true from rfl,cond_true]
 match frees f with
 |[]=>rfl
 |[a]=>rfl
 |a::b::t=>
  simp only[List.length_cons,show decide (((t.length+1+1:Nat):Int)<2)=false from decide_eq_false (by omega),cond_false,show ref11_Cut N (pg f 0) 2=some (cutA (pg f 0) 2,cutB (pg f 0) 2,cutS (pg f 0) 2) from rcut_eq N hN _ (fine_check hc) 2,Option.bind_some,idx_zero,List.getElem?_cons_zero,show idx (a::b::t) 1=some b from idx_nat (a::b::t) 1,ref11_Inner]
  rfl
theorem rput11_eq(N:Nat)(hN:1003≤N){l:List Row}(hl:LeafOk l)(r:Row)(hs:findK l r.key=none→l.length≤3):ref11_Put N ⟨1,l,[]⟩ r=some (⟨1,putR r l,[]⟩,0):=by
 have h4:=hl.len
 unfold ref11_Put
 simp only[rfind_eq N hN l (by omega),Option.bind_some,jn,with_eq N hN l (by omega),ref11_Leaf]
 have hat:=at_find (l:=l) (k:=r.key)
 cases ha:at_ l r.key with
 |none=>
  rw[ha] at hat
  have:=hs hat
  simp only[ixI,show decide ((-1:Int)<0)=true from rfl,cond_true,show((l.length:Int)==4)=false from by rw[ibeq,decide_eq_false (by omega)],cond_false]
  rfl
 |some i=>
  have e:decide ((i:Int)<0)=false:=decide_eq_false (by omega)
  simp only[ixI]
  refine(condF' e).trans ?_
  rfl
theorem put_j4(N:Nat)(hN:1003≤N){f:List Content}{D d:Nat}{n:Int}{r:Row}(h:On f D (d+2) n r.key)(j1:Int×Forest×Row×(List Group)×Unit→Option (Int×(List Group)))(j3:Bool×Int×Int×Forest×Row×(List Group)×Unit→Option (Int×(List Group)))(t:Bool)(c:Int)(gs:List Group):
  ref13_Put_j4 N j1 j3 (t,n,c,⟨f⟩,r,gs,())=j3 (t,nextPg f n r.key,c,⟨f⟩,r,gs,()):=by
 obtain⟨hn,hf,hi,hc⟩:=h.page
 unfold ref13_Put_j4
 simp only[show idx (Forest.mk f).pages n=some (pg f n) from hi,Option.bind_some,h.rkid N hN,h.kid_idx]
 rw[show((pg f n).kind==1)=false from by rw[h.kind.1];rfl,cond_false]
 cases t<;>rfl
theorem put_j4_leaf(N:Nat){f:List Content}{D:Nat}{n:Int}{r:Row}(h:On f D 1 n r.key)(j1:Int×Forest×Row×(List Group)×Unit→Option (Int×(List Group)))(j3:Bool×Int×Int×Forest×Row×(List Group)×Unit→Option (Int×(List Group)))(t:Bool)(c:Int)(gs:List Group):
  ref13_Put_j4 N j1 j3 (t,n,c,⟨f⟩,r,gs,())=j1 (n,⟨f⟩,r,gs,()):=by
 obtain⟨hn,hf,hi,hc⟩:=h.page
 obtain⟨l,hp,_⟩:=h.leaf
 unfold ref13_Put_j4
 simp only[show idx (Forest.mk f).pages n=some (pg f n) from hi,Option.bind_some]
 rw[show((pg f n).kind==1)=true from by rw[hp];rfl,cond_true]
def outP(N:Nat)(r:Row)(gs:List Group):Option (List Content×Int×List Group)→Option (Int×List Group)
 |none=>some (6,[])
 |some z=>ref13_Put_j1 N (z.2.1,⟨z.1⟩,r,gs++z.2.2,())
theorem outP_map(N:Nat)(r:Row)(gs G:List Group)(o:Option (List Content×Int×List Group)):outP N r gs (o.map λz=>(z.1,z.2.1,G++z.2.2))=outP N r (gs++G) o:=by
 cases o with
 |none=>rfl
 |some z=>simp only[Option.map_some,outP,List.append_assoc]
theorem rput_go(N:Nat)(hN:1003≤N)(r:Row)(new:Bool):∀(d m:Nat)(c:Nat)(D:Nat)(f:List Content)(n:Int)(gs:List Group),On f D (d+1) n r.key→(new=true→sizeP (pg f n)≤3)→d<m→c+d<40→gs.length+d≤1000→
  ref13_Put_l2 N (ref13_Put_j1 N) m (!new,n,(c:Int),⟨f⟩,r,gs,())=outP N r gs (putW r.key new d f n):=by
 intro d
 induction d with
 |zero=>
  intro m c D f n gs h hs hm hc hg
  obtain⟨m,rfl⟩:∃m',m=m'+1:=⟨m-1,by omega⟩
  unfold ref13_Put_l2
  rw[loopF_succ]
  generalize loopF _ m=r2
  simp only[show decide ((c:Int)<40)=true from decide_eq_true (by omega),cond_true,jn,Bool.not_not]
  cases new with
  |false=>exact(put_j4_leaf N h _ _ _ _ _).trans (by simp[putW,outP])
  |true=>
   rw[room_leaf N hN h (hs rfl)]
   simp only[Option.bind_some,Bool.not_true,cond_false,List.length_nil,show decide (((0:Nat):Int)>0)=false from rfl,ref13_Put_j5,cond_true]
   exact(put_j4_leaf N h _ _ _ _ _).trans (by simp[putW,outP])
 |succ d ih=>
  intro m c D f n gs h hs hm hc hg
  obtain⟨m,rfl⟩:∃m',m=m'+1:=⟨m-1,by omega⟩
  unfold ref13_Put_l2
  rw[loopF_succ]
  generalize hr2:loopF _ m=r2
  replace hr2:ref13_Put_l2 N (ref13_Put_j1 N) m=r2:=hr2
  simp only[show decide ((c:Int)<40)=true from decide_eq_true (by omega),cond_true,jn,Bool.not_not]
  have hstep:∀(f':List Content)(gs':List Group),On f' D (d+2) n r.key→(new=true→sizeP (pg f' (nextPg f' n r.key))≤3)→gs'.length+d≤1000→ref13_Put_j4 N (ref13_Put_j1 N) (ref13_Put_j3 N r2) (!new,n,(c:Int),⟨f'⟩,r,gs',())=outP N r gs' (putW r.key new d f' (nextPg f' n r.key)):=λf' gs' h' hs' hg'=>by
   rw[put_j4 N hN h']
   unfold ref13_Put_j3
   simp only[wrap_succ (show c<4611686018427387904 by omega)]
   rw[←hr2]
   exact ih m (c+1) D f' _ gs' h'.next hs' (by omega) (by omega) hg'
  rcases stepP_on h hs with⟨e1,e2,e3⟩|⟨f',n',G,e1,⟨e2,e3,e4,e5⟩,_⟩
  ·subst e1
   simp only[cond_true]
   rw[room_in N hN h (hs rfl)]
   have hfull:fullP (pg f (nextPg f n r.key))=true:=by
    unfold stepP at e3
    by_cases hf:fullP (pg f (nextPg f n r.key))=true
    ·exact hf
    ·rw[if_neg (by simpa[nextPg] using hf)] at e3;cases e3
   rw[if_pos hfull,e2,putW,e3]
   rfl
  ·rw[putW,e1]
   simp only[Option.bind_some]
   rw[outP_map]
   unfold stepP at e1
   by_cases hb:(new&&fullP (pg f (kidAt (pg f n).kids (kidI (pg f n).kids r.key)).page))=true
   ·rw[if_pos hb] at e1
    rw[Bool.and_eq_true] at hb
    obtain⟨rfl,hb2⟩:=hb
    cases hfr:frees f with
    |nil=>rw[hfr] at e1;cases e1
    |cons mm t=>
     rw[hfr] at e1
     obtain⟨l1,x,l2,hp,hI,hii,c1,c2,hd⟩:=h.kids
     have hnx:nextPg f n r.key=x.page:=by unfold nextPg;rw[hp];simp only;rw[←hii];exact congrArg (·.page) kidAt_mid
     have hik:kidI (pg f n).kids r.key=l1.length:=by rw[hp];exact hii.symm
     have hsz:sizeP (pg f x.page)=4:=by
      rw[show(kidAt (pg f n).kids (kidI (pg f n).kids r.key)).page=x.page from hnx] at hb2
      unfold fullP at hb2;rw[Bool.and_eq_true] at hb2;exact of_decide_eq_true hb2.2
     obtain⟨g1,g2,_⟩:=split_on h hp c1 c2 (by have:=hs rfl;rw[hp] at this;simpa[sizeP] using this) hsz (m:=mm) (by rw[hfr];exact List.mem_cons_self ..)
     rw[←hik] at g1 g2
     have hlen3:(srtS (splitS f n (kidI (pg f n).kids r.key) mm)).length=3:=by rw[(srtS_perm _).length_eq];rfl
     simp only[cond_true]
     rw[room_in N hN h (hs rfl),if_pos (show fullP (pg f (nextPg f n r.key))=true from hb2),hfr]
     simp only[Option.bind_some,Bool.not_true,cond_false,hlen3,show decide (((3:Nat):Int)>0)=true from rfl,cond_true,app_lt (show gs.length+[Group.mk (srtS (splitS f n (kidI (pg f n).kids r.key) mm))].length≤1000000 by simp;omega) (show 24≤1000 by omega),rwith_eq N hN h.page.2.1 (grp_srt g1).rng (show(srtS (splitS f n (kidI (pg f n).kids r.key) mm)).length≤900 by omega),ref13_Put_j5]
     injection e1 with e1
     injection e1 with q1 q2
     injection q2 with q2 q3
     subst q1 q3
     have q2':nextPg (withS f (srtS (splitS f n (kidI (pg f n).kids r.key) mm))) n r.key=n':=q2
     have:=hstep _ (gs++[⟨srtS (splitS f n (kidI (pg f n).kids r.key) mm)⟩]) g2 (λ_=>by rw[q2'];exact e3 rfl) (by simp;omega)
     rw[q2'] at this
     exact this
   ·rw[if_neg hb] at e1
    injection e1 with e1
    injection e1 with q1 q2
    injection q2 with q2 q3
    subst q1 q3
    have q2':nextPg f n r.key=n':=q2
    have hh:=hstep f gs h (λe=>by rw[q2'];exact e3 e) (by omega)
    rw[q2'] at hh
    rw[List.append_nil]
    cases new with
    |false=>exact hh
    |true=>
     simp only[cond_true]
     rw[room_in N hN h (hs rfl),if_neg (by simpa[nextPg] using hb)]
     simp only[Option.bind_some,Bool.not_true,cond_false,List.length_nil,show decide (((0:Nat):Int)>0)=false from rfl,ref13_Put_j5]
     exact hh
end Go.Proofs.YtlcmdgpjiendmaaGreat
namespace Go.Proofs.YtlcmdgpjiendmaaGreat
open Go.Bur
set_option linter.unusedSimpArgs false
set_option linter.unusedVariables false
set_option maxRecDepth 100000
theorem there_iff{R:List Row}{k:Key}:decide (ixI (at_ R k)≥0)= !newB R k:=by
 unfold newB
 rw[at_find]
 cases ha:at_ R k with
 |none=>rfl
 |some i=>
  obtain⟨pre,x,post,e,e2,_⟩:=idx_split ha
  have hx:R[i]? =some x:=by rw[e,←e2];simp
  simp only[ixI,hx,Option.isNone_some,Bool.not_false]
  exact decide_eq_true (Int.natCast_nonneg i)
theorem part_next{f:List Content}{D:Nat}{a b:Int}{t:List Int}{k:Key}{new:Bool}(h:Good f D)(hk:ltK k key0=false)(hfull:sizeP (pg f 0)=4)(hfr:frees f=a::b::t):
  stepP (withS f (srtS (partS f a b))) 0 k new=some (withS f (srtS (partS f a b)),nextPg (withS f (srtS (partS f a b))) 0 k,[])∧sizeP (pg (withS f (srtS (partS f a b))) (nextPg (withS f (srtS (partS f a b))) 0 k))=2:=by
 obtain⟨q1,q2,q3,q4,q5,q6,q7,q8,q9⟩:=part_good h hfull hfr
 generalize withS f (srtS (partS f a b))=f1 at q2 q3 q4 q5 q6⊢
 have hx:nextPg f1 0 k=a∨nextPg f1 0 k=b:=by
  unfold nextPg
  rw[q4]
  simp only[kidI,List.tail_cons,List.takeWhile_cons,List.takeWhile_nil]
  cases ltK k (cutS (pg f 0) 2)
  ·right;rfl
  ·left;rfl
 have hsz:sizeP (pg f1 (nextPg f1 0 k))=2:=by
  rcases hx with e|e<;>rw[e]
  ·rw[q5];exact q7
  ·rw[q6];exact q8
 refine⟨?_,hsz⟩
 unfold stepP
 rw[if_neg]
 ·rfl
 ·rw[show(kidAt (pg f1 0).kids (kidI (pg f1 0).kids k)).page=nextPg f1 0 k from rfl]
  unfold fullP
  rw[hsz];simp
theorem okRow_low{r:Row}(h:okRow r=true)(hi:KeyIn r.key):ltK r.key key0=false:=by
 unfold okRow okTab at h
 simp only[Bool.and_eq_true,decide_eq_true_eq] at h
 rw[ltK_false]
 have:=hi.1
 show ¬(r.key.table<0∨(r.key.table=0∧r.key.id<0))
 omega
theorem rput_way(N:Nat)(hN:2000≤N){f:List Content}{D:Nat}(h:Good f D){r:Row}(hk:ltK r.key key0=false):ref13_Put N ⟨f⟩ r=outP N r [] (wayP f D r.key (newB (rws f D 0) r.key)):=by
 have hrow:=h.rows
 have hpos:=h.pos
 have hdeep:=h.deep
 obtain⟨d,rfl⟩:∃d,D=d+1:=⟨D-1,by omega⟩
 unfold ref13_Put
 rw[rrows_good N hN h]
 simp only[Option.bind_some,rfind_eq N (by omega) _ (show(rws f (d+1) 0).length≤1000 by omega),there_iff,jn]
 generalize newB (rws f (d+1) 0) r.key=new
 have hf0:=fullP_size h.tree
 have h4:=(con_of h.tree).2.1
 unfold wayP
 rw[hf0]
 by_cases hc:(new&&decide (sizeP (pg f 0)=4))=true
 case neg=>
  rw[if_neg hc,Nat.add_sub_cancel]
  exact rput_go N (by omega) r new d N 0 (d+1) f 0 [] (On.root h hk) (λe=>by
   rw[e,Bool.true_and,decide_eq_true_eq] at hc;omega) (by omega) (by omega) (by simp;omega)
 rw[if_pos hc]
 rw[Bool.and_eq_true,decide_eq_true_eq] at hc
 obtain⟨hnew,hsz⟩:=hc
 subst hnew
 obtain⟨N,rfl⟩:∃N',N=N'+1:=⟨N-1,by omega⟩
 unfold ref13_Put_l2
 rw[loopF_succ]
 generalize hr2:loopF _ N=r2
 replace hr2:ref13_Put_l2 (N+1) (ref13_Put_j1 (N+1)) N=r2:=hr2
 simp only[show decide ((0:Int)<40)=true from rfl,cond_true,jn,Bool.not_true,Bool.not_false,room_root (N+1) (by omega) h hsz r.key]
 match hfr:frees f with
 |[]=>rfl
 |[a]=>rfl
 |a::b::t=>
  obtain⟨q1,q2,q3,q4,q5,q6,q7,q8,q9⟩:=part_good h hsz hfr
  have hps:=part_srt (f:=f) q9
  obtain⟨p1,p2⟩:=part_next (new:=true) h hk hsz hfr
  rw[hps] at q2 q4 p1 p2
  simp only[Option.bind_some,Bool.not_true,cond_false,show decide ((((partS f a b).length:Nat):Int)>0)=true from rfl,cond_true,app_lt (show([]:List Group).length+[Group.mk (partS f a b)].length≤1000000 by simp) (show 24≤1000 by omega),rwith_eq (N+1) (by omega) h.len q1.rng (show(partS f a b).length≤900 by simp[partS]),ref13_Put_j5,hps]
  have hon:=On.root q2 hk
  rw[put_j4 (N+1) (by omega) hon]
  unfold ref13_Put_j3
  simp only[show IntKind.wrap .i64 (0+1)=((1:Nat):Int) from by rw[wrap_in (by omega)];rfl]
  rw[←hr2]
  have:=rput_go (N+1) (by omega) r true d N 1 (d+2) _ _ ([]++[⟨partS f a b⟩]) hon.next (λ_=>by rw[p2];omega) (by omega) (by omega) (by simp;omega)
  refine this.trans ?_
  rw[show putW r.key true (d+1) (withS f (partS f a b)) 0=(putW r.key true d (withS f (partS f a b)) (nextPg (withS f (partS f a b)) 0 r.key)) from by
   rw[putW,p1]
   simp only[Option.bind_some,List.nil_append]
   cases putW r.key true d (withS f (partS f a b)) (nextPg (withS f (partS f a b)) 0 r.key)<;>rfl]
  cases putW r.key true d (withS f (partS f a b)) (nextPg (withS f (partS f a b)) 0 r.key)<;>rfl
theorem step_len{f f':List Content}{n n':Int}{k:Key}{new:Bool}{G:List Group}(h:stepP f n k new=some (f',n',G)):G.length≤1:=by
 unfold stepP at h
 split at h
 ·split at h
  ·cases h
  ·injection h with h;injection h with _ h;injection h with _ h;rw[←h];simp
 ·injection h with h;injection h with _ h;injection h with _ h;rw[←h];simp
theorem putW_len{k:Key}{new:Bool}:∀{d:Nat} {f:List Content} {n:Int} {z:List Content×Int×List Group},putW k new d f n=some z→z.2.2.length≤d
 |0,f,n,z,h=>by cases h;simp
 |d+1,f,n,z,h=>by
  rw[putW] at h
  cases hs:stepP f n k new with
  |none=>rw[hs] at h;cases h
  |some y=>
   rw[hs] at h
   simp only[Option.bind_some,Option.map_eq_some_iff] at h
   obtain⟨w,h1,h2⟩:=h
   have:=putW_len h1
   have:=step_len (f':=y.1) (n':=y.2.1) (G:=y.2.2) hs
   rw[←h2];simp only[List.length_append];omega
theorem way_len{f f':List Content}{D:Nat}{n':Int}{k:Key}{new:Bool}{G:List Group}(h:Good f D)(hw:wayP f D k new=some (f',n',G)):G.length≤100:=by
 have hd:=h.deep
 unfold wayP at hw
 split at hw
 ·split at hw
  ·rw[Option.map_eq_some_iff] at hw
   obtain⟨w,h1,h2⟩:=hw
   have:=putW_len h1
   injection h2 with _ h2;injection h2 with _ h2
   rw[←h2];simp only[List.length_cons];omega
  ·cases hw
 ·have:=putW_len hw
  simp only at this;omega
theorem rput_eq(N:Nat)(hN:2000≤N){f:List Content}{D:Nat}(h:Good f D){r:Row}(hr:okRow r=true)(hk:ltK r.key key0=false):
  (newB (rws f D 0) r.key=true∧64≤(rws f D 0).length∧wayP f D r.key (newB (rws f D 0) r.key)=none∧ref13_Put N ⟨f⟩ r=some (6,[]))∨
  ∃f' n' G D' l,wayP f D r.key (newB (rws f D 0) r.key)=some (f',n',G)∧On f' D' 1 n' r.key∧pg f' n'=⟨1,l,[]⟩∧LeafOk l∧(findK l r.key=none→l.length≤3)∧rws f' D' 0=rws f D 0∧Chain (rws f D 0) f G f'∧
   Grp f' (one n' (putR r l))∧Good (withS f' (one n' (putR r l))) D'∧rws (withS f' (one n' (putR r l))) D' 0=putR r (rws f D 0)∧ref13_Put N ⟨f⟩ r=some (0,G++[⟨one n' (putR r l)⟩])∧
   G.length≤100∧∃T:List Int,T.length≤2*D∧n'∈0::T∧∀g∈G,∀s∈g.sheets,s.page∈0::T:=by
 have hw:=rput_way N hN h hk
 rcases way_on (new:=newB (rws f D 0) r.key) h hk with⟨e1,e2,e3⟩|⟨f',n',G,D',e1,e2,e3,e4,e5,T,e6,e7,e8⟩
 ·exact Or.inl ⟨e1,e3,e2,by rw[hw,e2];rfl⟩
 ·obtain⟨l,hp,hl,_,hfk⟩:=e2.leaf
  have hs:findK l r.key=none→l.length≤3:=λe=>by
   rw[e4] at hfk
   have:=e3 (newB_iff.2 (by rw[hfk];exact e))
   rw[hp] at this;simpa[sizeP] using this
  obtain⟨g1,g2,g3,g4⟩:=put_leaf e2 hr (λe=>by rw[hp];simp only[sizeP,List.length_nil];exact hs (by rw[←hfk];exact e)) hp
  have hG:G.length≤100:=way_len h e1
  refine Or.inr ⟨f',n',G,D',l,e1,e2,hp,hl,hs,e4,e5,g1,g2,by rw[g3,e4], ?_,hG,T,e6,e7,e8⟩
  rw[hw,e1]
  unfold outP ref13_Put_j1
  obtain⟨_,_,hi,_⟩:=e2.page
  simp only[show idx (Forest.mk f').pages n'=some (pg f' n') from hi,hp,Option.bind_some,rput11_eq N (by omega) hl r hs,List.nil_append]
  rw[app_lt (by simp;omega) (by decide)];rfl
end Go.Proofs.YtlcmdgpjiendmaaGreat
namespace Go.Proofs.YtlcmdgpjiendmaaGreat
open Go.Bur
set_option linter.unusedSimpArgs false
set_option linter.unusedVariables false
set_option maxRecDepth 100000
theorem KidsR.rise{f:List Content}{d:Nat}{lo:Key}{hi:Option Key}{l:List Kid}(h:KidsR f d lo hi l)(hlo:ltK lo key0=false):l.Pairwise λa b=>ltK a.least b.least=true:=by
 obtain⟨i1,i2⟩:=kids_lt h.ok λk hk=>by have:=h.page k hk;omega
 cases l with
 |nil=>simp
 |cons a t=>exact List.pairwise_cons.2 ⟨λx hx=>by rw[h.head a rfl];exact le_lt hlo (i1 x hx).1,i2⟩
theorem pair_get{α:Type}{r:α→α→Prop}{l:List α}(h:l.Pairwise r){j:Nat}{a b:α}(ha:l[j]? =some a)(hb:l[j+1]? =some b):r a b:=by
 obtain⟨h1,e1⟩:=List.getElem?_eq_some_iff.1 ha
 obtain⟨h2,e2⟩:=List.getElem?_eq_some_iff.1 hb
 rw[←e1,←e2]
 exact List.pairwise_iff_getElem.1 h j (j+1) h1 h2 (by omega)
theorem rises_con{f:List Content}{d:Nat}{lo:Key}{hi:Option Key}{c:Content}(h:conS f d lo hi c)(hlo:ltK lo key0=false):risesC c=true:=by
 unfold risesC
 rw[Bool.and_eq_true,allFrom_iff,allFrom_iff]
 have hprev:∀(l:List Row),Srt l→∀j x,l[j]? =some x→upR l (0+j) x=true:=λl hs j x hx=>by
  rw[Nat.zero_add]
  unfold upR prevK
  cases j with
  |zero=>rfl
  |succ j=>
   have hj:j<l.length:=by have:=(List.getElem?_eq_some_iff.1 hx).1;omega
   simp only[get_some hj,Option.map_some]
   exact pair_get hs (get_some hj) hx
 cases d with
 |zero=>
  obtain⟨l,rfl,h1,h2,h3⟩:=h
  exact⟨hprev l h2,λj x hx=>by simp at hx⟩
 |succ d=>
  obtain⟨l,rfl,h1⟩:=h
  refine⟨λj x hx=>by simp at hx,λj x hx=> ?_⟩
  rw[Nat.zero_add]
  simp only at hx⊢
  have hr:=h1.rise hlo
  have hxl:=(List.getElem?_eq_some_iff.1 hx).1
  unfold upK
  rw[Bool.and_eq_true]
  refine⟨?_, ?_⟩
  ·unfold prevL
   cases j with
   |zero=>rfl
   |succ j=>
    have hj:j<l.length:=by omega
    simp only[get_some hj,Option.map_some]
    exact pair_get hr (get_some hj) hx
  ·rw[Bool.not_eq_true',List.any_eq_false]
   intro y hy
   obtain⟨i,hi,rfl⟩:=List.mem_iff_getElem.1 hy
   rw[List.length_take] at hi
   rw[List.getElem_take,decide_eq_true_eq]
   intro e
   have hn:=List.pairwise_iff_getElem.1 (List.pairwise_map.1 h1.nodup) i j (by omega) hxl (by omega)
   rw[(List.getElem?_eq_some_iff.1 hx).2] at hn
   exact hn e
theorem feed_facts{f:List Content}{D d:Nat}{n:Int}{k:Key}(h:On f D (d+2) n k)(hs:n≠0→3≤sizeP (pg f n))(hsm:sizeP (pg f (nextPg f n k))≤2):
  ∃p1 u v p2,pg f n=⟨2,[],p1++u::v::p2⟩∧InnerOk (p1++u::v::p2)∧feedAt (pg f n).kids (kidI (pg f n).kids k)=p1.length+1∧sizeB f n (p1.length+1)=sizeP (pg f u.page)+sizeP (pg f v.page)∧
   (0<u.page∧u.page<64)∧(0<v.page∧v.page<64)∧checkP (pg f u.page)=true∧checkP (pg f v.page)=true∧alikeP (pg f u.page) (pg f v.page)=true∧sizeP (pg f u.page)≤4∧sizeP (pg f v.page)≤4∧
   rootS f n (p1.length+1)=[⟨0,bothC (pg f u.page) (pg f v.page) v.least⟩,⟨u.page,cont0⟩,⟨v.page,cont0⟩]∧
   joinS f n (p1.length+1)=[⟨n,⟨2,[],p1++u::p2⟩⟩,⟨u.page,bothC (pg f u.page) (pg f v.page) v.least⟩,⟨v.page,cont0⟩]∧
   levS f n (p1.length+1)=[⟨n,⟨2,[],p1++u::⟨cutS (bothC (pg f u.page) (pg f v.page) v.least) (cutM (pg f u.page) (pg f v.page)),v.page⟩::p2⟩⟩,⟨u.page,cutA (bothC (pg f u.page) (pg f v.page) v.least) (cutM (pg f u.page) (pg f v.page))⟩,⟨v.page,cutB (bothC (pg f u.page) (pg f v.page) v.least) (cutM (pg f u.page) (pg f v.page))⟩]∧
   (sizeB f n (p1.length+1)≤4→checkP (bothC (pg f u.page) (pg f v.page) v.least)=true∧sizeP (bothC (pg f u.page) (pg f v.page) v.least)=sizeB f n (p1.length+1)∧(n=0∧(pg f n).kids.length=2→Grp f (rootS f n (p1.length+1))∧Good (withS f (srtS (rootS f n (p1.length+1)))) (d+1))∧(¬(n=0∧(pg f n).kids.length=2)→Grp f (joinS f n (p1.length+1))∧On (withS f (srtS (joinS f n (p1.length+1)))) D (d+2) n k))∧
   (¬sizeB f n (p1.length+1)≤4→sizeP (pg f u.page)≠sizeP (pg f v.page)∧levelQ (pg f u.page) (pg f v.page) v.least=true∧sizeP (bothC (pg f u.page) (pg f v.page) v.least)=sizeB f n (p1.length+1)∧Grp f (levS f n (p1.length+1))∧On (withS f (srtS (levS f n (p1.length+1)))) D (d+2) n k):=by
 obtain⟨l1,x,l2,hp,hI,hi,c1,c2,hd⟩:=h.kids
 have hik:kidI (pg f n).kids k=l1.length:=by rw[hp];exact hi.symm
 have hnx:nextPg f n k=x.page:=by unfold nextPg;rw[hik,hp];exact congrArg (·.page) kidAt_mid
 rw[hnx] at hsm
 obtain⟨p1,u,v,p2,e,ha,hcase⟩:=feed_pair hI.two rfl
 have hp':pg f n=⟨2,[],p1++u::v::p2⟩:=by rw[←e];exact hp
 have hI':InnerOk (p1++u::v::p2):=e▸hI
 have haf:feedAt (pg f n).kids (kidI (pg f n).kids k)=p1.length+1:=by rw[hik,hp];exact ha
 have hsB:sizeB f n (p1.length+1)=sizeP (pg f u.page)+sizeP (pg f v.page):=by unfold sizeB;rw[hp'];simp only;rw[kidAt_u,kidAt_v]
 have hh:=h
 obtain⟨lo,hiB,Q,R1,R2,hA,hw,hr1,hr2⟩:=hh
 obtain⟨P,hu,hv⟩:=hA.pair hp'
 have hb:=P.both.2.2.2
 have hxs:x=u∨x=v:=by rcases hcase with⟨a,_⟩|⟨a,_⟩;exact Or.inl a.symm;exact Or.inr a.symm
 have hx2:2≤sizeP (pg f x.page):=by rcases hxs with e|e<;>rw[e];exact P.x2;exact P.y2
 have q:=P.x2;have q2:=P.y2;have q3:=P.x4;have q4:=P.y4
 have hR:rootS f n (p1.length+1)=[⟨0,bothC (pg f u.page) (pg f v.page) v.least⟩,⟨u.page,cont0⟩,⟨v.page,cont0⟩]:=by unfold rootS;rw[hp'];simp only;rw[kidAt_u,kidAt_v]
 have hJ:joinS f n (p1.length+1)=[⟨n,⟨2,[],p1++u::p2⟩⟩,⟨u.page,bothC (pg f u.page) (pg f v.page) v.least⟩,⟨v.page,cont0⟩]:=by
  unfold joinS;rw[hp'];simp only;rw[kidAt_u,kidAt_v,take_v,drop_v];simp
 have hL:levS f n (p1.length+1)=[⟨n,⟨2,[],p1++u::⟨cutS (bothC (pg f u.page) (pg f v.page) v.least) (cutM (pg f u.page) (pg f v.page)),v.page⟩::p2⟩⟩,⟨u.page,cutA (bothC (pg f u.page) (pg f v.page) v.least) (cutM (pg f u.page) (pg f v.page))⟩,⟨v.page,cutB (bothC (pg f u.page) (pg f v.page) v.least) (cutM (pg f u.page) (pg f v.page))⟩]:=by
  unfold levS;rw[hp'];simp only;rw[kidAt_u,kidAt_v,take_v,drop_v];simp
 have hlow:=loAt_ge (l2:=v::p2) P.kids hA.low
 refine⟨p1,u,v,p2,hp',hI',haf,hsB,P.xp,P.yp,hA.ok _ ⟨by have:=P.xp;omega,P.xp.2⟩,hA.ok _ ⟨by have:=P.yp;omega,P.yp.2⟩,kinds_con P.cx P.cy,q3,q4,hR,hJ,hL,λhj=> ?_,λhj=> ?_⟩
 ·rw[hsB] at hj⊢
  have hroot:n=0∧(pg f n).kids.length=2→Grp f (rootS f n (p1.length+1))∧Good (withS f (srtS (rootS f n (p1.length+1)))) (d+1)∧checkP (bothC (pg f u.page) (pg f v.page) v.least)=true:=by
   rintro⟨rfl,hlen⟩
   have hD:=h.zero
   subst hD
   have hlen':(p1++u::v::p2).length=2:=by rw[hp'] at hlen;exact hlen
   obtain⟨rfl,rfl⟩:p1=[]∧p2=[]:=by
    simp only[List.length_append,List.length_cons] at hlen'
    exact⟨List.eq_nil_of_length_eq_zero (by omega),List.eq_nil_of_length_eq_zero (by omega)⟩
   rw[hR]
   obtain⟨g1,g2,g3⟩:=root_good h.good hp' rfl (by rw[hb];exact hj) rfl
   refine⟨g1,g2, ?_⟩
   have h0:=(grp3 hA.len (c1:=bothC (pg f u.page) (pg f v.page) v.least) (c2:=cont0) (c3:=cont0) (sub_page hA.tree) (sub_in hA.tree _ hu).1 (sub_in hA.tree _ hv).1 P.xn P.yn P.xy).2.1
   rw[←h0];exact g2.ok 0 ⟨by omega,by omega⟩
  have hjoin:¬(n=0∧(pg f n).kids.length=2)→Grp f (joinS f n (p1.length+1))∧On (withS f (srtS (joinS f n (p1.length+1)))) D (d+2) n k∧checkP (bothC (pg f u.page) (pg f v.page) v.least)=true:=λhroot=>by
   have h3:3≤(p1++u::v::p2).length:=by
    by_cases h0:n=0
    ·have:=hI'.two
     have hne:¬(p1++u::v::p2).length=2:=λe=>hroot ⟨h0,by rw[hp'];exact e⟩
     omega
    ·have:=hs h0;rw[hp'] at this;simpa[sizeP] using this
   rw[hJ]
   obtain⟨g1,g2,g3,g4,g5⟩:=join_on h hp' rfl h3 (by rw[hb];exact hj) rfl
   refine⟨g1,g2, ?_⟩
   rw[←g5];exact g2.good.ok _ ⟨by have:=P.xp;omega,P.xp.2⟩
  refine⟨?_,hb,λhr=>⟨(hroot hr).1,(hroot hr).2.1⟩,λhr=>⟨(hjoin hr).1,(hjoin hr).2.1⟩⟩
  by_cases hr:n=0∧(pg f n).kids.length=2
  ·exact(hroot hr).2.2
  ·exact(hjoin hr).2.2
 ·rw[hsB] at hj⊢
  have hmm:(cutM (pg f u.page) (pg f v.page)=3∧sizeP (pg f u.page)=2)∨(cutM (pg f u.page) (pg f v.page)+1=sizeP (pg f u.page)∧sizeP (pg f v.page)=2):=by
   unfold cutM
   rcases hxs with e|e
   ·rw[e] at hsm hx2
    left
    rw[if_neg (by omega)];omega
   ·rw[e] at hsm hx2
    right
    rw[if_pos (by omega)];omega
  obtain⟨g1,g2,g3,g4,g5,g6⟩:=level_on h hp' rfl (m:=cutM (pg f u.page) (pg f v.page)) (by rcases hmm with h|h<;>omega) (by rcases hmm with h|h<;>omega) (by rw[hb];rcases hmm with h|h<;>omega) (by rw[hb];rcases hmm with h|h<;>omega) rfl
  obtain⟨_,_,_,_,_,d6,d7⟩:=con_cut (m:=cutM (pg f u.page) (pg f v.page)) P.both.1 (by rcases hmm with h|h<;>omega) (by rw[hb];rcases hmm with h|h<;>omega)
  refine⟨by rcases hmm with h|h<;>omega, ?_,hb,by rw[hL];exact g1,by rw[hL];exact g2⟩
  have k1:=(congrArg checkP g5).symm.trans (g2.good.ok _ ⟨by have:=P.xp;omega,P.xp.2⟩)
  have k2:=(congrArg checkP g6).symm.trans (g2.good.ok _ ⟨by have:=P.yp;omega,P.yp.2⟩)
  unfold levelQ
  rw[rises_con P.both.1 hlow,k1,k2,d7,hb,decide_eq_false (by rcases hmm with h|h<;>omega)];rfl
end Go.Proofs.YtlcmdgpjiendmaaGreat
namespace Go.Proofs.YtlcmdgpjiendmaaGreat
open Go.Bur
set_option linter.unusedSimpArgs false
set_option linter.unusedVariables false
set_option maxRecDepth 100000
def KeysF(f:List Content):Prop:=∀m,Keys (pg f m)
theorem keys0:Keys cont0:=⟨by simp[cont0],by simp[cont0]⟩
theorem keysF_of{f:List Content}(h:∀c∈f,Keys c):KeysF f:=λm=>by
 by_cases hm:0≤m∧m<f.length
 ·exact h _ (pg_mem hm)
 ·have:idx f m=none:=by
   unfold idx
   by_cases h0:0≤m
   ·rw[if_pos h0,List.getElem?_eq_none (by omega)]
   ·rw[if_neg h0]
  unfold pg;rw[this];exact keys0
theorem KeysF.mem{f:List Content}(h:KeysF f):∀c∈f,Keys c:=λc hc=>by obtain⟨m,_,rfl⟩:=mem_pg hc;exact h m
theorem KeysF.set{f:List Content}(hf:f.length=64)(h:KeysF f){n:Int}(hn:0≤n∧n<64){c:Content}(hc:Keys c):KeysF (setP f n c):=λm=>by
 rw[pg_set hf hn]
 split
 ·exact hc
 ·exact h m
theorem keysF_with:∀{l:List Sheet} {f:List Content},f.length=64→KeysF f→SheetsIn l→(∀s∈l,Keys s.content)→KeysF (withS f l):=by
 intro l
 induction l with
 |nil=>intro f _ h _ _;exact h
 |cons s t ih=>intro f hf h hl hc;exact ih (by rw[set_len];exact hf) (h.set hf (hl s (List.mem_cons_self ..)) (hc s (List.mem_cons_self ..))) (λx hx=>hl x (List.mem_cons_of_mem _ hx)) (λx hx=>hc x (List.mem_cons_of_mem _ hx))
theorem keys_cutS{c:Content}(h:Keys c)(m:Nat):KeyIn (cutS c m):=by
 unfold cutS stepC
 split
 ·rename_i x t e
  exact h.kids x (List.mem_of_mem_drop (by rw[e];exact List.mem_cons_self ..))
 ·split
  ·rename_i r t e
   exact h.rows r (List.mem_of_mem_drop (by rw[e];exact List.mem_cons_self ..))
  ·exact key0In
theorem kidAt_in{l:List Kid}(h:∀k∈l,KeyIn k.least)(i:Nat):KeyIn (kidAt l i).least:=by
 unfold kidAt
 cases e:l[i]? with
 |none=>exact key0In
 |some x=>exact h x (List.mem_of_getElem? e)
theorem keys_splitS{f:List Content}(h:KeysF f)(n:Int)(i:Nat)(m:Int):∀s∈splitS f n i m,Keys s.content:=λs hs=>by
 simp only[splitS,List.mem_cons,List.not_mem_nil,or_false] at hs
 rcases hs with rfl|rfl|rfl
 ·refine⟨by simp,λk hk=> ?_⟩
  simp only at hk
  rcases List.mem_append.1 hk with hk|hk
  ·exact(h n).kids k (List.mem_of_mem_take hk)
  ·rcases List.mem_cons.1 hk with rfl|hk
   ·exact keys_cutS (h _) 2
   ·exact(h n).kids k (List.mem_of_mem_drop hk)
 ·exact keys_cutA (h _)
 ·exact keys_cutB (h _)
theorem keys_partS{f:List Content}(h:KeysF f)(a b:Int):∀s∈partS f a b,Keys s.content:=λs hs=>by
 simp only[partS,List.mem_cons,List.not_mem_nil,or_false] at hs
 rcases hs with rfl|rfl|rfl
 ·refine⟨by simp,λk hk=> ?_⟩
  simp only[List.mem_cons,List.not_mem_nil,or_false] at hk
  rcases hk with rfl|rfl
  ·exact key0In
  ·exact keys_cutS (h _) 2
 ·exact keys_cutA (h _)
 ·exact keys_cutB (h _)
theorem keys_rootS{f:List Content}(h:KeysF f)(n:Int)(a:Nat):∀s∈rootS f n a,Keys s.content:=λs hs=>by
 simp only[rootS,List.mem_cons,List.not_mem_nil,or_false] at hs
 rcases hs with rfl|rfl|rfl
 ·exact keys_both (h _) (h _) (kidAt_in (h n).kids a)
 ·exact keys0
 ·exact keys0
theorem keys_joinS{f:List Content}(h:KeysF f)(n:Int)(a:Nat):∀s∈joinS f n a,Keys s.content:=λs hs=>by
 simp only[joinS,List.mem_cons,List.not_mem_nil,or_false] at hs
 rcases hs with rfl|rfl|rfl
 ·refine⟨by simp,λk hk=> ?_⟩
  simp only at hk
  rcases List.mem_append.1 hk with hk|hk
  ·exact(h n).kids k (List.mem_of_mem_take hk)
  ·exact(h n).kids k (List.mem_of_mem_drop hk)
 ·exact keys_both (h _) (h _) (kidAt_in (h n).kids a)
 ·exact keys0
theorem keys_levS{f:List Content}(h:KeysF f)(n:Int)(a:Nat):∀s∈levS f n a,Keys s.content:=λs hs=>by
 have hB:=keys_both (h (kidAt (pg f n).kids (a-1)).page) (h (kidAt (pg f n).kids a).page) (kidAt_in (h n).kids a)
 simp only[levS,List.mem_cons,List.not_mem_nil,or_false] at hs
 rcases hs with rfl|rfl|rfl
 ·refine⟨by simp,λk hk=> ?_⟩
  simp only at hk
  rcases List.mem_append.1 hk with hk|hk
  ·exact(h n).kids k (List.mem_of_mem_take hk)
  ·rcases List.mem_cons.1 hk with rfl|hk
   ·exact keys_cutS hB _
   ·exact(h n).kids k (List.mem_of_mem_drop hk)
 ·exact keys_cutA hB
 ·exact keys_cutB hB
theorem srtS_all{P:Content→Prop}{l:List Sheet}(h:∀s∈l,P s.content):∀s∈srtS l,P s.content:=λs hs=>h s ((srtS_perm l).mem_iff.1 hs)
def foodP(f:List Content)(n:Int)(k:Key):Bool×List Sheet:=
 if sizeP (pg f (nextPg f n k))≤2 then
  if sizeB f n (feedAt (pg f n).kids (kidI (pg f n).kids k))≤4 then
   if n=0∧(pg f n).kids.length=2 then(true,srtS (rootS f n (feedAt (pg f n).kids (kidI (pg f n).kids k)))) else(false,srtS (joinS f n (feedAt (pg f n).kids (kidI (pg f n).kids k))))
  else(false,srtS (levS f n (feedAt (pg f n).kids (kidI (pg f n).kids k))))
 else(false,[])
theorem feed_food(f:List Content)(n:Int)(k:Key):feedP f n k=(withS f (foodP f n k).2,(if(foodP f n k).1=true then 0 else nextPg (withS f (foodP f n k).2) n k),if(foodP f n k).2=[] then [] else [⟨(foodP f n k).2⟩])∨False:=by
 left
 have hne:∀{l:List Sheet},l.length=3→srtS l≠[]:=λ{l} h e=>by have:=(srtS_perm l).length_eq;rw[e,h] at this;simp at this
 unfold feedP foodP
 simp only
 by_cases h1:sizeP (pg f (nextPg f n k))≤2
 ·simp only[if_pos h1]
  by_cases h2:sizeB f n (feedAt (pg f n).kids (kidI (pg f n).kids k))≤4
  ·simp only[if_pos h2]
   by_cases h3:n=0∧(pg f n).kids.length=2
   ·simp only[if_pos h3]
    rw[if_neg (hne (by simp[rootS]))];rfl
   ·simp only[if_neg h3]
    rw[if_neg (hne (by simp[joinS]))];rfl
  ·simp only[if_neg h2]
   rw[if_neg (hne (by simp[levS]))];rfl
 ·simp only[if_neg h1];rfl
theorem food_facts{f:List Content}{D d:Nat}{n:Int}{k:Key}(h:On f D (d+2) n k)(hs:n≠0→3≤sizeP (pg f n)):SheetsIn (foodP f n k).2∧(foodP f n k).2.length≤3∧((foodP f n k).1=true→n=0)∧((foodP f n k).1=false→On (withS f (foodP f n k).2) D (d+2) n k)∧(KeysF f→∀s∈(foodP f n k).2,Keys s.content):=by
 have hlen:∀l:List Sheet,l.length=3→(srtS l).length≤3:=λl h=>by rw[(srtS_perm l).length_eq,h];omega
 unfold foodP
 by_cases h1:sizeP (pg f (nextPg f n k))≤2
 case neg=>rw[if_neg h1];exact⟨by simp[SheetsIn],by simp,by simp,λ_=>h,by simp⟩
 rw[if_pos h1]
 obtain⟨p1,u,v,p2,_,_,ha,_,_,_,_,_,_,_,_,_,_,_,hj,hl⟩:=feed_facts h hs h1
 rw[ha]
 by_cases h2:sizeB f n (p1.length+1)≤4
 ·rw[if_pos h2]
  obtain⟨_,_,hr,hjn⟩:=hj h2
  by_cases h3:n=0∧(pg f n).kids.length=2
  ·rw[if_pos h3]
   exact⟨(grp_srt (hr h3).1).rng,hlen _ (by simp[rootS]),λ_=>h3.1,by simp,λhK=>srtS_all (keys_rootS hK _ _)⟩
  ·rw[if_neg h3]
   exact⟨(grp_srt (hjn h3).1).rng,hlen _ (by simp[joinS]),by simp,λ_=>(hjn h3).2,λhK=>srtS_all (keys_joinS hK _ _)⟩
 ·rw[if_neg h2]
  obtain⟨_,_,_,g1,g2⟩:=hl h2
  exact⟨(grp_srt g1).rng,hlen _ (by simp[levS]),by simp,λ_=>g2,λhK=>srtS_all (keys_levS hK _ _)⟩
theorem mid_idx{p1 p2:List Kid}{u v:Kid}:idx (p1++u::v::p2) (p1.length:Int)=some u∧idx (p1++u::v::p2) ((p1.length+1:Nat):Int)=some v:=by
 refine⟨idx_app, ?_⟩
 have:=idx_app (A:=p1++[u]) (B:=p2) (o:=v)
 simpa using this
theorem rfood_eq(N:Nat)(hN:1003≤N){f:List Content}{D d:Nat}{n:Int}{k:Key}(h:On f D (d+2) n k)(hs:n≠0→3≤sizeP (pg f n))(hK:KeysF f):ref13_food N ⟨f⟩ n k=some (foodP f n k):=by
 obtain⟨hn,hf,hi,hc⟩:=h.page
 obtain⟨hx,_,hxi,hxc⟩:=h.next.page
 have hxp:(kidAt (pg f n).kids (kidI (pg f n).kids k)).page=nextPg f n k:=rfl
 have hkl:=kidI_lt h.kind.2.2.1 k
 have hk4:=h.kind.2.2.1.four
 unfold ref13_food foodP
 rw[show idx (Forest.mk f).pages n=some (pg f n) from hi]
 simp only[Option.bind_some,h.rkid N hN,h.kid_idx,hxp,show idx (Forest.mk f).pages (nextPg f n k)=some (pg f (nextPg f n k)) from hxi,rsize_eq N _ (fine_check hxc)]
 by_cases h1:sizeP (pg f (nextPg f n k))≤2
 case neg=>rw[if_neg h1];refine(condT' (decide_eq_true ?_)).trans rfl;show(sizeP (pg f (nextPg f n k)):Int)>2;omega
 rw[if_pos h1]
 refine(condF' (decide_eq_false ?_)).trans ?_
 ·show ¬(sizeP (pg f (nextPg f n k)):Int)>2;omega
 obtain⟨p1,u,v,p2,hp,hI,ha,hsB,hup,hvp,hcu,hcv,hal,hu4,hv4,hR,hJ,hL,hj,hl⟩:=feed_facts h hs h1
 have hlen100:(p1++u::v::p2).length≤100:=by have:=hI.four;omega
 have hiu:idx (Forest.mk f).pages u.page=some (pg f u.page):=idx_pg (f:=f) ⟨by omega,by omega⟩
 have hiv:idx (Forest.mk f).pages v.page=some (pg f v.page):=idx_pg (f:=f) ⟨by omega,by omega⟩
 have hfu:=fine_check hcu
 have hfv:=fine_check hcv
 have hv':(p1++[u]++v::p2)=p1++u::v::p2:=by simp
 rw[ha]
 have key:ref13_food_j1 N (n,((p1.length+1:Nat):Int),⟨f⟩,pg f n,())=some (if sizeB f n (p1.length+1)≤4 then(if n=0∧(pg f n).kids.length=2 then(true,srtS (rootS f n (p1.length+1))) else(false,srtS (joinS f n (p1.length+1)))) else(false,srtS (levS f n (p1.length+1)))):=by
  obtain⟨m1,m2⟩:=mid_idx (p1:=p1) (p2:=p2) (u:=u) (v:=v)
  have hw:IntKind.wrap .i64 (((p1.length+1:Nat):Int)-1)=(p1.length:Int):=by rw[wrap_in (by simp only[List.length_append] at hlen100;omega)];omega
  have hfB:Fine (bothC (pg f u.page) (pg f v.page) v.least):=fine_both hfu hfv (by show sizeP (pg f u.page)≤100;omega) (by show sizeP (pg f v.page)≤100;omega)
  have hdis:=rdisown_eq N hN (pg f n) (l1:=p1++[u]) (l2:=p2) (x:=v) (by rw[hp,hv']) (by rw[hv'];exact hlen100)
  have hstp:=λs=>rstep_eq N hN (pg f n) (l1:=p1++[u]) (l2:=p2) (x:=v) (by rw[hp,hv']) (by rw[hv'];exact hlen100) s
  rw[show(p1++[u]).length=p1.length+1 by simp] at hdis hstp
  have hkd:(pg f n).kids=p1++u::v::p2:=by rw[hp]
  rw[←hkd] at m1 m2
  unfold ref13_food_j1
  simp only[hw,m1,m2,Option.bind_some,hiu,hiv,rboth_eq N hN _ _ hfu hfv,rsize_eq N _ hfB,jn]
  by_cases h2:sizeB f n (p1.length+1)≤4
  ·rw[if_pos h2]
   obtain⟨hck,hsz,hr,hjn⟩:=hj h2
   rw[hsz,show decide ((sizeB f n (p1.length+1):Int)≤4)=true from decide_eq_true (by omega)]
   simp only[cond_true,ieq0]
   have hlen2:(((pg f n).kids.length:Int)==2)=decide ((pg f n).kids.length=2):=ieq4 (m:=2)
   by_cases h3:n=0∧(pg f n).kids.length=2
   ·rw[if_pos h3,decide_eq_true h3.1,cond_true,hlen2,decide_eq_true h3.2,cond_true]
    have g1:=(hr h3).1
    rw[hR] at g1⊢
    rw[show(Content.mk 0 ([]:List Row) ([]:List Kid))=cont0 from rfl,rsorted_eq N hN g1.rng g1.nodup (by simp)];rfl
   ·rw[if_neg h3]
    have g1:=(hjn h3).1
    have hgo:ref13_sorted N [⟨n,⟨2,[],p1++[u]++p2⟩⟩,⟨u.page,bothC (pg f u.page) (pg f v.page) v.least⟩,⟨v.page,cont0⟩]=some (srtS (joinS f n (p1.length+1))):=by
     rw[hJ] at g1⊢
     rw[show p1++[u]++p2=p1++u::p2 by simp]
     exact rsorted_eq N hN g1.rng g1.nodup (by simp)
    simp only[hdis,Option.bind_some,show(Content.mk 0 ([]:List Row) ([]:List Kid))=cont0 from rfl,hgo]
    by_cases hn0:n=0
    ·rw[decide_eq_true hn0,cond_true,hlen2,decide_eq_false (λe=>h3 ⟨hn0,e⟩)];rfl
    ·rw[decide_eq_false hn0];rfl
  ·rw[if_neg h2]
   obtain⟨hne,hq,hsz,g1,g2⟩:=hl h2
   rw[hsz,show decide ((sizeB f n (p1.length+1):Int)≤4)=false from decide_eq_false (by omega)]
   simp only[cond_false]
   rw[rlevel_eq N hN _ _ _ hfu hfv (by omega) (by omega) (hK _) (hK _) ((hK n).kids v (by rw[hp];simp)),hal,decide_eq_false hne]
   simp only[Bool.not_false,Bool.and_self,if_true,hq,Option.bind_some,hstp]
   rw[hL] at g1⊢
   rw[show p1++[u]++⟨cutS (bothC (pg f u.page) (pg f v.page) v.least) (cutM (pg f u.page) (pg f v.page)),v.page⟩::p2=p1++u::⟨cutS (bothC (pg f u.page) (pg f v.page) v.least) (cutM (pg f u.page) (pg f v.page)),v.page⟩::p2 by simp]
   rw[rsorted_eq N hN g1.rng g1.nodup (by simp)];rfl
 simp only[jn]
 rw[wrap_succ (show kidI (pg f n).kids k<4611686018427387904 by omega),show(((kidI (pg f n).kids k+1:Nat):Int)==((pg f n).kids.length:Int))=decide (kidI (pg f n).kids k+1=(pg f n).kids.length) from ieq4]
 unfold feedAt at ha
 by_cases he:kidI (pg f n).kids k+1=(pg f n).kids.length
 ·rw[if_pos he] at ha
  rw[decide_eq_true he,cond_true,ha];exact key
 ·rw[if_neg he] at ha
  rw[decide_eq_false he,cond_false,ha];exact key
theorem take_go(N:Nat)(hN:1003≤N)(k:Key):∀(d m c D:Nat)(f:List Content)(n:Int)(gs:List Group),On f D (d+1) n k→(n≠0→3≤sizeP (pg f n))→KeysF f→d<m→c+d<40→gs.length+d≤1000→
  ref13_Take_l2 N (ref13_Take_j1 N) m (n,(c:Int),⟨f⟩,k,gs,())=ref13_Take_j1 N ((takeW k d f n).2.1,⟨(takeW k d f n).1⟩,k,gs++(takeW k d f n).2.2,()):=by
 intro d
 induction d with
 |zero=>
  intro m c D f n gs h hs hK hm hc hg
  obtain⟨m,rfl⟩:∃m',m=m'+1:=⟨m-1,by omega⟩
  obtain⟨_,_,hi,_⟩:=h.page
  obtain⟨l,hp,_⟩:=h.leaf
  unfold ref13_Take_l2
  rw[loopF_succ]
  simp only[show decide ((c:Int)<40)=true from decide_eq_true (by omega),cond_true,show idx (Forest.mk f).pages n=some (pg f n) from hi,Option.bind_some]
  rw[show((pg f n).kind==1)=true from by rw[hp];rfl,cond_true]
  simp[takeW]
 |succ d ih=>
  intro m c D f n gs h hs hK hm hc hg
  obtain⟨m,rfl⟩:∃m',m=m'+1:=⟨m-1,by omega⟩
  obtain⟨hn,hf,hi,hck⟩:=h.page
  obtain⟨D',f1,f2,f3,f4,_⟩:=feed_on h hs
  obtain⟨s1,s2,s3,s4,s5⟩:=food_facts h hs
  have hff:=(feed_food f n k).resolve_right id
  have hK':KeysF (feedP f n k).1:=by rw[hff];exact keysF_with hf hK s1 (s5 hK)
  unfold ref13_Take_l2
  rw[loopF_succ]
  generalize hr2:loopF _ m=r2
  replace hr2:ref13_Take_l2 N (ref13_Take_j1 N) m=r2:=hr2
  simp only[show decide ((c:Int)<40)=true from decide_eq_true (by omega),cond_true,show idx (Forest.mk f).pages n=some (pg f n) from hi,Option.bind_some,rfood_eq N hN h hs hK,jn]
  rw[show((pg f n).kind==1)=false from by rw[h.kind.1];rfl,cond_false]
  have hj3:∀gs':List Group,gs'.length+d≤1000→ref13_Take_j3 N r2 (n,(c:Int),(foodP f n k).1,⟨withS f (foodP f n k).2⟩,k,gs',())=ref13_Take_j1 N ((takeW k d (feedP f n k).1 (feedP f n k).2.1).2.1,⟨(takeW k d (feedP f n k).1 (feedP f n k).2.1).1⟩,k,gs'++(takeW k d (feedP f n k).1 (feedP f n k).2.1).2.2,()):=λgs' hg'=>by
   have hnext:=ih m (c+1) D' (feedP f n k).1 (feedP f n k).2.1 gs' f1 f2 hK' (by omega) (by omega) hg'
   rw[←hnext,hr2]
   have e1:(feedP f n k).1=withS f (foodP f n k).2:=by rw[hff]
   have e2:(feedP f n k).2.1=if(foodP f n k).1=true then 0 else nextPg (withS f (foodP f n k).2) n k:=by rw[hff]
   rw[e1,e2]
   unfold ref13_Take_j3
   simp only[jn,ref13_Take_j4,wrap_succ (show c<4611686018427387904 by omega)]
   cases hb:(foodP f n k).1 with
   |true=>
    have:=s3 hb
    simp only[Bool.not_true,cond_false,if_true]
    rw[this]
   |false=>
    have hon:=s4 hb
    obtain⟨_,_,hi',_⟩:=hon.page
    simp only[Bool.not_false,cond_true,show idx (Forest.mk (withS f (foodP f n k).2)).pages n=some (pg (withS f (foodP f n k).2) n) from hi',Option.bind_some,hon.rkid N hN,hon.kid_idx]
    rfl
  have e3:(feedP f n k).2.2=if(foodP f n k).2=[] then [] else [⟨(foodP f n k).2⟩]:=by rw[hff]
  rw[takeW,e3]
  by_cases hz:(foodP f n k).2=[]
  ·rw[if_pos hz,List.nil_append]
   have:=hj3 gs (by omega)
   rw[hz] at this⊢
   exact this
  ·rw[if_neg hz]
   have hpos:0<(foodP f n k).2.length:=List.length_pos_iff.2 hz
   simp only[show decide (((foodP f n k).2.length:Int)>0)=true from decide_eq_true (by omega),cond_true,app_lt (show gs.length+[Group.mk (foodP f n k).2].length≤1000000 by simp;omega) (show 24≤1000 by omega),Option.bind_some,rwith_eq N hN hf s1 (show(foodP f n k).2.length≤900 by omega)]
   rw[hj3 _ (by simp;omega),List.append_assoc]
theorem rtake_eq(N:Nat)(hN:2000≤N){f:List Content}{D:Nat}(h:Good f D)(hK:KeysF f){k:Key}(hk:ltK k key0=false){x:Row}(hx:findK (rws f D 0) k=some x):
  ∃f' n' G D' l,takeW k (D-1) f 0=(f',n',G)∧On f' D' 1 n' k∧pg f' n'=⟨1,l,[]⟩∧LeafOk l∧findK l k=some x∧rws f' D' 0=rws f D 0∧Chain (rws f D 0) f G f'∧
   Grp f' (one n' (others k l))∧Good (withS f' (one n' (others k l))) D'∧rws (withS f' (one n' (others k l))) D' 0=others k (rws f D 0)∧ref13_Take N ⟨f⟩ k=some (G++[⟨one n' (others k l)⟩])∧
   G.length≤100∧∃T:List Int,T.length≤2*(D-1)∧n'∈0::T∧∀g∈G,∀s∈g.sheets,s.page∈0::T:=by
 obtain⟨D',g1,g2,g3,g4,T,g5,g6,g7⟩:=take_on h hk
 have hdeep:=h.deep
 have hpos:=h.pos
 obtain⟨l,hp,hl,_,hfk⟩:=g1.leaf
 rw[g3,hx] at hfk
 obtain⟨q1,q2,q3,q4,q5⟩:=take_leaf g1 (by rw[g3];exact hx) g2 hp
 have hlen:∀(d:Nat)(f:List Content)(n:Int),(takeW k d f n).2.2.length≤d:=by
  intro d
  induction d with
  |zero=>intro f n;simp[takeW]
  |succ d ih=>
   intro f n
   have h1:(feedP f n k).2.2.length≤1:=by rw[(feed_food f n k).resolve_right id];simp only;split<;>simp
   have:=ih (feedP f n k).1 (feedP f n k).2.1
   simp only[takeW,List.length_append];omega
 have hG:=hlen (D-1) f 0
 refine⟨_,_,_,D',l,rfl,g1,hp,hl,q5,g3,g4,q1,q2,by rw[q3,g3], ?_,Nat.le_trans hG (by omega),T,g5,g6,g7⟩
 unfold ref13_Take
 simp only[jn]
 have:=take_go N (by omega) k (D-1) N 0 D f 0 [] (by rw[show D-1+1=D by omega];exact On.root h hk) (λe=>absurd rfl e) hK (by omega) (by omega) (by simp;omega)
 rw[show((0:Nat):Int)=0 from rfl] at this
 rw[this]
 unfold ref13_Take_j1
 obtain⟨_,_,hi,_⟩:=g1.page
 have hl4:=hl.len
 simp only[show idx (Forest.mk (takeW k (D-1) f 0).1).pages (takeW k (D-1) f 0).2.1=some (pg (takeW k (D-1) f 0).1 (takeW k (D-1) f 0).2.1) from hi,Option.bind_some,hp,without_eq N (by omega) l (by omega) k,ref11_Leaf,List.nil_append]
 rw[app_lt (by simp;omega) (by decide)];rfl
end Go.Proofs.YtlcmdgpjiendmaaGreat
namespace Go.Proofs.YtlcmdgpjiendmaaGreat
open Go.Bur
set_option linter.unusedSimpArgs false
set_option linter.unusedVariables false
set_option maxRecDepth 100000
theorem step_form{f f':List Content}{n n':Int}{k:Key}{new:Bool}{G:List Group}(h:stepP f n k new=some (f',n',G)):(f'=f∧G=[])∨∃m,f'=withS f (srtS (splitS f n (kidI (pg f n).kids k) m))∧G=[⟨srtS (splitS f n (kidI (pg f n).kids k) m)⟩]:=by
 unfold stepP at h
 split at h
 ·split at h
  ·cases h
  ·rename_i m t _
   injection h with h;injection h with h1 h;injection h with _ h
   exact Or.inr ⟨m,h1.symm,h.symm⟩
 ·injection h with h;injection h with h1 h;injection h with _ h
  exact Or.inl ⟨h1.symm,h.symm⟩
theorem keys_putW{k:Key}{new:Bool}:∀{d D:Nat} {f:List Content} {n:Int} {z:List Content×Int×List Group},On f D (d+1) n k→(new=true→sizeP (pg f n)≤3)→KeysF f→putW k new d f n=some z→KeysF z.1
 |0,_,f,n,z,_,_,hK,h=>by cases h;exact hK
 |d+1,D,f,n,z,ho,hs,hK,h=>by
  rcases stepP_on ho hs with⟨_,_,e⟩|⟨f1,n1,G1,e,⟨s1,s2,s3,s4⟩,_⟩
  ·rw[putW,e] at h;cases h
  ·have hK1:KeysF f1:=by
    rcases step_form e with⟨h1,_⟩|⟨m,h1,h2⟩
    ·rw[h1];exact hK
    ·rw[h2] at s4
     rw[h1]
     exact keysF_with ho.page.2.1 hK s4.1.rng (srtS_all (keys_splitS hK _ _ _))
   rw[putW,e] at h
   simp only[Option.bind_some,Option.map_eq_some_iff] at h
   obtain⟨w,h1,h2⟩:=h
   have:=keys_putW s1 s2 hK1 h1
   rw[←h2];exact this
theorem keys_way{f:List Content}{D:Nat}{k:Key}{new:Bool}{z:List Content×Int×List Group}(h:Good f D)(hk:ltK k key0=false)(hK:KeysF f)(hw:wayP f D k new=some z):KeysF z.1:=by
 have hpos:=h.pos
 obtain⟨d,rfl⟩:∃d,D=d+1:=⟨D-1,by omega⟩
 have hf0:=fullP_size h.tree
 have h4:=(con_of h.tree).2.1
 unfold wayP at hw
 rw[hf0] at hw
 by_cases hc:(new&&decide (sizeP (pg f 0)=4))=true
 ·rw[if_pos hc] at hw
  rw[Bool.and_eq_true,decide_eq_true_eq] at hc
  split at hw
  ·rename_i a b t hfr
   obtain⟨q1,q2,q3,q4,_⟩:=part_good h hc.2 hfr
   rw[Option.map_eq_some_iff] at hw
   obtain⟨w,h1,h2⟩:=hw
   have:=keys_putW (On.root q2 hk) (λ_=>by rw[q4];simp[sizeP]) (keysF_with h.len hK (grp_srt q1).rng (srtS_all (keys_partS hK a b))) h1
   rw[←h2];exact this
  ·cases hw
 ·rw[if_neg hc,Nat.add_sub_cancel] at hw
  exact keys_putW (On.root h hk) (λe=>by rw[e,Bool.true_and,decide_eq_true_eq] at hc;omega) hK hw
theorem keys_takeW{k:Key}:∀{d D:Nat} {f:List Content} {n:Int},On f D (d+1) n k→(n≠0→3≤sizeP (pg f n))→KeysF f→KeysF (takeW k d f n).1
 |0,_,f,n,_,_,hK=>hK
 |d+1,D,f,n,ho,hs,hK=>by
  obtain⟨D',f1,f2,_⟩:=feed_on ho hs
  obtain⟨s1,_,_,_,s5⟩:=food_facts ho hs
  show KeysF (takeW k d (feedP f n k).1 (feedP f n k).2.1).1
  exact keys_takeW f1 f2 (by rw[(feed_food f n k).resolve_right id];exact keysF_with ho.page.2.1 hK s1 (s5 hK))
theorem keys_leaf{f:List Content}(hf:f.length=64)(hK:KeysF f){n:Int}{l:List Row}(h:Grp f (one n l))(hl:∀r∈l,KeyIn r.key):KeysF (withS f (one n l)):=
 keysF_with hf hK h.rng λs hs=>by cases List.mem_singleton.1 hs;exact⟨hl,by simp⟩
theorem putR_mem{r:Row}{l:List Row}(hs:Srt l):∀x∈putR r l,x=r∨x∈l:=λx hx=>by
 rcases stand hs r.key with⟨pre,y,post,rfl,hy,hc,_⟩|⟨pre,post,rfl,hc,_⟩
 ·rw[putR_in hy hc] at hx
  simp only[List.mem_append,List.mem_cons] at hx⊢
  rcases hx with h|h|h
  ·exact Or.inr (Or.inl h)
  ·exact Or.inl h
  ·exact Or.inr (Or.inr (Or.inr h))
 ·rw[putR_new hc] at hx
  simp only[List.mem_append,List.mem_cons] at hx⊢
  rcases hx with h|h|h
  ·exact Or.inr (Or.inl h)
  ·exact Or.inl h
  ·exact Or.inr (Or.inr h)
theorem chain_len{R:List Row}:∀{gs:List Group} {f f':List Content},Chain R f gs f'→(allS gs).length≤64*gs.length
 |[],_,_,_=>by simp[allS]
 |g::gs,f,f',⟨h1,_,_,h2⟩=>by
  have:=chain_len h2
  have hg:=nodup_len h1.nodup λx hx=>by obtain⟨s,hs,rfl⟩:=List.mem_map.1 hx;exact h1.rng s hs
  rw[List.length_map] at hg
  simp only[allS,List.flatMap_cons,List.length_append,List.length_cons] at this⊢
  omega
theorem net_groups(N:Nat)(hN:20002≤N){R:List Row}{f f':List Content}{G:List Group}{sh:List Sheet}(hf:f.length=64)(h:Chain R f G f')(hG:G.length≤100)(hs:Grp f' sh):∃l,ref13_Net N (G++[⟨sh⟩])=some l∧ref13_With N ⟨f⟩ l=some ⟨withS f' sh⟩:=by
 obtain⟨e1,e2⟩:=chain_with h
 have hl:=chain_len h
 have hsl:=nodup_len hs.nodup λx hx=>by obtain⟨s,hs',rfl⟩:=List.mem_map.1 hx;exact hs.rng s hs'
 rw[List.length_map] at hsl
 have ea:allS (G++[⟨sh⟩])=allS G++sh:=by simp[allS]
 have hin:SheetsIn (allS (G++[⟨sh⟩])):=λs hs'=>by
  rw[ea] at hs'
  rcases List.mem_append.1 hs' with h|h
  ·exact e2 s h
  ·exact hs.rng s h
 refine⟨_,rnet_eq N hN _ (by rw[ea];simp only[List.length_append,List.length_singleton];omega), ?_⟩
 have hin':SheetsIn (netS (allS (G++[⟨sh⟩]))):=λs hs'=>hin s (netS_sub s hs')
 have hnl:=nodup_len (up_nodup' (netS_up (l:=allS (G++[⟨sh⟩])))) λx hx=>by obtain⟨s,hs',rfl⟩:=List.mem_map.1 hx;exact hin' s hs'
 rw[List.length_map] at hnl
 rw[rwith_eq N (by omega) hf hin' (by omega),with_net hf hin,ea,with_append,e1]
def Came(f:List Content):Prop:=∃D,Good f D∧KeysF f∧(rws f D 0).length≤60
def rowZ(i:Int):Row:=⟨⟨0,i⟩,0,ByteArray.empty⟩
theorem u16_in(x:Int):0≤IntKind.wrap .u16 x∧IntKind.wrap .u16 x<65536:=by
 rw[IntKind.wrap_u16];omega
theorem rowZ_ok{i:Int}(h:0≤i∧i<65536):okRow (rowZ i)=true∧KeyIn (rowZ i).key∧ltK (rowZ i).key key0=false:=
 ⟨rfl,h,by rw[ltK_false];show ¬((0:Int)<0∨((0:Int)=0∧i<0));omega⟩
theorem came_put(N:Nat)(hN:20002≤N){f:List Content}(h:Came f){r:Row}(hr:okRow r=true)(hi:KeyIn r.key)(hlen:∀D,Good f D→findK (rws f D 0) r.key=none→(rws f D 0).length<60):∃y l f2,ref13_Put N ⟨f⟩ r=some y∧ref13_Net N y.2=some l∧ref13_With N ⟨f⟩ l=some ⟨f2⟩∧Came f2:=by
 obtain⟨D,hg,hK,h60⟩:=h
 have hk:=okRow_low hr hi
 rcases rput_eq N (by omega) hg hr hk with⟨_,_,_,e⟩|⟨f',n',G,D',l,e1,e2,e3,e4,e5,e6,e7,e8,e9,e10,e11,e12,_⟩
 ·refine⟨_,[],f,e, ?_, ?_,D,hg,hK,h60⟩
  ·exact rnet_eq N hN [] (by simp[allS])
  ·exact rwith_eq N (by omega) hg.len (by simp[SheetsIn]) (by simp)
 ·obtain⟨ls,q1,q2⟩:=net_groups N hN hg.len e7 e12 e8
  have hlf:=e2.page.2.1
  refine⟨_,ls,_,e11,q1,q2,D',e9,keys_leaf hlf (keys_way hg hk hK e1) e8 λx hx=> ?_, ?_⟩
  ·rcases putR_mem e4.srt x hx with rfl|hx
   ·exact hi
   ·have:=(keys_way hg hk hK e1 n').rows x (by rw[e3];exact hx)
    exact this
  ·rw[e10,putR_len (sub_rows hg.tree).1]
   split
   ·rename_i hn;have:=hlen D hg hn;omega
   ·exact h60
theorem came_take(N:Nat)(hN:20002≤N){f:List Content}(h:Came f){k:Key}(hk:ltK k key0=false)(hx:∀D,Good f D→findK (rws f D 0) k≠none):∃y l f2,ref13_Take N ⟨f⟩ k=some y∧ref13_Net N y=some l∧ref13_With N ⟨f⟩ l=some ⟨f2⟩∧Came f2:=by
 obtain⟨D,hg,hK,h60⟩:=h
 obtain⟨x,hx⟩:=Option.ne_none_iff_exists'.1 (hx D hg)
 obtain⟨f',n',G,D',l,e1,e2,e3,e4,e5,e6,e7,e8,e9,e10,e11,e12,_⟩:=rtake_eq N (by omega) hg hK hk hx
 obtain⟨ls,q1,q2⟩:=net_groups N hN hg.len e7 e12 e8
 have hKf:KeysF f':=by
  have:=keys_takeW (k:=k) (d:=D-1) (D:=D) (f:=f) (n:=0) (by rw[show D-1+1=D by have:=hg.pos;omega];exact On.root hg hk) (λe=>absurd rfl e) hK
  rw[e1] at this;exact this
 refine⟨_,ls,_,e11,q1,q2,D',e9,keys_leaf e2.page.2.1 hKf e8 λy hy=> ?_, ?_⟩
 ·exact(hKf n').rows y (by rw[e3];exact(List.mem_filter.1 hy).1)
 ·rw[e10]
  exact Nat.le_trans (List.length_filter_le ..) h60
theorem good_new:Good new0 1:=by
 have h0:pg new0 0=⟨1,[],[]⟩:=rfl
 have hz:∀m:Int,0<m→m<64→pg new0 m=cont0:=λm h1 h2=>by
  obtain⟨j,rfl⟩:∃j:Nat,m=(j:Int):=⟨m.toNat,by omega⟩
  refine pg_nat ?_
  unfold new0
  rw[List.getElem?_set_ne (by omega),List.getElem?_replicate,if_pos (by omega)]
 refine⟨rfl,λm hm=> ?_,⟨⟨by omega,by omega⟩,λe=>absurd rfl e,[],h0,⟨by simp,by simp,List.Pairwise.nil⟩,by simp⟩, ?_,λm hm hn=> ?_⟩
 ·by_cases e:m=0
  ·rw[e,h0];rfl
  ·rw[hz m (by omega) (by omega)];rfl
 ·rw[pgs,h0];simp
 ·have:m≠0:=λe=>hn (by rw[e];exact pgs_self)
  rw[hz m (by omega) (by omega)];rfl
theorem came_new:Came new0:=⟨1,good_new,keysF_of λc hc=>by
  unfold new0 at hc
  rcases List.mem_or_eq_of_mem_set hc with h|h
  ·rw[List.eq_of_mem_replicate h];exact keys0
  ·rw[h];exact⟨by simp,by simp⟩,by rw[rws,show pg new0 0=⟨1,[],[]⟩ from rfl];simp⟩
theorem ix_none{R:List Row}{k:Key}:decide (ixI (at_ R k)≥0)=true↔findK R k≠none:=by
 rw[there_iff,Bool.not_eq_true',←Bool.not_eq_true,newB_iff]
theorem built_ok(N:Nat)(hN:20002≤N)(b:law13_Build):∃f,law13_Build_built N b=some ⟨f⟩∧Came f:=by
 have key:∀(m:Nat)(i:Nat)(z:Forest)(f:List Content),i≤90→i≤b.ids.length→91-i<m→Came f→∃f2,law13_Build_built_l2 N (law13_Build_built_j1 N) m (b.ids,(b.ids.length:Int),(i:Int),z,⟨f⟩,())=some ⟨f2⟩∧Came f2:=by
  intro m
  induction m with
  |zero=>intro i z f _ _ h;omega
  |succ m ih=>
   intro i z f hi hl hm hc
   unfold law13_Build_built_l2
   rw[loopF_succ]
   generalize hr:loopF _ m=r2
   replace hr:law13_Build_built_l2 N (law13_Build_built_j1 N) m=r2:=hr
   simp only[hr] at ih
   by_cases hlt:i<b.ids.length
   case neg=>
    simp only[ge_dec hlt,cond_false]
    exact⟨f,rfl,hc⟩
   simp only[lt_dec hlt,cond_true,jn,idx_nat,get_some hlt,Option.bind_some]
   by_cases h90:i=90
   ·subst h90
    exact⟨f,rfl,hc⟩
   rw[show((i:Int)==90)=false from by rw[ibeq,decide_eq_false (by omega)],cond_false]
   have hc0:=hc
   obtain⟨D,hg,hK,h60⟩:=hc
   have hrow:=hg.rows
   have hloop:∀(z:Forest)(f2:List Content),Came f2→∃f3,r2 (b.ids,(b.ids.length:Int),IntKind.wrap .i64 ((i:Int)+1),z,⟨f2⟩,())=some ⟨f3⟩∧Came f3:=λz f2 h2=>by
    rw[wrap_succ (show i<4611686018427387904 by omega)]
    exact ih (i+1) z f2 (by omega) (by omega) (by omega) h2
   simp only[law13_row,Option.bind_some,rrows_good N (by omega) hg,rfind_eq N (by omega) _ (show(rws f D 0).length≤1000 by omega),law13_Build_built_j3,law13_Build_built_j4,law13_Build_built_j5]
   cases hneg:decide (b.ids[i]<0) with
   |true=>
    simp only[cond_true]
    obtain⟨a1,a2,a3⟩:=rowZ_ok (u16_in (IntKind.wrap .i64 (0-b.ids[i])))
    cases hth:decide (ixI (at_ (rws f D 0) (Key.mk 0 (IntKind.wrap .u16 (IntKind.wrap .i64 (0-b.ids[i])))))≥0) with
    |false=>exact hloop z f hc0
    |true=>
     obtain⟨y,l,f2,q1,q2,q3,q4⟩:=came_take N hN hc0 a3 λD2 hg2=>by
      have hD:D2=D:=depth_uniq hg2.tree hg.tree
      rw[hD];exact ix_none.1 hth
     rw[show(rowZ (IntKind.wrap .u16 (IntKind.wrap .i64 (0-b.ids[i])))).key=Key.mk 0 (IntKind.wrap .u16 (IntKind.wrap .i64 (0-b.ids[i]))) from rfl] at q1
     simp only[cond_true,q1,Option.bind_some,q2,q3]
     exact hloop z f2 q4
   |false=>
    simp only[cond_false]
    obtain⟨a1,a2,a3⟩:=rowZ_ok (u16_in b.ids[i])
    have hput:(findK (rws f D 0) (Key.mk 0 (IntKind.wrap .u16 b.ids[i]))=none→(rws f D 0).length<60)→∃f3,((ref13_Put N ⟨f⟩ (Row.mk (Key.mk 0 (IntKind.wrap .u16 b.ids[i])) 0 ByteArray.empty)).bind λy148=>(ref13_Net N y148.2).bind λy149=>(ref13_With N ⟨f⟩ y149).bind λy150=>r2 (b.ids,(b.ids.length:Int),IntKind.wrap .i64 ((i:Int)+1),z,y150,()))=some ⟨f3⟩∧Came f3:=λhfree=>by
     obtain⟨y,l,f2,q1,q2,q3,q4⟩:=came_put N hN hc0 a1 a2 λD2 hg2 hn=>by
      have hD:D2=D:=depth_uniq hg2.tree hg.tree
      rw[hD] at hn⊢;exact hfree hn
     rw[show rowZ (IntKind.wrap .u16 b.ids[i])=Row.mk (Key.mk 0 (IntKind.wrap .u16 b.ids[i])) 0 ByteArray.empty from rfl] at q1
     simp only[q1,Option.bind_some,q2,q3]
     exact hloop z f2 q4
    cases hth:decide (ixI (at_ (rws f D 0) (Key.mk 0 (IntKind.wrap .u16 b.ids[i])))≥0) with
    |true=>exact hput λhn=>absurd hn (ix_none.1 hth)
    |false=>
     simp only[cond_false]
     cases hsz:decide (((rws f D 0).length:Int)<60) with
     |true=>
      have:=of_decide_eq_true hsz
      exact hput λ_=>by omega
     |false=>exact hloop z f hc0
 unfold law13_Build_built
 rw[rnew_eq]
 exact key N 0 ⟨[]⟩ new0 (by omega) (Nat.zero_le _) (by omega) came_new
end Go.Proofs.YtlcmdgpjiendmaaGreat
namespace Go.Proofs.YtlcmdgpjiendmaaGreat
open Go.Bur
set_option linter.unusedSimpArgs false
set_option linter.unusedVariables false
set_option maxRecDepth 100000
end Go.Proofs.YtlcmdgpjiendmaaGreat
namespace Go.Proofs.YtlcmdgpjiendmaaGreat
open Go.Bur
set_option linter.unusedSimpArgs false
set_option linter.unusedVariables false
set_option maxRecDepth 100000
end Go.Proofs.YtlcmdgpjiendmaaGreat
namespace Go.Proofs.YtlcmdgpjiendmaaGreat
open Go.Bur
set_option linter.unusedSimpArgs false
set_option linter.unusedVariables false
set_option maxRecDepth 100000
end Go.Proofs.YtlcmdgpjiendmaaGreat
namespace Go.Proofs.YtlcmdgpjiendmaaGreat
open Go.Bur
set_option linter.unusedSimpArgs false
set_option linter.unusedVariables false
set_option maxRecDepth 100000
def sameS(a b:Sheet):Bool:=decide (a.page=b.page)&&sameC a.content b.content
theorem rsheets_eq(n:Nat)(hn:1003≤n)(a b:List Sheet)(ha:a.length+3≤n)(ha2:a.length≤1000000)(hf:∀s∈a,Fine s.content):ref13_SameSheets n a b=some (eqL sameS a b):=by
 unfold ref13_SameSheets
 rw[lenne]
 by_cases h:a.length=b.length
 ·rw[decide_eq_true h,Bool.not_true,cond_false]
  show ref13_SameSheets_l1 n n (a,b,((0:Nat):Int),())=_
  unfold ref13_SameSheets_l1
  refine(eq_loop (e:=sameS) (no:=some false) (yes:=some true) a b h (λi=>(a,b,(i:Int),())) (λr i x y hx hy hi=> ?_) (λr=> ?_) n 0 (Nat.zero_le _) (by omega)).trans ?_
  ·simp only[lt_dec hi,cond_true,idx_nat,hx,hy,Option.bind_some,wrap_succ (show i<4611686018427387904 by omega),jn,rsame_eq n hn x.content y.content (hf x (List.mem_of_getElem? hx)),sameS]
   rw[show(x.page !=y.page)= !decide (x.page=y.page) by rw[bne,ibeq]]
   by_cases g1:x.page=y.page<;>by_cases g2:sameC x.content y.content=true<;>simp[g1,g2]
  ·simp only[ge_dec (Nat.lt_irrefl _),cond_false]
  ·simp only[List.drop_zero];cases eqL sameS a b<;>rfl
 ·rw[decide_eq_false h,eqL_false h];rfl
theorem sameS_refl(s:Sheet):sameS s s=true:=by unfold sameS;rw[decide_eq_true rfl,sameC_refl];rfl
theorem app_l2(n:Nat)(r1:(List Group)×Int×Int×Forest×(List Content)×(List Group)×Unit→Option (Forest×Int))(gs:List Group)(a b:Int)(z:Forest)(ss:List Sheet)(hss:ss.length≤1000)(q:List Group):∀(m:Nat)(t:List Sheet)(i:Nat)(f:List Content),ss.drop i=t→i≤ss.length→t.length<m→f.length=64→SheetsIn t→
  tree_Apply_l2 n r1 m (gs,a,b,ss,(ss.length:Int),(i:Int),z,f,q,())=(tree_Check n ⟨withS f t⟩).bind λy=>cond (y !=0) (some (⟨[]⟩,2)) (r1 (gs,a,IntKind.wrap .i64 (b+1),z,withS f t,q,())):=by
 intro m
 induction m with
 |zero=>intro t i f _ _ h;omega
 |succ m ih=>
  intro t i f ht hi hk hf hl
  unfold tree_Apply_l2
  rw[loopF_succ]
  generalize hr:loopF _ m=r2
  replace hr:tree_Apply_l2 n r1 m=r2:=hr
  simp only[hr] at ih
  cases t with
  |nil=>
   cases drop_end ht hi
   simp only[ge_dec (Nat.lt_irrefl _),cond_false];rfl
  |cons x t=>
   obtain⟨h1,h2,h3⟩:=drop_get ht
   have hi2:i<4611686018427387904:=by omega
   have hx:=hl x (List.mem_cons_self ..)
   obtain⟨j,hj⟩:∃j:Nat,x.page=(j:Int):=⟨x.page.toNat,by omega⟩
   have hput:put f x.page x.content=some (setP f x.page x.content):=by unfold setP;rw[hj,Int.toNat_natCast];exact put_ok (by omega)
   simp only[lt_dec h3,cond_true,idx_nat,h1,Option.bind_some,jn,show decide (x.page<0)=false from decide_eq_false (by omega),show decide (x.page≥64)=false from decide_eq_false (by omega),cond_false,show idx f x.page=some (pg f x.page) from idx_pg ⟨hx.1,by omega⟩,hput,wrap_succ hi2]
   exact ih t (i+1) _ h2 (by omega) (by simp only[List.length_cons] at hk;omega) (by rw[set_len];exact hf) (λs hs=>hl s (List.mem_cons_of_mem _ hs))
end Go.Proofs.YtlcmdgpjiendmaaGreat
namespace Go.Proofs.YtlcmdgpjiendmaaGreat
open Go.Bur
set_option linter.unusedSimpArgs false
set_option linter.unusedVariables false
set_option maxRecDepth 100000
end Go.Proofs.YtlcmdgpjiendmaaGreat
