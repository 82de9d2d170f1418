import Derived.Test.YtlcmdgpjiendmaaGreatTreM
namespace Go.Proofs.YtlcmdgpjiendmaaGreat
open Go.Bur
set_option linter.unusedSimpArgs false
set_option linter.unusedVariables false
set_option maxRecDepth 100000
def Chain(R:List Row):List Content→List Group→List Content→Prop
 |f,[],f'=>f'=f
 |f,g::gs,f'=>Grp f g.sheets∧(g.sheets.Pairwise λa b=>a.page<b.page)∧(∃D,Good (withS f g.sheets) D∧rws (withS f g.sheets) D 0=R)∧Chain R (withS f g.sheets) gs f'
theorem chain_app{R:List Row}:∀{gs hs:List Group} {f f' f'':List Content},Chain R f gs f'→Chain R f' hs f''→Chain R f (gs++hs) f''
 |[],_,_,_,_,h1,h2=>by cases h1;exact h2
 |g::gs,_,_,_,_,⟨a,b,c,h1⟩,h2=>⟨a,b,c,chain_app h1 h2⟩
theorem srtS_lt{l:List Sheet}(hd:(l.map (·.page)).Nodup):(srtS l).Pairwise λa b=>a.page<b.page:=by
 have h1:=srtS_sorted l
 have h2:=List.pairwise_map.1 (srtS_nodup hd)
 exact h1.imp₂ (λa b h h'=>by have:a.page≠b.page:=h';omega) h2
theorem grp_srt{f:List Content}{l:List Sheet}(h:Grp f l):Grp f (srtS l):=⟨λs hs=>h.rng s ((srtS_perm l).mem_iff.1 hs),srtS_nodup h.nodup⟩
theorem chain_one{R:List Row}{f:List Content}{l:List Sheet}{D:Nat}(h:Grp f l)(hg:Good (withS f (srtS l)) D)(hr:rws (withS f (srtS l)) D 0=R):Chain R f [⟨srtS l⟩] (withS f (srtS l)):=
 ⟨grp_srt h,srtS_lt h.nodup,⟨D,hg,hr⟩,rfl⟩
theorem On.low{f:List Content}{D d:Nat}{n:Int}{k:Key}(h:On f D d n k):ltK k key0=false:=by
 obtain⟨lo,hi,Q,R1,R2,h1,hw,_⟩:=h
 exact le_le h1.low (within_iff.1 hw).1
def partS(f:List Content)(a b:Int):List Sheet:=[⟨0,⟨2,[],[⟨key0,a⟩,⟨cutS (pg f 0) 2,b⟩]⟩⟩,⟨a,cutA (pg f 0) 2⟩,⟨b,cutB (pg f 0) 2⟩]
theorem part_good{f:List Content}{D:Nat}{a b:Int}{t:List Int}(h:Good f D)(hfull:sizeP (pg f 0)=4)(hfr:frees f=a::b::t):
  Grp f (partS f a b)∧Good (withS f (srtS (partS f a b))) (D+1)∧rws (withS f (srtS (partS f a b))) (D+1) 0=rws f D 0∧pg (withS f (srtS (partS f a b))) 0=⟨2,[],[⟨key0,a⟩,⟨cutS (pg f 0) 2,b⟩]⟩∧
  pg (withS f (srtS (partS f a b))) a=cutA (pg f 0) 2∧pg (withS f (srtS (partS f a b))) b=cutB (pg f 0) 2∧sizeP (cutA (pg f 0) 2)=2∧sizeP (cutB (pg f 0) 2)=2∧(0<a∧a<b∧b<64):=by
 obtain⟨d,rfl⟩:∃d,D=d+1:=⟨D-1,by have:=h.pos;omega⟩
 have hA:=At.root h
 obtain⟨ha0,haf⟩:=hA.free (m:=a) (by rw[hfr];exact List.mem_cons_self ..)
 obtain⟨hb0,hbf⟩:=hA.free (m:=b) (by rw[hfr];exact List.mem_cons_of_mem _ (List.mem_cons_self ..))
 rw[List.nil_append] at haf hbf
 have hsrt:(frees f).Pairwise (· < ·):=by
  unfold frees
  refine List.pairwise_map.2 (List.Pairwise.imp (λ{a b} h=>Int.ofNat_lt.2 h) ((List.pairwise_lt_range' ..).filter _))
 have hab:a<b:=by rw[hfr] at hsrt;exact(List.pairwise_cons.1 hsrt).1 b (List.mem_cons_self ..)
 have hG:Grp f (partS f a b):=by
  refine⟨λs hs=> ?_, ?_⟩
  ·simp only[partS,List.mem_cons,List.not_mem_nil,or_false] at hs
   rcases hs with rfl|rfl|rfl<;>(simp only;omega)
  ·simp only[partS,List.map_cons,List.map_nil,List.nodup_cons,List.mem_cons,List.not_mem_nil,or_false,not_or,List.nodup_nil,and_true,not_false_eq_true]
   omega
 obtain⟨t1,t2⟩:=three h.len hG.rng hG.nodup
 obtain⟨_,_,_,_,_,q1,q2⟩:=con_cut (m:=2) (con_of h.tree).1 (by omega) (by omega)
 generalize hf':withS f (srtS (partS f a b))=f' at t1 t2⊢
 have e1:=t1 _ (List.mem_cons_self ..)
 have e2:=t1 _ (List.mem_cons_of_mem _ (List.mem_cons_self ..))
 have e3:=t1 _ (List.mem_cons_of_mem _ (List.mem_cons_of_mem _ (List.mem_cons_self ..)))
 simp only at e1 e2 e3
 have e4:∀p,p≠0→p≠a→p≠b→pg f' p=pg f p:=λp q1 q2 q3=>t2 p λs hs=>by
  simp only[partS,List.mem_cons,List.not_mem_nil,or_false] at hs
  rcases hs with rfl|rfl|rfl
  ·exact q1.symm
  ·exact q2.symm
  ·exact q3.symm
 obtain⟨g1,g2,g3⟩:=part_step h.tree hfull h.nodup ha0 hb0 (by omega) haf hbf e1 e2 e3 e4
 have hperm:(pgs f' (d+2) 0).Perm (a::b::pgs f (d+1) 0):=g3
 refine⟨hG,⟨by rw[←hf',with_len];exact h.len,λp hp=> ?_,g1,hperm.nodup_iff.2 (List.nodup_cons.2 ⟨λe=> ?_,List.nodup_cons.2 ⟨hbf,h.nodup⟩⟩),λp hp hnp=> ?_⟩,g2,e1,e2,e3,q1,by omega,by omega⟩
 ·by_cases hin:p∈pgs f' (d+2) 0
  ·exact sub_ok' g1 p hin
  ·have hnp':p∉a::b::pgs f (d+1) 0:=λe=>hin (hperm.mem_iff.2 e)
   simp only[List.mem_cons,not_or] at hnp'
   rw[e4 p (λe=>hnp'.2.2 (by rw[e];exact pgs_self)) hnp'.1 hnp'.2.1];exact h.ok p hp
 ·rcases List.mem_cons.1 e with e|e
  ·omega
  ·exact haf e
 ·have hnp':p∉a::b::pgs f (d+1) 0:=λe=>hnp (hperm.mem_iff.2 e)
  simp only[List.mem_cons,not_or] at hnp'
  rw[e4 p (λe=>hnp'.2.2 (by rw[e];exact pgs_self)) hnp'.1 hnp'.2.1]
  exact h.rest p hp hnp'.2.2
theorem rows_many{f:List Content}:∀{d:Nat} {n:Int} {lo:Key} {hi:Option Key},sub f d n lo hi→n≠0→(pgs f d n).length+1≤(rws f d n).length
 |1,n,lo,hi,h,hn=>by
  obtain⟨_,h2,l,h3,h4,h5⟩:=h
  have e:rws f 1 n=l:=by rw[rws,h3];simp
  have e2:pgs f 1 n=[n]:=by rw[pgs,h3];rfl
  have:=h2 hn
  rw[h3] at this
  rw[e,e2];simp[sizeP] at this⊢;omega
 |d+2,n,lo,hi,h,hn=>by
  obtain⟨_,_,l,h3,h4,h5,h6⟩:=h
  have e:rws f (d+2) n=l.flatMap λk=>rws f (d+1) k.page:=by rw[rws,h3];rfl
  have e2:pgs f (d+2) n=n::l.flatMap λk=>pgs f (d+1) k.page:=by rw[pgs,h3]
  have key:∀(t:List Kid),(∀k∈t,k∈l)→(t.flatMap λk=>pgs f (d+1) k.page).length+t.length≤(t.flatMap λk=>rws f (d+1) k.page).length:=by
   intro t
   induction t with
   |nil=>intro _;simp
   |cons k t ih=>
    intro ht
    have hk:=ht k (List.mem_cons_self ..)
    obtain⟨a,b,hs⟩:=kidsOk_all h6 k hk
    have:=rows_many hs (by have:=h4.page k hk;omega)
    have:=ih λx hx=>ht x (List.mem_cons_of_mem _ hx)
    simp only[List.flatMap_cons,List.length_append,List.length_cons];omega
  have:=key l λk hk=>hk
  have:=h4.two
  rw[e,e2];simp only[List.length_cons];omega
theorem good_many{f:List Content}{D:Nat}(h:Good f D):(pgs f D 0).length≤1∨(pgs f D 0).length+1≤(rws f D 0).length:=by
 have ht:=h.tree
 match D,ht with
 |1,ht=>
  obtain⟨_,h2,l,h3,h4,h5⟩:=ht
  left;rw[pgs,h3];simp
 |d+2,ht=>
  right
  obtain⟨_,_,l,h3,h4,h5,h6⟩:=ht
  have e:rws f (d+2) 0=l.flatMap λk=>rws f (d+1) k.page:=by rw[rws,h3];rfl
  have e2:pgs f (d+2) 0=0::l.flatMap λk=>pgs f (d+1) k.page:=by rw[pgs,h3]
  have key:∀(t:List Kid),(∀k∈t,k∈l)→(t.flatMap λk=>pgs f (d+1) k.page).length+t.length≤(t.flatMap λk=>rws f (d+1) k.page).length:=by
   intro t
   induction t with
   |nil=>intro _;simp
   |cons k t ih=>
    intro ht
    have hk:=ht k (List.mem_cons_self ..)
    obtain⟨a,b,hs⟩:=kidsOk_all h6 k hk
    have:=rows_many hs (by have:=h4.page k hk;omega)
    have:=ih λx hx=>ht x (List.mem_cons_of_mem _ hx)
    simp only[List.flatMap_cons,List.length_append,List.length_cons];omega
  have:=key l λk hk=>hk
  have:=h4.two
  rw[e,e2];simp only[List.length_cons];omega
theorem many_rows{f:List Content}{D:Nat}(h:Good f D)(hf:(frees f).length≤1):64≤(rws f D 0).length:=by
 have h1:=count64 h
 have h2:=good_many h
 omega
def stepP(f:List Content)(n:Int)(k:Key)(new:Bool):Option (List Content×Int×List Group):=
 if(new&&fullP (pg f (kidAt (pg f n).kids (kidI (pg f n).kids k)).page))=true then
  match frees f with
  |[]=>none
  |m::_=>some (withS f (srtS (splitS f n (kidI (pg f n).kids k) m)),(kidAt (pg (withS f (srtS (splitS f n (kidI (pg f n).kids k) m))) n).kids (kidI (pg (withS f (srtS (splitS f n (kidI (pg f n).kids k) m))) n).kids k)).page,[⟨srtS (splitS f n (kidI (pg f n).kids k) m)⟩])
 else some (f,(kidAt (pg f n).kids (kidI (pg f n).kids k)).page,[])
theorem fullP_size{f:List Content}{d:Nat}{n:Int}{lo:Key}{hi:Option Key}(h:sub f (d+1) n lo hi):fullP (pg f n)=decide (sizeP (pg f n)=4):=by
 have:(pg f n).kind=1∨(pg f n).kind=2:=by
  cases d with
  |zero=>obtain⟨_,_,l,h3,_⟩:=h;left;rw[h3]
  |succ d=>obtain⟨_,_,l,h3,_⟩:=h;right;rw[h3]
 unfold fullP
 rcases this with h|h<;>simp[h]
def Stp(f:List Content)(D d:Nat)(n:Int)(k:Key)(new:Bool)(f':List Content)(n':Int)(G:List Group):Prop:=
 On f' D d n' k∧(new=true→sizeP (pg f' n')≤3)∧rws f' D 0=rws f D 0∧Chain (rws f D 0) f G f'
theorem stepP_on{f:List Content}{D d:Nat}{n:Int}{k:Key}{new:Bool}(h:On f D (d+2) n k)(hs:new=true→sizeP (pg f n)≤3):
  (new=true∧frees f=[]∧stepP f n k new=none)∨∃f' n' G,stepP f n k new=some (f',n',G)∧Stp f D (d+1) n k new f' n' G∧∃u v,(n'=u∨n'=v)∧∀g∈G,∀s∈g.sheets,s.page=n∨s.page=u∨s.page=v:=by
 obtain⟨l1,x,l2,hp,hI,hi,c1,c2,hd⟩:=h.kids
 have hkx:kidAt (pg f n).kids l1.length=x:=by rw[hp];exact kidAt_mid
 have hik:kidI (pg f n).kids k=l1.length:=by rw[hp];exact hi.symm
 have hd2:=hd
 obtain⟨lx,hx',_,_,_,hx,_⟩:=hd2
 have hfx:=fullP_size hx.tree
 unfold stepP
 simp only[hik,hkx,hfx]
 by_cases hf:(new&&decide (sizeP (pg f x.page)=4))=true
 case neg=>
  rw[if_neg hf]
  refine Or.inr ⟨f,x.page,[],rfl,⟨hd,λe=> ?_,rfl,rfl⟩,x.page,x.page,Or.inl rfl,by simp⟩
  rw[e,Bool.true_and,decide_eq_true_eq] at hf
  have:=(con_of hx.tree).2.1
  omega
 rw[if_pos hf]
 rw[Bool.and_eq_true,decide_eq_true_eq] at hf
 cases hfr:frees f with
 |nil=>exact Or.inl ⟨hf.1,rfl,rfl⟩
 |cons m t=>
  dsimp only
  have h3:(l1++x::l2).length≤3:=by have:=hs hf.1;rw[hp] at this;simpa[sizeP] using this
  obtain⟨g1,g2,g3,g4,g5,g6,g7,g8⟩:=split_on h hp c1 c2 h3 hf.2 (m:=m) (by rw[hfr];exact List.mem_cons_self ..)
  have hch:=chain_one g1 g2.good g3
  generalize hf':withS f (srtS (splitS f n l1.length m))=f' at g2 g3 g4 g5 g6 hch⊢
  have hI':(l1++x::⟨cutS (pg f x.page) 2,m⟩::l2).Pairwise λa b=>ltK a.least b.least=true:=by
   obtain⟨lo,hi',Q,R1,R2,h1,hw,_⟩:=g2
   obtain⟨l,e,hl2,hl4,hK⟩:=inner_of h1.tree
   rw[g4] at e
   injection e with _ _ e
   rw[e];exact(hK.inner h1.low hl2 hl4).1.rise
  have hgs:∀g∈[Group.mk (srtS (splitS f n l1.length m))],∀s∈g.sheets,s.page=n∨s.page=x.page∨s.page=m:=λg hg s hs=>by
   cases List.mem_singleton.1 hg
   have hs':=(srtS_perm _).mem_iff.1 hs
   rw[splitS_eq hp] at hs'
   simp only[List.mem_cons,List.not_mem_nil,or_false] at hs'
   rcases hs' with rfl|rfl|rfl
   ·exact Or.inl rfl
   ·exact Or.inr (Or.inl rfl)
   ·exact Or.inr (Or.inr rfl)
  cases hlt:ltK k (cutS (pg f x.page) 2) with
  |true=>
   have c2':∀y t',(⟨cutS (pg f x.page) 2,m⟩::l2:List Kid)=y::t'→ltK k y.least=true:=λy t' e=>by cases e;exact hlt
   have hk':=kidI_of hI' c1 c2'
   refine Or.inr ⟨f',x.page,_, ?_,⟨g2.down g4 c1 c2',λ_=>by rw[g5];omega,g3,hch⟩,x.page,m,Or.inl rfl,hgs⟩
   rw[g4];simp only;rw[hk',kidAt_mid]
  |false=>
   have e':l1++x::⟨cutS (pg f x.page) 2,m⟩::l2=(l1++[x])++⟨cutS (pg f x.page) 2,m⟩::l2:=by simp
   rw[e'] at hI' g4
   have hk':=kidI_of hI' (λ_=>hlt) c2
   refine Or.inr ⟨f',m,_, ?_,⟨g2.down g4 (λ_=>hlt) c2,λ_=>by rw[g6];omega,g3,hch⟩,x.page,m,Or.inr rfl,hgs⟩
   rw[g4];simp only;rw[hk',kidAt_mid]
def putW(k:Key)(new:Bool):Nat→List Content→Int→Option (List Content×Int×List Group)
 |0,f,n=>some (f,n,[])
 |d+1,f,n=>(stepP f n k new).bind λy=>(putW k new d y.1 y.2.1).map λz=>(z.1,z.2.1,y.2.2++z.2.2)
theorem putW_on{k:Key}{new:Bool}:∀{d D:Nat} {f:List Content} {n:Int},On f D (d+1) n k→(new=true→sizeP (pg f n)≤3)→
  (new=true∧putW k new d f n=none∧64≤(rws f D 0).length)∨∃f' n' G,putW k new d f n=some (f',n',G)∧Stp f D 1 n k new f' n' G∧∃T:List Int,T.length≤2*d∧n'∈n::T∧∀g∈G,∀s∈g.sheets,s.page∈n::T
 |0,D,f,n,h,hs=>Or.inr ⟨f,n,[],rfl,⟨h,hs,rfl,rfl⟩,[],by simp,by simp,by simp⟩
 |d+1,D,f,n,h,hs=>by
  rcases stepP_on h hs with⟨h1,h2,h3⟩|⟨f1,n1,G1,h1,⟨h2,h3,h4,h5⟩,u,v,h6,h7⟩
  ·exact Or.inl ⟨h1,by rw[putW,h3];rfl,by
    have hg:=h.good
    have:=many_rows hg (by rw[h2];simp)
    exact this⟩
  ·rcases putW_on h2 h3 with⟨g1,g2,g3⟩|⟨f2,n2,G2,g1,⟨g2,g3,g4,g5⟩,T,g6,g7,g8⟩
   ·exact Or.inl ⟨g1,by rw[putW,h1];simp[g2],by rw[←h4];exact g3⟩
   ·refine Or.inr ⟨f2,n2,G1++G2,by rw[putW,h1];simp[g1],⟨g2,g3,g4.trans h4,chain_app h5 (h4▸g5)⟩,u::v::T,by simp only[List.length_cons];omega, ?_,λg hg s hs'=> ?_⟩
    ·rcases List.mem_cons.1 g7 with e|e
     ·rw[e];rcases h6 with e|e<;>rw[e]<;>simp
     ·simp[e]
    ·rcases List.mem_append.1 hg with hg|hg
     ·rcases h7 g hg s hs' with e|e|e<;>rw[e]<;>simp
     ·rcases List.mem_cons.1 (g8 g hg s hs') with e|e
      ·rw[e];rcases h6 with e|e<;>rw[e]<;>simp
      ·simp[e]
end Go.Proofs.YtlcmdgpjiendmaaGreat
namespace Go.Proofs.YtlcmdgpjiendmaaGreat
open Go.Bur
set_option linter.unusedSimpArgs false
set_option linter.unusedVariables false
set_option maxRecDepth 100000
def one(n:Int)(l:List Row):List Sheet:=[⟨n,⟨1,l,[]⟩⟩]
theorem leaf_change{f:List Content}{D:Nat}{n:Int}{lo:Key}{hi:Option Key}{Q:List Int}{R1 R2:List Row}{l l':List Row}(h:At f D 1 n lo hi Q R1 R2)(hp:pg f n=⟨1,l,[]⟩)(h1:LeafOk l')(h2:∀r∈l',within r.key lo hi=true)(h3:n≠0→2≤l'.length):
  Grp f (one n l')∧Good (withS f (one n l')) D∧rws (withS f (one n l')) D 0=R1++(l'++R2)∧rws f D 0=R1++(l++R2):=by
 have hn:=sub_page h.tree
 have hG:Grp f (one n l'):=⟨λs hs=>by cases List.mem_singleton.1 hs;exact hn,by simp[one]⟩
 have e1:pg (withS f (one n l')) n=⟨1,l',[]⟩:=with_at h.len hG.rng hG.nodup _ (List.mem_singleton.2 rfl)
 have e2:∀p,p≠n→pg (withS f (one n l')) p=pg f p:=λp hp=>with_other h.len hG.rng λs hs=>by cases List.mem_singleton.1 hs;exact hp.symm
 have hpg:pgs f 1 n=[n]:=by rw[pgs,hp];rfl
 have hpg':pgs (withS f (one n l')) 1 n=[n]:=by rw[pgs,e1];rfl
 have hr:rws f 1 n=l:=by rw[rws,hp];simp
 have hr':rws (withS f (one n l')) 1 n=l':=by rw[rws,e1];simp
 have hnd:=h.nodup
 rw[hpg] at hnd
 have hA:At (withS f (one n l')) D 1 n lo hi Q R1 R2:=h.change (by rw[with_len];exact h.len) (λm hm=>by
   by_cases e:m=n
   ·rw[e,e1];exact(check_iff _).2 (Or.inr (Or.inl ⟨l',rfl,h1⟩))
   ·rw[e2 m e];exact h.ok m hm) (λq hq=>e2 q λe=>(List.nodup_append.1 hnd).2.2 q hq n (List.mem_singleton.2 rfl) e) ⟨hn,λe=>by rw[e1];simpa[sizeP] using h3 e,l',e1,h1,h2⟩ (by rw[hpg'];exact hnd) (λm hm hnm=>by
   rw[hpg'] at hnm
   rw[e2 m λe=>hnm (by rw[e];exact List.mem_append_right _ (List.mem_singleton.2 rfl))]
   exact h.rest m hm (by rw[hpg];exact hnm))
 have g1:=hA.good
 have g2:=h.good
 rw[hr'] at g1
 rw[hr] at g2
 exact⟨hG,g1.1,g1.2,g2.2⟩
def putR(r:Row)(l:List Row):List Row:=insP r (others r.key l)
theorem putR_in{r x:Row}{pre post:List Row}(hx:x.key=r.key)(h:Cut r.key pre post):putR r (pre++x::post)=pre++r::post:=by
 unfold putR;rw[others_in hx h,insP_cut r pre post h]
theorem putR_new{r:Row}{pre post:List Row}(h:Cut r.key pre post):putR r (pre++post)=pre++r::post:=by
 unfold putR;rw[others_cut h,insP_cut r pre post h]
theorem stand{l:List Row}(hs:Srt l)(k:Key):(∃pre x post,l=pre++x::post∧x.key=k∧Cut k pre post∧findK l k=some x)∨∃pre post,l=pre++post∧Cut k pre post∧findK l k=none:=by
 cases ha:at_ l k with
 |some i=>
  obtain⟨pre,x,post,e,_,h3,h4⟩:=idx_split ha
  have hx:x.key=k:=of_decide_eq_true h3
  subst e
  have hc:=(srt_cut hs).1
  rw[hx] at hc
  exact Or.inl ⟨pre,x,post,rfl,hx,hc,by rw[findK_app,findK_none hc.ne1,findK_cons,if_pos hx];rfl⟩
 |none=>
  obtain⟨pre,post,e,hc,_⟩:=place hs ha
  refine Or.inr ⟨pre,post,e,hc,findK_none λx hx=> ?_⟩
  simpa using idx_none ha x hx
theorem findK_whole{l R1 R2:List Row}{k:Key}(h1:∀r∈R1,ltK r.key k=true)(h2:∀r∈R2,ltK k r.key=true):findK (R1++(l++R2)) k=findK l k:=findK_mid h1 h2
theorem On.leaf{f:List Content}{D:Nat}{n:Int}{k:Key}(h:On f D 1 n k):∃l,pg f n=⟨1,l,[]⟩∧LeafOk l∧(n≠0→2≤l.length)∧findK (rws f D 0) k=findK l k:=by
 obtain⟨lo,hi,Q,R1,R2,h,hw,h1,h2⟩:=h
 have hg:=h.good.2
 obtain⟨g1,g2,l,g3,g4,g5⟩:=h.tree
 have hr:rws f 1 n=l:=by rw[rws,g3];simp
 rw[hr] at hg
 exact⟨l,g3,g4,λe=>by have:=g2 e;rw[g3] at this;simpa[sizeP] using this,by rw[hg,findK_whole h1 h2]⟩
theorem putR_len{r:Row}{l:List Row}(hs:Srt l):(putR r l).length=(if findK l r.key=none then l.length+1 else l.length):=by
 rcases stand hs r.key with⟨pre,x,post,rfl,hx,hc,hf⟩|⟨pre,post,rfl,hc,hf⟩
 ·rw[putR_in hx hc,hf,if_neg (by simp)];simp
 ·rw[putR_new hc,hf,if_pos rfl];simp;omega
theorem put_leaf{f:List Content}{D:Nat}{n:Int}{r:Row}(h:On f D 1 n r.key)(hr:okRow r=true)(hs:findK (rws f D 0) r.key=none→sizeP (pg f n)≤3){l:List Row}(hp:pg f n=⟨1,l,[]⟩):
  Grp f (one n (putR r l))∧Good (withS f (one n (putR r l))) D∧rws (withS f (one n (putR r l))) D 0=putR r (rws f D 0)∧LeafOk (putR r l):=by
 obtain⟨l0,g3,g4,g5,g6⟩:=h.leaf
 obtain rfl:l0=l:=by rw[hp] at g3;injection g3 with _ g3;exact g3.symm
 obtain⟨lo,hi,Q,R1,R2,hA,hw,h1,h2⟩:=h
 have hlen:=putR_len (r:=r) g4.srt
 rw[g6] at hs
 obtain⟨_,_,l1,g3',_,g5'⟩:=hA.tree
 obtain rfl:l1=l0:=by rw[hp] at g3';injection g3' with _ g3';exact g3'.symm
 have key:∃pre post,Cut r.key pre post∧putR r l1=pre++r::post∧(∀x∈pre,x∈l1)∧(∀x∈post,x∈l1)∧Srt (pre++post)∧putR r (R1++(l1++R2))=R1++(putR r l1++R2):=by
  have hcw:∀{pre post:List Row},Cut r.key pre post→Cut r.key (R1++pre) (post++R2):=λhc=>⟨λy hy=>by
   rcases List.mem_append.1 hy with hy|hy
   ·exact h1 y hy
   ·exact hc.lo y hy,λy hy=>by
   rcases List.mem_append.1 hy with hy|hy
   ·exact hc.hi y hy
   ·exact h2 y hy⟩
  rcases stand g4.srt r.key with⟨pre,x,post,e,hx,hc,_⟩|⟨pre,post,e,hc,_⟩
  ·refine⟨pre,post,hc,by rw[e,putR_in hx hc],λy hy=>by rw[e];exact List.mem_append_left _ hy,λy hy=>by rw[e];exact List.mem_append_right _ (List.mem_cons_of_mem _ hy),(srt_cut (e▸g4.srt)).2, ?_⟩
   have:=putR_in hx (hcw hc)
   rw[e,putR_in hx hc]
   simpa using this
  ·refine⟨pre,post,hc,by rw[e,putR_new hc],λy hy=>by rw[e];exact List.mem_append_left _ hy,λy hy=>by rw[e];exact List.mem_append_right _ hy,e▸g4.srt, ?_⟩
   have:=putR_new (hcw hc)
   rw[e,putR_new hc]
   simpa using this
 obtain⟨pre,post,hc,e,m1,m2,hsrt,hwhole⟩:=key
 have hmem:∀x∈putR r l1,x=r∨x∈l1:=λx hx=>by
  rw[e] at hx
  rcases List.mem_append.1 hx with hx|hx
  ·exact Or.inr (m1 x hx)
  ·rcases List.mem_cons.1 hx with hx|hx
   ·exact Or.inl hx
   ·exact Or.inr (m2 x hx)
 have hL:LeafOk (putR r l1):=⟨by
   rw[hlen]
   split
   ·rename_i hn
    have:=hs hn
    rw[hp] at this;simp[sizeP] at this;omega
   ·exact g4.len,λx hx=>by
   rcases hmem x hx with rfl|hx
   ·exact hr
   ·exact g4.row x hx,by rw[e];exact cut_srt hsrt hc⟩
 obtain⟨q1,q2,q3,q4⟩:=leaf_change hA hp hL (λx hx=>by
  rcases hmem x hx with rfl|hx
  ·exact hw
  ·exact g5' x hx) (λe=>by rw[hlen];have:=g5 e;split<;>omega)
 exact⟨q1,q2,by rw[q3,q4,hwhole],hL⟩
def wayP(f:List Content)(D:Nat)(k:Key)(new:Bool):Option (List Content×Int×List Group):=
 if(new&&fullP (pg f 0))=true then
  match frees f with
  |a::b::_=>(putW k new D (withS f (srtS (partS f a b))) 0).map λz=>(z.1,z.2.1,⟨srtS (partS f a b)⟩::z.2.2)
  |_=>none
 else putW k new (D-1) f 0
def newB(R:List Row)(k:Key):Bool:=(findK R k).isNone
theorem newB_iff{R:List Row}{k:Key}:newB R k=true↔findK R k=none:=by
 unfold newB;cases findK R k<;>simp
theorem way_on{f:List Content}{D:Nat}{k:Key}{new:Bool}(h:Good f D)(hk:ltK k key0=false):
  (new=true∧wayP f D k new=none∧64≤(rws f D 0).length)∨∃f' n' G D',wayP f D k new=some (f',n',G)∧On f' D' 1 n' k∧(new=true→sizeP (pg f' n')≤3)∧rws f' D' 0=rws f D 0∧Chain (rws f D 0) f G f'∧
   ∃T:List Int,T.length≤2*D∧n'∈0::T∧∀g∈G,∀s∈g.sheets,s.page∈0::T:=by
 have hpos:=h.pos
 obtain⟨d,rfl⟩:∃d,D=d+1:=⟨D-1,by omega⟩
 have hf0:=fullP_size h.tree
 unfold wayP
 rw[hf0]
 by_cases hc:(new&&decide (sizeP (pg f 0)=4))=true
 case neg=>
  rw[if_neg hc,Nat.add_sub_cancel]
  have hs:new=true→sizeP (pg f 0)≤3:=λe=>by
   rw[e,Bool.true_and,decide_eq_true_eq] at hc
   have:=(con_of h.tree).2.1
   omega
  rcases putW_on (On.root h hk) hs with⟨g1,g2,g3⟩|⟨f',n',G,g1,⟨g2,g3,g4,g5⟩,T,g6,g7,g8⟩
  ·exact Or.inl ⟨g1,g2,by omega⟩
  ·exact Or.inr ⟨f',n',G,d+1,g1,g2,g3,g4,g5,T,by omega,g7,g8⟩
 rw[if_pos hc]
 rw[Bool.and_eq_true,decide_eq_true_eq] at hc
 match hfr:frees f with
 |[]=>exact Or.inl ⟨hc.1,rfl,by have:=many_rows h (by rw[hfr];simp);omega⟩
 |[a]=>exact Or.inl ⟨hc.1,rfl,by have:=many_rows h (by rw[hfr];simp);omega⟩
 |a::b::t=>
  dsimp only
  obtain⟨q1,q2,q3,q4,q5,q6,q7,q8,q9⟩:=part_good h hc.2 hfr
  have hch:=chain_one q1 q2 q3
  generalize hf':withS f (srtS (partS f a b))=f1 at q2 q3 q4 q5 q6 hch⊢
  have hstep:stepP f1 0 k new=some (f1,(kidAt (pg f1 0).kids (kidI (pg f1 0).kids k)).page,[])∧((kidAt (pg f1 0).kids (kidI (pg f1 0).kids k)).page=a∨(kidAt (pg f1 0).kids (kidI (pg f1 0).kids k)).page=b):=by
   have hx:(kidAt (pg f1 0).kids (kidI (pg f1 0).kids k)).page=a∨(kidAt (pg f1 0).kids (kidI (pg f1 0).kids k)).page=b:=by
    rw[q4]
    simp only[kidI,List.tail_cons,List.takeWhile_cons,List.takeWhile_nil]
    cases ltK k (cutS (pg f 0) 2)
    ·right;rfl
    ·left;rfl
   refine⟨?_,hx⟩
   unfold stepP
   rw[if_neg]
   have hsz:sizeP (pg f1 (kidAt (pg f1 0).kids (kidI (pg f1 0).kids k)).page)=2:=by
    rcases hx with e|e<;>rw[e]
    ·rw[q5];exact q7
    ·rw[q6];exact q8
   unfold fullP
   rw[hsz];simp
  rcases putW_on (On.root q2 hk) (new:=new) (λ_=>by rw[q4];simp[sizeP]) with⟨g1,g2,g3⟩|⟨f',n',G,g1,⟨g2,g3,g4,g5⟩,_⟩
  ·exact Or.inl ⟨g1,by rw[g2];rfl,by rw[q3] at g3;omega⟩
  ·refine Or.inr ⟨f',n',_,d+2,by rw[g1];rfl,g2,g3,g4.trans q3,chain_app hch (q3▸g5), ?_⟩
   rw[putW,hstep.1] at g1
   simp only[Option.bind_some,Option.map_eq_some_iff] at g1
   obtain⟨z,g1,g1'⟩:=g1
   have hon:On f1 (d+2) (d+1) (kidAt (pg f1 0).kids (kidI (pg f1 0).kids k)).page k:=by
    rcases stepP_on (On.root q2 hk) (new:=new) (λ_=>by rw[q4];simp[sizeP]) with⟨_,_,e⟩|⟨_,_,_,e,st,_⟩
    ·rw[hstep.1] at e;cases e
    ·rw[hstep.1] at e;cases e;exact st.1
   have hsz:new=true→sizeP (pg f1 (kidAt (pg f1 0).kids (kidI (pg f1 0).kids k)).page)≤3:=λ_=>by
    rcases hstep.2 with e|e<;>rw[e]
    ·rw[q5];omega
    ·rw[q6];omega
   rcases putW_on hon hsz with⟨_,e,_⟩|⟨f2,n2,G2,e,_,T,t1,t2,t3⟩
   ·rw[e] at g1;cases g1
   ·rw[e] at g1
    cases g1
    obtain⟨rfl,rfl,rfl⟩:f2=f'∧n2=n'∧G2=G:=by simpa using g1'
    have hk2:∀p,p∈(kidAt (pg f1 0).kids (kidI (pg f1 0).kids k)).page::T→p∈0::a::b::T:=λp hp=>by
     rcases List.mem_cons.1 hp with e|e
     ·rw[e];rcases hstep.2 with e|e<;>rw[e]<;>simp
     ·simp[e]
    refine⟨a::b::T,by simp only[List.length_cons];omega,hk2 _ t2,λg hg s hs=> ?_⟩
    rcases List.mem_cons.1 hg with rfl|hg
    ·have:=(srtS_perm _).mem_iff.1 hs
     simp only[partS,List.mem_cons,List.not_mem_nil,or_false] at this
     rcases this with rfl|rfl|rfl<;>simp
    ·exact hk2 _ (t3 g hg s hs)
end Go.Proofs.YtlcmdgpjiendmaaGreat
namespace Go.Proofs.YtlcmdgpjiendmaaGreat
open Go.Bur
set_option linter.unusedSimpArgs false
set_option linter.unusedVariables false
set_option maxRecDepth 100000
theorem grp3{f:List Content}(hf:f.length=64){n a b:Int}{c1 c2 c3:Content}(hn:0≤n∧n<64)(ha:0≤a∧a<64)(hb:0≤b∧b<64)(h1:a≠n)(h2:b≠n)(h3:a≠b):
  Grp f [⟨n,c1⟩,⟨a,c2⟩,⟨b,c3⟩]∧pg (withS f (srtS [⟨n,c1⟩,⟨a,c2⟩,⟨b,c3⟩])) n=c1∧pg (withS f (srtS [⟨n,c1⟩,⟨a,c2⟩,⟨b,c3⟩])) a=c2∧pg (withS f (srtS [⟨n,c1⟩,⟨a,c2⟩,⟨b,c3⟩])) b=c3∧
  (∀p,p≠n→p≠a→p≠b→pg (withS f (srtS [⟨n,c1⟩,⟨a,c2⟩,⟨b,c3⟩])) p=pg f p)∧(withS f (srtS [⟨n,c1⟩,⟨a,c2⟩,⟨b,c3⟩])).length=64:=by
 have hG:Grp f [⟨n,c1⟩,⟨a,c2⟩,⟨b,c3⟩]:=by
  refine⟨λs hs=> ?_, ?_⟩
  ·simp only[List.mem_cons,List.not_mem_nil,or_false] at hs
   rcases hs with rfl|rfl|rfl
   ·exact hn
   ·exact ha
   ·exact hb
  ·simp only[List.map_cons,List.map_nil,List.nodup_cons,List.mem_cons,List.not_mem_nil,or_false,not_or,List.nodup_nil,and_true,not_false_eq_true]
   exact⟨⟨λe=>h1 e.symm,λe=>h2 e.symm⟩,h3⟩
 obtain⟨t1,t2⟩:=three hf hG.rng hG.nodup
 refine⟨hG,t1 _ (List.mem_cons_self ..),t1 _ (List.mem_cons_of_mem _ (List.mem_cons_self ..)),t1 _ (List.mem_cons_of_mem _ (List.mem_cons_of_mem _ (List.mem_cons_self ..))),λp q1 q2 q3=>t2 p λs hs=> ?_,by rw[with_len];exact hf⟩
 simp only[List.mem_cons,List.not_mem_nil,or_false] at hs
 rcases hs with rfl|rfl|rfl
 ·exact q1.symm
 ·exact q2.symm
 ·exact q3.symm
theorem At.pair{f:List Content}{D d:Nat}{n:Int}{lo:Key}{hi:Option Key}{Q:List Int}{R1 R2:List Row}(h:At f D (d+2) n lo hi Q R1 R2){l1 l2:List Kid}{u v:Kid}(hp:pg f n=⟨2,[],l1++u::v::l2⟩):
  Pair f d n lo hi l1 l2 u v∧u.page∈pgs f (d+2) n∧v.page∈pgs f (d+2) n:=by
 refine⟨mk_pair h.tree hp h.low (List.nodup_append.1 h.nodup).2.1, ?_, ?_⟩<;>(rw[pgs_list (d:=d+1) hp];exact List.mem_cons_of_mem _ (kid_self (by simp)))
theorem kinds_con{f:List Content}{d:Nat}{lo lo':Key}{hi hi':Option Key}{a b:Content}(ha:conS f d lo hi a)(hb:conS f d lo' hi' b):alikeP a b=true:=by
 cases d with
 |zero=>obtain⟨l,rfl,_⟩:=ha;obtain⟨m,rfl,_⟩:=hb;rfl
 |succ d=>obtain⟨l,rfl,_⟩:=ha;obtain⟨m,rfl,_⟩:=hb;rfl
theorem level_on{f:List Content}{D d m:Nat}{n:Int}{k:Key}(h:On f D (d+2) n k){l1 l2:List Kid}{u v:Kid}(hp:pg f n=⟨2,[],l1++u::v::l2⟩){B:Content}(hB:bothC (pg f u.page) (pg f v.page) v.least=B)(h2:2≤m)(h4:m≤4)(h2':m+2≤sizeP B)(h4':sizeP B≤m+4){f':List Content}(hf':withS f (srtS [⟨n,⟨2,[],l1++u::⟨cutS B m,v.page⟩::l2⟩⟩,⟨u.page,cutA B m⟩,⟨v.page,cutB B m⟩])=f'):
  Grp f [⟨n,⟨2,[],l1++u::⟨cutS B m,v.page⟩::l2⟩⟩,⟨u.page,cutA B m⟩,⟨v.page,cutB B m⟩]∧On f' D (d+2) n k∧rws f' D 0=rws f D 0∧pg f' n=⟨2,[],l1++u::⟨cutS B m,v.page⟩::l2⟩∧pg f' u.page=cutA B m∧pg f' v.page=cutB B m:=by
 obtain⟨lo,hi,Q,R1,R2,h,hw,hr1,hr2⟩:=h
 obtain⟨P,hu,hv⟩:=h.pair hp
 have hnd:=(List.nodup_append.1 h.nodup).2.1
 obtain⟨hG,e1,e2,e3,e4,hlen⟩:=grp3 h.len (c1:=⟨2,[],l1++u::⟨cutS B m,v.page⟩::l2⟩) (c2:=cutA B m) (c3:=cutB B m) (sub_page h.tree) (sub_in h.tree _ hu).1 (sub_in h.tree _ hv).1 P.xn P.yn P.xy
 rw[hf'] at e1 e2 e3 e4 hlen
 obtain⟨g1,g2,g3,g4⟩:=level_step h.tree hp h.low hnd hB h2 h4 h2' h4' e1 e2 e3 e4
 have hdj:=(List.nodup_append.1 h.nodup).2.2
 have hperm:(Q++pgs f' (d+2) n).Perm (Q++pgs f (d+2) n):=g3.append_left Q
 have hne:∀p,p∉pgs f (d+2) n→pg f' p=pg f p:=λp hp=>e4 p (λe=>hp (by rw[e];exact pgs_self)) (λe=>hp (by rw[e];exact hu)) (λe=>hp (by rw[e];exact hv))
 have hA:At f' D (d+2) n lo hi Q R1 R2:=h.change hlen (λp hp'=>by
   by_cases hin:p∈pgs f' (d+2) n
   ·exact sub_ok' g1 p hin
   ·rw[hne p λe=>hin (g3.mem_iff.2 e)];exact h.ok p hp') (λq hq=>hne q λe=>hdj q hq q e rfl) g1 (hperm.nodup_iff.2 h.nodup) (λp hp' hnp=>by
   have hnp':p∉Q++pgs f (d+2) n:=λe=>hnp (hperm.mem_iff.2 e)
   rw[hne p λe=>hnp' (List.mem_append_right _ e)]
   exact h.rest p hp' hnp')
 exact⟨hG,⟨lo,hi,Q,R1,R2,hA,hw,hr1,hr2⟩,by rw[hA.good.2,h.good.2,g2],e1,e2,e3⟩
theorem join_on{f:List Content}{D d:Nat}{n:Int}{k:Key}(h:On f D (d+2) n k){l1 l2:List Kid}{u v:Kid}(hp:pg f n=⟨2,[],l1++u::v::l2⟩){B:Content}(hB:bothC (pg f u.page) (pg f v.page) v.least=B)(h3:3≤(l1++u::v::l2).length)(h4:sizeP B≤4){f':List Content}(hf':withS f (srtS [⟨n,⟨2,[],l1++u::l2⟩⟩,⟨u.page,B⟩,⟨v.page,cont0⟩])=f'):
  Grp f [⟨n,⟨2,[],l1++u::l2⟩⟩,⟨u.page,B⟩,⟨v.page,cont0⟩]∧On f' D (d+2) n k∧rws f' D 0=rws f D 0∧pg f' n=⟨2,[],l1++u::l2⟩∧pg f' u.page=B:=by
 obtain⟨lo,hi,Q,R1,R2,h,hw,hr1,hr2⟩:=h
 obtain⟨P,hu,hv⟩:=h.pair hp
 have hnd:=(List.nodup_append.1 h.nodup).2.1
 obtain⟨hG,e1,e2,e3,e4,hlen⟩:=grp3 h.len (c1:=⟨2,[],l1++u::l2⟩) (c2:=B) (c3:=cont0) (sub_page h.tree) (sub_in h.tree _ hu).1 (sub_in h.tree _ hv).1 P.xn P.yn P.xy
 rw[hf'] at e1 e2 e3 e4 hlen
 obtain⟨g1,g2,g3⟩:=join_step h.tree hp h.low hnd hB h3 h4 e1 e2 e4
 have hdj:=(List.nodup_append.1 h.nodup).2.2
 have hperm:(Q++pgs f (d+2) n).Perm (v.page::(Q++pgs f' (d+2) n)):=(g3.append_left Q).trans List.perm_middle
 have hne:∀p,p∉pgs f (d+2) n→pg f' p=pg f p:=λp hp=>e4 p (λe=>hp (by rw[e];exact pgs_self)) (λe=>hp (by rw[e];exact hu)) (λe=>hp (by rw[e];exact hv))
 have hkind:(pg f' v.page).kind=0:=by rw[e3];rfl
 have hA:At f' D (d+2) n lo hi Q R1 R2:=h.change hlen (λp hp'=>by
   by_cases hin:p∈pgs f' (d+2) n
   ·exact sub_ok' g1 p hin
   ·by_cases hv':p=v.page
    ·rw[hv',e3];rfl
    ·rw[hne p λe=>by
      rcases List.mem_cons.1 (g3.mem_iff.1 e) with e|e
      ·exact hv' e
      ·exact hin e]
     exact h.ok p hp') (λq hq=>hne q λe=>hdj q hq q e rfl) g1 (List.nodup_cons.1 (hperm.nodup_iff.1 h.nodup)).2 (λp hp' hnp=>by
   by_cases hv':p=v.page
   ·rw[hv'];exact hkind
   ·have hnp':p∉Q++pgs f (d+2) n:=λe=>by
     rcases List.mem_cons.1 (hperm.mem_iff.1 e) with e|e
     ·exact hv' e
     ·exact hnp e
    rw[hne p λe=>hnp' (List.mem_append_right _ e)]
    exact h.rest p hp' hnp')
 exact⟨hG,⟨lo,hi,Q,R1,R2,hA,hw,hr1,hr2⟩,by rw[hA.good.2,h.good.2,g2],e1,e2⟩
theorem root_good{f:List Content}{d:Nat}(h:Good f (d+2)){u v:Kid}(hp:pg f 0=⟨2,[],[u,v]⟩){B:Content}(hB:bothC (pg f u.page) (pg f v.page) v.least=B)(h4:sizeP B≤4){f':List Content}(hf':withS f (srtS [⟨0,B⟩,⟨u.page,cont0⟩,⟨v.page,cont0⟩])=f'):
  Grp f [⟨0,B⟩,⟨u.page,cont0⟩,⟨v.page,cont0⟩]∧Good f' (d+1)∧rws f' (d+1) 0=rws f (d+2) 0:=by
 obtain⟨P,hu,hv⟩:=(At.root h).pair (l1:=[]) (l2:=[]) hp
 obtain⟨hG,e1,e2,e3,e4,hlen⟩:=grp3 h.len (c1:=B) (c2:=cont0) (c3:=cont0) (sub_page h.tree) (sub_in h.tree _ hu).1 (sub_in h.tree _ hv).1 P.xn P.yn P.xy
 rw[hf'] at e1 e2 e3 e4 hlen
 obtain⟨g1,g2,g3⟩:=root_step h.tree hp h.nodup hB h4 e1 e4
 have hnd:=g3.nodup_iff.1 h.nodup
 have hz:∀p,p=u.page∨p=v.page→pg f' p=cont0:=λp hp=>by rcases hp with rfl|rfl;exact e2;exact e3
 have hne:∀p,p∉pgs f (d+2) 0→pg f' p=pg f p:=λp hp=>e4 p (λe=>hp (by rw[e];exact pgs_self)) (λe=>hp (by rw[e];exact hu)) (λe=>hp (by rw[e];exact hv))
 refine⟨hG,⟨hlen,λp hp'=> ?_,g1,(List.nodup_cons.1 (List.nodup_cons.1 hnd).2).2,λp hp' hnp=> ?_⟩,g2⟩
 ·by_cases hin:p∈pgs f' (d+1) 0
  ·exact sub_ok' g1 p hin
  ·by_cases hv':p=u.page∨p=v.page
   ·rw[hz p hv'];rfl
   ·rw[hne p λe=>by
     rcases List.mem_cons.1 (g3.mem_iff.1 e) with e|e
     ·exact hv' (Or.inl e)
     ·rcases List.mem_cons.1 e with e|e
      ·exact hv' (Or.inr e)
      ·exact hin e]
    exact h.ok p hp'
 ·by_cases hv':p=u.page∨p=v.page
  ·rw[hz p hv'];rfl
  ·have hnp':p∉pgs f (d+2) 0:=λe=>by
    rcases List.mem_cons.1 (g3.mem_iff.1 e) with e|e
    ·exact hv' (Or.inl e)
    ·rcases List.mem_cons.1 e with e|e
     ·exact hv' (Or.inr e)
     ·exact hnp e
   rw[hne p hnp']
   exact h.rest p hp' hnp'
theorem drop_right{α:Type}{a b:List α}{m:Nat}(h:a.length≤m):(a++b).drop m=b.drop (m-a.length):=by
 rw[List.drop_append,List.drop_eq_nil_of_le h,List.nil_append]
theorem lvl_up{f:List Content}{d m:Nat}{lo s:Key}{hi:Option Key}{a b:Content}(ha:conS f d lo (some s) a)(hb:conS f d s hi b)(h1:sizeP a<m)(h2:m<sizeP a+sizeP b):ltK (cutS (bothC a b s) m) s=false:=by
 cases d with
 |zero=>
  obtain⟨la,rfl,a1,a2,a3⟩:=ha
  obtain⟨lb,rfl,b1,b2,b3⟩:=hb
  simp only[sizeP,List.length_nil,Nat.add_zero] at h1 h2
  obtain⟨y,t,e⟩:=drop_some (l:=lb) (m:=m-la.length) (by omega)
  have hs:cutS (bothC ⟨1,la,[]⟩ ⟨1,lb,[]⟩ s) m=y.key:=by simp[cutS,bothC,hd0,stepC,drop_right (show la.length≤m by omega),e]
  rw[hs]
  exact(within_iff.1 (b3 y (List.mem_of_mem_drop (by rw[e];exact List.mem_cons_self ..)))).1
 |succ d=>
  obtain⟨la,rfl,a1⟩:=ha
  obtain⟨lb,rfl,b1⟩:=hb
  simp only[sizeP,List.length_nil,Nat.zero_add] at h1 h2
  obtain⟨z,w,rfl⟩:∃z w,lb=z::w:=by
   cases lb with
   |nil=>simp at h2;omega
   |cons z w=>exact⟨z,w,rfl⟩
  obtain⟨j,hj⟩:∃j,m-la.length=j+1:=⟨m-la.length-1,by omega⟩
  obtain⟨y,t,e⟩:=drop_some (l:=w) (m:=j) (by simp only[List.length_cons] at h2;omega)
  have hs:cutS (bothC ⟨2,[],la⟩ ⟨2,[],z::w⟩ s) m=y.least:=by simp[cutS,bothC,hd0,stepC,drop_right (show la.length≤m by omega),hj,e]
  rw[hs]
  have hy:y∈w:=List.mem_of_mem_drop (by rw[e];exact List.mem_cons_self ..)
  exact lt_asymm ((kids_lt b1.ok λk hk=>by have:=b1.page k hk;omega).1 y hy).1
theorem lvl_dn{f:List Content}{d m:Nat}{lo s:Key}{hi:Option Key}{a b:Content}(ha:conS f d lo (some s) a)(hb:conS f d s hi b)(h0:0<m)(h1:m<sizeP a):ltK (cutS (bothC a b s) m) s=true:=by
 cases d with
 |zero=>
  obtain⟨la,rfl,a1,a2,a3⟩:=ha
  obtain⟨lb,rfl,b1,b2,b3⟩:=hb
  simp only[sizeP,List.length_nil,Nat.add_zero] at h1
  obtain⟨y,t,e⟩:=drop_some h1
  have hs:cutS (bothC ⟨1,la,[]⟩ ⟨1,lb,[]⟩ s) m=y.key:=by simp[cutS,bothC,hd0,stepC,List.drop_append_of_le_length (show m≤la.length by omega),e]
  rw[hs]
  exact(within_iff.1 (a3 y (List.mem_of_mem_drop (by rw[e];exact List.mem_cons_self ..)))).2 s rfl
 |succ d=>
  obtain⟨la,rfl,a1⟩:=ha
  obtain⟨lb,rfl,b1⟩:=hb
  simp only[sizeP,List.length_nil,Nat.zero_add] at h1
  obtain⟨y,t,e⟩:=drop_some h1
  have hs:cutS (bothC ⟨2,[],la⟩ ⟨2,[],lb⟩ s) m=y.least:=by simp[cutS,bothC,stepC,List.drop_append_of_le_length (show m≤la.length by omega),e]
  rw[hs]
  have hy:y∈la.tail:=by
   obtain⟨j,rfl⟩:∃j,m=j+1:=⟨m-1,by omega⟩
   rw[←List.drop_one]
   have e':(la.drop 1).drop j=y::t:=by rw[List.drop_drop,Nat.add_comm];exact e
   exact List.mem_of_mem_drop (by rw[e'];exact List.mem_cons_self ..)
  exact((kids_lt a1.ok λk hk=>by have:=a1.page k hk;omega).1 y hy).2 s rfl
end Go.Proofs.YtlcmdgpjiendmaaGreat
namespace Go.Proofs.YtlcmdgpjiendmaaGreat
open Go.Bur
set_option linter.unusedSimpArgs false
set_option linter.unusedVariables false
set_option maxRecDepth 100000
theorem depth_uniq{f:List Content}:∀{a b:Nat} {n:Int} {lo lo':Key} {hi hi':Option Key},sub f a n lo hi→sub f b n lo' hi'→a=b:=by
 intro a
 induction a with
 |zero=>intro b n lo lo' hi hi' h;exact h.elim
 |succ a ih=>
  intro b n lo lo' hi hi' h g
  cases b with
  |zero=>exact g.elim
  |succ b=>
   cases a with
   |zero=>
    cases b with
    |zero=>rfl
    |succ b=>
     obtain⟨_,_,l,e,_⟩:=h
     obtain⟨_,_,m,e',_⟩:=g
     rw[e] at e';cases e'
   |succ a=>
    cases b with
    |zero=>
     obtain⟨_,_,l,e,_⟩:=h
     obtain⟨_,_,m,e',_⟩:=g
     rw[e] at e';cases e'
    |succ b=>
     obtain⟨l,e,h2,_,h4⟩:=inner_of h
     obtain⟨m,e',_,_,g4⟩:=inner_of g
     rw[e] at e'
     injection e' with _ _ e'
     subst e'
     obtain⟨k,t,el⟩:∃k t,l=k::t:=by
      match l,h2 with
      |k::t,_=>exact⟨k,t,rfl⟩
     have hk:k∈l:=by rw[el];exact List.mem_cons_self ..
     obtain⟨_,_,s1⟩:=kidsOk_all h4.ok k hk
     obtain⟨_,_,s2⟩:=kidsOk_all g4.ok k hk
     have:=ih s1 s2
     omega
theorem On.inner{f:List Content}{D d:Nat}{n:Int}{k:Key}(h:On f D (d+2) n k){l:List Kid}(hp:pg f n=⟨2,[],l⟩):InnerOk l:=by
 obtain⟨lo,hi,Q,R1,R2,h1,hw,_⟩:=h
 obtain⟨l',e,hl2,hl4,hK⟩:=inner_of h1.tree
 rw[hp] at e
 injection e with _ _ e
 rw[e];exact(hK.inner h1.low hl2 hl4).1
theorem On.zero{f:List Content}{D d:Nat}{k:Key}(h:On f D d 0 k):D=d:=by
 have hg:=h.good
 obtain⟨lo,hi,Q,R1,R2,h1,hw,_⟩:=h
 exact depth_uniq hg.tree h1.tree
def nextPg(f:List Content)(n:Int)(k:Key):Int:=(kidAt (pg f n).kids (kidI (pg f n).kids k)).page
def feedAt(l:List Kid)(i:Nat):Nat:=if i+1=l.length then i else i+1
def joinS(f:List Content)(n:Int)(a:Nat):List Sheet:=
 let l:=(pg f n).kids
 [⟨n,⟨2,[],l.take a++l.drop (a+1)⟩⟩,⟨(kidAt l (a-1)).page,bothC (pg f (kidAt l (a-1)).page) (pg f (kidAt l a).page) (kidAt l a).least⟩,⟨(kidAt l a).page,cont0⟩]
def rootS(f:List Content)(n:Int)(a:Nat):List Sheet:=
 let l:=(pg f n).kids
 [⟨0,bothC (pg f (kidAt l (a-1)).page) (pg f (kidAt l a).page) (kidAt l a).least⟩,⟨(kidAt l (a-1)).page,cont0⟩,⟨(kidAt l a).page,cont0⟩]
def levS(f:List Content)(n:Int)(a:Nat):List Sheet:=
 let l:=(pg f n).kids
 let A:=pg f (kidAt l (a-1)).page
 let C:=pg f (kidAt l a).page
 let B:=bothC A C (kidAt l a).least
 [⟨n,⟨2,[],l.take a++⟨cutS B (cutM A C),(kidAt l a).page⟩::l.drop (a+1)⟩⟩,⟨(kidAt l (a-1)).page,cutA B (cutM A C)⟩,⟨(kidAt l a).page,cutB B (cutM A C)⟩]
def sizeB(f:List Content)(n:Int)(a:Nat):Nat:=sizeP (pg f (kidAt (pg f n).kids (a-1)).page)+sizeP (pg f (kidAt (pg f n).kids a).page)
def feedP(f:List Content)(n:Int)(k:Key):List Content×Int×List Group:=
 let l:=(pg f n).kids
 let a:=feedAt l (kidI l k)
 if sizeP (pg f (nextPg f n k))≤2 then
  if sizeB f n a≤4 then
   if n=0∧l.length=2 then(withS f (srtS (rootS f n a)),0,[⟨srtS (rootS f n a)⟩])
   else(withS f (srtS (joinS f n a)),nextPg (withS f (srtS (joinS f n a))) n k,[⟨srtS (joinS f n a)⟩])
  else(withS f (srtS (levS f n a)),nextPg (withS f (srtS (levS f n a))) n k,[⟨srtS (levS f n a)⟩])
 else(f,nextPg f n k,[])
theorem feed_pair{l:List Kid}(h2:2≤l.length){l1 l2:List Kid}{x:Kid}(e:l=l1++x::l2):∃p1 u v p2,l=p1++u::v::p2∧feedAt l l1.length=p1.length+1∧((u=x∧p1=l1∧l2=v::p2)∨(v=x∧l1=p1++[u]∧p2=[]∧l2=[])):=by
 cases l2 with
 |nil=>
  have hne:l1≠[]:=λh=>by subst h;subst e;simp at h2
  refine⟨l1.dropLast,l1.getLast hne,x,[], ?_, ?_,Or.inr ⟨rfl,(List.dropLast_concat_getLast hne).symm,rfl,rfl⟩⟩
  ·rw[e]
   conv=>lhs;rw[←List.dropLast_concat_getLast hne]
   simp
  ·unfold feedAt
   rw[if_pos (by rw[e];simp),List.length_dropLast]
   have:=List.length_pos_iff.2 hne
   omega
 |cons v p2=>
  refine⟨l1,x,v,p2,e, ?_,Or.inl ⟨rfl,rfl,rfl⟩⟩
  unfold feedAt
  rw[if_neg (by rw[e];simp)]
theorem kidAt_u{p1 p2:List Kid}{u v:Kid}:kidAt (p1++u::v::p2) (p1.length+1-1)=u:=by simp[kidAt]
theorem kidAt_v{p1 p2:List Kid}{u v:Kid}:kidAt (p1++u::v::p2) (p1.length+1)=v:=by
 rw[show p1++u::v::p2=(p1++[u])++v::p2 by simp,show p1.length+1=(p1++[u]).length by simp,kidAt_mid]
theorem take_v{p1 p2:List Kid}{u v:Kid}:(p1++u::v::p2).take (p1.length+1)=p1++[u]:=by
 rw[show p1++u::v::p2=(p1++[u])++v::p2 by simp,show p1.length+1=(p1++[u]).length by simp,List.take_left]
theorem drop_v{p1 p2:List Kid}{u v:Kid}:(p1++u::v::p2).drop (p1.length+1+1)=p2:=by
 rw[show p1++u::v::p2=(p1++[u,v])++p2 by simp,show p1.length+1+1=(p1++[u,v]).length by simp,List.drop_left]
theorem feed_on{f:List Content}{D d:Nat}{n:Int}{k:Key}(h:On f D (d+2) n k)(hs:n≠0→3≤sizeP (pg f n)):
  ∃D',On (feedP f n k).1 D' (d+1) (feedP f n k).2.1 k∧((feedP f n k).2.1≠0→3≤sizeP (pg (feedP f n k).1 (feedP f n k).2.1))∧rws (feedP f n k).1 D' 0=rws f D 0∧Chain (rws f D 0) f (feedP f n k).2.2 (feedP f n k).1∧
   ∃u v,((feedP f n k).2.1=u∨(feedP f n k).2.1=v∨(feedP f n k).2.1=n)∧∀g∈(feedP f n k).2.2,∀s∈g.sheets,s.page=n∨s.page=u∨s.page=v:=by
 obtain⟨l1,x,l2,hp,hI,hi,c1,c2,hd⟩:=h.kids
 have hik:kidI (pg f n).kids k=l1.length:=by rw[hp];exact hi.symm
 have hnx:nextPg f n k=x.page:=by unfold nextPg;rw[hik,hp];exact congrArg (·.page) kidAt_mid
 obtain⟨p1,u,v,p2,e,ha,hcase⟩:=feed_pair hI.two rfl
 have hp':pg f n=⟨2,[],p1++u::v::p2⟩:=by rw[←e];exact hp
 have hI':InnerOk (p1++u::v::p2):=e▸hI
 have haf:feedAt (pg f n).kids (kidI (pg f n).kids k)=p1.length+1:=by rw[hik,hp];exact ha
 have hsB:sizeB f n (p1.length+1)=sizeP (pg f u.page)+sizeP (pg f v.page):=by unfold sizeB;rw[hp'];simp only;rw[kidAt_u,kidAt_v]
 have hh:=h
 obtain⟨lo,hiB,Q,R1,R2,hA,hw,hr1,hr2⟩:=hh
 obtain⟨P,hu,hv⟩:=hA.pair hp'
 have hb:=P.both.2.2.2
 have hxs:x=u∨x=v:=by rcases hcase with⟨a,_⟩|⟨a,_⟩;exact Or.inl a.symm;exact Or.inr a.symm
 have hx2:2≤sizeP (pg f x.page):=by rcases hxs with e|e<;>rw[e];exact P.x2;exact P.y2
 have hr:=hI'.rise
 obtain⟨_,rr,rm⟩:=List.pairwise_append.1 hr
 obtain⟨ru,rv⟩:=List.pairwise_cons.1 rr
 obtain⟨rv,_⟩:=List.pairwise_cons.1 rv
 have huv:ltK u.least v.least=true:=ru v (List.mem_cons_self ..)
 have q:=P.x2;have q2:=P.y2;have q3:=P.x4;have q4:=P.y4
 unfold feedP
 simp only[hnx,haf,hsB]
 by_cases hsm:sizeP (pg f x.page)≤2
 case neg=>
  rw[if_neg hsm]
  exact⟨D,hd,λ_=>by simp only;omega,rfl,rfl,x.page,x.page,Or.inl rfl,by simp⟩
 rw[if_pos hsm]
 by_cases hj:sizeP (pg f u.page)+sizeP (pg f v.page)≤4
 ·rw[if_pos hj]
  by_cases hroot:n=0∧(pg f n).kids.length=2
  ·rw[if_pos hroot]
   obtain⟨rfl,hlen⟩:=hroot
   have hD:=h.zero
   subst hD
   have hlen':(p1++u::v::p2).length=2:=by rw[hp'] at hlen;exact hlen
   obtain⟨rfl,rfl⟩:p1=[]∧p2=[]:=by
    simp only[List.length_append,List.length_cons] at hlen'
    exact⟨List.eq_nil_of_length_eq_zero (by omega),List.eq_nil_of_length_eq_zero (by omega)⟩
   have hS:rootS f 0 ([]:List Kid).length.succ=[⟨0,bothC (pg f u.page) (pg f v.page) v.least⟩,⟨u.page,cont0⟩,⟨v.page,cont0⟩]:=by unfold rootS;rw[hp'];rfl
   obtain⟨g1,g2,g3⟩:=root_good h.good hp' rfl (by rw[hb];exact hj) rfl
   rw[show([]:List Kid).length+1=([]:List Kid).length.succ from rfl,hS]
   refine⟨d+1,On.root g2 h.low,λe=>absurd rfl e,g3,chain_one g1 g2 g3,u.page,v.page,Or.inr (Or.inr rfl),λg hg s hs=> ?_⟩
   cases List.mem_singleton.1 hg
   have:=(srtS_perm _).mem_iff.1 hs
   simp only[List.mem_cons,List.not_mem_nil,or_false] at this
   rcases this with rfl|rfl|rfl<;>simp
  ·rw[if_neg hroot]
   have hS:joinS f n (p1.length+1)=[⟨n,⟨2,[],p1++u::p2⟩⟩,⟨u.page,bothC (pg f u.page) (pg f v.page) v.least⟩,⟨v.page,cont0⟩]:=by
    unfold joinS;rw[hp'];simp only;rw[kidAt_u,kidAt_v,take_v,drop_v];simp
   have h3:3≤(p1++u::v::p2).length:=by
    by_cases h0:n=0
    ·have:=hI'.two
     have hne:¬(p1++u::v::p2).length=2:=λe=>hroot ⟨h0,by rw[hp'];exact e⟩
     omega
    ·have:=hs h0;rw[hp'] at this;simpa[sizeP] using this
   obtain⟨g1,g2,g3,g4,g5⟩:=join_on h hp' rfl h3 (by rw[hb];exact hj) rfl
   rw[hS]
   have hch:=chain_one g1 g2.good g3
   generalize hf':withS f (srtS [⟨n,⟨2,[],p1++u::p2⟩⟩,⟨u.page,bothC (pg f u.page) (pg f v.page) v.least⟩,⟨v.page,cont0⟩])=f' at g2 g3 g4 g5 hch⊢
   have c1':p1≠[]→ltK k u.least=false:=λhne=>by
    rcases hcase with⟨a,b,c⟩|⟨a,b,c⟩
    ·rw[a];exact c1 (b▸hne)
    ·have:=c1 (by rw[b];simp)
     rw[←a] at this
     exact le_le (lt_asymm huv) this
   have c2':∀y t,p2=y::t→ltK k y.least=true:=λy t ey=>by
    rcases hcase with⟨a,b,c⟩|⟨a,b,c,_⟩
    ·exact ltK_trans (c2 v p2 c) (rv y (by rw[ey];exact List.mem_cons_self ..))
    ·rw[c] at ey;cases ey
   have hnext:nextPg f' n k=u.page:=by
    unfold nextPg
    rw[g4]
    simp only
    rw[kidI_of (g2.inner g4).rise c1' c2',kidAt_mid]
   rw[hnext]
   refine⟨D,g2.down g4 c1' c2',λ_=>by rw[g5,hb];omega,g3,hch,u.page,v.page,Or.inl rfl,λg hg s hs=> ?_⟩
   cases List.mem_singleton.1 hg
   have:=(srtS_perm _).mem_iff.1 hs
   simp only[List.mem_cons,List.not_mem_nil,or_false] at this
   rcases this with rfl|rfl|rfl<;>simp
 ·rw[if_neg hj]
  generalize hm:cutM (pg f u.page) (pg f v.page)=m
  have hS:levS f n (p1.length+1)=[⟨n,⟨2,[],p1++u::⟨cutS (bothC (pg f u.page) (pg f v.page) v.least) m,v.page⟩::p2⟩⟩,⟨u.page,cutA (bothC (pg f u.page) (pg f v.page) v.least) m⟩,⟨v.page,cutB (bothC (pg f u.page) (pg f v.page) v.least) m⟩]:=by
   unfold levS;rw[hp'];simp only;rw[kidAt_u,kidAt_v,take_v,drop_v,hm];simp
  have hmm:(x=u∧m=3∧sizeP (pg f u.page)=2)∨(x=v∧m+1=sizeP (pg f u.page)∧sizeP (pg f v.page)=2):=by
   unfold cutM at hm
   rcases hxs with e|e
   ·rw[e] at hsm hx2
    left
    rw[if_neg (by omega)] at hm
    exact⟨e,by omega,by omega⟩
   ·rw[e] at hsm hx2
    right
    rw[if_pos (by omega)] at hm
    exact⟨e,by omega,by omega⟩
  obtain⟨g1,g2,g3,g4,g5,g6⟩:=level_on h hp' rfl (m:=m) (by rcases hmm with h|h<;>omega) (by rcases hmm with h|h<;>omega) (by rw[hb];rcases hmm with h|h<;>omega) (by rw[hb];rcases hmm with h|h<;>omega) rfl
  rw[hS]
  have hch:=chain_one g1 g2.good g3
  obtain⟨_,_,_,_,_,d6,d7⟩:=con_cut (m:=m) P.both.1 (by rcases hmm with h|h<;>omega) (by rw[hb];rcases hmm with h|h<;>omega)
  have hup:x=u→ltK (cutS (bothC (pg f u.page) (pg f v.page) v.least) m) v.least=false:=λe=>lvl_up P.cx P.cy (by rcases hmm with h|h;omega;exact absurd (e.symm.trans h.1) (λe=>P.xy (by rw[e]))) (by rcases hmm with h|h<;>omega)
  have hdn:x=v→ltK (cutS (bothC (pg f u.page) (pg f v.page) v.least) m) v.least=true:=λe=>lvl_dn P.cx P.cy (by rcases hmm with h|h<;>omega) (by rcases hmm with h|h;exact absurd (h.1.symm.trans e) (λe=>P.xy (by rw[e]));omega)
  generalize hB:bothC (pg f u.page) (pg f v.page) v.least=B at*
  generalize hf':withS f (srtS [⟨n,⟨2,[],p1++u::⟨cutS B m,v.page⟩::p2⟩⟩,⟨u.page,cutA B m⟩,⟨v.page,cutB B m⟩])=f' at g2 g3 g4 g5 g6 hch⊢
  have hgs:∀g∈[Group.mk (srtS [⟨n,⟨2,[],p1++u::⟨cutS B m,v.page⟩::p2⟩⟩,⟨u.page,cutA B m⟩,⟨v.page,cutB B m⟩])],∀s∈g.sheets,s.page=n∨s.page=u.page∨s.page=v.page:=λg hg s hs=>by
   cases List.mem_singleton.1 hg
   have:=(srtS_perm _).mem_iff.1 hs
   simp only[List.mem_cons,List.not_mem_nil,or_false] at this
   rcases this with rfl|rfl|rfl<;>simp
  rcases hcase with⟨a,b,c⟩|⟨a,b,c,c'⟩
  ·have hxu:x=u:=a.symm
   have c1':p1≠[]→ltK k u.least=false:=λhne=>by rw[a];exact c1 (b▸hne)
   have c2':∀y t,(⟨cutS B m,v.page⟩::p2:List Kid)=y::t→ltK k y.least=true:=λy t ey=>by
    cases ey;exact lt_le (c2 v p2 c) (hup hxu)
   have hnext:nextPg f' n k=u.page:=by
    unfold nextPg
    rw[g4]
    simp only
    rw[kidI_of (g2.inner g4).rise c1' c2',kidAt_mid]
   rw[hnext]
   exact⟨D,g2.down g4 c1' c2',λ_=>by rw[g5,d6];rcases hmm with h|h;omega;exact absurd (hxu.symm.trans h.1) (λe=>P.xy (by rw[e])),g3,hch,u.page,v.page,Or.inl rfl,hgs⟩
  ·have hxv:x=v:=a.symm
   have e':p1++u::⟨cutS B m,v.page⟩::p2=(p1++[u])++⟨cutS B m,v.page⟩::p2:=by simp
   have c1':p1++[u]≠[]→ltK k (Kid.mk (cutS B m) v.page).least=false:=λ_=>by
    have:=c1 (by rw[b];simp)
    rw[hxv] at this
    exact le_le (lt_asymm (hdn hxv)) this
   have c2':∀y t,p2=y::t→ltK k y.least=true:=λy t ey=>by rw[c] at ey;cases ey
   rw[e'] at g4
   have hnext:nextPg f' n k=v.page:=by
    unfold nextPg
    rw[g4]
    simp only
    rw[kidI_of (g2.inner g4).rise c1' c2',kidAt_mid]
   rw[hnext]
   exact⟨D,g2.down (x:=⟨cutS B m,v.page⟩) g4 c1' c2',λ_=>by rw[g6,d7,hb];rcases hmm with h|h;exact absurd (h.1.symm.trans hxv) (λe=>P.xy (by rw[e]));omega,g3,hch,u.page,v.page,Or.inr (Or.inl rfl),hgs⟩
def takeW(k:Key):Nat→List Content→Int→List Content×Int×List Group
 |0,f,n=>(f,n,[])
 |d+1,f,n=>((takeW k d (feedP f n k).1 (feedP f n k).2.1).1,(takeW k d (feedP f n k).1 (feedP f n k).2.1).2.1,(feedP f n k).2.2++(takeW k d (feedP f n k).1 (feedP f n k).2.1).2.2)
theorem takeW_on{k:Key}:∀{d D:Nat} {f:List Content} {n:Int},On f D (d+1) n k→(n≠0→3≤sizeP (pg f n))→
  ∃D',On (takeW k d f n).1 D' 1 (takeW k d f n).2.1 k∧((takeW k d f n).2.1≠0→3≤sizeP (pg (takeW k d f n).1 (takeW k d f n).2.1))∧rws (takeW k d f n).1 D' 0=rws f D 0∧Chain (rws f D 0) f (takeW k d f n).2.2 (takeW k d f n).1∧
   ∃T:List Int,T.length≤2*d∧(takeW k d f n).2.1∈n::T∧∀g∈(takeW k d f n).2.2,∀s∈g.sheets,s.page∈n::T
 |0,D,f,n,h,hs=>⟨D,h,hs,rfl,rfl,[],by simp,by simp[takeW],by simp[takeW]⟩
 |d+1,D,f,n,h,hs=>by
  obtain⟨D1,h2,h3,h4,h5,u,v,h6,h7⟩:=feed_on h hs
  obtain⟨D2,g2,g3,g4,g5,T,g6,g7,g8⟩:=takeW_on h2 h3
  have hk:∀p,p∈(feedP f n k).2.1::T→p∈n::u::v::T:=λp hp=>by
   rcases List.mem_cons.1 hp with e|e
   ·rw[e];rcases h6 with e|e|e<;>rw[e]<;>simp
   ·simp[e]
  refine⟨D2,g2,g3,g4.trans h4,chain_app h5 (h4▸g5),u::v::T,by simp only[List.length_cons];omega,hk _ g7,λg hg s hs'=> ?_⟩
  rcases List.mem_append.1 hg with hg|hg
  ·rcases h7 g hg s hs' with e|e|e<;>rw[e]<;>simp
  ·exact hk _ (g8 g hg s hs')
theorem others_len{l:List Row}(hs:Srt l){k:Key}{x:Row}(hf:findK l k=some x):(others k l).length+1=l.length:=by
 rcases stand hs k with⟨pre,y,post,rfl,hx,hc,_⟩|⟨pre,post,rfl,hc,h⟩
 ·rw[others_in hx hc];simp;omega
 ·rw[hf] at h;cases h
theorem take_leaf{f:List Content}{D:Nat}{n:Int}{k:Key}(h:On f D 1 n k){x:Row}(hf:findK (rws f D 0) k=some x)(hs:n≠0→3≤sizeP (pg f n)){l:List Row}(hp:pg f n=⟨1,l,[]⟩):
  Grp f (one n (others k l))∧Good (withS f (one n (others k l))) D∧rws (withS f (one n (others k l))) D 0=others k (rws f D 0)∧LeafOk (others k l)∧findK l k=some x:=by
 obtain⟨l0,g3,g4,g5,g6⟩:=h.leaf
 obtain rfl:l0=l:=by rw[hp] at g3;injection g3 with _ g3;exact g3.symm
 obtain⟨lo,hi,Q,R1,R2,hA,hw,h1,h2⟩:=h
 rw[g6] at hf
 have hlen:=others_len g4.srt hf
 obtain⟨_,_,l1,g3',_,g5'⟩:=hA.tree
 obtain rfl:l1=l0:=by rw[hp] at g3';injection g3' with _ g3';exact g3'.symm
 have hsub:∀y∈others k l1,y∈l1:=λy hy=>(List.mem_filter.1 hy).1
 have hL:LeafOk (others k l1):=⟨by have:=g4.len;omega,λy hy=>g4.row y (hsub y hy),g4.srt.sublist List.filter_sublist⟩
 obtain⟨q1,q2,q3,q4⟩:=leaf_change hA hp hL (λy hy=>g5' y (hsub y hy)) (λe=>by have:=hs e;rw[hp] at this;simp[sizeP] at this;omega)
 refine⟨q1,q2, ?_,hL,hf⟩
 have o1:others k R1=R1:=List.filter_eq_self.2 λy hy=>by simpa using lt_ne (h1 y hy)
 have o2:others k R2=R2:=List.filter_eq_self.2 λy hy=>by simpa using (lt_ne (h2 y hy)).symm
 rw[q3,q4]
 unfold others at o1 o2⊢
 rw[List.filter_append,List.filter_append,o1,o2]
theorem take_on{f:List Content}{D:Nat}{k:Key}(h:Good f D)(hk:ltK k key0=false):
  ∃D',On (takeW k (D-1) f 0).1 D' 1 (takeW k (D-1) f 0).2.1 k∧((takeW k (D-1) f 0).2.1≠0→3≤sizeP (pg (takeW k (D-1) f 0).1 (takeW k (D-1) f 0).2.1))∧rws (takeW k (D-1) f 0).1 D' 0=rws f D 0∧Chain (rws f D 0) f (takeW k (D-1) f 0).2.2 (takeW k (D-1) f 0).1∧
   ∃T:List Int,T.length≤2*(D-1)∧(takeW k (D-1) f 0).2.1∈0::T∧∀g∈(takeW k (D-1) f 0).2.2,∀s∈g.sheets,s.page∈0::T:=by
 obtain⟨d,rfl⟩:∃d,D=d+1:=⟨D-1,by have:=h.pos;omega⟩
 exact takeW_on (On.root h hk) λe=>absurd rfl e
end Go.Proofs.YtlcmdgpjiendmaaGreat
namespace Go.Proofs.YtlcmdgpjiendmaaGreat
open Go.Bur
set_option linter.unusedSimpArgs false
set_option linter.unusedVariables false
set_option maxRecDepth 100000
def mapI(g:Nat→Kid→List Kid):Nat→List Kid→List Kid
 |_,[]=>[]
 |j,y::t=>g j y++mapI g (j+1) t
theorem mapI_same{g:Nat→Kid→List Kid}:∀{l:List Kid} {j:Nat},(∀i y,j≤i→i<j+l.length→g i y=[y])→mapI g j l=l
 |[],_,_=>rfl
 |y::t,j,h=>by
  rw[mapI,h j y (Nat.le_refl _) (by simp),mapI_same λi z h1 h2=>h i z (by omega) (by simp only[List.length_cons];omega)];rfl
theorem mapI_app{g:Nat→Kid→List Kid}:∀{l m:List Kid} {j:Nat},mapI g j (l++m)=mapI g j l++mapI g (j+l.length) m
 |[],_,_=>rfl
 |y::t,m,j=>by
  rw[List.cons_append,mapI,mapI,mapI_app,List.append_assoc,List.length_cons,show j+1+t.length=j+(t.length+1) by omega]
theorem mapI_mid{g:Nat→Kid→List Kid}{l1 l2:List Kid}{x:Kid}(h:∀i y,i≠l1.length→g i y=[y]):mapI g 0 (l1++x::l2)=l1++(g l1.length x++l2):=by
 rw[mapI_app,mapI_same λi y _ h2=>h i y (by omega),mapI,mapI_same λi y h1 _=>h i y (by omega),Nat.zero_add]
theorem mapI_loop{R:Type}{F:((Nat×List Kid)→Option R)→(Nat×List Kid)→Option R}{T:Type}{G:(T→Option R)→T→Option R}(g:Nat→Kid→List Kid)(hg:∀i y,(g i y).length≤2)(l:List Kid)(mk:Nat→List Kid→T)(fin:List Kid→Option R)
  (hG:∀r i y acc,l[i]? =some y→i<l.length→acc.length≤2*i→G r (mk i acc)=r (mk (i+1) (acc++g i y))) (hE:∀r acc,G r (mk l.length acc)=fin acc):
  ∀m i acc,i≤l.length→l.length-i<m→acc.length≤2*i→loopF G m (mk i acc)=fin (acc++mapI g i (l.drop i)):=by
 intro m
 induction m with
 |zero=>intro i acc _ h;omega
 |succ m ih=>
  intro i acc hi hm ha
  rw[loopF_succ]
  by_cases h:i<l.length
  ·have:=hg i l[i]
   rw[hG _ i _ acc (get_some h) h ha,ih (i+1) _ (by omega) (by omega) (by rw[List.length_append];omega),drop_cons h,mapI,List.append_assoc]
  ·obtain rfl:i=l.length:=by omega
   rw[hE,drop_nil h,mapI,List.append_nil]
theorem eqi{i j:Nat}:((i:Int)==(j:Int))=decide (i=j):=ieq4
theorem radopt_eq(n:Nat)(hn:1003≤n)(c:Content){l1 l2:List Kid}{x:Kid}(hc:c.kids=l1++x::l2)(hl:(l1++x::l2).length≤100)(m:Int)(s:Key):ref11_Adopt n c (l1.length:Int) m s=some ⟨2,[],l1++x::⟨s,m⟩::l2⟩:=by
 show ref11_Adopt_l1 n n ((l1.length:Int),m,((0:Nat):Int),c,s,_,[],())=_
 unfold ref11_Adopt_l1
 refine(mapI_loop (F:=λ_ _=>none) (λi y=>if i=l1.length then [y,⟨s,m⟩] else [y]) (λi y=>by split<;>simp) c.kids (λi acc=>((l1.length:Int),m,(i:Int),c,s,Content.mk 0 [] [],acc,())) (λacc=>some ⟨2,[],acc⟩) (λr i y acc hy hi ha=> ?_) (λr acc=> ?_) n 0 [] (Nat.zero_le _) (by rw[hc];omega) (by simp)).trans ?_
 ·rw[hc] at hi
  simp only[lt_dec (hc▸hi:i<c.kids.length),cond_true,idx_nat,hy,Option.bind_some,app_lt (show acc.length+[y].length≤1000000 by simp;omega) (show 24≤1000 by omega),jn,ref11_Adopt_j2,eqi,wrap_succ (show i<4611686018427387904 by omega)]
  by_cases e:i=l1.length
  ·rw[decide_eq_true e,cond_true,if_pos e,app_lt (by simp;omega) (by decide)]
   simp
  ·rw[decide_eq_false e,cond_false,if_neg e]
 ·simp only[ge_dec (Nat.lt_irrefl _),cond_false];rfl
 ·rw[List.drop_zero,hc,mapI_mid λi y h=>if_neg h,if_pos rfl];simp
theorem rdisown_eq(n:Nat)(hn:1003≤n)(c:Content){l1 l2:List Kid}{x:Kid}(hc:c.kids=l1++x::l2)(hl:(l1++x::l2).length≤100):ref11_Disown n c (l1.length:Int)=some ⟨2,[],l1++l2⟩:=by
 show ref11_Disown_l1 n n ((l1.length:Int),((0:Nat):Int),c,_,[],())=_
 unfold ref11_Disown_l1
 refine(mapI_loop (F:=λ_ _=>none) (λi y=>if i=l1.length then [] else [y]) (λi y=>by split<;>simp) c.kids (λi acc=>((l1.length:Int),(i:Int),c,Content.mk 0 [] [],acc,())) (λacc=>some ⟨2,[],acc⟩) (λr i y acc hy hi ha=> ?_) (λr acc=> ?_) n 0 [] (Nat.zero_le _) (by rw[hc];omega) (by simp)).trans ?_
 ·rw[hc] at hi
  simp only[lt_dec (hc▸hi:i<c.kids.length),cond_true,idx_nat,hy,Option.bind_some,app_lt (show acc.length+[y].length≤1000000 by simp;omega) (show 24≤1000 by omega),jn,ref11_Disown_j2,ineN,wrap_succ (show i<4611686018427387904 by omega)]
  by_cases e:i=l1.length
  ·rw[decide_eq_true e,if_pos e];simp
  ·rw[decide_eq_false e,if_neg e];simp
 ·simp only[ge_dec (Nat.lt_irrefl _),cond_false];rfl
 ·rw[List.drop_zero,hc,mapI_mid λi y h=>if_neg h,if_pos rfl];simp
theorem rstep_eq(n:Nat)(hn:1003≤n)(c:Content){l1 l2:List Kid}{x:Kid}(hc:c.kids=l1++x::l2)(hl:(l1++x::l2).length≤100)(s:Key):ref11_Step n c (l1.length:Int) s=some ⟨2,[],l1++⟨s,x.page⟩::l2⟩:=by
 show ref11_Step_l1 n n ((l1.length:Int),((0:Nat):Int),c,s,_,[],())=_
 unfold ref11_Step_l1
 refine(mapI_loop (F:=λ_ _=>none) (λi y=>if i=l1.length then [⟨s,y.page⟩] else [y]) (λi y=>by split<;>simp) c.kids (λi acc=>((l1.length:Int),(i:Int),c,s,Content.mk 0 [] [],acc,())) (λacc=>some ⟨2,[],acc⟩) (λr i y acc hy hi ha=> ?_) (λr acc=> ?_) n 0 [] (Nat.zero_le _) (by rw[hc];omega) (by simp)).trans ?_
 ·rw[hc] at hi
  simp only[lt_dec (hc▸hi:i<c.kids.length),cond_true,idx_nat,hy,Option.bind_some,jn,ref11_Step_j2,eqi,wrap_succ (show i<4611686018427387904 by omega)]
  by_cases e:i=l1.length
  ·rw[decide_eq_true e,cond_true,if_pos e,app_lt (by simp;omega) (by decide)];rfl
  ·rw[decide_eq_false e,cond_false,if_neg e,app_lt (by simp;omega) (by decide)];rfl
 ·simp only[ge_dec (Nat.lt_irrefl _),cond_false];rfl
 ·rw[List.drop_zero,hc,mapI_mid λi y h=>if_neg h,if_pos rfl];simp
theorem lt_uniq:∀{l m:List Sheet},l.Perm m→(l.Pairwise λa b=>a.page<b.page)→(m.Pairwise λa b=>a.page<b.page)→l=m
 |[],m,h,_,_=>(List.nil_perm.1 h).symm
 |x::l,[],h,_,_=>absurd h.length_eq (by simp)
 |x::l,y::m,h,h1,h2=>by
  obtain⟨a1,a2⟩:=List.pairwise_cons.1 h1
  obtain⟨b1,b2⟩:=List.pairwise_cons.1 h2
  have e:x=y:=by
   rcases List.mem_cons.1 (h.mem_iff.1 (List.mem_cons_self ..):x∈y::m) with e|hx
   ·exact e
   ·rcases List.mem_cons.1 (h.mem_iff.2 (List.mem_cons_self ..):y∈x::l) with e|hy
    ·exact e.symm
    ·have:=b1 x hx;have:=a1 y hy;omega
  subst e
  rw[lt_uniq h.cons_inv a2 b2]
def pickS(l:List Sheet)(j:Nat):List Sheet:=l.filter λs=>decide (s.page=(j:Int))
theorem pick_all {l : List Sheet} (hl : SheetsIn l) (hd : (l.map (·.page)).Nodup) : (List.range' 0 64).flatMap (pickS l) = srtS l := by
  have hf1 : ∀ j, (pickS l j).length ≤ 1 := fun j => by
    match h : pickS l j with
    | [] => simp
    | [_] => simp
    | a :: b :: t =>
      have hs : (pickS l j).Sublist l := List.filter_sublist
      have hn := (hs.map (·.page)).nodup hd
      have ha : a.page = (j : Int) := by have : a ∈ pickS l j := by rw [h]; simp
                                         exact of_decide_eq_true (List.mem_filter.1 this).2
      have hb : b.page = (j : Int) := by have : b ∈ pickS l j := by rw [h]; simp
                                         exact of_decide_eq_true (List.mem_filter.1 this).2
      rw [h] at hn
      simp only [List.map_cons, List.nodup_cons, List.mem_cons, not_or] at hn
      exact absurd (ha.trans hb.symm) hn.1.1
  have hmem : ∀ {j s}, s ∈ pickS l j → s ∈ l ∧ s.page = (j : Int) := fun hs => ⟨(List.mem_filter.1 hs).1, of_decide_eq_true (List.mem_filter.1 hs).2⟩
  have hsorted : ∀ (k i : Nat), ((List.range' i k).flatMap (pickS l)).Pairwise fun a b => a.page < b.page := by
    intro k
    induction k with
    | zero => intro i; simp
    | succ k ih =>
      intro i
      rw [List.range'_succ, List.flatMap_cons]
      refine List.pairwise_append.2 ⟨?_, ih (i + 1), fun a ha b hb => ?_⟩
      · match h : pickS l i, hf1 i with
        | [], _ => simp
        | [_], _ => simp
      · obtain ⟨j, hj, hb⟩ := List.mem_flatMap.1 hb
        rw [List.mem_range'_1] at hj
        have := (hmem ha).2; have := (hmem hb).2; omega
  have hnd : l.Nodup := List.Pairwise.imp (fun h e => h (by rw [e])) (List.pairwise_map.1 hd)
  have hperm : ((List.range' 0 64).flatMap (pickS l)).Perm l := (List.perm_ext_iff_of_nodup ((hsorted 64 0).imp fun h e => by rw [e] at h; omega) hnd).2 fun s => by
    rw [List.mem_flatMap]
    constructor
    · rintro ⟨j, _, hs⟩; exact (hmem hs).1
    · intro hs
      have := hl s hs
      refine ⟨s.page.toNat, by rw [List.mem_range'_1]; omega, List.mem_filter.2 ⟨hs, decide_eq_true (by omega)⟩⟩
  exact lt_uniq (hperm.trans (srtS_perm l).symm) (hsorted 64 0) (srtS_lt hd)
theorem sorted_l2(n:Nat)(r1:(List Sheet)×Int×(List Sheet)×Unit→Option (List Sheet))(l:List Sheet)(hl:l.length≤100000)(j:Nat)(hj:j<64):∀(m:Nat)(t:List Sheet)(i:Nat)(acc:List Sheet),l.drop i=t→i≤l.length→t.length<m→acc.length+t.length≤100000→
  ref13_sorted_l2 n r1 m (l,(j:Int),(i:Int),acc,())=r1 (l,((j+1:Nat):Int),acc++pickS t j,()):=by
 intro m
 induction m with
 |zero=>intro t i acc _ _ h;omega
 |succ m ih=>
  intro t i acc ht hi hk ha
  unfold ref13_sorted_l2
  rw[loopF_succ]
  generalize hr:loopF _ m=r2
  replace hr:ref13_sorted_l2 n r1 m=r2:=hr
  simp only[hr] at ih
  cases t with
  |nil=>
   cases drop_end ht hi
   simp only[ge_dec (Nat.lt_irrefl _),cond_false,wrap_succ (show j<4611686018427387904 by omega)]
   simp[pickS]
  |cons x t=>
   obtain⟨h1,h2,h3⟩:=drop_get ht
   simp only[List.length_cons] at ha hk
   simp only[lt_dec h3,cond_true,idx_nat,h1,Option.bind_some,jn,ref13_sorted_j3,ibeq,wrap_succ (show i<4611686018427387904 by omega)]
   by_cases e:x.page=(j:Int)
   ·rw[decide_eq_true e,cond_true,app_lt (by simp;omega) (by decide)]
    simp only[Option.bind_some]
    rw[ih t (i+1) _ h2 (by omega) (by omega) (by simp;omega)]
    simp[pickS,e]
   ·rw[decide_eq_false e,cond_false,ih t (i+1) _ h2 (by omega) (by omega) (by omega)]
    simp[pickS,e]
theorem rsorted_eq(n:Nat)(hn:1003≤n){l:List Sheet}(hl:SheetsIn l)(hd:(l.map (·.page)).Nodup)(hlen:l.length≤100):ref13_sorted n l=some (srtS l):=by
 have key:∀(m j:Nat)(acc:List Sheet),j≤64→64-j<m→acc.length≤100*j→ref13_sorted_l1 n m (l,(j:Int),acc,())=some (acc++(List.range' j (64-j)).flatMap (pickS l)):=by
  intro m
  induction m with
  |zero=>intro j acc _ h;omega
  |succ m ih=>
   intro j acc hj hm ha
   unfold ref13_sorted_l1
   rw[loopF_succ]
   generalize hr:loopF _ m=r1
   replace hr:ref13_sorted_l1 n m=r1:=hr
   simp only[hr] at ih
   by_cases h:j<64
   ·simp only[show decide ((j:Int)<64)=true from decide_eq_true (by omega),cond_true]
    have hp:(pickS l j).length≤l.length:=List.length_filter_le ..
    refine(sorted_l2 n r1 l (by omega) j h n l 0 acc rfl (Nat.zero_le _) (by omega) (by omega)).trans ?_
    rw[ih (j+1) _ (by omega) (by omega) (by rw[List.length_append];omega),show 64-j=(64-(j+1))+1 by omega,List.range'_succ,List.flatMap_cons,List.append_assoc]
   ·obtain rfl:j=64:=by omega
    simp only[show decide (((64:Nat):Int)<64)=false from rfl,cond_false]
    simp
 have:=key n 0 [] (by omega) (by omega) (by simp)
 rw[List.nil_append,Nat.sub_zero,pick_all hl hd] at this
 exact this
theorem rwith_eq(n:Nat)(hn:1003≤n){f:List Content}(hf:f.length=64){l:List Sheet}(hl:SheetsIn l)(hlen:l.length≤900):ref13_With n ⟨f⟩ l=some ⟨withS f l⟩:=by
 have key:∀(m:Nat)(t:List Sheet)(i:Nat)(g:List Content),l.drop i=t→i≤l.length→t.length<m→g.length=64→ref13_With_l1 n m (l,(i:Int),⟨[]⟩,g,())=some ⟨withS g t⟩:=by
  intro m
  induction m with
  |zero=>intro t i g _ _ h;omega
  |succ m ih=>
   intro t i g ht hi hk hg
   unfold ref13_With_l1
   rw[loopF_succ]
   generalize hr:loopF _ m=r1
   replace hr:ref13_With_l1 n m=r1:=hr
   simp only[hr] at ih
   cases t with
   |nil=>
    cases drop_end ht hi
    simp only[ge_dec (Nat.lt_irrefl _),cond_false];rfl
   |cons x t=>
    obtain⟨h1,h2,h3⟩:=drop_get ht
    have hx:=hl x (List.mem_of_getElem? h1)
    obtain⟨j,hj⟩:∃j:Nat,x.page=(j:Int):=⟨x.page.toNat,by omega⟩
    have hput:put g x.page x.content=some (setP g x.page x.content):=by unfold setP;rw[hj,Int.toNat_natCast];exact put_ok (by omega)
    simp only[lt_dec h3,cond_true,idx_nat,h1,Option.bind_some,show idx g x.page=some (pg g x.page) from idx_pg ⟨hx.1,by omega⟩,hput,wrap_succ (show i<4611686018427387904 by omega)]
    exact ih t (i+1) _ h2 (by omega) (by simp only[List.length_cons] at hk;omega) (by rw[set_len];exact hg)
 unfold ref13_With
 rw[app_lt (by simp;omega) (by decide)]
 simp only[Option.bind_some,List.nil_append]
 exact key n l 0 f rfl (Nat.zero_le _) (by omega) hf
end Go.Proofs.YtlcmdgpjiendmaaGreat
namespace Go.Proofs.YtlcmdgpjiendmaaGreat
open Go.Bur
set_option linter.unusedSimpArgs false
set_option linter.unusedVariables false
set_option maxRecDepth 20000
end Go.Proofs.YtlcmdgpjiendmaaGreat
namespace Go.Proofs.YtlcmdgpjiendmaaGreat
open Go.Bur
set_option linter.unusedSimpArgs false
set_option linter.unusedVariables false
set_option maxRecDepth 100000
theorem On.page{f:List Content}{D d:Nat}{n:Int}{k:Key}(h:On f D d n k):(0≤n∧n<64)∧f.length=64∧idx f n=some (pg f n)∧checkP (pg f n)=true:=by
 obtain⟨lo,hi,Q,R1,R2,h,_⟩:=h
 have hn:=sub_page h.tree
 exact⟨hn,h.len,idx_pg ⟨hn.1,by have:=h.len;omega⟩,h.ok n hn⟩
theorem On.next{f:List Content}{D d:Nat}{n:Int}{k:Key}(h:On f D (d+2) n k):On f D (d+1) (nextPg f n k) k:=by
 obtain⟨l1,x,l2,hp,hI,hi,c1,c2,hd⟩:=h.kids
 have hnx:nextPg f n k=x.page:=by unfold nextPg;rw[hp];simp only;rw[←hi];exact congrArg (·.page) kidAt_mid
 rw[hnx];exact hd
theorem On.kind{f:List Content}{D d:Nat}{n:Int}{k:Key}(h:On f D (d+2) n k):(pg f n).kind=2∧(pg f n).rows=[]∧InnerOk (pg f n).kids∧pg f n=⟨2,[],(pg f n).kids⟩:=by
 obtain⟨l1,x,l2,hp,hI,_⟩:=h.kids
 rw[hp];exact⟨rfl,rfl,hI,rfl⟩
theorem On.kid_idx{f:List Content}{D d:Nat}{n:Int}{k:Key}(h:On f D (d+2) n k):idx (pg f n).kids (kidI (pg f n).kids k:Int)=some (kidAt (pg f n).kids (kidI (pg f n).kids k)):=by
 have:=kidI_lt h.kind.2.2.1 k
 rw[idx_nat,kidAt,get_some this];rfl
theorem On.rkid{f:List Content}{D d:Nat}{n:Int}{k:Key}(h:On f D (d+2) n k)(N:Nat)(hN:1003≤N):ref11_Kid N (pg f n) k=some (kidI (pg f n).kids k:Int):=by
 have h1:=h.kind
 rw[h1.2.2.2];exact rkid_eq N hN h1.2.2.1 k
theorem room_leaf(N:Nat)(hN:1003≤N){f:List Content}{D:Nat}{n:Int}{k:Key}(h:On f D 1 n k)(hs:sizeP (pg f n)≤3):ref13_room N ⟨f⟩ n k=some (true,[]):=by
 obtain⟨hn,hf,hi,hc⟩:=h.page
 obtain⟨l,hp,_⟩:=h.leaf
 have hfull:fullP (pg f n)=false:=by unfold fullP;rw[show decide (sizeP (pg f n)=4)=false from decide_eq_false (by omega),Bool.and_false]
 unfold ref13_room
 rw[show idx (Forest.mk f).pages n=some (pg f n) from hi,rfree_eq N hN hf]
 simp only[Option.bind_some,jn,fullR_eq N _ (fine_check hc) hc,hfull,ieq0]
 rw[show((pg f n).kind !=2)=true from by rw[hp];rfl]
 cases decide (n=0)<;>rfl
theorem room_in(N:Nat)(hN:1003≤N){f:List Content}{D d:Nat}{n:Int}{k:Key}(h:On f D (d+2) n k)(hs:sizeP (pg f n)≤3):ref13_room N ⟨f⟩ n k=
  if fullP (pg f (nextPg f n k))=true then(match frees f with|[]=>some (false,[])|m::_=>some (true,srtS (splitS f n (kidI (pg f n).kids k) m))) else some (true,[]):=by
 obtain⟨hn,hf,hi,hc⟩:=h.page
 obtain⟨h1,h2,h3,h4⟩:=h.kind
 have hfull:fullP (pg f n)=false:=by unfold fullP;rw[show decide (sizeP (pg f n)=4)=false from decide_eq_false (by omega),Bool.and_false]
 obtain⟨hx,_,hxi,hxc⟩:=h.next.page
 have hxp:(kidAt (pg f n).kids (kidI (pg f n).kids k)).page=nextPg f n k:=rfl
 unfold ref13_room
 rw[show idx (Forest.mk f).pages n=some (pg f n) from hi,rfree_eq N hN hf]
 simp only[Option.bind_some,jn,fullR_eq N _ (fine_check hc) hc,hfull,ieq0,h.rkid N hN,h.kid_idx,hxp,show idx (Forest.mk f).pages (nextPg f n k)=some (pg f (nextPg f n k)) from hxi,fullR_eq N _ (fine_check hxc) hxc,len0]
 rw[show((pg f n).kind !=2)=false from by rw[h1];rfl]
 have hgo:∀X:Option (Bool×List Sheet),(bif decide (n=0) then X else X)=X:=λX=>by cases decide (n=0)<;>rfl
 simp only[cond_false]
 rw[hgo]
 by_cases hfu:fullP (pg f (nextPg f n k))=true
 case neg=>
  rw[if_neg hfu]
  rw[Bool.not_eq_true] at hfu
  rw[hfu];rfl
 rw[if_pos hfu,hfu]
 simp only[Bool.not_true,cond_false]
 cases hfr:frees f with
 |nil=>rfl
 |cons m t=>
  obtain⟨l1,x,l2,hp,hI,hii,c1,c2,hd⟩:=h.kids
  have hnx:nextPg f n k=x.page:=by unfold nextPg;rw[hp];simp only;rw[←hii];exact congrArg (·.page) kidAt_mid
  have hik:kidI (pg f n).kids k=l1.length:=by rw[hp];exact hii.symm
  rw[hnx] at hfu hxc⊢
  have hsz:sizeP (pg f x.page)=4:=by unfold fullP at hfu;rw[Bool.and_eq_true] at hfu;exact of_decide_eq_true hfu.2
  obtain⟨g1,_⟩:=split_on h hp c1 c2 (by rw[hp] at hs;simpa[sizeP] using hs) hsz (m:=m) (by rw[hfr];exact List.mem_cons_self ..)
  have hlen:(l1++x::l2).length≤100:=by have:=hI.four;omega
  rw[hik]
  simp only[List.length_cons,decide_eq_false (show ¬t.length+1=0 by omega),cond_false,idx_zero,List.getElem?_cons_zero,Option.bind_some,show idx (Forest.mk f).pages x.page=some (pg f x.page) from by rw[←hnx];exact hxi,show ref11_Cut N (pg f x.page) 2=some (cutA (pg f x.page) 2,cutB (pg f x.page) 2,cutS (pg f x.page) 2) from rcut_eq N hN _ (fine_check hxc) 2,radopt_eq N hN (pg f n) (show(pg f n).kids=l1++x::l2 by rw[hp]) hlen]
  rw[splitS_eq hp] at g1⊢
  rw[rsorted_eq N hN g1.rng g1.nodup (by simp)]
  rfl
theorem part_srt{f:List Content}{a b:Int}(h:0<a∧a<b∧b<64):srtS (partS f a b)=partS f a b:=by
 unfold partS srtS srtS srtS srtS insS insS insS
 simp only
 rw[if_pos (by omega)]
 simp only[insS]
 rw[if_pos (by omega)]
theorem room_root(N:Nat)(hN:1003≤N){f:List Content}{D:Nat}(h:Good f D)(hs:sizeP (pg f 0)=4)(k:Key):ref13_room N ⟨f⟩ 0 k=(match frees f with|a::b::_=>some (true,partS f a b)|_=>some (false,[])):=by
 have hc:=h.ok 0 ⟨by omega,by omega⟩
 have hi:idx f 0=some (pg f 0):=idx_pg ⟨by omega,by have:=h.len;omega⟩
 obtain⟨d,rfl⟩:∃d,D=d+1:=⟨D-1,by have:=h.pos;omega⟩
 have hfull:fullP (pg f 0)=true:=by rw[fullP_size h.tree,decide_eq_true hs]
 unfold ref13_room
 rw[show idx (Forest.mk f).pages 0=some (pg f 0) from hi,rfree_eq N hN h.len]
 simp only[Option.bind_some,jn,fullR_eq N _ (fine_check hc) hc,hfull,show((0:Int)==0)=true from rfl,cond_true]
 match frees f with
 |[]=>rfl
 |[a]=>rfl
 |a::b::t=>
  simp only[List.length_cons,show decide (((t.length+1+1:Nat):Int)<2)=false from decide_eq_false (by omega),cond_false,show ref11_Cut N (pg f 0) 2=some (cutA (pg f 0) 2,cutB (pg f 0) 2,cutS (pg f 0) 2) from rcut_eq N hN _ (fine_check hc) 2,Option.bind_some,idx_zero,List.getElem?_cons_zero,show idx (a::b::t) 1=some b from idx_nat (a::b::t) 1,ref11_Inner]
  rfl
theorem rput11_eq(N:Nat)(hN:1003≤N){l:List Row}(hl:LeafOk l)(r:Row)(hs:findK l r.key=none→l.length≤3):ref11_Put N ⟨1,l,[]⟩ r=some (⟨1,putR r l,[]⟩,0):=by
 have h4:=hl.len
 unfold ref11_Put
 simp only[rfind_eq N hN l (by omega),Option.bind_some,jn,with_eq N hN l (by omega),ref11_Leaf]
 have hat:=at_find (l:=l) (k:=r.key)
 cases ha:at_ l r.key with
 |none=>
  rw[ha] at hat
  have:=hs hat
  simp only[ixI,show decide ((-1:Int)<0)=true from rfl,cond_true,show((l.length:Int)==4)=false from by rw[ibeq,decide_eq_false (by omega)],cond_false]
  rfl
 |some i=>
  have e:decide ((i:Int)<0)=false:=decide_eq_false (by omega)
  simp only[ixI]
  refine(condF' e).trans ?_
  rfl
theorem put_j4(N:Nat)(hN:1003≤N){f:List Content}{D d:Nat}{n:Int}{r:Row}(h:On f D (d+2) n r.key)(j1:Int×Forest×Row×(List Group)×Unit→Option (Int×(List Group)))(j3:Bool×Int×Int×Forest×Row×(List Group)×Unit→Option (Int×(List Group)))(t:Bool)(c:Int)(gs:List Group):
  ref13_Put_j4 N j1 j3 (t,n,c,⟨f⟩,r,gs,())=j3 (t,nextPg f n r.key,c,⟨f⟩,r,gs,()):=by
 obtain⟨hn,hf,hi,hc⟩:=h.page
 unfold ref13_Put_j4
 simp only[show idx (Forest.mk f).pages n=some (pg f n) from hi,Option.bind_some,h.rkid N hN,h.kid_idx]
 rw[show((pg f n).kind==1)=false from by rw[h.kind.1];rfl,cond_false]
 cases t<;>rfl
theorem put_j4_leaf(N:Nat){f:List Content}{D:Nat}{n:Int}{r:Row}(h:On f D 1 n r.key)(j1:Int×Forest×Row×(List Group)×Unit→Option (Int×(List Group)))(j3:Bool×Int×Int×Forest×Row×(List Group)×Unit→Option (Int×(List Group)))(t:Bool)(c:Int)(gs:List Group):
  ref13_Put_j4 N j1 j3 (t,n,c,⟨f⟩,r,gs,())=j1 (n,⟨f⟩,r,gs,()):=by
 obtain⟨hn,hf,hi,hc⟩:=h.page
 obtain⟨l,hp,_⟩:=h.leaf
 unfold ref13_Put_j4
 simp only[show idx (Forest.mk f).pages n=some (pg f n) from hi,Option.bind_some]
 rw[show((pg f n).kind==1)=true from by rw[hp];rfl,cond_true]
def outP(N:Nat)(r:Row)(gs:List Group):Option (List Content×Int×List Group)→Option (Int×List Group)
 |none=>some (6,[])
 |some z=>ref13_Put_j1 N (z.2.1,⟨z.1⟩,r,gs++z.2.2,())
theorem outP_map(N:Nat)(r:Row)(gs G:List Group)(o:Option (List Content×Int×List Group)):outP N r gs (o.map λz=>(z.1,z.2.1,G++z.2.2))=outP N r (gs++G) o:=by
 cases o with
 |none=>rfl
 |some z=>simp only[Option.map_some,outP,List.append_assoc]
theorem rput_go(N:Nat)(hN:1003≤N)(r:Row)(new:Bool):∀(d m:Nat)(c:Nat)(D:Nat)(f:List Content)(n:Int)(gs:List Group),On f D (d+1) n r.key→(new=true→sizeP (pg f n)≤3)→d<m→c+d<40→gs.length+d≤1000→
  ref13_Put_l2 N (ref13_Put_j1 N) m (!new,n,(c:Int),⟨f⟩,r,gs,())=outP N r gs (putW r.key new d f n):=by
 intro d
 induction d with
 |zero=>
  intro m c D f n gs h hs hm hc hg
  obtain⟨m,rfl⟩:∃m',m=m'+1:=⟨m-1,by omega⟩
  unfold ref13_Put_l2
  rw[loopF_succ]
  generalize loopF _ m=r2
  simp only[show decide ((c:Int)<40)=true from decide_eq_true (by omega),cond_true,jn,Bool.not_not]
  cases new with
  |false=>exact(put_j4_leaf N h _ _ _ _ _).trans (by simp[putW,outP])
  |true=>
   rw[room_leaf N hN h (hs rfl)]
   simp only[Option.bind_some,Bool.not_true,cond_false,List.length_nil,show decide (((0:Nat):Int)>0)=false from rfl,ref13_Put_j5,cond_true]
   exact(put_j4_leaf N h _ _ _ _ _).trans (by simp[putW,outP])
 |succ d ih=>
  intro m c D f n gs h hs hm hc hg
  obtain⟨m,rfl⟩:∃m',m=m'+1:=⟨m-1,by omega⟩
  unfold ref13_Put_l2
  rw[loopF_succ]
  generalize hr2:loopF _ m=r2
  replace hr2:ref13_Put_l2 N (ref13_Put_j1 N) m=r2:=hr2
  simp only[show decide ((c:Int)<40)=true from decide_eq_true (by omega),cond_true,jn,Bool.not_not]
  have hstep:∀(f':List Content)(gs':List Group),On f' D (d+2) n r.key→(new=true→sizeP (pg f' (nextPg f' n r.key))≤3)→gs'.length+d≤1000→ref13_Put_j4 N (ref13_Put_j1 N) (ref13_Put_j3 N r2) (!new,n,(c:Int),⟨f'⟩,r,gs',())=outP N r gs' (putW r.key new d f' (nextPg f' n r.key)):=λf' gs' h' hs' hg'=>by
   rw[put_j4 N hN h']
   unfold ref13_Put_j3
   simp only[wrap_succ (show c<4611686018427387904 by omega)]
   rw[←hr2]
   exact ih m (c+1) D f' _ gs' h'.next hs' (by omega) (by omega) hg'
  rcases stepP_on h hs with⟨e1,e2,e3⟩|⟨f',n',G,e1,⟨e2,e3,e4,e5⟩,_⟩
  ·subst e1
   simp only[cond_true]
   rw[room_in N hN h (hs rfl)]
   have hfull:fullP (pg f (nextPg f n r.key))=true:=by
    unfold stepP at e3
    by_cases hf:fullP (pg f (nextPg f n r.key))=true
    ·exact hf
    ·rw[if_neg (by simpa[nextPg] using hf)] at e3;cases e3
   rw[if_pos hfull,e2,putW,e3]
   rfl
  ·rw[putW,e1]
   simp only[Option.bind_some]
   rw[outP_map]
   unfold stepP at e1
   by_cases hb:(new&&fullP (pg f (kidAt (pg f n).kids (kidI (pg f n).kids r.key)).page))=true
   ·rw[if_pos hb] at e1
    rw[Bool.and_eq_true] at hb
    obtain⟨rfl,hb2⟩:=hb
    cases hfr:frees f with
    |nil=>rw[hfr] at e1;cases e1
    |cons mm t=>
     rw[hfr] at e1
     obtain⟨l1,x,l2,hp,hI,hii,c1,c2,hd⟩:=h.kids
     have hnx:nextPg f n r.key=x.page:=by unfold nextPg;rw[hp];simp only;rw[←hii];exact congrArg (·.page) kidAt_mid
     have hik:kidI (pg f n).kids r.key=l1.length:=by rw[hp];exact hii.symm
     have hsz:sizeP (pg f x.page)=4:=by
      rw[show(kidAt (pg f n).kids (kidI (pg f n).kids r.key)).page=x.page from hnx] at hb2
      unfold fullP at hb2;rw[Bool.and_eq_true] at hb2;exact of_decide_eq_true hb2.2
     obtain⟨g1,g2,_⟩:=split_on h hp c1 c2 (by have:=hs rfl;rw[hp] at this;simpa[sizeP] using this) hsz (m:=mm) (by rw[hfr];exact List.mem_cons_self ..)
     rw[←hik] at g1 g2
     have hlen3:(srtS (splitS f n (kidI (pg f n).kids r.key) mm)).length=3:=by rw[(srtS_perm _).length_eq];rfl
     simp only[cond_true]
     rw[room_in N hN h (hs rfl),if_pos (show fullP (pg f (nextPg f n r.key))=true from hb2),hfr]
     simp only[Option.bind_some,Bool.not_true,cond_false,hlen3,show decide (((3:Nat):Int)>0)=true from rfl,cond_true,app_lt (show gs.length+[Group.mk (srtS (splitS f n (kidI (pg f n).kids r.key) mm))].length≤1000000 by simp;omega) (show 24≤1000 by omega),rwith_eq N hN h.page.2.1 (grp_srt g1).rng (show(srtS (splitS f n (kidI (pg f n).kids r.key) mm)).length≤900 by omega),ref13_Put_j5]
     injection e1 with e1
     injection e1 with q1 q2
     injection q2 with q2 q3
     subst q1 q3
     have q2':nextPg (withS f (srtS (splitS f n (kidI (pg f n).kids r.key) mm))) n r.key=n':=q2
     have:=hstep _ (gs++[⟨srtS (splitS f n (kidI (pg f n).kids r.key) mm)⟩]) g2 (λ_=>by rw[q2'];exact e3 rfl) (by simp;omega)
     rw[q2'] at this
     exact this
   ·rw[if_neg hb] at e1
    injection e1 with e1
    injection e1 with q1 q2
    injection q2 with q2 q3
    subst q1 q3
    have q2':nextPg f n r.key=n':=q2
    have hh:=hstep f gs h (λe=>by rw[q2'];exact e3 e) (by omega)
    rw[q2'] at hh
    rw[List.append_nil]
    cases new with
    |false=>exact hh
    |true=>
     simp only[cond_true]
     rw[room_in N hN h (hs rfl),if_neg (by simpa[nextPg] using hb)]
     simp only[Option.bind_some,Bool.not_true,cond_false,List.length_nil,show decide (((0:Nat):Int)>0)=false from rfl,ref13_Put_j5]
     exact hh
end Go.Proofs.YtlcmdgpjiendmaaGreat
namespace Go.Proofs.YtlcmdgpjiendmaaGreat
open Go.Bur
set_option linter.unusedSimpArgs false
set_option linter.unusedVariables false
set_option maxRecDepth 100000
theorem there_iff{R:List Row}{k:Key}:decide (ixI (at_ R k)≥0)= !newB R k:=by
 unfold newB
 rw[at_find]
 cases ha:at_ R k with
 |none=>rfl
 |some i=>
  obtain⟨pre,x,post,e,e2,_⟩:=idx_split ha
  have hx:R[i]? =some x:=by rw[e,←e2];simp
  simp only[ixI,hx,Option.isNone_some,Bool.not_false]
  exact decide_eq_true (Int.natCast_nonneg i)
theorem part_next{f:List Content}{D:Nat}{a b:Int}{t:List Int}{k:Key}{new:Bool}(h:Good f D)(hk:ltK k key0=false)(hfull:sizeP (pg f 0)=4)(hfr:frees f=a::b::t):
  stepP (withS f (srtS (partS f a b))) 0 k new=some (withS f (srtS (partS f a b)),nextPg (withS f (srtS (partS f a b))) 0 k,[])∧sizeP (pg (withS f (srtS (partS f a b))) (nextPg (withS f (srtS (partS f a b))) 0 k))=2:=by
 obtain⟨q1,q2,q3,q4,q5,q6,q7,q8,q9⟩:=part_good h hfull hfr
 generalize withS f (srtS (partS f a b))=f1 at q2 q3 q4 q5 q6⊢
 have hx:nextPg f1 0 k=a∨nextPg f1 0 k=b:=by
  unfold nextPg
  rw[q4]
  simp only[kidI,List.tail_cons,List.takeWhile_cons,List.takeWhile_nil]
  cases ltK k (cutS (pg f 0) 2)
  ·right;rfl
  ·left;rfl
 have hsz:sizeP (pg f1 (nextPg f1 0 k))=2:=by
  rcases hx with e|e<;>rw[e]
  ·rw[q5];exact q7
  ·rw[q6];exact q8
 refine⟨?_,hsz⟩
 unfold stepP
 rw[if_neg]
 ·rfl
 ·rw[show(kidAt (pg f1 0).kids (kidI (pg f1 0).kids k)).page=nextPg f1 0 k from rfl]
  unfold fullP
  rw[hsz];simp
theorem okRow_low{r:Row}(h:okRow r=true)(hi:KeyIn r.key):ltK r.key key0=false:=by
 unfold okRow okTab at h
 simp only[Bool.and_eq_true,decide_eq_true_eq] at h
 rw[ltK_false]
 have:=hi.1
 show ¬(r.key.table<0∨(r.key.table=0∧r.key.id<0))
 omega
theorem rput_way(N:Nat)(hN:2000≤N){f:List Content}{D:Nat}(h:Good f D){r:Row}(hk:ltK r.key key0=false):ref13_Put N ⟨f⟩ r=outP N r [] (wayP f D r.key (newB (rws f D 0) r.key)):=by
 have hrow:=h.rows
 have hpos:=h.pos
 have hdeep:=h.deep
 obtain⟨d,rfl⟩:∃d,D=d+1:=⟨D-1,by omega⟩
 unfold ref13_Put
 rw[rrows_good N hN h]
 simp only[Option.bind_some,rfind_eq N (by omega) _ (show(rws f (d+1) 0).length≤1000 by omega),there_iff,jn]
 generalize newB (rws f (d+1) 0) r.key=new
 have hf0:=fullP_size h.tree
 have h4:=(con_of h.tree).2.1
 unfold wayP
 rw[hf0]
 by_cases hc:(new&&decide (sizeP (pg f 0)=4))=true
 case neg=>
  rw[if_neg hc,Nat.add_sub_cancel]
  exact rput_go N (by omega) r new d N 0 (d+1) f 0 [] (On.root h hk) (λe=>by
   rw[e,Bool.true_and,decide_eq_true_eq] at hc;omega) (by omega) (by omega) (by simp;omega)
 rw[if_pos hc]
 rw[Bool.and_eq_true,decide_eq_true_eq] at hc
 obtain⟨hnew,hsz⟩:=hc
 subst hnew
 obtain⟨N,rfl⟩:∃N',N=N'+1:=⟨N-1,by omega⟩
 unfold ref13_Put_l2
 rw[loopF_succ]
 generalize hr2:loopF _ N=r2
 replace hr2:ref13_Put_l2 (N+1) (ref13_Put_j1 (N+1)) N=r2:=hr2
 simp only[show decide ((0:Int)<40)=true from rfl,cond_true,jn,Bool.not_true,Bool.not_false,room_root (N+1) (by omega) h hsz r.key]
 match hfr:frees f with
 |[]=>rfl
 |[a]=>rfl
 |a::b::t=>
  obtain⟨q1,q2,q3,q4,q5,q6,q7,q8,q9⟩:=part_good h hsz hfr
  have hps:=part_srt (f:=f) q9
  obtain⟨p1,p2⟩:=part_next (new:=true) h hk hsz hfr
  rw[hps] at q2 q4 p1 p2
  simp only[Option.bind_some,Bool.not_true,cond_false,show decide ((((partS f a b).length:Nat):Int)>0)=true from rfl,cond_true,app_lt (show([]:List Group).length+[Group.mk (partS f a b)].length≤1000000 by simp) (show 24≤1000 by omega),rwith_eq (N+1) (by omega) h.len q1.rng (show(partS f a b).length≤900 by simp[partS]),ref13_Put_j5,hps]
  have hon:=On.root q2 hk
  rw[put_j4 (N+1) (by omega) hon]
  unfold ref13_Put_j3
  simp only[show IntKind.wrap .i64 (0+1)=((1:Nat):Int) from by rw[wrap_in (by omega)];rfl]
  rw[←hr2]
  have:=rput_go (N+1) (by omega) r true d N 1 (d+2) _ _ ([]++[⟨partS f a b⟩]) hon.next (λ_=>by rw[p2];omega) (by omega) (by omega) (by simp;omega)
  refine this.trans ?_
  rw[show putW r.key true (d+1) (withS f (partS f a b)) 0=(putW r.key true d (withS f (partS f a b)) (nextPg (withS f (partS f a b)) 0 r.key)) from by
   rw[putW,p1]
   simp only[Option.bind_some,List.nil_append]
   cases putW r.key true d (withS f (partS f a b)) (nextPg (withS f (partS f a b)) 0 r.key)<;>rfl]
  cases putW r.key true d (withS f (partS f a b)) (nextPg (withS f (partS f a b)) 0 r.key)<;>rfl
theorem step_len{f f':List Content}{n n':Int}{k:Key}{new:Bool}{G:List Group}(h:stepP f n k new=some (f',n',G)):G.length≤1:=by
 unfold stepP at h
 split at h
 ·split at h
  ·cases h
  ·injection h with h;injection h with _ h;injection h with _ h;rw[←h];simp
 ·injection h with h;injection h with _ h;injection h with _ h;rw[←h];simp
theorem putW_len{k:Key}{new:Bool}:∀{d:Nat} {f:List Content} {n:Int} {z:List Content×Int×List Group},putW k new d f n=some z→z.2.2.length≤d
 |0,f,n,z,h=>by cases h;simp
 |d+1,f,n,z,h=>by
  rw[putW] at h
  cases hs:stepP f n k new with
  |none=>rw[hs] at h;cases h
  |some y=>
   rw[hs] at h
   simp only[Option.bind_some,Option.map_eq_some_iff] at h
   obtain⟨w,h1,h2⟩:=h
   have:=putW_len h1
   have:=step_len (f':=y.1) (n':=y.2.1) (G:=y.2.2) hs
   rw[←h2];simp only[List.length_append];omega
theorem way_len{f f':List Content}{D:Nat}{n':Int}{k:Key}{new:Bool}{G:List Group}(h:Good f D)(hw:wayP f D k new=some (f',n',G)):G.length≤100:=by
 have hd:=h.deep
 unfold wayP at hw
 split at hw
 ·split at hw
  ·rw[Option.map_eq_some_iff] at hw
   obtain⟨w,h1,h2⟩:=hw
   have:=putW_len h1
   injection h2 with _ h2;injection h2 with _ h2
   rw[←h2];simp only[List.length_cons];omega
  ·cases hw
 ·have:=putW_len hw
  simp only at this;omega
theorem rput_eq(N:Nat)(hN:2000≤N){f:List Content}{D:Nat}(h:Good f D){r:Row}(hr:okRow r=true)(hk:ltK r.key key0=false):
  (newB (rws f D 0) r.key=true∧64≤(rws f D 0).length∧wayP f D r.key (newB (rws f D 0) r.key)=none∧ref13_Put N ⟨f⟩ r=some (6,[]))∨
  ∃f' n' G D' l,wayP f D r.key (newB (rws f D 0) r.key)=some (f',n',G)∧On f' D' 1 n' r.key∧pg f' n'=⟨1,l,[]⟩∧LeafOk l∧(findK l r.key=none→l.length≤3)∧rws f' D' 0=rws f D 0∧Chain (rws f D 0) f G f'∧
   Grp f' (one n' (putR r l))∧Good (withS f' (one n' (putR r l))) D'∧rws (withS f' (one n' (putR r l))) D' 0=putR r (rws f D 0)∧ref13_Put N ⟨f⟩ r=some (0,G++[⟨one n' (putR r l)⟩])∧
   G.length≤100∧∃T:List Int,T.length≤2*D∧n'∈0::T∧∀g∈G,∀s∈g.sheets,s.page∈0::T:=by
 have hw:=rput_way N hN h hk
 rcases way_on (new:=newB (rws f D 0) r.key) h hk with⟨e1,e2,e3⟩|⟨f',n',G,D',e1,e2,e3,e4,e5,T,e6,e7,e8⟩
 ·exact Or.inl ⟨e1,e3,e2,by rw[hw,e2];rfl⟩
 ·obtain⟨l,hp,hl,_,hfk⟩:=e2.leaf
  have hs:findK l r.key=none→l.length≤3:=λe=>by
   rw[e4] at hfk
   have:=e3 (newB_iff.2 (by rw[hfk];exact e))
   rw[hp] at this;simpa[sizeP] using this
  obtain⟨g1,g2,g3,g4⟩:=put_leaf e2 hr (λe=>by rw[hp];simp only[sizeP,List.length_nil];exact hs (by rw[←hfk];exact e)) hp
  have hG:G.length≤100:=way_len h e1
  refine Or.inr ⟨f',n',G,D',l,e1,e2,hp,hl,hs,e4,e5,g1,g2,by rw[g3,e4], ?_,hG,T,e6,e7,e8⟩
  rw[hw,e1]
  unfold outP ref13_Put_j1
  obtain⟨_,_,hi,_⟩:=e2.page
  simp only[show idx (Forest.mk f').pages n'=some (pg f' n') from hi,hp,Option.bind_some,rput11_eq N (by omega) hl r hs,List.nil_append]
  rw[app_lt (by simp;omega) (by decide)];rfl
end Go.Proofs.YtlcmdgpjiendmaaGreat
namespace Go.Proofs.YtlcmdgpjiendmaaGreat
open Go.Bur
set_option linter.unusedSimpArgs false
set_option linter.unusedVariables false
set_option maxRecDepth 100000
theorem KidsR.rise{f:List Content}{d:Nat}{lo:Key}{hi:Option Key}{l:List Kid}(h:KidsR f d lo hi l)(hlo:ltK lo key0=false):l.Pairwise λa b=>ltK a.least b.least=true:=by
 obtain⟨i1,i2⟩:=kids_lt h.ok λk hk=>by have:=h.page k hk;omega
 cases l with
 |nil=>simp
 |cons a t=>exact List.pairwise_cons.2 ⟨λx hx=>by rw[h.head a rfl];exact le_lt hlo (i1 x hx).1,i2⟩
theorem pair_get{α:Type}{r:α→α→Prop}{l:List α}(h:l.Pairwise r){j:Nat}{a b:α}(ha:l[j]? =some a)(hb:l[j+1]? =some b):r a b:=by
 obtain⟨h1,e1⟩:=List.getElem?_eq_some_iff.1 ha
 obtain⟨h2,e2⟩:=List.getElem?_eq_some_iff.1 hb
 rw[←e1,←e2]
 exact List.pairwise_iff_getElem.1 h j (j+1) h1 h2 (by omega)
theorem rises_con{f:List Content}{d:Nat}{lo:Key}{hi:Option Key}{c:Content}(h:conS f d lo hi c)(hlo:ltK lo key0=false):risesC c=true:=by
 unfold risesC
 rw[Bool.and_eq_true,allFrom_iff,allFrom_iff]
 have hprev:∀(l:List Row),Srt l→∀j x,l[j]? =some x→upR l (0+j) x=true:=λl hs j x hx=>by
  rw[Nat.zero_add]
  unfold upR prevK
  cases j with
  |zero=>rfl
  |succ j=>
   have hj:j<l.length:=by have:=(List.getElem?_eq_some_iff.1 hx).1;omega
   simp only[get_some hj,Option.map_some]
   exact pair_get hs (get_some hj) hx
 cases d with
 |zero=>
  obtain⟨l,rfl,h1,h2,h3⟩:=h
  exact⟨hprev l h2,λj x hx=>by simp at hx⟩
 |succ d=>
  obtain⟨l,rfl,h1⟩:=h
  refine⟨λj x hx=>by simp at hx,λj x hx=> ?_⟩
  rw[Nat.zero_add]
  simp only at hx⊢
  have hr:=h1.rise hlo
  have hxl:=(List.getElem?_eq_some_iff.1 hx).1
  unfold upK
  rw[Bool.and_eq_true]
  refine⟨?_, ?_⟩
  ·unfold prevL
   cases j with
   |zero=>rfl
   |succ j=>
    have hj:j<l.length:=by omega
    simp only[get_some hj,Option.map_some]
    exact pair_get hr (get_some hj) hx
  ·rw[Bool.not_eq_true',List.any_eq_false]
   intro y hy
   obtain⟨i,hi,rfl⟩:=List.mem_iff_getElem.1 hy
   rw[List.length_take] at hi
   rw[List.getElem_take,decide_eq_true_eq]
   intro e
   have hn:=List.pairwise_iff_getElem.1 (List.pairwise_map.1 h1.nodup) i j (by omega) hxl (by omega)
   rw[(List.getElem?_eq_some_iff.1 hx).2] at hn
   exact hn e
theorem feed_facts{f:List Content}{D d:Nat}{n:Int}{k:Key}(h:On f D (d+2) n k)(hs:n≠0→3≤sizeP (pg f n))(hsm:sizeP (pg f (nextPg f n k))≤2):
  ∃p1 u v p2,pg f n=⟨2,[],p1++u::v::p2⟩∧InnerOk (p1++u::v::p2)∧feedAt (pg f n).kids (kidI (pg f n).kids k)=p1.length+1∧sizeB f n (p1.length+1)=sizeP (pg f u.page)+sizeP (pg f v.page)∧
   (0<u.page∧u.page<64)∧(0<v.page∧v.page<64)∧checkP (pg f u.page)=true∧checkP (pg f v.page)=true∧alikeP (pg f u.page) (pg f v.page)=true∧sizeP (pg f u.page)≤4∧sizeP (pg f v.page)≤4∧
   rootS f n (p1.length+1)=[⟨0,bothC (pg f u.page) (pg f v.page) v.least⟩,⟨u.page,cont0⟩,⟨v.page,cont0⟩]∧
   joinS f n (p1.length+1)=[⟨n,⟨2,[],p1++u::p2⟩⟩,⟨u.page,bothC (pg f u.page) (pg f v.page) v.least⟩,⟨v.page,cont0⟩]∧
   levS f n (p1.length+1)=[⟨n,⟨2,[],p1++u::⟨cutS (bothC (pg f u.page) (pg f v.page) v.least) (cutM (pg f u.page) (pg f v.page)),v.page⟩::p2⟩⟩,⟨u.page,cutA (bothC (pg f u.page) (pg f v.page) v.least) (cutM (pg f u.page) (pg f v.page))⟩,⟨v.page,cutB (bothC (pg f u.page) (pg f v.page) v.least) (cutM (pg f u.page) (pg f v.page))⟩]∧
   (sizeB f n (p1.length+1)≤4→checkP (bothC (pg f u.page) (pg f v.page) v.least)=true∧sizeP (bothC (pg f u.page) (pg f v.page) v.least)=sizeB f n (p1.length+1)∧(n=0∧(pg f n).kids.length=2→Grp f (rootS f n (p1.length+1))∧Good (withS f (srtS (rootS f n (p1.length+1)))) (d+1))∧(¬(n=0∧(pg f n).kids.length=2)→Grp f (joinS f n (p1.length+1))∧On (withS f (srtS (joinS f n (p1.length+1)))) D (d+2) n k))∧
   (¬sizeB f n (p1.length+1)≤4→sizeP (pg f u.page)≠sizeP (pg f v.page)∧levelQ (pg f u.page) (pg f v.page) v.least=true∧sizeP (bothC (pg f u.page) (pg f v.page) v.least)=sizeB f n (p1.length+1)∧Grp f (levS f n (p1.length+1))∧On (withS f (srtS (levS f n (p1.length+1)))) D (d+2) n k):=by
 obtain⟨l1,x,l2,hp,hI,hi,c1,c2,hd⟩:=h.kids
 have hik:kidI (pg f n).kids k=l1.length:=by rw[hp];exact hi.symm
 have hnx:nextPg f n k=x.page:=by unfold nextPg;rw[hik,hp];exact congrArg (·.page) kidAt_mid
 rw[hnx] at hsm
 obtain⟨p1,u,v,p2,e,ha,hcase⟩:=feed_pair hI.two rfl
 have hp':pg f n=⟨2,[],p1++u::v::p2⟩:=by rw[←e];exact hp
 have hI':InnerOk (p1++u::v::p2):=e▸hI
 have haf:feedAt (pg f n).kids (kidI (pg f n).kids k)=p1.length+1:=by rw[hik,hp];exact ha
 have hsB:sizeB f n (p1.length+1)=sizeP (pg f u.page)+sizeP (pg f v.page):=by unfold sizeB;rw[hp'];simp only;rw[kidAt_u,kidAt_v]
 have hh:=h
 obtain⟨lo,hiB,Q,R1,R2,hA,hw,hr1,hr2⟩:=hh
 obtain⟨P,hu,hv⟩:=hA.pair hp'
 have hb:=P.both.2.2.2
 have hxs:x=u∨x=v:=by rcases hcase with⟨a,_⟩|⟨a,_⟩;exact Or.inl a.symm;exact Or.inr a.symm
 have hx2:2≤sizeP (pg f x.page):=by rcases hxs with e|e<;>rw[e];exact P.x2;exact P.y2
 have q:=P.x2;have q2:=P.y2;have q3:=P.x4;have q4:=P.y4
 have hR:rootS f n (p1.length+1)=[⟨0,bothC (pg f u.page) (pg f v.page) v.least⟩,⟨u.page,cont0⟩,⟨v.page,cont0⟩]:=by unfold rootS;rw[hp'];simp only;rw[kidAt_u,kidAt_v]
 have hJ:joinS f n (p1.length+1)=[⟨n,⟨2,[],p1++u::p2⟩⟩,⟨u.page,bothC (pg f u.page) (pg f v.page) v.least⟩,⟨v.page,cont0⟩]:=by
  unfold joinS;rw[hp'];simp only;rw[kidAt_u,kidAt_v,take_v,drop_v];simp
 have hL:levS f n (p1.length+1)=[⟨n,⟨2,[],p1++u::⟨cutS (bothC (pg f u.page) (pg f v.page) v.least) (cutM (pg f u.page) (pg f v.page)),v.page⟩::p2⟩⟩,⟨u.page,cutA (bothC (pg f u.page) (pg f v.page) v.least) (cutM (pg f u.page) (pg f v.page))⟩,⟨v.page,cutB (bothC (pg f u.page) (pg f v.page) v.least) (cutM (pg f u.page) (pg f v.page))⟩]:=by
  unfold levS;rw[hp'];simp only;rw[kidAt_u,kidAt_v,take_v,drop_v];simp
 have hlow:=loAt_ge (l2:=v::p2) P.kids hA.low
 refine⟨p1,u,v,p2,hp',hI',haf,hsB,P.xp,P.yp,hA.ok _ ⟨by have:=P.xp;omega,P.xp.2⟩,hA.ok _ ⟨by have:=P.yp;omega,P.yp.2⟩,kinds_con P.cx P.cy,q3,q4,hR,hJ,hL,λhj=> ?_,λhj=> ?_⟩
 ·rw[hsB] at hj⊢
  have hroot:n=0∧(pg f n).kids.length=2→Grp f (rootS f n (p1.length+1))∧Good (withS f (srtS (rootS f n (p1.length+1)))) (d+1)∧checkP (bothC (pg f u.page) (pg f v.page) v.least)=true:=by
   rintro⟨rfl,hlen⟩
   have hD:=h.zero
   subst hD
   have hlen':(p1++u::v::p2).length=2:=by rw[hp'] at hlen;exact hlen
   obtain⟨rfl,rfl⟩:p1=[]∧p2=[]:=by
    simp only[List.length_append,List.length_cons] at hlen'
    exact⟨List.eq_nil_of_length_eq_zero (by omega),List.eq_nil_of_length_eq_zero (by omega)⟩
   rw[hR]
   obtain⟨g1,g2,g3⟩:=root_good h.good hp' rfl (by rw[hb];exact hj) rfl
   refine⟨g1,g2, ?_⟩
   have h0:=(grp3 hA.len (c1:=bothC (pg f u.page) (pg f v.page) v.least) (c2:=cont0) (c3:=cont0) (sub_page hA.tree) (sub_in hA.tree _ hu).1 (sub_in hA.tree _ hv).1 P.xn P.yn P.xy).2.1
   rw[←h0];exact g2.ok 0 ⟨by omega,by omega⟩
  have hjoin:¬(n=0∧(pg f n).kids.length=2)→Grp f (joinS f n (p1.length+1))∧On (withS f (srtS (joinS f n (p1.length+1)))) D (d+2) n k∧checkP (bothC (pg f u.page) (pg f v.page) v.least)=true:=λhroot=>by
   have h3:3≤(p1++u::v::p2).length:=by
    by_cases h0:n=0
    ·have:=hI'.two
     have hne:¬(p1++u::v::p2).length=2:=λe=>hroot ⟨h0,by rw[hp'];exact e⟩
     omega
    ·have:=hs h0;rw[hp'] at this;simpa[sizeP] using this
   rw[hJ]
   obtain⟨g1,g2,g3,g4,g5⟩:=join_on h hp' rfl h3 (by rw[hb];exact hj) rfl
   refine⟨g1,g2, ?_⟩
   rw[←g5];exact g2.good.ok _ ⟨by have:=P.xp;omega,P.xp.2⟩
  refine⟨?_,hb,λhr=>⟨(hroot hr).1,(hroot hr).2.1⟩,λhr=>⟨(hjoin hr).1,(hjoin hr).2.1⟩⟩
  by_cases hr:n=0∧(pg f n).kids.length=2
  ·exact(hroot hr).2.2
  ·exact(hjoin hr).2.2
 ·rw[hsB] at hj⊢
  have hmm:(cutM (pg f u.page) (pg f v.page)=3∧sizeP (pg f u.page)=2)∨(cutM (pg f u.page) (pg f v.page)+1=sizeP (pg f u.page)∧sizeP (pg f v.page)=2):=by
   unfold cutM
   rcases hxs with e|e
   ·rw[e] at hsm hx2
    left
    rw[if_neg (by omega)];omega
   ·rw[e] at hsm hx2
    right
    rw[if_pos (by omega)];omega
  obtain⟨g1,g2,g3,g4,g5,g6⟩:=level_on h hp' rfl (m:=cutM (pg f u.page) (pg f v.page)) (by rcases hmm with h|h<;>omega) (by rcases hmm with h|h<;>omega) (by rw[hb];rcases hmm with h|h<;>omega) (by rw[hb];rcases hmm with h|h<;>omega) rfl
  obtain⟨_,_,_,_,_,d6,d7⟩:=con_cut (m:=cutM (pg f u.page) (pg f v.page)) P.both.1 (by rcases hmm with h|h<;>omega) (by rw[hb];rcases hmm with h|h<;>omega)
  refine⟨by rcases hmm with h|h<;>omega, ?_,hb,by rw[hL];exact g1,by rw[hL];exact g2⟩
  have k1:=(congrArg checkP g5).symm.trans (g2.good.ok _ ⟨by have:=P.xp;omega,P.xp.2⟩)
  have k2:=(congrArg checkP g6).symm.trans (g2.good.ok _ ⟨by have:=P.yp;omega,P.yp.2⟩)
  unfold levelQ
  rw[rises_con P.both.1 hlow,k1,k2,d7,hb,decide_eq_false (by rcases hmm with h|h<;>omega)];rfl
end Go.Proofs.YtlcmdgpjiendmaaGreat
