import Derived.Test.YtlcmdgpjiendmaaGreatTreQ
namespace Go.Proofs.YtlcmdgpjiendmaaGreat
open Go.Bur
set_option linter.unusedSimpArgs false
set_option linter.unusedVariables false
set_option maxRecDepth 100000
def Ha(g:Nat->Kid->List Kid):Nat->List Kid->List Kid
 |_,[]=>[]
 |j,y::t=>g j y++Ha g (j+1) t
theorem Hb{g:Nat->Kid->List Kid}:∀{l:List Kid} {j:Nat},(∀i y,j<=i->i<j+l.length->g i y=[y])->Ha g j l=l
 |[],_,_=>rfl
 |y::t,j,h=>by
  rw[Ha,h j y (Nat.le_refl _) (by simp),Hb λi z h1 h2=>h i z (by omega) (by simp only[List.length_cons];omega)];rfl
theorem QO{g:Nat->Kid->List Kid}:∀{l m:List Kid} {j:Nat},Ha g j (l++m)=Ha g j l++Ha g (j+l.length) m
 |[],_,_=>rfl
 |y::t,m,j=>by
  rw[List.cons_append,Ha,Ha,QO,List.append_assoc,List.length_cons,show j+1+t.length=j+(t.length+1) by omega]
theorem Kh{g:Nat->Kid->List Kid}{l1 l2:List Kid}{x:Kid}(h:∀i y,i≠l1.length->g i y=[y]):Ha g 0 (l1++x::l2)=l1++(g l1.length x++l2):=by
 rw[QO,Hb λi y _ h2=>h i y (by omega),Ha,Hb λi y h1 _=>h i y (by omega),Nat.zero_add]
theorem Hc{R:Type}{F:((Nat×List Kid)->Option R)->(Nat×List Kid)->Option R}{T:Type}{G:(T->Option R)->T->Option R}(g:Nat->Kid->List Kid)(hg:∀i y,(g i y).length<=2)(l:List Kid)(mk:Nat->List Kid->T)(fin:List Kid->Option R)
  (hG:∀r i y acc,l[i]? =some y->i<l.length->acc.length<=2*i->G r (mk i acc)=r (mk (i+1) (acc++g i y))) (hE:∀r acc,G r (mk l.length acc)=fin acc):
  ∀m i acc,i<=l.length->l.length-i<m->acc.length<=2*i->aW G m (mk i acc)=fin (acc++Ha g i (l.drop i)):=by
 intro m
 induction m with
 |zero=>intro i acc _ h;omega
 |succ m ih=>
  intro i acc hi hm ha
  rw[aM]
  by_cases h:i<l.length
  ·have:=hg i l[i]
   rw[hG _ i _ acc (get_some h) h ha,ih (i+1) _ (by omega) (by omega) (by rw[List.length_append];omega),drop_cons h,Ha,List.append_assoc]
  ·obtain rfl:i=l.length:=by omega
   rw[hE,drop_nil h,Ha,List.append_nil]
theorem eqi{i j:Nat}:((i:Int)==(j:Int))=decide (i=j):=NJ
theorem Uz(n:Nat)(hn:1003<=n)(c:aA){l1 l2:List Kid}{x:Kid}(hc:c.kids=l1++x::l2)(hl:(l1++x::l2).length<=100)(m:Int)(s:Key):Ca n c (l1.length:Int) m s=some ⟨2,[],l1++x::⟨s,m⟩::l2⟩:=by
 show wA n n ((l1.length:Int),m,((0:Nat):Int),c,s,_,[],())=_
 unfold wA
 refine(Hc (F:=λ_ _=>none) (λi y=>if i=l1.length then [y,⟨s,m⟩] else [y]) (λi y=>by split<;>simp) c.kids (λi acc=>((l1.length:Int),m,(i:Int),c,s,aA.mk 0 [] [],acc,())) (λacc=>some ⟨2,[],acc⟩) (λr i y acc hy hi ha=> ?_) (λr acc=> ?_) n 0 [] (Nat.zero_le _) (by rw[hc];omega) (by simp)).trans ?_
 ·rw[hc] at hi
  simp only[bH (hc▸hi:i<c.kids.length),cond_true,aR,hy,Option.bind_some,cE (show acc.length+[y].length<=1000000 by simp;omega) (show 24<=1000 by omega),jn,B9,eqi,aJ (show i<4611686018427387904 by omega)]
  by_cases e:i=l1.length
  ·rw[decide_eq_true e,cond_true,if_pos e,cE (by simp;omega) (by decide)]
   simp
  ·rw[decide_eq_false e,cond_false,if_neg e]
 ·simp only[bI (Nat.lt_irrefl _),cond_false];rfl
 ·rw[List.drop_zero,hc,Kh λi y h=>if_neg h,if_pos rfl];simp
theorem Sb(n:Nat)(hn:1003<=n)(c:aA){l1 l2:List Kid}{x:Kid}(hc:c.kids=l1++x::l2)(hl:(l1++x::l2).length<=100):AF n c (l1.length:Int)=some ⟨2,[],l1++l2⟩:=by
 show tK n n ((l1.length:Int),((0:Nat):Int),c,_,[],())=_
 unfold tK
 refine(Hc (F:=λ_ _=>none) (λi y=>if i=l1.length then [] else [y]) (λi y=>by split<;>simp) c.kids (λi acc=>((l1.length:Int),(i:Int),c,aA.mk 0 [] [],acc,())) (λacc=>some ⟨2,[],acc⟩) (λr i y acc hy hi ha=> ?_) (λr acc=> ?_) n 0 [] (Nat.zero_le _) (by rw[hc];omega) (by simp)).trans ?_
 ·rw[hc] at hi
  simp only[bH (hc▸hi:i<c.kids.length),cond_true,aR,hy,Option.bind_some,cE (show acc.length+[y].length<=1000000 by simp;omega) (show 24<=1000 by omega),jn,Bj,abq,aJ (show i<4611686018427387904 by omega)]
  by_cases e:i=l1.length
  ·rw[decide_eq_true e,if_pos e];simp
  ·rw[decide_eq_false e,if_neg e];simp
 ·simp only[bI (Nat.lt_irrefl _),cond_false];rfl
 ·rw[List.drop_zero,hc,Kh λi y h=>if_neg h,if_pos rfl];simp
theorem WR(n:Nat)(hn:1003<=n)(c:aA){l1 l2:List Kid}{x:Kid}(hc:c.kids=l1++x::l2)(hl:(l1++x::l2).length<=100)(s:Key):EC n c (l1.length:Int) s=some ⟨2,[],l1++⟨s,x.page⟩::l2⟩:=by
 show yI n n ((l1.length:Int),((0:Nat):Int),c,s,_,[],())=_
 unfold yI
 refine(Hc (F:=λ_ _=>none) (λi y=>if i=l1.length then [⟨s,y.page⟩] else [y]) (λi y=>by split<;>simp) c.kids (λi acc=>((l1.length:Int),(i:Int),c,s,aA.mk 0 [] [],acc,())) (λacc=>some ⟨2,[],acc⟩) (λr i y acc hy hi ha=> ?_) (λr acc=> ?_) n 0 [] (Nat.zero_le _) (by rw[hc];omega) (by simp)).trans ?_
 ·rw[hc] at hi
  simp only[bH (hc▸hi:i<c.kids.length),cond_true,aR,hy,Option.bind_some,jn,DY,eqi,aJ (show i<4611686018427387904 by omega)]
  by_cases e:i=l1.length
  ·rw[decide_eq_true e,cond_true,if_pos e,cE (by simp;omega) (by decide)];rfl
  ·rw[decide_eq_false e,cond_false,if_neg e,cE (by simp;omega) (by decide)];rfl
 ·simp only[bI (Nat.lt_irrefl _),cond_false];rfl
 ·rw[List.drop_zero,hc,Kh λi y h=>if_neg h,if_pos rfl];simp
theorem Th:∀{l m:List aF},l.Perm m->(l.Pairwise λa b=>a.page<b.page)->(m.Pairwise λa b=>a.page<b.page)->l=m
 |[],m,h,_,_=>(List.nil_perm.1 h).symm
 |x::l,[],h,_,_=>absurd h.length_eq (by simp)
 |x::l,y::m,h,h1,h2=>by
  obtain⟨a1,a2⟩:=List.pairwise_cons.1 h1
  obtain⟨b1,b2⟩:=List.pairwise_cons.1 h2
  have e:x=y:=by
   rcases List.mem_cons.1 (h.mem_iff.1 (List.mem_cons_self ..):x∈y::m) with e|hx
   ·exact e
   ·rcases List.mem_cons.1 (h.mem_iff.2 (List.mem_cons_self ..):y∈x::l) with e|hy
    ·exact e.symm
    ·have:=b1 x hx;have:=a1 y hy;omega
  subst e
  rw[Th h.cons_inv a2 b2]
def uC(l:List aF)(j:Nat):List aF:=l.filter λs=>decide (s.page=(j:Int))
theorem WS {l : List aF} (hl : cH l) (hd : (l.map (·.page)).Nodup) : (List.range' 0 64).flatMap (uC l) = bK l := by
  have hf1 : ∀ j, (uC l j).length <= 1 := fun j => by
    match h : uC l j with
    | [] => simp
    | [_] => simp
    | a :: b :: t =>
      have hs : (uC l j).Sublist l := List.filter_sublist
      have hn := (hs.map (·.page)).nodup hd
      have ha : a.page = (j : Int) := by have : a ∈ uC l j := by rw [h]; simp
                                         exact of_decide_eq_true (List.mem_filter.1 this).2
      have hb : b.page = (j : Int) := by have : b ∈ uC l j := by rw [h]; simp
                                         exact of_decide_eq_true (List.mem_filter.1 this).2
      rw [h] at hn
      simp only [List.map_cons, List.nodup_cons, List.mem_cons, not_or] at hn
      exact absurd (ha.trans hb.symm) hn.1.1
  have hmem : ∀ {j s}, s ∈ uC l j -> s ∈ l /\ s.page = (j : Int) := fun hs => ⟨(List.mem_filter.1 hs).1, of_decide_eq_true (List.mem_filter.1 hs).2⟩
  have hsorted : ∀ (k i : Nat), ((List.range' i k).flatMap (uC l)).Pairwise fun a b => a.page < b.page := by
    intro k
    induction k with
    | zero => intro i; simp
    | succ k ih =>
      intro i
      rw [List.range'_succ, List.flatMap_cons]
      refine List.pairwise_append.2 ⟨?_, ih (i + 1), fun a ha b hb => ?_⟩
      · match h : uC l i, hf1 i with
        | [], _ => simp
        | [_], _ => simp
      · obtain ⟨j, hj, hb⟩ := List.mem_flatMap.1 hb
        rw [List.mem_range'_1] at hj
        have := (hmem ha).2; have := (hmem hb).2; omega
  have hnd : l.Nodup := List.Pairwise.imp (fun h e => h (by rw [e])) (List.pairwise_map.1 hd)
  have hperm : ((List.range' 0 64).flatMap (uC l)).Perm l := (List.perm_ext_iff_of_nodup ((hsorted 64 0).imp fun h e => by rw [e] at h; omega) hnd).2 fun s => by
    rw [List.mem_flatMap]
    constructor
    · rintro ⟨j, _, hs⟩; exact (hmem hs).1
    · intro hs
      have := hl s hs
      refine ⟨s.page.toNat, by rw [List.mem_range'_1]; omega, List.mem_filter.2 ⟨hs, decide_eq_true (by omega)⟩⟩
  exact Th (hperm.trans (cU l).symm) (hsorted 64 0) (Tf hd)
theorem UA(n:Nat)(r1:(List aF)×Int×(List aF)×Unit->Option (List aF))(l:List aF)(hl:l.length<=100000)(j:Nat)(hj:j<64):∀(m:Nat)(t:List aF)(i:Nat)(acc:List aF),l.drop i=t->i<=l.length->t.length<m->acc.length+t.length<=100000->
  mY n r1 m (l,(j:Int),(i:Int),acc,())=r1 (l,((j+1:Nat):Int),acc++uC t j,()):=by
 intro m
 induction m with
 |zero=>intro t i acc _ _ h;omega
 |succ m ih=>
  intro t i acc ht hi hk ha
  unfold mY
  rw[aM]
  generalize hr:aW _ m=r2
  replace hr:mY n r1 m=r2:=hr
  simp only[hr] at ih
  cases t with
  |nil=>
   cases dC ht hi
   simp only[bI (Nat.lt_irrefl _),cond_false,aJ (show j<4611686018427387904 by omega)]
   simp[uC]
  |cons x t=>
   obtain⟨h1,h2,h3⟩:=dB ht
   simp only[List.length_cons] at ha hk
   simp only[bH h3,cond_true,aR,h1,Option.bind_some,jn,Bh,oL,aJ (show i<4611686018427387904 by omega)]
   by_cases e:x.page=(j:Int)
   ·rw[decide_eq_true e,cond_true,cE (by simp;omega) (by decide)]
    simp only[Option.bind_some]
    rw[ih t (i+1) _ h2 (by omega) (by omega) (by simp;omega)]
    simp[uC,e]
   ·rw[decide_eq_false e,cond_false,ih t (i+1) _ h2 (by omega) (by omega) (by omega)]
    simp[uC,e]
theorem A6(n:Nat)(hn:1003<=n){l:List aF}(hl:cH l)(hd:(l.map (·.page)).Nodup)(hlen:l.length<=100):jL n l=some (bK l):=by
 have key:∀(m j:Nat)(acc:List aF),j<=64->64-j<m->acc.length<=100*j->mZ n m (l,(j:Int),acc,())=some (acc++(List.range' j (64-j)).flatMap (uC l)):=by
  intro m
  induction m with
  |zero=>intro j acc _ h;omega
  |succ m ih=>
   intro j acc hj hm ha
   unfold mZ
   rw[aM]
   generalize hr:aW _ m=r1
   replace hr:mZ n m=r1:=hr
   simp only[hr] at ih
   by_cases h:j<64
   ·simp only[show decide ((j:Int)<64)=true from decide_eq_true (by omega),cond_true]
    have hp:(uC l j).length<=l.length:=List.length_filter_le ..
    refine(UA n r1 l (by omega) j h n l 0 acc rfl (Nat.zero_le _) (by omega) (by omega)).trans ?_
    rw[ih (j+1) _ (by omega) (by omega) (by rw[List.length_append];omega),show 64-j=(64-(j+1))+1 by omega,List.range'_succ,List.flatMap_cons,List.append_assoc]
   ·obtain rfl:j=64:=by omega
    simp only[show decide (((64:Nat):Int)<64)=false from rfl,cond_false]
    simp
 have:=key n 0 [] (by omega) (by omega) (by simp)
 rw[List.nil_append,Nat.sub_zero,WS hl hd] at this
 exact this
theorem CE(n:Nat)(hn:1003<=n){f:List aA}(hf:f.length=64){l:List aF}(hl:cH l)(hlen:l.length<=900):gG n ⟨f⟩ l=some ⟨aL f l⟩:=by
 have key:∀(m:Nat)(t:List aF)(i:Nat)(g:List aA),l.drop i=t->i<=l.length->t.length<m->g.length=64->rQ n m (l,(i:Int),⟨[]⟩,g,())=some ⟨aL g t⟩:=by
  intro m
  induction m with
  |zero=>intro t i g _ _ h;omega
  |succ m ih=>
   intro t i g ht hi hk hg
   unfold rQ
   rw[aM]
   generalize hr:aW _ m=r1
   replace hr:rQ n m=r1:=hr
   simp only[hr] at ih
   cases t with
   |nil=>
    cases dC ht hi
    simp only[bI (Nat.lt_irrefl _),cond_false];rfl
   |cons x t=>
    obtain⟨h1,h2,h3⟩:=dB ht
    have hx:=hl x (List.mem_of_getElem? h1)
    obtain⟨j,hj⟩:∃j:Nat,x.page=(j:Int):=⟨x.page.toNat,by omega⟩
    have hput:put g x.page x.content=some (EX g x.page x.content):=by unfold EX;rw[hj,Int.toNat_natCast];exact EJ (by omega)
    simp only[bH h3,cond_true,aR,h1,Option.bind_some,show idx g x.page=some (pg g x.page) from gI ⟨hx.1,by omega⟩,hput,aJ (show i<4611686018427387904 by omega)]
    exact ih t (i+1) _ h2 (by omega) (by simp only[List.length_cons] at hk;omega) (by rw[rV];exact hg)
 unfold gG
 rw[cE (by simp;omega) (by decide)]
 simp only[Option.bind_some,List.nil_append]
 exact key n l 0 f rfl (Nat.zero_le _) (by omega) hf
end Go.Proofs.YtlcmdgpjiendmaaGreat
namespace Go.Proofs.YtlcmdgpjiendmaaGreat
open Go.Bur
set_option linter.unusedSimpArgs false
set_option linter.unusedVariables false
set_option maxRecDepth 20000
def uX(s:aF):List aF->List aF
 |[]=>[s]
 |x::t=>if x.page<s.page then x::uX s t else if x.page=s.page then x::t else s::x::t
def CF(l:List aF):List aF:=l.foldr uX []
def gK(gs:List aG):List aF:=gs.flatMap (·.sheets)
def UpS(l:List aF):Prop:=l.Pairwise λa b=>a.page<b.page
theorem tA{s:aF}:∀{o:List aF},UpS o->∀x,x∈uX s o↔x∈o\/(x=s/\∀y∈o,y.page≠s.page)
 |[],_,x=>by simp[uX]
 |y::t,h,x=>by
  obtain⟨h1,h2⟩:=List.pairwise_cons.1 h
  have ih:=tA (s:=s) h2 x
  unfold uX
  split
  ·simp only[List.mem_cons,ih];grind
  ·split
   ·simp only[List.mem_cons];grind
   ·simp only[List.mem_cons];grind
theorem Ou{s:aF}:∀{o:List aF},UpS o->UpS (uX s o)
 |[],_=>by simp[uX,UpS]
 |y::t,h=>by
  obtain⟨h1,h2⟩:=List.pairwise_cons.1 h
  unfold uX
  split
  ·rename_i hlt
   refine List.pairwise_cons.2 ⟨λz hz=> ?_,Ou h2⟩
   rcases(tA h2 z).1 hz with e|⟨e,_⟩
   ·exact h1 z e
   ·rw[e];exact hlt
  ·split
   ·exact h
   ·rename_i hlt he
    refine List.pairwise_cons.2 ⟨λz hz=> ?_,h⟩
    rcases List.mem_cons.1 hz with rfl|hz
    ·omega
    ·have:=h1 z hz;omega
theorem A7:∀{l:List aF},UpS (CF l)
 |[]=>List.Pairwise.nil
 |s::t=>Ou (A7 (l:=t))
theorem Gd:∀{l:List aF},∀x∈CF l,x∈l
 |[],x,h=>by cases h
 |s::t,x,h=>by
  rcases(tA A7 x).1 h with e|⟨e,_⟩
  ·exact List.mem_cons_of_mem _ (Gd x e)
  ·rw[e];exact List.mem_cons_self ..
theorem Dk{l:List aF}(h:UpS l):(l.map (·.page)).Nodup:=List.pairwise_map.2 (h.imp λh=>by omega)
theorem WT{f:List aA}(hf:f.length=64){s:aF}(hs:0<=s.page/\s.page<64){o:List aF}(ho:UpS o)(hi:cH o):aL f (uX s o)=aL (EX f s.page s.content) o:=by
 have hi':cH (uX s o):=λx hx=>by
  rcases(tA ho x).1 hx with e|⟨e,_⟩
  ·exact hi x e
  ·rw[e];exact hs
 have hn:=Dk (Ou (s:=s) ho)
 have hn':=Dk ho
 have hf':(EX f s.page s.content).length=64:=by rw[rV];exact hf
 refine WN (by rw[pU];exact hf) (by rw[pU];exact hf') λm hm=> ?_
 by_cases h:∃x∈o,x.page=m
 ·obtain⟨x,hx,rfl⟩:=h
  rw[uW hf hi' hn x ((tA ho x).2 (Or.inl hx)),uW hf' hi hn' x hx]
 ·rw[kV (l:=o) hf' hi λx hx e=>h ⟨x,hx,e⟩,Ot hf hs]
  by_cases e:m=s.page
  ·subst e
   rw[if_pos rfl,uW hf hi' hn s ((tA ho s).2 (Or.inr ⟨rfl,λy hy e=>h ⟨y,hy,e⟩⟩))]
  ·rw[if_neg e,kV hf hi' λx hx e'=>by
    rcases(tA ho x).1 hx with e2|⟨e2,_⟩
    ·exact h ⟨x,e2,e'⟩
    ·rw[e2] at e';exact e e'.symm]
theorem Ki:∀{l:List aF} {f:List aA},f.length=64->cH l->aL f (CF l)=aL f l
 |[],_,_,_=>rfl
 |s::t,f,hf,hl=>by
  have ht:cH t:=λx hx=>hl x (List.mem_cons_of_mem _ hx)
  show aL f (uX s (CF t))=aL (EX f s.page s.content) t
  rw[WT hf (hl s (List.mem_cons_self ..)) A7 (λx hx=>ht x (Gd x hx)),Ki (by rw[rV];exact hf) ht]
theorem xQ:∀{a b:List aF} {f:List aA},aL f (a++b)=aL (aL f a) b
 |[],_,_=>rfl
 |s::t,b,f=>by rw[List.cons_append,aL,aL,xQ]
theorem EZ{R:List Row}:∀{gs:List aG} {f f':List aA},qI R f gs f'->aL f (gK gs)=f'/\cH (gK gs)
 |[],_,_,h=>⟨h.symm,by simp[gK,cH]⟩
 |g::gs,f,f',⟨h1,_,_,h2⟩=>by
  obtain⟨e1,e2⟩:=EZ h2
  refine⟨by rw[gK,List.flatMap_cons,xQ];exact e1,λs hs=> ?_⟩
  rw[gK,List.flatMap_cons] at hs
  rcases List.mem_append.1 hs with hs|hs
  ·exact h1.rng s hs
  ·exact e2 s hs
theorem aas(n:Nat)(j3:(List aG)×Int×Int×(List aF)×Unit->Option (List aF))(gs:List aG)(a b:Int)(s:aF):∀(m:Nat)(t pre:List aF),t.length<m->(pre++t).length<=20000->(∀x∈pre,x.page<s.page)->
  uO n j3 m (gs,a,b,(pre.length:Int),pre++t,s,())=j3 (gs,a,b,pre++uX s t,()):=by
 intro m
 induction m with
 |zero=>intro t pre h;omega
 |succ m ih=>
  intro t pre hk hl hp
  unfold uO
  rw[aM]
  generalize hr:aW _ m=r1
  replace hr:uO n j3 m=r1:=hr
  simp only[hr] at ih
  have hins:((T4 (pre++t) (pre.length:Int) (pre.length:Int)).bind λl45=>(Go.Bur.sub (pre++t) (pre.length:Int) ((pre++t).length:Int)).bind λl46=>(app 64 ([s]:List aF) l46).bind λl47=>neL l47 ((app 64 l45 l47).bind λl48=>j3 (gs,a,b,l48,())))=j3 (gs,a,b,pre++s::t,()):=by
   rw[List.length_append] at hl
   have e1:T4 (pre++t) (pre.length:Int) (pre.length:Int)=some pre:=by
    unfold T4
    have:=Cm (l:=pre++t) (a:=0) (b:=pre.length) (by omega) (by simp)
    rw[show((0:Nat):Int)=0 from rfl] at this
    simp[this]
   have e2:Go.Bur.sub (pre++t) (pre.length:Int) ((pre++t).length:Int)=some t:=by
    rw[Cm (by simp) (Nat.le_refl _)]
    simp
   rw[e1,e2]
   simp only[Option.bind_some]
   rw[cE (by simp;omega) (by decide)]
   simp only[Option.bind_some,neL,List.cons_append,List.nil_append,List.isEmpty_cons]
   rw[cE (by simp;omega) (by decide)]
   rfl
  cases t with
  |nil=>
   rw[List.append_nil] at hins|-
   simp only[bI (Nat.lt_irrefl _),cond_false,jn]
   exact hins
  |cons x t=>
   have hget:idx (pre++x::t) (pre.length:Int)=some x:=NU
   have hlt:pre.length<(pre++x::t).length:=by simp
   simp only[bH hlt,cond_true,hget,Option.bind_some,jn,oL]
   by_cases h1:x.page<s.page
   ·rw[decide_eq_true h1,cond_true,aJ (by rw[List.length_append] at hl;omega)]
    have:=ih t (pre++[x]) (by simp only[List.length_cons] at hk;omega) (by simpa using hl) (λy hy=>by
     rcases List.mem_append.1 hy with hy|hy
     ·exact hp y hy
     ·cases List.mem_singleton.1 hy;exact h1)
    rw[List.length_append,List.append_assoc,List.append_assoc] at this
    rw[uX,if_pos h1]
    exact this
   ·rw[decide_eq_false h1,cond_false]
    by_cases h2:x.page=s.page
    ·rw[decide_eq_true h2,cond_true,uX,if_neg h1,if_pos h2]
    ·rw[decide_eq_false h2,cond_false,uX,if_neg h1,if_neg h2]
     exact hins
theorem Kj:∀{l o:List aF},(l.foldr uX o).length<=l.length+o.length
 |[],o=>by simp
 |s::t,o=>by
  have h:∀(o:List aF),(uX s o).length<=o.length+1:=by
   intro o
   induction o with
   |nil=>simp[uX]
   |cons y o ih=>
    unfold uX
    split
    ·simp only[List.length_cons];omega
    ·split<;>simp
  have:=h (t.foldr uX o)
  have:=Kj (l:=t) (o:=o)
  simp only[List.foldr_cons,List.length_cons];omega
theorem aat(n:Nat)(hn:20002<=n)(r1:(List aG)×Int×(List aF)×Unit->Option (List aF))(gs:List aG)(j:Nat)(g:aG)(hg:gs[j]? =some g)(hj:j<=20000):∀(m k:Nat)(o:List aF),k<=g.sheets.length->k<m->o.length+k<=20000->
  uP n r1 m (gs,(j:Int),(k:Int)-1,o,())=r1 (gs,(j:Int)-1,(g.sheets.take k).foldr uX o,()):=by
 intro m
 induction m with
 |zero=>intro k o _ h;omega
 |succ m ih=>
  intro k o hk hm ho
  unfold uP
  rw[aM]
  generalize hr:aW _ m=r2
  replace hr:uP n r1 m=r2:=hr
  simp only[hr] at ih
  cases k with
  |zero=>
   simp only[show decide (((0:Nat):Int)-1>=0)=false from rfl,cond_false,cN (show-9223372036854775808<=(j:Int)-1/\(j:Int)-1<=9223372036854775807 by omega)]
   rfl
  |succ k=>
   have e:((k+1:Nat):Int)-1=(k:Int):=by omega
   obtain⟨s,hs⟩:∃s,g.sheets[k]? =some s:=⟨_,get_some (by omega)⟩
   simp only[e,show decide ((k:Int)>=0)=true from decide_eq_true (by omega),cond_true,jn,aR,hg,hs,Option.bind_some]
   refine(aas n (AJ n r2) gs (j:Int) (k:Int) s n o [] (by omega) (by simp;omega) (by simp)).trans ?_
   unfold AJ
   have hl:=Kj (l:=[s]) (o:=o)
   simp only[List.nil_append,cN (show-9223372036854775808<=(k:Int)-1/\(k:Int)-1<=9223372036854775807 by omega)]
   rw[ih k (uX s o) (by omega) (by omega) (by simp at hl;omega),List.take_add_one,hs]
   simp
theorem Ti(n:Nat)(hn:20002<=n)(gs:List aG)(h:(gK gs).length+gs.length<=10000):lG n gs=some (CF (gK gs)):=by
 have hlen:∀(a:List aG),(∀g∈a,g∈gs)->a.length<=gs.length->True:=λ_ _ _=>trivial
 have key:∀(m k:Nat)(o:List aF),k<=gs.length->k<m->o.length+(gK (gs.take k)).length<=10000->uQ n m (gs,(k:Int)-1,o,())=some ((gK (gs.take k)).foldr uX o):=by
  intro m
  induction m with
  |zero=>intro k o _ h;omega
  |succ m ih=>
   intro k o hk hm ho
   unfold uQ
   rw[aM]
   generalize hr:aW _ m=r1
   replace hr:uQ n m=r1:=hr
   simp only[hr] at ih
   cases k with
   |zero=>rfl
   |succ k=>
    have e:((k+1:Nat):Int)-1=(k:Int):=by omega
    obtain⟨g,hg⟩:∃g,gs[k]? =some g:=⟨_,get_some (by omega)⟩
    have et:gs.take (k+1)=gs.take k++[g]:=by rw[List.take_add_one,hg];rfl
    have es:gK (gs.take (k+1))=gK (gs.take k)++g.sheets:=by rw[et,gK,List.flatMap_append];simp[gK]
    rw[es,List.length_append] at ho
    simp only[e,show decide ((k:Int)>=0)=true from decide_eq_true (by omega),cond_true,aR,hg,Option.bind_some,cN (show-9223372036854775808<=(g.sheets.length:Int)-1/\(g.sheets.length:Int)-1<=9223372036854775807 by omega)]
    rw[aat n hn r1 gs k g hg (by omega) n g.sheets.length o (Nat.le_refl _) (by omega) (by omega),List.take_length]
    have hl:=Kj (l:=g.sheets) (o:=o)
    rw[ih k _ (by omega) (by omega) (by omega),es,List.foldr_append]
 unfold lG
 rw[cN (by omega)]
 have:=key n gs.length [] (Nat.le_refl _) (by omega) (by rw[List.take_length];simp;omega)
 rw[List.take_length] at this
 exact this
end Go.Proofs.YtlcmdgpjiendmaaGreat
namespace Go.Proofs.YtlcmdgpjiendmaaGreat
open Go.Bur
set_option linter.unusedSimpArgs false
set_option linter.unusedVariables false
set_option maxRecDepth 100000
theorem On.page{f:List aA}{D d:Nat}{n:Int}{k:Key}(h:On f D d n k):(0<=n/\n<64)/\f.length=64/\idx f n=some (pg f n)/\aV (pg f n)=true:=by
 obtain⟨lo,hi,Q,R1,R2,h,_⟩:=h
 have hn:=pS h.tree
 exact⟨hn,h.len,gI ⟨hn.1,by have:=h.len;omega⟩,h.ok n hn⟩
theorem On.next{f:List aA}{D d:Nat}{n:Int}{k:Key}(h:On f D (d+2) n k):On f D (d+1) (aZ f n k) k:=by
 obtain⟨l1,x,l2,hp,hI,hi,c1,c2,hd⟩:=h.kids
 have hnx:aZ f n k=x.page:=by unfold aZ;rw[hp];simp only;rw[<-hi];exact congrArg (·.page) eP
 rw[hnx];exact hd
theorem On.kind{f:List aA}{D d:Nat}{n:Int}{k:Key}(h:On f D (d+2) n k):(pg f n).kind=2/\(pg f n).rows=[]/\dP (pg f n).kids/\pg f n=⟨2,[],(pg f n).kids⟩:=by
 obtain⟨l1,x,l2,hp,hI,_⟩:=h.kids
 rw[hp];exact⟨rfl,rfl,hI,rfl⟩
theorem On.kid_idx{f:List aA}{D d:Nat}{n:Int}{k:Key}(h:On f D (d+2) n k):idx (pg f n).kids (cB (pg f n).kids k:Int)=some (bZ (pg f n).kids (cB (pg f n).kids k)):=by
 have:=Oo h.kind.2.2.1 k
 rw[aR,bZ,get_some this];rfl
theorem On.rkid{f:List aA}{D d:Nat}{n:Int}{k:Key}(h:On f D (d+2) n k)(N:Nat)(hN:1003<=N):nW N (pg f n) k=some (cB (pg f n).kids k:Int):=by
 have h1:=h.kind
 rw[h1.2.2.2];exact YC N hN h1.2.2.1 k
theorem UB(N:Nat)(hN:1003<=N){f:List aA}{D:Nat}{n:Int}{k:Key}(h:On f D 1 n k)(hs:aD (pg f n)<=3):kM N ⟨f⟩ n k=some (true,[]):=by
 obtain⟨hn,hf,hi,hc⟩:=h.page
 obtain⟨l,hp,_⟩:=h.leaf
 have hfull:cS (pg f n)=false:=by unfold cS;rw[show decide (aD (pg f n)=4)=false from decide_eq_false (by omega),Bool.and_false]
 unfold kM
 rw[show idx (aC.mk f).pages n=some (pg f n) from hi,Kb N hN hf]
 simp only[Option.bind_some,jn,FP N _ (bS hc) hc,hfull,Qr]
 rw[show((pg f n).kind !=2)=true from by rw[hp];rfl]
 cases decide (n=0)<;>rfl
theorem Ov(N:Nat)(hN:1003<=N){f:List aA}{D d:Nat}{n:Int}{k:Key}(h:On f D (d+2) n k)(hs:aD (pg f n)<=3):kM N ⟨f⟩ n k=
  if cS (pg f (aZ f n k))=true then(match dZ f with|[]=>some (false,[])|m::_=>some (true,bK (dI f n (cB (pg f n).kids k) m))) else some (true,[]):=by
 obtain⟨hn,hf,hi,hc⟩:=h.page
 obtain⟨h1,h2,h3,h4⟩:=h.kind
 have hfull:cS (pg f n)=false:=by unfold cS;rw[show decide (aD (pg f n)=4)=false from decide_eq_false (by omega),Bool.and_false]
 obtain⟨hx,_,hxi,hxc⟩:=h.next.page
 have hxp:(bZ (pg f n).kids (cB (pg f n).kids k)).page=aZ f n k:=rfl
 unfold kM
 rw[show idx (aC.mk f).pages n=some (pg f n) from hi,Kb N hN hf]
 simp only[Option.bind_some,jn,FP N _ (bS hc) hc,hfull,Qr,h.rkid N hN,h.kid_idx,hxp,show idx (aC.mk f).pages (aZ f n k)=some (pg f (aZ f n k)) from hxi,FP N _ (bS hxc) hxc,abx]
 rw[show((pg f n).kind !=2)=false from by rw[h1];rfl]
 have hgo:∀X:Option (Bool×List aF),(bif decide (n=0) then X else X)=X:=λX=>by cases decide (n=0)<;>rfl
 simp only[cond_false]
 rw[hgo]
 by_cases hfu:cS (pg f (aZ f n k))=true
 case neg=>
  rw[if_neg hfu]
  rw[Bool.not_eq_true] at hfu
  rw[hfu];rfl
 rw[if_pos hfu,hfu]
 simp only[Bool.not_true,cond_false]
 cases hfr:dZ f with
 |nil=>rfl
 |cons m t=>
  obtain⟨l1,x,l2,hp,hI,hii,c1,c2,hd⟩:=h.kids
  have hnx:aZ f n k=x.page:=by unfold aZ;rw[hp];simp only;rw[<-hii];exact congrArg (·.page) eP
  have hik:cB (pg f n).kids k=l1.length:=by rw[hp];exact hii.symm
  rw[hnx] at hfu hxc|-
  have hsz:aD (pg f x.page)=4:=by unfold cS at hfu;rw[Bool.and_eq_true] at hfu;exact of_decide_eq_true hfu.2
  obtain⟨g1,_⟩:=CC h hp c1 c2 (by rw[hp] at hs;simpa[aD] using hs) hsz (m:=m) (by rw[hfr];exact List.mem_cons_self ..)
  have hlen:(l1++x::l2).length<=100:=by have:=hI.four;omega
  rw[hik]
  simp only[List.length_cons,decide_eq_false (show ¬t.length+1=0 by omega),cond_false,pM,List.getElem?_cons_zero,Option.bind_some,show idx (aC.mk f).pages x.page=some (pg f x.page) from by rw[<-hnx];exact hxi,show qP N (pg f x.page) 2=some (eZ (pg f x.page) 2,eT (pg f x.page) 2,cF (pg f x.page) 2) from NR N hN _ (bS hxc) 2,Uz N hN (pg f n) (show(pg f n).kids=l1++x::l2 by rw[hp]) hlen]
  rw[Af hp] at g1|-
  rw[A6 N hN g1.rng g1.nodup (by simp)]
  rfl
theorem WU{f:List aA}{a b:Int}(h:0<a/\a<b/\b<64):bK (dD f a b)=dD f a b:=by
 unfold dD bK bK bK bK Ka Ka Ka
 simp only
 rw[if_pos (by omega)]
 simp only[Ka]
 rw[if_pos (by omega)]
theorem UC(N:Nat)(hN:1003<=N){f:List aA}{D:Nat}(h:Good f D)(hs:aD (pg f 0)=4)(k:Key):kM N ⟨f⟩ 0 k=(match dZ f with|a::b::_=>some (true,dD f a b)|_=>some (false,[])):=by
 have hc:=h.ok 0 ⟨by omega,by omega⟩
 have hi:idx f 0=some (pg f 0):=gI ⟨by omega,by have:=h.len;omega⟩
 obtain⟨d,rfl⟩:∃d,D=d+1:=⟨D-1,by have:=h.pos;omega⟩
 have hfull:cS (pg f 0)=true:=by rw[rC h.tree,decide_eq_true hs]
 unfold kM
 rw[show idx (aC.mk f).pages 0=some (pg f 0) from hi,Kb N hN h.len]
 simp only[Option.bind_some,jn,FP N _ (bS hc) hc,hfull,show((0:Int)==0)=true from rfl,cond_true]
 match dZ f with
 |[]=>rfl
 |[a]=>rfl
 |a::b::t=>
  simp only[List.length_cons,show decide (((t.length+1+1:Nat):Int)<2)=false from decide_eq_false (by omega),cond_false,show qP N (pg f 0) 2=some (eZ (pg f 0) 2,eT (pg f 0) 2,cF (pg f 0) 2) from NR N hN _ (bS hc) 2,Option.bind_some,pM,List.getElem?_cons_zero,show idx (a::b::t) 1=some b from aR (a::b::t) 1,nX]
  rfl
theorem UD(N:Nat)(hN:1003<=N){l:List Row}(hl:mI l)(r:Row)(hs:cL l r.key=none->l.length<=3):CT N ⟨1,l,[]⟩ r=some (⟨1,rD r l,[]⟩,0):=by
 have h4:=hl.len
 unfold CT
 simp only[Ji N hN l (by omega),Option.bind_some,jn,SJ N hN l (by omega),qM]
 have hat:=NM (l:=l) (k:=r.key)
 cases ha:at_ l r.key with
 |none=>
  rw[ha] at hat
  have:=hs hat
  simp only[ixI,show decide ((-1:Int)<0)=true from rfl,cond_true,show((l.length:Int)==4)=false from by rw[oL,decide_eq_false (by omega)],cond_false]
  rfl
 |some i=>
  have e:decide ((i:Int)<0)=false:=decide_eq_false (by omega)
  simp only[ixI]
  refine(Ru e).trans ?_
  rfl
theorem WV(N:Nat)(hN:1003<=N){f:List aA}{D d:Nat}{n:Int}{r:Row}(h:On f D (d+2) n r.key)(j1:Int×aC×Row×(List aG)×Unit->Option (Int×(List aG)))(j3:Bool×Int×Int×aC×Row×(List aG)×Unit->Option (Int×(List aG)))(t:Bool)(c:Int)(gs:List aG):
  lH N j1 j3 (t,n,c,⟨f⟩,r,gs,())=j3 (t,aZ f n r.key,c,⟨f⟩,r,gs,()):=by
 obtain⟨hn,hf,hi,hc⟩:=h.page
 unfold lH
 simp only[show idx (aC.mk f).pages n=some (pg f n) from hi,Option.bind_some,h.rkid N hN,h.kid_idx]
 rw[show((pg f n).kind==1)=false from by rw[h.kind.1];rfl,cond_false]
 cases t<;>rfl
theorem HW(N:Nat){f:List aA}{D:Nat}{n:Int}{r:Row}(h:On f D 1 n r.key)(j1:Int×aC×Row×(List aG)×Unit->Option (Int×(List aG)))(j3:Bool×Int×Int×aC×Row×(List aG)×Unit->Option (Int×(List aG)))(t:Bool)(c:Int)(gs:List aG):
  lH N j1 j3 (t,n,c,⟨f⟩,r,gs,())=j1 (n,⟨f⟩,r,gs,()):=by
 obtain⟨hn,hf,hi,hc⟩:=h.page
 obtain⟨l,hp,_⟩:=h.leaf
 unfold lH
 simp only[show idx (aC.mk f).pages n=some (pg f n) from hi,Option.bind_some]
 rw[show((pg f n).kind==1)=true from by rw[hp];rfl,cond_true]
def Ow(N:Nat)(r:Row)(gs:List aG):Option (List aA×Int×List aG)->Option (Int×List aG)
 |none=>some (6,[])
 |some z=>jM N (z.2.1,⟨z.1⟩,r,gs++z.2.2,())
theorem WW(N:Nat)(r:Row)(gs G:List aG)(o:Option (List aA×Int×List aG)):Ow N r gs (o.map λz=>(z.1,z.2.1,G++z.2.2))=Ow N r (gs++G) o:=by
 cases o with
 |none=>rfl
 |some z=>simp only[Option.map_some,Ow,List.append_assoc]
theorem Tj(N:Nat)(hN:1003<=N)(r:Row)(new:Bool):∀(d m:Nat)(c:Nat)(D:Nat)(f:List aA)(n:Int)(gs:List aG),On f D (d+1) n r.key->(new=true->aD (pg f n)<=3)->d<m->c+d<40->gs.length+d<=1000->
  jN N (jM N) m (!new,n,(c:Int),⟨f⟩,r,gs,())=Ow N r gs (nT r.key new d f n):=by
 intro d
 induction d with
 |zero=>
  intro m c D f n gs h hs hm hc hg
  obtain⟨m,rfl⟩:∃m',m=m'+1:=⟨m-1,by omega⟩
  unfold jN
  rw[aM]
  generalize aW _ m=r2
  simp only[show decide ((c:Int)<40)=true from decide_eq_true (by omega),cond_true,jn,Bool.not_not]
  cases new with
  |false=>exact(HW N h _ _ _ _ _).trans (by simp[nT,Ow])
  |true=>
   rw[UB N hN h (hs rfl)]
   simp only[Option.bind_some,Bool.not_true,cond_false,List.length_nil,show decide (((0:Nat):Int)>0)=false from rfl,pG,cond_true]
   exact(HW N h _ _ _ _ _).trans (by simp[nT,Ow])
 |succ d ih=>
  intro m c D f n gs h hs hm hc hg
  obtain⟨m,rfl⟩:∃m',m=m'+1:=⟨m-1,by omega⟩
  unfold jN
  rw[aM]
  generalize hr2:aW _ m=r2
  replace hr2:jN N (jM N) m=r2:=hr2
  simp only[show decide ((c:Int)<40)=true from decide_eq_true (by omega),cond_true,jn,Bool.not_not]
  have hstep:∀(f':List aA)(gs':List aG),On f' D (d+2) n r.key->(new=true->aD (pg f' (aZ f' n r.key))<=3)->gs'.length+d<=1000->lH N (jM N) (uR N r2) (!new,n,(c:Int),⟨f'⟩,r,gs',())=Ow N r gs' (nT r.key new d f' (aZ f' n r.key)):=λf' gs' h' hs' hg'=>by
   rw[WV N hN h']
   unfold uR
   simp only[aJ (show c<4611686018427387904 by omega)]
   rw[<-hr2]
   exact ih m (c+1) D f' _ gs' h'.next hs' (by omega) (by omega) hg'
  rcases CD h hs with⟨e1,e2,e3⟩|⟨f',n',G,e1,⟨e2,e3,e4,e5⟩,_⟩
  ·subst e1
   simp only[cond_true]
   rw[Ov N hN h (hs rfl)]
   have hfull:cS (pg f (aZ f n r.key))=true:=by
    unfold mS at e3
    by_cases hf:cS (pg f (aZ f n r.key))=true
    ·exact hf
    ·rw[if_neg (by simpa[aZ] using hf)] at e3;cases e3
   rw[if_pos hfull,e2,nT,e3]
   rfl
  ·rw[nT,e1]
   simp only[Option.bind_some]
   rw[WW]
   unfold mS at e1
   by_cases hb:(new&&cS (pg f (bZ (pg f n).kids (cB (pg f n).kids r.key)).page))=true
   ·rw[if_pos hb] at e1
    rw[Bool.and_eq_true] at hb
    obtain⟨rfl,hb2⟩:=hb
    cases hfr:dZ f with
    |nil=>rw[hfr] at e1;cases e1
    |cons mm t=>
     rw[hfr] at e1
     obtain⟨l1,x,l2,hp,hI,hii,c1,c2,hd⟩:=h.kids
     have hnx:aZ f n r.key=x.page:=by unfold aZ;rw[hp];simp only;rw[<-hii];exact congrArg (·.page) eP
     have hik:cB (pg f n).kids r.key=l1.length:=by rw[hp];exact hii.symm
     have hsz:aD (pg f x.page)=4:=by
      rw[show(bZ (pg f n).kids (cB (pg f n).kids r.key)).page=x.page from hnx] at hb2
      unfold cS at hb2;rw[Bool.and_eq_true] at hb2;exact of_decide_eq_true hb2.2
     obtain⟨g1,g2,_⟩:=CC h hp c1 c2 (by have:=hs rfl;rw[hp] at this;simpa[aD] using this) hsz (m:=mm) (by rw[hfr];exact List.mem_cons_self ..)
     rw[<-hik] at g1 g2
     have hlen3:(bK (dI f n (cB (pg f n).kids r.key) mm)).length=3:=by rw[(cU _).length_eq];rfl
     simp only[cond_true]
     rw[Ov N hN h (hs rfl),if_pos (show cS (pg f (aZ f n r.key))=true from hb2),hfr]
     simp only[Option.bind_some,Bool.not_true,cond_false,hlen3,show decide (((3:Nat):Int)>0)=true from rfl,cond_true,cE (show gs.length+[aG.mk (bK (dI f n (cB (pg f n).kids r.key) mm))].length<=1000000 by simp;omega) (show 24<=1000 by omega),CE N hN h.page.2.1 (A3 g1).rng (show(bK (dI f n (cB (pg f n).kids r.key) mm)).length<=900 by omega),pG]
     injection e1 with e1
     injection e1 with q1 q2
     injection q2 with q2 q3
     subst q1 q3
     have q2':aZ (aL f (bK (dI f n (cB (pg f n).kids r.key) mm))) n r.key=n':=q2
     have:=hstep _ (gs++[⟨bK (dI f n (cB (pg f n).kids r.key) mm)⟩]) g2 (λ_=>by rw[q2'];exact e3 rfl) (by simp;omega)
     rw[q2'] at this
     exact this
   ·rw[if_neg hb] at e1
    injection e1 with e1
    injection e1 with q1 q2
    injection q2 with q2 q3
    subst q1 q3
    have q2':aZ f n r.key=n':=q2
    have hh:=hstep f gs h (λe=>by rw[q2'];exact e3 e) (by omega)
    rw[q2'] at hh
    rw[List.append_nil]
    cases new with
    |false=>exact hh
    |true=>
     simp only[cond_true]
     rw[Ov N hN h (hs rfl),if_neg (by simpa[aZ] using hb)]
     simp only[Option.bind_some,Bool.not_true,cond_false,List.length_nil,show decide (((0:Nat):Int)>0)=false from rfl,pG]
     exact hh
end Go.Proofs.YtlcmdgpjiendmaaGreat
namespace Go.Proofs.YtlcmdgpjiendmaaGreat
open Go.Bur
set_option linter.unusedSimpArgs false
set_option linter.unusedVariables false
set_option maxRecDepth 100000
theorem MS{R:List Row}{k:Key}:decide (ixI (at_ R k)>=0)= !Gc R k:=by
 unfold Gc
 rw[NM]
 cases ha:at_ R k with
 |none=>rfl
 |some i=>
  obtain⟨pre,x,post,e,e2,_⟩:=qU ha
  have hx:R[i]? =some x:=by rw[e,<-e2];simp
  simp only[ixI,hx,Option.isNone_some,Bool.not_false]
  exact decide_eq_true (Int.natCast_nonneg i)
theorem UE{f:List aA}{D:Nat}{a b:Int}{t:List Int}{k:Key}{new:Bool}(h:Good f D)(hk:ltK k cC=false)(hfull:aD (pg f 0)=4)(hfr:dZ f=a::b::t):
  mS (aL f (bK (dD f a b))) 0 k new=some (aL f (bK (dD f a b)),aZ (aL f (bK (dD f a b))) 0 k,[])/\aD (pg (aL f (bK (dD f a b))) (aZ (aL f (bK (dD f a b))) 0 k))=2:=by
 obtain⟨q1,q2,q3,q4,q5,q6,q7,q8,q9⟩:=vH h hfull hfr
 generalize aL f (bK (dD f a b))=f1 at q2 q3 q4 q5 q6|-
 have hx:aZ f1 0 k=a\/aZ f1 0 k=b:=by
  unfold aZ
  rw[q4]
  simp only[cB,List.tail_cons,List.takeWhile_cons,List.takeWhile_nil]
  cases ltK k (cF (pg f 0) 2)
  ·right;rfl
  ·left;rfl
 have hsz:aD (pg f1 (aZ f1 0 k))=2:=by
  rcases hx with e|e<;>rw[e]
  ·rw[q5];exact q7
  ·rw[q6];exact q8
 refine⟨?_,hsz⟩
 unfold mS
 rw[if_neg]
 ·rfl
 ·rw[show(bZ (pg f1 0).kids (cB (pg f1 0).kids k)).page=aZ f1 0 k from rfl]
  unfold cS
  rw[hsz];simp
theorem MT{r:Row}(h:eF r=true)(hi:nZ r.key):ltK r.key cC=false:=by
 unfold eF iU at h
 simp only[Bool.and_eq_true,decide_eq_true_eq] at h
 rw[vF]
 have:=hi.1
 show ¬(r.key.table<0\/(r.key.table=0/\r.key.id<0))
 omega
theorem WX(N:Nat)(hN:2000<=N){f:List aA}{D:Nat}(h:Good f D){r:Row}(hk:ltK r.key cC=false):lI N ⟨f⟩ r=Ow N r [] (G9 f D r.key (Gc (rws f D 0) r.key)):=by
 have hrow:=h.rows
 have hpos:=h.pos
 have hdeep:=h.deep
 obtain⟨d,rfl⟩:∃d,D=d+1:=⟨D-1,by omega⟩
 unfold lI
 rw[J9 N hN h]
 simp only[Option.bind_some,Ji N (by omega) _ (show(rws f (d+1) 0).length<=1000 by omega),MS,jn]
 generalize Gc (rws f (d+1) 0) r.key=new
 have hf0:=rC h.tree
 have h4:=(wS h.tree).2.1
 unfold G9
 rw[hf0]
 by_cases hc:(new&&decide (aD (pg f 0)=4))=true
 case neg=>
  rw[if_neg hc,Nat.add_sub_cancel]
  exact Tj N (by omega) r new d N 0 (d+1) f 0 [] (On.root h hk) (λe=>by
   rw[e,Bool.true_and,decide_eq_true_eq] at hc;omega) (by omega) (by omega) (by simp;omega)
 rw[if_pos hc]
 rw[Bool.and_eq_true,decide_eq_true_eq] at hc
 obtain⟨hnew,hsz⟩:=hc
 subst hnew
 obtain⟨N,rfl⟩:∃N',N=N'+1:=⟨N-1,by omega⟩
 unfold jN
 rw[aM]
 generalize hr2:aW _ N=r2
 replace hr2:jN (N+1) (jM (N+1)) N=r2:=hr2
 simp only[show decide ((0:Int)<40)=true from rfl,cond_true,jn,Bool.not_true,Bool.not_false,UC (N+1) (by omega) h hsz r.key]
 match hfr:dZ f with
 |[]=>rfl
 |[a]=>rfl
 |a::b::t=>
  obtain⟨q1,q2,q3,q4,q5,q6,q7,q8,q9⟩:=vH h hsz hfr
  have hps:=WU (f:=f) q9
  obtain⟨p1,p2⟩:=UE (new:=true) h hk hsz hfr
  rw[hps] at q2 q4 p1 p2
  simp only[Option.bind_some,Bool.not_true,cond_false,show decide ((((dD f a b).length:Nat):Int)>0)=true from rfl,cond_true,cE (show([]:List aG).length+[aG.mk (dD f a b)].length<=1000000 by simp) (show 24<=1000 by omega),CE (N+1) (by omega) h.len q1.rng (show(dD f a b).length<=900 by simp[dD]),pG,hps]
  have hon:=On.root q2 hk
  rw[WV (N+1) (by omega) hon]
  unfold uR
  simp only[show IntKind.wrap .i64 (0+1)=((1:Nat):Int) from by rw[cN (by omega)];rfl]
  rw[<-hr2]
  have:=Tj (N+1) (by omega) r true d N 1 (d+2) _ _ ([]++[⟨dD f a b⟩]) hon.next (λ_=>by rw[p2];omega) (by omega) (by omega) (by simp;omega)
  refine this.trans ?_
  rw[show nT r.key true (d+1) (aL f (dD f a b)) 0=(nT r.key true d (aL f (dD f a b)) (aZ (aL f (dD f a b)) 0 r.key)) from by
   rw[nT,p1]
   simp only[Option.bind_some,List.nil_append]
   cases nT r.key true d (aL f (dD f a b)) (aZ (aL f (dD f a b)) 0 r.key)<;>rfl]
  cases nT r.key true d (aL f (dD f a b)) (aZ (aL f (dD f a b)) 0 r.key)<;>rfl
theorem WY{f f':List aA}{n n':Int}{k:Key}{new:Bool}{G:List aG}(h:mS f n k new=some (f',n',G)):G.length<=1:=by
 unfold mS at h
 split at h
 ·split at h
  ·cases h
  ·injection h with h;injection h with _ h;injection h with _ h;rw[<-h];simp
 ·injection h with h;injection h with _ h;injection h with _ h;rw[<-h];simp
theorem Kk{k:Key}{new:Bool}:∀{d:Nat} {f:List aA} {n:Int} {z:List aA×Int×List aG},nT k new d f n=some z->z.2.2.length<=d
 |0,f,n,z,h=>by cases h;simp
 |d+1,f,n,z,h=>by
  rw[nT] at h
  cases hs:mS f n k new with
  |none=>rw[hs] at h;cases h
  |some y=>
   rw[hs] at h
   simp only[Option.bind_some,Option.map_eq_some_iff] at h
   obtain⟨w,h1,h2⟩:=h
   have:=Kk h1
   have:=WY (f':=y.1) (n':=y.2.1) (G:=y.2.2) hs
   rw[<-h2];simp only[List.length_append];omega
theorem YK{f f':List aA}{D:Nat}{n':Int}{k:Key}{new:Bool}{G:List aG}(h:Good f D)(hw:G9 f D k new=some (f',n',G)):G.length<=100:=by
 have hd:=h.deep
 unfold G9 at hw
 split at hw
 ·split at hw
  ·rw[Option.map_eq_some_iff] at hw
   obtain⟨w,h1,h2⟩:=hw
   have:=Kk h1
   injection h2 with _ h2;injection h2 with _ h2
   rw[<-h2];simp only[List.length_cons];omega
  ·cases hw
 ·have:=Kk hw
  simp only at this;omega
theorem Ox(N:Nat)(hN:2000<=N){f:List aA}{D:Nat}(h:Good f D){r:Row}(hr:eF r=true)(hk:ltK r.key cC=false):
  (Gc (rws f D 0) r.key=true/\64<=(rws f D 0).length/\G9 f D r.key (Gc (rws f D 0) r.key)=none/\lI N ⟨f⟩ r=some (6,[]))\/
  ∃f' n' G D' l,G9 f D r.key (Gc (rws f D 0) r.key)=some (f',n',G)/\On f' D' 1 n' r.key/\pg f' n'=⟨1,l,[]⟩/\mI l/\(cL l r.key=none->l.length<=3)/\rws f' D' 0=rws f D 0/\qI (rws f D 0) f G f'/\
   Grp f' (one n' (rD r l))/\Good (aL f' (one n' (rD r l))) D'/\rws (aL f' (one n' (rD r l))) D' 0=rD r (rws f D 0)/\lI N ⟨f⟩ r=some (0,G++[⟨one n' (rD r l)⟩])/\
   G.length<=100/\∃T:List Int,T.length<=2*D/\n'∈0::T/\∀g∈G,∀s∈g.sheets,s.page∈0::T:=by
 have hw:=WX N hN h hk
 rcases aap (new:=Gc (rws f D 0) r.key) h hk with⟨e1,e2,e3⟩|⟨f',n',G,D',e1,e2,e3,e4,e5,T,e6,e7,e8⟩
 ·exact Or.inl ⟨e1,e3,e2,by rw[hw,e2];rfl⟩
 ·obtain⟨l,hp,hl,_,hfk⟩:=e2.leaf
  have hs:cL l r.key=none->l.length<=3:=λe=>by
   rw[e4] at hfk
   have:=e3 (Kd.2 (by rw[hfk];exact e))
   rw[hp] at this;simpa[aD] using this
  obtain⟨g1,g2,g3,g4⟩:=WQ e2 hr (λe=>by rw[hp];simp only[aD,List.length_nil];exact hs (by rw[<-hfk];exact e)) hp
  have hG:G.length<=100:=YK h e1
  refine Or.inr ⟨f',n',G,D',l,e1,e2,hp,hl,hs,e4,e5,g1,g2,by rw[g3,e4], ?_,hG,T,e6,e7,e8⟩
  rw[hw,e1]
  unfold Ow jM
  obtain⟨_,_,hi,_⟩:=e2.page
  simp only[show idx (aC.mk f').pages n'=some (pg f' n') from hi,hp,Option.bind_some,UD N (by omega) hl r hs,List.nil_append]
  rw[cE (by simp;omega) (by decide)];rfl
end Go.Proofs.YtlcmdgpjiendmaaGreat
namespace Go.Proofs.YtlcmdgpjiendmaaGreat
open Go.Bur
set_option linter.unusedSimpArgs false
set_option linter.unusedVariables false
set_option maxRecDepth 100000
theorem Ac.rise{f:List aA}{d:Nat}{lo:Key}{hi:Option Key}{l:List Kid}(h:Ac f d lo hi l)(hlo:ltK lo cC=false):l.Pairwise λa b=>ltK a.least b.least=true:=by
 obtain⟨i1,i2⟩:=Db h.ok λk hk=>by have:=h.page k hk;omega
 cases l with
 |nil=>simp
 |cons a t=>exact List.pairwise_cons.2 ⟨λx hx=>by rw[h.head a rfl];exact WH hlo (i1 x hx).1,i2⟩
theorem QP{α:Type}{r:α->α->Prop}{l:List α}(h:l.Pairwise r){j:Nat}{a b:α}(ha:l[j]? =some a)(hb:l[j+1]? =some b):r a b:=by
 obtain⟨h1,e1⟩:=List.getElem?_eq_some_iff.1 ha
 obtain⟨h2,e2⟩:=List.getElem?_eq_some_iff.1 hb
 rw[<-e1,<-e2]
 exact List.pairwise_iff_getElem.1 h j (j+1) h1 h2 (by omega)
theorem UF{f:List aA}{d:Nat}{lo:Key}{hi:Option Key}{c:aA}(h:yW f d lo hi c)(hlo:ltK lo cC=false):yT c=true:=by
 unfold yT
 rw[Bool.and_eq_true,xP,xP]
 have hprev:∀(l:List Row),Srt l->∀j x,l[j]? =some x->upR l (0+j) x=true:=λl hs j x hx=>by
  rw[Nat.zero_add]
  unfold upR lQ
  cases j with
  |zero=>rfl
  |succ j=>
   have hj:j<l.length:=by have:=(List.getElem?_eq_some_iff.1 hx).1;omega
   simp only[get_some hj,Option.map_some]
   exact QP hs (get_some hj) hx
 cases d with
 |zero=>
  obtain⟨l,rfl,h1,h2,h3⟩:=h
  exact⟨hprev l h2,λj x hx=>by simp at hx⟩
 |succ d=>
  obtain⟨l,rfl,h1⟩:=h
  refine⟨λj x hx=>by simp at hx,λj x hx=> ?_⟩
  rw[Nat.zero_add]
  simp only at hx|-
  have hr:=h1.rise hlo
  have hxl:=(List.getElem?_eq_some_iff.1 hx).1
  unfold upK
  rw[Bool.and_eq_true]
  refine⟨?_, ?_⟩
  ·unfold iM
   cases j with
   |zero=>rfl
   |succ j=>
    have hj:j<l.length:=by omega
    simp only[get_some hj,Option.map_some]
    exact QP hr (get_some hj) hx
  ·rw[Bool.not_eq_true',List.any_eq_false]
   intro y hy
   obtain⟨i,hi,rfl⟩:=List.mem_iff_getElem.1 hy
   rw[List.length_take] at hi
   rw[List.getElem_take,decide_eq_true_eq]
   intro e
   have hn:=List.pairwise_iff_getElem.1 (List.pairwise_map.1 h1.nodup) i j (by omega) hxl (by omega)
   rw[(List.getElem?_eq_some_iff.1 hx).2] at hn
   exact hn e
theorem E1{f:List aA}{D d:Nat}{n:Int}{k:Key}(h:On f D (d+2) n k)(hs:n≠0->3<=aD (pg f n))(hsm:aD (pg f (aZ f n k))<=2):
  ∃p1 u v p2,pg f n=⟨2,[],p1++u::v::p2⟩/\dP (p1++u::v::p2)/\pV (pg f n).kids (cB (pg f n).kids k)=p1.length+1/\mU f n (p1.length+1)=aD (pg f u.page)+aD (pg f v.page)/\
   (0<u.page/\u.page<64)/\(0<v.page/\v.page<64)/\aV (pg f u.page)=true/\aV (pg f v.page)=true/\mH (pg f u.page) (pg f v.page)=true/\aD (pg f u.page)<=4/\aD (pg f v.page)<=4/\
   mT f n (p1.length+1)=[⟨0,aO (pg f u.page) (pg f v.page) v.least⟩,⟨u.page,bT⟩,⟨v.page,bT⟩]/\
   kW f n (p1.length+1)=[⟨n,⟨2,[],p1++u::p2⟩⟩,⟨u.page,aO (pg f u.page) (pg f v.page) v.least⟩,⟨v.page,bT⟩]/\
   Aj f n (p1.length+1)=[⟨n,⟨2,[],p1++u::⟨cF (aO (pg f u.page) (pg f v.page) v.least) (eU (pg f u.page) (pg f v.page)),v.page⟩::p2⟩⟩,⟨u.page,eZ (aO (pg f u.page) (pg f v.page) v.least) (eU (pg f u.page) (pg f v.page))⟩,⟨v.page,eT (aO (pg f u.page) (pg f v.page) v.least) (eU (pg f u.page) (pg f v.page))⟩]/\
   (mU f n (p1.length+1)<=4->aV (aO (pg f u.page) (pg f v.page) v.least)=true/\aD (aO (pg f u.page) (pg f v.page) v.least)=mU f n (p1.length+1)/\(n=0/\(pg f n).kids.length=2->Grp f (mT f n (p1.length+1))/\Good (aL f (bK (mT f n (p1.length+1)))) (d+1))/\(¬(n=0/\(pg f n).kids.length=2)->Grp f (kW f n (p1.length+1))/\On (aL f (bK (kW f n (p1.length+1)))) D (d+2) n k))/\
   (¬mU f n (p1.length+1)<=4->aD (pg f u.page)≠aD (pg f v.page)/\AP (pg f u.page) (pg f v.page) v.least=true/\aD (aO (pg f u.page) (pg f v.page) v.least)=mU f n (p1.length+1)/\Grp f (Aj f n (p1.length+1))/\On (aL f (bK (Aj f n (p1.length+1)))) D (d+2) n k):=by
 obtain⟨l1,x,l2,hp,hI,hi,c1,c2,hd⟩:=h.kids
 have hik:cB (pg f n).kids k=l1.length:=by rw[hp];exact hi.symm
 have hnx:aZ f n k=x.page:=by unfold aZ;rw[hik,hp];exact congrArg (·.page) eP
 rw[hnx] at hsm
 obtain⟨p1,u,v,p2,e,ha,hcase⟩:=MR hI.two rfl
 have hp':pg f n=⟨2,[],p1++u::v::p2⟩:=by rw[<-e];exact hp
 have hI':dP (p1++u::v::p2):=e▸hI
 have haf:pV (pg f n).kids (cB (pg f n).kids k)=p1.length+1:=by rw[hik,hp];exact ha
 have hsB:mU f n (p1.length+1)=aD (pg f u.page)+aD (pg f v.page):=by unfold mU;rw[hp'];simp only;rw[A4,A5]
 have hh:=h
 obtain⟨lo,hiB,Q,R1,R2,hA,hw,hr1,hr2⟩:=hh
 obtain⟨P,hu,hv⟩:=hA.pair hp'
 have hb:=P.both.2.2.2
 have hxs:x=u\/x=v:=by rcases hcase with⟨a,_⟩|⟨a,_⟩;exact Or.inl a.symm;exact Or.inr a.symm
 have hx2:2<=aD (pg f x.page):=by rcases hxs with e|e<;>rw[e];exact P.x2;exact P.y2
 have q:=P.x2;have q2:=P.y2;have q3:=P.x4;have q4:=P.y4
 have hR:mT f n (p1.length+1)=[⟨0,aO (pg f u.page) (pg f v.page) v.least⟩,⟨u.page,bT⟩,⟨v.page,bT⟩]:=by unfold mT;rw[hp'];simp only;rw[A4,A5]
 have hJ:kW f n (p1.length+1)=[⟨n,⟨2,[],p1++u::p2⟩⟩,⟨u.page,aO (pg f u.page) (pg f v.page) v.least⟩,⟨v.page,bT⟩]:=by
  unfold kW;rw[hp'];simp only;rw[A4,A5,Kf,Kg];simp
 have hL:Aj f n (p1.length+1)=[⟨n,⟨2,[],p1++u::⟨cF (aO (pg f u.page) (pg f v.page) v.least) (eU (pg f u.page) (pg f v.page)),v.page⟩::p2⟩⟩,⟨u.page,eZ (aO (pg f u.page) (pg f v.page) v.least) (eU (pg f u.page) (pg f v.page))⟩,⟨v.page,eT (aO (pg f u.page) (pg f v.page) v.least) (eU (pg f u.page) (pg f v.page))⟩]:=by
  unfold Aj;rw[hp'];simp only;rw[A4,A5,Kf,Kg];simp
 have hlow:=Dc (l2:=v::p2) P.kids hA.low
 refine⟨p1,u,v,p2,hp',hI',haf,hsB,P.xp,P.yp,hA.ok _ ⟨by have:=P.xp;omega,P.xp.2⟩,hA.ok _ ⟨by have:=P.yp;omega,P.yp.2⟩,Ux P.cx P.cy,q3,q4,hR,hJ,hL,λhj=> ?_,λhj=> ?_⟩
 ·rw[hsB] at hj|-
  have hroot:n=0/\(pg f n).kids.length=2->Grp f (mT f n (p1.length+1))/\Good (aL f (bK (mT f n (p1.length+1)))) (d+1)/\aV (aO (pg f u.page) (pg f v.page) v.least)=true:=by
   rintro⟨rfl,hlen⟩
   have hD:=h.zero
   subst hD
   have hlen':(p1++u::v::p2).length=2:=by rw[hp'] at hlen;exact hlen
   obtain⟨rfl,rfl⟩:p1=[]/\p2=[]:=by
    simp only[List.length_append,List.length_cons] at hlen'
    exact⟨List.eq_nil_of_length_eq_zero (by omega),List.eq_nil_of_length_eq_zero (by omega)⟩
   rw[hR]
   obtain⟨g1,g2,g3⟩:=MQ h.good hp' rfl (by rw[hb];exact hj) rfl
   refine⟨g1,g2, ?_⟩
   have h0:=(YI hA.len (c1:=aO (pg f u.page) (pg f v.page) v.least) (c2:=bT) (c3:=bT) (pS hA.tree) (mJ hA.tree _ hu).1 (mJ hA.tree _ hv).1 P.xn P.yn P.xy).2.1
   rw[<-h0];exact g2.ok 0 ⟨by omega,by omega⟩
  have hjoin:¬(n=0/\(pg f n).kids.length=2)->Grp f (kW f n (p1.length+1))/\On (aL f (bK (kW f n (p1.length+1)))) D (d+2) n k/\aV (aO (pg f u.page) (pg f v.page) v.least)=true:=λhroot=>by
   have h3:3<=(p1++u::v::p2).length:=by
    by_cases h0:n=0
    ·have:=hI'.two
     have hne:¬(p1++u::v::p2).length=2:=λe=>hroot ⟨h0,by rw[hp'];exact e⟩
     omega
    ·have:=hs h0;rw[hp'] at this;simpa[aD] using this
   rw[hJ]
   obtain⟨g1,g2,g3,g4,g5⟩:=Tg h hp' rfl h3 (by rw[hb];exact hj) rfl
   refine⟨g1,g2, ?_⟩
   rw[<-g5];exact g2.good.ok _ ⟨by have:=P.xp;omega,P.xp.2⟩
  refine⟨?_,hb,λhr=>⟨(hroot hr).1,(hroot hr).2.1⟩,λhr=>⟨(hjoin hr).1,(hjoin hr).2.1⟩⟩
  by_cases hr:n=0/\(pg f n).kids.length=2
  ·exact(hroot hr).2.2
  ·exact(hjoin hr).2.2
 ·rw[hsB] at hj|-
  have hmm:(eU (pg f u.page) (pg f v.page)=3/\aD (pg f u.page)=2)\/(eU (pg f u.page) (pg f v.page)+1=aD (pg f u.page)/\aD (pg f v.page)=2):=by
   unfold eU
   rcases hxs with e|e
   ·rw[e] at hsm hx2
    left
    rw[if_neg (by omega)];omega
   ·rw[e] at hsm hx2
    right
    rw[if_pos (by omega)];omega
  obtain⟨g1,g2,g3,g4,g5,g6⟩:=QM h hp' rfl (m:=eU (pg f u.page) (pg f v.page)) (by rcases hmm with h|h<;>omega) (by rcases hmm with h|h<;>omega) (by rw[hb];rcases hmm with h|h<;>omega) (by rw[hb];rcases hmm with h|h<;>omega) rfl
  obtain⟨_,_,_,_,_,d6,d7⟩:=AY (m:=eU (pg f u.page) (pg f v.page)) P.both.1 (by rcases hmm with h|h<;>omega) (by rw[hb];rcases hmm with h|h<;>omega)
  refine⟨by rcases hmm with h|h<;>omega, ?_,hb,by rw[hL];exact g1,by rw[hL];exact g2⟩
  have k1:=(congrArg aV g5).symm.trans (g2.good.ok _ ⟨by have:=P.xp;omega,P.xp.2⟩)
  have k2:=(congrArg aV g6).symm.trans (g2.good.ok _ ⟨by have:=P.yp;omega,P.yp.2⟩)
  unfold AP
  rw[UF P.both.1 hlow,k1,k2,d7,hb,decide_eq_false (by rcases hmm with h|h<;>omega)];rfl
end Go.Proofs.YtlcmdgpjiendmaaGreat
namespace Go.Proofs.YtlcmdgpjiendmaaGreat
open Go.Bur
set_option linter.unusedSimpArgs false
set_option linter.unusedVariables false
set_option maxRecDepth 100000
def gL(f:List aA):Prop:=∀m,Keys (pg f m)
theorem QR:Keys bT:=⟨by simp[bT],by simp[bT]⟩
theorem WZ{f:List aA}(h:∀c∈f,Keys c):gL f:=λm=>by
 by_cases hm:0<=m/\m<f.length
 ·exact h _ (WE hm)
 ·have:idx f m=none:=by
   unfold idx
   by_cases h0:0<=m
   ·rw[if_pos h0,List.getElem?_eq_none (by omega)]
   ·rw[if_neg h0]
  unfold pg;rw[this];exact QR
theorem gL.mem{f:List aA}(h:gL f):∀c∈f,Keys c:=λc hc=>by obtain⟨m,_,rfl⟩:=Om hc;exact h m
theorem gL.set{f:List aA}(hf:f.length=64)(h:gL f){n:Int}(hn:0<=n/\n<64){c:aA}(hc:Keys c):gL (EX f n c):=λm=>by
 rw[Ot hf hn]
 split
 ·exact hc
 ·exact h m
theorem wT:∀{l:List aF} {f:List aA},f.length=64->gL f->cH l->(∀s∈l,Keys s.content)->gL (aL f l):=by
 intro l
 induction l with
 |nil=>intro f _ h _ _;exact h
 |cons s t ih=>intro f hf h hl hc;exact ih (by rw[rV];exact hf) (h.set hf (hl s (List.mem_cons_self ..)) (hc s (List.mem_cons_self ..))) (λx hx=>hl x (List.mem_cons_of_mem _ hx)) (λx hx=>hc x (List.mem_cons_of_mem _ hx))
theorem Hd{c:aA}(h:Keys c)(m:Nat):nZ (cF c m):=by
 unfold cF sW
 split
 ·rename_i x t e
  exact h.kids x (List.mem_of_mem_drop (by rw[e];exact List.mem_cons_self ..))
 ·split
  ·rename_i r t e
   exact h.rows r (List.mem_of_mem_drop (by rw[e];exact List.mem_cons_self ..))
  ·exact NS
theorem Kl{l:List Kid}(h:∀k∈l,nZ k.least)(i:Nat):nZ (bZ l i).least:=by
 unfold bZ
 cases e:l[i]? with
 |none=>exact NS
 |some x=>exact h x (List.mem_of_getElem? e)
theorem QS{f:List aA}(h:gL f)(n:Int)(i:Nat)(m:Int):∀s∈dI f n i m,Keys s.content:=λs hs=>by
 simp only[dI,List.mem_cons,List.not_mem_nil,or_false] at hs
 rcases hs with rfl|rfl|rfl
 ·refine⟨by simp,λk hk=> ?_⟩
  simp only at hk
  rcases List.mem_append.1 hk with hk|hk
  ·exact(h n).kids k (List.mem_of_mem_take hk)
  ·rcases List.mem_cons.1 hk with rfl|hk
   ·exact Hd (h _) 2
   ·exact(h n).kids k (List.mem_of_mem_drop hk)
 ·exact C4 (h _)
 ·exact C5 (h _)
theorem Sc{f:List aA}(h:gL f)(a b:Int):∀s∈dD f a b,Keys s.content:=λs hs=>by
 simp only[dD,List.mem_cons,List.not_mem_nil,or_false] at hs
 rcases hs with rfl|rfl|rfl
 ·refine⟨by simp,λk hk=> ?_⟩
  simp only[List.mem_cons,List.not_mem_nil,or_false] at hk
  rcases hk with rfl|rfl
  ·exact NS
  ·exact Hd (h _) 2
 ·exact C4 (h _)
 ·exact C5 (h _)
theorem Sd{f:List aA}(h:gL f)(n:Int)(a:Nat):∀s∈mT f n a,Keys s.content:=λs hs=>by
 simp only[mT,List.mem_cons,List.not_mem_nil,or_false] at hs
 rcases hs with rfl|rfl|rfl
 ·exact C3 (h _) (h _) (Kl (h n).kids a)
 ·exact QR
 ·exact QR
theorem Se{f:List aA}(h:gL f)(n:Int)(a:Nat):∀s∈kW f n a,Keys s.content:=λs hs=>by
 simp only[kW,List.mem_cons,List.not_mem_nil,or_false] at hs
 rcases hs with rfl|rfl|rfl
 ·refine⟨by simp,λk hk=> ?_⟩
  simp only at hk
  rcases List.mem_append.1 hk with hk|hk
  ·exact(h n).kids k (List.mem_of_mem_take hk)
  ·exact(h n).kids k (List.mem_of_mem_drop hk)
 ·exact C3 (h _) (h _) (Kl (h n).kids a)
 ·exact QR
theorem UG{f:List aA}(h:gL f)(n:Int)(a:Nat):∀s∈Aj f n a,Keys s.content:=λs hs=>by
 have hB:=C3 (h (bZ (pg f n).kids (a-1)).page) (h (bZ (pg f n).kids a).page) (Kl (h n).kids a)
 simp only[Aj,List.mem_cons,List.not_mem_nil,or_false] at hs
 rcases hs with rfl|rfl|rfl
 ·refine⟨by simp,λk hk=> ?_⟩
  simp only at hk
  rcases List.mem_append.1 hk with hk|hk
  ·exact(h n).kids k (List.mem_of_mem_take hk)
  ·rcases List.mem_cons.1 hk with rfl|hk
   ·exact Hd hB _
   ·exact(h n).kids k (List.mem_of_mem_drop hk)
 ·exact C4 hB
 ·exact C5 hB
theorem CG{P:aA->Prop}{l:List aF}(h:∀s∈l,P s.content):∀s∈bK l,P s.content:=λs hs=>h s ((cU l).mem_iff.1 hs)
def dE(f:List aA)(n:Int)(k:Key):Bool×List aF:=
 if aD (pg f (aZ f n k))<=2 then
  if mU f n (pV (pg f n).kids (cB (pg f n).kids k))<=4 then
   if n=0/\(pg f n).kids.length=2 then(true,bK (mT f n (pV (pg f n).kids (cB (pg f n).kids k)))) else(false,bK (kW f n (pV (pg f n).kids (cB (pg f n).kids k))))
  else(false,bK (Aj f n (pV (pg f n).kids (cB (pg f n).kids k))))
 else(false,[])
theorem Dl(f:List aA)(n:Int)(k:Key):cZ f n k=(aL f (dE f n k).2,(if(dE f n k).1=true then 0 else aZ (aL f (dE f n k).2) n k),if(dE f n k).2=[] then [] else [⟨(dE f n k).2⟩])\/False:=by
 left
 have hne:∀{l:List aF},l.length=3->bK l≠[]:=λ{l} h e=>by have:=(cU l).length_eq;rw[e,h] at this;simp at this
 unfold cZ dE
 simp only
 by_cases h1:aD (pg f (aZ f n k))<=2
 ·simp only[if_pos h1]
  by_cases h2:mU f n (pV (pg f n).kids (cB (pg f n).kids k))<=4
  ·simp only[if_pos h2]
   by_cases h3:n=0/\(pg f n).kids.length=2
   ·simp only[if_pos h3]
    rw[if_neg (hne (by simp[mT]))];rfl
   ·simp only[if_neg h3]
    rw[if_neg (hne (by simp[kW]))];rfl
  ·simp only[if_neg h2]
   rw[if_neg (hne (by simp[Aj]))];rfl
 ·simp only[if_neg h1];rfl
theorem E2{f:List aA}{D d:Nat}{n:Int}{k:Key}(h:On f D (d+2) n k)(hs:n≠0->3<=aD (pg f n)):cH (dE f n k).2/\(dE f n k).2.length<=3/\((dE f n k).1=true->n=0)/\((dE f n k).1=false->On (aL f (dE f n k).2) D (d+2) n k)/\(gL f->∀s∈(dE f n k).2,Keys s.content):=by
 have hlen:∀l:List aF,l.length=3->(bK l).length<=3:=λl h=>by rw[(cU l).length_eq,h];omega
 unfold dE
 by_cases h1:aD (pg f (aZ f n k))<=2
 case neg=>rw[if_neg h1];exact⟨by simp[cH],by simp,by simp,λ_=>h,by simp⟩
 rw[if_pos h1]
 obtain⟨p1,u,v,p2,_,_,ha,_,_,_,_,_,_,_,_,_,_,_,hj,hl⟩:=E1 h hs h1
 rw[ha]
 by_cases h2:mU f n (p1.length+1)<=4
 ·rw[if_pos h2]
  obtain⟨_,_,hr,hjn⟩:=hj h2
  by_cases h3:n=0/\(pg f n).kids.length=2
  ·rw[if_pos h3]
   exact⟨(A3 (hr h3).1).rng,hlen _ (by simp[mT]),λ_=>h3.1,by simp,λhK=>CG (Sd hK _ _)⟩
  ·rw[if_neg h3]
   exact⟨(A3 (hjn h3).1).rng,hlen _ (by simp[kW]),by simp,λ_=>(hjn h3).2,λhK=>CG (Se hK _ _)⟩
 ·rw[if_neg h2]
  obtain⟨_,_,_,g1,g2⟩:=hl h2
  exact⟨(A3 g1).rng,hlen _ (by simp[Aj]),by simp,λ_=>g2,λhK=>CG (UG hK _ _)⟩
theorem Oy{p1 p2:List Kid}{u v:Kid}:idx (p1++u::v::p2) (p1.length:Int)=some u/\idx (p1++u::v::p2) ((p1.length+1:Nat):Int)=some v:=by
 refine⟨NU, ?_⟩
 have:=NU (A:=p1++[u]) (B:=p2) (o:=v)
 simpa using this
theorem W1(N:Nat)(hN:1003<=N){f:List aA}{D d:Nat}{n:Int}{k:Key}(h:On f D (d+2) n k)(hs:n≠0->3<=aD (pg f n))(hK:gL f):AI N ⟨f⟩ n k=some (dE f n k):=by
 obtain⟨hn,hf,hi,hc⟩:=h.page
 obtain⟨hx,_,hxi,hxc⟩:=h.next.page
 have hxp:(bZ (pg f n).kids (cB (pg f n).kids k)).page=aZ f n k:=rfl
 have hkl:=Oo h.kind.2.2.1 k
 have hk4:=h.kind.2.2.1.four
 unfold AI dE
 rw[show idx (aC.mk f).pages n=some (pg f n) from hi]
 simp only[Option.bind_some,h.rkid N hN,h.kid_idx,hxp,show idx (aC.mk f).pages (aZ f n k)=some (pg f (aZ f n k)) from hxi,zQ N _ (bS hxc)]
 by_cases h1:aD (pg f (aZ f n k))<=2
 case neg=>rw[if_neg h1];refine(VF (decide_eq_true ?_)).trans rfl;show(aD (pg f (aZ f n k)):Int)>2;omega
 rw[if_pos h1]
 refine(Ru (decide_eq_false ?_)).trans ?_
 ·show ¬(aD (pg f (aZ f n k)):Int)>2;omega
 obtain⟨p1,u,v,p2,hp,hI,ha,hsB,hup,hvp,hcu,hcv,hal,hu4,hv4,hR,hJ,hL,hj,hl⟩:=E1 h hs h1
 have hlen100:(p1++u::v::p2).length<=100:=by have:=hI.four;omega
 have hiu:idx (aC.mk f).pages u.page=some (pg f u.page):=gI (f:=f) ⟨by omega,by omega⟩
 have hiv:idx (aC.mk f).pages v.page=some (pg f v.page):=gI (f:=f) ⟨by omega,by omega⟩
 have hfu:=bS hcu
 have hfv:=bS hcv
 have hv':(p1++[u]++v::p2)=p1++u::v::p2:=by simp
 rw[ha]
 have key:yJ N (n,((p1.length+1:Nat):Int),⟨f⟩,pg f n,())=some (if mU f n (p1.length+1)<=4 then(if n=0/\(pg f n).kids.length=2 then(true,bK (mT f n (p1.length+1))) else(false,bK (kW f n (p1.length+1)))) else(false,bK (Aj f n (p1.length+1)))):=by
  obtain⟨m1,m2⟩:=Oy (p1:=p1) (p2:=p2) (u:=u) (v:=v)
  have hw:IntKind.wrap .i64 (((p1.length+1:Nat):Int)-1)=(p1.length:Int):=by rw[cN (by simp only[List.length_append] at hlen100;omega)];omega
  have hfB:dS (aO (pg f u.page) (pg f v.page) v.least):=C2 hfu hfv (by show aD (pg f u.page)<=100;omega) (by show aD (pg f v.page)<=100;omega)
  have hdis:=Sb N hN (pg f n) (l1:=p1++[u]) (l2:=p2) (x:=v) (by rw[hp,hv']) (by rw[hv'];exact hlen100)
  have hstp:=λs=>WR N hN (pg f n) (l1:=p1++[u]) (l2:=p2) (x:=v) (by rw[hp,hv']) (by rw[hv'];exact hlen100) s
  rw[show(p1++[u]).length=p1.length+1 by simp] at hdis hstp
  have hkd:(pg f n).kids=p1++u::v::p2:=by rw[hp]
  rw[<-hkd] at m1 m2
  unfold yJ
  simp only[hw,m1,m2,Option.bind_some,hiu,hiv,Pw N hN _ _ hfu hfv,zQ N _ hfB,jn]
  by_cases h2:mU f n (p1.length+1)<=4
  ·rw[if_pos h2]
   obtain⟨hck,hsz,hr,hjn⟩:=hj h2
   rw[hsz,show decide ((mU f n (p1.length+1):Int)<=4)=true from decide_eq_true (by omega)]
   simp only[cond_true,Qr]
   have hlen2:(((pg f n).kids.length:Int)==2)=decide ((pg f n).kids.length=2):=NJ (m:=2)
   by_cases h3:n=0/\(pg f n).kids.length=2
   ·rw[if_pos h3,decide_eq_true h3.1,cond_true,hlen2,decide_eq_true h3.2,cond_true]
    have g1:=(hr h3).1
    rw[hR] at g1|-
    rw[show(aA.mk 0 ([]:List Row) ([]:List Kid))=bT from rfl,A6 N hN g1.rng g1.nodup (by simp)];rfl
   ·rw[if_neg h3]
    have g1:=(hjn h3).1
    have hgo:jL N [⟨n,⟨2,[],p1++[u]++p2⟩⟩,⟨u.page,aO (pg f u.page) (pg f v.page) v.least⟩,⟨v.page,bT⟩]=some (bK (kW f n (p1.length+1))):=by
     rw[hJ] at g1|-
     rw[show p1++[u]++p2=p1++u::p2 by simp]
     exact A6 N hN g1.rng g1.nodup (by simp)
    simp only[hdis,Option.bind_some,show(aA.mk 0 ([]:List Row) ([]:List Kid))=bT from rfl,hgo]
    by_cases hn0:n=0
    ·rw[decide_eq_true hn0,cond_true,hlen2,decide_eq_false (λe=>h3 ⟨hn0,e⟩)];rfl
    ·rw[decide_eq_false hn0];rfl
  ·rw[if_neg h2]
   obtain⟨hne,hq,hsz,g1,g2⟩:=hl h2
   rw[hsz,show decide ((mU f n (p1.length+1):Int)<=4)=false from decide_eq_false (by omega)]
   simp only[cond_false]
   rw[T1 N hN _ _ _ hfu hfv (by omega) (by omega) (hK _) (hK _) ((hK n).kids v (by rw[hp];simp)),hal,decide_eq_false hne]
   simp only[Bool.not_false,Bool.and_self,if_true,hq,Option.bind_some,hstp]
   rw[hL] at g1|-
   rw[show p1++[u]++⟨cF (aO (pg f u.page) (pg f v.page) v.least) (eU (pg f u.page) (pg f v.page)),v.page⟩::p2=p1++u::⟨cF (aO (pg f u.page) (pg f v.page) v.least) (eU (pg f u.page) (pg f v.page)),v.page⟩::p2 by simp]
   rw[A6 N hN g1.rng g1.nodup (by simp)];rfl
 simp only[jn]
 rw[aJ (show cB (pg f n).kids k<4611686018427387904 by omega),show(((cB (pg f n).kids k+1:Nat):Int)==((pg f n).kids.length:Int))=decide (cB (pg f n).kids k+1=(pg f n).kids.length) from NJ]
 unfold pV at ha
 by_cases he:cB (pg f n).kids k+1=(pg f n).kids.length
 ·rw[if_pos he] at ha
  rw[decide_eq_true he,cond_true,ha];exact key
 ·rw[if_neg he] at ha
  rw[decide_eq_false he,cond_false,ha];exact key
theorem YL(N:Nat)(hN:1003<=N)(k:Key):∀(d m c D:Nat)(f:List aA)(n:Int)(gs:List aG),On f D (d+1) n k->(n≠0->3<=aD (pg f n))->gL f->d<m->c+d<40->gs.length+d<=1000->
  mQ N (jZ N) m (n,(c:Int),⟨f⟩,k,gs,())=jZ N ((cT k d f n).2.1,⟨(cT k d f n).1⟩,k,gs++(cT k d f n).2.2,()):=by
 intro d
 induction d with
 |zero=>
  intro m c D f n gs h hs hK hm hc hg
  obtain⟨m,rfl⟩:∃m',m=m'+1:=⟨m-1,by omega⟩
  obtain⟨_,_,hi,_⟩:=h.page
  obtain⟨l,hp,_⟩:=h.leaf
  unfold mQ
  rw[aM]
  simp only[show decide ((c:Int)<40)=true from decide_eq_true (by omega),cond_true,show idx (aC.mk f).pages n=some (pg f n) from hi,Option.bind_some]
  rw[show((pg f n).kind==1)=true from by rw[hp];rfl,cond_true]
  simp[cT]
 |succ d ih=>
  intro m c D f n gs h hs hK hm hc hg
  obtain⟨m,rfl⟩:∃m',m=m'+1:=⟨m-1,by omega⟩
  obtain⟨hn,hf,hi,hck⟩:=h.page
  obtain⟨D',f1,f2,f3,f4,_⟩:=Ir h hs
  obtain⟨s1,s2,s3,s4,s5⟩:=E2 h hs
  have hff:=(Dl f n k).resolve_right id
  have hK':gL (cZ f n k).1:=by rw[hff];exact wT hf hK s1 (s5 hK)
  unfold mQ
  rw[aM]
  generalize hr2:aW _ m=r2
  replace hr2:mQ N (jZ N) m=r2:=hr2
  simp only[show decide ((c:Int)<40)=true from decide_eq_true (by omega),cond_true,show idx (aC.mk f).pages n=some (pg f n) from hi,Option.bind_some,W1 N hN h hs hK,jn]
  rw[show((pg f n).kind==1)=false from by rw[h.kind.1];rfl,cond_false]
  have hj3:∀gs':List aG,gs'.length+d<=1000->yL N r2 (n,(c:Int),(dE f n k).1,⟨aL f (dE f n k).2⟩,k,gs',())=jZ N ((cT k d (cZ f n k).1 (cZ f n k).2.1).2.1,⟨(cT k d (cZ f n k).1 (cZ f n k).2.1).1⟩,k,gs'++(cT k d (cZ f n k).1 (cZ f n k).2.1).2.2,()):=λgs' hg'=>by
   have hnext:=ih m (c+1) D' (cZ f n k).1 (cZ f n k).2.1 gs' f1 f2 hK' (by omega) (by omega) hg'
   rw[<-hnext,hr2]
   have e1:(cZ f n k).1=aL f (dE f n k).2:=by rw[hff]
   have e2:(cZ f n k).2.1=if(dE f n k).1=true then 0 else aZ (aL f (dE f n k).2) n k:=by rw[hff]
   rw[e1,e2]
   unfold yL
   simp only[jn,D3,aJ (show c<4611686018427387904 by omega)]
   cases hb:(dE f n k).1 with
   |true=>
    have:=s3 hb
    simp only[Bool.not_true,cond_false,if_true]
    rw[this]
   |false=>
    have hon:=s4 hb
    obtain⟨_,_,hi',_⟩:=hon.page
    simp only[Bool.not_false,cond_true,show idx (aC.mk (aL f (dE f n k).2)).pages n=some (pg (aL f (dE f n k).2) n) from hi',Option.bind_some,hon.rkid N hN,hon.kid_idx]
    rfl
  have e3:(cZ f n k).2.2=if(dE f n k).2=[] then [] else [⟨(dE f n k).2⟩]:=by rw[hff]
  rw[cT,e3]
  by_cases hz:(dE f n k).2=[]
  ·rw[if_pos hz,List.nil_append]
   have:=hj3 gs (by omega)
   rw[hz] at this|-
   exact this
  ·rw[if_neg hz]
   have hpos:0<(dE f n k).2.length:=List.length_pos_iff.2 hz
   simp only[show decide (((dE f n k).2.length:Int)>0)=true from decide_eq_true (by omega),cond_true,cE (show gs.length+[aG.mk (dE f n k).2].length<=1000000 by simp;omega) (show 24<=1000 by omega),Option.bind_some,CE N hN hf s1 (show(dE f n k).2.length<=900 by omega)]
   rw[hj3 _ (by simp;omega),List.append_assoc]
theorem Km(N:Nat)(hN:2000<=N){f:List aA}{D:Nat}(h:Good f D)(hK:gL f){k:Key}(hk:ltK k cC=false){x:Row}(hx:cL (rws f D 0) k=some x):
  ∃f' n' G D' l,cT k (D-1) f 0=(f',n',G)/\On f' D' 1 n' k/\pg f' n'=⟨1,l,[]⟩/\mI l/\cL l k=some x/\rws f' D' 0=rws f D 0/\qI (rws f D 0) f G f'/\
   Grp f' (one n' (others k l))/\Good (aL f' (one n' (others k l))) D'/\rws (aL f' (one n' (others k l))) D' 0=others k (rws f D 0)/\qS N ⟨f⟩ k=some (G++[⟨one n' (others k l)⟩])/\
   G.length<=100/\∃T:List Int,T.length<=2*(D-1)/\n'∈0::T/\∀g∈G,∀s∈g.sheets,s.page∈0::T:=by
 obtain⟨D',g1,g2,g3,g4,T,g5,g6,g7⟩:=YJ h hk
 have hdeep:=h.deep
 have hpos:=h.pos
 obtain⟨l,hp,hl,_,hfk⟩:=g1.leaf
 rw[g3,hx] at hfk
 obtain⟨q1,q2,q3,q4,q5⟩:=Uy g1 (by rw[g3];exact hx) g2 hp
 have hlen:∀(d:Nat)(f:List aA)(n:Int),(cT k d f n).2.2.length<=d:=by
  intro d
  induction d with
  |zero=>intro f n;simp[cT]
  |succ d ih=>
   intro f n
   have h1:(cZ f n k).2.2.length<=1:=by rw[(Dl f n k).resolve_right id];simp only;split<;>simp
   have:=ih (cZ f n k).1 (cZ f n k).2.1
   simp only[cT,List.length_append];omega
 have hG:=hlen (D-1) f 0
 refine⟨_,_,_,D',l,rfl,g1,hp,hl,q5,g3,g4,q1,q2,by rw[q3,g3], ?_,Nat.le_trans hG (by omega),T,g5,g6,g7⟩
 unfold qS
 simp only[jn]
 have:=YL N (by omega) k (D-1) N 0 D f 0 [] (by rw[show D-1+1=D by omega];exact On.root h hk) (λe=>absurd rfl e) hK (by omega) (by omega) (by simp;omega)
 rw[show((0:Nat):Int)=0 from rfl] at this
 rw[this]
 unfold jZ
 obtain⟨_,_,hi,_⟩:=g1.page
 have hl4:=hl.len
 simp only[show idx (aC.mk (cT k (D-1) f 0).1).pages (cT k (D-1) f 0).2.1=some (pg (cT k (D-1) f 0).1 (cT k (D-1) f 0).2.1) from hi,Option.bind_some,hp,EM N (by omega) l (by omega) k,qM,List.nil_append]
 rw[cE (by simp;omega) (by decide)];rfl
end Go.Proofs.YtlcmdgpjiendmaaGreat
namespace Go.Proofs.YtlcmdgpjiendmaaGreat
open Go.Bur
set_option linter.unusedSimpArgs false
set_option linter.unusedVariables false
set_option maxRecDepth 100000
theorem MU{f f':List aA}{n n':Int}{k:Key}{new:Bool}{G:List aG}(h:mS f n k new=some (f',n',G)):(f'=f/\G=[])\/∃m,f'=aL f (bK (dI f n (cB (pg f n).kids k) m))/\G=[⟨bK (dI f n (cB (pg f n).kids k) m)⟩]:=by
 unfold mS at h
 split at h
 ·split at h
  ·cases h
  ·rename_i m t _
   injection h with h;injection h with h1 h;injection h with _ h
   exact Or.inr ⟨m,h1.symm,h.symm⟩
 ·injection h with h;injection h with h1 h;injection h with _ h
  exact Or.inl ⟨h1.symm,h.symm⟩
theorem He{k:Key}{new:Bool}:∀{d D:Nat} {f:List aA} {n:Int} {z:List aA×Int×List aG},On f D (d+1) n k->(new=true->aD (pg f n)<=3)->gL f->nT k new d f n=some z->gL z.1
 |0,_,f,n,z,_,_,hK,h=>by cases h;exact hK
 |d+1,D,f,n,z,ho,hs,hK,h=>by
  rcases CD ho hs with⟨_,_,e⟩|⟨f1,n1,G1,e,⟨s1,s2,s3,s4⟩,_⟩
  ·rw[nT,e] at h;cases h
  ·have hK1:gL f1:=by
    rcases MU e with⟨h1,_⟩|⟨m,h1,h2⟩
    ·rw[h1];exact hK
    ·rw[h2] at s4
     rw[h1]
     exact wT ho.page.2.1 hK s4.1.rng (CG (QS hK _ _ _))
   rw[nT,e] at h
   simp only[Option.bind_some,Option.map_eq_some_iff] at h
   obtain⟨w,h1,h2⟩:=h
   have:=He s1 s2 hK1 h1
   rw[<-h2];exact this
theorem QT{f:List aA}{D:Nat}{k:Key}{new:Bool}{z:List aA×Int×List aG}(h:Good f D)(hk:ltK k cC=false)(hK:gL f)(hw:G9 f D k new=some z):gL z.1:=by
 have hpos:=h.pos
 obtain⟨d,rfl⟩:∃d,D=d+1:=⟨D-1,by omega⟩
 have hf0:=rC h.tree
 have h4:=(wS h.tree).2.1
 unfold G9 at hw
 rw[hf0] at hw
 by_cases hc:(new&&decide (aD (pg f 0)=4))=true
 ·rw[if_pos hc] at hw
  rw[Bool.and_eq_true,decide_eq_true_eq] at hc
  split at hw
  ·rename_i a b t hfr
   obtain⟨q1,q2,q3,q4,_⟩:=vH h hc.2 hfr
   rw[Option.map_eq_some_iff] at hw
   obtain⟨w,h1,h2⟩:=hw
   have:=He (On.root q2 hk) (λ_=>by rw[q4];simp[aD]) (wT h.len hK (A3 q1).rng (CG (Sc hK a b))) h1
   rw[<-h2];exact this
  ·cases hw
 ·rw[if_neg hc,Nat.add_sub_cancel] at hw
  exact He (On.root h hk) (λe=>by rw[e,Bool.true_and,decide_eq_true_eq] at hc;omega) hK hw
theorem Ko{k:Key}:∀{d D:Nat} {f:List aA} {n:Int},On f D (d+1) n k->(n≠0->3<=aD (pg f n))->gL f->gL (cT k d f n).1
 |0,_,f,n,_,_,hK=>hK
 |d+1,D,f,n,ho,hs,hK=>by
  obtain⟨D',f1,f2,_⟩:=Ir ho hs
  obtain⟨s1,_,_,_,s5⟩:=E2 ho hs
  show gL (cT k d (cZ f n k).1 (cZ f n k).2.1).1
  exact Ko f1 f2 (by rw[(Dl f n k).resolve_right id];exact wT ho.page.2.1 hK s1 (s5 hK))
theorem MV{f:List aA}(hf:f.length=64)(hK:gL f){n:Int}{l:List Row}(h:Grp f (one n l))(hl:∀r∈l,nZ r.key):gL (aL f (one n l)):=
 wT hf hK h.rng λs hs=>by cases List.mem_singleton.1 hs;exact⟨hl,by simp⟩
theorem W2{r:Row}{l:List Row}(hs:Srt l):∀x∈rD r l,x=r\/x∈l:=λx hx=>by
 rcases MP hs r.key with⟨pre,y,post,rfl,hy,hc,_⟩|⟨pre,post,rfl,hc,_⟩
 ·rw[Dj hy hc] at hx
  simp only[List.mem_append,List.mem_cons] at hx|-
  rcases hx with h|h|h
  ·exact Or.inr (Or.inl h)
  ·exact Or.inl h
  ·exact Or.inr (Or.inr (Or.inr h))
 ·rw[Ai hc] at hx
  simp only[List.mem_append,List.mem_cons] at hx|-
  rcases hx with h|h|h
  ·exact Or.inr (Or.inl h)
  ·exact Or.inl h
  ·exact Or.inr (Or.inr h)
theorem Hf{R:List Row}:∀{gs:List aG} {f f':List aA},qI R f gs f'->(gK gs).length<=64*gs.length
 |[],_,_,_=>by simp[gK]
 |g::gs,f,f',⟨h1,_,_,h2⟩=>by
  have:=Hf h2
  have hg:=oG h1.nodup λx hx=>by obtain⟨s,hs,rfl⟩:=List.mem_map.1 hx;exact h1.rng s hs
  rw[List.length_map] at hg
  simp only[gK,List.flatMap_cons,List.length_append,List.length_cons] at this|-
  omega
theorem Kp(N:Nat)(hN:20002<=N){R:List Row}{f f':List aA}{G:List aG}{sh:List aF}(hf:f.length=64)(h:qI R f G f')(hG:G.length<=100)(hs:Grp f' sh):∃l,lG N (G++[⟨sh⟩])=some l/\gG N ⟨f⟩ l=some ⟨aL f' sh⟩:=by
 obtain⟨e1,e2⟩:=EZ h
 have hl:=Hf h
 have hsl:=oG hs.nodup λx hx=>by obtain⟨s,hs',rfl⟩:=List.mem_map.1 hx;exact hs.rng s hs'
 rw[List.length_map] at hsl
 have ea:gK (G++[⟨sh⟩])=gK G++sh:=by simp[gK]
 have hin:cH (gK (G++[⟨sh⟩])):=λs hs'=>by
  rw[ea] at hs'
  rcases List.mem_append.1 hs' with h|h
  ·exact e2 s h
  ·exact hs.rng s h
 refine⟨_,Ti N hN _ (by rw[ea];simp only[List.length_append,List.length_singleton];omega), ?_⟩
 have hin':cH (CF (gK (G++[⟨sh⟩]))):=λs hs'=>hin s (Gd s hs')
 have hnl:=oG (Dk (A7 (l:=gK (G++[⟨sh⟩])))) λx hx=>by obtain⟨s,hs',rfl⟩:=List.mem_map.1 hx;exact hin' s hs'
 rw[List.length_map] at hnl
 rw[CE N (by omega) hf hin' (by omega),Ki hf hin,ea,xQ,e1]
def Kq(f:List aA):Prop:=∃D,Good f D/\gL f/\(rws f D 0).length<=60
def W3(i:Int):Row:=⟨⟨0,i⟩,0,ByteArray.empty⟩
theorem u16_in(x:Int):0<=IntKind.wrap .u16 x/\IntKind.wrap .u16 x<65536:=by
 rw[IntKind.wrap_u16];omega
theorem Tk{i:Int}(h:0<=i/\i<65536):eF (W3 i)=true/\nZ (W3 i).key/\ltK (W3 i).key cC=false:=
 ⟨rfl,h,by rw[vF];show ¬((0:Int)<0\/((0:Int)=0/\i<0));omega⟩
theorem W4(N:Nat)(hN:20002<=N){f:List aA}(h:Kq f){r:Row}(hr:eF r=true)(hi:nZ r.key)(hlen:∀D,Good f D->cL (rws f D 0) r.key=none->(rws f D 0).length<60):∃y l f2,lI N ⟨f⟩ r=some y/\lG N y.2=some l/\gG N ⟨f⟩ l=some ⟨f2⟩/\Kq f2:=by
 obtain⟨D,hg,hK,h60⟩:=h
 have hk:=MT hr hi
 rcases Ox N (by omega) hg hr hk with⟨_,_,_,e⟩|⟨f',n',G,D',l,e1,e2,e3,e4,e5,e6,e7,e8,e9,e10,e11,e12,_⟩
 ·refine⟨_,[],f,e, ?_, ?_,D,hg,hK,h60⟩
  ·exact Ti N hN [] (by simp[gK])
  ·exact CE N (by omega) hg.len (by simp[cH]) (by simp)
 ·obtain⟨ls,q1,q2⟩:=Kp N hN hg.len e7 e12 e8
  have hlf:=e2.page.2.1
  refine⟨_,ls,_,e11,q1,q2,D',e9,MV hlf (QT hg hk hK e1) e8 λx hx=> ?_, ?_⟩
  ·rcases W2 e4.srt x hx with rfl|hx
   ·exact hi
   ·have:=(QT hg hk hK e1 n').rows x (by rw[e3];exact hx)
    exact this
  ·rw[e10,QL (Ab hg.tree).1]
   split
   ·rename_i hn;have:=hlen D hg hn;omega
   ·exact h60
theorem UH(N:Nat)(hN:20002<=N){f:List aA}(h:Kq f){k:Key}(hk:ltK k cC=false)(hx:∀D,Good f D->cL (rws f D 0) k≠none):∃y l f2,qS N ⟨f⟩ k=some y/\lG N y=some l/\gG N ⟨f⟩ l=some ⟨f2⟩/\Kq f2:=by
 obtain⟨D,hg,hK,h60⟩:=h
 obtain⟨x,hx⟩:=Option.ne_none_iff_exists'.1 (hx D hg)
 obtain⟨f',n',G,D',l,e1,e2,e3,e4,e5,e6,e7,e8,e9,e10,e11,e12,_⟩:=Km N (by omega) hg hK hk hx
 obtain⟨ls,q1,q2⟩:=Kp N hN hg.len e7 e12 e8
 have hKf:gL f':=by
  have:=Ko (k:=k) (d:=D-1) (D:=D) (f:=f) (n:=0) (by rw[show D-1+1=D by have:=hg.pos;omega];exact On.root hg hk) (λe=>absurd rfl e) hK
  rw[e1] at this;exact this
 refine⟨_,ls,_,e11,q1,q2,D',e9,MV e2.page.2.1 hKf e8 λy hy=> ?_, ?_⟩
 ·exact(hKf n').rows y (by rw[e3];exact(List.mem_filter.1 hy).1)
 ·rw[e10]
  exact Nat.le_trans (List.length_filter_le ..) h60
theorem W5:Good Oq 1:=by
 have h0:pg Oq 0=⟨1,[],[]⟩:=rfl
 have hz:∀m:Int,0<m->m<64->pg Oq m=bT:=λm h1 h2=>by
  obtain⟨j,rfl⟩:∃j:Nat,m=(j:Int):=⟨m.toNat,by omega⟩
  refine G5 ?_
  unfold Oq
  rw[List.getElem?_set_ne (by omega),List.getElem?_replicate,if_pos (by omega)]
 refine⟨rfl,λm hm=> ?_,⟨⟨by omega,by omega⟩,λe=>absurd rfl e,[],h0,⟨by simp,by simp,List.Pairwise.nil⟩,by simp⟩, ?_,λm hm hn=> ?_⟩
 ·by_cases e:m=0
  ·rw[e,h0];rfl
  ·rw[hz m (by omega) (by omega)];rfl
 ·rw[pgs,h0];simp
 ·have:m≠0:=λe=>hn (by rw[e];exact cG)
  rw[hz m (by omega) (by omega)];rfl
theorem W6:Kq Oq:=⟨1,W5,WZ λc hc=>by
  unfold Oq at hc
  rcases List.mem_or_eq_of_mem_set hc with h|h
  ·rw[List.eq_of_mem_replicate h];exact QR
  ·rw[h];exact⟨by simp,by simp⟩,by rw[rws,show pg Oq 0=⟨1,[],[]⟩ from rfl];simp⟩
theorem Tl{R:List Row}{k:Key}:decide (ixI (at_ R k)>=0)=true↔cL R k≠none:=by
 rw[MS,Bool.not_eq_true',<-Bool.not_eq_true,Kd]
theorem W7(N:Nat)(hN:20002<=N)(b:oI):∃f,kE N b=some ⟨f⟩/\Kq f:=by
 have key:∀(m:Nat)(i:Nat)(z:aC)(f:List aA),i<=90->i<=b.ids.length->91-i<m->Kq f->∃f2,hU N (kN N) m (b.ids,(b.ids.length:Int),(i:Int),z,⟨f⟩,())=some ⟨f2⟩/\Kq f2:=by
  intro m
  induction m with
  |zero=>intro i z f _ _ h;omega
  |succ m ih=>
   intro i z f hi hl hm hc
   unfold hU
   rw[aM]
   generalize hr:aW _ m=r2
   replace hr:hU N (kN N) m=r2:=hr
   simp only[hr] at ih
   by_cases hlt:i<b.ids.length
   case neg=>
    simp only[bI hlt,cond_false]
    exact⟨f,rfl,hc⟩
   simp only[bH hlt,cond_true,jn,aR,get_some hlt,Option.bind_some]
   by_cases h90:i=90
   ·subst h90
    exact⟨f,rfl,hc⟩
   rw[show((i:Int)==90)=false from by rw[oL,decide_eq_false (by omega)],cond_false]
   have hc0:=hc
   obtain⟨D,hg,hK,h60⟩:=hc
   have hrow:=hg.rows
   have hloop:∀(z:aC)(f2:List aA),Kq f2->∃f3,r2 (b.ids,(b.ids.length:Int),IntKind.wrap .i64 ((i:Int)+1),z,⟨f2⟩,())=some ⟨f3⟩/\Kq f3:=λz f2 h2=>by
    rw[aJ (show i<4611686018427387904 by omega)]
    exact ih (i+1) z f2 (by omega) (by omega) (by omega) h2
   simp only[zG,Option.bind_some,J9 N (by omega) hg,Ji N (by omega) _ (show(rws f D 0).length<=1000 by omega),sI,sJ,sK]
   cases hneg:decide (b.ids[i]<0) with
   |true=>
    simp only[cond_true]
    obtain⟨a1,a2,a3⟩:=Tk (u16_in (IntKind.wrap .i64 (0-b.ids[i])))
    cases hth:decide (ixI (at_ (rws f D 0) (Key.mk 0 (IntKind.wrap .u16 (IntKind.wrap .i64 (0-b.ids[i])))))>=0) with
    |false=>exact hloop z f hc0
    |true=>
     obtain⟨y,l,f2,q1,q2,q3,q4⟩:=UH N hN hc0 a3 λD2 hg2=>by
      have hD:D2=D:=EY hg2.tree hg.tree
      rw[hD];exact Tl.1 hth
     rw[show(W3 (IntKind.wrap .u16 (IntKind.wrap .i64 (0-b.ids[i])))).key=Key.mk 0 (IntKind.wrap .u16 (IntKind.wrap .i64 (0-b.ids[i]))) from rfl] at q1
     simp only[cond_true,q1,Option.bind_some,q2,q3]
     exact hloop z f2 q4
   |false=>
    simp only[cond_false]
    obtain⟨a1,a2,a3⟩:=Tk (u16_in b.ids[i])
    have hput:(cL (rws f D 0) (Key.mk 0 (IntKind.wrap .u16 b.ids[i]))=none->(rws f D 0).length<60)->∃f3,((lI N ⟨f⟩ (Row.mk (Key.mk 0 (IntKind.wrap .u16 b.ids[i])) 0 ByteArray.empty)).bind λy148=>(lG N y148.2).bind λy149=>(gG N ⟨f⟩ y149).bind λy150=>r2 (b.ids,(b.ids.length:Int),IntKind.wrap .i64 ((i:Int)+1),z,y150,()))=some ⟨f3⟩/\Kq f3:=λhfree=>by
     obtain⟨y,l,f2,q1,q2,q3,q4⟩:=W4 N hN hc0 a1 a2 λD2 hg2 hn=>by
      have hD:D2=D:=EY hg2.tree hg.tree
      rw[hD] at hn|-;exact hfree hn
     rw[show W3 (IntKind.wrap .u16 b.ids[i])=Row.mk (Key.mk 0 (IntKind.wrap .u16 b.ids[i])) 0 ByteArray.empty from rfl] at q1
     simp only[q1,Option.bind_some,q2,q3]
     exact hloop z f2 q4
    cases hth:decide (ixI (at_ (rws f D 0) (Key.mk 0 (IntKind.wrap .u16 b.ids[i])))>=0) with
    |true=>exact hput λhn=>absurd hn (Tl.1 hth)
    |false=>
     simp only[cond_false]
     cases hsz:decide (((rws f D 0).length:Int)<60) with
     |true=>
      have:=of_decide_eq_true hsz
      exact hput λ_=>by omega
     |false=>exact hloop z f hc0
 unfold kE
 rw[YH]
 exact key N 0 ⟨[]⟩ Oq (by omega) (Nat.zero_le _) (by omega) W6
end Go.Proofs.YtlcmdgpjiendmaaGreat
namespace Go.Proofs.YtlcmdgpjiendmaaGreat
open Go.Bur
set_option linter.unusedSimpArgs false
set_option linter.unusedVariables false
set_option maxRecDepth 100000
theorem wU(n:Nat)(hn:1003<=n){f:List aA}(hf:f.length=64){l:List aF}(h:Grp f l)(hl:l.length<=900)(gs:List aG)(hg:gs.length<=1000):bL n f gs l=some (aL f (bK l),gs++[⟨bK l⟩]):=by
 have hin:=(A3 h).rng
 have hlen:=(cU l).length_eq
 have key:∀(m:Nat)(t:List aF)(i:Nat)(g:List aA),(bK l).drop i=t->i<=(bK l).length->t.length<m->g.length=64->gX n m (((bK l).length:Int),(i:Int),bK l,g,gs,())=some (aL g t,gs++[⟨bK l⟩]):=by
  intro m
  induction m with
  |zero=>intro t i g _ _ h;omega
  |succ m ih=>
   intro t i g ht hi hk hg'
   unfold gX
   rw[aM]
   generalize hr:aW _ m=r1
   replace hr:gX n m=r1:=hr
   simp only[hr] at ih
   cases t with
   |nil=>
    cases dC ht hi
    simp only[bI (Nat.lt_irrefl _),cond_false,cE (show gs.length+[aG.mk (bK l)].length<=1000000 by simp;omega) (show 24<=1000 by omega)];rfl
   |cons x t=>
    obtain⟨h1,h2,h3⟩:=dB ht
    have hx:=hin x (List.mem_of_getElem? h1)
    obtain⟨j,hj⟩:∃j:Nat,x.page=(j:Int):=⟨x.page.toNat,by omega⟩
    have hput:put g x.page x.content=some (EX g x.page x.content):=by unfold EX;rw[hj,Int.toNat_natCast];exact EJ (by omega)
    simp only[bH h3,cond_true,aR,h1,Option.bind_some,show idx g x.page=some (pg g x.page) from gI ⟨hx.1,by omega⟩,hput,aJ (show i<4611686018427387904 by omega)]
    exact ih t (i+1) _ h2 (by omega) (by simp only[List.length_cons] at hk;omega) (by rw[rV];exact hg')
 unfold bL
 rw[QH n (by omega) h.nodup]
 exact key n (bK l) 0 f rfl (Nat.zero_le _) (by omega) hf
theorem Oz(n:Nat)(hn:3<=n)(a x:Int):dH n [a] x=some (decide (x=a)):=by
 obtain⟨n,rfl⟩:∃m,n=m+2:=⟨n-2,by omega⟩
 unfold dH lB lU
 rw[aM]
 simp only[List.length_cons,List.length_nil,show decide ((0:Int)<((0+1:Nat):Int))=true from rfl,cond_true,pM,List.getElem?_cons_zero,Option.bind_some,oL,show IntKind.wrap .i64 (0+1)=1 from by rw[cN (by omega)];rfl]
 by_cases h:x=a
 ·rw[decide_eq_true h];rfl
 ·rw[decide_eq_false h,aM];rfl
theorem Li(n:Nat)(hn:3<=n)(x:Int):dH n [] x=some false:=by
 obtain⟨n,rfl⟩:∃m,n=m+1:=⟨n-1,by omega⟩
 unfold dH lB lU
 rw[aM]
 rfl
theorem Tm(n:Nat)(hn:1003<=n){gs:List aG}{f:List aA}(hf:f.length=64)(but:List Int)(p:Int->Bool)(hc:∀x,dH n but x=some (p x)):dW n ⟨⟨f⟩,gs⟩ but=some (match(dZ f).filter λx=> !p x with|[]=>(0,false)|m::_=>(m,true)):=by
 have key:∀(m i:Nat),1<=i->i<=64->64-i<m->eN n m (but,f,(f.length:Int),(i:Int),())=some (match(((List.range' i (64-i)).filter fun(j:Nat)=>decide ((pg f (j:Int)).kind=0)).map Int.ofNat).filter λx=> !p x with|[]=>(0,false)|m::_=>(m,true)):=by
  intro m
  induction m with
  |zero=>intro i _ _ h;omega
  |succ m ih=>
   intro i h1 hi hm
   unfold eN
   rw[aM]
   generalize hr:aW _ m=r1
   replace hr:eN n m=r1:=hr
   simp only[hr] at ih
   by_cases h:i<64
   ·simp only[bH (show i<f.length by omega),cond_true,show idx f (i:Int)=some (pg f (i:Int)) from gI ⟨by omega,by omega⟩,Option.bind_some,jn,show decide ((i:Int)>0)=true from decide_eq_true (by omega),Qr,hc,aJ (show i<4611686018427387904 by omega),ih (i+1) (by omega) (by omega) (by omega)]
    rw[show 64-i=(64-(i+1))+1 by omega,List.range'_succ,List.filter_cons]
    by_cases h0:(pg f (i:Int)).kind=0
    ·rw[decide_eq_true h0,cond_true,if_pos rfl,List.map_cons,List.filter_cons]
     by_cases hp:p (i:Int)=true
     ·rw[show p (Int.ofNat i)=true from hp]
      simp[hp]
     ·rw[Bool.not_eq_true] at hp
      rw[show p (Int.ofNat i)=false from hp]
      simp[hp]
    ·rw[decide_eq_false h0,cond_false]
     simp
   ·obtain rfl:i=64:=by omega
    simp only[bI (show ¬64<f.length by omega),cond_false]
    rfl
 unfold dW
 obtain⟨n,rfl⟩:∃m,n=m+1:=⟨n-1,by omega⟩
 have h1:=key n 1 (Nat.le_refl _) (by omega) (by omega)
 show eN (n+1) (n+1) (but,f,(f.length:Int),0,())=_
 unfold eN at h1|-
 rw[aM]
 simp only[show decide ((0:Int)<(f.length:Int))=true from decide_eq_true (by omega),cond_true,show idx f 0=some (pg f 0) from gI ⟨by omega,by omega⟩,Option.bind_some,jn,show decide ((0:Int)>0)=false from rfl,cond_false,show IntKind.wrap .i64 (0+1)=((1:Nat):Int) from by rw[cN (by omega)];rfl]
 exact h1
theorem QU(n:Nat)(hn:1003<=n){f:List aA}(hf:f.length=64)(gs:List aG):dW n ⟨⟨f⟩,gs⟩ []=some (match dZ f with|[]=>(0,false)|m::_=>(m,true)):=by
 have:=Tm (gs:=gs) n hn hf [] (λ_=>false) (Li n (by omega))
 rw[show((dZ f).filter λx=> !(λ_=>false) x)=dZ f from List.filter_eq_self.2 (by simp)] at this
 exact this
theorem W8(n:Nat)(hn:1003<=n){f:List aA}(hf:f.length=64)(gs:List aG)(a:Int):dW n ⟨⟨f⟩,gs⟩ [a]=some (match(dZ f).filter λx=> !decide (x=a) with|[]=>(0,false)|m::_=>(m,true)):=Tm n hn hf [a] (λx=>decide (x=a)) (Oz n (by omega) a)
theorem xR{l:List Kid}(h:dP l):aV ⟨2,[],l⟩=true:=(gU _).2 (Or.inr (Or.inr ⟨l,rfl,h⟩))
theorem OA(n:Nat)(hn:1003<=n){l:List Kid}(h:dP l):mO n ⟨2,[],l⟩=some (⟨2,[],l⟩,0):=Jg n hn _ (bS (xR h)) (xR h)
theorem UI(n:Nat)(hn:1003<=n){l1 l2:List Kid}{x:Kid}(h:dP (l1++x::l2))(h3:(l1++x::l2).length<=3){m:Int}{s:Key}(h':dP (l1++x::⟨s,m⟩::l2)):vS n ⟨2,[],l1++x::l2⟩ (l1.length:Int) m s=some (⟨2,[],l1++x::⟨s,m⟩::l2⟩,0):=by
 have hc:=bS (xR h)
 have hfull:cS ⟨2,[],l1++x::l2⟩=false:=by unfold cS;rw[show decide (aD ⟨2,[],l1++x::l2⟩=4)=false from decide_eq_false (by simp only[aD,List.length_nil];omega),Bool.and_false]
 have hlen:(l1.length:Int)<((l1++x::l2).length:Int):=by simp;omega
 have hins:oZ n (IntKind.wrap .i64 ((l1.length:Int)+1)) (l1++x::l2) [⟨s,m⟩]=some (l1++x::⟨s,m⟩::l2):=by
  rw[aJ (by simp at h3;omega)]
  show Dy 24 _ _ _=_
  unfold Dy
  rw[if_pos ⟨by omega,by simp;omega⟩,FK (by simp at h3|-;omega),Int.toNat_natCast]
  have e1:(l1++x::l2).take (l1.length+1)=l1++[x]:=by
   rw[show l1++x::l2=(l1++[x])++l2 by simp,show l1.length+1=(l1++[x]).length by simp,List.take_left]
  have e2:(l1++x::l2).drop (l1.length+1)=l2:=by
   rw[show l1++x::l2=(l1++[x])++l2 by simp,show l1.length+1=(l1++[x]).length by simp,List.drop_left]
  rw[e1,e2];simp
 unfold vS
 rw[AW n hn h]
 simp only[Option.bind_some,show((0:Int) !=0)=false from rfl,cond_false,jn,Ig n _ hc,hfull,qV n (l1++x::l2) (by omega),hins,eW,OA n hn h']
 rw[show decide ((l1.length:Int)<0)=false from decide_eq_false (by omega),show decide ((l1.length:Int)>=((l1++x::l2).length:Int))=false from decide_eq_false (by omega)]
 rfl
theorem On.pkid{f:List aA}{D d:Nat}{n:Int}{k:Key}(h:On f D (d+2) n k)(N:Nat)(hN:1003<=N):kI N (pg f n) k=some ((cB (pg f n).kids k:Int),0):=by
 have h1:=h.kind
 rw[h1.2.2.2];exact S9 N hN h1.2.2.1 k
theorem Gf(N:Nat)(hN:1003<=N){f:List aA}{D d:Nat}{n:Int}{k:Key}(h:On f D (d+2) n k)(gs:List aG):aY N ⟨⟨f⟩,gs⟩ n k=some (aZ f n k):=by
 obtain⟨_,_,hi,_⟩:=h.page
 unfold aY
 simp only[show idx (aC.mk f).pages n=some (pg f n) from hi,Option.bind_some,h.pkid N hN,h.kid_idx];rfl
theorem QV(N:Nat)(hN:1003<=N){c:aA}(h:aV c=true):lC N c=some (cS c):=by rw[X3 N hN c (bS h),h,Bool.true_and]
theorem MW(N:Nat)(hN:1003<=N){c:aA}(h:aV c=true)(hf:cS c=true):nL N c=some (eZ c 2,eT c 2,cF c 2,0):=by rw[FO N hN c (bS h),Rz,if_pos h,if_pos hf]
theorem MX(N:Nat)(hN:1003<=N){f:List aA}{D d:Nat}{n:Int}{k:Key}(h:On f D (d+2) n k)(hs:aD (pg f n)<=3)(hfu:cS (pg f (aZ f n k))=true)(gs:List aG)(hg:gs.length<=1000):
  bV N n (cB (pg f n).kids k:Int) f gs=some (match dZ f with|[]=>(false,f,gs)|m::_=>(true,aL f (bK (dI f n (cB (pg f n).kids k) m)),gs++[⟨bK (dI f n (cB (pg f n).kids k) m)⟩])):=by
 obtain⟨hn,hf,hi,hc⟩:=h.page
 obtain⟨hx,_,hxi,hxc⟩:=h.next.page
 obtain⟨l1,x,l2,hp,hI,hii,c1,c2,hd⟩:=h.kids
 have hnx:aZ f n k=x.page:=by unfold aZ;rw[hp];simp only;rw[<-hii];exact congrArg (·.page) eP
 have hik:cB (pg f n).kids k=l1.length:=by rw[hp];exact hii.symm
 have hki:=h.kid_idx
 have hka:bZ (pg f n).kids (cB (pg f n).kids k)=x:=by rw[hik,hp];exact eP
 rw[hka] at hki
 rw[hnx] at hfu hxi hxc
 unfold bV
 simp only[hi,Option.bind_some,hki,hxi,MW N hN hxc hfu,QU N hN hf]
 cases hfr:dZ f with
 |nil=>rfl
 |cons m t=>
  have hsz:aD (pg f x.page)=4:=by unfold cS at hfu;rw[Bool.and_eq_true] at hfu;exact of_decide_eq_true hfu.2
  have h3:(l1++x::l2).length<=3:=by rw[hp] at hs;simpa[aD] using hs
  obtain⟨g1,g2,_,g4,_⟩:=CC h hp c1 c2 h3 hsz (m:=m) (by rw[hfr];exact List.mem_cons_self ..)
  have hI':=g2.inner g4
  simp only[Bool.not_true,cond_false]
  rw[hik]
  rw[Af hp] at g1|-
  have had:=UI N hN hI h3 hI'
  rw[<-hp] at had
  simp only[had,Option.bind_some]
  rw[wU N hN hf g1 (by simp) gs hg];rfl
theorem Sf(N:Nat)(hN:1003<=N){f:List aA}{D:Nat}(h:Good f D)(hfu:cS (pg f 0)=true):eX N f []=some (match dZ f with|a::b::_=>(true,aL f (bK (dD f a b)),[⟨bK (dD f a b)⟩])|_=>(false,f,[])):=by
 have hi:idx f 0=some (pg f 0):=gI ⟨by omega,by have:=h.len;omega⟩
 have hc:=h.ok 0 ⟨by omega,by omega⟩
 have hup:(dZ f).Pairwise (· < ·):=by
  unfold dZ
  exact List.pairwise_map.2 (List.Pairwise.imp (λ{a b} h=>Int.ofNat_lt.2 h) ((List.pairwise_lt_range' ..).filter _))
 unfold eX
 simp only[hi,Option.bind_some,MW N hN hc hfu,QU N hN h.len,W8 N hN h.len,jn]
 match hfr:dZ f with
 |[]=>rfl
 |[a]=>simp
 |a::b::t=>
  have hsz:aD (pg f 0)=4:=by unfold cS at hfu;rw[Bool.and_eq_true] at hfu;exact of_decide_eq_true hfu.2
  obtain⟨g1,_⟩:=vH h hsz hfr
  rw[hfr] at hup
  have hab:b≠a:=by have:=(List.pairwise_cons.1 hup).1 b (List.mem_cons_self ..);omega
  have hfl:(a::b::t).filter (λx=> !decide (x=a))=b::t.filter λx=> !decide (x=a):=by
   rw[List.filter_cons,decide_eq_true rfl,List.filter_cons,decide_eq_false hab];rfl
  simp only[hfl,Bool.not_true,cond_false]
  rw[show([(aF.mk 0 (aA.mk 2 ([]:List Row) ([(Kid.mk (Key.mk 0 0) a),(Kid.mk (cF (pg f 0) 2) b)]:List Kid))),(aF.mk a (eZ (pg f 0) 2)),(aF.mk b (eT (pg f 0) 2))]:List aF)=dD f a b from rfl,wU N hN h.len g1 (by simp[dD]) [] (by simp)]
  rfl
end Go.Proofs.YtlcmdgpjiendmaaGreat
