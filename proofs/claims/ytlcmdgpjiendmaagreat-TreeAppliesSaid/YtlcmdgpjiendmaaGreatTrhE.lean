import Derived.Test.YtlcmdgpjiendmaaGreatTrhB
namespace Go.Proofs.YtlcmdgpjiendmaaGreat
open Go.Bur
set_option linter.unusedSimpArgs false
set_option linter.unusedVariables false
set_option maxRecDepth 100000
def SmallG(gs:List Group):Prop:=gs.length≤20∧∀g∈gs,g.sheets.length≤70∧∀s∈g.sheets,s.content.rows.length≤10∧s.content.kids.length≤10
theorem large_l2(n:Nat)(hn:1003≤n)(r1:(List Group)×Int×Int×Unit→Option Bool)(gs:List Group)(a b:Int)(l:List Sheet)(hl:l.length≤1000):∀(m:Nat)(t:List Sheet)(i:Nat),l.drop i=t→i≤l.length→t.length<m→
  law13_large_l2 n r1 m (gs,a,b,l,(l.length:Int),(i:Int),())=some true∨((∀s∈t,s.content.rows.length≤10∧s.content.kids.length≤10)∧law13_large_l2 n r1 m (gs,a,b,l,(l.length:Int),(i:Int),())=r1 (gs,a,IntKind.wrap .i64 (b+1),())):=by
 intro m
 induction m with
 |zero=>intro t i _ _ h;omega
 |succ m ih=>
  intro t i ht hi hk
  unfold law13_large_l2
  rw[loopF_succ]
  generalize hr:loopF _ m=r2
  replace hr:law13_large_l2 n r1 m=r2:=hr
  simp only[hr] at ih
  cases t with
  |nil=>
   cases drop_end ht hi
   simp only[ge_dec (Nat.lt_irrefl _),cond_false];exact Or.inr ⟨by simp,trivial⟩
  |cons x t=>
   obtain⟨h1,h2,h3⟩:=drop_get ht
   obtain⟨c,e1,e2⟩:=over_ex n hn ⟨[x.content]⟩
   simp only[lt_dec h3,cond_true,idx_nat,h1,Option.bind_some,wrap_succ (show i<4611686018427387904 by omega),e1]
   cases c with
   |true=>left;rfl
   |false=>
    rcases ih t (i+1) h2 (by omega) (by simp only[List.length_cons] at hk;omega) with h|⟨h,h'⟩
    ·exact Or.inl h
    ·refine Or.inr ⟨λs hs=> ?_,h'⟩
     rcases List.mem_cons.1 hs with rfl|hs
     ·exact(e2 rfl).2 _ (List.mem_singleton.2 rfl)
     ·exact h s hs
theorem large_l1(n:Nat)(hn:1003≤n)(gs:List Group)(hl:gs.length≤1000):∀(m:Nat)(t:List Group)(i:Nat),gs.drop i=t→i≤gs.length→t.length<m→
  ∃b,law13_large_l1 n m (gs,(gs.length:Int),(i:Int),())=some b∧(b=false→∀g∈t,g.sheets.length≤70∧∀s∈g.sheets,s.content.rows.length≤10∧s.content.kids.length≤10):=by
 intro m
 induction m with
 |zero=>intro t i _ _ h;omega
 |succ m ih=>
  intro t i ht hi hk
  unfold law13_large_l1
  rw[loopF_succ]
  generalize hr:loopF _ m=r1
  replace hr:law13_large_l1 n m=r1:=hr
  simp only[hr] at ih
  cases t with
  |nil=>
   cases drop_end ht hi
   simp only[ge_dec (Nat.lt_irrefl _),cond_false]
   exact⟨_,rfl,by simp⟩
  |cons x t=>
   obtain⟨h1,h2,h3⟩:=drop_get ht
   simp only[lt_dec h3,cond_true,idx_nat,h1,Option.bind_some]
   by_cases e1:(x.sheets.length:Int)>70
   ·rw[decide_eq_true e1];exact⟨true,rfl,λh=>by cases h⟩
   ·rw[decide_eq_false e1,cond_false]
    obtain⟨b,g1,g2⟩:=ih t (i+1) h2 (by omega) (by simp only[List.length_cons] at hk;omega)
    rcases large_l2 n hn r1 gs (gs.length:Int) (i:Int) x.sheets (by omega) n x.sheets 0 rfl (Nat.zero_le _) (by omega) with h|⟨hs,h⟩
    ·exact⟨true,h,λh=>by cases h⟩
    ·refine⟨b, ?_,λhb c hc=> ?_⟩
     ·rw[wrap_succ (show i<4611686018427387904 by omega),g1] at h
      exact h
     ·rcases List.mem_cons.1 hc with rfl|hc
      ·exact⟨by omega,hs⟩
      ·exact g2 hb c hc
theorem large_ex(n:Nat)(hn:1003≤n)(gs:List Group):∃b,law13_large n gs=some b∧(b=false→SmallG gs):=by
 unfold law13_large
 by_cases e:(gs.length:Int)>20
 ·rw[decide_eq_true e];exact⟨true,rfl,λh=>by cases h⟩
 ·rw[decide_eq_false e,cond_false]
  obtain⟨b,h1,h2⟩:=large_l1 n hn gs (by omega) n gs 0 rfl (Nat.zero_le _) (by omega)
  exact⟨b,h1,λhb=>⟨by omega,h2 hb⟩⟩
def FineG(gs:List Group):Prop:=gs.length≤20∧∀g∈gs,g.sheets.length≤70∧∀s∈g.sheets,Fine s.content
open Classical in
noncomputable def appC:List Content→List Group→Option (List Content)
 |f,[]=>some f
 |f,g::gs=>if SheetsIn g.sheets∧∃D,Good (withS f g.sheets) D then appC (withS f g.sheets) gs else none
noncomputable def outA:Option (List Content)→Forest×Int
 |some f=>(⟨f⟩,0)
 |none=>(⟨[]⟩,2)
theorem app_bad(n:Nat)(r1:(List Group)×Int×Int×Forest×(List Content)×(List Group)×Unit→Option (Forest×Int))(gs:List Group)(a b:Int)(z:Forest)(ss:List Sheet)(hss:ss.length≤1000)(q:List Group):∀(m:Nat)(t:List Sheet)(i:Nat)(f:List Content),ss.drop i=t→i≤ss.length→t.length<m→f.length=64→¬SheetsIn t→
  tree_Apply_l2 n r1 m (gs,a,b,ss,(ss.length:Int),(i:Int),z,f,q,())=some (⟨[]⟩,2):=by
 intro m
 induction m with
 |zero=>intro t i f _ _ h;omega
 |succ m ih=>
  intro t i f ht hi hk hf hl
  unfold tree_Apply_l2
  rw[loopF_succ]
  generalize hr:loopF _ m=r2
  replace hr:tree_Apply_l2 n r1 m=r2:=hr
  simp only[hr] at ih
  cases t with
  |nil=>exact absurd (λs hs=>by cases hs) hl
  |cons x t=>
   obtain⟨h1,h2,h3⟩:=drop_get ht
   have hi2:i<4611686018427387904:=by omega
   simp only[lt_dec h3,cond_true,idx_nat,h1,Option.bind_some,jn]
   by_cases e1:x.page<0
   ·rw[decide_eq_true e1];rfl
   ·by_cases e2:x.page≥64
    ·rw[decide_eq_false e1,decide_eq_true e2];rfl
    ·obtain⟨j,hj⟩:∃j:Nat,x.page=(j:Int):=⟨x.page.toNat,by omega⟩
     have hput:put f x.page x.content=some (setP f x.page x.content):=by unfold setP;rw[hj,Int.toNat_natCast];exact put_ok (by omega)
     simp only[decide_eq_false e1,decide_eq_false e2,cond_false,show idx f x.page=some (pg f x.page) from idx_pg ⟨by omega,by omega⟩,Option.bind_some,hput,wrap_succ hi2]
     exact ih t (i+1) _ h2 (by omega) (by simp only[List.length_cons] at hk;omega) (by rw[set_len];exact hf) λhall=>hl λs hs=>by
      rcases List.mem_cons.1 hs with rfl|hs
      ·exact⟨by omega,by omega⟩
      ·exact hall s hs
theorem with_fine:∀{l:List Sheet} {f:List Content},f.length=64→(∀c∈f,Fine c)→SheetsIn l→(∀s∈l,Fine s.content)→∀c∈withS f l,Fine c
 |[],f,_,h,_,_=>h
 |s::l,f,hf,h,hi,hl=>by
  refine with_fine (l:=l) (f:=setP f s.page s.content) (by rw[set_len];exact hf) (λc hc=> ?_) (λx hx=>hi x (List.mem_cons_of_mem _ hx)) (λx hx=>hl x (List.mem_cons_of_mem _ hx))
  rcases List.mem_or_eq_of_mem_set hc with hc|rfl
  ·exact h c hc
  ·exact hl s (List.mem_cons_self ..)
theorem appC_go(n:Nat)(hn:2000≤n)(gs:List Group)(hg:gs.length≤1000)(z:Forest)(q:List Group):∀(m:Nat)(t:List Group)(i:Nat)(f:List Content),gs.drop i=t→i≤gs.length→t.length<m→f.length=64→(∀c∈f,Fine c)→(∀g∈t,g.sheets.length≤70∧∀s∈g.sheets,Fine s.content)→
  tree_Apply_l1 n m (gs,(gs.length:Int),(i:Int),z,f,q,())=some (outA (appC f t)):=by
 intro m
 induction m with
 |zero=>intro t i f _ _ h;omega
 |succ m ih=>
  intro t i f ht hi hk hf hF h
  unfold tree_Apply_l1
  rw[loopF_succ]
  generalize hr:loopF _ m=r1
  replace hr:tree_Apply_l1 n m=r1:=hr
  simp only[hr] at ih
  cases t with
  |nil=>
   cases drop_end ht hi
   simp only[ge_dec (Nat.lt_irrefl _),cond_false];rfl
  |cons g t=>
   obtain⟨h1,h2,h3⟩:=drop_get ht
   obtain⟨a1,a2⟩:=h g (List.mem_cons_self ..)
   simp only[lt_dec h3,cond_true,idx_nat,h1,Option.bind_some]
   by_cases hin:SheetsIn g.sheets
   ·refine(app_l2 n r1 gs _ _ z g.sheets (by omega) q n g.sheets 0 f rfl (Nat.zero_le _) (by omega) hf hin).trans ?_
    have hlen:(withS f g.sheets).length=64:=by rw[with_len];exact hf
    have hF':=with_fine hf hF hin a2
    by_cases hD:∃D,Good (withS f g.sheets) D
    ·have e:appC f (g::t)=appC (withS f g.sheets) t:=if_pos ⟨hin,hD⟩
     obtain⟨D,hD⟩:=hD
     rw[check_good n hn hD,e]
     simp only[Option.bind_some,show((0:Int) !=0)=false from rfl,cond_false,wrap_succ (show i<4611686018427387904 by omega)]
     exact ih t (i+1) _ h2 (by omega) (by simp only[List.length_cons] at hk;omega) hlen hF' λx hx=>h x (List.mem_cons_of_mem _ hx)
    ·have e:appC f (g::t)=none:=if_neg λhh=>hD hh.2
     rw[check_bad n hn (by omega) hF' hD,e];rfl
   ·have e:appC f (g::t)=none:=if_neg λhh=>hin hh.1
    rw[e]
    exact app_bad n r1 gs _ _ z g.sheets (by omega) q n g.sheets 0 f rfl (Nat.zero_le _) (by omega) hf hin
theorem applyC_eq(n:Nat)(hn:2000≤n){f:List Content}{D:Nat}(hg:Good f D){gs:List Group}(h:FineG gs):tree_Apply n ⟨f⟩ gs=some (outA (appC f gs)):=by
 obtain⟨h1,h2⟩:=h
 unfold tree_Apply tree_begun
 simp only[check_good n hn hg,Option.bind_some,show((0:Int) !=0)=false from rfl,cond_false,cloneC_eq n f (by have:=hg.len;omega)]
 exact appC_go n hn gs (by omega) _ _ n gs 0 f rfl (Nat.zero_le _) (by omega) hg.len (good_fine hg) h2
theorem fineG{gs:List Group}(h:SmallG gs)(ht:∀g∈gs,∀s∈g.sheets,okT tab 8 (.st 4) s.content):FineG gs:=
 ⟨h.1,λg hg=>⟨(h.2 g hg).1,λs hs=>by
  have:=(h.2 g hg).2 s hs
  exact content_fine (d:=5) (ht g hg s hs) (by omega) (by omega)⟩⟩
end Go.Proofs.YtlcmdgpjiendmaaGreat
namespace Go.Proofs.YtlcmdgpjiendmaaGreat
open Go.Bur
set_option linter.unusedSimpArgs false
set_option linter.unusedVariables false
set_option maxRecDepth 100000
def lastC:List Sheet→Int→Option Content→Option Content
 |[],_,o=>o
 |s::t,p,o=>lastC t p (if s.page=p then some s.content else o)
theorem lastC_or:∀{l:List Sheet} {p:Int} {o:Option Content},lastC l p o=(match lastC l p none with|some c=>some c|none=>o)
 |[],p,o=>by simp[lastC]
 |s::t,p,o=>by
  unfold lastC
  rw[lastC_or (l:=t) (o:=if s.page=p then some s.content else o),lastC_or (l:=t) (o:=if s.page=p then some s.content else none)]
  cases lastC t p none with
  |some c=>rfl
  |none=>by_cases h:s.page=p<;>simp[h]
theorem mem_net{l:List Sheet}{x:Sheet}:x∈netS l↔lastC l x.page none=some x.content:=by
 induction l generalizing x with
 |nil=>simp[netS,lastC]
 |cons s t ih=>
  show x∈insN s (netS t)↔_
  rw[insN_mem netS_up]
  unfold lastC
  rw[lastC_or]
  cases h:lastC t x.page none with
  |some c=>
   simp only
   rw[ih,h]
   constructor
   ·rintro(h1|⟨rfl,h1⟩)
    ·exact h1
    ·exact absurd rfl (h1 ⟨x.page,c⟩ (ih.2 h))
   ·exact Or.inl
  |none=>
   simp only
   rw[ih,h]
   constructor
   ·rintro(h1|⟨rfl,_⟩)
    ·cases h1
    ·rw[if_pos rfl]
   ·intro h1
    right
    by_cases h2:s.page=x.page
    ·rw[if_pos h2] at h1
     obtain⟨sp,sc⟩:=s
     obtain⟨xp,xc⟩:=x
     cases h2
     cases h1
     refine⟨rfl,λy hy hyp=> ?_⟩
     have h3:=ih.1 hy
     rw[hyp] at h3
     rw[h] at h3;cases h3
    ·rw[if_neg h2] at h1;cases h1
theorem upS_ext:∀{l m:List Sheet},UpS l→UpS m→(∀x,x∈l↔x∈m)→l=m
 |[],[],_,_,_=>rfl
 |[],b::m,_,_,h=>absurd ((h b).2 (List.mem_cons_self ..)) (by simp)
 |a::l,[],_,_,h=>absurd ((h a).1 (List.mem_cons_self ..)) (by simp)
 |a::l,b::m,hl,hm,h=>by
  obtain⟨a1,a2⟩:=List.pairwise_cons.1 hl
  obtain⟨b1,b2⟩:=List.pairwise_cons.1 hm
  have hab:a=b:=by
   rcases List.mem_cons.1 ((h a).1 (List.mem_cons_self ..)) with e|h1
   ·exact e
   ·rcases List.mem_cons.1 ((h b).2 (List.mem_cons_self ..)) with e|h2
    ·exact e.symm
    ·have:=b1 a h1;have:=a1 b h2;omega
  subst hab
  rw[upS_ext a2 b2 λx=> ?_]
  constructor
  ·intro hx
   rcases List.mem_cons.1 ((h x).1 (List.mem_cons_of_mem _ hx)) with e|h1
   ·subst e;have:=a1 x hx;omega
   ·exact h1
  ·intro hx
   rcases List.mem_cons.1 ((h x).2 (List.mem_cons_of_mem _ hx)) with e|h1
   ·subst e;have:=b1 x hx;omega
   ·exact h1
theorem mem_sortZ{x:Int}{l:List Int}:x∈sortZ l↔x∈l:=(List.mergeSort_perm l _).mem_iff
theorem sortZ_up{l:List Int}(h:l.Nodup):(sortZ l).Pairwise (· < ·):=by
 have h0:=List.pairwise_mergeSort (le:=λx y:Int=>decide (x≤y)) (λa b c h1 h2=>decide_eq_true (by have:=of_decide_eq_true h1;have:=of_decide_eq_true h2;omega)) (λa b=>by
  rw[Bool.or_eq_true,decide_eq_true_iff,decide_eq_true_iff];omega) l
 have h1:(sortZ l).Pairwise (· ≤ ·):=h0.imp λh=>of_decide_eq_true h
 have h2:(sortZ l).Pairwise (· ≠ ·):=(List.mergeSort_perm l _).nodup_iff.2 h
 exact h1.imp₂ (λa b h1 h2=>by omega) h2
theorem sortZ_len(l:List Int):(sortZ l).length=l.length:=(List.mergeSort_perm l _).length_eq
abbrev CMap:=List (Int×Content)
def dg(m:CMap)(p:Int):Option Content:=dget (dkEq tab (.int .i64)) m p
theorem dg_put{m:CMap}{e f:Int}{c:Content}:dg (dput (dkEq tab (.int .i64)) m e c) f=if f=e then some c else dg m f:=by
 unfold dg
 have eqZ:∀a b:Int,dkEq tab (.int .i64) a b=decide (a=b):=λ_ _=>rfl
 induction m with
 |nil=>
  simp only[dput,dget,eqZ]
  by_cases h:f=e
  ·rw[decide_eq_true h,if_pos h]
  ·rw[decide_eq_false h,if_neg h]
 |cons p m ih=>
  obtain⟨k,v⟩:=p
  simp only[dput,dget,eqZ]
  by_cases h:e=k
  ·subst h
   rw[decide_eq_true rfl]
   simp only[dget,eqZ]
   by_cases h2:f=e
   ·rw[decide_eq_true h2,if_pos h2]
   ·rw[decide_eq_false h2,if_neg h2]
  ·rw[decide_eq_false h]
   simp only[dget,eqZ]
   by_cases h2:f=k
   ·rw[decide_eq_true h2,if_neg λe2=>h (e2.symm.trans h2)]
   ·rw[decide_eq_false h2]
    exact ih
def NInv(m:CMap)(ps:List Int):Prop:=ps.Nodup∧∀p,p∈ps↔(dg m p).isSome=true
theorem tnet_l2(n:Nat)(r1:(List Group)×Int×Int×CMap×(List Int)×Unit→Option (List Sheet))(gs:List Group)(a b:Int)(ss:List Sheet)(hss:ss.length≤1000):∀(m:Nat)(t:List Sheet)(i:Nat)(M:CMap)(ps:List Int),ss.drop i=t→i≤ss.length→t.length<m→NInv M ps→ps.length+t.length≤90000→
  ∃M' ps',tree_Net_l2 n r1 m (gs,a,b,ss,(ss.length:Int),(i:Int),M,ps,())=r1 (gs,a,IntKind.wrap .i64 (b+1),M',ps',())∧NInv M' ps'∧(∀p,dg M' p=lastC t p (dg M p))∧ps'.length≤ps.length+t.length:=by
 intro m
 induction m with
 |zero=>intro t i M ps _ _ h;omega
 |succ m ih=>
  intro t i M ps ht hi hk hinv hlen
  unfold tree_Net_l2
  rw[loopF_succ]
  generalize hr:loopF _ m=r2
  replace hr:tree_Net_l2 n r1 m=r2:=hr
  simp only[hr] at ih
  cases t with
  |nil=>
   cases drop_end ht hi
   simp only[ge_dec (Nat.lt_irrefl _),cond_false]
   exact⟨M,ps,rfl,hinv,λp=>rfl,by simp⟩
  |cons x t=>
   obtain⟨h1,h2,h3⟩:=drop_get ht
   simp only[List.length_cons] at hlen hk
   simp only[lt_dec h3,cond_true,idx_nat,h1,Option.bind_some,jn,tree_Net_j3,wrap_succ (show i<4611686018427387904 by omega)]
   show ∃M' ps',cond (!(someB (dg M x.page))) _ _=_∧_
   cases hd:dg M x.page with
   |none=>
    have hnot:x.page∉ps:=λh=>by have:=(hinv.2 _).1 h;rw[hd] at this;cases this
    have hinv':NInv (dput (dkEq tab (.int .i64)) M x.page x.content) (ps++[x.page]):=by
     refine⟨List.nodup_append.2 ⟨hinv.1,by simp,λa ha b hb e=> ?_⟩,λp=> ?_⟩
     ·cases List.mem_singleton.1 hb
      exact hnot (e▸ha)
     ·rw[List.mem_append,dg_put,hinv.2 p,List.mem_singleton]
      by_cases h:p=x.page<;>simp[h]
    obtain⟨M',ps',e1,e2,e3,e4⟩:=ih t (i+1) _ _ h2 (by omega) (by omega) hinv' (by simp;omega)
    refine⟨M',ps', ?_,e2,λp=> ?_,by simp at e4⊢;omega⟩
    ·show cond (!false) _ _=_
     rw[Bool.not_false,cond_true,app_lt (by simp;omega) (by decide)]
     exact e1
    ·rw[e3 p,dg_put,lastC]
     by_cases h:x.page=p
     ·rw[if_pos h,if_pos h.symm]
     ·rw[if_neg h,if_neg λe=>h e.symm]
   |some c=>
    have hin:x.page∈ps:=(hinv.2 _).2 (by rw[hd];rfl)
    have hinv':NInv (dput (dkEq tab (.int .i64)) M x.page x.content) ps:=by
     refine⟨hinv.1,λp=> ?_⟩
     rw[dg_put,hinv.2 p]
     by_cases h:p=x.page
     ·subst h;simp[hd]
     ·simp[h]
    obtain⟨M',ps',e1,e2,e3,e4⟩:=ih t (i+1) _ _ h2 (by omega) (by omega) hinv' (by omega)
    refine⟨M',ps', ?_,e2,λp=> ?_,by simp;omega⟩
    ·show cond (!true) _ _=_
     rw[Bool.not_true,cond_false]
     exact e1
    ·rw[e3 p,dg_put,lastC]
     by_cases h:x.page=p
     ·rw[if_pos h,if_pos h.symm]
     ·rw[if_neg h,if_neg λe=>h e.symm]
theorem lastC_app:∀{a b:List Sheet} {p:Int} {o:Option Content},lastC (a++b) p o=lastC b p (lastC a p o)
 |[],_,_,_=>rfl
 |_::a,_,_,_=>lastC_app (a:=a)
theorem tnet_l4(n:Nat)(a:Int)(M:CMap)(ps:List Int)(hps:ps.length≤90000)(ha:a=(ps.length:Int)):∀(m:Nat)(t:List Int)(i:Nat)(acc:List Sheet),ps.drop i=t→i≤ps.length→t.length<m→acc.length≤i→
  tree_Net_l4 n m (a,(i:Int),M,acc,ps,())=some (acc++t.map λp=>⟨p,orZ ⟨0,[],[]⟩ (dg M p)⟩):=by
 subst ha
 intro m
 induction m with
 |zero=>intro t i acc _ _ h;omega
 |succ m ih=>
  intro t i acc ht hi hk hacc
  unfold tree_Net_l4
  rw[loopF_succ]
  generalize hr:loopF _ m=r4
  replace hr:tree_Net_l4 n m=r4:=hr
  simp only[hr] at ih
  cases t with
  |nil=>
   cases drop_end ht hi
   simp only[ge_dec (Nat.lt_irrefl _),cond_false];simp
  |cons x t=>
   obtain⟨h1,h2,h3⟩:=drop_get ht
   simp only[List.length_cons] at hk
   simp only[lt_dec h3,cond_true,idx_nat,h1,Option.bind_some]
   rw[app_lt (by simp;omega) (by decide)]
   simp only[Option.bind_some,wrap_succ (show i<4611686018427387904 by omega)]
   rw[ih t (i+1) _ h2 (by omega) (by omega) (by simp;omega)]
   simp[dg]
theorem tnet_eq(n:Nat)(hn:20002≤n){gs:List Group}(h:gs.length≤1000∧∀g∈gs,g.sheets.length≤1000)(hl:(allS gs).length≤10000):tree_Net n gs=some (netS (allS gs)):=by
 have key:∀(m:Nat)(t:List Group)(i:Nat)(M:CMap)(ps:List Int),gs.drop i=t→i≤gs.length→t.length<m→NInv M ps→ps.length+(allS t).length≤10000→
   ∃M' ps',tree_Net_l1 n m (gs,(gs.length:Int),(i:Int),M,ps,())=(slices_Sort_int n ps').bind (λy29=>tree_Net_l4 n n ((y29.length:Int),0,M',([]:List Sheet),y29,()))∧NInv M' ps'∧(∀p,dg M' p=lastC (allS t) p (dg M p))∧ps'.length≤10000:=by
  intro m
  induction m with
  |zero=>intro t i M ps _ _ h;omega
  |succ m ih=>
   intro t i M ps ht hi hk hinv hlen
   unfold tree_Net_l1
   rw[loopF_succ]
   generalize hr:loopF _ m=r1
   replace hr:tree_Net_l1 n m=r1:=hr
   simp only[hr] at ih
   cases t with
   |nil=>
    cases drop_end ht hi
    simp only[ge_dec (Nat.lt_irrefl _),cond_false]
    exact⟨M,ps,rfl,hinv,λp=>rfl,by simp[allS] at hlen;omega⟩
   |cons g t=>
    obtain⟨h1,h2,h3⟩:=drop_get ht
    simp only[List.length_cons] at hk
    have hg:g∈gs:=List.mem_of_getElem? h1
    have ha:(allS (g::t)).length=g.sheets.length+(allS t).length:=by simp[allS]
    rw[ha] at hlen
    have hg2:=h.2 g hg
    obtain⟨M1,p1,e1,e2,e3,e4⟩:=tnet_l2 n r1 gs (gs.length:Int) (i:Int) g.sheets hg2 n g.sheets 0 M ps rfl (Nat.zero_le _) (by omega) hinv (by omega)
    obtain⟨M2,p2,f1,f2,f3,f4⟩:=ih t (i+1) M1 p1 h2 (by omega) (by omega) e2 (by omega)
    refine⟨M2,p2, ?_,f2,λp=> ?_,f4⟩
    ·simp only[lt_dec h3,cond_true,idx_nat,h1,Option.bind_some]
     rw[show((0:Nat):Int)=0 from rfl] at e1
     rw[e1,wrap_succ (by omega)]
     exact f1
    ·rw[f3 p,e3 p,show allS (g::t)=g.sheets++allS t from rfl,lastC_app]
 obtain⟨M,ps,e1,e2,e3,e4⟩:=key n gs 0 [] [] rfl (Nat.zero_le _) (by omega) ⟨List.nodup_nil,λp=>by simp[dg,dget]⟩ (by simpa using hl)
 unfold tree_Net
 rw[show((0:Nat):Int)=0 from rfl] at e1
 rw[e1]
 unfold slices_Sort_int
 rw[Nat.ble_eq_true_of_le (by omega)]
 simp only[Option.bind_some]
 have hsl:=sortZ_len ps
 have:=tnet_l4 n ((sortZ ps).length:Int) M (sortZ ps) (by omega) rfl n (sortZ ps) 0 [] rfl (Nat.zero_le _) (by omega) (by simp)
 rw[show((0:Nat):Int)=0 from rfl,List.nil_append] at this
 rw[this]
 congr 1
 refine upS_ext ?_ netS_up λx=> ?_
 ·unfold UpS
  rw[List.pairwise_map]
  exact sortZ_up e2.1
 ·rw[mem_net,List.mem_map]
  have e3':∀p,dg M p=lastC (allS gs) p none:=λp=>by rw[e3 p];rfl
  constructor
  ·rintro⟨p,hp,rfl⟩
   have:=(e2.2 p).1 (mem_sortZ.1 hp)
   rw[e3' p] at this
   simp only[e3']
   cases hc:lastC (allS gs) p none with
   |none=>rw[hc] at this;cases this
   |some c=>rfl
  ·intro hx
   refine⟨x.page,mem_sortZ.2 ((e2.2 _).2 (by rw[e3',hx];rfl)), ?_⟩
   rw[e3',hx];rfl
end Go.Proofs.YtlcmdgpjiendmaaGreat
namespace Go.Proofs.YtlcmdgpjiendmaaGreat
open Go.Bur
set_option linter.unusedSimpArgs false
set_option linter.unusedVariables false
set_option maxRecDepth 100000
abbrev ApL:=Int×Bool×(List Group)×Int×Int×Forest×Forest×Unit→Option Bool
theorem apl_bad(n:Nat)(r1:ApL)(e:Int)(gs:List Group)(a b:Int)(z w:Forest)(g:Group)(ss:List Sheet)(hss:ss.length≤1000):∀(m:Nat)(t:List Sheet)(i:Nat)(ok:Bool),ss.drop i=t→i≤ss.length→t.length<m→(ok=true→¬SheetsIn t)→
  law13_TreeApplies_l2 n r1 m (e,ok,gs,a,b,ss,(ss.length:Int),(i:Int),z,w,g,())=r1 (e,false,gs,a,IntKind.wrap .i64 (b+1),z,w,()):=by
 intro m
 induction m with
 |zero=>intro t i ok _ _ h;omega
 |succ m ih=>
  intro t i ok ht hi hk hl
  unfold law13_TreeApplies_l2
  rw[loopF_succ]
  generalize hr:loopF _ m=r2
  replace hr:law13_TreeApplies_l2 n r1 m=r2:=hr
  simp only[hr] at ih
  cases t with
  |nil=>
   cases drop_end ht hi
   cases ok with
   |true=>exact absurd (λs hs=>by cases hs) (hl rfl)
   |false=>simp only[ge_dec (Nat.lt_irrefl _),cond_false,jn,law13_TreeApplies_j3]
  |cons x t=>
   obtain⟨h1,h2,h3⟩:=drop_get ht
   have hi2:i<4611686018427387904:=by omega
   simp only[List.length_cons] at hk
   simp only[lt_dec h3,cond_true,idx_nat,h1,Option.bind_some,jn,wrap_succ hi2]
   have hgo:=fun(ok':Bool) (h:ok'=true→¬SheetsIn t)=>ih t (i+1) ok' h2 (by omega) (by omega) h
   cases ok with
   |false=>simp only[cond_false];exact hgo false λh=>by cases h
   |true=>
    simp only[cond_true]
    by_cases e1:x.page≥0
    ·rw[decide_eq_true e1]
     simp only[cond_true]
     refine hgo _ λh hall=>hl rfl λs hs=> ?_
     rcases List.mem_cons.1 hs with rfl|hs
     ·exact⟨e1,of_decide_eq_true h⟩
     ·exact hall s hs
    ·rw[decide_eq_false e1]
     simp only[cond_false]
     exact hgo false λh=>by cases h
theorem apl_good(n:Nat)(r1:ApL)(e:Int)(gs:List Group)(a b:Int)(z w:Forest)(g:Group)(ss:List Sheet)(hss:ss.length≤1000):∀(m:Nat)(t:List Sheet)(i:Nat),ss.drop i=t→i≤ss.length→t.length<m→SheetsIn t→
  law13_TreeApplies_l2 n r1 m (e,true,gs,a,b,ss,(ss.length:Int),(i:Int),z,w,g,())=(ref13_With n w g.sheets).bind λy=>(ref13_Right n y).bind λc=>r1 (e,c,gs,a,IntKind.wrap .i64 (b+1),z,y,()):=by
 intro m
 induction m with
 |zero=>intro t i _ _ h;omega
 |succ m ih=>
  intro t i ht hi hk hl
  unfold law13_TreeApplies_l2
  rw[loopF_succ]
  generalize hr:loopF _ m=r2
  replace hr:law13_TreeApplies_l2 n r1 m=r2:=hr
  simp only[hr] at ih
  cases t with
  |nil=>
   cases drop_end ht hi
   simp only[ge_dec (Nat.lt_irrefl _),cond_false,cond_true,jn,law13_TreeApplies_j3]
  |cons x t=>
   obtain⟨h1,h2,h3⟩:=drop_get ht
   have hi2:i<4611686018427387904:=by omega
   simp only[List.length_cons] at hk
   have hx:=hl x (List.mem_cons_self ..)
   simp only[lt_dec h3,cond_true,idx_nat,h1,Option.bind_some,jn,wrap_succ hi2,show decide (x.page≥0)=true from decide_eq_true hx.1,show decide (x.page<64)=true from decide_eq_true hx.2]
   exact ih t (i+1) h2 (by omega) (by omega) λs hs=>hl s (List.mem_cons_of_mem _ hs)
theorem apw_bad(n:Nat)(hn:2000≤n)(gs:List Group)(hg:gs.length≤1000)(hs:∀g∈gs,g.sheets.length≤1000)(w:Forest):∀(m:Nat)(t:List Group)(i:Nat),gs.drop i=t→i≤gs.length→t.length<m→
  law13_TreeApplies_l1 n m (2,false,gs,(gs.length:Int),(i:Int),⟨[]⟩,w,())=some true:=by
 intro m
 induction m with
 |zero=>intro t i _ _ h;omega
 |succ m ih=>
  intro t i ht hi hk
  unfold law13_TreeApplies_l1
  rw[loopF_succ]
  generalize hr:loopF _ m=r1
  replace hr:law13_TreeApplies_l1 n m=r1:=hr
  simp only[hr] at ih
  cases t with
  |nil=>
   cases drop_end ht hi
   simp only[ge_dec (Nat.lt_irrefl _),cond_false];rfl
  |cons g t=>
   obtain⟨h1,h2,h3⟩:=drop_get ht
   simp only[List.length_cons] at hk
   have hgl:=hs g (List.mem_of_getElem? h1)
   simp only[lt_dec h3,cond_true,idx_nat,h1,Option.bind_some]
   refine(apl_bad n r1 2 gs _ _ ⟨[]⟩ w g g.sheets hgl n g.sheets 0 false rfl (Nat.zero_le _) (by omega) λh=>by cases h).trans ?_
   rw[wrap_succ (by omega)]
   exact ih t (i+1) h2 (by omega) (by omega)
theorem apw_good(n:Nat)(hn:30000≤n)(gs:List Group)(hg:gs.length≤1000)(hs:∀g∈gs,g.sheets.length≤1000)(z:Forest)(e:Int):∀(m:Nat)(t:List Group)(i:Nat)(f:List Content),gs.drop i=t→i≤gs.length→t.length<m→f.length=64→(∀c∈f,Fine c)→KeysF f→(∀g∈t,g.sheets.length≤70∧∀s∈g.sheets,Fine s.content∧Keys s.content)→outA (appC f t)=(z,e)→
  law13_TreeApplies_l1 n m (e,true,gs,(gs.length:Int),(i:Int),z,⟨f⟩,())=some true:=by
 intro m
 induction m with
 |zero=>intro t i f _ _ h;omega
 |succ m ih=>
  intro t i f ht hi hk hf hF hK h ho
  have ihb:=apw_bad n (by omega) gs hg hs
  unfold law13_TreeApplies_l1
  rw[loopF_succ]
  generalize hr:loopF _ m=r1
  replace hr:law13_TreeApplies_l1 n m=r1:=hr
  simp only[hr] at ih
  cases t with
  |nil=>
   cases drop_end ht hi
   cases ho
   simp only[ge_dec (Nat.lt_irrefl _),cond_false,Bool.not_true,jn,show((0:Int)==0)=true from rfl,cond_true,rtsame_eq n (by omega) f f (by omega) hF,eqL_refl sameC_refl f,Option.bind_some]
  |cons g t=>
   obtain⟨h1,h2,h3⟩:=drop_get ht
   simp only[List.length_cons] at hk
   have hgl:=hs g (List.mem_of_getElem? h1)
   obtain⟨a1,a2⟩:=h g (List.mem_cons_self ..)
   simp only[lt_dec h3,cond_true,idx_nat,h1,Option.bind_some]
   by_cases hin:SheetsIn g.sheets
   ·refine(apl_good n r1 e gs _ _ z ⟨f⟩ g g.sheets (by omega) n g.sheets 0 rfl (Nat.zero_le _) (by omega) hin).trans ?_
    have hlen:(withS f g.sheets).length=64:=by rw[with_len];exact hf
    have hF':=with_fine hf hF hin λs hs=>(a2 s hs).1
    have hK':=keysF_with hf hK hin λs hs=>(a2 s hs).2
    rw[rwith_eq n (by omega) hf hin (by omega)]
    simp only[Option.bind_some,wrap_succ (show i<4611686018427387904 by omega)]
    by_cases hD:∃D,Good (withS f g.sheets) D
    ·have e1:appC f (g::t)=appC (withS f g.sheets) t:=if_pos ⟨hin,hD⟩
     obtain⟨D,hD⟩:=hD
     rw[right_good n hn hD hK'.mem]
     exact ih t (i+1) _ h2 (by omega) (by omega) hlen hF' hK' (λx hx=>h x (List.mem_cons_of_mem _ hx)) (by rw[←e1];exact ho)
    ·have e1:appC f (g::t)=none:=if_neg λhh=>hD hh.2
     rw[e1] at ho
     cases ho
     rw[right_bad n hn (by omega) hF' hK'.mem hD,Option.bind_some,←hr]
     exact ihb _ m t (i+1) h2 (by omega) (by omega)
   ·have e1:appC f (g::t)=none:=if_neg λhh=>hin hh.1
    rw[e1] at ho
    cases ho
    refine(apl_bad n r1 2 gs _ _ ⟨[]⟩ ⟨f⟩ g g.sheets hgl n g.sheets 0 true rfl (Nat.zero_le _) (by omega) λ_=>hin).trans ?_
    rw[wrap_succ (by omega),←hr]
    exact ihb _ m t (i+1) h2 (by omega) (by omega)
theorem allS_len{gs:List Group}(h:∀g∈gs,g.sheets.length≤70):(allS gs).length≤70*gs.length:=by
 induction gs with
 |nil=>simp[allS]
 |cons g gs ih=>
  have h1:=ih λx hx=>h x (List.mem_cons_of_mem _ hx)
  have h2:=h g (List.mem_cons_self ..)
  rw[show(allS (g::gs))=g.sheets++allS gs from rfl,List.length_append,List.length_cons]
  omega
theorem plainTreeApplies(b:law13_Build)(l:List Group)(hb:okT tab 9 (.st 0) b)(h3:okT tab 9 (.sl (.st 7)) l):∃n,law13_TreeApplies n b l=some true:=by
 refine⟨30000, ?_⟩
 obtain⟨f,e,D,hg,hK,h60⟩:=built_ok 30000 (by omega) b
 unfold law13_TreeApplies
 rw[wakes]
 simp only[Option.bind_some,Bool.not_true,cond_false]
 obtain⟨b2,e2,s2⟩:=large_ex 30000 (by omega) l
 simp only[e2,Option.bind_some]
 cases b2 with
 |true=>rfl
 |false=>
 have hs:=s2 rfl
 have hT:∀g∈l,∀s∈g.sheets,okT tab 8 (.st 4) s.content:=λg hg s hs=>((h3.1 g hg).1.1 s hs).2
 have hG:FineG l:=fineG hs hT
 have hKG:∀g∈l,g.sheets.length≤70∧∀s∈g.sheets,Fine s.content∧Keys s.content:=λg hg=>⟨(hG.2 g hg).1,λs hs=>⟨(hG.2 g hg).2 s hs,content_keys (d:=5) (hT g hg s hs)⟩⟩
 have hlen:=allS_len (gs:=l) λg hg=>(hG.2 g hg).1
 have hl20:=hG.1
 have hn:(netS (allS l)).length≤1400:=by have:=netS_len (l:=allS l);omega
 have hnf:∀s∈netS (allS l),Fine s.content:=λs hs=>by
  obtain⟨g,hg,hs⟩:=List.mem_flatMap.1 (netS_sub s hs)
  exact(hG.2 g hg).2 s hs
 have ha:=applyC_eq 30000 (by omega) hg hG
 have h7:∀g∈l,g.sheets.length≤1000:=λg hg=>by have:=(hG.2 g hg).1;omega
 simp only[cond_false,e,Option.bind_some,ha,tnet_eq 30000 (by omega) (gs:=l) ⟨by omega,h7⟩ (by omega),rnet_eq 30000 (by omega) l (by omega),rsheets_eq 30000 (by omega) _ _ (show(netS (allS l)).length+3≤30000 by omega) (by omega) hnf,eqL_refl sameS_refl,Bool.not_true]
 exact apw_good 30000 (by omega) l (by omega) h7 _ _ 30000 l 0 f rfl (Nat.zero_le _) (by omega) hg.len (good_fine hg) hK hKG rfl
end Go.Proofs.YtlcmdgpjiendmaaGreat
