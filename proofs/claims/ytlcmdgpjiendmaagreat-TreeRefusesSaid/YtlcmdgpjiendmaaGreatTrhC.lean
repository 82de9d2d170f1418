import Derived.Test.YtlcmdgpjiendmaaGreatTreY
namespace Go.Proofs.YtlcmdgpjiendmaaGreat
open Go.Bur
set_option linter.unusedSimpArgs false
set_option linter.unusedVariables false
set_option maxRecDepth 100000
def KeysF(f:List Content):Prop:=∀m,Keys (pg f m)
theorem keys0:Keys cont0:=⟨by simp[cont0],by simp[cont0]⟩
theorem keysF_of{f:List Content}(h:∀c∈f,Keys c):KeysF f:=λm=>by
 by_cases hm:0≤m∧m<f.length
 ·exact h _ (pg_mem hm)
 ·have:idx f m=none:=by
   unfold idx
   by_cases h0:0≤m
   ·rw[if_pos h0,List.getElem?_eq_none (by omega)]
   ·rw[if_neg h0]
  unfold pg;rw[this];exact keys0
theorem KeysF.mem{f:List Content}(h:KeysF f):∀c∈f,Keys c:=λc hc=>by obtain⟨m,_,rfl⟩:=mem_pg hc;exact h m
theorem KeysF.set{f:List Content}(hf:f.length=64)(h:KeysF f){n:Int}(hn:0≤n∧n<64){c:Content}(hc:Keys c):KeysF (setP f n c):=λm=>by
 rw[pg_set hf hn]
 split
 ·exact hc
 ·exact h m
theorem keysF_with:∀{l:List Sheet} {f:List Content},f.length=64→KeysF f→SheetsIn l→(∀s∈l,Keys s.content)→KeysF (withS f l):=by
 intro l
 induction l with
 |nil=>intro f _ h _ _;exact h
 |cons s t ih=>intro f hf h hl hc;exact ih (by rw[set_len];exact hf) (h.set hf (hl s (List.mem_cons_self ..)) (hc s (List.mem_cons_self ..))) (λx hx=>hl x (List.mem_cons_of_mem _ hx)) (λx hx=>hc x (List.mem_cons_of_mem _ hx))
theorem keys_cutS{c:Content}(h:Keys c)(m:Nat):KeyIn (cutS c m):=by
 unfold cutS stepC
 split
 ·rename_i x t e
  exact h.kids x (List.mem_of_mem_drop (by rw[e];exact List.mem_cons_self ..))
 ·split
  ·rename_i r t e
   exact h.rows r (List.mem_of_mem_drop (by rw[e];exact List.mem_cons_self ..))
  ·exact key0In
theorem kidAt_in{l:List Kid}(h:∀k∈l,KeyIn k.least)(i:Nat):KeyIn (kidAt l i).least:=by
 unfold kidAt
 cases e:l[i]? with
 |none=>exact key0In
 |some x=>exact h x (List.mem_of_getElem? e)
theorem keys_rootS{f:List Content}(h:KeysF f)(n:Int)(a:Nat):∀s∈rootS f n a,Keys s.content:=λs hs=>by
 simp only[rootS,List.mem_cons,List.not_mem_nil,or_false] at hs
 rcases hs with rfl|rfl|rfl
 ·exact keys_both (h _) (h _) (kidAt_in (h n).kids a)
 ·exact keys0
 ·exact keys0
theorem keys_joinS{f:List Content}(h:KeysF f)(n:Int)(a:Nat):∀s∈joinS f n a,Keys s.content:=λs hs=>by
 simp only[joinS,List.mem_cons,List.not_mem_nil,or_false] at hs
 rcases hs with rfl|rfl|rfl
 ·refine⟨by simp,λk hk=> ?_⟩
  simp only at hk
  rcases List.mem_append.1 hk with hk|hk
  ·exact(h n).kids k (List.mem_of_mem_take hk)
  ·exact(h n).kids k (List.mem_of_mem_drop hk)
 ·exact keys_both (h _) (h _) (kidAt_in (h n).kids a)
 ·exact keys0
theorem keys_levS{f:List Content}(h:KeysF f)(n:Int)(a:Nat):∀s∈levS f n a,Keys s.content:=λs hs=>by
 have hB:=keys_both (h (kidAt (pg f n).kids (a-1)).page) (h (kidAt (pg f n).kids a).page) (kidAt_in (h n).kids a)
 simp only[levS,List.mem_cons,List.not_mem_nil,or_false] at hs
 rcases hs with rfl|rfl|rfl
 ·refine⟨by simp,λk hk=> ?_⟩
  simp only at hk
  rcases List.mem_append.1 hk with hk|hk
  ·exact(h n).kids k (List.mem_of_mem_take hk)
  ·rcases List.mem_cons.1 hk with rfl|hk
   ·exact keys_cutS hB _
   ·exact(h n).kids k (List.mem_of_mem_drop hk)
 ·exact keys_cutA hB
 ·exact keys_cutB hB
theorem srtS_all{P:Content→Prop}{l:List Sheet}(h:∀s∈l,P s.content):∀s∈srtS l,P s.content:=λs hs=>h s ((srtS_perm l).mem_iff.1 hs)
def foodP(f:List Content)(n:Int)(k:Key):Bool×List Sheet:=
 if sizeP (pg f (nextPg f n k))≤2 then
  if sizeB f n (feedAt (pg f n).kids (kidI (pg f n).kids k))≤4 then
   if n=0∧(pg f n).kids.length=2 then(true,srtS (rootS f n (feedAt (pg f n).kids (kidI (pg f n).kids k)))) else(false,srtS (joinS f n (feedAt (pg f n).kids (kidI (pg f n).kids k))))
  else(false,srtS (levS f n (feedAt (pg f n).kids (kidI (pg f n).kids k))))
 else(false,[])
theorem feed_food(f:List Content)(n:Int)(k:Key):feedP f n k=(withS f (foodP f n k).2,(if(foodP f n k).1=true then 0 else nextPg (withS f (foodP f n k).2) n k),if(foodP f n k).2=[] then [] else [⟨(foodP f n k).2⟩])∨False:=by
 left
 have hne:∀{l:List Sheet},l.length=3→srtS l≠[]:=λ{l} h e=>by have:=(srtS_perm l).length_eq;rw[e,h] at this;simp at this
 unfold feedP foodP
 simp only
 by_cases h1:sizeP (pg f (nextPg f n k))≤2
 ·simp only[if_pos h1]
  by_cases h2:sizeB f n (feedAt (pg f n).kids (kidI (pg f n).kids k))≤4
  ·simp only[if_pos h2]
   by_cases h3:n=0∧(pg f n).kids.length=2
   ·simp only[if_pos h3]
    rw[if_neg (hne (by simp[rootS]))];rfl
   ·simp only[if_neg h3]
    rw[if_neg (hne (by simp[joinS]))];rfl
  ·simp only[if_neg h2]
   rw[if_neg (hne (by simp[levS]))];rfl
 ·simp only[if_neg h1];rfl
theorem food_facts{f:List Content}{D d:Nat}{n:Int}{k:Key}(h:On f D (d+2) n k)(hs:n≠0→3≤sizeP (pg f n)):SheetsIn (foodP f n k).2∧(foodP f n k).2.length≤3∧((foodP f n k).1=true→n=0)∧((foodP f n k).1=false→On (withS f (foodP f n k).2) D (d+2) n k)∧(KeysF f→∀s∈(foodP f n k).2,Keys s.content):=by
 have hlen:∀l:List Sheet,l.length=3→(srtS l).length≤3:=λl h=>by rw[(srtS_perm l).length_eq,h];omega
 unfold foodP
 by_cases h1:sizeP (pg f (nextPg f n k))≤2
 case neg=>rw[if_neg h1];exact⟨by simp[SheetsIn],by simp,by simp,λ_=>h,by simp⟩
 rw[if_pos h1]
 obtain⟨p1,u,v,p2,_,_,ha,_,_,_,_,_,_,_,_,_,_,_,hj,hl⟩:=feed_facts h hs h1
 rw[ha]
 by_cases h2:sizeB f n (p1.length+1)≤4
 ·rw[if_pos h2]
  obtain⟨_,_,hr,hjn⟩:=hj h2
  by_cases h3:n=0∧(pg f n).kids.length=2
  ·rw[if_pos h3]
   exact⟨(grp_srt (hr h3).1).rng,hlen _ (by simp[rootS]),λ_=>h3.1,by simp,λhK=>srtS_all (keys_rootS hK _ _)⟩
  ·rw[if_neg h3]
   exact⟨(grp_srt (hjn h3).1).rng,hlen _ (by simp[joinS]),by simp,λ_=>(hjn h3).2,λhK=>srtS_all (keys_joinS hK _ _)⟩
 ·rw[if_neg h2]
  obtain⟨_,_,_,g1,g2⟩:=hl h2
  exact⟨(grp_srt g1).rng,hlen _ (by simp[levS]),by simp,λ_=>g2,λhK=>srtS_all (keys_levS hK _ _)⟩
theorem mid_idx{p1 p2:List Kid}{u v:Kid}:idx (p1++u::v::p2) (p1.length:Int)=some u∧idx (p1++u::v::p2) ((p1.length+1:Nat):Int)=some v:=by
 refine⟨idx_app, ?_⟩
 have:=idx_app (A:=p1++[u]) (B:=p2) (o:=v)
 simpa using this
theorem rfood_eq(N:Nat)(hN:1003≤N){f:List Content}{D d:Nat}{n:Int}{k:Key}(h:On f D (d+2) n k)(hs:n≠0→3≤sizeP (pg f n))(hK:KeysF f):ref13_food N ⟨f⟩ n k=some (foodP f n k):=by
 obtain⟨hn,hf,hi,hc⟩:=h.page
 obtain⟨hx,_,hxi,hxc⟩:=h.next.page
 have hxp:(kidAt (pg f n).kids (kidI (pg f n).kids k)).page=nextPg f n k:=rfl
 have hkl:=kidI_lt h.kind.2.2.1 k
 have hk4:=h.kind.2.2.1.four
 unfold ref13_food foodP
 rw[show idx (Forest.mk f).pages n=some (pg f n) from hi]
 simp only[Option.bind_some,h.rkid N hN,h.kid_idx,hxp,show idx (Forest.mk f).pages (nextPg f n k)=some (pg f (nextPg f n k)) from hxi,rsize_eq N _ (fine_check hxc)]
 by_cases h1:sizeP (pg f (nextPg f n k))≤2
 case neg=>rw[if_neg h1];refine(condT' (decide_eq_true ?_)).trans rfl;show(sizeP (pg f (nextPg f n k)):Int)>2;omega
 rw[if_pos h1]
 refine(condF' (decide_eq_false ?_)).trans ?_
 ·show ¬(sizeP (pg f (nextPg f n k)):Int)>2;omega
 obtain⟨p1,u,v,p2,hp,hI,ha,hsB,hup,hvp,hcu,hcv,hal,hu4,hv4,hR,hJ,hL,hj,hl⟩:=feed_facts h hs h1
 have hlen100:(p1++u::v::p2).length≤100:=by have:=hI.four;omega
 have hiu:idx (Forest.mk f).pages u.page=some (pg f u.page):=idx_pg (f:=f) ⟨by omega,by omega⟩
 have hiv:idx (Forest.mk f).pages v.page=some (pg f v.page):=idx_pg (f:=f) ⟨by omega,by omega⟩
 have hfu:=fine_check hcu
 have hfv:=fine_check hcv
 have hv':(p1++[u]++v::p2)=p1++u::v::p2:=by simp
 rw[ha]
 have key:ref13_food_j1 N (n,((p1.length+1:Nat):Int),⟨f⟩,pg f n,())=some (if sizeB f n (p1.length+1)≤4 then(if n=0∧(pg f n).kids.length=2 then(true,srtS (rootS f n (p1.length+1))) else(false,srtS (joinS f n (p1.length+1)))) else(false,srtS (levS f n (p1.length+1)))):=by
  obtain⟨m1,m2⟩:=mid_idx (p1:=p1) (p2:=p2) (u:=u) (v:=v)
  have hw:IntKind.wrap .i64 (((p1.length+1:Nat):Int)-1)=(p1.length:Int):=by rw[wrap_in (by simp only[List.length_append] at hlen100;omega)];omega
  have hfB:Fine (bothC (pg f u.page) (pg f v.page) v.least):=fine_both hfu hfv (by show sizeP (pg f u.page)≤100;omega) (by show sizeP (pg f v.page)≤100;omega)
  have hdis:=rdisown_eq N hN (pg f n) (l1:=p1++[u]) (l2:=p2) (x:=v) (by rw[hp,hv']) (by rw[hv'];exact hlen100)
  have hstp:=λs=>rstep_eq N hN (pg f n) (l1:=p1++[u]) (l2:=p2) (x:=v) (by rw[hp,hv']) (by rw[hv'];exact hlen100) s
  rw[show(p1++[u]).length=p1.length+1 by simp] at hdis hstp
  have hkd:(pg f n).kids=p1++u::v::p2:=by rw[hp]
  rw[←hkd] at m1 m2
  unfold ref13_food_j1
  simp only[hw,m1,m2,Option.bind_some,hiu,hiv,rboth_eq N hN _ _ hfu hfv,rsize_eq N _ hfB,jn]
  by_cases h2:sizeB f n (p1.length+1)≤4
  ·rw[if_pos h2]
   obtain⟨hck,hsz,hr,hjn⟩:=hj h2
   rw[hsz,show decide ((sizeB f n (p1.length+1):Int)≤4)=true from decide_eq_true (by omega)]
   simp only[cond_true,ieq0]
   have hlen2:(((pg f n).kids.length:Int)==2)=decide ((pg f n).kids.length=2):=ieq4 (m:=2)
   by_cases h3:n=0∧(pg f n).kids.length=2
   ·rw[if_pos h3,decide_eq_true h3.1,cond_true,hlen2,decide_eq_true h3.2,cond_true]
    have g1:=(hr h3).1
    rw[hR] at g1⊢
    rw[show(Content.mk 0 ([]:List Row) ([]:List Kid))=cont0 from rfl,rsorted_eq N hN g1.rng g1.nodup (by simp)];rfl
   ·rw[if_neg h3]
    have g1:=(hjn h3).1
    have hgo:ref13_sorted N [⟨n,⟨2,[],p1++[u]++p2⟩⟩,⟨u.page,bothC (pg f u.page) (pg f v.page) v.least⟩,⟨v.page,cont0⟩]=some (srtS (joinS f n (p1.length+1))):=by
     rw[hJ] at g1⊢
     rw[show p1++[u]++p2=p1++u::p2 by simp]
     exact rsorted_eq N hN g1.rng g1.nodup (by simp)
    simp only[hdis,Option.bind_some,show(Content.mk 0 ([]:List Row) ([]:List Kid))=cont0 from rfl,hgo]
    by_cases hn0:n=0
    ·rw[decide_eq_true hn0,cond_true,hlen2,decide_eq_false (λe=>h3 ⟨hn0,e⟩)];rfl
    ·rw[decide_eq_false hn0];rfl
  ·rw[if_neg h2]
   obtain⟨hne,hq,hsz,g1,g2⟩:=hl h2
   rw[hsz,show decide ((sizeB f n (p1.length+1):Int)≤4)=false from decide_eq_false (by omega)]
   simp only[cond_false]
   rw[rlevel_eq N hN _ _ _ hfu hfv (by omega) (by omega) (hK _) (hK _) ((hK n).kids v (by rw[hp];simp)),hal,decide_eq_false hne]
   simp only[Bool.not_false,Bool.and_self,if_true,hq,Option.bind_some,hstp]
   rw[hL] at g1⊢
   rw[show p1++[u]++⟨cutS (bothC (pg f u.page) (pg f v.page) v.least) (cutM (pg f u.page) (pg f v.page)),v.page⟩::p2=p1++u::⟨cutS (bothC (pg f u.page) (pg f v.page) v.least) (cutM (pg f u.page) (pg f v.page)),v.page⟩::p2 by simp]
   rw[rsorted_eq N hN g1.rng g1.nodup (by simp)];rfl
 simp only[jn]
 rw[wrap_succ (show kidI (pg f n).kids k<4611686018427387904 by omega),show(((kidI (pg f n).kids k+1:Nat):Int)==((pg f n).kids.length:Int))=decide (kidI (pg f n).kids k+1=(pg f n).kids.length) from ieq4]
 unfold feedAt at ha
 by_cases he:kidI (pg f n).kids k+1=(pg f n).kids.length
 ·rw[if_pos he] at ha
  rw[decide_eq_true he,cond_true,ha];exact key
 ·rw[if_neg he] at ha
  rw[decide_eq_false he,cond_false,ha];exact key
theorem take_go(N:Nat)(hN:1003≤N)(k:Key):∀(d m c D:Nat)(f:List Content)(n:Int)(gs:List Group),On f D (d+1) n k→(n≠0→3≤sizeP (pg f n))→KeysF f→d<m→c+d<40→gs.length+d≤1000→
  ref13_Take_l2 N (ref13_Take_j1 N) m (n,(c:Int),⟨f⟩,k,gs,())=ref13_Take_j1 N ((takeW k d f n).2.1,⟨(takeW k d f n).1⟩,k,gs++(takeW k d f n).2.2,()):=by
 intro d
 induction d with
 |zero=>
  intro m c D f n gs h hs hK hm hc hg
  obtain⟨m,rfl⟩:∃m',m=m'+1:=⟨m-1,by omega⟩
  obtain⟨_,_,hi,_⟩:=h.page
  obtain⟨l,hp,_⟩:=h.leaf
  unfold ref13_Take_l2
  rw[loopF_succ]
  simp only[show decide ((c:Int)<40)=true from decide_eq_true (by omega),cond_true,show idx (Forest.mk f).pages n=some (pg f n) from hi,Option.bind_some]
  rw[show((pg f n).kind==1)=true from by rw[hp];rfl,cond_true]
  simp[takeW]
 |succ d ih=>
  intro m c D f n gs h hs hK hm hc hg
  obtain⟨m,rfl⟩:∃m',m=m'+1:=⟨m-1,by omega⟩
  obtain⟨hn,hf,hi,hck⟩:=h.page
  obtain⟨D',f1,f2,f3,f4,_⟩:=feed_on h hs
  obtain⟨s1,s2,s3,s4,s5⟩:=food_facts h hs
  have hff:=(feed_food f n k).resolve_right id
  have hK':KeysF (feedP f n k).1:=by rw[hff];exact keysF_with hf hK s1 (s5 hK)
  unfold ref13_Take_l2
  rw[loopF_succ]
  generalize hr2:loopF _ m=r2
  replace hr2:ref13_Take_l2 N (ref13_Take_j1 N) m=r2:=hr2
  simp only[show decide ((c:Int)<40)=true from decide_eq_true (by omega),cond_true,show idx (Forest.mk f).pages n=some (pg f n) from hi,Option.bind_some,rfood_eq N hN h hs hK,jn]
  rw[show((pg f n).kind==1)=false from by rw[h.kind.1];rfl,cond_false]
  have hj3:∀gs':List Group,gs'.length+d≤1000→ref13_Take_j3 N r2 (n,(c:Int),(foodP f n k).1,⟨withS f (foodP f n k).2⟩,k,gs',())=ref13_Take_j1 N ((takeW k d (feedP f n k).1 (feedP f n k).2.1).2.1,⟨(takeW k d (feedP f n k).1 (feedP f n k).2.1).1⟩,k,gs'++(takeW k d (feedP f n k).1 (feedP f n k).2.1).2.2,()):=λgs' hg'=>by
   have hnext:=ih m (c+1) D' (feedP f n k).1 (feedP f n k).2.1 gs' f1 f2 hK' (by omega) (by omega) hg'
   rw[←hnext,hr2]
   have e1:(feedP f n k).1=withS f (foodP f n k).2:=by rw[hff]
   have e2:(feedP f n k).2.1=if(foodP f n k).1=true then 0 else nextPg (withS f (foodP f n k).2) n k:=by rw[hff]
   rw[e1,e2]
   unfold ref13_Take_j3
   simp only[jn,ref13_Take_j4,wrap_succ (show c<4611686018427387904 by omega)]
   cases hb:(foodP f n k).1 with
   |true=>
    have:=s3 hb
    simp only[Bool.not_true,cond_false,if_true]
    rw[this]
   |false=>
    have hon:=s4 hb
    obtain⟨_,_,hi',_⟩:=hon.page
    simp only[Bool.not_false,cond_true,show idx (Forest.mk (withS f (foodP f n k).2)).pages n=some (pg (withS f (foodP f n k).2) n) from hi',Option.bind_some,hon.rkid N hN,hon.kid_idx]
    rfl
  have e3:(feedP f n k).2.2=if(foodP f n k).2=[] then [] else [⟨(foodP f n k).2⟩]:=by rw[hff]
  rw[takeW,e3]
  by_cases hz:(foodP f n k).2=[]
  ·rw[if_pos hz,List.nil_append]
   have:=hj3 gs (by omega)
   rw[hz] at this⊢
   exact this
  ·rw[if_neg hz]
   have hpos:0<(foodP f n k).2.length:=List.length_pos_iff.2 hz
   simp only[show decide (((foodP f n k).2.length:Int)>0)=true from decide_eq_true (by omega),cond_true,app_lt (show gs.length+[Group.mk (foodP f n k).2].length≤1000000 by simp;omega) (show 24≤1000 by omega),Option.bind_some,rwith_eq N hN hf s1 (show(foodP f n k).2.length≤900 by omega)]
   rw[hj3 _ (by simp;omega),List.append_assoc]
theorem rtake_eq(N:Nat)(hN:2000≤N){f:List Content}{D:Nat}(h:Good f D)(hK:KeysF f){k:Key}(hk:ltK k key0=false){x:Row}(hx:findK (rws f D 0) k=some x):
  ∃f' n' G D' l,takeW k (D-1) f 0=(f',n',G)∧On f' D' 1 n' k∧pg f' n'=⟨1,l,[]⟩∧LeafOk l∧findK l k=some x∧rws f' D' 0=rws f D 0∧Chain (rws f D 0) f G f'∧
   Grp f' (one n' (others k l))∧Good (withS f' (one n' (others k l))) D'∧rws (withS f' (one n' (others k l))) D' 0=others k (rws f D 0)∧ref13_Take N ⟨f⟩ k=some (G++[⟨one n' (others k l)⟩])∧
   G.length≤100∧∃T:List Int,T.length≤2*(D-1)∧n'∈0::T∧∀g∈G,∀s∈g.sheets,s.page∈0::T:=by
 obtain⟨D',g1,g2,g3,g4,T,g5,g6,g7⟩:=take_on h hk
 have hdeep:=h.deep
 have hpos:=h.pos
 obtain⟨l,hp,hl,_,hfk⟩:=g1.leaf
 rw[g3,hx] at hfk
 obtain⟨q1,q2,q3,q4,q5⟩:=take_leaf g1 (by rw[g3];exact hx) g2 hp
 have hlen:∀(d:Nat)(f:List Content)(n:Int),(takeW k d f n).2.2.length≤d:=by
  intro d
  induction d with
  |zero=>intro f n;simp[takeW]
  |succ d ih=>
   intro f n
   have h1:(feedP f n k).2.2.length≤1:=by rw[(feed_food f n k).resolve_right id];simp only;split<;>simp
   have:=ih (feedP f n k).1 (feedP f n k).2.1
   simp only[takeW,List.length_append];omega
 have hG:=hlen (D-1) f 0
 refine⟨_,_,_,D',l,rfl,g1,hp,hl,q5,g3,g4,q1,q2,by rw[q3,g3], ?_,Nat.le_trans hG (by omega),T,g5,g6,g7⟩
 unfold ref13_Take
 simp only[jn]
 have:=take_go N (by omega) k (D-1) N 0 D f 0 [] (by rw[show D-1+1=D by omega];exact On.root h hk) (λe=>absurd rfl e) hK (by omega) (by omega) (by simp;omega)
 rw[show((0:Nat):Int)=0 from rfl] at this
 rw[this]
 unfold ref13_Take_j1
 obtain⟨_,_,hi,_⟩:=g1.page
 have hl4:=hl.len
 simp only[show idx (Forest.mk (takeW k (D-1) f 0).1).pages (takeW k (D-1) f 0).2.1=some (pg (takeW k (D-1) f 0).1 (takeW k (D-1) f 0).2.1) from hi,Option.bind_some,hp,without_eq N (by omega) l (by omega) k,ref11_Leaf,List.nil_append]
 rw[app_lt (by simp;omega) (by decide)];rfl
end Go.Proofs.YtlcmdgpjiendmaaGreat
namespace Go.Proofs.YtlcmdgpjiendmaaGreat
open Go.Bur
set_option linter.unusedSimpArgs false
set_option linter.unusedVariables false
set_option maxRecDepth 100000
theorem step_form{f f':List Content}{n n':Int}{k:Key}{new:Bool}{G:List Group}(h:stepP f n k new=some (f',n',G)):(f'=f∧G=[])∨∃m,f'=withS f (srtS (splitS f n (kidI (pg f n).kids k) m))∧G=[⟨srtS (splitS f n (kidI (pg f n).kids k) m)⟩]:=by
 unfold stepP at h
 split at h
 ·split at h
  ·cases h
  ·rename_i m t _
   injection h with h;injection h with h1 h;injection h with _ h
   exact Or.inr ⟨m,h1.symm,h.symm⟩
 ·injection h with h;injection h with h1 h;injection h with _ h
  exact Or.inl ⟨h1.symm,h.symm⟩
end Go.Proofs.YtlcmdgpjiendmaaGreat
namespace Go.Proofs.YtlcmdgpjiendmaaGreat
open Go.Bur
set_option linter.unusedSimpArgs false
set_option linter.unusedVariables false
set_option maxRecDepth 100000
theorem group_eq(n:Nat)(hn:1003≤n){f:List Content}(hf:f.length=64){l:List Sheet}(h:Grp f l)(hl:l.length≤900)(gs:List Group)(hg:gs.length≤1000):tree_change_group n f gs l=some (withS f (srtS l),gs++[⟨srtS l⟩]):=by
 have hin:=(grp_srt h).rng
 have hlen:=(srtS_perm l).length_eq
 have key:∀(m:Nat)(t:List Sheet)(i:Nat)(g:List Content),(srtS l).drop i=t→i≤(srtS l).length→t.length<m→g.length=64→tree_change_group_l1 n m (((srtS l).length:Int),(i:Int),srtS l,g,gs,())=some (withS g t,gs++[⟨srtS l⟩]):=by
  intro m
  induction m with
  |zero=>intro t i g _ _ h;omega
  |succ m ih=>
   intro t i g ht hi hk hg'
   unfold tree_change_group_l1
   rw[loopF_succ]
   generalize hr:loopF _ m=r1
   replace hr:tree_change_group_l1 n m=r1:=hr
   simp only[hr] at ih
   cases t with
   |nil=>
    cases drop_end ht hi
    simp only[ge_dec (Nat.lt_irrefl _),cond_false,app_lt (show gs.length+[Group.mk (srtS l)].length≤1000000 by simp;omega) (show 24≤1000 by omega)];rfl
   |cons x t=>
    obtain⟨h1,h2,h3⟩:=drop_get ht
    have hx:=hin x (List.mem_of_getElem? h1)
    obtain⟨j,hj⟩:∃j:Nat,x.page=(j:Int):=⟨x.page.toNat,by omega⟩
    have hput:put g x.page x.content=some (setP g x.page x.content):=by unfold setP;rw[hj,Int.toNat_natCast];exact put_ok (by omega)
    simp only[lt_dec h3,cond_true,idx_nat,h1,Option.bind_some,show idx g x.page=some (pg g x.page) from idx_pg ⟨hx.1,by omega⟩,hput,wrap_succ (show i<4611686018427387904 by omega)]
    exact ih t (i+1) _ h2 (by omega) (by simp only[List.length_cons] at hk;omega) (by rw[set_len];exact hg')
 unfold tree_change_group
 rw[sortS_eq n (by omega) h.nodup]
 exact key n (srtS l) 0 f rfl (Nat.zero_le _) (by omega) hf
theorem contains_one(n:Nat)(hn:3≤n)(a x:Int):slices_Contains_int n [a] x=some (decide (x=a)):=by
 obtain⟨n,rfl⟩:∃m,n=m+2:=⟨n-2,by omega⟩
 unfold slices_Contains_int slices_Index_int slices_Index_int_l1
 rw[loopF_succ]
 simp only[List.length_cons,List.length_nil,show decide ((0:Int)<((0+1:Nat):Int))=true from rfl,cond_true,idx_zero,List.getElem?_cons_zero,Option.bind_some,ibeq,show IntKind.wrap .i64 (0+1)=1 from by rw[wrap_in (by omega)];rfl]
 by_cases h:x=a
 ·rw[decide_eq_true h];rfl
 ·rw[decide_eq_false h,loopF_succ];rfl
theorem contains_none(n:Nat)(hn:3≤n)(x:Int):slices_Contains_int n [] x=some false:=by
 obtain⟨n,rfl⟩:∃m,n=m+1:=⟨n-1,by omega⟩
 unfold slices_Contains_int slices_Index_int slices_Index_int_l1
 rw[loopF_succ]
 rfl
theorem free_go(n:Nat)(hn:1003≤n){gs:List Group}{f:List Content}(hf:f.length=64)(but:List Int)(p:Int→Bool)(hc:∀x,slices_Contains_int n but x=some (p x)):tree_change_free n ⟨⟨f⟩,gs⟩ but=some (match(frees f).filter λx=> !p x with|[]=>(0,false)|m::_=>(m,true)):=by
 have key:∀(m i:Nat),1≤i→i≤64→64-i<m→tree_change_free_l1 n m (but,f,(f.length:Int),(i:Int),())=some (match(((List.range' i (64-i)).filter fun(j:Nat)=>decide ((pg f (j:Int)).kind=0)).map Int.ofNat).filter λx=> !p x with|[]=>(0,false)|m::_=>(m,true)):=by
  intro m
  induction m with
  |zero=>intro i _ _ h;omega
  |succ m ih=>
   intro i h1 hi hm
   unfold tree_change_free_l1
   rw[loopF_succ]
   generalize hr:loopF _ m=r1
   replace hr:tree_change_free_l1 n m=r1:=hr
   simp only[hr] at ih
   by_cases h:i<64
   ·simp only[lt_dec (show i<f.length by omega),cond_true,show idx f (i:Int)=some (pg f (i:Int)) from idx_pg ⟨by omega,by omega⟩,Option.bind_some,jn,show decide ((i:Int)>0)=true from decide_eq_true (by omega),ieq0,hc,wrap_succ (show i<4611686018427387904 by omega),ih (i+1) (by omega) (by omega) (by omega)]
    rw[show 64-i=(64-(i+1))+1 by omega,List.range'_succ,List.filter_cons]
    by_cases h0:(pg f (i:Int)).kind=0
    ·rw[decide_eq_true h0,cond_true,if_pos rfl,List.map_cons,List.filter_cons]
     by_cases hp:p (i:Int)=true
     ·rw[show p (Int.ofNat i)=true from hp]
      simp[hp]
     ·rw[Bool.not_eq_true] at hp
      rw[show p (Int.ofNat i)=false from hp]
      simp[hp]
    ·rw[decide_eq_false h0,cond_false]
     simp
   ·obtain rfl:i=64:=by omega
    simp only[ge_dec (show ¬64<f.length by omega),cond_false]
    rfl
 unfold tree_change_free
 obtain⟨n,rfl⟩:∃m,n=m+1:=⟨n-1,by omega⟩
 have h1:=key n 1 (Nat.le_refl _) (by omega) (by omega)
 show tree_change_free_l1 (n+1) (n+1) (but,f,(f.length:Int),0,())=_
 unfold tree_change_free_l1 at h1⊢
 rw[loopF_succ]
 simp only[show decide ((0:Int)<(f.length:Int))=true from decide_eq_true (by omega),cond_true,show idx f 0=some (pg f 0) from idx_pg ⟨by omega,by omega⟩,Option.bind_some,jn,show decide ((0:Int)>0)=false from rfl,cond_false,show IntKind.wrap .i64 (0+1)=((1:Nat):Int) from by rw[wrap_in (by omega)];rfl]
 exact h1
theorem free_all(n:Nat)(hn:1003≤n){f:List Content}(hf:f.length=64)(gs:List Group):tree_change_free n ⟨⟨f⟩,gs⟩ []=some (match frees f with|[]=>(0,false)|m::_=>(m,true)):=by
 have:=free_go (gs:=gs) n hn hf [] (λ_=>false) (contains_none n (by omega))
 rw[show((frees f).filter λx=> !(λ_=>false) x)=frees f from List.filter_eq_self.2 (by simp)] at this
 exact this
theorem free_but(n:Nat)(hn:1003≤n){f:List Content}(hf:f.length=64)(gs:List Group)(a:Int):tree_change_free n ⟨⟨f⟩,gs⟩ [a]=some (match(frees f).filter λx=> !decide (x=a) with|[]=>(0,false)|m::_=>(m,true)):=free_go n hn hf [a] (λx=>decide (x=a)) (contains_one n (by omega) a)
theorem inner_check{l:List Kid}(h:InnerOk l):checkP ⟨2,[],l⟩=true:=(check_iff _).2 (Or.inr (Or.inr ⟨l,rfl,h⟩))
theorem pone_eq(n:Nat)(hn:1003≤n){l:List Kid}(h:InnerOk l):page_one n ⟨2,[],l⟩=some (⟨2,[],l⟩,0):=one_eq n hn _ (fine_check (inner_check h)) (inner_check h)
theorem padopt_eq(n:Nat)(hn:1003≤n){l1 l2:List Kid}{x:Kid}(h:InnerOk (l1++x::l2))(h3:(l1++x::l2).length≤3){m:Int}{s:Key}(h':InnerOk (l1++x::⟨s,m⟩::l2)):page_Adopt n ⟨2,[],l1++x::l2⟩ (l1.length:Int) m s=some (⟨2,[],l1++x::⟨s,m⟩::l2⟩,0):=by
 have hc:=fine_check (inner_check h)
 have hfull:fullP ⟨2,[],l1++x::l2⟩=false:=by unfold fullP;rw[show decide (sizeP ⟨2,[],l1++x::l2⟩=4)=false from decide_eq_false (by simp only[sizeP,List.length_nil];omega),Bool.and_false]
 have hlen:(l1.length:Int)<((l1++x::l2).length:Int):=by simp;omega
 have hins:slices_Insert_Kid n (IntKind.wrap .i64 ((l1.length:Int)+1)) (l1++x::l2) [⟨s,m⟩]=some (l1++x::⟨s,m⟩::l2):=by
  rw[wrap_succ (by simp at h3;omega)]
  show insL 24 _ _ _=_
  unfold insL
  rw[if_pos ⟨by omega,by simp;omega⟩,room_ok (by simp at h3⊢;omega),Int.toNat_natCast]
  have e1:(l1++x::l2).take (l1.length+1)=l1++[x]:=by
   rw[show l1++x::l2=(l1++[x])++l2 by simp,show l1.length+1=(l1++[x]).length by simp,List.take_left]
  have e2:(l1++x::l2).drop (l1.length+1)=l2:=by
   rw[show l1++x::l2=(l1++[x])++l2 by simp,show l1.length+1=(l1++[x]).length by simp,List.drop_left]
  rw[e1,e2];simp
 unfold page_Adopt
 rw[asked2_eq' n hn h]
 simp only[Option.bind_some,show((0:Int) !=0)=false from rfl,cond_false,jn,full_eq n _ hc,hfull,cloneK_eq n (l1++x::l2) (by omega),hins,page_inner,pone_eq n hn h']
 rw[show decide ((l1.length:Int)<0)=false from decide_eq_false (by omega),show decide ((l1.length:Int)≥((l1++x::l2).length:Int))=false from decide_eq_false (by omega)]
 rfl
theorem On.pkid{f:List Content}{D d:Nat}{n:Int}{k:Key}(h:On f D (d+2) n k)(N:Nat)(hN:1003≤N):page_Kid N (pg f n) k=some ((kidI (pg f n).kids k:Int),0):=by
 have h1:=h.kind
 rw[h1.2.2.2];exact pkid_eq N hN h1.2.2.1 k
theorem tdown_eq(N:Nat)(hN:1003≤N){f:List Content}{D d:Nat}{n:Int}{k:Key}(h:On f D (d+2) n k)(gs:List Group):tree_change_down N ⟨⟨f⟩,gs⟩ n k=some (nextPg f n k):=by
 obtain⟨_,_,hi,_⟩:=h.page
 unfold tree_change_down
 simp only[show idx (Forest.mk f).pages n=some (pg f n) from hi,Option.bind_some,h.pkid N hN,h.kid_idx];rfl
theorem pfull_eq(N:Nat)(hN:1003≤N){c:Content}(h:checkP c=true):page_Full N c=some (fullP c):=by rw[Full_eq N hN c (fine_check h),h,Bool.true_and]
theorem psplit_eq(N:Nat)(hN:1003≤N){c:Content}(h:checkP c=true)(hf:fullP c=true):page_Split N c=some (cutA c 2,cutB c 2,cutS c 2,0):=by rw[split_eq N hN c (fine_check h),splitP,if_pos h,if_pos hf]
theorem tsplit_eq(N:Nat)(hN:1003≤N){f:List Content}{D d:Nat}{n:Int}{k:Key}(h:On f D (d+2) n k)(hs:sizeP (pg f n)≤3)(hfu:fullP (pg f (nextPg f n k))=true)(gs:List Group)(hg:gs.length≤1000):
  tree_change_split N n (kidI (pg f n).kids k:Int) f gs=some (match frees f with|[]=>(false,f,gs)|m::_=>(true,withS f (srtS (splitS f n (kidI (pg f n).kids k) m)),gs++[⟨srtS (splitS f n (kidI (pg f n).kids k) m)⟩])):=by
 obtain⟨hn,hf,hi,hc⟩:=h.page
 obtain⟨hx,_,hxi,hxc⟩:=h.next.page
 obtain⟨l1,x,l2,hp,hI,hii,c1,c2,hd⟩:=h.kids
 have hnx:nextPg f n k=x.page:=by unfold nextPg;rw[hp];simp only;rw[←hii];exact congrArg (·.page) kidAt_mid
 have hik:kidI (pg f n).kids k=l1.length:=by rw[hp];exact hii.symm
 have hki:=h.kid_idx
 have hka:kidAt (pg f n).kids (kidI (pg f n).kids k)=x:=by rw[hik,hp];exact kidAt_mid
 rw[hka] at hki
 rw[hnx] at hfu hxi hxc
 unfold tree_change_split
 simp only[hi,Option.bind_some,hki,hxi,psplit_eq N hN hxc hfu,free_all N hN hf]
 cases hfr:frees f with
 |nil=>rfl
 |cons m t=>
  have hsz:sizeP (pg f x.page)=4:=by unfold fullP at hfu;rw[Bool.and_eq_true] at hfu;exact of_decide_eq_true hfu.2
  have h3:(l1++x::l2).length≤3:=by rw[hp] at hs;simpa[sizeP] using hs
  obtain⟨g1,g2,_,g4,_⟩:=split_on h hp c1 c2 h3 hsz (m:=m) (by rw[hfr];exact List.mem_cons_self ..)
  have hI':=g2.inner g4
  simp only[Bool.not_true,cond_false]
  rw[hik]
  rw[splitS_eq hp] at g1⊢
  have had:=padopt_eq N hN hI h3 hI'
  rw[←hp] at had
  simp only[had,Option.bind_some]
  rw[group_eq N hN hf g1 (by simp) gs hg];rfl
theorem tparted_eq(N:Nat)(hN:1003≤N){f:List Content}{D:Nat}(h:Good f D)(hfu:fullP (pg f 0)=true):tree_change_parted N f []=some (match frees f with|a::b::_=>(true,withS f (srtS (partS f a b)),[⟨srtS (partS f a b)⟩])|_=>(false,f,[])):=by
 have hi:idx f 0=some (pg f 0):=idx_pg ⟨by omega,by have:=h.len;omega⟩
 have hc:=h.ok 0 ⟨by omega,by omega⟩
 have hup:(frees f).Pairwise (· < ·):=by
  unfold frees
  exact List.pairwise_map.2 (List.Pairwise.imp (λ{a b} h=>Int.ofNat_lt.2 h) ((List.pairwise_lt_range' ..).filter _))
 unfold tree_change_parted
 simp only[hi,Option.bind_some,psplit_eq N hN hc hfu,free_all N hN h.len,free_but N hN h.len,jn]
 match hfr:frees f with
 |[]=>rfl
 |[a]=>simp
 |a::b::t=>
  have hsz:sizeP (pg f 0)=4:=by unfold fullP at hfu;rw[Bool.and_eq_true] at hfu;exact of_decide_eq_true hfu.2
  obtain⟨g1,_⟩:=part_good h hsz hfr
  rw[hfr] at hup
  have hab:b≠a:=by have:=(List.pairwise_cons.1 hup).1 b (List.mem_cons_self ..);omega
  have hfl:(a::b::t).filter (λx=> !decide (x=a))=b::t.filter λx=> !decide (x=a):=by
   rw[List.filter_cons,decide_eq_true rfl,List.filter_cons,decide_eq_false hab];rfl
  simp only[hfl,Bool.not_true,cond_false]
  rw[show([(Sheet.mk 0 (Content.mk 2 ([]:List Row) ([(Kid.mk (Key.mk 0 0) a),(Kid.mk (cutS (pg f 0) 2) b)]:List Kid))),(Sheet.mk a (cutA (pg f 0) 2)),(Sheet.mk b (cutB (pg f 0) 2))]:List Sheet)=partS f a b from rfl,group_eq N hN h.len g1 (by simp[partS]) [] (by simp)]
  rfl
end Go.Proofs.YtlcmdgpjiendmaaGreat
namespace Go.Proofs.YtlcmdgpjiendmaaGreat
open Go.Bur
set_option linter.unusedSimpArgs false
set_option linter.unusedVariables false
set_option maxRecDepth 100000
theorem leaf_err{l:List Row}(h:LeafOk l):err1 ⟨1,l,[]⟩=0:=by
 have hck:checkP ⟨1,l,[]⟩=true:=(check_iff _).2 (Or.inr (Or.inl ⟨l,rfl,h⟩))
 unfold err1;rw[if_pos hck];rfl
theorem leaf_fine{l:List Row}(h:LeafOk l):Fine ⟨1,l,[]⟩:=fine_check ((check_iff _).2 (Or.inr (Or.inl ⟨l,rfl,h⟩)))
theorem pput_eq(N:Nat)(hN:1003≤N){l:List Row}(hl:LeafOk l){r:Row}(hr:okRow r=true)(hs:findK l r.key=none→l.length≤3):page_Put N ⟨1,l,[]⟩ r=some (⟨1,putR r l,[]⟩,0):=by
 rcases stand hl.srt r.key with⟨pre,x,post,e,hx,hc,_⟩|⟨pre,post,e,hc,hf⟩
 ·subst e
  rw[putR_in hx hc]
  exact put_in N hN _ (leaf_fine hl) r (leaf_err hl) hr rfl hx
 ·have:=hs hf
  subst e
  rw[putR_new hc]
  exact put_new N hN _ (leaf_fine hl) r (leaf_err hl) hr rfl hc this
theorem one_grp{f:List Content}{n:Int}{l:List Row}(hn:0≤n∧n<64):Grp f (one n l):=⟨λs hs=>by cases List.mem_singleton.1 hs;exact hn,by simp[one]⟩
def errP(new:Bool):Int:=if new=true then 4 else 0
theorem errP_eq(new:Bool):(errP new==4)=new:=by cases new<;>rfl
def outT(r:Row)(gs:List Group):Option (List Content×Int×List Group)→Option (Int×List Group)
 |none=>some (6,[])
 |some z=>some (0,gs++(z.2.2++[⟨one z.2.1 (putR r (pg z.1 z.2.1).rows)⟩]))
theorem outT_map(r:Row)(gs G:List Group)(o:Option (List Content×Int×List Group)):outT r gs (o.map λz=>(z.1,z.2.1,G++z.2.2))=outT r (gs++G) o:=by
 cases o with
 |none=>rfl
 |some z=>simp only[Option.map_some,outT,List.append_assoc]
theorem tput_go(N:Nat)(hN:1003≤N){r:Row}(hr:okRow r=true)(new:Bool):∀(d m D:Nat)(f:List Content)(n:Int)(gs:List Group),On f D (d+1) n r.key→(new=true→sizeP (pg f n)≤3)→(findK (rws f D 0) r.key=none→new=true)→d<m→gs.length+d≤900→
  tree_Put_l1 N m (n,errP new,r,f,gs,())=outT r gs (putW r.key new d f n):=by
 intro d
 induction d with
 |zero=>
  intro m D f n gs h hs hnew hm hg
  obtain⟨m,rfl⟩:∃m',m=m'+1:=⟨m-1,by omega⟩
  obtain⟨hn,hf,hi,_⟩:=h.page
  obtain⟨l,hp,hl,_,hfk⟩:=h.leaf
  unfold tree_Put_l1
  rw[loopF_succ]
  simp only[hi,Option.bind_some]
  rw[show((pg f n).kind==2)=false from by rw[hp];rfl,cond_false]
  have hpp:=pput_eq N hN hl hr (λe=>by have:=hs (hnew (by rw[hfk];exact e));rw[hp] at this;simpa[sizeP] using this)
  rw[←hp] at hpp
  simp only[hpp,Option.bind_some]
  rw[show([(Sheet.mk n (Content.mk 1 (putR r l) []))]:List Sheet)=one n (putR r l) from rfl,group_eq N hN hf (one_grp hn) (by simp[one]) gs (by omega)]
  simp only[putW,outT,hp,Option.bind_some,List.nil_append];rfl
 |succ d ih=>
  intro m D f n gs h hs hnew hm hg
  obtain⟨m,rfl⟩:∃m',m=m'+1:=⟨m-1,by omega⟩
  obtain⟨hn,hf,hi,_⟩:=h.page
  obtain⟨hx,_,hxi,hxc⟩:=h.next.page
  unfold tree_Put_l1
  rw[loopF_succ]
  generalize hr2:loopF _ m=r2
  replace hr2:tree_Put_l1 N m=r2:=hr2
  have hxp:(kidAt (pg f n).kids (kidI (pg f n).kids r.key)).page=nextPg f n r.key:=rfl
  have hki:=h.kid_idx
  simp only[hi,Option.bind_some,h.pkid N hN,hki,hxp,hxi,pfull_eq N hN hxc,errP_eq]
  rw[show((pg f n).kind==2)=true from by rw[h.kind.1];rfl,cond_true]
  rcases stepP_on h hs with⟨e1,e2,e3⟩|⟨f',n',G,e1,⟨e2,e3,e4,e5⟩,_⟩
  ·subst e1
   have hfull:fullP (pg f (nextPg f n r.key))=true:=by
    unfold stepP at e3
    by_cases hf:fullP (pg f (nextPg f n r.key))=true
    ·exact hf
    ·rw[if_neg (by simpa[nextPg] using hf)] at e3;cases e3
   rw[cond_true,hfull,cond_true,tsplit_eq N hN h (hs rfl) hfull gs (by omega),e2,putW,e3]
   rfl
  ·rw[putW,e1]
   simp only[Option.bind_some]
   rw[outT_map]
   have hnew':findK (rws f' D 0) r.key=none→new=true:=by rw[e4];exact hnew
   rcases step_form e1 with⟨h1,h2⟩|⟨mm,h1,h2⟩
   ·subst h1 h2
    have hb:(new&&fullP (pg f' (nextPg f' n r.key)))=false:=by
     unfold stepP at e1
     by_cases hb:(new&&fullP (pg f' (kidAt (pg f' n).kids (kidI (pg f' n).kids r.key)).page))=true
     ·rw[if_pos hb] at e1
      split at e1
      ·cases e1
      ·injection e1 with e1;injection e1 with _ e1;injection e1 with _ e1;cases e1
     ·simpa[nextPg] using hb
    have hn':nextPg f' n r.key=n':=by
     unfold stepP at e1
     rw[if_neg (by rw[hxp,hb];simp)] at e1
     injection e1 with e1;injection e1 with _ e1;injection e1 with e1 _
    have hgo:((tree_change_down N ⟨⟨f'⟩,gs⟩ n r.key).bind λy=>r2 (y,errP new,r,f',gs,()))=outT r (gs++[]) (putW r.key new d f' n'):=by
     rw[tdown_eq N hN h,hn',List.append_nil]
     simp only[Option.bind_some]
     rw[←hr2]
     exact ih m D f' n' gs e2 e3 hnew' (by omega) (by omega)
    cases hnw:new with
    |true=>
     rw[hnw,Bool.true_and] at hb
     rw[hnw] at hgo
     rw[cond_true,hb,cond_false,cond_false]
     exact hgo
    |false=>
     rw[hnw] at hgo
     rw[cond_false,cond_false,cond_false]
     exact hgo
   ·have hb:(new&&fullP (pg f (nextPg f n r.key)))=true:=by
     unfold stepP at e1
     by_cases hb:(new&&fullP (pg f (kidAt (pg f n).kids (kidI (pg f n).kids r.key)).page))=true
     ·exact hb
     ·rw[if_neg hb] at e1
      injection e1 with e1;injection e1 with _ e1;injection e1 with _ e1
      rw[h2] at e1;cases e1
    have hb2:=hb
    rw[Bool.and_eq_true] at hb2
    obtain⟨rfl,hfull⟩:=hb2
    have hmm:∃t,frees f=mm::t:=by
     unfold stepP at e1
     rw[if_pos (show(true&&fullP (pg f (kidAt (pg f n).kids (kidI (pg f n).kids r.key)).page))=true from hb)] at e1
     cases hfr:frees f with
     |nil=>rw[hfr] at e1;cases e1
     |cons m0 t=>
      rw[hfr] at e1
      injection e1 with e1;injection e1 with _ e1;injection e1 with _ e1
      rw[h2] at e1
      have h5:=congrArg (λl:List Group=>l.map λg=>g.sheets) e1
      simp only[List.map_cons,List.map_nil,List.cons.injEq,and_true] at h5
      have h6:m0∈(srtS (splitS f n (kidI (pg f n).kids r.key) mm)).map (·.page):=by
       rw[←h5]
       exact((srtS_perm _).map _).mem_iff.2 (by simp[splitS])
      have h7:mm∈(srtS (splitS f n (kidI (pg f n).kids r.key) m0)).map (·.page):=by
       rw[h5]
       exact((srtS_perm _).map _).mem_iff.2 (by simp[splitS])
      obtain⟨lo,hi',Q,R1,R2,hA,_⟩:=h
      have hfree:=(hA.free (m:=m0) (by rw[hfr];exact List.mem_cons_self ..)).2
      have hxin:nextPg f n r.key∈pgs f (d+2) n:=List.mem_cons_of_mem _ (List.mem_flatMap.2 ⟨kidAt (pg f n).kids (kidI (pg f n).kids r.key),List.mem_of_getElem? (by rw[←idx_nat];exact hki),pgs_self⟩)
      have h8:=((srtS_perm _).map (·.page)).mem_iff.1 h6
      simp only[splitS,List.map_cons,List.map_nil,List.mem_cons,List.not_mem_nil,or_false] at h8
      rcases h8 with h8|h8|h8
      ·exact absurd (List.mem_append_right _ (h8▸pgs_self)) hfree
      ·exact absurd (List.mem_append_right _ (h8▸hxin)) hfree
      ·exact⟨t,by rw[h8]⟩
    obtain⟨t,hfr⟩:=hmm
    have hsz:On f' D (d+2) n r.key:=by
     obtain⟨l1,x,l2,hp,hI,hii,c1,c2,hd⟩:=h.kids
     have hnx:nextPg f n r.key=x.page:=by unfold nextPg;rw[hp];simp only;rw[←hii];exact congrArg (·.page) kidAt_mid
     have hik:kidI (pg f n).kids r.key=l1.length:=by rw[hp];exact hii.symm
     rw[hnx] at hfull
     have h4:sizeP (pg f x.page)=4:=by unfold fullP at hfull;rw[Bool.and_eq_true] at hfull;exact of_decide_eq_true hfull.2
     obtain⟨_,g2,_⟩:=split_on h hp c1 c2 (by have:=hs rfl;rw[hp] at this;simpa[sizeP] using this) h4 (m:=mm) (by rw[hfr];exact List.mem_cons_self ..)
     rw[h1,hik];exact g2
    have hn':nextPg f' n r.key=n':=by
     unfold stepP at e1
     rw[if_pos (show(true&&fullP (pg f (kidAt (pg f n).kids (kidI (pg f n).kids r.key)).page))=true from hb),hfr] at e1
     injection e1 with e1;injection e1 with e0 e1;injection e1 with e1 _
     rw[←e1,←e0];rfl
    rw[cond_true,hfull,cond_true,tsplit_eq N hN h (hs rfl) hfull gs (by omega),hfr]
    simp only[Option.bind_some,Bool.not_true,cond_false]
    rw[←h1,←h2,tdown_eq N hN hsz,hn']
    simp only[Option.bind_some]
    rw[←hr2]
    have:=ih m D f' n' (gs++G) e2 e3 hnew' (by omega) (by rw[h2];simp;omega)
    rw[h2] at this⊢
    exact this
theorem put_l2(N:Nat):tree_Put_l2 N=tree_Put_l1 N:=rfl
theorem put_l4(N:Nat):tree_Put_l4 N=tree_Put_l1 N:=rfl
theorem checkRow0{r:Row}(N:Nat)(hr:okRow r=true):codec_CheckRow N r=some 0:=by rw[checkRow_eq,if_pos hr]
theorem tput_way(N:Nat)(hN:2000≤N){f:List Content}{D:Nat}(h:Good f D){r:Row}(hr:okRow r=true)(hk:ltK r.key key0=false):tree_Put N ⟨f⟩ r=outT r [] (wayP f D r.key (newB (rws f D 0) r.key)):=by
 have hlen:=h.len
 have hdeep:=h.deep
 have hpos:=h.pos
 obtain⟨d,rfl⟩:∃d,D=d+1:=⟨D-1,by omega⟩
 have hi:idx f 0=some (pg f 0):=idx_pg ⟨by omega,by omega⟩
 have hc:=h.ok 0 ⟨by omega,by omega⟩
 have hf0:=fullP_size h.tree
 have h4:=(con_of h.tree).2.1
 have herr:∀R:List Row,(ofF (findK R r.key)).2=errP (newB R r.key):=λR=>by
  unfold newB;cases findK R r.key<;>rfl
 have hnew:=fun(e:findK (rws f (d+1) 0) r.key=none)=>newB_iff.2 e
 unfold tree_Put tree_begun
 simp only[check_good N hN h,Option.bind_some,show((0:Int) !=0)=false from rfl,cond_false,checkRow0 N hr,cloneC_eq N f (by omega),get_good N hN h,herr,errP_eq,hi,pfull_eq N (by omega) hc,put_l2,put_l4]
 generalize newB (rws f (d+1) 0) r.key=new at hnew⊢
 unfold wayP
 cases hn:new with
 |false=>
  rw[Bool.false_and,if_neg (by simp),Nat.add_sub_cancel]
  simp only[cond_false]
  have:=tput_go N (by omega) hr false d N (d+1) f 0 [] (On.root h hk) (λe=>by cases e) (λe=>by rw[←hn];exact hnew e) (by omega) (by simp;omega)
  exact this
 |true=>
  rw[Bool.true_and,cond_true]
  by_cases hfu:fullP (pg f 0)=true
  ·rw[if_pos hfu,hfu,cond_true,tparted_eq N (by omega) h hfu]
   match hfr:frees f with
   |[]=>rfl
   |[a]=>rfl
   |a::b::t=>
    have hsz:sizeP (pg f 0)=4:=by rw[hf0] at hfu;exact of_decide_eq_true hfu
    obtain⟨q1,q2,q3,q4,_⟩:=part_good h hsz hfr
    simp only[Option.bind_some,Bool.not_true,cond_false]
    have:=tput_go N (by omega) hr true (d+1) N (d+2) _ 0 [⟨srtS (partS f a b)⟩] (On.root q2 hk) (λ_=>by rw[q4];simp[sizeP]) (λ_=>rfl) (by omega) (by simp;omega)
    refine this.trans ?_
    cases putW r.key true (d+1) (withS f (srtS (partS f a b))) 0<;>rfl
  ·rw[if_neg hfu]
   rw[Bool.not_eq_true] at hfu
   rw[hfu,Nat.add_sub_cancel]
   simp only[cond_false]
   have:=tput_go N (by omega) hr true d N (d+1) f 0 [] (On.root h hk) (λ_=>by rw[hf0,decide_eq_false_iff_not] at hfu;omega) (λ_=>rfl) (by omega) (by simp;omega)
   exact this
theorem tput_eq(N:Nat)(hN:2000≤N){f:List Content}{D:Nat}(h:Good f D){r:Row}(hr:okRow r=true)(hk:ltK r.key key0=false):tree_Put N ⟨f⟩ r=ref13_Put N ⟨f⟩ r:=by
 rw[tput_way N hN h hr hk]
 rcases rput_eq N hN h hr hk with⟨_,_,e1,e2⟩|⟨f',n',G,D',l,e1,_,e3,_,_,_,_,_,_,_,e11,_⟩
 ·rw[e1,e2];rfl
 ·rw[e1,e11]
  simp only[outT,e3,List.nil_append]
end Go.Proofs.YtlcmdgpjiendmaaGreat
namespace Go.Proofs.YtlcmdgpjiendmaaGreat
open Go.Bur
set_option linter.unusedSimpArgs false
set_option linter.unusedVariables false
set_option maxRecDepth 100000
theorem pdisown_eq(n:Nat)(hn:1003≤n){p1 p2:List Kid}{u v:Kid}(h:InnerOk (p1++u::v::p2))(h':InnerOk (p1++u::p2)):page_Disown n ⟨2,[],p1++u::v::p2⟩ ((p1.length+1:Nat):Int)=some (⟨2,[],p1++u::p2⟩,0):=by
 have hc:=fine_check (inner_check h)
 have h4:=h.four
 have h2:=h'.two
 have hlen:(p1++u::v::p2).length=(p1++u::p2).length+1:=by simp;omega
 have hin:p1.length+1<(p1++u::v::p2).length:=by simp
 have hb:page_behind n ⟨2,[],p1++u::v::p2⟩ ((p1.length+1:Nat):Int)=some true:=by
  unfold page_behind
  simp only[jn,show decide (((p1.length+1:Nat):Int)≥1)=true from decide_eq_true (by omega),cond_true,lt_dec hin]
 have hdel:slices_Delete_Kid n ((p1.length+1:Nat):Int) (IntKind.wrap .i64 (((p1.length+1:Nat):Int)+1)) (p1++u::v::p2)=some (p1++u::p2):=by
  rw[wrap_succ (by omega)]
  show delL _ _ _=_
  unfold delL
  rw[if_pos ⟨by omega,by omega,by omega⟩,Int.toNat_natCast,Int.toNat_natCast,take_v,drop_v]
  simp
 unfold page_Disown
 rw[asked2_eq' n hn h]
 simp only[Option.bind_some,show((0:Int) !=0)=false from rfl,cond_false,hb,jn,Bool.not_true,size_eq n _ hc,cloneK_eq n (p1++u::v::p2) (by omega),hdel,page_inner,pone_eq n hn h']
 rw[show decide ((sizeP ⟨2,[],p1++u::v::p2⟩:Int)≤2)=false from decide_eq_false (by simp only[sizeP,List.length_nil];omega)]
 rfl
theorem pstep_eq(n:Nat)(hn:1003≤n){p1 p2:List Kid}{u v:Kid}(h:InnerOk (p1++u::v::p2)){s:Key}(h':InnerOk (p1++u::⟨s,v.page⟩::p2)):page_Step n ⟨2,[],p1++u::v::p2⟩ ((p1.length+1:Nat):Int) s=some (⟨2,[],p1++u::⟨s,v.page⟩::p2⟩,0):=by
 have h4:=h.four
 have hin:p1.length+1<(p1++u::v::p2).length:=by simp
 have hb:page_behind n ⟨2,[],p1++u::v::p2⟩ ((p1.length+1:Nat):Int)=some true:=by
  unfold page_behind
  simp only[jn,show decide (((p1.length+1:Nat):Int)≥1)=true from decide_eq_true (by omega),cond_true,lt_dec hin]
 have hput:put (p1++u::v::p2) ((p1.length+1:Nat):Int) ⟨s,v.page⟩=some (p1++u::⟨s,v.page⟩::p2):=by
  have:=put_app (A:=p1++[u]) (B:=p2) (o:=v) (x:=⟨s,v.page⟩)
  simpa using this
 unfold page_Step
 rw[asked2_eq' n hn h]
 simp only[Option.bind_some,show((0:Int) !=0)=false from rfl,cond_false,hb,Bool.not_true,cloneK_eq n (p1++u::v::p2) (by omega),(mid_idx (p1:=p1) (p2:=p2) (u:=u) (v:=v)).2,hput,page_inner,pone_eq n hn h']
theorem psmall_eq(N:Nat)(hN:1003≤N){c:Content}(h:checkP c=true)(hk:c.kind≠0):page_Small N c=some (decide (sizeP c≤2)):=by
 rw[Small_eq N hN c (fine_check h),h,decide_eq_false hk];rfl
theorem On.kind0{f:List Content}{D d:Nat}{n:Int}{k:Key}(h:On f D (d+1) n k):(pg f n).kind≠0:=by
 obtain⟨lo,hi,Q,R1,R2,hA,_⟩:=h
 exact(sub_in hA.tree n pgs_self).2
theorem fed_eq(N:Nat)(hN:1003≤N){f:List Content}{D d:Nat}{n:Int}{k:Key}(h:On f D (d+2) n k)(hs:n≠0→3≤sizeP (pg f n))(h1:sizeP (pg f (nextPg f n k))≤2)(gs:List Group)(hg:gs.length≤900):
  tree_change_fed N n (kidI (pg f n).kids k:Int) f gs=some ((foodP f n k).1,withS f (foodP f n k).2,gs++[⟨(foodP f n k).2⟩]):=by
 obtain⟨hn,hf,hi,hc⟩:=h.page
 have hkl:=kidI_lt h.kind.2.2.1 k
 have hk4:=h.kind.2.2.1.four
 obtain⟨p1,u,v,p2,hp,hI,ha,hsB,hup,hvp,hcu,hcv,hal,hu4,hv4,hR,hJ,hL,hj,hl⟩:=feed_facts h hs h1
 have hiu:idx f u.page=some (pg f u.page):=idx_pg ⟨by omega,by omega⟩
 have hiv:idx f v.page=some (pg f v.page):=idx_pg ⟨by omega,by omega⟩
 have hfu:=fine_check hcu
 have hfv:=fine_check hcv
 unfold foodP
 rw[if_pos h1,ha]
 have key:tree_change_fed_j1 N (n,((p1.length+1:Nat):Int),pg f n,f,gs,())=some ((if sizeB f n (p1.length+1)≤4 then(if n=0∧(pg f n).kids.length=2 then(true,srtS (rootS f n (p1.length+1))) else(false,srtS (joinS f n (p1.length+1)))) else(false,srtS (levS f n (p1.length+1)))).1,withS f (if sizeB f n (p1.length+1)≤4 then(if n=0∧(pg f n).kids.length=2 then(true,srtS (rootS f n (p1.length+1))) else(false,srtS (joinS f n (p1.length+1)))) else(false,srtS (levS f n (p1.length+1)))).2,gs++[⟨(if sizeB f n (p1.length+1)≤4 then(if n=0∧(pg f n).kids.length=2 then(true,srtS (rootS f n (p1.length+1))) else(false,srtS (joinS f n (p1.length+1)))) else(false,srtS (levS f n (p1.length+1)))).2⟩]):=by
  obtain⟨m1,m2⟩:=mid_idx (p1:=p1) (p2:=p2) (u:=u) (v:=v)
  have hw:IntKind.wrap .i64 (((p1.length+1:Nat):Int)-1)=(p1.length:Int):=by have:=hI.four;rw[wrap_in (by simp only[List.length_append] at this;omega)];omega
  have hkd:(pg f n).kids=p1++u::v::p2:=by rw[hp]
  rw[←hkd] at m1 m2
  unfold tree_change_fed_j1
  simp only[hw,m1,m2,Option.bind_some,hiu,hiv,join_full N hN _ _ v.least hfu hfv,jn]
  by_cases h2:sizeB f n (p1.length+1)≤4
  ·simp only[if_pos h2]
   obtain⟨hck,hsz,hr,hjn⟩:=hj h2
   have hJP:joinP (pg f u.page) (pg f v.page) v.least=(bothC (pg f u.page) (pg f v.page) v.least,0):=by
    unfold joinP
    rw[hcu,hcv,hal,Bool.and_self,if_pos rfl,if_pos rfl,if_neg (by rw[hsB] at h2;omega),if_pos hck]
   rw[hJP]
   simp only[show((0:Int)==0)=true from rfl,cond_true,ieq0]
   have hlen2:(((pg f n).kids.length:Int)==2)=decide ((pg f n).kids.length=2):=ieq4 (m:=2)
   by_cases h3:n=0∧(pg f n).kids.length=2
   ·simp only[if_pos h3]
    rw[decide_eq_true h3.1,cond_true,hlen2,decide_eq_true h3.2,cond_true]
    have g1:=(hr h3).1
    rw[hR] at g1⊢
    rw[show(Content.mk 0 ([]:List Row) ([]:List Kid))=cont0 from rfl,group_eq N hN hf g1 (by simp) gs (by omega)];rfl
   ·simp only[if_neg h3]
    obtain⟨g1,g2⟩:=hjn h3
    rw[hJ] at g1 g2⊢
    have e1:=(three hf g1.rng g1.nodup).1 _ (List.mem_cons_self ..)
    simp only at e1
    have hdis:=pdisown_eq N hN hI (g2.inner e1)
    rw[←hp] at hdis
    have hgo:((page_Disown N (pg f n) ((p1.length+1:Nat):Int)).bind λy19=>(tree_change_group N f gs ([(Sheet.mk n y19.1),(Sheet.mk u.page (bothC (pg f u.page) (pg f v.page) v.least)),(Sheet.mk v.page (Content.mk 0 ([]:List Row) ([]:List Kid)))]:List Sheet)).bind λy20=>some (false,y20.1,y20.2))=some (false,withS f (srtS [⟨n,⟨2,[],p1++u::p2⟩⟩,⟨u.page,bothC (pg f u.page) (pg f v.page) v.least⟩,⟨v.page,cont0⟩]),gs++[⟨srtS [⟨n,⟨2,[],p1++u::p2⟩⟩,⟨u.page,bothC (pg f u.page) (pg f v.page) v.least⟩,⟨v.page,cont0⟩]⟩]):=by
     rw[hdis]
     simp only[Option.bind_some]
     rw[show(Content.mk 0 ([]:List Row) ([]:List Kid))=cont0 from rfl,group_eq N hN hf g1 (by simp) gs (by omega)];rfl
    by_cases hn0:n=0
    ·rw[decide_eq_true hn0,cond_true,hlen2,decide_eq_false (λe=>h3 ⟨hn0,e⟩),cond_false];exact hgo
    ·rw[decide_eq_false hn0,cond_false,cond_false];exact hgo
  ·simp only[if_neg h2]
   obtain⟨hne,hq,hsz,g1,g2⟩:=hl h2
   have hJP:joinP (pg f u.page) (pg f v.page) v.least=(cont0,6):=by
    unfold joinP
    rw[hcu,hcv,hal,Bool.and_self,if_pos rfl,if_pos rfl,if_pos (by rw[hsB] at h2;omega)]
   have hLP:levelP (pg f u.page) (pg f v.page) v.least=(cutA (bothC (pg f u.page) (pg f v.page) v.least) (cutM (pg f u.page) (pg f v.page)),cutB (bothC (pg f u.page) (pg f v.page) v.least) (cutM (pg f u.page) (pg f v.page)),cutS (bothC (pg f u.page) (pg f v.page) v.least) (cutM (pg f u.page) (pg f v.page)),0):=by
    unfold levelP
    rw[hcu,hcv,hal,decide_eq_false hne]
    simp only[Bool.not_false,Bool.and_self,if_true,hq]
   rw[hL] at g1 g2⊢
   have e1:=(three hf g1.rng g1.nodup).1 _ (List.mem_cons_self ..)
   simp only at e1
   have hstp:=pstep_eq N hN hI (g2.inner e1)
   rw[←hp] at hstp
   rw[hJP]
   simp only[show((6:Int)==0)=false from rfl,cond_false,level_full N hN _ _ v.least hfu hfv,hLP,Option.bind_some,hstp]
   rw[group_eq N hN hf g1 (by simp) gs (by omega)];rfl
 unfold tree_change_fed
 simp only[hi,Option.bind_some,jn]
 rw[wrap_succ (show kidI (pg f n).kids k<4611686018427387904 by omega),show(((kidI (pg f n).kids k+1:Nat):Int)==((pg f n).kids.length:Int))=decide (kidI (pg f n).kids k+1=(pg f n).kids.length) from ieq4]
 unfold feedAt at ha
 by_cases he:kidI (pg f n).kids k+1=(pg f n).kids.length
 ·rw[if_pos he] at ha
  rw[decide_eq_true he,cond_true,ha];exact key
 ·rw[if_neg he] at ha
  rw[decide_eq_false he,cond_false,ha];exact key
theorem ptake_eq(N:Nat)(hN:1003≤N){l:List Row}(hl:LeafOk l){k:Key}{x:Row}(hx:findK l k=some x):page_Take N ⟨1,l,[]⟩ k=some (⟨1,others k l,[]⟩,x,0):=by
 rcases stand hl.srt k with⟨pre,y,post,e,hy,hc,hf⟩|⟨pre,post,e,hc,hf⟩
 ·subst e
  rw[hx] at hf
  cases hf
  rw[others_in hy hc]
  exact take_in N hN _ (leaf_fine hl) k (leaf_err hl) rfl hy
 ·rw[hx] at hf;cases hf
theorem ttake_go(N:Nat)(hN:1003≤N){k:Key}{x z:Row}:∀(d m D:Nat)(f:List Content)(n:Int)(gs:List Group),On f D (d+1) n k→(n≠0→3≤sizeP (pg f n))→findK (rws f D 0) k=some x→d<m→gs.length+d≤800→
  tree_Take_l1 N m (n,k,z,x,f,gs,())=some (x,0,gs++((takeW k d f n).2.2++[⟨one (takeW k d f n).2.1 (others k (pg (takeW k d f n).1 (takeW k d f n).2.1).rows)⟩])):=by
 intro d
 induction d with
 |zero=>
  intro m D f n gs h hs hx hm hg
  obtain⟨m,rfl⟩:∃m',m=m'+1:=⟨m-1,by omega⟩
  obtain⟨hn,hf,hi,_⟩:=h.page
  obtain⟨l,hp,hl,_,hfk⟩:=h.leaf
  unfold tree_Take_l1
  rw[loopF_succ]
  simp only[hi,Option.bind_some]
  rw[show((pg f n).kind==2)=false from by rw[hp];rfl,cond_false]
  have hpp:=ptake_eq N hN hl (hfk▸hx)
  rw[←hp] at hpp
  simp only[hpp,Option.bind_some]
  rw[show([(Sheet.mk n (Content.mk 1 (others k l) []))]:List Sheet)=one n (others k l) from rfl,group_eq N hN hf (one_grp hn) (by simp[one]) gs (by omega)]
  simp only[takeW,hp,Option.bind_some,List.nil_append];rfl
 |succ d ih=>
  intro m D f n gs h hs hx hm hg
  obtain⟨m,rfl⟩:∃m',m=m'+1:=⟨m-1,by omega⟩
  obtain⟨hn,hf,hi,_⟩:=h.page
  obtain⟨hxr,_,hxi,hxc⟩:=h.next.page
  have hk0:=h.next.kind0
  obtain⟨D',f1,f2,f3,f4,_⟩:=feed_on h hs
  obtain⟨s1,s2,s3,s4,s5⟩:=food_facts h hs
  have hff:=(feed_food f n k).resolve_right id
  have e1:(feedP f n k).1=withS f (foodP f n k).2:=by rw[hff]
  have e2:(feedP f n k).2.1=if(foodP f n k).1=true then 0 else nextPg (withS f (foodP f n k).2) n k:=by rw[hff]
  have e3:(feedP f n k).2.2=if(foodP f n k).2=[] then [] else [⟨(foodP f n k).2⟩]:=by rw[hff]
  have hx':findK (rws (feedP f n k).1 D' 0) k=some x:=by rw[f3];exact hx
  unfold tree_Take_l1
  rw[loopF_succ]
  generalize hr2:loopF _ m=r2
  replace hr2:tree_Take_l1 N m=r2:=hr2
  have hxp:(kidAt (pg f n).kids (kidI (pg f n).kids k)).page=nextPg f n k:=rfl
  have hki:=h.kid_idx
  simp only[hi,Option.bind_some,h.pkid N hN,hki,hxp,hxi,psmall_eq N hN hxc hk0,jn,tree_Take_j2]
  rw[show((pg f n).kind==2)=true from by rw[h.kind.1];rfl,cond_true]
  have hih:=λgs' hg'=>ih m D' (feedP f n k).1 (feedP f n k).2.1 gs' f1 f2 hx' (by omega) hg'
  rw[takeW]
  simp only
  by_cases hsm:sizeP (pg f (nextPg f n k))≤2
  ·have hne:(foodP f n k).2≠[]:=λe=>by
    have h3:∀l:List Sheet,l.length=3→srtS l≠[]:=λl hl e=>by have:=(srtS_perm l).length_eq;rw[e,hl] at this;simp at this
    unfold foodP at e
    rw[if_pos hsm] at e
    split at e
    ·split at e
     ·exact h3 _ (by simp[rootS]) e
     ·exact h3 _ (by simp[joinS]) e
    ·exact h3 _ (by simp[levS]) e
   rw[if_neg hne] at e3
   rw[decide_eq_true hsm,cond_true,fed_eq N hN h hs hsm gs (by omega)]
   simp only[Option.bind_some]
   have hih':=hih (gs++[⟨(foodP f n k).2⟩]) (by simp;omega)
   rw[hr2] at hih'
   rw[e3]
   cases hb:(foodP f n k).1 with
   |true=>
    rw[hb,if_pos rfl] at e2
    have hn0:=s3 hb
    rw[cond_true]
    rw[e1,e2] at hih'⊢
    rw[hn0] at hih'⊢
    rw[hih'];simp
   |false=>
    rw[hb,if_neg (by simp)] at e2
    rw[cond_false,tdown_eq N hN (s4 hb)]
    simp only[Option.bind_some]
    rw[e1,e2] at hih'⊢
    rw[hih'];simp
  ·have hz:foodP f n k=(false,[]):=by unfold foodP;rw[if_neg hsm]
   rw[hz] at e1 e2 e3
   rw[if_pos rfl] at e3
   rw[if_neg (by simp)] at e2
   rw[decide_eq_false hsm,cond_false,cond_false,tdown_eq N hN h]
   simp only[Option.bind_some]
   have hih':=hih gs (by omega)
   rw[hr2] at hih'
   rw[e3,e1,e2]
   rw[e1,e2] at hih'
   exact hih'.trans (by simp)
theorem tget_eq(N:Nat)(hN:2000≤N){f:List Content}{D:Nat}(h:Good f D)(k:Key):tree_Get N ⟨f⟩ k=some (ofF (findK (rws f D 0) k)):=by
 unfold tree_Get
 rw[check_good N hN h]
 simp only[Option.bind_some,show((0:Int) !=0)=false from rfl,cond_false,get_good N hN h k]
theorem ttake_none(N:Nat)(hN:2000≤N){f:List Content}{D:Nat}(h:Good f D){k:Key}(hx:findK (rws f D 0) k=none):tree_Take N ⟨f⟩ k=some (row0,4,[]):=by
 unfold tree_Take
 rw[tget_eq N hN h,hx];rfl
theorem ttake_eq(N:Nat)(hN:2000≤N){f:List Content}{D:Nat}(h:Good f D)(hK:KeysF f){k:Key}(hk:ltK k key0=false){x:Row}(hx:findK (rws f D 0) k=some x):∃gs,tree_Take N ⟨f⟩ k=some (x,0,gs)∧ref13_Take N ⟨f⟩ k=some gs:=by
 have hpos:=h.pos
 have hdeep:=h.deep
 obtain⟨f',n',G,D',l,e1,e2,e3,e4,e5,e6,e7,e8,e9,e10,e11,_⟩:=rtake_eq N hN h hK hk hx
 refine⟨_, ?_,e11⟩
 unfold tree_Take tree_begun
 rw[tget_eq N hN h,hx]
 simp only[Option.bind_some,ofF,show((0:Int) !=0)=false from rfl,cond_false,cloneC_eq N f (by have:=h.len;omega)]
 rw[ttake_go N (by omega) (D-1) N D f 0 [] (by rw[show D-1+1=D by omega];exact On.root h hk) (λe=>absurd rfl e) hx (by omega) (by simp;omega),e1]
 simp only[e3,List.nil_append]
end Go.Proofs.YtlcmdgpjiendmaaGreat
namespace Go.Proofs.YtlcmdgpjiendmaaGreat
open Go.Bur
set_option linter.unusedSimpArgs false
set_option linter.unusedVariables false
set_option maxRecDepth 100000
theorem app_l2(n:Nat)(r1:(List Group)×Int×Int×Forest×(List Content)×(List Group)×Unit→Option (Forest×Int))(gs:List Group)(a b:Int)(z:Forest)(ss:List Sheet)(hss:ss.length≤1000)(q:List Group):∀(m:Nat)(t:List Sheet)(i:Nat)(f:List Content),ss.drop i=t→i≤ss.length→t.length<m→f.length=64→SheetsIn t→
  tree_Apply_l2 n r1 m (gs,a,b,ss,(ss.length:Int),(i:Int),z,f,q,())=(tree_Check n ⟨withS f t⟩).bind λy=>cond (y !=0) (some (⟨[]⟩,2)) (r1 (gs,a,IntKind.wrap .i64 (b+1),z,withS f t,q,())):=by
 intro m
 induction m with
 |zero=>intro t i f _ _ h;omega
 |succ m ih=>
  intro t i f ht hi hk hf hl
  unfold tree_Apply_l2
  rw[loopF_succ]
  generalize hr:loopF _ m=r2
  replace hr:tree_Apply_l2 n r1 m=r2:=hr
  simp only[hr] at ih
  cases t with
  |nil=>
   cases drop_end ht hi
   simp only[ge_dec (Nat.lt_irrefl _),cond_false];rfl
  |cons x t=>
   obtain⟨h1,h2,h3⟩:=drop_get ht
   have hi2:i<4611686018427387904:=by omega
   have hx:=hl x (List.mem_cons_self ..)
   obtain⟨j,hj⟩:∃j:Nat,x.page=(j:Int):=⟨x.page.toNat,by omega⟩
   have hput:put f x.page x.content=some (setP f x.page x.content):=by unfold setP;rw[hj,Int.toNat_natCast];exact put_ok (by omega)
   simp only[lt_dec h3,cond_true,idx_nat,h1,Option.bind_some,jn,show decide (x.page<0)=false from decide_eq_false (by omega),show decide (x.page≥64)=false from decide_eq_false (by omega),cond_false,show idx f x.page=some (pg f x.page) from idx_pg ⟨hx.1,by omega⟩,hput,wrap_succ hi2]
   exact ih t (i+1) _ h2 (by omega) (by simp only[List.length_cons] at hk;omega) (by rw[set_len];exact hf) (λs hs=>hl s (List.mem_cons_of_mem _ hs))
theorem tput_bad(N:Nat)(hN:2000≤N){f:List Content}{D:Nat}(h:Good f D){r:Row}(hr:okRow r=false):tree_Put N ⟨f⟩ r=some (151,[]):=by
 unfold tree_Put
 simp only[check_good N hN h,Option.bind_some,show((0:Int) !=0)=false from rfl,cond_false,checkRow_eq,hr]
 rfl
theorem found_low{f:List Content}{D:Nat}(h:Good f D){k:Key}{x:Row}(hx:findK (rws f D 0) k=some x):ltK k key0=false∧x.key=k:=by
 have h1:x∈rws f D 0:=List.mem_of_find?_eq_some hx
 have h2:x.key=k:=by have:=List.find?_some hx;simpa using this
 rw[←h2]
 exact⟨(within_iff.1 ((sub_rows h.tree).2 x h1)).1,rfl⟩
end Go.Proofs.YtlcmdgpjiendmaaGreat
namespace Go.Proofs.YtlcmdgpjiendmaaGreat
open Go.Bur
set_option linter.unusedSimpArgs false
set_option linter.unusedVariables false
set_option maxRecDepth 100000
end Go.Proofs.YtlcmdgpjiendmaaGreat
namespace Go.Proofs.YtlcmdgpjiendmaaGreat
open Go.Bur
set_option linter.unusedSimpArgs false
set_option linter.unusedVariables false
set_option maxRecDepth 100000
def SmallG(gs:List Group):Prop:=gs.length≤20∧∀g∈gs,g.sheets.length≤70∧∀s∈g.sheets,s.content.rows.length≤10∧s.content.kids.length≤10
theorem large_l2(n:Nat)(hn:1003≤n)(r1:(List Group)×Int×Int×Unit→Option Bool)(gs:List Group)(a b:Int)(l:List Sheet)(hl:l.length≤1000):∀(m:Nat)(t:List Sheet)(i:Nat),l.drop i=t→i≤l.length→t.length<m→
  law13_large_l2 n r1 m (gs,a,b,l,(l.length:Int),(i:Int),())=some true∨((∀s∈t,s.content.rows.length≤10∧s.content.kids.length≤10)∧law13_large_l2 n r1 m (gs,a,b,l,(l.length:Int),(i:Int),())=r1 (gs,a,IntKind.wrap .i64 (b+1),())):=by
 intro m
 induction m with
 |zero=>intro t i _ _ h;omega
 |succ m ih=>
  intro t i ht hi hk
  unfold law13_large_l2
  rw[loopF_succ]
  generalize hr:loopF _ m=r2
  replace hr:law13_large_l2 n r1 m=r2:=hr
  simp only[hr] at ih
  cases t with
  |nil=>
   cases drop_end ht hi
   simp only[ge_dec (Nat.lt_irrefl _),cond_false];exact Or.inr ⟨by simp,trivial⟩
  |cons x t=>
   obtain⟨h1,h2,h3⟩:=drop_get ht
   obtain⟨c,e1,e2⟩:=over_ex n hn ⟨[x.content]⟩
   simp only[lt_dec h3,cond_true,idx_nat,h1,Option.bind_some,wrap_succ (show i<4611686018427387904 by omega),e1]
   cases c with
   |true=>left;rfl
   |false=>
    rcases ih t (i+1) h2 (by omega) (by simp only[List.length_cons] at hk;omega) with h|⟨h,h'⟩
    ·exact Or.inl h
    ·refine Or.inr ⟨λs hs=> ?_,h'⟩
     rcases List.mem_cons.1 hs with rfl|hs
     ·exact(e2 rfl).2 _ (List.mem_singleton.2 rfl)
     ·exact h s hs
theorem large_l1(n:Nat)(hn:1003≤n)(gs:List Group)(hl:gs.length≤1000):∀(m:Nat)(t:List Group)(i:Nat),gs.drop i=t→i≤gs.length→t.length<m→
  ∃b,law13_large_l1 n m (gs,(gs.length:Int),(i:Int),())=some b∧(b=false→∀g∈t,g.sheets.length≤70∧∀s∈g.sheets,s.content.rows.length≤10∧s.content.kids.length≤10):=by
 intro m
 induction m with
 |zero=>intro t i _ _ h;omega
 |succ m ih=>
  intro t i ht hi hk
  unfold law13_large_l1
  rw[loopF_succ]
  generalize hr:loopF _ m=r1
  replace hr:law13_large_l1 n m=r1:=hr
  simp only[hr] at ih
  cases t with
  |nil=>
   cases drop_end ht hi
   simp only[ge_dec (Nat.lt_irrefl _),cond_false]
   exact⟨_,rfl,by simp⟩
  |cons x t=>
   obtain⟨h1,h2,h3⟩:=drop_get ht
   simp only[lt_dec h3,cond_true,idx_nat,h1,Option.bind_some]
   by_cases e1:(x.sheets.length:Int)>70
   ·rw[decide_eq_true e1];exact⟨true,rfl,λh=>by cases h⟩
   ·rw[decide_eq_false e1,cond_false]
    obtain⟨b,g1,g2⟩:=ih t (i+1) h2 (by omega) (by simp only[List.length_cons] at hk;omega)
    rcases large_l2 n hn r1 gs (gs.length:Int) (i:Int) x.sheets (by omega) n x.sheets 0 rfl (Nat.zero_le _) (by omega) with h|⟨hs,h⟩
    ·exact⟨true,h,λh=>by cases h⟩
    ·refine⟨b, ?_,λhb c hc=> ?_⟩
     ·rw[wrap_succ (show i<4611686018427387904 by omega),g1] at h
      exact h
     ·rcases List.mem_cons.1 hc with rfl|hc
      ·exact⟨by omega,hs⟩
      ·exact g2 hb c hc
theorem large_ex(n:Nat)(hn:1003≤n)(gs:List Group):∃b,law13_large n gs=some b∧(b=false→SmallG gs):=by
 unfold law13_large
 by_cases e:(gs.length:Int)>20
 ·rw[decide_eq_true e];exact⟨true,rfl,λh=>by cases h⟩
 ·rw[decide_eq_false e,cond_false]
  obtain⟨b,h1,h2⟩:=large_l1 n hn gs (by omega) n gs 0 rfl (Nat.zero_le _) (by omega)
  exact⟨b,h1,λhb=>⟨by omega,h2 hb⟩⟩
def FineG(gs:List Group):Prop:=gs.length≤20∧∀g∈gs,g.sheets.length≤70∧∀s∈g.sheets,Fine s.content
open Classical in
noncomputable def appC:List Content→List Group→Option (List Content)
 |f,[]=>some f
 |f,g::gs=>if SheetsIn g.sheets∧∃D,Good (withS f g.sheets) D then appC (withS f g.sheets) gs else none
noncomputable def outA:Option (List Content)→Forest×Int
 |some f=>(⟨f⟩,0)
 |none=>(⟨[]⟩,2)
theorem app_bad(n:Nat)(r1:(List Group)×Int×Int×Forest×(List Content)×(List Group)×Unit→Option (Forest×Int))(gs:List Group)(a b:Int)(z:Forest)(ss:List Sheet)(hss:ss.length≤1000)(q:List Group):∀(m:Nat)(t:List Sheet)(i:Nat)(f:List Content),ss.drop i=t→i≤ss.length→t.length<m→f.length=64→¬SheetsIn t→
  tree_Apply_l2 n r1 m (gs,a,b,ss,(ss.length:Int),(i:Int),z,f,q,())=some (⟨[]⟩,2):=by
 intro m
 induction m with
 |zero=>intro t i f _ _ h;omega
 |succ m ih=>
  intro t i f ht hi hk hf hl
  unfold tree_Apply_l2
  rw[loopF_succ]
  generalize hr:loopF _ m=r2
  replace hr:tree_Apply_l2 n r1 m=r2:=hr
  simp only[hr] at ih
  cases t with
  |nil=>exact absurd (λs hs=>by cases hs) hl
  |cons x t=>
   obtain⟨h1,h2,h3⟩:=drop_get ht
   have hi2:i<4611686018427387904:=by omega
   simp only[lt_dec h3,cond_true,idx_nat,h1,Option.bind_some,jn]
   by_cases e1:x.page<0
   ·rw[decide_eq_true e1];rfl
   ·by_cases e2:x.page≥64
    ·rw[decide_eq_false e1,decide_eq_true e2];rfl
    ·obtain⟨j,hj⟩:∃j:Nat,x.page=(j:Int):=⟨x.page.toNat,by omega⟩
     have hput:put f x.page x.content=some (setP f x.page x.content):=by unfold setP;rw[hj,Int.toNat_natCast];exact put_ok (by omega)
     simp only[decide_eq_false e1,decide_eq_false e2,cond_false,show idx f x.page=some (pg f x.page) from idx_pg ⟨by omega,by omega⟩,Option.bind_some,hput,wrap_succ hi2]
     exact ih t (i+1) _ h2 (by omega) (by simp only[List.length_cons] at hk;omega) (by rw[set_len];exact hf) λhall=>hl λs hs=>by
      rcases List.mem_cons.1 hs with rfl|hs
      ·exact⟨by omega,by omega⟩
      ·exact hall s hs
theorem with_fine:∀{l:List Sheet} {f:List Content},f.length=64→(∀c∈f,Fine c)→SheetsIn l→(∀s∈l,Fine s.content)→∀c∈withS f l,Fine c
 |[],f,_,h,_,_=>h
 |s::l,f,hf,h,hi,hl=>by
  refine with_fine (l:=l) (f:=setP f s.page s.content) (by rw[set_len];exact hf) (λc hc=> ?_) (λx hx=>hi x (List.mem_cons_of_mem _ hx)) (λx hx=>hl x (List.mem_cons_of_mem _ hx))
  rcases List.mem_or_eq_of_mem_set hc with hc|rfl
  ·exact h c hc
  ·exact hl s (List.mem_cons_self ..)
theorem appC_go(n:Nat)(hn:2000≤n)(gs:List Group)(hg:gs.length≤1000)(z:Forest)(q:List Group):∀(m:Nat)(t:List Group)(i:Nat)(f:List Content),gs.drop i=t→i≤gs.length→t.length<m→f.length=64→(∀c∈f,Fine c)→(∀g∈t,g.sheets.length≤70∧∀s∈g.sheets,Fine s.content)→
  tree_Apply_l1 n m (gs,(gs.length:Int),(i:Int),z,f,q,())=some (outA (appC f t)):=by
 intro m
 induction m with
 |zero=>intro t i f _ _ h;omega
 |succ m ih=>
  intro t i f ht hi hk hf hF h
  unfold tree_Apply_l1
  rw[loopF_succ]
  generalize hr:loopF _ m=r1
  replace hr:tree_Apply_l1 n m=r1:=hr
  simp only[hr] at ih
  cases t with
  |nil=>
   cases drop_end ht hi
   simp only[ge_dec (Nat.lt_irrefl _),cond_false];rfl
  |cons g t=>
   obtain⟨h1,h2,h3⟩:=drop_get ht
   obtain⟨a1,a2⟩:=h g (List.mem_cons_self ..)
   simp only[lt_dec h3,cond_true,idx_nat,h1,Option.bind_some]
   by_cases hin:SheetsIn g.sheets
   ·refine(app_l2 n r1 gs _ _ z g.sheets (by omega) q n g.sheets 0 f rfl (Nat.zero_le _) (by omega) hf hin).trans ?_
    have hlen:(withS f g.sheets).length=64:=by rw[with_len];exact hf
    have hF':=with_fine hf hF hin a2
    by_cases hD:∃D,Good (withS f g.sheets) D
    ·have e:appC f (g::t)=appC (withS f g.sheets) t:=if_pos ⟨hin,hD⟩
     obtain⟨D,hD⟩:=hD
     rw[check_good n hn hD,e]
     simp only[Option.bind_some,show((0:Int) !=0)=false from rfl,cond_false,wrap_succ (show i<4611686018427387904 by omega)]
     exact ih t (i+1) _ h2 (by omega) (by simp only[List.length_cons] at hk;omega) hlen hF' λx hx=>h x (List.mem_cons_of_mem _ hx)
    ·have e:appC f (g::t)=none:=if_neg λhh=>hD hh.2
     rw[check_bad n hn (by omega) hF' hD,e];rfl
   ·have e:appC f (g::t)=none:=if_neg λhh=>hin hh.1
    rw[e]
    exact app_bad n r1 gs _ _ z g.sheets (by omega) q n g.sheets 0 f rfl (Nat.zero_le _) (by omega) hf hin
theorem applyC_eq(n:Nat)(hn:2000≤n){f:List Content}{D:Nat}(hg:Good f D){gs:List Group}(h:FineG gs):tree_Apply n ⟨f⟩ gs=some (outA (appC f gs)):=by
 obtain⟨h1,h2⟩:=h
 unfold tree_Apply tree_begun
 simp only[check_good n hn hg,Option.bind_some,show((0:Int) !=0)=false from rfl,cond_false,cloneC_eq n f (by have:=hg.len;omega)]
 exact appC_go n hn gs (by omega) _ _ n gs 0 f rfl (Nat.zero_le _) (by omega) hg.len (good_fine hg) h2
theorem fineG{gs:List Group}(h:SmallG gs)(ht:∀g∈gs,∀s∈g.sheets,okT tab 8 (.st 4) s.content):FineG gs:=
 ⟨h.1,λg hg=>⟨(h.2 g hg).1,λs hs=>by
  have:=(h.2 g hg).2 s hs
  exact content_fine (d:=5) (ht g hg s hs) (by omega) (by omega)⟩⟩
theorem plainTreeRefuses(f:Forest)(r:Row)(l:List Group)(h1:okT tab 9 (.st 5) f)(h2:okT tab 9 (.st 2) r)(h3:okT tab 9 (.sl (.st 7)) l):∃n,law13_TreeRefuses n f r l=some true:=by
 refine⟨30000, ?_⟩
 obtain⟨f⟩:=f
 unfold law13_TreeRefuses
 rw[wakes]
 simp only[Option.bind_some,Bool.not_true,cond_false]
 obtain⟨b1,e1,s1⟩:=over_ex 30000 (by omega) ⟨f⟩
 obtain⟨b2,e2,s2⟩:=large_ex 30000 (by omega) l
 simp only[e1,e2,Option.bind_some,jn]
 cases b1 with
 |true=>rfl
 |false=>
 cases b2 with
 |true=>rfl
 |false=>
 simp only[cond_false]
 cases decide ((r.note.size:Int)>100) with
 |true=>rfl
 |false=>
 simp only[cond_false]
 obtain⟨hl,hr⟩:=s1 rfl
 replace hl:f.length≤70:=hl
 have hF:∀c∈f,Fine c:=λc hc=>content_fine (d:=5) (h1.1.1 c hc) (by have:=hr c hc;omega) (by have:=hr c hc;omega)
 have hK:∀c∈f,Keys c:=λc hc=>content_keys (d:=5) (h1.1.1 c hc)
 have hG:FineG l:=fineG (s2 rfl) λg hg s hs=>((h3.1 g hg).1.1 s hs).2
 by_cases hg:∃d,Good f d
 ·obtain⟨D,hg⟩:=hg
  have hKF:KeysF f:=keysF_of hK
  have hki:KeyIn r.key:=by
   obtain⟨a,b⟩:=h2.2.1
   have b:r.key.id≤65535:=b
   exact⟨a,by omega⟩
  have hp:∃y,tree_Put 30000 ⟨f⟩ r=some y∧(y.1 !=230)=true:=by
   cases hok:okRow r with
   |false=>exact⟨_,tput_bad 30000 (by omega) hg hok,rfl⟩
   |true=>
    have hk:=okRow_low hok hki
    have htp:=tput_eq 30000 (by omega) hg hok hk
    rcases rput_eq 30000 (by omega) hg hok hk with⟨_,_,_,e⟩|⟨f',n',G,D',l,_,_,_,_,_,_,_,_,_,_,e,_⟩
    ·exact⟨_,htp.trans e,rfl⟩
    ·exact⟨_,htp.trans e,rfl⟩
  have ht:∃y,tree_Take 30000 ⟨f⟩ r.key=some y∧(y.2.1 !=230)=true:=by
   cases hx:findK (rws f D 0) r.key with
   |none=>exact⟨_,ttake_none 30000 (by omega) hg hx,rfl⟩
   |some x=>
    obtain⟨hk,_⟩:=found_low hg hx
    obtain⟨gs,t1,_⟩:=ttake_eq 30000 (by omega) hg hKF hk hx
    exact⟨_,t1,rfl⟩
  have ha:∃y,tree_Apply 30000 ⟨f⟩ l=some y∧(y.2 !=230)=true:=by
   refine⟨_,applyC_eq 30000 (by omega) hg hG, ?_⟩
   cases appC f l<;>rfl
  obtain⟨y1,p1,p2⟩:=hp
  obtain⟨y2,t1,t2⟩:=ht
  obtain⟨y3,a1,a2⟩:=ha
  simp only[p1,t1,a1,p2,t2,a2,right_good 30000 (by omega) hg hK,Option.bind_some,Bool.not_true,cond_false,cond_true]
 ·have hp:tree_Put 30000 ⟨f⟩ r=some (230,[]):=by
   unfold tree_Put
   rw[check_bad 30000 (by omega) (by omega) hF hg];rfl
  have hget:tree_Get 30000 ⟨f⟩ r.key=some (row0,230):=by
   unfold tree_Get
   rw[check_bad 30000 (by omega) (by omega) hF hg];rfl
  have ht:tree_Take 30000 ⟨f⟩ r.key=some (row0,230,[]):=by
   unfold tree_Take
   rw[hget];rfl
  have ha:tree_Apply 30000 ⟨f⟩ l=some (⟨[]⟩,230):=by
   unfold tree_Apply
   rw[check_bad 30000 (by omega) (by omega) hF hg];rfl
  simp only[hp,ht,ha,right_bad 30000 (by omega) (by omega) hF hK hg,Option.bind_some,Bool.not_false,cond_true,show Row.eqb row0 (Row.mk (Key.mk 0 0) 0 ByteArray.empty)=true from by simp[row0,Row.eqb]]
  rfl
end Go.Proofs.YtlcmdgpjiendmaaGreat
