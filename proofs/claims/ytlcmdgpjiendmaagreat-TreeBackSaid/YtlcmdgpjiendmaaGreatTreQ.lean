import Derived.Test.YtlcmdgpjiendmaaGreatTreJ
namespace Go.Proofs.YtlcmdgpjiendmaaGreat
open Go.Bur
set_option linter.unusedSimpArgs false
set_option linter.unusedVariables false
set_option maxRecDepth 100000
theorem kid_page{f:List Content}{d:Nat}{lo:Key}{hi:Option Key}{c:Content}(h:conS f d lo hi c):∀k∈c.kids,k.page∈pgsC f d c:=λk hk=>by
 cases d with
 |zero=>obtain⟨l,rfl,_⟩:=h;cases hk
 |succ d=>exact List.mem_flatMap.2 ⟨k,hk,pgs_self⟩
theorem Pair.both{f:List Content}{d:Nat}{n:Int}{lo:Key}{hi:Option Key}{l1 l2:List Kid}{x y:Kid}(P:Pair f d n lo hi l1 l2 x y):
  conS f d (loAt l1 lo x.least) (nxt hi l2) (bothC (pg f x.page) (pg f y.page) y.least)∧rwsC f d (bothC (pg f x.page) (pg f y.page) y.least)=rwsC f d (pg f x.page)++rwsC f d (pg f y.page)∧
  pgsC f d (bothC (pg f x.page) (pg f y.page) y.least)=pgsC f d (pg f x.page)++pgsC f d (pg f y.page)∧sizeP (bothC (pg f x.page) (pg f y.page) y.least)=sizeP (pg f x.page)+sizeP (pg f y.page):=
 con_both P.cx P.cy (by have:=P.x2;omega) (by have:=P.y2;omega) (lt_asymm P.lt) P.up (P.kids.tab y (by simp)) λu hu v hv e=>P.apart u.page (kid_page P.cx u hu) (e▸kid_page P.cy v hv)
theorem Pair.rows{f:List Content}{d:Nat}{n:Int}{lo:Key}{hi:Option Key}{l1 l2:List Kid}{x y:Kid}(P:Pair f d n lo hi l1 l2 x y):rwsC f d (pg f x.page)++rwsC f d (pg f y.page)=rws f (d+1) x.page++rws f (d+1) y.page:=by rw[rws_C,rws_C]
theorem level_step{f f':List Content}{d m:Nat}{n:Int}{lo:Key}{hi:Option Key}{l1 l2:List Kid}{x y:Kid}{B:Content}(h:sub f (d+2) n lo hi)(hp:pg f n=⟨2,[],l1++x::y::l2⟩)(hlo:ltK lo key0=false)(hnd:(pgs f (d+2) n).Nodup)
  (hB:bothC (pg f x.page) (pg f y.page) y.least=B) (h2:2≤m) (h4:m≤4) (h2':m+2≤sizeP B) (h4':sizeP B≤m+4) (e1:pg f' n=⟨2,[],l1++x::⟨cutS B m,y.page⟩::l2⟩) (e2:pg f' x.page=cutA B m) (e3:pg f' y.page=cutB B m) (e4:∀p,p≠n→p≠x.page→p≠y.page→pg f' p=pg f p):
  sub f' (d+2) n lo hi∧rws f' (d+2) n=rws f (d+2) n∧(pgs f' (d+2) n).Perm (pgs f (d+2) n)∧ltK (loAt l1 lo x.least) (cutS B m)=true:=by
 have P:=mk_pair h hp hlo hnd
 obtain⟨l,e,hl2,hl4,hK⟩:=inner_of h
 obtain rfl:l=l1++x::y::l2:=by rw[hp] at e;injection e with _ _ e;exact e.symm
 obtain⟨b1,b2,b3,b4⟩:=P.both
 rw[hB] at b1 b2 b3 b4
 obtain⟨d1,d2,d3,d4,d5,d6,d7⟩:=con_cut (m:=m) b1 (by omega) (by omega)
 have hfrm:∀p∈pgsC f d B,pg f' p=pg f p:=λp hp=>by
  rw[b3] at hp
  obtain⟨q1,q2,q3⟩:=P.below p hp
  exact e4 p q1 q2 q3
 obtain⟨a1,a2,a3⟩:=con_frame (λp hp=>hfrm p (by rw[←d5];exact List.mem_append_left _ hp)) d1
 obtain⟨c1,c2,c3⟩:=con_frame (λp hp=>hfrm p (by rw[←d5];exact List.mem_append_right _ hp)) d2
 have hge:=loAt_ge hK hlo
 have s1:sub f' (d+1) x.page (loAt l1 lo x.least) (some (cutS B m)):=con_mk ⟨by have:=P.xp;omega,P.xp.2⟩ (by rw[e2];exact a1) hge (by rw[e2];omega) (λ_=>by rw[e2];omega)
 have hlt:=sub_lt s1 (by have:=P.xp;omega)
 have s2:sub f' (d+1) y.page (cutS B m) (nxt hi l2):=con_mk ⟨by have:=P.yp;omega,P.yp.2⟩ (by rw[e3];exact c1) (le_le hge (lt_asymm hlt)) (by rw[e3];omega) (λ_=>by rw[e3];omega)
 have r1:rws f' (d+1) x.page++rws f' (d+1) y.page=rws f (d+1) x.page++rws f (d+1) y.page:=by
  rw[rws_C (n:=x.page),rws_C (n:=y.page),e2,e3,a2,c2,d4,b2,P.rows]
 have hpl:=pgs_list (d:=d+1) hp
 obtain⟨g1,g2,g3⟩:=block_step (N:=[x,y]) (M:=[x,⟨cutS B m,y.page⟩]) (x:=x) (x':=x) h hp e1 hlo (by simp at hl2⊢;omega) (by simp at hl4⊢;omega) rfl rfl rfl (λk hk p hp=>by
   obtain⟨q1,q2,q3⟩:=P.oth k hk p hp
   exact e4 p q1 q2 q3) ⟨s1,s2⟩ (λk hk=>by
   rcases List.mem_cons.1 hk with rfl|hk
   ·exact P.xp
   ·cases List.mem_singleton.1 hk;exact P.yp) (by
   simp only[List.map_cons,List.map_nil]
   exact List.nodup_cons.2 ⟨by simpa using P.xy,by simp⟩) (λk hk j hj=>by
   obtain⟨q1,q2,q3⟩:=P.oth j hj j.page pgs_self
   rcases List.mem_cons.1 hk with rfl|hk
   ·exact λe=>q2 e.symm
   ·cases List.mem_singleton.1 hk;exact λe=>q3 e.symm) (λk hk=>by
   rcases List.mem_cons.1 hk with rfl|hk
   ·exact hK.tab k (by simp)
   ·cases List.mem_singleton.1 hk;exact d3) (by
   simp only[List.flatMap_cons,List.flatMap_nil,List.append_nil];exact r1)
 refine⟨g1,g2, ?_,hlt⟩
 have q1:pgs f' (d+1) x.page=x.page::pgsC f d (cutA B m):=by rw[pgs_C,e2,a3]
 have q2:pgs f' (d+1) y.page=y.page::pgsC f d (cutB B m):=by rw[pgs_C,e3,c3]
 have hc:∀a,(pgsC f d (cutA B m)).count a+(pgsC f d (cutB B m)).count a=(pgsC f d (pg f x.page)).count a+(pgsC f d (pg f y.page)).count a:=λa=>by
  rw[←List.count_append,←List.count_append,d5,b3]
 rw[g3,hpl]
 simp only[List.flatMap_cons,List.flatMap_nil,List.append_nil,List.flatMap_append,q1,q2,pgs_C (n:=x.page),pgs_C (n:=y.page)]
 refine List.perm_iff_count.2 λa=> ?_
 have:=hc a
 simp only[List.count_cons,List.count_append]
 omega
theorem join_step{f f':List Content}{d:Nat}{n:Int}{lo:Key}{hi:Option Key}{l1 l2:List Kid}{x y:Kid}{B:Content}(h:sub f (d+2) n lo hi)(hp:pg f n=⟨2,[],l1++x::y::l2⟩)(hlo:ltK lo key0=false)(hnd:(pgs f (d+2) n).Nodup)
  (hB:bothC (pg f x.page) (pg f y.page) y.least=B) (h3:3≤(l1++x::y::l2).length) (h4:sizeP B≤4) (e1:pg f' n=⟨2,[],l1++x::l2⟩) (e2:pg f' x.page=B) (e4:∀p,p≠n→p≠x.page→p≠y.page→pg f' p=pg f p):
  sub f' (d+2) n lo hi∧rws f' (d+2) n=rws f (d+2) n∧(pgs f (d+2) n).Perm (y.page::pgs f' (d+2) n):=by
 have P:=mk_pair h hp hlo hnd
 obtain⟨l,e,hl2,hl4,hK⟩:=inner_of h
 obtain rfl:l=l1++x::y::l2:=by rw[hp] at e;injection e with _ _ e;exact e.symm
 obtain⟨b1,b2,b3,b4⟩:=P.both
 rw[hB] at b1 b2 b3 b4
 have hfrm:∀p∈pgsC f d B,pg f' p=pg f p:=λp hp=>by
  rw[b3] at hp
  obtain⟨q1,q2,q3⟩:=P.below p hp
  exact e4 p q1 q2 q3
 obtain⟨a1,a2,a3⟩:=con_frame hfrm b1
 have hge:=loAt_ge hK hlo
 have s1:sub f' (d+1) x.page (loAt l1 lo x.least) (nxt hi l2):=con_mk ⟨by have:=P.xp;omega,P.xp.2⟩ (by rw[e2];exact a1) hge (by rw[e2];omega) (λ_=>by rw[e2,b4];have:=P.x2;omega)
 have r1:rws f' (d+1) x.page=rws f (d+1) x.page++rws f (d+1) y.page:=by
  rw[rws_C (n:=x.page),e2,a2,b2,P.rows]
 have hpl:=pgs_list (d:=d+1) hp
 obtain⟨g1,g2,g3⟩:=block_step (N:=[x,y]) (M:=[x]) (x:=x) (x':=x) h hp e1 hlo (by simp at h3⊢;omega) (by simp at hl4⊢;omega) rfl rfl rfl (λk hk p hp=>by
   obtain⟨q1,q2,q3⟩:=P.oth k hk p hp
   exact e4 p q1 q2 q3) s1 (λk hk=>by cases List.mem_singleton.1 hk;exact P.xp) (by simp) (λk hk j hj=>by
   obtain⟨q1,q2,q3⟩:=P.oth j hj j.page pgs_self
   cases List.mem_singleton.1 hk
   exact λe=>q2 e.symm) (λk hk=>by cases List.mem_singleton.1 hk;exact hK.tab x (by simp)) (by
   simp only[List.flatMap_cons,List.flatMap_nil,List.append_nil];exact r1)
 refine⟨g1,g2, ?_⟩
 have q1:pgs f' (d+1) x.page=x.page::(pgsC f d (pg f x.page)++pgsC f d (pg f y.page)):=by rw[pgs_C,e2,a3,b3]
 rw[g3,hpl]
 simp only[List.flatMap_cons,List.flatMap_nil,List.append_nil,List.flatMap_append,q1,pgs_C (n:=x.page),pgs_C (n:=y.page)]
 refine List.perm_iff_count.2 λa=> ?_
 simp only[List.count_cons,List.count_append]
 omega
theorem root_step{f f':List Content}{d:Nat}{x y:Kid}{B:Content}(h:sub f (d+2) 0 key0 none)(hp:pg f 0=⟨2,[],[x,y]⟩)(hnd:(pgs f (d+2) 0).Nodup)
  (hB:bothC (pg f x.page) (pg f y.page) y.least=B) (h4:sizeP B≤4) (e1:pg f' 0=B) (e4:∀p,p≠0→p≠x.page→p≠y.page→pg f' p=pg f p):
  sub f' (d+1) 0 key0 none∧rws f' (d+1) 0=rws f (d+2) 0∧(pgs f (d+2) 0).Perm (x.page::y.page::pgs f' (d+1) 0):=by
 have P:=mk_pair (l1:=[]) (l2:=[]) h hp (ltK_irrefl _) hnd
 obtain⟨b1,b2,b3,b4⟩:=P.both
 rw[hB] at b1 b2 b3 b4
 have hfrm:∀p∈pgsC f d B,pg f' p=pg f p:=λp hp=>by
  rw[b3] at hp
  obtain⟨q1,q2,q3⟩:=P.below p hp
  exact e4 p q1 q2 q3
 obtain⟨a1,a2,a3⟩:=con_frame hfrm b1
 have hx2:=P.x2
 refine⟨con_mk ⟨by omega,by omega⟩ (by rw[e1];exact a1) (ltK_irrefl _) (by rw[e1];omega) (λ_=>by rw[e1,b4];omega), ?_, ?_⟩
 ·have e:rws f (d+2) 0=rws f (d+1) x.page++rws f (d+1) y.page:=by rw[rws,hp];simp
  rw[e,rws_C (n:=0) (f:=f') (d:=d),e1,a2,b2,P.rows]
 ·rw[pgs_C (n:=0) (f:=f') (d:=d),e1,a3,b3,pgs_list (d:=d+1) hp]
  simp only[List.flatMap_cons,List.flatMap_nil,List.append_nil,pgs_C (n:=x.page),pgs_C (n:=y.page)]
  refine List.perm_iff_count.2 λa=> ?_
  simp only[List.count_cons,List.count_append]
  omega
end Go.Proofs.YtlcmdgpjiendmaaGreat
namespace Go.Proofs.YtlcmdgpjiendmaaGreat
open Go.Bur
set_option linter.unusedSimpArgs false
set_option linter.unusedVariables false
set_option maxRecDepth 100000
theorem rows_few{f:List Content}:∀{d:Nat} {n:Int} {lo:Key} {hi:Option Key},sub f d n lo hi→(rws f d n).length≤4*(pgs f d n).length
 |1,n,lo,hi,h=>by
  obtain⟨_,_,l,h3,h4,h5⟩:=h
  have e:rws f 1 n=l:=by rw[rws,h3];simp
  have e2:pgs f 1 n=[n]:=by rw[pgs,h3];rfl
  rw[e,e2];have:=h4.len;simpa using this
 |d+2,n,lo,hi,h=>by
  obtain⟨_,_,l,h3,h4,h5,h6⟩:=h
  have e:rws f (d+2) n=l.flatMap λk=>rws f (d+1) k.page:=by rw[rws,h3];rfl
  have e2:pgs f (d+2) n=n::l.flatMap λk=>pgs f (d+1) k.page:=by rw[pgs,h3]
  have key:∀(t:List Kid),(∀k∈t,k∈l)→(t.flatMap λk=>rws f (d+1) k.page).length≤4*(t.flatMap λk=>pgs f (d+1) k.page).length:=by
   intro t
   induction t with
   |nil=>intro _;simp
   |cons k t ih=>
    intro ht
    obtain⟨a,b,hs⟩:=kidsOk_all h6 k (ht k (List.mem_cons_self ..))
    have:=rows_few hs
    have:=ih λx hx=>ht x (List.mem_cons_of_mem _ hx)
    simp only[List.flatMap_cons,List.length_append];omega
  have:=key l λk hk=>hk
  rw[e,e2];simp only[List.length_cons];omega
theorem Good.rows{f:List Content}{d:Nat}(h:Good f d):(rws f d 0).length≤256:=by
 have h1:=rows_few h.tree
 have h2:=nodup_len h.nodup λx hx=>(sub_in h.tree x hx).1
 omega
abbrev YT:=HL tabT [.st 4]→HL tabT [.sl (.st 2)]→Option (Nat×HL tabT [.sl (.st 2)])
def Yr:YT:=λy3 z4=>(app 40 z4.1 y3.1.rows).bind λl5=>some (0,(l5,()))
theorem yr_eq{c:Content}{acc:List Row}(h:acc.length+c.rows.length≤1000000):callY Yr 0 ((c,()):HL tabT [.st 4]) ((acc,()):HL tabT [.sl (.st 2)])=some (0,((acc++c.rows,()):HL tabT [.sl (.st 2)])):=by
 show(app 40 acc c.rows).bind _=_
 rw[app_lt h (by decide)];rfl
theorem leaves_l1(N:Nat)(hN:1003≤N){f:List Content}{d:Nat}{l:List Kid}(hl:l.length≤1000)
  (self:Int×Forest×YT×Nat×(HL tabT [.sl (.st 2)])×Forest×Unit→Option (Bool×YT×Nat×(HL tabT [.sl (.st 2)])×Forest))
  (hs:∀k∈l,∀acc:List Row,acc.length+(rws f d k.page).length≤1000000→self (k.page,⟨f⟩,Yr,0,((acc,()):HL tabT [.sl (.st 2)]),⟨f⟩,())=some (true,Yr,0,((acc++rws f d k.page,()):HL tabT [.sl (.st 2)]),⟨f⟩)):
  ∀(m:Nat)(t:List Kid)(i:Nat)(acc:List Row),l.drop i=t→i≤l.length→t.length<m→acc.length+(t.flatMap λk=>rws f d k.page).length≤1000000→
  tree_leaves_1_1_fyd0_c2_self_froc_l1 N self m (l,(l.length:Int),(i:Int),⟨f⟩,Yr,0,((acc,()):HL tabT [.sl (.st 2)]),())=some (true,Yr,0,((acc++t.flatMap λk=>rws f d k.page,()):HL tabT [.sl (.st 2)]),⟨f⟩):=by
 intro m
 induction m with
 |zero=>intro t i acc _ _ h;omega
 |succ m ih=>
  intro t i acc ht hi hk ha
  unfold tree_leaves_1_1_fyd0_c2_self_froc_l1
  rw[loopF_succ]
  generalize hr:loopF _ m=r1
  replace hr:tree_leaves_1_1_fyd0_c2_self_froc_l1 N self m=r1:=hr
  simp only[hr] at ih
  cases t with
  |nil=>
   cases drop_end ht hi
   simp only[ge_dec (Nat.lt_irrefl _),cond_false,List.flatMap_nil,List.append_nil]
  |cons x t=>
   obtain⟨h1,h2,h3⟩:=drop_get ht
   rw[List.flatMap_cons,List.length_append] at ha
   simp only[lt_dec h3,cond_true,idx_nat,h1,Option.bind_some,hs x (List.mem_of_getElem? h1) acc (by omega),Bool.not_true,cond_false,wrap_succ (show i<4611686018427387904 by omega)]
   rw[ih t (i+1) (acc++rws f d x.page) h2 (by omega) (by simp only[List.length_cons] at hk;omega) (by rw[List.length_append];omega),List.flatMap_cons,List.append_assoc]
theorem leaves_go{f:List Content}(hf:f.length=64):∀(d N:Nat)(n:Int)(lo:Key)(hi:Option Key)(acc:List Row),sub f d n lo hi→d+1003≤N→acc.length+(rws f d n).length≤1000000→
  tree_leaves_1_1_fyd0_c2_self_froc N n ⟨f⟩ Yr 0 ((acc,()):HL tabT [.sl (.st 2)]) ⟨f⟩=some (true,Yr,0,((acc++rws f d n,()):HL tabT [.sl (.st 2)]),⟨f⟩)
 |0,_,_,_,_,_,h,_,_=>h.elim
 |d+1,0,_,_,_,_,_,h,_=>by omega
 |1,N+1,n,lo,hi,acc,h,hN,ha=>by
  obtain⟨h1,h2,l,h3,h4,h5⟩:=h
  have e:rws f 1 n=l:=by rw[rws,h3];simp
  rw[e] at ha⊢
  show tree_leaves_1_1_fyd0_c2_self_froc_b N (recF _ N) n ⟨f⟩ Yr 0 (acc,()) ⟨f⟩=_
  unfold tree_leaves_1_1_fyd0_c2_self_froc_b
  rw[show idx (Forest.mk f).pages n=some (pg f n) from idx_pg (f:=f) ⟨h1.1,by omega⟩,h3]
  simp only[Option.bind_some]
  rw[show((1:Int)==1)=true from rfl,cond_true,yr_eq (show acc.length+l.length≤1000000 by omega)]
  rfl
 |d+2,N+1,n,lo,hi,acc,h,hN,ha=>by
  obtain⟨h1,h2,l,h3,h4,h5,h6⟩:=h
  have e:rws f (d+2) n=l.flatMap λk=>rws f (d+1) k.page:=by rw[rws,h3];rfl
  rw[e] at ha⊢
  show tree_leaves_1_1_fyd0_c2_self_froc_b N (recF _ N) n ⟨f⟩ Yr 0 (acc,()) ⟨f⟩=_
  unfold tree_leaves_1_1_fyd0_c2_self_froc_b
  rw[show idx (Forest.mk f).pages n=some (pg f n) from idx_pg (f:=f) ⟨h1.1,by omega⟩,h3]
  simp only[Option.bind_some]
  rw[show((2:Int)==1)=false from rfl,cond_false]
  have h4':=h4.four
  exact leaves_l1 N (by omega) (d:=d+1) (by omega) _ (λk hk acc' ha'=>by
   obtain⟨a,b,hs⟩:=kidsOk_all h6 k hk
   exact leaves_go hf (d+1) N k.page a b acc' hs (by omega) ha') N l 0 acc rfl (Nat.zero_le _) (by omega) ha
theorem rows_good(N:Nat)(hN:2000≤N){f:List Content}{d:Nat}(hg:Good f d):tree_Rows N ⟨f⟩=some (0,rws f d 0):=by
 have hd:=hg.deep
 have hr:=hg.rows
 unfold tree_Rows
 rw[check_good N hN hg]
 simp only[Option.bind_some]
 rw[show((0:Int) !=0)=false from rfl,cond_false]
 unfold tree_leaves tree_leaves_1_fyd0
 simp only[Option.bind_some]
 have:=leaves_go hg.len d N 0 key0 none [] hg.tree (by omega) (by simp;omega)
 rw[show(fun(y3:HL tabT [.st 4]) (z4:HL tabT [.sl (.st 2)])=>(app 40 z4.1 y3.1.rows).bind λl5=>some (0,((l5,()):HL tabT [.sl (.st 2)])))=Yr from rfl,this]
 rfl
theorem rrows_l1(N:Nat)(hN:1003≤N){f:List Content}{d:Nat}{l:List Kid}(hl:l.length≤1000)
  (self:Forest×Int×Unit→Option (List Row)) (hs:∀k∈l,self (⟨f⟩,k.page,())=some (rws f d k.page)) (c:Content) (hcl:c.kids=l):
  ∀(m:Nat)(t:List Kid)(i:Nat)(acc:List Row),l.drop i=t→i≤l.length→t.length<m→acc.length+(t.flatMap λk=>rws f d k.page).length≤1000000→
  ref13_Rows_l1 N self m ((i:Int),⟨f⟩,c,acc,())=some (acc++t.flatMap λk=>rws f d k.page):=by
 intro m
 induction m with
 |zero=>intro t i acc _ _ h;omega
 |succ m ih=>
  intro t i acc ht hi hk ha
  unfold ref13_Rows_l1
  rw[loopF_succ]
  generalize hr:loopF _ m=r1
  replace hr:ref13_Rows_l1 N self m=r1:=hr
  simp only[hr] at ih
  simp only[hcl]
  cases t with
  |nil=>
   cases drop_end ht hi
   simp only[ge_dec (Nat.lt_irrefl _),cond_false,List.flatMap_nil,List.append_nil]
  |cons x t=>
   obtain⟨h1,h2,h3⟩:=drop_get ht
   rw[List.flatMap_cons,List.length_append] at ha
   simp only[lt_dec h3,cond_true,idx_nat,h1,Option.bind_some,hs x (List.mem_of_getElem? h1),app_lt (show acc.length+(rws f d x.page).length≤1000000 by omega) (show 40≤1000 by omega),wrap_succ (show i<4611686018427387904 by omega)]
   rw[ih t (i+1) (acc++rws f d x.page) h2 (by omega) (by simp only[List.length_cons] at hk;omega) (by rw[List.length_append];omega),List.flatMap_cons,List.append_assoc]
theorem rrows_go{f:List Content}(hf:f.length=64):∀(d N:Nat)(n:Int)(lo:Key)(hi:Option Key),sub f d n lo hi→d+1003≤N→(rws f d n).length≤1000000→ref13_Rows N ⟨f⟩ n=some (rws f d n)
 |0,_,_,_,_,h,_,_=>h.elim
 |d+1,0,_,_,_,_,h,_=>by omega
 |1,N+1,n,lo,hi,h,hN,ha=>by
  obtain⟨h1,h2,l,h3,h4,h5⟩:=h
  have e:rws f 1 n=l:=by rw[rws,h3];simp
  rw[e] at ha⊢
  show ref13_Rows_b N (recF _ N) ⟨f⟩ n=_
  unfold ref13_Rows_b
  rw[show idx (Forest.mk f).pages n=some (pg f n) from idx_pg (f:=f) ⟨h1.1,by omega⟩,h3]
  simp only[Option.bind_some,app_lt (show([]:List Row).length+l.length≤1000000 by simpa using ha) (show 40≤1000 by omega)]
  have:=rrows_l1 N (by omega) (f:=f) (d:=0) (l:=[]) (by simp) (recF (λn self x=>ref13_Rows_b n self x.1 x.2.1) N) (by simp) ⟨1,l,[]⟩ rfl N [] 0 ([]++l) rfl (Nat.zero_le _) (by simp;omega) (by simpa using ha)
  simp only[List.nil_append,List.flatMap_nil,List.append_nil] at this
  exact this
 |d+2,N+1,n,lo,hi,h,hN,ha=>by
  obtain⟨h1,h2,l,h3,h4,h5,h6⟩:=h
  have e:rws f (d+2) n=l.flatMap λk=>rws f (d+1) k.page:=by rw[rws,h3];rfl
  rw[e] at ha⊢
  show ref13_Rows_b N (recF _ N) ⟨f⟩ n=_
  unfold ref13_Rows_b
  rw[show idx (Forest.mk f).pages n=some (pg f n) from idx_pg (f:=f) ⟨h1.1,by omega⟩,h3]
  simp only[Option.bind_some,app_lt (show([]:List Row).length+([]:List Row).length≤1000000 by simp) (show 40≤1000 by omega)]
  have h4':=h4.four
  have:=rrows_l1 N (by omega) (f:=f) (d:=d+1) (l:=l) (by omega) (recF (λn self x=>ref13_Rows_b n self x.1 x.2.1) N) (λk hk=>by
   obtain⟨a,b,hs⟩:=kidsOk_all h6 k hk
   have hk':(rws f (d+1) k.page).length≤1000000:=by
    obtain⟨u,v,e⟩:=List.append_of_mem hk
    rw[e] at ha
    simp only[List.flatMap_append,List.flatMap_cons,List.length_append] at ha
    omega
   exact rrows_go hf (d+1) N k.page a b hs (by omega) hk') ⟨2,[],l⟩ rfl N l 0 [] rfl (Nat.zero_le _) (by omega) (by simpa using ha)
  simp only[List.nil_append] at this
  exact this
theorem rrows_good(N:Nat)(hN:2000≤N){f:List Content}{d:Nat}(hg:Good f d):ref13_Rows N ⟨f⟩ 0=some (rws f d 0):=
 rrows_go hg.len d N 0 key0 none hg.tree (by have:=hg.deep;omega) (by have:=hg.rows;omega)
def eqL{α:Type}(e:α→α→Bool):List α→List α→Bool
 |[],[]=>true
 |a::s,b::t=>e a b&&eqL e s t
 |_,_=>false
theorem eqL_len{α:Type}{e:α→α→Bool}:∀{a b:List α},eqL e a b=true→a.length=b.length
 |[],[],_=>rfl
 |a::s,b::t,h=>by
  simp only[eqL,Bool.and_eq_true] at h
  simp only[List.length_cons,eqL_len h.2]
 |[],_::_,h=>by cases h
 |_::_,[],h=>by cases h
theorem eqL_refl{α:Type}{e:α→α→Bool}(he:∀a,e a a=true):∀(l:List α),eqL e l l=true
 |[]=>rfl
 |a::t=>by simp only[eqL,he,eqL_refl he t,Bool.and_self]
theorem eqL_false{α:Type}{e:α→α→Bool}{a b:List α}(h:a.length≠b.length):eqL e a b=false:=by
 cases hh:eqL e a b with
 |false=>rfl
 |true=>exact absurd (eqL_len hh) h
theorem eq_loop{α T R:Type}{F:(T→Option R)→T→Option R}{e:α→α→Bool}{no yes:Option R}(a b:List α)(hab:a.length=b.length)(mk:Nat→T)
  (hF:∀r i x y,a[i]? =some x→b[i]? =some y→i<a.length→F r (mk i)=if e x y then r (mk (i+1)) else no)
  (hE:∀r,F r (mk a.length)=yes):∀(m i:Nat),i≤a.length→a.length-i<m→loopF F m (mk i)=if eqL e (a.drop i) (b.drop i) then yes else no:=by
 intro m
 induction m with
 |zero=>intro i _ h;omega
 |succ m ih=>
  intro i hi hm
  rw[loopF_succ]
  by_cases h:i<a.length
  ·have h':i<b.length:=by omega
   rw[hF _ i _ _ (get_some h) (get_some h') h,drop_cons h,drop_cons h']
   simp only[eqL]
   by_cases hx:e a[i] b[i]=true
   ·simp only[hx,if_true,Bool.true_and,ih (i+1) (by omega) (by omega)]
   ·rw[Bool.not_eq_true] at hx
    simp[hx]
  ·obtain rfl:i=a.length:=by omega
   rw[hE,drop_nil h,drop_nil (by omega)];rfl
theorem lenne{α β:Type}(a:List α)(b:List β):((a.length:Int) !=(b.length:Int))= !decide (a.length=b.length):=by
 rw[bne,ibeq];congr 1;exact decide_eq_decide.2 (by omega)
end Go.Proofs.YtlcmdgpjiendmaaGreat
namespace Go.Proofs.YtlcmdgpjiendmaaGreat
open Go.Bur
set_option linter.unusedSimpArgs false
set_option linter.unusedVariables false
set_option maxRecDepth 100000
def gsub(f:List Content):Nat→Int→Key→Option Key→Prop
 |0=>λ_ _ _=>False
 |m+1=>λn lo hi=>(0≤n∧n<64)∧(n≠0→2≤sizeP (pg f n))∧((∃l,pg f n=⟨1,l,[]⟩∧LeafOk l∧∀r∈l,within r.key lo hi=true)∨∃l,pg f n=⟨2,[],l⟩∧InnerOk l∧(∀k∈l.tail,within k.least lo hi=true)∧kidsOk (gsub f m) hi lo l)
end Go.Proofs.YtlcmdgpjiendmaaGreat
namespace Go.Proofs.YtlcmdgpjiendmaaGreat
open Go.Bur
set_option linter.unusedSimpArgs false
set_option linter.unusedVariables false
set_option maxRecDepth 100000
theorem len0{α:Type}(l:List α):((l.length:Int)==0)=decide (l.length=0):=beq0
end Go.Proofs.YtlcmdgpjiendmaaGreat
namespace Go.Proofs.YtlcmdgpjiendmaaGreat
open Go.Bur
set_option linter.unusedSimpArgs false
set_option linter.unusedVariables false
set_option maxRecDepth 100000
def insS(s:Sheet):List Sheet→List Sheet
 |[]=>[s]
 |x::t=>if s.page≤x.page then s::x::t else x::insS s t
def srtS:List Sheet→List Sheet
 |[]=>[]
 |x::t=>insS x (srtS t)
theorem insS_perm(s:Sheet):∀(l:List Sheet),(insS s l).Perm (s::l)
 |[]=>List.Perm.refl _
 |x::t=>by
  unfold insS
  split
  ·exact List.Perm.refl _
  ·exact((insS_perm s t).cons x).trans (List.Perm.swap ..)
theorem srtS_perm:∀(l:List Sheet),(srtS l).Perm l
 |[]=>List.Perm.refl _
 |x::t=>(insS_perm x _).trans ((srtS_perm t).cons x)
theorem insS_sorted(s:Sheet):∀{l:List Sheet},l.Pairwise (λa b=>a.page≤b.page)→(insS s l).Pairwise λa b=>a.page≤b.page
 |[],_=>by simp[insS]
 |x::t,h=>by
  obtain⟨h1,h2⟩:=List.pairwise_cons.1 h
  unfold insS
  split
  ·rename_i hs
   refine List.pairwise_cons.2 ⟨λy hy=> ?_,h⟩
   rcases List.mem_cons.1 hy with rfl|hy
   ·exact hs
   ·exact Int.le_trans hs (h1 y hy)
  ·rename_i hs
   refine List.pairwise_cons.2 ⟨λy hy=> ?_,insS_sorted s h2⟩
   rcases List.mem_cons.1 ((insS_perm s t).mem_iff.1 hy) with rfl|hy
   ·omega
   ·exact h1 y hy
theorem srtS_sorted:∀(l:List Sheet),(srtS l).Pairwise λa b=>a.page≤b.page
 |[]=>List.Pairwise.nil
 |x::t=>insS_sorted x (srtS_sorted t)
theorem cmpI_neg{a b:Int}:cmpI a b<0↔a<b:=by
 unfold cmpI
 by_cases h:a<b
 ·rw[if_pos h];simp[h]
 ·rw[if_neg h]
  by_cases h2:a>b
  ·rw[if_pos h2];simp[h]
  ·rw[if_neg h2];simp[h]
theorem group1_eq(n:Nat)(x y:Sheet):tree_change_group_1 n x y=some (cmpI x.page y.page):=by
 unfold tree_change_group_1;rw[compare_int];rfl
theorem page_inj:∀{l:List Sheet},(l.map (·.page)).Nodup→∀x∈l,∀y∈l,x.page=y.page→x=y
 |[],_,_,hx,_,_,_=>by cases hx
 |a::t,h,x,hx,y,hy,e=>by
  rw[List.map_cons] at h
  obtain⟨h1,h2⟩:=List.nodup_cons.1 h
  rcases List.mem_cons.1 hx with rfl|hx
  ·rcases List.mem_cons.1 hy with rfl|hy
   ·rfl
   ·exact absurd (List.mem_map.2 ⟨y,hy,e.symm⟩) h1
  ·rename_i hxt
   rcases List.mem_cons.1 hy with hya|hy
   ·subst hya;exact absurd (List.mem_map.2 ⟨x,by assumption,e⟩) h1
   ·exact page_inj h2 x hx y hy e
theorem sortS_eq(n:Nat){l:List Sheet}(hl:l.length≤1000)(hd:(l.map (·.page)).Nodup):slices_SortFunc_Sheet_f109 n l=some (srtS l):=by
 unfold slices_SortFunc_Sheet_f109
 rw[Nat.ble_eq_true_of_le (by omega)]
 refine sortF_eq _ ⟨λx _ y _=>⟨_,group1_eq n x y⟩,λx _=> ?_,λx _ y _ z _ h1 h2=> ?_,λx hx y hy h1 h2=> ?_⟩ ⟨srtS_perm l, ?_⟩
 ·simp only[cmpD,group1_eq,Option.getD_some,cmpI_neg];omega
 ·simp only[cmpD,group1_eq,Option.getD_some,cmpI_neg] at h1 h2⊢;omega
 ·simp only[cmpD,group1_eq,Option.getD_some,cmpI_neg] at h1 h2
  exact page_inj hd x hx y hy (by omega)
 ·refine(srtS_sorted l).imp λ{a b} h=> ?_
  simp only[cmpD,group1_eq,Option.getD_some,cmpI_neg];omega
noncomputable def sortX(n:Nat)(l:List Sheet):Option (List Sheet):=if l.length≤1000∧(l.map (·.page)).Nodup then some (srtS l) else slices_SortFunc_Sheet_f109 n l
theorem sort_fn:slices_SortFunc_Sheet_f109=sortX:=by
 funext n l
 unfold sortX
 split
 ·rename_i h;exact sortS_eq n h.1 h.2
 ·rfl
noncomputable def cloneRX(n:Nat)(l:List Row):Option (List Row):=if l.length≤1000 then some l else slices_Clone_Row n l
theorem cloneR_fn:slices_Clone_Row=cloneRX:=by
 funext n l
 unfold cloneRX
 split
 ·rename_i h;exact cloneR_eq n l h
 ·rfl
noncomputable def cloneKX(n:Nat)(l:List Kid):Option (List Kid):=if l.length≤1000 then some l else slices_Clone_Kid n l
theorem cloneK_fn:slices_Clone_Kid=cloneKX:=by
 funext n l
 unfold cloneKX
 split
 ·rename_i h;exact cloneK_eq n l h
 ·rfl
theorem cloneC_eq(n:Nat)(l:List Content)(h:l.length≤1000):slices_Clone_Content n l=some l:=clone_eq (by omega) (by decide)
noncomputable def cloneCX(n:Nat)(l:List Content):Option (List Content):=if l.length≤1000 then some l else slices_Clone_Content n l
theorem cloneC_fn:slices_Clone_Content=cloneCX:=by
 funext n l
 unfold cloneCX
 split
 ·rename_i h;exact cloneC_eq n l h
 ·rfl
theorem wakes:law13_wakes 30000=some true:=by
 delta law13_wakes law13_wakes_l1 tree_Put tree_Put_l1 tree_Put_l2 tree_Put_l3 tree_Put_l4 tree_change_parted tree_change_split tree_Apply tree_begun page_Put page_Split page_Adopt page_cut_Row page_cut_Kid tree_change_group
 rw[sort_fn,cloneR_fn,cloneK_fn,cloneC_fn]
 kernel_rfl
end Go.Proofs.YtlcmdgpjiendmaaGreat
namespace Go.Proofs.YtlcmdgpjiendmaaGreat
open Go.Bur
set_option linter.unusedSimpArgs false
set_option linter.unusedVariables false
set_option maxRecDepth 100000
def frees(f:List Content):List Int:=((List.range' 1 63).filter fun(j:Nat)=>decide ((pg f (j:Int)).kind=0)).map Int.ofNat
theorem rfree_eq(n:Nat)(hn:1003≤n){f:List Content}(hf:f.length=64):ref13_free n ⟨f⟩=some (frees f):=by
 have key:∀(m i:Nat)(acc:List Int),i≤64→64-i<m→acc.length≤i→ref13_free_l1 n m ((i:Int),⟨f⟩,acc,())=some (acc++((List.range' i (64-i)).filter fun(j:Nat)=>decide ((pg f (j:Int)).kind=0)).map Int.ofNat):=by
  intro m
  induction m with
  |zero=>intro i acc _ h;omega
  |succ m ih=>
   intro i acc hi hm ha
   unfold ref13_free_l1
   rw[loopF_succ]
   generalize hr:loopF _ m=r1
   replace hr:ref13_free_l1 n m=r1:=hr
   simp only[hr] at ih
   by_cases h:i<64
   ·simp only[show decide ((i:Int)<64)=true from decide_eq_true (by omega),cond_true,show idx f (i:Int)=some (pg f (i:Int)) from idx_pg ⟨by omega,by omega⟩,Option.bind_some,jn,ref13_free_j2,ieq0,wrap_succ (show i<4611686018427387904 by omega),app_lt (show acc.length+[(i:Int)].length≤1000000 by simp;omega) (show 8≤1000 by omega)]
    rw[show 64-i=(64-(i+1))+1 by omega,List.range'_succ,List.filter_cons]
    by_cases h0:(pg f (i:Int)).kind=0
    ·rw[decide_eq_true h0,cond_true,ih (i+1) _ (by omega) (by omega) (by simp;omega)]
     simp
    ·rw[decide_eq_false h0,cond_false,ih (i+1) _ (by omega) (by omega) (by omega)]
     simp
   ·obtain rfl:i=64:=by omega
    simp only[show decide (((64:Nat):Int)<64)=false from rfl,cond_false]
    simp
 exact(key n 1 [] (by omega) (by omega) (by simp)).trans (by simp[frees])
theorem mem_frees{f:List Content}{x:Int}:x∈frees f↔(0<x∧x<64)∧(pg f x).kind=0:=by
 unfold frees
 rw[List.mem_map]
 constructor
 ·rintro⟨a,ha,rfl⟩
  obtain⟨h1,h2⟩:=List.mem_filter.1 ha
  rw[List.mem_range'_1] at h1
  exact⟨⟨by show(0:Int)<(a:Int);omega,by show(a:Int)<64;omega⟩,of_decide_eq_true h2⟩
 ·rintro⟨⟨h1,h2⟩,h3⟩
  have e:((x.toNat:Nat):Int)=x:=by omega
  refine⟨x.toNat,List.mem_filter.2 ⟨by rw[List.mem_range'_1];omega,decide_eq_true ?_⟩,e⟩
  rw[e];exact h3
theorem nodup_frees{f:List Content}:(frees f).Nodup:=by
 unfold frees
 refine List.pairwise_map.2 (List.Pairwise.imp (λ{a b} h e=>h (Int.ofNat.inj e)) ((List.nodup_range' ..).filter _))
theorem nodup_all64:all64.Nodup:=by
 unfold all64
 exact List.pairwise_map.2 (List.Pairwise.imp (λ{a b} h e=>h (Int.ofNat.inj e)) List.nodup_range)
theorem count64{f:List Content}{d:Nat}(hg:Good f d):(frees f).length+(pgs f d 0).length=64:=by
 have h1:(frees f++pgs f d 0).Nodup:=List.nodup_append.2 ⟨nodup_frees,hg.nodup,λa ha b hb e=>by
  subst e
  exact(sub_in hg.tree a hb).2 (mem_frees.1 ha).2⟩
 have hp:(frees f++pgs f d 0).Perm all64:=(List.perm_ext_iff_of_nodup h1 nodup_all64).2 λx=>by
  rw[List.mem_append,mem_all64]
  constructor
  ·rintro(h|h)
   ·have:=(mem_frees.1 h).1;omega
   ·exact(sub_in hg.tree x h).1
  ·intro hx
   by_cases hm:x∈pgs f d 0
   ·exact Or.inr hm
   ·refine Or.inl (mem_frees.2 ⟨⟨?_,hx.2⟩,hg.rest x hx hm⟩)
    have:x≠0:=λe=>hm (by
     subst e
     obtain⟨d',rfl⟩:∃d',d=d'+1:=⟨d-1,by have:=hg.pos;omega⟩
     exact pgs_self)
    omega
 have:=hp.length_eq
 rw[List.length_append] at this
 rw[this];simp[all64]
theorem rsameR_eq(n:Nat)(hn:1003≤n)(a b:List Row)(ha:a.length≤1000):ref05_Same n a b=some (eqL Row.eqb a b):=by
 unfold ref05_Same
 rw[lenne]
 by_cases h:a.length=b.length
 ·rw[decide_eq_true h,Bool.not_true,cond_false]
  show ref05_Same_l1 n n (a,b,((0:Nat):Int),())=_
  unfold ref05_Same_l1
  refine(eq_loop (e:=Row.eqb) (no:=some false) (yes:=some true) a b h (λi=>(a,b,(i:Int),())) (λr i x y hx hy hi=> ?_) (λr=> ?_) n 0 (Nat.zero_le _) (by omega)).trans ?_
  ·simp only[lt_dec hi,cond_true,idx_nat,hx,hy,Option.bind_some,wrap_succ (show i<4611686018427387904 by omega)]
   cases Row.eqb x y<;>simp
  ·simp only[ge_dec (Nat.lt_irrefl _),cond_false]
  ·simp only[List.drop_zero];cases eqL Row.eqb a b<;>rfl
 ·rw[decide_eq_false h,eqL_false h];rfl
def new0:List Content:=(List.replicate 64 cont0).set 0 ⟨1,[],[]⟩
theorem rnew_eq(n:Nat):ref13_New n=some ⟨new0⟩:=rfl
end Go.Proofs.YtlcmdgpjiendmaaGreat
namespace Go.Proofs.YtlcmdgpjiendmaaGreat
open Go.Bur
set_option linter.unusedSimpArgs false
set_option linter.unusedVariables false
set_option maxRecDepth 100000
def setP(f:List Content)(n:Int)(c:Content):List Content:=f.set n.toNat c
def withS(f:List Content):List Sheet→List Content
 |[]=>f
 |s::t=>withS (setP f s.page s.content) t
def SheetsIn(l:List Sheet):Prop:=∀s∈l,0≤s.page∧s.page<64
theorem set_len{f:List Content}{n:Int}{c:Content}:(setP f n c).length=f.length:=by simp[setP]
theorem with_len:∀{l:List Sheet} {f:List Content},(withS f l).length=f.length
 |[],_=>rfl
 |s::t,f=>by rw[withS,with_len,set_len]
theorem pg_set{f:List Content}{n:Int}{c:Content}(hf:f.length=64)(hn:0≤n∧n<64)(m:Int):pg (setP f n c) m=if m=n then c else pg f m:=by
 unfold pg setP
 by_cases hm:0≤m
 ·obtain⟨j,rfl⟩:∃j:Nat,m=(j:Int):=⟨m.toNat,by omega⟩
  obtain⟨i,rfl⟩:∃i:Nat,n=(i:Int):=⟨n.toNat,by omega⟩
  rw[idx_nat,idx_nat,Int.toNat_natCast]
  by_cases e:j=i
  ·subst e
   rw[if_pos rfl,List.getElem?_set_self (by omega)];rfl
  ·rw[if_neg (by omega),List.getElem?_set_ne (λh=>e h.symm)]
 ·have h1:∀l:List Content,idx l m=none:=λl=>by unfold idx;rw[if_neg hm]
  rw[h1,h1,if_neg (by omega)]
theorem with_other:∀{l:List Sheet} {f:List Content} {m:Int},f.length=64→SheetsIn l→(∀s∈l,s.page≠m)→pg (withS f l) m=pg f m
 |[],_,_,_,_,_=>rfl
 |s::t,f,m,hf,hl,hm=>by
  rw[withS,with_other (by rw[set_len];exact hf) (λx hx=>hl x (List.mem_cons_of_mem _ hx)) (λx hx=>hm x (List.mem_cons_of_mem _ hx)),pg_set hf (hl s (List.mem_cons_self ..)),if_neg (λe=>hm s (List.mem_cons_self ..) e.symm)]
theorem with_at:∀{l:List Sheet} {f:List Content},f.length=64→SheetsIn l→(l.map (·.page)).Nodup→∀s∈l,pg (withS f l) s.page=s.content
 |s::t,f,hf,hl,hd,x,hx=>by
  rw[List.map_cons] at hd
  obtain⟨d1,d2⟩:=List.nodup_cons.1 hd
  rw[withS]
  rcases List.mem_cons.1 hx with rfl|hx
  ·rw[with_other (by rw[set_len];exact hf) (λx hx=>hl x (List.mem_cons_of_mem _ hx)) (λy hy e=>d1 (List.mem_map.2 ⟨y,hy,e⟩)),pg_set hf (hl x (List.mem_cons_self ..)),if_pos rfl]
  ·exact with_at (by rw[set_len];exact hf) (λx hx=>hl x (List.mem_cons_of_mem _ hx)) d2 x hx
theorem pg_ext{f g:List Content}(hf:f.length=64)(hg:g.length=64)(h:∀m,0≤m∧m<64→pg f m=pg g m):f=g:=by
 refine List.ext_getElem (by omega) λi h1 h2=> ?_
 have:=h (i:Int) ⟨by omega,by omega⟩
 rwa[pg_nat (get_some h1),pg_nat (get_some h2)] at this
theorem srtS_nodup{l:List Sheet}(h:(l.map (·.page)).Nodup):((srtS l).map (·.page)).Nodup:=((srtS_perm l).map _).nodup_iff.2 h
theorem with_perm{f:List Content}{l m:List Sheet}(hp:l.Perm m)(hf:f.length=64)(hl:SheetsIn l)(hd:(l.map (·.page)).Nodup):withS f l=withS f m:=by
 have hm:SheetsIn m:=λs hs=>hl s (hp.mem_iff.2 hs)
 have hd':(m.map (·.page)).Nodup:=(hp.map _).nodup_iff.1 hd
 refine pg_ext (by rw[with_len];exact hf) (by rw[with_len];exact hf) λk hk=> ?_
 by_cases h:∃s∈l,s.page=k
 ·obtain⟨s,hs,rfl⟩:=h
  rw[with_at hf hl hd s hs,with_at hf hm hd' s (hp.mem_iff.1 hs)]
 ·rw[with_other hf hl λs hs e=>h ⟨s,hs,e⟩,with_other hf hm λs hs e=>h ⟨s,hp.mem_iff.2 hs,e⟩]
def Ctx(f:List Content)(D d:Nat)(n:Int)(lo:Key)(hi:Option Key)(Q:List Int)(R1 R2:List Row):Prop:=
 ∀f',(∀m∈Q,pg f' m=pg f m)→sub f' d n lo hi→sub f' D 0 key0 none∧(pgs f' D 0).Perm (Q++pgs f' d n)∧rws f' D 0=R1++(rws f' d n++R2)
structure At(f:List Content)(D d:Nat)(n:Int)(lo:Key)(hi:Option Key)(Q:List Int)(R1 R2:List Row):Prop where
 len:f.length=64
 ok:∀m,0≤m∧m<64→checkP (pg f m)=true
 ctx:Ctx f D d n lo hi Q R1 R2
 tree:sub f d n lo hi
 nodup:(Q++pgs f d n).Nodup
 rest:∀m,0≤m∧m<64→m∉Q++pgs f d n→(pg f m).kind=0
 low:ltK lo key0=false
theorem At.good{f:List Content}{D d:Nat}{n:Int}{lo:Key}{hi:Option Key}{Q:List Int}{R1 R2:List Row}(h:At f D d n lo hi Q R1 R2):Good f D∧rws f D 0=R1++(rws f d n++R2):=by
 obtain⟨h1,h2,h3⟩:=h.ctx f (λ_ _=>rfl) h.tree
 exact⟨⟨h.len,h.ok,h1,h2.nodup_iff.2 h.nodup,λm hm hn=>h.rest m hm λhq=>hn (h2.mem_iff.2 hq)⟩,h3⟩
theorem At.root{f:List Content}{D:Nat}(h:Good f D):At f D D 0 key0 none [] [] []:=
 ⟨h.len,h.ok,λf' _ hs=>⟨hs,List.Perm.refl _,by simp⟩,h.tree,h.nodup,λm hm hn=>h.rest m hm hn,ltK_irrefl _⟩
theorem At.free{f:List Content}{D d:Nat}{n:Int}{lo:Key}{hi:Option Key}{Q:List Int}{R1 R2:List Row}(h:At f D d n lo hi Q R1 R2){m:Int}(hm:m∈frees f):(0<m∧m<64)∧m∉Q++pgs f d n:=by
 obtain⟨h1,h2⟩:=mem_frees.1 hm
 obtain⟨g1,g2,_⟩:=h.ctx f (λ_ _=>rfl) h.tree
 exact⟨h1,λhq=>(sub_in g1 m (g2.mem_iff.2 hq)).2 h2⟩
theorem At.down{f:List Content}{D d:Nat}{n:Int}{lo:Key}{hi:Option Key}{Q:List Int}{R1 R2:List Row}(h:At f D (d+2) n lo hi Q R1 R2){l1 l2:List Kid}{x:Kid}(hp:pg f n=⟨2,[],l1++x::l2⟩):
  At f D (d+1) x.page (loAt l1 lo x.least) (nxt hi l2) (Q++n::((l1.flatMap λk=>pgs f (d+1) k.page)++l2.flatMap λk=>pgs f (d+1) k.page)) (R1++l1.flatMap λk=>rws f (d+1) k.page) ((l2.flatMap λk=>rws f (d+1) k.page)++R2):=by
 obtain⟨l,e,hl2,hl4,hK⟩:=inner_of h.tree
 obtain rfl:l=l1++x::l2:=by rw[hp] at e;injection e with _ _ e;exact e.symm
 obtain⟨k1,k2,k3⟩:=(kids3 (N:=[x]) (N':=[]) rfl).1 hK.ok
 have k2:sub f (d+1) x.page (loAt l1 lo x.least) (nxt hi l2):=k2
 have hpl:=pgs_list (d:=d+1) hp
 have hnd:=h.nodup
 rw[hpl,List.flatMap_append,List.flatMap_cons] at hnd
 have hperm:((Q++n::((l1.flatMap λk=>pgs f (d+1) k.page)++l2.flatMap λk=>pgs f (d+1) k.page))++pgs f (d+1) x.page).Perm (Q++pgs f (d+2) n):=by
  rw[hpl,List.flatMap_append,List.flatMap_cons]
  refine List.perm_iff_count.2 λa=> ?_
  simp only[List.count_cons,List.count_append];omega
 refine⟨h.len,h.ok,λf' hag hs=> ?_,k2,hperm.nodup_iff.2 h.nodup,λm hm hn=>h.rest m hm λhq=>hn (hperm.mem_iff.2 hq),loAt_ge hK h.low⟩
 have en:pg f' n=pg f n:=hag n (List.mem_append_right _ (List.mem_cons_self ..))
 have hxm:∀j∈l1++l2,x.page≠j.page:=λj hj e=>by
  have hn:=hK.nodup
  rw[List.map_append,List.map_cons] at hn
  obtain⟨_,n2,n3⟩:=List.nodup_append.1 hn
  rcases List.mem_append.1 hj with hj|hj
  ·exact n3 j.page (List.mem_map.2 ⟨j,hj,rfl⟩) x.page (List.mem_cons_self ..) e.symm
  ·exact(List.nodup_cons.1 n2).1 (List.mem_map.2 ⟨j,hj,e.symm⟩)
 obtain⟨g1,g2,g3⟩:=block_gen (N:=[x]) (M:=[x]) (x:=x) (x':=x) (f':=f') h.tree hp (en.trans hp) h.low hl2 hl4 rfl rfl rfl (λk hk p hp=>by
   refine hag p (List.mem_append_right _ (List.mem_cons_of_mem _ ?_))
   rcases List.mem_append.1 hk with hk|hk
   ·exact List.mem_append_left _ (List.mem_flatMap.2 ⟨k,hk,hp⟩)
   ·exact List.mem_append_right _ (List.mem_flatMap.2 ⟨k,hk,hp⟩)) hs (λk hk=>by cases List.mem_singleton.1 hk;exact hK.page x (by simp)) (by simp) (λk hk j hj=>by cases List.mem_singleton.1 hk;exact hxm j hj) (λk hk=>by cases List.mem_singleton.1 hk;exact hK.tab x (by simp))
 obtain⟨c1,c2,c3⟩:=h.ctx f' (λm hm=>hag m (List.mem_append_left _ hm)) g1
 refine⟨c1,c2.trans ?_, ?_⟩
 ·rw[g3]
  simp only[List.flatMap_cons,List.flatMap_nil,List.append_nil]
  refine List.perm_iff_count.2 λa=> ?_
  simp only[List.count_cons,List.count_append];omega
 ·rw[c3,g2]
  simp only[List.flatMap_cons,List.flatMap_nil,List.append_nil,List.append_assoc]
theorem At.change{f f':List Content}{D d:Nat}{n:Int}{lo:Key}{hi:Option Key}{Q:List Int}{R1 R2:List Row}(h:At f D d n lo hi Q R1 R2)(hl:f'.length=64)(hok:∀m,0≤m∧m<64→checkP (pg f' m)=true)(hq:∀m∈Q,pg f' m=pg f m)(hs:sub f' d n lo hi)(hn:(Q++pgs f' d n).Nodup)(hr:∀m,0≤m∧m<64→m∉Q++pgs f' d n→(pg f' m).kind=0):At f' D d n lo hi Q R1 R2:=
 ⟨hl,hok,λf2 hag hs2=>h.ctx f2 (λm hm=>(hag m hm).trans (hq m hm)) hs2,hs,hn,hr,h.low⟩
end Go.Proofs.YtlcmdgpjiendmaaGreat
namespace Go.Proofs.YtlcmdgpjiendmaaGreat
open Go.Bur
set_option linter.unusedSimpArgs false
set_option linter.unusedVariables false
set_option maxRecDepth 100000
theorem sub_ok'{f:List Content}:∀{d:Nat} {n:Int} {lo:Key} {hi:Option Key},sub f d n lo hi→∀m∈pgs f d n,checkP (pg f m)=true
 |1,n,lo,hi,h,m,hm=>by
  have hc:=sub_check h
  obtain⟨_,_,l,h3,_⟩:=h
  rw[pgs,h3] at hm
  cases List.mem_singleton.1 hm;exact hc
 |d+2,n,lo,hi,h,m,hm=>by
  have hc:=sub_check h
  obtain⟨_,_,l,h3,_,_,h6⟩:=h
  rcases List.mem_cons.1 hm with rfl|hm
  ·exact hc
  ·obtain⟨k,hk,hm⟩:=List.mem_flatMap.1 hm
   rw[h3] at hk
   obtain⟨a,b,hs⟩:=kidsOk_all h6 k hk
   exact sub_ok' hs m hm
theorem tw_all{α:Type}{p:α→Bool}:∀{u v:List α},(∀x∈u,p x=true)→(u++v).takeWhile p=u++v.takeWhile p
 |[],_,_=>rfl
 |x::u,v,h=>by rw[List.cons_append,List.takeWhile_cons,h x (List.mem_cons_self ..)];simp only[if_true];rw[tw_all λy hy=>h y (List.mem_cons_of_mem _ hy)];rfl
theorem kidI_of{l1 l2:List Kid}{x:Kid}{k:Key}(h:(l1++x::l2).Pairwise λa b=>ltK a.least b.least=true)(c1:l1≠[]→ltK k x.least=false)(c2:∀y t,l2=y::t→ltK k y.least=true):kidI (l1++x::l2) k=l1.length:=by
 have h2:l2.takeWhile (λy=> !ltK k y.least)=[]:=by
  cases l2 with
  |nil=>rfl
  |cons y t=>rw[List.takeWhile_cons,c2 y t rfl];rfl
 unfold kidI
 cases l1 with
 |nil=>rw[List.nil_append,List.tail_cons,h2]
 |cons a u=>
  have hx:=c1 (by simp)
  rw[List.cons_append,List.tail_cons,tw_all λy hy=> ?_,List.takeWhile_cons,hx]
  ·simp only[Bool.not_false,if_true,h2];simp
  ·obtain⟨_,_,q⟩:=List.pairwise_append.1 h
   rw[le_le (lt_asymm (q y (List.mem_cons_of_mem _ hy) x (List.mem_cons_self ..))) hx];rfl
def kidAt(l:List Kid)(i:Nat):Kid:=(l[i]?).getD ⟨key0,0⟩
theorem kidAt_mid{l1 l2:List Kid}{x:Kid}:kidAt (l1++x::l2) l1.length=x:=by simp[kidAt]
def On(f:List Content)(D d:Nat)(n:Int)(k:Key):Prop:=∃lo hi Q R1 R2,At f D d n lo hi Q R1 R2∧within k lo hi=true∧(∀r∈R1,ltK r.key k=true)∧∀r∈R2,ltK k r.key=true
theorem On.root{f:List Content}{D:Nat}(h:Good f D){k:Key}(hk:ltK k key0=false):On f D D 0 k:=⟨key0,none,[],[],[],At.root h,within_iff.2 ⟨hk,λ_ e=>by cases e⟩,by simp,by simp⟩
theorem On.good{f:List Content}{D d:Nat}{n:Int}{k:Key}(h:On f D d n k):Good f D:=by obtain⟨_,_,_,_,_,h,_⟩:=h;exact h.good.1
theorem On.down{f:List Content}{D d:Nat}{n:Int}{k:Key}(h:On f D (d+2) n k){l1 l2:List Kid}{x:Kid}(hp:pg f n=⟨2,[],l1++x::l2⟩)(c1:l1≠[]→ltK k x.least=false)(c2:∀y t,l2=y::t→ltK k y.least=true):On f D (d+1) x.page k:=by
 obtain⟨lo,hi,Q,R1,R2,h,hw,h1,h2⟩:=h
 obtain⟨l,e,hl2,hl4,hK⟩:=inner_of h.tree
 obtain rfl:l=l1++x::l2:=by rw[hp] at e;injection e with _ _ e;exact e.symm
 obtain⟨i1,i2⟩:=hK.inner h.low hl2 hl4
 have hw':=within_iff.1 hw
 obtain⟨a,s1,s2,s3,s4,s5⟩:=kid_rows i1 i2 hK.ok rfl c1 c2 hw'.2
 refine⟨_,_,_,_,_,h.down hp,within_iff.2 ⟨?_,s2⟩,λr hr=> ?_,λr hr=> ?_⟩
 ·cases l1 with
  |nil=>exact hw'.1
  |cons u v=>exact c1 (by simp)
 ·rcases List.mem_append.1 hr with hr|hr
  ·exact h1 r hr
  ·exact s4 r hr
 ·rcases List.mem_append.1 hr with hr|hr
  ·exact s5 r hr
  ·exact h2 r hr
theorem On.kids{f:List Content}{D d:Nat}{n:Int}{k:Key}(h:On f D (d+2) n k):∃l1 x l2,pg f n=⟨2,[],l1++x::l2⟩∧InnerOk (l1++x::l2)∧l1.length=kidI (l1++x::l2) k∧(l1≠[]→ltK k x.least=false)∧(∀y t,l2=y::t→ltK k y.least=true)∧On f D (d+1) x.page k:=by
 have h':=h
 obtain⟨lo,hi,Q,R1,R2,h1,hw,_⟩:=h
 obtain⟨l,e,hl2,hl4,hK⟩:=inner_of h1.tree
 have hI:=(hK.inner h1.low hl2 hl4).1
 obtain⟨l1,x,l2,e1,e2,c1,c2⟩:=kid_cut hI.ne k
 subst e1
 exact⟨l1,x,l2,e,hI,e2,c1,c2,h'.down e c1 c2⟩
theorem three{l:List Sheet}{f:List Content}(hf:f.length=64)(hl:SheetsIn l)(hd:(l.map (·.page)).Nodup):(∀s∈l,pg (withS f (srtS l)) s.page=s.content)∧∀m,(∀s∈l,s.page≠m)→pg (withS f (srtS l)) m=pg f m:=by
 have e:withS f (srtS l)=withS f l:=(with_perm (srtS_perm l).symm hf hl hd).symm
 rw[e]
 exact⟨with_at hf hl hd,λm hm=>with_other hf hl hm⟩
def splitS(f:List Content)(n:Int)(i:Nat)(m:Int):List Sheet:=
 let l:=(pg f n).kids
 let x:=kidAt l i
 let c:=pg f x.page
 [⟨n,⟨2,[],l.take (i+1)++⟨cutS c 2,m⟩::l.drop (i+1)⟩⟩,⟨x.page,cutA c 2⟩,⟨m,cutB c 2⟩]
theorem splitS_eq{f:List Content}{n m:Int}{l1 l2:List Kid}{x:Kid}(hp:pg f n=⟨2,[],l1++x::l2⟩):splitS f n l1.length m=[⟨n,⟨2,[],l1++x::⟨cutS (pg f x.page) 2,m⟩::l2⟩⟩,⟨x.page,cutA (pg f x.page) 2⟩,⟨m,cutB (pg f x.page) 2⟩]:=by
 unfold splitS
 rw[hp]
 simp only[kidAt_mid]
 have e1:(l1++x::l2).take (l1.length+1)=l1++[x]:=by
  rw[show l1++x::l2=(l1++[x])++l2 by simp,show l1.length+1=(l1++[x]).length by simp,List.take_left]
 have e2:(l1++x::l2).drop (l1.length+1)=l2:=by
  rw[show l1++x::l2=(l1++[x])++l2 by simp,show l1.length+1=(l1++[x]).length by simp,List.drop_left]
 rw[e1,e2]
 simp
structure Grp(f:List Content)(l:List Sheet):Prop where
 rng:SheetsIn l
 nodup:(l.map (·.page)).Nodup
theorem split_on{f:List Content}{D d:Nat}{n m:Int}{k:Key}(h:On f D (d+2) n k){l1 l2:List Kid}{x:Kid}(hp:pg f n=⟨2,[],l1++x::l2⟩)(c1:l1≠[]→ltK k x.least=false)(c2:∀y t,l2=y::t→ltK k y.least=true)(h3:(l1++x::l2).length≤3)(hfull:sizeP (pg f x.page)=4)(hm:m∈frees f):
  Grp f (splitS f n l1.length m)∧On (withS f (srtS (splitS f n l1.length m))) D (d+2) n k∧rws (withS f (srtS (splitS f n l1.length m))) D 0=rws f D 0∧pg (withS f (srtS (splitS f n l1.length m))) n=⟨2,[],l1++x::⟨cutS (pg f x.page) 2,m⟩::l2⟩∧
  pg (withS f (srtS (splitS f n l1.length m))) x.page=cutA (pg f x.page) 2∧pg (withS f (srtS (splitS f n l1.length m))) m=cutB (pg f x.page) 2∧sizeP (cutA (pg f x.page) 2)=2∧sizeP (cutB (pg f x.page) 2)=2:=by
 obtain⟨lo,hi,Q,R1,R2,h,hw,hr1,hr2⟩:=h
 obtain⟨hm0,hmf⟩:=h.free hm
 have hnd:=(List.nodup_append.1 h.nodup).2.1
 have hpl:=pgs_list (d:=d+1) hp
 have hxin:x.page∈pgs f (d+2) n:=by rw[hpl];exact List.mem_cons_of_mem _ (kid_self (by simp))
 have hmp:m∉pgs f (d+2) n:=λe=>hmf (List.mem_append_right _ e)
 have hxn:x.page≠n:=λe=>by
  rw[hpl] at hnd
  exact(List.nodup_cons.1 hnd).1 (by rw[←e];exact kid_self (by simp))
 have hmn:m≠n:=λe=>hmp (by rw[e];exact pgs_self)
 have hmx:m≠x.page:=λe=>hmp (by rw[e];exact hxin)
 have hn:=sub_page h.tree
 have hx:=(sub_in h.tree _ hxin).1
 have hG:Grp f (splitS f n l1.length m):=by
  rw[splitS_eq hp]
  refine⟨λs hs=> ?_, ?_⟩
  ·simp only[List.mem_cons,List.not_mem_nil,or_false] at hs
   rcases hs with rfl|rfl|rfl
   ·exact hn
   ·exact hx
   ·simp only;omega
  ·simp only[List.map_cons,List.map_nil,List.nodup_cons,List.mem_cons,List.not_mem_nil,or_false,not_or,List.nodup_nil,and_true,not_false_eq_true]
   exact⟨⟨λe=>hxn e.symm,λe=>hmn e.symm⟩,λe=>hmx e.symm⟩
 obtain⟨t1,t2⟩:=three h.len hG.rng hG.nodup
 have hsz:sizeP (cutA (pg f x.page) 2)=2∧sizeP (cutB (pg f x.page) 2)=2:=by
  obtain⟨l,e,hl2,hl4,hK⟩:=inner_of h.tree
  obtain rfl:l=l1++x::l2:=by rw[hp] at e;injection e with _ _ e;exact e.symm
  obtain⟨a,b,hs⟩:=kidsOk_all hK.ok x (by simp)
  obtain⟨_,_,_,_,_,q1,q2⟩:=con_cut (m:=2) (con_of hs).1 (by omega) (by omega)
  exact⟨q1,by omega⟩
 generalize hf':withS f (srtS (splitS f n l1.length m))=f' at t1 t2⊢
 rw[splitS_eq hp] at t1 t2
 have e1:=t1 _ (List.mem_cons_self ..)
 have e2:=t1 _ (List.mem_cons_of_mem _ (List.mem_cons_self ..))
 have e3:=t1 _ (List.mem_cons_of_mem _ (List.mem_cons_of_mem _ (List.mem_cons_self ..)))
 simp only at e1 e2 e3
 have e4:∀p,p≠n→p≠x.page→p≠m→pg f' p=pg f p:=λp q1 q2 q3=>t2 p λs hs=>by
  simp only[List.mem_cons,List.not_mem_nil,or_false] at hs
  rcases hs with rfl|rfl|rfl
  ·exact q1.symm
  ·exact q2.symm
  ·exact q3.symm
 have hlen:f'.length=64:=by rw[←hf',with_len];exact h.len
 obtain⟨g1,g2,g3,g4⟩:=split_step h.tree hp h.low h3 hfull hnd hm0 hmp e1 e2 e3 e4
 have hQ:∀q∈Q,pg f' q=pg f q:=λq hq=>by
  have hdj:=(List.nodup_append.1 h.nodup).2.2
  exact e4 q (λe=>hdj q hq n pgs_self e) (λe=>hdj q hq _ hxin e) (λe=>hmf (by rw[←e];exact List.mem_append_left _ hq))
 have hperm:(Q++pgs f' (d+2) n).Perm (m::(Q++pgs f (d+2) n)):=(g3.append_left Q).trans List.perm_middle
 have hA:At f' D (d+2) n lo hi Q R1 R2:=h.change hlen (λp hp'=>by
   by_cases hin:p∈pgs f' (d+2) n
   ·exact sub_ok' g1 p hin
   ·have hne:p≠n∧p≠x.page∧p≠m:=⟨λe=>hin (by rw[e];exact pgs_self),λe=>hin (g3.mem_iff.2 (by rw[e];exact List.mem_cons_of_mem _ hxin)),λe=>hin (g3.mem_iff.2 (by rw[e];exact List.mem_cons_self ..))⟩
    rw[e4 p hne.1 hne.2.1 hne.2.2];exact h.ok p hp') hQ g1 (hperm.nodup_iff.2 (List.nodup_cons.2 ⟨hmf,h.nodup⟩)) (λp hp' hnp=>by
   have hnp':p∉m::(Q++pgs f (d+2) n):=λe=>hnp (hperm.mem_iff.2 e)
   have hne:p≠n∧p≠x.page∧p≠m:=⟨λe=>hnp' (by rw[e];exact List.mem_cons_of_mem _ (List.mem_append_right _ pgs_self)),λe=>hnp' (by rw[e];exact List.mem_cons_of_mem _ (List.mem_append_right _ hxin)),λe=>hnp' (by rw[e];exact List.mem_cons_self ..)⟩
   rw[e4 p hne.1 hne.2.1 hne.2.2]
   exact h.rest p hp' λe=>hnp' (List.mem_cons_of_mem _ e))
 exact⟨hG,⟨lo,hi,Q,R1,R2,hA,hw,hr1,hr2⟩,by rw[hA.good.2,h.good.2,g2],e1,e2,e3,hsz.1,hsz.2⟩
end Go.Proofs.YtlcmdgpjiendmaaGreat
namespace Go.Proofs.YtlcmdgpjiendmaaGreat
open Go.Bur
set_option linter.unusedSimpArgs false
set_option linter.unusedVariables false
set_option maxRecDepth 100000
def Chain(R:List Row):List Content→List Group→List Content→Prop
 |f,[],f'=>f'=f
 |f,g::gs,f'=>Grp f g.sheets∧(g.sheets.Pairwise λa b=>a.page<b.page)∧(∃D,Good (withS f g.sheets) D∧rws (withS f g.sheets) D 0=R)∧Chain R (withS f g.sheets) gs f'
theorem chain_app{R:List Row}:∀{gs hs:List Group} {f f' f'':List Content},Chain R f gs f'→Chain R f' hs f''→Chain R f (gs++hs) f''
 |[],_,_,_,_,h1,h2=>by cases h1;exact h2
 |g::gs,_,_,_,_,⟨a,b,c,h1⟩,h2=>⟨a,b,c,chain_app h1 h2⟩
theorem srtS_lt{l:List Sheet}(hd:(l.map (·.page)).Nodup):(srtS l).Pairwise λa b=>a.page<b.page:=by
 have h1:=srtS_sorted l
 have h2:=List.pairwise_map.1 (srtS_nodup hd)
 exact h1.imp₂ (λa b h h'=>by have:a.page≠b.page:=h';omega) h2
theorem grp_srt{f:List Content}{l:List Sheet}(h:Grp f l):Grp f (srtS l):=⟨λs hs=>h.rng s ((srtS_perm l).mem_iff.1 hs),srtS_nodup h.nodup⟩
theorem chain_one{R:List Row}{f:List Content}{l:List Sheet}{D:Nat}(h:Grp f l)(hg:Good (withS f (srtS l)) D)(hr:rws (withS f (srtS l)) D 0=R):Chain R f [⟨srtS l⟩] (withS f (srtS l)):=
 ⟨grp_srt h,srtS_lt h.nodup,⟨D,hg,hr⟩,rfl⟩
theorem On.low{f:List Content}{D d:Nat}{n:Int}{k:Key}(h:On f D d n k):ltK k key0=false:=by
 obtain⟨lo,hi,Q,R1,R2,h1,hw,_⟩:=h
 exact le_le h1.low (within_iff.1 hw).1
def partS(f:List Content)(a b:Int):List Sheet:=[⟨0,⟨2,[],[⟨key0,a⟩,⟨cutS (pg f 0) 2,b⟩]⟩⟩,⟨a,cutA (pg f 0) 2⟩,⟨b,cutB (pg f 0) 2⟩]
theorem part_good{f:List Content}{D:Nat}{a b:Int}{t:List Int}(h:Good f D)(hfull:sizeP (pg f 0)=4)(hfr:frees f=a::b::t):
  Grp f (partS f a b)∧Good (withS f (srtS (partS f a b))) (D+1)∧rws (withS f (srtS (partS f a b))) (D+1) 0=rws f D 0∧pg (withS f (srtS (partS f a b))) 0=⟨2,[],[⟨key0,a⟩,⟨cutS (pg f 0) 2,b⟩]⟩∧
  pg (withS f (srtS (partS f a b))) a=cutA (pg f 0) 2∧pg (withS f (srtS (partS f a b))) b=cutB (pg f 0) 2∧sizeP (cutA (pg f 0) 2)=2∧sizeP (cutB (pg f 0) 2)=2∧(0<a∧a<b∧b<64):=by
 obtain⟨d,rfl⟩:∃d,D=d+1:=⟨D-1,by have:=h.pos;omega⟩
 have hA:=At.root h
 obtain⟨ha0,haf⟩:=hA.free (m:=a) (by rw[hfr];exact List.mem_cons_self ..)
 obtain⟨hb0,hbf⟩:=hA.free (m:=b) (by rw[hfr];exact List.mem_cons_of_mem _ (List.mem_cons_self ..))
 rw[List.nil_append] at haf hbf
 have hsrt:(frees f).Pairwise (· < ·):=by
  unfold frees
  refine List.pairwise_map.2 (List.Pairwise.imp (λ{a b} h=>Int.ofNat_lt.2 h) ((List.pairwise_lt_range' ..).filter _))
 have hab:a<b:=by rw[hfr] at hsrt;exact(List.pairwise_cons.1 hsrt).1 b (List.mem_cons_self ..)
 have hG:Grp f (partS f a b):=by
  refine⟨λs hs=> ?_, ?_⟩
  ·simp only[partS,List.mem_cons,List.not_mem_nil,or_false] at hs
   rcases hs with rfl|rfl|rfl<;>(simp only;omega)
  ·simp only[partS,List.map_cons,List.map_nil,List.nodup_cons,List.mem_cons,List.not_mem_nil,or_false,not_or,List.nodup_nil,and_true,not_false_eq_true]
   omega
 obtain⟨t1,t2⟩:=three h.len hG.rng hG.nodup
 obtain⟨_,_,_,_,_,q1,q2⟩:=con_cut (m:=2) (con_of h.tree).1 (by omega) (by omega)
 generalize hf':withS f (srtS (partS f a b))=f' at t1 t2⊢
 have e1:=t1 _ (List.mem_cons_self ..)
 have e2:=t1 _ (List.mem_cons_of_mem _ (List.mem_cons_self ..))
 have e3:=t1 _ (List.mem_cons_of_mem _ (List.mem_cons_of_mem _ (List.mem_cons_self ..)))
 simp only at e1 e2 e3
 have e4:∀p,p≠0→p≠a→p≠b→pg f' p=pg f p:=λp q1 q2 q3=>t2 p λs hs=>by
  simp only[partS,List.mem_cons,List.not_mem_nil,or_false] at hs
  rcases hs with rfl|rfl|rfl
  ·exact q1.symm
  ·exact q2.symm
  ·exact q3.symm
 obtain⟨g1,g2,g3⟩:=part_step h.tree hfull h.nodup ha0 hb0 (by omega) haf hbf e1 e2 e3 e4
 have hperm:(pgs f' (d+2) 0).Perm (a::b::pgs f (d+1) 0):=g3
 refine⟨hG,⟨by rw[←hf',with_len];exact h.len,λp hp=> ?_,g1,hperm.nodup_iff.2 (List.nodup_cons.2 ⟨λe=> ?_,List.nodup_cons.2 ⟨hbf,h.nodup⟩⟩),λp hp hnp=> ?_⟩,g2,e1,e2,e3,q1,by omega,by omega⟩
 ·by_cases hin:p∈pgs f' (d+2) 0
  ·exact sub_ok' g1 p hin
  ·have hnp':p∉a::b::pgs f (d+1) 0:=λe=>hin (hperm.mem_iff.2 e)
   simp only[List.mem_cons,not_or] at hnp'
   rw[e4 p (λe=>hnp'.2.2 (by rw[e];exact pgs_self)) hnp'.1 hnp'.2.1];exact h.ok p hp
 ·rcases List.mem_cons.1 e with e|e
  ·omega
  ·exact haf e
 ·have hnp':p∉a::b::pgs f (d+1) 0:=λe=>hnp (hperm.mem_iff.2 e)
  simp only[List.mem_cons,not_or] at hnp'
  rw[e4 p (λe=>hnp'.2.2 (by rw[e];exact pgs_self)) hnp'.1 hnp'.2.1]
  exact h.rest p hp hnp'.2.2
theorem rows_many{f:List Content}:∀{d:Nat} {n:Int} {lo:Key} {hi:Option Key},sub f d n lo hi→n≠0→(pgs f d n).length+1≤(rws f d n).length
 |1,n,lo,hi,h,hn=>by
  obtain⟨_,h2,l,h3,h4,h5⟩:=h
  have e:rws f 1 n=l:=by rw[rws,h3];simp
  have e2:pgs f 1 n=[n]:=by rw[pgs,h3];rfl
  have:=h2 hn
  rw[h3] at this
  rw[e,e2];simp[sizeP] at this⊢;omega
 |d+2,n,lo,hi,h,hn=>by
  obtain⟨_,_,l,h3,h4,h5,h6⟩:=h
  have e:rws f (d+2) n=l.flatMap λk=>rws f (d+1) k.page:=by rw[rws,h3];rfl
  have e2:pgs f (d+2) n=n::l.flatMap λk=>pgs f (d+1) k.page:=by rw[pgs,h3]
  have key:∀(t:List Kid),(∀k∈t,k∈l)→(t.flatMap λk=>pgs f (d+1) k.page).length+t.length≤(t.flatMap λk=>rws f (d+1) k.page).length:=by
   intro t
   induction t with
   |nil=>intro _;simp
   |cons k t ih=>
    intro ht
    have hk:=ht k (List.mem_cons_self ..)
    obtain⟨a,b,hs⟩:=kidsOk_all h6 k hk
    have:=rows_many hs (by have:=h4.page k hk;omega)
    have:=ih λx hx=>ht x (List.mem_cons_of_mem _ hx)
    simp only[List.flatMap_cons,List.length_append,List.length_cons];omega
  have:=key l λk hk=>hk
  have:=h4.two
  rw[e,e2];simp only[List.length_cons];omega
theorem good_many{f:List Content}{D:Nat}(h:Good f D):(pgs f D 0).length≤1∨(pgs f D 0).length+1≤(rws f D 0).length:=by
 have ht:=h.tree
 match D,ht with
 |1,ht=>
  obtain⟨_,h2,l,h3,h4,h5⟩:=ht
  left;rw[pgs,h3];simp
 |d+2,ht=>
  right
  obtain⟨_,_,l,h3,h4,h5,h6⟩:=ht
  have e:rws f (d+2) 0=l.flatMap λk=>rws f (d+1) k.page:=by rw[rws,h3];rfl
  have e2:pgs f (d+2) 0=0::l.flatMap λk=>pgs f (d+1) k.page:=by rw[pgs,h3]
  have key:∀(t:List Kid),(∀k∈t,k∈l)→(t.flatMap λk=>pgs f (d+1) k.page).length+t.length≤(t.flatMap λk=>rws f (d+1) k.page).length:=by
   intro t
   induction t with
   |nil=>intro _;simp
   |cons k t ih=>
    intro ht
    have hk:=ht k (List.mem_cons_self ..)
    obtain⟨a,b,hs⟩:=kidsOk_all h6 k hk
    have:=rows_many hs (by have:=h4.page k hk;omega)
    have:=ih λx hx=>ht x (List.mem_cons_of_mem _ hx)
    simp only[List.flatMap_cons,List.length_append,List.length_cons];omega
  have:=key l λk hk=>hk
  have:=h4.two
  rw[e,e2];simp only[List.length_cons];omega
theorem many_rows{f:List Content}{D:Nat}(h:Good f D)(hf:(frees f).length≤1):64≤(rws f D 0).length:=by
 have h1:=count64 h
 have h2:=good_many h
 omega
def stepP(f:List Content)(n:Int)(k:Key)(new:Bool):Option (List Content×Int×List Group):=
 if(new&&fullP (pg f (kidAt (pg f n).kids (kidI (pg f n).kids k)).page))=true then
  match frees f with
  |[]=>none
  |m::_=>some (withS f (srtS (splitS f n (kidI (pg f n).kids k) m)),(kidAt (pg (withS f (srtS (splitS f n (kidI (pg f n).kids k) m))) n).kids (kidI (pg (withS f (srtS (splitS f n (kidI (pg f n).kids k) m))) n).kids k)).page,[⟨srtS (splitS f n (kidI (pg f n).kids k) m)⟩])
 else some (f,(kidAt (pg f n).kids (kidI (pg f n).kids k)).page,[])
theorem fullP_size{f:List Content}{d:Nat}{n:Int}{lo:Key}{hi:Option Key}(h:sub f (d+1) n lo hi):fullP (pg f n)=decide (sizeP (pg f n)=4):=by
 have:(pg f n).kind=1∨(pg f n).kind=2:=by
  cases d with
  |zero=>obtain⟨_,_,l,h3,_⟩:=h;left;rw[h3]
  |succ d=>obtain⟨_,_,l,h3,_⟩:=h;right;rw[h3]
 unfold fullP
 rcases this with h|h<;>simp[h]
def Stp(f:List Content)(D d:Nat)(n:Int)(k:Key)(new:Bool)(f':List Content)(n':Int)(G:List Group):Prop:=
 On f' D d n' k∧(new=true→sizeP (pg f' n')≤3)∧rws f' D 0=rws f D 0∧Chain (rws f D 0) f G f'
theorem stepP_on{f:List Content}{D d:Nat}{n:Int}{k:Key}{new:Bool}(h:On f D (d+2) n k)(hs:new=true→sizeP (pg f n)≤3):
  (new=true∧frees f=[]∧stepP f n k new=none)∨∃f' n' G,stepP f n k new=some (f',n',G)∧Stp f D (d+1) n k new f' n' G∧∃u v,(n'=u∨n'=v)∧∀g∈G,∀s∈g.sheets,s.page=n∨s.page=u∨s.page=v:=by
 obtain⟨l1,x,l2,hp,hI,hi,c1,c2,hd⟩:=h.kids
 have hkx:kidAt (pg f n).kids l1.length=x:=by rw[hp];exact kidAt_mid
 have hik:kidI (pg f n).kids k=l1.length:=by rw[hp];exact hi.symm
 have hd2:=hd
 obtain⟨lx,hx',_,_,_,hx,_⟩:=hd2
 have hfx:=fullP_size hx.tree
 unfold stepP
 simp only[hik,hkx,hfx]
 by_cases hf:(new&&decide (sizeP (pg f x.page)=4))=true
 case neg=>
  rw[if_neg hf]
  refine Or.inr ⟨f,x.page,[],rfl,⟨hd,λe=> ?_,rfl,rfl⟩,x.page,x.page,Or.inl rfl,by simp⟩
  rw[e,Bool.true_and,decide_eq_true_eq] at hf
  have:=(con_of hx.tree).2.1
  omega
 rw[if_pos hf]
 rw[Bool.and_eq_true,decide_eq_true_eq] at hf
 cases hfr:frees f with
 |nil=>exact Or.inl ⟨hf.1,rfl,rfl⟩
 |cons m t=>
  dsimp only
  have h3:(l1++x::l2).length≤3:=by have:=hs hf.1;rw[hp] at this;simpa[sizeP] using this
  obtain⟨g1,g2,g3,g4,g5,g6,g7,g8⟩:=split_on h hp c1 c2 h3 hf.2 (m:=m) (by rw[hfr];exact List.mem_cons_self ..)
  have hch:=chain_one g1 g2.good g3
  generalize hf':withS f (srtS (splitS f n l1.length m))=f' at g2 g3 g4 g5 g6 hch⊢
  have hI':(l1++x::⟨cutS (pg f x.page) 2,m⟩::l2).Pairwise λa b=>ltK a.least b.least=true:=by
   obtain⟨lo,hi',Q,R1,R2,h1,hw,_⟩:=g2
   obtain⟨l,e,hl2,hl4,hK⟩:=inner_of h1.tree
   rw[g4] at e
   injection e with _ _ e
   rw[e];exact(hK.inner h1.low hl2 hl4).1.rise
  have hgs:∀g∈[Group.mk (srtS (splitS f n l1.length m))],∀s∈g.sheets,s.page=n∨s.page=x.page∨s.page=m:=λg hg s hs=>by
   cases List.mem_singleton.1 hg
   have hs':=(srtS_perm _).mem_iff.1 hs
   rw[splitS_eq hp] at hs'
   simp only[List.mem_cons,List.not_mem_nil,or_false] at hs'
   rcases hs' with rfl|rfl|rfl
   ·exact Or.inl rfl
   ·exact Or.inr (Or.inl rfl)
   ·exact Or.inr (Or.inr rfl)
  cases hlt:ltK k (cutS (pg f x.page) 2) with
  |true=>
   have c2':∀y t',(⟨cutS (pg f x.page) 2,m⟩::l2:List Kid)=y::t'→ltK k y.least=true:=λy t' e=>by cases e;exact hlt
   have hk':=kidI_of hI' c1 c2'
   refine Or.inr ⟨f',x.page,_, ?_,⟨g2.down g4 c1 c2',λ_=>by rw[g5];omega,g3,hch⟩,x.page,m,Or.inl rfl,hgs⟩
   rw[g4];simp only;rw[hk',kidAt_mid]
  |false=>
   have e':l1++x::⟨cutS (pg f x.page) 2,m⟩::l2=(l1++[x])++⟨cutS (pg f x.page) 2,m⟩::l2:=by simp
   rw[e'] at hI' g4
   have hk':=kidI_of hI' (λ_=>hlt) c2
   refine Or.inr ⟨f',m,_, ?_,⟨g2.down g4 (λ_=>hlt) c2,λ_=>by rw[g6];omega,g3,hch⟩,x.page,m,Or.inr rfl,hgs⟩
   rw[g4];simp only;rw[hk',kidAt_mid]
def putW(k:Key)(new:Bool):Nat→List Content→Int→Option (List Content×Int×List Group)
 |0,f,n=>some (f,n,[])
 |d+1,f,n=>(stepP f n k new).bind λy=>(putW k new d y.1 y.2.1).map λz=>(z.1,z.2.1,y.2.2++z.2.2)
theorem putW_on{k:Key}{new:Bool}:∀{d D:Nat} {f:List Content} {n:Int},On f D (d+1) n k→(new=true→sizeP (pg f n)≤3)→
  (new=true∧putW k new d f n=none∧64≤(rws f D 0).length)∨∃f' n' G,putW k new d f n=some (f',n',G)∧Stp f D 1 n k new f' n' G∧∃T:List Int,T.length≤2*d∧n'∈n::T∧∀g∈G,∀s∈g.sheets,s.page∈n::T
 |0,D,f,n,h,hs=>Or.inr ⟨f,n,[],rfl,⟨h,hs,rfl,rfl⟩,[],by simp,by simp,by simp⟩
 |d+1,D,f,n,h,hs=>by
  rcases stepP_on h hs with⟨h1,h2,h3⟩|⟨f1,n1,G1,h1,⟨h2,h3,h4,h5⟩,u,v,h6,h7⟩
  ·exact Or.inl ⟨h1,by rw[putW,h3];rfl,by
    have hg:=h.good
    have:=many_rows hg (by rw[h2];simp)
    exact this⟩
  ·rcases putW_on h2 h3 with⟨g1,g2,g3⟩|⟨f2,n2,G2,g1,⟨g2,g3,g4,g5⟩,T,g6,g7,g8⟩
   ·exact Or.inl ⟨g1,by rw[putW,h1];simp[g2],by rw[←h4];exact g3⟩
   ·refine Or.inr ⟨f2,n2,G1++G2,by rw[putW,h1];simp[g1],⟨g2,g3,g4.trans h4,chain_app h5 (h4▸g5)⟩,u::v::T,by simp only[List.length_cons];omega, ?_,λg hg s hs'=> ?_⟩
    ·rcases List.mem_cons.1 g7 with e|e
     ·rw[e];rcases h6 with e|e<;>rw[e]<;>simp
     ·simp[e]
    ·rcases List.mem_append.1 hg with hg|hg
     ·rcases h7 g hg s hs' with e|e|e<;>rw[e]<;>simp
     ·rcases List.mem_cons.1 (g8 g hg s hs') with e|e
      ·rw[e];rcases h6 with e|e<;>rw[e]<;>simp
      ·simp[e]
end Go.Proofs.YtlcmdgpjiendmaaGreat
namespace Go.Proofs.YtlcmdgpjiendmaaGreat
open Go.Bur
set_option linter.unusedSimpArgs false
set_option linter.unusedVariables false
set_option maxRecDepth 100000
def one(n:Int)(l:List Row):List Sheet:=[⟨n,⟨1,l,[]⟩⟩]
theorem leaf_change{f:List Content}{D:Nat}{n:Int}{lo:Key}{hi:Option Key}{Q:List Int}{R1 R2:List Row}{l l':List Row}(h:At f D 1 n lo hi Q R1 R2)(hp:pg f n=⟨1,l,[]⟩)(h1:LeafOk l')(h2:∀r∈l',within r.key lo hi=true)(h3:n≠0→2≤l'.length):
  Grp f (one n l')∧Good (withS f (one n l')) D∧rws (withS f (one n l')) D 0=R1++(l'++R2)∧rws f D 0=R1++(l++R2):=by
 have hn:=sub_page h.tree
 have hG:Grp f (one n l'):=⟨λs hs=>by cases List.mem_singleton.1 hs;exact hn,by simp[one]⟩
 have e1:pg (withS f (one n l')) n=⟨1,l',[]⟩:=with_at h.len hG.rng hG.nodup _ (List.mem_singleton.2 rfl)
 have e2:∀p,p≠n→pg (withS f (one n l')) p=pg f p:=λp hp=>with_other h.len hG.rng λs hs=>by cases List.mem_singleton.1 hs;exact hp.symm
 have hpg:pgs f 1 n=[n]:=by rw[pgs,hp];rfl
 have hpg':pgs (withS f (one n l')) 1 n=[n]:=by rw[pgs,e1];rfl
 have hr:rws f 1 n=l:=by rw[rws,hp];simp
 have hr':rws (withS f (one n l')) 1 n=l':=by rw[rws,e1];simp
 have hnd:=h.nodup
 rw[hpg] at hnd
 have hA:At (withS f (one n l')) D 1 n lo hi Q R1 R2:=h.change (by rw[with_len];exact h.len) (λm hm=>by
   by_cases e:m=n
   ·rw[e,e1];exact(check_iff _).2 (Or.inr (Or.inl ⟨l',rfl,h1⟩))
   ·rw[e2 m e];exact h.ok m hm) (λq hq=>e2 q λe=>(List.nodup_append.1 hnd).2.2 q hq n (List.mem_singleton.2 rfl) e) ⟨hn,λe=>by rw[e1];simpa[sizeP] using h3 e,l',e1,h1,h2⟩ (by rw[hpg'];exact hnd) (λm hm hnm=>by
   rw[hpg'] at hnm
   rw[e2 m λe=>hnm (by rw[e];exact List.mem_append_right _ (List.mem_singleton.2 rfl))]
   exact h.rest m hm (by rw[hpg];exact hnm))
 have g1:=hA.good
 have g2:=h.good
 rw[hr'] at g1
 rw[hr] at g2
 exact⟨hG,g1.1,g1.2,g2.2⟩
def putR(r:Row)(l:List Row):List Row:=insP r (others r.key l)
theorem putR_in{r x:Row}{pre post:List Row}(hx:x.key=r.key)(h:Cut r.key pre post):putR r (pre++x::post)=pre++r::post:=by
 unfold putR;rw[others_in hx h,insP_cut r pre post h]
theorem putR_new{r:Row}{pre post:List Row}(h:Cut r.key pre post):putR r (pre++post)=pre++r::post:=by
 unfold putR;rw[others_cut h,insP_cut r pre post h]
theorem stand{l:List Row}(hs:Srt l)(k:Key):(∃pre x post,l=pre++x::post∧x.key=k∧Cut k pre post∧findK l k=some x)∨∃pre post,l=pre++post∧Cut k pre post∧findK l k=none:=by
 cases ha:at_ l k with
 |some i=>
  obtain⟨pre,x,post,e,_,h3,h4⟩:=idx_split ha
  have hx:x.key=k:=of_decide_eq_true h3
  subst e
  have hc:=(srt_cut hs).1
  rw[hx] at hc
  exact Or.inl ⟨pre,x,post,rfl,hx,hc,by rw[findK_app,findK_none hc.ne1,findK_cons,if_pos hx];rfl⟩
 |none=>
  obtain⟨pre,post,e,hc,_⟩:=place hs ha
  refine Or.inr ⟨pre,post,e,hc,findK_none λx hx=> ?_⟩
  simpa using idx_none ha x hx
theorem findK_whole{l R1 R2:List Row}{k:Key}(h1:∀r∈R1,ltK r.key k=true)(h2:∀r∈R2,ltK k r.key=true):findK (R1++(l++R2)) k=findK l k:=findK_mid h1 h2
theorem On.leaf{f:List Content}{D:Nat}{n:Int}{k:Key}(h:On f D 1 n k):∃l,pg f n=⟨1,l,[]⟩∧LeafOk l∧(n≠0→2≤l.length)∧findK (rws f D 0) k=findK l k:=by
 obtain⟨lo,hi,Q,R1,R2,h,hw,h1,h2⟩:=h
 have hg:=h.good.2
 obtain⟨g1,g2,l,g3,g4,g5⟩:=h.tree
 have hr:rws f 1 n=l:=by rw[rws,g3];simp
 rw[hr] at hg
 exact⟨l,g3,g4,λe=>by have:=g2 e;rw[g3] at this;simpa[sizeP] using this,by rw[hg,findK_whole h1 h2]⟩
theorem putR_len{r:Row}{l:List Row}(hs:Srt l):(putR r l).length=(if findK l r.key=none then l.length+1 else l.length):=by
 rcases stand hs r.key with⟨pre,x,post,rfl,hx,hc,hf⟩|⟨pre,post,rfl,hc,hf⟩
 ·rw[putR_in hx hc,hf,if_neg (by simp)];simp
 ·rw[putR_new hc,hf,if_pos rfl];simp;omega
theorem put_leaf{f:List Content}{D:Nat}{n:Int}{r:Row}(h:On f D 1 n r.key)(hr:okRow r=true)(hs:findK (rws f D 0) r.key=none→sizeP (pg f n)≤3){l:List Row}(hp:pg f n=⟨1,l,[]⟩):
  Grp f (one n (putR r l))∧Good (withS f (one n (putR r l))) D∧rws (withS f (one n (putR r l))) D 0=putR r (rws f D 0)∧LeafOk (putR r l):=by
 obtain⟨l0,g3,g4,g5,g6⟩:=h.leaf
 obtain rfl:l0=l:=by rw[hp] at g3;injection g3 with _ g3;exact g3.symm
 obtain⟨lo,hi,Q,R1,R2,hA,hw,h1,h2⟩:=h
 have hlen:=putR_len (r:=r) g4.srt
 rw[g6] at hs
 obtain⟨_,_,l1,g3',_,g5'⟩:=hA.tree
 obtain rfl:l1=l0:=by rw[hp] at g3';injection g3' with _ g3';exact g3'.symm
 have key:∃pre post,Cut r.key pre post∧putR r l1=pre++r::post∧(∀x∈pre,x∈l1)∧(∀x∈post,x∈l1)∧Srt (pre++post)∧putR r (R1++(l1++R2))=R1++(putR r l1++R2):=by
  have hcw:∀{pre post:List Row},Cut r.key pre post→Cut r.key (R1++pre) (post++R2):=λhc=>⟨λy hy=>by
   rcases List.mem_append.1 hy with hy|hy
   ·exact h1 y hy
   ·exact hc.lo y hy,λy hy=>by
   rcases List.mem_append.1 hy with hy|hy
   ·exact hc.hi y hy
   ·exact h2 y hy⟩
  rcases stand g4.srt r.key with⟨pre,x,post,e,hx,hc,_⟩|⟨pre,post,e,hc,_⟩
  ·refine⟨pre,post,hc,by rw[e,putR_in hx hc],λy hy=>by rw[e];exact List.mem_append_left _ hy,λy hy=>by rw[e];exact List.mem_append_right _ (List.mem_cons_of_mem _ hy),(srt_cut (e▸g4.srt)).2, ?_⟩
   have:=putR_in hx (hcw hc)
   rw[e,putR_in hx hc]
   simpa using this
  ·refine⟨pre,post,hc,by rw[e,putR_new hc],λy hy=>by rw[e];exact List.mem_append_left _ hy,λy hy=>by rw[e];exact List.mem_append_right _ hy,e▸g4.srt, ?_⟩
   have:=putR_new (hcw hc)
   rw[e,putR_new hc]
   simpa using this
 obtain⟨pre,post,hc,e,m1,m2,hsrt,hwhole⟩:=key
 have hmem:∀x∈putR r l1,x=r∨x∈l1:=λx hx=>by
  rw[e] at hx
  rcases List.mem_append.1 hx with hx|hx
  ·exact Or.inr (m1 x hx)
  ·rcases List.mem_cons.1 hx with hx|hx
   ·exact Or.inl hx
   ·exact Or.inr (m2 x hx)
 have hL:LeafOk (putR r l1):=⟨by
   rw[hlen]
   split
   ·rename_i hn
    have:=hs hn
    rw[hp] at this;simp[sizeP] at this;omega
   ·exact g4.len,λx hx=>by
   rcases hmem x hx with rfl|hx
   ·exact hr
   ·exact g4.row x hx,by rw[e];exact cut_srt hsrt hc⟩
 obtain⟨q1,q2,q3,q4⟩:=leaf_change hA hp hL (λx hx=>by
  rcases hmem x hx with rfl|hx
  ·exact hw
  ·exact g5' x hx) (λe=>by rw[hlen];have:=g5 e;split<;>omega)
 exact⟨q1,q2,by rw[q3,q4,hwhole],hL⟩
def wayP(f:List Content)(D:Nat)(k:Key)(new:Bool):Option (List Content×Int×List Group):=
 if(new&&fullP (pg f 0))=true then
  match frees f with
  |a::b::_=>(putW k new D (withS f (srtS (partS f a b))) 0).map λz=>(z.1,z.2.1,⟨srtS (partS f a b)⟩::z.2.2)
  |_=>none
 else putW k new (D-1) f 0
def newB(R:List Row)(k:Key):Bool:=(findK R k).isNone
theorem newB_iff{R:List Row}{k:Key}:newB R k=true↔findK R k=none:=by
 unfold newB;cases findK R k<;>simp
theorem way_on{f:List Content}{D:Nat}{k:Key}{new:Bool}(h:Good f D)(hk:ltK k key0=false):
  (new=true∧wayP f D k new=none∧64≤(rws f D 0).length)∨∃f' n' G D',wayP f D k new=some (f',n',G)∧On f' D' 1 n' k∧(new=true→sizeP (pg f' n')≤3)∧rws f' D' 0=rws f D 0∧Chain (rws f D 0) f G f'∧
   ∃T:List Int,T.length≤2*D∧n'∈0::T∧∀g∈G,∀s∈g.sheets,s.page∈0::T:=by
 have hpos:=h.pos
 obtain⟨d,rfl⟩:∃d,D=d+1:=⟨D-1,by omega⟩
 have hf0:=fullP_size h.tree
 unfold wayP
 rw[hf0]
 by_cases hc:(new&&decide (sizeP (pg f 0)=4))=true
 case neg=>
  rw[if_neg hc,Nat.add_sub_cancel]
  have hs:new=true→sizeP (pg f 0)≤3:=λe=>by
   rw[e,Bool.true_and,decide_eq_true_eq] at hc
   have:=(con_of h.tree).2.1
   omega
  rcases putW_on (On.root h hk) hs with⟨g1,g2,g3⟩|⟨f',n',G,g1,⟨g2,g3,g4,g5⟩,T,g6,g7,g8⟩
  ·exact Or.inl ⟨g1,g2,by omega⟩
  ·exact Or.inr ⟨f',n',G,d+1,g1,g2,g3,g4,g5,T,by omega,g7,g8⟩
 rw[if_pos hc]
 rw[Bool.and_eq_true,decide_eq_true_eq] at hc
 match hfr:frees f with
 |[]=>exact Or.inl ⟨hc.1,rfl,by have:=many_rows h (by rw[hfr];simp);omega⟩
 |[a]=>exact Or.inl ⟨hc.1,rfl,by have:=many_rows h (by rw[hfr];simp);omega⟩
 |a::b::t=>
  dsimp only
  obtain⟨q1,q2,q3,q4,q5,q6,q7,q8,q9⟩:=part_good h hc.2 hfr
  have hch:=chain_one q1 q2 q3
  generalize hf':withS f (srtS (partS f a b))=f1 at q2 q3 q4 q5 q6 hch⊢
  have hstep:stepP f1 0 k new=some (f1,(kidAt (pg f1 0).kids (kidI (pg f1 0).kids k)).page,[])∧((kidAt (pg f1 0).kids (kidI (pg f1 0).kids k)).page=a∨(kidAt (pg f1 0).kids (kidI (pg f1 0).kids k)).page=b):=by
   have hx:(kidAt (pg f1 0).kids (kidI (pg f1 0).kids k)).page=a∨(kidAt (pg f1 0).kids (kidI (pg f1 0).kids k)).page=b:=by
    rw[q4]
    simp only[kidI,List.tail_cons,List.takeWhile_cons,List.takeWhile_nil]
    cases ltK k (cutS (pg f 0) 2)
    ·right;rfl
    ·left;rfl
   refine⟨?_,hx⟩
   unfold stepP
   rw[if_neg]
   have hsz:sizeP (pg f1 (kidAt (pg f1 0).kids (kidI (pg f1 0).kids k)).page)=2:=by
    rcases hx with e|e<;>rw[e]
    ·rw[q5];exact q7
    ·rw[q6];exact q8
   unfold fullP
   rw[hsz];simp
  rcases putW_on (On.root q2 hk) (new:=new) (λ_=>by rw[q4];simp[sizeP]) with⟨g1,g2,g3⟩|⟨f',n',G,g1,⟨g2,g3,g4,g5⟩,_⟩
  ·exact Or.inl ⟨g1,by rw[g2];rfl,by rw[q3] at g3;omega⟩
  ·refine Or.inr ⟨f',n',_,d+2,by rw[g1];rfl,g2,g3,g4.trans q3,chain_app hch (q3▸g5), ?_⟩
   rw[putW,hstep.1] at g1
   simp only[Option.bind_some,Option.map_eq_some_iff] at g1
   obtain⟨z,g1,g1'⟩:=g1
   have hon:On f1 (d+2) (d+1) (kidAt (pg f1 0).kids (kidI (pg f1 0).kids k)).page k:=by
    rcases stepP_on (On.root q2 hk) (new:=new) (λ_=>by rw[q4];simp[sizeP]) with⟨_,_,e⟩|⟨_,_,_,e,st,_⟩
    ·rw[hstep.1] at e;cases e
    ·rw[hstep.1] at e;cases e;exact st.1
   have hsz:new=true→sizeP (pg f1 (kidAt (pg f1 0).kids (kidI (pg f1 0).kids k)).page)≤3:=λ_=>by
    rcases hstep.2 with e|e<;>rw[e]
    ·rw[q5];omega
    ·rw[q6];omega
   rcases putW_on hon hsz with⟨_,e,_⟩|⟨f2,n2,G2,e,_,T,t1,t2,t3⟩
   ·rw[e] at g1;cases g1
   ·rw[e] at g1
    cases g1
    obtain⟨rfl,rfl,rfl⟩:f2=f'∧n2=n'∧G2=G:=by simpa using g1'
    have hk2:∀p,p∈(kidAt (pg f1 0).kids (kidI (pg f1 0).kids k)).page::T→p∈0::a::b::T:=λp hp=>by
     rcases List.mem_cons.1 hp with e|e
     ·rw[e];rcases hstep.2 with e|e<;>rw[e]<;>simp
     ·simp[e]
    refine⟨a::b::T,by simp only[List.length_cons];omega,hk2 _ t2,λg hg s hs=> ?_⟩
    rcases List.mem_cons.1 hg with rfl|hg
    ·have:=(srtS_perm _).mem_iff.1 hs
     simp only[partS,List.mem_cons,List.not_mem_nil,or_false] at this
     rcases this with rfl|rfl|rfl<;>simp
    ·exact hk2 _ (t3 g hg s hs)
end Go.Proofs.YtlcmdgpjiendmaaGreat
namespace Go.Proofs.YtlcmdgpjiendmaaGreat
open Go.Bur
set_option linter.unusedSimpArgs false
set_option linter.unusedVariables false
set_option maxRecDepth 100000
theorem grp3{f:List Content}(hf:f.length=64){n a b:Int}{c1 c2 c3:Content}(hn:0≤n∧n<64)(ha:0≤a∧a<64)(hb:0≤b∧b<64)(h1:a≠n)(h2:b≠n)(h3:a≠b):
  Grp f [⟨n,c1⟩,⟨a,c2⟩,⟨b,c3⟩]∧pg (withS f (srtS [⟨n,c1⟩,⟨a,c2⟩,⟨b,c3⟩])) n=c1∧pg (withS f (srtS [⟨n,c1⟩,⟨a,c2⟩,⟨b,c3⟩])) a=c2∧pg (withS f (srtS [⟨n,c1⟩,⟨a,c2⟩,⟨b,c3⟩])) b=c3∧
  (∀p,p≠n→p≠a→p≠b→pg (withS f (srtS [⟨n,c1⟩,⟨a,c2⟩,⟨b,c3⟩])) p=pg f p)∧(withS f (srtS [⟨n,c1⟩,⟨a,c2⟩,⟨b,c3⟩])).length=64:=by
 have hG:Grp f [⟨n,c1⟩,⟨a,c2⟩,⟨b,c3⟩]:=by
  refine⟨λs hs=> ?_, ?_⟩
  ·simp only[List.mem_cons,List.not_mem_nil,or_false] at hs
   rcases hs with rfl|rfl|rfl
   ·exact hn
   ·exact ha
   ·exact hb
  ·simp only[List.map_cons,List.map_nil,List.nodup_cons,List.mem_cons,List.not_mem_nil,or_false,not_or,List.nodup_nil,and_true,not_false_eq_true]
   exact⟨⟨λe=>h1 e.symm,λe=>h2 e.symm⟩,h3⟩
 obtain⟨t1,t2⟩:=three hf hG.rng hG.nodup
 refine⟨hG,t1 _ (List.mem_cons_self ..),t1 _ (List.mem_cons_of_mem _ (List.mem_cons_self ..)),t1 _ (List.mem_cons_of_mem _ (List.mem_cons_of_mem _ (List.mem_cons_self ..))),λp q1 q2 q3=>t2 p λs hs=> ?_,by rw[with_len];exact hf⟩
 simp only[List.mem_cons,List.not_mem_nil,or_false] at hs
 rcases hs with rfl|rfl|rfl
 ·exact q1.symm
 ·exact q2.symm
 ·exact q3.symm
theorem At.pair{f:List Content}{D d:Nat}{n:Int}{lo:Key}{hi:Option Key}{Q:List Int}{R1 R2:List Row}(h:At f D (d+2) n lo hi Q R1 R2){l1 l2:List Kid}{u v:Kid}(hp:pg f n=⟨2,[],l1++u::v::l2⟩):
  Pair f d n lo hi l1 l2 u v∧u.page∈pgs f (d+2) n∧v.page∈pgs f (d+2) n:=by
 refine⟨mk_pair h.tree hp h.low (List.nodup_append.1 h.nodup).2.1, ?_, ?_⟩<;>(rw[pgs_list (d:=d+1) hp];exact List.mem_cons_of_mem _ (kid_self (by simp)))
theorem kinds_con{f:List Content}{d:Nat}{lo lo':Key}{hi hi':Option Key}{a b:Content}(ha:conS f d lo hi a)(hb:conS f d lo' hi' b):alikeP a b=true:=by
 cases d with
 |zero=>obtain⟨l,rfl,_⟩:=ha;obtain⟨m,rfl,_⟩:=hb;rfl
 |succ d=>obtain⟨l,rfl,_⟩:=ha;obtain⟨m,rfl,_⟩:=hb;rfl
theorem level_on{f:List Content}{D d m:Nat}{n:Int}{k:Key}(h:On f D (d+2) n k){l1 l2:List Kid}{u v:Kid}(hp:pg f n=⟨2,[],l1++u::v::l2⟩){B:Content}(hB:bothC (pg f u.page) (pg f v.page) v.least=B)(h2:2≤m)(h4:m≤4)(h2':m+2≤sizeP B)(h4':sizeP B≤m+4){f':List Content}(hf':withS f (srtS [⟨n,⟨2,[],l1++u::⟨cutS B m,v.page⟩::l2⟩⟩,⟨u.page,cutA B m⟩,⟨v.page,cutB B m⟩])=f'):
  Grp f [⟨n,⟨2,[],l1++u::⟨cutS B m,v.page⟩::l2⟩⟩,⟨u.page,cutA B m⟩,⟨v.page,cutB B m⟩]∧On f' D (d+2) n k∧rws f' D 0=rws f D 0∧pg f' n=⟨2,[],l1++u::⟨cutS B m,v.page⟩::l2⟩∧pg f' u.page=cutA B m∧pg f' v.page=cutB B m:=by
 obtain⟨lo,hi,Q,R1,R2,h,hw,hr1,hr2⟩:=h
 obtain⟨P,hu,hv⟩:=h.pair hp
 have hnd:=(List.nodup_append.1 h.nodup).2.1
 obtain⟨hG,e1,e2,e3,e4,hlen⟩:=grp3 h.len (c1:=⟨2,[],l1++u::⟨cutS B m,v.page⟩::l2⟩) (c2:=cutA B m) (c3:=cutB B m) (sub_page h.tree) (sub_in h.tree _ hu).1 (sub_in h.tree _ hv).1 P.xn P.yn P.xy
 rw[hf'] at e1 e2 e3 e4 hlen
 obtain⟨g1,g2,g3,g4⟩:=level_step h.tree hp h.low hnd hB h2 h4 h2' h4' e1 e2 e3 e4
 have hdj:=(List.nodup_append.1 h.nodup).2.2
 have hperm:(Q++pgs f' (d+2) n).Perm (Q++pgs f (d+2) n):=g3.append_left Q
 have hne:∀p,p∉pgs f (d+2) n→pg f' p=pg f p:=λp hp=>e4 p (λe=>hp (by rw[e];exact pgs_self)) (λe=>hp (by rw[e];exact hu)) (λe=>hp (by rw[e];exact hv))
 have hA:At f' D (d+2) n lo hi Q R1 R2:=h.change hlen (λp hp'=>by
   by_cases hin:p∈pgs f' (d+2) n
   ·exact sub_ok' g1 p hin
   ·rw[hne p λe=>hin (g3.mem_iff.2 e)];exact h.ok p hp') (λq hq=>hne q λe=>hdj q hq q e rfl) g1 (hperm.nodup_iff.2 h.nodup) (λp hp' hnp=>by
   have hnp':p∉Q++pgs f (d+2) n:=λe=>hnp (hperm.mem_iff.2 e)
   rw[hne p λe=>hnp' (List.mem_append_right _ e)]
   exact h.rest p hp' hnp')
 exact⟨hG,⟨lo,hi,Q,R1,R2,hA,hw,hr1,hr2⟩,by rw[hA.good.2,h.good.2,g2],e1,e2,e3⟩
theorem join_on{f:List Content}{D d:Nat}{n:Int}{k:Key}(h:On f D (d+2) n k){l1 l2:List Kid}{u v:Kid}(hp:pg f n=⟨2,[],l1++u::v::l2⟩){B:Content}(hB:bothC (pg f u.page) (pg f v.page) v.least=B)(h3:3≤(l1++u::v::l2).length)(h4:sizeP B≤4){f':List Content}(hf':withS f (srtS [⟨n,⟨2,[],l1++u::l2⟩⟩,⟨u.page,B⟩,⟨v.page,cont0⟩])=f'):
  Grp f [⟨n,⟨2,[],l1++u::l2⟩⟩,⟨u.page,B⟩,⟨v.page,cont0⟩]∧On f' D (d+2) n k∧rws f' D 0=rws f D 0∧pg f' n=⟨2,[],l1++u::l2⟩∧pg f' u.page=B:=by
 obtain⟨lo,hi,Q,R1,R2,h,hw,hr1,hr2⟩:=h
 obtain⟨P,hu,hv⟩:=h.pair hp
 have hnd:=(List.nodup_append.1 h.nodup).2.1
 obtain⟨hG,e1,e2,e3,e4,hlen⟩:=grp3 h.len (c1:=⟨2,[],l1++u::l2⟩) (c2:=B) (c3:=cont0) (sub_page h.tree) (sub_in h.tree _ hu).1 (sub_in h.tree _ hv).1 P.xn P.yn P.xy
 rw[hf'] at e1 e2 e3 e4 hlen
 obtain⟨g1,g2,g3⟩:=join_step h.tree hp h.low hnd hB h3 h4 e1 e2 e4
 have hdj:=(List.nodup_append.1 h.nodup).2.2
 have hperm:(Q++pgs f (d+2) n).Perm (v.page::(Q++pgs f' (d+2) n)):=(g3.append_left Q).trans List.perm_middle
 have hne:∀p,p∉pgs f (d+2) n→pg f' p=pg f p:=λp hp=>e4 p (λe=>hp (by rw[e];exact pgs_self)) (λe=>hp (by rw[e];exact hu)) (λe=>hp (by rw[e];exact hv))
 have hkind:(pg f' v.page).kind=0:=by rw[e3];rfl
 have hA:At f' D (d+2) n lo hi Q R1 R2:=h.change hlen (λp hp'=>by
   by_cases hin:p∈pgs f' (d+2) n
   ·exact sub_ok' g1 p hin
   ·by_cases hv':p=v.page
    ·rw[hv',e3];rfl
    ·rw[hne p λe=>by
      rcases List.mem_cons.1 (g3.mem_iff.1 e) with e|e
      ·exact hv' e
      ·exact hin e]
     exact h.ok p hp') (λq hq=>hne q λe=>hdj q hq q e rfl) g1 (List.nodup_cons.1 (hperm.nodup_iff.1 h.nodup)).2 (λp hp' hnp=>by
   by_cases hv':p=v.page
   ·rw[hv'];exact hkind
   ·have hnp':p∉Q++pgs f (d+2) n:=λe=>by
     rcases List.mem_cons.1 (hperm.mem_iff.1 e) with e|e
     ·exact hv' e
     ·exact hnp e
    rw[hne p λe=>hnp' (List.mem_append_right _ e)]
    exact h.rest p hp' hnp')
 exact⟨hG,⟨lo,hi,Q,R1,R2,hA,hw,hr1,hr2⟩,by rw[hA.good.2,h.good.2,g2],e1,e2⟩
theorem root_good{f:List Content}{d:Nat}(h:Good f (d+2)){u v:Kid}(hp:pg f 0=⟨2,[],[u,v]⟩){B:Content}(hB:bothC (pg f u.page) (pg f v.page) v.least=B)(h4:sizeP B≤4){f':List Content}(hf':withS f (srtS [⟨0,B⟩,⟨u.page,cont0⟩,⟨v.page,cont0⟩])=f'):
  Grp f [⟨0,B⟩,⟨u.page,cont0⟩,⟨v.page,cont0⟩]∧Good f' (d+1)∧rws f' (d+1) 0=rws f (d+2) 0:=by
 obtain⟨P,hu,hv⟩:=(At.root h).pair (l1:=[]) (l2:=[]) hp
 obtain⟨hG,e1,e2,e3,e4,hlen⟩:=grp3 h.len (c1:=B) (c2:=cont0) (c3:=cont0) (sub_page h.tree) (sub_in h.tree _ hu).1 (sub_in h.tree _ hv).1 P.xn P.yn P.xy
 rw[hf'] at e1 e2 e3 e4 hlen
 obtain⟨g1,g2,g3⟩:=root_step h.tree hp h.nodup hB h4 e1 e4
 have hnd:=g3.nodup_iff.1 h.nodup
 have hz:∀p,p=u.page∨p=v.page→pg f' p=cont0:=λp hp=>by rcases hp with rfl|rfl;exact e2;exact e3
 have hne:∀p,p∉pgs f (d+2) 0→pg f' p=pg f p:=λp hp=>e4 p (λe=>hp (by rw[e];exact pgs_self)) (λe=>hp (by rw[e];exact hu)) (λe=>hp (by rw[e];exact hv))
 refine⟨hG,⟨hlen,λp hp'=> ?_,g1,(List.nodup_cons.1 (List.nodup_cons.1 hnd).2).2,λp hp' hnp=> ?_⟩,g2⟩
 ·by_cases hin:p∈pgs f' (d+1) 0
  ·exact sub_ok' g1 p hin
  ·by_cases hv':p=u.page∨p=v.page
   ·rw[hz p hv'];rfl
   ·rw[hne p λe=>by
     rcases List.mem_cons.1 (g3.mem_iff.1 e) with e|e
     ·exact hv' (Or.inl e)
     ·rcases List.mem_cons.1 e with e|e
      ·exact hv' (Or.inr e)
      ·exact hin e]
    exact h.ok p hp'
 ·by_cases hv':p=u.page∨p=v.page
  ·rw[hz p hv'];rfl
  ·have hnp':p∉pgs f (d+2) 0:=λe=>by
    rcases List.mem_cons.1 (g3.mem_iff.1 e) with e|e
    ·exact hv' (Or.inl e)
    ·rcases List.mem_cons.1 e with e|e
     ·exact hv' (Or.inr e)
     ·exact hnp e
   rw[hne p hnp']
   exact h.rest p hp' hnp'
theorem drop_right{α:Type}{a b:List α}{m:Nat}(h:a.length≤m):(a++b).drop m=b.drop (m-a.length):=by
 rw[List.drop_append,List.drop_eq_nil_of_le h,List.nil_append]
theorem lvl_up{f:List Content}{d m:Nat}{lo s:Key}{hi:Option Key}{a b:Content}(ha:conS f d lo (some s) a)(hb:conS f d s hi b)(h1:sizeP a<m)(h2:m<sizeP a+sizeP b):ltK (cutS (bothC a b s) m) s=false:=by
 cases d with
 |zero=>
  obtain⟨la,rfl,a1,a2,a3⟩:=ha
  obtain⟨lb,rfl,b1,b2,b3⟩:=hb
  simp only[sizeP,List.length_nil,Nat.add_zero] at h1 h2
  obtain⟨y,t,e⟩:=drop_some (l:=lb) (m:=m-la.length) (by omega)
  have hs:cutS (bothC ⟨1,la,[]⟩ ⟨1,lb,[]⟩ s) m=y.key:=by simp[cutS,bothC,hd0,stepC,drop_right (show la.length≤m by omega),e]
  rw[hs]
  exact(within_iff.1 (b3 y (List.mem_of_mem_drop (by rw[e];exact List.mem_cons_self ..)))).1
 |succ d=>
  obtain⟨la,rfl,a1⟩:=ha
  obtain⟨lb,rfl,b1⟩:=hb
  simp only[sizeP,List.length_nil,Nat.zero_add] at h1 h2
  obtain⟨z,w,rfl⟩:∃z w,lb=z::w:=by
   cases lb with
   |nil=>simp at h2;omega
   |cons z w=>exact⟨z,w,rfl⟩
  obtain⟨j,hj⟩:∃j,m-la.length=j+1:=⟨m-la.length-1,by omega⟩
  obtain⟨y,t,e⟩:=drop_some (l:=w) (m:=j) (by simp only[List.length_cons] at h2;omega)
  have hs:cutS (bothC ⟨2,[],la⟩ ⟨2,[],z::w⟩ s) m=y.least:=by simp[cutS,bothC,hd0,stepC,drop_right (show la.length≤m by omega),hj,e]
  rw[hs]
  have hy:y∈w:=List.mem_of_mem_drop (by rw[e];exact List.mem_cons_self ..)
  exact lt_asymm ((kids_lt b1.ok λk hk=>by have:=b1.page k hk;omega).1 y hy).1
theorem lvl_dn{f:List Content}{d m:Nat}{lo s:Key}{hi:Option Key}{a b:Content}(ha:conS f d lo (some s) a)(hb:conS f d s hi b)(h0:0<m)(h1:m<sizeP a):ltK (cutS (bothC a b s) m) s=true:=by
 cases d with
 |zero=>
  obtain⟨la,rfl,a1,a2,a3⟩:=ha
  obtain⟨lb,rfl,b1,b2,b3⟩:=hb
  simp only[sizeP,List.length_nil,Nat.add_zero] at h1
  obtain⟨y,t,e⟩:=drop_some h1
  have hs:cutS (bothC ⟨1,la,[]⟩ ⟨1,lb,[]⟩ s) m=y.key:=by simp[cutS,bothC,hd0,stepC,List.drop_append_of_le_length (show m≤la.length by omega),e]
  rw[hs]
  exact(within_iff.1 (a3 y (List.mem_of_mem_drop (by rw[e];exact List.mem_cons_self ..)))).2 s rfl
 |succ d=>
  obtain⟨la,rfl,a1⟩:=ha
  obtain⟨lb,rfl,b1⟩:=hb
  simp only[sizeP,List.length_nil,Nat.zero_add] at h1
  obtain⟨y,t,e⟩:=drop_some h1
  have hs:cutS (bothC ⟨2,[],la⟩ ⟨2,[],lb⟩ s) m=y.least:=by simp[cutS,bothC,stepC,List.drop_append_of_le_length (show m≤la.length by omega),e]
  rw[hs]
  have hy:y∈la.tail:=by
   obtain⟨j,rfl⟩:∃j,m=j+1:=⟨m-1,by omega⟩
   rw[←List.drop_one]
   have e':(la.drop 1).drop j=y::t:=by rw[List.drop_drop,Nat.add_comm];exact e
   exact List.mem_of_mem_drop (by rw[e'];exact List.mem_cons_self ..)
  exact((kids_lt a1.ok λk hk=>by have:=a1.page k hk;omega).1 y hy).2 s rfl
end Go.Proofs.YtlcmdgpjiendmaaGreat
namespace Go.Proofs.YtlcmdgpjiendmaaGreat
open Go.Bur
set_option linter.unusedSimpArgs false
set_option linter.unusedVariables false
set_option maxRecDepth 100000
theorem depth_uniq{f:List Content}:∀{a b:Nat} {n:Int} {lo lo':Key} {hi hi':Option Key},sub f a n lo hi→sub f b n lo' hi'→a=b:=by
 intro a
 induction a with
 |zero=>intro b n lo lo' hi hi' h;exact h.elim
 |succ a ih=>
  intro b n lo lo' hi hi' h g
  cases b with
  |zero=>exact g.elim
  |succ b=>
   cases a with
   |zero=>
    cases b with
    |zero=>rfl
    |succ b=>
     obtain⟨_,_,l,e,_⟩:=h
     obtain⟨_,_,m,e',_⟩:=g
     rw[e] at e';cases e'
   |succ a=>
    cases b with
    |zero=>
     obtain⟨_,_,l,e,_⟩:=h
     obtain⟨_,_,m,e',_⟩:=g
     rw[e] at e';cases e'
    |succ b=>
     obtain⟨l,e,h2,_,h4⟩:=inner_of h
     obtain⟨m,e',_,_,g4⟩:=inner_of g
     rw[e] at e'
     injection e' with _ _ e'
     subst e'
     obtain⟨k,t,el⟩:∃k t,l=k::t:=by
      match l,h2 with
      |k::t,_=>exact⟨k,t,rfl⟩
     have hk:k∈l:=by rw[el];exact List.mem_cons_self ..
     obtain⟨_,_,s1⟩:=kidsOk_all h4.ok k hk
     obtain⟨_,_,s2⟩:=kidsOk_all g4.ok k hk
     have:=ih s1 s2
     omega
theorem On.inner{f:List Content}{D d:Nat}{n:Int}{k:Key}(h:On f D (d+2) n k){l:List Kid}(hp:pg f n=⟨2,[],l⟩):InnerOk l:=by
 obtain⟨lo,hi,Q,R1,R2,h1,hw,_⟩:=h
 obtain⟨l',e,hl2,hl4,hK⟩:=inner_of h1.tree
 rw[hp] at e
 injection e with _ _ e
 rw[e];exact(hK.inner h1.low hl2 hl4).1
theorem On.zero{f:List Content}{D d:Nat}{k:Key}(h:On f D d 0 k):D=d:=by
 have hg:=h.good
 obtain⟨lo,hi,Q,R1,R2,h1,hw,_⟩:=h
 exact depth_uniq hg.tree h1.tree
def nextPg(f:List Content)(n:Int)(k:Key):Int:=(kidAt (pg f n).kids (kidI (pg f n).kids k)).page
def feedAt(l:List Kid)(i:Nat):Nat:=if i+1=l.length then i else i+1
def joinS(f:List Content)(n:Int)(a:Nat):List Sheet:=
 let l:=(pg f n).kids
 [⟨n,⟨2,[],l.take a++l.drop (a+1)⟩⟩,⟨(kidAt l (a-1)).page,bothC (pg f (kidAt l (a-1)).page) (pg f (kidAt l a).page) (kidAt l a).least⟩,⟨(kidAt l a).page,cont0⟩]
def rootS(f:List Content)(n:Int)(a:Nat):List Sheet:=
 let l:=(pg f n).kids
 [⟨0,bothC (pg f (kidAt l (a-1)).page) (pg f (kidAt l a).page) (kidAt l a).least⟩,⟨(kidAt l (a-1)).page,cont0⟩,⟨(kidAt l a).page,cont0⟩]
def levS(f:List Content)(n:Int)(a:Nat):List Sheet:=
 let l:=(pg f n).kids
 let A:=pg f (kidAt l (a-1)).page
 let C:=pg f (kidAt l a).page
 let B:=bothC A C (kidAt l a).least
 [⟨n,⟨2,[],l.take a++⟨cutS B (cutM A C),(kidAt l a).page⟩::l.drop (a+1)⟩⟩,⟨(kidAt l (a-1)).page,cutA B (cutM A C)⟩,⟨(kidAt l a).page,cutB B (cutM A C)⟩]
def sizeB(f:List Content)(n:Int)(a:Nat):Nat:=sizeP (pg f (kidAt (pg f n).kids (a-1)).page)+sizeP (pg f (kidAt (pg f n).kids a).page)
def feedP(f:List Content)(n:Int)(k:Key):List Content×Int×List Group:=
 let l:=(pg f n).kids
 let a:=feedAt l (kidI l k)
 if sizeP (pg f (nextPg f n k))≤2 then
  if sizeB f n a≤4 then
   if n=0∧l.length=2 then(withS f (srtS (rootS f n a)),0,[⟨srtS (rootS f n a)⟩])
   else(withS f (srtS (joinS f n a)),nextPg (withS f (srtS (joinS f n a))) n k,[⟨srtS (joinS f n a)⟩])
  else(withS f (srtS (levS f n a)),nextPg (withS f (srtS (levS f n a))) n k,[⟨srtS (levS f n a)⟩])
 else(f,nextPg f n k,[])
theorem feed_pair{l:List Kid}(h2:2≤l.length){l1 l2:List Kid}{x:Kid}(e:l=l1++x::l2):∃p1 u v p2,l=p1++u::v::p2∧feedAt l l1.length=p1.length+1∧((u=x∧p1=l1∧l2=v::p2)∨(v=x∧l1=p1++[u]∧p2=[]∧l2=[])):=by
 cases l2 with
 |nil=>
  have hne:l1≠[]:=λh=>by subst h;subst e;simp at h2
  refine⟨l1.dropLast,l1.getLast hne,x,[], ?_, ?_,Or.inr ⟨rfl,(List.dropLast_concat_getLast hne).symm,rfl,rfl⟩⟩
  ·rw[e]
   conv=>lhs;rw[←List.dropLast_concat_getLast hne]
   simp
  ·unfold feedAt
   rw[if_pos (by rw[e];simp),List.length_dropLast]
   have:=List.length_pos_iff.2 hne
   omega
 |cons v p2=>
  refine⟨l1,x,v,p2,e, ?_,Or.inl ⟨rfl,rfl,rfl⟩⟩
  unfold feedAt
  rw[if_neg (by rw[e];simp)]
theorem kidAt_u{p1 p2:List Kid}{u v:Kid}:kidAt (p1++u::v::p2) (p1.length+1-1)=u:=by simp[kidAt]
theorem kidAt_v{p1 p2:List Kid}{u v:Kid}:kidAt (p1++u::v::p2) (p1.length+1)=v:=by
 rw[show p1++u::v::p2=(p1++[u])++v::p2 by simp,show p1.length+1=(p1++[u]).length by simp,kidAt_mid]
theorem take_v{p1 p2:List Kid}{u v:Kid}:(p1++u::v::p2).take (p1.length+1)=p1++[u]:=by
 rw[show p1++u::v::p2=(p1++[u])++v::p2 by simp,show p1.length+1=(p1++[u]).length by simp,List.take_left]
theorem drop_v{p1 p2:List Kid}{u v:Kid}:(p1++u::v::p2).drop (p1.length+1+1)=p2:=by
 rw[show p1++u::v::p2=(p1++[u,v])++p2 by simp,show p1.length+1+1=(p1++[u,v]).length by simp,List.drop_left]
theorem feed_on{f:List Content}{D d:Nat}{n:Int}{k:Key}(h:On f D (d+2) n k)(hs:n≠0→3≤sizeP (pg f n)):
  ∃D',On (feedP f n k).1 D' (d+1) (feedP f n k).2.1 k∧((feedP f n k).2.1≠0→3≤sizeP (pg (feedP f n k).1 (feedP f n k).2.1))∧rws (feedP f n k).1 D' 0=rws f D 0∧Chain (rws f D 0) f (feedP f n k).2.2 (feedP f n k).1∧
   ∃u v,((feedP f n k).2.1=u∨(feedP f n k).2.1=v∨(feedP f n k).2.1=n)∧∀g∈(feedP f n k).2.2,∀s∈g.sheets,s.page=n∨s.page=u∨s.page=v:=by
 obtain⟨l1,x,l2,hp,hI,hi,c1,c2,hd⟩:=h.kids
 have hik:kidI (pg f n).kids k=l1.length:=by rw[hp];exact hi.symm
 have hnx:nextPg f n k=x.page:=by unfold nextPg;rw[hik,hp];exact congrArg (·.page) kidAt_mid
 obtain⟨p1,u,v,p2,e,ha,hcase⟩:=feed_pair hI.two rfl
 have hp':pg f n=⟨2,[],p1++u::v::p2⟩:=by rw[←e];exact hp
 have hI':InnerOk (p1++u::v::p2):=e▸hI
 have haf:feedAt (pg f n).kids (kidI (pg f n).kids k)=p1.length+1:=by rw[hik,hp];exact ha
 have hsB:sizeB f n (p1.length+1)=sizeP (pg f u.page)+sizeP (pg f v.page):=by unfold sizeB;rw[hp'];simp only;rw[kidAt_u,kidAt_v]
 have hh:=h
 obtain⟨lo,hiB,Q,R1,R2,hA,hw,hr1,hr2⟩:=hh
 obtain⟨P,hu,hv⟩:=hA.pair hp'
 have hb:=P.both.2.2.2
 have hxs:x=u∨x=v:=by rcases hcase with⟨a,_⟩|⟨a,_⟩;exact Or.inl a.symm;exact Or.inr a.symm
 have hx2:2≤sizeP (pg f x.page):=by rcases hxs with e|e<;>rw[e];exact P.x2;exact P.y2
 have hr:=hI'.rise
 obtain⟨_,rr,rm⟩:=List.pairwise_append.1 hr
 obtain⟨ru,rv⟩:=List.pairwise_cons.1 rr
 obtain⟨rv,_⟩:=List.pairwise_cons.1 rv
 have huv:ltK u.least v.least=true:=ru v (List.mem_cons_self ..)
 have q:=P.x2;have q2:=P.y2;have q3:=P.x4;have q4:=P.y4
 unfold feedP
 simp only[hnx,haf,hsB]
 by_cases hsm:sizeP (pg f x.page)≤2
 case neg=>
  rw[if_neg hsm]
  exact⟨D,hd,λ_=>by simp only;omega,rfl,rfl,x.page,x.page,Or.inl rfl,by simp⟩
 rw[if_pos hsm]
 by_cases hj:sizeP (pg f u.page)+sizeP (pg f v.page)≤4
 ·rw[if_pos hj]
  by_cases hroot:n=0∧(pg f n).kids.length=2
  ·rw[if_pos hroot]
   obtain⟨rfl,hlen⟩:=hroot
   have hD:=h.zero
   subst hD
   have hlen':(p1++u::v::p2).length=2:=by rw[hp'] at hlen;exact hlen
   obtain⟨rfl,rfl⟩:p1=[]∧p2=[]:=by
    simp only[List.length_append,List.length_cons] at hlen'
    exact⟨List.eq_nil_of_length_eq_zero (by omega),List.eq_nil_of_length_eq_zero (by omega)⟩
   have hS:rootS f 0 ([]:List Kid).length.succ=[⟨0,bothC (pg f u.page) (pg f v.page) v.least⟩,⟨u.page,cont0⟩,⟨v.page,cont0⟩]:=by unfold rootS;rw[hp'];rfl
   obtain⟨g1,g2,g3⟩:=root_good h.good hp' rfl (by rw[hb];exact hj) rfl
   rw[show([]:List Kid).length+1=([]:List Kid).length.succ from rfl,hS]
   refine⟨d+1,On.root g2 h.low,λe=>absurd rfl e,g3,chain_one g1 g2 g3,u.page,v.page,Or.inr (Or.inr rfl),λg hg s hs=> ?_⟩
   cases List.mem_singleton.1 hg
   have:=(srtS_perm _).mem_iff.1 hs
   simp only[List.mem_cons,List.not_mem_nil,or_false] at this
   rcases this with rfl|rfl|rfl<;>simp
  ·rw[if_neg hroot]
   have hS:joinS f n (p1.length+1)=[⟨n,⟨2,[],p1++u::p2⟩⟩,⟨u.page,bothC (pg f u.page) (pg f v.page) v.least⟩,⟨v.page,cont0⟩]:=by
    unfold joinS;rw[hp'];simp only;rw[kidAt_u,kidAt_v,take_v,drop_v];simp
   have h3:3≤(p1++u::v::p2).length:=by
    by_cases h0:n=0
    ·have:=hI'.two
     have hne:¬(p1++u::v::p2).length=2:=λe=>hroot ⟨h0,by rw[hp'];exact e⟩
     omega
    ·have:=hs h0;rw[hp'] at this;simpa[sizeP] using this
   obtain⟨g1,g2,g3,g4,g5⟩:=join_on h hp' rfl h3 (by rw[hb];exact hj) rfl
   rw[hS]
   have hch:=chain_one g1 g2.good g3
   generalize hf':withS f (srtS [⟨n,⟨2,[],p1++u::p2⟩⟩,⟨u.page,bothC (pg f u.page) (pg f v.page) v.least⟩,⟨v.page,cont0⟩])=f' at g2 g3 g4 g5 hch⊢
   have c1':p1≠[]→ltK k u.least=false:=λhne=>by
    rcases hcase with⟨a,b,c⟩|⟨a,b,c⟩
    ·rw[a];exact c1 (b▸hne)
    ·have:=c1 (by rw[b];simp)
     rw[←a] at this
     exact le_le (lt_asymm huv) this
   have c2':∀y t,p2=y::t→ltK k y.least=true:=λy t ey=>by
    rcases hcase with⟨a,b,c⟩|⟨a,b,c,_⟩
    ·exact ltK_trans (c2 v p2 c) (rv y (by rw[ey];exact List.mem_cons_self ..))
    ·rw[c] at ey;cases ey
   have hnext:nextPg f' n k=u.page:=by
    unfold nextPg
    rw[g4]
    simp only
    rw[kidI_of (g2.inner g4).rise c1' c2',kidAt_mid]
   rw[hnext]
   refine⟨D,g2.down g4 c1' c2',λ_=>by rw[g5,hb];omega,g3,hch,u.page,v.page,Or.inl rfl,λg hg s hs=> ?_⟩
   cases List.mem_singleton.1 hg
   have:=(srtS_perm _).mem_iff.1 hs
   simp only[List.mem_cons,List.not_mem_nil,or_false] at this
   rcases this with rfl|rfl|rfl<;>simp
 ·rw[if_neg hj]
  generalize hm:cutM (pg f u.page) (pg f v.page)=m
  have hS:levS f n (p1.length+1)=[⟨n,⟨2,[],p1++u::⟨cutS (bothC (pg f u.page) (pg f v.page) v.least) m,v.page⟩::p2⟩⟩,⟨u.page,cutA (bothC (pg f u.page) (pg f v.page) v.least) m⟩,⟨v.page,cutB (bothC (pg f u.page) (pg f v.page) v.least) m⟩]:=by
   unfold levS;rw[hp'];simp only;rw[kidAt_u,kidAt_v,take_v,drop_v,hm];simp
  have hmm:(x=u∧m=3∧sizeP (pg f u.page)=2)∨(x=v∧m+1=sizeP (pg f u.page)∧sizeP (pg f v.page)=2):=by
   unfold cutM at hm
   rcases hxs with e|e
   ·rw[e] at hsm hx2
    left
    rw[if_neg (by omega)] at hm
    exact⟨e,by omega,by omega⟩
   ·rw[e] at hsm hx2
    right
    rw[if_pos (by omega)] at hm
    exact⟨e,by omega,by omega⟩
  obtain⟨g1,g2,g3,g4,g5,g6⟩:=level_on h hp' rfl (m:=m) (by rcases hmm with h|h<;>omega) (by rcases hmm with h|h<;>omega) (by rw[hb];rcases hmm with h|h<;>omega) (by rw[hb];rcases hmm with h|h<;>omega) rfl
  rw[hS]
  have hch:=chain_one g1 g2.good g3
  obtain⟨_,_,_,_,_,d6,d7⟩:=con_cut (m:=m) P.both.1 (by rcases hmm with h|h<;>omega) (by rw[hb];rcases hmm with h|h<;>omega)
  have hup:x=u→ltK (cutS (bothC (pg f u.page) (pg f v.page) v.least) m) v.least=false:=λe=>lvl_up P.cx P.cy (by rcases hmm with h|h;omega;exact absurd (e.symm.trans h.1) (λe=>P.xy (by rw[e]))) (by rcases hmm with h|h<;>omega)
  have hdn:x=v→ltK (cutS (bothC (pg f u.page) (pg f v.page) v.least) m) v.least=true:=λe=>lvl_dn P.cx P.cy (by rcases hmm with h|h<;>omega) (by rcases hmm with h|h;exact absurd (h.1.symm.trans e) (λe=>P.xy (by rw[e]));omega)
  generalize hB:bothC (pg f u.page) (pg f v.page) v.least=B at*
  generalize hf':withS f (srtS [⟨n,⟨2,[],p1++u::⟨cutS B m,v.page⟩::p2⟩⟩,⟨u.page,cutA B m⟩,⟨v.page,cutB B m⟩])=f' at g2 g3 g4 g5 g6 hch⊢
  have hgs:∀g∈[Group.mk (srtS [⟨n,⟨2,[],p1++u::⟨cutS B m,v.page⟩::p2⟩⟩,⟨u.page,cutA B m⟩,⟨v.page,cutB B m⟩])],∀s∈g.sheets,s.page=n∨s.page=u.page∨s.page=v.page:=λg hg s hs=>by
   cases List.mem_singleton.1 hg
   have:=(srtS_perm _).mem_iff.1 hs
   simp only[List.mem_cons,List.not_mem_nil,or_false] at this
   rcases this with rfl|rfl|rfl<;>simp
  rcases hcase with⟨a,b,c⟩|⟨a,b,c,c'⟩
  ·have hxu:x=u:=a.symm
   have c1':p1≠[]→ltK k u.least=false:=λhne=>by rw[a];exact c1 (b▸hne)
   have c2':∀y t,(⟨cutS B m,v.page⟩::p2:List Kid)=y::t→ltK k y.least=true:=λy t ey=>by
    cases ey;exact lt_le (c2 v p2 c) (hup hxu)
   have hnext:nextPg f' n k=u.page:=by
    unfold nextPg
    rw[g4]
    simp only
    rw[kidI_of (g2.inner g4).rise c1' c2',kidAt_mid]
   rw[hnext]
   exact⟨D,g2.down g4 c1' c2',λ_=>by rw[g5,d6];rcases hmm with h|h;omega;exact absurd (hxu.symm.trans h.1) (λe=>P.xy (by rw[e])),g3,hch,u.page,v.page,Or.inl rfl,hgs⟩
  ·have hxv:x=v:=a.symm
   have e':p1++u::⟨cutS B m,v.page⟩::p2=(p1++[u])++⟨cutS B m,v.page⟩::p2:=by simp
   have c1':p1++[u]≠[]→ltK k (Kid.mk (cutS B m) v.page).least=false:=λ_=>by
    have:=c1 (by rw[b];simp)
    rw[hxv] at this
    exact le_le (lt_asymm (hdn hxv)) this
   have c2':∀y t,p2=y::t→ltK k y.least=true:=λy t ey=>by rw[c] at ey;cases ey
   rw[e'] at g4
   have hnext:nextPg f' n k=v.page:=by
    unfold nextPg
    rw[g4]
    simp only
    rw[kidI_of (g2.inner g4).rise c1' c2',kidAt_mid]
   rw[hnext]
   exact⟨D,g2.down (x:=⟨cutS B m,v.page⟩) g4 c1' c2',λ_=>by rw[g6,d7,hb];rcases hmm with h|h;exact absurd (h.1.symm.trans hxv) (λe=>P.xy (by rw[e]));omega,g3,hch,u.page,v.page,Or.inr (Or.inl rfl),hgs⟩
def takeW(k:Key):Nat→List Content→Int→List Content×Int×List Group
 |0,f,n=>(f,n,[])
 |d+1,f,n=>((takeW k d (feedP f n k).1 (feedP f n k).2.1).1,(takeW k d (feedP f n k).1 (feedP f n k).2.1).2.1,(feedP f n k).2.2++(takeW k d (feedP f n k).1 (feedP f n k).2.1).2.2)
theorem takeW_on{k:Key}:∀{d D:Nat} {f:List Content} {n:Int},On f D (d+1) n k→(n≠0→3≤sizeP (pg f n))→
  ∃D',On (takeW k d f n).1 D' 1 (takeW k d f n).2.1 k∧((takeW k d f n).2.1≠0→3≤sizeP (pg (takeW k d f n).1 (takeW k d f n).2.1))∧rws (takeW k d f n).1 D' 0=rws f D 0∧Chain (rws f D 0) f (takeW k d f n).2.2 (takeW k d f n).1∧
   ∃T:List Int,T.length≤2*d∧(takeW k d f n).2.1∈n::T∧∀g∈(takeW k d f n).2.2,∀s∈g.sheets,s.page∈n::T
 |0,D,f,n,h,hs=>⟨D,h,hs,rfl,rfl,[],by simp,by simp[takeW],by simp[takeW]⟩
 |d+1,D,f,n,h,hs=>by
  obtain⟨D1,h2,h3,h4,h5,u,v,h6,h7⟩:=feed_on h hs
  obtain⟨D2,g2,g3,g4,g5,T,g6,g7,g8⟩:=takeW_on h2 h3
  have hk:∀p,p∈(feedP f n k).2.1::T→p∈n::u::v::T:=λp hp=>by
   rcases List.mem_cons.1 hp with e|e
   ·rw[e];rcases h6 with e|e|e<;>rw[e]<;>simp
   ·simp[e]
  refine⟨D2,g2,g3,g4.trans h4,chain_app h5 (h4▸g5),u::v::T,by simp only[List.length_cons];omega,hk _ g7,λg hg s hs'=> ?_⟩
  rcases List.mem_append.1 hg with hg|hg
  ·rcases h7 g hg s hs' with e|e|e<;>rw[e]<;>simp
  ·exact hk _ (g8 g hg s hs')
theorem others_len{l:List Row}(hs:Srt l){k:Key}{x:Row}(hf:findK l k=some x):(others k l).length+1=l.length:=by
 rcases stand hs k with⟨pre,y,post,rfl,hx,hc,_⟩|⟨pre,post,rfl,hc,h⟩
 ·rw[others_in hx hc];simp;omega
 ·rw[hf] at h;cases h
theorem take_leaf{f:List Content}{D:Nat}{n:Int}{k:Key}(h:On f D 1 n k){x:Row}(hf:findK (rws f D 0) k=some x)(hs:n≠0→3≤sizeP (pg f n)){l:List Row}(hp:pg f n=⟨1,l,[]⟩):
  Grp f (one n (others k l))∧Good (withS f (one n (others k l))) D∧rws (withS f (one n (others k l))) D 0=others k (rws f D 0)∧LeafOk (others k l)∧findK l k=some x:=by
 obtain⟨l0,g3,g4,g5,g6⟩:=h.leaf
 obtain rfl:l0=l:=by rw[hp] at g3;injection g3 with _ g3;exact g3.symm
 obtain⟨lo,hi,Q,R1,R2,hA,hw,h1,h2⟩:=h
 rw[g6] at hf
 have hlen:=others_len g4.srt hf
 obtain⟨_,_,l1,g3',_,g5'⟩:=hA.tree
 obtain rfl:l1=l0:=by rw[hp] at g3';injection g3' with _ g3';exact g3'.symm
 have hsub:∀y∈others k l1,y∈l1:=λy hy=>(List.mem_filter.1 hy).1
 have hL:LeafOk (others k l1):=⟨by have:=g4.len;omega,λy hy=>g4.row y (hsub y hy),g4.srt.sublist List.filter_sublist⟩
 obtain⟨q1,q2,q3,q4⟩:=leaf_change hA hp hL (λy hy=>g5' y (hsub y hy)) (λe=>by have:=hs e;rw[hp] at this;simp[sizeP] at this;omega)
 refine⟨q1,q2, ?_,hL,hf⟩
 have o1:others k R1=R1:=List.filter_eq_self.2 λy hy=>by simpa using lt_ne (h1 y hy)
 have o2:others k R2=R2:=List.filter_eq_self.2 λy hy=>by simpa using (lt_ne (h2 y hy)).symm
 rw[q3,q4]
 unfold others at o1 o2⊢
 rw[List.filter_append,List.filter_append,o1,o2]
theorem take_on{f:List Content}{D:Nat}{k:Key}(h:Good f D)(hk:ltK k key0=false):
  ∃D',On (takeW k (D-1) f 0).1 D' 1 (takeW k (D-1) f 0).2.1 k∧((takeW k (D-1) f 0).2.1≠0→3≤sizeP (pg (takeW k (D-1) f 0).1 (takeW k (D-1) f 0).2.1))∧rws (takeW k (D-1) f 0).1 D' 0=rws f D 0∧Chain (rws f D 0) f (takeW k (D-1) f 0).2.2 (takeW k (D-1) f 0).1∧
   ∃T:List Int,T.length≤2*(D-1)∧(takeW k (D-1) f 0).2.1∈0::T∧∀g∈(takeW k (D-1) f 0).2.2,∀s∈g.sheets,s.page∈0::T:=by
 obtain⟨d,rfl⟩:∃d,D=d+1:=⟨D-1,by have:=h.pos;omega⟩
 exact takeW_on (On.root h hk) λe=>absurd rfl e
end Go.Proofs.YtlcmdgpjiendmaaGreat
