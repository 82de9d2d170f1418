import Derived.Test.YtlcmdgpjiendmaaGreatTrgA
namespace Go.Proofs.YtlcmdgpjiendmaaGreat
open Go.Bur
set_option linter.unusedSimpArgs false
set_option linter.unusedVariables false
set_option maxRecDepth 100000
theorem leaf_err{l:List Row}(h:LeafOk l):err1 ⟨1,l,[]⟩=0:=by
 have hck:checkP ⟨1,l,[]⟩=true:=(check_iff _).2 (Or.inr (Or.inl ⟨l,rfl,h⟩))
 unfold err1;rw[if_pos hck];rfl
theorem leaf_fine{l:List Row}(h:LeafOk l):Fine ⟨1,l,[]⟩:=fine_check ((check_iff _).2 (Or.inr (Or.inl ⟨l,rfl,h⟩)))
theorem pput_eq(N:Nat)(hN:1003≤N){l:List Row}(hl:LeafOk l){r:Row}(hr:okRow r=true)(hs:findK l r.key=none→l.length≤3):page_Put N ⟨1,l,[]⟩ r=some (⟨1,putR r l,[]⟩,0):=by
 rcases stand hl.srt r.key with⟨pre,x,post,e,hx,hc,_⟩|⟨pre,post,e,hc,hf⟩
 ·subst e
  rw[putR_in hx hc]
  exact put_in N hN _ (leaf_fine hl) r (leaf_err hl) hr rfl hx
 ·have:=hs hf
  subst e
  rw[putR_new hc]
  exact put_new N hN _ (leaf_fine hl) r (leaf_err hl) hr rfl hc this
theorem one_grp{f:List Content}{n:Int}{l:List Row}(hn:0≤n∧n<64):Grp f (one n l):=⟨λs hs=>by cases List.mem_singleton.1 hs;exact hn,by simp[one]⟩
def errP(new:Bool):Int:=if new=true then 4 else 0
theorem errP_eq(new:Bool):(errP new==4)=new:=by cases new<;>rfl
def outT(r:Row)(gs:List Group):Option (List Content×Int×List Group)→Option (Int×List Group)
 |none=>some (6,[])
 |some z=>some (0,gs++(z.2.2++[⟨one z.2.1 (putR r (pg z.1 z.2.1).rows)⟩]))
theorem outT_map(r:Row)(gs G:List Group)(o:Option (List Content×Int×List Group)):outT r gs (o.map λz=>(z.1,z.2.1,G++z.2.2))=outT r (gs++G) o:=by
 cases o with
 |none=>rfl
 |some z=>simp only[Option.map_some,outT,List.append_assoc]
theorem tput_go(N:Nat)(hN:1003≤N){r:Row}(hr:okRow r=true)(new:Bool):∀(d m D:Nat)(f:List Content)(n:Int)(gs:List Group),On f D (d+1) n r.key→(new=true→sizeP (pg f n)≤3)→(findK (rws f D 0) r.key=none→new=true)→d<m→gs.length+d≤900→
  tree_Put_l1 N m (n,errP new,r,f,gs,())=outT r gs (putW r.key new d f n):=by
 intro d
 induction d with
 |zero=>
  intro m D f n gs h hs hnew hm hg
  obtain⟨m,rfl⟩:∃m',m=m'+1:=⟨m-1,by omega⟩
  obtain⟨hn,hf,hi,_⟩:=h.page
  obtain⟨l,hp,hl,_,hfk⟩:=h.leaf
  unfold tree_Put_l1
  rw[loopF_succ]
  simp only[hi,Option.bind_some]
  rw[show((pg f n).kind==2)=false from by rw[hp];rfl,cond_false]
  have hpp:=pput_eq N hN hl hr (λe=>by have:=hs (hnew (by rw[hfk];exact e));rw[hp] at this;simpa[sizeP] using this)
  rw[←hp] at hpp
  simp only[hpp,Option.bind_some]
  rw[show([(Sheet.mk n (Content.mk 1 (putR r l) []))]:List Sheet)=one n (putR r l) from rfl,group_eq N hN hf (one_grp hn) (by simp[one]) gs (by omega)]
  simp only[putW,outT,hp,Option.bind_some,List.nil_append];rfl
 |succ d ih=>
  intro m D f n gs h hs hnew hm hg
  obtain⟨m,rfl⟩:∃m',m=m'+1:=⟨m-1,by omega⟩
  obtain⟨hn,hf,hi,_⟩:=h.page
  obtain⟨hx,_,hxi,hxc⟩:=h.next.page
  unfold tree_Put_l1
  rw[loopF_succ]
  generalize hr2:loopF _ m=r2
  replace hr2:tree_Put_l1 N m=r2:=hr2
  have hxp:(kidAt (pg f n).kids (kidI (pg f n).kids r.key)).page=nextPg f n r.key:=rfl
  have hki:=h.kid_idx
  simp only[hi,Option.bind_some,h.pkid N hN,hki,hxp,hxi,pfull_eq N hN hxc,errP_eq]
  rw[show((pg f n).kind==2)=true from by rw[h.kind.1];rfl,cond_true]
  rcases stepP_on h hs with⟨e1,e2,e3⟩|⟨f',n',G,e1,⟨e2,e3,e4,e5⟩,_⟩
  ·subst e1
   have hfull:fullP (pg f (nextPg f n r.key))=true:=by
    unfold stepP at e3
    by_cases hf:fullP (pg f (nextPg f n r.key))=true
    ·exact hf
    ·rw[if_neg (by simpa[nextPg] using hf)] at e3;cases e3
   rw[cond_true,hfull,cond_true,tsplit_eq N hN h (hs rfl) hfull gs (by omega),e2,putW,e3]
   rfl
  ·rw[putW,e1]
   simp only[Option.bind_some]
   rw[outT_map]
   have hnew':findK (rws f' D 0) r.key=none→new=true:=by rw[e4];exact hnew
   rcases step_form e1 with⟨h1,h2⟩|⟨mm,h1,h2⟩
   ·subst h1 h2
    have hb:(new&&fullP (pg f' (nextPg f' n r.key)))=false:=by
     unfold stepP at e1
     by_cases hb:(new&&fullP (pg f' (kidAt (pg f' n).kids (kidI (pg f' n).kids r.key)).page))=true
     ·rw[if_pos hb] at e1
      split at e1
      ·cases e1
      ·injection e1 with e1;injection e1 with _ e1;injection e1 with _ e1;cases e1
     ·simpa[nextPg] using hb
    have hn':nextPg f' n r.key=n':=by
     unfold stepP at e1
     rw[if_neg (by rw[hxp,hb];simp)] at e1
     injection e1 with e1;injection e1 with _ e1;injection e1 with e1 _
    have hgo:((tree_change_down N ⟨⟨f'⟩,gs⟩ n r.key).bind λy=>r2 (y,errP new,r,f',gs,()))=outT r (gs++[]) (putW r.key new d f' n'):=by
     rw[tdown_eq N hN h,hn',List.append_nil]
     simp only[Option.bind_some]
     rw[←hr2]
     exact ih m D f' n' gs e2 e3 hnew' (by omega) (by omega)
    cases hnw:new with
    |true=>
     rw[hnw,Bool.true_and] at hb
     rw[hnw] at hgo
     rw[cond_true,hb,cond_false,cond_false]
     exact hgo
    |false=>
     rw[hnw] at hgo
     rw[cond_false,cond_false,cond_false]
     exact hgo
   ·have hb:(new&&fullP (pg f (nextPg f n r.key)))=true:=by
     unfold stepP at e1
     by_cases hb:(new&&fullP (pg f (kidAt (pg f n).kids (kidI (pg f n).kids r.key)).page))=true
     ·exact hb
     ·rw[if_neg hb] at e1
      injection e1 with e1;injection e1 with _ e1;injection e1 with _ e1
      rw[h2] at e1;cases e1
    have hb2:=hb
    rw[Bool.and_eq_true] at hb2
    obtain⟨rfl,hfull⟩:=hb2
    have hmm:∃t,frees f=mm::t:=by
     unfold stepP at e1
     rw[if_pos (show(true&&fullP (pg f (kidAt (pg f n).kids (kidI (pg f n).kids r.key)).page))=true from hb)] at e1
     cases hfr:frees f with
     |nil=>rw[hfr] at e1;cases e1
     |cons m0 t=>
      rw[hfr] at e1
      injection e1 with e1;injection e1 with _ e1;injection e1 with _ e1
      rw[h2] at e1
      have h5:=congrArg (λl:List Group=>l.map λg=>g.sheets) e1
      simp only[List.map_cons,List.map_nil,List.cons.injEq,and_true] at h5
      have h6:m0∈(srtS (splitS f n (kidI (pg f n).kids r.key) mm)).map (·.page):=by
       rw[←h5]
       exact((srtS_perm _).map _).mem_iff.2 (by simp[splitS])
      have h7:mm∈(srtS (splitS f n (kidI (pg f n).kids r.key) m0)).map (·.page):=by
       rw[h5]
       exact((srtS_perm _).map _).mem_iff.2 (by simp[splitS])
      obtain⟨lo,hi',Q,R1,R2,hA,_⟩:=h
      have hfree:=(hA.free (m:=m0) (by rw[hfr];exact List.mem_cons_self ..)).2
      have hxin:nextPg f n r.key∈pgs f (d+2) n:=List.mem_cons_of_mem _ (List.mem_flatMap.2 ⟨kidAt (pg f n).kids (kidI (pg f n).kids r.key),List.mem_of_getElem? (by rw[←idx_nat];exact hki),pgs_self⟩)
      have h8:=((srtS_perm _).map (·.page)).mem_iff.1 h6
      simp only[splitS,List.map_cons,List.map_nil,List.mem_cons,List.not_mem_nil,or_false] at h8
      rcases h8 with h8|h8|h8
      ·exact absurd (List.mem_append_right _ (h8▸pgs_self)) hfree
      ·exact absurd (List.mem_append_right _ (h8▸hxin)) hfree
      ·exact⟨t,by rw[h8]⟩
    obtain⟨t,hfr⟩:=hmm
    have hsz:On f' D (d+2) n r.key:=by
     obtain⟨l1,x,l2,hp,hI,hii,c1,c2,hd⟩:=h.kids
     have hnx:nextPg f n r.key=x.page:=by unfold nextPg;rw[hp];simp only;rw[←hii];exact congrArg (·.page) kidAt_mid
     have hik:kidI (pg f n).kids r.key=l1.length:=by rw[hp];exact hii.symm
     rw[hnx] at hfull
     have h4:sizeP (pg f x.page)=4:=by unfold fullP at hfull;rw[Bool.and_eq_true] at hfull;exact of_decide_eq_true hfull.2
     obtain⟨_,g2,_⟩:=split_on h hp c1 c2 (by have:=hs rfl;rw[hp] at this;simpa[sizeP] using this) h4 (m:=mm) (by rw[hfr];exact List.mem_cons_self ..)
     rw[h1,hik];exact g2
    have hn':nextPg f' n r.key=n':=by
     unfold stepP at e1
     rw[if_pos (show(true&&fullP (pg f (kidAt (pg f n).kids (kidI (pg f n).kids r.key)).page))=true from hb),hfr] at e1
     injection e1 with e1;injection e1 with e0 e1;injection e1 with e1 _
     rw[←e1,←e0];rfl
    rw[cond_true,hfull,cond_true,tsplit_eq N hN h (hs rfl) hfull gs (by omega),hfr]
    simp only[Option.bind_some,Bool.not_true,cond_false]
    rw[←h1,←h2,tdown_eq N hN hsz,hn']
    simp only[Option.bind_some]
    rw[←hr2]
    have:=ih m D f' n' (gs++G) e2 e3 hnew' (by omega) (by rw[h2];simp;omega)
    rw[h2] at this⊢
    exact this
theorem put_l2(N:Nat):tree_Put_l2 N=tree_Put_l1 N:=rfl
theorem put_l4(N:Nat):tree_Put_l4 N=tree_Put_l1 N:=rfl
theorem checkRow0{r:Row}(N:Nat)(hr:okRow r=true):codec_CheckRow N r=some 0:=by rw[checkRow_eq,if_pos hr]
theorem tput_way(N:Nat)(hN:2000≤N){f:List Content}{D:Nat}(h:Good f D){r:Row}(hr:okRow r=true)(hk:ltK r.key key0=false):tree_Put N ⟨f⟩ r=outT r [] (wayP f D r.key (newB (rws f D 0) r.key)):=by
 have hlen:=h.len
 have hdeep:=h.deep
 have hpos:=h.pos
 obtain⟨d,rfl⟩:∃d,D=d+1:=⟨D-1,by omega⟩
 have hi:idx f 0=some (pg f 0):=idx_pg ⟨by omega,by omega⟩
 have hc:=h.ok 0 ⟨by omega,by omega⟩
 have hf0:=fullP_size h.tree
 have h4:=(con_of h.tree).2.1
 have herr:∀R:List Row,(ofF (findK R r.key)).2=errP (newB R r.key):=λR=>by
  unfold newB;cases findK R r.key<;>rfl
 have hnew:=fun(e:findK (rws f (d+1) 0) r.key=none)=>newB_iff.2 e
 unfold tree_Put tree_begun
 simp only[check_good N hN h,Option.bind_some,show((0:Int) !=0)=false from rfl,cond_false,checkRow0 N hr,cloneC_eq N f (by omega),get_good N hN h,herr,errP_eq,hi,pfull_eq N (by omega) hc,put_l2,put_l4]
 generalize newB (rws f (d+1) 0) r.key=new at hnew⊢
 unfold wayP
 cases hn:new with
 |false=>
  rw[Bool.false_and,if_neg (by simp),Nat.add_sub_cancel]
  simp only[cond_false]
  have:=tput_go N (by omega) hr false d N (d+1) f 0 [] (On.root h hk) (λe=>by cases e) (λe=>by rw[←hn];exact hnew e) (by omega) (by simp;omega)
  exact this
 |true=>
  rw[Bool.true_and,cond_true]
  by_cases hfu:fullP (pg f 0)=true
  ·rw[if_pos hfu,hfu,cond_true,tparted_eq N (by omega) h hfu]
   match hfr:frees f with
   |[]=>rfl
   |[a]=>rfl
   |a::b::t=>
    have hsz:sizeP (pg f 0)=4:=by rw[hf0] at hfu;exact of_decide_eq_true hfu
    obtain⟨q1,q2,q3,q4,_⟩:=part_good h hsz hfr
    simp only[Option.bind_some,Bool.not_true,cond_false]
    have:=tput_go N (by omega) hr true (d+1) N (d+2) _ 0 [⟨srtS (partS f a b)⟩] (On.root q2 hk) (λ_=>by rw[q4];simp[sizeP]) (λ_=>rfl) (by omega) (by simp;omega)
    refine this.trans ?_
    cases putW r.key true (d+1) (withS f (srtS (partS f a b))) 0<;>rfl
  ·rw[if_neg hfu]
   rw[Bool.not_eq_true] at hfu
   rw[hfu,Nat.add_sub_cancel]
   simp only[cond_false]
   have:=tput_go N (by omega) hr true d N (d+1) f 0 [] (On.root h hk) (λ_=>by rw[hf0,decide_eq_false_iff_not] at hfu;omega) (λ_=>rfl) (by omega) (by simp;omega)
   exact this
theorem tput_eq(N:Nat)(hN:2000≤N){f:List Content}{D:Nat}(h:Good f D){r:Row}(hr:okRow r=true)(hk:ltK r.key key0=false):tree_Put N ⟨f⟩ r=ref13_Put N ⟨f⟩ r:=by
 rw[tput_way N hN h hr hk]
 rcases rput_eq N hN h hr hk with⟨_,_,e1,e2⟩|⟨f',n',G,D',l,e1,_,e3,_,_,_,_,_,_,_,e11,_⟩
 ·rw[e1,e2];rfl
 ·rw[e1,e11]
  simp only[outT,e3,List.nil_append]
end Go.Proofs.YtlcmdgpjiendmaaGreat
namespace Go.Proofs.YtlcmdgpjiendmaaGreat
open Go.Bur
set_option linter.unusedSimpArgs false
set_option linter.unusedVariables false
set_option maxRecDepth 100000
theorem pdisown_eq(n:Nat)(hn:1003≤n){p1 p2:List Kid}{u v:Kid}(h:InnerOk (p1++u::v::p2))(h':InnerOk (p1++u::p2)):page_Disown n ⟨2,[],p1++u::v::p2⟩ ((p1.length+1:Nat):Int)=some (⟨2,[],p1++u::p2⟩,0):=by
 have hc:=fine_check (inner_check h)
 have h4:=h.four
 have h2:=h'.two
 have hlen:(p1++u::v::p2).length=(p1++u::p2).length+1:=by simp;omega
 have hin:p1.length+1<(p1++u::v::p2).length:=by simp
 have hb:page_behind n ⟨2,[],p1++u::v::p2⟩ ((p1.length+1:Nat):Int)=some true:=by
  unfold page_behind
  simp only[jn,show decide (((p1.length+1:Nat):Int)≥1)=true from decide_eq_true (by omega),cond_true,lt_dec hin]
 have hdel:slices_Delete_Kid n ((p1.length+1:Nat):Int) (IntKind.wrap .i64 (((p1.length+1:Nat):Int)+1)) (p1++u::v::p2)=some (p1++u::p2):=by
  rw[wrap_succ (by omega)]
  show delL _ _ _=_
  unfold delL
  rw[if_pos ⟨by omega,by omega,by omega⟩,Int.toNat_natCast,Int.toNat_natCast,take_v,drop_v]
  simp
 unfold page_Disown
 rw[asked2_eq' n hn h]
 simp only[Option.bind_some,show((0:Int) !=0)=false from rfl,cond_false,hb,jn,Bool.not_true,size_eq n _ hc,cloneK_eq n (p1++u::v::p2) (by omega),hdel,page_inner,pone_eq n hn h']
 rw[show decide ((sizeP ⟨2,[],p1++u::v::p2⟩:Int)≤2)=false from decide_eq_false (by simp only[sizeP,List.length_nil];omega)]
 rfl
theorem pstep_eq(n:Nat)(hn:1003≤n){p1 p2:List Kid}{u v:Kid}(h:InnerOk (p1++u::v::p2)){s:Key}(h':InnerOk (p1++u::⟨s,v.page⟩::p2)):page_Step n ⟨2,[],p1++u::v::p2⟩ ((p1.length+1:Nat):Int) s=some (⟨2,[],p1++u::⟨s,v.page⟩::p2⟩,0):=by
 have h4:=h.four
 have hin:p1.length+1<(p1++u::v::p2).length:=by simp
 have hb:page_behind n ⟨2,[],p1++u::v::p2⟩ ((p1.length+1:Nat):Int)=some true:=by
  unfold page_behind
  simp only[jn,show decide (((p1.length+1:Nat):Int)≥1)=true from decide_eq_true (by omega),cond_true,lt_dec hin]
 have hput:put (p1++u::v::p2) ((p1.length+1:Nat):Int) ⟨s,v.page⟩=some (p1++u::⟨s,v.page⟩::p2):=by
  have:=put_app (A:=p1++[u]) (B:=p2) (o:=v) (x:=⟨s,v.page⟩)
  simpa using this
 unfold page_Step
 rw[asked2_eq' n hn h]
 simp only[Option.bind_some,show((0:Int) !=0)=false from rfl,cond_false,hb,Bool.not_true,cloneK_eq n (p1++u::v::p2) (by omega),(mid_idx (p1:=p1) (p2:=p2) (u:=u) (v:=v)).2,hput,page_inner,pone_eq n hn h']
theorem psmall_eq(N:Nat)(hN:1003≤N){c:Content}(h:checkP c=true)(hk:c.kind≠0):page_Small N c=some (decide (sizeP c≤2)):=by
 rw[Small_eq N hN c (fine_check h),h,decide_eq_false hk];rfl
theorem On.kind0{f:List Content}{D d:Nat}{n:Int}{k:Key}(h:On f D (d+1) n k):(pg f n).kind≠0:=by
 obtain⟨lo,hi,Q,R1,R2,hA,_⟩:=h
 exact(sub_in hA.tree n pgs_self).2
theorem fed_eq(N:Nat)(hN:1003≤N){f:List Content}{D d:Nat}{n:Int}{k:Key}(h:On f D (d+2) n k)(hs:n≠0→3≤sizeP (pg f n))(h1:sizeP (pg f (nextPg f n k))≤2)(gs:List Group)(hg:gs.length≤900):
  tree_change_fed N n (kidI (pg f n).kids k:Int) f gs=some ((foodP f n k).1,withS f (foodP f n k).2,gs++[⟨(foodP f n k).2⟩]):=by
 obtain⟨hn,hf,hi,hc⟩:=h.page
 have hkl:=kidI_lt h.kind.2.2.1 k
 have hk4:=h.kind.2.2.1.four
 obtain⟨p1,u,v,p2,hp,hI,ha,hsB,hup,hvp,hcu,hcv,hal,hu4,hv4,hR,hJ,hL,hj,hl⟩:=feed_facts h hs h1
 have hiu:idx f u.page=some (pg f u.page):=idx_pg ⟨by omega,by omega⟩
 have hiv:idx f v.page=some (pg f v.page):=idx_pg ⟨by omega,by omega⟩
 have hfu:=fine_check hcu
 have hfv:=fine_check hcv
 unfold foodP
 rw[if_pos h1,ha]
 have key:tree_change_fed_j1 N (n,((p1.length+1:Nat):Int),pg f n,f,gs,())=some ((if sizeB f n (p1.length+1)≤4 then(if n=0∧(pg f n).kids.length=2 then(true,srtS (rootS f n (p1.length+1))) else(false,srtS (joinS f n (p1.length+1)))) else(false,srtS (levS f n (p1.length+1)))).1,withS f (if sizeB f n (p1.length+1)≤4 then(if n=0∧(pg f n).kids.length=2 then(true,srtS (rootS f n (p1.length+1))) else(false,srtS (joinS f n (p1.length+1)))) else(false,srtS (levS f n (p1.length+1)))).2,gs++[⟨(if sizeB f n (p1.length+1)≤4 then(if n=0∧(pg f n).kids.length=2 then(true,srtS (rootS f n (p1.length+1))) else(false,srtS (joinS f n (p1.length+1)))) else(false,srtS (levS f n (p1.length+1)))).2⟩]):=by
  obtain⟨m1,m2⟩:=mid_idx (p1:=p1) (p2:=p2) (u:=u) (v:=v)
  have hw:IntKind.wrap .i64 (((p1.length+1:Nat):Int)-1)=(p1.length:Int):=by have:=hI.four;rw[wrap_in (by simp only[List.length_append] at this;omega)];omega
  have hkd:(pg f n).kids=p1++u::v::p2:=by rw[hp]
  rw[←hkd] at m1 m2
  unfold tree_change_fed_j1
  simp only[hw,m1,m2,Option.bind_some,hiu,hiv,join_full N hN _ _ v.least hfu hfv,jn]
  by_cases h2:sizeB f n (p1.length+1)≤4
  ·simp only[if_pos h2]
   obtain⟨hck,hsz,hr,hjn⟩:=hj h2
   have hJP:joinP (pg f u.page) (pg f v.page) v.least=(bothC (pg f u.page) (pg f v.page) v.least,0):=by
    unfold joinP
    rw[hcu,hcv,hal,Bool.and_self,if_pos rfl,if_pos rfl,if_neg (by rw[hsB] at h2;omega),if_pos hck]
   rw[hJP]
   simp only[show((0:Int)==0)=true from rfl,cond_true,ieq0]
   have hlen2:(((pg f n).kids.length:Int)==2)=decide ((pg f n).kids.length=2):=ieq4 (m:=2)
   by_cases h3:n=0∧(pg f n).kids.length=2
   ·simp only[if_pos h3]
    rw[decide_eq_true h3.1,cond_true,hlen2,decide_eq_true h3.2,cond_true]
    have g1:=(hr h3).1
    rw[hR] at g1⊢
    rw[show(Content.mk 0 ([]:List Row) ([]:List Kid))=cont0 from rfl,group_eq N hN hf g1 (by simp) gs (by omega)];rfl
   ·simp only[if_neg h3]
    obtain⟨g1,g2⟩:=hjn h3
    rw[hJ] at g1 g2⊢
    have e1:=(three hf g1.rng g1.nodup).1 _ (List.mem_cons_self ..)
    simp only at e1
    have hdis:=pdisown_eq N hN hI (g2.inner e1)
    rw[←hp] at hdis
    have hgo:((page_Disown N (pg f n) ((p1.length+1:Nat):Int)).bind λy19=>(tree_change_group N f gs ([(Sheet.mk n y19.1),(Sheet.mk u.page (bothC (pg f u.page) (pg f v.page) v.least)),(Sheet.mk v.page (Content.mk 0 ([]:List Row) ([]:List Kid)))]:List Sheet)).bind λy20=>some (false,y20.1,y20.2))=some (false,withS f (srtS [⟨n,⟨2,[],p1++u::p2⟩⟩,⟨u.page,bothC (pg f u.page) (pg f v.page) v.least⟩,⟨v.page,cont0⟩]),gs++[⟨srtS [⟨n,⟨2,[],p1++u::p2⟩⟩,⟨u.page,bothC (pg f u.page) (pg f v.page) v.least⟩,⟨v.page,cont0⟩]⟩]):=by
     rw[hdis]
     simp only[Option.bind_some]
     rw[show(Content.mk 0 ([]:List Row) ([]:List Kid))=cont0 from rfl,group_eq N hN hf g1 (by simp) gs (by omega)];rfl
    by_cases hn0:n=0
    ·rw[decide_eq_true hn0,cond_true,hlen2,decide_eq_false (λe=>h3 ⟨hn0,e⟩),cond_false];exact hgo
    ·rw[decide_eq_false hn0,cond_false,cond_false];exact hgo
  ·simp only[if_neg h2]
   obtain⟨hne,hq,hsz,g1,g2⟩:=hl h2
   have hJP:joinP (pg f u.page) (pg f v.page) v.least=(cont0,6):=by
    unfold joinP
    rw[hcu,hcv,hal,Bool.and_self,if_pos rfl,if_pos rfl,if_pos (by rw[hsB] at h2;omega)]
   have hLP:levelP (pg f u.page) (pg f v.page) v.least=(cutA (bothC (pg f u.page) (pg f v.page) v.least) (cutM (pg f u.page) (pg f v.page)),cutB (bothC (pg f u.page) (pg f v.page) v.least) (cutM (pg f u.page) (pg f v.page)),cutS (bothC (pg f u.page) (pg f v.page) v.least) (cutM (pg f u.page) (pg f v.page)),0):=by
    unfold levelP
    rw[hcu,hcv,hal,decide_eq_false hne]
    simp only[Bool.not_false,Bool.and_self,if_true,hq]
   rw[hL] at g1 g2⊢
   have e1:=(three hf g1.rng g1.nodup).1 _ (List.mem_cons_self ..)
   simp only at e1
   have hstp:=pstep_eq N hN hI (g2.inner e1)
   rw[←hp] at hstp
   rw[hJP]
   simp only[show((6:Int)==0)=false from rfl,cond_false,level_full N hN _ _ v.least hfu hfv,hLP,Option.bind_some,hstp]
   rw[group_eq N hN hf g1 (by simp) gs (by omega)];rfl
 unfold tree_change_fed
 simp only[hi,Option.bind_some,jn]
 rw[wrap_succ (show kidI (pg f n).kids k<4611686018427387904 by omega),show(((kidI (pg f n).kids k+1:Nat):Int)==((pg f n).kids.length:Int))=decide (kidI (pg f n).kids k+1=(pg f n).kids.length) from ieq4]
 unfold feedAt at ha
 by_cases he:kidI (pg f n).kids k+1=(pg f n).kids.length
 ·rw[if_pos he] at ha
  rw[decide_eq_true he,cond_true,ha];exact key
 ·rw[if_neg he] at ha
  rw[decide_eq_false he,cond_false,ha];exact key
theorem ptake_eq(N:Nat)(hN:1003≤N){l:List Row}(hl:LeafOk l){k:Key}{x:Row}(hx:findK l k=some x):page_Take N ⟨1,l,[]⟩ k=some (⟨1,others k l,[]⟩,x,0):=by
 rcases stand hl.srt k with⟨pre,y,post,e,hy,hc,hf⟩|⟨pre,post,e,hc,hf⟩
 ·subst e
  rw[hx] at hf
  cases hf
  rw[others_in hy hc]
  exact take_in N hN _ (leaf_fine hl) k (leaf_err hl) rfl hy
 ·rw[hx] at hf;cases hf
theorem ttake_go(N:Nat)(hN:1003≤N){k:Key}{x z:Row}:∀(d m D:Nat)(f:List Content)(n:Int)(gs:List Group),On f D (d+1) n k→(n≠0→3≤sizeP (pg f n))→findK (rws f D 0) k=some x→d<m→gs.length+d≤800→
  tree_Take_l1 N m (n,k,z,x,f,gs,())=some (x,0,gs++((takeW k d f n).2.2++[⟨one (takeW k d f n).2.1 (others k (pg (takeW k d f n).1 (takeW k d f n).2.1).rows)⟩])):=by
 intro d
 induction d with
 |zero=>
  intro m D f n gs h hs hx hm hg
  obtain⟨m,rfl⟩:∃m',m=m'+1:=⟨m-1,by omega⟩
  obtain⟨hn,hf,hi,_⟩:=h.page
  obtain⟨l,hp,hl,_,hfk⟩:=h.leaf
  unfold tree_Take_l1
  rw[loopF_succ]
  simp only[hi,Option.bind_some]
  rw[show((pg f n).kind==2)=false from by rw[hp];rfl,cond_false]
  have hpp:=ptake_eq N hN hl (hfk▸hx)
  rw[←hp] at hpp
  simp only[hpp,Option.bind_some]
  rw[show([(Sheet.mk n (Content.mk 1 (others k l) []))]:List Sheet)=one n (others k l) from rfl,group_eq N hN hf (one_grp hn) (by simp[one]) gs (by omega)]
  simp only[takeW,hp,Option.bind_some,List.nil_append];rfl
 |succ d ih=>
  intro m D f n gs h hs hx hm hg
  obtain⟨m,rfl⟩:∃m',m=m'+1:=⟨m-1,by omega⟩
  obtain⟨hn,hf,hi,_⟩:=h.page
  obtain⟨hxr,_,hxi,hxc⟩:=h.next.page
  have hk0:=h.next.kind0
  obtain⟨D',f1,f2,f3,f4,_⟩:=feed_on h hs
  obtain⟨s1,s2,s3,s4,s5⟩:=food_facts h hs
  have hff:=(feed_food f n k).resolve_right id
  have e1:(feedP f n k).1=withS f (foodP f n k).2:=by rw[hff]
  have e2:(feedP f n k).2.1=if(foodP f n k).1=true then 0 else nextPg (withS f (foodP f n k).2) n k:=by rw[hff]
  have e3:(feedP f n k).2.2=if(foodP f n k).2=[] then [] else [⟨(foodP f n k).2⟩]:=by rw[hff]
  have hx':findK (rws (feedP f n k).1 D' 0) k=some x:=by rw[f3];exact hx
  unfold tree_Take_l1
  rw[loopF_succ]
  generalize hr2:loopF _ m=r2
  replace hr2:tree_Take_l1 N m=r2:=hr2
  have hxp:(kidAt (pg f n).kids (kidI (pg f n).kids k)).page=nextPg f n k:=rfl
  have hki:=h.kid_idx
  simp only[hi,Option.bind_some,h.pkid N hN,hki,hxp,hxi,psmall_eq N hN hxc hk0,jn,tree_Take_j2]
  rw[show((pg f n).kind==2)=true from by rw[h.kind.1];rfl,cond_true]
  have hih:=λgs' hg'=>ih m D' (feedP f n k).1 (feedP f n k).2.1 gs' f1 f2 hx' (by omega) hg'
  rw[takeW]
  simp only
  by_cases hsm:sizeP (pg f (nextPg f n k))≤2
  ·have hne:(foodP f n k).2≠[]:=λe=>by
    have h3:∀l:List Sheet,l.length=3→srtS l≠[]:=λl hl e=>by have:=(srtS_perm l).length_eq;rw[e,hl] at this;simp at this
    unfold foodP at e
    rw[if_pos hsm] at e
    split at e
    ·split at e
     ·exact h3 _ (by simp[rootS]) e
     ·exact h3 _ (by simp[joinS]) e
    ·exact h3 _ (by simp[levS]) e
   rw[if_neg hne] at e3
   rw[decide_eq_true hsm,cond_true,fed_eq N hN h hs hsm gs (by omega)]
   simp only[Option.bind_some]
   have hih':=hih (gs++[⟨(foodP f n k).2⟩]) (by simp;omega)
   rw[hr2] at hih'
   rw[e3]
   cases hb:(foodP f n k).1 with
   |true=>
    rw[hb,if_pos rfl] at e2
    have hn0:=s3 hb
    rw[cond_true]
    rw[e1,e2] at hih'⊢
    rw[hn0] at hih'⊢
    rw[hih'];simp
   |false=>
    rw[hb,if_neg (by simp)] at e2
    rw[cond_false,tdown_eq N hN (s4 hb)]
    simp only[Option.bind_some]
    rw[e1,e2] at hih'⊢
    rw[hih'];simp
  ·have hz:foodP f n k=(false,[]):=by unfold foodP;rw[if_neg hsm]
   rw[hz] at e1 e2 e3
   rw[if_pos rfl] at e3
   rw[if_neg (by simp)] at e2
   rw[decide_eq_false hsm,cond_false,cond_false,tdown_eq N hN h]
   simp only[Option.bind_some]
   have hih':=hih gs (by omega)
   rw[hr2] at hih'
   rw[e3,e1,e2]
   rw[e1,e2] at hih'
   exact hih'.trans (by simp)
theorem tget_eq(N:Nat)(hN:2000≤N){f:List Content}{D:Nat}(h:Good f D)(k:Key):tree_Get N ⟨f⟩ k=some (ofF (findK (rws f D 0) k)):=by
 unfold tree_Get
 rw[check_good N hN h]
 simp only[Option.bind_some,show((0:Int) !=0)=false from rfl,cond_false,get_good N hN h k]
theorem ttake_eq(N:Nat)(hN:2000≤N){f:List Content}{D:Nat}(h:Good f D)(hK:KeysF f){k:Key}(hk:ltK k key0=false){x:Row}(hx:findK (rws f D 0) k=some x):∃gs,tree_Take N ⟨f⟩ k=some (x,0,gs)∧ref13_Take N ⟨f⟩ k=some gs:=by
 have hpos:=h.pos
 have hdeep:=h.deep
 obtain⟨f',n',G,D',l,e1,e2,e3,e4,e5,e6,e7,e8,e9,e10,e11,_⟩:=rtake_eq N hN h hK hk hx
 refine⟨_, ?_,e11⟩
 unfold tree_Take tree_begun
 rw[tget_eq N hN h,hx]
 simp only[Option.bind_some,ofF,show((0:Int) !=0)=false from rfl,cond_false,cloneC_eq N f (by have:=h.len;omega)]
 rw[ttake_go N (by omega) (D-1) N D f 0 [] (by rw[show D-1+1=D by omega];exact On.root h hk) (λe=>absurd rfl e) hx (by omega) (by simp;omega),e1]
 simp only[e3,List.nil_append]
end Go.Proofs.YtlcmdgpjiendmaaGreat
namespace Go.Proofs.YtlcmdgpjiendmaaGreat
open Go.Bur
set_option linter.unusedSimpArgs false
set_option linter.unusedVariables false
set_option maxRecDepth 100000
theorem grp_len{f:List Content}{l:List Sheet}(h:Grp f l):l.length≤64:=by
 have:=nodup_len h.nodup λx hx=>by obtain⟨s,hs,rfl⟩:=List.mem_map.1 hx;exact h.rng s hs
 rwa[List.length_map] at this
def AppR:List Content→List Group→List Content→Prop
 |f,[],f'=>f'=f
 |f,g::gs,f'=>SheetsIn g.sheets∧g.sheets.length≤900∧(∃D,Good (withS f g.sheets) D)∧AppR (withS f g.sheets) gs f'
theorem appR_chain{R:List Row}:∀{gs:List Group} {f f':List Content},Chain R f gs f'→AppR f gs f'
 |[],_,_,h=>h
 |g::gs,_,_,⟨h1,_,⟨D,h2,_⟩,h3⟩=>⟨h1.rng,by have:=grp_len h1;omega,⟨D,h2⟩,appR_chain h3⟩
theorem appR_app:∀{gs hs:List Group} {f f' f'':List Content},AppR f gs f'→AppR f' hs f''→AppR f (gs++hs) f''
 |[],_,_,_,_,h1,h2=>by cases h1;exact h2
 |g::gs,_,_,_,_,⟨a,b,c,h1⟩,h2=>⟨a,b,c,appR_app h1 h2⟩
theorem appR_put{R:List Row}{gs:List Group}{f f':List Content}{sh:List Sheet}{D:Nat}(h:Chain R f gs f')(h1:Grp f' sh)(h2:Good (withS f' sh) D):AppR f (gs++[⟨sh⟩]) (withS f' sh):=
 appR_app (appR_chain h) ⟨h1.rng,Nat.le_trans (grp_len h1) (by omega),⟨D,h2⟩,rfl⟩
theorem app_l2(n:Nat)(r1:(List Group)×Int×Int×Forest×(List Content)×(List Group)×Unit→Option (Forest×Int))(gs:List Group)(a b:Int)(z:Forest)(ss:List Sheet)(hss:ss.length≤1000)(q:List Group):∀(m:Nat)(t:List Sheet)(i:Nat)(f:List Content),ss.drop i=t→i≤ss.length→t.length<m→f.length=64→SheetsIn t→
  tree_Apply_l2 n r1 m (gs,a,b,ss,(ss.length:Int),(i:Int),z,f,q,())=(tree_Check n ⟨withS f t⟩).bind λy=>cond (y !=0) (some (⟨[]⟩,2)) (r1 (gs,a,IntKind.wrap .i64 (b+1),z,withS f t,q,())):=by
 intro m
 induction m with
 |zero=>intro t i f _ _ h;omega
 |succ m ih=>
  intro t i f ht hi hk hf hl
  unfold tree_Apply_l2
  rw[loopF_succ]
  generalize hr:loopF _ m=r2
  replace hr:tree_Apply_l2 n r1 m=r2:=hr
  simp only[hr] at ih
  cases t with
  |nil=>
   cases drop_end ht hi
   simp only[ge_dec (Nat.lt_irrefl _),cond_false];rfl
  |cons x t=>
   obtain⟨h1,h2,h3⟩:=drop_get ht
   have hi2:i<4611686018427387904:=by omega
   have hx:=hl x (List.mem_cons_self ..)
   obtain⟨j,hj⟩:∃j:Nat,x.page=(j:Int):=⟨x.page.toNat,by omega⟩
   have hput:put f x.page x.content=some (setP f x.page x.content):=by unfold setP;rw[hj,Int.toNat_natCast];exact put_ok (by omega)
   simp only[lt_dec h3,cond_true,idx_nat,h1,Option.bind_some,jn,show decide (x.page<0)=false from decide_eq_false (by omega),show decide (x.page≥64)=false from decide_eq_false (by omega),cond_false,show idx f x.page=some (pg f x.page) from idx_pg ⟨hx.1,by omega⟩,hput,wrap_succ hi2]
   exact ih t (i+1) _ h2 (by omega) (by simp only[List.length_cons] at hk;omega) (by rw[set_len];exact hf) (λs hs=>hl s (List.mem_cons_of_mem _ hs))
theorem app_go(n:Nat)(hn:2000≤n)(gs:List Group)(hg:gs.length≤1000)(z:Forest)(q:List Group):∀(m:Nat)(t:List Group)(i:Nat)(f f':List Content),gs.drop i=t→i≤gs.length→t.length<m→f.length=64→AppR f t f'→
  tree_Apply_l1 n m (gs,(gs.length:Int),(i:Int),z,f,q,())=some (⟨f'⟩,0):=by
 intro m
 induction m with
 |zero=>intro t i f f' _ _ h;omega
 |succ m ih=>
  intro t i f f' ht hi hk hf h
  unfold tree_Apply_l1
  rw[loopF_succ]
  generalize hr:loopF _ m=r1
  replace hr:tree_Apply_l1 n m=r1:=hr
  simp only[hr] at ih
  cases t with
  |nil=>
   cases drop_end ht hi
   cases h
   simp only[ge_dec (Nat.lt_irrefl _),cond_false]
  |cons g t=>
   obtain⟨h1,h2,h3⟩:=drop_get ht
   obtain⟨a1,a2,⟨D,a3⟩,a4⟩:=h
   simp only[lt_dec h3,cond_true,idx_nat,h1,Option.bind_some]
   refine(app_l2 n r1 gs _ _ z g.sheets (by omega) q n g.sheets 0 f rfl (Nat.zero_le _) (by omega) hf a1).trans ?_
   rw[check_good n hn a3]
   simp only[Option.bind_some,show((0:Int) !=0)=false from rfl,cond_false,wrap_succ (show i<4611686018427387904 by omega)]
   exact ih t (i+1) _ f' h2 (by omega) (by simp only[List.length_cons] at hk;omega) a3.len a4
theorem apply_eq(n:Nat)(hn:2000≤n){f f':List Content}{D:Nat}(hg:Good f D){gs:List Group}(hl:gs.length≤1000)(h:AppR f gs f'):tree_Apply n ⟨f⟩ gs=some (⟨f'⟩,0):=by
 unfold tree_Apply tree_begun
 simp only[check_good n hn hg,Option.bind_some,show((0:Int) !=0)=false from rfl,cond_false,cloneC_eq n f (by have:=hg.len;omega)]
 exact app_go n hn gs hl _ _ n gs 0 f f' rfl (Nat.zero_le _) (by omega) hg.len h
theorem tput_bad(N:Nat)(hN:2000≤N){f:List Content}{D:Nat}(h:Good f D){r:Row}(hr:okRow r=false):tree_Put N ⟨f⟩ r=some (151,[]):=by
 unfold tree_Put
 simp only[check_good N hN h,Option.bind_some,show((0:Int) !=0)=false from rfl,cond_false,checkRow_eq,hr]
 rfl
end Go.Proofs.YtlcmdgpjiendmaaGreat
namespace Go.Proofs.YtlcmdgpjiendmaaGreat
open Go.Bur
set_option linter.unusedSimpArgs false
set_option linter.unusedVariables false
set_option maxRecDepth 100000
theorem find_put{r:Row}{l:List Row}(hs:Srt l):findK (putR r l) r.key=some r∧findK (others r.key (putR r l)) r.key=none∧putR r (others r.key (putR r l))=putR r l:=by
 have main:∀{pre post:List Row},Cut r.key pre post→putR r l=pre++r::post→_:=λ{pre post} hc e=>by
  have e2:others r.key (pre++r::post)=pre++post:=others_in rfl hc
  have h1:findK (putR r l) r.key=some r:=by rw[e,findK_app,findK_none hc.ne1,findK_cons,if_pos rfl];rfl
  have h2:findK (others r.key (putR r l)) r.key=none:=findK_none λx hx=>by
   have:=(List.mem_filter.1 hx).2
   simpa using this
  have h3:putR r (others r.key (putR r l))=putR r l:=by rw[e,e2,putR_new hc]
  exact And.intro h1 (And.intro h2 h3)
 rcases stand hs r.key with⟨pre,y,post,rfl,hy,hc,_⟩|⟨pre,post,rfl,hc,_⟩
 ·exact main hc (putR_in hy hc)
 ·exact main hc (putR_new hc)
theorem keys_tookF{f f':List Content}{D:Nat}{k:Key}{n':Int}{G:List Group}(hg:Good f D)(hk:ltK k key0=false)(hK:KeysF f)(e1:takeW k (D-1) f 0=(f',n',G)):KeysF f':=by
 have:=keys_takeW (k:=k) (d:=D-1) (D:=D) (f:=f) (n:=0) (by rw[show D-1+1=D by have:=hg.pos;omega];exact On.root hg hk) (λe=>absurd rfl e) hK
 rw[e1] at this;exact this
theorem tput_sum(N:Nat)(hN:2000≤N){f:List Content}{D:Nat}(hg:Good f D)(hK:KeysF f)(h63:(rws f D 0).length<64){r:Row}(hr:okRow r=true)(hi:KeyIn r.key):
  ∃gs f2 D2,tree_Put N ⟨f⟩ r=some (0,gs)∧AppR f gs f2∧gs.length≤101∧Good f2 D2∧KeysF f2∧rws f2 D2 0=putR r (rws f D 0):=by
 have hk:=okRow_low hr hi
 rcases rput_eq N hN hg hr hk with⟨_,e,_⟩|⟨f',n',G,D',l,e1,e2,e3,e4,e5,e6,e7,e8,e9,e10,e11,e12,_⟩
 ·omega
 ·refine⟨_,_,D',by rw[tput_eq N hN hg hr hk,e11],appR_put e7 e8 e9,by simp;omega,e9,keys_leaf e2.page.2.1 (keys_way hg hk hK e1) e8 λx hx=> ?_,e10⟩
  rcases putR_mem e4.srt x hx with rfl|hx
  ·exact hi
  ·exact(keys_way hg hk hK e1 n').rows x (by rw[e3];exact hx)
theorem ttake_sum(N:Nat)(hN:2000≤N){f:List Content}{D:Nat}(hg:Good f D)(hK:KeysF f){k:Key}(hk:ltK k key0=false){x:Row}(hx:findK (rws f D 0) k=some x):
  ∃gs f2 D2,tree_Take N ⟨f⟩ k=some (x,0,gs)∧AppR f gs f2∧gs.length≤101∧Good f2 D2∧KeysF f2∧rws f2 D2 0=others k (rws f D 0):=by
 obtain⟨gs,t1,t2⟩:=ttake_eq N hN hg hK hk hx
 obtain⟨f',n',G,D',l,e1,e2,e3,e4,_,_,e7,e8,e9,e10,e11,e12,_⟩:=rtake_eq N hN hg hK hk hx
 rw[t2] at e11
 cases e11
 have hKf:=keys_tookF hg hk hK e1
 refine⟨_,_,D',t1,appR_put e7 e8 e9,by simp;omega,e9,keys_leaf e2.page.2.1 hKf e8 λy hy=> ?_,e10⟩
 exact(hKf n').rows y (by rw[e3];exact(List.mem_filter.1 hy).1)
theorem plainTreeBack(b:law13_Build)(r:Row)(hb:okT tab 9 (.st 0) b)(hr:okT tab 9 (.st 2) r):∃n,law13_TreeBack n b r=some true:=by
 refine⟨30000, ?_⟩
 obtain⟨f,e,D,hg,hK,h60⟩:=built_ok 30000 (by omega) b
 have hki:KeyIn r.key:=by
  obtain⟨a,b⟩:=hr.2.1
  have b:r.key.id≤65535:=b
  exact⟨a,by omega⟩
 unfold law13_TreeBack
 rw[wakes]
 simp only[Option.bind_some,Bool.not_true,cond_false,e]
 cases decide ((r.note.size:Int)>100) with
 |true=>rfl
 |false=>
 simp only[cond_false]
 cases hok:okRow r with
 |false=>
  rw[tput_bad 30000 (by omega) hg hok];rfl
 |true=>
 have hk:=okRow_low hok hki
 obtain⟨p1,p2,p3⟩:=find_put (r:=r) (sub_rows hg.tree).1
 obtain⟨gs,f2,D2,a1,a2,a3,a4,a5,a6⟩:=tput_sum 30000 (by omega) hg hK (by omega) hok hki
 have hx:findK (rws f2 D2 0) r.key=some r:=by rw[a6];exact p1
 obtain⟨ts,f3,D3,b1,b2,b3,b4,b5,b6⟩:=ttake_sum 30000 (by omega) a4 a5 hk hx
 have hn:findK (rws f3 D3 0) r.key=none:=by rw[b6,a6];exact p2
 have hlen:(rws f3 D3 0).length<64:=by
  have h1:=others_len (sub_rows a4.tree).1 hx
  have h2:=putR_len (r:=r) (sub_rows hg.tree).1
  rw[b6]
  rw[a6] at h1⊢
  split at h2<;>omega
 obtain⟨qs,f4,D4,c1,c2,c3,c4,c5,c6⟩:=tput_sum 30000 (by omega) b4 b5 hlen hok hki
 have hsame:rws f4 D4 0=rws f2 D2 0:=by rw[c6,b6,a6];exact p3
 have hrows:=a4.rows
 simp only[a1,apply_eq 30000 (by omega) hg (by omega) a2,tget_eq 30000 (by omega) a4,hx,ofF,b1,apply_eq 30000 (by omega) a4 (by omega) b2,tget_eq 30000 (by omega) b4,hn,c1,apply_eq 30000 (by omega) b4 (by omega) c2,rows_good 30000 (by omega) c4,rows_good 30000 (by omega) a4,hsame,rsameR_eq 30000 (by omega) _ _ (show(rws f2 D2 0).length≤1000 by omega),eqL_refl eqb_row,Option.bind_some,jn,eqb_row,show((0:Int) !=0)=false from rfl,show((0:Int)==0)=true from rfl,show((4:Int) !=4)=false from rfl,Bool.not_true,cond_false,cond_true]
end Go.Proofs.YtlcmdgpjiendmaaGreat
