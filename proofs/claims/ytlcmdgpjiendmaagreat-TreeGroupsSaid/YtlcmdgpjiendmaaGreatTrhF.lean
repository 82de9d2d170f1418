import Derived.Test.YtlcmdgpjiendmaaGreatTrgA
namespace Go.Proofs.YtlcmdgpjiendmaaGreat
open Go.Bur
set_option linter.unusedSimpArgs false
set_option linter.unusedVariables false
set_option maxRecDepth 100000
theorem Ks{l:List Row}(h:mI l):Bw ⟨1,l,[]⟩=0:=by
 have hck:aV ⟨1,l,[]⟩=true:=(gU _).2 (Or.inr (Or.inl ⟨l,rfl,h⟩))
 unfold Bw;rw[if_pos hck];rfl
theorem Hg{l:List Row}(h:mI l):dS ⟨1,l,[]⟩:=bS ((gU _).2 (Or.inr (Or.inl ⟨l,rfl,h⟩)))
theorem YM(N:Nat)(hN:1003<=N){l:List Row}(hl:mI l){r:Row}(hr:eF r=true)(hs:cL l r.key=none->l.length<=3):kJ N ⟨1,l,[]⟩ r=some (⟨1,rD r l,[]⟩,0):=by
 rcases MP hl.srt r.key with⟨pre,x,post,e,hx,hc,_⟩|⟨pre,post,e,hc,hf⟩
 ·subst e
  rw[Dj hx hc]
  exact ZU N hN _ (Hg hl) r (Ks hl) hr rfl hx
 ·have:=hs hf
  subst e
  rw[Ai hc]
  exact X5 N hN _ (Hg hl) r (Ks hl) hr rfl hc this
theorem Tn{f:List aA}{n:Int}{l:List Row}(hn:0<=n/\n<64):Grp f (one n l):=⟨λs hs=>by cases List.mem_singleton.1 hs;exact hn,by simp[one]⟩
def YN(new:Bool):Int:=if new=true then 4 else 0
theorem Tp(new:Bool):(YN new==4)=new:=by cases new<;>rfl
def QW(r:Row)(gs:List aG):Option (List aA×Int×List aG)->Option (Int×List aG)
 |none=>some (6,[])
 |some z=>some (0,gs++(z.2.2++[⟨one z.2.1 (rD r (pg z.1 z.2.1).rows)⟩]))
theorem W9(r:Row)(gs G:List aG)(o:Option (List aA×Int×List aG)):QW r gs (o.map λz=>(z.1,z.2.1,G++z.2.2))=QW r (gs++G) o:=by
 cases o with
 |none=>rfl
 |some z=>simp only[Option.map_some,QW,List.append_assoc]
theorem OB(N:Nat)(hN:1003<=N){r:Row}(hr:eF r=true)(new:Bool):∀(d m D:Nat)(f:List aA)(n:Int)(gs:List aG),On f D (d+1) n r.key->(new=true->aD (pg f n)<=3)->(cL (rws f D 0) r.key=none->new=true)->d<m->gs.length+d<=900->
  jC N m (n,YN new,r,f,gs,())=QW r gs (nT r.key new d f n):=by
 intro d
 induction d with
 |zero=>
  intro m D f n gs h hs hnew hm hg
  obtain⟨m,rfl⟩:∃m',m=m'+1:=⟨m-1,by omega⟩
  obtain⟨hn,hf,hi,_⟩:=h.page
  obtain⟨l,hp,hl,_,hfk⟩:=h.leaf
  unfold jC
  rw[aM]
  simp only[hi,Option.bind_some]
  rw[show((pg f n).kind==2)=false from by rw[hp];rfl,cond_false]
  have hpp:=YM N hN hl hr (λe=>by have:=hs (hnew (by rw[hfk];exact e));rw[hp] at this;simpa[aD] using this)
  rw[<-hp] at hpp
  simp only[hpp,Option.bind_some]
  rw[show([(aF.mk n (aA.mk 1 (rD r l) []))]:List aF)=one n (rD r l) from rfl,wU N hN hf (Tn hn) (by simp[one]) gs (by omega)]
  simp only[nT,QW,hp,Option.bind_some,List.nil_append];rfl
 |succ d ih=>
  intro m D f n gs h hs hnew hm hg
  obtain⟨m,rfl⟩:∃m',m=m'+1:=⟨m-1,by omega⟩
  obtain⟨hn,hf,hi,_⟩:=h.page
  obtain⟨hx,_,hxi,hxc⟩:=h.next.page
  unfold jC
  rw[aM]
  generalize hr2:aW _ m=r2
  replace hr2:jC N m=r2:=hr2
  have hxp:(bZ (pg f n).kids (cB (pg f n).kids r.key)).page=aZ f n r.key:=rfl
  have hki:=h.kid_idx
  simp only[hi,Option.bind_some,h.pkid N hN,hki,hxp,hxi,QV N hN hxc,Tp]
  rw[show((pg f n).kind==2)=true from by rw[h.kind.1];rfl,cond_true]
  rcases CD h hs with⟨e1,e2,e3⟩|⟨f',n',G,e1,⟨e2,e3,e4,e5⟩,_⟩
  ·subst e1
   have hfull:cS (pg f (aZ f n r.key))=true:=by
    unfold mS at e3
    by_cases hf:cS (pg f (aZ f n r.key))=true
    ·exact hf
    ·rw[if_neg (by simpa[aZ] using hf)] at e3;cases e3
   rw[cond_true,hfull,cond_true,MX N hN h (hs rfl) hfull gs (by omega),e2,nT,e3]
   rfl
  ·rw[nT,e1]
   simp only[Option.bind_some]
   rw[W9]
   have hnew':cL (rws f' D 0) r.key=none->new=true:=by rw[e4];exact hnew
   rcases MU e1 with⟨h1,h2⟩|⟨mm,h1,h2⟩
   ·subst h1 h2
    have hb:(new&&cS (pg f' (aZ f' n r.key)))=false:=by
     unfold mS at e1
     by_cases hb:(new&&cS (pg f' (bZ (pg f' n).kids (cB (pg f' n).kids r.key)).page))=true
     ·rw[if_pos hb] at e1
      split at e1
      ·cases e1
      ·injection e1 with e1;injection e1 with _ e1;injection e1 with _ e1;cases e1
     ·simpa[aZ] using hb
    have hn':aZ f' n r.key=n':=by
     unfold mS at e1
     rw[if_neg (by rw[hxp,hb];simp)] at e1
     injection e1 with e1;injection e1 with _ e1;injection e1 with e1 _
    have hgo:((aY N ⟨⟨f'⟩,gs⟩ n r.key).bind λy=>r2 (y,YN new,r,f',gs,()))=QW r (gs++[]) (nT r.key new d f' n'):=by
     rw[Gf N hN h,hn',List.append_nil]
     simp only[Option.bind_some]
     rw[<-hr2]
     exact ih m D f' n' gs e2 e3 hnew' (by omega) (by omega)
    cases hnw:new with
    |true=>
     rw[hnw,Bool.true_and] at hb
     rw[hnw] at hgo
     rw[cond_true,hb,cond_false,cond_false]
     exact hgo
    |false=>
     rw[hnw] at hgo
     rw[cond_false,cond_false,cond_false]
     exact hgo
   ·have hb:(new&&cS (pg f (aZ f n r.key)))=true:=by
     unfold mS at e1
     by_cases hb:(new&&cS (pg f (bZ (pg f n).kids (cB (pg f n).kids r.key)).page))=true
     ·exact hb
     ·rw[if_neg hb] at e1
      injection e1 with e1;injection e1 with _ e1;injection e1 with _ e1
      rw[h2] at e1;cases e1
    have hb2:=hb
    rw[Bool.and_eq_true] at hb2
    obtain⟨rfl,hfull⟩:=hb2
    have hmm:∃t,dZ f=mm::t:=by
     unfold mS at e1
     rw[if_pos (show(true&&cS (pg f (bZ (pg f n).kids (cB (pg f n).kids r.key)).page))=true from hb)] at e1
     cases hfr:dZ f with
     |nil=>rw[hfr] at e1;cases e1
     |cons m0 t=>
      rw[hfr] at e1
      injection e1 with e1;injection e1 with _ e1;injection e1 with _ e1
      rw[h2] at e1
      have h5:=congrArg (λl:List aG=>l.map λg=>g.sheets) e1
      simp only[List.map_cons,List.map_nil,List.cons.injEq,and_true] at h5
      have h6:m0∈(bK (dI f n (cB (pg f n).kids r.key) mm)).map (·.page):=by
       rw[<-h5]
       exact((cU _).map _).mem_iff.2 (by simp[dI])
      have h7:mm∈(bK (dI f n (cB (pg f n).kids r.key) m0)).map (·.page):=by
       rw[h5]
       exact((cU _).map _).mem_iff.2 (by simp[dI])
      obtain⟨lo,hi',Q,R1,R2,hA,_⟩:=h
      have hfree:=(hA.free (m:=m0) (by rw[hfr];exact List.mem_cons_self ..)).2
      have hxin:aZ f n r.key∈pgs f (d+2) n:=List.mem_cons_of_mem _ (List.mem_flatMap.2 ⟨bZ (pg f n).kids (cB (pg f n).kids r.key),List.mem_of_getElem? (by rw[<-aR];exact hki),cG⟩)
      have h8:=((cU _).map (·.page)).mem_iff.1 h6
      simp only[dI,List.map_cons,List.map_nil,List.mem_cons,List.not_mem_nil,or_false] at h8
      rcases h8 with h8|h8|h8
      ·exact absurd (List.mem_append_right _ (h8▸cG)) hfree
      ·exact absurd (List.mem_append_right _ (h8▸hxin)) hfree
      ·exact⟨t,by rw[h8]⟩
    obtain⟨t,hfr⟩:=hmm
    have hsz:On f' D (d+2) n r.key:=by
     obtain⟨l1,x,l2,hp,hI,hii,c1,c2,hd⟩:=h.kids
     have hnx:aZ f n r.key=x.page:=by unfold aZ;rw[hp];simp only;rw[<-hii];exact congrArg (·.page) eP
     have hik:cB (pg f n).kids r.key=l1.length:=by rw[hp];exact hii.symm
     rw[hnx] at hfull
     have h4:aD (pg f x.page)=4:=by unfold cS at hfull;rw[Bool.and_eq_true] at hfull;exact of_decide_eq_true hfull.2
     obtain⟨_,g2,_⟩:=CC h hp c1 c2 (by have:=hs rfl;rw[hp] at this;simpa[aD] using this) h4 (m:=mm) (by rw[hfr];exact List.mem_cons_self ..)
     rw[h1,hik];exact g2
    have hn':aZ f' n r.key=n':=by
     unfold mS at e1
     rw[if_pos (show(true&&cS (pg f (bZ (pg f n).kids (cB (pg f n).kids r.key)).page))=true from hb),hfr] at e1
     injection e1 with e1;injection e1 with e0 e1;injection e1 with e1 _
     rw[<-e1,<-e0];rfl
    rw[cond_true,hfull,cond_true,MX N hN h (hs rfl) hfull gs (by omega),hfr]
    simp only[Option.bind_some,Bool.not_true,cond_false]
    rw[<-h1,<-h2,Gf N hN hsz,hn']
    simp only[Option.bind_some]
    rw[<-hr2]
    have:=ih m D f' n' (gs++G) e2 e3 hnew' (by omega) (by rw[h2];simp;omega)
    rw[h2] at this|-
    exact this
theorem aau(N:Nat):BV N=jC N:=rfl
theorem aav(N:Nat):BW N=jC N:=rfl
theorem UJ{r:Row}(N:Nat)(hr:eF r=true):gD N r=some 0:=by rw[sV,if_pos hr]
theorem Xa(N:Nat)(hN:2000<=N){f:List aA}{D:Nat}(h:Good f D){r:Row}(hr:eF r=true)(hk:ltK r.key cC=false):pB N ⟨f⟩ r=QW r [] (G9 f D r.key (Gc (rws f D 0) r.key)):=by
 have hlen:=h.len
 have hdeep:=h.deep
 have hpos:=h.pos
 obtain⟨d,rfl⟩:∃d,D=d+1:=⟨D-1,by omega⟩
 have hi:idx f 0=some (pg f 0):=gI ⟨by omega,by omega⟩
 have hc:=h.ok 0 ⟨by omega,by omega⟩
 have hf0:=rC h.tree
 have h4:=(wS h.tree).2.1
 have herr:∀R:List Row,(ofF (cL R r.key)).2=YN (Gc R r.key):=λR=>by
  unfold Gc;cases cL R r.key<;>rfl
 have hnew:=fun(e:cL (rws f (d+1) 0) r.key=none)=>Kd.2 e
 unfold pB kH
 simp only[qZ N hN h,Option.bind_some,show((0:Int) !=0)=false from rfl,cond_false,UJ N hr,De N f (by omega),Qy N hN h,herr,Tp,hi,QV N (by omega) hc,aau,aav]
 generalize Gc (rws f (d+1) 0) r.key=new at hnew|-
 unfold G9
 cases hn:new with
 |false=>
  rw[Bool.false_and,if_neg (by simp),Nat.add_sub_cancel]
  simp only[cond_false]
  have:=OB N (by omega) hr false d N (d+1) f 0 [] (On.root h hk) (λe=>by cases e) (λe=>by rw[<-hn];exact hnew e) (by omega) (by simp;omega)
  exact this
 |true=>
  rw[Bool.true_and,cond_true]
  by_cases hfu:cS (pg f 0)=true
  ·rw[if_pos hfu,hfu,cond_true,Sf N (by omega) h hfu]
   match hfr:dZ f with
   |[]=>rfl
   |[a]=>rfl
   |a::b::t=>
    have hsz:aD (pg f 0)=4:=by rw[hf0] at hfu;exact of_decide_eq_true hfu
    obtain⟨q1,q2,q3,q4,_⟩:=vH h hsz hfr
    simp only[Option.bind_some,Bool.not_true,cond_false]
    have:=OB N (by omega) hr true (d+1) N (d+2) _ 0 [⟨bK (dD f a b)⟩] (On.root q2 hk) (λ_=>by rw[q4];simp[aD]) (λ_=>rfl) (by omega) (by simp;omega)
    refine this.trans ?_
    cases nT r.key true (d+1) (aL f (bK (dD f a b))) 0<;>rfl
  ·rw[if_neg hfu]
   rw[Bool.not_eq_true] at hfu
   rw[hfu,Nat.add_sub_cancel]
   simp only[cond_false]
   have:=OB N (by omega) hr true d N (d+1) f 0 [] (On.root h hk) (λ_=>by rw[hf0,decide_eq_false_iff_not] at hfu;omega) (λ_=>rfl) (by omega) (by simp;omega)
   exact this
theorem YO(N:Nat)(hN:2000<=N){f:List aA}{D:Nat}(h:Good f D){r:Row}(hr:eF r=true)(hk:ltK r.key cC=false):pB N ⟨f⟩ r=lI N ⟨f⟩ r:=by
 rw[Xa N hN h hr hk]
 rcases Ox N hN h hr hk with⟨_,_,e1,e2⟩|⟨f',n',G,D',l,e1,_,e3,_,_,_,_,_,_,_,e11,_⟩
 ·rw[e1,e2];rfl
 ·rw[e1,e11]
  simp only[QW,e3,List.nil_append]
end Go.Proofs.YtlcmdgpjiendmaaGreat
namespace Go.Proofs.YtlcmdgpjiendmaaGreat
open Go.Bur
set_option linter.unusedSimpArgs false
set_option linter.unusedVariables false
set_option maxRecDepth 100000
theorem Sg(n:Nat)(hn:1003<=n){p1 p2:List Kid}{u v:Kid}(h:dP (p1++u::v::p2))(h':dP (p1++u::p2)):sR n ⟨2,[],p1++u::v::p2⟩ ((p1.length+1:Nat):Int)=some (⟨2,[],p1++u::p2⟩,0):=by
 have hc:=bS (xR h)
 have h4:=h.four
 have h2:=h'.two
 have hlen:(p1++u::v::p2).length=(p1++u::p2).length+1:=by simp;omega
 have hin:p1.length+1<(p1++u::v::p2).length:=by simp
 have hb:kQ n ⟨2,[],p1++u::v::p2⟩ ((p1.length+1:Nat):Int)=some true:=by
  unfold kQ
  simp only[jn,show decide (((p1.length+1:Nat):Int)>=1)=true from decide_eq_true (by omega),cond_true,bH hin]
 have hdel:pJ n ((p1.length+1:Nat):Int) (IntKind.wrap .i64 (((p1.length+1:Nat):Int)+1)) (p1++u::v::p2)=some (p1++u::p2):=by
  rw[aJ (by omega)]
  show Dx _ _ _=_
  unfold Dx
  rw[if_pos ⟨by omega,by omega,by omega⟩,Int.toNat_natCast,Int.toNat_natCast,Kf,Kg]
  simp
 unfold sR
 rw[AW n hn h]
 simp only[Option.bind_some,show((0:Int) !=0)=false from rfl,cond_false,hb,jn,Bool.not_true,size_eq n _ hc,qV n (p1++u::v::p2) (by omega),hdel,eW,OA n hn h']
 rw[show decide ((aD ⟨2,[],p1++u::v::p2⟩:Int)<=2)=false from decide_eq_false (by simp only[aD,List.length_nil];omega)]
 rfl
theorem Xb(n:Nat)(hn:1003<=n){p1 p2:List Kid}{u v:Kid}(h:dP (p1++u::v::p2)){s:Key}(h':dP (p1++u::⟨s,v.page⟩::p2)):CW n ⟨2,[],p1++u::v::p2⟩ ((p1.length+1:Nat):Int) s=some (⟨2,[],p1++u::⟨s,v.page⟩::p2⟩,0):=by
 have h4:=h.four
 have hin:p1.length+1<(p1++u::v::p2).length:=by simp
 have hb:kQ n ⟨2,[],p1++u::v::p2⟩ ((p1.length+1:Nat):Int)=some true:=by
  unfold kQ
  simp only[jn,show decide (((p1.length+1:Nat):Int)>=1)=true from decide_eq_true (by omega),cond_true,bH hin]
 have hput:put (p1++u::v::p2) ((p1.length+1:Nat):Int) ⟨s,v.page⟩=some (p1++u::⟨s,v.page⟩::p2):=by
  have:=X8 (A:=p1++[u]) (B:=p2) (o:=v) (x:=⟨s,v.page⟩)
  simpa using this
 unfold CW
 rw[AW n hn h]
 simp only[Option.bind_some,show((0:Int) !=0)=false from rfl,cond_false,hb,Bool.not_true,qV n (p1++u::v::p2) (by omega),(Oy (p1:=p1) (p2:=p2) (u:=u) (v:=v)).2,hput,eW,OA n hn h']
theorem UK(N:Nat)(hN:1003<=N){c:aA}(h:aV c=true)(hk:c.kind≠0):wD N c=some (decide (aD c<=2)):=by
 rw[VK N hN c (bS h),h,decide_eq_false hk];rfl
theorem On.kind0{f:List aA}{D d:Nat}{n:Int}{k:Key}(h:On f D (d+1) n k):(pg f n).kind≠0:=by
 obtain⟨lo,hi,Q,R1,R2,hA,_⟩:=h
 exact(mJ hA.tree n cG).2
theorem aaw(N:Nat)(hN:1003<=N){f:List aA}{D d:Nat}{n:Int}{k:Key}(h:On f D (d+2) n k)(hs:n≠0->3<=aD (pg f n))(h1:aD (pg f (aZ f n k))<=2)(gs:List aG)(hg:gs.length<=900):
  nC N n (cB (pg f n).kids k:Int) f gs=some ((dE f n k).1,aL f (dE f n k).2,gs++[⟨(dE f n k).2⟩]):=by
 obtain⟨hn,hf,hi,hc⟩:=h.page
 have hkl:=Oo h.kind.2.2.1 k
 have hk4:=h.kind.2.2.1.four
 obtain⟨p1,u,v,p2,hp,hI,ha,hsB,hup,hvp,hcu,hcv,hal,hu4,hv4,hR,hJ,hL,hj,hl⟩:=E1 h hs h1
 have hiu:idx f u.page=some (pg f u.page):=gI ⟨by omega,by omega⟩
 have hiv:idx f v.page=some (pg f v.page):=gI ⟨by omega,by omega⟩
 have hfu:=bS hcu
 have hfv:=bS hcv
 unfold dE
 rw[if_pos h1,ha]
 have key:nP N (n,((p1.length+1:Nat):Int),pg f n,f,gs,())=some ((if mU f n (p1.length+1)<=4 then(if n=0/\(pg f n).kids.length=2 then(true,bK (mT f n (p1.length+1))) else(false,bK (kW f n (p1.length+1)))) else(false,bK (Aj f n (p1.length+1)))).1,aL f (if mU f n (p1.length+1)<=4 then(if n=0/\(pg f n).kids.length=2 then(true,bK (mT f n (p1.length+1))) else(false,bK (kW f n (p1.length+1)))) else(false,bK (Aj f n (p1.length+1)))).2,gs++[⟨(if mU f n (p1.length+1)<=4 then(if n=0/\(pg f n).kids.length=2 then(true,bK (mT f n (p1.length+1))) else(false,bK (kW f n (p1.length+1)))) else(false,bK (Aj f n (p1.length+1)))).2⟩]):=by
  obtain⟨m1,m2⟩:=Oy (p1:=p1) (p2:=p2) (u:=u) (v:=v)
  have hw:IntKind.wrap .i64 (((p1.length+1:Nat):Int)-1)=(p1.length:Int):=by have:=hI.four;rw[cN (by simp only[List.length_append] at this;omega)];omega
  have hkd:(pg f n).kids=p1++u::v::p2:=by rw[hp]
  rw[<-hkd] at m1 m2
  unfold nP
  simp only[hw,m1,m2,Option.bind_some,hiu,hiv,TZ N hN _ _ v.least hfu hfv,jn]
  by_cases h2:mU f n (p1.length+1)<=4
  ·simp only[if_pos h2]
   obtain⟨hck,hsz,hr,hjn⟩:=hj h2
   have hJP:LZ (pg f u.page) (pg f v.page) v.least=(aO (pg f u.page) (pg f v.page) v.least,0):=by
    unfold LZ
    rw[hcu,hcv,hal,Bool.and_self,if_pos rfl,if_pos rfl,if_neg (by rw[hsB] at h2;omega),if_pos hck]
   rw[hJP]
   simp only[show((0:Int)==0)=true from rfl,cond_true,Qr]
   have hlen2:(((pg f n).kids.length:Int)==2)=decide ((pg f n).kids.length=2):=NJ (m:=2)
   by_cases h3:n=0/\(pg f n).kids.length=2
   ·simp only[if_pos h3]
    rw[decide_eq_true h3.1,cond_true,hlen2,decide_eq_true h3.2,cond_true]
    have g1:=(hr h3).1
    rw[hR] at g1|-
    rw[show(aA.mk 0 ([]:List Row) ([]:List Kid))=bT from rfl,wU N hN hf g1 (by simp) gs (by omega)];rfl
   ·simp only[if_neg h3]
    obtain⟨g1,g2⟩:=hjn h3
    rw[hJ] at g1 g2|-
    have e1:=(three hf g1.rng g1.nodup).1 _ (List.mem_cons_self ..)
    simp only at e1
    have hdis:=Sg N hN hI (g2.inner e1)
    rw[<-hp] at hdis
    have hgo:((sR N (pg f n) ((p1.length+1:Nat):Int)).bind λy19=>(bL N f gs ([(aF.mk n y19.1),(aF.mk u.page (aO (pg f u.page) (pg f v.page) v.least)),(aF.mk v.page (aA.mk 0 ([]:List Row) ([]:List Kid)))]:List aF)).bind λy20=>some (false,y20.1,y20.2))=some (false,aL f (bK [⟨n,⟨2,[],p1++u::p2⟩⟩,⟨u.page,aO (pg f u.page) (pg f v.page) v.least⟩,⟨v.page,bT⟩]),gs++[⟨bK [⟨n,⟨2,[],p1++u::p2⟩⟩,⟨u.page,aO (pg f u.page) (pg f v.page) v.least⟩,⟨v.page,bT⟩]⟩]):=by
     rw[hdis]
     simp only[Option.bind_some]
     rw[show(aA.mk 0 ([]:List Row) ([]:List Kid))=bT from rfl,wU N hN hf g1 (by simp) gs (by omega)];rfl
    by_cases hn0:n=0
    ·rw[decide_eq_true hn0,cond_true,hlen2,decide_eq_false (λe=>h3 ⟨hn0,e⟩),cond_false];exact hgo
    ·rw[decide_eq_false hn0,cond_false,cond_false];exact hgo
  ·simp only[if_neg h2]
   obtain⟨hne,hq,hsz,g1,g2⟩:=hl h2
   have hJP:LZ (pg f u.page) (pg f v.page) v.least=(bT,6):=by
    unfold LZ
    rw[hcu,hcv,hal,Bool.and_self,if_pos rfl,if_pos rfl,if_pos (by rw[hsB] at h2;omega)]
   have hLP:NT (pg f u.page) (pg f v.page) v.least=(eZ (aO (pg f u.page) (pg f v.page) v.least) (eU (pg f u.page) (pg f v.page)),eT (aO (pg f u.page) (pg f v.page) v.least) (eU (pg f u.page) (pg f v.page)),cF (aO (pg f u.page) (pg f v.page) v.least) (eU (pg f u.page) (pg f v.page)),0):=by
    unfold NT
    rw[hcu,hcv,hal,decide_eq_false hne]
    simp only[Bool.not_false,Bool.and_self,if_true,hq]
   rw[hL] at g1 g2|-
   have e1:=(three hf g1.rng g1.nodup).1 _ (List.mem_cons_self ..)
   simp only at e1
   have hstp:=Xb N hN hI (g2.inner e1)
   rw[<-hp] at hstp
   rw[hJP]
   simp only[show((6:Int)==0)=false from rfl,cond_false,RA N hN _ _ v.least hfu hfv,hLP,Option.bind_some,hstp]
   rw[wU N hN hf g1 (by simp) gs (by omega)];rfl
 unfold nC
 simp only[hi,Option.bind_some,jn]
 rw[aJ (show cB (pg f n).kids k<4611686018427387904 by omega),show(((cB (pg f n).kids k+1:Nat):Int)==((pg f n).kids.length:Int))=decide (cB (pg f n).kids k+1=(pg f n).kids.length) from NJ]
 unfold pV at ha
 by_cases he:cB (pg f n).kids k+1=(pg f n).kids.length
 ·rw[if_pos he] at ha
  rw[decide_eq_true he,cond_true,ha];exact key
 ·rw[if_neg he] at ha
  rw[decide_eq_false he,cond_false,ha];exact key
theorem Xc(N:Nat)(hN:1003<=N){l:List Row}(hl:mI l){k:Key}{x:Row}(hx:cL l k=some x):zN N ⟨1,l,[]⟩ k=some (⟨1,others k l,[]⟩,x,0):=by
 rcases MP hl.srt k with⟨pre,y,post,e,hy,hc,hf⟩|⟨pre,post,e,hc,hf⟩
 ·subst e
  rw[hx] at hf
  cases hf
  rw[GD hy hc]
  exact X6 N hN _ (Hg hl) k (Ks hl) rfl hy
 ·rw[hx] at hf;cases hf
theorem Xd(N:Nat)(hN:1003<=N){k:Key}{x z:Row}:∀(d m D:Nat)(f:List aA)(n:Int)(gs:List aG),On f D (d+1) n k->(n≠0->3<=aD (pg f n))->cL (rws f D 0) k=some x->d<m->gs.length+d<=800->
  pL N m (n,k,z,x,f,gs,())=some (x,0,gs++((cT k d f n).2.2++[⟨one (cT k d f n).2.1 (others k (pg (cT k d f n).1 (cT k d f n).2.1).rows)⟩])):=by
 intro d
 induction d with
 |zero=>
  intro m D f n gs h hs hx hm hg
  obtain⟨m,rfl⟩:∃m',m=m'+1:=⟨m-1,by omega⟩
  obtain⟨hn,hf,hi,_⟩:=h.page
  obtain⟨l,hp,hl,_,hfk⟩:=h.leaf
  unfold pL
  rw[aM]
  simp only[hi,Option.bind_some]
  rw[show((pg f n).kind==2)=false from by rw[hp];rfl,cond_false]
  have hpp:=Xc N hN hl (hfk▸hx)
  rw[<-hp] at hpp
  simp only[hpp,Option.bind_some]
  rw[show([(aF.mk n (aA.mk 1 (others k l) []))]:List aF)=one n (others k l) from rfl,wU N hN hf (Tn hn) (by simp[one]) gs (by omega)]
  simp only[cT,hp,Option.bind_some,List.nil_append];rfl
 |succ d ih=>
  intro m D f n gs h hs hx hm hg
  obtain⟨m,rfl⟩:∃m',m=m'+1:=⟨m-1,by omega⟩
  obtain⟨hn,hf,hi,_⟩:=h.page
  obtain⟨hxr,_,hxi,hxc⟩:=h.next.page
  have hk0:=h.next.kind0
  obtain⟨D',f1,f2,f3,f4,_⟩:=Ir h hs
  obtain⟨s1,s2,s3,s4,s5⟩:=E2 h hs
  have hff:=(Dl f n k).resolve_right id
  have e1:(cZ f n k).1=aL f (dE f n k).2:=by rw[hff]
  have e2:(cZ f n k).2.1=if(dE f n k).1=true then 0 else aZ (aL f (dE f n k).2) n k:=by rw[hff]
  have e3:(cZ f n k).2.2=if(dE f n k).2=[] then [] else [⟨(dE f n k).2⟩]:=by rw[hff]
  have hx':cL (rws (cZ f n k).1 D' 0) k=some x:=by rw[f3];exact hx
  unfold pL
  rw[aM]
  generalize hr2:aW _ m=r2
  replace hr2:pL N m=r2:=hr2
  have hxp:(bZ (pg f n).kids (cB (pg f n).kids k)).page=aZ f n k:=rfl
  have hki:=h.kid_idx
  simp only[hi,Option.bind_some,h.pkid N hN,hki,hxp,hxi,UK N hN hxc hk0,jn,FF]
  rw[show((pg f n).kind==2)=true from by rw[h.kind.1];rfl,cond_true]
  have hih:=λgs' hg'=>ih m D' (cZ f n k).1 (cZ f n k).2.1 gs' f1 f2 hx' (by omega) hg'
  rw[cT]
  simp only
  by_cases hsm:aD (pg f (aZ f n k))<=2
  ·have hne:(dE f n k).2≠[]:=λe=>by
    have h3:∀l:List aF,l.length=3->bK l≠[]:=λl hl e=>by have:=(cU l).length_eq;rw[e,hl] at this;simp at this
    unfold dE at e
    rw[if_pos hsm] at e
    split at e
    ·split at e
     ·exact h3 _ (by simp[mT]) e
     ·exact h3 _ (by simp[kW]) e
    ·exact h3 _ (by simp[Aj]) e
   rw[if_neg hne] at e3
   rw[decide_eq_true hsm,cond_true,aaw N hN h hs hsm gs (by omega)]
   simp only[Option.bind_some]
   have hih':=hih (gs++[⟨(dE f n k).2⟩]) (by simp;omega)
   rw[hr2] at hih'
   rw[e3]
   cases hb:(dE f n k).1 with
   |true=>
    rw[hb,if_pos rfl] at e2
    have hn0:=s3 hb
    rw[cond_true]
    rw[e1,e2] at hih'|-
    rw[hn0] at hih'|-
    rw[hih'];simp
   |false=>
    rw[hb,if_neg (by simp)] at e2
    rw[cond_false,Gf N hN (s4 hb)]
    simp only[Option.bind_some]
    rw[e1,e2] at hih'|-
    rw[hih'];simp
  ·have hz:dE f n k=(false,[]):=by unfold dE;rw[if_neg hsm]
   rw[hz] at e1 e2 e3
   rw[if_pos rfl] at e3
   rw[if_neg (by simp)] at e2
   rw[decide_eq_false hsm,cond_false,cond_false,Gf N hN h]
   simp only[Option.bind_some]
   have hih':=hih gs (by omega)
   rw[hr2] at hih'
   rw[e3,e1,e2]
   rw[e1,e2] at hih'
   exact hih'.trans (by simp)
theorem Tq(N:Nat)(hN:2000<=N){f:List aA}{D:Nat}(h:Good f D)(k:Key):FB N ⟨f⟩ k=some (ofF (cL (rws f D 0) k)):=by
 unfold FB
 rw[qZ N hN h]
 simp only[Option.bind_some,show((0:Int) !=0)=false from rfl,cond_false,Qy N hN h k]
theorem Sh(N:Nat)(hN:2000<=N){f:List aA}{D:Nat}(h:Good f D){k:Key}(hx:cL (rws f D 0) k=none):vC N ⟨f⟩ k=some (ZT,4,[]):=by
 unfold vC
 rw[Tq N hN h,hx];rfl
theorem Xe(N:Nat)(hN:2000<=N){f:List aA}{D:Nat}(h:Good f D)(hK:gL f){k:Key}(hk:ltK k cC=false){x:Row}(hx:cL (rws f D 0) k=some x):∃gs,vC N ⟨f⟩ k=some (x,0,gs)/\qS N ⟨f⟩ k=some gs:=by
 have hpos:=h.pos
 have hdeep:=h.deep
 obtain⟨f',n',G,D',l,e1,e2,e3,e4,e5,e6,e7,e8,e9,e10,e11,_⟩:=Km N hN h hK hk hx
 refine⟨_, ?_,e11⟩
 unfold vC kH
 rw[Tq N hN h,hx]
 simp only[Option.bind_some,ofF,show((0:Int) !=0)=false from rfl,cond_false,De N f (by have:=h.len;omega)]
 rw[Xd N (by omega) (D-1) N D f 0 [] (by rw[show D-1+1=D by omega];exact On.root h hk) (λe=>absurd rfl e) hx (by omega) (by simp;omega),e1]
 simp only[e3,List.nil_append]
end Go.Proofs.YtlcmdgpjiendmaaGreat
namespace Go.Proofs.YtlcmdgpjiendmaaGreat
open Go.Bur
set_option linter.unusedSimpArgs false
set_option linter.unusedVariables false
set_option maxRecDepth 100000
theorem Tr{f:List aA}{l:List aF}(h:Grp f l):l.length<=64:=by
 have:=oG h.nodup λx hx=>by obtain⟨s,hs,rfl⟩:=List.mem_map.1 hx;exact h.rng s hs
 rwa[List.length_map] at this
theorem Xf{f:List aA}{l:List aF}{D:Nat}(hf:f.length=64)(h:Grp f l)(hg:Good (aL f l) D):∀s∈l,dS s.content:=λs hs=>by
 rw[<-uW hf h.rng h.nodup s hs]
 exact bS (hg.ok _ (h.rng s hs))
theorem Kt{R:List Row}:∀{gs:List aG} {f f':List aA},f.length=64->qI R f gs f'->f'.length=64/\∀g∈gs,g.sheets.length<=1000/\∀s∈g.sheets,dS s.content
 |[],f,f',hf,h=>by cases h;exact⟨hf,by simp⟩
 |g::gs,f,f',hf,⟨h1,_,⟨D,h2,_⟩,h3⟩=>by
  obtain⟨e1,e2⟩:=Kt h2.len h3
  refine⟨e1,λx hx=> ?_⟩
  rcases List.mem_cons.1 hx with rfl|hx
  ·exact⟨by have:=Tr h1;omega,Xf hf h1 h2⟩
  ·exact e2 x hx
def aax:List aA->List aG->List aA->Prop
 |f,[],f'=>f'=f
 |f,g::gs,f'=>cH g.sheets/\g.sheets.length<=900/\(∃D,Good (aL f g.sheets) D)/\aax (aL f g.sheets) gs f'
theorem aay(n:Nat)(r1:(List aG)×Int×Int×aC×(List aA)×(List aG)×Unit->Option (aC×Int))(gs:List aG)(a b:Int)(z:aC)(ss:List aF)(hss:ss.length<=1000)(q:List aG):∀(m:Nat)(t:List aF)(i:Nat)(f:List aA),ss.drop i=t->i<=ss.length->t.length<m->f.length=64->cH t->
  rJ n r1 m (gs,a,b,ss,(ss.length:Int),(i:Int),z,f,q,())=(jI n ⟨aL f t⟩).bind λy=>cond (y !=0) (some (⟨[]⟩,2)) (r1 (gs,a,IntKind.wrap .i64 (b+1),z,aL f t,q,())):=by
 intro m
 induction m with
 |zero=>intro t i f _ _ h;omega
 |succ m ih=>
  intro t i f ht hi hk hf hl
  unfold rJ
  rw[aM]
  generalize hr:aW _ m=r2
  replace hr:rJ n r1 m=r2:=hr
  simp only[hr] at ih
  cases t with
  |nil=>
   cases dC ht hi
   simp only[bI (Nat.lt_irrefl _),cond_false];rfl
  |cons x t=>
   obtain⟨h1,h2,h3⟩:=dB ht
   have hi2:i<4611686018427387904:=by omega
   have hx:=hl x (List.mem_cons_self ..)
   obtain⟨j,hj⟩:∃j:Nat,x.page=(j:Int):=⟨x.page.toNat,by omega⟩
   have hput:put f x.page x.content=some (EX f x.page x.content):=by unfold EX;rw[hj,Int.toNat_natCast];exact EJ (by omega)
   simp only[bH h3,cond_true,aR,h1,Option.bind_some,jn,show decide (x.page<0)=false from decide_eq_false (by omega),show decide (x.page>=64)=false from decide_eq_false (by omega),cond_false,show idx f x.page=some (pg f x.page) from gI ⟨hx.1,by omega⟩,hput,aJ hi2]
   exact ih t (i+1) _ h2 (by omega) (by simp only[List.length_cons] at hk;omega) (by rw[rV];exact hf) (λs hs=>hl s (List.mem_cons_of_mem _ hs))
theorem aaz(n:Nat)(hn:2000<=n)(gs:List aG)(hg:gs.length<=1000)(z:aC)(q:List aG):∀(m:Nat)(t:List aG)(i:Nat)(f f':List aA),gs.drop i=t->i<=gs.length->t.length<m->f.length=64->aax f t f'->
  rK n m (gs,(gs.length:Int),(i:Int),z,f,q,())=some (⟨f'⟩,0):=by
 intro m
 induction m with
 |zero=>intro t i f f' _ _ h;omega
 |succ m ih=>
  intro t i f f' ht hi hk hf h
  unfold rK
  rw[aM]
  generalize hr:aW _ m=r1
  replace hr:rK n m=r1:=hr
  simp only[hr] at ih
  cases t with
  |nil=>
   cases dC ht hi
   cases h
   simp only[bI (Nat.lt_irrefl _),cond_false]
  |cons g t=>
   obtain⟨h1,h2,h3⟩:=dB ht
   obtain⟨a1,a2,⟨D,a3⟩,a4⟩:=h
   simp only[bH h3,cond_true,aR,h1,Option.bind_some]
   refine(aay n r1 gs _ _ z g.sheets (by omega) q n g.sheets 0 f rfl (Nat.zero_le _) (by omega) hf a1).trans ?_
   rw[qZ n hn a3]
   simp only[Option.bind_some,show((0:Int) !=0)=false from rfl,cond_false,aJ (show i<4611686018427387904 by omega)]
   exact ih t (i+1) _ f' h2 (by omega) (by simp only[List.length_cons] at hk;omega) a3.len a4
theorem Ku(n:Nat)(hn:2000<=n){f f':List aA}{D:Nat}(hg:Good f D){gs:List aG}(hl:gs.length<=1000)(h:aax f gs f'):fN n ⟨f⟩ gs=some (⟨f'⟩,0):=by
 unfold fN kH
 simp only[qZ n hn hg,Option.bind_some,show((0:Int) !=0)=false from rfl,cond_false,De n f (by have:=hg.len;omega)]
 exact aaz n hn gs hl _ _ n gs 0 f f' rfl (Nat.zero_le _) (by omega) hg.len h
theorem Xg(N:Nat)(hN:2000<=N){f:List aA}{D:Nat}(h:Good f D){r:Row}(hr:eF r=false):pB N ⟨f⟩ r=some (151,[]):=by
 unfold pB
 simp only[qZ N hN h,Option.bind_some,show((0:Int) !=0)=false from rfl,cond_false,sV,hr]
 rfl
theorem UL{f:List aA}{D:Nat}(h:Good f D){k:Key}{x:Row}(hx:cL (rws f D 0) k=some x):ltK k cC=false/\x.key=k:=by
 have h1:x∈rws f D 0:=List.mem_of_find?_eq_some hx
 have h2:x.key=k:=by have:=List.find?_some hx;simpa using this
 rw[<-h2]
 exact⟨(within_iff.1 ((Ab h.tree).2 x h1)).1,rfl⟩
end Go.Proofs.YtlcmdgpjiendmaaGreat
namespace Go.Proofs.YtlcmdgpjiendmaaGreat
open Go.Bur
set_option linter.unusedSimpArgs false
set_option linter.unusedVariables false
set_option maxRecDepth 100000
end Go.Proofs.YtlcmdgpjiendmaaGreat
namespace Go.Proofs.YtlcmdgpjiendmaaGreat
open Go.Bur
set_option linter.unusedSimpArgs false
set_option linter.unusedVariables false
set_option maxRecDepth 100000
end Go.Proofs.YtlcmdgpjiendmaaGreat
namespace Go.Proofs.YtlcmdgpjiendmaaGreat
open Go.Bur
set_option linter.unusedSimpArgs false
set_option linter.unusedVariables false
set_option maxRecDepth 100000
def pW:List aF->Int->Option aA->Option aA
 |[],_,o=>o
 |s::t,p,o=>pW t p (if s.page=p then some s.content else o)
theorem Kv:∀{l:List aF} {p:Int} {o:Option aA},pW l p o=(match pW l p none with|some c=>some c|none=>o)
 |[],p,o=>by simp[pW]
 |s::t,p,o=>by
  unfold pW
  rw[Kv (l:=t) (o:=if s.page=p then some s.content else o),Kv (l:=t) (o:=if s.page=p then some s.content else none)]
  cases pW t p none with
  |some c=>rfl
  |none=>by_cases h:s.page=p<;>simp[h]
theorem YP{l:List aF}{x:aF}:x∈CF l↔pW l x.page none=some x.content:=by
 induction l generalizing x with
 |nil=>simp[CF,pW]
 |cons s t ih=>
  show x∈uX s (CF t)↔_
  rw[tA A7]
  unfold pW
  rw[Kv]
  cases h:pW t x.page none with
  |some c=>
   simp only
   rw[ih,h]
   constructor
   ·rintro(h1|⟨rfl,h1⟩)
    ·exact h1
    ·exact absurd rfl (h1 ⟨x.page,c⟩ (ih.2 h))
   ·exact Or.inl
  |none=>
   simp only
   rw[ih,h]
   constructor
   ·rintro(h1|⟨rfl,_⟩)
    ·cases h1
    ·rw[if_pos rfl]
   ·intro h1
    right
    by_cases h2:s.page=x.page
    ·rw[if_pos h2] at h1
     obtain⟨sp,sc⟩:=s
     obtain⟨xp,xc⟩:=x
     cases h2
     cases h1
     refine⟨rfl,λy hy hyp=> ?_⟩
     have h3:=ih.1 hy
     rw[hyp] at h3
     rw[h] at h3;cases h3
    ·rw[if_neg h2] at h1;cases h1
theorem Ts:∀{l m:List aF},UpS l->UpS m->(∀x,x∈l↔x∈m)->l=m
 |[],[],_,_,_=>rfl
 |[],b::m,_,_,h=>absurd ((h b).2 (List.mem_cons_self ..)) (by simp)
 |a::l,[],_,_,h=>absurd ((h a).1 (List.mem_cons_self ..)) (by simp)
 |a::l,b::m,hl,hm,h=>by
  obtain⟨a1,a2⟩:=List.pairwise_cons.1 hl
  obtain⟨b1,b2⟩:=List.pairwise_cons.1 hm
  have hab:a=b:=by
   rcases List.mem_cons.1 ((h a).1 (List.mem_cons_self ..)) with e|h1
   ·exact e
   ·rcases List.mem_cons.1 ((h b).2 (List.mem_cons_self ..)) with e|h2
    ·exact e.symm
    ·have:=b1 a h1;have:=a1 b h2;omega
  subst hab
  rw[Ts a2 b2 λx=> ?_]
  constructor
  ·intro hx
   rcases List.mem_cons.1 ((h x).1 (List.mem_cons_of_mem _ hx)) with e|h1
   ·subst e;have:=a1 x hx;omega
   ·exact h1
  ·intro hx
   rcases List.mem_cons.1 ((h x).2 (List.mem_cons_of_mem _ hx)) with e|h1
   ·subst e;have:=b1 x hx;omega
   ·exact h1
theorem MY{x:Int}{l:List Int}:x∈jD l↔x∈l:=(List.mergeSort_perm l _).mem_iff
theorem Xh{l:List Int}(h:l.Nodup):(jD l).Pairwise (· < ·):=by
 have h0:=List.pairwise_mergeSort (le:=λx y:Int=>decide (x<=y)) (λa b c h1 h2=>decide_eq_true (by have:=of_decide_eq_true h1;have:=of_decide_eq_true h2;omega)) (λa b=>by
  rw[Bool.or_eq_true,decide_eq_true_iff,decide_eq_true_iff];omega) l
 have h1:(jD l).Pairwise (· <= ·):=h0.imp λh=>of_decide_eq_true h
 have h2:(jD l).Pairwise (· ≠ ·):=(List.mergeSort_perm l _).nodup_iff.2 h
 exact h1.imp₂ (λa b h1 h2=>by omega) h2
theorem zZ(l:List Int):(jD l).length=l.length:=(List.mergeSort_perm l _).length_eq
abbrev Si:=List (Int×aA)
def dg(m:Si)(p:Int):Option aA:=A8 (pX tab (.int .i64)) m p
theorem OC{m:Si}{e f:Int}{c:aA}:dg (E4 (pX tab (.int .i64)) m e c) f=if f=e then some c else dg m f:=by
 unfold dg
 have eqZ:∀a b:Int,pX tab (.int .i64) a b=decide (a=b):=λ_ _=>rfl
 induction m with
 |nil=>
  simp only[E4,A8,eqZ]
  by_cases h:f=e
  ·rw[decide_eq_true h,if_pos h]
  ·rw[decide_eq_false h,if_neg h]
 |cons p m ih=>
  obtain⟨k,v⟩:=p
  simp only[E4,A8,eqZ]
  by_cases h:e=k
  ·subst h
   rw[decide_eq_true rfl]
   simp only[A8,eqZ]
   by_cases h2:f=e
   ·rw[decide_eq_true h2,if_pos h2]
   ·rw[decide_eq_false h2,if_neg h2]
  ·rw[decide_eq_false h]
   simp only[A8,eqZ]
   by_cases h2:f=k
   ·rw[decide_eq_true h2,if_neg λe2=>h (e2.symm.trans h2)]
   ·rw[decide_eq_false h2]
    exact ih
def UM(m:Si)(ps:List Int):Prop:=ps.Nodup/\∀p,p∈ps↔(dg m p).isSome=true
theorem YQ(n:Nat)(r1:(List aG)×Int×Int×Si×(List Int)×Unit->Option (List aF))(gs:List aG)(a b:Int)(ss:List aF)(hss:ss.length<=1000):∀(m:Nat)(t:List aF)(i:Nat)(M:Si)(ps:List Int),ss.drop i=t->i<=ss.length->t.length<m->UM M ps->ps.length+t.length<=90000->
  ∃M' ps',xK n r1 m (gs,a,b,ss,(ss.length:Int),(i:Int),M,ps,())=r1 (gs,a,IntKind.wrap .i64 (b+1),M',ps',())/\UM M' ps'/\(∀p,dg M' p=pW t p (dg M p))/\ps'.length<=ps.length+t.length:=by
 intro m
 induction m with
 |zero=>intro t i M ps _ _ h;omega
 |succ m ih=>
  intro t i M ps ht hi hk hinv hlen
  unfold xK
  rw[aM]
  generalize hr:aW _ m=r2
  replace hr:xK n r1 m=r2:=hr
  simp only[hr] at ih
  cases t with
  |nil=>
   cases dC ht hi
   simp only[bI (Nat.lt_irrefl _),cond_false]
   exact⟨M,ps,rfl,hinv,λp=>rfl,by simp⟩
  |cons x t=>
   obtain⟨h1,h2,h3⟩:=dB ht
   simp only[List.length_cons] at hlen hk
   simp only[bH h3,cond_true,aR,h1,Option.bind_some,jn,Hx,aJ (show i<4611686018427387904 by omega)]
   show ∃M' ps',cond (!(Xy (dg M x.page))) _ _=_/\_
   cases hd:dg M x.page with
   |none=>
    have hnot:x.page∉ps:=λh=>by have:=(hinv.2 _).1 h;rw[hd] at this;cases this
    have hinv':UM (E4 (pX tab (.int .i64)) M x.page x.content) (ps++[x.page]):=by
     refine⟨List.nodup_append.2 ⟨hinv.1,by simp,λa ha b hb e=> ?_⟩,λp=> ?_⟩
     ·cases List.mem_singleton.1 hb
      exact hnot (e▸ha)
     ·rw[List.mem_append,OC,hinv.2 p,List.mem_singleton]
      by_cases h:p=x.page<;>simp[h]
    obtain⟨M',ps',e1,e2,e3,e4⟩:=ih t (i+1) _ _ h2 (by omega) (by omega) hinv' (by simp;omega)
    refine⟨M',ps', ?_,e2,λp=> ?_,by simp at e4|-;omega⟩
    ·show cond (!false) _ _=_
     rw[Bool.not_false,cond_true,cE (by simp;omega) (by decide)]
     exact e1
    ·rw[e3 p,OC,pW]
     by_cases h:x.page=p
     ·rw[if_pos h,if_pos h.symm]
     ·rw[if_neg h,if_neg λe=>h e.symm]
   |some c=>
    have hin:x.page∈ps:=(hinv.2 _).2 (by rw[hd];rfl)
    have hinv':UM (E4 (pX tab (.int .i64)) M x.page x.content) ps:=by
     refine⟨hinv.1,λp=> ?_⟩
     rw[OC,hinv.2 p]
     by_cases h:p=x.page
     ·subst h;simp[hd]
     ·simp[h]
    obtain⟨M',ps',e1,e2,e3,e4⟩:=ih t (i+1) _ _ h2 (by omega) (by omega) hinv' (by omega)
    refine⟨M',ps', ?_,e2,λp=> ?_,by simp;omega⟩
    ·show cond (!true) _ _=_
     rw[Bool.not_true,cond_false]
     exact e1
    ·rw[e3 p,OC,pW]
     by_cases h:x.page=p
     ·rw[if_pos h,if_pos h.symm]
     ·rw[if_neg h,if_neg λe=>h e.symm]
theorem MZ:∀{a b:List aF} {p:Int} {o:Option aA},pW (a++b) p o=pW b p (pW a p o)
 |[],_,_,_=>rfl
 |_::a,_,_,_=>MZ (a:=a)
theorem YR(n:Nat)(a:Int)(M:Si)(ps:List Int)(hps:ps.length<=90000)(ha:a=(ps.length:Int)):∀(m:Nat)(t:List Int)(i:Nat)(acc:List aF),ps.drop i=t->i<=ps.length->t.length<m->acc.length<=i->
  sU n m (a,(i:Int),M,acc,ps,())=some (acc++t.map λp=>⟨p,orZ ⟨0,[],[]⟩ (dg M p)⟩):=by
 subst ha
 intro m
 induction m with
 |zero=>intro t i acc _ _ h;omega
 |succ m ih=>
  intro t i acc ht hi hk hacc
  unfold sU
  rw[aM]
  generalize hr:aW _ m=r4
  replace hr:sU n m=r4:=hr
  simp only[hr] at ih
  cases t with
  |nil=>
   cases dC ht hi
   simp only[bI (Nat.lt_irrefl _),cond_false];simp
  |cons x t=>
   obtain⟨h1,h2,h3⟩:=dB ht
   simp only[List.length_cons] at hk
   simp only[bH h3,cond_true,aR,h1,Option.bind_some]
   rw[cE (by simp;omega) (by decide)]
   simp only[Option.bind_some,aJ (show i<4611686018427387904 by omega)]
   rw[ih t (i+1) _ h2 (by omega) (by omega) (by simp;omega)]
   simp[dg]
theorem YS(n:Nat)(hn:20002<=n){gs:List aG}(h:gs.length<=1000/\∀g∈gs,g.sheets.length<=1000)(hl:(gK gs).length<=10000):Ck n gs=some (CF (gK gs)):=by
 have key:∀(m:Nat)(t:List aG)(i:Nat)(M:Si)(ps:List Int),gs.drop i=t->i<=gs.length->t.length<m->UM M ps->ps.length+(gK t).length<=10000->
   ∃M' ps',xL n m (gs,(gs.length:Int),(i:Int),M,ps,())=(slices_Sort_int n ps').bind (λy29=>sU n n ((y29.length:Int),0,M',([]:List aF),y29,()))/\UM M' ps'/\(∀p,dg M' p=pW (gK t) p (dg M p))/\ps'.length<=10000:=by
  intro m
  induction m with
  |zero=>intro t i M ps _ _ h;omega
  |succ m ih=>
   intro t i M ps ht hi hk hinv hlen
   unfold xL
   rw[aM]
   generalize hr:aW _ m=r1
   replace hr:xL n m=r1:=hr
   simp only[hr] at ih
   cases t with
   |nil=>
    cases dC ht hi
    simp only[bI (Nat.lt_irrefl _),cond_false]
    exact⟨M,ps,rfl,hinv,λp=>rfl,by simp[gK] at hlen;omega⟩
   |cons g t=>
    obtain⟨h1,h2,h3⟩:=dB ht
    simp only[List.length_cons] at hk
    have hg:g∈gs:=List.mem_of_getElem? h1
    have ha:(gK (g::t)).length=g.sheets.length+(gK t).length:=by simp[gK]
    rw[ha] at hlen
    have hg2:=h.2 g hg
    obtain⟨M1,p1,e1,e2,e3,e4⟩:=YQ n r1 gs (gs.length:Int) (i:Int) g.sheets hg2 n g.sheets 0 M ps rfl (Nat.zero_le _) (by omega) hinv (by omega)
    obtain⟨M2,p2,f1,f2,f3,f4⟩:=ih t (i+1) M1 p1 h2 (by omega) (by omega) e2 (by omega)
    refine⟨M2,p2, ?_,f2,λp=> ?_,f4⟩
    ·simp only[bH h3,cond_true,aR,h1,Option.bind_some]
     rw[show((0:Nat):Int)=0 from rfl] at e1
     rw[e1,aJ (by omega)]
     exact f1
    ·rw[f3 p,e3 p,show gK (g::t)=g.sheets++gK t from rfl,MZ]
 obtain⟨M,ps,e1,e2,e3,e4⟩:=key n gs 0 [] [] rfl (Nat.zero_le _) (by omega) ⟨List.nodup_nil,λp=>by simp[dg,A8]⟩ (by simpa using hl)
 unfold Ck
 rw[show((0:Nat):Int)=0 from rfl] at e1
 rw[e1]
 unfold slices_Sort_int
 rw[Nat.ble_eq_true_of_le (by omega)]
 simp only[Option.bind_some]
 have hsl:=zZ ps
 have:=YR n ((jD ps).length:Int) M (jD ps) (by omega) rfl n (jD ps) 0 [] rfl (Nat.zero_le _) (by omega) (by simp)
 rw[show((0:Nat):Int)=0 from rfl,List.nil_append] at this
 rw[this]
 congr 1
 refine Ts ?_ A7 λx=> ?_
 ·unfold UpS
  rw[List.pairwise_map]
  exact Xh e2.1
 ·rw[YP,List.mem_map]
  have e3':∀p,dg M p=pW (gK gs) p none:=λp=>by rw[e3 p];rfl
  constructor
  ·rintro⟨p,hp,rfl⟩
   have:=(e2.2 p).1 (MY.1 hp)
   rw[e3' p] at this
   simp only[e3']
   cases hc:pW (gK gs) p none with
   |none=>rw[hc] at this;cases this
   |some c=>rfl
  ·intro hx
   refine⟨x.page,MY.2 ((e2.2 _).2 (by rw[e3',hx];rfl)), ?_⟩
   rw[e3',hx];rfl
end Go.Proofs.YtlcmdgpjiendmaaGreat
namespace Go.Proofs.YtlcmdgpjiendmaaGreat
open Go.Bur
set_option linter.unusedSimpArgs false
set_option linter.unusedVariables false
set_option maxRecDepth 100000
end Go.Proofs.YtlcmdgpjiendmaaGreat
namespace Go.Proofs.YtlcmdgpjiendmaaGreat
open Go.Bur
set_option linter.unusedSimpArgs false
set_option linter.unusedVariables false
set_option maxRecDepth 100000
theorem Gg{f:List aA}:∀{d:Nat} {n:Int} {lo:Key} {hi:Option Key},sub f d n lo hi->n≠0->2^d<=(rws f d n).length
 |1,n,lo,hi,h,hn=>by
  obtain⟨_,h2,l,h3,h4,h5⟩:=h
  have e:rws f 1 n=l:=by rw[rws,h3];simp
  have:=h2 hn
  rw[h3] at this
  rw[e];simpa[aD] using this
 |d+2,n,lo,hi,h,hn=>by
  obtain⟨_,_,l,h3,h4,_,h6⟩:=h
  obtain⟨a,b,t,rfl⟩:∃a b t,l=a::b::t:=by
   match l,h4.two with
   |a::b::t,_=>exact⟨a,b,t,rfl⟩
  obtain⟨x1,y1,s1⟩:=cQ h6 a (by simp)
  obtain⟨x2,y2,s2⟩:=cQ h6 b (by simp)
  have i1:=Gg s1 (by have:=h4.page a (by simp);omega)
  have i2:=Gg s2 (by have:=h4.page b (by simp);omega)
  rw[rws,h3]
  simp only[List.flatMap_cons,List.length_append,List.length_nil]
  rw[Nat.pow_succ]
  omega
theorem Xi{f:List aA}{D:Nat}(h:Good f D):D<=1\/2^D<=(rws f D 0).length:=by
 have ht:=h.tree
 match D,ht with
 |1,_=>exact Or.inl (Nat.le_refl _)
 |d+2,ht=>
  right
  obtain⟨_,_,l,h3,h4,_,h6⟩:=ht
  obtain⟨a,b,t,rfl⟩:∃a b t,l=a::b::t:=by
   match l,h4.two with
   |a::b::t,_=>exact⟨a,b,t,rfl⟩
  obtain⟨x1,y1,s1⟩:=cQ h6 a (by simp)
  obtain⟨x2,y2,s2⟩:=cQ h6 b (by simp)
  have i1:=Gg s1 (by have:=h4.page a (by simp);omega)
  have i2:=Gg s2 (by have:=h4.page b (by simp);omega)
  rw[rws,h3]
  simp only[List.flatMap_cons,List.length_append,List.length_nil]
  rw[Nat.pow_succ]
  omega
theorem UN{f:List aA}{D:Nat}(h:Good f D)(h60:(rws f D 0).length<=60):D<=5:=by
 rcases Xi h with h1|h1
 ·omega
 ·by_cases hd:D<=5
  ·exact hd
  ·have:2^6<=2^D:=Nat.pow_le_pow_right (by decide) (by omega)
   omega
end Go.Proofs.YtlcmdgpjiendmaaGreat
namespace Go.Proofs.YtlcmdgpjiendmaaGreat
open Go.Bur
set_option linter.unusedSimpArgs false
set_option linter.unusedVariables false
set_option maxRecDepth 100000
def MIn(P:List Int)(M:Met):Prop:=∀p∈M,p.1∈P
theorem QX{P:List Int}:∀{M:Met},MIn P M->(qH M).Nodup/\∀x∈qH M,x∈P
 |[],_=>⟨List.nodup_nil,by simp[qH]⟩
 |p::M,h=>by
  obtain⟨h1,h2⟩:=QX (M:=M) λq hq=>h q (List.mem_cons_of_mem _ hq)
  refine⟨List.nodup_cons.2 ⟨λhm=> ?_,h1.filter _⟩,λx hx=> ?_⟩
  ·have:=(List.mem_filter.1 hm).2
   simp at this
  ·rcases List.mem_cons.1 hx with rfl|hx
   ·exact h p (List.mem_cons_self ..)
   ·exact h2 x (List.mem_filter.1 hx).1
theorem YU{M:Met}(hM:M.length<=100000){n:Int}(h:0<=n/\n<64):AQ .i64 M n true=some ((n,true)::M):=by
 unfold AQ;rw[R6 h,Nat.ble_eq_true_of_le (by omega)];rfl
abbrev GrL:=Bool×(List Row)×Int×Int×Row×aC×(List aG)×aC×Met×Unit->Option Bool
theorem Xj(n:Nat)(r2:GrL)(take:Bool)(i a b:Int)(r:Row)(f:aC)(was:List Row)(l:List aG)(now:aC)(g:aG)(hg:g.sheets.length<=1000)(hin:cH g.sheets)(hup:g.sheets.Pairwise λa b=>a.page<b.page){P:List Int}:∀(m:Nat)(t:List aF)(k:Nat)(M:Met),g.sheets.drop k=t->k<=g.sheets.length->t.length<m->(∀s∈t,s.page∈P)->MIn P M->M.length+t.length<=100000->
  ∃M',MIn P M'/\M'.length<=M.length+t.length/\bW n r2 m (take,was,i,a,b,g.sheets,(g.sheets.length:Int),(k:Int),r,f,l,now,M,g,())=bW n r2 1 (take,was,i,a,b,g.sheets,(g.sheets.length:Int),(g.sheets.length:Int),r,f,l,now,M',g,()):=by
 intro m
 induction m with
 |zero=>intro t k M _ _ h;omega
 |succ m ih=>
  intro t k M ht hi hk hP hM hlen
  cases t with
  |nil=>
   cases dC ht hi
   refine⟨M,hM,by simp, ?_⟩
   unfold bW
   rw[aM,aM]
   simp only[bI (Nat.lt_irrefl _),cond_false]
  |cons x t=>
   obtain⟨h1,h2,h3⟩:=dB ht
   simp only[List.length_cons] at hk hlen
   have hk2:k<4611686018427387904:=by omega
   have hx:=hin x (List.mem_of_getElem? h1)
   obtain⟨M',e1,e2,e3⟩:=ih t (k+1) ((x.page,true)::M) h2 (by omega) (by omega) (λs hs=>hP s (List.mem_cons_of_mem _ hs)) (λp hp=>by
    rcases List.mem_cons.1 hp with rfl|hp
    ·exact hP x (List.mem_cons_self ..)
    ·exact hM p hp) (by simp only[List.length_cons];omega)
   refine⟨M',e1,by simp only[List.length_cons] at e2|-;omega, ?_⟩
   refine Eq.trans ?_ e3
   conv=>lhs;unfold bW
   rw[aM]
   generalize hr:aW _ m=r3
   replace hr:bW n r2 m=r3:=hr
   rw[hr]
   simp only[bH h3,cond_true,aR,h1,Option.bind_some,YU (show M.length<=100000 by omega) hx,jn,aJ hk2]
   cases k with
   |zero=>rfl
   |succ k=>
    have hk3:k<g.sheets.length:=by omega
    have hge:=List.pairwise_iff_getElem.1 hup k (k+1) hk3 h3 (by omega)
    have hxe:g.sheets[k+1]=x:=by
     have:=get_some h3
     rw[h1] at this;exact(Option.some.inj this).symm
    rw[hxe] at hge
    rw[show decide (((k+1:Nat):Int)>0)=true from decide_eq_true (by omega),cond_true,lN (show k<4611686018427387904 by omega)]
    simp only[aR,get_some hk3,Option.bind_some,show decide (g.sheets[k].page>=x.page)=false from decide_eq_false (by omega),cond_false]
theorem YV(n:Nat)(hn:2000<=n)(r2:GrL)(take:Bool)(i:Nat)(r:Row)(f:aC){R:List Row}(l:List aG)(now:aC)(g:aG)(M:Met){f2:List aA}{D:Nat}(hg:Good f2 D)(hr:rws f2 D 0=R)(ha:fN n now [g]=some (⟨f2⟩,0))(hi:i+1<l.length)(hl:l.length<=1000):
  bW n r2 1 (take,R,(i:Int),(l.length:Int),(i:Int),g.sheets,(g.sheets.length:Int),(g.sheets.length:Int),r,f,l,now,M,g,())=r2 (take,R,(l.length:Int),((i+1:Nat):Int),r,f,l,⟨f2⟩,M,()):=by
 have hrow:=hg.rows
 unfold bW
 rw[aM]
 simp only[bI (Nat.lt_irrefl _),cond_false,ha,Option.bind_some,show((0:Int) !=0)=false from rfl,G6 n hn hg,jn,mD,hr]
 rw[show IntKind.wrap .i64 ((l.length:Int)-1)=((l.length-1:Nat):Int) by rw[cN (by omega)];omega]
 rw[show((i:Int)==((l.length-1:Nat):Int))=false from by rw[oL];exact decide_eq_false (by omega),cond_false]
 rw[MN n (by omega) R R (by rw[<-hr];omega),Ad NK,aJ (by omega)]
 rfl
def M0(take:Bool)(R:List Row)(r:Row):List Row:=if take=true then others r.key R else rD r R
theorem YW(n:Nat)(hn:2000<=n)(r2:GrL)(take:Bool)(i:Nat)(r:Row)(f:aC){R:List Row}(hR:R.length<=900)(l:List aG)(now:aC)(g:aG)(h1:g.sheets.length=1)(M:Met){f2:List aA}{D:Nat}(hg:Good f2 D)(hr:rws f2 D 0=M0 take R r)(ha:fN n now [g]=some (⟨f2⟩,0))(hi:i+1=l.length)(hl:l.length<=1000):
  bW n r2 1 (take,R,(i:Int),(l.length:Int),(i:Int),g.sheets,(g.sheets.length:Int),(g.sheets.length:Int),r,f,l,now,M,g,())=r2 (take,R,(l.length:Int),((i+1:Nat):Int),r,f,l,⟨f2⟩,M,()):=by
 have hrow:=hg.rows
 have hsame:wC n (M0 take R r) (M0 take R r)=some true:=by
  rw[MN n (by omega) _ _ (by rw[<-hr];omega),Ad NK]
 unfold bW
 rw[aM]
 simp only[bI (Nat.lt_irrefl _),cond_false,ha,Option.bind_some,show((0:Int) !=0)=false from rfl,G6 n hn hg,jn,mD,tY,hr,h1]
 rw[show IntKind.wrap .i64 ((l.length:Int)-1)=(i:Int) by rw[cN (by omega)];omega]
 rw[beq_self_eq_true,cond_true,SJ n (by omega) R hR,EM n (by omega) R (by omega)]
 simp only[Option.bind_some,show(((1:Nat):Int) !=1)=false from rfl,cond_false,aJ (show i<4611686018427387904 by omega)]
 cases take with
 |true=>
  rw[show M0 true R r=others r.key R from rfl] at hsame|-
  simp only[cond_true,hsame,Option.bind_some,Bool.not_true,cond_false]
 |false=>
  rw[show M0 false R r=Jj r (others r.key R) from rfl] at hsame|-
  simp only[cond_false,hsame,Option.bind_some,Bool.not_true]
theorem Xk(n:Nat)(hn:30000<=n)(take:Bool)(r:Row){f f':List aA}{D D':Nat}(hf:Good f D){R:List Row}(hR:R.length<=900){G:List aG}{n':Int}{l':List Row}{P:List Int}(hP:P.length<=12)(hGP:∀g∈G,∀s∈g.sheets,s.page∈P)(hnP:n'∈P)(hG:G.length<=100)(hch:qI R f G f')(hone:Grp f' (one n' l'))(hend:Good (aL f' (one n' l')) D')(hrows:rws (aL f' (one n' l')) D' 0=M0 take R r):
  ∀(m:Nat)(t:List aG)(i:Nat)(fi:List aA)(Di:Nat)(M:Met),G.drop i=t->i<=G.length->t.length+1<m->Good fi Di->qI R fi t f'->MIn P M->M.length<=100*i->
  fS n m (take,R,((G++[(⟨one n' l'⟩:aG)]).length:Int),(i:Int),r,⟨f⟩,G++[⟨one n' l'⟩],⟨fi⟩,M,())=some true:=by
 have hL:(G++[(⟨one n' l'⟩:aG)]).length=G.length+1:=by simp
 have hnet:Ck n (G++[⟨one n' l'⟩])=some (CF (gK (G++[⟨one n' l'⟩])))/\fN n ⟨f⟩ [⟨CF (gK (G++[⟨one n' l'⟩]))⟩]=some (⟨aL f' (one n' l')⟩,0):=by
  obtain⟨e1,e2⟩:=EZ hch
  have hcl:=Hf hch
  have ea:gK (G++[⟨one n' l'⟩])=gK G++one n' l':=by simp[gK]
  have hin:cH (gK (G++[⟨one n' l'⟩])):=λs hs'=>by
   rw[ea] at hs'
   rcases List.mem_append.1 hs' with h|h
   ·exact e2 s h
   ·exact hone.rng s h
  have hle:(one n' l').length=1:=rfl
  refine⟨YS n (by omega) ⟨by rw[hL];omega,λg hg=> ?_⟩ (by rw[ea,List.length_append];omega), ?_⟩
  ·rcases List.mem_append.1 hg with hg|hg
   ·exact((Kt hf.len hch).2 g hg).1
   ·cases List.mem_singleton.1 hg;simp[one]
  ·have hin':cH (CF (gK (G++[⟨one n' l'⟩]))):=λs hs'=>hin s (Gd s hs')
   have hnl:=oG (Dk (A7 (l:=gK (G++[⟨one n' l'⟩])))) λx hx=>by obtain⟨s,hs',rfl⟩:=List.mem_map.1 hx;exact hin' s hs'
   rw[List.length_map] at hnl
   have hw:aL f (CF (gK (G++[⟨one n' l'⟩])))=aL f' (one n' l'):=by rw[Ki hf.len hin,ea,xQ,e1]
   refine Ku n (by omega) hf (by simp) ⟨hin', ?_,⟨D', ?_⟩, ?_⟩
   ·show(CF (gK (G++[⟨one n' l'⟩]))).length<=900
    omega
   ·show Good (aL f (CF (gK (G++[⟨one n' l'⟩])))) D'
    rw[hw];exact hend
   ·show aL f' (one n' l')=aL f (CF (gK (G++[⟨one n' l'⟩])))
    exact hw.symm
 have hF:=Uj hend
 have hlen:=hend.len
 intro m
 induction m with
 |zero=>intro t i fi Di M _ _ h;omega
 |succ m ih=>
  intro t i fi Di M ht hi hk hfi hct hM hMl
  unfold fS
  rw[aM]
  generalize hr:aW _ m=r1
  replace hr:fS n m=r1:=hr
  simp only[hr] at ih
  have hi':i<(G++[(⟨one n' l'⟩:aG)]).length:=by omega
  cases t with
  |nil=>
   cases dC ht hi
   cases hct
   have hget:(G++[(⟨one n' l'⟩:aG)])[G.length]? =some ⟨one n' l'⟩:=by simp
   obtain⟨M',e1,e2,e3⟩:=Xj n r1 take (G.length:Int) ((G++[(⟨one n' l'⟩:aG)]).length:Int) (G.length:Int) r ⟨f⟩ R (G++[⟨one n' l'⟩]) ⟨f'⟩ ⟨one n' l'⟩ (by simp[one]) hone.rng (by simp[one]) (P:=P) n (one n' l') 0 M rfl (Nat.zero_le _) (by simp[one];omega) (λs hs=>by cases List.mem_singleton.1 hs;exact hnP) hM (by simp[one];omega)
   have ha:fN n ⟨f'⟩ [⟨one n' l'⟩]=some (⟨aL f' (one n' l')⟩,0):=Ku n (by omega) hfi (by simp) ⟨hone.rng,by simp[one],⟨D',hend⟩,rfl⟩
   simp only[bH hi',cond_true,aR,hget,Option.bind_some]
   have e4:=YW n (by omega) r1 take G.length r ⟨f⟩ hR (G++[⟨one n' l'⟩]) ⟨f'⟩ ⟨one n' l'⟩ rfl M' hend hrows ha hL.symm (by omega)
   refine e3.trans (e4.trans ?_)
   obtain⟨m',rfl⟩:∃m',m=m'+1:=⟨m-1,by simp at hk;omega⟩
   rw[<-hr]
   unfold fS
   rw[aM]
   have hnot:¬(G.length+1<(G++[(⟨one n' l'⟩:aG)]).length):=by omega
   obtain⟨k1,k2⟩:=QX e1
   have hmk:=wR (m:=P) k1 k2
   simp only[bI hnot,cond_false,hnet.1,hnet.2,Option.bind_some,jn,show((0:Int)==0)=true from rfl,cond_true,WM n (by omega) (aL f' (one n' l')) (aL f' (one n' l')) (by omega) hF,Ad R9,show decide (((qH M').length:Int)<=12)=true from decide_eq_true (by omega)]
  |cons g t=>
   obtain⟨h1,h2,h3⟩:=dB ht
   obtain⟨c1,c2,⟨D2,c3,c4⟩,c5⟩:=hct
   simp only[List.length_cons] at hk
   have hget:(G++[(⟨one n' l'⟩:aG)])[i]? =some g:=by rw[List.getElem?_append_left h3];exact h1
   have hgl:=Tr c1
   have hgm:=List.mem_of_getElem? h1
   obtain⟨M',e1,e2,e3⟩:=Xj n r1 take (i:Int) ((G++[(⟨one n' l'⟩:aG)]).length:Int) (i:Int) r ⟨f⟩ R (G++[⟨one n' l'⟩]) ⟨fi⟩ g (by omega) c1.rng c2 (P:=P) n g.sheets 0 M rfl (Nat.zero_le _) (by omega) (hGP g hgm) hM (by omega)
   have ha:fN n ⟨fi⟩ [g]=some (⟨aL fi g.sheets⟩,0):=Ku n (by omega) hfi (by simp) ⟨c1.rng,by omega,⟨D2,c3⟩,rfl⟩
   simp only[bH hi',cond_true,aR,hget,Option.bind_some]
   have e4:=YV n (by omega) r1 take i r ⟨f⟩ (G++[⟨one n' l'⟩]) ⟨fi⟩ g M' c3 c4 ha (by omega) (by omega)
   refine e3.trans (e4.trans ?_)
   exact ih t (i+1) _ D2 M' h2 (by omega) (by omega) c3 c5 e1 (by omega)
theorem H8(b:oI)(r:Row)(take:Bool)(hb:okT tab 9 (.st 0) b)(hr:okT tab 9 (.st 2) r)(ht:okT tab 9 .bool take):∃n,qT n b r take=some true:=by
 refine⟨30000, ?_⟩
 obtain⟨f,e,D,hg,hK,h60⟩:=W7 30000 (by omega) b
 have hki:nZ r.key:=by
  obtain⟨a,b⟩:=hr.2.1
  have b:r.key.id<=65535:=b
  exact⟨a,by omega⟩
 have hd:=UN hg h60
 unfold qT
 rw[abd]
 simp only[Option.bind_some,Bool.not_true,cond_false,e]
 cases decide ((r.note.size:Int)>100) with
 |true=>rfl
 |false=>
 simp only[cond_false,jn,G6 30000 (by omega) hg,Option.bind_some,show((0:Int) !=0)=false from rfl]
 cases take with
 |true=>
  simp only[cond_true]
  cases hx:cL (rws f D 0) r.key with
  |none=>
   rw[Sh 30000 (by omega) hg hx]
   rfl
  |some x=>
   obtain⟨hk,_⟩:=UL hg hx
   obtain⟨gs,t1,t2⟩:=Xe 30000 (by omega) hg hK hk hx
   obtain⟨f',n',G,D',l,e1,e2,e3,e4,_,_,e7,e8,e9,e10,e11,e12,T,q1,q2,q3⟩:=Km 30000 (by omega) hg hK hk hx
   rw[t2] at e11
   cases e11
   rw[t1]
   simp only[Option.bind_some]
   unfold mF
   simp only[show((0:Int) !=0)=false from rfl,cond_false]
   exact Xk 30000 (by omega) true r hg (by omega) (P:=0::T) (by simp only[List.length_cons];omega) q3 q2 e12 e7 e8 e9 e10 30000 G 0 f D [] rfl (Nat.zero_le _) (by omega) hg e7 (λp hp=>by cases hp) (by simp)
 |false=>
  simp only[cond_false]
  cases hok:eF r with
  |false=>
   rw[Xg 30000 (by omega) hg hok]
   rfl
  |true=>
   have hk:=MT hok hki
   rcases Ox 30000 (by omega) hg hok hk with⟨_,e,_⟩|⟨f',n',G,D',l,e1,e2,e3,e4,e5,e6,e7,e8,e9,e10,e11,e12,T,q1,q2,q3⟩
   ·omega
   ·rw[YO 30000 (by omega) hg hok hk,e11]
    simp only[Option.bind_some]
    unfold mF
    simp only[show((0:Int) !=0)=false from rfl,cond_false]
    exact Xk 30000 (by omega) false r hg (by omega) (P:=0::T) (by simp only[List.length_cons];omega) q3 q2 e12 e7 e8 e9 e10 30000 G 0 f D [] rfl (Nat.zero_le _) (by omega) hg e7 (λp hp=>by cases hp) (by simp)
end Go.Proofs.YtlcmdgpjiendmaaGreat
