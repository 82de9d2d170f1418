import Derived.Test.YtlcmdgpjiendmaaGreatTreJ
namespace Go.Proofs.YtlcmdgpjiendmaaGreat
open Go.Bur
set_option linter.unusedSimpArgs false
set_option linter.unusedVariables false
set_option maxRecDepth 100000
theorem QC{f:List aA}{d:Nat}{lo:Key}{hi:Option Key}{c:aA}(h:yW f d lo hi c):∀k∈c.kids,k.page∈iW f d c:=λk hk=>by
 cases d with
 |zero=>obtain⟨l,rfl,_⟩:=h;cases hk
 |succ d=>exact List.mem_flatMap.2 ⟨k,hk,cG⟩
theorem KJ.both{f:List aA}{d:Nat}{n:Int}{lo:Key}{hi:Option Key}{l1 l2:List Kid}{x y:Kid}(P:KJ f d n lo hi l1 l2 x y):
  yW f d (AZ l1 lo x.least) (nxt hi l2) (aO (pg f x.page) (pg f y.page) y.least)/\AX f d (aO (pg f x.page) (pg f y.page) y.least)=AX f d (pg f x.page)++AX f d (pg f y.page)/\
  iW f d (aO (pg f x.page) (pg f y.page) y.least)=iW f d (pg f x.page)++iW f d (pg f y.page)/\aD (aO (pg f x.page) (pg f y.page) y.least)=aD (pg f x.page)+aD (pg f y.page):=
 WK P.cx P.cy (by have:=P.x2;omega) (by have:=P.y2;omega) (lt_asymm P.lt) P.up (P.kids.tab y (by simp)) λu hu v hv e=>P.apart u.page (QC P.cx u hu) (e▸QC P.cy v hv)
theorem KJ.rows{f:List aA}{d:Nat}{n:Int}{lo:Key}{hi:Option Key}{l1 l2:List Kid}{x y:Kid}(P:KJ f d n lo hi l1 l2 x y):AX f d (pg f x.page)++AX f d (pg f y.page)=rws f (d+1) x.page++rws f (d+1) y.page:=by rw[Es,Es]
theorem R8{f f':List aA}{d m:Nat}{n:Int}{lo:Key}{hi:Option Key}{l1 l2:List Kid}{x y:Kid}{B:aA}(h:sub f (d+2) n lo hi)(hp:pg f n=⟨2,[],l1++x::y::l2⟩)(hlo:ltK lo cC=false)(hnd:(pgs f (d+2) n).Nodup)
  (hB:aO (pg f x.page) (pg f y.page) y.least=B) (h2:2<=m) (h4:m<=4) (h2':m+2<=aD B) (h4':aD B<=m+4) (e1:pg f' n=⟨2,[],l1++x::⟨cF B m,y.page⟩::l2⟩) (e2:pg f' x.page=eZ B m) (e3:pg f' y.page=eT B m) (e4:∀p,p≠n->p≠x.page->p≠y.page->pg f' p=pg f p):
  sub f' (d+2) n lo hi/\rws f' (d+2) n=rws f (d+2) n/\(pgs f' (d+2) n).Perm (pgs f (d+2) n)/\ltK (AZ l1 lo x.least) (cF B m)=true:=by
 have P:=Io h hp hlo hnd
 obtain⟨l,e,hl2,hl4,hK⟩:=iB h
 obtain rfl:l=l1++x::y::l2:=by rw[hp] at e;injection e with _ _ e;exact e.symm
 obtain⟨b1,b2,b3,b4⟩:=P.both
 rw[hB] at b1 b2 b3 b4
 obtain⟨d1,d2,d3,d4,d5,d6,d7⟩:=AY (m:=m) b1 (by omega) (by omega)
 have hfrm:∀p∈iW f d B,pg f' p=pg f p:=λp hp=>by
  rw[b3] at hp
  obtain⟨q1,q2,q3⟩:=P.below p hp
  exact e4 p q1 q2 q3
 obtain⟨a1,a2,a3⟩:=oH (λp hp=>hfrm p (by rw[<-d5];exact List.mem_append_left _ hp)) d1
 obtain⟨c1,c2,c3⟩:=oH (λp hp=>hfrm p (by rw[<-d5];exact List.mem_append_right _ hp)) d2
 have hge:=Dc hK hlo
 have s1:sub f' (d+1) x.page (AZ l1 lo x.least) (some (cF B m)):=CA ⟨by have:=P.xp;omega,P.xp.2⟩ (by rw[e2];exact a1) hge (by rw[e2];omega) (λ_=>by rw[e2];omega)
 have hlt:=sub_lt s1 (by have:=P.xp;omega)
 have s2:sub f' (d+1) y.page (cF B m) (nxt hi l2):=CA ⟨by have:=P.yp;omega,P.yp.2⟩ (by rw[e3];exact c1) (F7 hge (lt_asymm hlt)) (by rw[e3];omega) (λ_=>by rw[e3];omega)
 have r1:rws f' (d+1) x.page++rws f' (d+1) y.page=rws f (d+1) x.page++rws f (d+1) y.page:=by
  rw[Es (n:=x.page),Es (n:=y.page),e2,e3,a2,c2,d4,b2,P.rows]
 have hpl:=sZ (d:=d+1) hp
 obtain⟨g1,g2,g3⟩:=EW (N:=[x,y]) (M:=[x,⟨cF B m,y.page⟩]) (x:=x) (x':=x) h hp e1 hlo (by simp at hl2|-;omega) (by simp at hl4|-;omega) rfl rfl rfl (λk hk p hp=>by
   obtain⟨q1,q2,q3⟩:=P.oth k hk p hp
   exact e4 p q1 q2 q3) ⟨s1,s2⟩ (λk hk=>by
   rcases List.mem_cons.1 hk with rfl|hk
   ·exact P.xp
   ·cases List.mem_singleton.1 hk;exact P.yp) (by
   simp only[List.map_cons,List.map_nil]
   exact List.nodup_cons.2 ⟨by simpa using P.xy,by simp⟩) (λk hk j hj=>by
   obtain⟨q1,q2,q3⟩:=P.oth j hj j.page cG
   rcases List.mem_cons.1 hk with rfl|hk
   ·exact λe=>q2 e.symm
   ·cases List.mem_singleton.1 hk;exact λe=>q3 e.symm) (λk hk=>by
   rcases List.mem_cons.1 hk with rfl|hk
   ·exact hK.tab k (by simp)
   ·cases List.mem_singleton.1 hk;exact d3) (by
   simp only[List.flatMap_cons,List.flatMap_nil,List.append_nil];exact r1)
 refine⟨g1,g2, ?_,hlt⟩
 have q1:pgs f' (d+1) x.page=x.page::iW f d (eZ B m):=by rw[sY,e2,a3]
 have q2:pgs f' (d+1) y.page=y.page::iW f d (eT B m):=by rw[sY,e3,c3]
 have hc:∀a,(iW f d (eZ B m)).count a+(iW f d (eT B m)).count a=(iW f d (pg f x.page)).count a+(iW f d (pg f y.page)).count a:=λa=>by
  rw[<-List.count_append,<-List.count_append,d5,b3]
 rw[g3,hpl]
 simp only[List.flatMap_cons,List.flatMap_nil,List.append_nil,List.flatMap_append,q1,q2,sY (n:=x.page),sY (n:=y.page)]
 refine List.perm_iff_count.2 λa=> ?_
 have:=hc a
 simp only[List.count_cons,List.count_append]
 omega
theorem Uo{f f':List aA}{d:Nat}{n:Int}{lo:Key}{hi:Option Key}{l1 l2:List Kid}{x y:Kid}{B:aA}(h:sub f (d+2) n lo hi)(hp:pg f n=⟨2,[],l1++x::y::l2⟩)(hlo:ltK lo cC=false)(hnd:(pgs f (d+2) n).Nodup)
  (hB:aO (pg f x.page) (pg f y.page) y.least=B) (h3:3<=(l1++x::y::l2).length) (h4:aD B<=4) (e1:pg f' n=⟨2,[],l1++x::l2⟩) (e2:pg f' x.page=B) (e4:∀p,p≠n->p≠x.page->p≠y.page->pg f' p=pg f p):
  sub f' (d+2) n lo hi/\rws f' (d+2) n=rws f (d+2) n/\(pgs f (d+2) n).Perm (y.page::pgs f' (d+2) n):=by
 have P:=Io h hp hlo hnd
 obtain⟨l,e,hl2,hl4,hK⟩:=iB h
 obtain rfl:l=l1++x::y::l2:=by rw[hp] at e;injection e with _ _ e;exact e.symm
 obtain⟨b1,b2,b3,b4⟩:=P.both
 rw[hB] at b1 b2 b3 b4
 have hfrm:∀p∈iW f d B,pg f' p=pg f p:=λp hp=>by
  rw[b3] at hp
  obtain⟨q1,q2,q3⟩:=P.below p hp
  exact e4 p q1 q2 q3
 obtain⟨a1,a2,a3⟩:=oH hfrm b1
 have hge:=Dc hK hlo
 have s1:sub f' (d+1) x.page (AZ l1 lo x.least) (nxt hi l2):=CA ⟨by have:=P.xp;omega,P.xp.2⟩ (by rw[e2];exact a1) hge (by rw[e2];omega) (λ_=>by rw[e2,b4];have:=P.x2;omega)
 have r1:rws f' (d+1) x.page=rws f (d+1) x.page++rws f (d+1) y.page:=by
  rw[Es (n:=x.page),e2,a2,b2,P.rows]
 have hpl:=sZ (d:=d+1) hp
 obtain⟨g1,g2,g3⟩:=EW (N:=[x,y]) (M:=[x]) (x:=x) (x':=x) h hp e1 hlo (by simp at h3|-;omega) (by simp at hl4|-;omega) rfl rfl rfl (λk hk p hp=>by
   obtain⟨q1,q2,q3⟩:=P.oth k hk p hp
   exact e4 p q1 q2 q3) s1 (λk hk=>by cases List.mem_singleton.1 hk;exact P.xp) (by simp) (λk hk j hj=>by
   obtain⟨q1,q2,q3⟩:=P.oth j hj j.page cG
   cases List.mem_singleton.1 hk
   exact λe=>q2 e.symm) (λk hk=>by cases List.mem_singleton.1 hk;exact hK.tab x (by simp)) (by
   simp only[List.flatMap_cons,List.flatMap_nil,List.append_nil];exact r1)
 refine⟨g1,g2, ?_⟩
 have q1:pgs f' (d+1) x.page=x.page::(iW f d (pg f x.page)++iW f d (pg f y.page)):=by rw[sY,e2,a3,b3]
 rw[g3,hpl]
 simp only[List.flatMap_cons,List.flatMap_nil,List.append_nil,List.flatMap_append,q1,sY (n:=x.page),sY (n:=y.page)]
 refine List.perm_iff_count.2 λa=> ?_
 simp only[List.count_cons,List.count_append]
 omega
theorem Uq{f f':List aA}{d:Nat}{x y:Kid}{B:aA}(h:sub f (d+2) 0 cC none)(hp:pg f 0=⟨2,[],[x,y]⟩)(hnd:(pgs f (d+2) 0).Nodup)
  (hB:aO (pg f x.page) (pg f y.page) y.least=B) (h4:aD B<=4) (e1:pg f' 0=B) (e4:∀p,p≠0->p≠x.page->p≠y.page->pg f' p=pg f p):
  sub f' (d+1) 0 cC none/\rws f' (d+1) 0=rws f (d+2) 0/\(pgs f (d+2) 0).Perm (x.page::y.page::pgs f' (d+1) 0):=by
 have P:=Io (l1:=[]) (l2:=[]) h hp (fO _) hnd
 obtain⟨b1,b2,b3,b4⟩:=P.both
 rw[hB] at b1 b2 b3 b4
 have hfrm:∀p∈iW f d B,pg f' p=pg f p:=λp hp=>by
  rw[b3] at hp
  obtain⟨q1,q2,q3⟩:=P.below p hp
  exact e4 p q1 q2 q3
 obtain⟨a1,a2,a3⟩:=oH hfrm b1
 have hx2:=P.x2
 refine⟨CA ⟨by omega,by omega⟩ (by rw[e1];exact a1) (fO _) (by rw[e1];omega) (λ_=>by rw[e1,b4];omega), ?_, ?_⟩
 ·have e:rws f (d+2) 0=rws f (d+1) x.page++rws f (d+1) y.page:=by rw[rws,hp];simp
  rw[e,Es (n:=0) (f:=f') (d:=d),e1,a2,b2,P.rows]
 ·rw[sY (n:=0) (f:=f') (d:=d),e1,a3,b3,sZ (d:=d+1) hp]
  simp only[List.flatMap_cons,List.flatMap_nil,List.append_nil,sY (n:=x.page),sY (n:=y.page)]
  refine List.perm_iff_count.2 λa=> ?_
  simp only[List.count_cons,List.count_append]
  omega
end Go.Proofs.YtlcmdgpjiendmaaGreat
namespace Go.Proofs.YtlcmdgpjiendmaaGreat
open Go.Bur
set_option linter.unusedSimpArgs false
set_option linter.unusedVariables false
set_option maxRecDepth 100000
theorem QD{f:List aA}:∀{d:Nat} {n:Int} {lo:Key} {hi:Option Key},sub f d n lo hi->(rws f d n).length<=4*(pgs f d n).length
 |1,n,lo,hi,h=>by
  obtain⟨_,_,l,h3,h4,h5⟩:=h
  have e:rws f 1 n=l:=by rw[rws,h3];simp
  have e2:pgs f 1 n=[n]:=by rw[pgs,h3];rfl
  rw[e,e2];have:=h4.len;simpa using this
 |d+2,n,lo,hi,h=>by
  obtain⟨_,_,l,h3,h4,h5,h6⟩:=h
  have e:rws f (d+2) n=l.flatMap λk=>rws f (d+1) k.page:=by rw[rws,h3];rfl
  have e2:pgs f (d+2) n=n::l.flatMap λk=>pgs f (d+1) k.page:=by rw[pgs,h3]
  have key:∀(t:List Kid),(∀k∈t,k∈l)->(t.flatMap λk=>rws f (d+1) k.page).length<=4*(t.flatMap λk=>pgs f (d+1) k.page).length:=by
   intro t
   induction t with
   |nil=>intro _;simp
   |cons k t ih=>
    intro ht
    obtain⟨a,b,hs⟩:=cQ h6 k (ht k (List.mem_cons_self ..))
    have:=QD hs
    have:=ih λx hx=>ht x (List.mem_cons_of_mem _ hx)
    simp only[List.flatMap_cons,List.length_append];omega
  have:=key l λk hk=>hk
  rw[e,e2];simp only[List.length_cons];omega
theorem Good.rows{f:List aA}{d:Nat}(h:Good f d):(rws f d 0).length<=256:=by
 have h1:=QD h.tree
 have h2:=oG h.nodup λx hx=>(mJ h.tree x hx).1
 omega
abbrev YT:=HL cK [.st 4]->HL cK [.sl (.st 2)]->Option (Nat×HL cK [.sl (.st 2)])
def Yr:YT:=λy3 z4=>(app 40 z4.1 y3.1.rows).bind λl5=>some (0,(l5,()))
theorem abc{c:aA}{acc:List Row}(h:acc.length+c.rows.length<=1000000):Ss Yr 0 ((c,()):HL cK [.st 4]) ((acc,()):HL cK [.sl (.st 2)])=some (0,((acc++c.rows,()):HL cK [.sl (.st 2)])):=by
 show(app 40 acc c.rows).bind _=_
 rw[cE h (by decide)];rfl
theorem Ur(N:Nat)(hN:1003<=N){f:List aA}{d:Nat}{l:List Kid}(hl:l.length<=1000)
  (self:Int×aC×YT×Nat×(HL cK [.sl (.st 2)])×aC×Unit->Option (Bool×YT×Nat×(HL cK [.sl (.st 2)])×aC))
  (hs:∀k∈l,∀acc:List Row,acc.length+(rws f d k.page).length<=1000000->self (k.page,⟨f⟩,Yr,0,((acc,()):HL cK [.sl (.st 2)]),⟨f⟩,())=some (true,Yr,0,((acc++rws f d k.page,()):HL cK [.sl (.st 2)]),⟨f⟩)):
  ∀(m:Nat)(t:List Kid)(i:Nat)(acc:List Row),l.drop i=t->i<=l.length->t.length<m->acc.length+(t.flatMap λk=>rws f d k.page).length<=1000000->
  cA N self m (l,(l.length:Int),(i:Int),⟨f⟩,Yr,0,((acc,()):HL cK [.sl (.st 2)]),())=some (true,Yr,0,((acc++t.flatMap λk=>rws f d k.page,()):HL cK [.sl (.st 2)]),⟨f⟩):=by
 intro m
 induction m with
 |zero=>intro t i acc _ _ h;omega
 |succ m ih=>
  intro t i acc ht hi hk ha
  unfold cA
  rw[aM]
  generalize hr:aW _ m=r1
  replace hr:cA N self m=r1:=hr
  simp only[hr] at ih
  cases t with
  |nil=>
   cases dC ht hi
   simp only[bI (Nat.lt_irrefl _),cond_false,List.flatMap_nil,List.append_nil]
  |cons x t=>
   obtain⟨h1,h2,h3⟩:=dB ht
   rw[List.flatMap_cons,List.length_append] at ha
   simp only[bH h3,cond_true,aR,h1,Option.bind_some,hs x (List.mem_of_getElem? h1) acc (by omega),Bool.not_true,cond_false,aJ (show i<4611686018427387904 by omega)]
   rw[ih t (i+1) (acc++rws f d x.page) h2 (by omega) (by simp only[List.length_cons] at hk;omega) (by rw[List.length_append];omega),List.flatMap_cons,List.append_assoc]
theorem MM{f:List aA}(hf:f.length=64):∀(d N:Nat)(n:Int)(lo:Key)(hi:Option Key)(acc:List Row),sub f d n lo hi->d+1003<=N->acc.length+(rws f d n).length<=1000000->
  eD N n ⟨f⟩ Yr 0 ((acc,()):HL cK [.sl (.st 2)]) ⟨f⟩=some (true,Yr,0,((acc++rws f d n,()):HL cK [.sl (.st 2)]),⟨f⟩)
 |0,_,_,_,_,_,h,_,_=>h.elim
 |d+1,0,_,_,_,_,_,h,_=>by omega
 |1,N+1,n,lo,hi,acc,h,hN,ha=>by
  obtain⟨h1,h2,l,h3,h4,h5⟩:=h
  have e:rws f 1 n=l:=by rw[rws,h3];simp
  rw[e] at ha|-
  show bR N (AN _ N) n ⟨f⟩ Yr 0 (acc,()) ⟨f⟩=_
  unfold bR
  rw[show idx (aC.mk f).pages n=some (pg f n) from gI (f:=f) ⟨h1.1,by omega⟩,h3]
  simp only[Option.bind_some]
  rw[show((1:Int)==1)=true from rfl,cond_true,abc (show acc.length+l.length<=1000000 by omega)]
  rfl
 |d+2,N+1,n,lo,hi,acc,h,hN,ha=>by
  obtain⟨h1,h2,l,h3,h4,h5,h6⟩:=h
  have e:rws f (d+2) n=l.flatMap λk=>rws f (d+1) k.page:=by rw[rws,h3];rfl
  rw[e] at ha|-
  show bR N (AN _ N) n ⟨f⟩ Yr 0 (acc,()) ⟨f⟩=_
  unfold bR
  rw[show idx (aC.mk f).pages n=some (pg f n) from gI (f:=f) ⟨h1.1,by omega⟩,h3]
  simp only[Option.bind_some]
  rw[show((2:Int)==1)=false from rfl,cond_false]
  have h4':=h4.four
  exact Ur N (by omega) (d:=d+1) (by omega) _ (λk hk acc' ha'=>by
   obtain⟨a,b,hs⟩:=cQ h6 k hk
   exact MM hf (d+1) N k.page a b acc' hs (by omega) ha') N l 0 acc rfl (Nat.zero_le _) (by omega) ha
theorem G6(N:Nat)(hN:2000<=N){f:List aA}{d:Nat}(hg:Good f d):vB N ⟨f⟩=some (0,rws f d 0):=by
 have hd:=hg.deep
 have hr:=hg.rows
 unfold vB
 rw[qZ N hN hg]
 simp only[Option.bind_some]
 rw[show((0:Int) !=0)=false from rfl,cond_false]
 unfold BZ nM
 simp only[Option.bind_some]
 have:=MM hg.len d N 0 cC none [] hg.tree (by omega) (by simp;omega)
 rw[show(fun(y3:HL cK [.st 4]) (z4:HL cK [.sl (.st 2)])=>(app 40 z4.1 y3.1.rows).bind λl5=>some (0,((l5,()):HL cK [.sl (.st 2)])))=Yr from rfl,this]
 rfl
theorem QE(N:Nat)(hN:1003<=N){f:List aA}{d:Nat}{l:List Kid}(hl:l.length<=1000)
  (self:aC×Int×Unit->Option (List Row)) (hs:∀k∈l,self (⟨f⟩,k.page,())=some (rws f d k.page)) (c:aA) (hcl:c.kids=l):
  ∀(m:Nat)(t:List Kid)(i:Nat)(acc:List Row),l.drop i=t->i<=l.length->t.length<m->acc.length+(t.flatMap λk=>rws f d k.page).length<=1000000->
  rM N self m ((i:Int),⟨f⟩,c,acc,())=some (acc++t.flatMap λk=>rws f d k.page):=by
 intro m
 induction m with
 |zero=>intro t i acc _ _ h;omega
 |succ m ih=>
  intro t i acc ht hi hk ha
  unfold rM
  rw[aM]
  generalize hr:aW _ m=r1
  replace hr:rM N self m=r1:=hr
  simp only[hr] at ih
  simp only[hcl]
  cases t with
  |nil=>
   cases dC ht hi
   simp only[bI (Nat.lt_irrefl _),cond_false,List.flatMap_nil,List.append_nil]
  |cons x t=>
   obtain⟨h1,h2,h3⟩:=dB ht
   rw[List.flatMap_cons,List.length_append] at ha
   simp only[bH h3,cond_true,aR,h1,Option.bind_some,hs x (List.mem_of_getElem? h1),cE (show acc.length+(rws f d x.page).length<=1000000 by omega) (show 40<=1000 by omega),aJ (show i<4611686018427387904 by omega)]
   rw[ih t (i+1) (acc++rws f d x.page) h2 (by omega) (by simp only[List.length_cons] at hk;omega) (by rw[List.length_append];omega),List.flatMap_cons,List.append_assoc]
theorem QF{f:List aA}(hf:f.length=64):∀(d N:Nat)(n:Int)(lo:Key)(hi:Option Key),sub f d n lo hi->d+1003<=N->(rws f d n).length<=1000000->nN N ⟨f⟩ n=some (rws f d n)
 |0,_,_,_,_,h,_,_=>h.elim
 |d+1,0,_,_,_,_,h,_=>by omega
 |1,N+1,n,lo,hi,h,hN,ha=>by
  obtain⟨h1,h2,l,h3,h4,h5⟩:=h
  have e:rws f 1 n=l:=by rw[rws,h3];simp
  rw[e] at ha|-
  show gY N (AN _ N) ⟨f⟩ n=_
  unfold gY
  rw[show idx (aC.mk f).pages n=some (pg f n) from gI (f:=f) ⟨h1.1,by omega⟩,h3]
  simp only[Option.bind_some,cE (show([]:List Row).length+l.length<=1000000 by simpa using ha) (show 40<=1000 by omega)]
  have:=QE N (by omega) (f:=f) (d:=0) (l:=[]) (by simp) (AN (λn self x=>gY n self x.1 x.2.1) N) (by simp) ⟨1,l,[]⟩ rfl N [] 0 ([]++l) rfl (Nat.zero_le _) (by simp;omega) (by simpa using ha)
  simp only[List.nil_append,List.flatMap_nil,List.append_nil] at this
  exact this
 |d+2,N+1,n,lo,hi,h,hN,ha=>by
  obtain⟨h1,h2,l,h3,h4,h5,h6⟩:=h
  have e:rws f (d+2) n=l.flatMap λk=>rws f (d+1) k.page:=by rw[rws,h3];rfl
  rw[e] at ha|-
  show gY N (AN _ N) ⟨f⟩ n=_
  unfold gY
  rw[show idx (aC.mk f).pages n=some (pg f n) from gI (f:=f) ⟨h1.1,by omega⟩,h3]
  simp only[Option.bind_some,cE (show([]:List Row).length+([]:List Row).length<=1000000 by simp) (show 40<=1000 by omega)]
  have h4':=h4.four
  have:=QE N (by omega) (f:=f) (d:=d+1) (l:=l) (by omega) (AN (λn self x=>gY n self x.1 x.2.1) N) (λk hk=>by
   obtain⟨a,b,hs⟩:=cQ h6 k hk
   have hk':(rws f (d+1) k.page).length<=1000000:=by
    obtain⟨u,v,e⟩:=List.append_of_mem hk
    rw[e] at ha
    simp only[List.flatMap_append,List.flatMap_cons,List.length_append] at ha
    omega
   exact QF hf (d+1) N k.page a b hs (by omega) hk') ⟨2,[],l⟩ rfl N l 0 [] rfl (Nat.zero_le _) (by omega) (by simpa using ha)
  simp only[List.nil_append] at this
  exact this
theorem J9(N:Nat)(hN:2000<=N){f:List aA}{d:Nat}(hg:Good f d):nN N ⟨f⟩ 0=some (rws f d 0):=
 QF hg.len d N 0 cC none hg.tree (by have:=hg.deep;omega) (by have:=hg.rows;omega)
def eqL{α:Type}(e:α->α->Bool):List α->List α->Bool
 |[],[]=>true
 |a::s,b::t=>e a b&&eqL e s t
 |_,_=>false
theorem Ta{α:Type}{e:α->α->Bool}:∀{a b:List α},eqL e a b=true->a.length=b.length
 |[],[],_=>rfl
 |a::s,b::t,h=>by
  simp only[eqL,Bool.and_eq_true] at h
  simp only[List.length_cons,Ta h.2]
 |[],_::_,h=>by cases h
 |_::_,[],h=>by cases h
theorem Ad{α:Type}{e:α->α->Bool}(he:∀a,e a a=true):∀(l:List α),eqL e l l=true
 |[]=>rfl
 |a::t=>by simp only[eqL,he,Ad he t,Bool.and_self]
theorem Dd{α:Type}{e:α->α->Bool}{a b:List α}(h:a.length≠b.length):eqL e a b=false:=by
 cases hh:eqL e a b with
 |false=>rfl
 |true=>exact absurd (Ta hh) h
theorem Ip{α T R:Type}{F:(T->Option R)->T->Option R}{e:α->α->Bool}{no yes:Option R}(a b:List α)(hab:a.length=b.length)(mk:Nat->T)
  (hF:∀r i x y,a[i]? =some x->b[i]? =some y->i<a.length->F r (mk i)=if e x y then r (mk (i+1)) else no)
  (hE:∀r,F r (mk a.length)=yes):∀(m i:Nat),i<=a.length->a.length-i<m->aW F m (mk i)=if eqL e (a.drop i) (b.drop i) then yes else no:=by
 intro m
 induction m with
 |zero=>intro i _ h;omega
 |succ m ih=>
  intro i hi hm
  rw[aM]
  by_cases h:i<a.length
  ·have h':i<b.length:=by omega
   rw[hF _ i _ _ (get_some h) (get_some h') h,drop_cons h,drop_cons h']
   simp only[eqL]
   by_cases hx:e a[i] b[i]=true
   ·simp only[hx,if_true,Bool.true_and,ih (i+1) (by omega) (by omega)]
   ·rw[Bool.not_eq_true] at hx
    simp[hx]
  ·obtain rfl:i=a.length:=by omega
   rw[hE,drop_nil h,drop_nil (by omega)];rfl
def F9(a b:aA):Bool:=decide (a.kind=b.kind)&&(eqL Row.eqb a.rows b.rows&&eqL Kid.eqb a.kids b.kids)
theorem Tb{α β:Type}(a:List α)(b:List β):((a.length:Int) !=(b.length:Int))= !decide (a.length=b.length):=by
 rw[bne,oL];congr 1;exact decide_eq_decide.2 (by omega)
theorem YD(n:Nat)(hn:1003<=n)(a b:List Row)(ha:a.length<=1000):lK n a b=some (eqL Row.eqb a b):=by
 unfold lK
 rw[Tb]
 by_cases h:a.length=b.length
 ·rw[decide_eq_true h,Bool.not_true,cond_false]
  show mC n n (a,b,(a.length:Int),((0:Nat):Int),())=_
  unfold mC
  refine(Ip (e:=Row.eqb) (no:=some false) (yes:=some true) a b h (λi=>(a,b,(a.length:Int),(i:Int),())) (λr i x y hx hy hi=> ?_) (λr=> ?_) n 0 (Nat.zero_le _) (by omega)).trans ?_
  ·simp only[bH hi,cond_true,aR,hx,hy,Option.bind_some,aJ (show i<4611686018427387904 by omega)]
   cases Row.eqb x y<;>simp
  ·simp only[bI (Nat.lt_irrefl _),cond_false]
  ·simp only[List.drop_zero];cases eqL Row.eqb a b<;>rfl
 ·rw[decide_eq_false h,Dd h];rfl
theorem YE(n:Nat)(hn:1003<=n)(a b:List Kid)(ha:a.length<=1000):lJ n a b=some (eqL Kid.eqb a b):=by
 unfold lJ
 rw[Tb]
 by_cases h:a.length=b.length
 ·rw[decide_eq_true h,Bool.not_true,cond_false]
  show mB n n (a,b,(a.length:Int),((0:Nat):Int),())=_
  unfold mB
  refine(Ip (e:=Kid.eqb) (no:=some false) (yes:=some true) a b h (λi=>(a,b,(a.length:Int),(i:Int),())) (λr i x y hx hy hi=> ?_) (λr=> ?_) n 0 (Nat.zero_le _) (by omega)).trans ?_
  ·simp only[bH hi,cond_true,aR,hx,hy,Option.bind_some,aJ (show i<4611686018427387904 by omega)]
   cases Kid.eqb x y<;>simp
  ·simp only[bI (Nat.lt_irrefl _),cond_false]
  ·simp only[List.drop_zero];cases eqL Kid.eqb a b<;>rfl
 ·rw[decide_eq_false h,Dd h];rfl
theorem WL(n:Nat)(hn:1003<=n)(a b:aA)(ha:dS a):AK n a b=some (F9 a b):=by
 unfold AK F9
 simp only[YD n hn _ _ ha.rows,YE n hn _ _ ha.kids,Option.bind_some,jn,oL]
 cases decide (a.kind=b.kind)<;>cases eqL Row.eqb a.rows b.rows<;>rfl
theorem WM(n:Nat)(hn:1003<=n)(f g:List aA)(hl:f.length<=1000)(hf:∀c∈f,dS c):CU n ⟨f⟩ ⟨g⟩=some (eqL F9 f g):=by
 suffices h:dN n f g=some (eqL F9 f g) by
  unfold CU;rw[h];rfl
 unfold dN
 rw[Tb]
 by_cases h:f.length=g.length
 ·rw[decide_eq_true h,Bool.not_true,cond_false]
  show eR n n (g,f,(f.length:Int),((0:Nat):Int),())=_
  unfold eR
  refine(Ip (e:=F9) (no:=some false) (yes:=some true) f g h (λi=>(g,f,(f.length:Int),(i:Int),())) (λr i x y hx hy hi=> ?_) (λr=> ?_) n 0 (Nat.zero_le _) (by omega)).trans ?_
  ·simp only[bH hi,cond_true,aR,hx,hy,Option.bind_some,WL n hn x y (hf x (List.mem_of_getElem? hx)),aJ (show i<4611686018427387904 by omega)]
   cases F9 x y<;>simp
  ·simp only[bI (Nat.lt_irrefl _),cond_false]
  ·simp only[List.drop_zero];cases eqL F9 f g<;>rfl
 ·rw[decide_eq_false h,Dd h];rfl
theorem R9(c:aA):F9 c c=true:=by
 unfold F9
 rw[decide_eq_true rfl,Ad NK,Ad X0];rfl
end Go.Proofs.YtlcmdgpjiendmaaGreat
namespace Go.Proofs.YtlcmdgpjiendmaaGreat
open Go.Bur
set_option linter.unusedSimpArgs false
set_option linter.unusedVariables false
set_option maxRecDepth 100000
def ZK(f:List aA):Nat->Int->Key->Option Key->Prop
 |0=>λ_ _ _=>False
 |m+1=>λn lo hi=>(0<=n/\n<64)/\(n≠0->2<=aD (pg f n))/\((∃l,pg f n=⟨1,l,[]⟩/\mI l/\∀r∈l,within r.key lo hi=true)\/∃l,pg f n=⟨2,[],l⟩/\dP l/\(∀k∈l.tail,within k.least lo hi=true)/\cJ (ZK f m) hi lo l)
end Go.Proofs.YtlcmdgpjiendmaaGreat
namespace Go.Proofs.YtlcmdgpjiendmaaGreat
open Go.Bur
set_option linter.unusedSimpArgs false
set_option linter.unusedVariables false
set_option maxRecDepth 100000
theorem abx{α:Type}(l:List α):((l.length:Int)==0)=decide (l.length=0):=VI
end Go.Proofs.YtlcmdgpjiendmaaGreat
namespace Go.Proofs.YtlcmdgpjiendmaaGreat
open Go.Bur
set_option linter.unusedSimpArgs false
set_option linter.unusedVariables false
set_option maxRecDepth 100000
def Ka(s:aF):List aF->List aF
 |[]=>[s]
 |x::t=>if s.page<=x.page then s::x::t else x::Ka s t
def bK:List aF->List aF
 |[]=>[]
 |x::t=>Ka x (bK t)
theorem G7(s:aF):∀(l:List aF),(Ka s l).Perm (s::l)
 |[]=>List.Perm.refl _
 |x::t=>by
  unfold Ka
  split
  ·exact List.Perm.refl _
  ·exact((G7 s t).cons x).trans (List.Perm.swap ..)
theorem cU:∀(l:List aF),(bK l).Perm l
 |[]=>List.Perm.refl _
 |x::t=>(G7 x _).trans ((cU t).cons x)
theorem HU(s:aF):∀{l:List aF},l.Pairwise (λa b=>a.page<=b.page)->(Ka s l).Pairwise λa b=>a.page<=b.page
 |[],_=>by simp[Ka]
 |x::t,h=>by
  obtain⟨h1,h2⟩:=List.pairwise_cons.1 h
  unfold Ka
  split
  ·rename_i hs
   refine List.pairwise_cons.2 ⟨λy hy=> ?_,h⟩
   rcases List.mem_cons.1 hy with rfl|hy
   ·exact hs
   ·exact Int.le_trans hs (h1 y hy)
  ·rename_i hs
   refine List.pairwise_cons.2 ⟨λy hy=> ?_,HU s h2⟩
   rcases List.mem_cons.1 ((G7 s t).mem_iff.1 hy) with rfl|hy
   ·omega
   ·exact h1 y hy
theorem CB:∀(l:List aF),(bK l).Pairwise λa b=>a.page<=b.page
 |[]=>List.Pairwise.nil
 |x::t=>HU x (CB t)
theorem Ga{a b:Int}:FL a b<0↔a<b:=by
 unfold FL
 by_cases h:a<b
 ·rw[if_pos h];simp[h]
 ·rw[if_neg h]
  by_cases h2:a>b
  ·rw[if_pos h2];simp[h]
  ·rw[if_neg h2];simp[h]
theorem Ae(n:Nat)(x y:aF):eO n x y=some (FL x.page y.page):=by
 unfold eO;rw[Hz];rfl
theorem QG:∀{l:List aF},(l.map (·.page)).Nodup->∀x∈l,∀y∈l,x.page=y.page->x=y
 |[],_,_,hx,_,_,_=>by cases hx
 |a::t,h,x,hx,y,hy,e=>by
  rw[List.map_cons] at h
  obtain⟨h1,h2⟩:=List.nodup_cons.1 h
  rcases List.mem_cons.1 hx with rfl|hx
  ·rcases List.mem_cons.1 hy with rfl|hy
   ·rfl
   ·exact absurd (List.mem_map.2 ⟨y,hy,e.symm⟩) h1
  ·rename_i hxt
   rcases List.mem_cons.1 hy with hya|hy
   ·subst hya;exact absurd (List.mem_map.2 ⟨x,by assumption,e⟩) h1
   ·exact QG h2 x hx y hy e
theorem QH(n:Nat){l:List aF}(hl:l.length<=1000)(hd:(l.map (·.page)).Nodup):cX n l=some (bK l):=by
 unfold cX
 rw[Nat.ble_eq_true_of_le (by omega)]
 refine Wx _ ⟨λx _ y _=>⟨_,Ae n x y⟩,λx _=> ?_,λx _ y _ z _ h1 h2=> ?_,λx hx y hy h1 h2=> ?_⟩ ⟨cU l, ?_⟩
 ·simp only[wQ,Ae,Option.getD_some,Ga];omega
 ·simp only[wQ,Ae,Option.getD_some,Ga] at h1 h2|-;omega
 ·simp only[wQ,Ae,Option.getD_some,Ga] at h1 h2
  exact QG hd x hx y hy (by omega)
 ·refine(CB l).imp λ{a b} h=> ?_
  simp only[wQ,Ae,Option.getD_some,Ga];omega
noncomputable def Zq(n:Nat)(l:List aF):Option (List aF):=if l.length<=1000/\(l.map (·.page)).Nodup then some (bK l) else cX n l
theorem YF:cX=Zq:=by
 funext n l
 unfold Zq
 split
 ·rename_i h;exact QH n h.1 h.2
 ·rfl
noncomputable def Tc(n:Nat)(l:List Row):Option (List Row):=if l.length<=1000 then some l else dV n l
theorem Us:dV=Tc:=by
 funext n l
 unfold Tc
 split
 ·rename_i h;exact vD n l h
 ·rfl
noncomputable def Td(n:Nat)(l:List Kid):Option (List Kid):=if l.length<=1000 then some l else cO n l
theorem Ut:cO=Td:=by
 funext n l
 unfold Td
 split
 ·rename_i h;exact qV n l h
 ·rfl
theorem De(n:Nat)(l:List aA)(h:l.length<=1000):fB n l=some l:=Ja (by omega) (by decide)
noncomputable def Te(n:Nat)(l:List aA):Option (List aA):=if l.length<=1000 then some l else fB n l
theorem Uu:fB=Te:=by
 funext n l
 unfold Te
 split
 ·rename_i h;exact De n l h
 ·rfl
theorem abd:xH 30000=some true:=by
 delta xH B1 pB jC BV Hu BW eX bV fN kH kJ nL vS jJ jK bL
 rw[YF,Us,Ut,Uu]
 kernel_rfl
end Go.Proofs.YtlcmdgpjiendmaaGreat
namespace Go.Proofs.YtlcmdgpjiendmaaGreat
open Go.Bur
set_option linter.unusedSimpArgs false
set_option linter.unusedVariables false
set_option maxRecDepth 100000
def dZ(f:List aA):List Int:=((List.range' 1 63).filter fun(j:Nat)=>decide ((pg f (j:Int)).kind=0)).map Int.ofNat
theorem Kb(n:Nat)(hn:1003<=n){f:List aA}(hf:f.length=64):ED n ⟨f⟩=some (dZ f):=by
 have key:∀(m i:Nat)(acc:List Int),i<=64->64-i<m->acc.length<=i->rS n m ((i:Int),⟨f⟩,acc,())=some (acc++((List.range' i (64-i)).filter fun(j:Nat)=>decide ((pg f (j:Int)).kind=0)).map Int.ofNat):=by
  intro m
  induction m with
  |zero=>intro i acc _ h;omega
  |succ m ih=>
   intro i acc hi hm ha
   unfold rS
   rw[aM]
   generalize hr:aW _ m=r1
   replace hr:rS n m=r1:=hr
   simp only[hr] at ih
   by_cases h:i<64
   ·simp only[show decide ((i:Int)<64)=true from decide_eq_true (by omega),cond_true,show idx f (i:Int)=some (pg f (i:Int)) from gI ⟨by omega,by omega⟩,Option.bind_some,jn,D5,Qr,aJ (show i<4611686018427387904 by omega),cE (show acc.length+[(i:Int)].length<=1000000 by simp;omega) (show 8<=1000 by omega)]
    rw[show 64-i=(64-(i+1))+1 by omega,List.range'_succ,List.filter_cons]
    by_cases h0:(pg f (i:Int)).kind=0
    ·rw[decide_eq_true h0,cond_true,ih (i+1) _ (by omega) (by omega) (by simp;omega)]
     simp
    ·rw[decide_eq_false h0,cond_false,ih (i+1) _ (by omega) (by omega) (by omega)]
     simp
   ·obtain rfl:i=64:=by omega
    simp only[show decide (((64:Nat):Int)<64)=false from rfl,cond_false]
    simp
 exact(key n 1 [] (by omega) (by omega) (by simp)).trans (by simp[dZ])
theorem Df{f:List aA}{x:Int}:x∈dZ f↔(0<x/\x<64)/\(pg f x).kind=0:=by
 unfold dZ
 rw[List.mem_map]
 constructor
 ·rintro⟨a,ha,rfl⟩
  obtain⟨h1,h2⟩:=List.mem_filter.1 ha
  rw[List.mem_range'_1] at h1
  exact⟨⟨by show(0:Int)<(a:Int);omega,by show(a:Int)<64;omega⟩,of_decide_eq_true h2⟩
 ·rintro⟨⟨h1,h2⟩,h3⟩
  have e:((x.toNat:Nat):Int)=x:=by omega
  refine⟨x.toNat,List.mem_filter.2 ⟨by rw[List.mem_range'_1];omega,decide_eq_true ?_⟩,e⟩
  rw[e];exact h3
theorem QI{f:List aA}:(dZ f).Nodup:=by
 unfold dZ
 refine List.pairwise_map.2 (List.Pairwise.imp (λ{a b} h e=>h (Int.ofNat.inj e)) ((List.nodup_range' ..).filter _))
theorem QJ:J5.Nodup:=by
 unfold J5
 exact List.pairwise_map.2 (List.Pairwise.imp (λ{a b} h e=>h (Int.ofNat.inj e)) List.nodup_range)
theorem YG{f:List aA}{d:Nat}(hg:Good f d):(dZ f).length+(pgs f d 0).length=64:=by
 have h1:(dZ f++pgs f d 0).Nodup:=List.nodup_append.2 ⟨QI,hg.nodup,λa ha b hb e=>by
  subst e
  exact(mJ hg.tree a hb).2 (Df.1 ha).2⟩
 have hp:(dZ f++pgs f d 0).Perm J5:=(List.perm_ext_iff_of_nodup h1 QJ).2 λx=>by
  rw[List.mem_append,MD]
  constructor
  ·rintro(h|h)
   ·have:=(Df.1 h).1;omega
   ·exact(mJ hg.tree x h).1
  ·intro hx
   by_cases hm:x∈pgs f d 0
   ·exact Or.inr hm
   ·refine Or.inl (Df.2 ⟨⟨?_,hx.2⟩,hg.rest x hx hm⟩)
    have:x≠0:=λe=>hm (by
     subst e
     obtain⟨d',rfl⟩:∃d',d=d'+1:=⟨d-1,by have:=hg.pos;omega⟩
     exact cG)
    omega
 have:=hp.length_eq
 rw[List.length_append] at this
 rw[this];simp[J5]
theorem MN(n:Nat)(hn:1003<=n)(a b:List Row)(ha:a.length<=1000):wC n a b=some (eqL Row.eqb a b):=by
 unfold wC
 rw[Tb]
 by_cases h:a.length=b.length
 ·rw[decide_eq_true h,Bool.not_true,cond_false]
  show yO n n (a,b,((0:Nat):Int),())=_
  unfold yO
  refine(Ip (e:=Row.eqb) (no:=some false) (yes:=some true) a b h (λi=>(a,b,(i:Int),())) (λr i x y hx hy hi=> ?_) (λr=> ?_) n 0 (Nat.zero_le _) (by omega)).trans ?_
  ·simp only[bH hi,cond_true,aR,hx,hy,Option.bind_some,aJ (show i<4611686018427387904 by omega)]
   cases Row.eqb x y<;>simp
  ·simp only[bI (Nat.lt_irrefl _),cond_false]
  ·simp only[List.drop_zero];cases eqL Row.eqb a b<;>rfl
 ·rw[decide_eq_false h,Dd h];rfl
def Oq:List aA:=(List.replicate 64 bT).set 0 ⟨1,[],[]⟩
theorem YH(n:Nat):Gx n=some ⟨Oq⟩:=rfl
end Go.Proofs.YtlcmdgpjiendmaaGreat
namespace Go.Proofs.YtlcmdgpjiendmaaGreat
open Go.Bur
set_option linter.unusedSimpArgs false
set_option linter.unusedVariables false
set_option maxRecDepth 100000
def EX(f:List aA)(n:Int)(c:aA):List aA:=f.set n.toNat c
def aL(f:List aA):List aF->List aA
 |[]=>f
 |s::t=>aL (EX f s.page s.content) t
def cH(l:List aF):Prop:=∀s∈l,0<=s.page/\s.page<64
theorem rV{f:List aA}{n:Int}{c:aA}:(EX f n c).length=f.length:=by simp[EX]
theorem pU:∀{l:List aF} {f:List aA},(aL f l).length=f.length
 |[],_=>rfl
 |s::t,f=>by rw[aL,pU,rV]
theorem Ot{f:List aA}{n:Int}{c:aA}(hf:f.length=64)(hn:0<=n/\n<64)(m:Int):pg (EX f n c) m=if m=n then c else pg f m:=by
 unfold pg EX
 by_cases hm:0<=m
 ·obtain⟨j,rfl⟩:∃j:Nat,m=(j:Int):=⟨m.toNat,by omega⟩
  obtain⟨i,rfl⟩:∃i:Nat,n=(i:Int):=⟨n.toNat,by omega⟩
  rw[aR,aR,Int.toNat_natCast]
  by_cases e:j=i
  ·subst e
   rw[if_pos rfl,List.getElem?_set_self (by omega)];rfl
  ·rw[if_neg (by omega),List.getElem?_set_ne (λh=>e h.symm)]
 ·have h1:∀l:List aA,idx l m=none:=λl=>by unfold idx;rw[if_neg hm]
  rw[h1,h1,if_neg (by omega)]
theorem kV:∀{l:List aF} {f:List aA} {m:Int},f.length=64->cH l->(∀s∈l,s.page≠m)->pg (aL f l) m=pg f m
 |[],_,_,_,_,_=>rfl
 |s::t,f,m,hf,hl,hm=>by
  rw[aL,kV (by rw[rV];exact hf) (λx hx=>hl x (List.mem_cons_of_mem _ hx)) (λx hx=>hm x (List.mem_cons_of_mem _ hx)),Ot hf (hl s (List.mem_cons_self ..)),if_neg (λe=>hm s (List.mem_cons_self ..) e.symm)]
theorem uW:∀{l:List aF} {f:List aA},f.length=64->cH l->(l.map (·.page)).Nodup->∀s∈l,pg (aL f l) s.page=s.content
 |s::t,f,hf,hl,hd,x,hx=>by
  rw[List.map_cons] at hd
  obtain⟨d1,d2⟩:=List.nodup_cons.1 hd
  rw[aL]
  rcases List.mem_cons.1 hx with rfl|hx
  ·rw[kV (by rw[rV];exact hf) (λx hx=>hl x (List.mem_cons_of_mem _ hx)) (λy hy e=>d1 (List.mem_map.2 ⟨y,hy,e⟩)),Ot hf (hl x (List.mem_cons_self ..)),if_pos rfl]
  ·exact uW (by rw[rV];exact hf) (λx hx=>hl x (List.mem_cons_of_mem _ hx)) d2 x hx
theorem WN{f g:List aA}(hf:f.length=64)(hg:g.length=64)(h:∀m,0<=m/\m<64->pg f m=pg g m):f=g:=by
 refine List.ext_getElem (by omega) λi h1 h2=> ?_
 have:=h (i:Int) ⟨by omega,by omega⟩
 rwa[G5 (get_some h1),G5 (get_some h2)] at this
theorem Kc{l:List aF}(h:(l.map (·.page)).Nodup):((bK l).map (·.page)).Nodup:=((cU l).map _).nodup_iff.2 h
theorem Uv{f:List aA}{l m:List aF}(hp:l.Perm m)(hf:f.length=64)(hl:cH l)(hd:(l.map (·.page)).Nodup):aL f l=aL f m:=by
 have hm:cH m:=λs hs=>hl s (hp.mem_iff.2 hs)
 have hd':(m.map (·.page)).Nodup:=(hp.map _).nodup_iff.1 hd
 refine WN (by rw[pU];exact hf) (by rw[pU];exact hf) λk hk=> ?_
 by_cases h:∃s∈l,s.page=k
 ·obtain⟨s,hs,rfl⟩:=h
  rw[uW hf hl hd s hs,uW hf hm hd' s (hp.mem_iff.1 hs)]
 ·rw[kV hf hl λs hs e=>h ⟨s,hs,e⟩,kV hf hm λs hs e=>h ⟨s,hp.mem_iff.2 hs,e⟩]
def Ctx(f:List aA)(D d:Nat)(n:Int)(lo:Key)(hi:Option Key)(Q:List Int)(R1 R2:List Row):Prop:=
 ∀f',(∀m∈Q,pg f' m=pg f m)->sub f' d n lo hi->sub f' D 0 cC none/\(pgs f' D 0).Perm (Q++pgs f' d n)/\rws f' D 0=R1++(rws f' d n++R2)
structure At(f:List aA)(D d:Nat)(n:Int)(lo:Key)(hi:Option Key)(Q:List Int)(R1 R2:List Row):Prop where
 len:f.length=64
 ok:∀m,0<=m/\m<64->aV (pg f m)=true
 ctx:Ctx f D d n lo hi Q R1 R2
 tree:sub f d n lo hi
 nodup:(Q++pgs f d n).Nodup
 rest:∀m,0<=m/\m<64->m∉Q++pgs f d n->(pg f m).kind=0
 low:ltK lo cC=false
theorem At.good{f:List aA}{D d:Nat}{n:Int}{lo:Key}{hi:Option Key}{Q:List Int}{R1 R2:List Row}(h:At f D d n lo hi Q R1 R2):Good f D/\rws f D 0=R1++(rws f d n++R2):=by
 obtain⟨h1,h2,h3⟩:=h.ctx f (λ_ _=>rfl) h.tree
 exact⟨⟨h.len,h.ok,h1,h2.nodup_iff.2 h.nodup,λm hm hn=>h.rest m hm λhq=>hn (h2.mem_iff.2 hq)⟩,h3⟩
theorem At.root{f:List aA}{D:Nat}(h:Good f D):At f D D 0 cC none [] [] []:=
 ⟨h.len,h.ok,λf' _ hs=>⟨hs,List.Perm.refl _,by simp⟩,h.tree,h.nodup,λm hm hn=>h.rest m hm hn,fO _⟩
theorem At.free{f:List aA}{D d:Nat}{n:Int}{lo:Key}{hi:Option Key}{Q:List Int}{R1 R2:List Row}(h:At f D d n lo hi Q R1 R2){m:Int}(hm:m∈dZ f):(0<m/\m<64)/\m∉Q++pgs f d n:=by
 obtain⟨h1,h2⟩:=Df.1 hm
 obtain⟨g1,g2,_⟩:=h.ctx f (λ_ _=>rfl) h.tree
 exact⟨h1,λhq=>(mJ g1 m (g2.mem_iff.2 hq)).2 h2⟩
theorem At.down{f:List aA}{D d:Nat}{n:Int}{lo:Key}{hi:Option Key}{Q:List Int}{R1 R2:List Row}(h:At f D (d+2) n lo hi Q R1 R2){l1 l2:List Kid}{x:Kid}(hp:pg f n=⟨2,[],l1++x::l2⟩):
  At f D (d+1) x.page (AZ l1 lo x.least) (nxt hi l2) (Q++n::((l1.flatMap λk=>pgs f (d+1) k.page)++l2.flatMap λk=>pgs f (d+1) k.page)) (R1++l1.flatMap λk=>rws f (d+1) k.page) ((l2.flatMap λk=>rws f (d+1) k.page)++R2):=by
 obtain⟨l,e,hl2,hl4,hK⟩:=iB h.tree
 obtain rfl:l=l1++x::l2:=by rw[hp] at e;injection e with _ _ e;exact e.symm
 obtain⟨k1,k2,k3⟩:=(QB (N:=[x]) (N':=[]) rfl).1 hK.ok
 have k2:sub f (d+1) x.page (AZ l1 lo x.least) (nxt hi l2):=k2
 have hpl:=sZ (d:=d+1) hp
 have hnd:=h.nodup
 rw[hpl,List.flatMap_append,List.flatMap_cons] at hnd
 have hperm:((Q++n::((l1.flatMap λk=>pgs f (d+1) k.page)++l2.flatMap λk=>pgs f (d+1) k.page))++pgs f (d+1) x.page).Perm (Q++pgs f (d+2) n):=by
  rw[hpl,List.flatMap_append,List.flatMap_cons]
  refine List.perm_iff_count.2 λa=> ?_
  simp only[List.count_cons,List.count_append];omega
 refine⟨h.len,h.ok,λf' hag hs=> ?_,k2,hperm.nodup_iff.2 h.nodup,λm hm hn=>h.rest m hm λhq=>hn (hperm.mem_iff.2 hq),Dc hK h.low⟩
 have en:pg f' n=pg f n:=hag n (List.mem_append_right _ (List.mem_cons_self ..))
 have hxm:∀j∈l1++l2,x.page≠j.page:=λj hj e=>by
  have hn:=hK.nodup
  rw[List.map_append,List.map_cons] at hn
  obtain⟨_,n2,n3⟩:=List.nodup_append.1 hn
  rcases List.mem_append.1 hj with hj|hj
  ·exact n3 j.page (List.mem_map.2 ⟨j,hj,rfl⟩) x.page (List.mem_cons_self ..) e.symm
  ·exact(List.nodup_cons.1 n2).1 (List.mem_map.2 ⟨j,hj,e.symm⟩)
 obtain⟨g1,g2,g3⟩:=ML (N:=[x]) (M:=[x]) (x:=x) (x':=x) (f':=f') h.tree hp (en.trans hp) h.low hl2 hl4 rfl rfl rfl (λk hk p hp=>by
   refine hag p (List.mem_append_right _ (List.mem_cons_of_mem _ ?_))
   rcases List.mem_append.1 hk with hk|hk
   ·exact List.mem_append_left _ (List.mem_flatMap.2 ⟨k,hk,hp⟩)
   ·exact List.mem_append_right _ (List.mem_flatMap.2 ⟨k,hk,hp⟩)) hs (λk hk=>by cases List.mem_singleton.1 hk;exact hK.page x (by simp)) (by simp) (λk hk j hj=>by cases List.mem_singleton.1 hk;exact hxm j hj) (λk hk=>by cases List.mem_singleton.1 hk;exact hK.tab x (by simp))
 obtain⟨c1,c2,c3⟩:=h.ctx f' (λm hm=>hag m (List.mem_append_left _ hm)) g1
 refine⟨c1,c2.trans ?_, ?_⟩
 ·rw[g3]
  simp only[List.flatMap_cons,List.flatMap_nil,List.append_nil]
  refine List.perm_iff_count.2 λa=> ?_
  simp only[List.count_cons,List.count_append];omega
 ·rw[c3,g2]
  simp only[List.flatMap_cons,List.flatMap_nil,List.append_nil,List.append_assoc]
theorem At.change{f f':List aA}{D d:Nat}{n:Int}{lo:Key}{hi:Option Key}{Q:List Int}{R1 R2:List Row}(h:At f D d n lo hi Q R1 R2)(hl:f'.length=64)(hok:∀m,0<=m/\m<64->aV (pg f' m)=true)(hq:∀m∈Q,pg f' m=pg f m)(hs:sub f' d n lo hi)(hn:(Q++pgs f' d n).Nodup)(hr:∀m,0<=m/\m<64->m∉Q++pgs f' d n->(pg f' m).kind=0):At f' D d n lo hi Q R1 R2:=
 ⟨hl,hok,λf2 hag hs2=>h.ctx f2 (λm hm=>(hag m hm).trans (hq m hm)) hs2,hs,hn,hr,h.low⟩
end Go.Proofs.YtlcmdgpjiendmaaGreat
namespace Go.Proofs.YtlcmdgpjiendmaaGreat
open Go.Bur
set_option linter.unusedSimpArgs false
set_option linter.unusedVariables false
set_option maxRecDepth 100000
theorem Dg{f:List aA}:∀{d:Nat} {n:Int} {lo:Key} {hi:Option Key},sub f d n lo hi->∀m∈pgs f d n,aV (pg f m)=true
 |1,n,lo,hi,h,m,hm=>by
  have hc:=MC h
  obtain⟨_,_,l,h3,_⟩:=h
  rw[pgs,h3] at hm
  cases List.mem_singleton.1 hm;exact hc
 |d+2,n,lo,hi,h,m,hm=>by
  have hc:=MC h
  obtain⟨_,_,l,h3,_,_,h6⟩:=h
  rcases List.mem_cons.1 hm with rfl|hm
  ·exact hc
  ·obtain⟨k,hk,hm⟩:=List.mem_flatMap.1 hm
   rw[h3] at hk
   obtain⟨a,b,hs⟩:=cQ h6 k hk
   exact Dg hs m hm
theorem WO{α:Type}{p:α->Bool}:∀{u v:List α},(∀x∈u,p x=true)->(u++v).takeWhile p=u++v.takeWhile p
 |[],_,_=>rfl
 |x::u,v,h=>by rw[List.cons_append,List.takeWhile_cons,h x (List.mem_cons_self ..)];simp only[if_true];rw[WO λy hy=>h y (List.mem_cons_of_mem _ hy)];rfl
theorem Gb{l1 l2:List Kid}{x:Kid}{k:Key}(h:(l1++x::l2).Pairwise λa b=>ltK a.least b.least=true)(c1:l1≠[]->ltK k x.least=false)(c2:∀y t,l2=y::t->ltK k y.least=true):cB (l1++x::l2) k=l1.length:=by
 have h2:l2.takeWhile (λy=> !ltK k y.least)=[]:=by
  cases l2 with
  |nil=>rfl
  |cons y t=>rw[List.takeWhile_cons,c2 y t rfl];rfl
 unfold cB
 cases l1 with
 |nil=>rw[List.nil_append,List.tail_cons,h2]
 |cons a u=>
  have hx:=c1 (by simp)
  rw[List.cons_append,List.tail_cons,WO λy hy=> ?_,List.takeWhile_cons,hx]
  ·simp only[Bool.not_false,if_true,h2];simp
  ·obtain⟨_,_,q⟩:=List.pairwise_append.1 h
   rw[F7 (lt_asymm (q y (List.mem_cons_of_mem _ hy) x (List.mem_cons_self ..))) hx];rfl
def bZ(l:List Kid)(i:Nat):Kid:=(l[i]?).getD ⟨cC,0⟩
theorem eP{l1 l2:List Kid}{x:Kid}:bZ (l1++x::l2) l1.length=x:=by simp[bZ]
def On(f:List aA)(D d:Nat)(n:Int)(k:Key):Prop:=∃lo hi Q R1 R2,At f D d n lo hi Q R1 R2/\within k lo hi=true/\(∀r∈R1,ltK r.key k=true)/\∀r∈R2,ltK k r.key=true
theorem On.root{f:List aA}{D:Nat}(h:Good f D){k:Key}(hk:ltK k cC=false):On f D D 0 k:=⟨cC,none,[],[],[],At.root h,within_iff.2 ⟨hk,λ_ e=>by cases e⟩,by simp,by simp⟩
theorem On.good{f:List aA}{D d:Nat}{n:Int}{k:Key}(h:On f D d n k):Good f D:=by obtain⟨_,_,_,_,_,h,_⟩:=h;exact h.good.1
theorem On.down{f:List aA}{D d:Nat}{n:Int}{k:Key}(h:On f D (d+2) n k){l1 l2:List Kid}{x:Kid}(hp:pg f n=⟨2,[],l1++x::l2⟩)(c1:l1≠[]->ltK k x.least=false)(c2:∀y t,l2=y::t->ltK k y.least=true):On f D (d+1) x.page k:=by
 obtain⟨lo,hi,Q,R1,R2,h,hw,h1,h2⟩:=h
 obtain⟨l,e,hl2,hl4,hK⟩:=iB h.tree
 obtain rfl:l=l1++x::l2:=by rw[hp] at e;injection e with _ _ e;exact e.symm
 obtain⟨i1,i2⟩:=hK.inner h.low hl2 hl4
 have hw':=within_iff.1 hw
 obtain⟨a,s1,s2,s3,s4,s5⟩:=Qw i1 i2 hK.ok rfl c1 c2 hw'.2
 refine⟨_,_,_,_,_,h.down hp,within_iff.2 ⟨?_,s2⟩,λr hr=> ?_,λr hr=> ?_⟩
 ·cases l1 with
  |nil=>exact hw'.1
  |cons u v=>exact c1 (by simp)
 ·rcases List.mem_append.1 hr with hr|hr
  ·exact h1 r hr
  ·exact s4 r hr
 ·rcases List.mem_append.1 hr with hr|hr
  ·exact s5 r hr
  ·exact h2 r hr
theorem On.kids{f:List aA}{D d:Nat}{n:Int}{k:Key}(h:On f D (d+2) n k):∃l1 x l2,pg f n=⟨2,[],l1++x::l2⟩/\dP (l1++x::l2)/\l1.length=cB (l1++x::l2) k/\(l1≠[]->ltK k x.least=false)/\(∀y t,l2=y::t->ltK k y.least=true)/\On f D (d+1) x.page k:=by
 have h':=h
 obtain⟨lo,hi,Q,R1,R2,h1,hw,_⟩:=h
 obtain⟨l,e,hl2,hl4,hK⟩:=iB h1.tree
 have hI:=(hK.inner h1.low hl2 hl4).1
 obtain⟨l1,x,l2,e1,e2,c1,c2⟩:=S8 hI.ne k
 subst e1
 exact⟨l1,x,l2,e,hI,e2,c1,c2,h'.down e c1 c2⟩
theorem three{l:List aF}{f:List aA}(hf:f.length=64)(hl:cH l)(hd:(l.map (·.page)).Nodup):(∀s∈l,pg (aL f (bK l)) s.page=s.content)/\∀m,(∀s∈l,s.page≠m)->pg (aL f (bK l)) m=pg f m:=by
 have e:aL f (bK l)=aL f l:=(Uv (cU l).symm hf hl hd).symm
 rw[e]
 exact⟨uW hf hl hd,λm hm=>kV hf hl hm⟩
def dI(f:List aA)(n:Int)(i:Nat)(m:Int):List aF:=
 let l:=(pg f n).kids
 let x:=bZ l i
 let c:=pg f x.page
 [⟨n,⟨2,[],l.take (i+1)++⟨cF c 2,m⟩::l.drop (i+1)⟩⟩,⟨x.page,eZ c 2⟩,⟨m,eT c 2⟩]
theorem Af{f:List aA}{n m:Int}{l1 l2:List Kid}{x:Kid}(hp:pg f n=⟨2,[],l1++x::l2⟩):dI f n l1.length m=[⟨n,⟨2,[],l1++x::⟨cF (pg f x.page) 2,m⟩::l2⟩⟩,⟨x.page,eZ (pg f x.page) 2⟩,⟨m,eT (pg f x.page) 2⟩]:=by
 unfold dI
 rw[hp]
 simp only[eP]
 have e1:(l1++x::l2).take (l1.length+1)=l1++[x]:=by
  rw[show l1++x::l2=(l1++[x])++l2 by simp,show l1.length+1=(l1++[x]).length by simp,List.take_left]
 have e2:(l1++x::l2).drop (l1.length+1)=l2:=by
  rw[show l1++x::l2=(l1++[x])++l2 by simp,show l1.length+1=(l1++[x]).length by simp,List.drop_left]
 rw[e1,e2]
 simp
structure Grp(f:List aA)(l:List aF):Prop where
 rng:cH l
 nodup:(l.map (·.page)).Nodup
theorem CC{f:List aA}{D d:Nat}{n m:Int}{k:Key}(h:On f D (d+2) n k){l1 l2:List Kid}{x:Kid}(hp:pg f n=⟨2,[],l1++x::l2⟩)(c1:l1≠[]->ltK k x.least=false)(c2:∀y t,l2=y::t->ltK k y.least=true)(h3:(l1++x::l2).length<=3)(hfull:aD (pg f x.page)=4)(hm:m∈dZ f):
  Grp f (dI f n l1.length m)/\On (aL f (bK (dI f n l1.length m))) D (d+2) n k/\rws (aL f (bK (dI f n l1.length m))) D 0=rws f D 0/\pg (aL f (bK (dI f n l1.length m))) n=⟨2,[],l1++x::⟨cF (pg f x.page) 2,m⟩::l2⟩/\
  pg (aL f (bK (dI f n l1.length m))) x.page=eZ (pg f x.page) 2/\pg (aL f (bK (dI f n l1.length m))) m=eT (pg f x.page) 2/\aD (eZ (pg f x.page) 2)=2/\aD (eT (pg f x.page) 2)=2:=by
 obtain⟨lo,hi,Q,R1,R2,h,hw,hr1,hr2⟩:=h
 obtain⟨hm0,hmf⟩:=h.free hm
 have hnd:=(List.nodup_append.1 h.nodup).2.1
 have hpl:=sZ (d:=d+1) hp
 have hxin:x.page∈pgs f (d+2) n:=by rw[hpl];exact List.mem_cons_of_mem _ (F8 (by simp))
 have hmp:m∉pgs f (d+2) n:=λe=>hmf (List.mem_append_right _ e)
 have hxn:x.page≠n:=λe=>by
  rw[hpl] at hnd
  exact(List.nodup_cons.1 hnd).1 (by rw[<-e];exact F8 (by simp))
 have hmn:m≠n:=λe=>hmp (by rw[e];exact cG)
 have hmx:m≠x.page:=λe=>hmp (by rw[e];exact hxin)
 have hn:=pS h.tree
 have hx:=(mJ h.tree _ hxin).1
 have hG:Grp f (dI f n l1.length m):=by
  rw[Af hp]
  refine⟨λs hs=> ?_, ?_⟩
  ·simp only[List.mem_cons,List.not_mem_nil,or_false] at hs
   rcases hs with rfl|rfl|rfl
   ·exact hn
   ·exact hx
   ·simp only;omega
  ·simp only[List.map_cons,List.map_nil,List.nodup_cons,List.mem_cons,List.not_mem_nil,or_false,not_or,List.nodup_nil,and_true,not_false_eq_true]
   exact⟨⟨λe=>hxn e.symm,λe=>hmn e.symm⟩,λe=>hmx e.symm⟩
 obtain⟨t1,t2⟩:=three h.len hG.rng hG.nodup
 have hsz:aD (eZ (pg f x.page) 2)=2/\aD (eT (pg f x.page) 2)=2:=by
  obtain⟨l,e,hl2,hl4,hK⟩:=iB h.tree
  obtain rfl:l=l1++x::l2:=by rw[hp] at e;injection e with _ _ e;exact e.symm
  obtain⟨a,b,hs⟩:=cQ hK.ok x (by simp)
  obtain⟨_,_,_,_,_,q1,q2⟩:=AY (m:=2) (wS hs).1 (by omega) (by omega)
  exact⟨q1,by omega⟩
 generalize hf':aL f (bK (dI f n l1.length m))=f' at t1 t2|-
 rw[Af hp] at t1 t2
 have e1:=t1 _ (List.mem_cons_self ..)
 have e2:=t1 _ (List.mem_cons_of_mem _ (List.mem_cons_self ..))
 have e3:=t1 _ (List.mem_cons_of_mem _ (List.mem_cons_of_mem _ (List.mem_cons_self ..)))
 simp only at e1 e2 e3
 have e4:∀p,p≠n->p≠x.page->p≠m->pg f' p=pg f p:=λp q1 q2 q3=>t2 p λs hs=>by
  simp only[List.mem_cons,List.not_mem_nil,or_false] at hs
  rcases hs with rfl|rfl|rfl
  ·exact q1.symm
  ·exact q2.symm
  ·exact q3.symm
 have hlen:f'.length=64:=by rw[<-hf',pU];exact h.len
 obtain⟨g1,g2,g3,g4⟩:=R7 h.tree hp h.low h3 hfull hnd hm0 hmp e1 e2 e3 e4
 have hQ:∀q∈Q,pg f' q=pg f q:=λq hq=>by
  have hdj:=(List.nodup_append.1 h.nodup).2.2
  exact e4 q (λe=>hdj q hq n cG e) (λe=>hdj q hq _ hxin e) (λe=>hmf (by rw[<-e];exact List.mem_append_left _ hq))
 have hperm:(Q++pgs f' (d+2) n).Perm (m::(Q++pgs f (d+2) n)):=(g3.append_left Q).trans List.perm_middle
 have hA:At f' D (d+2) n lo hi Q R1 R2:=h.change hlen (λp hp'=>by
   by_cases hin:p∈pgs f' (d+2) n
   ·exact Dg g1 p hin
   ·have hne:p≠n/\p≠x.page/\p≠m:=⟨λe=>hin (by rw[e];exact cG),λe=>hin (g3.mem_iff.2 (by rw[e];exact List.mem_cons_of_mem _ hxin)),λe=>hin (g3.mem_iff.2 (by rw[e];exact List.mem_cons_self ..))⟩
    rw[e4 p hne.1 hne.2.1 hne.2.2];exact h.ok p hp') hQ g1 (hperm.nodup_iff.2 (List.nodup_cons.2 ⟨hmf,h.nodup⟩)) (λp hp' hnp=>by
   have hnp':p∉m::(Q++pgs f (d+2) n):=λe=>hnp (hperm.mem_iff.2 e)
   have hne:p≠n/\p≠x.page/\p≠m:=⟨λe=>hnp' (by rw[e];exact List.mem_cons_of_mem _ (List.mem_append_right _ cG)),λe=>hnp' (by rw[e];exact List.mem_cons_of_mem _ (List.mem_append_right _ hxin)),λe=>hnp' (by rw[e];exact List.mem_cons_self ..)⟩
   rw[e4 p hne.1 hne.2.1 hne.2.2]
   exact h.rest p hp' λe=>hnp' (List.mem_cons_of_mem _ e))
 exact⟨hG,⟨lo,hi,Q,R1,R2,hA,hw,hr1,hr2⟩,by rw[hA.good.2,h.good.2,g2],e1,e2,e3,hsz.1,hsz.2⟩
end Go.Proofs.YtlcmdgpjiendmaaGreat
namespace Go.Proofs.YtlcmdgpjiendmaaGreat
open Go.Bur
set_option linter.unusedSimpArgs false
set_option linter.unusedVariables false
set_option maxRecDepth 100000
def qI(R:List Row):List aA->List aG->List aA->Prop
 |f,[],f'=>f'=f
 |f,g::gs,f'=>Grp f g.sheets/\(g.sheets.Pairwise λa b=>a.page<b.page)/\(∃D,Good (aL f g.sheets) D/\rws (aL f g.sheets) D 0=R)/\qI R (aL f g.sheets) gs f'
theorem Dh{R:List Row}:∀{gs hs:List aG} {f f' f'':List aA},qI R f gs f'->qI R f' hs f''->qI R f (gs++hs) f''
 |[],_,_,_,_,h1,h2=>by cases h1;exact h2
 |g::gs,_,_,_,_,⟨a,b,c,h1⟩,h2=>⟨a,b,c,Dh h1 h2⟩
theorem Tf{l:List aF}(hd:(l.map (·.page)).Nodup):(bK l).Pairwise λa b=>a.page<b.page:=by
 have h1:=CB l
 have h2:=List.pairwise_map.1 (Kc hd)
 exact h1.imp₂ (λa b h h'=>by have:a.page≠b.page:=h';omega) h2
theorem A3{f:List aA}{l:List aF}(h:Grp f l):Grp f (bK l):=⟨λs hs=>h.rng s ((cU l).mem_iff.1 hs),Kc h.nodup⟩
theorem Ah{R:List Row}{f:List aA}{l:List aF}{D:Nat}(h:Grp f l)(hg:Good (aL f (bK l)) D)(hr:rws (aL f (bK l)) D 0=R):qI R f [⟨bK l⟩] (aL f (bK l)):=
 ⟨A3 h,Tf h.nodup,⟨D,hg,hr⟩,rfl⟩
theorem On.low{f:List aA}{D d:Nat}{n:Int}{k:Key}(h:On f D d n k):ltK k cC=false:=by
 obtain⟨lo,hi,Q,R1,R2,h1,hw,_⟩:=h
 exact F7 h1.low (within_iff.1 hw).1
def dD(f:List aA)(a b:Int):List aF:=[⟨0,⟨2,[],[⟨cC,a⟩,⟨cF (pg f 0) 2,b⟩]⟩⟩,⟨a,eZ (pg f 0) 2⟩,⟨b,eT (pg f 0) 2⟩]
theorem vH{f:List aA}{D:Nat}{a b:Int}{t:List Int}(h:Good f D)(hfull:aD (pg f 0)=4)(hfr:dZ f=a::b::t):
  Grp f (dD f a b)/\Good (aL f (bK (dD f a b))) (D+1)/\rws (aL f (bK (dD f a b))) (D+1) 0=rws f D 0/\pg (aL f (bK (dD f a b))) 0=⟨2,[],[⟨cC,a⟩,⟨cF (pg f 0) 2,b⟩]⟩/\
  pg (aL f (bK (dD f a b))) a=eZ (pg f 0) 2/\pg (aL f (bK (dD f a b))) b=eT (pg f 0) 2/\aD (eZ (pg f 0) 2)=2/\aD (eT (pg f 0) 2)=2/\(0<a/\a<b/\b<64):=by
 obtain⟨d,rfl⟩:∃d,D=d+1:=⟨D-1,by have:=h.pos;omega⟩
 have hA:=At.root h
 obtain⟨ha0,haf⟩:=hA.free (m:=a) (by rw[hfr];exact List.mem_cons_self ..)
 obtain⟨hb0,hbf⟩:=hA.free (m:=b) (by rw[hfr];exact List.mem_cons_of_mem _ (List.mem_cons_self ..))
 rw[List.nil_append] at haf hbf
 have hsrt:(dZ f).Pairwise (· < ·):=by
  unfold dZ
  refine List.pairwise_map.2 (List.Pairwise.imp (λ{a b} h=>Int.ofNat_lt.2 h) ((List.pairwise_lt_range' ..).filter _))
 have hab:a<b:=by rw[hfr] at hsrt;exact(List.pairwise_cons.1 hsrt).1 b (List.mem_cons_self ..)
 have hG:Grp f (dD f a b):=by
  refine⟨λs hs=> ?_, ?_⟩
  ·simp only[dD,List.mem_cons,List.not_mem_nil,or_false] at hs
   rcases hs with rfl|rfl|rfl<;>(simp only;omega)
  ·simp only[dD,List.map_cons,List.map_nil,List.nodup_cons,List.mem_cons,List.not_mem_nil,or_false,not_or,List.nodup_nil,and_true,not_false_eq_true]
   omega
 obtain⟨t1,t2⟩:=three h.len hG.rng hG.nodup
 obtain⟨_,_,_,_,_,q1,q2⟩:=AY (m:=2) (wS h.tree).1 (by omega) (by omega)
 generalize hf':aL f (bK (dD f a b))=f' at t1 t2|-
 have e1:=t1 _ (List.mem_cons_self ..)
 have e2:=t1 _ (List.mem_cons_of_mem _ (List.mem_cons_self ..))
 have e3:=t1 _ (List.mem_cons_of_mem _ (List.mem_cons_of_mem _ (List.mem_cons_self ..)))
 simp only at e1 e2 e3
 have e4:∀p,p≠0->p≠a->p≠b->pg f' p=pg f p:=λp q1 q2 q3=>t2 p λs hs=>by
  simp only[dD,List.mem_cons,List.not_mem_nil,or_false] at hs
  rcases hs with rfl|rfl|rfl
  ·exact q1.symm
  ·exact q2.symm
  ·exact q3.symm
 obtain⟨g1,g2,g3⟩:=Un h.tree hfull h.nodup ha0 hb0 (by omega) haf hbf e1 e2 e3 e4
 have hperm:(pgs f' (d+2) 0).Perm (a::b::pgs f (d+1) 0):=g3
 refine⟨hG,⟨by rw[<-hf',pU];exact h.len,λp hp=> ?_,g1,hperm.nodup_iff.2 (List.nodup_cons.2 ⟨λe=> ?_,List.nodup_cons.2 ⟨hbf,h.nodup⟩⟩),λp hp hnp=> ?_⟩,g2,e1,e2,e3,q1,by omega,by omega⟩
 ·by_cases hin:p∈pgs f' (d+2) 0
  ·exact Dg g1 p hin
  ·have hnp':p∉a::b::pgs f (d+1) 0:=λe=>hin (hperm.mem_iff.2 e)
   simp only[List.mem_cons,not_or] at hnp'
   rw[e4 p (λe=>hnp'.2.2 (by rw[e];exact cG)) hnp'.1 hnp'.2.1];exact h.ok p hp
 ·rcases List.mem_cons.1 e with e|e
  ·omega
  ·exact haf e
 ·have hnp':p∉a::b::pgs f (d+1) 0:=λe=>hnp (hperm.mem_iff.2 e)
  simp only[List.mem_cons,not_or] at hnp'
  rw[e4 p (λe=>hnp'.2.2 (by rw[e];exact cG)) hnp'.1 hnp'.2.1]
  exact h.rest p hp hnp'.2.2
theorem MO{f:List aA}:∀{d:Nat} {n:Int} {lo:Key} {hi:Option Key},sub f d n lo hi->n≠0->(pgs f d n).length+1<=(rws f d n).length
 |1,n,lo,hi,h,hn=>by
  obtain⟨_,h2,l,h3,h4,h5⟩:=h
  have e:rws f 1 n=l:=by rw[rws,h3];simp
  have e2:pgs f 1 n=[n]:=by rw[pgs,h3];rfl
  have:=h2 hn
  rw[h3] at this
  rw[e,e2];simp[aD] at this|-;omega
 |d+2,n,lo,hi,h,hn=>by
  obtain⟨_,_,l,h3,h4,h5,h6⟩:=h
  have e:rws f (d+2) n=l.flatMap λk=>rws f (d+1) k.page:=by rw[rws,h3];rfl
  have e2:pgs f (d+2) n=n::l.flatMap λk=>pgs f (d+1) k.page:=by rw[pgs,h3]
  have key:∀(t:List Kid),(∀k∈t,k∈l)->(t.flatMap λk=>pgs f (d+1) k.page).length+t.length<=(t.flatMap λk=>rws f (d+1) k.page).length:=by
   intro t
   induction t with
   |nil=>intro _;simp
   |cons k t ih=>
    intro ht
    have hk:=ht k (List.mem_cons_self ..)
    obtain⟨a,b,hs⟩:=cQ h6 k hk
    have:=MO hs (by have:=h4.page k hk;omega)
    have:=ih λx hx=>ht x (List.mem_cons_of_mem _ hx)
    simp only[List.flatMap_cons,List.length_append,List.length_cons];omega
  have:=key l λk hk=>hk
  have:=h4.two
  rw[e,e2];simp only[List.length_cons];omega
theorem Uw{f:List aA}{D:Nat}(h:Good f D):(pgs f D 0).length<=1\/(pgs f D 0).length+1<=(rws f D 0).length:=by
 have ht:=h.tree
 match D,ht with
 |1,ht=>
  obtain⟨_,h2,l,h3,h4,h5⟩:=ht
  left;rw[pgs,h3];simp
 |d+2,ht=>
  right
  obtain⟨_,_,l,h3,h4,h5,h6⟩:=ht
  have e:rws f (d+2) 0=l.flatMap λk=>rws f (d+1) k.page:=by rw[rws,h3];rfl
  have e2:pgs f (d+2) 0=0::l.flatMap λk=>pgs f (d+1) k.page:=by rw[pgs,h3]
  have key:∀(t:List Kid),(∀k∈t,k∈l)->(t.flatMap λk=>pgs f (d+1) k.page).length+t.length<=(t.flatMap λk=>rws f (d+1) k.page).length:=by
   intro t
   induction t with
   |nil=>intro _;simp
   |cons k t ih=>
    intro ht
    have hk:=ht k (List.mem_cons_self ..)
    obtain⟨a,b,hs⟩:=cQ h6 k hk
    have:=MO hs (by have:=h4.page k hk;omega)
    have:=ih λx hx=>ht x (List.mem_cons_of_mem _ hx)
    simp only[List.flatMap_cons,List.length_append,List.length_cons];omega
  have:=key l λk hk=>hk
  have:=h4.two
  rw[e,e2];simp only[List.length_cons];omega
theorem G8{f:List aA}{D:Nat}(h:Good f D)(hf:(dZ f).length<=1):64<=(rws f D 0).length:=by
 have h1:=YG h
 have h2:=Uw h
 omega
def mS(f:List aA)(n:Int)(k:Key)(new:Bool):Option (List aA×Int×List aG):=
 if(new&&cS (pg f (bZ (pg f n).kids (cB (pg f n).kids k)).page))=true then
  match dZ f with
  |[]=>none
  |m::_=>some (aL f (bK (dI f n (cB (pg f n).kids k) m)),(bZ (pg (aL f (bK (dI f n (cB (pg f n).kids k) m))) n).kids (cB (pg (aL f (bK (dI f n (cB (pg f n).kids k) m))) n).kids k)).page,[⟨bK (dI f n (cB (pg f n).kids k) m)⟩])
 else some (f,(bZ (pg f n).kids (cB (pg f n).kids k)).page,[])
theorem rC{f:List aA}{d:Nat}{n:Int}{lo:Key}{hi:Option Key}(h:sub f (d+1) n lo hi):cS (pg f n)=decide (aD (pg f n)=4):=by
 have:(pg f n).kind=1\/(pg f n).kind=2:=by
  cases d with
  |zero=>obtain⟨_,_,l,h3,_⟩:=h;left;rw[h3]
  |succ d=>obtain⟨_,_,l,h3,_⟩:=h;right;rw[h3]
 unfold cS
 rcases this with h|h<;>simp[h]
def Stp(f:List aA)(D d:Nat)(n:Int)(k:Key)(new:Bool)(f':List aA)(n':Int)(G:List aG):Prop:=
 On f' D d n' k/\(new=true->aD (pg f' n')<=3)/\rws f' D 0=rws f D 0/\qI (rws f D 0) f G f'
theorem CD{f:List aA}{D d:Nat}{n:Int}{k:Key}{new:Bool}(h:On f D (d+2) n k)(hs:new=true->aD (pg f n)<=3):
  (new=true/\dZ f=[]/\mS f n k new=none)\/∃f' n' G,mS f n k new=some (f',n',G)/\Stp f D (d+1) n k new f' n' G/\∃u v,(n'=u\/n'=v)/\∀g∈G,∀s∈g.sheets,s.page=n\/s.page=u\/s.page=v:=by
 obtain⟨l1,x,l2,hp,hI,hi,c1,c2,hd⟩:=h.kids
 have hkx:bZ (pg f n).kids l1.length=x:=by rw[hp];exact eP
 have hik:cB (pg f n).kids k=l1.length:=by rw[hp];exact hi.symm
 have hd2:=hd
 obtain⟨lx,hx',_,_,_,hx,_⟩:=hd2
 have hfx:=rC hx.tree
 unfold mS
 simp only[hik,hkx,hfx]
 by_cases hf:(new&&decide (aD (pg f x.page)=4))=true
 case neg=>
  rw[if_neg hf]
  refine Or.inr ⟨f,x.page,[],rfl,⟨hd,λe=> ?_,rfl,rfl⟩,x.page,x.page,Or.inl rfl,by simp⟩
  rw[e,Bool.true_and,decide_eq_true_eq] at hf
  have:=(wS hx.tree).2.1
  omega
 rw[if_pos hf]
 rw[Bool.and_eq_true,decide_eq_true_eq] at hf
 cases hfr:dZ f with
 |nil=>exact Or.inl ⟨hf.1,rfl,rfl⟩
 |cons m t=>
  dsimp only
  have h3:(l1++x::l2).length<=3:=by have:=hs hf.1;rw[hp] at this;simpa[aD] using this
  obtain⟨g1,g2,g3,g4,g5,g6,g7,g8⟩:=CC h hp c1 c2 h3 hf.2 (m:=m) (by rw[hfr];exact List.mem_cons_self ..)
  have hch:=Ah g1 g2.good g3
  generalize hf':aL f (bK (dI f n l1.length m))=f' at g2 g3 g4 g5 g6 hch|-
  have hI':(l1++x::⟨cF (pg f x.page) 2,m⟩::l2).Pairwise λa b=>ltK a.least b.least=true:=by
   obtain⟨lo,hi',Q,R1,R2,h1,hw,_⟩:=g2
   obtain⟨l,e,hl2,hl4,hK⟩:=iB h1.tree
   rw[g4] at e
   injection e with _ _ e
   rw[e];exact(hK.inner h1.low hl2 hl4).1.rise
  have hgs:∀g∈[aG.mk (bK (dI f n l1.length m))],∀s∈g.sheets,s.page=n\/s.page=x.page\/s.page=m:=λg hg s hs=>by
   cases List.mem_singleton.1 hg
   have hs':=(cU _).mem_iff.1 hs
   rw[Af hp] at hs'
   simp only[List.mem_cons,List.not_mem_nil,or_false] at hs'
   rcases hs' with rfl|rfl|rfl
   ·exact Or.inl rfl
   ·exact Or.inr (Or.inl rfl)
   ·exact Or.inr (Or.inr rfl)
  cases hlt:ltK k (cF (pg f x.page) 2) with
  |true=>
   have c2':∀y t',(⟨cF (pg f x.page) 2,m⟩::l2:List Kid)=y::t'->ltK k y.least=true:=λy t' e=>by cases e;exact hlt
   have hk':=Gb hI' c1 c2'
   refine Or.inr ⟨f',x.page,_, ?_,⟨g2.down g4 c1 c2',λ_=>by rw[g5];omega,g3,hch⟩,x.page,m,Or.inl rfl,hgs⟩
   rw[g4];simp only;rw[hk',eP]
  |false=>
   have e':l1++x::⟨cF (pg f x.page) 2,m⟩::l2=(l1++[x])++⟨cF (pg f x.page) 2,m⟩::l2:=by simp
   rw[e'] at hI' g4
   have hk':=Gb hI' (λ_=>hlt) c2
   refine Or.inr ⟨f',m,_, ?_,⟨g2.down g4 (λ_=>hlt) c2,λ_=>by rw[g6];omega,g3,hch⟩,x.page,m,Or.inr rfl,hgs⟩
   rw[g4];simp only;rw[hk',eP]
def nT(k:Key)(new:Bool):Nat->List aA->Int->Option (List aA×Int×List aG)
 |0,f,n=>some (f,n,[])
 |d+1,f,n=>(mS f n k new).bind λy=>(nT k new d y.1 y.2.1).map λz=>(z.1,z.2.1,y.2.2++z.2.2)
theorem Iq{k:Key}{new:Bool}:∀{d D:Nat} {f:List aA} {n:Int},On f D (d+1) n k->(new=true->aD (pg f n)<=3)->
  (new=true/\nT k new d f n=none/\64<=(rws f D 0).length)\/∃f' n' G,nT k new d f n=some (f',n',G)/\Stp f D 1 n k new f' n' G/\∃T:List Int,T.length<=2*d/\n'∈n::T/\∀g∈G,∀s∈g.sheets,s.page∈n::T
 |0,D,f,n,h,hs=>Or.inr ⟨f,n,[],rfl,⟨h,hs,rfl,rfl⟩,[],by simp,by simp,by simp⟩
 |d+1,D,f,n,h,hs=>by
  rcases CD h hs with⟨h1,h2,h3⟩|⟨f1,n1,G1,h1,⟨h2,h3,h4,h5⟩,u,v,h6,h7⟩
  ·exact Or.inl ⟨h1,by rw[nT,h3];rfl,by
    have hg:=h.good
    have:=G8 hg (by rw[h2];simp)
    exact this⟩
  ·rcases Iq h2 h3 with⟨g1,g2,g3⟩|⟨f2,n2,G2,g1,⟨g2,g3,g4,g5⟩,T,g6,g7,g8⟩
   ·exact Or.inl ⟨g1,by rw[nT,h1];simp[g2],by rw[<-h4];exact g3⟩
   ·refine Or.inr ⟨f2,n2,G1++G2,by rw[nT,h1];simp[g1],⟨g2,g3,g4.trans h4,Dh h5 (h4▸g5)⟩,u::v::T,by simp only[List.length_cons];omega, ?_,λg hg s hs'=> ?_⟩
    ·rcases List.mem_cons.1 g7 with e|e
     ·rw[e];rcases h6 with e|e<;>rw[e]<;>simp
     ·simp[e]
    ·rcases List.mem_append.1 hg with hg|hg
     ·rcases h7 g hg s hs' with e|e|e<;>rw[e]<;>simp
     ·rcases List.mem_cons.1 (g8 g hg s hs') with e|e
      ·rw[e];rcases h6 with e|e<;>rw[e]<;>simp
      ·simp[e]
end Go.Proofs.YtlcmdgpjiendmaaGreat
namespace Go.Proofs.YtlcmdgpjiendmaaGreat
open Go.Bur
set_option linter.unusedSimpArgs false
set_option linter.unusedVariables false
set_option maxRecDepth 100000
def one(n:Int)(l:List Row):List aF:=[⟨n,⟨1,l,[]⟩⟩]
theorem HV{f:List aA}{D:Nat}{n:Int}{lo:Key}{hi:Option Key}{Q:List Int}{R1 R2:List Row}{l l':List Row}(h:At f D 1 n lo hi Q R1 R2)(hp:pg f n=⟨1,l,[]⟩)(h1:mI l')(h2:∀r∈l',within r.key lo hi=true)(h3:n≠0->2<=l'.length):
  Grp f (one n l')/\Good (aL f (one n l')) D/\rws (aL f (one n l')) D 0=R1++(l'++R2)/\rws f D 0=R1++(l++R2):=by
 have hn:=pS h.tree
 have hG:Grp f (one n l'):=⟨λs hs=>by cases List.mem_singleton.1 hs;exact hn,by simp[one]⟩
 have e1:pg (aL f (one n l')) n=⟨1,l',[]⟩:=uW h.len hG.rng hG.nodup _ (List.mem_singleton.2 rfl)
 have e2:∀p,p≠n->pg (aL f (one n l')) p=pg f p:=λp hp=>kV h.len hG.rng λs hs=>by cases List.mem_singleton.1 hs;exact hp.symm
 have hpg:pgs f 1 n=[n]:=by rw[pgs,hp];rfl
 have hpg':pgs (aL f (one n l')) 1 n=[n]:=by rw[pgs,e1];rfl
 have hr:rws f 1 n=l:=by rw[rws,hp];simp
 have hr':rws (aL f (one n l')) 1 n=l':=by rw[rws,e1];simp
 have hnd:=h.nodup
 rw[hpg] at hnd
 have hA:At (aL f (one n l')) D 1 n lo hi Q R1 R2:=h.change (by rw[pU];exact h.len) (λm hm=>by
   by_cases e:m=n
   ·rw[e,e1];exact(gU _).2 (Or.inr (Or.inl ⟨l',rfl,h1⟩))
   ·rw[e2 m e];exact h.ok m hm) (λq hq=>e2 q λe=>(List.nodup_append.1 hnd).2.2 q hq n (List.mem_singleton.2 rfl) e) ⟨hn,λe=>by rw[e1];simpa[aD] using h3 e,l',e1,h1,h2⟩ (by rw[hpg'];exact hnd) (λm hm hnm=>by
   rw[hpg'] at hnm
   rw[e2 m λe=>hnm (by rw[e];exact List.mem_append_right _ (List.mem_singleton.2 rfl))]
   exact h.rest m hm (by rw[hpg];exact hnm))
 have g1:=hA.good
 have g2:=h.good
 rw[hr'] at g1
 rw[hr] at g2
 exact⟨hG,g1.1,g1.2,g2.2⟩
def rD(r:Row)(l:List Row):List Row:=Jj r (others r.key l)
theorem Dj{r x:Row}{pre post:List Row}(hx:x.key=r.key)(h:Cut r.key pre post):rD r (pre++x::post)=pre++r::post:=by
 unfold rD;rw[GD hx h,Jk r pre post h]
theorem Ai{r:Row}{pre post:List Row}(h:Cut r.key pre post):rD r (pre++post)=pre++r::post:=by
 unfold rD;rw[Jm h,Jk r pre post h]
theorem MP{l:List Row}(hs:Srt l)(k:Key):(∃pre x post,l=pre++x::post/\x.key=k/\Cut k pre post/\cL l k=some x)\/∃pre post,l=pre++post/\Cut k pre post/\cL l k=none:=by
 cases ha:at_ l k with
 |some i=>
  obtain⟨pre,x,post,e,_,h3,h4⟩:=qU ha
  have hx:x.key=k:=of_decide_eq_true h3
  subst e
  have hc:=(FN hs).1
  rw[hx] at hc
  exact Or.inl ⟨pre,x,post,rfl,hx,hc,by rw[zP,nR hc.ne1,EK,if_pos hx];rfl⟩
 |none=>
  obtain⟨pre,post,e,hc,_⟩:=place hs ha
  refine Or.inr ⟨pre,post,e,hc,nR λx hx=> ?_⟩
  simpa using FM ha x hx
theorem QK{l R1 R2:List Row}{k:Key}(h1:∀r∈R1,ltK r.key k=true)(h2:∀r∈R2,ltK k r.key=true):cL (R1++(l++R2)) k=cL l k:=MJ h1 h2
theorem On.leaf{f:List aA}{D:Nat}{n:Int}{k:Key}(h:On f D 1 n k):∃l,pg f n=⟨1,l,[]⟩/\mI l/\(n≠0->2<=l.length)/\cL (rws f D 0) k=cL l k:=by
 obtain⟨lo,hi,Q,R1,R2,h,hw,h1,h2⟩:=h
 have hg:=h.good.2
 obtain⟨g1,g2,l,g3,g4,g5⟩:=h.tree
 have hr:rws f 1 n=l:=by rw[rws,g3];simp
 rw[hr] at hg
 exact⟨l,g3,g4,λe=>by have:=g2 e;rw[g3] at this;simpa[aD] using this,by rw[hg,QK h1 h2]⟩
theorem QL{r:Row}{l:List Row}(hs:Srt l):(rD r l).length=(if cL l r.key=none then l.length+1 else l.length):=by
 rcases MP hs r.key with⟨pre,x,post,rfl,hx,hc,hf⟩|⟨pre,post,rfl,hc,hf⟩
 ·rw[Dj hx hc,hf,if_neg (by simp)];simp
 ·rw[Ai hc,hf,if_pos rfl];simp;omega
theorem WQ{f:List aA}{D:Nat}{n:Int}{r:Row}(h:On f D 1 n r.key)(hr:eF r=true)(hs:cL (rws f D 0) r.key=none->aD (pg f n)<=3){l:List Row}(hp:pg f n=⟨1,l,[]⟩):
  Grp f (one n (rD r l))/\Good (aL f (one n (rD r l))) D/\rws (aL f (one n (rD r l))) D 0=rD r (rws f D 0)/\mI (rD r l):=by
 obtain⟨l0,g3,g4,g5,g6⟩:=h.leaf
 obtain rfl:l0=l:=by rw[hp] at g3;injection g3 with _ g3;exact g3.symm
 obtain⟨lo,hi,Q,R1,R2,hA,hw,h1,h2⟩:=h
 have hlen:=QL (r:=r) g4.srt
 rw[g6] at hs
 obtain⟨_,_,l1,g3',_,g5'⟩:=hA.tree
 obtain rfl:l1=l0:=by rw[hp] at g3';injection g3' with _ g3';exact g3'.symm
 have key:∃pre post,Cut r.key pre post/\rD r l1=pre++r::post/\(∀x∈pre,x∈l1)/\(∀x∈post,x∈l1)/\Srt (pre++post)/\rD r (R1++(l1++R2))=R1++(rD r l1++R2):=by
  have hcw:∀{pre post:List Row},Cut r.key pre post->Cut r.key (R1++pre) (post++R2):=λhc=>⟨λy hy=>by
   rcases List.mem_append.1 hy with hy|hy
   ·exact h1 y hy
   ·exact hc.lo y hy,λy hy=>by
   rcases List.mem_append.1 hy with hy|hy
   ·exact hc.hi y hy
   ·exact h2 y hy⟩
  rcases MP g4.srt r.key with⟨pre,x,post,e,hx,hc,_⟩|⟨pre,post,e,hc,_⟩
  ·refine⟨pre,post,hc,by rw[e,Dj hx hc],λy hy=>by rw[e];exact List.mem_append_left _ hy,λy hy=>by rw[e];exact List.mem_append_right _ (List.mem_cons_of_mem _ hy),(FN (e▸g4.srt)).2, ?_⟩
   have:=Dj hx (hcw hc)
   rw[e,Dj hx hc]
   simpa using this
  ·refine⟨pre,post,hc,by rw[e,Ai hc],λy hy=>by rw[e];exact List.mem_append_left _ hy,λy hy=>by rw[e];exact List.mem_append_right _ hy,e▸g4.srt, ?_⟩
   have:=Ai (hcw hc)
   rw[e,Ai hc]
   simpa using this
 obtain⟨pre,post,hc,e,m1,m2,hsrt,hwhole⟩:=key
 have hmem:∀x∈rD r l1,x=r\/x∈l1:=λx hx=>by
  rw[e] at hx
  rcases List.mem_append.1 hx with hx|hx
  ·exact Or.inr (m1 x hx)
  ·rcases List.mem_cons.1 hx with hx|hx
   ·exact Or.inl hx
   ·exact Or.inr (m2 x hx)
 have hL:mI (rD r l1):=⟨by
   rw[hlen]
   split
   ·rename_i hn
    have:=hs hn
    rw[hp] at this;simp[aD] at this;omega
   ·exact g4.len,λx hx=>by
   rcases hmem x hx with rfl|hx
   ·exact hr
   ·exact g4.row x hx,by rw[e];exact NL hsrt hc⟩
 obtain⟨q1,q2,q3,q4⟩:=HV hA hp hL (λx hx=>by
  rcases hmem x hx with rfl|hx
  ·exact hw
  ·exact g5' x hx) (λe=>by rw[hlen];have:=g5 e;split<;>omega)
 exact⟨q1,q2,by rw[q3,q4,hwhole],hL⟩
def G9(f:List aA)(D:Nat)(k:Key)(new:Bool):Option (List aA×Int×List aG):=
 if(new&&cS (pg f 0))=true then
  match dZ f with
  |a::b::_=>(nT k new D (aL f (bK (dD f a b))) 0).map λz=>(z.1,z.2.1,⟨bK (dD f a b)⟩::z.2.2)
  |_=>none
 else nT k new (D-1) f 0
def Gc(R:List Row)(k:Key):Bool:=(cL R k).isNone
theorem Kd{R:List Row}{k:Key}:Gc R k=true↔cL R k=none:=by
 unfold Gc;cases cL R k<;>simp
theorem aap{f:List aA}{D:Nat}{k:Key}{new:Bool}(h:Good f D)(hk:ltK k cC=false):
  (new=true/\G9 f D k new=none/\64<=(rws f D 0).length)\/∃f' n' G D',G9 f D k new=some (f',n',G)/\On f' D' 1 n' k/\(new=true->aD (pg f' n')<=3)/\rws f' D' 0=rws f D 0/\qI (rws f D 0) f G f'/\
   ∃T:List Int,T.length<=2*D/\n'∈0::T/\∀g∈G,∀s∈g.sheets,s.page∈0::T:=by
 have hpos:=h.pos
 obtain⟨d,rfl⟩:∃d,D=d+1:=⟨D-1,by omega⟩
 have hf0:=rC h.tree
 unfold G9
 rw[hf0]
 by_cases hc:(new&&decide (aD (pg f 0)=4))=true
 case neg=>
  rw[if_neg hc,Nat.add_sub_cancel]
  have hs:new=true->aD (pg f 0)<=3:=λe=>by
   rw[e,Bool.true_and,decide_eq_true_eq] at hc
   have:=(wS h.tree).2.1
   omega
  rcases Iq (On.root h hk) hs with⟨g1,g2,g3⟩|⟨f',n',G,g1,⟨g2,g3,g4,g5⟩,T,g6,g7,g8⟩
  ·exact Or.inl ⟨g1,g2,by omega⟩
  ·exact Or.inr ⟨f',n',G,d+1,g1,g2,g3,g4,g5,T,by omega,g7,g8⟩
 rw[if_pos hc]
 rw[Bool.and_eq_true,decide_eq_true_eq] at hc
 match hfr:dZ f with
 |[]=>exact Or.inl ⟨hc.1,rfl,by have:=G8 h (by rw[hfr];simp);omega⟩
 |[a]=>exact Or.inl ⟨hc.1,rfl,by have:=G8 h (by rw[hfr];simp);omega⟩
 |a::b::t=>
  dsimp only
  obtain⟨q1,q2,q3,q4,q5,q6,q7,q8,q9⟩:=vH h hc.2 hfr
  have hch:=Ah q1 q2 q3
  generalize hf':aL f (bK (dD f a b))=f1 at q2 q3 q4 q5 q6 hch|-
  have hstep:mS f1 0 k new=some (f1,(bZ (pg f1 0).kids (cB (pg f1 0).kids k)).page,[])/\((bZ (pg f1 0).kids (cB (pg f1 0).kids k)).page=a\/(bZ (pg f1 0).kids (cB (pg f1 0).kids k)).page=b):=by
   have hx:(bZ (pg f1 0).kids (cB (pg f1 0).kids k)).page=a\/(bZ (pg f1 0).kids (cB (pg f1 0).kids k)).page=b:=by
    rw[q4]
    simp only[cB,List.tail_cons,List.takeWhile_cons,List.takeWhile_nil]
    cases ltK k (cF (pg f 0) 2)
    ·right;rfl
    ·left;rfl
   refine⟨?_,hx⟩
   unfold mS
   rw[if_neg]
   have hsz:aD (pg f1 (bZ (pg f1 0).kids (cB (pg f1 0).kids k)).page)=2:=by
    rcases hx with e|e<;>rw[e]
    ·rw[q5];exact q7
    ·rw[q6];exact q8
   unfold cS
   rw[hsz];simp
  rcases Iq (On.root q2 hk) (new:=new) (λ_=>by rw[q4];simp[aD]) with⟨g1,g2,g3⟩|⟨f',n',G,g1,⟨g2,g3,g4,g5⟩,_⟩
  ·exact Or.inl ⟨g1,by rw[g2];rfl,by rw[q3] at g3;omega⟩
  ·refine Or.inr ⟨f',n',_,d+2,by rw[g1];rfl,g2,g3,g4.trans q3,Dh hch (q3▸g5), ?_⟩
   rw[nT,hstep.1] at g1
   simp only[Option.bind_some,Option.map_eq_some_iff] at g1
   obtain⟨z,g1,g1'⟩:=g1
   have hon:On f1 (d+2) (d+1) (bZ (pg f1 0).kids (cB (pg f1 0).kids k)).page k:=by
    rcases CD (On.root q2 hk) (new:=new) (λ_=>by rw[q4];simp[aD]) with⟨_,_,e⟩|⟨_,_,_,e,st,_⟩
    ·rw[hstep.1] at e;cases e
    ·rw[hstep.1] at e;cases e;exact st.1
   have hsz:new=true->aD (pg f1 (bZ (pg f1 0).kids (cB (pg f1 0).kids k)).page)<=3:=λ_=>by
    rcases hstep.2 with e|e<;>rw[e]
    ·rw[q5];omega
    ·rw[q6];omega
   rcases Iq hon hsz with⟨_,e,_⟩|⟨f2,n2,G2,e,_,T,t1,t2,t3⟩
   ·rw[e] at g1;cases g1
   ·rw[e] at g1
    cases g1
    obtain⟨rfl,rfl,rfl⟩:f2=f'/\n2=n'/\G2=G:=by simpa using g1'
    have hk2:∀p,p∈(bZ (pg f1 0).kids (cB (pg f1 0).kids k)).page::T->p∈0::a::b::T:=λp hp=>by
     rcases List.mem_cons.1 hp with e|e
     ·rw[e];rcases hstep.2 with e|e<;>rw[e]<;>simp
     ·simp[e]
    refine⟨a::b::T,by simp only[List.length_cons];omega,hk2 _ t2,λg hg s hs=> ?_⟩
    rcases List.mem_cons.1 hg with rfl|hg
    ·have:=(cU _).mem_iff.1 hs
     simp only[dD,List.mem_cons,List.not_mem_nil,or_false] at this
     rcases this with rfl|rfl|rfl<;>simp
    ·exact hk2 _ (t3 g hg s hs)
end Go.Proofs.YtlcmdgpjiendmaaGreat
namespace Go.Proofs.YtlcmdgpjiendmaaGreat
open Go.Bur
set_option linter.unusedSimpArgs false
set_option linter.unusedVariables false
set_option maxRecDepth 100000
theorem YI{f:List aA}(hf:f.length=64){n a b:Int}{c1 c2 c3:aA}(hn:0<=n/\n<64)(ha:0<=a/\a<64)(hb:0<=b/\b<64)(h1:a≠n)(h2:b≠n)(h3:a≠b):
  Grp f [⟨n,c1⟩,⟨a,c2⟩,⟨b,c3⟩]/\pg (aL f (bK [⟨n,c1⟩,⟨a,c2⟩,⟨b,c3⟩])) n=c1/\pg (aL f (bK [⟨n,c1⟩,⟨a,c2⟩,⟨b,c3⟩])) a=c2/\pg (aL f (bK [⟨n,c1⟩,⟨a,c2⟩,⟨b,c3⟩])) b=c3/\
  (∀p,p≠n->p≠a->p≠b->pg (aL f (bK [⟨n,c1⟩,⟨a,c2⟩,⟨b,c3⟩])) p=pg f p)/\(aL f (bK [⟨n,c1⟩,⟨a,c2⟩,⟨b,c3⟩])).length=64:=by
 have hG:Grp f [⟨n,c1⟩,⟨a,c2⟩,⟨b,c3⟩]:=by
  refine⟨λs hs=> ?_, ?_⟩
  ·simp only[List.mem_cons,List.not_mem_nil,or_false] at hs
   rcases hs with rfl|rfl|rfl
   ·exact hn
   ·exact ha
   ·exact hb
  ·simp only[List.map_cons,List.map_nil,List.nodup_cons,List.mem_cons,List.not_mem_nil,or_false,not_or,List.nodup_nil,and_true,not_false_eq_true]
   exact⟨⟨λe=>h1 e.symm,λe=>h2 e.symm⟩,h3⟩
 obtain⟨t1,t2⟩:=three hf hG.rng hG.nodup
 refine⟨hG,t1 _ (List.mem_cons_self ..),t1 _ (List.mem_cons_of_mem _ (List.mem_cons_self ..)),t1 _ (List.mem_cons_of_mem _ (List.mem_cons_of_mem _ (List.mem_cons_self ..))),λp q1 q2 q3=>t2 p λs hs=> ?_,by rw[pU];exact hf⟩
 simp only[List.mem_cons,List.not_mem_nil,or_false] at hs
 rcases hs with rfl|rfl|rfl
 ·exact q1.symm
 ·exact q2.symm
 ·exact q3.symm
theorem At.pair{f:List aA}{D d:Nat}{n:Int}{lo:Key}{hi:Option Key}{Q:List Int}{R1 R2:List Row}(h:At f D (d+2) n lo hi Q R1 R2){l1 l2:List Kid}{u v:Kid}(hp:pg f n=⟨2,[],l1++u::v::l2⟩):
  KJ f d n lo hi l1 l2 u v/\u.page∈pgs f (d+2) n/\v.page∈pgs f (d+2) n:=by
 refine⟨Io h.tree hp h.low (List.nodup_append.1 h.nodup).2.1, ?_, ?_⟩<;>(rw[sZ (d:=d+1) hp];exact List.mem_cons_of_mem _ (F8 (by simp)))
theorem Ux{f:List aA}{d:Nat}{lo lo':Key}{hi hi':Option Key}{a b:aA}(ha:yW f d lo hi a)(hb:yW f d lo' hi' b):mH a b=true:=by
 cases d with
 |zero=>obtain⟨l,rfl,_⟩:=ha;obtain⟨m,rfl,_⟩:=hb;rfl
 |succ d=>obtain⟨l,rfl,_⟩:=ha;obtain⟨m,rfl,_⟩:=hb;rfl
theorem QM{f:List aA}{D d m:Nat}{n:Int}{k:Key}(h:On f D (d+2) n k){l1 l2:List Kid}{u v:Kid}(hp:pg f n=⟨2,[],l1++u::v::l2⟩){B:aA}(hB:aO (pg f u.page) (pg f v.page) v.least=B)(h2:2<=m)(h4:m<=4)(h2':m+2<=aD B)(h4':aD B<=m+4){f':List aA}(hf':aL f (bK [⟨n,⟨2,[],l1++u::⟨cF B m,v.page⟩::l2⟩⟩,⟨u.page,eZ B m⟩,⟨v.page,eT B m⟩])=f'):
  Grp f [⟨n,⟨2,[],l1++u::⟨cF B m,v.page⟩::l2⟩⟩,⟨u.page,eZ B m⟩,⟨v.page,eT B m⟩]/\On f' D (d+2) n k/\rws f' D 0=rws f D 0/\pg f' n=⟨2,[],l1++u::⟨cF B m,v.page⟩::l2⟩/\pg f' u.page=eZ B m/\pg f' v.page=eT B m:=by
 obtain⟨lo,hi,Q,R1,R2,h,hw,hr1,hr2⟩:=h
 obtain⟨P,hu,hv⟩:=h.pair hp
 have hnd:=(List.nodup_append.1 h.nodup).2.1
 obtain⟨hG,e1,e2,e3,e4,hlen⟩:=YI h.len (c1:=⟨2,[],l1++u::⟨cF B m,v.page⟩::l2⟩) (c2:=eZ B m) (c3:=eT B m) (pS h.tree) (mJ h.tree _ hu).1 (mJ h.tree _ hv).1 P.xn P.yn P.xy
 rw[hf'] at e1 e2 e3 e4 hlen
 obtain⟨g1,g2,g3,g4⟩:=R8 h.tree hp h.low hnd hB h2 h4 h2' h4' e1 e2 e3 e4
 have hdj:=(List.nodup_append.1 h.nodup).2.2
 have hperm:(Q++pgs f' (d+2) n).Perm (Q++pgs f (d+2) n):=g3.append_left Q
 have hne:∀p,p∉pgs f (d+2) n->pg f' p=pg f p:=λp hp=>e4 p (λe=>hp (by rw[e];exact cG)) (λe=>hp (by rw[e];exact hu)) (λe=>hp (by rw[e];exact hv))
 have hA:At f' D (d+2) n lo hi Q R1 R2:=h.change hlen (λp hp'=>by
   by_cases hin:p∈pgs f' (d+2) n
   ·exact Dg g1 p hin
   ·rw[hne p λe=>hin (g3.mem_iff.2 e)];exact h.ok p hp') (λq hq=>hne q λe=>hdj q hq q e rfl) g1 (hperm.nodup_iff.2 h.nodup) (λp hp' hnp=>by
   have hnp':p∉Q++pgs f (d+2) n:=λe=>hnp (hperm.mem_iff.2 e)
   rw[hne p λe=>hnp' (List.mem_append_right _ e)]
   exact h.rest p hp' hnp')
 exact⟨hG,⟨lo,hi,Q,R1,R2,hA,hw,hr1,hr2⟩,by rw[hA.good.2,h.good.2,g2],e1,e2,e3⟩
theorem Tg{f:List aA}{D d:Nat}{n:Int}{k:Key}(h:On f D (d+2) n k){l1 l2:List Kid}{u v:Kid}(hp:pg f n=⟨2,[],l1++u::v::l2⟩){B:aA}(hB:aO (pg f u.page) (pg f v.page) v.least=B)(h3:3<=(l1++u::v::l2).length)(h4:aD B<=4){f':List aA}(hf':aL f (bK [⟨n,⟨2,[],l1++u::l2⟩⟩,⟨u.page,B⟩,⟨v.page,bT⟩])=f'):
  Grp f [⟨n,⟨2,[],l1++u::l2⟩⟩,⟨u.page,B⟩,⟨v.page,bT⟩]/\On f' D (d+2) n k/\rws f' D 0=rws f D 0/\pg f' n=⟨2,[],l1++u::l2⟩/\pg f' u.page=B:=by
 obtain⟨lo,hi,Q,R1,R2,h,hw,hr1,hr2⟩:=h
 obtain⟨P,hu,hv⟩:=h.pair hp
 have hnd:=(List.nodup_append.1 h.nodup).2.1
 obtain⟨hG,e1,e2,e3,e4,hlen⟩:=YI h.len (c1:=⟨2,[],l1++u::l2⟩) (c2:=B) (c3:=bT) (pS h.tree) (mJ h.tree _ hu).1 (mJ h.tree _ hv).1 P.xn P.yn P.xy
 rw[hf'] at e1 e2 e3 e4 hlen
 obtain⟨g1,g2,g3⟩:=Uo h.tree hp h.low hnd hB h3 h4 e1 e2 e4
 have hdj:=(List.nodup_append.1 h.nodup).2.2
 have hperm:(Q++pgs f (d+2) n).Perm (v.page::(Q++pgs f' (d+2) n)):=(g3.append_left Q).trans List.perm_middle
 have hne:∀p,p∉pgs f (d+2) n->pg f' p=pg f p:=λp hp=>e4 p (λe=>hp (by rw[e];exact cG)) (λe=>hp (by rw[e];exact hu)) (λe=>hp (by rw[e];exact hv))
 have hkind:(pg f' v.page).kind=0:=by rw[e3];rfl
 have hA:At f' D (d+2) n lo hi Q R1 R2:=h.change hlen (λp hp'=>by
   by_cases hin:p∈pgs f' (d+2) n
   ·exact Dg g1 p hin
   ·by_cases hv':p=v.page
    ·rw[hv',e3];rfl
    ·rw[hne p λe=>by
      rcases List.mem_cons.1 (g3.mem_iff.1 e) with e|e
      ·exact hv' e
      ·exact hin e]
     exact h.ok p hp') (λq hq=>hne q λe=>hdj q hq q e rfl) g1 (List.nodup_cons.1 (hperm.nodup_iff.1 h.nodup)).2 (λp hp' hnp=>by
   by_cases hv':p=v.page
   ·rw[hv'];exact hkind
   ·have hnp':p∉Q++pgs f (d+2) n:=λe=>by
     rcases List.mem_cons.1 (hperm.mem_iff.1 e) with e|e
     ·exact hv' e
     ·exact hnp e
    rw[hne p λe=>hnp' (List.mem_append_right _ e)]
    exact h.rest p hp' hnp')
 exact⟨hG,⟨lo,hi,Q,R1,R2,hA,hw,hr1,hr2⟩,by rw[hA.good.2,h.good.2,g2],e1,e2⟩
theorem MQ{f:List aA}{d:Nat}(h:Good f (d+2)){u v:Kid}(hp:pg f 0=⟨2,[],[u,v]⟩){B:aA}(hB:aO (pg f u.page) (pg f v.page) v.least=B)(h4:aD B<=4){f':List aA}(hf':aL f (bK [⟨0,B⟩,⟨u.page,bT⟩,⟨v.page,bT⟩])=f'):
  Grp f [⟨0,B⟩,⟨u.page,bT⟩,⟨v.page,bT⟩]/\Good f' (d+1)/\rws f' (d+1) 0=rws f (d+2) 0:=by
 obtain⟨P,hu,hv⟩:=(At.root h).pair (l1:=[]) (l2:=[]) hp
 obtain⟨hG,e1,e2,e3,e4,hlen⟩:=YI h.len (c1:=B) (c2:=bT) (c3:=bT) (pS h.tree) (mJ h.tree _ hu).1 (mJ h.tree _ hv).1 P.xn P.yn P.xy
 rw[hf'] at e1 e2 e3 e4 hlen
 obtain⟨g1,g2,g3⟩:=Uq h.tree hp h.nodup hB h4 e1 e4
 have hnd:=g3.nodup_iff.1 h.nodup
 have hz:∀p,p=u.page\/p=v.page->pg f' p=bT:=λp hp=>by rcases hp with rfl|rfl;exact e2;exact e3
 have hne:∀p,p∉pgs f (d+2) 0->pg f' p=pg f p:=λp hp=>e4 p (λe=>hp (by rw[e];exact cG)) (λe=>hp (by rw[e];exact hu)) (λe=>hp (by rw[e];exact hv))
 refine⟨hG,⟨hlen,λp hp'=> ?_,g1,(List.nodup_cons.1 (List.nodup_cons.1 hnd).2).2,λp hp' hnp=> ?_⟩,g2⟩
 ·by_cases hin:p∈pgs f' (d+1) 0
  ·exact Dg g1 p hin
  ·by_cases hv':p=u.page\/p=v.page
   ·rw[hz p hv'];rfl
   ·rw[hne p λe=>by
     rcases List.mem_cons.1 (g3.mem_iff.1 e) with e|e
     ·exact hv' (Or.inl e)
     ·rcases List.mem_cons.1 e with e|e
      ·exact hv' (Or.inr e)
      ·exact hin e]
    exact h.ok p hp'
 ·by_cases hv':p=u.page\/p=v.page
  ·rw[hz p hv'];rfl
  ·have hnp':p∉pgs f (d+2) 0:=λe=>by
    rcases List.mem_cons.1 (g3.mem_iff.1 e) with e|e
    ·exact hv' (Or.inl e)
    ·rcases List.mem_cons.1 e with e|e
     ·exact hv' (Or.inr e)
     ·exact hnp e
   rw[hne p hnp']
   exact h.rest p hp' hnp'
theorem Ke{α:Type}{a b:List α}{m:Nat}(h:a.length<=m):(a++b).drop m=b.drop (m-a.length):=by
 rw[List.drop_append,List.drop_eq_nil_of_le h,List.nil_append]
theorem aaq{f:List aA}{d m:Nat}{lo s:Key}{hi:Option Key}{a b:aA}(ha:yW f d lo (some s) a)(hb:yW f d s hi b)(h1:aD a<m)(h2:m<aD a+aD b):ltK (cF (aO a b s) m) s=false:=by
 cases d with
 |zero=>
  obtain⟨la,rfl,a1,a2,a3⟩:=ha
  obtain⟨lb,rfl,b1,b2,b3⟩:=hb
  simp only[aD,List.length_nil,Nat.add_zero] at h1 h2
  obtain⟨y,t,e⟩:=vG (l:=lb) (m:=m-la.length) (by omega)
  have hs:cF (aO ⟨1,la,[]⟩ ⟨1,lb,[]⟩ s) m=y.key:=by simp[cF,aO,hd0,sW,Ke (show la.length<=m by omega),e]
  rw[hs]
  exact(within_iff.1 (b3 y (List.mem_of_mem_drop (by rw[e];exact List.mem_cons_self ..)))).1
 |succ d=>
  obtain⟨la,rfl,a1⟩:=ha
  obtain⟨lb,rfl,b1⟩:=hb
  simp only[aD,List.length_nil,Nat.zero_add] at h1 h2
  obtain⟨z,w,rfl⟩:∃z w,lb=z::w:=by
   cases lb with
   |nil=>simp at h2;omega
   |cons z w=>exact⟨z,w,rfl⟩
  obtain⟨j,hj⟩:∃j,m-la.length=j+1:=⟨m-la.length-1,by omega⟩
  obtain⟨y,t,e⟩:=vG (l:=w) (m:=j) (by simp only[List.length_cons] at h2;omega)
  have hs:cF (aO ⟨2,[],la⟩ ⟨2,[],z::w⟩ s) m=y.least:=by simp[cF,aO,hd0,sW,Ke (show la.length<=m by omega),hj,e]
  rw[hs]
  have hy:y∈w:=List.mem_of_mem_drop (by rw[e];exact List.mem_cons_self ..)
  exact lt_asymm ((Db b1.ok λk hk=>by have:=b1.page k hk;omega).1 y hy).1
theorem aar{f:List aA}{d m:Nat}{lo s:Key}{hi:Option Key}{a b:aA}(ha:yW f d lo (some s) a)(hb:yW f d s hi b)(h0:0<m)(h1:m<aD a):ltK (cF (aO a b s) m) s=true:=by
 cases d with
 |zero=>
  obtain⟨la,rfl,a1,a2,a3⟩:=ha
  obtain⟨lb,rfl,b1,b2,b3⟩:=hb
  simp only[aD,List.length_nil,Nat.add_zero] at h1
  obtain⟨y,t,e⟩:=vG h1
  have hs:cF (aO ⟨1,la,[]⟩ ⟨1,lb,[]⟩ s) m=y.key:=by simp[cF,aO,hd0,sW,List.drop_append_of_le_length (show m<=la.length by omega),e]
  rw[hs]
  exact(within_iff.1 (a3 y (List.mem_of_mem_drop (by rw[e];exact List.mem_cons_self ..)))).2 s rfl
 |succ d=>
  obtain⟨la,rfl,a1⟩:=ha
  obtain⟨lb,rfl,b1⟩:=hb
  simp only[aD,List.length_nil,Nat.zero_add] at h1
  obtain⟨y,t,e⟩:=vG h1
  have hs:cF (aO ⟨2,[],la⟩ ⟨2,[],lb⟩ s) m=y.least:=by simp[cF,aO,sW,List.drop_append_of_le_length (show m<=la.length by omega),e]
  rw[hs]
  have hy:y∈la.tail:=by
   obtain⟨j,rfl⟩:∃j,m=j+1:=⟨m-1,by omega⟩
   rw[<-List.drop_one]
   have e':(la.drop 1).drop j=y::t:=by rw[List.drop_drop,Nat.add_comm];exact e
   exact List.mem_of_mem_drop (by rw[e'];exact List.mem_cons_self ..)
  exact((Db a1.ok λk hk=>by have:=a1.page k hk;omega).1 y hy).2 s rfl
end Go.Proofs.YtlcmdgpjiendmaaGreat
namespace Go.Proofs.YtlcmdgpjiendmaaGreat
open Go.Bur
set_option linter.unusedSimpArgs false
set_option linter.unusedVariables false
set_option maxRecDepth 100000
theorem EY{f:List aA}:∀{a b:Nat} {n:Int} {lo lo':Key} {hi hi':Option Key},sub f a n lo hi->sub f b n lo' hi'->a=b:=by
 intro a
 induction a with
 |zero=>intro b n lo lo' hi hi' h;exact h.elim
 |succ a ih=>
  intro b n lo lo' hi hi' h g
  cases b with
  |zero=>exact g.elim
  |succ b=>
   cases a with
   |zero=>
    cases b with
    |zero=>rfl
    |succ b=>
     obtain⟨_,_,l,e,_⟩:=h
     obtain⟨_,_,m,e',_⟩:=g
     rw[e] at e';cases e'
   |succ a=>
    cases b with
    |zero=>
     obtain⟨_,_,l,e,_⟩:=h
     obtain⟨_,_,m,e',_⟩:=g
     rw[e] at e';cases e'
    |succ b=>
     obtain⟨l,e,h2,_,h4⟩:=iB h
     obtain⟨m,e',_,_,g4⟩:=iB g
     rw[e] at e'
     injection e' with _ _ e'
     subst e'
     obtain⟨k,t,el⟩:∃k t,l=k::t:=by
      match l,h2 with
      |k::t,_=>exact⟨k,t,rfl⟩
     have hk:k∈l:=by rw[el];exact List.mem_cons_self ..
     obtain⟨_,_,s1⟩:=cQ h4.ok k hk
     obtain⟨_,_,s2⟩:=cQ g4.ok k hk
     have:=ih s1 s2
     omega
theorem On.inner{f:List aA}{D d:Nat}{n:Int}{k:Key}(h:On f D (d+2) n k){l:List Kid}(hp:pg f n=⟨2,[],l⟩):dP l:=by
 obtain⟨lo,hi,Q,R1,R2,h1,hw,_⟩:=h
 obtain⟨l',e,hl2,hl4,hK⟩:=iB h1.tree
 rw[hp] at e
 injection e with _ _ e
 rw[e];exact(hK.inner h1.low hl2 hl4).1
theorem On.zero{f:List aA}{D d:Nat}{k:Key}(h:On f D d 0 k):D=d:=by
 have hg:=h.good
 obtain⟨lo,hi,Q,R1,R2,h1,hw,_⟩:=h
 exact EY hg.tree h1.tree
def aZ(f:List aA)(n:Int)(k:Key):Int:=(bZ (pg f n).kids (cB (pg f n).kids k)).page
def pV(l:List Kid)(i:Nat):Nat:=if i+1=l.length then i else i+1
def kW(f:List aA)(n:Int)(a:Nat):List aF:=
 let l:=(pg f n).kids
 [⟨n,⟨2,[],l.take a++l.drop (a+1)⟩⟩,⟨(bZ l (a-1)).page,aO (pg f (bZ l (a-1)).page) (pg f (bZ l a).page) (bZ l a).least⟩,⟨(bZ l a).page,bT⟩]
def mT(f:List aA)(n:Int)(a:Nat):List aF:=
 let l:=(pg f n).kids
 [⟨0,aO (pg f (bZ l (a-1)).page) (pg f (bZ l a).page) (bZ l a).least⟩,⟨(bZ l (a-1)).page,bT⟩,⟨(bZ l a).page,bT⟩]
def Aj(f:List aA)(n:Int)(a:Nat):List aF:=
 let l:=(pg f n).kids
 let A:=pg f (bZ l (a-1)).page
 let C:=pg f (bZ l a).page
 let B:=aO A C (bZ l a).least
 [⟨n,⟨2,[],l.take a++⟨cF B (eU A C),(bZ l a).page⟩::l.drop (a+1)⟩⟩,⟨(bZ l (a-1)).page,eZ B (eU A C)⟩,⟨(bZ l a).page,eT B (eU A C)⟩]
def mU(f:List aA)(n:Int)(a:Nat):Nat:=aD (pg f (bZ (pg f n).kids (a-1)).page)+aD (pg f (bZ (pg f n).kids a).page)
def cZ(f:List aA)(n:Int)(k:Key):List aA×Int×List aG:=
 let l:=(pg f n).kids
 let a:=pV l (cB l k)
 if aD (pg f (aZ f n k))<=2 then
  if mU f n a<=4 then
   if n=0/\l.length=2 then(aL f (bK (mT f n a)),0,[⟨bK (mT f n a)⟩])
   else(aL f (bK (kW f n a)),aZ (aL f (bK (kW f n a))) n k,[⟨bK (kW f n a)⟩])
  else(aL f (bK (Aj f n a)),aZ (aL f (bK (Aj f n a))) n k,[⟨bK (Aj f n a)⟩])
 else(f,aZ f n k,[])
theorem MR{l:List Kid}(h2:2<=l.length){l1 l2:List Kid}{x:Kid}(e:l=l1++x::l2):∃p1 u v p2,l=p1++u::v::p2/\pV l l1.length=p1.length+1/\((u=x/\p1=l1/\l2=v::p2)\/(v=x/\l1=p1++[u]/\p2=[]/\l2=[])):=by
 cases l2 with
 |nil=>
  have hne:l1≠[]:=λh=>by subst h;subst e;simp at h2
  refine⟨l1.dropLast,l1.getLast hne,x,[], ?_, ?_,Or.inr ⟨rfl,(List.dropLast_concat_getLast hne).symm,rfl,rfl⟩⟩
  ·rw[e]
   conv=>lhs;rw[<-List.dropLast_concat_getLast hne]
   simp
  ·unfold pV
   rw[if_pos (by rw[e];simp),List.length_dropLast]
   have:=List.length_pos_iff.2 hne
   omega
 |cons v p2=>
  refine⟨l1,x,v,p2,e, ?_,Or.inl ⟨rfl,rfl,rfl⟩⟩
  unfold pV
  rw[if_neg (by rw[e];simp)]
theorem A4{p1 p2:List Kid}{u v:Kid}:bZ (p1++u::v::p2) (p1.length+1-1)=u:=by simp[bZ]
theorem A5{p1 p2:List Kid}{u v:Kid}:bZ (p1++u::v::p2) (p1.length+1)=v:=by
 rw[show p1++u::v::p2=(p1++[u])++v::p2 by simp,show p1.length+1=(p1++[u]).length by simp,eP]
theorem Kf{p1 p2:List Kid}{u v:Kid}:(p1++u::v::p2).take (p1.length+1)=p1++[u]:=by
 rw[show p1++u::v::p2=(p1++[u])++v::p2 by simp,show p1.length+1=(p1++[u]).length by simp,List.take_left]
theorem Kg{p1 p2:List Kid}{u v:Kid}:(p1++u::v::p2).drop (p1.length+1+1)=p2:=by
 rw[show p1++u::v::p2=(p1++[u,v])++p2 by simp,show p1.length+1+1=(p1++[u,v]).length by simp,List.drop_left]
theorem Ir{f:List aA}{D d:Nat}{n:Int}{k:Key}(h:On f D (d+2) n k)(hs:n≠0->3<=aD (pg f n)):
  ∃D',On (cZ f n k).1 D' (d+1) (cZ f n k).2.1 k/\((cZ f n k).2.1≠0->3<=aD (pg (cZ f n k).1 (cZ f n k).2.1))/\rws (cZ f n k).1 D' 0=rws f D 0/\qI (rws f D 0) f (cZ f n k).2.2 (cZ f n k).1/\
   ∃u v,((cZ f n k).2.1=u\/(cZ f n k).2.1=v\/(cZ f n k).2.1=n)/\∀g∈(cZ f n k).2.2,∀s∈g.sheets,s.page=n\/s.page=u\/s.page=v:=by
 obtain⟨l1,x,l2,hp,hI,hi,c1,c2,hd⟩:=h.kids
 have hik:cB (pg f n).kids k=l1.length:=by rw[hp];exact hi.symm
 have hnx:aZ f n k=x.page:=by unfold aZ;rw[hik,hp];exact congrArg (·.page) eP
 obtain⟨p1,u,v,p2,e,ha,hcase⟩:=MR hI.two rfl
 have hp':pg f n=⟨2,[],p1++u::v::p2⟩:=by rw[<-e];exact hp
 have hI':dP (p1++u::v::p2):=e▸hI
 have haf:pV (pg f n).kids (cB (pg f n).kids k)=p1.length+1:=by rw[hik,hp];exact ha
 have hsB:mU f n (p1.length+1)=aD (pg f u.page)+aD (pg f v.page):=by unfold mU;rw[hp'];simp only;rw[A4,A5]
 have hh:=h
 obtain⟨lo,hiB,Q,R1,R2,hA,hw,hr1,hr2⟩:=hh
 obtain⟨P,hu,hv⟩:=hA.pair hp'
 have hb:=P.both.2.2.2
 have hxs:x=u\/x=v:=by rcases hcase with⟨a,_⟩|⟨a,_⟩;exact Or.inl a.symm;exact Or.inr a.symm
 have hx2:2<=aD (pg f x.page):=by rcases hxs with e|e<;>rw[e];exact P.x2;exact P.y2
 have hr:=hI'.rise
 obtain⟨_,rr,rm⟩:=List.pairwise_append.1 hr
 obtain⟨ru,rv⟩:=List.pairwise_cons.1 rr
 obtain⟨rv,_⟩:=List.pairwise_cons.1 rv
 have huv:ltK u.least v.least=true:=ru v (List.mem_cons_self ..)
 have q:=P.x2;have q2:=P.y2;have q3:=P.x4;have q4:=P.y4
 unfold cZ
 simp only[hnx,haf,hsB]
 by_cases hsm:aD (pg f x.page)<=2
 case neg=>
  rw[if_neg hsm]
  exact⟨D,hd,λ_=>by simp only;omega,rfl,rfl,x.page,x.page,Or.inl rfl,by simp⟩
 rw[if_pos hsm]
 by_cases hj:aD (pg f u.page)+aD (pg f v.page)<=4
 ·rw[if_pos hj]
  by_cases hroot:n=0/\(pg f n).kids.length=2
  ·rw[if_pos hroot]
   obtain⟨rfl,hlen⟩:=hroot
   have hD:=h.zero
   subst hD
   have hlen':(p1++u::v::p2).length=2:=by rw[hp'] at hlen;exact hlen
   obtain⟨rfl,rfl⟩:p1=[]/\p2=[]:=by
    simp only[List.length_append,List.length_cons] at hlen'
    exact⟨List.eq_nil_of_length_eq_zero (by omega),List.eq_nil_of_length_eq_zero (by omega)⟩
   have hS:mT f 0 ([]:List Kid).length.succ=[⟨0,aO (pg f u.page) (pg f v.page) v.least⟩,⟨u.page,bT⟩,⟨v.page,bT⟩]:=by unfold mT;rw[hp'];rfl
   obtain⟨g1,g2,g3⟩:=MQ h.good hp' rfl (by rw[hb];exact hj) rfl
   rw[show([]:List Kid).length+1=([]:List Kid).length.succ from rfl,hS]
   refine⟨d+1,On.root g2 h.low,λe=>absurd rfl e,g3,Ah g1 g2 g3,u.page,v.page,Or.inr (Or.inr rfl),λg hg s hs=> ?_⟩
   cases List.mem_singleton.1 hg
   have:=(cU _).mem_iff.1 hs
   simp only[List.mem_cons,List.not_mem_nil,or_false] at this
   rcases this with rfl|rfl|rfl<;>simp
  ·rw[if_neg hroot]
   have hS:kW f n (p1.length+1)=[⟨n,⟨2,[],p1++u::p2⟩⟩,⟨u.page,aO (pg f u.page) (pg f v.page) v.least⟩,⟨v.page,bT⟩]:=by
    unfold kW;rw[hp'];simp only;rw[A4,A5,Kf,Kg];simp
   have h3:3<=(p1++u::v::p2).length:=by
    by_cases h0:n=0
    ·have:=hI'.two
     have hne:¬(p1++u::v::p2).length=2:=λe=>hroot ⟨h0,by rw[hp'];exact e⟩
     omega
    ·have:=hs h0;rw[hp'] at this;simpa[aD] using this
   obtain⟨g1,g2,g3,g4,g5⟩:=Tg h hp' rfl h3 (by rw[hb];exact hj) rfl
   rw[hS]
   have hch:=Ah g1 g2.good g3
   generalize hf':aL f (bK [⟨n,⟨2,[],p1++u::p2⟩⟩,⟨u.page,aO (pg f u.page) (pg f v.page) v.least⟩,⟨v.page,bT⟩])=f' at g2 g3 g4 g5 hch|-
   have c1':p1≠[]->ltK k u.least=false:=λhne=>by
    rcases hcase with⟨a,b,c⟩|⟨a,b,c⟩
    ·rw[a];exact c1 (b▸hne)
    ·have:=c1 (by rw[b];simp)
     rw[<-a] at this
     exact F7 (lt_asymm huv) this
   have c2':∀y t,p2=y::t->ltK k y.least=true:=λy t ey=>by
    rcases hcase with⟨a,b,c⟩|⟨a,b,c,_⟩
    ·exact iV (c2 v p2 c) (rv y (by rw[ey];exact List.mem_cons_self ..))
    ·rw[c] at ey;cases ey
   have hnext:aZ f' n k=u.page:=by
    unfold aZ
    rw[g4]
    simp only
    rw[Gb (g2.inner g4).rise c1' c2',eP]
   rw[hnext]
   refine⟨D,g2.down g4 c1' c2',λ_=>by rw[g5,hb];omega,g3,hch,u.page,v.page,Or.inl rfl,λg hg s hs=> ?_⟩
   cases List.mem_singleton.1 hg
   have:=(cU _).mem_iff.1 hs
   simp only[List.mem_cons,List.not_mem_nil,or_false] at this
   rcases this with rfl|rfl|rfl<;>simp
 ·rw[if_neg hj]
  generalize hm:eU (pg f u.page) (pg f v.page)=m
  have hS:Aj f n (p1.length+1)=[⟨n,⟨2,[],p1++u::⟨cF (aO (pg f u.page) (pg f v.page) v.least) m,v.page⟩::p2⟩⟩,⟨u.page,eZ (aO (pg f u.page) (pg f v.page) v.least) m⟩,⟨v.page,eT (aO (pg f u.page) (pg f v.page) v.least) m⟩]:=by
   unfold Aj;rw[hp'];simp only;rw[A4,A5,Kf,Kg,hm];simp
  have hmm:(x=u/\m=3/\aD (pg f u.page)=2)\/(x=v/\m+1=aD (pg f u.page)/\aD (pg f v.page)=2):=by
   unfold eU at hm
   rcases hxs with e|e
   ·rw[e] at hsm hx2
    left
    rw[if_neg (by omega)] at hm
    exact⟨e,by omega,by omega⟩
   ·rw[e] at hsm hx2
    right
    rw[if_pos (by omega)] at hm
    exact⟨e,by omega,by omega⟩
  obtain⟨g1,g2,g3,g4,g5,g6⟩:=QM h hp' rfl (m:=m) (by rcases hmm with h|h<;>omega) (by rcases hmm with h|h<;>omega) (by rw[hb];rcases hmm with h|h<;>omega) (by rw[hb];rcases hmm with h|h<;>omega) rfl
  rw[hS]
  have hch:=Ah g1 g2.good g3
  obtain⟨_,_,_,_,_,d6,d7⟩:=AY (m:=m) P.both.1 (by rcases hmm with h|h<;>omega) (by rw[hb];rcases hmm with h|h<;>omega)
  have hup:x=u->ltK (cF (aO (pg f u.page) (pg f v.page) v.least) m) v.least=false:=λe=>aaq P.cx P.cy (by rcases hmm with h|h;omega;exact absurd (e.symm.trans h.1) (λe=>P.xy (by rw[e]))) (by rcases hmm with h|h<;>omega)
  have hdn:x=v->ltK (cF (aO (pg f u.page) (pg f v.page) v.least) m) v.least=true:=λe=>aar P.cx P.cy (by rcases hmm with h|h<;>omega) (by rcases hmm with h|h;exact absurd (h.1.symm.trans e) (λe=>P.xy (by rw[e]));omega)
  generalize hB:aO (pg f u.page) (pg f v.page) v.least=B at*
  generalize hf':aL f (bK [⟨n,⟨2,[],p1++u::⟨cF B m,v.page⟩::p2⟩⟩,⟨u.page,eZ B m⟩,⟨v.page,eT B m⟩])=f' at g2 g3 g4 g5 g6 hch|-
  have hgs:∀g∈[aG.mk (bK [⟨n,⟨2,[],p1++u::⟨cF B m,v.page⟩::p2⟩⟩,⟨u.page,eZ B m⟩,⟨v.page,eT B m⟩])],∀s∈g.sheets,s.page=n\/s.page=u.page\/s.page=v.page:=λg hg s hs=>by
   cases List.mem_singleton.1 hg
   have:=(cU _).mem_iff.1 hs
   simp only[List.mem_cons,List.not_mem_nil,or_false] at this
   rcases this with rfl|rfl|rfl<;>simp
  rcases hcase with⟨a,b,c⟩|⟨a,b,c,c'⟩
  ·have hxu:x=u:=a.symm
   have c1':p1≠[]->ltK k u.least=false:=λhne=>by rw[a];exact c1 (b▸hne)
   have c2':∀y t,(⟨cF B m,v.page⟩::p2:List Kid)=y::t->ltK k y.least=true:=λy t ey=>by
    cases ey;exact Qt (c2 v p2 c) (hup hxu)
   have hnext:aZ f' n k=u.page:=by
    unfold aZ
    rw[g4]
    simp only
    rw[Gb (g2.inner g4).rise c1' c2',eP]
   rw[hnext]
   exact⟨D,g2.down g4 c1' c2',λ_=>by rw[g5,d6];rcases hmm with h|h;omega;exact absurd (hxu.symm.trans h.1) (λe=>P.xy (by rw[e])),g3,hch,u.page,v.page,Or.inl rfl,hgs⟩
  ·have hxv:x=v:=a.symm
   have e':p1++u::⟨cF B m,v.page⟩::p2=(p1++[u])++⟨cF B m,v.page⟩::p2:=by simp
   have c1':p1++[u]≠[]->ltK k (Kid.mk (cF B m) v.page).least=false:=λ_=>by
    have:=c1 (by rw[b];simp)
    rw[hxv] at this
    exact F7 (lt_asymm (hdn hxv)) this
   have c2':∀y t,p2=y::t->ltK k y.least=true:=λy t ey=>by rw[c] at ey;cases ey
   rw[e'] at g4
   have hnext:aZ f' n k=v.page:=by
    unfold aZ
    rw[g4]
    simp only
    rw[Gb (g2.inner g4).rise c1' c2',eP]
   rw[hnext]
   exact⟨D,g2.down (x:=⟨cF B m,v.page⟩) g4 c1' c2',λ_=>by rw[g6,d7,hb];rcases hmm with h|h;exact absurd (h.1.symm.trans hxv) (λe=>P.xy (by rw[e]));omega,g3,hch,u.page,v.page,Or.inr (Or.inl rfl),hgs⟩
def cT(k:Key):Nat->List aA->Int->List aA×Int×List aG
 |0,f,n=>(f,n,[])
 |d+1,f,n=>((cT k d (cZ f n k).1 (cZ f n k).2.1).1,(cT k d (cZ f n k).1 (cZ f n k).2.1).2.1,(cZ f n k).2.2++(cT k d (cZ f n k).1 (cZ f n k).2.1).2.2)
theorem QN{k:Key}:∀{d D:Nat} {f:List aA} {n:Int},On f D (d+1) n k->(n≠0->3<=aD (pg f n))->
  ∃D',On (cT k d f n).1 D' 1 (cT k d f n).2.1 k/\((cT k d f n).2.1≠0->3<=aD (pg (cT k d f n).1 (cT k d f n).2.1))/\rws (cT k d f n).1 D' 0=rws f D 0/\qI (rws f D 0) f (cT k d f n).2.2 (cT k d f n).1/\
   ∃T:List Int,T.length<=2*d/\(cT k d f n).2.1∈n::T/\∀g∈(cT k d f n).2.2,∀s∈g.sheets,s.page∈n::T
 |0,D,f,n,h,hs=>⟨D,h,hs,rfl,rfl,[],by simp,by simp[cT],by simp[cT]⟩
 |d+1,D,f,n,h,hs=>by
  obtain⟨D1,h2,h3,h4,h5,u,v,h6,h7⟩:=Ir h hs
  obtain⟨D2,g2,g3,g4,g5,T,g6,g7,g8⟩:=QN h2 h3
  have hk:∀p,p∈(cZ f n k).2.1::T->p∈n::u::v::T:=λp hp=>by
   rcases List.mem_cons.1 hp with e|e
   ·rw[e];rcases h6 with e|e|e<;>rw[e]<;>simp
   ·simp[e]
  refine⟨D2,g2,g3,g4.trans h4,Dh h5 (h4▸g5),u::v::T,by simp only[List.length_cons];omega,hk _ g7,λg hg s hs'=> ?_⟩
  rcases List.mem_append.1 hg with hg|hg
  ·rcases h7 g hg s hs' with e|e|e<;>rw[e]<;>simp
  ·exact hk _ (g8 g hg s hs')
theorem Sa{l:List Row}(hs:Srt l){k:Key}{x:Row}(hf:cL l k=some x):(others k l).length+1=l.length:=by
 rcases MP hs k with⟨pre,y,post,rfl,hx,hc,_⟩|⟨pre,post,rfl,hc,h⟩
 ·rw[GD hx hc];simp;omega
 ·rw[hf] at h;cases h
theorem Uy{f:List aA}{D:Nat}{n:Int}{k:Key}(h:On f D 1 n k){x:Row}(hf:cL (rws f D 0) k=some x)(hs:n≠0->3<=aD (pg f n)){l:List Row}(hp:pg f n=⟨1,l,[]⟩):
  Grp f (one n (others k l))/\Good (aL f (one n (others k l))) D/\rws (aL f (one n (others k l))) D 0=others k (rws f D 0)/\mI (others k l)/\cL l k=some x:=by
 obtain⟨l0,g3,g4,g5,g6⟩:=h.leaf
 obtain rfl:l0=l:=by rw[hp] at g3;injection g3 with _ g3;exact g3.symm
 obtain⟨lo,hi,Q,R1,R2,hA,hw,h1,h2⟩:=h
 rw[g6] at hf
 have hlen:=Sa g4.srt hf
 obtain⟨_,_,l1,g3',_,g5'⟩:=hA.tree
 obtain rfl:l1=l0:=by rw[hp] at g3';injection g3' with _ g3';exact g3'.symm
 have hsub:∀y∈others k l1,y∈l1:=λy hy=>(List.mem_filter.1 hy).1
 have hL:mI (others k l1):=⟨by have:=g4.len;omega,λy hy=>g4.row y (hsub y hy),g4.srt.sublist List.filter_sublist⟩
 obtain⟨q1,q2,q3,q4⟩:=HV hA hp hL (λy hy=>g5' y (hsub y hy)) (λe=>by have:=hs e;rw[hp] at this;simp[aD] at this;omega)
 refine⟨q1,q2, ?_,hL,hf⟩
 have o1:others k R1=R1:=List.filter_eq_self.2 λy hy=>by simpa using S7 (h1 y hy)
 have o2:others k R2=R2:=List.filter_eq_self.2 λy hy=>by simpa using (S7 (h2 y hy)).symm
 rw[q3,q4]
 unfold others at o1 o2|-
 rw[List.filter_append,List.filter_append,o1,o2]
theorem YJ{f:List aA}{D:Nat}{k:Key}(h:Good f D)(hk:ltK k cC=false):
  ∃D',On (cT k (D-1) f 0).1 D' 1 (cT k (D-1) f 0).2.1 k/\((cT k (D-1) f 0).2.1≠0->3<=aD (pg (cT k (D-1) f 0).1 (cT k (D-1) f 0).2.1))/\rws (cT k (D-1) f 0).1 D' 0=rws f D 0/\qI (rws f D 0) f (cT k (D-1) f 0).2.2 (cT k (D-1) f 0).1/\
   ∃T:List Int,T.length<=2*(D-1)/\(cT k (D-1) f 0).2.1∈0::T/\∀g∈(cT k (D-1) f 0).2.2,∀s∈g.sheets,s.page∈0::T:=by
 obtain⟨d,rfl⟩:∃d,D=d+1:=⟨D-1,by have:=h.pos;omega⟩
 exact QN (On.root h hk) λe=>absurd rfl e
end Go.Proofs.YtlcmdgpjiendmaaGreat
