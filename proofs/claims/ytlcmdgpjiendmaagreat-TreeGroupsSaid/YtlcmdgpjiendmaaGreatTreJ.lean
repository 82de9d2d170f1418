import Derived.Test.YtlcmdgpjiendmaaGreatLst6
namespace Go.Proofs.YtlcmdgpjiendmaaGreat
open Go.Bur
set_option linter.unusedSimpArgs false
set_option linter.unusedVariables false
set_option maxRecDepth 100000
structure mI(l:List Row):Prop where
 len:l.length<=4
 row:∀r∈l,eF r=true
 srt:Srt l
structure dP(l:List Kid):Prop where
 two:2<=l.length
 four:l.length<=4
 page:∀k∈l,0<k.page/\k.page<64
 nodup:(l.map (·.page)).Nodup
 tab:∀k∈l,iU k.least.table=true
 rise:l.Pairwise λa b=>ltK a.least b.least=true
 head:∀k,l.head? =some k->k.least=cC
theorem G3{q:List (Int×Bool)}{x y:Int}:kA false ((x,true)::q) y=(decide (x=y)||kA false q y):=by
 show(match decide (x=y) with|true=>true|false=>kA false q y)=_
 cases decide (x=y)<;>rfl
theorem EU:∀(p:Option Key)(q:List (Int×Bool))(l:List Kid),mG p q l=true↔
  (∀k∈l,(0<k.page/\k.page<64)/\iU k.least.table=true/\kA false q k.page=false)/\(l.map (·.page)).Nodup/\(l.Pairwise λa b=>ltK a.least b.least=true)/\(∀z,p=some z->∀k∈l,ltK z k.least=true)/\(p=none->∀k,l.head? =some k->k.least=cC)
 |p,q,[]=>by simp[mG]
 |p,q,k::t=>by
  simp only[mG,goK,HB,Bool.and_eq_true,Bool.or_eq_true,Bool.not_eq_true',decide_eq_true_eq,EU (some k.least) ((k.page,true)::q) t,List.map_cons,List.nodup_cons,List.pairwise_cons,List.head?_cons,Option.some.injEq,CZ,G3,Bool.or_eq_false_iff,decide_eq_false_iff_not]
  constructor
  ·rintro⟨⟨⟨⟨⟨⟨h1,h2⟩,h3⟩,h4⟩,h5⟩,h6⟩,h7,h8,h9,h10,_⟩
   refine⟨λx hx=> ?_,⟨λhm=> ?_,h8⟩,⟨λx hx=>h10 _ rfl x hx,h9⟩,λz hz x hx=> ?_,λhp x hx=> ?_⟩
   ·rcases List.mem_cons.1 hx with rfl|hx
    ·exact⟨⟨h2,h3⟩,h4,h1⟩
    ·exact⟨(h7 x hx).1,(h7 x hx).2.1,(h7 x hx).2.2.2⟩
   ·obtain⟨y,hy,e⟩:=List.mem_map.1 hm
    exact(h7 y hy).2.2.1 e.symm
   ·subst hz
    rcases List.mem_cons.1 hx with rfl|hx
    ·exact h6
    ·exact iV h6 (h10 _ rfl x hx)
   ·subst hp;subst hx
    rcases h5 with h|h
    ·cases h
    ·exact h
  ·rintro⟨h1,⟨h2,h3⟩,⟨h4,h5⟩,h6,h7⟩
   obtain⟨⟨a1,a2⟩,a3,a4⟩:=h1 k (List.mem_cons_self ..)
   refine⟨⟨⟨⟨⟨⟨a4,a1⟩,a2⟩,a3⟩, ?_⟩, ?_⟩,λx hx=> ?_,h3,h5,λz hz x hx=> ?_,λh=>by cases h⟩
   ·cases p with
    |none=>exact Or.inr (h7 rfl k rfl)
    |some z=>exact Or.inl rfl
   ·cases p with
    |none=>rfl
    |some z=>exact h6 z rfl k (List.mem_cons_self ..)
   ·obtain⟨b1,b2,b3⟩:=h1 x (List.mem_cons_of_mem _ hx)
    exact⟨b1,b2,λe=>h2 (List.mem_map.2 ⟨x,hx,e.symm⟩),b3⟩
   ·cases hz;exact h4 x hx
theorem gU(c:aA):aV c=true↔c=bT\/(∃l,c=⟨1,l,[]⟩/\mI l)\/∃l,c=⟨2,[],l⟩/\dP l:=by
 obtain⟨k,rs,ks⟩:=c
 unfold aV
 simp only
 constructor
 ·intro h
  split at h
  ·rename_i h0
   simp at h;exact Or.inl (by rw[h0,h.1,h.2];rfl)
  ·split at h
   ·rename_i h0 h1
    simp only[Bool.and_eq_true,decide_eq_true_eq] at h
    obtain⟨a,b,c⟩:=(wN none rs).1 h.2.2
    exact Or.inr (Or.inl ⟨rs,by rw[h1,List.eq_nil_of_length_eq_zero h.1],h.2.1,a,b⟩)
   ·split at h
    ·rename_i h0 h1 h2
     simp only[Bool.and_eq_true,decide_eq_true_eq] at h
     obtain⟨a,b,c,d,e⟩:=(EU none [] ks).1 h.2.2.2
     exact Or.inr (Or.inr ⟨ks,by rw[h2,List.eq_nil_of_length_eq_zero h.1],h.2.1,h.2.2.1,λx hx=>(a x hx).1,b,λx hx=>(a x hx).2.1,c,e rfl⟩)
    ·cases h
 ·rintro(h|⟨l,h,hl⟩|⟨l,h,hl⟩)
  ·cases h;rfl
  ·cases h
   simp only[if_neg (show ¬(1:Int)=0 by decide),if_true,List.length_nil,decide_eq_true hl.len,(wN none rs).2 ⟨hl.row,hl.srt,λk h=>by cases h⟩]
   rfl
  ·cases h
   simp only[if_neg (show ¬(2:Int)=0 by decide),if_neg (show ¬(2:Int)=1 by decide),if_true,List.length_nil,decide_eq_true hl.four,decide_eq_true (show 1<ks.length from hl.two),(EU none [] ks).2 ⟨λx hx=>⟨hl.page x hx,hl.tab x hx,rfl⟩,hl.nodup,hl.rise,λz h=>(by cases h),λ_=>hl.head⟩]
   rfl
theorem bS{c:aA}(h:aV c=true):dS c:=by
 rcases(gU c).1 h with rfl|⟨l,rfl,hl⟩|⟨l,rfl,hl⟩
 ·exact aaW
 ·exact⟨by have:=hl.len;simp only;omega,by simp,by simp⟩
 ·refine⟨by simp,by have:=hl.four;simp only;omega,λk hk=>GB ?_⟩
  have:=hl.page k hk
  have e1:IntKind.i64.min= -9223372036854775808:=rfl
  have e2:IntKind.i64.max=9223372036854775807:=rfl
  exact⟨by omega,by omega⟩
def within(k lo:Key)(hi:Option Key):Bool:= !ltK k lo&&(match hi with|none=>true|some h=>ltK k h)
theorem S4{a b:Key}:decide (GA a b>=0)= !ltK a b:=VT
theorem J4(n:Nat)(hn:3<=n)(k lo:Key):iQ n k lo=some (within k lo none):=by
 unfold iQ within
 rw[jO n hn]
 simp only[Option.bind_some,jn,S4]
 cases ltK k lo<;>rfl
theorem HR(n:Nat)(hn:3<=n)(k lo h:Key):rX n k lo h=some (within k lo (some h)):=by
 unfold rX within
 rw[jO n hn,jO n hn]
 simp only[Option.bind_some,jn,S4]
 cases ltK k lo<;>rfl
def pg(f:List aA)(n:Int):aA:=(idx f n).getD bT
theorem gI{f:List aA}{n:Int}(h:0<=n/\n<f.length):idx f n=some (pg f n):=by
 obtain⟨x,hx⟩:=ZV h
 unfold pg;rw[hx];rfl
def nxt(hi:Option Key):List Kid->Option Key
 |[]=>hi
 |k::_=>some k.least
def cJ(S:Int->Key->Option Key->Prop)(hi:Option Key):Key->List Kid->Prop
 |_,[]=>True
 |lo,[k]=>S k.page lo hi
 |lo,k::k2::t=>S k.page lo (some k2.least)/\cJ S hi k2.least (k2::t)
def sub(f:List aA):Nat->Int->Key->Option Key->Prop
 |0=>λ_ _ _=>False
 |1=>λn lo hi=>(0<=n/\n<64)/\(n≠0->2<=aD (pg f n))/\∃l,pg f n=⟨1,l,[]⟩/\mI l/\∀r∈l,within r.key lo hi=true
 |d+2=>λn lo hi=>(0<=n/\n<64)/\(n≠0->2<=aD (pg f n))/\∃l,pg f n=⟨2,[],l⟩/\dP l/\(∀k∈l.tail,within k.least lo hi=true)/\cJ (sub f (d+1)) hi lo l
def pgs(f:List aA):Nat->Int->List Int
 |0,_=>[]
 |d+1,n=>n::(pg f n).kids.flatMap λk=>pgs f d k.page
def rws(f:List aA):Nat->Int->List Row
 |0,_=>[]
 |d+1,n=>(pg f n).rows++(pg f n).kids.flatMap λk=>rws f d k.page
theorem Cz{S:Int->Key->Option Key->Prop}{hi:Option Key}{lo:Key}{k:Kid}{t:List Kid}:cJ S hi lo (k::t)↔S k.page lo (nxt hi t)/\∀k2 t2,t=k2::t2->cJ S hi k2.least t:=by
 cases t with
 |nil=>simp[cJ,nxt]
 |cons k2 t2=>
  simp only[cJ,nxt]
  exact⟨λh=>⟨h.1,λ_ _ e=>by cases e;exact h.2⟩,λh=>⟨h.1,h.2 _ _ rfl⟩⟩
theorem xO{S S':Int->Key->Option Key->Prop}{hi:Option Key}:∀{l:List Kid} {lo:Key},(∀k∈l,∀a b,S k.page a b->S' k.page a b)->cJ S hi lo l->cJ S' hi lo l
 |[],_,_,_=>trivial
 |[k],lo,h,hk=>h k (List.mem_cons_self ..) _ _ hk
 |k::k2::t,lo,h,hk=>⟨h k (List.mem_cons_self ..) _ _ hk.1,xO (λx hx=>h x (List.mem_cons_of_mem _ hx)) hk.2⟩
theorem cQ{S:Int->Key->Option Key->Prop}{hi:Option Key}:∀{l:List Kid} {lo:Key},cJ S hi lo l->∀k∈l,∃a b,S k.page a b
 |[k],lo,h,x,hx=>by cases List.mem_singleton.1 hx;exact⟨_,_,h⟩
 |k::k2::t,lo,h,x,hx=>by
  rcases List.mem_cons.1 hx with rfl|hx
  ·exact⟨_,_,h.1⟩
  ·exact cQ h.2 x hx
theorem qY{S:Int->Key->Option Key->Prop}{hi:Option Key}{k:Kid}{t:List Kid}:∀{l:List Kid} {lo:Key},l≠[]->(cJ S hi lo (l++k::t)↔cJ S (some k.least) lo l/\cJ S hi k.least (k::t))
 |[],_,h=>absurd rfl h
 |[a],lo,_=>Iff.rfl
 |a::b::l,lo,_=>by
  have ih:=qY (S:=S) (hi:=hi) (k:=k) (t:=t) (l:=b::l) (lo:=b.least) (by simp)
  show S a.page lo (some b.least)/\cJ S hi b.least ((b::l)++k::t)↔_
  rw[ih]
  exact⟨λh=>⟨⟨h.1,h.2.1⟩,h.2.2⟩,λh=>⟨h.1.1,h.1.2,h.2⟩⟩
theorem MB{S:Int->Key->Option Key->Prop}{hi:Option Key}{lo:Key}{k k':Kid}{t:List Kid}(h:k.page=k'.page):cJ S hi lo (k::t)↔cJ S hi lo (k'::t):=by
 cases t with
 |nil=>simp only[cJ,h]
 |cons k2 t=>simp only[cJ,h]
theorem iA{α β:Type}{g h:α->List β}:∀{l:List α},(∀x∈l,g x=h x)->l.flatMap g=l.flatMap h
 |[],_=>rfl
 |x::t,e=>by rw[List.flatMap_cons,List.flatMap_cons,e x (List.mem_cons_self ..),iA λy hy=>e y (List.mem_cons_of_mem _ hy)]
theorem cG{f:List aA}{d:Nat}{n:Int}:n∈pgs f (d+1) n:=List.mem_cons_self ..
theorem S5{f:List aA}{d:Nat}{n:Int}{k:Kid}(hk:k∈(pg f n).kids){m:Int}(hm:m∈pgs f d k.page):m∈pgs f (d+1) n:=
 List.mem_cons_of_mem _ (List.mem_flatMap.2 ⟨k,hk,hm⟩)
theorem frame{f f':List aA}:∀{d:Nat} {n:Int},(∀m∈pgs f d n,pg f' m=pg f m)->pgs f' d n=pgs f d n/\rws f' d n=rws f d n
 |0,_,_=>⟨rfl,rfl⟩
 |d+1,n,h=>by
  have e:=h n cG
  have ih:∀k∈(pg f n).kids,pgs f' d k.page=pgs f d k.page/\rws f' d k.page=rws f d k.page:=λk hk=>frame λm hm=>h m (S5 hk hm)
  constructor
  ·show n::(pg f' n).kids.flatMap _=n::(pg f n).kids.flatMap _
   rw[e,iA λk hk=>(ih k hk).1]
  ·show(pg f' n).rows++(pg f' n).kids.flatMap _=(pg f n).rows++(pg f n).kids.flatMap _
   rw[e,iA λk hk=>(ih k hk).2]
theorem G4{f f':List aA}:∀{d:Nat} {n:Int} {lo:Key} {hi:Option Key},(∀m∈pgs f d n,pg f' m=pg f m)->sub f d n lo hi->sub f' d n lo hi
 |0,_,_,_,_,h=>h
 |1,n,lo,hi,e,h=>by
  obtain⟨h1,h2,l,h3,h4,h5⟩:=h
  have en:=e n cG
  exact⟨h1,by rw[en];exact h2,l,by rw[en];exact h3,h4,h5⟩
 |d+2,n,lo,hi,e,h=>by
  obtain⟨h1,h2,l,h3,h4,h5,h6⟩:=h
  have en:=e n cG
  refine⟨h1,by rw[en];exact h2,l,by rw[en];exact h3,h4,h5,xO (λk hk a b hs=>G4 (λm hm=>e m (S5 (by rw[h3];exact hk) hm)) hs) h6⟩
theorem pS{f:List aA}{d:Nat}{n:Int}{lo:Key}{hi:Option Key}(h:sub f d n lo hi):0<=n/\n<64:=by
 match d,h with
 |1,h=>exact h.1
 |d+2,h=>exact h.1
theorem MC{f:List aA}{d:Nat}{n:Int}{lo:Key}{hi:Option Key}(h:sub f d n lo hi):aV (pg f n)=true:=by
 match d,h with
 |1,h=>obtain⟨_,_,l,h3,h4,_⟩:=h;exact(gU _).2 (Or.inr (Or.inl ⟨l,h3,h4⟩))
 |d+2,h=>obtain⟨_,_,l,h3,h4,_⟩:=h;exact(gU _).2 (Or.inr (Or.inr ⟨l,h3,h4⟩))
theorem mJ{f:List aA}:∀{d:Nat} {n:Int} {lo:Key} {hi:Option Key},sub f d n lo hi->∀m∈pgs f d n,(0<=m/\m<64)/\(pg f m).kind≠0
 |1,n,lo,hi,h,m,hm=>by
  obtain⟨h1,_,l,h3,_⟩:=h
  rw[pgs,h3] at hm
  cases List.mem_singleton.1 hm
  exact⟨h1,by rw[h3];simp⟩
 |d+2,n,lo,hi,h,m,hm=>by
  obtain⟨h1,_,l,h3,_,_,h6⟩:=h
  rcases List.mem_cons.1 hm with rfl|hm
  ·exact⟨h1,by rw[h3];simp⟩
  ·obtain⟨k,hk,hm⟩:=List.mem_flatMap.1 hm
   rw[h3] at hk
   obtain⟨a,b,hs⟩:=cQ h6 k hk
   exact mJ hs m hm
structure Good(f:List aA)(d:Nat):Prop where
 len:f.length=64
 ok:∀n,0<=n/\n<64->aV (pg f n)=true
 tree:sub f d 0 cC none
 nodup:(pgs f d 0).Nodup
 rest:∀n,0<=n/\n<64->n∉pgs f d 0->(pg f n).kind=0
theorem wR{α:Type}[DecidableEq α]:∀{l m:List α},l.Nodup->(∀x∈l,x∈m)->l.length<=m.length
 |[],m,_,_=>Nat.zero_le _
 |x::t,m,h,hs=>by
  obtain⟨h1,h2⟩:=List.nodup_cons.1 h
  have hx:=hs x (List.mem_cons_self ..)
  have:=wR (l:=t) (m:=m.erase x) h2 λy hy=>(List.mem_erase_of_ne (by rintro rfl;exact h1 hy)).2 (hs y (List.mem_cons_of_mem _ hy))
  rw[List.length_erase_of_mem hx] at this
  have:=List.length_pos_of_mem hx
  simp only[List.length_cons];omega
def J5:List Int:=(List.range 64).map Int.ofNat
theorem MD{x:Int}:x∈J5↔0<=x/\x<64:=by
 unfold J5
 rw[List.mem_map]
 constructor
 ·rintro⟨a,ha,rfl⟩
  have:=List.mem_range.1 ha
  exact⟨Int.natCast_nonneg a,by show(a:Int)<64;omega⟩
 ·rintro⟨h1,h2⟩
  exact⟨x.toNat,List.mem_range.2 (by omega),by show((x.toNat:Nat):Int)=x;omega⟩
theorem oG{l:List Int}(h:l.Nodup)(hl:∀x∈l,0<=x/\x<64):l.length<=64:=
 wR (m:=J5) h λx hx=>MD.2 (hl x hx)
theorem J6{f:List aA}:∀{d:Nat} {n:Int} {lo:Key} {hi:Option Key},sub f d n lo hi->2^d<=(pgs f d n).length+1
 |1,n,lo,hi,h=>by
  show 2<=(n::_).length+1
  simp
 |d+2,n,lo,hi,h=>by
  obtain⟨_,_,l,h3,h4,_,h6⟩:=h
  obtain⟨a,b,t,rfl⟩:∃a b t,l=a::b::t:=by
   match l,h4.two with
   |a::b::t,_=>exact⟨a,b,t,rfl⟩
  obtain⟨x1,y1,s1⟩:=cQ h6 a (by simp)
  obtain⟨x2,y2,s2⟩:=cQ h6 b (by simp)
  have i1:=J6 s1
  have i2:=J6 s2
  show 2^(d+2)<=(n::(pg f n).kids.flatMap λk=>pgs f (d+1) k.page).length+1
  rw[h3]
  simp only[List.flatMap_cons,List.length_cons,List.length_append]
  rw[Nat.pow_succ]
  omega
theorem Good.deep{f:List aA}{d:Nat}(h:Good f d):d<=6:=by
 have h1:=J6 h.tree
 have h2:=oG h.nodup λx hx=>(mJ h.tree x hx).1
 by_cases hd:d<=6
 ·exact hd
 ·have:2^7<=2^d:=Nat.pow_le_pow_right (by decide) (by omega)
  omega
theorem Good.pos{f:List aA}{d:Nat}(h:Good f d):1<=d:=by
 have:=h.tree
 match d,this with
 |d+1,_=>omega
end Go.Proofs.YtlcmdgpjiendmaaGreat
namespace Go.Proofs.YtlcmdgpjiendmaaGreat
open Go.Bur
set_option linter.unusedSimpArgs false
set_option linter.unusedVariables false
set_option maxRecDepth 100000
abbrev Met:=List (Int×Bool)
def pT(F:Int->Key->Option Key->Int->Met->Option (Bool×Int×Met))(hi:Option Key)(lo:Key):Bool->List Kid->Int->Met->Option (Bool×Int×Met)
 |_,[],wd,q=>some (true,wd,q)
 |fst,k::t,wd,q=>if(!fst&& !within k.least lo hi)=true then some (false,wd,q) else
  (F k.page (if fst=true then lo else k.least) (nxt hi t) wd q).bind λy=>if y.1=false then some (false,y.2.1,y.2.2) else pT F hi lo false t y.2.1 y.2.2
def gJ(f:List aA):Nat->Int->Int->Key->Option Key->Int->Met->Option (Bool×Int×Met)
 |0,_,_,_,_,_,_=>none
 |m+1,n,dp,lo,hi,wd,q=>
  if kA false q n=true then some (false,wd,q)
  else if(pg f n).kind=0\/(n≠0/\aD (pg f n)<2) then some (false,wd,(n,true)::q)
  else if((pg f n).rows.all λr=>within r.key lo hi)=false then some (false,wd,(n,true)::q)
  else if(pg f n).kind=1 then some (decide ((if wd=0 then dp else wd)=dp),if wd=0 then dp else wd,(n,true)::q)
  else pT (λp a b=>gJ f m p (dp+1) a b) hi lo true (pg f n).kids wd ((n,true)::q)
structure QOk(q:Met):Prop where
 nodup:(q.map Prod.fst).Nodup
 rng:∀x∈q.map Prod.fst,0<=x/\x<64
 tr:∀p∈q,p.2=true
theorem QOk.get{q:Met}(h:QOk q)(x:Int):kA false q x=decide (x∈q.map Prod.fst):=by
 rw[Pr q h.tr,Bool.eq_iff_iff,List.any_eq_true,decide_eq_true_iff,List.mem_map]
 simp only[decide_eq_true_iff]
theorem QOk.cons{q:Met}(h:QOk q){x:Int}(hx:kA false q x=false)(hr:0<=x/\x<64):QOk ((x,true)::q):=by
 rw[h.get,decide_eq_false_iff_not] at hx
 refine⟨List.nodup_cons.2 ⟨hx,h.nodup⟩,λy hy=> ?_,λp hp=> ?_⟩
 ·rcases List.mem_cons.1 hy with rfl|hy
  ·exact hr
  ·exact h.rng y hy
 ·rcases List.mem_cons.1 hp with rfl|hp
  ·rfl
  ·exact h.tr p hp
theorem QOk.len{q:Met}(h:QOk q):q.length<=64:=by have:=oG h.nodup h.rng;simpa using this
theorem QOk.nil:QOk []:=⟨List.nodup_nil,by simp,by simp⟩
theorem R6{n:Int}(h:0<=n/\n<64):oA .i64 n=true:=by
 have e1:IntKind.i64.min= -9223372036854775808:=rfl
 have e2:IntKind.i64.max=9223372036854775807:=rfl
 exact GB ⟨by omega,by omega⟩
theorem S6{q:Met}{n:Int}(h:0<=n/\n<64):oB .i64 false q n=some (kA false q n):=by unfold oB;rw[R6 h]
theorem WB{q:Met}(hq:QOk q){n:Int}(h:0<=n/\n<64):AQ .i64 q n true=some ((n,true)::q):=by
 unfold AQ;rw[R6 h,Nat.ble_eq_true_of_le (by have:=hq.len;omega)];rfl
theorem dB{α:Type}{l:List α}{i:Nat}{x:α}{t:List α}(h:l.drop i=x::t):l[i]? =some x/\l.drop (i+1)=t/\i<l.length:=by
 have hi:i<l.length:=by
  by_cases hi:i<l.length
  ·exact hi
  ·rw[List.drop_eq_nil_of_le (by omega)] at h;cases h
 rw[drop_cons hi] at h
 cases h
 exact⟨get_some hi,rfl,hi⟩
theorem dC{α:Type}{l:List α}{i:Nat}(h:l.drop i=[])(hi:i<=l.length):i=l.length:=by
 have:=List.drop_eq_nil_iff.1 h;omega
def HS(f:List aA):Prop:=f.length=64/\∀n,0<=n/\n<64->aV (pg f n)=true
theorem F6{f:List aA}(hf:HS f){n:Int}(hn:0<=n/\n<64):∀k∈(pg f n).kids,0<=k.page/\k.page<64:=λk hk=>by
 rcases(gU _).1 (hf.2 n hn) with h|⟨l,h,_⟩|⟨l,h,hl⟩
 ·rw[h] at hk;cases hk
 ·rw[h] at hk;cases hk
 ·rw[h] at hk;have:=hl.page k hk;omega
def aan(F:Int->Key->Option Key->Int->Met->Option (Bool×Int×Met))(m:Nat):Prop:=∀p a b wd q,(0<=p/\p<64)->QOk q->(∀r,F p a b wd q=some r->QOk r.2.2/\q.length<=r.2.2.length)/\(65<=q.length+m->∃r,F p a b wd q=some r)
theorem MF{F:Int->Key->Option Key->Int->Met->Option (Bool×Int×Met)}{m:Nat}(hF:aan F m){hi:Option Key}{lo:Key}:∀(l:List Kid)(fst:Bool)(wd:Int)(q:Met),(∀k∈l,0<=k.page/\k.page<64)->QOk q->
  (∀r,pT F hi lo fst l wd q=some r->QOk r.2.2/\q.length<=r.2.2.length)/\(65<=q.length+m->∃r,pT F hi lo fst l wd q=some r)
 |[],fst,wd,q,_,hq=>⟨λr h=>by cases h;exact⟨hq,Nat.le_refl _⟩,λ_=>⟨_,rfl⟩⟩
 |k::t,fst,wd,q,hl,hq=>by
  obtain⟨h1,h2⟩:=hF k.page (if fst=true then lo else k.least) (nxt hi t) wd q (hl k (List.mem_cons_self ..)) hq
  have ht:∀x∈t,0<=x.page/\x.page<64:=λx hx=>hl x (List.mem_cons_of_mem _ hx)
  unfold pT
  split
  ·exact⟨λr h=>by cases h;exact⟨hq,Nat.le_refl _⟩,λ_=>⟨_,rfl⟩⟩
  ·cases hy:F k.page (if fst=true then lo else k.least) (nxt hi t) wd q with
   |none=>exact⟨λr h=>(by cases h),λh=>by obtain⟨r,hr⟩:=h2 h;rw[hr] at hy;cases hy⟩
   |some y=>
    obtain⟨y1,y2⟩:=h1 y hy
    obtain⟨i1,i2⟩:=MF hF t false y.2.1 y.2.2 ht y1
    simp only[Option.bind_some]
    split
    ·exact⟨λr h=>by cases h;exact⟨y1,y2⟩,λ_=>⟨_,rfl⟩⟩
    ·exact⟨λr h=>⟨(i1 r h).1,Nat.le_trans y2 (i1 r h).2⟩,λh=>i2 (by omega)⟩
theorem Aa{f:List aA}(hf:HS f):∀(m:Nat)(dp:Int),aan (λp a b=>gJ f m p dp a b) m
 |0,dp,p,a,b,wd,q,hp,hq=>⟨λr h=>(by cases h),λh=>by have:=hq.len;omega⟩
 |m+1,dp,p,a,b,wd,q,hp,hq=>by
  show(∀r,gJ f (m+1) p dp a b wd q=some r->_)/\(_->∃r,gJ f (m+1) p dp a b wd q=some r)
  unfold gJ
  split
  ·exact⟨λr h=>by cases h;exact⟨hq,Nat.le_refl _⟩,λ_=>⟨_,rfl⟩⟩
  ·rename_i hm
   have hq':=hq.cons (Bool.not_eq_true _▸hm) hp
   split
   ·exact⟨λr h=>by cases h;exact⟨hq',by simp⟩,λ_=>⟨_,rfl⟩⟩
   ·split
    ·exact⟨λr h=>by cases h;exact⟨hq',by simp⟩,λ_=>⟨_,rfl⟩⟩
    ·split
     ·exact⟨λr h=>by cases h;exact⟨hq',by simp⟩,λ_=>⟨_,rfl⟩⟩
     ·obtain⟨i1,i2⟩:=MF (Aa hf m (dp+1)) (hi:=b) (lo:=a) (pg f p).kids true wd ((p,true)::q) (F6 hf hp) hq'
      exact⟨λr h=>⟨(i1 r h).1,Nat.le_trans (by simp) (i1 r h).2⟩,λh=>i2 (by simp only[List.length_cons];omega)⟩
theorem aM{T R:Type}{F:(T->Option R)->T->Option R}{m:Nat}{x:T}:aW F (m+1) x=F (aW F m) x:=rfl
theorem Qq(n:Nat)(hn:1003<=n){c:aA}(h:aV c=true):vA n c=some (aD c:Int):=by
 rw[X4 n hn c (bS h),if_pos h]
theorem Qr(x:Int):(x==0)=decide (x=0):=oL x 0
theorem aao(x:Int):(x !=0)= !decide (x=0):=by rw[bne,oL]
theorem lt2(k:Nat):decide ((k:Int)<2)=decide (k<2):=decide_eq_decide.2 (by omega)
theorem l3S(f:List aA)(hf:HS f)(N m:Nat)(hN:m+1003<=N)(dp:Int)(hdp:0<dp/\dp+m+1<=1000)(lo:Key)(hi:Key)(c:aA)(hc:∀k∈c.kids,0<=k.page/\k.page<64)(hl:c.kids.length<=1000)
  (self:Int×Int×Key×Key×(List aA)×Int×(List (Int×Bool))×Unit->Option (Bool×(List aA)×Int×(List (Int×Bool))))
  (hs:∀p a b wd q r,(0<=p/\p<64)->QOk q->gJ f m p (dp+1) a (some b) wd q=some r->self (p,dp+1,a,b,f,wd,q,())=some (r.1,f,r.2.1,r.2.2)):
  ∀(k:Nat)(t:List Kid)(i:Nat)(wd:Int)(q:Met)(r:Bool×Int×Met),c.kids.drop i=t->i<=c.kids.length->t.length<k->QOk q->pT (λp a b=>gJ f m p (dp+1) a b) (some hi) lo (decide (i=0)) t wd q=some r->
  gV N self k (dp,hi,c.kids,(c.kids.length:Int),(i:Int),f,wd,lo,c,q,())=some (r.1,f,r.2.1,r.2.2):=by
 intro k
 induction k with
 |zero=>intro t i wd q r _ _ h;omega
 |succ k ih=>
  intro t i wd q r ht hi' hk hq hr
  unfold gV
  simp only[aW]
  cases t with
  |nil=>
   cases dC ht hi'
   simp only[bI (Nat.lt_irrefl _),cond_false]
   cases hr;rfl
  |cons x t=>
   obtain⟨h1,h2,h3⟩:=dB ht
   simp only[bH h3,cond_true,aR,h1,Option.bind_some,jn]
   have hxm:x∈c.kids:=List.mem_of_getElem? h1
   have hstep:∀fr r,(if(!decide (i=0)&& !within x.least lo (some hi))=true then some (false,wd,q) else(gJ f m x.page (dp+1) (if(decide (i=0))=true then lo else x.least) (nxt (some hi) t) wd q).bind λy=>if y.1=false then some (false,y.2.1,y.2.2) else pT (λp a b=>gJ f m p (dp+1) a b) (some hi) lo false t y.2.1 y.2.2)=some r->fr=(if(decide (i=0))=true then lo else x.least)->(!decide (i=0)&& !within x.least lo (some hi))=false->
     oT N self (gV N self k) (dp,hi,(i:Int),hi,c.kids,(c.kids.length:Int),(i:Int),f,wd,lo,c,x,fr,q,())=some (r.1,f,r.2.1,r.2.2):=by
    intro fr r hr hfr hw
    rw[if_neg (by rw[hw];simp)] at hr
    cases hy:gJ f m x.page (dp+1) (if(decide (i=0))=true then lo else x.least) (nxt (some hi) t) wd q with
    |none=>rw[hy] at hr;cases hr
    |some y=>
     rw[hy] at hr
     simp only[Option.bind_some] at hr
     rw[<-hfr] at hy
     have hq':=((Aa hf m (dp+1)) x.page fr (nxt (some hi) t) wd q (hc x hxm) hq).1 y hy
     unfold oT
     simp only[aJ (show i<4611686018427387904 by omega),cN (show-9223372036854775808<=dp+1/\dp+1<=9223372036854775807 by omega),aR,jn]
     cases t with
     |nil=>
      have e:i+1=c.kids.length:=dC h2 (by omega)
      simp only[bI (show ¬i+1<c.kids.length by omega),cond_false,oS,cN (show-9223372036854775808<=dp+1/\dp+1<=9223372036854775807 by omega),aJ (show i<4611686018427387904 by omega)]
      simp only[hs x.page fr hi wd q y (hc x hxm) hq hy,Option.bind_some]
      cases hb:y.1 with
      |false=>
       rw[hb] at hr;simp only[if_true] at hr;cases hr;rfl
      |true=>
       rw[hb] at hr;simp only[Bool.true_eq_false,if_false] at hr
       simp only[Bool.not_true,cond_false]
       exact ih _ (i+1) _ _ r h2 (by omega) (by simp only[List.length_cons] at hk|-;omega) hq'.1 (by rw[decide_eq_false (by omega:¬i+1=0)];exact hr)
     |cons k2 t2=>
      obtain⟨g1,g2,g3⟩:=dB h2
      simp only[bH g3,cond_true,g1,Option.bind_some,oS,cN (show-9223372036854775808<=dp+1/\dp+1<=9223372036854775807 by omega),aJ (show i<4611686018427387904 by omega)]
      simp only[hs x.page fr k2.least wd q y (hc x hxm) hq hy,Option.bind_some]
      cases hb:y.1 with
      |false=>
       rw[hb] at hr;simp only[if_true] at hr;cases hr;rfl
      |true=>
       rw[hb] at hr;simp only[Bool.true_eq_false,if_false] at hr
       simp only[Bool.not_true,cond_false]
       exact ih _ (i+1) _ _ r h2 (by omega) (by simp only[List.length_cons] at hk|-;omega) hq'.1 (by rw[decide_eq_false (by omega:¬i+1=0)];exact hr)
   unfold pT at hr
   by_cases h0:i=0
   ·subst h0
    rw[decide_eq_false (show ¬((0:Nat):Int)>0 by omega),cond_false]
    exact hstep lo r hr (by simp) (by simp)
   ·rw[decide_eq_true (show((i:Nat):Int)>0 by omega),cond_true,HR N (by omega)]
    simp only[Option.bind_some]
    cases hw:within x.least lo (some hi) with
    |false=>
     rw[hw,decide_eq_false h0] at hr
     simp only[Bool.not_false,Bool.and_self,if_true] at hr
     cases hr;rfl
    |true=>
     simp only[Bool.not_true,cond_false]
     exact hstep x.least r hr (by simp[h0]) (by simp[hw])
theorem l1S(f:List aA)(N:Nat)(hN:1003<=N)(dp:Int)(lo:Key)(hi:Key)(c:aA)(hl:c.rows.length<=1000)(wd:Int)(q:Met)
  (self:Int×Int×Key×Key×(List aA)×Int×(List (Int×Bool))×Unit->Option (Bool×(List aA)×Int×(List (Int×Bool)))):
  ∀(k:Nat)(t:List Row)(i:Nat),c.rows.drop i=t->i<=c.rows.length->t.length<k->
  gW N self k (dp,hi,c.rows,(c.rows.length:Int),(i:Int),f,wd,lo,c,q,())=if(t.all λr=>within r.key lo (some hi))=false then some (false,f,wd,q) else
   if c.kind=1 then some (decide ((if wd=0 then dp else wd)=dp),f,(if wd=0 then dp else wd),q) else gV N self N (dp,hi,c.kids,(c.kids.length:Int),0,f,wd,lo,c,q,()):=by
 intro k
 induction k with
 |zero=>intro t i _ _ h;omega
 |succ k ih=>
  intro t i ht hi' hk
  unfold gW
  rw[aM]
  generalize hr:aW _ k=r1
  replace hr:gW N self k=r1:=hr
  simp only[hr] at ih
  cases t with
  |nil=>
   cases dC ht hi'
   simp only[bI (Nat.lt_irrefl _),cond_false,List.all_nil,Bool.true_eq_false,if_false,oL,jn,xC]
   by_cases h1:c.kind=1
   ·rw[if_pos h1,decide_eq_true h1,cond_true]
    by_cases h0:wd=0
    ·rw[if_pos h0,decide_eq_true h0];simp
    ·rw[if_neg h0,decide_eq_false h0];simp
   ·rw[if_neg h1,decide_eq_false h1,cond_false]
  |cons x t=>
   obtain⟨h1,h2,h3⟩:=dB ht
   simp only[bH h3,cond_true,aR,h1,Option.bind_some,HR N (by omega),List.all_cons]
   by_cases hw:within x.key lo (some hi)=true
   case neg=>rw[Bool.not_eq_true] at hw;simp[hw]
   case pos=>
    simp only[hw,Bool.not_true,cond_false,aJ (show i<4611686018427387904 by omega),Bool.true_and]
    exact ih t (i+1) h2 (by omega) (by simp only[List.length_cons] at hk;omega)
theorem Zm{f:List aA}(hf:HS f):∀(m N:Nat),m+1003<=N->∀(p dp:Int)(lo:Key)(hi:Key)(wd:Int)(q:Met)(r:Bool×Int×Met),(0<=p/\p<64)->QOk q->0<dp/\dp+m<=1000->gJ f m p dp lo (some hi) wd q=some r->
  vQ N p dp lo hi f wd q=some (r.1,f,r.2.1,r.2.2)
 |0,_,_,_,_,_,_,_,_,_,_,_,_,h=>by cases h
 |m+1,0,h,_,_,_,_,_,_,_,_,_,_,_=>by omega
 |m+1,N+1,hN,p,dp,lo,hi,wd,q,r,hp,hq,hdp,hr=>by
  have hcp:=hf.2 p hp
  have hfc:=bS hcp
  show eV N (AN _ N) p dp lo hi f wd q=_
  unfold eV
  unfold gJ at hr
  rw[S6 hp]
  simp only[Option.bind_some]
  split at hr
  ·rename_i hm
   rw[hm,cond_true];cases hr;rfl
  ·rename_i hm
   have hm':kA false q p=false:=by simpa using hm
   rw[hm',cond_false,WB hq hp]
   have hq':=hq.cons hm' hp
   have hi64:idx f p=some (pg f p):=gI ⟨hp.1,by rw[hf.1];exact hp.2⟩
   simp only[Option.bind_some,hi64,jn,Qr,aao,Qq N (by omega) hcp,lt2]
   have hrun:(if((pg f p).rows.all λr=>within r.key lo (some hi))=false then some (false,wd,(p,true)::q) else if(pg f p).kind=1 then some (decide ((if wd=0 then dp else wd)=dp),if wd=0 then dp else wd,(p,true)::q) else pT (λp a b=>gJ f m p (dp+1) a b) (some hi) lo true (pg f p).kids wd ((p,true)::q))=some r->
     gW N (AN (λn self x=>eV n self x.1 x.2.1 x.2.2.1 x.2.2.2.1 x.2.2.2.2.1 x.2.2.2.2.2.1 x.2.2.2.2.2.2.1) N) N (dp,hi,(pg f p).rows,((pg f p).rows.length:Int),0,f,wd,lo,pg f p,(p,true)::q,())=some (r.1,f,r.2.1,r.2.2):=by
    intro hr
    refine(l1S f N (by omega) dp lo hi (pg f p) hfc.rows wd ((p,true)::q) (AN (λn self x=>eV n self x.1 x.2.1 x.2.2.1 x.2.2.2.1 x.2.2.2.2.1 x.2.2.2.2.2.1 x.2.2.2.2.2.2.1) N) N (pg f p).rows 0 rfl (Nat.zero_le _) (by have:=hfc.rows;omega)).trans ?_
    split at hr
    ·rename_i hw;rw[if_pos hw];cases hr;rfl
    ·rename_i hw
     rw[if_neg hw]
     split at hr
     ·rename_i h1;rw[if_pos h1];cases hr;rfl
     ·rename_i h1
      rw[if_neg h1]
      exact l3S f hf N m (by omega) dp (by omega) lo hi (pg f p) (F6 hf hp) hfc.kids (AN (λn self x=>eV n self x.1 x.2.1 x.2.2.1 x.2.2.2.1 x.2.2.2.2.1 x.2.2.2.2.2.1 x.2.2.2.2.2.2.1) N) (λp' a b wd' q' r' hp' hq' h'=>Zm hf m N (by omega) p' (dp+1) a b wd' q' r' hp' hq' (by omega) h') N (pg f p).kids 0 wd ((p,true)::q) r rfl (Nat.zero_le _) (by have:=hfc.kids;omega) hq' hr
   split at hr
   ·rename_i hk
    cases hr
    rcases hk with hk|⟨hk1,hk2⟩
    ·rw[decide_eq_true hk];rfl
    ·rw[decide_eq_false hk1,decide_eq_true hk2]
     cases decide ((pg f p).kind=0)<;>rfl
   ·rename_i hk
    rw[decide_eq_false (λe=>hk (Or.inl e)),cond_false]
    by_cases h0:p=0
    ·rw[decide_eq_true h0]
     exact hrun hr
    ·rw[decide_eq_false h0,decide_eq_false (λe=>hk (Or.inr ⟨h0,e⟩))]
     exact hrun hr
theorem l3N(f:List aA)(hf:HS f)(N m:Nat)(hN:m+1003<=N)(dp:Int)(hdp:0<dp/\dp+m+1<=1000)(lo:Key)(c:aA)(hc:∀k∈c.kids,0<=k.page/\k.page<64)(hl:c.kids.length<=1000)
  (self:Int×Int×Key×(List aA)×Int×(List (Int×Bool))×Unit->Option (Bool×(List aA)×Int×(List (Int×Bool))))
  (hs:∀p a wd q r,(0<=p/\p<64)->QOk q->gJ f m p (dp+1) a none wd q=some r->self (p,dp+1,a,f,wd,q,())=some (r.1,f,r.2.1,r.2.2)):
  ∀(k:Nat)(t:List Kid)(i:Nat)(wd:Int)(q:Met)(r:Bool×Int×Met),c.kids.drop i=t->i<=c.kids.length->t.length<k->QOk q->pT (λp a b=>gJ f m p (dp+1) a b) none lo (decide (i=0)) t wd q=some r->
  eI N self k (dp,c.kids,(c.kids.length:Int),(i:Int),f,wd,lo,c,q,())=some (r.1,f,r.2.1,r.2.2):=by
 intro k
 induction k with
 |zero=>intro t i wd q r _ _ h;omega
 |succ k ih=>
  intro t i wd q r ht hi' hk hq hr
  unfold eI
  simp only[aW]
  cases t with
  |nil=>
   cases dC ht hi'
   simp only[bI (Nat.lt_irrefl _),cond_false]
   cases hr;rfl
  |cons x t=>
   obtain⟨h1,h2,h3⟩:=dB ht
   simp only[bH h3,cond_true,aR,h1,Option.bind_some,jn]
   have hxm:x∈c.kids:=List.mem_of_getElem? h1
   have hstep:∀fr r,(if(!decide (i=0)&& !within x.least lo none)=true then some (false,wd,q) else(gJ f m x.page (dp+1) (if(decide (i=0))=true then lo else x.least) (nxt none t) wd q).bind λy=>if y.1=false then some (false,y.2.1,y.2.2) else pT (λp a b=>gJ f m p (dp+1) a b) none lo false t y.2.1 y.2.2)=some r->fr=(if(decide (i=0))=true then lo else x.least)->(!decide (i=0)&& !within x.least lo none)=false->
     jH N self (eI N self k) (dp,(i:Int),c.kids,(c.kids.length:Int),(i:Int),f,wd,lo,c,x,fr,q,())=some (r.1,f,r.2.1,r.2.2):=by
    intro fr r hr hfr hw
    rw[if_neg (by rw[hw];simp)] at hr
    cases hy:gJ f m x.page (dp+1) (if(decide (i=0))=true then lo else x.least) (nxt none t) wd q with
    |none=>rw[hy] at hr;cases hr
    |some y=>
     rw[hy] at hr
     simp only[Option.bind_some] at hr
     rw[<-hfr] at hy
     have hq':=((Aa hf m (dp+1)) x.page fr (nxt none t) wd q (hc x hxm) hq).1 y hy
     unfold jH
     simp only[aJ (show i<4611686018427387904 by omega),cN (show-9223372036854775808<=dp+1/\dp+1<=9223372036854775807 by omega),aR,jn]
     cases t with
     |nil=>
      have e:i+1=c.kids.length:=dC h2 (by omega)
      simp only[bI (show ¬i+1<c.kids.length by omega),cond_false]
      simp only[hs x.page fr wd q y (hc x hxm) hq hy,Option.bind_some]
      cases hb:y.1 with
      |false=>
       rw[hb] at hr;simp only[if_true] at hr;cases hr;rfl
      |true=>
       rw[hb] at hr;simp only[Bool.true_eq_false,if_false] at hr
       simp only[Bool.not_true,cond_false]
       exact ih _ (i+1) _ _ r h2 (by omega) (by simp only[List.length_cons] at hk|-;omega) hq'.1 (by rw[decide_eq_false (by omega:¬i+1=0)];exact hr)
     |cons k2 t2=>
      obtain⟨g1,g2,g3⟩:=dB h2
      simp only[bH g3,cond_true,g1,Option.bind_some]
      simp only[Zm hf m N (by omega) x.page (dp+1) fr k2.least wd q y (hc x hxm) hq (by omega) hy,Option.bind_some]
      cases hb:y.1 with
      |false=>
       rw[hb] at hr;simp only[if_true] at hr;cases hr;rfl
      |true=>
       rw[hb] at hr;simp only[Bool.true_eq_false,if_false] at hr
       simp only[Bool.not_true,cond_false]
       exact ih _ (i+1) _ _ r h2 (by omega) (by simp only[List.length_cons] at hk|-;omega) hq'.1 (by rw[decide_eq_false (by omega:¬i+1=0)];exact hr)
   unfold pT at hr
   by_cases h0:i=0
   ·subst h0
    rw[decide_eq_false (show ¬((0:Nat):Int)>0 by omega),cond_false]
    exact hstep lo r hr (by simp) (by simp)
   ·rw[decide_eq_true (show((i:Nat):Int)>0 by omega),cond_true,J4 N (by omega)]
    simp only[Option.bind_some]
    cases hw:within x.least lo none with
    |false=>
     rw[hw,decide_eq_false h0] at hr
     simp only[Bool.not_false,Bool.and_self,if_true] at hr
     cases hr;rfl
    |true=>
     simp only[Bool.not_true,cond_false]
     exact hstep x.least r hr (by simp[h0]) (by simp[hw])
theorem l1N(f:List aA)(N:Nat)(hN:1003<=N)(dp:Int)(lo:Key)(c:aA)(hl:c.rows.length<=1000)(wd:Int)(q:Met)
  (self:Int×Int×Key×(List aA)×Int×(List (Int×Bool))×Unit->Option (Bool×(List aA)×Int×(List (Int×Bool)))):
  ∀(k:Nat)(t:List Row)(i:Nat),c.rows.drop i=t->i<=c.rows.length->t.length<k->
  eJ N self k (dp,c.rows,(c.rows.length:Int),(i:Int),f,wd,lo,c,q,())=if(t.all λr=>within r.key lo none)=false then some (false,f,wd,q) else
   if c.kind=1 then some (decide ((if wd=0 then dp else wd)=dp),f,(if wd=0 then dp else wd),q) else eI N self N (dp,c.kids,(c.kids.length:Int),0,f,wd,lo,c,q,()):=by
 intro k
 induction k with
 |zero=>intro t i _ _ h;omega
 |succ k ih=>
  intro t i ht hi' hk
  unfold eJ
  rw[aM]
  generalize hr:aW _ k=r1
  replace hr:eJ N self k=r1:=hr
  simp only[hr] at ih
  cases t with
  |nil=>
   cases dC ht hi'
   simp only[bI (Nat.lt_irrefl _),cond_false,List.all_nil,Bool.true_eq_false,if_false,oL,jn,oU]
   by_cases h1:c.kind=1
   ·rw[if_pos h1,decide_eq_true h1,cond_true]
    by_cases h0:wd=0
    ·rw[if_pos h0,decide_eq_true h0];simp
    ·rw[if_neg h0,decide_eq_false h0];simp
   ·rw[if_neg h1,decide_eq_false h1,cond_false]
  |cons x t=>
   obtain⟨h1,h2,h3⟩:=dB ht
   simp only[bH h3,cond_true,aR,h1,Option.bind_some,J4 N (by omega),List.all_cons]
   by_cases hw:within x.key lo none=true
   case neg=>rw[Bool.not_eq_true] at hw;simp[hw]
   case pos=>
    simp only[hw,Bool.not_true,cond_false,aJ (show i<4611686018427387904 by omega),Bool.true_and]
    exact ih t (i+1) h2 (by omega) (by simp only[List.length_cons] at hk;omega)
theorem Zn{f:List aA}(hf:HS f):∀(m N:Nat),m+1003<=N->∀(p dp:Int)(lo:Key)(wd:Int)(q:Met)(r:Bool×Int×Met),(0<=p/\p<64)->QOk q->0<dp/\dp+m<=1000->gJ f m p dp lo none wd q=some r->
  iO N p dp lo f wd q=some (r.1,f,r.2.1,r.2.2)
 |0,_,_,_,_,_,_,_,_,_,_,_,h=>by cases h
 |m+1,0,h,_,_,_,_,_,_,_,_,_,_=>by omega
 |m+1,N+1,hN,p,dp,lo,wd,q,r,hp,hq,hdp,hr=>by
  have hcp:=hf.2 p hp
  have hfc:=bS hcp
  show cP N (AN _ N) p dp lo f wd q=_
  unfold cP
  unfold gJ at hr
  rw[S6 hp]
  simp only[Option.bind_some]
  split at hr
  ·rename_i hm
   rw[hm,cond_true];cases hr;rfl
  ·rename_i hm
   have hm':kA false q p=false:=by simpa using hm
   rw[hm',cond_false,WB hq hp]
   have hq':=hq.cons hm' hp
   have hi64:idx f p=some (pg f p):=gI ⟨hp.1,by rw[hf.1];exact hp.2⟩
   simp only[Option.bind_some,hi64,jn,Qr,aao,Qq N (by omega) hcp,lt2]
   have hrun:(if((pg f p).rows.all λr=>within r.key lo none)=false then some (false,wd,(p,true)::q) else if(pg f p).kind=1 then some (decide ((if wd=0 then dp else wd)=dp),if wd=0 then dp else wd,(p,true)::q) else pT (λp a b=>gJ f m p (dp+1) a b) none lo true (pg f p).kids wd ((p,true)::q))=some r->
     eJ N (AN (λn self x=>cP n self x.1 x.2.1 x.2.2.1 x.2.2.2.1 x.2.2.2.2.1 x.2.2.2.2.2.1) N) N (dp,(pg f p).rows,((pg f p).rows.length:Int),0,f,wd,lo,pg f p,(p,true)::q,())=some (r.1,f,r.2.1,r.2.2):=by
    intro hr
    refine(l1N f N (by omega) dp lo (pg f p) hfc.rows wd ((p,true)::q) (AN (λn self x=>cP n self x.1 x.2.1 x.2.2.1 x.2.2.2.1 x.2.2.2.2.1 x.2.2.2.2.2.1) N) N (pg f p).rows 0 rfl (Nat.zero_le _) (by have:=hfc.rows;omega)).trans ?_
    split at hr
    ·rename_i hw;rw[if_pos hw];cases hr;rfl
    ·rename_i hw
     rw[if_neg hw]
     split at hr
     ·rename_i h1;rw[if_pos h1];cases hr;rfl
     ·rename_i h1
      rw[if_neg h1]
      exact l3N f hf N m (by omega) dp (by omega) lo (pg f p) (F6 hf hp) hfc.kids (AN (λn self x=>cP n self x.1 x.2.1 x.2.2.1 x.2.2.2.1 x.2.2.2.2.1 x.2.2.2.2.2.1) N) (λp' a wd' q' r' hp' hq' h'=>Zn hf m N (by omega) p' (dp+1) a wd' q' r' hp' hq' (by omega) h') N (pg f p).kids 0 wd ((p,true)::q) r rfl (Nat.zero_le _) (by have:=hfc.kids;omega) hq' hr
   split at hr
   ·rename_i hk
    cases hr
    rcases hk with hk|⟨hk1,hk2⟩
    ·rw[decide_eq_true hk];rfl
    ·rw[decide_eq_false hk1,decide_eq_true hk2]
     cases decide ((pg f p).kind=0)<;>rfl
   ·rename_i hk
    rw[decide_eq_false (λe=>hk (Or.inl e)),cond_false]
    by_cases h0:p=0
    ·rw[decide_eq_true h0]
     exact hrun hr
    ·rw[decide_eq_false h0,decide_eq_false (λe=>hk (Or.inr ⟨h0,e⟩))]
     exact hrun hr
end Go.Proofs.YtlcmdgpjiendmaaGreat
namespace Go.Proofs.YtlcmdgpjiendmaaGreat
open Go.Bur
set_option linter.unusedSimpArgs false
set_option linter.unusedVariables false
set_option maxRecDepth 100000
def marks(l:List Int)(q:Met):Met:=(l.map λx=>(x,true)).reverse++q
theorem MG{q:Met}:marks [] q=q:=rfl
theorem AU{x:Int}{l:List Int}{q:Met}:marks (x::l) q=marks l ((x,true)::q):=by simp[marks]
theorem MH{a b:List Int}{q:Met}:marks (a++b) q=marks b (marks a q):=by simp[marks]
theorem Ui{l:List Int}{q:Met}:(marks l q).map Prod.fst=l.reverse++q.map Prod.fst:=by
 simp[marks,List.map_reverse,Function.comp_def]
theorem EV{l:List Int}{q:Met}{x:Int}(hq:∀p∈q,p.2=true):kA false (marks l q) x=(decide (x∈l)||kA false q x):=by
 induction l generalizing q with
 |nil=>simp[MG]
 |cons y l ih=>
  rw[AU,ih (λp hp=>by rcases List.mem_cons.1 hp with rfl|hp;rfl;exact hq p hp),G3]
  by_cases h1:x=y
  ·subst h1;simp
  ·have:¬y=x:=λe=>h1 e.symm
   simp[h1,this]
def WC(f:List aA)(F:Int->Key->Option Key->Int->Met->Option (Bool×Int×Met))(dp:Int):Prop:=
 ∀p a b wd q w q',(0<=p/\p<64)->QOk q->F p a b wd q=some (true,w,q')->∃d:Nat,1<=d/\sub f d p a b/\w=dp+d-1/\(wd=0\/wd=w)/\q'=marks (pgs f d p) q
theorem HT{f:List aA}{F:Int->Key->Option Key->Int->Met->Option (Bool×Int×Met)}{dp:Int}(hdp:0<dp){m:Nat}(hI:aan F m)(hF:WC f F dp){hi:Option Key}{lo:Key}:
  ∀(l:List Kid)(fst:Bool)(wd:Int)(q:Met)(w:Int)(q':Met)(k:Kid)(t:List Kid),l=k::t->(∀x∈l,0<=x.page/\x.page<64)->QOk q->pT F hi lo fst l wd q=some (true,w,q')->
  ∃d:Nat,1<=d/\w=dp+d-1/\(wd=0\/wd=w)/\cJ (sub f d) hi (if fst=true then lo else k.least) l/\(fst=false->within k.least lo hi=true)/\(∀x∈t,within x.least lo hi=true)/\q'=marks (l.flatMap λk=>pgs f d k.page) q
 |[],_,_,_,_,_,k,t,e,_,_,_=>by cases e
 |k0::t0,fst,wd,q,w,q',k,t,e,hl,hq,h=>by
  obtain⟨rfl,rfl⟩:=List.cons.inj e.symm;clear e
  have hk:=hl k (List.mem_cons_self ..)
  unfold pT at h
  split at h
  ·cases h
  ·rename_i hw
   cases hy:F k.page (if fst=true then lo else k.least) (nxt hi t) wd q with
   |none=>rw[hy] at h;cases h
   |some y=>
    rw[hy] at h
    simp only[Option.bind_some] at h
    obtain⟨b,w1,q1⟩:=y
    cases b with
    |false=>simp only[if_true] at h;cases h
    |true=>
     simp only[Bool.true_eq_false,if_false] at h
     have hq1:=((hI k.page _ _ wd q hk hq).1 _ hy).1
     obtain⟨d,d1,d2,d3,d4,d5⟩:=hF k.page _ _ wd q w1 q1 hk hq hy
     have hw':fst=false->within k.least lo hi=true:=λe=>by
      subst e
      cases hh:within k.least lo hi with
      |true=>rfl
      |false=>rw[hh] at hw;simp at hw
     cases t with
     |nil=>
      unfold pT at h
      cases h
      refine⟨d,d1,d3,d4, ?_,hw',by simp, ?_⟩
      ·exact d2
      ·rw[List.flatMap_cons,List.flatMap_nil,List.append_nil];exact d5
     |cons k2 t2=>
      obtain⟨d',e1,e2,e3,e4,e5,e6,e7⟩:=HT hdp hI hF (k2::t2) false w1 q1 w q' k2 t2 rfl (λx hx=>hl x (List.mem_cons_of_mem _ hx)) hq1 h
      have hww:w1=w:=by rcases e3 with e3|e3;omega;exact e3
      obtain rfl:d=d':=by omega
      refine⟨d,d1,e2,hww▸d4,⟨d2,e4⟩,hw',λx hx=> ?_, ?_⟩
      ·rcases List.mem_cons.1 hx with rfl|hx
       ·exact e5 rfl
       ·exact e6 x hx
      ·rw[List.flatMap_cons,MH,<-d5];exact e7
theorem J7{f:List aA}(hf:HS f):∀(m:Nat)(dp:Int),0<dp->WC f (λp a b=>gJ f m p dp a b) dp
 |0,dp,hdp,p,a,b,wd,q,w,q',hp,hq,h=>by cases h
 |m+1,dp,hdp,p,a,b,wd,q,w,q',hp,hq,h=>by
  replace h:gJ f (m+1) p dp a b wd q=some (true,w,q'):=h
  unfold gJ at h
  split at h
  ·cases h
  ·rename_i hm
   have hm':kA false q p=false:=by simpa using hm
   split at h
   ·cases h
   ·rename_i hk
    split at h
    ·cases h
    ·rename_i hr
     have hsz:p≠0->2<=aD (pg f p):=λe=>by
      by_cases hs:aD (pg f p)<2
      ·exact absurd (Or.inr ⟨e,hs⟩) hk
      ·omega
     have hrows:∀r∈(pg f p).rows,within r.key a b=true:=by
      have:((pg f p).rows.all λr=>within r.key a b)=true:=by simpa using hr
      exact List.all_eq_true.1 this
     split at h
     ·rename_i h1
      rcases(gU _).1 (hf.2 p hp) with e|⟨l,e,hl⟩|⟨l,e,hl⟩
      ·rw[e] at h1;cases h1
      ·injection h with h;injection h with h2 h3;injection h3 with h3 h4
       have h2':(if wd=0 then dp else wd)=dp:=of_decide_eq_true h2
       refine⟨1,Nat.le_refl _,⟨hp,hsz,l,e,hl,by rw[e] at hrows;exact hrows⟩,by omega, ?_, ?_⟩
       ·by_cases h0:wd=0
        ·exact Or.inl h0
        ·rw[if_neg h0] at h3;exact Or.inr h3
       ·rw[pgs,e];exact h4.symm
      ·rw[e] at h1;cases h1
     ·rename_i h1
      rcases(gU _).1 (hf.2 p hp) with e|⟨l,e,hl⟩|⟨l,e,hl⟩
      ·rw[e] at hk;exact absurd (Or.inl rfl) hk
      ·rw[e] at h1;exact absurd rfl h1
      ·have hq':=hq.cons hm' hp
       obtain⟨k,t,el⟩:∃k t,l=k::t:=by
        match l,hl.two with
        |k::t,_=>exact⟨k,t,rfl⟩
       have hkids:(pg f p).kids=k::t:=by rw[e];exact el
       obtain⟨d,d1,d2,d3,d4,d5,d6,d7⟩:=HT (by omega) (Aa hf m (dp+1)) (J7 hf m (dp+1) (by omega)) (pg f p).kids true wd ((p,true)::q) w q' k t hkids (F6 hf hp) hq' h
       obtain⟨d0,rfl⟩:∃d0,d=d0+1:=⟨d-1,by omega⟩
       refine⟨d0+2,by omega,⟨hp,hsz,l,e,hl, ?_, ?_⟩,by omega,d3, ?_⟩
       ·rw[el];exact d6
       ·rw[hkids,<-el] at d4;exact d4
       ·rw[pgs,AU];exact d7
def Zo(f:List aA)(d:Nat)(F:Int->Key->Option Key->Int->Met->Option (Bool×Int×Met))(dp:Int):Prop:=
 ∀p a b wd q,sub f d p a b->(pgs f d p).Nodup->(∀x∈pgs f d p,kA false q x=false)->(∀z∈q,z.2=true)->(wd=0\/wd=dp+d-1)->F p a b wd q=some (true,dp+d-1,marks (pgs f d p) q)
theorem WD{l:List Int}{q:Met}(h:∀z∈q,z.2=true):∀z∈marks l q,z.2=true:=λz hz=>by
 rcases List.mem_append.1 hz with hz|hz
 ·obtain⟨x,_,rfl⟩:=List.mem_map.1 (List.mem_reverse.1 hz);rfl
 ·exact h z hz
theorem J8{f:List aA}{d:Nat}{F:Int->Key->Option Key->Int->Met->Option (Bool×Int×Met)}{dp:Int}(hF:Zo f d F dp){hi:Option Key}{lo:Key}:
  ∀(l:List Kid)(fst:Bool)(wd:Int)(q:Met)(k:Kid)(t:List Kid),l=k::t->cJ (sub f d) hi (if fst=true then lo else k.least) l->(fst=false->within k.least lo hi=true)->(∀x∈t,within x.least lo hi=true)->
  (l.flatMap λk=>pgs f d k.page).Nodup->(∀x∈l.flatMap λk=>pgs f d k.page,kA false q x=false)->(∀z∈q,z.2=true)->(wd=0\/wd=dp+d-1)->pT F hi lo fst l wd q=some (true,dp+d-1,marks (l.flatMap λk=>pgs f d k.page) q)
 |[],_,_,_,k,t,e,_,_,_,_,_,_,_=>by cases e
 |k0::t0,fst,wd,q,k,t,e,h1,h2,h3,h4,h5,h6,h7=>by
  obtain⟨rfl,rfl⟩:=List.cons.inj e.symm;clear e
  rw[List.flatMap_cons] at h4 h5
  obtain⟨n1,n2,n3⟩:=List.nodup_append.1 h4
  obtain⟨k1,k2⟩:=Cz.1 h1
  have hy:=hF k.page _ _ wd q k1 n1 (λx hx=>h5 x (List.mem_append_left _ hx)) h6 h7
  unfold pT
  rw[if_neg (by cases fst with|true=>simp|false=>simp[h2 rfl]),hy]
  simp only[Option.bind_some,Bool.true_eq_false,if_false]
  cases t with
  |nil=>unfold pT;rw[List.flatMap_cons,List.flatMap_nil,List.append_nil]
  |cons k' t'=>
   have ih:=J8 hF (k'::t') false (dp+d-1) (marks (pgs f d k.page) q) k' t' rfl (k2 _ _ rfl) (λ_=>h3 k' (List.mem_cons_self ..)) (λx hx=>h3 x (List.mem_cons_of_mem _ hx)) n2 (λx hx=>by
    rw[EV h6,h5 x (List.mem_append_right _ hx),Bool.or_false,decide_eq_false_iff_not]
    exact λhm=>n3 x hm x hx rfl) (WD h6) (Or.inr rfl)
   rw[ih,List.flatMap_cons (x:=k),MH]
theorem MI{f:List aA}:∀(d m:Nat)(dp:Int),d<=m->0<dp->Zo f d (λp a b=>gJ f m p dp a b) dp
 |0,_,_,_,_,_,_,_,_,_,h,_,_,_,_=>h.elim
 |d+1,0,_,h,_,_,_,_,_,_,_,_,_,_,_=>by omega
 |1,m+1,dp,hm,hdp,p,a,b,wd,q,h,h1,h2,h3,h4=>by
  obtain⟨g1,g2,l,g3,g4,g5⟩:=h
  show gJ f (m+1) p dp a b wd q=_
  have hp0:=h2 p cG
  have hpg:pgs f 1 p=[p]:=by rw[pgs,g3];rfl
  have hnk:¬((pg f p).kind=0\/(p≠0/\aD (pg f p)<2)):=by
   rintro(h|⟨h,h'⟩)
   ·rw[g3] at h;cases h
   ·have:=g2 h;omega
  have hrows:¬((pg f p).rows.all λr=>within r.key a b)=false:=by
   rw[Bool.not_eq_false,List.all_eq_true,g3];exact g5
  have hk1:(pg f p).kind=1:=by rw[g3]
  have hw:(if wd=0 then dp else wd)=dp:=by
   by_cases h0:wd=0
   ·rw[if_pos h0]
   ·rw[if_neg h0];rcases h4 with h4|h4<;>omega
  unfold gJ
  rw[if_neg (by rw[hp0];simp),if_neg hnk,if_neg hrows,if_pos hk1,hw,hpg,AU,MG]
  simp only[decide_true,Option.some.injEq,Prod.mk.injEq,and_true,true_and]
  omega
 |d+2,m+1,dp,hm,hdp,p,a,b,wd,q,h,h1,h2,h3,h4=>by
  obtain⟨g1,g2,l,g3,g4,g5,g6⟩:=h
  show gJ f (m+1) p dp a b wd q=_
  have hp0:=h2 p cG
  have hpg:pgs f (d+2) p=p::l.flatMap λk=>pgs f (d+1) k.page:=by rw[pgs,g3]
  rw[hpg] at h1 h2
  have hnk:¬((pg f p).kind=0\/(p≠0/\aD (pg f p)<2)):=by
   rintro(h|⟨h,h'⟩)
   ·rw[g3] at h;cases h
   ·have:=g2 h;omega
  have hrows:¬((pg f p).rows.all λr=>within r.key a b)=false:=by
   rw[Bool.not_eq_false,List.all_eq_true,g3];simp
  have hk1:¬(pg f p).kind=1:=by rw[g3];simp
  have hkids:(pg f p).kids=l:=by rw[g3]
  obtain⟨n1,n2⟩:=List.nodup_cons.1 h1
  obtain⟨k,t,el⟩:∃k t,l=k::t:=by
   match l,g4.two with
   |k::t,_=>exact⟨k,t,rfl⟩
  have ih:=MI (f:=f) (d+1) m (dp+1) (by omega) (by omega)
  have hx:=J8 (f:=f) (d:=d+1) ih (hi:=b) (lo:=a) l true wd ((p,true)::q) k t el (by simpa using g6) (λe=>by cases e) (λx hx=>g5 x (by rw[el];exact hx)) n2 (λx hx=>by
   rw[G3,h2 x (List.mem_cons_of_mem _ hx),Bool.or_false,decide_eq_false_iff_not]
   rintro rfl;exact n1 hx) (λz hz=>by rcases List.mem_cons.1 hz with rfl|hz;rfl;exact h3 z hz) (by rcases h4 with h4|h4;exact Or.inl h4;right;omega)
  unfold gJ
  rw[if_neg (by rw[hp0];simp),if_neg hnk,if_neg hrows,if_neg hk1,hkids,hpg,AU]
  refine hx.trans ?_
  simp only[Option.some.injEq,Prod.mk.injEq,and_true,true_and]
  omega
end Go.Proofs.YtlcmdgpjiendmaaGreat
namespace Go.Proofs.YtlcmdgpjiendmaaGreat
open Go.Bur
set_option linter.unusedSimpArgs false
set_option linter.unusedVariables false
set_option maxRecDepth 100000
theorem G5{f:List aA}{i:Nat}{c:aA}(h:f[i]? =some c):pg f (i:Int)=c:=by unfold pg;rw[aR,h];rfl
theorem WE{f:List aA}{n:Int}(h:0<=n/\n<f.length):pg f n∈f:=(VW (gI h)).2.2
theorem Om{f:List aA}{c:aA}(h:c∈f):∃n:Int,(0<=n/\n<f.length)/\pg f n=c:=by
 obtain⟨i,hi,e⟩:=List.mem_iff_getElem.1 h
 exact⟨(i:Int),⟨by omega,by omega⟩,G5 (by rw[get_some hi,e])⟩
theorem Yz(n:Nat)(hn:1003<=n)(f:List aA)(hl:f.length<=1000)(hc:∀c∈f,dS c):cW n f=some (f.any λc=> !aV c):=by
 have key:∀(k:Nat)(t:List aA)(i:Nat),f.drop i=t->i<=f.length->t.length<k->∃v,cV n k (f,(f.length:Int),(i:Int),())=some v/\decide (v>=0)=t.any λc=> !aV c:=by
  intro k
  induction k with
  |zero=>intro t i _ _ h;omega
  |succ k ih=>
   intro t i ht hi hk
   unfold cV
   rw[aM]
   generalize hr:aW _ k=r1
   replace hr:cV n k=r1:=hr
   simp only[hr] at ih
   cases t with
   |nil=>
    cases dC ht hi
    simp only[bI (Nat.lt_irrefl _),cond_false,List.any_nil]
    exact⟨-1,rfl,by decide⟩
   |cons x t=>
    obtain⟨h1,h2,h3⟩:=dB ht
    have hx:x∈f:=List.mem_of_getElem? h1
    have e:xE n x=some (!aV x):=by
     unfold xE;rw[wM n hn x (hc x hx)]
     cases aV x<;>rfl
    simp only[bH h3,cond_true,aR,h1,Option.bind_some,e,List.any_cons]
    cases hb:aV x with
    |false=>exact⟨(i:Int),rfl,by simp⟩
    |true=>
     simp only[Bool.not_true,cond_false,Bool.false_or,aJ (show i<4611686018427387904 by omega)]
     exact ih t (i+1) h2 (by omega) (by simp only[List.length_cons] at hk;omega)
 obtain⟨v,h1,h2⟩:=key n f 0 rfl (Nat.zero_le _) (by omega)
 unfold cW fK
 rw[show((0:Int))=((0:Nat):Int) from rfl,h1]
 simp only[Option.bind_some]
 exact congrArg some h2
theorem WG(n:Nat)(f:List aA)(hl:f.length<=1000)(q:Met)(w:Int):∀(k:Nat)(t:List aA)(i:Nat),f.drop i=t->i<=f.length->t.length<k->
  uH n k (f,(f.length:Int),(i:Int),f,w,q,())=some (cI (λj c=>kA false q (j:Int)||decide (c.kind=0)) i t,f,w,q):=by
 intro k
 induction k with
 |zero=>intro t i _ _ h;omega
 |succ k ih=>
  intro t i ht hi hk
  unfold uH
  rw[aM]
  generalize hr:aW _ k=r1
  replace hr:uH n k=r1:=hr
  simp only[hr] at ih
  cases t with
  |nil=>
   cases dC ht hi
   simp only[bI (Nat.lt_irrefl _),cond_false];rfl
  |cons x t=>
   obtain⟨h1,h2,h3⟩:=dB ht
   have hkey:oA .i64 (i:Int)=true:=by
    have e1:IntKind.i64.min= -9223372036854775808:=rfl
    have e2:IntKind.i64.max=9223372036854775807:=rfl
    exact GB ⟨by omega,by omega⟩
   have hm:oB .i64 false q (i:Int)=some (kA false q (i:Int)):=by unfold oB;rw[hkey]
   simp only[bH h3,cond_true,aR,h1,Option.bind_some,hm,jn,aao,cI,aJ (show i<4611686018427387904 by omega),ih t (i+1) h2 (by omega) (by simp only[List.length_cons] at hk;omega)]
   cases kA false q (i:Int)<;>cases decide (x.kind=0)<;>rfl
theorem xP{α:Type}{p:Nat->α->Bool}:∀(l:List α)(i:Nat),cI p i l=true↔∀j x,l[j]? =some x->p (i+j) x=true
 |[],i=>by simp[cI]
 |y::t,i=>by
  simp only[cI,Bool.and_eq_true,xP t (i+1)]
  constructor
  ·rintro⟨h1,h2⟩ j x hx
   cases j with
   |zero=>cases hx;exact h1
   |succ j=>have:=h2 j x hx;rw[show i+(j+1)=i+1+j by omega];exact this
  ·intro h
   refine⟨h 0 y rfl,λj x hx=> ?_⟩
   have:=h (j+1) x hx
   rw[show i+1+j=i+(j+1) by omega];exact this
theorem YA(n:Nat)(hn:2000<=n)(f:List aA)(hl:f.length<=1000)(hc:∀c∈f,dS c):(∀d,Good f d->qJ n ⟨f⟩=some (true,f,(d:Int),marks (pgs f d 0) []))/\((¬ ∃d,Good f d)->∃x,qJ n ⟨f⟩=some (false,x)):=by
 have hlen:((f.length:Int) !=64)= !decide (f.length=64):=by
  rw[bne,oL];congr 1;exact decide_eq_decide.2 (by omega)
 unfold qJ
 simp only[hlen,Yz n (by omega) f hl hc]
 by_cases h64:f.length=64
 case neg=>
  refine⟨λd hg=>absurd hg.len h64,λ_=> ?_⟩
  rw[decide_eq_false h64]
  exact⟨_,rfl⟩
 rw[decide_eq_true h64]
 simp only[Bool.not_true,cond_false,Option.bind_some]
 cases hb:f.any λc=> !aV c with
 |true=>
  refine⟨λd hg=> ?_,λ_=>⟨_,rfl⟩⟩
  obtain⟨c,hc,h⟩:=List.any_eq_true.1 hb
  obtain⟨m,hm,rfl⟩:=Om hc
  rw[hg.ok m ⟨hm.1,by omega⟩] at h
  cases h
 |false=>
  have hf:HS f:=⟨h64,λm hm=>by
   have:=List.any_eq_false.1 hb (pg f m) (WE ⟨hm.1,by omega⟩)
   simpa using this⟩
  simp only[cond_false]
  obtain⟨r,hr⟩:=((Aa hf 65 1) 0 cC none 0 [] (by omega) QOk.nil).2 (by simp)
  replace hr:gJ f 65 0 1 cC none 0 []=some r:=hr
  have htw:=Zn hf 65 n (by omega) 0 1 cC 0 [] r (by omega) QOk.nil (by omega) hr
  rw[show(Key.mk 0 0)=cC from rfl,htw]
  simp only[Option.bind_some]
  have hrun:=WG n f hl r.2.2 r.2.1 n f 0 rfl (Nat.zero_le _) (by omega)
  rw[show((0:Nat):Int)=0 from rfl] at hrun
  have hall:=xP (p:=λj c=>kA false r.2.2 (j:Int)||decide (aA.kind c=0)) f 0
  constructor
  ·intro d hg
   have hw:=MI (f:=f) d 65 1 (by have:=hg.deep;omega) (by omega) 0 cC none 0 [] hg.tree hg.nodup (λx hx=>rfl) (by simp) (Or.inl rfl)
   replace hw:gJ f 65 0 1 cC none 0 []=some (true,1+(d:Int)-1,marks (pgs f d 0) []):=hw
   rw[hr] at hw
   cases Option.some.inj hw
   simp only[Bool.not_true,cond_false]
   rw[hrun,hall.2 λj x hx=> ?_]
   ·show some (true,f,1+(d:Int)-1,marks (pgs f d 0) [])=_
    rw[show 1+(d:Int)-1=d by omega]
   ·simp only[Nat.zero_add,EV (show ∀p∈([]:Met),p.2=true by simp)]
    have hj:j<f.length:=(List.getElem?_eq_some_iff.1 hx).1
    by_cases hm:(j:Int)∈pgs f d 0
    ·rw[decide_eq_true hm];rfl
    ·have:=hg.rest (j:Int) ⟨by omega,by omega⟩ hm
     rw[G5 hx] at this
     rw[decide_eq_true this,Bool.or_true]
  ·intro hng
   obtain⟨b,w,q⟩:=r
   cases b with
   |false=>exact⟨_,rfl⟩
   |true=>
    simp only[Bool.not_true,cond_false]
    rw[hrun]
    obtain⟨d,d1,d2,d3,d4,d5⟩:=J7 hf 65 1 (by omega) 0 cC none 0 [] w q (by omega) QOk.nil hr
    have hq:=((Aa hf 65 1) 0 cC none 0 [] (by omega) QOk.nil).1 _ hr
    cases hall':cI (λj c=>kA false q (j:Int)||decide (aA.kind c=0)) 0 f with
    |false=>exact⟨_,rfl⟩
    |true=>
     refine absurd ⟨d,hf.1,hf.2,d2, ?_,λm hm hnm=> ?_⟩ hng
     ·have:=hq.1.nodup
      simp only[d5,Ui,List.map_nil,List.append_nil] at this
      exact(List.reverse_perm _).nodup_iff.1 this
     ·have hi:m.toNat<f.length:=by omega
      have:=(hall.1 hall') m.toNat f[m.toNat] (get_some hi)
      have em:((m.toNat:Nat):Int)=m:=by omega
      rw[Nat.zero_add,em,d5,EV (by simp),decide_eq_false hnm] at this
      have e2:pg f m=f[m.toNat]:=(congrArg (pg f) em.symm).trans (G5 (get_some hi))
      rw[e2]
      simpa[kA] using this
theorem qZ(n:Nat)(hn:2000<=n){f:List aA}{d:Nat}(hg:Good f d):jI n ⟨f⟩=some 0:=by
 have hc:∀c∈f,dS c:=λc hc=>by obtain⟨m,hm,rfl⟩:=Om hc;exact bS (hg.ok m ⟨hm.1,by have:=hg.len;omega⟩)
 unfold jI
 rw[(YA n hn f (by have:=hg.len;omega) hc).1 d hg];rfl
theorem Uj{f:List aA}{d:Nat}(hg:Good f d):∀c∈f,dS c:=λc hc=>by obtain⟨m,hm,rfl⟩:=Om hc;exact bS (hg.ok m ⟨hm.1,by have:=hg.len;omega⟩)
end Go.Proofs.YtlcmdgpjiendmaaGreat
namespace Go.Proofs.YtlcmdgpjiendmaaGreat
open Go.Bur
set_option linter.unusedSimpArgs false
set_option linter.unusedVariables false
set_option maxRecDepth 100000
theorem vF{a b:Key}:ltK a b=false↔¬(a.table<b.table\/(a.table=b.table/\a.id<b.id)):=by rw[<-Bool.not_eq_true,lO]
theorem Qt{a b c:Key}(h:ltK a b=true)(h2:ltK c b=false):ltK a c=true:=by
 rw[lO] at h|-;rw[vF] at h2;omega
theorem WH{a b c:Key}(h:ltK b a=false)(h2:ltK b c=true):ltK a c=true:=by
 rw[lO] at h2|-;rw[vF] at h;omega
theorem F7{a b c:Key}(h:ltK b a=false)(h2:ltK c b=false):ltK c a=false:=by
 rw[vF] at h h2|-;omega
theorem lt_asymm{a b:Key}(h:ltK a b=true):ltK b a=false:=by
 rw[lO] at h;rw[vF];omega
theorem S7{a b:Key}(h:ltK a b=true):a≠b:=λe=>by rw[e,fO] at h;cases h
theorem within_iff{k lo:Key}{hi:Option Key}:within k lo hi=true↔ltK k lo=false/\∀h,hi=some h->ltK k h=true:=by
 unfold within
 cases hi with
 |none=>simp
 |some h=>simp
theorem Qu(n:Nat)(a b:Key):eH n a b=some (GA a b):=by
 unfold eH
 rw[CZ]
 by_cases h:a=b
 ·subst h;rw[decide_eq_true rfl];simp[GA,FL]
 ·rw[decide_eq_false h,cond_false]
  simp only[jn]
  have hne:a.table≠b.table\/a.id≠b.id:=by
   by_cases h1:a.table=b.table
   ·right;intro h2;obtain⟨a1,a2⟩:=a;obtain⟨b1,b2⟩:=b;simp only at h1 h2;subst h1;subst h2;exact h rfl
   ·exact Or.inl h1
  unfold GA FL
  by_cases h1:a.table<b.table
  ·rw[decide_eq_true h1];simp[h1]
  ·rw[decide_eq_false h1,cond_false,oL]
   by_cases h2:a.table=b.table
   ·rw[decide_eq_true h2,cond_true]
    by_cases h3:a.id<b.id
    ·rw[decide_eq_true h3];simp[h2,h3]
    ·rw[decide_eq_false h3]
     have:a.id>b.id:=by rcases hne with h|h;exact absurd h2 h;omega
     simp[h2,h3,this]
   ·rw[decide_eq_false h2]
    have:a.table>b.table:=by omega
    simp[h1,this]
theorem YB{a b:Key}:decide (GA a b<=0)= !ltK b a:=by
 rw[<-Jf]
 by_cases h:GA a b<=0
 ·rw[decide_eq_true h,decide_eq_false (by omega)];rfl
 ·rw[decide_eq_false h,decide_eq_true (by omega)];rfl
theorem WI{S:Int->Key->Option Key->Prop}{hi:Option Key}{lo:Key}{l1 l2:List Kid}{x:Kid}:cJ S hi lo (l1++x::l2)↔
  (l1=[]->S x.page lo (nxt hi l2))/\(l1≠[]->S x.page x.least (nxt hi l2))/\(l1≠[]->cJ S (some x.least) lo l1)/\(∀y t,l2=y::t->cJ S hi y.least l2):=by
 by_cases h:l1=[]
 ·subst h
  rw[List.nil_append,Cz]
  simp
 ·rw[qY h,Cz]
  simp[h]
  exact⟨fun⟨a,b,c⟩=>⟨b,a,c⟩,fun⟨a,b,c⟩=>⟨b,a,c⟩⟩
def RowsIn(l:List Row)(lo:Key)(hi:Option Key):Prop:=Srt l/\∀r∈l,within r.key lo hi=true
theorem kids_rows{S:Int->Key->Option Key->Prop}{g:Int->List Row}(hS:∀p a b,S p a b->RowsIn (g p) a b){hi:Option Key}:∀{l:List Kid} {lo:Key},cJ S hi lo l->(∀k∈l.tail,within k.least lo hi=true)->l.Pairwise (λa b=>ltK a.least b.least=true)->
  RowsIn (l.flatMap λk=>g k.page) lo hi
 |[],lo,_,_,_=>⟨List.Pairwise.nil,by simp⟩
 |[k],lo,h,_,_=>by
  rw[List.flatMap_cons,List.flatMap_nil,List.append_nil];exact hS _ _ _ h
 |k::k2::t,lo,h,hw,hr=>by
  obtain⟨a1,a2⟩:=hS _ _ _ h.1
  obtain⟨r1,r2⟩:=List.pairwise_cons.1 hr
  have hk2:=within_iff.1 (hw k2 (List.mem_cons_self ..))
  obtain⟨b1,b2⟩:=kids_rows hS h.2 (λx hx=>within_iff.2 ⟨lt_asymm ((List.pairwise_cons.1 r2).1 x hx),(within_iff.1 (hw x (List.mem_cons_of_mem _ hx))).2⟩) r2
  rw[List.flatMap_cons]
  refine⟨List.pairwise_append.2 ⟨a1,b1,λx hx y hy=> ?_⟩,λr hr=> ?_⟩
  ·exact Qt ((within_iff.1 (a2 x hx)).2 _ rfl) (within_iff.1 (b2 y hy)).1
  ·rcases List.mem_append.1 hr with hr|hr
   ·have h1:=within_iff.1 (a2 r hr)
    exact within_iff.2 ⟨h1.1,λh e=>iV (h1.2 _ rfl) (hk2.2 h e)⟩
   ·have h1:=within_iff.1 (b2 r hr)
    exact within_iff.2 ⟨F7 hk2.1 h1.1,h1.2⟩
theorem Ab{f:List aA}:∀{d:Nat} {n:Int} {lo:Key} {hi:Option Key},sub f d n lo hi->RowsIn (rws f d n) lo hi
 |1,n,lo,hi,h=>by
  obtain⟨_,_,l,h3,h4,h5⟩:=h
  have e:rws f 1 n=l:=by rw[rws,h3];simp
  rw[e];exact⟨h4.srt,h5⟩
 |d+2,n,lo,hi,h=>by
  obtain⟨_,_,l,h3,h4,h5,h6⟩:=h
  have e:rws f (d+2) n=l.flatMap λk=>rws f (d+1) k.page:=by rw[rws,h3];rfl
  rw[e];exact kids_rows (λp a b hs=>Ab hs) h6 h5 h4.rise
def cB(l:List Kid)(k:Key):Nat:=(l.tail.takeWhile λy=> !ltK k y.least).length
theorem Qv(k:Key):∀(t:List Kid)(a:Kid),∃l1 x l2,a::t=l1++x::l2/\l1.length=(t.takeWhile λy=> !ltK k y.least).length/\(l1≠[]->ltK k x.least=false)/\∀y t',l2=y::t'->ltK k y.least=true
 |[],a=>⟨[],a,[],rfl,rfl,λh=>absurd rfl h,λy t' h=>by cases h⟩
 |b::t,a=>by
  cases hb:ltK k b.least with
  |true=>exact⟨[],a,b::t,rfl,by simp[List.takeWhile_cons,hb],λh=>absurd rfl h,λy t' h=>by cases h;exact hb⟩
  |false=>
   obtain⟨l1,x,l2,h1,h2,h3,h4⟩:=Qv k t b
   refine⟨a::l1,x,l2,by rw[h1];rfl,by simp[List.takeWhile_cons,hb,h2],λ_=> ?_,h4⟩
   by_cases h:l1=[]
   ·subst h;cases h1;exact hb
   ·exact h3 h
theorem S8{l:List Kid}(h:l≠[])(k:Key):∃l1 x l2,l=l1++x::l2/\l1.length=cB l k/\(l1≠[]->ltK k x.least=false)/\∀y t',l2=y::t'->ltK k y.least=true:=by
 cases l with
 |nil=>exact absurd rfl h
 |cons a t=>exact Qv k t a
theorem dP.ne{l:List Kid}(h:dP l):l≠[]:=λe=>by have:=h.two;rw[e] at this;simp at this
theorem WJ{α:Type}{p:α->Bool}:∀(l:List α),(l.takeWhile p).length<=l.length
 |[]=>Nat.le_refl _
 |x::t=>by
  rw[List.takeWhile_cons]
  split
  ·simp only[List.length_cons];have:=WJ (p:=p) t;omega
  ·simp
theorem Oo{l:List Kid}(h:dP l)(k:Key):cB l k<l.length:=by
 have:=h.two
 have:=WJ (p:=λy:Kid=> !ltK k y.least) l.tail
 unfold cB
 rw[List.length_tail] at this;omega
theorem AW(n:Nat)(hn:1003<=n){l:List Kid}(h:dP l):dG n 2 [⟨2,[],l⟩]=some 0:=by
 have hc:aV ⟨2,[],l⟩=true:=(gU _).2 (Or.inr (Or.inr ⟨l,rfl,h⟩))
 obtain⟨n,rfl⟩:∃m,n=m+2:=⟨n-2,by omega⟩
 unfold dG jX
 rw[aM]
 simp only[aW,List.length_cons,List.length_nil]
 rw[show decide ((0:Int)<((0+1:Nat):Int))=true from rfl]
 simp only[cond_true,pM,List.getElem?_cons_zero,Option.bind_some]
 rw[wM _ (by omega) _ (bS hc),if_pos hc]
 simp only[Option.bind_some]
 rw[show((0:Int) !=0)=false from rfl,cond_false,show IntKind.wrap .i64 (0+1)=1 from by rw[cN (by omega)];rfl]
 rw[show decide ((1:Int)<((0+1:Nat):Int))=false from rfl,cond_false]
 unfold iE
 rw[aM]
 simp only[List.length_cons,List.length_nil]
 rw[show decide ((0:Int)<((0+1:Nat):Int))=true from rfl]
 simp only[cond_true,pM,List.getElem?_cons_zero,Option.bind_some,jn]
 rw[show((2:Int)==1)=false from rfl,cond_false,cond_false,show((2:Int)==2)=true from rfl,cond_true,show((2:Int) !=2)=false from rfl,cond_false,show IntKind.wrap .i64 (0+1)=1 from by rw[cN (by omega)];rfl]
 rw[aM]
 rfl
theorem S9(n:Nat)(hn:1003<=n){l:List Kid}(h:dP l)(k:Key):kI n ⟨2,[],l⟩ k=some ((cB l k:Int),0):=by
 have key:∀(m:Nat)(s t:List Kid)(i:Nat),s.drop i=t->i<=s.length->t.length<m->s.length<=1000->eC n m (s,k,(s.length:Int),(i:Int),())=some (if(t.takeWhile λy=> !ltK k y.least).length=t.length then-1 else((i+(t.takeWhile λy=> !ltK k y.least).length:Nat):Int)):=by
  intro m
  induction m with
  |zero=>intro s t i _ _ h;omega
  |succ m ih=>
   intro s t i ht hi hk hs
   unfold eC
   rw[aM]
   generalize hr:aW _ m=r1
   replace hr:eC n m=r1:=hr
   simp only[hr] at ih
   cases t with
   |nil=>
    cases dC ht hi
    simp only[bI (Nat.lt_irrefl _),cond_false];rfl
   |cons x t=>
    obtain⟨h1,h2,h3⟩:=dB ht
    have e:AA n x k=some (ltK k x.least):=by
     unfold AA;rw[jO n (by omega)];simp only[Option.bind_some,Jf]
    simp only[bH h3,cond_true,aR,h1,Option.bind_some,e,List.takeWhile_cons]
    cases hb:ltK k x.least with
    |true=>simp
    |false=>
     simp only[Bool.not_false,cond_false,if_true,aJ (show i<4611686018427387904 by omega),ih s t (i+1) h2 (by omega) (by simp only[List.length_cons] at hk;omega) hs,List.length_cons,Nat.add_right_cancel_iff]
     by_cases hh:(t.takeWhile λy=> !ltK k y.least).length=t.length
     ·rw[if_pos hh,if_pos hh]
     ·rw[if_neg hh,if_neg hh];congr 2;omega
 have h2:=h.two
 have h4:=h.four
 unfold kI
 rw[AW n hn h]
 simp only[Option.bind_some]
 rw[show((0:Int) !=0)=false from rfl,cond_false]
 have hsub:=Cm (l:=l) (a:=1) (b:=l.length) (by omega) (Nat.le_refl _)
 rw[show((1:Nat):Int)=1 from rfl] at hsub
 have hsub':Go.Bur.sub l 1 (l.length:Int)=some l.tail:=by
  rw[hsub];congr 1
  rw[List.take_of_length_le (by rw[List.length_drop];omega),List.drop_one]
 rw[hsub']
 simp only[Option.bind_some]
 unfold iG
 have hl:=key n l.tail l.tail 0 rfl (Nat.zero_le _) (by rw[List.length_tail];omega) (by rw[List.length_tail];omega)
 rw[show((0:Nat):Int)=0 from rfl] at hl
 rw[hl]
 simp only[Option.bind_some,Nat.zero_add]
 have hle:=WJ (p:=λy:Kid=> !ltK k y.least) l.tail
 unfold cB
 by_cases hh:(l.tail.takeWhile λy=> !ltK k y.least).length=l.tail.length
 ·rw[if_pos hh,decide_eq_false (by omega),cond_false,cN (by omega),hh,List.length_tail];congr 2;omega
 ·rw[if_neg hh,decide_eq_true (by omega),cond_true]
theorem YC(n:Nat)(hn:1003<=n){l:List Kid}(h:dP l)(k:Key):nW n ⟨2,[],l⟩ k=some (cB l k:Int):=by
 have h2:=h.two
 have h4:=h.four
 have key:∀(m:Nat)(t:List Kid)(i o:Nat),l.drop i=t->i<=l.length->t.length<m->t.Pairwise (λa b=>ltK a.least b.least=true)->uL n m ((o:Int),(i:Int),⟨2,[],l⟩,k,())=some (if(t.takeWhile λy=> !ltK k y.least).length=0 then(o:Int) else((i+(t.takeWhile λy=> !ltK k y.least).length-1:Nat):Int)):=by
  intro m
  induction m with
  |zero=>intro t i o _ _ h;omega
  |succ m ih=>
   intro t i o ht hi hk hp
   unfold uL
   rw[aM]
   generalize hr:aW _ m=r1
   replace hr:uL n m=r1:=hr
   simp only[hr] at ih
   cases t with
   |nil=>
    cases dC ht hi
    simp only[bI (Nat.lt_irrefl _),cond_false];rfl
   |cons x t=>
    obtain⟨g1,g2,g3⟩:=dB ht
    obtain⟨p1,p2⟩:=List.pairwise_cons.1 hp
    simp only[bH g3,cond_true,aR,g1,Option.bind_some,Qu,jn,YB,Fp,List.takeWhile_cons,aJ (show i<4611686018427387904 by omega)]
    cases hb:ltK k x.least with
    |true=>
     have e:(t.takeWhile λy=> !ltK k y.least)=[]:=by
      cases t with
      |nil=>rfl
      |cons y t=>rw[List.takeWhile_cons,iV hb (p1 y (List.mem_cons_self ..))];rfl
     simp only[Bool.not_true,cond_false,ih t (i+1) o g2 (by omega) (by simp only[List.length_cons] at hk;omega) p2,e]
     rfl
    |false=>
     simp only[Bool.not_false,cond_true,if_true,ih t (i+1) i g2 (by omega) (by simp only[List.length_cons] at hk;omega) p2,List.length_cons]
     rw[if_neg (by omega:¬(t.takeWhile λy=> !ltK k y.least).length+1=0)]
     by_cases hh:(t.takeWhile λy=> !ltK k y.least).length=0
     ·rw[if_pos hh,hh];congr 2
     ·rw[if_neg hh];congr 2;omega
 unfold nW
 have:=key n l.tail 1 0 (by rw[List.drop_one]) (by omega) (by rw[List.length_tail];omega) (by rw[<-List.drop_one];exact h.rise.drop)
 rw[show((1:Nat):Int)=1 from rfl,show((0:Nat):Int)=0 from rfl] at this
 rw[this]
 unfold cB
 by_cases hh:(l.tail.takeWhile λy=> !ltK k y.least).length=0
 ·rw[if_pos hh,hh];rfl
 ·rw[if_neg hh];congr 2;omega
theorem Qw{f:List aA}{d:Nat}{lo:Key}{hi:Option Key}{l l1 l2:List Kid}{x:Kid}{k:Key}(h4:dP l)(h5:∀k∈l.tail,within k.least lo hi=true)(h6:cJ (sub f d) hi lo l)(e:l=l1++x::l2)(c1:l1≠[]->ltK k x.least=false)(c2:∀y t',l2=y::t'->ltK k y.least=true)(hk:∀h,hi=some h->ltK k h=true):
  ∃a,sub f d x.page a (nxt hi l2)/\(∀h,nxt hi l2=some h->ltK k h=true)/\(ltK k lo=false->ltK k a=false)/\(∀r∈l1.flatMap λk=>rws f d k.page,ltK r.key k=true)/\(∀r∈l2.flatMap λk=>rws f d k.page,ltK k r.key=true):=by
 subst e
 obtain⟨g1,g2,g3,g4⟩:=WI.1 h6
 have hr:=h4.rise
 obtain⟨q1,q2,q3⟩:=List.pairwise_append.1 hr
 have hlast:∀h,nxt hi l2=some h->ltK k h=true:=λh e=>by
  cases l2 with
  |nil=>exact hk h e
  |cons y t=>cases e;exact c2 y t rfl
 have hl1:∀r∈l1.flatMap λk=>rws f d k.page,ltK r.key k=true:=λr hr=>by
  by_cases hne:l1=[]
  ·subst hne;simp at hr
  ·have hin:=kids_rows (g:=λp=>rws f d p) (λp a b hs=>Ab hs) (g3 hne) (λy hy=>within_iff.2 ⟨(within_iff.1 (h5 y (by
    cases l1 with
    |nil=>exact absurd rfl hne
    |cons z l1=>exact List.mem_append_left _ hy))).1,λh e=>by
     cases e
     exact q3 y (List.mem_of_mem_tail hy) x (List.mem_cons_self ..)⟩) q1
   exact Qt ((within_iff.1 (hin.2 r hr)).2 _ rfl) (c1 hne)
 have hl2:∀r∈l2.flatMap λk=>rws f d k.page,ltK k r.key=true:=λr hr=>by
  cases l2 with
  |nil=>simp at hr
  |cons y t=>
   have p2:=(List.pairwise_cons.1 q2).2
   have hin:=kids_rows (g:=λp=>rws f d p) (λp a b hs=>Ab hs) (g4 y t rfl) (λz hz=>within_iff.2 ⟨lt_asymm ((List.pairwise_cons.1 p2).1 z hz),(within_iff.1 (h5 z (by
    cases l1 with
    |nil=>exact List.mem_cons_of_mem _ hz
    |cons w l1=>exact List.mem_append_right _ (List.mem_cons_of_mem _ (List.mem_cons_of_mem _ hz))))).2⟩) p2
   exact Qt (c2 y t rfl) (within_iff.1 (hin.2 r hr)).1
 by_cases hne:l1=[]
 ·exact⟨lo,g1 hne,hlast,λh=>h,hl1,hl2⟩
 ·exact⟨x.least,g2 hne,hlast,λ_=>c1 hne,hl1,hl2⟩
theorem MJ{a b c:List Row}{k:Key}(h1:∀r∈a,ltK r.key k=true)(h2:∀r∈c,ltK k r.key=true):cL (a++(b++c)) k=cL b k:=by
 rw[zP,zP,nR (l:=a) λr hr=>S7 (h1 r hr),nR (l:=c) λr hr=>(S7 (h2 r hr)).symm]
 simp
theorem Qx(N:Nat)(hN:1003<=N){f:List aA}(hf:f.length=64)(k:Key)(z:Row):∀(d:Nat)(m:Nat)(n:Int)(lo:Key)(hi:Option Key),sub f d n lo hi->(∀h,hi=some h->ltK k h=true)->d<=m->sA N m (⟨f⟩,k,z,pg f n,())=some (ofF (cL (rws f d n) k))
 |0,_,_,_,_,h,_,_=>h.elim
 |1,0,_,_,_,_,_,h=>by omega
 |d+2,0,_,_,_,_,_,h=>by omega
 |1,m+1,n,lo,hi,h,hk,hm=>by
  obtain⟨h1,h2,l,h3,h4,h5⟩:=h
  have e:rws f 1 n=l:=by rw[rws,h3];simp
  have hck:aV (pg f n)=true:=(gU _).2 (Or.inr (Or.inl ⟨l,h3,h4⟩))
  have he:Bw (pg f n)=0:=by unfold Bw;rw[if_pos hck,h3];rfl
  unfold sA
  rw[aM]
  simp only[get_eq N hN _ (bS hck),VO,if_pos he,Option.bind_some]
  rw[show((pg f n).kind==2)=false from by rw[h3];rfl,cond_false,e,h3]
 |d+2,m+1,n,lo,hi,h,hk,hm=>by
  obtain⟨h1,h2,l,h3,h4,h5,h6⟩:=h
  have e:rws f (d+2) n=l.flatMap λk=>rws f (d+1) k.page:=by rw[rws,h3];rfl
  obtain⟨l1,x,l2,e1,e2,c1,c2⟩:=S8 h4.ne k
  obtain⟨a,s1,s2,_,s3,s4⟩:=Qw h4 h5 h6 e1 c1 c2 hk
  have hx:=pS s1
  unfold sA
  rw[aM]
  generalize hr:aW _ m=r1
  replace hr:sA N m=r1:=hr
  simp only[h3]
  rw[show((2:Int)==2)=true from rfl,cond_true,S9 N hN h4]
  simp only[Option.bind_some,aR]
  rw[<-e2,show l[l1.length]? =some x from by rw[e1];simp]
  simp only[Option.bind_some]
  rw[show idx f x.page=some (pg f x.page) from gI ⟨hx.1,by omega⟩]
  simp only[Option.bind_some]
  rw[<-hr,Qx N hN hf k z (d+1) m x.page a _ s1 s2 (by omega),e,e1,List.flatMap_append,List.flatMap_cons,MJ s3 s4]
theorem Qy(N:Nat)(hN:2000<=N){f:List aA}{d:Nat}(hg:Good f d)(k:Key):BP N ⟨f⟩ k=some (ofF (cL (rws f d 0) k)):=by
 unfold BP
 rw[show idx f 0=some (pg f 0) from gI ⟨by omega,by have:=hg.len;omega⟩]
 simp only[Option.bind_some]
 exact Qx N (by omega) hg.len k _ d N 0 cC none hg.tree (λh e=>by cases e) (by have:=hg.deep;omega)
end Go.Proofs.YtlcmdgpjiendmaaGreat
namespace Go.Proofs.YtlcmdgpjiendmaaGreat
open Go.Bur
set_option linter.unusedSimpArgs false
set_option linter.unusedVariables false
set_option maxRecDepth 100000
theorem Qz{f:List aA}:∀{d:Nat} {n:Int} {lo:Key} {hi:Option Key},sub f d n lo hi->n≠0->rws f d n≠[]
 |1,n,lo,hi,h,hn=>by
  obtain⟨_,h2,l,h3,h4,h5⟩:=h
  have e:rws f 1 n=l:=by rw[rws,h3];simp
  have:=h2 hn
  rw[h3] at this
  rw[e];intro h;rw[h] at this;simp[aD] at this
 |d+2,n,lo,hi,h,hn=>by
  obtain⟨_,h2,l,h3,h4,h5,h6⟩:=h
  obtain⟨k,t,el⟩:∃k t,l=k::t:=by
   match l,h4.two with
   |k::t,_=>exact⟨k,t,rfl⟩
  have hp:=h4.page k (by rw[el];exact List.mem_cons_self ..)
  obtain⟨a,b,hs⟩:=cQ h6 k (by rw[el];exact List.mem_cons_self ..)
  have:=Qz hs (by omega)
  rw[rws,h3,el,List.flatMap_cons]
  intro e
  exact this (List.append_eq_nil_iff.1 (List.append_eq_nil_iff.1 e).2).1
theorem sub_lt{f:List aA}{d:Nat}{n:Int}{lo b:Key}(h:sub f d n lo (some b))(hn:n≠0):ltK lo b=true:=by
 have h1:=Qz h hn
 obtain⟨r,t,e⟩:∃r t,rws f d n=r::t:=by
  cases hr:rws f d n with
  |nil=>exact absurd hr h1
  |cons r t=>exact⟨r,t,rfl⟩
 have:=within_iff.1 ((Ab h).2 r (by rw[e];exact List.mem_cons_self ..))
 exact WH this.1 (this.2 b rfl)
theorem Db{f:List aA}{d:Nat}{hi:Option Key}:∀{l:List Kid} {lo:Key},cJ (sub f d) hi lo l->(∀k∈l,k.page≠0)->
  (∀k∈l.tail,ltK lo k.least=true/\∀h,hi=some h->ltK k.least h=true)/\l.tail.Pairwise λa b=>ltK a.least b.least=true
 |[],lo,_,_=>⟨by simp,by simp⟩
 |[k],lo,_,_=>⟨by simp,by simp⟩
 |k::k2::t,lo,h,hp=>by
  obtain⟨i1,i2⟩:=Db h.2 λx hx=>hp x (List.mem_cons_of_mem _ hx)
  have hlt:=sub_lt h.1 (hp k (List.mem_cons_self ..))
  refine⟨λx hx=> ?_,List.pairwise_cons.2 ⟨λx hx=>(i1 x hx).1,i2⟩⟩
  rcases List.mem_cons.1 hx with rfl|hx
  ·refine⟨hlt,λh' e=> ?_⟩
   cases t with
   |nil=>subst e;exact sub_lt h.2 (hp x (by simp))
   |cons k3 t=>exact iV (i1 k3 (List.mem_cons_self ..)).1 ((i1 k3 (List.mem_cons_self ..)).2 h' e)
  ·exact⟨iV hlt (i1 x hx).1,(i1 x hx).2⟩
structure Ac(f:List aA)(d:Nat)(lo:Key)(hi:Option Key)(l:List Kid):Prop where
 ok:cJ (sub f d) hi lo l
 page:∀k∈l,0<k.page/\k.page<64
 nodup:(l.map (·.page)).Nodup
 tab:∀k∈l,iU k.least.table=true
 head:∀k,l.head? =some k->k.least=cC
theorem Ac.inner{f:List aA}{d:Nat}{lo:Key}{hi:Option Key}{l:List Kid}(h:Ac f d lo hi l)(hlo:ltK lo cC=false)(h2:2<=l.length)(h4:l.length<=4):dP l/\∀k∈l.tail,within k.least lo hi=true:=by
 obtain⟨i1,i2⟩:=Db h.ok λk hk=>by have:=h.page k hk;omega
 refine⟨⟨h2,h4,h.page,h.nodup,h.tab, ?_,h.head⟩,λk hk=>within_iff.2 ⟨lt_asymm (i1 k hk).1,(i1 k hk).2⟩⟩
 cases l with
 |nil=>simp
 |cons a t=>exact List.pairwise_cons.2 ⟨λx hx=>by rw[h.head a rfl];exact WH hlo (i1 x hx).1,i2⟩
theorem mk_inner{f:List aA}{d:Nat}{n:Int}{lo:Key}{hi:Option Key}{l:List Kid}(hn:0<=n/\n<64)(hp:pg f n=⟨2,[],l⟩)(h:Ac f (d+1) lo hi l)(hlo:ltK lo cC=false)(h2:2<=l.length)(h4:l.length<=4):sub f (d+2) n lo hi:=by
 obtain⟨h5,h6⟩:=h.inner hlo h2 h4
 exact⟨hn,λ_=>by rw[hp];simp only[aD,List.length_nil];omega,l,hp,h5,h6,h.ok⟩
theorem iB{f:List aA}{d:Nat}{n:Int}{lo:Key}{hi:Option Key}(h:sub f (d+2) n lo hi):∃l,pg f n=⟨2,[],l⟩/\2<=l.length/\l.length<=4/\Ac f (d+1) lo hi l:=by
 obtain⟨_,_,l,h3,h4,_,h6⟩:=h
 exact⟨l,h3,h4.two,h4.four,h6,h4.page,h4.nodup,h4.tab,h4.head⟩
def yW(f:List aA):Nat->Key->Option Key->aA->Prop
 |0=>λlo hi c=>∃l,c=⟨1,l,[]⟩/\(∀r∈l,eF r=true)/\RowsIn l lo hi
 |d+1=>λlo hi c=>∃l,c=⟨2,[],l⟩/\Ac f (d+1) lo hi l
def AX(f:List aA)(d:Nat)(c:aA):List Row:=c.rows++c.kids.flatMap λk=>rws f d k.page
def iW(f:List aA)(d:Nat)(c:aA):List Int:=c.kids.flatMap λk=>pgs f d k.page
theorem Es{f:List aA}{d:Nat}{n:Int}:rws f (d+1) n=AX f d (pg f n):=rfl
theorem sY{f:List aA}{d:Nat}{n:Int}:pgs f (d+1) n=n::iW f d (pg f n):=rfl
theorem wS{f:List aA}{d:Nat}{n:Int}{lo:Key}{hi:Option Key}(h:sub f (d+1) n lo hi):yW f d lo hi (pg f n)/\aD (pg f n)<=4/\(n≠0\/d≠0->2<=aD (pg f n)):=by
 cases d with
 |zero=>
  obtain⟨_,h2,l,h3,h4,h5⟩:=h
  refine⟨⟨l,h3,h4.row,h4.srt,h5⟩,by rw[h3];simpa[aD] using h4.len,λe=>h2 (by rcases e with e|e;exact e;exact absurd rfl e)⟩
 |succ d=>
  obtain⟨l,h3,h4,h5,h6⟩:=iB h
  refine⟨⟨l,h3,h6⟩, ?_,λ_=> ?_⟩<;>(rw[h3];simp only[aD,List.length_nil];omega)
theorem CA{f:List aA}{d:Nat}{n:Int}{lo:Key}{hi:Option Key}(hn:0<=n/\n<64)(h:yW f d lo hi (pg f n))(hlo:ltK lo cC=false)(h4:aD (pg f n)<=4)(h2:n≠0\/d≠0->2<=aD (pg f n)):sub f (d+1) n lo hi:=by
 cases d with
 |zero=>
  obtain⟨l,h3,h5,h6,h7⟩:=h
  exact⟨hn,λe=>h2 (Or.inl e),l,h3,⟨by rw[h3] at h4;simpa[aD] using h4,h5,h6⟩,h7⟩
 |succ d=>
  obtain⟨l,h3,h5⟩:=h
  have h2':=h2 (Or.inr (by omega))
  rw[h3] at h4 h2'
  simp only[aD,List.length_nil] at h4 h2'
  exact mk_inner hn h3 h5 hlo (by omega) (by omega)
theorem QA{f f':List aA}{d:Nat}{lo:Key}{hi:Option Key}{l:List Kid}(e:∀m∈l.flatMap λk=>pgs f d k.page,pg f' m=pg f m)(h:Ac f d lo hi l):Ac f' d lo hi l:=
 ⟨xO (λk hk a b hs=>G4 (λm hm=>e m (List.mem_flatMap.2 ⟨k,hk,hm⟩)) hs) h.ok,h.page,h.nodup,h.tab,h.head⟩
theorem oH{f f':List aA}{d:Nat}{lo:Key}{hi:Option Key}{c:aA}(e:∀m∈iW f d c,pg f' m=pg f m)(h:yW f d lo hi c):yW f' d lo hi c/\AX f' d c=AX f d c/\iW f' d c=iW f d c:=by
 have hk:∀k∈c.kids,pgs f' d k.page=pgs f d k.page/\rws f' d k.page=rws f d k.page:=λk hk=>frame λm hm=>e m (List.mem_flatMap.2 ⟨k,hk,hm⟩)
 refine⟨?_, ?_, ?_⟩
 ·cases d with
  |zero=>exact h
  |succ d=>
   obtain⟨l,h3,h5⟩:=h
   exact⟨l,h3,QA (by rw[h3] at e;exact e) h5⟩
 ·unfold AX;rw[iA λk hkk=>(hk k hkk).2]
 ·unfold iW;rw[iA λk hkk=>(hk k hkk).1]
theorem vG{α:Type}{l:List α}{m:Nat}(h:m<l.length):∃y t,l.drop m=y::t:=⟨_,_,drop_cons h⟩
theorem Uk{r:Row}(h:eF r=true):iU r.key.table=true:=by
 unfold eF at h;rw[Bool.and_eq_true] at h;exact h.1
theorem AY{f:List aA}{d:Nat}{lo:Key}{hi:Option Key}{c:aA}{m:Nat}(h:yW f d lo hi c)(h0:0<m)(hm:m<aD c):
  yW f d lo (some (cF c m)) (eZ c m)/\yW f d (cF c m) hi (eT c m)/\iU (cF c m).table=true/\AX f d (eZ c m)++AX f d (eT c m)=AX f d c/\iW f d (eZ c m)++iW f d (eT c m)=iW f d c/\aD (eZ c m)=m/\aD (eT c m)=aD c-m:=by
 cases d with
 |zero=>
  obtain⟨l,rfl,h5,h6,h7⟩:=h
  simp only[aD,List.length_nil,Nat.add_zero] at hm
  obtain⟨y,t,e⟩:=vG hm
  have el:l=l.take m++y::t:=by rw[<-e,List.take_append_drop]
  have hs:cF ⟨1,l,[]⟩ m=y.key:=by simp[cF,sW,e]
  have hA:eZ ⟨1,l,[]⟩ m=⟨1,l.take m,[]⟩:=by simp[eZ]
  have hB:eT ⟨1,l,[]⟩ m=⟨1,y::t,[]⟩:=by simp[eT,e,hd0]
  rw[el] at h6
  obtain⟨s1,s2,s3⟩:=List.pairwise_append.1 h6
  have hin:∀r∈l.take m,r∈l:=λr hr=>List.mem_of_mem_take hr
  have hin2:∀r∈y::t,r∈l:=λr hr=>by rw[el];exact List.mem_append_right _ hr
  rw[hs,hA,hB]
  refine⟨⟨_,rfl,λr hr=>h5 r (hin r hr),s1,λr hr=>within_iff.2 ⟨(within_iff.1 (h7 r (hin r hr))).1,λk e=> ?_⟩⟩,⟨_,rfl,λr hr=>h5 r (hin2 r hr),s2,λr hr=>within_iff.2 ⟨?_,(within_iff.1 (h7 r (hin2 r hr))).2⟩⟩,Uk (h5 y (hin2 y (List.mem_cons_self ..))), ?_,rfl, ?_, ?_⟩
  ·cases e;exact s3 r hr y (List.mem_cons_self ..)
  ·rcases List.mem_cons.1 hr with rfl|hr
   ·exact fO _
   ·exact lt_asymm ((List.pairwise_cons.1 s2).1 r hr)
  ·simp only[AX,List.flatMap_nil,List.append_nil];exact el.symm
  ·simp only[aD,List.length_nil,Nat.add_zero,List.length_take];omega
  ·have:=congrArg List.length e
   rw[List.length_drop] at this
   simp only[aD,List.length_nil,Nat.add_zero];omega
 |succ d=>
  obtain⟨l,rfl,h5⟩:=h
  simp only[aD,List.length_nil,Nat.zero_add] at hm
  obtain⟨y,t,e⟩:=vG hm
  have el:l=l.take m++y::t:=by rw[<-e,List.take_append_drop]
  have hne:l.take m≠[]:=λh=>by
   have:=congrArg List.length h
   rw[List.length_take,List.length_nil] at this;omega
  have hs:cF ⟨2,[],l⟩ m=y.least:=by simp[cF,sW,e]
  have hA:eZ ⟨2,[],l⟩ m=⟨2,[],l.take m⟩:=by simp[eZ]
  have hB:eT ⟨2,[],l⟩ m=⟨2,[],⟨cC,y.page⟩::t⟩:=by simp[eT,e,hd0]
  have hin:∀r∈l.take m,r∈l:=λr hr=>List.mem_of_mem_take hr
  have hin2:∀r∈y::t,r∈l:=λr hr=>by rw[el];exact List.mem_append_right _ hr
  have hok:=h5.ok
  have hnd:=h5.nodup
  rw[el] at hok
  rw[el,List.map_append] at hnd
  obtain⟨n1,n2,_⟩:=List.nodup_append.1 hnd
  obtain⟨k1,k2⟩:=(qY hne).1 hok
  rw[hs,hA,hB]
  refine⟨⟨_,rfl,k1,λk hk=>h5.page k (hin k hk),n1,λk hk=>h5.tab k (hin k hk),λk hk=> ?_⟩,⟨_,rfl,(MB (k:=y) (k':=⟨cC,y.page⟩) rfl).1 k2,λk hk=> ?_,n2,λk hk=> ?_,λk hk=>by cases hk;rfl⟩,h5.tab y (hin2 y (List.mem_cons_self ..)), ?_, ?_, ?_, ?_⟩
  ·refine h5.head k ?_
   rw[el]
   cases ht:l.take m with
   |nil=>exact absurd ht hne
   |cons a b=>rw[ht] at hk;exact hk
  ·rcases List.mem_cons.1 hk with rfl|hk
   ·exact h5.page y (hin2 y (List.mem_cons_self ..))
   ·exact h5.page k (hin2 k (List.mem_cons_of_mem _ hk))
  ·rcases List.mem_cons.1 hk with rfl|hk
   ·rfl
   ·exact h5.tab k (hin2 k (List.mem_cons_of_mem _ hk))
  ·simp only[AX,List.nil_append]
   conv=>rhs;rw[el]
   rw[List.flatMap_append];rfl
  ·simp only[iW]
   conv=>rhs;rw[el]
   rw[List.flatMap_append];rfl
  ·simp only[aD,List.length_nil,Nat.zero_add,List.length_take];omega
  ·have:=congrArg List.length e
   rw[List.length_drop] at this
   simp only[aD,List.length_nil,Nat.zero_add,List.length_cons] at this|-;omega
theorem WK{f:List aA}{d:Nat}{lo s:Key}{hi:Option Key}{a b:aA}(ha:yW f d lo (some s) a)(hb:yW f d s hi b)(h0:0<aD a)(hb0:0<aD b)(hlo:ltK s lo=false)(hs:∀h,hi=some h->ltK s h=true)(ht:iU s.table=true)(hd:∀x∈a.kids,∀y∈b.kids,x.page≠y.page):
  yW f d lo hi (aO a b s)/\AX f d (aO a b s)=AX f d a++AX f d b/\iW f d (aO a b s)=iW f d a++iW f d b/\aD (aO a b s)=aD a+aD b:=by
 cases d with
 |zero=>
  obtain⟨la,rfl,a1,a2,a3⟩:=ha
  obtain⟨lb,rfl,b1,b2,b3⟩:=hb
  have e:aO ⟨1,la,[]⟩ ⟨1,lb,[]⟩ s=⟨1,la++lb,[]⟩:=by simp[aO,hd0]
  rw[e]
  refine⟨⟨_,rfl,λr hr=> ?_,List.pairwise_append.2 ⟨a2,b2,λx hx y hy=>Qt ((within_iff.1 (a3 x hx)).2 s rfl) (within_iff.1 (b3 y hy)).1⟩,λr hr=> ?_⟩,by simp[AX],by simp[iW],by simp[aD]⟩
  ·rcases List.mem_append.1 hr with hr|hr
   ·exact a1 r hr
   ·exact b1 r hr
  ·rcases List.mem_append.1 hr with hr|hr
   ·have:=within_iff.1 (a3 r hr)
    exact within_iff.2 ⟨this.1,λh e=>iV (this.2 s rfl) (hs h e)⟩
   ·have:=within_iff.1 (b3 r hr)
    exact within_iff.2 ⟨F7 hlo this.1,this.2⟩
 |succ d=>
  obtain⟨la,rfl,a1⟩:=ha
  obtain⟨lb,rfl,b1⟩:=hb
  simp only[aD,List.length_nil,Nat.zero_add] at h0 hb0
  obtain⟨y,t,rfl⟩:∃y t,lb=y::t:=by
   match lb,hb0 with
   |y::t,_=>exact⟨y,t,rfl⟩
  have e:aO ⟨2,[],la⟩ ⟨2,[],y::t⟩ s=⟨2,[],la++⟨s,y.page⟩::t⟩:=by simp[aO,hd0]
  have hne:la≠[]:=λh=>by rw[h] at h0;simp at h0
  rw[e]
  refine⟨⟨_,rfl,(qY hne).2 ⟨a1.ok,(MB (k:=y) (k':=⟨s,y.page⟩) rfl).1 b1.ok⟩,λk hk=> ?_, ?_,λk hk=> ?_,λk hk=> ?_⟩,by simp[AX,List.flatMap_append],by simp[iW,List.flatMap_append],by simp[aD]⟩
  ·rcases List.mem_append.1 hk with hk|hk
   ·exact a1.page k hk
   ·rcases List.mem_cons.1 hk with rfl|hk
    ·exact b1.page y (List.mem_cons_self ..)
    ·exact b1.page k (List.mem_cons_of_mem _ hk)
  ·rw[List.map_append]
   refine List.nodup_append.2 ⟨a1.nodup,b1.nodup,λp hp q hq=> ?_⟩
   obtain⟨u,hu,rfl⟩:=List.mem_map.1 hp
   have hq':q∈(y::t).map (·.page):=hq
   obtain⟨v,hv,rfl⟩:=List.mem_map.1 hq'
   exact hd u hu v hv
  ·rcases List.mem_append.1 hk with hk|hk
   ·exact a1.tab k hk
   ·rcases List.mem_cons.1 hk with rfl|hk
    ·exact ht
    ·exact b1.tab k (List.mem_cons_of_mem _ hk)
  ·refine a1.head k ?_
   cases la with
   |nil=>exact absurd rfl hne
   |cons u v=>exact hk
def AZ(l:List Kid)(lo s:Key):Key:=match l with
 |[]=>lo
 |_::_=>s
theorem Zp{S:Int->Key->Option Key->Prop}{hi:Option Key}{lo:Key}{N l2:List Kid}(hN:N≠[]):cJ S hi lo (N++l2)↔cJ S (nxt hi l2) lo N/\∀y t,l2=y::t->cJ S hi y.least l2:=by
 cases l2 with
 |nil=>simp[nxt]
 |cons y t=>
  rw[qY hN]
  simp[nxt]
theorem QB{S:Int->Key->Option Key->Prop}{hi:Option Key}{lo:Key}{l1 N l2:List Kid}{x:Kid}{N':List Kid}(hN:N=x::N'):cJ S hi lo (l1++(N++l2))↔
  (l1≠[]->cJ S (some x.least) lo l1)/\cJ S (nxt hi l2) (AZ l1 lo x.least) N/\∀y t,l2=y::t->cJ S hi y.least l2:=by
 subst hN
 cases l1 with
 |nil=>rw[List.nil_append,Zp (by simp)];simp[AZ]
 |cons u v=>
  rw[show x::N'++l2=x::(N'++l2) from rfl,qY (by simp),show x::(N'++l2)=(x::N')++l2 from rfl,Zp (by simp)]
  simp[AZ]
theorem Ul{f f':List aA}{d:Nat}{lo:Key}{hi:Option Key}{l1 N M l2 N' M':List Kid}{x x':Kid}(hN:N=x::N')(hM:M=x'::M')(hl:x'.least=x.least)
  (h:Ac f d lo hi (l1++(N++l2))) (hf:∀k∈l1++l2,∀p∈pgs f d k.page,pg f' p=pg f p)
  (hok:cJ (sub f' d) (nxt hi l2) (AZ l1 lo x.least) M) (hp:∀k∈M,0<k.page/\k.page<64) (hn:(M.map (·.page)).Nodup) (hd:∀k∈M,∀j∈l1++l2,k.page≠j.page) (ht:∀k∈M,iU k.least.table=true):
  Ac f' d lo hi (l1++(M++l2)):=by
 obtain⟨h1,h2,h3⟩:=(QB hN).1 h.ok
 have hsub1:∀k∈l1,k∈l1++(N++l2):=λk hk=>List.mem_append_left _ hk
 have hsub2:∀k∈l2,k∈l1++(N++l2):=λk hk=>List.mem_append_right _ (List.mem_append_right _ hk)
 have hmono:∀(l:List Kid),(∀k∈l,k∈l1++l2)->∀{a:Key} {b:Option Key},cJ (sub f d) b a l->cJ (sub f' d) b a l:=λl hl a b=>xO λk hk u v hs=>G4 (λm hm=>hf k (hl k hk) m hm) hs
 refine⟨(QB hM).2 ⟨λe=>hmono l1 (λk hk=>List.mem_append_left _ hk) (hl▸h1 e),hl▸hok,λy t e=>hmono l2 (λk hk=>List.mem_append_right _ hk) (h3 y t e)⟩,λk hk=> ?_, ?_,λk hk=> ?_,λk hk=> ?_⟩
 ·rcases List.mem_append.1 hk with hk|hk
  ·exact h.page k (hsub1 k hk)
  ·rcases List.mem_append.1 hk with hk|hk
   ·exact hp k hk
   ·exact h.page k (hsub2 k hk)
 ·have hnd:=h.nodup
  rw[List.map_append,List.map_append] at hnd|-
  obtain⟨n1,n2,n3⟩:=List.nodup_append.1 hnd
  obtain⟨m1,m2,m3⟩:=List.nodup_append.1 n2
  refine List.nodup_append.2 ⟨n1,List.nodup_append.2 ⟨hn,m2,λp hp q hq=> ?_⟩,λp hp q hq=> ?_⟩
  ·obtain⟨u,hu,rfl⟩:=List.mem_map.1 hp
   obtain⟨v,hv,rfl⟩:=List.mem_map.1 hq
   exact hd u hu v (List.mem_append_right _ hv)
  ·rcases List.mem_append.1 hq with hq|hq
   ·obtain⟨u,hu,rfl⟩:=List.mem_map.1 hp
    obtain⟨v,hv,rfl⟩:=List.mem_map.1 hq
    exact(hd v hv u (List.mem_append_left _ hu)).symm
   ·exact n3 p hp q (List.mem_append_right _ hq)
 ·rcases List.mem_append.1 hk with hk|hk
  ·exact h.tab k (hsub1 k hk)
  ·rcases List.mem_append.1 hk with hk|hk
   ·exact ht k hk
   ·exact h.tab k (hsub2 k hk)
 ·cases l1 with
  |nil=>
   rw[hM] at hk
   cases hk
   rw[hl]
   exact h.head x (by rw[hN];rfl)
  |cons u v=>exact h.head k hk
end Go.Proofs.YtlcmdgpjiendmaaGreat
namespace Go.Proofs.YtlcmdgpjiendmaaGreat
open Go.Bur
set_option linter.unusedSimpArgs false
set_option linter.unusedVariables false
set_option maxRecDepth 100000
theorem Dc{f:List aA}{d:Nat}{lo:Key}{hi:Option Key}{l1 l2:List Kid}{x:Kid}(h:Ac f d lo hi (l1++x::l2))(hlo:ltK lo cC=false):ltK (AZ l1 lo x.least) cC=false:=by
 cases l1 with
 |nil=>exact hlo
 |cons u v=>
  have:=(Db h.ok λk hk=>by have:=h.page k hk;omega).1 x (by simp)
  exact F7 hlo (lt_asymm this.1)
theorem ML{f f':List aA}{d:Nat}{n:Int}{lo:Key}{hi:Option Key}{l1 N M l2 N' M':List Kid}{x x':Kid}(h:sub f (d+2) n lo hi)(hp:pg f n=⟨2,[],l1++(N++l2)⟩)(hp':pg f' n=⟨2,[],l1++(M++l2)⟩)(hlo:ltK lo cC=false)
  (h2:2<=(l1++(M++l2)).length) (h4:(l1++(M++l2)).length<=4) (hN:N=x::N') (hM:M=x'::M') (hl:x'.least=x.least) (hf:∀k∈l1++l2,∀p∈pgs f (d+1) k.page,pg f' p=pg f p)
  (hok:cJ (sub f' (d+1)) (nxt hi l2) (AZ l1 lo x.least) M) (hpp:∀k∈M,0<k.page/\k.page<64) (hn:(M.map (·.page)).Nodup) (hd:∀k∈M,∀j∈l1++l2,k.page≠j.page) (ht:∀k∈M,iU k.least.table=true):
  sub f' (d+2) n lo hi/\rws f' (d+2) n=(l1.flatMap λk=>rws f (d+1) k.page)++((M.flatMap λk=>rws f' (d+1) k.page)++l2.flatMap λk=>rws f (d+1) k.page)/\pgs f' (d+2) n=n::((l1.flatMap λk=>pgs f (d+1) k.page)++((M.flatMap λk=>pgs f' (d+1) k.page)++l2.flatMap λk=>pgs f (d+1) k.page)):=by
 obtain⟨l,e,_,_,hK⟩:=iB h
 obtain rfl:l=l1++(N++l2):=by rw[hp] at e;injection e with _ _ e;exact e.symm
 have hK':=Ul hN hM hl hK hf hok hpp hn hd ht
 have hfr:∀k∈l1++l2,pgs f' (d+1) k.page=pgs f (d+1) k.page/\rws f' (d+1) k.page=rws f (d+1) k.page:=λk hk=>frame (hf k hk)
 have r1:(l1.flatMap λk=>rws f' (d+1) k.page)=l1.flatMap λk=>rws f (d+1) k.page:=iA λk hk=>(hfr k (List.mem_append_left _ hk)).2
 have r2:(l2.flatMap λk=>rws f' (d+1) k.page)=l2.flatMap λk=>rws f (d+1) k.page:=iA λk hk=>(hfr k (List.mem_append_right _ hk)).2
 have p1:(l1.flatMap λk=>pgs f' (d+1) k.page)=l1.flatMap λk=>pgs f (d+1) k.page:=iA λk hk=>(hfr k (List.mem_append_left _ hk)).1
 have p2:(l2.flatMap λk=>pgs f' (d+1) k.page)=l2.flatMap λk=>pgs f (d+1) k.page:=iA λk hk=>(hfr k (List.mem_append_right _ hk)).1
 refine⟨mk_inner (pS h) hp' hK' hlo h2 h4, ?_, ?_⟩
 ·rw[rws,hp']
  simp only[List.flatMap_append,r1,r2,List.nil_append]
 ·rw[pgs,hp']
  simp only[List.flatMap_append,p1,p2]
theorem EW{f f':List aA}{d:Nat}{n:Int}{lo:Key}{hi:Option Key}{l1 N M l2 N' M':List Kid}{x x':Kid}(h:sub f (d+2) n lo hi)(hp:pg f n=⟨2,[],l1++(N++l2)⟩)(hp':pg f' n=⟨2,[],l1++(M++l2)⟩)(hlo:ltK lo cC=false)
  (h2:2<=(l1++(M++l2)).length) (h4:(l1++(M++l2)).length<=4) (hN:N=x::N') (hM:M=x'::M') (hl:x'.least=x.least) (hf:∀k∈l1++l2,∀p∈pgs f (d+1) k.page,pg f' p=pg f p)
  (hok:cJ (sub f' (d+1)) (nxt hi l2) (AZ l1 lo x.least) M) (hpp:∀k∈M,0<k.page/\k.page<64) (hn:(M.map (·.page)).Nodup) (hd:∀k∈M,∀j∈l1++l2,k.page≠j.page) (ht:∀k∈M,iU k.least.table=true)
  (hr:(M.flatMap λk=>rws f' (d+1) k.page)=N.flatMap λk=>rws f (d+1) k.page):
  sub f' (d+2) n lo hi/\rws f' (d+2) n=rws f (d+2) n/\pgs f' (d+2) n=n::((l1.flatMap λk=>pgs f (d+1) k.page)++((M.flatMap λk=>pgs f' (d+1) k.page)++l2.flatMap λk=>pgs f (d+1) k.page)):=by
 obtain⟨g1,g2,g3⟩:=ML h hp hp' hlo h2 h4 hN hM hl hf hok hpp hn hd ht
 refine⟨g1, ?_,g3⟩
 rw[g2,hr,rws,hp]
 simp only[List.flatMap_append,List.nil_append]
theorem sZ{f:List aA}{d:Nat}{n:Int}{l:List Kid}(h:pg f n=⟨2,[],l⟩):pgs f (d+1) n=n::l.flatMap λk=>pgs f d k.page:=by rw[pgs,h]
theorem Um{a b c:List Int}(h:(a++(b++c)).Nodup):b.Nodup/\(∀x∈b,x∉a/\x∉c):=by
 obtain⟨_,h2,h3⟩:=List.nodup_append.1 h
 obtain⟨h4,_,h5⟩:=List.nodup_append.1 h2
 exact⟨h4,λx hx=>⟨λha=>h3 x ha x (List.mem_append_left _ hx) rfl,λhc=>h5 x hx x hc rfl⟩⟩
theorem F8{f:List aA}{d:Nat}{l:List Kid}{k:Kid}(hk:k∈l):k.page∈l.flatMap λk=>pgs f (d+1) k.page:=List.mem_flatMap.2 ⟨k,hk,cG⟩
theorem R7{f f':List aA}{d:Nat}{n m:Int}{lo:Key}{hi:Option Key}{l1 l2:List Kid}{x:Kid}(h:sub f (d+2) n lo hi)(hp:pg f n=⟨2,[],l1++x::l2⟩)(hlo:ltK lo cC=false)(h3:(l1++x::l2).length<=3)(hfull:aD (pg f x.page)=4)
  (hnd:(pgs f (d+2) n).Nodup) (hm:0<m/\m<64) (hmf:m∉pgs f (d+2) n) (e1:pg f' n=⟨2,[],l1++x::⟨cF (pg f x.page) 2,m⟩::l2⟩) (e2:pg f' x.page=eZ (pg f x.page) 2) (e3:pg f' m=eT (pg f x.page) 2)
  (e4:∀p,p≠n->p≠x.page->p≠m->pg f' p=pg f p):
  sub f' (d+2) n lo hi/\rws f' (d+2) n=rws f (d+2) n/\(pgs f' (d+2) n).Perm (m::pgs f (d+2) n)/\ltK (AZ l1 lo x.least) (cF (pg f x.page) 2)=true:=by
 obtain⟨l,e,hl2,_,hK⟩:=iB h
 obtain rfl:l=l1++x::l2:=by rw[hp] at e;injection e with _ _ e;exact e.symm
 have hpl:=sZ (d:=d+1) hp
 have hpx:pgs f (d+1) x.page=x.page::iW f d (pg f x.page):=sY
 rw[hpl,List.flatMap_append,List.flatMap_cons] at hnd hmf
 obtain⟨nn,hnd⟩:=List.nodup_cons.1 hnd
 obtain⟨hxnd,hxd⟩:=Um hnd
 rw[hpx] at hxnd
 have hxn:=(List.nodup_cons.1 hxnd).1
 have hxin:∀p∈pgs f (d+1) x.page,p≠n/\p≠m:=λp hp=>⟨λe=>nn (by rw[<-e];exact List.mem_append_right _ (List.mem_append_left _ hp)),λe=>hmf (by rw[<-e];exact List.mem_cons_of_mem _ (List.mem_append_right _ (List.mem_append_left _ hp)))⟩
 have hoth:∀k∈l1++l2,∀p∈pgs f (d+1) k.page,p≠n/\p≠m/\p∉pgs f (d+1) x.page:=λk hk p hp=>by
  rcases List.mem_append.1 hk with hk|hk
  ·have hin:p∈l1.flatMap λk=>pgs f (d+1) k.page:=List.mem_flatMap.2 ⟨k,hk,hp⟩
   exact⟨λe=>nn (by rw[<-e];exact List.mem_append_left _ hin),λe=>hmf (by rw[<-e];exact List.mem_cons_of_mem _ (List.mem_append_left _ hin)),λhx=>(hxd p hx).1 hin⟩
  ·have hin:p∈l2.flatMap λk=>pgs f (d+1) k.page:=List.mem_flatMap.2 ⟨k,hk,hp⟩
   exact⟨λe=>nn (by rw[<-e];exact List.mem_append_right _ (List.mem_append_right _ hin)),λe=>hmf (by rw[<-e];exact List.mem_cons_of_mem _ (List.mem_append_right _ (List.mem_append_right _ hin))),λhx=>(hxd p hx).2 hin⟩
 obtain⟨k1,k2,k3⟩:=(QB (N:=[x]) (N':=[]) rfl).1 hK.ok
 have k2:sub f (d+1) x.page (AZ l1 lo x.least) (nxt hi l2):=k2
 obtain⟨c1,c2,c3⟩:=wS k2
 obtain⟨d1,d2,d3,d4,d5,d6,d7⟩:=AY (m:=2) c1 (by omega) (by omega)
 have hfrm:∀p∈iW f d (pg f x.page),pg f' p=pg f p:=λp hp=>by
  have:=hxin p (by rw[hpx];exact List.mem_cons_of_mem _ hp)
  exact e4 p this.1 (λe=>hxn (e▸hp)) this.2
 obtain⟨a1,a2,a3⟩:=oH (λp hp=>hfrm p (by rw[<-d5];exact List.mem_append_left _ hp)) d1
 obtain⟨b1,b2,b3⟩:=oH (λp hp=>hfrm p (by rw[<-d5];exact List.mem_append_right _ hp)) d2
 have hxp:=hK.page x (by simp)
 have s1:sub f' (d+1) x.page (AZ l1 lo x.least) (some (cF (pg f x.page) 2)):=CA ⟨by omega,hxp.2⟩ (by rw[e2];exact a1) (Dc hK hlo) (by rw[e2];omega) (λ_=>by rw[e2];omega)
 have hlt:=sub_lt s1 (by omega)
 have s2:sub f' (d+1) m (cF (pg f x.page) 2) (nxt hi l2):=CA ⟨by omega,hm.2⟩ (by rw[e3];exact b1) (F7 (Dc hK hlo) (lt_asymm hlt)) (by rw[e3];omega) (λ_=>by rw[e3];omega)
 have r1:rws f' (d+1) x.page++rws f' (d+1) m=rws f (d+1) x.page:=by rw[Es,Es,Es,e2,e3,a2,b2,d4]
 have hmx:∀k∈l1++x::l2,k.page≠m:=λk hk e=>hmf (by
  rw[<-e]
  refine List.mem_cons_of_mem _ ?_
  have:=F8 (f:=f) (d:=d) hk
  rw[List.flatMap_append,List.flatMap_cons] at this
  exact this)
 obtain⟨g1,g2,g3⟩:=EW (N:=[x]) (M:=[x,⟨cF (pg f x.page) 2,m⟩]) (x:=x) (x':=x) h hp e1 hlo (by simp;omega) (by simp at h3|-;omega) rfl rfl rfl (λk hk p hp=>by
   obtain⟨q1,q2,q3⟩:=hoth k hk p hp
   exact e4 p q1 (λe=>q3 (by rw[e];exact cG)) q2) ⟨s1,s2⟩ (λk hk=>by
   rcases List.mem_cons.1 hk with rfl|hk
   ·exact hxp
   ·cases List.mem_singleton.1 hk;exact hm) (by
   simp only[List.map_cons,List.map_nil]
   exact List.nodup_cons.2 ⟨by simpa using hmx x (by simp),by simp⟩) (λk hk j hj=>by
   rcases List.mem_cons.1 hk with rfl|hk
   ·have:=(hoth j hj j.page cG).2.2
    exact λe=>this (by rw[<-e];exact cG)
   ·cases List.mem_singleton.1 hk
    refine(hmx j ?_).symm
    rcases List.mem_append.1 hj with hj|hj
    ·exact List.mem_append_left _ hj
    ·exact List.mem_append_right _ (List.mem_cons_of_mem _ hj)) (λk hk=>by
   rcases List.mem_cons.1 hk with rfl|hk
   ·exact hK.tab k (by simp)
   ·cases List.mem_singleton.1 hk;exact d3) (by
   simp only[List.flatMap_cons,List.flatMap_nil,List.append_nil];exact r1)
 refine⟨g1,g2, ?_,hlt⟩
 have q1:pgs f' (d+1) x.page=x.page::iW f d (eZ (pg f x.page) 2):=by rw[sY,e2,a3]
 have q2:pgs f' (d+1) m=m::iW f d (eT (pg f x.page) 2):=by rw[sY,e3,b3]
 rw[g3,hpl]
 simp only[List.flatMap_cons,List.flatMap_nil,List.append_nil,List.flatMap_append,q1,q2,hpx,<-d5]
 refine List.perm_iff_count.2 λa=> ?_
 simp only[List.count_cons,List.count_append]
 omega
theorem Un{f f':List aA}{d:Nat}{a b:Int}(h:sub f (d+1) 0 cC none)(hfull:aD (pg f 0)=4)(hnd:(pgs f (d+1) 0).Nodup)(ha:0<a/\a<64)(hb:0<b/\b<64)(hab:a≠b)(haf:a∉pgs f (d+1) 0)(hbf:b∉pgs f (d+1) 0)
  (e1:pg f' 0=⟨2,[],[⟨cC,a⟩,⟨cF (pg f 0) 2,b⟩]⟩) (e2:pg f' a=eZ (pg f 0) 2) (e3:pg f' b=eT (pg f 0) 2) (e4:∀p,p≠0->p≠a->p≠b->pg f' p=pg f p):
  sub f' (d+2) 0 cC none/\rws f' (d+2) 0=rws f (d+1) 0/\(pgs f' (d+2) 0).Perm (a::b::pgs f (d+1) 0):=by
 have hpx:pgs f (d+1) 0=0::iW f d (pg f 0):=sY
 obtain⟨c1,c2,c3⟩:=wS h
 obtain⟨d1,d2,d3,d4,d5,d6,d7⟩:=AY (m:=2) c1 (by omega) (by omega)
 rw[hpx] at hnd haf hbf
 have hxn:=(List.nodup_cons.1 hnd).1
 have hfrm:∀p∈iW f d (pg f 0),pg f' p=pg f p:=λp hp=>e4 p (λe=>hxn (e▸hp)) (λe=>haf (by rw[<-e];exact List.mem_cons_of_mem _ hp)) (λe=>hbf (by rw[<-e];exact List.mem_cons_of_mem _ hp))
 obtain⟨a1,a2,a3⟩:=oH (λp hp=>hfrm p (by rw[<-d5];exact List.mem_append_left _ hp)) d1
 obtain⟨b1,b2,b3⟩:=oH (λp hp=>hfrm p (by rw[<-d5];exact List.mem_append_right _ hp)) d2
 have s1:sub f' (d+1) a cC (some (cF (pg f 0) 2)):=CA ⟨by omega,ha.2⟩ (by rw[e2];exact a1) (fO _) (by rw[e2];omega) (λ_=>by rw[e2];omega)
 have hlt:=sub_lt s1 (by omega)
 have s2:sub f' (d+1) b (cF (pg f 0) 2) none:=CA ⟨by omega,hb.2⟩ (by rw[e3];exact b1) (lt_asymm hlt) (by rw[e3];omega) (λ_=>by rw[e3];omega)
 refine⟨mk_inner ⟨by omega,by omega⟩ e1 ⟨⟨s1,s2⟩,λk hk=> ?_, ?_,λk hk=> ?_,λk hk=>by cases hk;rfl⟩ (fO _) (by simp) (by simp), ?_, ?_⟩
 ·rcases List.mem_cons.1 hk with rfl|hk
  ·exact ha
  ·cases List.mem_singleton.1 hk;exact hb
 ·simp only[List.map_cons,List.map_nil]
  exact List.nodup_cons.2 ⟨by simpa using hab,by simp⟩
 ·rcases List.mem_cons.1 hk with rfl|hk
  ·rfl
  ·cases List.mem_singleton.1 hk;exact d3
 ·rw[rws,e1]
  simp only[List.flatMap_cons,List.flatMap_nil,List.append_nil,List.nil_append,Es,e2,e3,a2,b2,d4]
 ·rw[pgs,e1,hpx]
  simp only[List.flatMap_cons,List.flatMap_nil,List.append_nil,sY,e2,e3,a3,b3,<-d5]
  refine List.perm_iff_count.2 λa=> ?_
  simp only[List.count_cons,List.count_append]
  omega
structure KJ(f:List aA)(d:Nat)(n:Int)(lo:Key)(hi:Option Key)(l1 l2:List Kid)(x y:Kid):Prop where
 kids:Ac f (d+1) lo hi (l1++x::y::l2)
 cx:yW f d (AZ l1 lo x.least) (some y.least) (pg f x.page)
 cy:yW f d y.least (nxt hi l2) (pg f y.page)
 x4:aD (pg f x.page)<=4
 y4:aD (pg f y.page)<=4
 x2:2<=aD (pg f x.page)
 y2:2<=aD (pg f y.page)
 lt:ltK (AZ l1 lo x.least) y.least=true
 up:∀h,nxt hi l2=some h->ltK y.least h=true
 xp:0<x.page/\x.page<64
 yp:0<y.page/\y.page<64
 xn:x.page≠n
 yn:y.page≠n
 xy:x.page≠y.page
 below:∀p∈iW f d (pg f x.page)++iW f d (pg f y.page),p≠n/\p≠x.page/\p≠y.page
 apart:∀p∈iW f d (pg f x.page),p∉iW f d (pg f y.page)
 oth:∀k∈l1++l2,∀p∈pgs f (d+1) k.page,p≠n/\p≠x.page/\p≠y.page
theorem abw{n x y:Int}{A X Y B:List Int}(h:(n::(A++((x::X)++((y::Y)++B)))).Nodup):x≠n/\y≠n/\x≠y/\(∀p,(p∈X\/p∈Y)->p≠n/\p≠x/\p≠y)/\(∀p∈X,p∉Y)/\∀p,(p∈A\/p∈B)->p≠n/\p≠x/\p≠y:=by
 simp only[List.nodup_cons,List.nodup_append,List.mem_append,List.mem_cons,List.cons_append] at h
 grind
theorem Io{f:List aA}{d:Nat}{n:Int}{lo:Key}{hi:Option Key}{l1 l2:List Kid}{x y:Kid}(h:sub f (d+2) n lo hi)(hp:pg f n=⟨2,[],l1++x::y::l2⟩)(hlo:ltK lo cC=false)(hnd:(pgs f (d+2) n).Nodup):KJ f d n lo hi l1 l2 x y:=by
 obtain⟨l,e,_,_,hK⟩:=iB h
 obtain rfl:l=l1++x::y::l2:=by rw[hp] at e;injection e with _ _ e;exact e.symm
 have hpl:=sZ (d:=d+1) hp
 have hpx:pgs f (d+1) x.page=x.page::iW f d (pg f x.page):=sY
 have hpy:pgs f (d+1) y.page=y.page::iW f d (pg f y.page):=sY
 rw[hpl,List.flatMap_append,List.flatMap_cons,List.flatMap_cons,hpx,hpy] at hnd
 obtain⟨f1,f2,f3,f4,f5,f6⟩:=abw hnd
 obtain⟨k1,k2,k3⟩:=(QB (N:=[x,y]) (N':=[y]) rfl).1 hK.ok
 obtain⟨k2,k2'⟩:sub f (d+1) x.page (AZ l1 lo x.least) (some y.least)/\sub f (d+1) y.page y.least (nxt hi l2):=k2
 obtain⟨c1,c2,c3⟩:=wS k2
 obtain⟨b1,b2,b3⟩:=wS k2'
 have hxp:=hK.page x (by simp)
 have hyp:=hK.page y (by simp)
 refine⟨hK,c1,b1,c2,b2,c3 (Or.inl (by omega)),b3 (Or.inl (by omega)),sub_lt k2 (by omega),λh e=>by rw[e] at k2';exact sub_lt k2' (by omega),hxp,hyp,f1,f2,f3,λp hp=>f4 p (List.mem_append.1 hp),f5,λk hk p hp=>f6 p ?_⟩
 rcases List.mem_append.1 hk with hk|hk
 ·exact Or.inl (List.mem_flatMap.2 ⟨k,hk,hp⟩)
 ·exact Or.inr (List.mem_flatMap.2 ⟨k,hk,hp⟩)
end Go.Proofs.YtlcmdgpjiendmaaGreat
