import Derived.Test.YtlcmdgpjiendmaaGreatF6
import Derived.Test.YtlcmdgpjiendmaaGreatLst3
import Derived.Test.YtlcmdgpjiendmaaGreatRw
namespace Go.Proofs.YtlcmdgpjiendmaaGreat
open Go.Bur
set_option linter.unusedSimpArgs false
set_option linter.unusedVariables false
set_option maxRecDepth 100000
def FL(a b:Int):Int:=if a<b then-1 else if a>b then 1 else 0
def GA(a b:Key):Int:=if FL a.table b.table≠0 then FL a.table b.table else FL a.id b.id
theorem Hz(n:Nat)(a b:Int):jQ n a b=some (FL a b):=by
 unfold jQ rE FL
 by_cases h1:a<b
 ·simp[h1]
 ·by_cases h2:a>b
  ·simp[h1,h2]
  ·simp[h1,h2]
theorem Pk(n:Nat)(a b:Int):jF n a b=some (FL a b):=by
 unfold jF kY FL
 by_cases h1:a<b
 ·simp[h1]
 ·by_cases h2:a>b
  ·simp[h1,h2]
  ·simp[h1,h2]
theorem or2(n:Nat)(hn:3<=n)(a b:Int):Av n [a,b]=some (if a≠0 then a else b):=by
 obtain⟨n,rfl⟩:∃m,n=m+3:=⟨n-3,by omega⟩
 unfold Av DF
 by_cases ha:a=0
 ·by_cases hb:b=0
  ·subst ha hb;rfl
  ·subst ha
   have:(b !=0)=true:=by simpa using hb
   simp[aW,idx,IntKind.wrap_i64,this]
 ·have:(a !=0)=true:=by simpa using ha
  simp[aW,idx,this,ha]
theorem jO(n:Nat)(hn:3<=n)(a b:Key):dU n a b=some (GA a b):=by
 unfold dU
 rw[Hz,Pk]
 simp only[Option.bind_some]
 rw[or2 n hn]
 rfl
def ltK(a b:Key):Bool:=decide (GA a b<0)
theorem lO{a b:Key}:ltK a b=true↔a.table<b.table\/(a.table=b.table/\a.id<b.id):=by
 unfold ltK GA FL
 rw[decide_eq_true_iff]
 repeat' split
 all_goals omega
def iU(t:Int):Bool:=decide (t>=0)&&decide (t<3)
theorem Pm(n:Nat)(t:Int):rY n t=some (iU t):=by
 unfold rY iU jn
 cases decide (t>=0)<;>rfl
def eF(r:Row):Bool:=iU r.key.table&& !decide ((r.note.size:Int)>8)
theorem sV(n:Nat)(r:Row):gD n r=some (if eF r then 0 else 151):=by
 unfold gD eF
 rw[Pm]
 simp only[Option.bind_some,jn]
 cases iU r.key.table<;>cases decide ((r.note.size:Int)>8)<;>rfl
theorem VG(n:Nat)(i:Int)(r:Row):uG n i r=some (eF r):=by
 unfold uG
 rw[sV]
 cases eF r<;>rfl
def nQ:Option Key->List Row->Bool
 |_,[]=>true
 |p,r::t=>eF r&&(match p with|none=>true|some k=>ltK k r.key)&&nQ (some r.key) t
def lQ(l:List Row)(i:Nat):Option Key:=match i with
 |0=>none
 |j+1=>(l[j]?).map (·.key)
theorem LS(l:List Row)(hl:l.length<=1000):∀(t:List Row)(i:Nat),l.drop i=t->i<=l.length->
  dY (R:=Bool) (fun(i:Nat) (r:Row) (b:Bool)=>if b&&eF r&&(match lQ l i with|none=>true|some k=>ltK k r.key) then .inr true else .inl (some false)) some t i true=some (nQ (lQ l i) t)
 |[],i,h,hi=>rfl
 |r::t,i,h,hi=>by
  have hr:l[i]? =some r:=by
   have:=congrArg (λx=>x[0]?) h
   simpa using this
  have ht:l.drop (i+1)=t:=by rw[<-List.drop_drop,h];rfl
  have hlt:i<l.length:=by
   rcases Nat.lt_or_ge i l.length with h1|h1
   ·exact h1
   ·rw[List.drop_eq_nil_of_le h1] at h;cases h
  have ih:=LS l hl t (i+1) ht hlt
  have hp:lQ l (i+1)=some r.key:=by simp[lQ,hr]
  simp only[dY,nQ,Bool.true_and]
  rw[hp] at ih
  cases hk:(eF r&&match lQ l i with|none=>true|some k=>ltK k r.key) with
  |true=>simp only[if_true,Bool.true_and];exact ih
  |false=>rfl
theorem VH(n:Nat)(l:List Row)(hl:l.length<=1000)(hn:1003<=n):gO n l 4=some (decide (l.length<=4)&&nQ none l):=by
 show fI n (dL n) n (l,decide ((l.length:Int)<=4),l,(l.length:Int),((0:Nat):Int),())=_
 unfold fI
 refine(gH (R:=Bool) l (fun(i:Nat) (b:Bool)=>(l,b,l,(l.length:Int),(i:Int),()))
  (fun(i:Nat) (r:Row) (b:Bool)=>if b&&eF r&&(match lQ l i with|none=>true|some k=>ltK k r.key) then .inr true else .inl (some false)) some (λr i b x hx hi=> ?_) (λr b=> ?_) n 0 _ (by omega) (by omega)).trans ?_
 ·simp only[bH hi,cond_true,aR,hx,Option.bind_some,jn,VG,uF,dL]
  cases b with
  |false=>rfl
  |true=>
   cases ho:eF x with
   |false=>simp[ho]
   |true=>
    cases i with
    |zero=>simp[ho,lQ,Ph]
    |succ i=>
     have hi':l[i]? =some l[i]:=get_some (by omega)
     have h0:(((i+1:Nat):Int)==0)=false:=by simp;omega
     simp only[cond_true,h0,cond_false,lN (show i<4611686018427387904 by omega),aR,hi',Option.bind_some,jO n (by omega),lQ,Option.map_some,ho,Bool.true_and,aJ (show i+1<4611686018427387904 by omega)]
     show(cond (!ltK _ _) _ _:Option Bool)=_
     cases hk:ltK l[i].key x.key<;>simp[hk,ltK] at* <;>simp_all[ltK]
 ·simp only[bI (Nat.lt_irrefl _),cond_false,dL]
 ·rw[List.drop_zero]
  by_cases h4:l.length<=4
  ·rw[decide_eq_true (by omega:(l.length:Int)<=4),decide_eq_true h4,Bool.true_and]
   exact LS l hl l 0 rfl (by omega)
  ·rw[decide_eq_false (by omega:¬(l.length:Int)<=4),decide_eq_false h4]
   cases l with
   |nil=>simp at h4
   |cons x t=>rfl
def cC:Key:=⟨0,0⟩
def HB(p:Option Key)(q:List (Int×Bool))(k:Kid):Bool:=
 !kA false q k.page&&decide (k.page>0)&&decide (k.page<64)&&iU k.least.table&&(p.isSome||Key.eqb k.least cC)
def goK(p:Option Key)(q:List (Int×Bool))(k:Kid):Bool:=HB p q k&&(match p with|none=>true|some z=>ltK z k.least)
def mG:Option Key->List (Int×Bool)->List Kid->Bool
 |_,_,[]=>true
 |p,q,k::t=>goK p q k&&mG (some k.least) ((k.page,true)::q) t
def iM(l:List Kid)(i:Nat):Option Key:=match i with
 |0=>none
 |j+1=>(l[j]?).map (·.least)
theorem TU(n:Nat)(i:Nat)(k:Kid)(q:List (Int×Bool))(p:Option Key)(hp:p.isSome=decide (0<i))(hk:oA .i64 k.page=true)(hq:q.length<=1000):rF n (i:Int) k q=some (HB p q k,(k.page,true)::q):=by
 have h1:oB .i64 false q k.page=some (kA false q k.page):=by unfold oB;rw[hk]
 have h2:AQ .i64 q k.page true=some ((k.page,true)::q):=by unfold AQ;rw[hk,Bool.true_and,show Nat.ble q.length 1000000=true from Nat.ble_eq_true_of_le (by omega)]
 unfold rF HB
 rw[h1,Option.bind_some,h2,Option.bind_some,hp]
 have h3:decide ((i:Int)>0)=decide (0<i):=by simp
 simp only[jn,Pm,Option.bind_some,h3,cC]
 cases kA false q k.page<;>cases decide (k.page>0)<;>cases decide (k.page<64)<;>cases iU k.least.table<;>cases decide (0<i)<;>rfl
def Jb(l:List Kid)(i:Nat)(k:Kid)(s:Bool×List (Int×Bool)):Option (Bool×List (Int×Bool)) ⊕ (Bool×List (Int×Bool)):=
 if s.1 then(if goK (iM l i) s.2 k then .inr (true,(k.page,true)::s.2) else .inl (some (false,(k.page,true)::s.2))) else .inl (some (false,s.2))
theorem Jc(l:List Kid):∀(t:List Kid)(i:Nat)(q:List (Int×Bool)),l.drop i=t->i<=l.length->∃q',dY (R:=Bool×List (Int×Bool)) (Jb l) some t i (true,q)=some (mG (iM l i) q t,q')
 |[],i,q,h,hi=>⟨q,rfl⟩
 |k::t,i,q,h,hi=>by
  have hr:l[i]? =some k:=by
   have:=congrArg (λx=>x[0]?) h
   simpa using this
  have ht:l.drop (i+1)=t:=by rw[<-List.drop_drop,h];rfl
  have hlt:i<l.length:=by
   rcases Nat.lt_or_ge i l.length with h1|h1
   ·exact h1
   ·rw[List.drop_eq_nil_of_le h1] at h;cases h
  obtain⟨q',ih⟩:=Jc l t (i+1) ((k.page,true)::q) ht hlt
  have hp:iM l (i+1)=some k.least:=by simp[iM,hr]
  rw[hp] at ih
  simp only[dY,mG,Jb,if_true]
  cases hk:goK (iM l i) q k with
  |true=>exact⟨q',by simp only[if_true,Bool.true_and];exact ih⟩
  |false=>exact⟨_,rfl⟩
theorem TV(n:Nat)(l:List Kid)(hl:l.length<=1000)(hn:1003<=n)(hk:∀k∈l,oA .i64 k.page=true):∃q',gP n l 4 []=some (decide (l.length<=4)&&mG none [] l,q'):=by
 have hfin:∃q',dY (R:=Bool×List (Int×Bool)) (Jb l) some l 0 (decide ((l.length:Int)<=4),[])=some (decide (l.length<=4)&&mG none [] l,q'):=by
  by_cases h4:l.length<=4
  ·rw[decide_eq_true (by omega:(l.length:Int)<=4),decide_eq_true h4,Bool.true_and]
   exact Jc l l 0 [] rfl (by omega)
  ·rw[decide_eq_false (by omega:¬(l.length:Int)<=4),decide_eq_false h4]
   cases l with
   |nil=>simp at h4
   |cons x t=>exact⟨[],rfl⟩
 obtain⟨q',hq'⟩:=hfin
 refine⟨q', ?_⟩
 show fJ n (dM n) n (l,decide ((l.length:Int)<=4),l,(l.length:Int),((0:Nat):Int),[],())=_
 unfold fJ
 refine(iT (R:=Bool×List (Int×Bool)) l (fun(i:Nat) (s:Bool×List (Int×Bool))=>(l,s.1,l,(l.length:Int),(i:Int),s.2,()))
  (Jb l) some (λi s=>s.2.length<=i) (λi s x s' hx hi hs=> ?_) (λr i s x hx hi hs=> ?_) (λr s hs=> ?_) n 0 (decide ((l.length:Int)<=4),[]) (by omega) (by omega) (by simp)).trans hq'
 ·unfold Jb at hs
  split at hs
  ·split at hs
   ·injection hs with hs;subst hs;simp;exact hi
   ·cases hs
  ·cases hs
 ·obtain⟨b,q⟩:=s
  have hxk:oA .i64 x.page=true:=hk x (List.mem_of_getElem? hx)
  have hp:(iM l i).isSome=decide (0<i):=by
   cases i with
   |zero=>rfl
   |succ i=>simp[iM,get_some (show i<l.length by omega)]
  have hql:q.length<=i:=hs
  simp only[bH hi,cond_true,aR,hx,Option.bind_some,TU n i x q (iM l i) hp hxk (by omega),jW,dM,Bool.not_true,Bool.not_false,cond_false]
  cases b with
  |false=>rfl
  |true=>
   by_cases ho:HB (iM l i) q x=true
   ·simp only[cond_true,Jb,if_true,goK,ho,Bool.true_and]
    cases i with
    |zero=>simp[iM,Ph]
    |succ i=>
     have hi':l[i]? =some l[i]:=get_some (by omega)
     have h0:(((i+1:Nat):Int)==0)=false:=by simp;omega
     simp only[h0,cond_false,lN (show i<4611686018427387904 by omega),aR,hi',Option.bind_some,jO n (by omega),iM,Option.map_some,aJ (show i+1<4611686018427387904 by omega)]
     show(cond (!ltK _ _) _ _:Option (Bool×List (Int×Bool)))=_
     cases hkk:ltK l[i].least x.least<;>simp_all[ltK]
   ·have ho:HB (iM l i) q x=false:=by simpa using ho
    simp[Jb,goK,ho]
 ·simp only[bI (Nat.lt_irrefl _),cond_false,dM]
def aV(c:aA):Bool:=
 if c.kind=0 then decide (c.rows.length+c.kids.length=0)
 else if c.kind=1 then decide (c.kids.length=0)&&(decide (c.rows.length<=4)&&nQ none c.rows)
 else if c.kind=2 then decide (c.rows.length=0)&&(decide (1<c.kids.length)&&(decide (c.kids.length<=4)&&mG none [] c.kids)) else false
structure dS(c:aA):Prop where
 rows:c.rows.length<=1000
 kids:c.kids.length<=1000
 page:∀k∈c.kids,oA .i64 k.page=true
theorem VI{k:Nat}:(((k:Int))==0)=decide (k=0):=by
 by_cases h:k=0
 ·subst h;rfl
 ·rw[decide_eq_false h];simp;omega
theorem oL(a b:Int):(a==b)=decide (a=b):=by
 by_cases h:a=b
 ·subst h;simp
 ·rw[decide_eq_false h];simp[h]
theorem VJ(n:Nat)(l:List Kid)(hl:l.length<=1000)(hn:1003<=n)(hk:∀k∈l,oA .i64 k.page=true):xB n l=some (decide (1<l.length)&&(decide (l.length<=4)&&mG none [] l)):=by
 unfold xB
 obtain⟨q',h⟩:=TV n l hl hn hk
 rw[h]
 by_cases h1:1<l.length
 ·rw[decide_eq_true (by omega:(l.length:Int)>1),decide_eq_true h1];simp
 ·rw[decide_eq_false (by omega:¬(l.length:Int)>1),decide_eq_false h1];simp
theorem wM(n:Nat)(hn:1003<=n)(c:aA)(hc:dS c):jA n c=some (if aV c then 0 else 160):=by
 have hl:Aw n c.rows=some (decide (c.rows.length<=4)&&nQ none c.rows):=by
  unfold Aw;rw[VH n _ hc.rows hn];rfl
 have hi:=VJ n c.kids hc.kids hn hc.page
 unfold jA aV
 simp only[jn,BI,BJ,BK,hl,hi,Option.bind_some,wrap_add (show c.rows.length+c.kids.length<4611686018427387904 by have:=hc.rows;have:=hc.kids;omega),VI,oL c.kind]
 by_cases h0:c.kind=0
 ·rw[if_pos h0,decide_eq_true h0]
  cases decide (c.rows.length+c.kids.length=0)<;>rfl
 ·rw[if_neg h0,decide_eq_false h0]
  by_cases h1:c.kind=1
  ·rw[if_pos h1,decide_eq_true h1]
   cases decide (c.kids.length=0)<;>cases (decide (c.rows.length<=4)&&nQ none c.rows)<;>rfl
  ·rw[if_neg h1,decide_eq_false h1]
   by_cases h2:c.kind=2
   ·rw[if_pos h2,decide_eq_true h2]
    cases decide (c.rows.length=0)<;>cases (decide (1<c.kids.length)&&(decide (c.kids.length<=4)&&mG none [] c.kids))<;>rfl
   ·rw[if_neg h2,decide_eq_false h2];rfl
theorem CY{α σ R:Type}{fin:σ->Option R}{s:σ}:∀(l:List α)(i:Nat),dY (λ_ _ s=> .inr s) fin l i s=fin s
 |[],_=>rfl
 |_::t,i=>CY t (i+1)
theorem zO{α R:Type}{p:α->Bool}{v:Option R}{fin:Unit->Option R}:∀(l:List α)(i:Nat),dY (λ_ x (_:Unit)=>if p x then .inr () else .inl v) fin l i ()=if l.all p then fin () else v
 |[],_=>rfl
 |x::t,i=>by
  by_cases hp:p x=true
  ·simp only[dY,List.all_cons,hp,if_true,Bool.true_and];exact zO t (i+1)
  ·have hp:p x=false:=by simpa using hp
   simp[dY,hp]
theorem TW(n:Nat)(hn:1003<=n)(cs:List aA)(hl:cs.length<=1000):iE n n (0,cs,(cs.length:Int),0,())=some 0:=by
 show iE n n (0,cs,(cs.length:Int),((0:Nat):Int),())=some 0
 unfold iE
 refine(gH cs (fun(i:Nat) (_:Unit)=>((0:Int),cs,(cs.length:Int),(i:Int),())) (λ_ _ s=> .inr s) (λ_=>some 0) (λr i s x hx hi=> ?_) (λr s=> ?_) n 0 () (by omega) (by omega)).trans ?_
 ·simp only[bH hi,cond_true,aR,hx,Option.bind_some,jn,aJ (show i<4611686018427387904 by omega)]
  rfl
 ·simp only[bI (Nat.lt_irrefl _),cond_false]
 ·exact CY _ _
theorem Jd(n:Nat)(hn:1003<=n)(cs:List aA)(hl:cs.length<=1000)(hc:∀c∈cs,dS c):dG n 0 cs=some (if cs.all aV then 0 else 160):=by
 show jX n n (0,cs,cs,(cs.length:Int),((0:Nat):Int),())=_
 unfold jX
 refine(gH cs (fun(i:Nat) (_:Unit)=>((0:Int),cs,cs,(cs.length:Int),(i:Int),())) (λ_ c _=>if aV c then .inr () else .inl (some 160)) (λ_=>some 0) (λr i s x hx hi=> ?_) (λr s=> ?_) n 0 () (by omega) (by omega)).trans ?_
 ·simp only[bH hi,cond_true,aR,hx,Option.bind_some,wM n hn x (hc x (List.mem_of_getElem? hx)),aJ (show i<4611686018427387904 by omega)]
  cases aV x<;>rfl
 ·simp only[bI (Nat.lt_irrefl _),cond_false]
  exact TW n hn cs hl
 ·rw[List.drop_zero,zO]
  cases cs.all aV<;>rfl
def aD(c:aA):Nat:=c.rows.length+c.kids.length
theorem size_eq(n:Nat)(c:aA)(hc:dS c):eL n c=some (aD c:Int):=by
 unfold eL
 rw[wrap_add (by have:=hc.rows;have:=hc.kids;omega)];rfl
def cS(c:aA):Bool:=(decide (c.kind=1)||decide (c.kind=2))&&decide (aD c=4)
theorem NJ{k m:Nat}:(((k:Int))==(m:Int))=decide (k=m):=by
 rw[oL]
 by_cases h:k=m
 ·subst h;simp
 ·rw[decide_eq_false h,decide_eq_false (by omega)]
theorem Ig(n:Nat)(c:aA)(hc:dS c):qK n c=some (cS c):=by
 unfold qK cS
 have h4:(((aD c:Nat):Int)==4)=decide (aD c=4):=NJ (m:=4)
 simp only[jn,size_eq n c hc,Option.bind_some,h4,oL c.kind]
 by_cases h1:c.kind=1
 ·rw[decide_eq_true h1]
  cases decide (aD c=4)<;>simp[h1]
 ·rw[decide_eq_false h1]
  cases decide (c.kind=2)<;>cases decide (aD c=4)<;>rfl
theorem vD(n:Nat)(l:List Row)(h:l.length<=1000):dV n l=some l:=Ja (by omega) (by decide)
theorem qV(n:Nat)(l:List Kid)(h:l.length<=1000):cO n l=some l:=Ja (by omega) (by decide)
theorem SG(n:Nat)(l:List Row)(h:l.length<=1000)(k:Nat)(hk:k<=l.length):jJ n l (k:Int)=some (l.take k,l.drop k):=by
 unfold jJ
 rw[show sub l 0 (k:Int)=some (l.take k) from(Cm (Nat.zero_le k) hk).trans (by simp)]
 rw[show sub l (k:Int) (l.length:Int)=some (l.drop k) from(Cm hk (Nat.le_refl _)).trans (by rw[List.take_of_length_le (by simp)])]
 simp only[Option.bind_some]
 rw[vD n _ (by simp;omega),Option.bind_some,vD n _ (by simp;omega),Option.bind_some]
theorem SH(n:Nat)(l:List Kid)(h:l.length<=1000)(k:Nat)(hk:k<=l.length):jK n l (k:Int)=some (l.take k,l.drop k):=by
 unfold jK
 rw[show sub l 0 (k:Int)=some (l.take k) from(Cm (Nat.zero_le k) hk).trans (by simp)]
 rw[show sub l (k:Int) (l.length:Int)=some (l.drop k) from(Cm hk (Nat.le_refl _)).trans (by rw[List.take_of_length_le (by simp)])]
 simp only[Option.bind_some]
 rw[qV n _ (by simp;omega),Option.bind_some,qV n _ (by simp;omega),Option.bind_some]
theorem Pn(n:Nat)(k:Key)(x:Kid)(t:List Kid):qL n k (x::t)=some (x.least,Kid.mk k x.page::t):=by
 unfold qL
 rw[show idx (x::t) 0=some x from pM _]
 simp only[Option.bind_some]
 rw[show put (x::t) 0 (Kid.mk k x.page)=some (Kid.mk k x.page::t) from EJ (l:=x::t) (i:=0) (by simp)]
 rfl
theorem Rv(n:Nat)(hn:1003<=n)(a b:List Row)(ha:a.length<=1000)(hb:b.length<=1000):pH n [a,b]=some (a++b):=by
 have hg:nA n ((a.length+b.length:Nat):Int)=some []:=by
  show tZ 40 _=_
  unfold tZ
  rw[if_pos (by omega),Int.toNat_natCast,FK (by omega)]
 have h3:fD n n ([a,b],2,0,[],())=some (a++b):=by
  show fD n n ([a,b],(([a,b]:List (List Row)).length:Int),((0:Nat):Int),[],())=_
  unfold fD
  refine(gH [a,b] (fun(i:Nat) (s:List Row)=>([a,b],(([a,b]:List (List Row)).length:Int),(i:Int),s,())) (λ_ x s=>match app 40 s x with|some l=> .inr l|none=> .inl none) (λs=>some s) (λr i s x hx hi=> ?_) (λr s=> ?_) n 0 [] (by simp) (by simp;omega)).trans ?_
  ·simp only[bH hi,cond_true,aR,hx,Option.bind_some,aJ (show i<4611686018427387904 by simp at hi;omega)]
   cases app 40 s x<;>rfl
  ·simp only[bI (Nat.lt_irrefl _),cond_false]
  ·have h1:app 40 ([]:List Row) a=some a:=by rw[cE (by simpa using (by omega:a.length<=1000000)) (by decide)];rfl
   have h2:app 40 a b=some (a++b):=cE (by omega) (by decide)
   simp only[List.drop_zero,dY,h1,h2]
 show kO n n ([a,b],0,[a,b],(([a,b]:List (List Row)).length:Int),((0:Nat):Int),())=_
 unfold kO
 refine(gH [a,b] (fun(i:Nat) (s:Int)=>([a,b],s,[a,b],(([a,b]:List (List Row)).length:Int),(i:Int),())) (λ_ x s=>if IntKind.wrap .i64 (s+(x.length:Int))<0 then .inl none else .inr (IntKind.wrap .i64 (s+(x.length:Int)))) (λs=>(nA n s).bind λy=>fD n n ([a,b],2,0,y,())) (λr i s x hx hi=> ?_) (λr s=> ?_) n 0 0 (by simp) (by simp;omega)).trans ?_
 ·simp only[bH hi,cond_true,aR,hx,Option.bind_some,jn,sM,aJ (show i<4611686018427387904 by simp at hi;omega)]
  by_cases hs:IntKind.wrap .i64 (s+(x.length:Int))<0
  ·rw[decide_eq_true hs,if_pos hs];rfl
  ·rw[decide_eq_false hs,if_neg hs];rfl
 ·simp only[bI (Nat.lt_irrefl _),cond_false]
  rfl
 ·have e1:IntKind.wrap .i64 (0+(a.length:Int))=(a.length:Int):=by rw[Int.zero_add];exact cN (by omega)
  have e2:IntKind.wrap .i64 ((a.length:Int)+(b.length:Int))=((a.length+b.length:Nat):Int):=wrap_add (by omega)
  simp only[List.drop_zero,dY,e1,if_neg (show ¬(a.length:Int)<0 by omega),e2,if_neg (show ¬((a.length+b.length:Nat):Int)<0 by omega),hg,Option.bind_some,h3]
theorem Rw(n:Nat)(hn:1003<=n)(a b:List Kid)(ha:a.length<=1000)(hb:b.length<=1000):pI n [a,b]=some (a++b):=by
 have hg:nB n ((a.length+b.length:Nat):Int)=some []:=by
  show tZ 24 _=_
  unfold tZ
  rw[if_pos (by omega),Int.toNat_natCast,FK (by omega)]
 have h3:fE n n ([a,b],2,0,[],())=some (a++b):=by
  show fE n n ([a,b],(([a,b]:List (List Kid)).length:Int),((0:Nat):Int),[],())=_
  unfold fE
  refine(gH [a,b] (fun(i:Nat) (s:List Kid)=>([a,b],(([a,b]:List (List Kid)).length:Int),(i:Int),s,())) (λ_ x s=>match app 24 s x with|some l=> .inr l|none=> .inl none) (λs=>some s) (λr i s x hx hi=> ?_) (λr s=> ?_) n 0 [] (by simp) (by simp;omega)).trans ?_
  ·simp only[bH hi,cond_true,aR,hx,Option.bind_some,aJ (show i<4611686018427387904 by simp at hi;omega)]
   cases app 24 s x<;>rfl
  ·simp only[bI (Nat.lt_irrefl _),cond_false]
  ·have h1:app 24 ([]:List Kid) a=some a:=by rw[cE (by simpa using (by omega:a.length<=1000000)) (by decide)];rfl
   have h2:app 24 a b=some (a++b):=cE (by omega) (by decide)
   simp only[List.drop_zero,dY,h1,h2]
 show kP n n ([a,b],0,[a,b],(([a,b]:List (List Kid)).length:Int),((0:Nat):Int),())=_
 unfold kP
 refine(gH [a,b] (fun(i:Nat) (s:Int)=>([a,b],s,[a,b],(([a,b]:List (List Kid)).length:Int),(i:Int),())) (λ_ x s=>if IntKind.wrap .i64 (s+(x.length:Int))<0 then .inl none else .inr (IntKind.wrap .i64 (s+(x.length:Int)))) (λs=>(nB n s).bind λy=>fE n n ([a,b],2,0,y,())) (λr i s x hx hi=> ?_) (λr s=> ?_) n 0 0 (by simp) (by simp;omega)).trans ?_
 ·simp only[bH hi,cond_true,aR,hx,Option.bind_some,jn,sO,aJ (show i<4611686018427387904 by simp at hi;omega)]
  by_cases hs:IntKind.wrap .i64 (s+(x.length:Int))<0
  ·rw[decide_eq_true hs,if_pos hs];rfl
  ·rw[decide_eq_false hs,if_neg hs];rfl
 ·simp only[bI (Nat.lt_irrefl _),cond_false]
  rfl
 ·have e1:IntKind.wrap .i64 (0+(a.length:Int))=(a.length:Int):=by rw[Int.zero_add];exact cN (by omega)
  have e2:IntKind.wrap .i64 ((a.length:Int)+(b.length:Int))=((a.length+b.length:Nat):Int):=wrap_add (by omega)
  simp only[List.drop_zero,dY,e1,if_neg (show ¬(a.length:Int)<0 by omega),e2,if_neg (show ¬((a.length+b.length:Nat):Int)<0 by omega),hg,Option.bind_some,h3]
end Go.Proofs.YtlcmdgpjiendmaaGreat
namespace Go.Proofs.YtlcmdgpjiendmaaGreat
open Go.Bur
set_option linter.unusedSimpArgs false
set_option linter.unusedVariables false
set_option maxRecDepth 100000
theorem Cn{α R:Type}{p:α->Bool}{v:Option R}{fin:Unit->Option R}:∀(l:List α)(i:Nat),dY (λ_ x (_:Unit)=>if p x then .inl v else .inr ()) fin l i ()=if l.any p then v else fin ()
 |[],_=>rfl
 |x::t,i=>by
  by_cases hp:p x=true
  ·simp[dY,hp]
  ·have hp:p x=false:=by simpa using hp
   simp only[dY,hp,List.any_cons,Bool.false_or];exact Cn t (i+1)
theorem GB{x:Int}(h:inI .i64 x):oA .i64 x=true:=by
 unfold oA
 obtain⟨h1,h2⟩:=h
 simp[Lit.wf,h1]
 exact h2
theorem NK(r:Row):Row.eqb r r=true:=by simp[Row.eqb]
theorem X0(r:Kid):Kid.eqb r r=true:=by simp[Kid.eqb]
theorem X3(n:Nat)(hn:1003<=n)(c:aA)(hc:dS c):lC n c=some (aV c&&cS c):=by
 unfold lC
 simp only[wM n hn c hc,Ig n c hc,Option.bind_some,jn]
 cases aV c<;>rfl
theorem X4(n:Nat)(hn:1003<=n)(c:aA)(hc:dS c):vA n c=some (if aV c then(aD c:Int) else 0):=by
 unfold vA
 simp only[wM n hn c hc,size_eq n c hc,Option.bind_some,jn]
 cases aV c<;>rfl
theorem VK(n:Nat)(hn:1003<=n)(c:aA)(hc:dS c):wD n c=some (aV c&&(!decide (c.kind=0)&&decide (aD c<=2))):=by
 unfold wD
 simp only[wM n hn c hc,size_eq n c hc,Option.bind_some,jn]
 have h2:decide ((aD c:Int)<=2)=decide (aD c<=2):=by simp;omega
 have h3:(c.kind !=0)= !decide (c.kind=0):=by rw[bne,oL]
 rw[h2,h3]
 cases aV c<;>cases decide (c.kind=0)<;>rfl
theorem Je(n:Nat)(hn:1003<=n)(cs:List aA)(hl:cs.length<=1000)(hc:∀c∈cs,dS c):vR n cs=some (if cs.all aV then 0 else 2):=by
 unfold vR
 rw[Jd n hn cs hl hc]
 cases cs.all aV<;>rfl
theorem ZS{α:Type}{l:List α}(h:l.length=4):∃a b c d,l=[a,b,c,d]:=by
 match l,h with
 |[a,b,c,d],_=>exact⟨a,b,c,d,rfl⟩
end Go.Proofs.YtlcmdgpjiendmaaGreat
namespace Go.Proofs.YtlcmdgpjiendmaaGreat
open Go.Bur
set_option linter.unusedSimpArgs false
set_option linter.unusedVariables false
set_option maxRecDepth 100000
instance:DecidableEq Key:=λa b=>decidable_of_iff (a.table=b.table/\a.id=b.id) (by cases a;cases b;simp)
theorem CZ(a b:Key):Key.eqb a b=decide (a=b):=by
 obtain⟨a1,a2⟩:=a
 obtain⟨b1,b2⟩:=b
 by_cases h1:a1=b1<;>by_cases h2:a2=b2<;>simp[Key.eqb,h1,h2]
theorem fO(a:Key):ltK a a=false:=by
 cases h:ltK a a with
 |false=>rfl
 |true=>rw[lO] at h;omega
theorem iV{a b c:Key}(h1:ltK a b=true)(h2:ltK b c=true):ltK a c=true:=by
 rw[lO] at*;omega
theorem LU{a b:Key}(h1:a≠b)(h2:ltK b a=false):ltK a b=true:=by
 cases h:ltK a b with
 |true=>rfl
 |false=>
  exfalso;apply h1
  have h3:¬ltK a b=true:=by rw[h];decide
  have h4:¬ltK b a=true:=by rw[h2];decide
  rw[lO] at h3 h4
  obtain⟨a1,a2⟩:=a
  obtain⟨b1,b2⟩:=b
  simp only at h3 h4
  have:a1=b1:=by omega
  have:a2=b2:=by omega
  simp[*]
def Srt(l:List Row):Prop:=l.Pairwise λa b=>ltK a.key b.key=true
theorem wN:∀(p:Option Key)(l:List Row),nQ p l=true↔(∀r∈l,eF r=true)/\Srt l/\∀k,p=some k->∀r∈l,ltK k r.key=true
 |p,[]=>by simp[nQ,Srt]
 |p,r::t=>by
  simp only[nQ,Bool.and_eq_true,wN (some r.key) t,Srt,List.pairwise_cons]
  constructor
  ·rintro⟨⟨h1,h2⟩,h3,h4,h5⟩
   refine⟨λx hx=> ?_,⟨λx hx=>h5 _ rfl x hx,h4⟩,λk hk x hx=> ?_⟩
   ·rcases List.mem_cons.1 hx with rfl|hx
    ·exact h1
    ·exact h3 x hx
   ·subst hk
    rcases List.mem_cons.1 hx with rfl|hx
    ·exact h2
    ·exact iV h2 (h5 _ rfl x hx)
  ·rintro⟨h1,⟨h2,h3⟩,h4⟩
   refine⟨⟨h1 r (by simp), ?_⟩,λx hx=>h1 x (by simp[hx]),h3,λk hk x hx=>by cases hk;exact h2 x hx⟩
   cases p with
   |none=>rfl
   |some k=>exact h4 k rfl r (by simp)
def at_(l:List Row)(k:Key):Option Nat:=l.findIdx? λr=>decide (r.key=k)
def ixI(o:Option Nat):Int:=match o with
 |some i=>(i:Int)
 |none=> -1
theorem C0{p:Row->Bool}:∀(l:List Row)(i:Nat),dY (R:=Int) (λi x (_:Unit)=>if p x then .inl (some (i:Int)) else .inr ()) (λ_=>some (-1)) l i ()=some (ixI ((l.findIdx? p).map (· +i)))
 |[],i=>rfl
 |x::t,i=>by
  by_cases hp:p x=true
  ·simp[dY,hp,List.findIdx?_cons,ixI]
  ·have hp:p x=false:=by simpa using hp
   have ih:=C0 (p:=p) t (i+1)
   simp only[dY,hp,List.findIdx?_cons,Bool.false_eq_true,if_false]
   rw[ih]
   cases t.findIdx? p with
   |none=>rfl
   |some j=>simp[ixI];omega
theorem VL(n:Nat)(hn:1003<=n)(l:List Row)(hl:l.length<=1000)(k:Key):gQ n l k=some (ixI (at_ l k)):=by
 show fL n n (l,k,(l.length:Int),((0:Nat):Int),())=_
 unfold fL
 refine(gH l (fun(i:Nat) (_:Unit)=>(l,k,(l.length:Int),(i:Int),())) (λi x _=>if decide (x.key=k) then .inl (some (i:Int)) else .inr ()) (λ_=>some (-1)) (λr i s x hx hi=> ?_) (λr s=> ?_) n 0 () (by omega) (by omega)).trans ?_
 ·simp only[bH hi,cond_true,aR,hx,Option.bind_some,aJ (show i<4611686018427387904 by omega),Ey,CZ]
  by_cases h:x.key=k
  ·simp[h]
  ·simp[h]
 ·simp only[bI (Nat.lt_irrefl _),cond_false]
 ·rw[List.drop_zero,C0]
  unfold at_
  cases l.findIdx? λr=>decide (r.key=k)<;>rfl
theorem find_eq(n:Nat)(hn:1003<=n)(l:List Row)(hl:l.length<=1000)(k:Key):zL n l k=some (match at_ l k with|some i=>((i:Int),true)|none=>(0,false)):=by
 unfold zL
 rw[VL n hn l hl]
 cases at_ l k with
 |none=>rfl
 |some i=>
  simp only[Option.bind_some,ixI]
  rw[if_neg (by omega),decide_eq_true (by omega)]
def Po(l:List Row)(k:Key):Option Nat:=l.findIdx? λr=>ltK k r.key
theorem Jf{a b:Key}:decide (GA a b>0)=ltK b a:=by
 unfold ltK
 rw[Bool.eq_iff_iff,decide_eq_true_iff,decide_eq_true_iff]
 unfold GA FL
 repeat' split
 all_goals omega
theorem VM(n:Nat)(hn:1003<=n)(l:List Row)(hl:l.length<=1000)(r:Row):gR n l r=some (ixI (Po l r.key)):=by
 show fM n n (l,r,(l.length:Int),((0:Nat):Int),())=_
 unfold fM
 refine(gH l (fun(i:Nat) (_:Unit)=>(l,r,(l.length:Int),(i:Int),())) (λi x _=>if ltK r.key x.key then .inl (some (i:Int)) else .inr ()) (λ_=>some (-1)) (λq i s x hx hi=> ?_) (λr s=> ?_) n 0 () (by omega) (by omega)).trans ?_
 ·simp only[bH hi,cond_true,aR,hx,Option.bind_some,aJ (show i<4611686018427387904 by omega),Ez,jO n (by omega),Jf]
  by_cases h:ltK r.key x.key=true
  ·simp[h]
  ·have h:ltK r.key x.key=false:=by simpa using h
   simp[h]
 ·simp only[bI (Nat.lt_irrefl _),cond_false]
 ·rw[List.drop_zero,C0]
  unfold Po
  cases l.findIdx? λx=>ltK r.key x.key<;>rfl
theorem qU{p:Row->Bool}:∀{l:List Row} {i:Nat},l.findIdx? p=some i->∃pre x post,l=pre++x::post/\pre.length=i/\p x=true/\∀y∈pre,p y=false
 |[],i,h=>by simp at h
 |a::t,i,h=>by
  rw[List.findIdx?_cons] at h
  by_cases hp:p a=true
  ·rw[if_pos hp] at h
   injection h with h
   exact⟨[],a,t,rfl,by simpa using h,hp,by simp⟩
  ·rw[if_neg hp] at h
   obtain⟨j,hj,rfl⟩:=Option.map_eq_some_iff.1 h
   obtain⟨pre,x,post,rfl,h2,h3,h4⟩:=qU hj
   refine⟨a::pre,x,post,rfl,by simp[h2],h3,λy hy=> ?_⟩
   rcases List.mem_cons.1 hy with rfl|hy
   ·simpa using hp
   ·exact h4 y hy
theorem FM{p:Row->Bool}{l:List Row}(h:l.findIdx? p=none):∀x∈l,p x=false:=by
 intro x hx
 have:=List.findIdx?_eq_none_iff.1 h x hx
 simpa using this
def cL(l:List Row)(k:Key):Option Row:=l.find? λr=>decide (r.key=k)
theorem zP(a b:List Row)(k:Key):cL (a++b) k=(cL a k).or (cL b k):=by simp[cL,List.find?_append]
theorem EK(x:Row)(t:List Row)(k:Key):cL (x::t) k=if x.key=k then some x else cL t k:=by
 unfold cL
 by_cases h:x.key=k<;>simp[List.find?_cons,h]
theorem nR{l:List Row}{k:Key}(h:∀x∈l,x.key≠k):cL l k=none:=by
 unfold cL
 simpa[List.find?_eq_none] using h
structure Cut(k:Key)(pre post:List Row):Prop where
 lo:∀y∈pre,ltK y.key k=true
 hi:∀z∈post,ltK k z.key=true
theorem Cut.ne1{k:Key}{pre post:List Row}(h:Cut k pre post):∀y∈pre,y.key≠k:=λy hy e=>by
 have:=h.lo y hy;rw[e,fO] at this;cases this
theorem Cut.ne2{k:Key}{pre post:List Row}(h:Cut k pre post):∀y∈post,y.key≠k:=λy hy e=>by
 have:=h.hi y hy;rw[e,fO] at this;cases this
theorem FN{pre post:List Row}{x:Row}(h:Srt (pre++x::post)):Cut x.key pre post/\Srt (pre++post):=by
 unfold Srt at*
 rw[List.pairwise_append,List.pairwise_cons] at h
 obtain⟨h1,⟨h2,h3⟩,h4⟩:=h
 refine⟨⟨λy hy=>h4 y hy x (by simp),h2⟩, ?_⟩
 rw[List.pairwise_append]
 exact⟨h1,h3,λa ha b hb=>h4 a ha b (by simp[hb])⟩
theorem NL{pre post:List Row}{r:Row}(h:Srt (pre++post))(hc:Cut r.key pre post):Srt (pre++r::post):=by
 unfold Srt at*
 rw[List.pairwise_append] at h
 obtain⟨h1,h3,h4⟩:=h
 rw[List.pairwise_append,List.pairwise_cons]
 refine⟨h1,⟨hc.hi,h3⟩,λa ha b hb=> ?_⟩
 rcases List.mem_cons.1 hb with rfl|hb
 ·exact hc.lo a ha
 ·exact h4 a ha b hb
theorem VN{k:Key}{a b c d:List Row}(h1:Cut k a b)(h2:Cut k c d)(h:a++b=c++d):a=c/\b=d:=by
 have key:∀{a b:List Row},Cut k a b->(a++b).takeWhile (λy=>ltK y.key k)=a:=λ{a b} hc=>by
  rw[List.takeWhile_append_of_pos (by intro y hy;exact hc.lo y hy)]
  have:b.takeWhile (λy=>ltK y.key k)=[]:=by
   cases b with
   |nil=>rfl
   |cons z t=>
    have hz:=hc.hi z (by simp)
    have:ltK z.key k=false:=by
     cases hh:ltK z.key k with
     |false=>rfl
     |true=>have:=iV hz hh;rw[fO] at this;cases this
    simp[List.takeWhile_cons,this]
  rw[this,List.append_nil]
 have e:a=c:=by rw[<-key h1,h,key h2]
 subst e
 exact⟨rfl,List.append_cancel_left h⟩
theorem place{l:List Row}{k:Key}(hs:Srt l)(hn:at_ l k=none):∃pre post,l=pre++post/\Cut k pre post/\(match Po l k with|some i=>i|none=>l.length)=pre.length:=by
 have hne:∀x∈l,x.key≠k:=λx hx=>by simpa using FM hn x hx
 cases ha:Po l k with
 |none=>
  have h1:=FM ha
  exact⟨l,[],by simp,⟨λy hy=>LU (hne y hy) (h1 y hy),by simp⟩,rfl⟩
 |some i=>
  obtain⟨pre,x,post,rfl,h2,h3,h4⟩:=qU ha
  refine⟨pre,x::post,rfl,⟨λy hy=>LU (hne y (by simp[hy])) (h4 y hy),λz hz=> ?_⟩,h2.symm⟩
  rcases List.mem_cons.1 hz with rfl|hz
  ·exact h3
  ·exact iV h3 ((FN hs).1.hi z hz)
def ZT:Row:=⟨⟨0,0⟩,0,ByteArray.empty⟩
def bT:aA:=⟨0,[],[]⟩
def Bw(c:aA):Int:=if aV c then(if c.kind=1 then 0 else 211) else 160
theorem GC(n:Nat)(hn:1003<=n)(c:aA)(hc:dS c):dG n 1 [c]=some (Bw c):=by
 show jX n n (1,[c],[c],(([c]:List aA).length:Int),((0:Nat):Int),())=_
 unfold jX
 refine(gH [c] (fun(i:Nat) (_:Unit)=>((1:Int),[c],[c],(([c]:List aA).length:Int),(i:Int),())) (λ_ c _=>if aV c then .inr () else .inl (some 160)) (λ_=>if c.kind=1 then some 0 else some 211) (λr i s x hx hi=> ?_) (λr s=> ?_) n 0 () (by simp) (by simp;omega)).trans ?_
 ·have hx':x=c:=by have:=List.mem_of_getElem? hx;simpa using this
  subst hx'
  simp only[bH hi,cond_true,aR,hx,Option.bind_some,wM n hn x hc,aJ (show i<4611686018427387904 by simp at hi;omega)]
  cases aV x<;>rfl
 ·simp only[bI (Nat.lt_irrefl _),cond_false]
  show iE n n (1,[c],(([c]:List aA).length:Int),((0:Nat):Int),())=_
  unfold iE
  refine(gH [c] (fun(i:Nat) (_:Unit)=>((1:Int),[c],(([c]:List aA).length:Int),(i:Int),())) (λ_ c _=>if decide (c.kind=1) then .inr () else .inl (some 211)) (λ_=>some 0) (λr i s x hx hi=> ?_) (λr s=> ?_) n 0 () (by simp) (by simp;omega)).trans ?_
  ·simp only[bH hi,cond_true,aR,hx,Option.bind_some,jn,aJ (show i<4611686018427387904 by simp at hi;omega)]
   have h1:((1:Int)==1)=true:=by decide
   have h2:((1:Int)==2)=false:=by decide
   have h3:(x.kind !=1)= !decide (x.kind=1):=by rw[bne,oL]
   rw[h1,h2,h3]
   cases decide (x.kind=1)<;>rfl
  ·simp only[bI (Nat.lt_irrefl _),cond_false]
  ·rw[List.drop_zero,zO]
   by_cases h:c.kind=1<;>simp[h]
 ·rw[List.drop_zero,zO]
  unfold Bw
  by_cases hck:aV c=true<;>by_cases h:c.kind=1<;>simp[hck,h]
def ofF:Option Row->Row×Int
 |some r=>(r,0)
 |none=>(ZT,4)
def VO(c:aA)(k:Key):Row×Int:=if Bw c=0 then ofF (cL c.rows k) else(ZT,Bw c)
theorem NM{l:List Row}{k:Key}:cL l k=(match at_ l k with|some i=>l[i]? |none=>none):=by
 cases h:at_ l k with
 |none=>exact nR λx hx=>by simpa using FM h x hx
 |some i=>
  obtain⟨pre,x,post,rfl,rfl,h3,h4⟩:=qU h
  have h3:x.key=k:=by simpa using h3
  rw[zP,nR (λy hy=>by simpa using h4 y hy),EK,if_pos h3]
  simp
theorem get_eq(n:Nat)(hn:1003<=n)(c:aA)(hc:dS c)(k:Key):BN n c k=some (VO c k):=by
 unfold BN VO
 rw[GC n hn c hc]
 simp only[Option.bind_some]
 by_cases he:Bw c=0
 ·rw[if_pos he,show(Bw c !=0)=false from by simp[he],cond_false,find_eq n hn _ hc.rows,NM]
  cases ha:at_ c.rows k with
  |none=>rfl
  |some i=>
   obtain⟨pre,x,post,h1,rfl,_⟩:=qU ha
   have hi:c.rows[pre.length]? =some x:=by rw[h1];simp
   simp only[Option.bind_some,Bool.not_true,cond_false,aR,hi]
   rfl
 ·rw[if_neg he,show(Bw c !=0)=true from by simp[he]]
  rfl
theorem EL{c:aA}(he:Bw c=0):c.kind=1/\c.kids=[]/\aV c=true/\c.rows.length<=4/\(∀r∈c.rows,eF r=true)/\Srt c.rows:=by
 unfold Bw at he
 split at he
 ·rename_i hck
  split at he
  ·rename_i hk
   have h:=hck
   unfold aV at h
   rw[if_neg (by rw[hk];decide),if_pos hk] at h
   simp only[Bool.and_eq_true,decide_eq_true_iff] at h
   obtain⟨h1,h2,h3⟩:=h
   rw[wN] at h3
   exact⟨hk,List.eq_nil_of_length_eq_zero h1,hck,h2,h3.1,h3.2.1⟩
  ·cases he
 ·cases he
theorem SI{l:List Row}(h1:l.length<=4)(h2:∀r∈l,eF r=true)(h3:Srt l):aV ⟨1,l,[]⟩=true/\Bw ⟨1,l,[]⟩=0/\dS ⟨1,l,[]⟩:=by
 have h:aV ⟨1,l,[]⟩=true:=by
  unfold aV
  rw[if_neg (by show ¬(1:Int)=0;decide),if_pos rfl]
  simp only[Bool.and_eq_true,decide_eq_true_iff]
  exact⟨rfl,h1,(wN _ _).2 ⟨h2,h3,λk hk=>by cases hk⟩⟩
 exact⟨h,by unfold Bw;rw[if_pos h,if_pos rfl],⟨by simp;omega,by simp,by simp⟩⟩
theorem Jg(n:Nat)(hn:1003<=n)(c:aA)(hc:dS c)(hck:aV c=true):mO n c=some (c,0):=by
 unfold mO
 rw[Je n hn [c] (by simp) (by intro d hd;simp at hd;subst hd;exact hc)]
 simp[hck]
theorem ZU(n:Nat)(hn:1003<=n)(c:aA)(hc:dS c)(r:Row)(he:Bw c=0)(hr:eF r=true){pre post:List Row}{x:Row}(hl:c.rows=pre++x::post)(hx:x.key=r.key):kJ n c r=some (⟨1,pre++r::post,[]⟩,0):=by
 obtain⟨f1,f2,f3,f4,f5,f6⟩:=EL he
 rw[hl] at f4 f5 f6
 have hcut:=(FN f6)
 rw[hx] at hcut
 have hat:at_ c.rows r.key=some pre.length:=by
  unfold at_
  rw[hl,List.findIdx?_append]
  have:pre.findIdx? (λy=>decide (y.key=r.key))=none:=by
   rw[List.findIdx?_eq_none_iff]
   intro y hy
   simpa using hcut.1.ne1 y hy
  rw[this]
  simp[List.findIdx?_cons,hx]
 obtain⟨g1,g2,g3⟩:=SI (l:=pre++r::post) (by simpa using f4) (λy hy=>by
  simp only[List.mem_append,List.mem_cons] at hy
  rcases hy with h|h|h
  ·exact f5 y (by simp[h])
  ·subst h;exact hr
  ·exact f5 y (by simp[h])) (NL hcut.2 hcut.1)
 have hi:c.rows[pre.length]? =some x:=by rw[hl];simp
 have hset:put c.rows ((pre.length:Nat):Int) r=some (pre++r::post):=by
  rw[EJ (by rw[hl];simp),hl]
  simp
 unfold kJ
 rw[GC n hn c hc,he]
 simp only[Option.bind_some,show((0:Int) !=0)=false from by decide,cond_false,sV,hr,if_true,vD n c.rows hc.rows,find_eq n hn _ hc.rows,hat,jn,BU,cond_true,aR,hi,hset,fZ,Jg n hn _ g3 g1]
theorem X5(n:Nat)(hn:1003<=n)(c:aA)(hc:dS c)(r:Row)(he:Bw c=0)(hr:eF r=true){pre post:List Row}(hl:c.rows=pre++post)(hcut:Cut r.key pre post)(h3:c.rows.length<=3):kJ n c r=some (⟨1,pre++r::post,[]⟩,0):=by
 obtain⟨f1,f2,f3,f4,f5,f6⟩:=EL he
 have hat:at_ c.rows r.key=none:=by
  unfold at_
  rw[List.findIdx?_eq_none_iff]
  intro y hy
  rw[hl] at hy
  rcases List.mem_append.1 hy with h|h
  ·simpa using hcut.ne1 y h
  ·simpa using hcut.ne2 y h
 obtain⟨pre',post',e1,e2,e3⟩:=place f6 hat
 obtain⟨rfl,rfl⟩:=VN e2 hcut (e1.symm.trans hl)
 have hfull:cS c=false:=by
  unfold cS aD
  rw[f2]
  simp;intro _;omega
 rw[hl] at f5 f6 h3
 obtain⟨g1,g2,g3⟩:=SI (l:=pre'++r::post') (by simp at h3|-;omega) (λy hy=>by
  simp only[List.mem_append,List.mem_cons] at hy
  rcases hy with h|h|h
  ·exact f5 y (by simp[h])
  ·subst h;exact hr
  ·exact f5 y (by simp[h])) (NL f6 hcut)
 have hins:∀j:Int,j=(pre'.length:Int)->pA n j c.rows [r]=some (pre'++r::post'):=λj hj=>by
  subst hj
  show Dy 40 c.rows _ [r]=_
  unfold Dy
  rw[if_pos ⟨by omega,by rw[hl];simp;omega⟩,FK (by have:=hc.rows;simp;omega),hl]
  simp
 have habove:=VM n hn c.rows hc.rows r
 unfold kJ
 rw[GC n hn c hc,he]
 simp only[Option.bind_some,show((0:Int) !=0)=false from by decide,cond_false,sV,hr,if_true,vD n c.rows hc.rows,find_eq n hn _ hc.rows,hat,jn,BU,Ig n c hc,hfull,habove,Hr]
 cases ha:Po c.rows r.key with
 |none=>
  rw[ha] at e3
  simp only[ixI]
  have e3:c.rows.length=pre'.length:=e3
  refine(VF (by decide)).trans ?_
  rw[hins _ (by rw[e3])]
  simp only[Option.bind_some,fZ,Jg n hn _ g3 g1]
 |some i=>
  rw[ha] at e3
  simp only[ixI]
  have e3:i=pre'.length:=e3
  refine(Ru (decide_eq_false (by omega))).trans ?_
  rw[hins _ (by rw[e3])]
  simp only[Option.bind_some,fZ,Jg n hn _ g3 g1]
theorem X6(n:Nat)(hn:1003<=n)(c:aA)(hc:dS c)(k:Key)(he:Bw c=0){pre post:List Row}{x:Row}(hl:c.rows=pre++x::post)(hx:x.key=k):zN n c k=some (⟨1,pre++post,[]⟩,x,0):=by
 obtain⟨f1,f2,f3,f4,f5,f6⟩:=EL he
 rw[hl] at f4 f5 f6
 have hcut:=(FN f6).1
 rw[hx] at hcut
 have hat:at_ c.rows k=some pre.length:=by
  unfold at_
  rw[hl,List.findIdx?_append]
  have:pre.findIdx? (λy=>decide (y.key=k))=none:=by
   rw[List.findIdx?_eq_none_iff]
   intro y hy
   simpa using hcut.ne1 y hy
  rw[this]
  simp[List.findIdx?_cons,hx]
 have hg:VO c k=(x,0):=by
  unfold VO
  rw[if_pos he,hl,zP,nR hcut.ne1,EK,if_pos hx]
  rfl
 have hd:pK n (pre.length:Int) ((pre.length+1:Nat):Int) c.rows=some (pre++post):=by
  show Dx c.rows _ _=_
  unfold Dx
  rw[if_pos ⟨by omega,by omega,by rw[hl];simp;omega⟩,hl]
  simp
 unfold zN
 rw[get_eq n hn c hc,hg]
 simp only[Option.bind_some,show((0:Int) !=0)=false from by decide,cond_false,find_eq n hn _ hc.rows,hat,vD n c.rows hc.rows,aJ (show pre.length<4611686018427387904 by simp at f4;omega),hd,fZ]
end Go.Proofs.YtlcmdgpjiendmaaGreat
namespace Go.Proofs.YtlcmdgpjiendmaaGreat
open Go.Bur
set_option linter.unusedSimpArgs false
set_option linter.unusedVariables false
set_option maxRecDepth 100000
theorem aaW:dS bT:=⟨by simp[bT],by simp[bT],by simp[bT]⟩
end Go.Proofs.YtlcmdgpjiendmaaGreat
namespace Go.Proofs.YtlcmdgpjiendmaaGreat
open Go.Bur
set_option linter.unusedSimpArgs false
set_option linter.unusedVariables false
set_option maxRecDepth 100000
theorem LV(n:Nat)(t:Int):sG n t=some (iU t):=by
 unfold sG iU jn
 cases decide (t>=0)<;>rfl
theorem Pp(n:Nat)(r:Row):pE n r=some (eF r):=by
 unfold pE eF
 rw[LV]
 have h:decide ((r.note.size:Int)<=8)= !decide ((r.note.size:Int)>8):=by
  by_cases h:(r.note.size:Int)>8
  ·rw[decide_eq_true h,decide_eq_false (by omega)];rfl
  ·rw[decide_eq_false h,decide_eq_true (by omega)];rfl
 simp only[Option.bind_some,jn,h]
 cases iU r.key.table<;>rfl
def nZ(k:Key):Prop:=0<=k.id/\k.id<65536
theorem Pq(n:Nat){a b:Key}(ha:nZ a)(hb:nZ b)(ta:iU a.table=true)(tb:iU b.table=true):∃x y,gZ n a=some x/\gZ n b=some y/\decide (x>=y)= !ltK a b:=by
 unfold iU at ta tb
 simp only[Bool.and_eq_true,decide_eq_true_iff] at ta tb
 obtain⟨a1,a2⟩:=ha
 obtain⟨b1,b2⟩:=hb
 refine⟨a.table*65536+a.id,b.table*65536+b.id, ?_, ?_, ?_⟩
 ·unfold gZ
  rw[cN (x:=a.table*65536) (by omega),cN (x:=a.id) (by omega),cN (by omega)]
 ·unfold gZ
  rw[cN (x:=b.table*65536) (by omega),cN (x:=b.id) (by omega),cN (by omega)]
 ·cases h:ltK a b with
  |true=>rw[lO] at h;exact decide_eq_false (by omega)
  |false=>
   have h:¬ltK a b=true:=by rw[h];decide
   rw[lO] at h
   exact decide_eq_true (by omega)
def goR(p:Option Key)(r:Row):Bool:=eF r&&(match p with|none=>true|some k=>ltK k r.key)
theorem HC(p:Option Key)(r:Row)(t:List Row):nQ p (r::t)=(goR p r&&nQ (some r.key) t):=by cases p<;>rfl
theorem Jh(l:List Row)(v:Bool):∀(t:List Row)(i:Nat),l.drop i=t->i<=l.length->
  dY (R:=Bool) (fun(i:Nat) (r:Row) (_:Unit)=>if goR (lQ l i) r then .inr () else .inl (some false)) (λ_=>some v) t i ()=some (v&&nQ (lQ l i) t)
 |[],i,h,hi=>by simp[dY,nQ]
 |r::t,i,h,hi=>by
  have hr:l[i]? =some r:=by
   have:=congrArg (λx=>x[0]?) h
   simpa using this
  have ht:l.drop (i+1)=t:=by rw[<-List.drop_drop,h];rfl
  have hlt:i<l.length:=by
   rcases Nat.lt_or_ge i l.length with h1|h1
   ·exact h1
   ·rw[List.drop_eq_nil_of_le h1] at h;cases h
  have ih:=Jh l v t (i+1) ht hlt
  have hp:lQ l (i+1)=some r.key:=by simp[lQ,hr]
  rw[hp] at ih
  by_cases hg:goR (lQ l i) r=true
  ·simp only[dY,hg,if_true,HC,Bool.true_and]
   exact ih
  ·have hg:goR (lQ l i) r=false:=by simpa using hg
   simp only[dY,hg,HC,Bool.false_and,Bool.and_false]
   rfl
theorem VP(n:Nat)(hn:1003<=n)(l:List Row)(hl:l.length<=1000)(hk:∀r∈l,nZ r.key):EA n l=some (decide (l.length<=4)&&nQ none l):=by
 show yG n n (l,l,(l.length:Int),((0:Nat):Int),())=_
 unfold yG
 refine(iT (R:=Bool) l (fun(i:Nat) (_:Unit)=>(l,l,(l.length:Int),(i:Int),())) (λi r _=>if goR (lQ l i) r then .inr () else .inl (some false)) (λ_=>some (decide (l.length<=4)))
  (λi _=>∀j x,i=j+1->l[j]? =some x->eF x=true) (λi s x s' hx hi hs=> ?_) (λr i s x hx hi hs=> ?_) (λr s hs=> ?_) n 0 () (by omega) (by omega) (λj x h=>by omega)).trans ?_
 ·intro j y hj hy
  obtain rfl:i=j:=by omega
  rw[hx] at hy
  obtain rfl:=Option.some.inj hy
  by_cases hg:goR (lQ l i) x=true
  ·unfold goR at hg;simp only[Bool.and_eq_true] at hg;exact hg.1
  ·rw[if_neg hg] at hs;cases hs
 ·simp only[bH hi,cond_true,aR,hx,Option.bind_some,Pp,jn,aJ (show i<4611686018427387904 by omega)]
  unfold goR
  by_cases ho:eF x=true
  ·rw[ho]
   cases i with
   |zero=>simp[lQ]
   |succ i=>
    have hi':l[i]? =some l[i]:=get_some (by omega)
    have hprev:eF l[i]=true:=hs i _ rfl hi'
    have hta:iU l[i].key.table=true:=by unfold eF at hprev;simp only[Bool.and_eq_true] at hprev;exact hprev.1
    have htb:iU x.key.table=true:=by unfold eF at ho;simp only[Bool.and_eq_true] at ho;exact ho.1
    obtain⟨u,v,e1,e2,e3⟩:=Pq n (hk l[i] (List.getElem_mem _)) (hk x (List.mem_of_getElem? hx)) hta htb
    have h0:decide (((i+1:Nat):Int)>0)=true:=decide_eq_true (by omega)
    simp only[Bool.not_true,cond_false,h0,cond_true,lN (show i<4611686018427387904 by omega),aR,hi',Option.bind_some,e1,e2,e3,lQ,Option.map_some,Bool.true_and]
    cases ltK l[i].key x.key<;>rfl
  ·have ho:eF x=false:=by simpa using ho
   rw[ho];rfl
 ·simp only[bI (Nat.lt_irrefl _),cond_false]
  congr 1
  by_cases h:l.length<=4
  ·rw[decide_eq_true h,decide_eq_true (by omega)]
  ·rw[decide_eq_false h,decide_eq_false (by omega)]
 ·rw[List.drop_zero,Jh l _ l 0 rfl (by omega)]
  rfl
def seen(l:List Kid)(i:Nat):List (Int×Bool):=((l.take i).map λk=>(k.page,true)).reverse
theorem LW{l:List Kid}{i:Nat}{x:Kid}(h:l[i]? =some x):seen l (i+1)=(x.page,true)::seen l i:=by
 unfold seen
 rw[List.take_add_one,h]
 simp
theorem Pr(q:List (Int×Bool))(hq:∀p∈q,p.2=true)(x:Int):kA false q x=q.any λp=>decide (p.1=x):=by
 induction q with
 |nil=>rfl
 |cons p t ih=>
  obtain⟨a,b⟩:=p
  have hb:b=true:=hq (a,b) (by simp)
  subst hb
  simp only[kA,List.any_cons]
  by_cases h:a=x
  ·rw[decide_eq_true h];rfl
  ·rw[decide_eq_false h]
   simp only[Bool.false_or]
   exact ih λp hp=>hq p (by simp[hp])
theorem LX(l:List Kid)(i:Nat)(x:Int):kA false (seen l i) x=(l.take i).any λk=>decide (k.page=x):=by
 rw[Pr _ (by
  intro p hp
  unfold seen at hp
  simp only[List.mem_reverse,List.mem_map] at hp
  obtain⟨k,_,rfl⟩:=hp
  rfl)]
 unfold seen
 rw[List.any_reverse,List.any_map]
 rfl
theorem HD(p:Option Key)(q:List (Int×Bool))(k:Kid)(t:List Kid):mG p q (k::t)=(goK p q k&&mG (some k.least) ((k.page,true)::q) t):=rfl
theorem HE(l:List Kid)(v:Bool):∀(t:List Kid)(i:Nat),l.drop i=t->i<=l.length->
  dY (R:=Bool) (fun(i:Nat) (k:Kid) (_:Unit)=>if goK (iM l i) (seen l i) k then .inr () else .inl (some false)) (λ_=>some v) t i ()=some (v&&mG (iM l i) (seen l i) t)
 |[],i,h,hi=>by simp[dY,mG]
 |k::t,i,h,hi=>by
  have hr:l[i]? =some k:=by
   have:=congrArg (λx=>x[0]?) h
   simpa using this
  have ht:l.drop (i+1)=t:=by rw[<-List.drop_drop,h];rfl
  have hlt:i<l.length:=by
   rcases Nat.lt_or_ge i l.length with h1|h1
   ·exact h1
   ·rw[List.drop_eq_nil_of_le h1] at h;cases h
  have ih:=HE l v t (i+1) ht hlt
  have hp:iM l (i+1)=some k.least:=by simp[iM,hr]
  rw[hp,LW hr] at ih
  by_cases hg:goK (iM l i) (seen l i) k=true
  ·simp only[dY,hg,if_true,HD,Bool.true_and]
   exact ih
  ·have hg:goK (iM l i) (seen l i) k=false:=by simpa using hg
   simp only[dY,hg,HD,Bool.false_and,Bool.and_false]
   rfl
theorem VQ(n:Nat)(hn:1003<=n)(r1:(List Kid)×(List Kid)×Int×Int×Unit->Option Bool)(a b:List Kid)(c d:Int)(l:List Kid)(hl:l.length<=1000)(x:Kid):
  rP n r1 n (a,b,c,d,l,(l.length:Int),0,x,())=if l.any (λk=>decide (k.page=x.page)) then some false else r1 (a,b,c,IntKind.wrap .i64 (d+1),()):=by
 show rP n r1 n (a,b,c,d,l,(l.length:Int),((0:Nat):Int),x,())=_
 unfold rP
 refine(gH l (fun(i:Nat) (_:Unit)=>(a,b,c,d,l,(l.length:Int),(i:Int),x,())) (λ_ k _=>if decide (k.page=x.page) then .inl (some false) else .inr ()) (λ_=>r1 (a,b,c,IntKind.wrap .i64 (d+1),())) (λr i s y hy hi=> ?_) (λr s=> ?_) n 0 () (by omega) (by omega)).trans ?_
 ·simp only[bH hi,cond_true,aR,hy,Option.bind_some,aJ (show i<4611686018427387904 by omega),oL]
  by_cases h:y.page=x.page
  ·rw[decide_eq_true h];rfl
  ·rw[decide_eq_false h];rfl
 ·simp only[bI (Nat.lt_irrefl _),cond_false]
 ·rw[List.drop_zero,Cn]
theorem VR(n:Nat)(hn:1003<=n)(l:List Kid)(hl:l.length<=1000)(hk:∀r∈l,nZ r.least):EB n l=some ((decide (1<l.length)&&decide (l.length<=4))&&mG none [] l):=by
 show yH n n (l,l,(l.length:Int),((0:Nat):Int),())=_
 unfold yH
 refine(iT (R:=Bool) l (fun(i:Nat) (_:Unit)=>(l,l,(l.length:Int),(i:Int),())) (λi k _=>if goK (iM l i) (seen l i) k then .inr () else .inl (some false)) (λ_=>some (decide (1<l.length)&&decide (l.length<=4)))
  (λi _=>∀j x,i=j+1->l[j]? =some x->iU x.least.table=true) (λi s x s' hx hi hs=> ?_) (λr i s x hx hi hs=> ?_) (λr s hs=> ?_) n 0 () (by omega) (by omega) (λj x h=>by omega)).trans ?_
 ·intro j y hj hy
  obtain rfl:i=j:=by omega
  rw[hx] at hy
  obtain rfl:=Option.some.inj hy
  by_cases hg:goK (iM l i) (seen l i) x=true
  ·unfold goK HB at hg;simp only[Bool.and_eq_true] at hg;exact hg.1.1.2
  ·rw[if_neg hg] at hs;cases hs
 ·have hsub:sub l 0 (i:Int)=some (l.take i):=(Cm (Nat.zero_le i) (by omega)).trans (by simp)
  have h2:=VQ n hn r l l (l.length:Int) (i:Int) (l.take i) (by simp;omega) x
  simp only[bH hi,cond_true,aR,hx,Option.bind_some,LV,jn,hsub,h2,aJ (show i<4611686018427387904 by omega)]
  unfold goK HB
  rw[LX]
  have e1:decide (x.page>0)= !decide (x.page<1):=by
   by_cases h:x.page<1
   ·rw[decide_eq_true h,decide_eq_false (by omega)];rfl
   ·rw[decide_eq_false h,decide_eq_true (by omega)];rfl
  have e2:decide (x.page<64)= !decide (x.page>=64):=by
   by_cases h:x.page>=64
   ·rw[decide_eq_true h,decide_eq_false (by omega)];rfl
   ·rw[decide_eq_false h,decide_eq_true (by omega)];rfl
  rw[e1,e2]
  by_cases ho:iU x.least.table=true
  ·rw[ho]
   cases i with
   |zero=>
    simp only[iM,Option.isSome_none,Bool.false_or,Bool.and_true,cC,show(((0:Nat):Int)==0)=true from rfl,cond_true,show decide (((0:Nat):Int)>0)=false from rfl,cond_false]
    cases decide (x.page<1)<;>cases decide (x.page>=64)<;>cases Key.eqb x.least ⟨0,0⟩<;>rfl
   |succ i=>
    have hi':l[i]? =some l[i]:=get_some (by omega)
    obtain⟨u,v,e3,e4,e5⟩:=Pq n (hk l[i] (List.getElem_mem _)) (hk x (List.mem_of_getElem? hx)) (hs i _ rfl hi') ho
    have h0:decide (((i+1:Nat):Int)>0)=true:=decide_eq_true (by omega)
    have h1:(((i+1:Nat):Int)==0)=false:=by simp;omega
    simp only[Bool.not_true,cond_false,h0,h1,cond_true,lN (show i<4611686018427387904 by omega),aR,hi',Option.bind_some,e3,e4,e5,iM,Option.map_some,Option.isSome_some,Bool.true_or,Bool.and_true]
    cases decide (x.page<1)<;>cases decide (x.page>=64)<;>cases ltK l[i].least x.least<;>cases (l.take (i+1)).any (λk=>decide (k.page=x.page))<;>rfl
  ·have ho:iU x.least.table=false:=by simpa using ho
   rw[ho]
   cases decide (x.page<1)<;>cases decide (x.page>=64)<;>simp
 ·simp only[bI (Nat.lt_irrefl _),cond_false,jn]
  by_cases h:1<l.length
  ·rw[decide_eq_true h,decide_eq_true (by omega)]
   by_cases h':l.length<=4
   ·rw[decide_eq_true h',decide_eq_true (by omega)];rfl
   ·rw[decide_eq_false h',decide_eq_false (by omega)];rfl
  ·rw[decide_eq_false h,decide_eq_false (by omega)];rfl
 ·rw[List.drop_zero,HE l _ l 0 rfl (by omega)]
  rfl
end Go.Proofs.YtlcmdgpjiendmaaGreat
namespace Go.Proofs.YtlcmdgpjiendmaaGreat
open Go.Bur
set_option linter.unusedSimpArgs false
set_option linter.unusedVariables false
set_option maxRecDepth 100000
structure Keys(c:aA):Prop where
 rows:∀r∈c.rows,nZ r.key
 kids:∀k∈c.kids,nZ k.least
theorem Pu(n:Nat)(hn:1003<=n)(c:aA)(hc:dS c)(hk:Keys c):sH n c=some (aV c):=by
 have h1:=VP n hn c.rows hc.rows hk.rows
 have h2:=VR n hn c.kids hc.kids hk.kids
 unfold sH aV
 simp only[jn,h1,h2,Option.bind_some,VI,oL c.kind]
 by_cases e0:c.kind=0
 ·rw[if_pos e0,decide_eq_true e0]
  by_cases a:c.rows.length=0
  ·by_cases b:c.kids.length=0
   ·simp[a,b]
   ·simp[a,b]
  ·simp[a]
 ·rw[if_neg e0,decide_eq_false e0]
  by_cases e1:c.kind=1
  ·rw[if_pos e1,decide_eq_true e1]
   cases decide (c.kids.length=0)<;>rfl
  ·rw[if_neg e1,decide_eq_false e1]
   by_cases e2:c.kind=2
   ·rw[if_pos e2,decide_eq_true e2]
    cases decide (c.rows.length=0)<;>cases decide (1<c.kids.length)<;>cases decide (c.kids.length<=4)<;>rfl
   ·rw[if_neg e2,decide_eq_false e2];rfl
theorem Ji(n:Nat)(hn:1003<=n)(l:List Row)(hl:l.length<=1000)(k:Key):qN n l k=some (ixI (at_ l k)):=by
 show yB n n (l,((0:Nat):Int),k,())=_
 unfold yB
 refine(gH l (fun(i:Nat) (_:Unit)=>(l,(i:Int),k,())) (λi x _=>if decide (x.key=k) then .inl (some (i:Int)) else .inr ()) (λ_=>some (-1)) (λr i s x hx hi=> ?_) (λr s=> ?_) n 0 () (by omega) (by omega)).trans ?_
 ·simp only[bH hi,cond_true,aR,hx,Option.bind_some,aJ (show i<4611686018427387904 by omega),CZ]
  by_cases h:x.key=k
  ·simp[h]
  ·simp[h]
 ·simp only[bI (Nat.lt_irrefl _),cond_false]
 ·rw[List.drop_zero,C0]
  unfold at_
  cases l.findIdx? λr=>decide (r.key=k)<;>rfl
def others(k:Key)(l:List Row):List Row:=l.filter λr=> !decide (r.key=k)
theorem EM(n:Nat)(hn:1003<=n)(l:List Row)(hl:l.length<=1000)(k:Key):mP n l k=some (others k l):=by
 show qQ n n (l,((0:Nat):Int),k,[],())=_
 unfold qQ
 refine(iT l (fun(i:Nat) (s:List Row)=>(l,(i:Int),k,s,())) (λi x s=> .inr (if decide (x.key=k) then s else s++[x])) (λs=>some s) (λi s=>s.length<=i) (λi s x s' hx hi hs=> ?_) (λr i s x hx hi hs=> ?_) (λr s hs=> ?_) n 0 [] (by omega) (by omega) (by simp)).trans ?_
 ·injection hs with hs
  subst hs
  by_cases h:x.key=k
  ·simp[h];omega
  ·simp[h];exact hi
 ·have happ:app 40 s [x]=some (s++[x]):=cE (by simp;omega) (by decide)
  simp only[bH hi,cond_true,aR,hx,Option.bind_some,aJ (show i<4611686018427387904 by omega),CZ,jn,zM,happ]
  by_cases h:x.key=k
  ·simp[h]
  ·simp[h]
 ·simp only[bI (Nat.lt_irrefl _),cond_false]
 ·have:∀(t:List Row)(i:Nat)(s:List Row),dY (R:=List Row) (λi x s=> .inr (if decide (x.key=k) then s else s++[x])) (λs=>some s) t i s=some (s++others k t):=by
   intro t
   induction t with
   |nil=>intro i s;simp[dY,others]
   |cons x t ih=>
    intro i s
    simp only[dY]
    rw[ih]
    unfold others
    by_cases h:x.key=k
    ·simp[h]
    ·simp[h]
  rw[List.drop_zero,this]
  rfl
theorem HF(n:Nat)(a b:Key):∃v,eH n a b=some v/\decide (v<0)=ltK a b:=by
 unfold eH
 rw[CZ]
 by_cases h:a=b
 ·subst h
  rw[decide_eq_true rfl,fO]
  exact⟨0,rfl,rfl⟩
 ·rw[decide_eq_false h]
  simp only[cond_false,jn,oL]
  by_cases h1:a.table<b.table
  ·rw[decide_eq_true h1]
   exact⟨-1,rfl,(lO.2 (.inl h1)).symm▸rfl⟩
  ·rw[decide_eq_false h1]
   by_cases h2:a.table=b.table
   ·rw[decide_eq_true h2]
    by_cases h3:a.id<b.id
    ·rw[decide_eq_true h3]
     exact⟨-1,rfl,(lO.2 (.inr ⟨h2,h3⟩)).symm▸rfl⟩
    ·rw[decide_eq_false h3]
     refine⟨1,rfl, ?_⟩
     cases hh:ltK a b with
     |false=>rfl
     |true=>rw[lO] at hh;omega
   ·rw[decide_eq_false h2]
    refine⟨1,rfl, ?_⟩
    cases hh:ltK a b with
    |false=>rfl
    |true=>rw[lO] at hh;omega
def Jj(r:Row):List Row->List Row
 |[]=>[r]
 |x::t=>if ltK r.key x.key then r::x::t else x::Jj r t
theorem Jk(r:Row):∀(pre post:List Row),Cut r.key pre post->Jj r (pre++post)=pre++r::post
 |[],[],_=>rfl
 |[],z::t,h=>by
  have:=h.hi z (by simp)
  simp[Jj,this]
 |y::pre,post,h=>by
  have hy:=h.lo y (by simp)
  have:ltK r.key y.key=false:=by
   cases hh:ltK r.key y.key with
   |false=>rfl
   |true=>have:=iV hy hh;rw[fO] at this;cases this
  simp only[List.cons_append,Jj,this]
  rw[Jk r pre post ⟨λz hz=>h.lo z (by simp[hz]),h.hi⟩]
  rfl
def HG(r:Row)(i:Nat)(x:Row)(s:Bool×List Row):Option (List Row) ⊕ (Bool×List Row):= .inr (if !s.1&&ltK r.key x.key then(true,s.2++[r]++[x]) else(s.1,s.2++[x]))
theorem Jl(r:Row):∀(t:List Row)(i:Nat)(acc:List Row),dY (HG r) (λs=>some (if s.1 then s.2 else s.2++[r])) t i (true,acc)=some (acc++t)/\dY (HG r) (λs=>some (if s.1 then s.2 else s.2++[r])) t i (false,acc)=some (acc++Jj r t)
 |[],i,acc=>by simp[dY,Jj]
 |x::t,i,acc=>by
  obtain⟨h1,h2⟩:=Jl r t (i+1) (acc++[x])
  obtain⟨h3,h4⟩:=Jl r t (i+1) (acc++[r]++[x])
  constructor
  ·simp only[dY,HG,Bool.not_true,Bool.false_and,Bool.false_eq_true,if_false]
   rw[h1];simp
  ·by_cases h:ltK r.key x.key=true
   ·simp only[dY,HG,Bool.not_false,Bool.true_and,h,if_true,Jj]
    rw[h3];simp
   ·have h:ltK r.key x.key=false:=by simpa using h
    simp only[dY,HG,Bool.not_false,Bool.true_and,h,Bool.false_eq_true,if_false,Jj]
    rw[h2];simp
theorem SJ(n:Nat)(hn:1003<=n)(l:List Row)(hl:l.length<=900)(r:Row):wB n l r=some (Jj r (others r.key l)):=by
 have hlo:(others r.key l).length<=900:=Nat.le_trans (List.length_filter_le _ _) hl
 unfold wB
 rw[EM n hn l (by omega)]
 simp only[Option.bind_some]
 generalize others r.key l=m at hlo
 show yM n n (false,((0:Nat):Int),r,[],m,())=_
 unfold yM
 refine(iT m (fun(i:Nat) (s:Bool×List Row)=>(s.1,(i:Int),r,s.2,m,())) (HG r) (λs=>some (if s.1 then s.2 else s.2++[r])) (λi s=>s.2.length<=i+(if s.1 then 1 else 0)) (λi s x s' hx hi hs=> ?_) (λq i s x hx hi hs=> ?_) (λq s hs=> ?_) n 0 (false,[]) (by omega) (by omega) (by simp)).trans (Jl r m 0 []).2
 ·unfold HG at hs
  injection hs with hs
  subst hs
  obtain⟨b,acc⟩:=s
  simp only at hi|-
  cases b
  ·by_cases h:ltK r.key x.key=true
   ·simp[h] at hi|-;omega
   ·simp[h] at hi|-;omega
  ·simp at hi|-;omega
 ·obtain⟨b,acc⟩:=s
  have hacc:acc.length<=i+1:=by
   simp only at hs
   cases b<;>simp at hs<;>omega
  obtain⟨v,e1,e2⟩:=HF n r.key x.key
  have a1:app 40 acc [r]=some (acc++[r]):=cE (by simp;omega) (by decide)
  have a2:app 40 acc [x]=some (acc++[x]):=cE (by simp;omega) (by decide)
  have a3:app 40 (acc++[r]) [x]=some (acc++[r]++[x]):=cE (by simp;omega) (by decide)
  simp only[bH hi,cond_true,aR,hx,Option.bind_some,jn,D9,aJ (show i<4611686018427387904 by omega),e1,e2,a1,a2,a3,HG]
  cases b<;>cases ltK r.key x.key<;>rfl
 ·obtain⟨b,acc⟩:=s
  have hacc:acc.length<=901:=by
   simp only at hs
   cases b<;>simp at hs<;>omega
  have a1:app 40 acc [r]=some (acc++[r]):=cE (by simp;omega) (by decide)
  simp only[bI (Nat.lt_irrefl _),cond_false,jn,Ea,a1,Option.bind_some]
  cases b<;>rfl
theorem Jm{k:Key}{pre post:List Row}(h:Cut k pre post):others k (pre++post)=pre++post:=by
 unfold others
 rw[List.filter_eq_self]
 intro y hy
 rcases List.mem_append.1 hy with hy|hy
 ·simpa using h.ne1 y hy
 ·simpa using h.ne2 y hy
theorem GD{k:Key}{pre post:List Row}{x:Row}(hx:x.key=k)(h:Cut k pre post):others k (pre++x::post)=pre++post:=by
 rw[<-Jm h]
 unfold others
 simp[hx]
end Go.Proofs.YtlcmdgpjiendmaaGreat
namespace Go.Proofs.YtlcmdgpjiendmaaGreat
open Go.Bur
set_option linter.unusedSimpArgs false
set_option linter.unusedVariables false
set_option maxRecDepth 100000
def NN(l:List Kid):List Int:=l.map (·.page)
def eU(a b:aA):Nat:=if aD a>aD b then aD a-1 else aD a+1
structure VS(a b x y:aA)(key:Key):Prop where
 cx:aV x=true
 cy:aV y=true
 fx:dS x
 fy:dS y
 sx:aD x=eU a b
 sy:aD y+eU a b=aD a+aD b
 leaf:a.kind=1->x.rows++y.rows=a.rows++b.rows/\∃r t,y.rows=r::t/\r.key=key
 inner:a.kind≠1->NN x.kids++NN y.kids=NN a.kids++NN b.kids
theorem Zc{a b:Int}{A B:aA}:decide (((aD A:Nat):Int)>((aD B:Nat):Int))=decide (aD A>aD B):=by
 by_cases h:aD A>aD B
 ·rw[decide_eq_true h,decide_eq_true (by omega)]
 ·rw[decide_eq_false h,decide_eq_false (by omega)]
theorem Pv(n:Nat)(a b:aA):wE n a b=some (decide (a.kind=b.kind)&& !decide (a.kind=0)):=by
 unfold wE
 have h3:(a.kind !=0)= !decide (a.kind=0):=by rw[bne,oL]
 simp only[jn,oL,h3]
 cases decide (a.kind=b.kind)<;>rfl
theorem Co{c:aA}(h:aV c=true)(h0:c.kind≠0):(c.kind=1/\c.kids=[]/\c.rows.length<=4)\/(c.kind=2/\c.rows=[]/\2<=c.kids.length/\c.kids.length<=4):=by
 unfold aV at h
 rw[if_neg h0] at h
 by_cases h1:c.kind=1
 ·rw[if_pos h1] at h
  simp only[Bool.and_eq_true,decide_eq_true_iff] at h
  exact .inl ⟨h1,List.eq_nil_of_length_eq_zero h.1,h.2.1⟩
 ·rw[if_neg h1] at h
  by_cases h2:c.kind=2
  ·rw[if_pos h2] at h
   simp only[Bool.and_eq_true,decide_eq_true_iff] at h
   exact .inr ⟨h2,List.eq_nil_of_length_eq_zero h.1,h.2.1,h.2.2.1⟩
  ·rw[if_neg h2] at h;cases h
def Lv(n:Nat)(a b:aA)(r:Option (aA×aA×Key×Int)):Prop:=(∃e,e≠0/\r=some (bT,bT,⟨0,0⟩,e))\/∃x y key,VS a b x y key/\r=some (x,y,key,0)
end Go.Proofs.YtlcmdgpjiendmaaGreat
namespace Go.Proofs.YtlcmdgpjiendmaaGreat
open Go.Bur
set_option linter.unusedSimpArgs false
set_option linter.unusedVariables false
set_option maxRecDepth 100000
def cI{α:Type}(p:Nat->α->Bool):Nat->List α->Bool
 |_,[]=>true
 |i,x::t=>p i x&&cI p (i+1) t
theorem jP{α R:Type}{p:Nat->α->Bool}{v:Option R}{fin:Unit->Option R}:∀(l:List α)(i:Nat),dY (λi x (_:Unit)=>if p i x then .inr () else .inl v) fin l i ()=if cI p i l then fin () else v
 |[],_=>rfl
 |x::t,i=>by
  by_cases hp:p i x=true
  ·simp only[dY,cI,hp,if_true,Bool.true_and];exact jP t (i+1)
  ·have hp:p i x=false:=by simpa using hp
   simp[dY,cI,hp]
def upR(l:List Row)(i:Nat)(x:Row):Bool:=match lQ l i with|none=>true|some k=>ltK k x.key
def upK(l:List Kid)(i:Nat)(x:Kid):Bool:=(match iM l i with|none=>true|some k=>ltK k x.least)&& !(l.take i).any λk=>decide (k.page=x.page)
def yT(c:aA):Bool:=cI (upR c.rows) 0 c.rows&&cI (upK c.kids) 0 c.kids
theorem Cp{α:Type}(p:Nat->α->Bool)(l:List α)(h:∀x,p 0 x=true):cI p 1 (l.drop 1)=cI p 0 l:=by
 cases l with
 |nil=>rfl
 |cons x t=>simp[cI,h]
theorem VT{a b:Key}:decide (GA a b>=0)= !ltK a b:=by
 unfold ltK
 by_cases h:GA a b<0
 ·rw[decide_eq_true h,decide_eq_false (by omega)];rfl
 ·rw[decide_eq_false h,decide_eq_true (by omega)];rfl
theorem Rx(n:Nat)(hn:1003<=n)(c:aA)(hc:dS c):rT n n (c.kids,(c.kids.length:Int),0,c,[],())=some (cI (upK c.kids) 0 c.kids):=by
 have hl:=hc.kids
 show rT n n (c.kids,(c.kids.length:Int),((0:Nat):Int),c,seen c.kids 0,())=_
 unfold rT
 refine(gH c.kids (fun(i:Nat) (_:Unit)=>(c.kids,(c.kids.length:Int),(i:Int),c,seen c.kids i,())) (λi x _=>if upK c.kids i x then .inr () else .inl (some false)) (λ_=>some true) (λr i q x hx hi=> ?_) (λr q=> ?_) n 0 () (by omega) (by omega)).trans ?_
 ·have hk:=hc.page _ (List.mem_of_getElem? hx)
  have hq:(seen c.kids i).length<=1000:=by simp[seen];omega
  have h1:oB .i64 false (seen c.kids i) x.page=some (kA false (seen c.kids i) x.page):=by unfold oB;rw[hk]
  have h2:AQ .i64 (seen c.kids i) x.page true=some ((x.page,true)::seen c.kids i):=by unfold AQ;rw[hk,Bool.true_and,show Nat.ble (seen c.kids i).length 1000000=true from Nat.ble_eq_true_of_le (by omega)]
  simp only[bH hi,cond_true,aR,hx,Option.bind_some,h1,h2,jn,aJ (show i<4611686018427387904 by omega),<-LW hx]
  unfold upK
  rw[LX]
  cases i with
  |zero=>simp[iM,show decide (((0:Nat):Int)>0)=false from rfl]
  |succ i=>
   have hi':c.kids[i]? =some c.kids[i]:=get_some (by omega)
   have h0:decide (((i+1:Nat):Int)>0)=true:=decide_eq_true (by omega)
   simp only[h0,cond_true,lN (show i<4611686018427387904 by omega),aR,hi',Option.bind_some,jO n (by omega),iM,Option.map_some,VT]
   cases ltK c.kids[i].least x.least<;>cases (c.kids.take (i+1)).any (λk=>decide (k.page=x.page))<;>rfl
 ·simp only[bI (Nat.lt_irrefl _),cond_false]
 ·rw[List.drop_zero,jP]
  cases cI (upK c.kids) 0 c.kids<;>rfl
theorem TX(n:Nat)(hn:1003<=n)(c:aA)(hc:dS c):EG n c=some (yT c):=by
 have hl:=hc.rows
 show yQ n n (((1:Nat):Int),c,())=_
 have h2:=Rx n hn c hc
 unfold yQ yT
 cases hr:c.rows with
 |nil=>
  obtain⟨m,rfl⟩:∃m,n=m+1:=⟨n-1,by omega⟩
  simp only[aW,hr,List.length_nil,show decide (((1:Nat):Int)<((0:Nat):Int))=false from by decide,cond_false,cI,Bool.true_and]
  exact h2
 |cons x0 t0=>
  rw[<-hr]
  refine(iT c.rows (fun(i:Nat) (_:Unit)=>((i:Int),c,())) (λi x _=>if upR c.rows i x then .inr () else .inl (some false)) (λ_=>some (cI (upK c.kids) 0 c.kids)) (λi _=>1<=i) (λi s x s' hx hi hs=>by omega) (λr i q x hx hi h1=> ?_) (λr q hq=> ?_) n 1 () (by rw[hr];simp) (by omega) (Nat.le_refl 1)).trans ?_
  ·obtain⟨i,rfl⟩:∃j,i=j+1:=⟨i-1,by omega⟩
   have hi':c.rows[i]? =some c.rows[i]:=get_some (by omega)
   simp only[bH hi,cond_true,lN (show i<4611686018427387904 by omega),aR,hx,hi',Option.bind_some,jO n (by omega),VT,upR,lQ,Option.map_some,aJ (show i+1<4611686018427387904 by omega)]
   cases ltK c.rows[i].key x.key<;>rfl
  ·simp only[bI (Nat.lt_irrefl _),cond_false]
   exact h2
  ·rw[jP,Cp _ _ (λx=>rfl)]
   cases cI (upR c.rows) 0 c.rows<;>rfl
theorem HH(n:Nat)(a b:Key):∃v,eH n a b=some v/\decide (v>=0)= !ltK a b:=by
 obtain⟨v,h1,h2⟩:=HF n a b
 refine⟨v,h1, ?_⟩
 rw[<-h2]
 by_cases h:v<0
 ·rw[decide_eq_true h,decide_eq_false (by omega)];rfl
 ·rw[decide_eq_false h,decide_eq_true (by omega)];rfl
theorem Ry(n:Nat)(hn:1003<=n)(r2:Int×aA×Unit->Option Bool)(c:aA)(hc:dS c)(i:Nat)(x:Kid)(hx:c.kids[i]? =some x):pF n r2 n ((i:Int),0,c,())=if(c.kids.take i).any (λk=>decide (k.page=x.page)) then some false else r2 (IntKind.wrap .i64 ((i:Int)+1),c,()):=by
 have hl:=hc.kids
 have hi:i<c.kids.length:=by
  rcases Nat.lt_or_ge i c.kids.length with h|h
  ·exact h
  ·rw[List.getElem?_eq_none h] at hx;cases hx
 show pF n r2 n ((i:Int),((0:Nat):Int),c,())=_
 have hlen:(c.kids.take i).length=i:=by simp;omega
 unfold pF
 refine(gH (c.kids.take i) (fun(j:Nat) (_:Unit)=>((i:Int),(j:Int),c,())) (λ_ k _=>if decide (k.page=x.page) then .inl (some false) else .inr ()) (λ_=>r2 (IntKind.wrap .i64 ((i:Int)+1),c,())) (λr j s y hy hj=> ?_) (λr s=> ?_) n 0 () (by omega) (by omega)).trans ?_
 ·rw[hlen] at hj
  have hy':c.kids[j]? =some y:=by rw[List.getElem?_take_of_lt hj] at hy;exact hy
  simp only[bH hj,cond_true,aR,hy',hx,Option.bind_some,aJ (show j<4611686018427387904 by omega),oL]
  by_cases h:y.page=x.page
  ·rw[decide_eq_true h];rfl
  ·rw[decide_eq_false h];rfl
 ·rw[hlen]
  simp only[bI (Nat.lt_irrefl _),cond_false]
 ·rw[List.drop_zero,Cn]
theorem TY(n:Nat)(hn:1003<=n)(c:aA)(hc:dS c):B6 n c=some (yT c):=by
 have hl:=hc.rows
 have hlk:=hc.kids
 have h2:vX n n (((1:Nat):Int),c,())=some (cI (upK c.kids) 0 c.kids):=by
  unfold vX
  cases hr:c.kids with
  |nil=>
   obtain⟨m,rfl⟩:∃m,n=m+1:=⟨n-1,by omega⟩
   simp only[aW,hr,List.length_nil,show decide (((1:Nat):Int)<((0:Nat):Int))=false from by decide,cond_false,cI]
  |cons x0 t0=>
   rw[<-hr]
   refine(iT c.kids (fun(i:Nat) (_:Unit)=>((i:Int),c,())) (λi x _=>if upK c.kids i x then .inr () else .inl (some false)) (λ_=>some true) (λi _=>1<=i) (λi s x s' hx hi hs=>by omega) (λr i q x hx hi h1=> ?_) (λr q hq=> ?_) n 1 () (by rw[hr];simp) (by omega) (Nat.le_refl 1)).trans ?_
   ·obtain⟨i,rfl⟩:∃j,i=j+1:=⟨i-1,by omega⟩
    have hi':c.kids[i]? =some c.kids[i]:=get_some (by omega)
    obtain⟨v,e1,e2⟩:=HH n c.kids[i].least x.least
    simp only[bH hi,cond_true,lN (show i<4611686018427387904 by omega),aR,hx,hi',Option.bind_some,e1,e2,upK,iM,Option.map_some,Ry n hn r c hc (i+1) x hx,aJ (show i+1<4611686018427387904 by omega)]
    cases ltK c.kids[i].least x.least<;>cases (c.kids.take (i+1)).any (λk=>decide (k.page=x.page))<;>rfl
   ·simp only[bI (Nat.lt_irrefl _),cond_false]
   ·rw[jP,Cp _ _ (λx=>by simp[upK,iM])]
    cases cI (upK c.kids) 0 c.kids<;>rfl
 show vY n n (((1:Nat):Int),c,())=_
 unfold vY yT
 cases hr:c.rows with
 |nil=>
  obtain⟨m,rfl⟩:∃m,n=m+1:=⟨n-1,by omega⟩
  simp only[aW,hr,List.length_nil,show decide (((1:Nat):Int)<((0:Nat):Int))=false from by decide,cond_false,cI,Bool.true_and]
  exact h2
 |cons x0 t0=>
  rw[<-hr]
  refine(iT c.rows (fun(i:Nat) (_:Unit)=>((i:Int),c,())) (λi x _=>if upR c.rows i x then .inr () else .inl (some false)) (λ_=>some (cI (upK c.kids) 0 c.kids)) (λi _=>1<=i) (λi s x s' hx hi hs=>by omega) (λr i q x hx hi h1=> ?_) (λr q hq=> ?_) n 1 () (by rw[hr];simp) (by omega) (Nat.le_refl 1)).trans ?_
  ·obtain⟨i,rfl⟩:∃j,i=j+1:=⟨i-1,by omega⟩
   have hi':c.rows[i]? =some c.rows[i]:=get_some (by omega)
   obtain⟨v,e1,e2⟩:=HH n c.rows[i].key x.key
   simp only[bH hi,cond_true,lN (show i<4611686018427387904 by omega),aR,hx,hi',Option.bind_some,e1,e2,upR,lQ,Option.map_some,aJ (show i+1<4611686018427387904 by omega)]
   cases ltK c.rows[i].key x.key<;>rfl
  ·simp only[bI (Nat.lt_irrefl _),cond_false]
   exact h2
  ·rw[jP,Cp _ _ (λx=>rfl)]
   cases cI (upR c.rows) 0 c.rows<;>rfl
def hd0(k:Key):List Kid->List Kid
 |[]=>[]
 |x::t=>⟨k,x.page⟩::t
theorem NP{k:Key}(l:List Kid):(hd0 k l).length=l.length:=by cases l<;>rfl
def sW(rs:List Row)(ks:List Kid):Key:=match ks with
 |x::_=>x.least
 |[]=>match rs with
  |r::_=>r.key
  |[]=>cC
def aO(a b:aA)(k:Key):aA:=⟨a.kind,a.rows++b.rows,a.kids++hd0 k b.kids⟩
def eZ(c:aA)(m:Nat):aA:=⟨c.kind,c.rows.take m,c.kids.take m⟩
def eT(c:aA)(m:Nat):aA:=⟨c.kind,c.rows.drop m,hd0 cC (c.kids.drop m)⟩
def cF(c:aA)(m:Nat):Key:=sW (c.rows.drop m) (c.kids.drop m)
def stepT{α:Type}(m:Nat)(i:Nat)(x:α)(s:List α×List α):Option (aA×aA×Key) ⊕ (List α×List α):= .inr (if i<m then(s.1++[x],s.2) else(s.1,s.2++[x]))
theorem NQ{α:Type}(m:Nat)(fin:List α×List α->Option (aA×aA×Key)):∀(t:List α)(i:Nat)(s:List α×List α),dY (stepT m) fin t i s=fin (s.1++t.take (m-i),s.2++t.drop (m-i))
 |[],i,s=>by simp[dY]
 |x::t,i,s=>by
  simp only[dY,stepT]
  rw[NQ m fin t (i+1)]
  by_cases h:i<m
  ·rw[if_pos h]
   obtain⟨d,hd⟩:∃d,m-i=d+1:=⟨m-i-1,by omega⟩
   rw[hd,show m-(i+1)=d from by omega]
   simp
  ·rw[if_neg h,show m-i=0 from by omega,show m-(i+1)=0 from by omega]
   simp
theorem dlt{i m:Nat}:decide ((i:Int)<(m:Int))=decide (i<m):=by
 by_cases h:i<m
 ·rw[decide_eq_true h,decide_eq_true (by omega)]
 ·rw[decide_eq_false h,decide_eq_false (by omega)]
theorem NR(n:Nat)(hn:1003<=n)(c:aA)(hc:dS c)(m:Nat):qP n c (m:Int)=some (eZ c m,eT c m,cF c m):=by
 have hlr:=hc.rows
 have hlk:=hc.kids
 have h3:∀(A B:aA)(K:Key)(a b:List Row),a.length<=1000->b.length<=1000->uN n n ((m:Int),0,c,A,B,K,c.kind,c.kind,a,[],b,[],())=some (⟨c.kind,a,c.kids.take m⟩,⟨c.kind,b,hd0 cC (c.kids.drop m)⟩,sW b (c.kids.drop m)):=by
  intro A B K a b ha hb
  show uN n n ((m:Int),((0:Nat):Int),c,A,B,K,c.kind,c.kind,a,[],b,[],())=_
  unfold uN
  refine(iT c.kids (fun(i:Nat) (s:List Kid×List Kid)=>((m:Int),(i:Int),c,A,B,K,c.kind,c.kind,a,s.1,b,s.2,())) (stepT m) (λs=>some (⟨c.kind,a,s.1⟩,⟨c.kind,b,hd0 cC s.2⟩,sW b s.2)) (λi s=>s.1.length<=i/\s.2.length<=i) (λi s x s' hx hi hs=> ?_) (λr i s x hx hi hs=> ?_) (λr s hs=> ?_) n 0 ([],[]) (by omega) (by omega) (by simp)).trans ?_
  ·unfold stepT at hs
   injection hs with hs
   subst hs
   split<;>simp<;>omega
  ·obtain⟨h1,h2⟩:=hs
   have a1:app 24 s.1 [x]=some (s.1++[x]):=cE (by simp;omega) (by decide)
   have a2:app 24 s.2 [x]=some (s.2++[x]):=cE (by simp;omega) (by decide)
   simp only[bH hi,cond_true,aR,hx,Option.bind_some,jn,Fs,dlt,a1,a2,aJ (show i<4611686018427387904 by omega),stepT]
   by_cases h:i<m
   ·rw[decide_eq_true h,if_pos h];rfl
   ·rw[decide_eq_false h,if_neg h];rfl
  ·simp only[bI (Nat.lt_irrefl _),cond_false,jn,Fu,Ft]
   have hidx:∀(x:Row)(t:List Row),idx (x::t) 0=some x:=λx t=>pM _
   have hidk:∀(x:Kid)(t:List Kid),idx (x::t) 0=some x:=λx t=>pM _
   have hput:∀(x y:Kid)(t:List Kid),put (x::t) 0 y=some (y::t):=λx y t=>EJ (l:=x::t) (i:=0) (by simp)
   have hpos:∀{α:Type} (x:α) (t:List α),decide (((x::t).length:Int)>0)=true:=λx t=>decide_eq_true (by rw[List.length_cons];omega)
   have hneg:∀{α:Type},decide ((([]:List α).length:Int)>0)=false:=λ{α}=>decide_eq_false (by simp)
   cases b with
   |nil=>cases hs2:s.2 with
    |nil=>simp only[hneg,cond_false,hd0,sW];rfl
    |cons y t=>simp only[hneg,hpos,cond_false,cond_true,hidk,hput,Option.bind_some,hd0,sW];rfl
   |cons z u=>cases hs2:s.2 with
    |nil=>simp only[hneg,hpos,cond_false,cond_true,hidx,Option.bind_some,hd0,sW]
    |cons y t=>simp only[hneg,hpos,cond_false,cond_true,hidk,hidx,hput,Option.bind_some,hd0,sW];rfl
  ·rw[List.drop_zero,NQ]
   simp
 show AG n n ((m:Int),((0:Nat):Int),c,(aA.mk 0 ([]:List Row) ([]:List Kid)),(aA.mk 0 ([]:List Row) ([]:List Kid)),(Key.mk 0 0),c.kind,c.kind,([]:List Row),([]:List Kid),([]:List Row),([]:List Kid),())=_
 unfold AG
 refine(iT c.rows (fun(i:Nat) (s:List Row×List Row)=>((m:Int),(i:Int),c,(aA.mk 0 ([]:List Row) ([]:List Kid)),(aA.mk 0 ([]:List Row) ([]:List Kid)),(Key.mk 0 0),c.kind,c.kind,s.1,([]:List Kid),s.2,([]:List Kid),())) (stepT m) (λs=>some (⟨c.kind,s.1,c.kids.take m⟩,⟨c.kind,s.2,hd0 cC (c.kids.drop m)⟩,sW s.2 (c.kids.drop m))) (λi s=>s.1.length<=i/\s.2.length<=i) (λi s x s' hx hi hs=> ?_) (λr i s x hx hi hs=> ?_) (λr s hs=> ?_) n 0 ([],[]) (by omega) (by omega) (by simp)).trans ?_
 ·unfold stepT at hs
  injection hs with hs
  subst hs
  split<;>simp<;>omega
 ·obtain⟨h1,h2⟩:=hs
  have a1:app 40 s.1 [x]=some (s.1++[x]):=cE (by simp;omega) (by decide)
  have a2:app 40 s.2 [x]=some (s.2++[x]):=cE (by simp;omega) (by decide)
  simp only[bH hi,cond_true,aR,hx,Option.bind_some,jn,Fq,dlt,a1,a2,aJ (show i<4611686018427387904 by omega),stepT]
  by_cases h:i<m
  ·rw[decide_eq_true h,if_pos h];rfl
  ·rw[decide_eq_false h,if_neg h];rfl
 ·simp only[bI (Nat.lt_irrefl _),cond_false]
  exact h3 _ _ _ s.1 s.2 (by omega) (by omega)
 ·rw[List.drop_zero,NQ]
  simp[eZ,eT,cF]
def VU(k:Key)(i:Nat)(x:Kid):Kid:=if i=0 then⟨k,x.page⟩ else x
theorem Pw(n:Nat)(hn:1003<=n)(a b:aA)(ha:dS a)(hb:dS b)(k:Key):vU n a b k=some (aO a b k):=by
 have h1:=ha.rows
 have h2:=ha.kids
 have h3:=hb.rows
 have h4:=hb.kids
 have e1:app 40 ([]:List Row) a.rows=some a.rows:=by rw[cE (by simpa using (by omega:a.rows.length<=1000000)) (by decide)];rfl
 have e2:app 40 a.rows b.rows=some (a.rows++b.rows):=cE (by omega) (by decide)
 have e3:app 24 ([]:List Kid) a.kids=some a.kids:=by rw[cE (by simpa using (by omega:a.kids.length<=1000000)) (by decide)];rfl
 unfold vU
 rw[e1,Option.bind_some,e2,Option.bind_some,e3,Option.bind_some]
 show yE n n (((0:Nat):Int),b,k,_,a.kind,a.rows++b.rows,a.kids,())=_
 unfold yE
 refine(iT b.kids (fun(i:Nat) (s:List Kid)=>((i:Int),b,k,(aA.mk 0 ([]:List Row) ([]:List Kid)),a.kind,a.rows++b.rows,s,())) (λi x s=> .inr (s++[VU k i x])) (λs=>some ⟨a.kind,a.rows++b.rows,s⟩) (λi s=>s.length<=1000+i) (λi s x s' hx hi hs=> ?_) (λr i s x hx hi hs=> ?_) (λr s hs=> ?_) n 0 a.kids (by omega) (by omega) (by omega)).trans ?_
 ·injection hs with hs
  subst hs
  simp;omega
 ·have a1:∀y:Kid,app 24 s [y]=some (s++[y]):=λy=>cE (by simp;omega) (by decide)
  simp only[bH hi,cond_true,aR,hx,Option.bind_some,jn,DU,a1,aJ (show i<4611686018427387904 by omega),VU,VI]
  by_cases h:i=0
  ·rw[decide_eq_true h,if_pos h];rfl
  ·rw[decide_eq_false h,if_neg h];rfl
 ·simp only[bI (Nat.lt_irrefl _),cond_false]
 ·have hsk:∀(t:List Kid)(i:Nat)(s:List Kid),0<i->dY (R:=aA) (λi x s=> .inr (s++[VU k i x])) (λs=>some ⟨a.kind,a.rows++b.rows,s⟩) t i s=some ⟨a.kind,a.rows++b.rows,s++t⟩:=by
   intro t
   induction t with
   |nil=>intro i s _;simp[dY]
   |cons x t ih=>
    intro i s hi
    simp only[dY]
    rw[ih (i+1) _ (by omega),VU,if_neg (by omega)]
    simp
  rw[List.drop_zero]
  unfold aO
  cases hbk:b.kids with
  |nil=>simp[dY,hd0]
  |cons x t=>
   simp only[dY]
   rw[hsk t 1 _ (by omega)]
   simp[VU,hd0]
def mH(a b:aA):Bool:=decide (a.kind=b.kind)&& !decide (a.kind=0)
theorem Jn{a b:aA}(h:mH a b=true):a.kind=b.kind/\a.kind≠0:=by
 unfold mH at h
 simpa using h
theorem Jo(n:Nat)(hn:1003<=n)(a b:aA)(ha:dS a)(hb:dS b):dG n 0 [a,b]=some (if aV a&&aV b then 0 else 160):=by
 rw[Jd n hn [a,b] (by simp) (by intro c hc;simp at hc;rcases hc with rfl|rfl<;>assumption)]
 simp
theorem C2{a b:aA}{k:Key}(ha:dS a)(hb:dS b)(la:a.rows.length+a.kids.length<=100)(lb:b.rows.length+b.kids.length<=100):dS (aO a b k):=by
 refine⟨by simp[aO];omega,by simp[aO,NP];omega,λx hx=> ?_⟩
 simp only[aO,List.mem_append] at hx
 rcases hx with h|h
 ·exact ha.page x h
 ·cases hbk:b.kids with
  |nil=>rw[hbk] at h;cases h
  |cons y t=>
   rw[hbk] at h
   simp only[hd0,List.mem_cons] at h
   rcases h with rfl|h
   ·exact hb.page y (by simp[hbk])
   ·exact hb.page x (by simp[hbk,h])
theorem LY{c:aA}{m:Nat}(hc:dS c):dS (eZ c m):=⟨by have:=hc.rows;simp[eZ];omega,by have:=hc.kids;simp[eZ];omega,λx hx=>hc.page x (List.mem_of_mem_take hx)⟩
theorem VV{l:List Kid}{k:Key}(h:∀x∈l,oA .i64 x.page=true):∀x∈hd0 k l,oA .i64 x.page=true:=λx hx=>by
 cases l with
 |nil=>cases hx
 |cons y t=>
  rcases List.mem_cons.1 hx with rfl|hx
  ·exact h y (by simp)
  ·exact h x (by simp[hx])
theorem GF{c:aA}{m:Nat}(hc:dS c):dS (eT c m):=⟨by have:=hc.rows;simp[eT];omega,by have:=hc.kids;simp[eT,NP];omega,VV λx hx=>hc.page x (List.mem_of_mem_drop hx)⟩
theorem Px{l:List Kid}{k:Key}(hk:nZ k)(h:∀x∈l,nZ x.least):∀x∈hd0 k l,nZ x.least:=λx hx=>by
 cases l with
 |nil=>cases hx
 |cons y t=>
  rcases List.mem_cons.1 hx with rfl|hx
  ·exact hk
  ·exact h x (by simp[hx])
theorem NS:nZ cC:=⟨by decide,by decide⟩
theorem C3{a b:aA}{k:Key}(ha:Keys a)(hb:Keys b)(hk:nZ k):Keys (aO a b k):=by
 refine⟨λx hx=> ?_,λx hx=> ?_⟩
 ·rcases List.mem_append.1 hx with h|h
  ·exact ha.rows x h
  ·exact hb.rows x h
 ·rcases List.mem_append.1 hx with h|h
  ·exact ha.kids x h
  ·exact Px hk hb.kids x h
theorem C4{c:aA}{m:Nat}(hc:Keys c):Keys (eZ c m):=⟨λx hx=>hc.rows x (List.mem_of_mem_take hx),λx hx=>hc.kids x (List.mem_of_mem_take hx)⟩
theorem C5{c:aA}{m:Nat}(hc:Keys c):Keys (eT c m):=⟨λx hx=>hc.rows x (List.mem_of_mem_drop hx),Px NS λx hx=>hc.kids x (List.mem_of_mem_drop hx)⟩
def Rz(c:aA):aA×aA×Key×Int:=if aV c then(if cS c then(eZ c 2,eT c 2,cF c 2,0) else(bT,bT,cC,2)) else(bT,bT,cC,160)
theorem FO(n:Nat)(hn:1003<=n)(c:aA)(hc:dS c):nL n c=some (Rz c):=by
 unfold nL Rz
 rw[Jd n hn [c] (by simp) (by intro d hd;simp at hd;subst hd;exact hc)]
 simp only[List.all_cons,List.all_nil,Bool.and_true]
 by_cases hck:aV c=true
 ·simp only[hck,if_true,Option.bind_some,Ig n c hc,show((0:Int) !=0)=false from by decide,cond_false]
  by_cases hf:cS c=true
  ·have hkind:c.kind=1\/c.kind=2:=by
    unfold cS at hf;simp at hf;exact hf.1
   have hsz:aD c=4:=by unfold cS at hf;simp at hf;exact hf.2
   simp only[hf,Bool.not_true,cond_false,if_true]
   rcases Co hck (by rcases hkind with h|h<;>rw[h]<;>decide) with⟨h1,h2,h3⟩|⟨h1,h2,h3,h4⟩
   ·obtain⟨kind,rows,kids⟩:=c
    simp only at h1 h2 h3
    subst h1 h2
    obtain⟨r1,r2,r3,r4,rfl⟩:=ZS (show rows.length=4 by simpa[aD] using hsz)
    simp only[show((1:Int)==1)=true from by decide,cond_true]
    rw[show jJ n [r1,r2,r3,r4] 2=some ([r1,r2],[r3,r4]) from SG n [r1,r2,r3,r4] (by simp) 2 (by simp)]
    rfl
   ·obtain⟨kind,rows,kids⟩:=c
    simp only at h1 h2 h3 h4
    subst h1 h2
    obtain⟨r1,r2,r3,r4,rfl⟩:=ZS (show kids.length=4 by simpa[aD] using hsz)
    simp only[show((2:Int)==1)=false from by decide,cond_false]
    rw[show jK n [r1,r2,r3,r4] 2=some ([r1,r2],[r3,r4]) from SH n [r1,r2,r3,r4] (by simp) 2 (by simp)]
    rfl
  ·have hf:cS c=false:=by simpa using hf
   simp[hf,bT,cC]
 ·have hck:aV c=false:=by simpa using hck
  simp[hck,bT,cC]
theorem GG(n:Nat)(hn:1003<=n)(a b:aA)(k:Key)(ca:aV a=true)(cb:aV b=true)(hal:a.kind=b.kind/\a.kind≠0):nY n a b k=some (aO a b k)/\((a.kind=1/\a.kids=[]/\b.kids=[])\/(a.kind=2/\a.rows=[]/\b.rows=[]/\2<=a.kids.length/\2<=b.kids.length))/\aD a<=4/\aD b<=4:=by
 obtain⟨ak,ar,aq⟩:=a
 obtain⟨bk,br,bq⟩:=b
 rcases Co ca hal.2 with⟨h1,h2,h3⟩|⟨h1,h2,h3,h4⟩
 ·rcases Co cb (by rw[<-hal.1];exact hal.2) with⟨g1,g2,g3⟩|⟨g1,_⟩
  ·simp only at h1 h2 h3 g1 g2 g3
   subst h1 h2 g1 g2
   refine⟨?_,.inl ⟨rfl,rfl,rfl⟩,by simpa[aD] using h3,by simpa[aD] using g3⟩
   unfold nY
   simp only[show((1:Int)==1)=true from by decide,cond_true]
   rw[Rv n hn ar br (by omega) (by omega)]
   rfl
  ·rw[h1,g1] at hal;exact absurd hal.1 (by decide)
 ·rcases Co cb (by rw[<-hal.1];exact hal.2) with⟨g1,_⟩|⟨g1,g2,g3,g4⟩
  ·rw[h1,g1] at hal;exact absurd hal.1 (by decide)
  ·simp only at h1 h2 h3 h4 g1 g2 g3 g4
   subst h1 h2 g1 g2
   refine⟨?_,.inr ⟨rfl,rfl,rfl,h3,g3⟩,by simpa[aD] using h4,by simpa[aD] using g4⟩
   cases bq with
   |nil=>simp at g3
   |cons w kt=>
    unfold nY
    simp only[show((2:Int)==1)=false from by decide,cond_false]
    rw[qV n (w::kt) (by simp at g4|-;omega)]
    simp only[Option.bind_some,Pn]
    rw[Rw n hn aq (⟨k,w.page⟩::kt) (by omega) (by simp at g4|-;omega)]
    rfl
def LZ(a b:aA)(k:Key):aA×Int:=if aV a&&aV b then(if mH a b then(if aD a+aD b>4 then(bT,6) else if aV (aO a b k) then(aO a b k,0) else(bT,2)) else(bT,2)) else(bT,160)
theorem TZ(n:Nat)(hn:1003<=n)(a b:aA)(k:Key)(ha:dS a)(hb:dS b):CV n a b k=some (LZ a b k):=by
 unfold CV LZ
 rw[Jo n hn a b ha hb]
 by_cases hall:(aV a&&aV b)=true
 ·simp only[hall,if_true,Option.bind_some,show((0:Int) !=0)=false from by decide,cond_false,Pv]
  simp only[Bool.and_eq_true] at hall
  by_cases hal:mH a b=true
  ·have hal':=hal
   unfold mH at hal'
   obtain⟨j1,j2,sa,sb⟩:=GG n hn a b k hall.1 hall.2 (Jn hal)
   simp only[hal',hal,Bool.not_true,cond_false,if_true,size_eq n a ha,size_eq n b hb,Option.bind_some,wrap_add (show aD a+aD b<4611686018427387904 by omega)]
   by_cases h4:aD a+aD b>4
   ·rw[decide_eq_true (by omega),if_pos h4];rfl
   ·rw[decide_eq_false (by omega),if_neg h4,cond_false,j1]
    simp only[Option.bind_some]
    have hf:dS (aO a b k):=C2 ha hb (by unfold aD at sa;omega) (by unfold aD at sb;omega)
    by_cases hc:aV (aO a b k)=true
    ·rw[if_pos hc,Jg n hn _ hf hc];rfl
    ·rw[if_neg hc]
     have hc:aV (aO a b k)=false:=by simpa using hc
     unfold mO
     rw[Je n hn [aO a b k] (by simp) (by intro d hd;simp at hd;subst hd;exact hf)]
     simp only[List.all_cons,List.all_nil,hc,Bool.false_and]
     rfl
  ·have hal:mH a b=false:=by simpa using hal
   have hal':=hal
   unfold mH at hal'
   rw[hal',hal];rfl
 ·have hall:(aV a&&aV b)=false:=by simpa using hall
  rw[hall];rfl
def no4(e:Int):aA×aA×Key×Int:=(bT,bT,cC,e)
def AP(a b:aA)(k:Key):Bool:= !decide (aD (eT (aO a b k) (eU a b))=0)&&(yT (aO a b k)&&(aV (eZ (aO a b k) (eU a b))&&aV (eT (aO a b k) (eU a b))))
def NT(a b:aA)(k:Key):aA×aA×Key×Int:=if aV a&&aV b then(if mH a b&& !decide (aD a=aD b) then(if AP a b k then(eZ (aO a b k) (eU a b),eT (aO a b k) (eU a b),cF (aO a b k) (eU a b),0) else no4 2) else no4 2) else no4 160
theorem X7{a b:aA}(h:aD a≠aD b):eU a b<=aD a+aD b:=by
 unfold eU
 split<;>omega
theorem L0(n:Nat)(hn:1003<=n)(key:Key)(a b:aA)(k:Key)(j x y:aA)(hj:dS j)(hx:dS x)(hy:dS y):yR n (key,a,b,k,j,x,y,())=some (if yT j&&(aV x&&aV y) then(x,y,key,0) else no4 2):=by
 unfold yR
 have hcm:=Je n hn [x,y] (by simp) (by intro c hc;simp at hc;rcases hc with rfl|rfl<;>assumption)
 simp only[hcm,Option.bind_some,jn,TX n hn j hj,lL,List.all_cons,List.all_nil,Bool.and_true]
 cases aV x<;>cases aV y<;>cases yT j<;>rfl
theorem T0(n:Nat)(hn:1003<=n)(a b:aA)(k z:Key)(u v:aA)(ha:dS a)(hb:dS b)(ca:aV a=true)(cb:aV b=true)(hal:a.kind=b.kind/\a.kind≠0)(hne:aD a≠aD b):yS n ((eU a b:Nat),a,b,k,u,v,z,())=some (if AP a b k then(eZ (aO a b k) (eU a b),eT (aO a b k) (eU a b),cF (aO a b k) (eU a b),0) else no4 2):=by
 obtain⟨j1,j2,sa,sb⟩:=GG n hn a b k ca cb hal
 have hm:=X7 hne
 have hf:dS (aO a b k):=C2 ha hb (by unfold aD at sa;omega) (by unfold aD at sb;omega)
 have fa:=LY (m:=eU a b) hf
 have fb:=GF (m:=eU a b) hf
 unfold AP
 generalize hM:eU a b=M at*
 unfold yS
 dsimp only
 rw[j1]
 simp only[Option.bind_some,jn]
 rcases j2 with⟨h1,h2,h3⟩|⟨h1,h2,h3,h4,h5⟩
 ·have hsz:aD a+aD b=(aO a b k).rows.length:=by simp[aD,h2,h3,aO]
  have hks:(aO a b k).kids=[]:=by simp[aO,h2,h3,hd0]
  have hkd:(aO a b k).kind=1:=h1
  simp only[h1,show((1:Int)==1)=true from by decide,cond_true,SG n _ hf.rows M (by omega),Option.bind_some,fZ]
  have eA:eZ (aO a b k) M=⟨1,(aO a b k).rows.take M,[]⟩:=by unfold eZ;rw[hks,hkd];simp
  have eB:eT (aO a b k) M=⟨1,(aO a b k).rows.drop M,[]⟩:=by unfold eT;rw[hks,hkd];simp[hd0]
  have eS:cF (aO a b k) M=sW ((aO a b k).rows.drop M) []:=by unfold cF;rw[hks];simp
  rw[eA] at fa
  rw[eB] at fb
  rw[eA,eB,eS]
  cases hd:(aO a b k).rows.drop M with
  |nil=>rfl
  |cons r t=>
   have hz:(((r::t).length:Int)==0)=false:=by simp;omega
   rw[hd] at fb
   simp only[hz,cond_false,show idx (r::t) 0=some r from pM _,Option.bind_some]
   rw[L0 n hn _ _ _ _ _ _ _ hf fa fb]
   have hnz:decide (aD ⟨1,r::t,[]⟩=0)=false:=decide_eq_false (by simp[aD])
   rw[hnz]
   rfl
 ·have hks:(aO a b k).rows=[]:=by simp[aO,h2,h3]
  have hkd:(aO a b k).kind=2:=h1
  have hsz:aD a+aD b=(aO a b k).kids.length:=by simp[aD,h2,h3,aO,NP]
  have hlt:M<(aO a b k).kids.length:=by
   rw[<-hsz,<-hM]
   unfold eU aD
   rw[h2,h3]
   simp only[List.length_nil,Nat.zero_add]
   split<;>omega
  simp only[h1,show((2:Int)==1)=false from by decide,cond_false,SH n _ hf.kids M (by omega),Option.bind_some,eW]
  have eA:eZ (aO a b k) M=⟨2,[],(aO a b k).kids.take M⟩:=by unfold eZ;rw[hks,hkd];simp
  have eB:eT (aO a b k) M=⟨2,[],hd0 cC ((aO a b k).kids.drop M)⟩:=by unfold eT;rw[hks,hkd];simp
  have eS:cF (aO a b k) M=sW [] ((aO a b k).kids.drop M):=by unfold cF;rw[hks];simp
  rw[eA] at fa
  rw[eB] at fb
  rw[eA,eB,eS]
  cases hd:(aO a b k).kids.drop M with
  |nil=>have:=congrArg List.length hd;rw[List.length_drop] at this;simp at this;omega
  |cons r t=>
   rw[hd] at fb
   simp only[Pn,Option.bind_some]
   refine(L0 n hn _ _ _ _ _ _ _ hf fa fb).trans ?_
   have hnz:decide (aD ⟨2,[],hd0 cC (r::t)⟩=0)=false:=decide_eq_false (by simp[aD,hd0])
   rw[hnz]
   rfl
theorem RA(n:Nat)(hn:1003<=n)(a b:aA)(k:Key)(ha:dS a)(hb:dS b):AL n a b k=some (NT a b k):=by
 unfold AL NT
 rw[Jo n hn a b ha hb]
 by_cases hall:(aV a&&aV b)=true
 ·simp only[hall,if_true,Option.bind_some,show((0:Int) !=0)=false from by decide,cond_false,Pv,jn]
  simp only[Bool.and_eq_true] at hall
  by_cases hal:mH a b=true
  ·have hal':=hal
   unfold mH at hal'
   simp only[hal',hal,Bool.not_true,cond_false,Bool.true_and,size_eq n a ha,size_eq n b hb,Option.bind_some]
   rw[show(((aD a:Nat):Int)==((aD b:Nat):Int))=decide (aD a=aD b) from NJ]
   by_cases hs:aD a=aD b
   ·rw[decide_eq_true hs];rfl
   ·rw[decide_eq_false hs]
    obtain⟨_,_,sa,sb⟩:=GG n hn a b k hall.1 hall.2 (Jn hal)
    simp only[cond_false,Zc (a:=0) (b:=0),Bool.not_false,if_true]
    have h1:=T0 n hn a b k cC bT bT ha hb hall.1 hall.2 (Jn hal) hs
    by_cases h:aD a>aD b
    ·rw[decide_eq_true h,cond_true,<-h1,cN (by omega)]
     unfold eU
     rw[if_pos h]
     congr 2;omega
    ·rw[decide_eq_false h,cond_false,<-h1,cN (by omega)]
     unfold eU
     rw[if_neg h]
     congr 2
  ·have hal:mH a b=false:=by simpa using hal
   have hal':=hal
   unfold mH at hal'
   rw[hal',hal];rfl
 ·have hall:(aV a&&aV b)=false:=by simpa using hall
  rw[hall];rfl
theorem zQ(n:Nat)(c:aA)(hc:dS c):eY n c=some (aD c:Int):=size_eq n c hc
theorem T1 (n : Nat) (hn : 1003 <= n) (a b : aA) (k : Key) (ha : dS a) (hb : dS b) (la : aD a <= 100) (lb : aD b <= 100) (ka : Keys a) (kb : Keys b) (hk : nZ k) : xJ n a b k = some (if mH a b && !decide (aD a = aD b) then (if AP a b k then (eZ (aO a b k) (eU a b), eT (aO a b k) (eU a b), cF (aO a b k) (eU a b), true) else (bT, bT, cC, false)) else (bT, bT, cC, false)) := by
  have hf : dS (aO a b k) := C2 ha hb (by unfold aD at la; omega) (by unfold aD at lb; omega)
  have kf := C3 ka kb hk
  have hj : ∀ (u v : aA) (z : Key), kL n ((eU a b : Nat), a, b, k, u, v, z, ()) = some (if AP a b k then (eZ (aO a b k) (eU a b), eT (aO a b k) (eU a b), cF (aO a b k) (eU a b), true) else (bT, bT, cC, false)) := by
    intro u v z
    unfold kL AP
    simp only [Pw n hn a b ha hb k, Option.bind_some, NR n hn _ hf, zQ n _ (GF hf), jn, TY n hn _ hf, Pu n hn _ (LY hf) (C4 kf), Pu n hn _ (GF hf) (C5 kf), VI]
    cases decide (aD (eT (aO a b k) (eU a b)) = 0) <;> cases yT (aO a b k) <;> cases aV (eZ (aO a b k) (eU a b)) <;> cases aV (eT (aO a b k) (eU a b)) <;> rfl
  unfold xJ
  have h3 : (a.kind != b.kind) = !decide (a.kind = b.kind) := by rw [bne, oL]
  simp only [jn, zQ n a ha, zQ n b hb, Option.bind_some, h3, oL a.kind, Zc (a := 0) (b := 0)]
  rw [show (((aD a : Nat) : Int) == ((aD b : Nat) : Int)) = decide (aD a = aD b) from NJ]
  have hgo : cond (decide (aD a > aD b))
            (kL n ((IntKind.wrap .i64 ((aD a : Nat) - 1)), a, b, k, (aA.mk 0 ([] : List Row) ([] : List Kid)), (aA.mk 0 ([] : List Row) ([] : List Kid)), (Key.mk 0 0), ()))
            (kL n ((IntKind.wrap .i64 ((aD a : Nat) + 1)), a, b, k, (aA.mk 0 ([] : List Row) ([] : List Kid)), (aA.mk 0 ([] : List Row) ([] : List Kid)), (Key.mk 0 0), ())) = some (if AP a b k then (eZ (aO a b k) (eU a b), eT (aO a b k) (eU a b), cF (aO a b k) (eU a b), true) else (bT, bT, cC, false)) := by
    have h1 := hj bT bT cC
    by_cases h : aD a > aD b
    · rw [decide_eq_true h, cond_true, <- h1, cN (by omega)]
      unfold eU
      rw [if_pos h]
      congr 2; omega
    · rw [decide_eq_false h, cond_false, <- h1, cN (by omega)]
      unfold eU
      rw [if_neg h]
      congr 2
  rw [hgo]
  unfold mH
  cases decide (a.kind = b.kind) <;> cases decide (a.kind = 0) <;> cases decide (aD a = aD b) <;> rfl
theorem FP(n:Nat)(c:aA)(hc:dS c)(hck:aV c=true):vZ n c=some (cS c):=by
 unfold vZ
 have h4:(((aD c:Nat):Int)==4)=decide (aD c=4):=NJ (m:=4)
 have hk0:(c.kind !=0)= !decide (c.kind=0):=by rw[bne,oL]
 simp only[jn,zQ n c hc,Option.bind_some,h4,hk0]
 unfold cS
 by_cases e0:c.kind=0
 ·simp[e0]
 ·rcases Co hck e0 with⟨h,_⟩|⟨h,_⟩<;>simp[h]
end Go.Proofs.YtlcmdgpjiendmaaGreat
namespace Go.Bur
open Go.RowKit
set_option linter.unusedVariables false
set_option linter.unusedSimpArgs false
theorem CY{α σ R:Type}{fin:σ->Option R}{s:σ}:∀(l:List α)(i:Nat),dY (λ_ _ s=> .inr s) fin l i s=fin s
 |[],_=>rfl
 |_::t,i=>CY t (i+1)
theorem zO{α R:Type}{p:α->Bool}{v:Option R}{fin:Unit->Option R}:∀(l:List α)(i:Nat),dY (λ_ x (_:Unit)=>if p x then .inr () else .inl v) fin l i ()=if l.all p then fin () else v
 |[],_=>rfl
 |x::t,i=>by
  by_cases hp:p x=true
  ·simp only[dY,List.all_cons,hp,if_true,Bool.true_and];exact zO t (i+1)
  ·have hp:p x=false:=by simpa using hp
   simp[dY,hp]
theorem Cn{α R:Type}{p:α->Bool}{v:Option R}{fin:Unit->Option R}:∀(l:List α)(i:Nat),dY (λ_ x (_:Unit)=>if p x then .inl v else .inr ()) fin l i ()=if l.any p then v else fin ()
 |[],_=>rfl
 |x::t,i=>by
  by_cases hp:p x=true
  ·simp[dY,hp]
  ·have hp:p x=false:=by simpa using hp
   simp only[dY,hp,List.any_cons,Bool.false_or];exact Cn t (i+1)
def cI{α:Type}(p:Nat->α->Bool):Nat->List α->Bool
 |_,[]=>true
 |i,x::t=>p i x&&cI p (i+1) t
theorem jP{α R:Type}{p:Nat->α->Bool}{v:Option R}{fin:Unit->Option R}:∀(l:List α)(i:Nat),dY (λi x (_:Unit)=>if p i x then .inr () else .inl v) fin l i ()=if cI p i l then fin () else v
 |[],_=>rfl
 |x::t,i=>by
  by_cases hp:p i x=true
  ·simp only[dY,cI,hp,if_true,Bool.true_and];exact jP t (i+1)
  ·have hp:p i x=false:=by simpa using hp
   simp[dY,cI,hp]
theorem oL(a b:Int):(a==b)=decide (a=b):=by
 by_cases h:a=b
 ·subst h;simp
 ·rw[decide_eq_false h];simp[h]
theorem abp{k m:Nat}:(((k:Int))==(m:Int))=decide (k=m):=by
 rw[oL]
 by_cases h:k=m
 ·subst h;simp
 ·rw[decide_eq_false h,decide_eq_false (by omega)]
theorem abq{k m:Nat}:(((k:Int)) !=(m:Int))= !decide (k=m):=by rw[bne,abp]
theorem VW{α:Type}{l:List α}{i:Int}{x:α}(h:idx l i=some x):0<=i/\i<l.length/\x∈l:=by
 unfold idx at h
 split at h
 ·rename_i h0
  obtain⟨h1,h2⟩:=List.getElem?_eq_some_iff.1 h
  exact⟨h0,by omega,h2▸List.getElem_mem h1⟩
 ·cases h
theorem ZV{α:Type}{l:List α}{i:Int}(h:0<=i/\i<l.length):∃x,idx l i=some x:=by
 obtain⟨k,rfl⟩:=Int.eq_ofNat_of_zero_le h.1
 exact⟨_,(aR l k).trans (get_some (by omega))⟩
end Go.Bur
namespace Go.Bur
open Go.RowKit
set_option linter.unusedVariables false
set_option linter.unusedSimpArgs false
structure Cut{α:Type}(c:α->Int)(l A:List α)(y:Option α)(B:List α):Prop where
 eq:l=A++(y.toList++B)
 lo:∀x∈A,c x<0
 mid:∀x,y=some x->c x=0
 hi:∀x∈B,0<c x
section
variable {α : Type} {c : α -> Int} {l A B : List α} {y : Option α}
end
theorem NU{α:Type}{A B:List α}{o:α}:idx (A++o::B) (A.length:Int)=some o:=by
 rw[aR,List.getElem?_append_right (Nat.le_refl _)];simp
theorem X8{α:Type}{A B:List α}{o x:α}:put (A++o::B) (A.length:Int) x=some (A++x::B):=by
 rw[EJ (by simp)];simp
end Go.Bur
