import Derived.Test.YtlcmdgpjiendmaaGreatF6
import Derived.Test.YtlcmdgpjiendmaaGreatLst3
import Derived.Test.YtlcmdgpjiendmaaGreatRw
namespace Go.Proofs.YtlcmdgpjiendmaaGreat
open Go.Bur
set_option linter.unusedSimpArgs false
set_option linter.unusedVariables false
set_option maxRecDepth 100000
def cmpI(a b:Int):Int:=if a<b then-1 else if a>b then 1 else 0
def cmpK(a b:Key):Int:=if cmpI a.table b.table≠0 then cmpI a.table b.table else cmpI a.id b.id
theorem compare_int(n:Nat)(a b:Int):cmp_Compare_int n a b=some (cmpI a b):=by
 unfold cmp_Compare_int cmp_isNaN_int cmpI
 by_cases h1:a<b
 ·simp[h1]
 ·by_cases h2:a>b
  ·simp[h1,h2]
  ·simp[h1,h2]
theorem compare_u16(n:Nat)(a b:Int):cmp_Compare_uint16 n a b=some (cmpI a b):=by
 unfold cmp_Compare_uint16 cmp_isNaN_uint16 cmpI
 by_cases h1:a<b
 ·simp[h1]
 ·by_cases h2:a>b
  ·simp[h1,h2]
  ·simp[h1,h2]
theorem or2(n:Nat)(hn:3≤n)(a b:Int):cmp_Or_int n [a,b]=some (if a≠0 then a else b):=by
 obtain⟨n,rfl⟩:∃m,n=m+3:=⟨n-3,by omega⟩
 unfold cmp_Or_int cmp_Or_int_l1
 by_cases ha:a=0
 ·by_cases hb:b=0
  ·subst ha hb;rfl
  ·subst ha
   have:(b !=0)=true:=by simpa using hb
   simp[loopF,idx,IntKind.wrap_i64,this]
 ·have:(a !=0)=true:=by simpa using ha
  simp[loopF,idx,this,ha]
theorem compare_eq(n:Nat)(hn:3≤n)(a b:Key):row_Compare n a b=some (cmpK a b):=by
 unfold row_Compare
 rw[compare_int,compare_u16]
 simp only[Option.bind_some]
 rw[or2 n hn]
 rfl
def ltK(a b:Key):Bool:=decide (cmpK a b<0)
theorem ltK_iff{a b:Key}:ltK a b=true↔a.table<b.table∨(a.table=b.table∧a.id<b.id):=by
 unfold ltK cmpK cmpI
 rw[decide_eq_true_iff]
 repeat' split
 all_goals omega
def okTab(t:Int):Bool:=decide (t≥0)&&decide (t<3)
theorem table_eq(n:Nat)(t:Int):codec_table n t=some (okTab t):=by
 unfold codec_table okTab jn
 cases decide (t≥0)<;>rfl
def okRow(r:Row):Bool:=okTab r.key.table&& !decide ((r.note.size:Int)>8)
theorem checkRow_eq(n:Nat)(r:Row):codec_CheckRow n r=some (if okRow r then 0 else 151):=by
 unfold codec_CheckRow okRow
 rw[table_eq]
 simp only[Option.bind_some,jn]
 cases okTab r.key.table<;>cases decide ((r.note.size:Int)>8)<;>rfl
theorem leaf2_eq(n:Nat)(i:Int)(r:Row):codec_leaf_2 n i r=some (okRow r):=by
 unfold codec_leaf_2
 rw[checkRow_eq]
 cases okRow r<;>rfl
def risesR:Option Key→List Row→Bool
 |_,[]=>true
 |p,r::t=>okRow r&&(match p with|none=>true|some k=>ltK k r.key)&&risesR (some r.key) t
def prevK(l:List Row)(i:Nat):Option Key:=match i with
 |0=>none
 |j+1=>(l[j]?).map (·.key)
theorem rises_run(l:List Row)(hl:l.length≤1000):∀(t:List Row)(i:Nat),l.drop i=t→i≤l.length→
  runL (R:=Bool) (fun(i:Nat) (r:Row) (b:Bool)=>if b&&okRow r&&(match prevK l i with|none=>true|some k=>ltK k r.key) then .inr true else .inl (some false)) some t i true=some (risesR (prevK l i) t)
 |[],i,h,hi=>rfl
 |r::t,i,h,hi=>by
  have hr:l[i]? =some r:=by
   have:=congrArg (λx=>x[0]?) h
   simpa using this
  have ht:l.drop (i+1)=t:=by rw[←List.drop_drop,h];rfl
  have hlt:i<l.length:=by
   rcases Nat.lt_or_ge i l.length with h1|h1
   ·exact h1
   ·rw[List.drop_eq_nil_of_le h1] at h;cases h
  have ih:=rises_run l hl t (i+1) ht hlt
  have hp:prevK l (i+1)=some r.key:=by simp[prevK,hr]
  simp only[runL,risesR,Bool.true_and]
  rw[hp] at ih
  cases hk:(okRow r&&match prevK l i with|none=>true|some k=>ltK k r.key) with
  |true=>simp only[if_true,Bool.true_and];exact ih
  |false=>rfl
theorem rises_eq(n:Nat)(l:List Row)(hl:l.length≤1000)(hn:1003≤n):codec_rises_Row_f130_f131 n l 4=some (decide (l.length≤4)&&risesR none l):=by
 show codec_rises_Row_f130_f131_l2 n (codec_rises_Row_f130_f131_j1 n) n (l,decide ((l.length:Int)≤4),l,(l.length:Int),((0:Nat):Int),())=_
 unfold codec_rises_Row_f130_f131_l2
 refine(run_loop (R:=Bool) l (fun(i:Nat) (b:Bool)=>(l,b,l,(l.length:Int),(i:Int),()))
  (fun(i:Nat) (r:Row) (b:Bool)=>if b&&okRow r&&(match prevK l i with|none=>true|some k=>ltK k r.key) then .inr true else .inl (some false)) some (λr i b x hx hi=> ?_) (λr b=> ?_) n 0 _ (by omega) (by omega)).trans ?_
 ·simp only[lt_dec hi,cond_true,idx_nat,hx,Option.bind_some,jn,leaf2_eq,codec_leaf_1,codec_rises_Row_f130_f131_j1]
  cases b with
  |false=>rfl
  |true=>
   cases ho:okRow x with
   |false=>simp[ho]
   |true=>
    cases i with
    |zero=>simp[ho,prevK,wrap_one]
    |succ i=>
     have hi':l[i]? =some l[i]:=get_some (by omega)
     have h0:(((i+1:Nat):Int)==0)=false:=by simp;omega
     simp only[cond_true,h0,cond_false,wrap_pred (show i<4611686018427387904 by omega),idx_nat,hi',Option.bind_some,compare_eq n (by omega),prevK,Option.map_some,ho,Bool.true_and,wrap_succ (show i+1<4611686018427387904 by omega)]
     show(cond (!ltK _ _) _ _:Option Bool)=_
     cases hk:ltK l[i].key x.key<;>simp[hk,ltK] at* <;>simp_all[ltK]
 ·simp only[ge_dec (Nat.lt_irrefl _),cond_false,codec_rises_Row_f130_f131_j1]
 ·rw[List.drop_zero]
  by_cases h4:l.length≤4
  ·rw[decide_eq_true (by omega:(l.length:Int)≤4),decide_eq_true h4,Bool.true_and]
   exact rises_run l hl l 0 rfl (by omega)
  ·rw[decide_eq_false (by omega:¬(l.length:Int)≤4),decide_eq_false h4]
   cases l with
   |nil=>simp at h4
   |cons x t=>rfl
def key0:Key:=⟨0,0⟩
def okKid(p:Option Key)(q:List (Int×Bool))(k:Kid):Bool:=
 !mget false q k.page&&decide (k.page>0)&&decide (k.page<64)&&okTab k.least.table&&(p.isSome||Key.eqb k.least key0)
def goK(p:Option Key)(q:List (Int×Bool))(k:Kid):Bool:=okKid p q k&&(match p with|none=>true|some z=>ltK z k.least)
def risesK:Option Key→List (Int×Bool)→List Kid→Bool
 |_,_,[]=>true
 |p,q,k::t=>goK p q k&&risesK (some k.least) ((k.page,true)::q) t
def prevL(l:List Kid)(i:Nat):Option Key:=match i with
 |0=>none
 |j+1=>(l[j]?).map (·.least)
theorem inner2_eq(n:Nat)(i:Nat)(k:Kid)(q:List (Int×Bool))(p:Option Key)(hp:p.isSome=decide (0<i))(hk:keyIn .i64 k.page=true)(hq:q.length≤1000):codec_inner_2 n (i:Int) k q=some (okKid p q k,(k.page,true)::q):=by
 have h1:mlook .i64 false q k.page=some (mget false q k.page):=by unfold mlook;rw[hk]
 have h2:mput .i64 q k.page true=some ((k.page,true)::q):=by unfold mput;rw[hk,Bool.true_and,show Nat.ble q.length 1000000=true from Nat.ble_eq_true_of_le (by omega)]
 unfold codec_inner_2 okKid
 rw[h1,Option.bind_some,h2,Option.bind_some,hp]
 have h3:decide ((i:Int)>0)=decide (0<i):=by simp
 simp only[jn,table_eq,Option.bind_some,h3,key0]
 cases mget false q k.page<;>cases decide (k.page>0)<;>cases decide (k.page<64)<;>cases okTab k.least.table<;>cases decide (0<i)<;>rfl
def stepK(l:List Kid)(i:Nat)(k:Kid)(s:Bool×List (Int×Bool)):Option (Bool×List (Int×Bool)) ⊕ (Bool×List (Int×Bool)):=
 if s.1 then(if goK (prevL l i) s.2 k then .inr (true,(k.page,true)::s.2) else .inl (some (false,(k.page,true)::s.2))) else .inl (some (false,s.2))
theorem risesK_run(l:List Kid):∀(t:List Kid)(i:Nat)(q:List (Int×Bool)),l.drop i=t→i≤l.length→∃q',runL (R:=Bool×List (Int×Bool)) (stepK l) some t i (true,q)=some (risesK (prevL l i) q t,q')
 |[],i,q,h,hi=>⟨q,rfl⟩
 |k::t,i,q,h,hi=>by
  have hr:l[i]? =some k:=by
   have:=congrArg (λx=>x[0]?) h
   simpa using this
  have ht:l.drop (i+1)=t:=by rw[←List.drop_drop,h];rfl
  have hlt:i<l.length:=by
   rcases Nat.lt_or_ge i l.length with h1|h1
   ·exact h1
   ·rw[List.drop_eq_nil_of_le h1] at h;cases h
  obtain⟨q',ih⟩:=risesK_run l t (i+1) ((k.page,true)::q) ht hlt
  have hp:prevL l (i+1)=some k.least:=by simp[prevL,hr]
  rw[hp] at ih
  simp only[runL,risesK,stepK,if_true]
  cases hk:goK (prevL l i) q k with
  |true=>exact⟨q',by simp only[if_true,Bool.true_and];exact ih⟩
  |false=>exact⟨_,rfl⟩
theorem risesK_eq(n:Nat)(l:List Kid)(hl:l.length≤1000)(hn:1003≤n)(hk:∀k∈l,keyIn .i64 k.page=true):∃q',codec_rises_Kid_f133_f134 n l 4 []=some (decide (l.length≤4)&&risesK none [] l,q'):=by
 have hfin:∃q',runL (R:=Bool×List (Int×Bool)) (stepK l) some l 0 (decide ((l.length:Int)≤4),[])=some (decide (l.length≤4)&&risesK none [] l,q'):=by
  by_cases h4:l.length≤4
  ·rw[decide_eq_true (by omega:(l.length:Int)≤4),decide_eq_true h4,Bool.true_and]
   exact risesK_run l l 0 [] rfl (by omega)
  ·rw[decide_eq_false (by omega:¬(l.length:Int)≤4),decide_eq_false h4]
   cases l with
   |nil=>simp at h4
   |cons x t=>exact⟨[],rfl⟩
 obtain⟨q',hq'⟩:=hfin
 refine⟨q', ?_⟩
 show codec_rises_Kid_f133_f134_l2 n (codec_rises_Kid_f133_f134_j1 n) n (l,decide ((l.length:Int)≤4),l,(l.length:Int),((0:Nat):Int),[],())=_
 unfold codec_rises_Kid_f133_f134_l2
 refine(run_loopI (R:=Bool×List (Int×Bool)) l (fun(i:Nat) (s:Bool×List (Int×Bool))=>(l,s.1,l,(l.length:Int),(i:Int),s.2,()))
  (stepK l) some (λi s=>s.2.length≤i) (λi s x s' hx hi hs=> ?_) (λr i s x hx hi hs=> ?_) (λr s hs=> ?_) n 0 (decide ((l.length:Int)≤4),[]) (by omega) (by omega) (by simp)).trans hq'
 ·unfold stepK at hs
  split at hs
  ·split at hs
   ·injection hs with hs;subst hs;simp;exact hi
   ·cases hs
  ·cases hs
 ·obtain⟨b,q⟩:=s
  have hxk:keyIn .i64 x.page=true:=hk x (List.mem_of_getElem? hx)
  have hp:(prevL l i).isSome=decide (0<i):=by
   cases i with
   |zero=>rfl
   |succ i=>simp[prevL,get_some (show i<l.length by omega)]
  have hql:q.length≤i:=hs
  simp only[lt_dec hi,cond_true,idx_nat,hx,Option.bind_some,inner2_eq n i x q (prevL l i) hp hxk (by omega),codec_inner_1,codec_rises_Kid_f133_f134_j1,Bool.not_true,Bool.not_false,cond_false]
  cases b with
  |false=>rfl
  |true=>
   by_cases ho:okKid (prevL l i) q x=true
   ·simp only[cond_true,stepK,if_true,goK,ho,Bool.true_and]
    cases i with
    |zero=>simp[prevL,wrap_one]
    |succ i=>
     have hi':l[i]? =some l[i]:=get_some (by omega)
     have h0:(((i+1:Nat):Int)==0)=false:=by simp;omega
     simp only[h0,cond_false,wrap_pred (show i<4611686018427387904 by omega),idx_nat,hi',Option.bind_some,compare_eq n (by omega),prevL,Option.map_some,wrap_succ (show i+1<4611686018427387904 by omega)]
     show(cond (!ltK _ _) _ _:Option (Bool×List (Int×Bool)))=_
     cases hkk:ltK l[i].least x.least<;>simp_all[ltK]
   ·have ho:okKid (prevL l i) q x=false:=by simpa using ho
    simp[stepK,goK,ho]
 ·simp only[ge_dec (Nat.lt_irrefl _),cond_false,codec_rises_Kid_f133_f134_j1]
def checkP(c:Content):Bool:=
 if c.kind=0 then decide (c.rows.length+c.kids.length=0)
 else if c.kind=1 then decide (c.kids.length=0)&&(decide (c.rows.length≤4)&&risesR none c.rows)
 else if c.kind=2 then decide (c.rows.length=0)&&(decide (1<c.kids.length)&&(decide (c.kids.length≤4)&&risesK none [] c.kids)) else false
structure Fine(c:Content):Prop where
 rows:c.rows.length≤1000
 kids:c.kids.length≤1000
 page:∀k∈c.kids,keyIn .i64 k.page=true
theorem beq0{k:Nat}:(((k:Int))==0)=decide (k=0):=by
 by_cases h:k=0
 ·subst h;rfl
 ·rw[decide_eq_false h];simp;omega
theorem ibeq(a b:Int):(a==b)=decide (a=b):=by
 by_cases h:a=b
 ·subst h;simp
 ·rw[decide_eq_false h];simp[h]
theorem inner_eq(n:Nat)(l:List Kid)(hl:l.length≤1000)(hn:1003≤n)(hk:∀k∈l,keyIn .i64 k.page=true):codec_inner n l=some (decide (1<l.length)&&(decide (l.length≤4)&&risesK none [] l)):=by
 unfold codec_inner
 obtain⟨q',h⟩:=risesK_eq n l hl hn hk
 rw[h]
 by_cases h1:1<l.length
 ·rw[decide_eq_true (by omega:(l.length:Int)>1),decide_eq_true h1];simp
 ·rw[decide_eq_false (by omega:¬(l.length:Int)>1),decide_eq_false h1];simp
theorem check_eq(n:Nat)(hn:1003≤n)(c:Content)(hc:Fine c):codec_Check n c=some (if checkP c then 0 else 160):=by
 have hl:codec_leaf n c.rows=some (decide (c.rows.length≤4)&&risesR none c.rows):=by
  unfold codec_leaf;rw[rises_eq n _ hc.rows hn];rfl
 have hi:=inner_eq n c.kids hc.kids hn hc.page
 unfold codec_Check checkP
 simp only[jn,codec_Check_j1,codec_Check_j2,codec_Check_j3,hl,hi,Option.bind_some,wrap_add (show c.rows.length+c.kids.length<4611686018427387904 by have:=hc.rows;have:=hc.kids;omega),beq0,ibeq c.kind]
 by_cases h0:c.kind=0
 ·rw[if_pos h0,decide_eq_true h0]
  cases decide (c.rows.length+c.kids.length=0)<;>rfl
 ·rw[if_neg h0,decide_eq_false h0]
  by_cases h1:c.kind=1
  ·rw[if_pos h1,decide_eq_true h1]
   cases decide (c.kids.length=0)<;>cases (decide (c.rows.length≤4)&&risesR none c.rows)<;>rfl
  ·rw[if_neg h1,decide_eq_false h1]
   by_cases h2:c.kind=2
   ·rw[if_pos h2,decide_eq_true h2]
    cases decide (c.rows.length=0)<;>cases (decide (1<c.kids.length)&&(decide (c.kids.length≤4)&&risesK none [] c.kids))<;>rfl
   ·rw[if_neg h2,decide_eq_false h2];rfl
theorem runL_skip{α σ R:Type}{fin:σ→Option R}{s:σ}:∀(l:List α)(i:Nat),runL (λ_ _ s=> .inr s) fin l i s=fin s
 |[],_=>rfl
 |_::t,i=>runL_skip t (i+1)
theorem runL_all{α R:Type}{p:α→Bool}{v:Option R}{fin:Unit→Option R}:∀(l:List α)(i:Nat),runL (λ_ x (_:Unit)=>if p x then .inr () else .inl v) fin l i ()=if l.all p then fin () else v
 |[],_=>rfl
 |x::t,i=>by
  by_cases hp:p x=true
  ·simp only[runL,List.all_cons,hp,if_true,Bool.true_and];exact runL_all t (i+1)
  ·have hp:p x=false:=by simpa using hp
   simp[runL,hp]
theorem asked2_eq(n:Nat)(hn:1003≤n)(cs:List Content)(hl:cs.length≤1000):page_asked_l2 n n (0,cs,(cs.length:Int),0,())=some 0:=by
 show page_asked_l2 n n (0,cs,(cs.length:Int),((0:Nat):Int),())=some 0
 unfold page_asked_l2
 refine(run_loop cs (fun(i:Nat) (_:Unit)=>((0:Int),cs,(cs.length:Int),(i:Int),())) (λ_ _ s=> .inr s) (λ_=>some 0) (λr i s x hx hi=> ?_) (λr s=> ?_) n 0 () (by omega) (by omega)).trans ?_
 ·simp only[lt_dec hi,cond_true,idx_nat,hx,Option.bind_some,jn,wrap_succ (show i<4611686018427387904 by omega)]
  rfl
 ·simp only[ge_dec (Nat.lt_irrefl _),cond_false]
 ·exact runL_skip _ _
theorem asked_eq(n:Nat)(hn:1003≤n)(cs:List Content)(hl:cs.length≤1000)(hc:∀c∈cs,Fine c):page_asked n 0 cs=some (if cs.all checkP then 0 else 160):=by
 show page_asked_l1 n n (0,cs,cs,(cs.length:Int),((0:Nat):Int),())=_
 unfold page_asked_l1
 refine(run_loop cs (fun(i:Nat) (_:Unit)=>((0:Int),cs,cs,(cs.length:Int),(i:Int),())) (λ_ c _=>if checkP c then .inr () else .inl (some 160)) (λ_=>some 0) (λr i s x hx hi=> ?_) (λr s=> ?_) n 0 () (by omega) (by omega)).trans ?_
 ·simp only[lt_dec hi,cond_true,idx_nat,hx,Option.bind_some,check_eq n hn x (hc x (List.mem_of_getElem? hx)),wrap_succ (show i<4611686018427387904 by omega)]
  cases checkP x<;>rfl
 ·simp only[ge_dec (Nat.lt_irrefl _),cond_false]
  exact asked2_eq n hn cs hl
 ·rw[List.drop_zero,runL_all]
  cases cs.all checkP<;>rfl
def sizeP(c:Content):Nat:=c.rows.length+c.kids.length
theorem size_eq(n:Nat)(c:Content)(hc:Fine c):page_size n c=some (sizeP c:Int):=by
 unfold page_size
 rw[wrap_add (by have:=hc.rows;have:=hc.kids;omega)];rfl
def fullP(c:Content):Bool:=(decide (c.kind=1)||decide (c.kind=2))&&decide (sizeP c=4)
theorem ieq4{k m:Nat}:(((k:Int))==(m:Int))=decide (k=m):=by
 rw[ibeq]
 by_cases h:k=m
 ·subst h;simp
 ·rw[decide_eq_false h,decide_eq_false (by omega)]
theorem full_eq(n:Nat)(c:Content)(hc:Fine c):page_full n c=some (fullP c):=by
 unfold page_full fullP
 have h4:(((sizeP c:Nat):Int)==4)=decide (sizeP c=4):=ieq4 (m:=4)
 simp only[jn,size_eq n c hc,Option.bind_some,h4,ibeq c.kind]
 by_cases h1:c.kind=1
 ·rw[decide_eq_true h1]
  cases decide (sizeP c=4)<;>simp[h1]
 ·rw[decide_eq_false h1]
  cases decide (c.kind=2)<;>cases decide (sizeP c=4)<;>rfl
theorem cloneR_eq(n:Nat)(l:List Row)(h:l.length≤1000):slices_Clone_Row n l=some l:=clone_eq (by omega) (by decide)
theorem cloneK_eq(n:Nat)(l:List Kid)(h:l.length≤1000):slices_Clone_Kid n l=some l:=clone_eq (by omega) (by decide)
theorem cutR_eq(n:Nat)(l:List Row)(h:l.length≤1000)(k:Nat)(hk:k≤l.length):page_cut_Row n l (k:Int)=some (l.take k,l.drop k):=by
 unfold page_cut_Row
 rw[show sub l 0 (k:Int)=some (l.take k) from(sub_ok (Nat.zero_le k) hk).trans (by simp)]
 rw[show sub l (k:Int) (l.length:Int)=some (l.drop k) from(sub_ok hk (Nat.le_refl _)).trans (by rw[List.take_of_length_le (by simp)])]
 simp only[Option.bind_some]
 rw[cloneR_eq n _ (by simp;omega),Option.bind_some,cloneR_eq n _ (by simp;omega),Option.bind_some]
theorem cutK_eq(n:Nat)(l:List Kid)(h:l.length≤1000)(k:Nat)(hk:k≤l.length):page_cut_Kid n l (k:Int)=some (l.take k,l.drop k):=by
 unfold page_cut_Kid
 rw[show sub l 0 (k:Int)=some (l.take k) from(sub_ok (Nat.zero_le k) hk).trans (by simp)]
 rw[show sub l (k:Int) (l.length:Int)=some (l.drop k) from(sub_ok hk (Nat.le_refl _)).trans (by rw[List.take_of_length_le (by simp)])]
 simp only[Option.bind_some]
 rw[cloneK_eq n _ (by simp;omega),Option.bind_some,cloneK_eq n _ (by simp;omega),Option.bind_some]
end Go.Proofs.YtlcmdgpjiendmaaGreat
namespace Go.Proofs.YtlcmdgpjiendmaaGreat
open Go.Bur
set_option linter.unusedSimpArgs false
set_option linter.unusedVariables false
set_option maxRecDepth 100000
theorem runL_any{α R:Type}{p:α→Bool}{v:Option R}{fin:Unit→Option R}:∀(l:List α)(i:Nat),runL (λ_ x (_:Unit)=>if p x then .inl v else .inr ()) fin l i ()=if l.any p then v else fin ()
 |[],_=>rfl
 |x::t,i=>by
  by_cases hp:p x=true
  ·simp[runL,hp]
  ·have hp:p x=false:=by simpa using hp
   simp only[runL,hp,List.any_cons,Bool.false_or];exact runL_any t (i+1)
theorem keyIn_i64{x:Int}(h:inI .i64 x):keyIn .i64 x=true:=by
 unfold keyIn
 obtain⟨h1,h2⟩:=h
 simp[Lit.wf,h1]
 exact h2
theorem eqb_row(r:Row):Row.eqb r r=true:=by simp[Row.eqb]
theorem eqb_kid(r:Kid):Kid.eqb r r=true:=by simp[Kid.eqb]
theorem Size_eq(n:Nat)(hn:1003≤n)(c:Content)(hc:Fine c):page_Size n c=some (if checkP c then(sizeP c:Int) else 0):=by
 unfold page_Size
 simp only[check_eq n hn c hc,size_eq n c hc,Option.bind_some,jn]
 cases checkP c<;>rfl
theorem len4{α:Type}{l:List α}(h:l.length=4):∃a b c d,l=[a,b,c,d]:=by
 match l,h with
 |[a,b,c,d],_=>exact⟨a,b,c,d,rfl⟩
end Go.Proofs.YtlcmdgpjiendmaaGreat
namespace Go.Proofs.YtlcmdgpjiendmaaGreat
open Go.Bur
set_option linter.unusedSimpArgs false
set_option linter.unusedVariables false
set_option maxRecDepth 100000
instance:DecidableEq Key:=λa b=>decidable_of_iff (a.table=b.table∧a.id=b.id) (by cases a;cases b;simp)
theorem key_eqb(a b:Key):Key.eqb a b=decide (a=b):=by
 obtain⟨a1,a2⟩:=a
 obtain⟨b1,b2⟩:=b
 by_cases h1:a1=b1<;>by_cases h2:a2=b2<;>simp[Key.eqb,h1,h2]
theorem ltK_irrefl(a:Key):ltK a a=false:=by
 cases h:ltK a a with
 |false=>rfl
 |true=>rw[ltK_iff] at h;omega
theorem ltK_trans{a b c:Key}(h1:ltK a b=true)(h2:ltK b c=true):ltK a c=true:=by
 rw[ltK_iff] at*;omega
theorem ltK_total{a b:Key}(h1:a≠b)(h2:ltK b a=false):ltK a b=true:=by
 cases h:ltK a b with
 |true=>rfl
 |false=>
  exfalso;apply h1
  have h3:¬ltK a b=true:=by rw[h];decide
  have h4:¬ltK b a=true:=by rw[h2];decide
  rw[ltK_iff] at h3 h4
  obtain⟨a1,a2⟩:=a
  obtain⟨b1,b2⟩:=b
  simp only at h3 h4
  have:a1=b1:=by omega
  have:a2=b2:=by omega
  simp[*]
def Srt(l:List Row):Prop:=l.Pairwise λa b=>ltK a.key b.key=true
theorem risesR_iff:∀(p:Option Key)(l:List Row),risesR p l=true↔(∀r∈l,okRow r=true)∧Srt l∧∀k,p=some k→∀r∈l,ltK k r.key=true
 |p,[]=>by simp[risesR,Srt]
 |p,r::t=>by
  simp only[risesR,Bool.and_eq_true,risesR_iff (some r.key) t,Srt,List.pairwise_cons]
  constructor
  ·rintro⟨⟨h1,h2⟩,h3,h4,h5⟩
   refine⟨λx hx=> ?_,⟨λx hx=>h5 _ rfl x hx,h4⟩,λk hk x hx=> ?_⟩
   ·rcases List.mem_cons.1 hx with rfl|hx
    ·exact h1
    ·exact h3 x hx
   ·subst hk
    rcases List.mem_cons.1 hx with rfl|hx
    ·exact h2
    ·exact ltK_trans h2 (h5 _ rfl x hx)
  ·rintro⟨h1,⟨h2,h3⟩,h4⟩
   refine⟨⟨h1 r (by simp), ?_⟩,λx hx=>h1 x (by simp[hx]),h3,λk hk x hx=>by cases hk;exact h2 x hx⟩
   cases p with
   |none=>rfl
   |some k=>exact h4 k rfl r (by simp)
def at_(l:List Row)(k:Key):Option Nat:=l.findIdx? λr=>decide (r.key=k)
def ixI(o:Option Nat):Int:=match o with
 |some i=>(i:Int)
 |none=> -1
theorem runL_find{p:Row→Bool}:∀(l:List Row)(i:Nat),runL (R:=Int) (λi x (_:Unit)=>if p x then .inl (some (i:Int)) else .inr ()) (λ_=>some (-1)) l i ()=some (ixI ((l.findIdx? p).map (· +i)))
 |[],i=>rfl
 |x::t,i=>by
  by_cases hp:p x=true
  ·simp[runL,hp,List.findIdx?_cons,ixI]
  ·have hp:p x=false:=by simpa using hp
   have ih:=runL_find (p:=p) t (i+1)
   simp only[runL,hp,List.findIdx?_cons,Bool.false_eq_true,if_false]
   rw[ih]
   cases t.findIdx? p with
   |none=>rfl
   |some j=>simp[ixI];omega
def above(l:List Row)(k:Key):Option Nat:=l.findIdx? λr=>ltK k r.key
theorem cmpK_pos{a b:Key}:decide (cmpK a b>0)=ltK b a:=by
 unfold ltK
 rw[Bool.eq_iff_iff,decide_eq_true_iff,decide_eq_true_iff]
 unfold cmpK cmpI
 repeat' split
 all_goals omega
theorem idx_split{p:Row→Bool}:∀{l:List Row} {i:Nat},l.findIdx? p=some i→∃pre x post,l=pre++x::post∧pre.length=i∧p x=true∧∀y∈pre,p y=false
 |[],i,h=>by simp at h
 |a::t,i,h=>by
  rw[List.findIdx?_cons] at h
  by_cases hp:p a=true
  ·rw[if_pos hp] at h
   injection h with h
   exact⟨[],a,t,rfl,by simpa using h,hp,by simp⟩
  ·rw[if_neg hp] at h
   obtain⟨j,hj,rfl⟩:=Option.map_eq_some_iff.1 h
   obtain⟨pre,x,post,rfl,h2,h3,h4⟩:=idx_split hj
   refine⟨a::pre,x,post,rfl,by simp[h2],h3,λy hy=> ?_⟩
   rcases List.mem_cons.1 hy with rfl|hy
   ·simpa using hp
   ·exact h4 y hy
theorem idx_none{p:Row→Bool}{l:List Row}(h:l.findIdx? p=none):∀x∈l,p x=false:=by
 intro x hx
 have:=List.findIdx?_eq_none_iff.1 h x hx
 simpa using this
def findK(l:List Row)(k:Key):Option Row:=l.find? λr=>decide (r.key=k)
theorem findK_app(a b:List Row)(k:Key):findK (a++b) k=(findK a k).or (findK b k):=by simp[findK,List.find?_append]
theorem findK_cons(x:Row)(t:List Row)(k:Key):findK (x::t) k=if x.key=k then some x else findK t k:=by
 unfold findK
 by_cases h:x.key=k<;>simp[List.find?_cons,h]
theorem findK_none{l:List Row}{k:Key}(h:∀x∈l,x.key≠k):findK l k=none:=by
 unfold findK
 simpa[List.find?_eq_none] using h
structure Cut(k:Key)(pre post:List Row):Prop where
 lo:∀y∈pre,ltK y.key k=true
 hi:∀z∈post,ltK k z.key=true
theorem Cut.ne1{k:Key}{pre post:List Row}(h:Cut k pre post):∀y∈pre,y.key≠k:=λy hy e=>by
 have:=h.lo y hy;rw[e,ltK_irrefl] at this;cases this
theorem Cut.ne2{k:Key}{pre post:List Row}(h:Cut k pre post):∀y∈post,y.key≠k:=λy hy e=>by
 have:=h.hi y hy;rw[e,ltK_irrefl] at this;cases this
theorem srt_cut{pre post:List Row}{x:Row}(h:Srt (pre++x::post)):Cut x.key pre post∧Srt (pre++post):=by
 unfold Srt at*
 rw[List.pairwise_append,List.pairwise_cons] at h
 obtain⟨h1,⟨h2,h3⟩,h4⟩:=h
 refine⟨⟨λy hy=>h4 y hy x (by simp),h2⟩, ?_⟩
 rw[List.pairwise_append]
 exact⟨h1,h3,λa ha b hb=>h4 a ha b (by simp[hb])⟩
theorem cut_srt{pre post:List Row}{r:Row}(h:Srt (pre++post))(hc:Cut r.key pre post):Srt (pre++r::post):=by
 unfold Srt at*
 rw[List.pairwise_append] at h
 obtain⟨h1,h3,h4⟩:=h
 rw[List.pairwise_append,List.pairwise_cons]
 refine⟨h1,⟨hc.hi,h3⟩,λa ha b hb=> ?_⟩
 rcases List.mem_cons.1 hb with rfl|hb
 ·exact hc.lo a ha
 ·exact h4 a ha b hb
theorem place{l:List Row}{k:Key}(hs:Srt l)(hn:at_ l k=none):∃pre post,l=pre++post∧Cut k pre post∧(match above l k with|some i=>i|none=>l.length)=pre.length:=by
 have hne:∀x∈l,x.key≠k:=λx hx=>by simpa using idx_none hn x hx
 cases ha:above l k with
 |none=>
  have h1:=idx_none ha
  exact⟨l,[],by simp,⟨λy hy=>ltK_total (hne y hy) (h1 y hy),by simp⟩,rfl⟩
 |some i=>
  obtain⟨pre,x,post,rfl,h2,h3,h4⟩:=idx_split ha
  refine⟨pre,x::post,rfl,⟨λy hy=>ltK_total (hne y (by simp[hy])) (h4 y hy),λz hz=> ?_⟩,h2.symm⟩
  rcases List.mem_cons.1 hz with rfl|hz
  ·exact h3
  ·exact ltK_trans h3 ((srt_cut hs).1.hi z hz)
def cont0:Content:=⟨0,[],[]⟩
theorem at_find{l:List Row}{k:Key}:findK l k=(match at_ l k with|some i=>l[i]? |none=>none):=by
 cases h:at_ l k with
 |none=>exact findK_none λx hx=>by simpa using idx_none h x hx
 |some i=>
  obtain⟨pre,x,post,rfl,rfl,h3,h4⟩:=idx_split h
  have h3:x.key=k:=by simpa using h3
  rw[findK_app,findK_none (λy hy=>by simpa using h4 y hy),findK_cons,if_pos h3]
  simp
end Go.Proofs.YtlcmdgpjiendmaaGreat
namespace Go.Proofs.YtlcmdgpjiendmaaGreat
open Go.Bur
set_option linter.unusedSimpArgs false
set_option linter.unusedVariables false
set_option maxRecDepth 100000
theorem fine0:Fine cont0:=⟨by simp[cont0],by simp[cont0],by simp[cont0]⟩
end Go.Proofs.YtlcmdgpjiendmaaGreat
namespace Go.Proofs.YtlcmdgpjiendmaaGreat
open Go.Bur
set_option linter.unusedSimpArgs false
set_option linter.unusedVariables false
set_option maxRecDepth 100000
theorem rtable_eq(n:Nat)(t:Int):ref06_table n t=some (okTab t):=by
 unfold ref06_table okTab jn
 cases decide (t≥0)<;>rfl
theorem rightRow_eq(n:Nat)(r:Row):ref06_RightRow n r=some (okRow r):=by
 unfold ref06_RightRow okRow
 rw[rtable_eq]
 have h:decide ((r.note.size:Int)≤8)= !decide ((r.note.size:Int)>8):=by
  by_cases h:(r.note.size:Int)>8
  ·rw[decide_eq_true h,decide_eq_false (by omega)];rfl
  ·rw[decide_eq_false h,decide_eq_true (by omega)];rfl
 simp only[Option.bind_some,jn,h]
 cases okTab r.key.table<;>rfl
def KeyIn(k:Key):Prop:=0≤k.id∧k.id<65536
theorem order_lt(n:Nat){a b:Key}(ha:KeyIn a)(hb:KeyIn b)(ta:okTab a.table=true)(tb:okTab b.table=true):∃x y,ref06_order n a=some x∧ref06_order n b=some y∧decide (x≥y)= !ltK a b:=by
 unfold okTab at ta tb
 simp only[Bool.and_eq_true,decide_eq_true_iff] at ta tb
 obtain⟨a1,a2⟩:=ha
 obtain⟨b1,b2⟩:=hb
 refine⟨a.table*65536+a.id,b.table*65536+b.id, ?_, ?_, ?_⟩
 ·unfold ref06_order
  rw[wrap_in (x:=a.table*65536) (by omega),wrap_in (x:=a.id) (by omega),wrap_in (by omega)]
 ·unfold ref06_order
  rw[wrap_in (x:=b.table*65536) (by omega),wrap_in (x:=b.id) (by omega),wrap_in (by omega)]
 ·cases h:ltK a b with
  |true=>rw[ltK_iff] at h;exact decide_eq_false (by omega)
  |false=>
   have h:¬ltK a b=true:=by rw[h];decide
   rw[ltK_iff] at h
   exact decide_eq_true (by omega)
def goR(p:Option Key)(r:Row):Bool:=okRow r&&(match p with|none=>true|some k=>ltK k r.key)
theorem risesR_cons(p:Option Key)(r:Row)(t:List Row):risesR p (r::t)=(goR p r&&risesR (some r.key) t):=by cases p<;>rfl
theorem rises_run2(l:List Row)(v:Bool):∀(t:List Row)(i:Nat),l.drop i=t→i≤l.length→
  runL (R:=Bool) (fun(i:Nat) (r:Row) (_:Unit)=>if goR (prevK l i) r then .inr () else .inl (some false)) (λ_=>some v) t i ()=some (v&&risesR (prevK l i) t)
 |[],i,h,hi=>by simp[runL,risesR]
 |r::t,i,h,hi=>by
  have hr:l[i]? =some r:=by
   have:=congrArg (λx=>x[0]?) h
   simpa using this
  have ht:l.drop (i+1)=t:=by rw[←List.drop_drop,h];rfl
  have hlt:i<l.length:=by
   rcases Nat.lt_or_ge i l.length with h1|h1
   ·exact h1
   ·rw[List.drop_eq_nil_of_le h1] at h;cases h
  have ih:=rises_run2 l v t (i+1) ht hlt
  have hp:prevK l (i+1)=some r.key:=by simp[prevK,hr]
  rw[hp] at ih
  by_cases hg:goR (prevK l i) r=true
  ·simp only[runL,hg,if_true,risesR_cons,Bool.true_and]
   exact ih
  ·have hg:goR (prevK l i) r=false:=by simpa using hg
   simp only[runL,hg,risesR_cons,Bool.false_and,Bool.and_false]
   rfl
theorem rrows_eq(n:Nat)(hn:1003≤n)(l:List Row)(hl:l.length≤1000)(hk:∀r∈l,KeyIn r.key):ref06_rows n l=some (decide (l.length≤4)&&risesR none l):=by
 show ref06_rows_l1 n n (l,l,(l.length:Int),((0:Nat):Int),())=_
 unfold ref06_rows_l1
 refine(run_loopI (R:=Bool) l (fun(i:Nat) (_:Unit)=>(l,l,(l.length:Int),(i:Int),())) (λi r _=>if goR (prevK l i) r then .inr () else .inl (some false)) (λ_=>some (decide (l.length≤4)))
  (λi _=>∀j x,i=j+1→l[j]? =some x→okRow x=true) (λi s x s' hx hi hs=> ?_) (λr i s x hx hi hs=> ?_) (λr s hs=> ?_) n 0 () (by omega) (by omega) (λj x h=>by omega)).trans ?_
 ·intro j y hj hy
  obtain rfl:i=j:=by omega
  rw[hx] at hy
  obtain rfl:=Option.some.inj hy
  by_cases hg:goR (prevK l i) x=true
  ·unfold goR at hg;simp only[Bool.and_eq_true] at hg;exact hg.1
  ·rw[if_neg hg] at hs;cases hs
 ·simp only[lt_dec hi,cond_true,idx_nat,hx,Option.bind_some,rightRow_eq,jn,wrap_succ (show i<4611686018427387904 by omega)]
  unfold goR
  by_cases ho:okRow x=true
  ·rw[ho]
   cases i with
   |zero=>simp[prevK]
   |succ i=>
    have hi':l[i]? =some l[i]:=get_some (by omega)
    have hprev:okRow l[i]=true:=hs i _ rfl hi'
    have hta:okTab l[i].key.table=true:=by unfold okRow at hprev;simp only[Bool.and_eq_true] at hprev;exact hprev.1
    have htb:okTab x.key.table=true:=by unfold okRow at ho;simp only[Bool.and_eq_true] at ho;exact ho.1
    obtain⟨u,v,e1,e2,e3⟩:=order_lt n (hk l[i] (List.getElem_mem _)) (hk x (List.mem_of_getElem? hx)) hta htb
    have h0:decide (((i+1:Nat):Int)>0)=true:=decide_eq_true (by omega)
    simp only[Bool.not_true,cond_false,h0,cond_true,wrap_pred (show i<4611686018427387904 by omega),idx_nat,hi',Option.bind_some,e1,e2,e3,prevK,Option.map_some,Bool.true_and]
    cases ltK l[i].key x.key<;>rfl
  ·have ho:okRow x=false:=by simpa using ho
   rw[ho];rfl
 ·simp only[ge_dec (Nat.lt_irrefl _),cond_false]
  congr 1
  by_cases h:l.length≤4
  ·rw[decide_eq_true h,decide_eq_true (by omega)]
  ·rw[decide_eq_false h,decide_eq_false (by omega)]
 ·rw[List.drop_zero,rises_run2 l _ l 0 rfl (by omega)]
  rfl
def seen(l:List Kid)(i:Nat):List (Int×Bool):=((l.take i).map λk=>(k.page,true)).reverse
theorem seen_succ{l:List Kid}{i:Nat}{x:Kid}(h:l[i]? =some x):seen l (i+1)=(x.page,true)::seen l i:=by
 unfold seen
 rw[List.take_add_one,h]
 simp
theorem mget_any(q:List (Int×Bool))(hq:∀p∈q,p.2=true)(x:Int):mget false q x=q.any λp=>decide (p.1=x):=by
 induction q with
 |nil=>rfl
 |cons p t ih=>
  obtain⟨a,b⟩:=p
  have hb:b=true:=hq (a,b) (by simp)
  subst hb
  simp only[mget,List.any_cons]
  by_cases h:a=x
  ·rw[decide_eq_true h];rfl
  ·rw[decide_eq_false h]
   simp only[Bool.false_or]
   exact ih λp hp=>hq p (by simp[hp])
theorem mget_seen(l:List Kid)(i:Nat)(x:Int):mget false (seen l i) x=(l.take i).any λk=>decide (k.page=x):=by
 rw[mget_any _ (by
  intro p hp
  unfold seen at hp
  simp only[List.mem_reverse,List.mem_map] at hp
  obtain⟨k,_,rfl⟩:=hp
  rfl)]
 unfold seen
 rw[List.any_reverse,List.any_map]
 rfl
theorem risesK_cons(p:Option Key)(q:List (Int×Bool))(k:Kid)(t:List Kid):risesK p q (k::t)=(goK p q k&&risesK (some k.least) ((k.page,true)::q) t):=rfl
theorem risesK_run2(l:List Kid)(v:Bool):∀(t:List Kid)(i:Nat),l.drop i=t→i≤l.length→
  runL (R:=Bool) (fun(i:Nat) (k:Kid) (_:Unit)=>if goK (prevL l i) (seen l i) k then .inr () else .inl (some false)) (λ_=>some v) t i ()=some (v&&risesK (prevL l i) (seen l i) t)
 |[],i,h,hi=>by simp[runL,risesK]
 |k::t,i,h,hi=>by
  have hr:l[i]? =some k:=by
   have:=congrArg (λx=>x[0]?) h
   simpa using this
  have ht:l.drop (i+1)=t:=by rw[←List.drop_drop,h];rfl
  have hlt:i<l.length:=by
   rcases Nat.lt_or_ge i l.length with h1|h1
   ·exact h1
   ·rw[List.drop_eq_nil_of_le h1] at h;cases h
  have ih:=risesK_run2 l v t (i+1) ht hlt
  have hp:prevL l (i+1)=some k.least:=by simp[prevL,hr]
  rw[hp,seen_succ hr] at ih
  by_cases hg:goK (prevL l i) (seen l i) k=true
  ·simp only[runL,hg,if_true,risesK_cons,Bool.true_and]
   exact ih
  ·have hg:goK (prevL l i) (seen l i) k=false:=by simpa using hg
   simp only[runL,hg,risesK_cons,Bool.false_and,Bool.and_false]
   rfl
theorem kids2_eq(n:Nat)(hn:1003≤n)(r1:(List Kid)×(List Kid)×Int×Int×Unit→Option Bool)(a b:List Kid)(c d:Int)(l:List Kid)(hl:l.length≤1000)(x:Kid):
  ref06_kids_l2 n r1 n (a,b,c,d,l,(l.length:Int),0,x,())=if l.any (λk=>decide (k.page=x.page)) then some false else r1 (a,b,c,IntKind.wrap .i64 (d+1),()):=by
 show ref06_kids_l2 n r1 n (a,b,c,d,l,(l.length:Int),((0:Nat):Int),x,())=_
 unfold ref06_kids_l2
 refine(run_loop l (fun(i:Nat) (_:Unit)=>(a,b,c,d,l,(l.length:Int),(i:Int),x,())) (λ_ k _=>if decide (k.page=x.page) then .inl (some false) else .inr ()) (λ_=>r1 (a,b,c,IntKind.wrap .i64 (d+1),())) (λr i s y hy hi=> ?_) (λr s=> ?_) n 0 () (by omega) (by omega)).trans ?_
 ·simp only[lt_dec hi,cond_true,idx_nat,hy,Option.bind_some,wrap_succ (show i<4611686018427387904 by omega),ibeq]
  by_cases h:y.page=x.page
  ·rw[decide_eq_true h];rfl
  ·rw[decide_eq_false h];rfl
 ·simp only[ge_dec (Nat.lt_irrefl _),cond_false]
 ·rw[List.drop_zero,runL_any]
theorem rkids_eq(n:Nat)(hn:1003≤n)(l:List Kid)(hl:l.length≤1000)(hk:∀r∈l,KeyIn r.least):ref06_kids n l=some ((decide (1<l.length)&&decide (l.length≤4))&&risesK none [] l):=by
 show ref06_kids_l1 n n (l,l,(l.length:Int),((0:Nat):Int),())=_
 unfold ref06_kids_l1
 refine(run_loopI (R:=Bool) l (fun(i:Nat) (_:Unit)=>(l,l,(l.length:Int),(i:Int),())) (λi k _=>if goK (prevL l i) (seen l i) k then .inr () else .inl (some false)) (λ_=>some (decide (1<l.length)&&decide (l.length≤4)))
  (λi _=>∀j x,i=j+1→l[j]? =some x→okTab x.least.table=true) (λi s x s' hx hi hs=> ?_) (λr i s x hx hi hs=> ?_) (λr s hs=> ?_) n 0 () (by omega) (by omega) (λj x h=>by omega)).trans ?_
 ·intro j y hj hy
  obtain rfl:i=j:=by omega
  rw[hx] at hy
  obtain rfl:=Option.some.inj hy
  by_cases hg:goK (prevL l i) (seen l i) x=true
  ·unfold goK okKid at hg;simp only[Bool.and_eq_true] at hg;exact hg.1.1.2
  ·rw[if_neg hg] at hs;cases hs
 ·have hsub:sub l 0 (i:Int)=some (l.take i):=(sub_ok (Nat.zero_le i) (by omega)).trans (by simp)
  have h2:=kids2_eq n hn r l l (l.length:Int) (i:Int) (l.take i) (by simp;omega) x
  simp only[lt_dec hi,cond_true,idx_nat,hx,Option.bind_some,rtable_eq,jn,hsub,h2,wrap_succ (show i<4611686018427387904 by omega)]
  unfold goK okKid
  rw[mget_seen]
  have e1:decide (x.page>0)= !decide (x.page<1):=by
   by_cases h:x.page<1
   ·rw[decide_eq_true h,decide_eq_false (by omega)];rfl
   ·rw[decide_eq_false h,decide_eq_true (by omega)];rfl
  have e2:decide (x.page<64)= !decide (x.page≥64):=by
   by_cases h:x.page≥64
   ·rw[decide_eq_true h,decide_eq_false (by omega)];rfl
   ·rw[decide_eq_false h,decide_eq_true (by omega)];rfl
  rw[e1,e2]
  by_cases ho:okTab x.least.table=true
  ·rw[ho]
   cases i with
   |zero=>
    simp only[prevL,Option.isSome_none,Bool.false_or,Bool.and_true,key0,show(((0:Nat):Int)==0)=true from rfl,cond_true,show decide (((0:Nat):Int)>0)=false from rfl,cond_false]
    cases decide (x.page<1)<;>cases decide (x.page≥64)<;>cases Key.eqb x.least ⟨0,0⟩<;>rfl
   |succ i=>
    have hi':l[i]? =some l[i]:=get_some (by omega)
    obtain⟨u,v,e3,e4,e5⟩:=order_lt n (hk l[i] (List.getElem_mem _)) (hk x (List.mem_of_getElem? hx)) (hs i _ rfl hi') ho
    have h0:decide (((i+1:Nat):Int)>0)=true:=decide_eq_true (by omega)
    have h1:(((i+1:Nat):Int)==0)=false:=by simp;omega
    simp only[Bool.not_true,cond_false,h0,h1,cond_true,wrap_pred (show i<4611686018427387904 by omega),idx_nat,hi',Option.bind_some,e3,e4,e5,prevL,Option.map_some,Option.isSome_some,Bool.true_or,Bool.and_true]
    cases decide (x.page<1)<;>cases decide (x.page≥64)<;>cases ltK l[i].least x.least<;>cases (l.take (i+1)).any (λk=>decide (k.page=x.page))<;>rfl
  ·have ho:okTab x.least.table=false:=by simpa using ho
   rw[ho]
   cases decide (x.page<1)<;>cases decide (x.page≥64)<;>simp
 ·simp only[ge_dec (Nat.lt_irrefl _),cond_false,jn]
  by_cases h:1<l.length
  ·rw[decide_eq_true h,decide_eq_true (by omega)]
   by_cases h':l.length≤4
   ·rw[decide_eq_true h',decide_eq_true (by omega)];rfl
   ·rw[decide_eq_false h',decide_eq_false (by omega)];rfl
  ·rw[decide_eq_false h,decide_eq_false (by omega)];rfl
 ·rw[List.drop_zero,risesK_run2 l _ l 0 rfl (by omega)]
  rfl
end Go.Proofs.YtlcmdgpjiendmaaGreat
namespace Go.Proofs.YtlcmdgpjiendmaaGreat
open Go.Bur
set_option linter.unusedSimpArgs false
set_option linter.unusedVariables false
set_option maxRecDepth 100000
structure Keys(c:Content):Prop where
 rows:∀r∈c.rows,KeyIn r.key
 kids:∀k∈c.kids,KeyIn k.least
theorem right_eq(n:Nat)(hn:1003≤n)(c:Content)(hc:Fine c)(hk:Keys c):ref06_Right n c=some (checkP c):=by
 have h1:=rrows_eq n hn c.rows hc.rows hk.rows
 have h2:=rkids_eq n hn c.kids hc.kids hk.kids
 unfold ref06_Right checkP
 simp only[jn,h1,h2,Option.bind_some,beq0,ibeq c.kind]
 by_cases e0:c.kind=0
 ·rw[if_pos e0,decide_eq_true e0]
  by_cases a:c.rows.length=0
  ·by_cases b:c.kids.length=0
   ·simp[a,b]
   ·simp[a,b]
  ·simp[a]
 ·rw[if_neg e0,decide_eq_false e0]
  by_cases e1:c.kind=1
  ·rw[if_pos e1,decide_eq_true e1]
   cases decide (c.kids.length=0)<;>rfl
  ·rw[if_neg e1,decide_eq_false e1]
   by_cases e2:c.kind=2
   ·rw[if_pos e2,decide_eq_true e2]
    cases decide (c.rows.length=0)<;>cases decide (1<c.kids.length)<;>cases decide (c.kids.length≤4)<;>rfl
   ·rw[if_neg e2,decide_eq_false e2];rfl
theorem rfind_eq(n:Nat)(hn:1003≤n)(l:List Row)(hl:l.length≤1000)(k:Key):ref05_Find n l k=some (ixI (at_ l k)):=by
 show ref05_Find_l1 n n (l,((0:Nat):Int),k,())=_
 unfold ref05_Find_l1
 refine(run_loop l (fun(i:Nat) (_:Unit)=>(l,(i:Int),k,())) (λi x _=>if decide (x.key=k) then .inl (some (i:Int)) else .inr ()) (λ_=>some (-1)) (λr i s x hx hi=> ?_) (λr s=> ?_) n 0 () (by omega) (by omega)).trans ?_
 ·simp only[lt_dec hi,cond_true,idx_nat,hx,Option.bind_some,wrap_succ (show i<4611686018427387904 by omega),key_eqb]
  by_cases h:x.key=k
  ·simp[h]
  ·simp[h]
 ·simp only[ge_dec (Nat.lt_irrefl _),cond_false]
 ·rw[List.drop_zero,runL_find]
  unfold at_
  cases l.findIdx? λr=>decide (r.key=k)<;>rfl
def others(k:Key)(l:List Row):List Row:=l.filter λr=> !decide (r.key=k)
theorem without_eq(n:Nat)(hn:1003≤n)(l:List Row)(hl:l.length≤1000)(k:Key):ref05_Without n l k=some (others k l):=by
 show ref05_Without_l1 n n (l,((0:Nat):Int),k,[],())=_
 unfold ref05_Without_l1
 refine(run_loopI l (fun(i:Nat) (s:List Row)=>(l,(i:Int),k,s,())) (λi x s=> .inr (if decide (x.key=k) then s else s++[x])) (λs=>some s) (λi s=>s.length≤i) (λi s x s' hx hi hs=> ?_) (λr i s x hx hi hs=> ?_) (λr s hs=> ?_) n 0 [] (by omega) (by omega) (by simp)).trans ?_
 ·injection hs with hs
  subst hs
  by_cases h:x.key=k
  ·simp[h];omega
  ·simp[h];exact hi
 ·have happ:app 40 s [x]=some (s++[x]):=app_lt (by simp;omega) (by decide)
  simp only[lt_dec hi,cond_true,idx_nat,hx,Option.bind_some,wrap_succ (show i<4611686018427387904 by omega),key_eqb,jn,ref05_Without_j2,happ]
  by_cases h:x.key=k
  ·simp[h]
  ·simp[h]
 ·simp only[ge_dec (Nat.lt_irrefl _),cond_false]
 ·have:∀(t:List Row)(i:Nat)(s:List Row),runL (R:=List Row) (λi x s=> .inr (if decide (x.key=k) then s else s++[x])) (λs=>some s) t i s=some (s++others k t):=by
   intro t
   induction t with
   |nil=>intro i s;simp[runL,others]
   |cons x t ih=>
    intro i s
    simp only[runL]
    rw[ih]
    unfold others
    by_cases h:x.key=k
    ·simp[h]
    ·simp[h]
  rw[List.drop_zero,this]
  rfl
theorem rcompare_lt(n:Nat)(a b:Key):∃v,ref05_Compare n a b=some v∧decide (v<0)=ltK a b:=by
 unfold ref05_Compare
 rw[key_eqb]
 by_cases h:a=b
 ·subst h
  rw[decide_eq_true rfl,ltK_irrefl]
  exact⟨0,rfl,rfl⟩
 ·rw[decide_eq_false h]
  simp only[cond_false,jn,ibeq]
  by_cases h1:a.table<b.table
  ·rw[decide_eq_true h1]
   exact⟨-1,rfl,(ltK_iff.2 (.inl h1)).symm▸rfl⟩
  ·rw[decide_eq_false h1]
   by_cases h2:a.table=b.table
   ·rw[decide_eq_true h2]
    by_cases h3:a.id<b.id
    ·rw[decide_eq_true h3]
     exact⟨-1,rfl,(ltK_iff.2 (.inr ⟨h2,h3⟩)).symm▸rfl⟩
    ·rw[decide_eq_false h3]
     refine⟨1,rfl, ?_⟩
     cases hh:ltK a b with
     |false=>rfl
     |true=>rw[ltK_iff] at hh;omega
   ·rw[decide_eq_false h2]
    refine⟨1,rfl, ?_⟩
    cases hh:ltK a b with
    |false=>rfl
    |true=>rw[ltK_iff] at hh;omega
def insP(r:Row):List Row→List Row
 |[]=>[r]
 |x::t=>if ltK r.key x.key then r::x::t else x::insP r t
theorem insP_cut(r:Row):∀(pre post:List Row),Cut r.key pre post→insP r (pre++post)=pre++r::post
 |[],[],_=>rfl
 |[],z::t,h=>by
  have:=h.hi z (by simp)
  simp[insP,this]
 |y::pre,post,h=>by
  have hy:=h.lo y (by simp)
  have:ltK r.key y.key=false:=by
   cases hh:ltK r.key y.key with
   |false=>rfl
   |true=>have:=ltK_trans hy hh;rw[ltK_irrefl] at this;cases this
  simp only[List.cons_append,insP,this]
  rw[insP_cut r pre post ⟨λz hz=>h.lo z (by simp[hz]),h.hi⟩]
  rfl
def stepW(r:Row)(i:Nat)(x:Row)(s:Bool×List Row):Option (List Row) ⊕ (Bool×List Row):= .inr (if !s.1&&ltK r.key x.key then(true,s.2++[r]++[x]) else(s.1,s.2++[x]))
theorem with_run(r:Row):∀(t:List Row)(i:Nat)(acc:List Row),runL (stepW r) (λs=>some (if s.1 then s.2 else s.2++[r])) t i (true,acc)=some (acc++t)∧runL (stepW r) (λs=>some (if s.1 then s.2 else s.2++[r])) t i (false,acc)=some (acc++insP r t)
 |[],i,acc=>by simp[runL,insP]
 |x::t,i,acc=>by
  obtain⟨h1,h2⟩:=with_run r t (i+1) (acc++[x])
  obtain⟨h3,h4⟩:=with_run r t (i+1) (acc++[r]++[x])
  constructor
  ·simp only[runL,stepW,Bool.not_true,Bool.false_and,Bool.false_eq_true,if_false]
   rw[h1];simp
  ·by_cases h:ltK r.key x.key=true
   ·simp only[runL,stepW,Bool.not_false,Bool.true_and,h,if_true,insP]
    rw[h3];simp
   ·have h:ltK r.key x.key=false:=by simpa using h
    simp only[runL,stepW,Bool.not_false,Bool.true_and,h,Bool.false_eq_true,if_false,insP]
    rw[h2];simp
theorem with_eq(n:Nat)(hn:1003≤n)(l:List Row)(hl:l.length≤900)(r:Row):ref05_With n l r=some (insP r (others r.key l)):=by
 have hlo:(others r.key l).length≤900:=Nat.le_trans (List.length_filter_le _ _) hl
 unfold ref05_With
 rw[without_eq n hn l (by omega)]
 simp only[Option.bind_some]
 generalize others r.key l=m at hlo
 show ref05_With_l1 n n (false,((0:Nat):Int),r,[],m,())=_
 unfold ref05_With_l1
 refine(run_loopI m (fun(i:Nat) (s:Bool×List Row)=>(s.1,(i:Int),r,s.2,m,())) (stepW r) (λs=>some (if s.1 then s.2 else s.2++[r])) (λi s=>s.2.length≤i+(if s.1 then 1 else 0)) (λi s x s' hx hi hs=> ?_) (λq i s x hx hi hs=> ?_) (λq s hs=> ?_) n 0 (false,[]) (by omega) (by omega) (by simp)).trans (with_run r m 0 []).2
 ·unfold stepW at hs
  injection hs with hs
  subst hs
  obtain⟨b,acc⟩:=s
  simp only at hi⊢
  cases b
  ·by_cases h:ltK r.key x.key=true
   ·simp[h] at hi⊢;omega
   ·simp[h] at hi⊢;omega
  ·simp at hi⊢;omega
 ·obtain⟨b,acc⟩:=s
  have hacc:acc.length≤i+1:=by
   simp only at hs
   cases b<;>simp at hs<;>omega
  obtain⟨v,e1,e2⟩:=rcompare_lt n r.key x.key
  have a1:app 40 acc [r]=some (acc++[r]):=app_lt (by simp;omega) (by decide)
  have a2:app 40 acc [x]=some (acc++[x]):=app_lt (by simp;omega) (by decide)
  have a3:app 40 (acc++[r]) [x]=some (acc++[r]++[x]):=app_lt (by simp;omega) (by decide)
  simp only[lt_dec hi,cond_true,idx_nat,hx,Option.bind_some,jn,ref05_With_j2,wrap_succ (show i<4611686018427387904 by omega),e1,e2,a1,a2,a3,stepW]
  cases b<;>cases ltK r.key x.key<;>rfl
 ·obtain⟨b,acc⟩:=s
  have hacc:acc.length≤901:=by
   simp only at hs
   cases b<;>simp at hs<;>omega
  have a1:app 40 acc [r]=some (acc++[r]):=app_lt (by simp;omega) (by decide)
  simp only[ge_dec (Nat.lt_irrefl _),cond_false,jn,ref05_With_j3,a1,Option.bind_some]
  cases b<;>rfl
theorem others_cut{k:Key}{pre post:List Row}(h:Cut k pre post):others k (pre++post)=pre++post:=by
 unfold others
 rw[List.filter_eq_self]
 intro y hy
 rcases List.mem_append.1 hy with hy|hy
 ·simpa using h.ne1 y hy
 ·simpa using h.ne2 y hy
theorem others_in{k:Key}{pre post:List Row}{x:Row}(hx:x.key=k)(h:Cut k pre post):others k (pre++x::post)=pre++post:=by
 rw[←others_cut h]
 unfold others
 simp[hx]
end Go.Proofs.YtlcmdgpjiendmaaGreat
namespace Go.Proofs.YtlcmdgpjiendmaaGreat
open Go.Bur
set_option linter.unusedSimpArgs false
set_option linter.unusedVariables false
set_option maxRecDepth 100000
def pagesP(l:List Kid):List Int:=l.map (·.page)
def cutM(a b:Content):Nat:=if sizeP a>sizeP b then sizeP a-1 else sizeP a+1
structure Levelled(a b x y:Content)(key:Key):Prop where
 cx:checkP x=true
 cy:checkP y=true
 fx:Fine x
 fy:Fine y
 sx:sizeP x=cutM a b
 sy:sizeP y+cutM a b=sizeP a+sizeP b
 leaf:a.kind=1→x.rows++y.rows=a.rows++b.rows∧∃r t,y.rows=r::t∧r.key=key
 inner:a.kind≠1→pagesP x.kids++pagesP y.kids=pagesP a.kids++pagesP b.kids
theorem cmpEq{a b:Int}{A B:Content}:decide (((sizeP A:Nat):Int)>((sizeP B:Nat):Int))=decide (sizeP A>sizeP B):=by
 by_cases h:sizeP A>sizeP B
 ·rw[decide_eq_true h,decide_eq_true (by omega)]
 ·rw[decide_eq_false h,decide_eq_false (by omega)]
theorem kinds_of{c:Content}(h:checkP c=true)(h0:c.kind≠0):(c.kind=1∧c.kids=[]∧c.rows.length≤4)∨(c.kind=2∧c.rows=[]∧2≤c.kids.length∧c.kids.length≤4):=by
 unfold checkP at h
 rw[if_neg h0] at h
 by_cases h1:c.kind=1
 ·rw[if_pos h1] at h
  simp only[Bool.and_eq_true,decide_eq_true_iff] at h
  exact .inl ⟨h1,List.eq_nil_of_length_eq_zero h.1,h.2.1⟩
 ·rw[if_neg h1] at h
  by_cases h2:c.kind=2
  ·rw[if_pos h2] at h
   simp only[Bool.and_eq_true,decide_eq_true_iff] at h
   exact .inr ⟨h2,List.eq_nil_of_length_eq_zero h.1,h.2.1,h.2.2.1⟩
  ·rw[if_neg h2] at h;cases h
def Lv(n:Nat)(a b:Content)(r:Option (Content×Content×Key×Int)):Prop:=(∃e,e≠0∧r=some (cont0,cont0,⟨0,0⟩,e))∨∃x y key,Levelled a b x y key∧r=some (x,y,key,0)
end Go.Proofs.YtlcmdgpjiendmaaGreat
namespace Go.Proofs.YtlcmdgpjiendmaaGreat
open Go.Bur
set_option linter.unusedSimpArgs false
set_option linter.unusedVariables false
set_option maxRecDepth 100000
def allFrom{α:Type}(p:Nat→α→Bool):Nat→List α→Bool
 |_,[]=>true
 |i,x::t=>p i x&&allFrom p (i+1) t
theorem runL_allFrom{α R:Type}{p:Nat→α→Bool}{v:Option R}{fin:Unit→Option R}:∀(l:List α)(i:Nat),runL (λi x (_:Unit)=>if p i x then .inr () else .inl v) fin l i ()=if allFrom p i l then fin () else v
 |[],_=>rfl
 |x::t,i=>by
  by_cases hp:p i x=true
  ·simp only[runL,allFrom,hp,if_true,Bool.true_and];exact runL_allFrom t (i+1)
  ·have hp:p i x=false:=by simpa using hp
   simp[runL,allFrom,hp]
def upR(l:List Row)(i:Nat)(x:Row):Bool:=match prevK l i with|none=>true|some k=>ltK k x.key
def upK(l:List Kid)(i:Nat)(x:Kid):Bool:=(match prevL l i with|none=>true|some k=>ltK k x.least)&& !(l.take i).any λk=>decide (k.page=x.page)
def risesC(c:Content):Bool:=allFrom (upR c.rows) 0 c.rows&&allFrom (upK c.kids) 0 c.kids
theorem allFrom_one{α:Type}(p:Nat→α→Bool)(l:List α)(h:∀x,p 0 x=true):allFrom p 1 (l.drop 1)=allFrom p 0 l:=by
 cases l with
 |nil=>rfl
 |cons x t=>simp[allFrom,h]
theorem ge_lt{a b:Key}:decide (cmpK a b≥0)= !ltK a b:=by
 unfold ltK
 by_cases h:cmpK a b<0
 ·rw[decide_eq_true h,decide_eq_false (by omega)];rfl
 ·rw[decide_eq_false h,decide_eq_true (by omega)];rfl
theorem rcompare_ge(n:Nat)(a b:Key):∃v,ref05_Compare n a b=some v∧decide (v≥0)= !ltK a b:=by
 obtain⟨v,h1,h2⟩:=rcompare_lt n a b
 refine⟨v,h1, ?_⟩
 rw[←h2]
 by_cases h:v<0
 ·rw[decide_eq_true h,decide_eq_false (by omega)];rfl
 ·rw[decide_eq_false h,decide_eq_true (by omega)];rfl
theorem rrises3_eq(n:Nat)(hn:1003≤n)(r2:Int×Content×Unit→Option Bool)(c:Content)(hc:Fine c)(i:Nat)(x:Kid)(hx:c.kids[i]? =some x):ref11_Rises_l3 n r2 n ((i:Int),0,c,())=if(c.kids.take i).any (λk=>decide (k.page=x.page)) then some false else r2 (IntKind.wrap .i64 ((i:Int)+1),c,()):=by
 have hl:=hc.kids
 have hi:i<c.kids.length:=by
  rcases Nat.lt_or_ge i c.kids.length with h|h
  ·exact h
  ·rw[List.getElem?_eq_none h] at hx;cases hx
 show ref11_Rises_l3 n r2 n ((i:Int),((0:Nat):Int),c,())=_
 have hlen:(c.kids.take i).length=i:=by simp;omega
 unfold ref11_Rises_l3
 refine(run_loop (c.kids.take i) (fun(j:Nat) (_:Unit)=>((i:Int),(j:Int),c,())) (λ_ k _=>if decide (k.page=x.page) then .inl (some false) else .inr ()) (λ_=>r2 (IntKind.wrap .i64 ((i:Int)+1),c,())) (λr j s y hy hj=> ?_) (λr s=> ?_) n 0 () (by omega) (by omega)).trans ?_
 ·rw[hlen] at hj
  have hy':c.kids[j]? =some y:=by rw[List.getElem?_take_of_lt hj] at hy;exact hy
  simp only[lt_dec hj,cond_true,idx_nat,hy',hx,Option.bind_some,wrap_succ (show j<4611686018427387904 by omega),ibeq]
  by_cases h:y.page=x.page
  ·rw[decide_eq_true h];rfl
  ·rw[decide_eq_false h];rfl
 ·rw[hlen]
  simp only[ge_dec (Nat.lt_irrefl _),cond_false]
 ·rw[List.drop_zero,runL_any]
theorem rrises_eq(n:Nat)(hn:1003≤n)(c:Content)(hc:Fine c):ref11_Rises n c=some (risesC c):=by
 have hl:=hc.rows
 have hlk:=hc.kids
 have h2:ref11_Rises_l2 n n (((1:Nat):Int),c,())=some (allFrom (upK c.kids) 0 c.kids):=by
  unfold ref11_Rises_l2
  cases hr:c.kids with
  |nil=>
   obtain⟨m,rfl⟩:∃m,n=m+1:=⟨n-1,by omega⟩
   simp only[loopF,hr,List.length_nil,show decide (((1:Nat):Int)<((0:Nat):Int))=false from by decide,cond_false,allFrom]
  |cons x0 t0=>
   rw[←hr]
   refine(run_loopI c.kids (fun(i:Nat) (_:Unit)=>((i:Int),c,())) (λi x _=>if upK c.kids i x then .inr () else .inl (some false)) (λ_=>some true) (λi _=>1≤i) (λi s x s' hx hi hs=>by omega) (λr i q x hx hi h1=> ?_) (λr q hq=> ?_) n 1 () (by rw[hr];simp) (by omega) (Nat.le_refl 1)).trans ?_
   ·obtain⟨i,rfl⟩:∃j,i=j+1:=⟨i-1,by omega⟩
    have hi':c.kids[i]? =some c.kids[i]:=get_some (by omega)
    obtain⟨v,e1,e2⟩:=rcompare_ge n c.kids[i].least x.least
    simp only[lt_dec hi,cond_true,wrap_pred (show i<4611686018427387904 by omega),idx_nat,hx,hi',Option.bind_some,e1,e2,upK,prevL,Option.map_some,rrises3_eq n hn r c hc (i+1) x hx,wrap_succ (show i+1<4611686018427387904 by omega)]
    cases ltK c.kids[i].least x.least<;>cases (c.kids.take (i+1)).any (λk=>decide (k.page=x.page))<;>rfl
   ·simp only[ge_dec (Nat.lt_irrefl _),cond_false]
   ·rw[runL_allFrom,allFrom_one _ _ (λx=>by simp[upK,prevL])]
    cases allFrom (upK c.kids) 0 c.kids<;>rfl
 show ref11_Rises_l1 n n (((1:Nat):Int),c,())=_
 unfold ref11_Rises_l1 risesC
 cases hr:c.rows with
 |nil=>
  obtain⟨m,rfl⟩:∃m,n=m+1:=⟨n-1,by omega⟩
  simp only[loopF,hr,List.length_nil,show decide (((1:Nat):Int)<((0:Nat):Int))=false from by decide,cond_false,allFrom,Bool.true_and]
  exact h2
 |cons x0 t0=>
  rw[←hr]
  refine(run_loopI c.rows (fun(i:Nat) (_:Unit)=>((i:Int),c,())) (λi x _=>if upR c.rows i x then .inr () else .inl (some false)) (λ_=>some (allFrom (upK c.kids) 0 c.kids)) (λi _=>1≤i) (λi s x s' hx hi hs=>by omega) (λr i q x hx hi h1=> ?_) (λr q hq=> ?_) n 1 () (by rw[hr];simp) (by omega) (Nat.le_refl 1)).trans ?_
  ·obtain⟨i,rfl⟩:∃j,i=j+1:=⟨i-1,by omega⟩
   have hi':c.rows[i]? =some c.rows[i]:=get_some (by omega)
   obtain⟨v,e1,e2⟩:=rcompare_ge n c.rows[i].key x.key
   simp only[lt_dec hi,cond_true,wrap_pred (show i<4611686018427387904 by omega),idx_nat,hx,hi',Option.bind_some,e1,e2,upR,prevK,Option.map_some,wrap_succ (show i+1<4611686018427387904 by omega)]
   cases ltK c.rows[i].key x.key<;>rfl
  ·simp only[ge_dec (Nat.lt_irrefl _),cond_false]
   exact h2
  ·rw[runL_allFrom,allFrom_one _ _ (λx=>rfl)]
   cases allFrom (upR c.rows) 0 c.rows<;>rfl
def hd0(k:Key):List Kid→List Kid
 |[]=>[]
 |x::t=>⟨k,x.page⟩::t
theorem hd0_len{k:Key}(l:List Kid):(hd0 k l).length=l.length:=by cases l<;>rfl
def stepC(rs:List Row)(ks:List Kid):Key:=match ks with
 |x::_=>x.least
 |[]=>match rs with
  |r::_=>r.key
  |[]=>key0
def bothC(a b:Content)(k:Key):Content:=⟨a.kind,a.rows++b.rows,a.kids++hd0 k b.kids⟩
def cutA(c:Content)(m:Nat):Content:=⟨c.kind,c.rows.take m,c.kids.take m⟩
def cutB(c:Content)(m:Nat):Content:=⟨c.kind,c.rows.drop m,hd0 key0 (c.kids.drop m)⟩
def cutS(c:Content)(m:Nat):Key:=stepC (c.rows.drop m) (c.kids.drop m)
def stepT{α:Type}(m:Nat)(i:Nat)(x:α)(s:List α×List α):Option (Content×Content×Key) ⊕ (List α×List α):= .inr (if i<m then(s.1++[x],s.2) else(s.1,s.2++[x]))
theorem cut_run{α:Type}(m:Nat)(fin:List α×List α→Option (Content×Content×Key)):∀(t:List α)(i:Nat)(s:List α×List α),runL (stepT m) fin t i s=fin (s.1++t.take (m-i),s.2++t.drop (m-i))
 |[],i,s=>by simp[runL]
 |x::t,i,s=>by
  simp only[runL,stepT]
  rw[cut_run m fin t (i+1)]
  by_cases h:i<m
  ·rw[if_pos h]
   obtain⟨d,hd⟩:∃d,m-i=d+1:=⟨m-i-1,by omega⟩
   rw[hd,show m-(i+1)=d from by omega]
   simp
  ·rw[if_neg h,show m-i=0 from by omega,show m-(i+1)=0 from by omega]
   simp
theorem dlt{i m:Nat}:decide ((i:Int)<(m:Int))=decide (i<m):=by
 by_cases h:i<m
 ·rw[decide_eq_true h,decide_eq_true (by omega)]
 ·rw[decide_eq_false h,decide_eq_false (by omega)]
theorem rcut_eq(n:Nat)(hn:1003≤n)(c:Content)(hc:Fine c)(m:Nat):ref11_Cut n c (m:Int)=some (cutA c m,cutB c m,cutS c m):=by
 have hlr:=hc.rows
 have hlk:=hc.kids
 have h3:∀(A B:Content)(K:Key)(a b:List Row),a.length≤1000→b.length≤1000→ref11_Cut_l3 n n ((m:Int),0,c,A,B,K,c.kind,c.kind,a,[],b,[],())=some (⟨c.kind,a,c.kids.take m⟩,⟨c.kind,b,hd0 key0 (c.kids.drop m)⟩,stepC b (c.kids.drop m)):=by
  intro A B K a b ha hb
  show ref11_Cut_l3 n n ((m:Int),((0:Nat):Int),c,A,B,K,c.kind,c.kind,a,[],b,[],())=_
  unfold ref11_Cut_l3
  refine(run_loopI c.kids (fun(i:Nat) (s:List Kid×List Kid)=>((m:Int),(i:Int),c,A,B,K,c.kind,c.kind,a,s.1,b,s.2,())) (stepT m) (λs=>some (⟨c.kind,a,s.1⟩,⟨c.kind,b,hd0 key0 s.2⟩,stepC b s.2)) (λi s=>s.1.length≤i∧s.2.length≤i) (λi s x s' hx hi hs=> ?_) (λr i s x hx hi hs=> ?_) (λr s hs=> ?_) n 0 ([],[]) (by omega) (by omega) (by simp)).trans ?_
  ·unfold stepT at hs
   injection hs with hs
   subst hs
   split<;>simp<;>omega
  ·obtain⟨h1,h2⟩:=hs
   have a1:app 24 s.1 [x]=some (s.1++[x]):=app_lt (by simp;omega) (by decide)
   have a2:app 24 s.2 [x]=some (s.2++[x]):=app_lt (by simp;omega) (by decide)
   simp only[lt_dec hi,cond_true,idx_nat,hx,Option.bind_some,jn,ref11_Cut_j4,dlt,a1,a2,wrap_succ (show i<4611686018427387904 by omega),stepT]
   by_cases h:i<m
   ·rw[decide_eq_true h,if_pos h];rfl
   ·rw[decide_eq_false h,if_neg h];rfl
  ·simp only[ge_dec (Nat.lt_irrefl _),cond_false,jn,ref11_Cut_j5,ref11_Cut_j6]
   have hidx:∀(x:Row)(t:List Row),idx (x::t) 0=some x:=λx t=>idx_zero _
   have hidk:∀(x:Kid)(t:List Kid),idx (x::t) 0=some x:=λx t=>idx_zero _
   have hput:∀(x y:Kid)(t:List Kid),put (x::t) 0 y=some (y::t):=λx y t=>put_ok (l:=x::t) (i:=0) (by simp)
   have hpos:∀{α:Type} (x:α) (t:List α),decide (((x::t).length:Int)>0)=true:=λx t=>decide_eq_true (by rw[List.length_cons];omega)
   have hneg:∀{α:Type},decide ((([]:List α).length:Int)>0)=false:=λ{α}=>decide_eq_false (by simp)
   cases b with
   |nil=>cases hs2:s.2 with
    |nil=>simp only[hneg,cond_false,hd0,stepC];rfl
    |cons y t=>simp only[hneg,hpos,cond_false,cond_true,hidk,hput,Option.bind_some,hd0,stepC];rfl
   |cons z u=>cases hs2:s.2 with
    |nil=>simp only[hneg,hpos,cond_false,cond_true,hidx,Option.bind_some,hd0,stepC]
    |cons y t=>simp only[hneg,hpos,cond_false,cond_true,hidk,hidx,hput,Option.bind_some,hd0,stepC];rfl
  ·rw[List.drop_zero,cut_run]
   simp
 show ref11_Cut_l1 n n ((m:Int),((0:Nat):Int),c,(Content.mk 0 ([]:List Row) ([]:List Kid)),(Content.mk 0 ([]:List Row) ([]:List Kid)),(Key.mk 0 0),c.kind,c.kind,([]:List Row),([]:List Kid),([]:List Row),([]:List Kid),())=_
 unfold ref11_Cut_l1
 refine(run_loopI c.rows (fun(i:Nat) (s:List Row×List Row)=>((m:Int),(i:Int),c,(Content.mk 0 ([]:List Row) ([]:List Kid)),(Content.mk 0 ([]:List Row) ([]:List Kid)),(Key.mk 0 0),c.kind,c.kind,s.1,([]:List Kid),s.2,([]:List Kid),())) (stepT m) (λs=>some (⟨c.kind,s.1,c.kids.take m⟩,⟨c.kind,s.2,hd0 key0 (c.kids.drop m)⟩,stepC s.2 (c.kids.drop m))) (λi s=>s.1.length≤i∧s.2.length≤i) (λi s x s' hx hi hs=> ?_) (λr i s x hx hi hs=> ?_) (λr s hs=> ?_) n 0 ([],[]) (by omega) (by omega) (by simp)).trans ?_
 ·unfold stepT at hs
  injection hs with hs
  subst hs
  split<;>simp<;>omega
 ·obtain⟨h1,h2⟩:=hs
  have a1:app 40 s.1 [x]=some (s.1++[x]):=app_lt (by simp;omega) (by decide)
  have a2:app 40 s.2 [x]=some (s.2++[x]):=app_lt (by simp;omega) (by decide)
  simp only[lt_dec hi,cond_true,idx_nat,hx,Option.bind_some,jn,ref11_Cut_j2,dlt,a1,a2,wrap_succ (show i<4611686018427387904 by omega),stepT]
  by_cases h:i<m
  ·rw[decide_eq_true h,if_pos h];rfl
  ·rw[decide_eq_false h,if_neg h];rfl
 ·simp only[ge_dec (Nat.lt_irrefl _),cond_false]
  exact h3 _ _ _ s.1 s.2 (by omega) (by omega)
 ·rw[List.drop_zero,cut_run]
  simp[cutA,cutB,cutS]
def setH(k:Key)(i:Nat)(x:Kid):Kid:=if i=0 then⟨k,x.page⟩ else x
theorem rboth_eq(n:Nat)(hn:1003≤n)(a b:Content)(ha:Fine a)(hb:Fine b)(k:Key):ref11_Both n a b k=some (bothC a b k):=by
 have h1:=ha.rows
 have h2:=ha.kids
 have h3:=hb.rows
 have h4:=hb.kids
 have e1:app 40 ([]:List Row) a.rows=some a.rows:=by rw[app_lt (by simpa using (by omega:a.rows.length≤1000000)) (by decide)];rfl
 have e2:app 40 a.rows b.rows=some (a.rows++b.rows):=app_lt (by omega) (by decide)
 have e3:app 24 ([]:List Kid) a.kids=some a.kids:=by rw[app_lt (by simpa using (by omega:a.kids.length≤1000000)) (by decide)];rfl
 unfold ref11_Both
 rw[e1,Option.bind_some,e2,Option.bind_some,e3,Option.bind_some]
 show ref11_Both_l1 n n (((0:Nat):Int),b,k,_,a.kind,a.rows++b.rows,a.kids,())=_
 unfold ref11_Both_l1
 refine(run_loopI b.kids (fun(i:Nat) (s:List Kid)=>((i:Int),b,k,(Content.mk 0 ([]:List Row) ([]:List Kid)),a.kind,a.rows++b.rows,s,())) (λi x s=> .inr (s++[setH k i x])) (λs=>some ⟨a.kind,a.rows++b.rows,s⟩) (λi s=>s.length≤1000+i) (λi s x s' hx hi hs=> ?_) (λr i s x hx hi hs=> ?_) (λr s hs=> ?_) n 0 a.kids (by omega) (by omega) (by omega)).trans ?_
 ·injection hs with hs
  subst hs
  simp;omega
 ·have a1:∀y:Kid,app 24 s [y]=some (s++[y]):=λy=>app_lt (by simp;omega) (by decide)
  simp only[lt_dec hi,cond_true,idx_nat,hx,Option.bind_some,jn,ref11_Both_j2,a1,wrap_succ (show i<4611686018427387904 by omega),setH,beq0]
  by_cases h:i=0
  ·rw[decide_eq_true h,if_pos h];rfl
  ·rw[decide_eq_false h,if_neg h];rfl
 ·simp only[ge_dec (Nat.lt_irrefl _),cond_false]
 ·have hsk:∀(t:List Kid)(i:Nat)(s:List Kid),0<i→runL (R:=Content) (λi x s=> .inr (s++[setH k i x])) (λs=>some ⟨a.kind,a.rows++b.rows,s⟩) t i s=some ⟨a.kind,a.rows++b.rows,s++t⟩:=by
   intro t
   induction t with
   |nil=>intro i s _;simp[runL]
   |cons x t ih=>
    intro i s hi
    simp only[runL]
    rw[ih (i+1) _ (by omega),setH,if_neg (by omega)]
    simp
  rw[List.drop_zero]
  unfold bothC
  cases hbk:b.kids with
  |nil=>simp[runL,hd0]
  |cons x t=>
   simp only[runL]
   rw[hsk t 1 _ (by omega)]
   simp[setH,hd0]
def alikeP(a b:Content):Bool:=decide (a.kind=b.kind)&& !decide (a.kind=0)
theorem fine_both{a b:Content}{k:Key}(ha:Fine a)(hb:Fine b)(la:a.rows.length+a.kids.length≤100)(lb:b.rows.length+b.kids.length≤100):Fine (bothC a b k):=by
 refine⟨by simp[bothC];omega,by simp[bothC,hd0_len];omega,λx hx=> ?_⟩
 simp only[bothC,List.mem_append] at hx
 rcases hx with h|h
 ·exact ha.page x h
 ·cases hbk:b.kids with
  |nil=>rw[hbk] at h;cases h
  |cons y t=>
   rw[hbk] at h
   simp only[hd0,List.mem_cons] at h
   rcases h with rfl|h
   ·exact hb.page y (by simp[hbk])
   ·exact hb.page x (by simp[hbk,h])
theorem fine_cutA{c:Content}{m:Nat}(hc:Fine c):Fine (cutA c m):=⟨by have:=hc.rows;simp[cutA];omega,by have:=hc.kids;simp[cutA];omega,λx hx=>hc.page x (List.mem_of_mem_take hx)⟩
theorem fine_hd0{l:List Kid}{k:Key}(h:∀x∈l,keyIn .i64 x.page=true):∀x∈hd0 k l,keyIn .i64 x.page=true:=λx hx=>by
 cases l with
 |nil=>cases hx
 |cons y t=>
  rcases List.mem_cons.1 hx with rfl|hx
  ·exact h y (by simp)
  ·exact h x (by simp[hx])
theorem fine_cutB{c:Content}{m:Nat}(hc:Fine c):Fine (cutB c m):=⟨by have:=hc.rows;simp[cutB];omega,by have:=hc.kids;simp[cutB,hd0_len];omega,fine_hd0 λx hx=>hc.page x (List.mem_of_mem_drop hx)⟩
theorem keys_hd0{l:List Kid}{k:Key}(hk:KeyIn k)(h:∀x∈l,KeyIn x.least):∀x∈hd0 k l,KeyIn x.least:=λx hx=>by
 cases l with
 |nil=>cases hx
 |cons y t=>
  rcases List.mem_cons.1 hx with rfl|hx
  ·exact hk
  ·exact h x (by simp[hx])
theorem key0In:KeyIn key0:=⟨by decide,by decide⟩
theorem keys_both{a b:Content}{k:Key}(ha:Keys a)(hb:Keys b)(hk:KeyIn k):Keys (bothC a b k):=by
 refine⟨λx hx=> ?_,λx hx=> ?_⟩
 ·rcases List.mem_append.1 hx with h|h
  ·exact ha.rows x h
  ·exact hb.rows x h
 ·rcases List.mem_append.1 hx with h|h
  ·exact ha.kids x h
  ·exact keys_hd0 hk hb.kids x h
theorem keys_cutA{c:Content}{m:Nat}(hc:Keys c):Keys (cutA c m):=⟨λx hx=>hc.rows x (List.mem_of_mem_take hx),λx hx=>hc.kids x (List.mem_of_mem_take hx)⟩
theorem keys_cutB{c:Content}{m:Nat}(hc:Keys c):Keys (cutB c m):=⟨λx hx=>hc.rows x (List.mem_of_mem_drop hx),keys_hd0 key0In λx hx=>hc.kids x (List.mem_of_mem_drop hx)⟩
def splitP(c:Content):Content×Content×Key×Int:=if checkP c then(if fullP c then(cutA c 2,cutB c 2,cutS c 2,0) else(cont0,cont0,key0,2)) else(cont0,cont0,key0,160)
theorem split_eq(n:Nat)(hn:1003≤n)(c:Content)(hc:Fine c):page_Split n c=some (splitP c):=by
 unfold page_Split splitP
 rw[asked_eq n hn [c] (by simp) (by intro d hd;simp at hd;subst hd;exact hc)]
 simp only[List.all_cons,List.all_nil,Bool.and_true]
 by_cases hck:checkP c=true
 ·simp only[hck,if_true,Option.bind_some,full_eq n c hc,show((0:Int) !=0)=false from by decide,cond_false]
  by_cases hf:fullP c=true
  ·have hkind:c.kind=1∨c.kind=2:=by
    unfold fullP at hf;simp at hf;exact hf.1
   have hsz:sizeP c=4:=by unfold fullP at hf;simp at hf;exact hf.2
   simp only[hf,Bool.not_true,cond_false,if_true]
   rcases kinds_of hck (by rcases hkind with h|h<;>rw[h]<;>decide) with⟨h1,h2,h3⟩|⟨h1,h2,h3,h4⟩
   ·obtain⟨kind,rows,kids⟩:=c
    simp only at h1 h2 h3
    subst h1 h2
    obtain⟨r1,r2,r3,r4,rfl⟩:=len4 (show rows.length=4 by simpa[sizeP] using hsz)
    simp only[show((1:Int)==1)=true from by decide,cond_true]
    rw[show page_cut_Row n [r1,r2,r3,r4] 2=some ([r1,r2],[r3,r4]) from cutR_eq n [r1,r2,r3,r4] (by simp) 2 (by simp)]
    rfl
   ·obtain⟨kind,rows,kids⟩:=c
    simp only at h1 h2 h3 h4
    subst h1 h2
    obtain⟨r1,r2,r3,r4,rfl⟩:=len4 (show kids.length=4 by simpa[sizeP] using hsz)
    simp only[show((2:Int)==1)=false from by decide,cond_false]
    rw[show page_cut_Kid n [r1,r2,r3,r4] 2=some ([r1,r2],[r3,r4]) from cutK_eq n [r1,r2,r3,r4] (by simp) 2 (by simp)]
    rfl
  ·have hf:fullP c=false:=by simpa using hf
   simp[hf,cont0,key0]
 ·have hck:checkP c=false:=by simpa using hck
  simp[hck,cont0,key0]
def levelQ(a b:Content)(k:Key):Bool:= !decide (sizeP (cutB (bothC a b k) (cutM a b))=0)&&(risesC (bothC a b k)&&(checkP (cutA (bothC a b k) (cutM a b))&&checkP (cutB (bothC a b k) (cutM a b))))
theorem rsize_eq(n:Nat)(c:Content)(hc:Fine c):ref11_Size n c=some (sizeP c:Int):=size_eq n c hc
theorem rlevel_eq (n : Nat) (hn : 1003 ≤ n) (a b : Content) (k : Key) (ha : Fine a) (hb : Fine b) (la : sizeP a ≤ 100) (lb : sizeP b ≤ 100) (ka : Keys a) (kb : Keys b) (hk : KeyIn k) : ref11_Level n a b k = some (if alikeP a b && !decide (sizeP a = sizeP b) then (if levelQ a b k then (cutA (bothC a b k) (cutM a b), cutB (bothC a b k) (cutM a b), cutS (bothC a b k) (cutM a b), true) else (cont0, cont0, key0, false)) else (cont0, cont0, key0, false)) := by
  have hf : Fine (bothC a b k) := fine_both ha hb (by unfold sizeP at la; omega) (by unfold sizeP at lb; omega)
  have kf := keys_both ka kb hk
  have hj : ∀ (u v : Content) (z : Key), ref11_Level_j1 n ((cutM a b : Nat), a, b, k, u, v, z, ()) = some (if levelQ a b k then (cutA (bothC a b k) (cutM a b), cutB (bothC a b k) (cutM a b), cutS (bothC a b k) (cutM a b), true) else (cont0, cont0, key0, false)) := by
    intro u v z
    unfold ref11_Level_j1 levelQ
    simp only [rboth_eq n hn a b ha hb k, Option.bind_some, rcut_eq n hn _ hf, rsize_eq n _ (fine_cutB hf), jn, rrises_eq n hn _ hf, right_eq n hn _ (fine_cutA hf) (keys_cutA kf), right_eq n hn _ (fine_cutB hf) (keys_cutB kf), beq0]
    cases decide (sizeP (cutB (bothC a b k) (cutM a b)) = 0) <;> cases risesC (bothC a b k) <;> cases checkP (cutA (bothC a b k) (cutM a b)) <;> cases checkP (cutB (bothC a b k) (cutM a b)) <;> rfl
  unfold ref11_Level
  have h3 : (a.kind != b.kind) = !decide (a.kind = b.kind) := by rw [bne, ibeq]
  simp only [jn, rsize_eq n a ha, rsize_eq n b hb, Option.bind_some, h3, ibeq a.kind, cmpEq (a := 0) (b := 0)]
  rw [show (((sizeP a : Nat) : Int) == ((sizeP b : Nat) : Int)) = decide (sizeP a = sizeP b) from ieq4]
  have hgo : cond (decide (sizeP a > sizeP b))
            (ref11_Level_j1 n ((IntKind.wrap .i64 ((sizeP a : Nat) - 1)), a, b, k, (Content.mk 0 ([] : List Row) ([] : List Kid)), (Content.mk 0 ([] : List Row) ([] : List Kid)), (Key.mk 0 0), ()))
            (ref11_Level_j1 n ((IntKind.wrap .i64 ((sizeP a : Nat) + 1)), a, b, k, (Content.mk 0 ([] : List Row) ([] : List Kid)), (Content.mk 0 ([] : List Row) ([] : List Kid)), (Key.mk 0 0), ())) = some (if levelQ a b k then (cutA (bothC a b k) (cutM a b), cutB (bothC a b k) (cutM a b), cutS (bothC a b k) (cutM a b), true) else (cont0, cont0, key0, false)) := by
    have h1 := hj cont0 cont0 key0
    by_cases h : sizeP a > sizeP b
    · rw [decide_eq_true h, cond_true, ← h1, wrap_in (by omega)]
      unfold cutM
      rw [if_pos h]
      congr 2; omega
    · rw [decide_eq_false h, cond_false, ← h1, wrap_in (by omega)]
      unfold cutM
      rw [if_neg h]
      congr 2
  rw [hgo]
  unfold alikeP
  cases decide (a.kind = b.kind) <;> cases decide (a.kind = 0) <;> cases decide (sizeP a = sizeP b) <;> rfl
theorem fullR_eq(n:Nat)(c:Content)(hc:Fine c)(hck:checkP c=true):ref11_Full n c=some (fullP c):=by
 unfold ref11_Full
 have h4:(((sizeP c:Nat):Int)==4)=decide (sizeP c=4):=ieq4 (m:=4)
 have hk0:(c.kind !=0)= !decide (c.kind=0):=by rw[bne,ibeq]
 simp only[jn,rsize_eq n c hc,Option.bind_some,h4,hk0]
 unfold fullP
 by_cases e0:c.kind=0
 ·simp[e0]
 ·rcases kinds_of hck e0 with⟨h,_⟩|⟨h,_⟩<;>simp[h]
end Go.Proofs.YtlcmdgpjiendmaaGreat
namespace Go.Bur
open Go.RowKit
set_option linter.unusedVariables false
set_option linter.unusedSimpArgs false
theorem runL_skip{α σ R:Type}{fin:σ→Option R}{s:σ}:∀(l:List α)(i:Nat),runL (λ_ _ s=> .inr s) fin l i s=fin s
 |[],_=>rfl
 |_::t,i=>runL_skip t (i+1)
theorem runL_all{α R:Type}{p:α→Bool}{v:Option R}{fin:Unit→Option R}:∀(l:List α)(i:Nat),runL (λ_ x (_:Unit)=>if p x then .inr () else .inl v) fin l i ()=if l.all p then fin () else v
 |[],_=>rfl
 |x::t,i=>by
  by_cases hp:p x=true
  ·simp only[runL,List.all_cons,hp,if_true,Bool.true_and];exact runL_all t (i+1)
  ·have hp:p x=false:=by simpa using hp
   simp[runL,hp]
theorem runL_any{α R:Type}{p:α→Bool}{v:Option R}{fin:Unit→Option R}:∀(l:List α)(i:Nat),runL (λ_ x (_:Unit)=>if p x then .inl v else .inr ()) fin l i ()=if l.any p then v else fin ()
 |[],_=>rfl
 |x::t,i=>by
  by_cases hp:p x=true
  ·simp[runL,hp]
  ·have hp:p x=false:=by simpa using hp
   simp only[runL,hp,List.any_cons,Bool.false_or];exact runL_any t (i+1)
def allFrom{α:Type}(p:Nat→α→Bool):Nat→List α→Bool
 |_,[]=>true
 |i,x::t=>p i x&&allFrom p (i+1) t
theorem runL_allFrom{α R:Type}{p:Nat→α→Bool}{v:Option R}{fin:Unit→Option R}:∀(l:List α)(i:Nat),runL (λi x (_:Unit)=>if p i x then .inr () else .inl v) fin l i ()=if allFrom p i l then fin () else v
 |[],_=>rfl
 |x::t,i=>by
  by_cases hp:p i x=true
  ·simp only[runL,allFrom,hp,if_true,Bool.true_and];exact runL_allFrom t (i+1)
  ·have hp:p i x=false:=by simpa using hp
   simp[runL,allFrom,hp]
theorem ibeq(a b:Int):(a==b)=decide (a=b):=by
 by_cases h:a=b
 ·subst h;simp
 ·rw[decide_eq_false h];simp[h]
theorem ieqN{k m:Nat}:(((k:Int))==(m:Int))=decide (k=m):=by
 rw[ibeq]
 by_cases h:k=m
 ·subst h;simp
 ·rw[decide_eq_false h,decide_eq_false (by omega)]
theorem ineN{k m:Nat}:(((k:Int)) !=(m:Int))= !decide (k=m):=by rw[bne,ieqN]
theorem idx_some{α:Type}{l:List α}{i:Int}{x:α}(h:idx l i=some x):0≤i∧i<l.length∧x∈l:=by
 unfold idx at h
 split at h
 ·rename_i h0
  obtain⟨h1,h2⟩:=List.getElem?_eq_some_iff.1 h
  exact⟨h0,by omega,h2▸List.getElem_mem h1⟩
 ·cases h
theorem idx_in{α:Type}{l:List α}{i:Int}(h:0≤i∧i<l.length):∃x,idx l i=some x:=by
 obtain⟨k,rfl⟩:=Int.eq_ofNat_of_zero_le h.1
 exact⟨_,(idx_nat l k).trans (get_some (by omega))⟩
end Go.Bur
namespace Go.Bur
open Go.RowKit
set_option linter.unusedVariables false
set_option linter.unusedSimpArgs false
structure Cut{α:Type}(c:α→Int)(l A:List α)(y:Option α)(B:List α):Prop where
 eq:l=A++(y.toList++B)
 lo:∀x∈A,c x<0
 mid:∀x,y=some x→c x=0
 hi:∀x∈B,0<c x
section
variable {α : Type} {c : α → Int} {l A B : List α} {y : Option α}
end
theorem idx_app{α:Type}{A B:List α}{o:α}:idx (A++o::B) (A.length:Int)=some o:=by
 rw[idx_nat,List.getElem?_append_right (Nat.le_refl _)];simp
end Go.Bur
namespace Go.Proofs.YtlcmdgpjiendmaaGreat
open Go.Bur
set_option linter.unusedSimpArgs false
set_option linter.unusedVariables false
set_option maxRecDepth 100000
structure LeafOk(l:List Row):Prop where
 len:l.length≤4
 row:∀r∈l,okRow r=true
 srt:Srt l
structure InnerOk(l:List Kid):Prop where
 two:2≤l.length
 four:l.length≤4
 page:∀k∈l,0<k.page∧k.page<64
 nodup:(l.map (·.page)).Nodup
 tab:∀k∈l,okTab k.least.table=true
 rise:l.Pairwise λa b=>ltK a.least b.least=true
 head:∀k,l.head? =some k→k.least=key0
theorem mget_cons{q:List (Int×Bool)}{x y:Int}:mget false ((x,true)::q) y=(decide (x=y)||mget false q y):=by
 show(match decide (x=y) with|true=>true|false=>mget false q y)=_
 cases decide (x=y)<;>rfl
theorem risesK_iff:∀(p:Option Key)(q:List (Int×Bool))(l:List Kid),risesK p q l=true↔
  (∀k∈l,(0<k.page∧k.page<64)∧okTab k.least.table=true∧mget false q k.page=false)∧(l.map (·.page)).Nodup∧(l.Pairwise λa b=>ltK a.least b.least=true)∧(∀z,p=some z→∀k∈l,ltK z k.least=true)∧(p=none→∀k,l.head? =some k→k.least=key0)
 |p,q,[]=>by simp[risesK]
 |p,q,k::t=>by
  simp only[risesK,goK,okKid,Bool.and_eq_true,Bool.or_eq_true,Bool.not_eq_true',decide_eq_true_eq,risesK_iff (some k.least) ((k.page,true)::q) t,List.map_cons,List.nodup_cons,List.pairwise_cons,List.head?_cons,Option.some.injEq,key_eqb,mget_cons,Bool.or_eq_false_iff,decide_eq_false_iff_not]
  constructor
  ·rintro⟨⟨⟨⟨⟨⟨h1,h2⟩,h3⟩,h4⟩,h5⟩,h6⟩,h7,h8,h9,h10,_⟩
   refine⟨λx hx=> ?_,⟨λhm=> ?_,h8⟩,⟨λx hx=>h10 _ rfl x hx,h9⟩,λz hz x hx=> ?_,λhp x hx=> ?_⟩
   ·rcases List.mem_cons.1 hx with rfl|hx
    ·exact⟨⟨h2,h3⟩,h4,h1⟩
    ·exact⟨(h7 x hx).1,(h7 x hx).2.1,(h7 x hx).2.2.2⟩
   ·obtain⟨y,hy,e⟩:=List.mem_map.1 hm
    exact(h7 y hy).2.2.1 e.symm
   ·subst hz
    rcases List.mem_cons.1 hx with rfl|hx
    ·exact h6
    ·exact ltK_trans h6 (h10 _ rfl x hx)
   ·subst hp;subst hx
    rcases h5 with h|h
    ·cases h
    ·exact h
  ·rintro⟨h1,⟨h2,h3⟩,⟨h4,h5⟩,h6,h7⟩
   obtain⟨⟨a1,a2⟩,a3,a4⟩:=h1 k (List.mem_cons_self ..)
   refine⟨⟨⟨⟨⟨⟨a4,a1⟩,a2⟩,a3⟩, ?_⟩, ?_⟩,λx hx=> ?_,h3,h5,λz hz x hx=> ?_,λh=>by cases h⟩
   ·cases p with
    |none=>exact Or.inr (h7 rfl k rfl)
    |some z=>exact Or.inl rfl
   ·cases p with
    |none=>rfl
    |some z=>exact h6 z rfl k (List.mem_cons_self ..)
   ·obtain⟨b1,b2,b3⟩:=h1 x (List.mem_cons_of_mem _ hx)
    exact⟨b1,b2,λe=>h2 (List.mem_map.2 ⟨x,hx,e.symm⟩),b3⟩
   ·cases hz;exact h4 x hx
theorem check_iff(c:Content):checkP c=true↔c=cont0∨(∃l,c=⟨1,l,[]⟩∧LeafOk l)∨∃l,c=⟨2,[],l⟩∧InnerOk l:=by
 obtain⟨k,rs,ks⟩:=c
 unfold checkP
 simp only
 constructor
 ·intro h
  split at h
  ·rename_i h0
   simp at h;exact Or.inl (by rw[h0,h.1,h.2];rfl)
  ·split at h
   ·rename_i h0 h1
    simp only[Bool.and_eq_true,decide_eq_true_eq] at h
    obtain⟨a,b,c⟩:=(risesR_iff none rs).1 h.2.2
    exact Or.inr (Or.inl ⟨rs,by rw[h1,List.eq_nil_of_length_eq_zero h.1],h.2.1,a,b⟩)
   ·split at h
    ·rename_i h0 h1 h2
     simp only[Bool.and_eq_true,decide_eq_true_eq] at h
     obtain⟨a,b,c,d,e⟩:=(risesK_iff none [] ks).1 h.2.2.2
     exact Or.inr (Or.inr ⟨ks,by rw[h2,List.eq_nil_of_length_eq_zero h.1],h.2.1,h.2.2.1,λx hx=>(a x hx).1,b,λx hx=>(a x hx).2.1,c,e rfl⟩)
    ·cases h
 ·rintro(h|⟨l,h,hl⟩|⟨l,h,hl⟩)
  ·cases h;rfl
  ·cases h
   simp only[if_neg (show ¬(1:Int)=0 by decide),if_true,List.length_nil,decide_eq_true hl.len,(risesR_iff none rs).2 ⟨hl.row,hl.srt,λk h=>by cases h⟩]
   rfl
  ·cases h
   simp only[if_neg (show ¬(2:Int)=0 by decide),if_neg (show ¬(2:Int)=1 by decide),if_true,List.length_nil,decide_eq_true hl.four,decide_eq_true (show 1<ks.length from hl.two),(risesK_iff none [] ks).2 ⟨λx hx=>⟨hl.page x hx,hl.tab x hx,rfl⟩,hl.nodup,hl.rise,λz h=>(by cases h),λ_=>hl.head⟩]
   rfl
theorem fine_check{c:Content}(h:checkP c=true):Fine c:=by
 rcases(check_iff c).1 h with rfl|⟨l,rfl,hl⟩|⟨l,rfl,hl⟩
 ·exact fine0
 ·exact⟨by have:=hl.len;simp only;omega,by simp,by simp⟩
 ·refine⟨by simp,by have:=hl.four;simp only;omega,λk hk=>keyIn_i64 ?_⟩
  have:=hl.page k hk
  have e1:IntKind.i64.min= -9223372036854775808:=rfl
  have e2:IntKind.i64.max=9223372036854775807:=rfl
  exact⟨by omega,by omega⟩
def within(k lo:Key)(hi:Option Key):Bool:= !ltK k lo&&(match hi with|none=>true|some h=>ltK k h)
theorem cmpK_ge{a b:Key}:decide (cmpK a b≥0)= !ltK a b:=ge_lt
theorem within_nil(n:Nat)(hn:3≤n)(k lo:Key):tree_within_fnil n k lo=some (within k lo none):=by
 unfold tree_within_fnil within
 rw[compare_eq n hn]
 simp only[Option.bind_some,jn,cmpK_ge]
 cases ltK k lo<;>rfl
theorem within_some(n:Nat)(hn:3≤n)(k lo h:Key):tree_within n k lo h=some (within k lo (some h)):=by
 unfold tree_within within
 rw[compare_eq n hn,compare_eq n hn]
 simp only[Option.bind_some,jn,cmpK_ge]
 cases ltK k lo<;>rfl
def pg(f:List Content)(n:Int):Content:=(idx f n).getD cont0
theorem idx_pg{f:List Content}{n:Int}(h:0≤n∧n<f.length):idx f n=some (pg f n):=by
 obtain⟨x,hx⟩:=idx_in h
 unfold pg;rw[hx];rfl
def nxt(hi:Option Key):List Kid→Option Key
 |[]=>hi
 |k::_=>some k.least
def kidsOk(S:Int→Key→Option Key→Prop)(hi:Option Key):Key→List Kid→Prop
 |_,[]=>True
 |lo,[k]=>S k.page lo hi
 |lo,k::k2::t=>S k.page lo (some k2.least)∧kidsOk S hi k2.least (k2::t)
def sub(f:List Content):Nat→Int→Key→Option Key→Prop
 |0=>λ_ _ _=>False
 |1=>λn lo hi=>(0≤n∧n<64)∧(n≠0→2≤sizeP (pg f n))∧∃l,pg f n=⟨1,l,[]⟩∧LeafOk l∧∀r∈l,within r.key lo hi=true
 |d+2=>λn lo hi=>(0≤n∧n<64)∧(n≠0→2≤sizeP (pg f n))∧∃l,pg f n=⟨2,[],l⟩∧InnerOk l∧(∀k∈l.tail,within k.least lo hi=true)∧kidsOk (sub f (d+1)) hi lo l
def pgs(f:List Content):Nat→Int→List Int
 |0,_=>[]
 |d+1,n=>n::(pg f n).kids.flatMap λk=>pgs f d k.page
def rws(f:List Content):Nat→Int→List Row
 |0,_=>[]
 |d+1,n=>(pg f n).rows++(pg f n).kids.flatMap λk=>rws f d k.page
theorem kidsOk_cons{S:Int→Key→Option Key→Prop}{hi:Option Key}{lo:Key}{k:Kid}{t:List Kid}:kidsOk S hi lo (k::t)↔S k.page lo (nxt hi t)∧∀k2 t2,t=k2::t2→kidsOk S hi k2.least t:=by
 cases t with
 |nil=>simp[kidsOk,nxt]
 |cons k2 t2=>
  simp only[kidsOk,nxt]
  exact⟨λh=>⟨h.1,λ_ _ e=>by cases e;exact h.2⟩,λh=>⟨h.1,h.2 _ _ rfl⟩⟩
theorem kidsOk_mono{S S':Int→Key→Option Key→Prop}{hi:Option Key}:∀{l:List Kid} {lo:Key},(∀k∈l,∀a b,S k.page a b→S' k.page a b)→kidsOk S hi lo l→kidsOk S' hi lo l
 |[],_,_,_=>trivial
 |[k],lo,h,hk=>h k (List.mem_cons_self ..) _ _ hk
 |k::k2::t,lo,h,hk=>⟨h k (List.mem_cons_self ..) _ _ hk.1,kidsOk_mono (λx hx=>h x (List.mem_cons_of_mem _ hx)) hk.2⟩
theorem kidsOk_all{S:Int→Key→Option Key→Prop}{hi:Option Key}:∀{l:List Kid} {lo:Key},kidsOk S hi lo l→∀k∈l,∃a b,S k.page a b
 |[k],lo,h,x,hx=>by cases List.mem_singleton.1 hx;exact⟨_,_,h⟩
 |k::k2::t,lo,h,x,hx=>by
  rcases List.mem_cons.1 hx with rfl|hx
  ·exact⟨_,_,h.1⟩
  ·exact kidsOk_all h.2 x hx
theorem kidsOk_app{S:Int→Key→Option Key→Prop}{hi:Option Key}{k:Kid}{t:List Kid}:∀{l:List Kid} {lo:Key},l≠[]→(kidsOk S hi lo (l++k::t)↔kidsOk S (some k.least) lo l∧kidsOk S hi k.least (k::t))
 |[],_,h=>absurd rfl h
 |[a],lo,_=>Iff.rfl
 |a::b::l,lo,_=>by
  have ih:=kidsOk_app (S:=S) (hi:=hi) (k:=k) (t:=t) (l:=b::l) (lo:=b.least) (by simp)
  show S a.page lo (some b.least)∧kidsOk S hi b.least ((b::l)++k::t)↔_
  rw[ih]
  exact⟨λh=>⟨⟨h.1,h.2.1⟩,h.2.2⟩,λh=>⟨h.1.1,h.1.2,h.2⟩⟩
theorem kidsOk_hd{S:Int→Key→Option Key→Prop}{hi:Option Key}{lo:Key}{k k':Kid}{t:List Kid}(h:k.page=k'.page):kidsOk S hi lo (k::t)↔kidsOk S hi lo (k'::t):=by
 cases t with
 |nil=>simp only[kidsOk,h]
 |cons k2 t=>simp only[kidsOk,h]
theorem flatMap_ext{α β:Type}{g h:α→List β}:∀{l:List α},(∀x∈l,g x=h x)→l.flatMap g=l.flatMap h
 |[],_=>rfl
 |x::t,e=>by rw[List.flatMap_cons,List.flatMap_cons,e x (List.mem_cons_self ..),flatMap_ext λy hy=>e y (List.mem_cons_of_mem _ hy)]
theorem pgs_self{f:List Content}{d:Nat}{n:Int}:n∈pgs f (d+1) n:=List.mem_cons_self ..
theorem pgs_kid{f:List Content}{d:Nat}{n:Int}{k:Kid}(hk:k∈(pg f n).kids){m:Int}(hm:m∈pgs f d k.page):m∈pgs f (d+1) n:=
 List.mem_cons_of_mem _ (List.mem_flatMap.2 ⟨k,hk,hm⟩)
theorem frame{f f':List Content}:∀{d:Nat} {n:Int},(∀m∈pgs f d n,pg f' m=pg f m)→pgs f' d n=pgs f d n∧rws f' d n=rws f d n
 |0,_,_=>⟨rfl,rfl⟩
 |d+1,n,h=>by
  have e:=h n pgs_self
  have ih:∀k∈(pg f n).kids,pgs f' d k.page=pgs f d k.page∧rws f' d k.page=rws f d k.page:=λk hk=>frame λm hm=>h m (pgs_kid hk hm)
  constructor
  ·show n::(pg f' n).kids.flatMap _=n::(pg f n).kids.flatMap _
   rw[e,flatMap_ext λk hk=>(ih k hk).1]
  ·show(pg f' n).rows++(pg f' n).kids.flatMap _=(pg f n).rows++(pg f n).kids.flatMap _
   rw[e,flatMap_ext λk hk=>(ih k hk).2]
theorem sub_frame{f f':List Content}:∀{d:Nat} {n:Int} {lo:Key} {hi:Option Key},(∀m∈pgs f d n,pg f' m=pg f m)→sub f d n lo hi→sub f' d n lo hi
 |0,_,_,_,_,h=>h
 |1,n,lo,hi,e,h=>by
  obtain⟨h1,h2,l,h3,h4,h5⟩:=h
  have en:=e n pgs_self
  exact⟨h1,by rw[en];exact h2,l,by rw[en];exact h3,h4,h5⟩
 |d+2,n,lo,hi,e,h=>by
  obtain⟨h1,h2,l,h3,h4,h5,h6⟩:=h
  have en:=e n pgs_self
  refine⟨h1,by rw[en];exact h2,l,by rw[en];exact h3,h4,h5,kidsOk_mono (λk hk a b hs=>sub_frame (λm hm=>e m (pgs_kid (by rw[h3];exact hk) hm)) hs) h6⟩
theorem sub_page{f:List Content}{d:Nat}{n:Int}{lo:Key}{hi:Option Key}(h:sub f d n lo hi):0≤n∧n<64:=by
 match d,h with
 |1,h=>exact h.1
 |d+2,h=>exact h.1
theorem sub_check{f:List Content}{d:Nat}{n:Int}{lo:Key}{hi:Option Key}(h:sub f d n lo hi):checkP (pg f n)=true:=by
 match d,h with
 |1,h=>obtain⟨_,_,l,h3,h4,_⟩:=h;exact(check_iff _).2 (Or.inr (Or.inl ⟨l,h3,h4⟩))
 |d+2,h=>obtain⟨_,_,l,h3,h4,_⟩:=h;exact(check_iff _).2 (Or.inr (Or.inr ⟨l,h3,h4⟩))
theorem sub_in{f:List Content}:∀{d:Nat} {n:Int} {lo:Key} {hi:Option Key},sub f d n lo hi→∀m∈pgs f d n,(0≤m∧m<64)∧(pg f m).kind≠0
 |1,n,lo,hi,h,m,hm=>by
  obtain⟨h1,_,l,h3,_⟩:=h
  rw[pgs,h3] at hm
  cases List.mem_singleton.1 hm
  exact⟨h1,by rw[h3];simp⟩
 |d+2,n,lo,hi,h,m,hm=>by
  obtain⟨h1,_,l,h3,_,_,h6⟩:=h
  rcases List.mem_cons.1 hm with rfl|hm
  ·exact⟨h1,by rw[h3];simp⟩
  ·obtain⟨k,hk,hm⟩:=List.mem_flatMap.1 hm
   rw[h3] at hk
   obtain⟨a,b,hs⟩:=kidsOk_all h6 k hk
   exact sub_in hs m hm
structure Good(f:List Content)(d:Nat):Prop where
 len:f.length=64
 ok:∀n,0≤n∧n<64→checkP (pg f n)=true
 tree:sub f d 0 key0 none
 nodup:(pgs f d 0).Nodup
 rest:∀n,0≤n∧n<64→n∉pgs f d 0→(pg f n).kind=0
theorem nodup_sub_len'{α:Type}[DecidableEq α]:∀{l m:List α},l.Nodup→(∀x∈l,x∈m)→l.length≤m.length
 |[],m,_,_=>Nat.zero_le _
 |x::t,m,h,hs=>by
  obtain⟨h1,h2⟩:=List.nodup_cons.1 h
  have hx:=hs x (List.mem_cons_self ..)
  have:=nodup_sub_len' (l:=t) (m:=m.erase x) h2 λy hy=>(List.mem_erase_of_ne (by rintro rfl;exact h1 hy)).2 (hs y (List.mem_cons_of_mem _ hy))
  rw[List.length_erase_of_mem hx] at this
  have:=List.length_pos_of_mem hx
  simp only[List.length_cons];omega
def all64:List Int:=(List.range 64).map Int.ofNat
theorem mem_all64{x:Int}:x∈all64↔0≤x∧x<64:=by
 unfold all64
 rw[List.mem_map]
 constructor
 ·rintro⟨a,ha,rfl⟩
  have:=List.mem_range.1 ha
  exact⟨Int.natCast_nonneg a,by show(a:Int)<64;omega⟩
 ·rintro⟨h1,h2⟩
  exact⟨x.toNat,List.mem_range.2 (by omega),by show((x.toNat:Nat):Int)=x;omega⟩
theorem nodup_len{l:List Int}(h:l.Nodup)(hl:∀x∈l,0≤x∧x<64):l.length≤64:=
 nodup_sub_len' (m:=all64) h λx hx=>mem_all64.2 (hl x hx)
theorem pgs_many{f:List Content}:∀{d:Nat} {n:Int} {lo:Key} {hi:Option Key},sub f d n lo hi→2^d≤(pgs f d n).length+1
 |1,n,lo,hi,h=>by
  show 2≤(n::_).length+1
  simp
 |d+2,n,lo,hi,h=>by
  obtain⟨_,_,l,h3,h4,_,h6⟩:=h
  obtain⟨a,b,t,rfl⟩:∃a b t,l=a::b::t:=by
   match l,h4.two with
   |a::b::t,_=>exact⟨a,b,t,rfl⟩
  obtain⟨x1,y1,s1⟩:=kidsOk_all h6 a (by simp)
  obtain⟨x2,y2,s2⟩:=kidsOk_all h6 b (by simp)
  have i1:=pgs_many s1
  have i2:=pgs_many s2
  show 2^(d+2)≤(n::(pg f n).kids.flatMap λk=>pgs f (d+1) k.page).length+1
  rw[h3]
  simp only[List.flatMap_cons,List.length_cons,List.length_append]
  rw[Nat.pow_succ]
  omega
theorem Good.deep{f:List Content}{d:Nat}(h:Good f d):d≤6:=by
 have h1:=pgs_many h.tree
 have h2:=nodup_len h.nodup λx hx=>(sub_in h.tree x hx).1
 by_cases hd:d≤6
 ·exact hd
 ·have:2^7≤2^d:=Nat.pow_le_pow_right (by decide) (by omega)
  omega
theorem Good.pos{f:List Content}{d:Nat}(h:Good f d):1≤d:=by
 have:=h.tree
 match d,this with
 |d+1,_=>omega
end Go.Proofs.YtlcmdgpjiendmaaGreat
