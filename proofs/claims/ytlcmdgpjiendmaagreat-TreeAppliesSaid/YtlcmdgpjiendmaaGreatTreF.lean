import Derived.Test.YtlcmdgpjiendmaaGreatTreA
namespace Go.Proofs.YtlcmdgpjiendmaaGreat
open Go.Bur
set_option linter.unusedSimpArgs false
set_option linter.unusedVariables false
set_option maxRecDepth 100000
abbrev Met:=List (Int×Bool)
def kidsW(F:Int→Key→Option Key→Int→Met→Option (Bool×Int×Met))(hi:Option Key)(lo:Key):Bool→List Kid→Int→Met→Option (Bool×Int×Met)
 |_,[],wd,q=>some (true,wd,q)
 |fst,k::t,wd,q=>if(!fst&& !within k.least lo hi)=true then some (false,wd,q) else
  (F k.page (if fst=true then lo else k.least) (nxt hi t) wd q).bind λy=>if y.1=false then some (false,y.2.1,y.2.2) else kidsW F hi lo false t y.2.1 y.2.2
def walkP(f:List Content):Nat→Int→Int→Key→Option Key→Int→Met→Option (Bool×Int×Met)
 |0,_,_,_,_,_,_=>none
 |m+1,n,dp,lo,hi,wd,q=>
  if mget false q n=true then some (false,wd,q)
  else if(pg f n).kind=0∨(n≠0∧sizeP (pg f n)<2) then some (false,wd,(n,true)::q)
  else if((pg f n).rows.all λr=>within r.key lo hi)=false then some (false,wd,(n,true)::q)
  else if(pg f n).kind=1 then some (decide ((if wd=0 then dp else wd)=dp),if wd=0 then dp else wd,(n,true)::q)
  else kidsW (λp a b=>walkP f m p (dp+1) a b) hi lo true (pg f n).kids wd ((n,true)::q)
structure QOk(q:Met):Prop where
 nodup:(q.map Prod.fst).Nodup
 rng:∀x∈q.map Prod.fst,0≤x∧x<64
 tr:∀p∈q,p.2=true
theorem QOk.get{q:Met}(h:QOk q)(x:Int):mget false q x=decide (x∈q.map Prod.fst):=by
 rw[mget_any q h.tr,Bool.eq_iff_iff,List.any_eq_true,decide_eq_true_iff,List.mem_map]
 simp only[decide_eq_true_iff]
theorem QOk.cons{q:Met}(h:QOk q){x:Int}(hx:mget false q x=false)(hr:0≤x∧x<64):QOk ((x,true)::q):=by
 rw[h.get,decide_eq_false_iff_not] at hx
 refine⟨List.nodup_cons.2 ⟨hx,h.nodup⟩,λy hy=> ?_,λp hp=> ?_⟩
 ·rcases List.mem_cons.1 hy with rfl|hy
  ·exact hr
  ·exact h.rng y hy
 ·rcases List.mem_cons.1 hp with rfl|hp
  ·rfl
  ·exact h.tr p hp
theorem QOk.len{q:Met}(h:QOk q):q.length≤64:=by have:=nodup_len h.nodup h.rng;simpa using this
theorem QOk.nil:QOk []:=⟨List.nodup_nil,by simp,by simp⟩
theorem key_in{n:Int}(h:0≤n∧n<64):keyIn .i64 n=true:=by
 have e1:IntKind.i64.min= -9223372036854775808:=rfl
 have e2:IntKind.i64.max=9223372036854775807:=rfl
 exact keyIn_i64 ⟨by omega,by omega⟩
theorem mlook_q{q:Met}{n:Int}(h:0≤n∧n<64):mlook .i64 false q n=some (mget false q n):=by unfold mlook;rw[key_in h]
theorem mput_q{q:Met}(hq:QOk q){n:Int}(h:0≤n∧n<64):mput .i64 q n true=some ((n,true)::q):=by
 unfold mput;rw[key_in h,Nat.ble_eq_true_of_le (by have:=hq.len;omega)];rfl
theorem drop_get{α:Type}{l:List α}{i:Nat}{x:α}{t:List α}(h:l.drop i=x::t):l[i]? =some x∧l.drop (i+1)=t∧i<l.length:=by
 have hi:i<l.length:=by
  by_cases hi:i<l.length
  ·exact hi
  ·rw[List.drop_eq_nil_of_le (by omega)] at h;cases h
 rw[drop_cons hi] at h
 cases h
 exact⟨get_some hi,rfl,hi⟩
theorem drop_end{α:Type}{l:List α}{i:Nat}(h:l.drop i=[])(hi:i≤l.length):i=l.length:=by
 have:=List.drop_eq_nil_iff.1 h;omega
def AllOk(f:List Content):Prop:=f.length=64∧∀n,0≤n∧n<64→checkP (pg f n)=true
theorem kids_rng{f:List Content}(hf:AllOk f){n:Int}(hn:0≤n∧n<64):∀k∈(pg f n).kids,0≤k.page∧k.page<64:=λk hk=>by
 rcases(check_iff _).1 (hf.2 n hn) with h|⟨l,h,_⟩|⟨l,h,hl⟩
 ·rw[h] at hk;cases hk
 ·rw[h] at hk;cases hk
 ·rw[h] at hk;have:=hl.page k hk;omega
def InvW(F:Int→Key→Option Key→Int→Met→Option (Bool×Int×Met))(m:Nat):Prop:=∀p a b wd q,(0≤p∧p<64)→QOk q→(∀r,F p a b wd q=some r→QOk r.2.2∧q.length≤r.2.2.length)∧(65≤q.length+m→∃r,F p a b wd q=some r)
theorem kidsW_inv{F:Int→Key→Option Key→Int→Met→Option (Bool×Int×Met)}{m:Nat}(hF:InvW F m){hi:Option Key}{lo:Key}:∀(l:List Kid)(fst:Bool)(wd:Int)(q:Met),(∀k∈l,0≤k.page∧k.page<64)→QOk q→
  (∀r,kidsW F hi lo fst l wd q=some r→QOk r.2.2∧q.length≤r.2.2.length)∧(65≤q.length+m→∃r,kidsW F hi lo fst l wd q=some r)
 |[],fst,wd,q,_,hq=>⟨λr h=>by cases h;exact⟨hq,Nat.le_refl _⟩,λ_=>⟨_,rfl⟩⟩
 |k::t,fst,wd,q,hl,hq=>by
  obtain⟨h1,h2⟩:=hF k.page (if fst=true then lo else k.least) (nxt hi t) wd q (hl k (List.mem_cons_self ..)) hq
  have ht:∀x∈t,0≤x.page∧x.page<64:=λx hx=>hl x (List.mem_cons_of_mem _ hx)
  unfold kidsW
  split
  ·exact⟨λr h=>by cases h;exact⟨hq,Nat.le_refl _⟩,λ_=>⟨_,rfl⟩⟩
  ·cases hy:F k.page (if fst=true then lo else k.least) (nxt hi t) wd q with
   |none=>exact⟨λr h=>(by cases h),λh=>by obtain⟨r,hr⟩:=h2 h;rw[hr] at hy;cases hy⟩
   |some y=>
    obtain⟨y1,y2⟩:=h1 y hy
    obtain⟨i1,i2⟩:=kidsW_inv hF t false y.2.1 y.2.2 ht y1
    simp only[Option.bind_some]
    split
    ·exact⟨λr h=>by cases h;exact⟨y1,y2⟩,λ_=>⟨_,rfl⟩⟩
    ·exact⟨λr h=>⟨(i1 r h).1,Nat.le_trans y2 (i1 r h).2⟩,λh=>i2 (by omega)⟩
theorem walk_inv{f:List Content}(hf:AllOk f):∀(m:Nat)(dp:Int),InvW (λp a b=>walkP f m p dp a b) m
 |0,dp,p,a,b,wd,q,hp,hq=>⟨λr h=>(by cases h),λh=>by have:=hq.len;omega⟩
 |m+1,dp,p,a,b,wd,q,hp,hq=>by
  show(∀r,walkP f (m+1) p dp a b wd q=some r→_)∧(_→∃r,walkP f (m+1) p dp a b wd q=some r)
  unfold walkP
  split
  ·exact⟨λr h=>by cases h;exact⟨hq,Nat.le_refl _⟩,λ_=>⟨_,rfl⟩⟩
  ·rename_i hm
   have hq':=hq.cons (Bool.not_eq_true _▸hm) hp
   split
   ·exact⟨λr h=>by cases h;exact⟨hq',by simp⟩,λ_=>⟨_,rfl⟩⟩
   ·split
    ·exact⟨λr h=>by cases h;exact⟨hq',by simp⟩,λ_=>⟨_,rfl⟩⟩
    ·split
     ·exact⟨λr h=>by cases h;exact⟨hq',by simp⟩,λ_=>⟨_,rfl⟩⟩
     ·obtain⟨i1,i2⟩:=kidsW_inv (walk_inv hf m (dp+1)) (hi:=b) (lo:=a) (pg f p).kids true wd ((p,true)::q) (kids_rng hf hp) hq'
      exact⟨λr h=>⟨(i1 r h).1,Nat.le_trans (by simp) (i1 r h).2⟩,λh=>i2 (by simp only[List.length_cons];omega)⟩
theorem loopF_succ{T R:Type}{F:(T→Option R)→T→Option R}{m:Nat}{x:T}:loopF F (m+1) x=F (loopF F m) x:=rfl
theorem psize_eq(n:Nat)(hn:1003≤n){c:Content}(h:checkP c=true):page_Size n c=some (sizeP c:Int):=by
 rw[Size_eq n hn c (fine_check h),if_pos h]
theorem ieq0(x:Int):(x==0)=decide (x=0):=ibeq x 0
theorem ine0(x:Int):(x !=0)= !decide (x=0):=by rw[bne,ibeq]
theorem lt2(k:Nat):decide ((k:Int)<2)=decide (k<2):=decide_eq_decide.2 (by omega)
theorem l3S(f:List Content)(hf:AllOk f)(N m:Nat)(hN:m+1003≤N)(dp:Int)(hdp:0<dp∧dp+m+1≤1000)(lo:Key)(hi:Key)(c:Content)(hc:∀k∈c.kids,0≤k.page∧k.page<64)(hl:c.kids.length≤1000)
  (self:Int×Int×Key×Key×(List Content)×Int×(List (Int×Bool))×Unit→Option (Bool×(List Content)×Int×(List (Int×Bool))))
  (hs:∀p a b wd q r,(0≤p∧p<64)→QOk q→walkP f m p (dp+1) a (some b) wd q=some r→self (p,dp+1,a,b,f,wd,q,())=some (r.1,f,r.2.1,r.2.2)):
  ∀(k:Nat)(t:List Kid)(i:Nat)(wd:Int)(q:Met)(r:Bool×Int×Met),c.kids.drop i=t→i≤c.kids.length→t.length<k→QOk q→kidsW (λp a b=>walkP f m p (dp+1) a b) (some hi) lo (decide (i=0)) t wd q=some r→
  tree_walk_page_l3 N self k (dp,hi,c.kids,(c.kids.length:Int),(i:Int),f,wd,lo,c,q,())=some (r.1,f,r.2.1,r.2.2):=by
 intro k
 induction k with
 |zero=>intro t i wd q r _ _ h;omega
 |succ k ih=>
  intro t i wd q r ht hi' hk hq hr
  unfold tree_walk_page_l3
  simp only[loopF]
  cases t with
  |nil=>
   cases drop_end ht hi'
   simp only[ge_dec (Nat.lt_irrefl _),cond_false]
   cases hr;rfl
  |cons x t=>
   obtain⟨h1,h2,h3⟩:=drop_get ht
   simp only[lt_dec h3,cond_true,idx_nat,h1,Option.bind_some,jn]
   have hxm:x∈c.kids:=List.mem_of_getElem? h1
   have hstep:∀fr r,(if(!decide (i=0)&& !within x.least lo (some hi))=true then some (false,wd,q) else(walkP f m x.page (dp+1) (if(decide (i=0))=true then lo else x.least) (nxt (some hi) t) wd q).bind λy=>if y.1=false then some (false,y.2.1,y.2.2) else kidsW (λp a b=>walkP f m p (dp+1) a b) (some hi) lo false t y.2.1 y.2.2)=some r→fr=(if(decide (i=0))=true then lo else x.least)→(!decide (i=0)&& !within x.least lo (some hi))=false→
     tree_walk_page_j4 N self (tree_walk_page_l3 N self k) (dp,hi,(i:Int),hi,c.kids,(c.kids.length:Int),(i:Int),f,wd,lo,c,x,fr,q,())=some (r.1,f,r.2.1,r.2.2):=by
    intro fr r hr hfr hw
    rw[if_neg (by rw[hw];simp)] at hr
    cases hy:walkP f m x.page (dp+1) (if(decide (i=0))=true then lo else x.least) (nxt (some hi) t) wd q with
    |none=>rw[hy] at hr;cases hr
    |some y=>
     rw[hy] at hr
     simp only[Option.bind_some] at hr
     rw[←hfr] at hy
     have hq':=((walk_inv hf m (dp+1)) x.page fr (nxt (some hi) t) wd q (hc x hxm) hq).1 y hy
     unfold tree_walk_page_j4
     simp only[wrap_succ (show i<4611686018427387904 by omega),wrap_in (show-9223372036854775808≤dp+1∧dp+1≤9223372036854775807 by omega),idx_nat,jn]
     cases t with
     |nil=>
      have e:i+1=c.kids.length:=drop_end h2 (by omega)
      simp only[ge_dec (show ¬i+1<c.kids.length by omega),cond_false,tree_walk_page_j5,wrap_in (show-9223372036854775808≤dp+1∧dp+1≤9223372036854775807 by omega),wrap_succ (show i<4611686018427387904 by omega)]
      simp only[hs x.page fr hi wd q y (hc x hxm) hq hy,Option.bind_some]
      cases hb:y.1 with
      |false=>
       rw[hb] at hr;simp only[if_true] at hr;cases hr;rfl
      |true=>
       rw[hb] at hr;simp only[Bool.true_eq_false,if_false] at hr
       simp only[Bool.not_true,cond_false]
       exact ih _ (i+1) _ _ r h2 (by omega) (by simp only[List.length_cons] at hk⊢;omega) hq'.1 (by rw[decide_eq_false (by omega:¬i+1=0)];exact hr)
     |cons k2 t2=>
      obtain⟨g1,g2,g3⟩:=drop_get h2
      simp only[lt_dec g3,cond_true,g1,Option.bind_some,tree_walk_page_j5,wrap_in (show-9223372036854775808≤dp+1∧dp+1≤9223372036854775807 by omega),wrap_succ (show i<4611686018427387904 by omega)]
      simp only[hs x.page fr k2.least wd q y (hc x hxm) hq hy,Option.bind_some]
      cases hb:y.1 with
      |false=>
       rw[hb] at hr;simp only[if_true] at hr;cases hr;rfl
      |true=>
       rw[hb] at hr;simp only[Bool.true_eq_false,if_false] at hr
       simp only[Bool.not_true,cond_false]
       exact ih _ (i+1) _ _ r h2 (by omega) (by simp only[List.length_cons] at hk⊢;omega) hq'.1 (by rw[decide_eq_false (by omega:¬i+1=0)];exact hr)
   unfold kidsW at hr
   by_cases h0:i=0
   ·subst h0
    rw[decide_eq_false (show ¬((0:Nat):Int)>0 by omega),cond_false]
    exact hstep lo r hr (by simp) (by simp)
   ·rw[decide_eq_true (show((i:Nat):Int)>0 by omega),cond_true,within_some N (by omega)]
    simp only[Option.bind_some]
    cases hw:within x.least lo (some hi) with
    |false=>
     rw[hw,decide_eq_false h0] at hr
     simp only[Bool.not_false,Bool.and_self,if_true] at hr
     cases hr;rfl
    |true=>
     simp only[Bool.not_true,cond_false]
     exact hstep x.least r hr (by simp[h0]) (by simp[hw])
theorem l1S(f:List Content)(N:Nat)(hN:1003≤N)(dp:Int)(lo:Key)(hi:Key)(c:Content)(hl:c.rows.length≤1000)(wd:Int)(q:Met)
  (self:Int×Int×Key×Key×(List Content)×Int×(List (Int×Bool))×Unit→Option (Bool×(List Content)×Int×(List (Int×Bool)))):
  ∀(k:Nat)(t:List Row)(i:Nat),c.rows.drop i=t→i≤c.rows.length→t.length<k→
  tree_walk_page_l1 N self k (dp,hi,c.rows,(c.rows.length:Int),(i:Int),f,wd,lo,c,q,())=if(t.all λr=>within r.key lo (some hi))=false then some (false,f,wd,q) else
   if c.kind=1 then some (decide ((if wd=0 then dp else wd)=dp),f,(if wd=0 then dp else wd),q) else tree_walk_page_l3 N self N (dp,hi,c.kids,(c.kids.length:Int),0,f,wd,lo,c,q,()):=by
 intro k
 induction k with
 |zero=>intro t i _ _ h;omega
 |succ k ih=>
  intro t i ht hi' hk
  unfold tree_walk_page_l1
  rw[loopF_succ]
  generalize hr:loopF _ k=r1
  replace hr:tree_walk_page_l1 N self k=r1:=hr
  simp only[hr] at ih
  cases t with
  |nil=>
   cases drop_end ht hi'
   simp only[ge_dec (Nat.lt_irrefl _),cond_false,List.all_nil,Bool.true_eq_false,if_false,ibeq,jn,tree_walk_page_j2]
   by_cases h1:c.kind=1
   ·rw[if_pos h1,decide_eq_true h1,cond_true]
    by_cases h0:wd=0
    ·rw[if_pos h0,decide_eq_true h0];simp
    ·rw[if_neg h0,decide_eq_false h0];simp
   ·rw[if_neg h1,decide_eq_false h1,cond_false]
  |cons x t=>
   obtain⟨h1,h2,h3⟩:=drop_get ht
   simp only[lt_dec h3,cond_true,idx_nat,h1,Option.bind_some,within_some N (by omega),List.all_cons]
   by_cases hw:within x.key lo (some hi)=true
   case neg=>rw[Bool.not_eq_true] at hw;simp[hw]
   case pos=>
    simp only[hw,Bool.not_true,cond_false,wrap_succ (show i<4611686018427387904 by omega),Bool.true_and]
    exact ih t (i+1) h2 (by omega) (by simp only[List.length_cons] at hk;omega)
theorem walkS{f:List Content}(hf:AllOk f):∀(m N:Nat),m+1003≤N→∀(p dp:Int)(lo:Key)(hi:Key)(wd:Int)(q:Met)(r:Bool×Int×Met),(0≤p∧p<64)→QOk q→0<dp∧dp+m≤1000→walkP f m p dp lo (some hi) wd q=some r→
  tree_walk_page N p dp lo hi f wd q=some (r.1,f,r.2.1,r.2.2)
 |0,_,_,_,_,_,_,_,_,_,_,_,_,h=>by cases h
 |m+1,0,h,_,_,_,_,_,_,_,_,_,_,_=>by omega
 |m+1,N+1,hN,p,dp,lo,hi,wd,q,r,hp,hq,hdp,hr=>by
  have hcp:=hf.2 p hp
  have hfc:=fine_check hcp
  show tree_walk_page_b N (recF _ N) p dp lo hi f wd q=_
  unfold tree_walk_page_b
  unfold walkP at hr
  rw[mlook_q hp]
  simp only[Option.bind_some]
  split at hr
  ·rename_i hm
   rw[hm,cond_true];cases hr;rfl
  ·rename_i hm
   have hm':mget false q p=false:=by simpa using hm
   rw[hm',cond_false,mput_q hq hp]
   have hq':=hq.cons hm' hp
   have hi64:idx f p=some (pg f p):=idx_pg ⟨hp.1,by rw[hf.1];exact hp.2⟩
   simp only[Option.bind_some,hi64,jn,ieq0,ine0,psize_eq N (by omega) hcp,lt2]
   have hrun:(if((pg f p).rows.all λr=>within r.key lo (some hi))=false then some (false,wd,(p,true)::q) else if(pg f p).kind=1 then some (decide ((if wd=0 then dp else wd)=dp),if wd=0 then dp else wd,(p,true)::q) else kidsW (λp a b=>walkP f m p (dp+1) a b) (some hi) lo true (pg f p).kids wd ((p,true)::q))=some r→
     tree_walk_page_l1 N (recF (λn self x=>tree_walk_page_b n self x.1 x.2.1 x.2.2.1 x.2.2.2.1 x.2.2.2.2.1 x.2.2.2.2.2.1 x.2.2.2.2.2.2.1) N) N (dp,hi,(pg f p).rows,((pg f p).rows.length:Int),0,f,wd,lo,pg f p,(p,true)::q,())=some (r.1,f,r.2.1,r.2.2):=by
    intro hr
    refine(l1S f N (by omega) dp lo hi (pg f p) hfc.rows wd ((p,true)::q) (recF (λn self x=>tree_walk_page_b n self x.1 x.2.1 x.2.2.1 x.2.2.2.1 x.2.2.2.2.1 x.2.2.2.2.2.1 x.2.2.2.2.2.2.1) N) N (pg f p).rows 0 rfl (Nat.zero_le _) (by have:=hfc.rows;omega)).trans ?_
    split at hr
    ·rename_i hw;rw[if_pos hw];cases hr;rfl
    ·rename_i hw
     rw[if_neg hw]
     split at hr
     ·rename_i h1;rw[if_pos h1];cases hr;rfl
     ·rename_i h1
      rw[if_neg h1]
      exact l3S f hf N m (by omega) dp (by omega) lo hi (pg f p) (kids_rng hf hp) hfc.kids (recF (λn self x=>tree_walk_page_b n self x.1 x.2.1 x.2.2.1 x.2.2.2.1 x.2.2.2.2.1 x.2.2.2.2.2.1 x.2.2.2.2.2.2.1) N) (λp' a b wd' q' r' hp' hq' h'=>walkS hf m N (by omega) p' (dp+1) a b wd' q' r' hp' hq' (by omega) h') N (pg f p).kids 0 wd ((p,true)::q) r rfl (Nat.zero_le _) (by have:=hfc.kids;omega) hq' hr
   split at hr
   ·rename_i hk
    cases hr
    rcases hk with hk|⟨hk1,hk2⟩
    ·rw[decide_eq_true hk];rfl
    ·rw[decide_eq_false hk1,decide_eq_true hk2]
     cases decide ((pg f p).kind=0)<;>rfl
   ·rename_i hk
    rw[decide_eq_false (λe=>hk (Or.inl e)),cond_false]
    by_cases h0:p=0
    ·rw[decide_eq_true h0]
     exact hrun hr
    ·rw[decide_eq_false h0,decide_eq_false (λe=>hk (Or.inr ⟨h0,e⟩))]
     exact hrun hr
theorem l3N(f:List Content)(hf:AllOk f)(N m:Nat)(hN:m+1003≤N)(dp:Int)(hdp:0<dp∧dp+m+1≤1000)(lo:Key)(c:Content)(hc:∀k∈c.kids,0≤k.page∧k.page<64)(hl:c.kids.length≤1000)
  (self:Int×Int×Key×(List Content)×Int×(List (Int×Bool))×Unit→Option (Bool×(List Content)×Int×(List (Int×Bool))))
  (hs:∀p a wd q r,(0≤p∧p<64)→QOk q→walkP f m p (dp+1) a none wd q=some r→self (p,dp+1,a,f,wd,q,())=some (r.1,f,r.2.1,r.2.2)):
  ∀(k:Nat)(t:List Kid)(i:Nat)(wd:Int)(q:Met)(r:Bool×Int×Met),c.kids.drop i=t→i≤c.kids.length→t.length<k→QOk q→kidsW (λp a b=>walkP f m p (dp+1) a b) none lo (decide (i=0)) t wd q=some r→
  tree_walk_page_fnil_l3 N self k (dp,c.kids,(c.kids.length:Int),(i:Int),f,wd,lo,c,q,())=some (r.1,f,r.2.1,r.2.2):=by
 intro k
 induction k with
 |zero=>intro t i wd q r _ _ h;omega
 |succ k ih=>
  intro t i wd q r ht hi' hk hq hr
  unfold tree_walk_page_fnil_l3
  simp only[loopF]
  cases t with
  |nil=>
   cases drop_end ht hi'
   simp only[ge_dec (Nat.lt_irrefl _),cond_false]
   cases hr;rfl
  |cons x t=>
   obtain⟨h1,h2,h3⟩:=drop_get ht
   simp only[lt_dec h3,cond_true,idx_nat,h1,Option.bind_some,jn]
   have hxm:x∈c.kids:=List.mem_of_getElem? h1
   have hstep:∀fr r,(if(!decide (i=0)&& !within x.least lo none)=true then some (false,wd,q) else(walkP f m x.page (dp+1) (if(decide (i=0))=true then lo else x.least) (nxt none t) wd q).bind λy=>if y.1=false then some (false,y.2.1,y.2.2) else kidsW (λp a b=>walkP f m p (dp+1) a b) none lo false t y.2.1 y.2.2)=some r→fr=(if(decide (i=0))=true then lo else x.least)→(!decide (i=0)&& !within x.least lo none)=false→
     tree_walk_page_fnil_j4 N self (tree_walk_page_fnil_l3 N self k) (dp,(i:Int),c.kids,(c.kids.length:Int),(i:Int),f,wd,lo,c,x,fr,q,())=some (r.1,f,r.2.1,r.2.2):=by
    intro fr r hr hfr hw
    rw[if_neg (by rw[hw];simp)] at hr
    cases hy:walkP f m x.page (dp+1) (if(decide (i=0))=true then lo else x.least) (nxt none t) wd q with
    |none=>rw[hy] at hr;cases hr
    |some y=>
     rw[hy] at hr
     simp only[Option.bind_some] at hr
     rw[←hfr] at hy
     have hq':=((walk_inv hf m (dp+1)) x.page fr (nxt none t) wd q (hc x hxm) hq).1 y hy
     unfold tree_walk_page_fnil_j4
     simp only[wrap_succ (show i<4611686018427387904 by omega),wrap_in (show-9223372036854775808≤dp+1∧dp+1≤9223372036854775807 by omega),idx_nat,jn]
     cases t with
     |nil=>
      have e:i+1=c.kids.length:=drop_end h2 (by omega)
      simp only[ge_dec (show ¬i+1<c.kids.length by omega),cond_false]
      simp only[hs x.page fr wd q y (hc x hxm) hq hy,Option.bind_some]
      cases hb:y.1 with
      |false=>
       rw[hb] at hr;simp only[if_true] at hr;cases hr;rfl
      |true=>
       rw[hb] at hr;simp only[Bool.true_eq_false,if_false] at hr
       simp only[Bool.not_true,cond_false]
       exact ih _ (i+1) _ _ r h2 (by omega) (by simp only[List.length_cons] at hk⊢;omega) hq'.1 (by rw[decide_eq_false (by omega:¬i+1=0)];exact hr)
     |cons k2 t2=>
      obtain⟨g1,g2,g3⟩:=drop_get h2
      simp only[lt_dec g3,cond_true,g1,Option.bind_some]
      simp only[walkS hf m N (by omega) x.page (dp+1) fr k2.least wd q y (hc x hxm) hq (by omega) hy,Option.bind_some]
      cases hb:y.1 with
      |false=>
       rw[hb] at hr;simp only[if_true] at hr;cases hr;rfl
      |true=>
       rw[hb] at hr;simp only[Bool.true_eq_false,if_false] at hr
       simp only[Bool.not_true,cond_false]
       exact ih _ (i+1) _ _ r h2 (by omega) (by simp only[List.length_cons] at hk⊢;omega) hq'.1 (by rw[decide_eq_false (by omega:¬i+1=0)];exact hr)
   unfold kidsW at hr
   by_cases h0:i=0
   ·subst h0
    rw[decide_eq_false (show ¬((0:Nat):Int)>0 by omega),cond_false]
    exact hstep lo r hr (by simp) (by simp)
   ·rw[decide_eq_true (show((i:Nat):Int)>0 by omega),cond_true,within_nil N (by omega)]
    simp only[Option.bind_some]
    cases hw:within x.least lo none with
    |false=>
     rw[hw,decide_eq_false h0] at hr
     simp only[Bool.not_false,Bool.and_self,if_true] at hr
     cases hr;rfl
    |true=>
     simp only[Bool.not_true,cond_false]
     exact hstep x.least r hr (by simp[h0]) (by simp[hw])
theorem l1N(f:List Content)(N:Nat)(hN:1003≤N)(dp:Int)(lo:Key)(c:Content)(hl:c.rows.length≤1000)(wd:Int)(q:Met)
  (self:Int×Int×Key×(List Content)×Int×(List (Int×Bool))×Unit→Option (Bool×(List Content)×Int×(List (Int×Bool)))):
  ∀(k:Nat)(t:List Row)(i:Nat),c.rows.drop i=t→i≤c.rows.length→t.length<k→
  tree_walk_page_fnil_l1 N self k (dp,c.rows,(c.rows.length:Int),(i:Int),f,wd,lo,c,q,())=if(t.all λr=>within r.key lo none)=false then some (false,f,wd,q) else
   if c.kind=1 then some (decide ((if wd=0 then dp else wd)=dp),f,(if wd=0 then dp else wd),q) else tree_walk_page_fnil_l3 N self N (dp,c.kids,(c.kids.length:Int),0,f,wd,lo,c,q,()):=by
 intro k
 induction k with
 |zero=>intro t i _ _ h;omega
 |succ k ih=>
  intro t i ht hi' hk
  unfold tree_walk_page_fnil_l1
  rw[loopF_succ]
  generalize hr:loopF _ k=r1
  replace hr:tree_walk_page_fnil_l1 N self k=r1:=hr
  simp only[hr] at ih
  cases t with
  |nil=>
   cases drop_end ht hi'
   simp only[ge_dec (Nat.lt_irrefl _),cond_false,List.all_nil,Bool.true_eq_false,if_false,ibeq,jn,tree_walk_page_fnil_j2]
   by_cases h1:c.kind=1
   ·rw[if_pos h1,decide_eq_true h1,cond_true]
    by_cases h0:wd=0
    ·rw[if_pos h0,decide_eq_true h0];simp
    ·rw[if_neg h0,decide_eq_false h0];simp
   ·rw[if_neg h1,decide_eq_false h1,cond_false]
  |cons x t=>
   obtain⟨h1,h2,h3⟩:=drop_get ht
   simp only[lt_dec h3,cond_true,idx_nat,h1,Option.bind_some,within_nil N (by omega),List.all_cons]
   by_cases hw:within x.key lo none=true
   case neg=>rw[Bool.not_eq_true] at hw;simp[hw]
   case pos=>
    simp only[hw,Bool.not_true,cond_false,wrap_succ (show i<4611686018427387904 by omega),Bool.true_and]
    exact ih t (i+1) h2 (by omega) (by simp only[List.length_cons] at hk;omega)
theorem walkN{f:List Content}(hf:AllOk f):∀(m N:Nat),m+1003≤N→∀(p dp:Int)(lo:Key)(wd:Int)(q:Met)(r:Bool×Int×Met),(0≤p∧p<64)→QOk q→0<dp∧dp+m≤1000→walkP f m p dp lo none wd q=some r→
  tree_walk_page_fnil N p dp lo f wd q=some (r.1,f,r.2.1,r.2.2)
 |0,_,_,_,_,_,_,_,_,_,_,_,h=>by cases h
 |m+1,0,h,_,_,_,_,_,_,_,_,_,_=>by omega
 |m+1,N+1,hN,p,dp,lo,wd,q,r,hp,hq,hdp,hr=>by
  have hcp:=hf.2 p hp
  have hfc:=fine_check hcp
  show tree_walk_page_fnil_b N (recF _ N) p dp lo f wd q=_
  unfold tree_walk_page_fnil_b
  unfold walkP at hr
  rw[mlook_q hp]
  simp only[Option.bind_some]
  split at hr
  ·rename_i hm
   rw[hm,cond_true];cases hr;rfl
  ·rename_i hm
   have hm':mget false q p=false:=by simpa using hm
   rw[hm',cond_false,mput_q hq hp]
   have hq':=hq.cons hm' hp
   have hi64:idx f p=some (pg f p):=idx_pg ⟨hp.1,by rw[hf.1];exact hp.2⟩
   simp only[Option.bind_some,hi64,jn,ieq0,ine0,psize_eq N (by omega) hcp,lt2]
   have hrun:(if((pg f p).rows.all λr=>within r.key lo none)=false then some (false,wd,(p,true)::q) else if(pg f p).kind=1 then some (decide ((if wd=0 then dp else wd)=dp),if wd=0 then dp else wd,(p,true)::q) else kidsW (λp a b=>walkP f m p (dp+1) a b) none lo true (pg f p).kids wd ((p,true)::q))=some r→
     tree_walk_page_fnil_l1 N (recF (λn self x=>tree_walk_page_fnil_b n self x.1 x.2.1 x.2.2.1 x.2.2.2.1 x.2.2.2.2.1 x.2.2.2.2.2.1) N) N (dp,(pg f p).rows,((pg f p).rows.length:Int),0,f,wd,lo,pg f p,(p,true)::q,())=some (r.1,f,r.2.1,r.2.2):=by
    intro hr
    refine(l1N f N (by omega) dp lo (pg f p) hfc.rows wd ((p,true)::q) (recF (λn self x=>tree_walk_page_fnil_b n self x.1 x.2.1 x.2.2.1 x.2.2.2.1 x.2.2.2.2.1 x.2.2.2.2.2.1) N) N (pg f p).rows 0 rfl (Nat.zero_le _) (by have:=hfc.rows;omega)).trans ?_
    split at hr
    ·rename_i hw;rw[if_pos hw];cases hr;rfl
    ·rename_i hw
     rw[if_neg hw]
     split at hr
     ·rename_i h1;rw[if_pos h1];cases hr;rfl
     ·rename_i h1
      rw[if_neg h1]
      exact l3N f hf N m (by omega) dp (by omega) lo (pg f p) (kids_rng hf hp) hfc.kids (recF (λn self x=>tree_walk_page_fnil_b n self x.1 x.2.1 x.2.2.1 x.2.2.2.1 x.2.2.2.2.1 x.2.2.2.2.2.1) N) (λp' a wd' q' r' hp' hq' h'=>walkN hf m N (by omega) p' (dp+1) a wd' q' r' hp' hq' (by omega) h') N (pg f p).kids 0 wd ((p,true)::q) r rfl (Nat.zero_le _) (by have:=hfc.kids;omega) hq' hr
   split at hr
   ·rename_i hk
    cases hr
    rcases hk with hk|⟨hk1,hk2⟩
    ·rw[decide_eq_true hk];rfl
    ·rw[decide_eq_false hk1,decide_eq_true hk2]
     cases decide ((pg f p).kind=0)<;>rfl
   ·rename_i hk
    rw[decide_eq_false (λe=>hk (Or.inl e)),cond_false]
    by_cases h0:p=0
    ·rw[decide_eq_true h0]
     exact hrun hr
    ·rw[decide_eq_false h0,decide_eq_false (λe=>hk (Or.inr ⟨h0,e⟩))]
     exact hrun hr
end Go.Proofs.YtlcmdgpjiendmaaGreat
namespace Go.Proofs.YtlcmdgpjiendmaaGreat
open Go.Bur
set_option linter.unusedSimpArgs false
set_option linter.unusedVariables false
set_option maxRecDepth 100000
def marks(l:List Int)(q:Met):Met:=(l.map λx=>(x,true)).reverse++q
theorem marks_nil{q:Met}:marks [] q=q:=rfl
theorem marks_cons{x:Int}{l:List Int}{q:Met}:marks (x::l) q=marks l ((x,true)::q):=by simp[marks]
theorem marks_app{a b:List Int}{q:Met}:marks (a++b) q=marks b (marks a q):=by simp[marks]
theorem marks_fst{l:List Int}{q:Met}:(marks l q).map Prod.fst=l.reverse++q.map Prod.fst:=by
 simp[marks,List.map_reverse,Function.comp_def]
theorem mget_marks{l:List Int}{q:Met}{x:Int}(hq:∀p∈q,p.2=true):mget false (marks l q) x=(decide (x∈l)||mget false q x):=by
 induction l generalizing q with
 |nil=>simp[marks_nil]
 |cons y l ih=>
  rw[marks_cons,ih (λp hp=>by rcases List.mem_cons.1 hp with rfl|hp;rfl;exact hq p hp),mget_cons]
  by_cases h1:x=y
  ·subst h1;simp
  ·have:¬y=x:=λe=>h1 e.symm
   simp[h1,this]
def SoundW(f:List Content)(F:Int→Key→Option Key→Int→Met→Option (Bool×Int×Met))(dp:Int):Prop:=
 ∀p a b wd q w q',(0≤p∧p<64)→QOk q→F p a b wd q=some (true,w,q')→∃d:Nat,1≤d∧sub f d p a b∧w=dp+d-1∧(wd=0∨wd=w)∧q'=marks (pgs f d p) q
theorem kidsW_sound{f:List Content}{F:Int→Key→Option Key→Int→Met→Option (Bool×Int×Met)}{dp:Int}(hdp:0<dp){m:Nat}(hI:InvW F m)(hF:SoundW f F dp){hi:Option Key}{lo:Key}:
  ∀(l:List Kid)(fst:Bool)(wd:Int)(q:Met)(w:Int)(q':Met)(k:Kid)(t:List Kid),l=k::t→(∀x∈l,0≤x.page∧x.page<64)→QOk q→kidsW F hi lo fst l wd q=some (true,w,q')→
  ∃d:Nat,1≤d∧w=dp+d-1∧(wd=0∨wd=w)∧kidsOk (sub f d) hi (if fst=true then lo else k.least) l∧(fst=false→within k.least lo hi=true)∧(∀x∈t,within x.least lo hi=true)∧q'=marks (l.flatMap λk=>pgs f d k.page) q
 |[],_,_,_,_,_,k,t,e,_,_,_=>by cases e
 |k0::t0,fst,wd,q,w,q',k,t,e,hl,hq,h=>by
  obtain⟨rfl,rfl⟩:=List.cons.inj e.symm;clear e
  have hk:=hl k (List.mem_cons_self ..)
  unfold kidsW at h
  split at h
  ·cases h
  ·rename_i hw
   cases hy:F k.page (if fst=true then lo else k.least) (nxt hi t) wd q with
   |none=>rw[hy] at h;cases h
   |some y=>
    rw[hy] at h
    simp only[Option.bind_some] at h
    obtain⟨b,w1,q1⟩:=y
    cases b with
    |false=>simp only[if_true] at h;cases h
    |true=>
     simp only[Bool.true_eq_false,if_false] at h
     have hq1:=((hI k.page _ _ wd q hk hq).1 _ hy).1
     obtain⟨d,d1,d2,d3,d4,d5⟩:=hF k.page _ _ wd q w1 q1 hk hq hy
     have hw':fst=false→within k.least lo hi=true:=λe=>by
      subst e
      cases hh:within k.least lo hi with
      |true=>rfl
      |false=>rw[hh] at hw;simp at hw
     cases t with
     |nil=>
      unfold kidsW at h
      cases h
      refine⟨d,d1,d3,d4, ?_,hw',by simp, ?_⟩
      ·exact d2
      ·rw[List.flatMap_cons,List.flatMap_nil,List.append_nil];exact d5
     |cons k2 t2=>
      obtain⟨d',e1,e2,e3,e4,e5,e6,e7⟩:=kidsW_sound hdp hI hF (k2::t2) false w1 q1 w q' k2 t2 rfl (λx hx=>hl x (List.mem_cons_of_mem _ hx)) hq1 h
      have hww:w1=w:=by rcases e3 with e3|e3;omega;exact e3
      obtain rfl:d=d':=by omega
      refine⟨d,d1,e2,hww▸d4,⟨d2,e4⟩,hw',λx hx=> ?_, ?_⟩
      ·rcases List.mem_cons.1 hx with rfl|hx
       ·exact e5 rfl
       ·exact e6 x hx
      ·rw[List.flatMap_cons,marks_app,←d5];exact e7
theorem walk_sound{f:List Content}(hf:AllOk f):∀(m:Nat)(dp:Int),0<dp→SoundW f (λp a b=>walkP f m p dp a b) dp
 |0,dp,hdp,p,a,b,wd,q,w,q',hp,hq,h=>by cases h
 |m+1,dp,hdp,p,a,b,wd,q,w,q',hp,hq,h=>by
  replace h:walkP f (m+1) p dp a b wd q=some (true,w,q'):=h
  unfold walkP at h
  split at h
  ·cases h
  ·rename_i hm
   have hm':mget false q p=false:=by simpa using hm
   split at h
   ·cases h
   ·rename_i hk
    split at h
    ·cases h
    ·rename_i hr
     have hsz:p≠0→2≤sizeP (pg f p):=λe=>by
      by_cases hs:sizeP (pg f p)<2
      ·exact absurd (Or.inr ⟨e,hs⟩) hk
      ·omega
     have hrows:∀r∈(pg f p).rows,within r.key a b=true:=by
      have:((pg f p).rows.all λr=>within r.key a b)=true:=by simpa using hr
      exact List.all_eq_true.1 this
     split at h
     ·rename_i h1
      rcases(check_iff _).1 (hf.2 p hp) with e|⟨l,e,hl⟩|⟨l,e,hl⟩
      ·rw[e] at h1;cases h1
      ·injection h with h;injection h with h2 h3;injection h3 with h3 h4
       have h2':(if wd=0 then dp else wd)=dp:=of_decide_eq_true h2
       refine⟨1,Nat.le_refl _,⟨hp,hsz,l,e,hl,by rw[e] at hrows;exact hrows⟩,by omega, ?_, ?_⟩
       ·by_cases h0:wd=0
        ·exact Or.inl h0
        ·rw[if_neg h0] at h3;exact Or.inr h3
       ·rw[pgs,e];exact h4.symm
      ·rw[e] at h1;cases h1
     ·rename_i h1
      rcases(check_iff _).1 (hf.2 p hp) with e|⟨l,e,hl⟩|⟨l,e,hl⟩
      ·rw[e] at hk;exact absurd (Or.inl rfl) hk
      ·rw[e] at h1;exact absurd rfl h1
      ·have hq':=hq.cons hm' hp
       obtain⟨k,t,el⟩:∃k t,l=k::t:=by
        match l,hl.two with
        |k::t,_=>exact⟨k,t,rfl⟩
       have hkids:(pg f p).kids=k::t:=by rw[e];exact el
       obtain⟨d,d1,d2,d3,d4,d5,d6,d7⟩:=kidsW_sound (by omega) (walk_inv hf m (dp+1)) (walk_sound hf m (dp+1) (by omega)) (pg f p).kids true wd ((p,true)::q) w q' k t hkids (kids_rng hf hp) hq' h
       obtain⟨d0,rfl⟩:∃d0,d=d0+1:=⟨d-1,by omega⟩
       refine⟨d0+2,by omega,⟨hp,hsz,l,e,hl, ?_, ?_⟩,by omega,d3, ?_⟩
       ·rw[el];exact d6
       ·rw[hkids,←el] at d4;exact d4
       ·rw[pgs,marks_cons];exact d7
def FullW(f:List Content)(d:Nat)(F:Int→Key→Option Key→Int→Met→Option (Bool×Int×Met))(dp:Int):Prop:=
 ∀p a b wd q,sub f d p a b→(pgs f d p).Nodup→(∀x∈pgs f d p,mget false q x=false)→(∀z∈q,z.2=true)→(wd=0∨wd=dp+d-1)→F p a b wd q=some (true,dp+d-1,marks (pgs f d p) q)
theorem marks_tr{l:List Int}{q:Met}(h:∀z∈q,z.2=true):∀z∈marks l q,z.2=true:=λz hz=>by
 rcases List.mem_append.1 hz with hz|hz
 ·obtain⟨x,_,rfl⟩:=List.mem_map.1 (List.mem_reverse.1 hz);rfl
 ·exact h z hz
theorem kidsW_full{f:List Content}{d:Nat}{F:Int→Key→Option Key→Int→Met→Option (Bool×Int×Met)}{dp:Int}(hF:FullW f d F dp){hi:Option Key}{lo:Key}:
  ∀(l:List Kid)(fst:Bool)(wd:Int)(q:Met)(k:Kid)(t:List Kid),l=k::t→kidsOk (sub f d) hi (if fst=true then lo else k.least) l→(fst=false→within k.least lo hi=true)→(∀x∈t,within x.least lo hi=true)→
  (l.flatMap λk=>pgs f d k.page).Nodup→(∀x∈l.flatMap λk=>pgs f d k.page,mget false q x=false)→(∀z∈q,z.2=true)→(wd=0∨wd=dp+d-1)→kidsW F hi lo fst l wd q=some (true,dp+d-1,marks (l.flatMap λk=>pgs f d k.page) q)
 |[],_,_,_,k,t,e,_,_,_,_,_,_,_=>by cases e
 |k0::t0,fst,wd,q,k,t,e,h1,h2,h3,h4,h5,h6,h7=>by
  obtain⟨rfl,rfl⟩:=List.cons.inj e.symm;clear e
  rw[List.flatMap_cons] at h4 h5
  obtain⟨n1,n2,n3⟩:=List.nodup_append.1 h4
  obtain⟨k1,k2⟩:=kidsOk_cons.1 h1
  have hy:=hF k.page _ _ wd q k1 n1 (λx hx=>h5 x (List.mem_append_left _ hx)) h6 h7
  unfold kidsW
  rw[if_neg (by cases fst with|true=>simp|false=>simp[h2 rfl]),hy]
  simp only[Option.bind_some,Bool.true_eq_false,if_false]
  cases t with
  |nil=>unfold kidsW;rw[List.flatMap_cons,List.flatMap_nil,List.append_nil]
  |cons k' t'=>
   have ih:=kidsW_full hF (k'::t') false (dp+d-1) (marks (pgs f d k.page) q) k' t' rfl (k2 _ _ rfl) (λ_=>h3 k' (List.mem_cons_self ..)) (λx hx=>h3 x (List.mem_cons_of_mem _ hx)) n2 (λx hx=>by
    rw[mget_marks h6,h5 x (List.mem_append_right _ hx),Bool.or_false,decide_eq_false_iff_not]
    exact λhm=>n3 x hm x hx rfl) (marks_tr h6) (Or.inr rfl)
   rw[ih,List.flatMap_cons (x:=k),marks_app]
theorem walk_full{f:List Content}:∀(d m:Nat)(dp:Int),d≤m→0<dp→FullW f d (λp a b=>walkP f m p dp a b) dp
 |0,_,_,_,_,_,_,_,_,_,h,_,_,_,_=>h.elim
 |d+1,0,_,h,_,_,_,_,_,_,_,_,_,_,_=>by omega
 |1,m+1,dp,hm,hdp,p,a,b,wd,q,h,h1,h2,h3,h4=>by
  obtain⟨g1,g2,l,g3,g4,g5⟩:=h
  show walkP f (m+1) p dp a b wd q=_
  have hp0:=h2 p pgs_self
  have hpg:pgs f 1 p=[p]:=by rw[pgs,g3];rfl
  have hnk:¬((pg f p).kind=0∨(p≠0∧sizeP (pg f p)<2)):=by
   rintro(h|⟨h,h'⟩)
   ·rw[g3] at h;cases h
   ·have:=g2 h;omega
  have hrows:¬((pg f p).rows.all λr=>within r.key a b)=false:=by
   rw[Bool.not_eq_false,List.all_eq_true,g3];exact g5
  have hk1:(pg f p).kind=1:=by rw[g3]
  have hw:(if wd=0 then dp else wd)=dp:=by
   by_cases h0:wd=0
   ·rw[if_pos h0]
   ·rw[if_neg h0];rcases h4 with h4|h4<;>omega
  unfold walkP
  rw[if_neg (by rw[hp0];simp),if_neg hnk,if_neg hrows,if_pos hk1,hw,hpg,marks_cons,marks_nil]
  simp only[decide_true,Option.some.injEq,Prod.mk.injEq,and_true,true_and]
  omega
 |d+2,m+1,dp,hm,hdp,p,a,b,wd,q,h,h1,h2,h3,h4=>by
  obtain⟨g1,g2,l,g3,g4,g5,g6⟩:=h
  show walkP f (m+1) p dp a b wd q=_
  have hp0:=h2 p pgs_self
  have hpg:pgs f (d+2) p=p::l.flatMap λk=>pgs f (d+1) k.page:=by rw[pgs,g3]
  rw[hpg] at h1 h2
  have hnk:¬((pg f p).kind=0∨(p≠0∧sizeP (pg f p)<2)):=by
   rintro(h|⟨h,h'⟩)
   ·rw[g3] at h;cases h
   ·have:=g2 h;omega
  have hrows:¬((pg f p).rows.all λr=>within r.key a b)=false:=by
   rw[Bool.not_eq_false,List.all_eq_true,g3];simp
  have hk1:¬(pg f p).kind=1:=by rw[g3];simp
  have hkids:(pg f p).kids=l:=by rw[g3]
  obtain⟨n1,n2⟩:=List.nodup_cons.1 h1
  obtain⟨k,t,el⟩:∃k t,l=k::t:=by
   match l,g4.two with
   |k::t,_=>exact⟨k,t,rfl⟩
  have ih:=walk_full (f:=f) (d+1) m (dp+1) (by omega) (by omega)
  have hx:=kidsW_full (f:=f) (d:=d+1) ih (hi:=b) (lo:=a) l true wd ((p,true)::q) k t el (by simpa using g6) (λe=>by cases e) (λx hx=>g5 x (by rw[el];exact hx)) n2 (λx hx=>by
   rw[mget_cons,h2 x (List.mem_cons_of_mem _ hx),Bool.or_false,decide_eq_false_iff_not]
   rintro rfl;exact n1 hx) (λz hz=>by rcases List.mem_cons.1 hz with rfl|hz;rfl;exact h3 z hz) (by rcases h4 with h4|h4;exact Or.inl h4;right;omega)
  unfold walkP
  rw[if_neg (by rw[hp0];simp),if_neg hnk,if_neg hrows,if_neg hk1,hkids,hpg,marks_cons]
  refine hx.trans ?_
  simp only[Option.some.injEq,Prod.mk.injEq,and_true,true_and]
  omega
end Go.Proofs.YtlcmdgpjiendmaaGreat
namespace Go.Proofs.YtlcmdgpjiendmaaGreat
open Go.Bur
set_option linter.unusedSimpArgs false
set_option linter.unusedVariables false
set_option maxRecDepth 100000
theorem pg_nat{f:List Content}{i:Nat}{c:Content}(h:f[i]? =some c):pg f (i:Int)=c:=by unfold pg;rw[idx_nat,h];rfl
theorem pg_mem{f:List Content}{n:Int}(h:0≤n∧n<f.length):pg f n∈f:=(idx_some (idx_pg h)).2.2
theorem mem_pg{f:List Content}{c:Content}(h:c∈f):∃n:Int,(0≤n∧n<f.length)∧pg f n=c:=by
 obtain⟨i,hi,e⟩:=List.mem_iff_getElem.1 h
 exact⟨(i:Int),⟨by omega,by omega⟩,pg_nat (by rw[get_some hi,e])⟩
theorem bad_run(n:Nat)(hn:1003≤n)(f:List Content)(hl:f.length≤1000)(hc:∀c∈f,Fine c):slices_ContainsFunc_Content_f78 n f=some (f.any λc=> !checkP c):=by
 have key:∀(k:Nat)(t:List Content)(i:Nat),f.drop i=t→i≤f.length→t.length<k→∃v,slices_IndexFunc_Content_f78_l1 n k (f,(f.length:Int),(i:Int),())=some v∧decide (v≥0)=t.any λc=> !checkP c:=by
  intro k
  induction k with
  |zero=>intro t i _ _ h;omega
  |succ k ih=>
   intro t i ht hi hk
   unfold slices_IndexFunc_Content_f78_l1
   rw[loopF_succ]
   generalize hr:loopF _ k=r1
   replace hr:slices_IndexFunc_Content_f78_l1 n k=r1:=hr
   simp only[hr] at ih
   cases t with
   |nil=>
    cases drop_end ht hi
    simp only[ge_dec (Nat.lt_irrefl _),cond_false,List.any_nil]
    exact⟨-1,rfl,by decide⟩
   |cons x t=>
    obtain⟨h1,h2,h3⟩:=drop_get ht
    have hx:x∈f:=List.mem_of_getElem? h1
    have e:tree_look_1 n x=some (!checkP x):=by
     unfold tree_look_1;rw[check_eq n hn x (hc x hx)]
     cases checkP x<;>rfl
    simp only[lt_dec h3,cond_true,idx_nat,h1,Option.bind_some,e,List.any_cons]
    cases hb:checkP x with
    |false=>exact⟨(i:Int),rfl,by simp⟩
    |true=>
     simp only[Bool.not_true,cond_false,Bool.false_or,wrap_succ (show i<4611686018427387904 by omega)]
     exact ih t (i+1) h2 (by omega) (by simp only[List.length_cons] at hk;omega)
 obtain⟨v,h1,h2⟩:=key n f 0 rfl (Nat.zero_le _) (by omega)
 unfold slices_ContainsFunc_Content_f78 slices_IndexFunc_Content_f78
 rw[show((0:Int))=((0:Nat):Int) from rfl,h1]
 simp only[Option.bind_some]
 exact congrArg some h2
theorem rest_run(n:Nat)(f:List Content)(hl:f.length≤1000)(q:Met)(w:Int):∀(k:Nat)(t:List Content)(i:Nat),f.drop i=t→i≤f.length→t.length<k→
  tree_look_l4 n k (f,(f.length:Int),(i:Int),f,w,q,())=some (allFrom (λj c=>mget false q (j:Int)||decide (c.kind=0)) i t,f,w,q):=by
 intro k
 induction k with
 |zero=>intro t i _ _ h;omega
 |succ k ih=>
  intro t i ht hi hk
  unfold tree_look_l4
  rw[loopF_succ]
  generalize hr:loopF _ k=r1
  replace hr:tree_look_l4 n k=r1:=hr
  simp only[hr] at ih
  cases t with
  |nil=>
   cases drop_end ht hi
   simp only[ge_dec (Nat.lt_irrefl _),cond_false];rfl
  |cons x t=>
   obtain⟨h1,h2,h3⟩:=drop_get ht
   have hkey:keyIn .i64 (i:Int)=true:=by
    have e1:IntKind.i64.min= -9223372036854775808:=rfl
    have e2:IntKind.i64.max=9223372036854775807:=rfl
    exact keyIn_i64 ⟨by omega,by omega⟩
   have hm:mlook .i64 false q (i:Int)=some (mget false q (i:Int)):=by unfold mlook;rw[hkey]
   simp only[lt_dec h3,cond_true,idx_nat,h1,Option.bind_some,hm,jn,ine0,allFrom,wrap_succ (show i<4611686018427387904 by omega),ih t (i+1) h2 (by omega) (by simp only[List.length_cons] at hk;omega)]
   cases mget false q (i:Int)<;>cases decide (x.kind=0)<;>rfl
theorem allFrom_iff{α:Type}{p:Nat→α→Bool}:∀(l:List α)(i:Nat),allFrom p i l=true↔∀j x,l[j]? =some x→p (i+j) x=true
 |[],i=>by simp[allFrom]
 |y::t,i=>by
  simp only[allFrom,Bool.and_eq_true,allFrom_iff t (i+1)]
  constructor
  ·rintro⟨h1,h2⟩ j x hx
   cases j with
   |zero=>cases hx;exact h1
   |succ j=>have:=h2 j x hx;rw[show i+(j+1)=i+1+j by omega];exact this
  ·intro h
   refine⟨h 0 y rfl,λj x hx=> ?_⟩
   have:=h (j+1) x hx
   rw[show i+1+j=i+(j+1) by omega];exact this
theorem look_eq(n:Nat)(hn:2000≤n)(f:List Content)(hl:f.length≤1000)(hc:∀c∈f,Fine c):(∀d,Good f d→tree_look n ⟨f⟩=some (true,f,(d:Int),marks (pgs f d 0) []))∧((¬ ∃d,Good f d)→∃x,tree_look n ⟨f⟩=some (false,x)):=by
 have hlen:((f.length:Int) !=64)= !decide (f.length=64):=by
  rw[bne,ibeq];congr 1;exact decide_eq_decide.2 (by omega)
 unfold tree_look
 simp only[hlen,bad_run n (by omega) f hl hc]
 by_cases h64:f.length=64
 case neg=>
  refine⟨λd hg=>absurd hg.len h64,λ_=> ?_⟩
  rw[decide_eq_false h64]
  exact⟨_,rfl⟩
 rw[decide_eq_true h64]
 simp only[Bool.not_true,cond_false,Option.bind_some]
 cases hb:f.any λc=> !checkP c with
 |true=>
  refine⟨λd hg=> ?_,λ_=>⟨_,rfl⟩⟩
  obtain⟨c,hc,h⟩:=List.any_eq_true.1 hb
  obtain⟨m,hm,rfl⟩:=mem_pg hc
  rw[hg.ok m ⟨hm.1,by omega⟩] at h
  cases h
 |false=>
  have hf:AllOk f:=⟨h64,λm hm=>by
   have:=List.any_eq_false.1 hb (pg f m) (pg_mem ⟨hm.1,by omega⟩)
   simpa using this⟩
  simp only[cond_false]
  obtain⟨r,hr⟩:=((walk_inv hf 65 1) 0 key0 none 0 [] (by omega) QOk.nil).2 (by simp)
  replace hr:walkP f 65 0 1 key0 none 0 []=some r:=hr
  have htw:=walkN hf 65 n (by omega) 0 1 key0 0 [] r (by omega) QOk.nil (by omega) hr
  rw[show(Key.mk 0 0)=key0 from rfl,htw]
  simp only[Option.bind_some]
  have hrun:=rest_run n f hl r.2.2 r.2.1 n f 0 rfl (Nat.zero_le _) (by omega)
  rw[show((0:Nat):Int)=0 from rfl] at hrun
  have hall:=allFrom_iff (p:=λj c=>mget false r.2.2 (j:Int)||decide (Content.kind c=0)) f 0
  constructor
  ·intro d hg
   have hw:=walk_full (f:=f) d 65 1 (by have:=hg.deep;omega) (by omega) 0 key0 none 0 [] hg.tree hg.nodup (λx hx=>rfl) (by simp) (Or.inl rfl)
   replace hw:walkP f 65 0 1 key0 none 0 []=some (true,1+(d:Int)-1,marks (pgs f d 0) []):=hw
   rw[hr] at hw
   cases Option.some.inj hw
   simp only[Bool.not_true,cond_false]
   rw[hrun,hall.2 λj x hx=> ?_]
   ·show some (true,f,1+(d:Int)-1,marks (pgs f d 0) [])=_
    rw[show 1+(d:Int)-1=d by omega]
   ·simp only[Nat.zero_add,mget_marks (show ∀p∈([]:Met),p.2=true by simp)]
    have hj:j<f.length:=(List.getElem?_eq_some_iff.1 hx).1
    by_cases hm:(j:Int)∈pgs f d 0
    ·rw[decide_eq_true hm];rfl
    ·have:=hg.rest (j:Int) ⟨by omega,by omega⟩ hm
     rw[pg_nat hx] at this
     rw[decide_eq_true this,Bool.or_true]
  ·intro hng
   obtain⟨b,w,q⟩:=r
   cases b with
   |false=>exact⟨_,rfl⟩
   |true=>
    simp only[Bool.not_true,cond_false]
    rw[hrun]
    obtain⟨d,d1,d2,d3,d4,d5⟩:=walk_sound hf 65 1 (by omega) 0 key0 none 0 [] w q (by omega) QOk.nil hr
    have hq:=((walk_inv hf 65 1) 0 key0 none 0 [] (by omega) QOk.nil).1 _ hr
    cases hall':allFrom (λj c=>mget false q (j:Int)||decide (Content.kind c=0)) 0 f with
    |false=>exact⟨_,rfl⟩
    |true=>
     refine absurd ⟨d,hf.1,hf.2,d2, ?_,λm hm hnm=> ?_⟩ hng
     ·have:=hq.1.nodup
      simp only[d5,marks_fst,List.map_nil,List.append_nil] at this
      exact(List.reverse_perm _).nodup_iff.1 this
     ·have hi:m.toNat<f.length:=by omega
      have:=(hall.1 hall') m.toNat f[m.toNat] (get_some hi)
      have em:((m.toNat:Nat):Int)=m:=by omega
      rw[Nat.zero_add,em,d5,mget_marks (by simp),decide_eq_false hnm] at this
      have e2:pg f m=f[m.toNat]:=(congrArg (pg f) em.symm).trans (pg_nat (get_some hi))
      rw[e2]
      simpa[mget] using this
theorem check_good(n:Nat)(hn:2000≤n){f:List Content}{d:Nat}(hg:Good f d):tree_Check n ⟨f⟩=some 0:=by
 have hc:∀c∈f,Fine c:=λc hc=>by obtain⟨m,hm,rfl⟩:=mem_pg hc;exact fine_check (hg.ok m ⟨hm.1,by have:=hg.len;omega⟩)
 unfold tree_Check
 rw[(look_eq n hn f (by have:=hg.len;omega) hc).1 d hg];rfl
theorem check_bad(n:Nat)(hn:2000≤n){f:List Content}(hl:f.length≤1000)(hc:∀c∈f,Fine c)(hg:¬ ∃d,Good f d):tree_Check n ⟨f⟩=some 230:=by
 obtain⟨x,h⟩:=(look_eq n hn f hl hc).2 hg
 unfold tree_Check
 rw[h];rfl
theorem good_fine{f:List Content}{d:Nat}(hg:Good f d):∀c∈f,Fine c:=λc hc=>by obtain⟨m,hm,rfl⟩:=mem_pg hc;exact fine_check (hg.ok m ⟨hm.1,by have:=hg.len;omega⟩)
end Go.Proofs.YtlcmdgpjiendmaaGreat
namespace Go.Proofs.YtlcmdgpjiendmaaGreat
open Go.Bur
set_option linter.unusedSimpArgs false
set_option linter.unusedVariables false
set_option maxRecDepth 100000
theorem ltK_false{a b:Key}:ltK a b=false↔¬(a.table<b.table∨(a.table=b.table∧a.id<b.id)):=by rw[←Bool.not_eq_true,ltK_iff]
theorem lt_le{a b c:Key}(h:ltK a b=true)(h2:ltK c b=false):ltK a c=true:=by
 rw[ltK_iff] at h⊢;rw[ltK_false] at h2;omega
theorem le_lt{a b c:Key}(h:ltK b a=false)(h2:ltK b c=true):ltK a c=true:=by
 rw[ltK_iff] at h2⊢;rw[ltK_false] at h;omega
theorem le_le{a b c:Key}(h:ltK b a=false)(h2:ltK c b=false):ltK c a=false:=by
 rw[ltK_false] at h h2⊢;omega
theorem lt_asymm{a b:Key}(h:ltK a b=true):ltK b a=false:=by
 rw[ltK_iff] at h;rw[ltK_false];omega
theorem lt_ne{a b:Key}(h:ltK a b=true):a≠b:=λe=>by rw[e,ltK_irrefl] at h;cases h
theorem within_iff{k lo:Key}{hi:Option Key}:within k lo hi=true↔ltK k lo=false∧∀h,hi=some h→ltK k h=true:=by
 unfold within
 cases hi with
 |none=>simp
 |some h=>simp
theorem rcompare_eq(n:Nat)(a b:Key):ref05_Compare n a b=some (cmpK a b):=by
 unfold ref05_Compare
 rw[key_eqb]
 by_cases h:a=b
 ·subst h;rw[decide_eq_true rfl];simp[cmpK,cmpI]
 ·rw[decide_eq_false h,cond_false]
  simp only[jn]
  have hne:a.table≠b.table∨a.id≠b.id:=by
   by_cases h1:a.table=b.table
   ·right;intro h2;obtain⟨a1,a2⟩:=a;obtain⟨b1,b2⟩:=b;simp only at h1 h2;subst h1;subst h2;exact h rfl
   ·exact Or.inl h1
  unfold cmpK cmpI
  by_cases h1:a.table<b.table
  ·rw[decide_eq_true h1];simp[h1]
  ·rw[decide_eq_false h1,cond_false,ibeq]
   by_cases h2:a.table=b.table
   ·rw[decide_eq_true h2,cond_true]
    by_cases h3:a.id<b.id
    ·rw[decide_eq_true h3];simp[h2,h3]
    ·rw[decide_eq_false h3]
     have:a.id>b.id:=by rcases hne with h|h;exact absurd h2 h;omega
     simp[h2,h3,this]
   ·rw[decide_eq_false h2]
    have:a.table>b.table:=by omega
    simp[h1,this]
theorem cmpK_le{a b:Key}:decide (cmpK a b≤0)= !ltK b a:=by
 rw[←cmpK_pos]
 by_cases h:cmpK a b≤0
 ·rw[decide_eq_true h,decide_eq_false (by omega)];rfl
 ·rw[decide_eq_false h,decide_eq_true (by omega)];rfl
theorem kids_cut{S:Int→Key→Option Key→Prop}{hi:Option Key}{lo:Key}{l1 l2:List Kid}{x:Kid}:kidsOk S hi lo (l1++x::l2)↔
  (l1=[]→S x.page lo (nxt hi l2))∧(l1≠[]→S x.page x.least (nxt hi l2))∧(l1≠[]→kidsOk S (some x.least) lo l1)∧(∀y t,l2=y::t→kidsOk S hi y.least l2):=by
 by_cases h:l1=[]
 ·subst h
  rw[List.nil_append,kidsOk_cons]
  simp
 ·rw[kidsOk_app h,kidsOk_cons]
  simp[h]
  exact⟨fun⟨a,b,c⟩=>⟨b,a,c⟩,fun⟨a,b,c⟩=>⟨b,a,c⟩⟩
def RowsIn(l:List Row)(lo:Key)(hi:Option Key):Prop:=Srt l∧∀r∈l,within r.key lo hi=true
theorem kids_rows{S:Int→Key→Option Key→Prop}{g:Int→List Row}(hS:∀p a b,S p a b→RowsIn (g p) a b){hi:Option Key}:∀{l:List Kid} {lo:Key},kidsOk S hi lo l→(∀k∈l.tail,within k.least lo hi=true)→l.Pairwise (λa b=>ltK a.least b.least=true)→
  RowsIn (l.flatMap λk=>g k.page) lo hi
 |[],lo,_,_,_=>⟨List.Pairwise.nil,by simp⟩
 |[k],lo,h,_,_=>by
  rw[List.flatMap_cons,List.flatMap_nil,List.append_nil];exact hS _ _ _ h
 |k::k2::t,lo,h,hw,hr=>by
  obtain⟨a1,a2⟩:=hS _ _ _ h.1
  obtain⟨r1,r2⟩:=List.pairwise_cons.1 hr
  have hk2:=within_iff.1 (hw k2 (List.mem_cons_self ..))
  obtain⟨b1,b2⟩:=kids_rows hS h.2 (λx hx=>within_iff.2 ⟨lt_asymm ((List.pairwise_cons.1 r2).1 x hx),(within_iff.1 (hw x (List.mem_cons_of_mem _ hx))).2⟩) r2
  rw[List.flatMap_cons]
  refine⟨List.pairwise_append.2 ⟨a1,b1,λx hx y hy=> ?_⟩,λr hr=> ?_⟩
  ·exact lt_le ((within_iff.1 (a2 x hx)).2 _ rfl) (within_iff.1 (b2 y hy)).1
  ·rcases List.mem_append.1 hr with hr|hr
   ·have h1:=within_iff.1 (a2 r hr)
    exact within_iff.2 ⟨h1.1,λh e=>ltK_trans (h1.2 _ rfl) (hk2.2 h e)⟩
   ·have h1:=within_iff.1 (b2 r hr)
    exact within_iff.2 ⟨le_le hk2.1 h1.1,h1.2⟩
theorem sub_rows{f:List Content}:∀{d:Nat} {n:Int} {lo:Key} {hi:Option Key},sub f d n lo hi→RowsIn (rws f d n) lo hi
 |1,n,lo,hi,h=>by
  obtain⟨_,_,l,h3,h4,h5⟩:=h
  have e:rws f 1 n=l:=by rw[rws,h3];simp
  rw[e];exact⟨h4.srt,h5⟩
 |d+2,n,lo,hi,h=>by
  obtain⟨_,_,l,h3,h4,h5,h6⟩:=h
  have e:rws f (d+2) n=l.flatMap λk=>rws f (d+1) k.page:=by rw[rws,h3];rfl
  rw[e];exact kids_rows (λp a b hs=>sub_rows hs) h6 h5 h4.rise
def kidI(l:List Kid)(k:Key):Nat:=(l.tail.takeWhile λy=> !ltK k y.least).length
theorem kid_cut'(k:Key):∀(t:List Kid)(a:Kid),∃l1 x l2,a::t=l1++x::l2∧l1.length=(t.takeWhile λy=> !ltK k y.least).length∧(l1≠[]→ltK k x.least=false)∧∀y t',l2=y::t'→ltK k y.least=true
 |[],a=>⟨[],a,[],rfl,rfl,λh=>absurd rfl h,λy t' h=>by cases h⟩
 |b::t,a=>by
  cases hb:ltK k b.least with
  |true=>exact⟨[],a,b::t,rfl,by simp[List.takeWhile_cons,hb],λh=>absurd rfl h,λy t' h=>by cases h;exact hb⟩
  |false=>
   obtain⟨l1,x,l2,h1,h2,h3,h4⟩:=kid_cut' k t b
   refine⟨a::l1,x,l2,by rw[h1];rfl,by simp[List.takeWhile_cons,hb,h2],λ_=> ?_,h4⟩
   by_cases h:l1=[]
   ·subst h;cases h1;exact hb
   ·exact h3 h
theorem kid_cut{l:List Kid}(h:l≠[])(k:Key):∃l1 x l2,l=l1++x::l2∧l1.length=kidI l k∧(l1≠[]→ltK k x.least=false)∧∀y t',l2=y::t'→ltK k y.least=true:=by
 cases l with
 |nil=>exact absurd rfl h
 |cons a t=>exact kid_cut' k t a
theorem InnerOk.ne{l:List Kid}(h:InnerOk l):l≠[]:=λe=>by have:=h.two;rw[e] at this;simp at this
theorem tw_le{α:Type}{p:α→Bool}:∀(l:List α),(l.takeWhile p).length≤l.length
 |[]=>Nat.le_refl _
 |x::t=>by
  rw[List.takeWhile_cons]
  split
  ·simp only[List.length_cons];have:=tw_le (p:=p) t;omega
  ·simp
theorem kidI_lt{l:List Kid}(h:InnerOk l)(k:Key):kidI l k<l.length:=by
 have:=h.two
 have:=tw_le (p:=λy:Kid=> !ltK k y.least) l.tail
 unfold kidI
 rw[List.length_tail] at this;omega
theorem rkid_eq(n:Nat)(hn:1003≤n){l:List Kid}(h:InnerOk l)(k:Key):ref11_Kid n ⟨2,[],l⟩ k=some (kidI l k:Int):=by
 have h2:=h.two
 have h4:=h.four
 have key:∀(m:Nat)(t:List Kid)(i o:Nat),l.drop i=t→i≤l.length→t.length<m→t.Pairwise (λa b=>ltK a.least b.least=true)→ref11_Kid_l1 n m ((o:Int),(i:Int),⟨2,[],l⟩,k,())=some (if(t.takeWhile λy=> !ltK k y.least).length=0 then(o:Int) else((i+(t.takeWhile λy=> !ltK k y.least).length-1:Nat):Int)):=by
  intro m
  induction m with
  |zero=>intro t i o _ _ h;omega
  |succ m ih=>
   intro t i o ht hi hk hp
   unfold ref11_Kid_l1
   rw[loopF_succ]
   generalize hr:loopF _ m=r1
   replace hr:ref11_Kid_l1 n m=r1:=hr
   simp only[hr] at ih
   cases t with
   |nil=>
    cases drop_end ht hi
    simp only[ge_dec (Nat.lt_irrefl _),cond_false];rfl
   |cons x t=>
    obtain⟨g1,g2,g3⟩:=drop_get ht
    obtain⟨p1,p2⟩:=List.pairwise_cons.1 hp
    simp only[lt_dec g3,cond_true,idx_nat,g1,Option.bind_some,rcompare_eq,jn,cmpK_le,ref11_Kid_j2,List.takeWhile_cons,wrap_succ (show i<4611686018427387904 by omega)]
    cases hb:ltK k x.least with
    |true=>
     have e:(t.takeWhile λy=> !ltK k y.least)=[]:=by
      cases t with
      |nil=>rfl
      |cons y t=>rw[List.takeWhile_cons,ltK_trans hb (p1 y (List.mem_cons_self ..))];rfl
     simp only[Bool.not_true,cond_false,ih t (i+1) o g2 (by omega) (by simp only[List.length_cons] at hk;omega) p2,e]
     rfl
    |false=>
     simp only[Bool.not_false,cond_true,if_true,ih t (i+1) i g2 (by omega) (by simp only[List.length_cons] at hk;omega) p2,List.length_cons]
     rw[if_neg (by omega:¬(t.takeWhile λy=> !ltK k y.least).length+1=0)]
     by_cases hh:(t.takeWhile λy=> !ltK k y.least).length=0
     ·rw[if_pos hh,hh];congr 2
     ·rw[if_neg hh];congr 2;omega
 unfold ref11_Kid
 have:=key n l.tail 1 0 (by rw[List.drop_one]) (by omega) (by rw[List.length_tail];omega) (by rw[←List.drop_one];exact h.rise.drop)
 rw[show((1:Nat):Int)=1 from rfl,show((0:Nat):Int)=0 from rfl] at this
 rw[this]
 unfold kidI
 by_cases hh:(l.tail.takeWhile λy=> !ltK k y.least).length=0
 ·rw[if_pos hh,hh];rfl
 ·rw[if_neg hh];congr 2;omega
theorem kid_rows{f:List Content}{d:Nat}{lo:Key}{hi:Option Key}{l l1 l2:List Kid}{x:Kid}{k:Key}(h4:InnerOk l)(h5:∀k∈l.tail,within k.least lo hi=true)(h6:kidsOk (sub f d) hi lo l)(e:l=l1++x::l2)(c1:l1≠[]→ltK k x.least=false)(c2:∀y t',l2=y::t'→ltK k y.least=true)(hk:∀h,hi=some h→ltK k h=true):
  ∃a,sub f d x.page a (nxt hi l2)∧(∀h,nxt hi l2=some h→ltK k h=true)∧(ltK k lo=false→ltK k a=false)∧(∀r∈l1.flatMap λk=>rws f d k.page,ltK r.key k=true)∧(∀r∈l2.flatMap λk=>rws f d k.page,ltK k r.key=true):=by
 subst e
 obtain⟨g1,g2,g3,g4⟩:=kids_cut.1 h6
 have hr:=h4.rise
 obtain⟨q1,q2,q3⟩:=List.pairwise_append.1 hr
 have hlast:∀h,nxt hi l2=some h→ltK k h=true:=λh e=>by
  cases l2 with
  |nil=>exact hk h e
  |cons y t=>cases e;exact c2 y t rfl
 have hl1:∀r∈l1.flatMap λk=>rws f d k.page,ltK r.key k=true:=λr hr=>by
  by_cases hne:l1=[]
  ·subst hne;simp at hr
  ·have hin:=kids_rows (g:=λp=>rws f d p) (λp a b hs=>sub_rows hs) (g3 hne) (λy hy=>within_iff.2 ⟨(within_iff.1 (h5 y (by
    cases l1 with
    |nil=>exact absurd rfl hne
    |cons z l1=>exact List.mem_append_left _ hy))).1,λh e=>by
     cases e
     exact q3 y (List.mem_of_mem_tail hy) x (List.mem_cons_self ..)⟩) q1
   exact lt_le ((within_iff.1 (hin.2 r hr)).2 _ rfl) (c1 hne)
 have hl2:∀r∈l2.flatMap λk=>rws f d k.page,ltK k r.key=true:=λr hr=>by
  cases l2 with
  |nil=>simp at hr
  |cons y t=>
   have p2:=(List.pairwise_cons.1 q2).2
   have hin:=kids_rows (g:=λp=>rws f d p) (λp a b hs=>sub_rows hs) (g4 y t rfl) (λz hz=>within_iff.2 ⟨lt_asymm ((List.pairwise_cons.1 p2).1 z hz),(within_iff.1 (h5 z (by
    cases l1 with
    |nil=>exact List.mem_cons_of_mem _ hz
    |cons w l1=>exact List.mem_append_right _ (List.mem_cons_of_mem _ (List.mem_cons_of_mem _ hz))))).2⟩) p2
   exact lt_le (c2 y t rfl) (within_iff.1 (hin.2 r hr)).1
 by_cases hne:l1=[]
 ·exact⟨lo,g1 hne,hlast,λh=>h,hl1,hl2⟩
 ·exact⟨x.least,g2 hne,hlast,λ_=>c1 hne,hl1,hl2⟩
theorem findK_mid{a b c:List Row}{k:Key}(h1:∀r∈a,ltK r.key k=true)(h2:∀r∈c,ltK k r.key=true):findK (a++(b++c)) k=findK b k:=by
 rw[findK_app,findK_app,findK_none (l:=a) λr hr=>lt_ne (h1 r hr),findK_none (l:=c) λr hr=>(lt_ne (h2 r hr)).symm]
 simp
end Go.Proofs.YtlcmdgpjiendmaaGreat
namespace Go.Proofs.YtlcmdgpjiendmaaGreat
open Go.Bur
set_option linter.unusedSimpArgs false
set_option linter.unusedVariables false
set_option maxRecDepth 100000
theorem sub_some{f:List Content}:∀{d:Nat} {n:Int} {lo:Key} {hi:Option Key},sub f d n lo hi→n≠0→rws f d n≠[]
 |1,n,lo,hi,h,hn=>by
  obtain⟨_,h2,l,h3,h4,h5⟩:=h
  have e:rws f 1 n=l:=by rw[rws,h3];simp
  have:=h2 hn
  rw[h3] at this
  rw[e];intro h;rw[h] at this;simp[sizeP] at this
 |d+2,n,lo,hi,h,hn=>by
  obtain⟨_,h2,l,h3,h4,h5,h6⟩:=h
  obtain⟨k,t,el⟩:∃k t,l=k::t:=by
   match l,h4.two with
   |k::t,_=>exact⟨k,t,rfl⟩
  have hp:=h4.page k (by rw[el];exact List.mem_cons_self ..)
  obtain⟨a,b,hs⟩:=kidsOk_all h6 k (by rw[el];exact List.mem_cons_self ..)
  have:=sub_some hs (by omega)
  rw[rws,h3,el,List.flatMap_cons]
  intro e
  exact this (List.append_eq_nil_iff.1 (List.append_eq_nil_iff.1 e).2).1
theorem sub_lt{f:List Content}{d:Nat}{n:Int}{lo b:Key}(h:sub f d n lo (some b))(hn:n≠0):ltK lo b=true:=by
 have h1:=sub_some h hn
 obtain⟨r,t,e⟩:∃r t,rws f d n=r::t:=by
  cases hr:rws f d n with
  |nil=>exact absurd hr h1
  |cons r t=>exact⟨r,t,rfl⟩
 have:=within_iff.1 ((sub_rows h).2 r (by rw[e];exact List.mem_cons_self ..))
 exact le_lt this.1 (this.2 b rfl)
theorem kids_lt{f:List Content}{d:Nat}{hi:Option Key}:∀{l:List Kid} {lo:Key},kidsOk (sub f d) hi lo l→(∀k∈l,k.page≠0)→
  (∀k∈l.tail,ltK lo k.least=true∧∀h,hi=some h→ltK k.least h=true)∧l.tail.Pairwise λa b=>ltK a.least b.least=true
 |[],lo,_,_=>⟨by simp,by simp⟩
 |[k],lo,_,_=>⟨by simp,by simp⟩
 |k::k2::t,lo,h,hp=>by
  obtain⟨i1,i2⟩:=kids_lt h.2 λx hx=>hp x (List.mem_cons_of_mem _ hx)
  have hlt:=sub_lt h.1 (hp k (List.mem_cons_self ..))
  refine⟨λx hx=> ?_,List.pairwise_cons.2 ⟨λx hx=>(i1 x hx).1,i2⟩⟩
  rcases List.mem_cons.1 hx with rfl|hx
  ·refine⟨hlt,λh' e=> ?_⟩
   cases t with
   |nil=>subst e;exact sub_lt h.2 (hp x (by simp))
   |cons k3 t=>exact ltK_trans (i1 k3 (List.mem_cons_self ..)).1 ((i1 k3 (List.mem_cons_self ..)).2 h' e)
  ·exact⟨ltK_trans hlt (i1 x hx).1,(i1 x hx).2⟩
structure KidsR(f:List Content)(d:Nat)(lo:Key)(hi:Option Key)(l:List Kid):Prop where
 ok:kidsOk (sub f d) hi lo l
 page:∀k∈l,0<k.page∧k.page<64
 nodup:(l.map (·.page)).Nodup
 tab:∀k∈l,okTab k.least.table=true
 head:∀k,l.head? =some k→k.least=key0
theorem KidsR.inner{f:List Content}{d:Nat}{lo:Key}{hi:Option Key}{l:List Kid}(h:KidsR f d lo hi l)(hlo:ltK lo key0=false)(h2:2≤l.length)(h4:l.length≤4):InnerOk l∧∀k∈l.tail,within k.least lo hi=true:=by
 obtain⟨i1,i2⟩:=kids_lt h.ok λk hk=>by have:=h.page k hk;omega
 refine⟨⟨h2,h4,h.page,h.nodup,h.tab, ?_,h.head⟩,λk hk=>within_iff.2 ⟨lt_asymm (i1 k hk).1,(i1 k hk).2⟩⟩
 cases l with
 |nil=>simp
 |cons a t=>exact List.pairwise_cons.2 ⟨λx hx=>by rw[h.head a rfl];exact le_lt hlo (i1 x hx).1,i2⟩
theorem mk_inner{f:List Content}{d:Nat}{n:Int}{lo:Key}{hi:Option Key}{l:List Kid}(hn:0≤n∧n<64)(hp:pg f n=⟨2,[],l⟩)(h:KidsR f (d+1) lo hi l)(hlo:ltK lo key0=false)(h2:2≤l.length)(h4:l.length≤4):sub f (d+2) n lo hi:=by
 obtain⟨h5,h6⟩:=h.inner hlo h2 h4
 exact⟨hn,λ_=>by rw[hp];simp only[sizeP,List.length_nil];omega,l,hp,h5,h6,h.ok⟩
theorem inner_of{f:List Content}{d:Nat}{n:Int}{lo:Key}{hi:Option Key}(h:sub f (d+2) n lo hi):∃l,pg f n=⟨2,[],l⟩∧2≤l.length∧l.length≤4∧KidsR f (d+1) lo hi l:=by
 obtain⟨_,_,l,h3,h4,_,h6⟩:=h
 exact⟨l,h3,h4.two,h4.four,h6,h4.page,h4.nodup,h4.tab,h4.head⟩
def conS(f:List Content):Nat→Key→Option Key→Content→Prop
 |0=>λlo hi c=>∃l,c=⟨1,l,[]⟩∧(∀r∈l,okRow r=true)∧RowsIn l lo hi
 |d+1=>λlo hi c=>∃l,c=⟨2,[],l⟩∧KidsR f (d+1) lo hi l
def rwsC(f:List Content)(d:Nat)(c:Content):List Row:=c.rows++c.kids.flatMap λk=>rws f d k.page
def pgsC(f:List Content)(d:Nat)(c:Content):List Int:=c.kids.flatMap λk=>pgs f d k.page
theorem rws_C{f:List Content}{d:Nat}{n:Int}:rws f (d+1) n=rwsC f d (pg f n):=rfl
theorem pgs_C{f:List Content}{d:Nat}{n:Int}:pgs f (d+1) n=n::pgsC f d (pg f n):=rfl
theorem con_of{f:List Content}{d:Nat}{n:Int}{lo:Key}{hi:Option Key}(h:sub f (d+1) n lo hi):conS f d lo hi (pg f n)∧sizeP (pg f n)≤4∧(n≠0∨d≠0→2≤sizeP (pg f n)):=by
 cases d with
 |zero=>
  obtain⟨_,h2,l,h3,h4,h5⟩:=h
  refine⟨⟨l,h3,h4.row,h4.srt,h5⟩,by rw[h3];simpa[sizeP] using h4.len,λe=>h2 (by rcases e with e|e;exact e;exact absurd rfl e)⟩
 |succ d=>
  obtain⟨l,h3,h4,h5,h6⟩:=inner_of h
  refine⟨⟨l,h3,h6⟩, ?_,λ_=> ?_⟩<;>(rw[h3];simp only[sizeP,List.length_nil];omega)
theorem con_mk{f:List Content}{d:Nat}{n:Int}{lo:Key}{hi:Option Key}(hn:0≤n∧n<64)(h:conS f d lo hi (pg f n))(hlo:ltK lo key0=false)(h4:sizeP (pg f n)≤4)(h2:n≠0∨d≠0→2≤sizeP (pg f n)):sub f (d+1) n lo hi:=by
 cases d with
 |zero=>
  obtain⟨l,h3,h5,h6,h7⟩:=h
  exact⟨hn,λe=>h2 (Or.inl e),l,h3,⟨by rw[h3] at h4;simpa[sizeP] using h4,h5,h6⟩,h7⟩
 |succ d=>
  obtain⟨l,h3,h5⟩:=h
  have h2':=h2 (Or.inr (by omega))
  rw[h3] at h4 h2'
  simp only[sizeP,List.length_nil] at h4 h2'
  exact mk_inner hn h3 h5 hlo (by omega) (by omega)
theorem kidsR_frame{f f':List Content}{d:Nat}{lo:Key}{hi:Option Key}{l:List Kid}(e:∀m∈l.flatMap λk=>pgs f d k.page,pg f' m=pg f m)(h:KidsR f d lo hi l):KidsR f' d lo hi l:=
 ⟨kidsOk_mono (λk hk a b hs=>sub_frame (λm hm=>e m (List.mem_flatMap.2 ⟨k,hk,hm⟩)) hs) h.ok,h.page,h.nodup,h.tab,h.head⟩
theorem con_frame{f f':List Content}{d:Nat}{lo:Key}{hi:Option Key}{c:Content}(e:∀m∈pgsC f d c,pg f' m=pg f m)(h:conS f d lo hi c):conS f' d lo hi c∧rwsC f' d c=rwsC f d c∧pgsC f' d c=pgsC f d c:=by
 have hk:∀k∈c.kids,pgs f' d k.page=pgs f d k.page∧rws f' d k.page=rws f d k.page:=λk hk=>frame λm hm=>e m (List.mem_flatMap.2 ⟨k,hk,hm⟩)
 refine⟨?_, ?_, ?_⟩
 ·cases d with
  |zero=>exact h
  |succ d=>
   obtain⟨l,h3,h5⟩:=h
   exact⟨l,h3,kidsR_frame (by rw[h3] at e;exact e) h5⟩
 ·unfold rwsC;rw[flatMap_ext λk hkk=>(hk k hkk).2]
 ·unfold pgsC;rw[flatMap_ext λk hkk=>(hk k hkk).1]
theorem drop_some{α:Type}{l:List α}{m:Nat}(h:m<l.length):∃y t,l.drop m=y::t:=⟨_,_,drop_cons h⟩
theorem okRow_tab{r:Row}(h:okRow r=true):okTab r.key.table=true:=by
 unfold okRow at h;rw[Bool.and_eq_true] at h;exact h.1
theorem con_cut{f:List Content}{d:Nat}{lo:Key}{hi:Option Key}{c:Content}{m:Nat}(h:conS f d lo hi c)(h0:0<m)(hm:m<sizeP c):
  conS f d lo (some (cutS c m)) (cutA c m)∧conS f d (cutS c m) hi (cutB c m)∧okTab (cutS c m).table=true∧rwsC f d (cutA c m)++rwsC f d (cutB c m)=rwsC f d c∧pgsC f d (cutA c m)++pgsC f d (cutB c m)=pgsC f d c∧sizeP (cutA c m)=m∧sizeP (cutB c m)=sizeP c-m:=by
 cases d with
 |zero=>
  obtain⟨l,rfl,h5,h6,h7⟩:=h
  simp only[sizeP,List.length_nil,Nat.add_zero] at hm
  obtain⟨y,t,e⟩:=drop_some hm
  have el:l=l.take m++y::t:=by rw[←e,List.take_append_drop]
  have hs:cutS ⟨1,l,[]⟩ m=y.key:=by simp[cutS,stepC,e]
  have hA:cutA ⟨1,l,[]⟩ m=⟨1,l.take m,[]⟩:=by simp[cutA]
  have hB:cutB ⟨1,l,[]⟩ m=⟨1,y::t,[]⟩:=by simp[cutB,e,hd0]
  rw[el] at h6
  obtain⟨s1,s2,s3⟩:=List.pairwise_append.1 h6
  have hin:∀r∈l.take m,r∈l:=λr hr=>List.mem_of_mem_take hr
  have hin2:∀r∈y::t,r∈l:=λr hr=>by rw[el];exact List.mem_append_right _ hr
  rw[hs,hA,hB]
  refine⟨⟨_,rfl,λr hr=>h5 r (hin r hr),s1,λr hr=>within_iff.2 ⟨(within_iff.1 (h7 r (hin r hr))).1,λk e=> ?_⟩⟩,⟨_,rfl,λr hr=>h5 r (hin2 r hr),s2,λr hr=>within_iff.2 ⟨?_,(within_iff.1 (h7 r (hin2 r hr))).2⟩⟩,okRow_tab (h5 y (hin2 y (List.mem_cons_self ..))), ?_,rfl, ?_, ?_⟩
  ·cases e;exact s3 r hr y (List.mem_cons_self ..)
  ·rcases List.mem_cons.1 hr with rfl|hr
   ·exact ltK_irrefl _
   ·exact lt_asymm ((List.pairwise_cons.1 s2).1 r hr)
  ·simp only[rwsC,List.flatMap_nil,List.append_nil];exact el.symm
  ·simp only[sizeP,List.length_nil,Nat.add_zero,List.length_take];omega
  ·have:=congrArg List.length e
   rw[List.length_drop] at this
   simp only[sizeP,List.length_nil,Nat.add_zero];omega
 |succ d=>
  obtain⟨l,rfl,h5⟩:=h
  simp only[sizeP,List.length_nil,Nat.zero_add] at hm
  obtain⟨y,t,e⟩:=drop_some hm
  have el:l=l.take m++y::t:=by rw[←e,List.take_append_drop]
  have hne:l.take m≠[]:=λh=>by
   have:=congrArg List.length h
   rw[List.length_take,List.length_nil] at this;omega
  have hs:cutS ⟨2,[],l⟩ m=y.least:=by simp[cutS,stepC,e]
  have hA:cutA ⟨2,[],l⟩ m=⟨2,[],l.take m⟩:=by simp[cutA]
  have hB:cutB ⟨2,[],l⟩ m=⟨2,[],⟨key0,y.page⟩::t⟩:=by simp[cutB,e,hd0]
  have hin:∀r∈l.take m,r∈l:=λr hr=>List.mem_of_mem_take hr
  have hin2:∀r∈y::t,r∈l:=λr hr=>by rw[el];exact List.mem_append_right _ hr
  have hok:=h5.ok
  have hnd:=h5.nodup
  rw[el] at hok
  rw[el,List.map_append] at hnd
  obtain⟨n1,n2,_⟩:=List.nodup_append.1 hnd
  obtain⟨k1,k2⟩:=(kidsOk_app hne).1 hok
  rw[hs,hA,hB]
  refine⟨⟨_,rfl,k1,λk hk=>h5.page k (hin k hk),n1,λk hk=>h5.tab k (hin k hk),λk hk=> ?_⟩,⟨_,rfl,(kidsOk_hd (k:=y) (k':=⟨key0,y.page⟩) rfl).1 k2,λk hk=> ?_,n2,λk hk=> ?_,λk hk=>by cases hk;rfl⟩,h5.tab y (hin2 y (List.mem_cons_self ..)), ?_, ?_, ?_, ?_⟩
  ·refine h5.head k ?_
   rw[el]
   cases ht:l.take m with
   |nil=>exact absurd ht hne
   |cons a b=>rw[ht] at hk;exact hk
  ·rcases List.mem_cons.1 hk with rfl|hk
   ·exact h5.page y (hin2 y (List.mem_cons_self ..))
   ·exact h5.page k (hin2 k (List.mem_cons_of_mem _ hk))
  ·rcases List.mem_cons.1 hk with rfl|hk
   ·rfl
   ·exact h5.tab k (hin2 k (List.mem_cons_of_mem _ hk))
  ·simp only[rwsC,List.nil_append]
   conv=>rhs;rw[el]
   rw[List.flatMap_append];rfl
  ·simp only[pgsC]
   conv=>rhs;rw[el]
   rw[List.flatMap_append];rfl
  ·simp only[sizeP,List.length_nil,Nat.zero_add,List.length_take];omega
  ·have:=congrArg List.length e
   rw[List.length_drop] at this
   simp only[sizeP,List.length_nil,Nat.zero_add,List.length_cons] at this⊢;omega
theorem con_both{f:List Content}{d:Nat}{lo s:Key}{hi:Option Key}{a b:Content}(ha:conS f d lo (some s) a)(hb:conS f d s hi b)(h0:0<sizeP a)(hb0:0<sizeP b)(hlo:ltK s lo=false)(hs:∀h,hi=some h→ltK s h=true)(ht:okTab s.table=true)(hd:∀x∈a.kids,∀y∈b.kids,x.page≠y.page):
  conS f d lo hi (bothC a b s)∧rwsC f d (bothC a b s)=rwsC f d a++rwsC f d b∧pgsC f d (bothC a b s)=pgsC f d a++pgsC f d b∧sizeP (bothC a b s)=sizeP a+sizeP b:=by
 cases d with
 |zero=>
  obtain⟨la,rfl,a1,a2,a3⟩:=ha
  obtain⟨lb,rfl,b1,b2,b3⟩:=hb
  have e:bothC ⟨1,la,[]⟩ ⟨1,lb,[]⟩ s=⟨1,la++lb,[]⟩:=by simp[bothC,hd0]
  rw[e]
  refine⟨⟨_,rfl,λr hr=> ?_,List.pairwise_append.2 ⟨a2,b2,λx hx y hy=>lt_le ((within_iff.1 (a3 x hx)).2 s rfl) (within_iff.1 (b3 y hy)).1⟩,λr hr=> ?_⟩,by simp[rwsC],by simp[pgsC],by simp[sizeP]⟩
  ·rcases List.mem_append.1 hr with hr|hr
   ·exact a1 r hr
   ·exact b1 r hr
  ·rcases List.mem_append.1 hr with hr|hr
   ·have:=within_iff.1 (a3 r hr)
    exact within_iff.2 ⟨this.1,λh e=>ltK_trans (this.2 s rfl) (hs h e)⟩
   ·have:=within_iff.1 (b3 r hr)
    exact within_iff.2 ⟨le_le hlo this.1,this.2⟩
 |succ d=>
  obtain⟨la,rfl,a1⟩:=ha
  obtain⟨lb,rfl,b1⟩:=hb
  simp only[sizeP,List.length_nil,Nat.zero_add] at h0 hb0
  obtain⟨y,t,rfl⟩:∃y t,lb=y::t:=by
   match lb,hb0 with
   |y::t,_=>exact⟨y,t,rfl⟩
  have e:bothC ⟨2,[],la⟩ ⟨2,[],y::t⟩ s=⟨2,[],la++⟨s,y.page⟩::t⟩:=by simp[bothC,hd0]
  have hne:la≠[]:=λh=>by rw[h] at h0;simp at h0
  rw[e]
  refine⟨⟨_,rfl,(kidsOk_app hne).2 ⟨a1.ok,(kidsOk_hd (k:=y) (k':=⟨s,y.page⟩) rfl).1 b1.ok⟩,λk hk=> ?_, ?_,λk hk=> ?_,λk hk=> ?_⟩,by simp[rwsC,List.flatMap_append],by simp[pgsC,List.flatMap_append],by simp[sizeP]⟩
  ·rcases List.mem_append.1 hk with hk|hk
   ·exact a1.page k hk
   ·rcases List.mem_cons.1 hk with rfl|hk
    ·exact b1.page y (List.mem_cons_self ..)
    ·exact b1.page k (List.mem_cons_of_mem _ hk)
  ·rw[List.map_append]
   refine List.nodup_append.2 ⟨a1.nodup,b1.nodup,λp hp q hq=> ?_⟩
   obtain⟨u,hu,rfl⟩:=List.mem_map.1 hp
   have hq':q∈(y::t).map (·.page):=hq
   obtain⟨v,hv,rfl⟩:=List.mem_map.1 hq'
   exact hd u hu v hv
  ·rcases List.mem_append.1 hk with hk|hk
   ·exact a1.tab k hk
   ·rcases List.mem_cons.1 hk with rfl|hk
    ·exact ht
    ·exact b1.tab k (List.mem_cons_of_mem _ hk)
  ·refine a1.head k ?_
   cases la with
   |nil=>exact absurd rfl hne
   |cons u v=>exact hk
def loAt(l:List Kid)(lo s:Key):Key:=match l with
 |[]=>lo
 |_::_=>s
theorem kids2{S:Int→Key→Option Key→Prop}{hi:Option Key}{lo:Key}{N l2:List Kid}(hN:N≠[]):kidsOk S hi lo (N++l2)↔kidsOk S (nxt hi l2) lo N∧∀y t,l2=y::t→kidsOk S hi y.least l2:=by
 cases l2 with
 |nil=>simp[nxt]
 |cons y t=>
  rw[kidsOk_app hN]
  simp[nxt]
theorem kids3{S:Int→Key→Option Key→Prop}{hi:Option Key}{lo:Key}{l1 N l2:List Kid}{x:Kid}{N':List Kid}(hN:N=x::N'):kidsOk S hi lo (l1++(N++l2))↔
  (l1≠[]→kidsOk S (some x.least) lo l1)∧kidsOk S (nxt hi l2) (loAt l1 lo x.least) N∧∀y t,l2=y::t→kidsOk S hi y.least l2:=by
 subst hN
 cases l1 with
 |nil=>rw[List.nil_append,kids2 (by simp)];simp[loAt]
 |cons u v=>
  rw[show x::N'++l2=x::(N'++l2) from rfl,kidsOk_app (by simp),show x::(N'++l2)=(x::N')++l2 from rfl,kids2 (by simp)]
  simp[loAt]
theorem kids_repl{f f':List Content}{d:Nat}{lo:Key}{hi:Option Key}{l1 N M l2 N' M':List Kid}{x x':Kid}(hN:N=x::N')(hM:M=x'::M')(hl:x'.least=x.least)
  (h:KidsR f d lo hi (l1++(N++l2))) (hf:∀k∈l1++l2,∀p∈pgs f d k.page,pg f' p=pg f p)
  (hok:kidsOk (sub f' d) (nxt hi l2) (loAt l1 lo x.least) M) (hp:∀k∈M,0<k.page∧k.page<64) (hn:(M.map (·.page)).Nodup) (hd:∀k∈M,∀j∈l1++l2,k.page≠j.page) (ht:∀k∈M,okTab k.least.table=true):
  KidsR f' d lo hi (l1++(M++l2)):=by
 obtain⟨h1,h2,h3⟩:=(kids3 hN).1 h.ok
 have hsub1:∀k∈l1,k∈l1++(N++l2):=λk hk=>List.mem_append_left _ hk
 have hsub2:∀k∈l2,k∈l1++(N++l2):=λk hk=>List.mem_append_right _ (List.mem_append_right _ hk)
 have hmono:∀(l:List Kid),(∀k∈l,k∈l1++l2)→∀{a:Key} {b:Option Key},kidsOk (sub f d) b a l→kidsOk (sub f' d) b a l:=λl hl a b=>kidsOk_mono λk hk u v hs=>sub_frame (λm hm=>hf k (hl k hk) m hm) hs
 refine⟨(kids3 hM).2 ⟨λe=>hmono l1 (λk hk=>List.mem_append_left _ hk) (hl▸h1 e),hl▸hok,λy t e=>hmono l2 (λk hk=>List.mem_append_right _ hk) (h3 y t e)⟩,λk hk=> ?_, ?_,λk hk=> ?_,λk hk=> ?_⟩
 ·rcases List.mem_append.1 hk with hk|hk
  ·exact h.page k (hsub1 k hk)
  ·rcases List.mem_append.1 hk with hk|hk
   ·exact hp k hk
   ·exact h.page k (hsub2 k hk)
 ·have hnd:=h.nodup
  rw[List.map_append,List.map_append] at hnd⊢
  obtain⟨n1,n2,n3⟩:=List.nodup_append.1 hnd
  obtain⟨m1,m2,m3⟩:=List.nodup_append.1 n2
  refine List.nodup_append.2 ⟨n1,List.nodup_append.2 ⟨hn,m2,λp hp q hq=> ?_⟩,λp hp q hq=> ?_⟩
  ·obtain⟨u,hu,rfl⟩:=List.mem_map.1 hp
   obtain⟨v,hv,rfl⟩:=List.mem_map.1 hq
   exact hd u hu v (List.mem_append_right _ hv)
  ·rcases List.mem_append.1 hq with hq|hq
   ·obtain⟨u,hu,rfl⟩:=List.mem_map.1 hp
    obtain⟨v,hv,rfl⟩:=List.mem_map.1 hq
    exact(hd v hv u (List.mem_append_left _ hu)).symm
   ·exact n3 p hp q (List.mem_append_right _ hq)
 ·rcases List.mem_append.1 hk with hk|hk
  ·exact h.tab k (hsub1 k hk)
  ·rcases List.mem_append.1 hk with hk|hk
   ·exact ht k hk
   ·exact h.tab k (hsub2 k hk)
 ·cases l1 with
  |nil=>
   rw[hM] at hk
   cases hk
   rw[hl]
   exact h.head x (by rw[hN];rfl)
  |cons u v=>exact h.head k hk
end Go.Proofs.YtlcmdgpjiendmaaGreat
namespace Go.Proofs.YtlcmdgpjiendmaaGreat
open Go.Bur
set_option linter.unusedSimpArgs false
set_option linter.unusedVariables false
set_option maxRecDepth 100000
theorem loAt_ge{f:List Content}{d:Nat}{lo:Key}{hi:Option Key}{l1 l2:List Kid}{x:Kid}(h:KidsR f d lo hi (l1++x::l2))(hlo:ltK lo key0=false):ltK (loAt l1 lo x.least) key0=false:=by
 cases l1 with
 |nil=>exact hlo
 |cons u v=>
  have:=(kids_lt h.ok λk hk=>by have:=h.page k hk;omega).1 x (by simp)
  exact le_le hlo (lt_asymm this.1)
theorem block_gen{f f':List Content}{d:Nat}{n:Int}{lo:Key}{hi:Option Key}{l1 N M l2 N' M':List Kid}{x x':Kid}(h:sub f (d+2) n lo hi)(hp:pg f n=⟨2,[],l1++(N++l2)⟩)(hp':pg f' n=⟨2,[],l1++(M++l2)⟩)(hlo:ltK lo key0=false)
  (h2:2≤(l1++(M++l2)).length) (h4:(l1++(M++l2)).length≤4) (hN:N=x::N') (hM:M=x'::M') (hl:x'.least=x.least) (hf:∀k∈l1++l2,∀p∈pgs f (d+1) k.page,pg f' p=pg f p)
  (hok:kidsOk (sub f' (d+1)) (nxt hi l2) (loAt l1 lo x.least) M) (hpp:∀k∈M,0<k.page∧k.page<64) (hn:(M.map (·.page)).Nodup) (hd:∀k∈M,∀j∈l1++l2,k.page≠j.page) (ht:∀k∈M,okTab k.least.table=true):
  sub f' (d+2) n lo hi∧rws f' (d+2) n=(l1.flatMap λk=>rws f (d+1) k.page)++((M.flatMap λk=>rws f' (d+1) k.page)++l2.flatMap λk=>rws f (d+1) k.page)∧pgs f' (d+2) n=n::((l1.flatMap λk=>pgs f (d+1) k.page)++((M.flatMap λk=>pgs f' (d+1) k.page)++l2.flatMap λk=>pgs f (d+1) k.page)):=by
 obtain⟨l,e,_,_,hK⟩:=inner_of h
 obtain rfl:l=l1++(N++l2):=by rw[hp] at e;injection e with _ _ e;exact e.symm
 have hK':=kids_repl hN hM hl hK hf hok hpp hn hd ht
 have hfr:∀k∈l1++l2,pgs f' (d+1) k.page=pgs f (d+1) k.page∧rws f' (d+1) k.page=rws f (d+1) k.page:=λk hk=>frame (hf k hk)
 have r1:(l1.flatMap λk=>rws f' (d+1) k.page)=l1.flatMap λk=>rws f (d+1) k.page:=flatMap_ext λk hk=>(hfr k (List.mem_append_left _ hk)).2
 have r2:(l2.flatMap λk=>rws f' (d+1) k.page)=l2.flatMap λk=>rws f (d+1) k.page:=flatMap_ext λk hk=>(hfr k (List.mem_append_right _ hk)).2
 have p1:(l1.flatMap λk=>pgs f' (d+1) k.page)=l1.flatMap λk=>pgs f (d+1) k.page:=flatMap_ext λk hk=>(hfr k (List.mem_append_left _ hk)).1
 have p2:(l2.flatMap λk=>pgs f' (d+1) k.page)=l2.flatMap λk=>pgs f (d+1) k.page:=flatMap_ext λk hk=>(hfr k (List.mem_append_right _ hk)).1
 refine⟨mk_inner (sub_page h) hp' hK' hlo h2 h4, ?_, ?_⟩
 ·rw[rws,hp']
  simp only[List.flatMap_append,r1,r2,List.nil_append]
 ·rw[pgs,hp']
  simp only[List.flatMap_append,p1,p2]
theorem block_step{f f':List Content}{d:Nat}{n:Int}{lo:Key}{hi:Option Key}{l1 N M l2 N' M':List Kid}{x x':Kid}(h:sub f (d+2) n lo hi)(hp:pg f n=⟨2,[],l1++(N++l2)⟩)(hp':pg f' n=⟨2,[],l1++(M++l2)⟩)(hlo:ltK lo key0=false)
  (h2:2≤(l1++(M++l2)).length) (h4:(l1++(M++l2)).length≤4) (hN:N=x::N') (hM:M=x'::M') (hl:x'.least=x.least) (hf:∀k∈l1++l2,∀p∈pgs f (d+1) k.page,pg f' p=pg f p)
  (hok:kidsOk (sub f' (d+1)) (nxt hi l2) (loAt l1 lo x.least) M) (hpp:∀k∈M,0<k.page∧k.page<64) (hn:(M.map (·.page)).Nodup) (hd:∀k∈M,∀j∈l1++l2,k.page≠j.page) (ht:∀k∈M,okTab k.least.table=true)
  (hr:(M.flatMap λk=>rws f' (d+1) k.page)=N.flatMap λk=>rws f (d+1) k.page):
  sub f' (d+2) n lo hi∧rws f' (d+2) n=rws f (d+2) n∧pgs f' (d+2) n=n::((l1.flatMap λk=>pgs f (d+1) k.page)++((M.flatMap λk=>pgs f' (d+1) k.page)++l2.flatMap λk=>pgs f (d+1) k.page)):=by
 obtain⟨g1,g2,g3⟩:=block_gen h hp hp' hlo h2 h4 hN hM hl hf hok hpp hn hd ht
 refine⟨g1, ?_,g3⟩
 rw[g2,hr,rws,hp]
 simp only[List.flatMap_append,List.nil_append]
theorem pgs_list{f:List Content}{d:Nat}{n:Int}{l:List Kid}(h:pg f n=⟨2,[],l⟩):pgs f (d+1) n=n::l.flatMap λk=>pgs f d k.page:=by rw[pgs,h]
theorem nodup_mid{a b c:List Int}(h:(a++(b++c)).Nodup):b.Nodup∧(∀x∈b,x∉a∧x∉c):=by
 obtain⟨_,h2,h3⟩:=List.nodup_append.1 h
 obtain⟨h4,_,h5⟩:=List.nodup_append.1 h2
 exact⟨h4,λx hx=>⟨λha=>h3 x ha x (List.mem_append_left _ hx) rfl,λhc=>h5 x hx x hc rfl⟩⟩
theorem kid_self{f:List Content}{d:Nat}{l:List Kid}{k:Kid}(hk:k∈l):k.page∈l.flatMap λk=>pgs f (d+1) k.page:=List.mem_flatMap.2 ⟨k,hk,pgs_self⟩
theorem split_step{f f':List Content}{d:Nat}{n m:Int}{lo:Key}{hi:Option Key}{l1 l2:List Kid}{x:Kid}(h:sub f (d+2) n lo hi)(hp:pg f n=⟨2,[],l1++x::l2⟩)(hlo:ltK lo key0=false)(h3:(l1++x::l2).length≤3)(hfull:sizeP (pg f x.page)=4)
  (hnd:(pgs f (d+2) n).Nodup) (hm:0<m∧m<64) (hmf:m∉pgs f (d+2) n) (e1:pg f' n=⟨2,[],l1++x::⟨cutS (pg f x.page) 2,m⟩::l2⟩) (e2:pg f' x.page=cutA (pg f x.page) 2) (e3:pg f' m=cutB (pg f x.page) 2)
  (e4:∀p,p≠n→p≠x.page→p≠m→pg f' p=pg f p):
  sub f' (d+2) n lo hi∧rws f' (d+2) n=rws f (d+2) n∧(pgs f' (d+2) n).Perm (m::pgs f (d+2) n)∧ltK (loAt l1 lo x.least) (cutS (pg f x.page) 2)=true:=by
 obtain⟨l,e,hl2,_,hK⟩:=inner_of h
 obtain rfl:l=l1++x::l2:=by rw[hp] at e;injection e with _ _ e;exact e.symm
 have hpl:=pgs_list (d:=d+1) hp
 have hpx:pgs f (d+1) x.page=x.page::pgsC f d (pg f x.page):=pgs_C
 rw[hpl,List.flatMap_append,List.flatMap_cons] at hnd hmf
 obtain⟨nn,hnd⟩:=List.nodup_cons.1 hnd
 obtain⟨hxnd,hxd⟩:=nodup_mid hnd
 rw[hpx] at hxnd
 have hxn:=(List.nodup_cons.1 hxnd).1
 have hxin:∀p∈pgs f (d+1) x.page,p≠n∧p≠m:=λp hp=>⟨λe=>nn (by rw[←e];exact List.mem_append_right _ (List.mem_append_left _ hp)),λe=>hmf (by rw[←e];exact List.mem_cons_of_mem _ (List.mem_append_right _ (List.mem_append_left _ hp)))⟩
 have hoth:∀k∈l1++l2,∀p∈pgs f (d+1) k.page,p≠n∧p≠m∧p∉pgs f (d+1) x.page:=λk hk p hp=>by
  rcases List.mem_append.1 hk with hk|hk
  ·have hin:p∈l1.flatMap λk=>pgs f (d+1) k.page:=List.mem_flatMap.2 ⟨k,hk,hp⟩
   exact⟨λe=>nn (by rw[←e];exact List.mem_append_left _ hin),λe=>hmf (by rw[←e];exact List.mem_cons_of_mem _ (List.mem_append_left _ hin)),λhx=>(hxd p hx).1 hin⟩
  ·have hin:p∈l2.flatMap λk=>pgs f (d+1) k.page:=List.mem_flatMap.2 ⟨k,hk,hp⟩
   exact⟨λe=>nn (by rw[←e];exact List.mem_append_right _ (List.mem_append_right _ hin)),λe=>hmf (by rw[←e];exact List.mem_cons_of_mem _ (List.mem_append_right _ (List.mem_append_right _ hin))),λhx=>(hxd p hx).2 hin⟩
 obtain⟨k1,k2,k3⟩:=(kids3 (N:=[x]) (N':=[]) rfl).1 hK.ok
 have k2:sub f (d+1) x.page (loAt l1 lo x.least) (nxt hi l2):=k2
 obtain⟨c1,c2,c3⟩:=con_of k2
 obtain⟨d1,d2,d3,d4,d5,d6,d7⟩:=con_cut (m:=2) c1 (by omega) (by omega)
 have hfrm:∀p∈pgsC f d (pg f x.page),pg f' p=pg f p:=λp hp=>by
  have:=hxin p (by rw[hpx];exact List.mem_cons_of_mem _ hp)
  exact e4 p this.1 (λe=>hxn (e▸hp)) this.2
 obtain⟨a1,a2,a3⟩:=con_frame (λp hp=>hfrm p (by rw[←d5];exact List.mem_append_left _ hp)) d1
 obtain⟨b1,b2,b3⟩:=con_frame (λp hp=>hfrm p (by rw[←d5];exact List.mem_append_right _ hp)) d2
 have hxp:=hK.page x (by simp)
 have s1:sub f' (d+1) x.page (loAt l1 lo x.least) (some (cutS (pg f x.page) 2)):=con_mk ⟨by omega,hxp.2⟩ (by rw[e2];exact a1) (loAt_ge hK hlo) (by rw[e2];omega) (λ_=>by rw[e2];omega)
 have hlt:=sub_lt s1 (by omega)
 have s2:sub f' (d+1) m (cutS (pg f x.page) 2) (nxt hi l2):=con_mk ⟨by omega,hm.2⟩ (by rw[e3];exact b1) (le_le (loAt_ge hK hlo) (lt_asymm hlt)) (by rw[e3];omega) (λ_=>by rw[e3];omega)
 have r1:rws f' (d+1) x.page++rws f' (d+1) m=rws f (d+1) x.page:=by rw[rws_C,rws_C,rws_C,e2,e3,a2,b2,d4]
 have hmx:∀k∈l1++x::l2,k.page≠m:=λk hk e=>hmf (by
  rw[←e]
  refine List.mem_cons_of_mem _ ?_
  have:=kid_self (f:=f) (d:=d) hk
  rw[List.flatMap_append,List.flatMap_cons] at this
  exact this)
 obtain⟨g1,g2,g3⟩:=block_step (N:=[x]) (M:=[x,⟨cutS (pg f x.page) 2,m⟩]) (x:=x) (x':=x) h hp e1 hlo (by simp;omega) (by simp at h3⊢;omega) rfl rfl rfl (λk hk p hp=>by
   obtain⟨q1,q2,q3⟩:=hoth k hk p hp
   exact e4 p q1 (λe=>q3 (by rw[e];exact pgs_self)) q2) ⟨s1,s2⟩ (λk hk=>by
   rcases List.mem_cons.1 hk with rfl|hk
   ·exact hxp
   ·cases List.mem_singleton.1 hk;exact hm) (by
   simp only[List.map_cons,List.map_nil]
   exact List.nodup_cons.2 ⟨by simpa using hmx x (by simp),by simp⟩) (λk hk j hj=>by
   rcases List.mem_cons.1 hk with rfl|hk
   ·have:=(hoth j hj j.page pgs_self).2.2
    exact λe=>this (by rw[←e];exact pgs_self)
   ·cases List.mem_singleton.1 hk
    refine(hmx j ?_).symm
    rcases List.mem_append.1 hj with hj|hj
    ·exact List.mem_append_left _ hj
    ·exact List.mem_append_right _ (List.mem_cons_of_mem _ hj)) (λk hk=>by
   rcases List.mem_cons.1 hk with rfl|hk
   ·exact hK.tab k (by simp)
   ·cases List.mem_singleton.1 hk;exact d3) (by
   simp only[List.flatMap_cons,List.flatMap_nil,List.append_nil];exact r1)
 refine⟨g1,g2, ?_,hlt⟩
 have q1:pgs f' (d+1) x.page=x.page::pgsC f d (cutA (pg f x.page) 2):=by rw[pgs_C,e2,a3]
 have q2:pgs f' (d+1) m=m::pgsC f d (cutB (pg f x.page) 2):=by rw[pgs_C,e3,b3]
 rw[g3,hpl]
 simp only[List.flatMap_cons,List.flatMap_nil,List.append_nil,List.flatMap_append,q1,q2,hpx,←d5]
 refine List.perm_iff_count.2 λa=> ?_
 simp only[List.count_cons,List.count_append]
 omega
theorem part_step{f f':List Content}{d:Nat}{a b:Int}(h:sub f (d+1) 0 key0 none)(hfull:sizeP (pg f 0)=4)(hnd:(pgs f (d+1) 0).Nodup)(ha:0<a∧a<64)(hb:0<b∧b<64)(hab:a≠b)(haf:a∉pgs f (d+1) 0)(hbf:b∉pgs f (d+1) 0)
  (e1:pg f' 0=⟨2,[],[⟨key0,a⟩,⟨cutS (pg f 0) 2,b⟩]⟩) (e2:pg f' a=cutA (pg f 0) 2) (e3:pg f' b=cutB (pg f 0) 2) (e4:∀p,p≠0→p≠a→p≠b→pg f' p=pg f p):
  sub f' (d+2) 0 key0 none∧rws f' (d+2) 0=rws f (d+1) 0∧(pgs f' (d+2) 0).Perm (a::b::pgs f (d+1) 0):=by
 have hpx:pgs f (d+1) 0=0::pgsC f d (pg f 0):=pgs_C
 obtain⟨c1,c2,c3⟩:=con_of h
 obtain⟨d1,d2,d3,d4,d5,d6,d7⟩:=con_cut (m:=2) c1 (by omega) (by omega)
 rw[hpx] at hnd haf hbf
 have hxn:=(List.nodup_cons.1 hnd).1
 have hfrm:∀p∈pgsC f d (pg f 0),pg f' p=pg f p:=λp hp=>e4 p (λe=>hxn (e▸hp)) (λe=>haf (by rw[←e];exact List.mem_cons_of_mem _ hp)) (λe=>hbf (by rw[←e];exact List.mem_cons_of_mem _ hp))
 obtain⟨a1,a2,a3⟩:=con_frame (λp hp=>hfrm p (by rw[←d5];exact List.mem_append_left _ hp)) d1
 obtain⟨b1,b2,b3⟩:=con_frame (λp hp=>hfrm p (by rw[←d5];exact List.mem_append_right _ hp)) d2
 have s1:sub f' (d+1) a key0 (some (cutS (pg f 0) 2)):=con_mk ⟨by omega,ha.2⟩ (by rw[e2];exact a1) (ltK_irrefl _) (by rw[e2];omega) (λ_=>by rw[e2];omega)
 have hlt:=sub_lt s1 (by omega)
 have s2:sub f' (d+1) b (cutS (pg f 0) 2) none:=con_mk ⟨by omega,hb.2⟩ (by rw[e3];exact b1) (lt_asymm hlt) (by rw[e3];omega) (λ_=>by rw[e3];omega)
 refine⟨mk_inner ⟨by omega,by omega⟩ e1 ⟨⟨s1,s2⟩,λk hk=> ?_, ?_,λk hk=> ?_,λk hk=>by cases hk;rfl⟩ (ltK_irrefl _) (by simp) (by simp), ?_, ?_⟩
 ·rcases List.mem_cons.1 hk with rfl|hk
  ·exact ha
  ·cases List.mem_singleton.1 hk;exact hb
 ·simp only[List.map_cons,List.map_nil]
  exact List.nodup_cons.2 ⟨by simpa using hab,by simp⟩
 ·rcases List.mem_cons.1 hk with rfl|hk
  ·rfl
  ·cases List.mem_singleton.1 hk;exact d3
 ·rw[rws,e1]
  simp only[List.flatMap_cons,List.flatMap_nil,List.append_nil,List.nil_append,rws_C,e2,e3,a2,b2,d4]
 ·rw[pgs,e1,hpx]
  simp only[List.flatMap_cons,List.flatMap_nil,List.append_nil,pgs_C,e2,e3,a3,b3,←d5]
  refine List.perm_iff_count.2 λa=> ?_
  simp only[List.count_cons,List.count_append]
  omega
structure Pair(f:List Content)(d:Nat)(n:Int)(lo:Key)(hi:Option Key)(l1 l2:List Kid)(x y:Kid):Prop where
 kids:KidsR f (d+1) lo hi (l1++x::y::l2)
 cx:conS f d (loAt l1 lo x.least) (some y.least) (pg f x.page)
 cy:conS f d y.least (nxt hi l2) (pg f y.page)
 x4:sizeP (pg f x.page)≤4
 y4:sizeP (pg f y.page)≤4
 x2:2≤sizeP (pg f x.page)
 y2:2≤sizeP (pg f y.page)
 lt:ltK (loAt l1 lo x.least) y.least=true
 up:∀h,nxt hi l2=some h→ltK y.least h=true
 xp:0<x.page∧x.page<64
 yp:0<y.page∧y.page<64
 xn:x.page≠n
 yn:y.page≠n
 xy:x.page≠y.page
 below:∀p∈pgsC f d (pg f x.page)++pgsC f d (pg f y.page),p≠n∧p≠x.page∧p≠y.page
 apart:∀p∈pgsC f d (pg f x.page),p∉pgsC f d (pg f y.page)
 oth:∀k∈l1++l2,∀p∈pgs f (d+1) k.page,p≠n∧p≠x.page∧p≠y.page
theorem five{n x y:Int}{A X Y B:List Int}(h:(n::(A++((x::X)++((y::Y)++B)))).Nodup):x≠n∧y≠n∧x≠y∧(∀p,(p∈X∨p∈Y)→p≠n∧p≠x∧p≠y)∧(∀p∈X,p∉Y)∧∀p,(p∈A∨p∈B)→p≠n∧p≠x∧p≠y:=by
 simp only[List.nodup_cons,List.nodup_append,List.mem_append,List.mem_cons,List.cons_append] at h
 grind
theorem mk_pair{f:List Content}{d:Nat}{n:Int}{lo:Key}{hi:Option Key}{l1 l2:List Kid}{x y:Kid}(h:sub f (d+2) n lo hi)(hp:pg f n=⟨2,[],l1++x::y::l2⟩)(hlo:ltK lo key0=false)(hnd:(pgs f (d+2) n).Nodup):Pair f d n lo hi l1 l2 x y:=by
 obtain⟨l,e,_,_,hK⟩:=inner_of h
 obtain rfl:l=l1++x::y::l2:=by rw[hp] at e;injection e with _ _ e;exact e.symm
 have hpl:=pgs_list (d:=d+1) hp
 have hpx:pgs f (d+1) x.page=x.page::pgsC f d (pg f x.page):=pgs_C
 have hpy:pgs f (d+1) y.page=y.page::pgsC f d (pg f y.page):=pgs_C
 rw[hpl,List.flatMap_append,List.flatMap_cons,List.flatMap_cons,hpx,hpy] at hnd
 obtain⟨f1,f2,f3,f4,f5,f6⟩:=five hnd
 obtain⟨k1,k2,k3⟩:=(kids3 (N:=[x,y]) (N':=[y]) rfl).1 hK.ok
 obtain⟨k2,k2'⟩:sub f (d+1) x.page (loAt l1 lo x.least) (some y.least)∧sub f (d+1) y.page y.least (nxt hi l2):=k2
 obtain⟨c1,c2,c3⟩:=con_of k2
 obtain⟨b1,b2,b3⟩:=con_of k2'
 have hxp:=hK.page x (by simp)
 have hyp:=hK.page y (by simp)
 refine⟨hK,c1,b1,c2,b2,c3 (Or.inl (by omega)),b3 (Or.inl (by omega)),sub_lt k2 (by omega),λh e=>by rw[e] at k2';exact sub_lt k2' (by omega),hxp,hyp,f1,f2,f3,λp hp=>f4 p (List.mem_append.1 hp),f5,λk hk p hp=>f6 p ?_⟩
 rcases List.mem_append.1 hk with hk|hk
 ·exact Or.inl (List.mem_flatMap.2 ⟨k,hk,hp⟩)
 ·exact Or.inr (List.mem_flatMap.2 ⟨k,hk,hp⟩)
end Go.Proofs.YtlcmdgpjiendmaaGreat
namespace Go.Proofs.YtlcmdgpjiendmaaGreat
open Go.Bur
set_option linter.unusedSimpArgs false
set_option linter.unusedVariables false
set_option maxRecDepth 100000
theorem kid_page{f:List Content}{d:Nat}{lo:Key}{hi:Option Key}{c:Content}(h:conS f d lo hi c):∀k∈c.kids,k.page∈pgsC f d c:=λk hk=>by
 cases d with
 |zero=>obtain⟨l,rfl,_⟩:=h;cases hk
 |succ d=>exact List.mem_flatMap.2 ⟨k,hk,pgs_self⟩
theorem Pair.both{f:List Content}{d:Nat}{n:Int}{lo:Key}{hi:Option Key}{l1 l2:List Kid}{x y:Kid}(P:Pair f d n lo hi l1 l2 x y):
  conS f d (loAt l1 lo x.least) (nxt hi l2) (bothC (pg f x.page) (pg f y.page) y.least)∧rwsC f d (bothC (pg f x.page) (pg f y.page) y.least)=rwsC f d (pg f x.page)++rwsC f d (pg f y.page)∧
  pgsC f d (bothC (pg f x.page) (pg f y.page) y.least)=pgsC f d (pg f x.page)++pgsC f d (pg f y.page)∧sizeP (bothC (pg f x.page) (pg f y.page) y.least)=sizeP (pg f x.page)+sizeP (pg f y.page):=
 con_both P.cx P.cy (by have:=P.x2;omega) (by have:=P.y2;omega) (lt_asymm P.lt) P.up (P.kids.tab y (by simp)) λu hu v hv e=>P.apart u.page (kid_page P.cx u hu) (e▸kid_page P.cy v hv)
theorem Pair.rows{f:List Content}{d:Nat}{n:Int}{lo:Key}{hi:Option Key}{l1 l2:List Kid}{x y:Kid}(P:Pair f d n lo hi l1 l2 x y):rwsC f d (pg f x.page)++rwsC f d (pg f y.page)=rws f (d+1) x.page++rws f (d+1) y.page:=by rw[rws_C,rws_C]
theorem level_step{f f':List Content}{d m:Nat}{n:Int}{lo:Key}{hi:Option Key}{l1 l2:List Kid}{x y:Kid}{B:Content}(h:sub f (d+2) n lo hi)(hp:pg f n=⟨2,[],l1++x::y::l2⟩)(hlo:ltK lo key0=false)(hnd:(pgs f (d+2) n).Nodup)
  (hB:bothC (pg f x.page) (pg f y.page) y.least=B) (h2:2≤m) (h4:m≤4) (h2':m+2≤sizeP B) (h4':sizeP B≤m+4) (e1:pg f' n=⟨2,[],l1++x::⟨cutS B m,y.page⟩::l2⟩) (e2:pg f' x.page=cutA B m) (e3:pg f' y.page=cutB B m) (e4:∀p,p≠n→p≠x.page→p≠y.page→pg f' p=pg f p):
  sub f' (d+2) n lo hi∧rws f' (d+2) n=rws f (d+2) n∧(pgs f' (d+2) n).Perm (pgs f (d+2) n)∧ltK (loAt l1 lo x.least) (cutS B m)=true:=by
 have P:=mk_pair h hp hlo hnd
 obtain⟨l,e,hl2,hl4,hK⟩:=inner_of h
 obtain rfl:l=l1++x::y::l2:=by rw[hp] at e;injection e with _ _ e;exact e.symm
 obtain⟨b1,b2,b3,b4⟩:=P.both
 rw[hB] at b1 b2 b3 b4
 obtain⟨d1,d2,d3,d4,d5,d6,d7⟩:=con_cut (m:=m) b1 (by omega) (by omega)
 have hfrm:∀p∈pgsC f d B,pg f' p=pg f p:=λp hp=>by
  rw[b3] at hp
  obtain⟨q1,q2,q3⟩:=P.below p hp
  exact e4 p q1 q2 q3
 obtain⟨a1,a2,a3⟩:=con_frame (λp hp=>hfrm p (by rw[←d5];exact List.mem_append_left _ hp)) d1
 obtain⟨c1,c2,c3⟩:=con_frame (λp hp=>hfrm p (by rw[←d5];exact List.mem_append_right _ hp)) d2
 have hge:=loAt_ge hK hlo
 have s1:sub f' (d+1) x.page (loAt l1 lo x.least) (some (cutS B m)):=con_mk ⟨by have:=P.xp;omega,P.xp.2⟩ (by rw[e2];exact a1) hge (by rw[e2];omega) (λ_=>by rw[e2];omega)
 have hlt:=sub_lt s1 (by have:=P.xp;omega)
 have s2:sub f' (d+1) y.page (cutS B m) (nxt hi l2):=con_mk ⟨by have:=P.yp;omega,P.yp.2⟩ (by rw[e3];exact c1) (le_le hge (lt_asymm hlt)) (by rw[e3];omega) (λ_=>by rw[e3];omega)
 have r1:rws f' (d+1) x.page++rws f' (d+1) y.page=rws f (d+1) x.page++rws f (d+1) y.page:=by
  rw[rws_C (n:=x.page),rws_C (n:=y.page),e2,e3,a2,c2,d4,b2,P.rows]
 have hpl:=pgs_list (d:=d+1) hp
 obtain⟨g1,g2,g3⟩:=block_step (N:=[x,y]) (M:=[x,⟨cutS B m,y.page⟩]) (x:=x) (x':=x) h hp e1 hlo (by simp at hl2⊢;omega) (by simp at hl4⊢;omega) rfl rfl rfl (λk hk p hp=>by
   obtain⟨q1,q2,q3⟩:=P.oth k hk p hp
   exact e4 p q1 q2 q3) ⟨s1,s2⟩ (λk hk=>by
   rcases List.mem_cons.1 hk with rfl|hk
   ·exact P.xp
   ·cases List.mem_singleton.1 hk;exact P.yp) (by
   simp only[List.map_cons,List.map_nil]
   exact List.nodup_cons.2 ⟨by simpa using P.xy,by simp⟩) (λk hk j hj=>by
   obtain⟨q1,q2,q3⟩:=P.oth j hj j.page pgs_self
   rcases List.mem_cons.1 hk with rfl|hk
   ·exact λe=>q2 e.symm
   ·cases List.mem_singleton.1 hk;exact λe=>q3 e.symm) (λk hk=>by
   rcases List.mem_cons.1 hk with rfl|hk
   ·exact hK.tab k (by simp)
   ·cases List.mem_singleton.1 hk;exact d3) (by
   simp only[List.flatMap_cons,List.flatMap_nil,List.append_nil];exact r1)
 refine⟨g1,g2, ?_,hlt⟩
 have q1:pgs f' (d+1) x.page=x.page::pgsC f d (cutA B m):=by rw[pgs_C,e2,a3]
 have q2:pgs f' (d+1) y.page=y.page::pgsC f d (cutB B m):=by rw[pgs_C,e3,c3]
 have hc:∀a,(pgsC f d (cutA B m)).count a+(pgsC f d (cutB B m)).count a=(pgsC f d (pg f x.page)).count a+(pgsC f d (pg f y.page)).count a:=λa=>by
  rw[←List.count_append,←List.count_append,d5,b3]
 rw[g3,hpl]
 simp only[List.flatMap_cons,List.flatMap_nil,List.append_nil,List.flatMap_append,q1,q2,pgs_C (n:=x.page),pgs_C (n:=y.page)]
 refine List.perm_iff_count.2 λa=> ?_
 have:=hc a
 simp only[List.count_cons,List.count_append]
 omega
theorem join_step{f f':List Content}{d:Nat}{n:Int}{lo:Key}{hi:Option Key}{l1 l2:List Kid}{x y:Kid}{B:Content}(h:sub f (d+2) n lo hi)(hp:pg f n=⟨2,[],l1++x::y::l2⟩)(hlo:ltK lo key0=false)(hnd:(pgs f (d+2) n).Nodup)
  (hB:bothC (pg f x.page) (pg f y.page) y.least=B) (h3:3≤(l1++x::y::l2).length) (h4:sizeP B≤4) (e1:pg f' n=⟨2,[],l1++x::l2⟩) (e2:pg f' x.page=B) (e4:∀p,p≠n→p≠x.page→p≠y.page→pg f' p=pg f p):
  sub f' (d+2) n lo hi∧rws f' (d+2) n=rws f (d+2) n∧(pgs f (d+2) n).Perm (y.page::pgs f' (d+2) n):=by
 have P:=mk_pair h hp hlo hnd
 obtain⟨l,e,hl2,hl4,hK⟩:=inner_of h
 obtain rfl:l=l1++x::y::l2:=by rw[hp] at e;injection e with _ _ e;exact e.symm
 obtain⟨b1,b2,b3,b4⟩:=P.both
 rw[hB] at b1 b2 b3 b4
 have hfrm:∀p∈pgsC f d B,pg f' p=pg f p:=λp hp=>by
  rw[b3] at hp
  obtain⟨q1,q2,q3⟩:=P.below p hp
  exact e4 p q1 q2 q3
 obtain⟨a1,a2,a3⟩:=con_frame hfrm b1
 have hge:=loAt_ge hK hlo
 have s1:sub f' (d+1) x.page (loAt l1 lo x.least) (nxt hi l2):=con_mk ⟨by have:=P.xp;omega,P.xp.2⟩ (by rw[e2];exact a1) hge (by rw[e2];omega) (λ_=>by rw[e2,b4];have:=P.x2;omega)
 have r1:rws f' (d+1) x.page=rws f (d+1) x.page++rws f (d+1) y.page:=by
  rw[rws_C (n:=x.page),e2,a2,b2,P.rows]
 have hpl:=pgs_list (d:=d+1) hp
 obtain⟨g1,g2,g3⟩:=block_step (N:=[x,y]) (M:=[x]) (x:=x) (x':=x) h hp e1 hlo (by simp at h3⊢;omega) (by simp at hl4⊢;omega) rfl rfl rfl (λk hk p hp=>by
   obtain⟨q1,q2,q3⟩:=P.oth k hk p hp
   exact e4 p q1 q2 q3) s1 (λk hk=>by cases List.mem_singleton.1 hk;exact P.xp) (by simp) (λk hk j hj=>by
   obtain⟨q1,q2,q3⟩:=P.oth j hj j.page pgs_self
   cases List.mem_singleton.1 hk
   exact λe=>q2 e.symm) (λk hk=>by cases List.mem_singleton.1 hk;exact hK.tab x (by simp)) (by
   simp only[List.flatMap_cons,List.flatMap_nil,List.append_nil];exact r1)
 refine⟨g1,g2, ?_⟩
 have q1:pgs f' (d+1) x.page=x.page::(pgsC f d (pg f x.page)++pgsC f d (pg f y.page)):=by rw[pgs_C,e2,a3,b3]
 rw[g3,hpl]
 simp only[List.flatMap_cons,List.flatMap_nil,List.append_nil,List.flatMap_append,q1,pgs_C (n:=x.page),pgs_C (n:=y.page)]
 refine List.perm_iff_count.2 λa=> ?_
 simp only[List.count_cons,List.count_append]
 omega
theorem root_step{f f':List Content}{d:Nat}{x y:Kid}{B:Content}(h:sub f (d+2) 0 key0 none)(hp:pg f 0=⟨2,[],[x,y]⟩)(hnd:(pgs f (d+2) 0).Nodup)
  (hB:bothC (pg f x.page) (pg f y.page) y.least=B) (h4:sizeP B≤4) (e1:pg f' 0=B) (e4:∀p,p≠0→p≠x.page→p≠y.page→pg f' p=pg f p):
  sub f' (d+1) 0 key0 none∧rws f' (d+1) 0=rws f (d+2) 0∧(pgs f (d+2) 0).Perm (x.page::y.page::pgs f' (d+1) 0):=by
 have P:=mk_pair (l1:=[]) (l2:=[]) h hp (ltK_irrefl _) hnd
 obtain⟨b1,b2,b3,b4⟩:=P.both
 rw[hB] at b1 b2 b3 b4
 have hfrm:∀p∈pgsC f d B,pg f' p=pg f p:=λp hp=>by
  rw[b3] at hp
  obtain⟨q1,q2,q3⟩:=P.below p hp
  exact e4 p q1 q2 q3
 obtain⟨a1,a2,a3⟩:=con_frame hfrm b1
 have hx2:=P.x2
 refine⟨con_mk ⟨by omega,by omega⟩ (by rw[e1];exact a1) (ltK_irrefl _) (by rw[e1];omega) (λ_=>by rw[e1,b4];omega), ?_, ?_⟩
 ·have e:rws f (d+2) 0=rws f (d+1) x.page++rws f (d+1) y.page:=by rw[rws,hp];simp
  rw[e,rws_C (n:=0) (f:=f') (d:=d),e1,a2,b2,P.rows]
 ·rw[pgs_C (n:=0) (f:=f') (d:=d),e1,a3,b3,pgs_list (d:=d+1) hp]
  simp only[List.flatMap_cons,List.flatMap_nil,List.append_nil,pgs_C (n:=x.page),pgs_C (n:=y.page)]
  refine List.perm_iff_count.2 λa=> ?_
  simp only[List.count_cons,List.count_append]
  omega
end Go.Proofs.YtlcmdgpjiendmaaGreat
namespace Go.Proofs.YtlcmdgpjiendmaaGreat
open Go.Bur
set_option linter.unusedSimpArgs false
set_option linter.unusedVariables false
set_option maxRecDepth 100000
theorem rows_few{f:List Content}:∀{d:Nat} {n:Int} {lo:Key} {hi:Option Key},sub f d n lo hi→(rws f d n).length≤4*(pgs f d n).length
 |1,n,lo,hi,h=>by
  obtain⟨_,_,l,h3,h4,h5⟩:=h
  have e:rws f 1 n=l:=by rw[rws,h3];simp
  have e2:pgs f 1 n=[n]:=by rw[pgs,h3];rfl
  rw[e,e2];have:=h4.len;simpa using this
 |d+2,n,lo,hi,h=>by
  obtain⟨_,_,l,h3,h4,h5,h6⟩:=h
  have e:rws f (d+2) n=l.flatMap λk=>rws f (d+1) k.page:=by rw[rws,h3];rfl
  have e2:pgs f (d+2) n=n::l.flatMap λk=>pgs f (d+1) k.page:=by rw[pgs,h3]
  have key:∀(t:List Kid),(∀k∈t,k∈l)→(t.flatMap λk=>rws f (d+1) k.page).length≤4*(t.flatMap λk=>pgs f (d+1) k.page).length:=by
   intro t
   induction t with
   |nil=>intro _;simp
   |cons k t ih=>
    intro ht
    obtain⟨a,b,hs⟩:=kidsOk_all h6 k (ht k (List.mem_cons_self ..))
    have:=rows_few hs
    have:=ih λx hx=>ht x (List.mem_cons_of_mem _ hx)
    simp only[List.flatMap_cons,List.length_append];omega
  have:=key l λk hk=>hk
  rw[e,e2];simp only[List.length_cons];omega
theorem Good.rows{f:List Content}{d:Nat}(h:Good f d):(rws f d 0).length≤256:=by
 have h1:=rows_few h.tree
 have h2:=nodup_len h.nodup λx hx=>(sub_in h.tree x hx).1
 omega
theorem rrows_l1(N:Nat)(hN:1003≤N){f:List Content}{d:Nat}{l:List Kid}(hl:l.length≤1000)
  (self:Forest×Int×Unit→Option (List Row)) (hs:∀k∈l,self (⟨f⟩,k.page,())=some (rws f d k.page)) (c:Content) (hcl:c.kids=l):
  ∀(m:Nat)(t:List Kid)(i:Nat)(acc:List Row),l.drop i=t→i≤l.length→t.length<m→acc.length+(t.flatMap λk=>rws f d k.page).length≤1000000→
  ref13_Rows_l1 N self m ((i:Int),⟨f⟩,c,acc,())=some (acc++t.flatMap λk=>rws f d k.page):=by
 intro m
 induction m with
 |zero=>intro t i acc _ _ h;omega
 |succ m ih=>
  intro t i acc ht hi hk ha
  unfold ref13_Rows_l1
  rw[loopF_succ]
  generalize hr:loopF _ m=r1
  replace hr:ref13_Rows_l1 N self m=r1:=hr
  simp only[hr] at ih
  simp only[hcl]
  cases t with
  |nil=>
   cases drop_end ht hi
   simp only[ge_dec (Nat.lt_irrefl _),cond_false,List.flatMap_nil,List.append_nil]
  |cons x t=>
   obtain⟨h1,h2,h3⟩:=drop_get ht
   rw[List.flatMap_cons,List.length_append] at ha
   simp only[lt_dec h3,cond_true,idx_nat,h1,Option.bind_some,hs x (List.mem_of_getElem? h1),app_lt (show acc.length+(rws f d x.page).length≤1000000 by omega) (show 40≤1000 by omega),wrap_succ (show i<4611686018427387904 by omega)]
   rw[ih t (i+1) (acc++rws f d x.page) h2 (by omega) (by simp only[List.length_cons] at hk;omega) (by rw[List.length_append];omega),List.flatMap_cons,List.append_assoc]
theorem rrows_go{f:List Content}(hf:f.length=64):∀(d N:Nat)(n:Int)(lo:Key)(hi:Option Key),sub f d n lo hi→d+1003≤N→(rws f d n).length≤1000000→ref13_Rows N ⟨f⟩ n=some (rws f d n)
 |0,_,_,_,_,h,_,_=>h.elim
 |d+1,0,_,_,_,_,h,_=>by omega
 |1,N+1,n,lo,hi,h,hN,ha=>by
  obtain⟨h1,h2,l,h3,h4,h5⟩:=h
  have e:rws f 1 n=l:=by rw[rws,h3];simp
  rw[e] at ha⊢
  show ref13_Rows_b N (recF _ N) ⟨f⟩ n=_
  unfold ref13_Rows_b
  rw[show idx (Forest.mk f).pages n=some (pg f n) from idx_pg (f:=f) ⟨h1.1,by omega⟩,h3]
  simp only[Option.bind_some,app_lt (show([]:List Row).length+l.length≤1000000 by simpa using ha) (show 40≤1000 by omega)]
  have:=rrows_l1 N (by omega) (f:=f) (d:=0) (l:=[]) (by simp) (recF (λn self x=>ref13_Rows_b n self x.1 x.2.1) N) (by simp) ⟨1,l,[]⟩ rfl N [] 0 ([]++l) rfl (Nat.zero_le _) (by simp;omega) (by simpa using ha)
  simp only[List.nil_append,List.flatMap_nil,List.append_nil] at this
  exact this
 |d+2,N+1,n,lo,hi,h,hN,ha=>by
  obtain⟨h1,h2,l,h3,h4,h5,h6⟩:=h
  have e:rws f (d+2) n=l.flatMap λk=>rws f (d+1) k.page:=by rw[rws,h3];rfl
  rw[e] at ha⊢
  show ref13_Rows_b N (recF _ N) ⟨f⟩ n=_
  unfold ref13_Rows_b
  rw[show idx (Forest.mk f).pages n=some (pg f n) from idx_pg (f:=f) ⟨h1.1,by omega⟩,h3]
  simp only[Option.bind_some,app_lt (show([]:List Row).length+([]:List Row).length≤1000000 by simp) (show 40≤1000 by omega)]
  have h4':=h4.four
  have:=rrows_l1 N (by omega) (f:=f) (d:=d+1) (l:=l) (by omega) (recF (λn self x=>ref13_Rows_b n self x.1 x.2.1) N) (λk hk=>by
   obtain⟨a,b,hs⟩:=kidsOk_all h6 k hk
   have hk':(rws f (d+1) k.page).length≤1000000:=by
    obtain⟨u,v,e⟩:=List.append_of_mem hk
    rw[e] at ha
    simp only[List.flatMap_append,List.flatMap_cons,List.length_append] at ha
    omega
   exact rrows_go hf (d+1) N k.page a b hs (by omega) hk') ⟨2,[],l⟩ rfl N l 0 [] rfl (Nat.zero_le _) (by omega) (by simpa using ha)
  simp only[List.nil_append] at this
  exact this
theorem rrows_good(N:Nat)(hN:2000≤N){f:List Content}{d:Nat}(hg:Good f d):ref13_Rows N ⟨f⟩ 0=some (rws f d 0):=
 rrows_go hg.len d N 0 key0 none hg.tree (by have:=hg.deep;omega) (by have:=hg.rows;omega)
def eqL{α:Type}(e:α→α→Bool):List α→List α→Bool
 |[],[]=>true
 |a::s,b::t=>e a b&&eqL e s t
 |_,_=>false
theorem eqL_len{α:Type}{e:α→α→Bool}:∀{a b:List α},eqL e a b=true→a.length=b.length
 |[],[],_=>rfl
 |a::s,b::t,h=>by
  simp only[eqL,Bool.and_eq_true] at h
  simp only[List.length_cons,eqL_len h.2]
 |[],_::_,h=>by cases h
 |_::_,[],h=>by cases h
theorem eqL_refl{α:Type}{e:α→α→Bool}(he:∀a,e a a=true):∀(l:List α),eqL e l l=true
 |[]=>rfl
 |a::t=>by simp only[eqL,he,eqL_refl he t,Bool.and_self]
theorem eqL_false{α:Type}{e:α→α→Bool}{a b:List α}(h:a.length≠b.length):eqL e a b=false:=by
 cases hh:eqL e a b with
 |false=>rfl
 |true=>exact absurd (eqL_len hh) h
theorem eq_loop{α T R:Type}{F:(T→Option R)→T→Option R}{e:α→α→Bool}{no yes:Option R}(a b:List α)(hab:a.length=b.length)(mk:Nat→T)
  (hF:∀r i x y,a[i]? =some x→b[i]? =some y→i<a.length→F r (mk i)=if e x y then r (mk (i+1)) else no)
  (hE:∀r,F r (mk a.length)=yes):∀(m i:Nat),i≤a.length→a.length-i<m→loopF F m (mk i)=if eqL e (a.drop i) (b.drop i) then yes else no:=by
 intro m
 induction m with
 |zero=>intro i _ h;omega
 |succ m ih=>
  intro i hi hm
  rw[loopF_succ]
  by_cases h:i<a.length
  ·have h':i<b.length:=by omega
   rw[hF _ i _ _ (get_some h) (get_some h') h,drop_cons h,drop_cons h']
   simp only[eqL]
   by_cases hx:e a[i] b[i]=true
   ·simp only[hx,if_true,Bool.true_and,ih (i+1) (by omega) (by omega)]
   ·rw[Bool.not_eq_true] at hx
    simp[hx]
  ·obtain rfl:i=a.length:=by omega
   rw[hE,drop_nil h,drop_nil (by omega)];rfl
def sameC(a b:Content):Bool:=decide (a.kind=b.kind)&&(eqL Row.eqb a.rows b.rows&&eqL Kid.eqb a.kids b.kids)
theorem lenne{α β:Type}(a:List α)(b:List β):((a.length:Int) !=(b.length:Int))= !decide (a.length=b.length):=by
 rw[bne,ibeq];congr 1;exact decide_eq_decide.2 (by omega)
theorem rsame_eq(n:Nat)(hn:1003≤n)(a b:Content)(ha:Fine a):ref06_Same n a b=some (sameC a b):=by
 have hr:=ha.rows
 have hk:=ha.kids
 unfold ref06_Same sameC
 simp only[jn,lenne]
 rw[show(a.kind !=b.kind)= !decide (a.kind=b.kind) by rw[bne,ibeq]]
 cases decide (a.kind=b.kind) with
 |false=>rfl
 |true=>
  simp only[Bool.not_true,cond_false,Bool.true_and]
  by_cases h1:a.rows.length=b.rows.length
  case neg=>rw[decide_eq_false h1,eqL_false h1];rfl
  by_cases h2:a.kids.length=b.kids.length
  case neg=>rw[decide_eq_true h1,decide_eq_false h2,eqL_false h2,Bool.and_false];rfl
  rw[decide_eq_true h1,decide_eq_true h2]
  simp only[Bool.not_true,cond_false]
  show ref06_Same_l1 n n ((a.rows.length:Int),((0:Nat):Int),a,b,())=_
  unfold ref06_Same_l1
  refine(eq_loop (e:=Row.eqb) (no:=some false) (yes:=some (eqL Kid.eqb a.kids b.kids)) a.rows b.rows h1 (λi=>((a.rows.length:Int),(i:Int),a,b,())) (λr i x y hx hy hi=> ?_) (λr=> ?_) n 0 (Nat.zero_le _) (by omega)).trans ?_
  ·simp only[lt_dec hi,cond_true,idx_nat,hx,hy,Option.bind_some,wrap_succ (show i<4611686018427387904 by omega)]
   cases Row.eqb x y<;>simp
  ·simp only[ge_dec (Nat.lt_irrefl _),cond_false]
   show ref06_Same_l2 n n ((a.kids.length:Int),((0:Nat):Int),a,b,())=_
   unfold ref06_Same_l2
   refine(eq_loop (e:=Kid.eqb) (no:=some false) (yes:=some true) a.kids b.kids h2 (λi=>((a.kids.length:Int),(i:Int),a,b,())) (λr i x y hx hy hi=> ?_) (λr=> ?_) n 0 (Nat.zero_le _) (by omega)).trans ?_
   ·simp only[lt_dec hi,cond_true,idx_nat,hx,hy,Option.bind_some,wrap_succ (show i<4611686018427387904 by omega)]
    cases Kid.eqb x y<;>simp
   ·simp only[ge_dec (Nat.lt_irrefl _),cond_false]
   ·simp only[List.drop_zero];cases eqL Kid.eqb a.kids b.kids<;>rfl
  ·simp only[List.drop_zero];cases eqL Row.eqb a.rows b.rows<;>rfl
theorem rtsame_eq(n:Nat)(hn:1003≤n)(f g:List Content)(hl:f.length≤1000)(hf:∀c∈f,Fine c):ref13_Same n ⟨f⟩ ⟨g⟩=some (eqL sameC f g):=by
 unfold ref13_Same
 rw[lenne]
 by_cases h:f.length=g.length
 ·rw[decide_eq_true h,Bool.not_true,cond_false]
  show ref13_Same_l1 n n (((0:Nat):Int),⟨f⟩,⟨g⟩,())=_
  unfold ref13_Same_l1
  refine(eq_loop (e:=sameC) (no:=some false) (yes:=some true) f g h (λi=>((i:Int),(⟨f⟩:Forest),(⟨g⟩:Forest),())) (λr i x y hx hy hi=> ?_) (λr=> ?_) n 0 (Nat.zero_le _) (by omega)).trans ?_
  ·simp only[lt_dec hi,cond_true,idx_nat,hx,hy,Option.bind_some,rsame_eq n hn x y (hf x (List.mem_of_getElem? hx)),wrap_succ (show i<4611686018427387904 by omega)]
   cases sameC x y<;>simp
  ·simp only[ge_dec (Nat.lt_irrefl _),cond_false]
  ·simp only[List.drop_zero];cases eqL sameC f g<;>rfl
 ·rw[decide_eq_false h,eqL_false h];rfl
theorem sameC_refl(c:Content):sameC c c=true:=by
 unfold sameC
 rw[decide_eq_true rfl,eqL_refl eqb_row,eqL_refl eqb_kid];rfl
end Go.Proofs.YtlcmdgpjiendmaaGreat
