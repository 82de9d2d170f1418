import Derived.Test.YtlcmdgpjiendmaaGreatTreF
namespace Go.Proofs.YtlcmdgpjiendmaaGreat
open Go.Bur
set_option linter.unusedSimpArgs false
set_option linter.unusedVariables false
set_option maxRecDepth 100000
def gsub(f:List Content):Nat→Int→Key→Option Key→Prop
 |0=>λ_ _ _=>False
 |m+1=>λn lo hi=>(0≤n∧n<64)∧(n≠0→2≤sizeP (pg f n))∧((∃l,pg f n=⟨1,l,[]⟩∧LeafOk l∧∀r∈l,within r.key lo hi=true)∨∃l,pg f n=⟨2,[],l⟩∧InnerOk l∧(∀k∈l.tail,within k.least lo hi=true)∧kidsOk (gsub f m) hi lo l)
def kidsP(F:Int→Key→Option Key→List Int)(hi:Option Key)(lo:Key):Bool→List Kid→List Int→List Int
 |_,[],acc=>acc
 |fst,k::t,acc=>if(!fst&& !within k.least lo hi)=true then [] else if F k.page (if fst=true then lo else k.least) (nxt hi t)=[] then [] else kidsP F hi lo false t (acc++F k.page (if fst=true then lo else k.least) (nxt hi t))
def pagesQ(f:List Content):Nat→Int→Key→Option Key→List Int
 |0,_,_,_=>[]
 |m+1,n,lo,hi=>
  if(pg f n).kind=0∨(n≠0∧sizeP (pg f n)<2) then []
  else if((pg f n).rows.all λr=>within r.key lo hi)=false then []
  else kidsP (λp a b=>pagesQ f m p a b) hi lo true (pg f n).kids [n]
def dps(f:List Content):Nat→Int→Int→List Int
 |0,_,_=>[]
 |m+1,n,c=>if(pg f n).kind=2 then(pg f n).kids.flatMap λk=>dps f m k.page (c+1) else [c]
theorem kidsP_sound{F:Int→Key→Option Key→List Int}{S:Int→Key→Option Key→Prop}{g:Int→List Int}(hF:∀p a b,(0≤p∧p<64)→F p a b≠[]→S p a b∧F p a b=g p){hi:Option Key}{lo:Key}:
  ∀(l:List Kid)(fst:Bool)(acc:List Int)(k:Kid)(t:List Kid),l=k::t→(∀x∈l,0≤x.page∧x.page<64)→kidsP F hi lo fst l acc≠[]→
  kidsOk S hi (if fst=true then lo else k.least) l∧(fst=false→within k.least lo hi=true)∧(∀x∈t,within x.least lo hi=true)∧kidsP F hi lo fst l acc=acc++l.flatMap λk=>g k.page
 |[],_,_,k,t,e,_,_=>by cases e
 |k0::t0,fst,acc,k,t,e,hl,h=>by
  obtain⟨rfl,rfl⟩:=List.cons.inj e.symm;clear e
  have hk:=hl k (List.mem_cons_self ..)
  unfold kidsP at h⊢
  split at h
  ·exact absurd rfl h
  ·rename_i hw
   by_cases hne:F k.page (if fst=true then lo else k.least) (nxt hi t)=[]
   ·rw[if_pos hne] at h;exact absurd rfl h
   ·rw[if_neg hne] at h
    obtain⟨h1,h2⟩:=hF k.page _ _ hk hne
    have hw':fst=false→within k.least lo hi=true:=λe=>by
     subst e
     cases hh:within k.least lo hi with
     |true=>rfl
     |false=>rw[hh] at hw;simp at hw
    rw[if_neg hw,if_neg hne]
    cases t with
    |nil=>
     unfold kidsP
     exact⟨h1,hw',by simp,by rw[h2];simp⟩
    |cons k2 t2=>
     obtain⟨e1,e2,e3,e4⟩:=kidsP_sound hF (k2::t2) false _ k2 t2 rfl (λx hx=>hl x (List.mem_cons_of_mem _ hx)) h
     refine⟨⟨h1,e1⟩,hw',λx hx=> ?_, ?_⟩
     ·rcases List.mem_cons.1 hx with rfl|hx
      ·exact e2 rfl
      ·exact e3 x hx
     ·rw[e4,h2,List.flatMap_cons (x:=k),List.append_assoc]
theorem kidsP_full{F:Int→Key→Option Key→List Int}{S:Int→Key→Option Key→Prop}{g:Int→List Int}(hF:∀p a b,S p a b→F p a b=g p∧g p≠[]){hi:Option Key}{lo:Key}:
  ∀(l:List Kid)(fst:Bool)(acc:List Int)(k:Kid)(t:List Kid),l=k::t→kidsOk S hi (if fst=true then lo else k.least) l→(fst=false→within k.least lo hi=true)→(∀x∈t,within x.least lo hi=true)→kidsP F hi lo fst l acc=acc++l.flatMap λk=>g k.page
 |[],_,_,k,t,e,_,_,_=>by cases e
 |k0::t0,fst,acc,k,t,e,h1,h2,h3=>by
  obtain⟨rfl,rfl⟩:=List.cons.inj e.symm;clear e
  obtain⟨k1,k2⟩:=kidsOk_cons.1 h1
  obtain⟨g1,g2⟩:=hF k.page _ _ k1
  unfold kidsP
  rw[if_neg (by cases fst with|true=>simp|false=>simp[h2 rfl]),if_neg (by rw[g1];exact g2),g1]
  cases t with
  |nil=>unfold kidsP;simp
  |cons k' t'=>rw[kidsP_full hF (k'::t') false _ k' t' rfl (k2 _ _ rfl) (λ_=>h3 k' (List.mem_cons_self ..)) (λx hx=>h3 x (List.mem_cons_of_mem _ hx)),List.flatMap_cons (x:=k),List.append_assoc]
theorem gpgs_ne{f:List Content}{m:Nat}{n:Int}{lo:Key}{hi:Option Key}(h:gsub f m n lo hi):pgs f m n≠[]:=by
 cases m with
 |zero=>exact h.elim
 |succ m=>simp[pgs]
theorem pagesQ_sound{f:List Content}(hf:AllOk f):∀(m:Nat)(n:Int)(lo:Key)(hi:Option Key),(0≤n∧n<64)→pagesQ f m n lo hi≠[]→gsub f m n lo hi∧pagesQ f m n lo hi=pgs f m n
 |0,_,_,_,_,h=>absurd rfl h
 |m+1,n,lo,hi,hn,h=>by
  unfold pagesQ at h⊢
  split at h
  ·exact absurd rfl h
  ·rename_i hk
   split at h
   ·exact absurd rfl h
   ·rename_i hr
    have hsz:n≠0→2≤sizeP (pg f n):=λe=>by
     by_cases hs:sizeP (pg f n)<2
     ·exact absurd (Or.inr ⟨e,hs⟩) hk
     ·omega
    have hrows:∀r∈(pg f n).rows,within r.key lo hi=true:=by
     have:((pg f n).rows.all λr=>within r.key lo hi)=true:=by simpa using hr
     exact List.all_eq_true.1 this
    rw[if_neg hk,if_neg hr]
    rcases(check_iff _).1 (hf.2 n hn) with e|⟨l,e,hl⟩|⟨l,e,hl⟩
    ·rw[e] at hk;exact absurd (Or.inl rfl) hk
    ·refine⟨⟨hn,hsz,Or.inl ⟨l,e,hl,by rw[e] at hrows;exact hrows⟩⟩, ?_⟩
     rw[pgs,e];rfl
    ·obtain⟨k,t,el⟩:∃k t,l=k::t:=by
      match l,hl.two with
      |k::t,_=>exact⟨k,t,rfl⟩
     have hkids:(pg f n).kids=k::t:=by rw[e];exact el
     obtain⟨d4,d5,d6,d7⟩:=kidsP_sound (S:=gsub f m) (g:=λp=>pgs f m p) (λp a b hp hne=>pagesQ_sound hf m p a b hp hne) (pg f n).kids true [n] k t hkids (kids_rng hf hn) h
     refine⟨⟨hn,hsz,Or.inr ⟨l,e,hl,by rw[el];exact d6,by rw[hkids,←el] at d4;exact d4⟩⟩, ?_⟩
     rw[d7,pgs];rfl
theorem pagesQ_full{f:List Content}:∀(m:Nat)(n:Int)(lo:Key)(hi:Option Key),gsub f m n lo hi→pagesQ f m n lo hi=pgs f m n
 |0,_,_,_,h=>h.elim
 |m+1,n,lo,hi,h=>by
  obtain⟨g1,g2,h⟩:=h
  rcases h with⟨l,g3,g4,g5⟩|⟨l,g3,g4,g5,g6⟩
  ·have hnk:¬((pg f n).kind=0∨(n≠0∧sizeP (pg f n)<2)):=by
    rintro(h|⟨h,h'⟩)
    ·rw[g3] at h;cases h
    ·have:=g2 h;omega
   have hrows:¬((pg f n).rows.all λr=>within r.key lo hi)=false:=by
    rw[Bool.not_eq_false,List.all_eq_true,g3];exact g5
   unfold pagesQ
   rw[if_neg hnk,if_neg hrows,pgs,g3];rfl
  ·have hnk:¬((pg f n).kind=0∨(n≠0∧sizeP (pg f n)<2)):=by
    rintro(h|⟨h,h'⟩)
    ·rw[g3] at h;cases h
    ·have:=g2 h;omega
   have hrows:¬((pg f n).rows.all λr=>within r.key lo hi)=false:=by
    rw[Bool.not_eq_false,List.all_eq_true,g3];simp
   have hkids:(pg f n).kids=l:=by rw[g3]
   obtain⟨k,t,el⟩:∃k t,l=k::t:=by
    match l,g4.two with
    |k::t,_=>exact⟨k,t,rfl⟩
   unfold pagesQ
   rw[if_neg hnk,if_neg hrows,hkids,kidsP_full (S:=gsub f m) (g:=λp=>pgs f m p) (λp a b hs=>⟨pagesQ_full m p a b hs,gpgs_ne hs⟩) l true [n] k t el (by simpa using g6) (λe=>by cases e) (λx hx=>g5 x (by rw[el];exact hx)),pgs,hkids]
   rfl
theorem gsub_in{f:List Content}:∀{m:Nat} {n:Int} {lo:Key} {hi:Option Key},gsub f m n lo hi→∀x∈pgs f m n,0≤x∧x<64
 |0,_,_,_,h,_,_=>h.elim
 |m+1,n,lo,hi,h,x,hx=>by
  obtain⟨g1,g2,h⟩:=h
  rcases List.mem_cons.1 hx with rfl|hx
  ·exact g1
  ·obtain⟨k,hk,hx⟩:=List.mem_flatMap.1 hx
   rcases h with⟨l,g3,g4,g5⟩|⟨l,g3,g4,g5,g6⟩
   ·rw[g3] at hk;cases hk
   ·rw[g3] at hk
    obtain⟨a,b,hs⟩:=kidsOk_all g6 k hk
    exact gsub_in hs x hx
theorem gsub_len{f:List Content}:∀{m:Nat} {n:Int} {lo:Key} {hi:Option Key},gsub f m n lo hi→3*(pgs f m n).length+1≤4^m
 |0,_,_,_,h=>h.elim
 |m+1,n,lo,hi,h=>by
  obtain⟨g1,g2,h⟩:=h
  have h1:1≤4^m:=Nat.one_le_pow _ _ (by decide)
  rcases h with⟨l,g3,g4,g5⟩|⟨l,g3,g4,g5,g6⟩
  ·rw[pgs,g3,Nat.pow_succ];simp only[List.flatMap_nil,List.length_cons,List.length_nil];omega
  ·have key:∀(t:List Kid),(∀k∈t,k∈l)→3*(t.flatMap λk=>pgs f m k.page).length+t.length≤t.length*4^m:=by
    intro t
    induction t with
    |nil=>intro _;simp
    |cons k t ih=>
     intro ht
     obtain⟨a,b,hs⟩:=kidsOk_all g6 k (ht k (List.mem_cons_self ..))
     have:=gsub_len hs
     have:=ih λx hx=>ht x (List.mem_cons_of_mem _ hx)
     simp only[List.flatMap_cons,List.length_append,List.length_cons,Nat.add_mul,Nat.one_mul];omega
   have:=key l λk hk=>hk
   have h4:=g4.four
   have h5:(4-l.length)*1≤(4-l.length)*4^m:=Nat.mul_le_mul_left _ h1
   have h6:l.length*4^m+(4-l.length)*4^m=4*4^m:=by rw[←Nat.add_mul];congr 1;omega
   have h2:=g4.two
   rw[pgs,g3,Nat.pow_succ];simp only[List.length_cons];omega
theorem gsub_dps{f:List Content}:∀{m:Nat} {n:Int} {lo:Key} {hi:Option Key} (c:Int),gsub f m n lo hi→(dps f m n c).length≤(pgs f m n).length∧dps f m n c≠[]
 |0,_,_,_,_,h=>h.elim
 |m+1,n,lo,hi,c,h=>by
  obtain⟨g1,g2,h⟩:=h
  rcases h with⟨l,g3,g4,g5⟩|⟨l,g3,g4,g5,g6⟩
  ·rw[pgs,dps,g3,if_neg (by simp)];simp
  ·rw[pgs,dps,g3,if_pos rfl]
   have key:∀(t:List Kid),(∀k∈t,k∈l)→(t.flatMap λk=>dps f m k.page (c+1)).length≤(t.flatMap λk=>pgs f m k.page).length:=by
    intro t
    induction t with
    |nil=>intro _;simp
    |cons k t ih=>
     intro ht
     obtain⟨a,b,hs⟩:=kidsOk_all g6 k (ht k (List.mem_cons_self ..))
     have:=(gsub_dps (c+1) hs).1
     have:=ih λx hx=>ht x (List.mem_cons_of_mem _ hx)
     simp only[List.flatMap_cons,List.length_append];omega
   refine⟨by have:=key l λk hk=>hk;simp only[List.length_cons];omega, ?_⟩
   obtain⟨k,t,el⟩:∃k t,l=k::t:=by
    match l,g4.two with
    |k::t,_=>exact⟨k,t,rfl⟩
   obtain⟨a,b,hs⟩:=kidsOk_all g6 k (by rw[el];exact List.mem_cons_self ..)
   rw[el,List.flatMap_cons]
   intro e
   exact(gsub_dps (c+1) hs).2 (List.append_eq_nil_iff.1 e).1
theorem gsub_even{f:List Content}:∀{m:Nat} {n:Int} {lo:Key} {hi:Option Key} {c D:Int},gsub f m n lo hi→(∀x∈dps f m n c,x=D)→∃d:Nat,1≤d∧d≤m∧D=c+d-1∧sub f d n lo hi∧pgs f m n=pgs f d n
 |0,_,_,_,_,_,h,_=>h.elim
 |m+1,n,lo,hi,c,D,h,hd=>by
  obtain⟨g1,g2,h⟩:=h
  rcases h with⟨l,g3,g4,g5⟩|⟨l,g3,g4,g5,g6⟩
  ·refine⟨1,Nat.le_refl _,by omega, ?_,⟨g1,g2,l,g3,g4,g5⟩, ?_⟩
   ·have:=hd c (by rw[dps,g3,if_neg (by simp)];simp)
    omega
   ·rw[pgs,pgs,g3];rfl
  ·rw[dps,g3,if_pos rfl] at hd
   have key:∀(t:List Kid)(lo':Key),(∀k∈t,k∈l)→kidsOk (gsub f m) hi lo' t→t≠[]→∃d:Nat,1≤d∧d≤m∧D=(c+1)+d-1∧kidsOk (sub f d) hi lo' t∧∀k∈t,pgs f m k.page=pgs f d k.page:=by
    intro t
    induction t with
    |nil=>intro _ _ _ h;exact absurd rfl h
    |cons k t ih=>
     intro lo' ht hk _
     obtain⟨k1,k2⟩:=kidsOk_cons.1 hk
     obtain⟨d,e1,e2,e3,e4,e5⟩:=gsub_even (c:=c+1) (D:=D) k1 λx hx=>hd x (List.mem_flatMap.2 ⟨k,ht k (List.mem_cons_self ..),hx⟩)
     cases t with
     |nil=>exact⟨d,e1,e2,e3,e4,λx hx=>by cases List.mem_singleton.1 hx;exact e5⟩
     |cons k' t'=>
      obtain⟨d',x1,x2,x3,x4,x5⟩:=ih k'.least (λx hx=>ht x (List.mem_cons_of_mem _ hx)) (k2 _ _ rfl) (by simp)
      obtain rfl:d=d':=by omega
      refine⟨d,e1,e2,e3,⟨e4,x4⟩,λx hx=> ?_⟩
      rcases List.mem_cons.1 hx with rfl|hx
      ·exact e5
      ·exact x5 x hx
   obtain⟨d,e1,e2,e3,e4,e5⟩:=key l lo (λk hk=>hk) g6 g4.ne
   obtain⟨d0,rfl⟩:∃d0,d=d0+1:=⟨d-1,by omega⟩
   refine⟨d0+2,by omega,by omega,by omega,⟨g1,g2,l,g3,g4,g5,e4⟩, ?_⟩
   rw[pgs,pgs,g3]
   simp only
   rw[flatMap_ext λk hk=>e5 k hk]
theorem sub_gsub {f : List Content} : ∀ {d m : Nat} {n : Int} {lo : Key} {hi : Option Key} (c : Int), sub f d n lo hi → d ≤ m → gsub f m n lo hi ∧ pgs f m n = pgs f d n ∧ ∀ x ∈ dps f m n c, x = c + d - 1
  | d, 0, _, _, _, _, h, hm => by obtain rfl : d = 0 := by omega
                                  exact h.elim
  | 1, m + 1, n, lo, hi, c, h, hm => by
    obtain ⟨g1, g2, l, g3, g4, g5⟩ := h
    refine ⟨⟨g1, g2, Or.inl ⟨l, g3, g4, g5⟩⟩, by rw [pgs, pgs, g3]; rfl, fun x hx => ?_⟩
    rw [dps, g3, if_neg (by simp)] at hx
    have := List.mem_singleton.1 hx
    omega
  | d + 2, m + 1, n, lo, hi, c, h, hm => by
    obtain ⟨g1, g2, l, g3, g4, g5, g6⟩ := h
    have ih : ∀ k ∈ l, ∃ a b, sub f (d + 1) k.page a b := fun k hk => kidsOk_all g6 k hk
    refine ⟨⟨g1, g2, Or.inr ⟨l, g3, g4, g5, kidsOk_mono (fun k hk a b hs => (sub_gsub c hs (by omega)).1) g6⟩⟩, ?_, fun x hx => ?_⟩
    · rw [pgs, pgs, g3]
      simp only
      rw [flatMap_ext fun k hk => by obtain ⟨a, b, hs⟩ := ih k hk; exact (sub_gsub c hs (by omega : d + 1 ≤ m)).2.1]
    · rw [dps, g3, if_pos rfl] at hx
      obtain ⟨k, hk, hx⟩ := List.mem_flatMap.1 hx
      obtain ⟨a, b, hs⟩ := ih k hk
      have := (sub_gsub (c + 1) hs (by omega : d + 1 ≤ m)).2.2 x hx
      omega
end Go.Proofs.YtlcmdgpjiendmaaGreat
namespace Go.Proofs.YtlcmdgpjiendmaaGreat
open Go.Bur
set_option linter.unusedSimpArgs false
set_option linter.unusedVariables false
set_option maxRecDepth 100000
def BndIs(b:ref13_Bound)(lo:Key)(hi:Option Key):Prop:=b.least=lo∧hi=if b.ends=true then some b.next else none
theorem rcmp_ge{a b:Key}:decide (cmpK a b≥0)= !ltK a b:=ge_lt
theorem holds_eq(n:Nat){b:ref13_Bound}{lo:Key}{hi:Option Key}(hb:BndIs b lo hi)(k:Key):ref13_holds n b k=some (within k lo hi):=by
 obtain⟨rfl,rfl⟩:=hb
 unfold ref13_holds within
 simp only[rcompare_eq,Option.bind_some,jn,rcmp_ge,←ltK.eq_def]
 cases ltK k b.least with
 |true=>rfl
 |false=>
  cases he:b.ends with
  |false=>simp
  |true=>simp
theorem below_eq(n:Nat){b:ref13_Bound}{lo:Key}{hi:Option Key}(hb:BndIs b lo hi){c:Content}{i:Nat}{x:Kid}{t:List Kid}(h:c.kids.drop i=x::t)(hi':i≤1000):∃b',ref13_below n b c (i:Int)=some b'∧BndIs b' (if(decide (i=0))=true then lo else x.least) (nxt hi t):=by
 obtain⟨rfl,rfl⟩:=hb
 obtain⟨h1,h2,h3⟩:=drop_get h
 unfold ref13_below
 simp only[jn,ref13_below_j1,ref13_below_j2,wrap_succ (show i<4611686018427387904 by omega),idx_nat,h1,Option.bind_some]
 cases t with
 |nil=>
  have e:i+1=c.kids.length:=drop_end h2 (by omega)
  simp only[ge_dec (show ¬i+1<c.kids.length by omega),cond_false]
  by_cases h0:i=0
  ·subst h0
   rw[decide_eq_false (show ¬((0:Nat):Int)>0 by omega),cond_false]
   exact⟨_,rfl,by simp,rfl⟩
  ·rw[decide_eq_true (show((i:Nat):Int)>0 by omega),cond_true]
   exact⟨_,rfl,by simp[h0],rfl⟩
 |cons y t=>
  obtain⟨g1,g2,g3⟩:=drop_get h2
  simp only[lt_dec g3,cond_true,g1,Option.bind_some]
  by_cases h0:i=0
  ·subst h0
   rw[decide_eq_false (show ¬((0:Nat):Int)>0 by omega),cond_false]
   exact⟨_,rfl,by simp,rfl⟩
  ·rw[decide_eq_true (show((i:Nat):Int)>0 by omega),cond_true]
   exact⟨_,rfl,by simp[h0],rfl⟩
theorem len0{α:Type}(l:List α):((l.length:Int)==0)=decide (l.length=0):=beq0
theorem rpages_l2(N:Nat){f:List Content}{b:ref13_Bound}{lo:Key}{hi:Option Key}(hb:BndIs b lo hi)(most:Int)(hm:0<most∧most≤100)(c:Content)(hc:c.kids.length≤1000)(F:Int→Key→Option Key→List Int)(B:Nat)(hF:∀p a b,(F p a b).length≤B)
  (self:Forest×Int×ref13_Bound×Int×Unit→Option (List Int)) (hs:∀k∈c.kids,∀b' a h,BndIs b' a h→self (⟨f⟩,k.page,b',most-1,())=some (F k.page a h)):
  ∀(m:Nat)(t:List Kid)(i:Nat)(acc:List Int),c.kids.drop i=t→i≤c.kids.length→t.length<m→acc.length+t.length*B≤1000000→ref13_Pages_l2 N self m (most,(i:Int),⟨f⟩,b,c,acc,())=some (kidsP F hi lo (decide (i=0)) t acc):=by
 intro m
 induction m with
 |zero=>intro t i acc _ _ h;omega
 |succ m ih=>
  intro t i acc ht hi' hk ha
  unfold ref13_Pages_l2
  rw[loopF_succ]
  generalize hr:loopF _ m=r1
  replace hr:ref13_Pages_l2 N self m=r1:=hr
  simp only[hr] at ih
  cases t with
  |nil=>
   cases drop_end ht hi'
   simp only[ge_dec (Nat.lt_irrefl _),cond_false];rfl
  |cons x t=>
   obtain⟨h1,h2,h3⟩:=drop_get ht
   obtain⟨b',e1,e2⟩:=below_eq N hb ht (by omega)
   have hlen:=hF x.page (if(decide (i=0))=true then lo else x.least) (nxt hi t)
   simp only[List.length_cons,Nat.add_mul,Nat.one_mul] at ha
   have hgo:((idx c.kids (i:Int)).bind λx22=>(ref13_below N b c (i:Int)).bind λy23=>(self (⟨f⟩,x22.page,y23,(IntKind.wrap .i64 (most-1)),())).bind λy24=>cond ((y24.length:Int)==0) (some ([]:List Int)) ((app 8 acc y24).bind λl25=>r1 (most,(IntKind.wrap .i64 ((i:Int)+1)),⟨f⟩,b,c,l25,())))=
     some (if F x.page (if(decide (i=0))=true then lo else x.least) (nxt hi t)=[] then [] else kidsP F hi lo false t (acc++F x.page (if(decide (i=0))=true then lo else x.least) (nxt hi t))):=by
    simp only[idx_nat,h1,Option.bind_some,e1,wrap_in (show-9223372036854775808≤most-1∧most-1≤9223372036854775807 by omega),hs x (List.mem_of_getElem? h1) b' _ _ e2,len0,wrap_succ (show i<4611686018427387904 by omega)]
    by_cases hn:F x.page (if(decide (i=0))=true then lo else x.least) (nxt hi t)=[]
    ·rw[if_pos hn,hn];rfl
    ·rw[if_neg hn,decide_eq_false (λe=>hn (List.eq_nil_of_length_eq_zero e)),cond_false,app_lt (by omega) (by decide)]
     simp only[Option.bind_some]
     have:=ih t (i+1) (acc++F x.page (if(decide (i=0))=true then lo else x.least) (nxt hi t)) h2 (by omega) (by simp only[List.length_cons] at hk;omega) (by rw[List.length_append];omega)
     rw[decide_eq_false (by omega:¬i+1=0)] at this
     exact this
   unfold kidsP
   simp only[lt_dec h3,cond_true,jn]
   by_cases h0:i=0
   ·subst h0
    rw[decide_eq_false (show ¬((0:Nat):Int)>0 by omega),cond_false,cond_false,hgo]
    simp
   ·rw[decide_eq_true (show((i:Nat):Int)>0 by omega),cond_true]
    simp only[idx_nat,h1,Option.bind_some,holds_eq N hb]
    simp only[idx_nat,h1,Option.bind_some] at hgo
    rw[hgo,decide_eq_false h0]
    cases within x.least lo hi<;>rfl
theorem rpages_l1(N:Nat){f:List Content}{b:ref13_Bound}{lo:Key}{hi:Option Key}(hb:BndIs b lo hi)(most:Int)(c:Content)(hc:c.rows.length≤1000)(acc:List Int)(self:Forest×Int×ref13_Bound×Int×Unit→Option (List Int)):
  ∀(m:Nat)(t:List Row)(i:Nat),c.rows.drop i=t→i≤c.rows.length→t.length<m→ref13_Pages_l1 N self m (most,(i:Int),⟨f⟩,b,c,acc,())=if(t.all λr=>within r.key lo hi)=false then some [] else ref13_Pages_l2 N self N (most,0,⟨f⟩,b,c,acc,()):=by
 intro m
 induction m with
 |zero=>intro t i _ _ h;omega
 |succ m ih=>
  intro t i ht hi' hk
  unfold ref13_Pages_l1
  rw[loopF_succ]
  generalize hr:loopF _ m=r1
  replace hr:ref13_Pages_l1 N self m=r1:=hr
  simp only[hr] at ih
  cases t with
  |nil=>
   cases drop_end ht hi'
   simp only[ge_dec (Nat.lt_irrefl _),cond_false];simp
  |cons x t=>
   obtain⟨h1,h2,h3⟩:=drop_get ht
   simp only[lt_dec h3,cond_true,idx_nat,h1,Option.bind_some,holds_eq N hb,List.all_cons,wrap_succ (show i<4611686018427387904 by omega),ih t (i+1) h2 (by omega) (by simp only[List.length_cons] at hk;omega)]
   by_cases hw:within x.key lo hi=true
   ·simp[hw]
   ·rw[Bool.not_eq_true] at hw;simp[hw]
theorem pagesQ_len{f:List Content}(hf:AllOk f){m:Nat}(hm:m≤8){n:Int}{lo:Key}{hi:Option Key}(hn:0≤n∧n<64):(pagesQ f m n lo hi).length≤21845:=by
 by_cases h:pagesQ f m n lo hi=[]
 ·rw[h];simp
 ·obtain⟨h1,h2⟩:=pagesQ_sound hf m n lo hi hn h
  rw[h2]
  have:=gsub_len h1
  have:4^m≤4^8:=Nat.pow_le_pow_right (by decide) hm
  omega
theorem rpages_eq{f:List Content}(hf:AllOk f):∀(m N:Nat),m≤8→m+1004≤N→∀(n:Int)(lo:Key)(hi:Option Key)(b:ref13_Bound),(0≤n∧n<64)→BndIs b lo hi→ref13_Pages N ⟨f⟩ n b (m:Int)=some (pagesQ f m n lo hi)
 |m,0,_,h,_,_,_,_,_,_=>by omega
 |0,N+1,hm,hN,n,lo,hi,b,hn,hb=>by
  show ref13_Pages_b N (recF _ N) ⟨f⟩ n b ((0:Nat):Int)=_
  unfold ref13_Pages_b
  rw[show idx (Forest.mk f).pages n=some (pg f n) from idx_pg (f:=f) ⟨hn.1,by have:=hf.1;omega⟩]
  simp only[Option.bind_some,jn]
  cases (pg f n).kind==0<;>rfl
 |m+1,N+1,hm,hN,n,lo,hi,b,hn,hb=>by
  have hcp:=hf.2 n hn
  have hfc:=fine_check hcp
  show ref13_Pages_b N (recF (λn self x=>ref13_Pages_b n self x.1 x.2.1 x.2.2.1 x.2.2.2.1) N) ⟨f⟩ n b ((m+1:Nat):Int)=_
  generalize hself:recF (λn self x=>ref13_Pages_b n self x.1 x.2.1 x.2.2.1 x.2.2.2.1) N=self
  have hs:∀k∈(pg f n).kids,∀b' a h,BndIs b' a h→self (⟨f⟩,k.page,b',((m+1:Nat):Int)-1,())=some (pagesQ f m k.page a h):=λk hk b' a h hb'=>by
   rw[←hself,show((m+1:Nat):Int)-1=(m:Int) by omega]
   exact rpages_eq hf m N (by omega) (by omega) k.page a h b' (kids_rng hf hn k hk) hb'
  clear hself
  unfold ref13_Pages_b pagesQ
  rw[show idx (Forest.mk f).pages n=some (pg f n) from idx_pg (f:=f) ⟨hn.1,by have:=hf.1;omega⟩]
  simp only[Option.bind_some,jn,ieq0,ine0,rsize_eq N _ hfc,lt2]
  rw[decide_eq_false (show ¬((m+1:Nat):Int)=0 by omega)]
  simp only[cond_false]
  have hrun:ref13_Pages_l1 N self N (((m+1:Nat):Int),0,⟨f⟩,b,pg f n,[n],())=some (if((pg f n).rows.all λr=>within r.key lo hi)=false then [] else kidsP (λp a b=>pagesQ f m p a b) hi lo true (pg f n).kids [n]):=by
   refine(rpages_l1 N hb _ (pg f n) hfc.rows [n] self N (pg f n).rows 0 rfl (Nat.zero_le _) (by have:=hfc.rows;omega)).trans ?_
   by_cases hw:((pg f n).rows.all λr=>within r.key lo hi)=false
   ·rw[if_pos hw,if_pos hw]
   ·rw[if_neg hw,if_neg hw]
    have h4:(pg f n).kids.length≤4:=by
     rcases(check_iff _).1 hcp with e|⟨l,e,hl⟩|⟨l,e,hl⟩
     ·rw[e];simp[cont0]
     ·rw[e];simp
     ·rw[e];exact hl.four
    have hB:∀p a b,((λp a b=>if 0≤p∧p<64 then pagesQ f m p a b else []) p a b:List Int).length≤21845:=λp a b=>by
     by_cases hp:0≤p∧p<64
     ·simp only[if_pos hp];exact pagesQ_len hf (by omega) hp
     ·simp only[if_neg hp];simp
    have:=rpages_l2 N hb (((m+1:Nat):Int)) (by omega) (pg f n) hfc.kids (λp a b=>if 0≤p∧p<64 then pagesQ f m p a b else []) 21845 hB self (λk hk b' a h hb'=>by
     simp only[if_pos (kids_rng hf hn k hk)];exact hs k hk b' a h hb') N (pg f n).kids 0 [n] rfl (Nat.zero_le _) (by omega) (by simp only[List.length_cons,List.length_nil];have:=Nat.mul_le_mul_right 21845 h4;omega)
    refine this.trans (congrArg some ?_)
    have hext:∀(l:List Kid)(fst:Bool)(acc:List Int),(∀k∈l,0≤k.page∧k.page<64)→kidsP (λp a b=>if 0≤p∧p<64 then pagesQ f m p a b else []) hi lo fst l acc=kidsP (λp a b=>pagesQ f m p a b) hi lo fst l acc:=by
     intro l
     induction l with
     |nil=>intro _ _ _;rfl
     |cons k t iht=>
      intro fst acc hk
      unfold kidsP
      simp only[if_pos (hk k (List.mem_cons_self ..)),iht _ _ λx hx=>hk x (List.mem_cons_of_mem _ hx)]
    exact hext _ _ _ (kids_rng hf hn)
  by_cases h0:(pg f n).kind=0
  ·rw[decide_eq_true h0,if_pos (Or.inl h0)];rfl
  ·rw[decide_eq_false h0]
   by_cases hn0:n=0
   ·rw[decide_eq_true hn0,if_neg (by rintro(h|h);exact h0 h;exact h.1 hn0)]
    exact hrun
   ·rw[decide_eq_false hn0]
    by_cases h2:sizeP (pg f n)<2
    ·rw[decide_eq_true h2,if_pos (Or.inr ⟨hn0,h2⟩)];rfl
    ·rw[decide_eq_false h2,if_neg (by rintro(h|h);exact h0 h;exact h2 h.2)]
     exact hrun
theorem rdepths_l1(N:Nat){f:List Content}{m':Nat}(c0:Int)(hc0:0≤c0∧c0≤100)(c:Content)(hc:c.kids.length≤1000)(self:Forest×Int×Int×Unit→Option (List Int))(hs:∀k∈c.kids,self (⟨f⟩,k.page,c0+1,())=some (dps f m' k.page (c0+1))):
  ∀(m:Nat)(t:List Kid)(i:Nat)(acc:List Int),c.kids.drop i=t→i≤c.kids.length→t.length<m→acc.length+(t.flatMap λk=>dps f m' k.page (c0+1)).length≤1000000→ref13_Depths_l1 N self m (c0,(i:Int),⟨f⟩,c,acc,())=some (acc++t.flatMap λk=>dps f m' k.page (c0+1)):=by
 intro m
 induction m with
 |zero=>intro t i acc _ _ h;omega
 |succ m ih=>
  intro t i acc ht hi hk ha
  unfold ref13_Depths_l1
  rw[loopF_succ]
  generalize hr:loopF _ m=r1
  replace hr:ref13_Depths_l1 N self m=r1:=hr
  simp only[hr] at ih
  cases t with
  |nil=>
   cases drop_end ht hi
   simp only[ge_dec (Nat.lt_irrefl _),cond_false,List.flatMap_nil,List.append_nil]
  |cons x t=>
   obtain⟨h1,h2,h3⟩:=drop_get ht
   rw[List.flatMap_cons,List.length_append] at ha
   simp only[lt_dec h3,cond_true,idx_nat,h1,Option.bind_some,wrap_in (show-9223372036854775808≤c0+1∧c0+1≤9223372036854775807 by omega),hs x (List.mem_of_getElem? h1),app_lt (show acc.length+(dps f m' x.page (c0+1)).length≤1000000 by omega) (show 8≤1000 by omega),wrap_succ (show i<4611686018427387904 by omega)]
   rw[ih t (i+1) (acc++dps f m' x.page (c0+1)) h2 (by omega) (by simp only[List.length_cons] at hk;omega) (by rw[List.length_append];omega),List.flatMap_cons,List.append_assoc]
theorem rdepths_eq{f:List Content}(hf:AllOk f):∀(m N:Nat),m≤8→m+1004≤N→∀(n:Int)(lo:Key)(hi:Option Key)(c:Int),gsub f m n lo hi→0≤c→c+m≤9→ref13_Depths N ⟨f⟩ n c=some (dps f m n c)
 |m,0,_,h,_,_,_,_,_,_,_=>by omega
 |0,N+1,hm,hN,n,lo,hi,c,h,_,_=>h.elim
 |m+1,N+1,hm,hN,n,lo,hi,c,h,hc,hcm=>by
  have hlen:=(gsub_dps c h).1
  have hlen2:=gsub_len h
  have h48:4^(m+1)≤4^8:=Nat.pow_le_pow_right (by decide) hm
  obtain⟨g1,g2,hh⟩:=h
  show ref13_Depths_b N (recF (λn self x=>ref13_Depths_b n self x.1 x.2.1 x.2.2.1) N) ⟨f⟩ n c=_
  generalize hself:recF (λn self x=>ref13_Depths_b n self x.1 x.2.1 x.2.2.1) N=self
  have hi64:idx (Forest.mk f).pages n=some (pg f n):=idx_pg (f:=f) ⟨g1.1,by have:=hf.1;omega⟩
  rcases hh with⟨l,g3,g4,g5⟩|⟨l,g3,g4,g5,g6⟩
  ·unfold ref13_Depths_b
   rw[hi64,dps,g3];rfl
  ·have hs:∀k∈(pg f n).kids,self (⟨f⟩,k.page,c+1,())=some (dps f m k.page (c+1)):=λk hk=>by
    rw[g3] at hk
    obtain⟨a,b,hs⟩:=kidsOk_all g6 k hk
    rw[←hself]
    exact rdepths_eq hf m N (by omega) (by omega) k.page a b (c+1) hs (by omega) (by omega)
   clear hself
   unfold ref13_Depths_b
   have h4:=g4.four
   have hkl:(pg f n).kids.length≤1000:=by rw[g3];simp only;omega
   have hr:=rdepths_l1 N (m':=m) c (by omega) (pg f n) hkl self hs N (pg f n).kids 0 [] rfl (Nat.zero_le _) (by omega) (by rw[dps,g3,if_pos rfl] at hlen;rw[g3];simp only[List.length_nil] at hlen⊢;omega)
   rw[hi64]
   simp only[Option.bind_some,jn]
   rw[show((pg f n).kind !=2)=false from by rw[g3];rfl,cond_false,decide_eq_false (show ¬c>8 by omega),cond_false]
   refine(show ref13_Depths_l1 N self N (c,0,⟨f⟩,pg f n,[],())=_ from hr).trans ?_
   rw[dps,g3,if_pos rfl,List.nil_append]
def allN(P:Nat→Bool)(i len:Nat):Bool:=(List.range' i (len-i)).all P
theorem allN_iff{P:Nat→Bool}{i len:Nat}:allN P i len=true↔∀j,i≤j→j<len→P j=true:=by
 unfold allN
 rw[List.all_eq_true]
 constructor
 ·intro h j h1 h2
  exact h j (by rw[List.mem_range'_1];omega)
 ·intro h j hj
  rw[List.mem_range'_1] at hj
  exact h j hj.1 (by omega)
theorem loop_scan{T R:Type}{F:(T→Option R)→T→Option R}(len:Nat)(mk:Nat→T)(P:Nat→Bool)(no yes:Option R)(hF:∀r i,i<len→F r (mk i)=if P i=true then r (mk (i+1)) else no)(hE:∀r,F r (mk len)=yes):
  ∀m i,i≤len→len-i<m→loopF F m (mk i)=if allN P i len=true then yes else no:=by
 intro m
 induction m with
 |zero=>intro i _ h;omega
 |succ m ih=>
  intro i hi hm
  rw[loopF_succ]
  by_cases h:i<len
  ·rw[hF _ i h]
   by_cases hp:P i=true
   ·rw[if_pos hp,ih (i+1) (by omega) (by omega)]
    have:allN P i len=allN P (i+1) len:=by
     rw[Bool.eq_iff_iff,allN_iff,allN_iff]
     exact⟨λh j h1 h2=>h j (by omega) h2,λh j h1 h2=>by
      by_cases e:j=i
      ·rw[e];exact hp
      ·exact h j (by omega) h2⟩
    rw[this]
   ·rw[if_neg hp,if_neg λhh=>hp (allN_iff.1 hh i (Nat.le_refl _) h)]
  ·obtain rfl:i=len:=by omega
   rw[hE,if_pos (allN_iff.2 λj h1 h2=>by omega)]
def cntL(u:List Int):List Int:=(List.range 64).map fun(j:Nat)=>((u.count (j:Int):Nat):Int)
theorem cntL_len{u:List Int}:(cntL u).length=64:=by simp[cntL]
theorem cntL_get{u:List Int}{j:Nat}(h:j<64):idx (cntL u) (j:Int)=some (u.count (j:Int):Int):=by
 rw[idx_nat,cntL,List.getElem?_map,List.getElem?_range h];rfl
theorem cntL_put{u:List Int}{x:Int}(hx:0≤x∧x<64):put (cntL u) x ((u.count x:Int)+1)=some (cntL (u++[x])):=by
 obtain⟨j,rfl⟩:∃j:Nat,x=(j:Int):=⟨x.toNat,by omega⟩
 rw[put_ok (by rw[cntL_len];omega)]
 congr 1
 refine List.ext_getElem (by simp[cntL]) λi h1 h2=> ?_
 rw[List.getElem_set]
 simp only[cntL,List.getElem_map,List.getElem_range,List.count_append,List.count_singleton]
 by_cases e:j=i
 ·subst e;simp
 ·rw[if_neg e]
  have:((j:Int)==(i:Int))=false:=by rw[ibeq,decide_eq_false (by omega)]
  simp[this]
theorem right_l2(N:Nat)(f:Forest)(l:List Int)(hl:∀x∈l,0≤x∧x<64)(hlen:l.length≤100000):∀(m:Nat)(t u:List Int)(i:Nat),l=u++t→u.length=i→t.length<m→ref13_Right_l2 N m ((i:Int),f,l,cntL u,())=ref13_Right_l3 N N (0,f,cntL l,()):=by
 intro m
 induction m with
 |zero=>intro t u i _ _ h;omega
 |succ m ih=>
  intro t u i e hi hm
  unfold ref13_Right_l2
  rw[loopF_succ]
  generalize hr:loopF _ m=r1
  replace hr:ref13_Right_l2 N m=r1:=hr
  simp only[hr] at ih
  cases t with
  |nil=>
   rw[List.append_nil] at e;subst e;subst hi
   simp only[ge_dec (Nat.lt_irrefl _),cond_false]
  |cons x t=>
   have hx:=hl x (by rw[e];simp)
   have hget:idx l (i:Int)=some x:=by rw[e,←hi];exact idx_app
   have hlt:i<l.length:=by rw[e,←hi];simp
   obtain⟨j,rfl⟩:∃j:Nat,x=(j:Int):=⟨x.toNat,by omega⟩
   have hcnt:u.count (j:Int)≤u.length:=List.count_le_length
   simp only[lt_dec hlt,cond_true,hget,Option.bind_some,cntL_get (show j<64 by omega)]
   rw[wrap_in (show-9223372036854775808≤(u.count (j:Int):Int)+1∧(u.count (j:Int):Int)+1≤9223372036854775807 by omega),cntL_put hx]
   simp only[Option.bind_some,wrap_succ (show i<4611686018427387904 by omega)]
   exact ih t (u++[(j:Int)]) (i+1) (by rw[e];simp) (by simp[hi]) (by simp only[List.length_cons] at hm;omega)
theorem nodup_count{l:List Int}:l.Nodup↔∀x,l.count x≤1:=List.nodup_iff_count
theorem right_iff(N:Nat)(hN:30000≤N){f:List Content}(hl:f.length≤1000)(hc:∀c∈f,Fine c)(hk:∀c∈f,Keys c):(∀d,Good f d→ref13_Right N ⟨f⟩=some true)∧((¬ ∃d,Good f d)→ref13_Right N ⟨f⟩=some false):=by
 unfold ref13_Right
 rw[show(((Forest.mk f).pages.length:Int) !=64)= !decide (f.length=64) from by
  rw[bne,ibeq];congr 1;exact decide_eq_decide.2 (by show(f.length:Int)=64↔_;omega)]
 by_cases h64:f.length=64
 case neg=>rw[decide_eq_false h64];exact⟨λd hg=>absurd hg.len h64,λ_=>rfl⟩
 rw[decide_eq_true h64,Bool.not_true,cond_false]
 have e1:ref13_Right_l1 N N (0,⟨f⟩,())=if allN (λi=>checkP (pg f (i:Int))) 0 64=true then((ref13_Pages N ⟨f⟩ 0 (ref13_Bound.mk (Key.mk 0 0) (Key.mk 0 0) false) 8).bind λy5=>cond ((y5.length:Int)==0) (some false) (ref13_Right_l2 N N (0,⟨f⟩,y5,(List.replicate 64 0),()))) else some false:=by
  show ref13_Right_l1 N N (((0:Nat):Int),⟨f⟩,())=_
  unfold ref13_Right_l1
  refine loop_scan 64 (λi=>((i:Int),(⟨f⟩:Forest),())) (λi=>checkP (pg f (i:Int))) _ _ (λr i hi=> ?_) (λr=> ?_) N 0 (by omega) (by omega)
  ·have hm:pg f (i:Int)∈f:=pg_mem ⟨by omega,by omega⟩
   simp only[show decide ((i:Int)<64)=true from decide_eq_true (by omega),cond_true,show idx f (i:Int)=some (pg f (i:Int)) from idx_pg ⟨by omega,by omega⟩,Option.bind_some,right_eq N (by omega) _ (hc _ hm) (hk _ hm),wrap_succ (show i<4611686018427387904 by omega)]
   cases checkP (pg f (i:Int))<;>simp
  ·rfl
 rw[e1]
 by_cases hall:allN (λi=>checkP (pg f (i:Int))) 0 64=true
 case neg=>
  rw[if_neg hall]
  exact⟨λd hg=>absurd (allN_iff.2 λj _ hj=>hg.ok (j:Int) ⟨by omega,by omega⟩) hall,λ_=>rfl⟩
 rw[if_pos hall]
 have hf:AllOk f:=⟨h64,λn hn=>by
  have:=allN_iff.1 hall n.toNat (by omega) (by omega)
  rwa[show((n.toNat:Nat):Int)=n by omega] at this⟩
 rw[show(8:Int)=((8:Nat):Int) from rfl,rpages_eq hf 8 N (by omega) (by omega) 0 key0 none _ (by omega) ⟨rfl,rfl⟩]
 simp only[Option.bind_some,len0]
 by_cases hne:pagesQ f 8 0 key0 none=[]
 ·rw[hne]
  refine⟨λd hg=> ?_,λ_=>rfl⟩
  have hs:=(sub_gsub 1 hg.tree (show d≤8 by have:=hg.deep;omega)).1
  rw[pagesQ_full 8 0 key0 none hs] at hne
  exact absurd hne (gpgs_ne hs)
 obtain⟨hs,hpq⟩:=pagesQ_sound hf 8 0 key0 none (by omega) hne
 rw[hpq,decide_eq_false (λe=>gpgs_ne hs (List.eq_nil_of_length_eq_zero e)),cond_false]
 have hpl:=gsub_len hs
 rw[show(4:Nat)^8=65536 from rfl] at hpl
 have hin:=gsub_in hs
 have e2:=right_l2 N ⟨f⟩ (pgs f 8 0) hin (by omega) N (pgs f 8 0) [] 0 rfl rfl (by omega)
 rw[show(List.replicate 64 (0:Int))=cntL [] from rfl]
 rw[show ref13_Right_l2 N N (0,⟨f⟩,pgs f 8 0,cntL [],())=_ from e2]
 have hdep:=rdepths_eq hf 8 N (by omega) (by omega) 0 key0 none 1 hs (by omega) (by omega)
 obtain⟨hdl,hdn⟩:=gsub_dps 1 hs
 generalize hD:dps f 8 0 1=D at hdep hdl hdn
 have e3:ref13_Right_l3 N N (0,⟨f⟩,cntL (pgs f 8 0),())=if allN (λi=>decide ((pgs f 8 0).count (i:Int)≤1)&&(!decide ((pgs f 8 0).count (i:Int)=0)||decide ((pg f (i:Int)).kind=0))) 0 64=true then ref13_Right_l4 N N (1,D,()) else some false:=by
  show ref13_Right_l3 N N (((0:Nat):Int),⟨f⟩,cntL (pgs f 8 0),())=_
  unfold ref13_Right_l3
  refine loop_scan 64 (λi=>((i:Int),(⟨f⟩:Forest),cntL (pgs f 8 0),())) _ _ _ (λr i hi=> ?_) (λr=> ?_) N 0 (by omega) (by omega)
  ·simp only[show decide ((i:Int)<64)=true from decide_eq_true (by omega),cond_true,cntL_get hi,show idx f (i:Int)=some (pg f (i:Int)) from idx_pg ⟨by omega,by omega⟩,Option.bind_some,jn,wrap_succ (show i<4611686018427387904 by omega),ine0,ieq0]
   rw[show decide (((pgs f 8 0).count (i:Int):Int)>1)= !decide ((pgs f 8 0).count (i:Int)≤1) from by
    by_cases h:(pgs f 8 0).count (i:Int)≤1
    ·rw[decide_eq_true h,decide_eq_false (by omega)];rfl
    ·rw[decide_eq_false h,decide_eq_true (by omega)];rfl]
   rw[show decide (((pgs f 8 0).count (i:Int):Int)=0)=decide ((pgs f 8 0).count (i:Int)=0) from decide_eq_decide.2 (by omega)]
   cases decide ((pgs f 8 0).count (i:Int)≤1)<;>cases decide ((pgs f 8 0).count (i:Int)=0)<;>cases decide ((pg f (i:Int)).kind=0)<;>rfl
  ·simp only[show decide ((64:Int)<64)=false from rfl]
   show(ref13_Depths N ⟨f⟩ 0 1).bind _=_
   rw[hdep];rfl
 rw[e3]
 have hcond:allN (λi=>decide ((pgs f 8 0).count (i:Int)≤1)&&(!decide ((pgs f 8 0).count (i:Int)=0)||decide ((pg f (i:Int)).kind=0))) 0 64=true↔(pgs f 8 0).Nodup∧∀n:Int,0≤n∧n<64→n∉pgs f 8 0→(pg f n).kind=0:=by
  rw[allN_iff]
  simp only[Bool.and_eq_true,Bool.or_eq_true,Bool.not_eq_true',decide_eq_true_eq,decide_eq_false_iff_not]
  constructor
  ·intro h
   refine⟨nodup_count.2 λx=> ?_,λn hn hm=> ?_⟩
   ·by_cases hx:x∈pgs f 8 0
    ·have hr:=hin x hx
     have:=(h x.toNat (by omega) (by omega)).1
     rwa[show((x.toNat:Nat):Int)=x by omega] at this
    ·rw[List.count_eq_zero_of_not_mem hx];omega
   ·have:=(h n.toNat (by omega) (by omega)).2
    rw[show((n.toNat:Nat):Int)=n by omega] at this
    exact this.resolve_left λh=>h (List.count_eq_zero_of_not_mem hm)
  ·rintro⟨h1,h2⟩ j _ hj
   refine⟨nodup_count.1 h1 _, ?_⟩
   by_cases hx:(j:Int)∈pgs f 8 0
   ·exact Or.inl λe=>by have:=List.count_pos_iff.2 hx;omega
   ·exact Or.inr (h2 _ ⟨by omega,by omega⟩ hx)
 by_cases hcc:allN (λi=>decide ((pgs f 8 0).count (i:Int)≤1)&&(!decide ((pgs f 8 0).count (i:Int)=0)||decide ((pg f (i:Int)).kind=0))) 0 64=true
 case neg=>
  rw[if_neg hcc]
  refine⟨λd hg=>absurd (hcond.2 ?_) hcc,λ_=>rfl⟩
  rw[(sub_gsub 1 hg.tree (show d≤8 by have:=hg.deep;omega)).2.1]
  exact⟨hg.nodup,hg.rest⟩
 rw[if_pos hcc]
 obtain⟨hnd,hrest⟩:=hcond.1 hcc
 have e4:ref13_Right_l4 N N (1,D,())=if allN (λi=>D[i]? ==D[0]?) 1 D.length=true then some true else some false:=by
  show ref13_Right_l4 N N (((1:Nat):Int),D,())=_
  unfold ref13_Right_l4
  have hpos:0<D.length:=List.length_pos_iff.2 hdn
  refine loop_scan D.length (λi=>((i:Int),D,())) _ _ _ (λr i hi=> ?_) (λr=> ?_) N 1 (by omega) (by omega)
  ·simp only[lt_dec hi,cond_true,idx_nat,idx_zero,get_some hi,get_some hpos,Option.bind_some,wrap_succ (show i<4611686018427387904 by omega)]
   rw[show(D[i] !=D[0])= !decide (D[i]=D[0]) from by rw[bne,ibeq]]
   by_cases h:D[i]=D[0]
   ·simp[h]
   ·simp[h]
  ·simp only[ge_dec (Nat.lt_irrefl _),cond_false]
 rw[e4]
 by_cases hev:allN (λi=>D[i]? ==D[0]?) 1 D.length=true
 ·rw[if_pos hev]
  refine⟨λ_ _=>rfl,λhng=>absurd ?_ hng⟩
  have hpos:0<D.length:=List.length_pos_iff.2 hdn
  obtain⟨d,d1,d2,d3,d4,d5⟩:=gsub_even (c:=1) (D:=D[0]) hs λx hx=>by
   rw[hD] at hx
   obtain⟨i,hi,rfl⟩:=List.mem_iff_getElem.1 hx
   by_cases h0:i=0
   ·subst h0;rfl
   ·have:=allN_iff.1 hev i (by omega) hi
    rw[get_some hi,get_some hpos] at this
    simpa using this
  exact⟨d,h64,hf.2,d4,d5▸hnd,λn hn hm=>hrest n hn (by rw[d5];exact hm)⟩
 ·rw[if_neg hev]
  refine⟨λd hg=>absurd (allN_iff.2 λj hj1 hj2=> ?_) hev,λ_=>rfl⟩
  have hpos:0<D.length:=List.length_pos_iff.2 hdn
  have hx:=(sub_gsub 1 hg.tree (show d≤8 by have:=hg.deep;omega)).2.2
  rw[hD] at hx
  rw[get_some hj2,get_some hpos,hx _ (List.getElem_mem hj2),hx _ (List.getElem_mem hpos)]
  simp
theorem right_good(N:Nat)(hN:30000≤N){f:List Content}{d:Nat}(hg:Good f d)(hk:∀c∈f,Keys c):ref13_Right N ⟨f⟩=some true:=
 (right_iff N hN (by have:=hg.len;omega) (good_fine hg) hk).1 d hg
theorem right_bad(N:Nat)(hN:30000≤N){f:List Content}(hl:f.length≤1000)(hc:∀c∈f,Fine c)(hk:∀c∈f,Keys c)(hg:¬ ∃d,Good f d):ref13_Right N ⟨f⟩=some false:=
 (right_iff N hN hl hc hk).2 hg
end Go.Proofs.YtlcmdgpjiendmaaGreat
namespace Go.Proofs.YtlcmdgpjiendmaaGreat
open Go.Bur
set_option linter.unusedSimpArgs false
set_option linter.unusedVariables false
set_option maxRecDepth 100000
def insS(s:Sheet):List Sheet→List Sheet
 |[]=>[s]
 |x::t=>if s.page≤x.page then s::x::t else x::insS s t
def srtS:List Sheet→List Sheet
 |[]=>[]
 |x::t=>insS x (srtS t)
theorem insS_perm(s:Sheet):∀(l:List Sheet),(insS s l).Perm (s::l)
 |[]=>List.Perm.refl _
 |x::t=>by
  unfold insS
  split
  ·exact List.Perm.refl _
  ·exact((insS_perm s t).cons x).trans (List.Perm.swap ..)
theorem srtS_perm:∀(l:List Sheet),(srtS l).Perm l
 |[]=>List.Perm.refl _
 |x::t=>(insS_perm x _).trans ((srtS_perm t).cons x)
theorem insS_sorted(s:Sheet):∀{l:List Sheet},l.Pairwise (λa b=>a.page≤b.page)→(insS s l).Pairwise λa b=>a.page≤b.page
 |[],_=>by simp[insS]
 |x::t,h=>by
  obtain⟨h1,h2⟩:=List.pairwise_cons.1 h
  unfold insS
  split
  ·rename_i hs
   refine List.pairwise_cons.2 ⟨λy hy=> ?_,h⟩
   rcases List.mem_cons.1 hy with rfl|hy
   ·exact hs
   ·exact Int.le_trans hs (h1 y hy)
  ·rename_i hs
   refine List.pairwise_cons.2 ⟨λy hy=> ?_,insS_sorted s h2⟩
   rcases List.mem_cons.1 ((insS_perm s t).mem_iff.1 hy) with rfl|hy
   ·omega
   ·exact h1 y hy
theorem srtS_sorted:∀(l:List Sheet),(srtS l).Pairwise λa b=>a.page≤b.page
 |[]=>List.Pairwise.nil
 |x::t=>insS_sorted x (srtS_sorted t)
theorem cmpI_neg{a b:Int}:cmpI a b<0↔a<b:=by
 unfold cmpI
 by_cases h:a<b
 ·rw[if_pos h];simp[h]
 ·rw[if_neg h]
  by_cases h2:a>b
  ·rw[if_pos h2];simp[h]
  ·rw[if_neg h2];simp[h]
theorem group1_eq(n:Nat)(x y:Sheet):tree_change_group_1 n x y=some (cmpI x.page y.page):=by
 unfold tree_change_group_1;rw[compare_int];rfl
theorem page_inj:∀{l:List Sheet},(l.map (·.page)).Nodup→∀x∈l,∀y∈l,x.page=y.page→x=y
 |[],_,_,hx,_,_,_=>by cases hx
 |a::t,h,x,hx,y,hy,e=>by
  rw[List.map_cons] at h
  obtain⟨h1,h2⟩:=List.nodup_cons.1 h
  rcases List.mem_cons.1 hx with rfl|hx
  ·rcases List.mem_cons.1 hy with rfl|hy
   ·rfl
   ·exact absurd (List.mem_map.2 ⟨y,hy,e.symm⟩) h1
  ·rename_i hxt
   rcases List.mem_cons.1 hy with hya|hy
   ·subst hya;exact absurd (List.mem_map.2 ⟨x,by assumption,e⟩) h1
   ·exact page_inj h2 x hx y hy e
theorem sortS_eq(n:Nat){l:List Sheet}(hl:l.length≤1000)(hd:(l.map (·.page)).Nodup):slices_SortFunc_Sheet_f109 n l=some (srtS l):=by
 unfold slices_SortFunc_Sheet_f109
 rw[Nat.ble_eq_true_of_le (by omega)]
 refine sortF_eq _ ⟨λx _ y _=>⟨_,group1_eq n x y⟩,λx _=> ?_,λx _ y _ z _ h1 h2=> ?_,λx hx y hy h1 h2=> ?_⟩ ⟨srtS_perm l, ?_⟩
 ·simp only[cmpD,group1_eq,Option.getD_some,cmpI_neg];omega
 ·simp only[cmpD,group1_eq,Option.getD_some,cmpI_neg] at h1 h2⊢;omega
 ·simp only[cmpD,group1_eq,Option.getD_some,cmpI_neg] at h1 h2
  exact page_inj hd x hx y hy (by omega)
 ·refine(srtS_sorted l).imp λ{a b} h=> ?_
  simp only[cmpD,group1_eq,Option.getD_some,cmpI_neg];omega
noncomputable def sortX(n:Nat)(l:List Sheet):Option (List Sheet):=if l.length≤1000∧(l.map (·.page)).Nodup then some (srtS l) else slices_SortFunc_Sheet_f109 n l
theorem sort_fn:slices_SortFunc_Sheet_f109=sortX:=by
 funext n l
 unfold sortX
 split
 ·rename_i h;exact sortS_eq n h.1 h.2
 ·rfl
noncomputable def cloneRX(n:Nat)(l:List Row):Option (List Row):=if l.length≤1000 then some l else slices_Clone_Row n l
theorem cloneR_fn:slices_Clone_Row=cloneRX:=by
 funext n l
 unfold cloneRX
 split
 ·rename_i h;exact cloneR_eq n l h
 ·rfl
noncomputable def cloneKX(n:Nat)(l:List Kid):Option (List Kid):=if l.length≤1000 then some l else slices_Clone_Kid n l
theorem cloneK_fn:slices_Clone_Kid=cloneKX:=by
 funext n l
 unfold cloneKX
 split
 ·rename_i h;exact cloneK_eq n l h
 ·rfl
theorem cloneC_eq(n:Nat)(l:List Content)(h:l.length≤1000):slices_Clone_Content n l=some l:=clone_eq (by omega) (by decide)
noncomputable def cloneCX(n:Nat)(l:List Content):Option (List Content):=if l.length≤1000 then some l else slices_Clone_Content n l
theorem cloneC_fn:slices_Clone_Content=cloneCX:=by
 funext n l
 unfold cloneCX
 split
 ·rename_i h;exact cloneC_eq n l h
 ·rfl
theorem wakes:law13_wakes 30000=some true:=by
 delta law13_wakes law13_wakes_l1 tree_Put tree_Put_l1 tree_Put_l2 tree_Put_l3 tree_Put_l4 tree_change_parted tree_change_split tree_Apply tree_begun page_Put page_Split page_Adopt page_cut_Row page_cut_Kid tree_change_group
 rw[sort_fn,cloneR_fn,cloneK_fn,cloneC_fn]
 kernel_rfl
end Go.Proofs.YtlcmdgpjiendmaaGreat
namespace Go.Proofs.YtlcmdgpjiendmaaGreat
open Go.Bur
set_option linter.unusedSimpArgs false
set_option linter.unusedVariables false
set_option maxRecDepth 100000
theorem content_fine{d:Nat}{c:Content}(h:okT tab (d+3) (.st 4) c)(h1:c.rows.length≤1000)(h2:c.kids.length≤1000):Fine c:=
 ⟨h1,h2,λk hk=>keyIn_i64 (h.2.2.1.1 k hk).2.2.1⟩
theorem content_keys{d:Nat}{c:Content}(h:okT tab (d+3) (.st 4) c):Keys c:=by
 refine⟨λr hr=> ?_,λk hk=> ?_⟩
 ·obtain⟨a,b⟩:=(h.2.1.1 r hr).2.1
  have b:r.key.id≤65535:=b
  exact⟨a,by omega⟩
 ·obtain⟨a,b⟩:=(h.2.2.1.1 k hk).2.1
  have b:k.least.id≤65535:=b
  exact⟨a,by omega⟩
theorem over_l2(n:Nat)(r1:(List Content)×Int×Int×Unit→Option Bool)(cs:List Content)(a b:Int)(l:List Row)(hl:l.length≤1000):∀(m:Nat)(t:List Row)(i:Nat),l.drop i=t→i≤l.length→t.length<m→
  law13_over_l2 n r1 m (cs,a,b,l,(l.length:Int),(i:Int),())=some true∨law13_over_l2 n r1 m (cs,a,b,l,(l.length:Int),(i:Int),())=r1 (cs,a,IntKind.wrap .i64 (b+1),()):=by
 intro m
 induction m with
 |zero=>intro t i _ _ h;omega
 |succ m ih=>
  intro t i ht hi hk
  unfold law13_over_l2
  rw[loopF_succ]
  generalize hr:loopF _ m=r2
  replace hr:law13_over_l2 n r1 m=r2:=hr
  simp only[hr] at ih
  cases t with
  |nil=>
   cases drop_end ht hi
   simp only[ge_dec (Nat.lt_irrefl _),cond_false];right;trivial
  |cons x t=>
   obtain⟨h1,h2,h3⟩:=drop_get ht
   simp only[lt_dec h3,cond_true,idx_nat,h1,Option.bind_some,wrap_succ (show i<4611686018427387904 by omega)]
   cases decide ((x.note.size:Int)>100) with
   |true=>left;rfl
   |false=>exact ih t (i+1) h2 (by omega) (by simp only[List.length_cons] at hk;omega)
theorem over_l1(n:Nat)(hn:1003≤n)(f:List Content)(hl:f.length≤1000):∀(m:Nat)(t:List Content)(i:Nat),f.drop i=t→i≤f.length→t.length<m→
  ∃b,law13_over_l1 n m (f,(f.length:Int),(i:Int),())=some b∧(b=false→∀c∈t,c.rows.length≤10∧c.kids.length≤10):=by
 intro m
 induction m with
 |zero=>intro t i _ _ h;omega
 |succ m ih=>
  intro t i ht hi hk
  unfold law13_over_l1
  rw[loopF_succ]
  generalize hr:loopF _ m=r1
  replace hr:law13_over_l1 n m=r1:=hr
  simp only[hr] at ih
  cases t with
  |nil=>
   cases drop_end ht hi
   simp only[ge_dec (Nat.lt_irrefl _),cond_false]
   exact⟨_,rfl,by simp⟩
  |cons x t=>
   obtain⟨h1,h2,h3⟩:=drop_get ht
   simp only[lt_dec h3,cond_true,idx_nat,h1,Option.bind_some,jn]
   by_cases e1:(x.rows.length:Int)>10
   ·rw[decide_eq_true e1];exact⟨true,rfl,λh=>by cases h⟩
   ·rw[decide_eq_false e1,cond_false]
    by_cases e2:(x.kids.length:Int)>10
    ·rw[decide_eq_true e2];exact⟨true,rfl,λh=>by cases h⟩
    ·rw[decide_eq_false e2,cond_false]
     obtain⟨b,g1,g2⟩:=ih t (i+1) h2 (by omega) (by simp only[List.length_cons] at hk;omega)
     rcases over_l2 n r1 f (f.length:Int) (i:Int) x.rows (by omega) n x.rows 0 rfl (Nat.zero_le _) (by omega) with h|h
     ·exact⟨true,h,λh=>by cases h⟩
     ·refine⟨b, ?_,λhb c hc=> ?_⟩
      ·rw[wrap_succ (show i<4611686018427387904 by omega),g1] at h
       exact h
      ·rcases List.mem_cons.1 hc with rfl|hc
       ·omega
       ·exact g2 hb c hc
theorem over_ex(n:Nat)(hn:1003≤n)(f:Forest):∃b,law13_over n f=some b∧(b=false→f.pages.length≤70∧∀c∈f.pages,c.rows.length≤10∧c.kids.length≤10):=by
 unfold law13_over
 by_cases e:(f.pages.length:Int)>70
 ·rw[decide_eq_true e];exact⟨true,rfl,λh=>by cases h⟩
 ·rw[decide_eq_false e,cond_false]
  obtain⟨b,h1,h2⟩:=over_l1 n hn f.pages (by omega) n f.pages 0 rfl (Nat.zero_le _) (by omega)
  exact⟨b,h1,λhb=>⟨by omega,h2 hb⟩⟩
def frees(f:List Content):List Int:=((List.range' 1 63).filter fun(j:Nat)=>decide ((pg f (j:Int)).kind=0)).map Int.ofNat
theorem rfree_eq(n:Nat)(hn:1003≤n){f:List Content}(hf:f.length=64):ref13_free n ⟨f⟩=some (frees f):=by
 have key:∀(m i:Nat)(acc:List Int),i≤64→64-i<m→acc.length≤i→ref13_free_l1 n m ((i:Int),⟨f⟩,acc,())=some (acc++((List.range' i (64-i)).filter fun(j:Nat)=>decide ((pg f (j:Int)).kind=0)).map Int.ofNat):=by
  intro m
  induction m with
  |zero=>intro i acc _ h;omega
  |succ m ih=>
   intro i acc hi hm ha
   unfold ref13_free_l1
   rw[loopF_succ]
   generalize hr:loopF _ m=r1
   replace hr:ref13_free_l1 n m=r1:=hr
   simp only[hr] at ih
   by_cases h:i<64
   ·simp only[show decide ((i:Int)<64)=true from decide_eq_true (by omega),cond_true,show idx f (i:Int)=some (pg f (i:Int)) from idx_pg ⟨by omega,by omega⟩,Option.bind_some,jn,ref13_free_j2,ieq0,wrap_succ (show i<4611686018427387904 by omega),app_lt (show acc.length+[(i:Int)].length≤1000000 by simp;omega) (show 8≤1000 by omega)]
    rw[show 64-i=(64-(i+1))+1 by omega,List.range'_succ,List.filter_cons]
    by_cases h0:(pg f (i:Int)).kind=0
    ·rw[decide_eq_true h0,cond_true,ih (i+1) _ (by omega) (by omega) (by simp;omega)]
     simp
    ·rw[decide_eq_false h0,cond_false,ih (i+1) _ (by omega) (by omega) (by omega)]
     simp
   ·obtain rfl:i=64:=by omega
    simp only[show decide (((64:Nat):Int)<64)=false from rfl,cond_false]
    simp
 exact(key n 1 [] (by omega) (by omega) (by simp)).trans (by simp[frees])
theorem mem_frees{f:List Content}{x:Int}:x∈frees f↔(0<x∧x<64)∧(pg f x).kind=0:=by
 unfold frees
 rw[List.mem_map]
 constructor
 ·rintro⟨a,ha,rfl⟩
  obtain⟨h1,h2⟩:=List.mem_filter.1 ha
  rw[List.mem_range'_1] at h1
  exact⟨⟨by show(0:Int)<(a:Int);omega,by show(a:Int)<64;omega⟩,of_decide_eq_true h2⟩
 ·rintro⟨⟨h1,h2⟩,h3⟩
  have e:((x.toNat:Nat):Int)=x:=by omega
  refine⟨x.toNat,List.mem_filter.2 ⟨by rw[List.mem_range'_1];omega,decide_eq_true ?_⟩,e⟩
  rw[e];exact h3
theorem nodup_frees{f:List Content}:(frees f).Nodup:=by
 unfold frees
 refine List.pairwise_map.2 (List.Pairwise.imp (λ{a b} h e=>h (Int.ofNat.inj e)) ((List.nodup_range' ..).filter _))
theorem nodup_all64:all64.Nodup:=by
 unfold all64
 exact List.pairwise_map.2 (List.Pairwise.imp (λ{a b} h e=>h (Int.ofNat.inj e)) List.nodup_range)
theorem count64{f:List Content}{d:Nat}(hg:Good f d):(frees f).length+(pgs f d 0).length=64:=by
 have h1:(frees f++pgs f d 0).Nodup:=List.nodup_append.2 ⟨nodup_frees,hg.nodup,λa ha b hb e=>by
  subst e
  exact(sub_in hg.tree a hb).2 (mem_frees.1 ha).2⟩
 have hp:(frees f++pgs f d 0).Perm all64:=(List.perm_ext_iff_of_nodup h1 nodup_all64).2 λx=>by
  rw[List.mem_append,mem_all64]
  constructor
  ·rintro(h|h)
   ·have:=(mem_frees.1 h).1;omega
   ·exact(sub_in hg.tree x h).1
  ·intro hx
   by_cases hm:x∈pgs f d 0
   ·exact Or.inr hm
   ·refine Or.inl (mem_frees.2 ⟨⟨?_,hx.2⟩,hg.rest x hx hm⟩)
    have:x≠0:=λe=>hm (by
     subst e
     obtain⟨d',rfl⟩:∃d',d=d'+1:=⟨d-1,by have:=hg.pos;omega⟩
     exact pgs_self)
    omega
 have:=hp.length_eq
 rw[List.length_append] at this
 rw[this];simp[all64]
def new0:List Content:=(List.replicate 64 cont0).set 0 ⟨1,[],[]⟩
theorem rnew_eq(n:Nat):ref13_New n=some ⟨new0⟩:=rfl
end Go.Proofs.YtlcmdgpjiendmaaGreat
namespace Go.Proofs.YtlcmdgpjiendmaaGreat
open Go.Bur
set_option linter.unusedSimpArgs false
set_option linter.unusedVariables false
set_option maxRecDepth 100000
def setP(f:List Content)(n:Int)(c:Content):List Content:=f.set n.toNat c
def withS(f:List Content):List Sheet→List Content
 |[]=>f
 |s::t=>withS (setP f s.page s.content) t
def SheetsIn(l:List Sheet):Prop:=∀s∈l,0≤s.page∧s.page<64
theorem set_len{f:List Content}{n:Int}{c:Content}:(setP f n c).length=f.length:=by simp[setP]
theorem with_len:∀{l:List Sheet} {f:List Content},(withS f l).length=f.length
 |[],_=>rfl
 |s::t,f=>by rw[withS,with_len,set_len]
theorem pg_set{f:List Content}{n:Int}{c:Content}(hf:f.length=64)(hn:0≤n∧n<64)(m:Int):pg (setP f n c) m=if m=n then c else pg f m:=by
 unfold pg setP
 by_cases hm:0≤m
 ·obtain⟨j,rfl⟩:∃j:Nat,m=(j:Int):=⟨m.toNat,by omega⟩
  obtain⟨i,rfl⟩:∃i:Nat,n=(i:Int):=⟨n.toNat,by omega⟩
  rw[idx_nat,idx_nat,Int.toNat_natCast]
  by_cases e:j=i
  ·subst e
   rw[if_pos rfl,List.getElem?_set_self (by omega)];rfl
  ·rw[if_neg (by omega),List.getElem?_set_ne (λh=>e h.symm)]
 ·have h1:∀l:List Content,idx l m=none:=λl=>by unfold idx;rw[if_neg hm]
  rw[h1,h1,if_neg (by omega)]
theorem with_other:∀{l:List Sheet} {f:List Content} {m:Int},f.length=64→SheetsIn l→(∀s∈l,s.page≠m)→pg (withS f l) m=pg f m
 |[],_,_,_,_,_=>rfl
 |s::t,f,m,hf,hl,hm=>by
  rw[withS,with_other (by rw[set_len];exact hf) (λx hx=>hl x (List.mem_cons_of_mem _ hx)) (λx hx=>hm x (List.mem_cons_of_mem _ hx)),pg_set hf (hl s (List.mem_cons_self ..)),if_neg (λe=>hm s (List.mem_cons_self ..) e.symm)]
theorem with_at:∀{l:List Sheet} {f:List Content},f.length=64→SheetsIn l→(l.map (·.page)).Nodup→∀s∈l,pg (withS f l) s.page=s.content
 |s::t,f,hf,hl,hd,x,hx=>by
  rw[List.map_cons] at hd
  obtain⟨d1,d2⟩:=List.nodup_cons.1 hd
  rw[withS]
  rcases List.mem_cons.1 hx with rfl|hx
  ·rw[with_other (by rw[set_len];exact hf) (λx hx=>hl x (List.mem_cons_of_mem _ hx)) (λy hy e=>d1 (List.mem_map.2 ⟨y,hy,e⟩)),pg_set hf (hl x (List.mem_cons_self ..)),if_pos rfl]
  ·exact with_at (by rw[set_len];exact hf) (λx hx=>hl x (List.mem_cons_of_mem _ hx)) d2 x hx
theorem pg_ext{f g:List Content}(hf:f.length=64)(hg:g.length=64)(h:∀m,0≤m∧m<64→pg f m=pg g m):f=g:=by
 refine List.ext_getElem (by omega) λi h1 h2=> ?_
 have:=h (i:Int) ⟨by omega,by omega⟩
 rwa[pg_nat (get_some h1),pg_nat (get_some h2)] at this
theorem srtS_nodup{l:List Sheet}(h:(l.map (·.page)).Nodup):((srtS l).map (·.page)).Nodup:=((srtS_perm l).map _).nodup_iff.2 h
theorem with_perm{f:List Content}{l m:List Sheet}(hp:l.Perm m)(hf:f.length=64)(hl:SheetsIn l)(hd:(l.map (·.page)).Nodup):withS f l=withS f m:=by
 have hm:SheetsIn m:=λs hs=>hl s (hp.mem_iff.2 hs)
 have hd':(m.map (·.page)).Nodup:=(hp.map _).nodup_iff.1 hd
 refine pg_ext (by rw[with_len];exact hf) (by rw[with_len];exact hf) λk hk=> ?_
 by_cases h:∃s∈l,s.page=k
 ·obtain⟨s,hs,rfl⟩:=h
  rw[with_at hf hl hd s hs,with_at hf hm hd' s (hp.mem_iff.1 hs)]
 ·rw[with_other hf hl λs hs e=>h ⟨s,hs,e⟩,with_other hf hm λs hs e=>h ⟨s,hp.mem_iff.2 hs,e⟩]
def Ctx(f:List Content)(D d:Nat)(n:Int)(lo:Key)(hi:Option Key)(Q:List Int)(R1 R2:List Row):Prop:=
 ∀f',(∀m∈Q,pg f' m=pg f m)→sub f' d n lo hi→sub f' D 0 key0 none∧(pgs f' D 0).Perm (Q++pgs f' d n)∧rws f' D 0=R1++(rws f' d n++R2)
structure At(f:List Content)(D d:Nat)(n:Int)(lo:Key)(hi:Option Key)(Q:List Int)(R1 R2:List Row):Prop where
 len:f.length=64
 ok:∀m,0≤m∧m<64→checkP (pg f m)=true
 ctx:Ctx f D d n lo hi Q R1 R2
 tree:sub f d n lo hi
 nodup:(Q++pgs f d n).Nodup
 rest:∀m,0≤m∧m<64→m∉Q++pgs f d n→(pg f m).kind=0
 low:ltK lo key0=false
theorem At.good{f:List Content}{D d:Nat}{n:Int}{lo:Key}{hi:Option Key}{Q:List Int}{R1 R2:List Row}(h:At f D d n lo hi Q R1 R2):Good f D∧rws f D 0=R1++(rws f d n++R2):=by
 obtain⟨h1,h2,h3⟩:=h.ctx f (λ_ _=>rfl) h.tree
 exact⟨⟨h.len,h.ok,h1,h2.nodup_iff.2 h.nodup,λm hm hn=>h.rest m hm λhq=>hn (h2.mem_iff.2 hq)⟩,h3⟩
theorem At.root{f:List Content}{D:Nat}(h:Good f D):At f D D 0 key0 none [] [] []:=
 ⟨h.len,h.ok,λf' _ hs=>⟨hs,List.Perm.refl _,by simp⟩,h.tree,h.nodup,λm hm hn=>h.rest m hm hn,ltK_irrefl _⟩
theorem At.free{f:List Content}{D d:Nat}{n:Int}{lo:Key}{hi:Option Key}{Q:List Int}{R1 R2:List Row}(h:At f D d n lo hi Q R1 R2){m:Int}(hm:m∈frees f):(0<m∧m<64)∧m∉Q++pgs f d n:=by
 obtain⟨h1,h2⟩:=mem_frees.1 hm
 obtain⟨g1,g2,_⟩:=h.ctx f (λ_ _=>rfl) h.tree
 exact⟨h1,λhq=>(sub_in g1 m (g2.mem_iff.2 hq)).2 h2⟩
theorem At.down{f:List Content}{D d:Nat}{n:Int}{lo:Key}{hi:Option Key}{Q:List Int}{R1 R2:List Row}(h:At f D (d+2) n lo hi Q R1 R2){l1 l2:List Kid}{x:Kid}(hp:pg f n=⟨2,[],l1++x::l2⟩):
  At f D (d+1) x.page (loAt l1 lo x.least) (nxt hi l2) (Q++n::((l1.flatMap λk=>pgs f (d+1) k.page)++l2.flatMap λk=>pgs f (d+1) k.page)) (R1++l1.flatMap λk=>rws f (d+1) k.page) ((l2.flatMap λk=>rws f (d+1) k.page)++R2):=by
 obtain⟨l,e,hl2,hl4,hK⟩:=inner_of h.tree
 obtain rfl:l=l1++x::l2:=by rw[hp] at e;injection e with _ _ e;exact e.symm
 obtain⟨k1,k2,k3⟩:=(kids3 (N:=[x]) (N':=[]) rfl).1 hK.ok
 have k2:sub f (d+1) x.page (loAt l1 lo x.least) (nxt hi l2):=k2
 have hpl:=pgs_list (d:=d+1) hp
 have hnd:=h.nodup
 rw[hpl,List.flatMap_append,List.flatMap_cons] at hnd
 have hperm:((Q++n::((l1.flatMap λk=>pgs f (d+1) k.page)++l2.flatMap λk=>pgs f (d+1) k.page))++pgs f (d+1) x.page).Perm (Q++pgs f (d+2) n):=by
  rw[hpl,List.flatMap_append,List.flatMap_cons]
  refine List.perm_iff_count.2 λa=> ?_
  simp only[List.count_cons,List.count_append];omega
 refine⟨h.len,h.ok,λf' hag hs=> ?_,k2,hperm.nodup_iff.2 h.nodup,λm hm hn=>h.rest m hm λhq=>hn (hperm.mem_iff.2 hq),loAt_ge hK h.low⟩
 have en:pg f' n=pg f n:=hag n (List.mem_append_right _ (List.mem_cons_self ..))
 have hxm:∀j∈l1++l2,x.page≠j.page:=λj hj e=>by
  have hn:=hK.nodup
  rw[List.map_append,List.map_cons] at hn
  obtain⟨_,n2,n3⟩:=List.nodup_append.1 hn
  rcases List.mem_append.1 hj with hj|hj
  ·exact n3 j.page (List.mem_map.2 ⟨j,hj,rfl⟩) x.page (List.mem_cons_self ..) e.symm
  ·exact(List.nodup_cons.1 n2).1 (List.mem_map.2 ⟨j,hj,e.symm⟩)
 obtain⟨g1,g2,g3⟩:=block_gen (N:=[x]) (M:=[x]) (x:=x) (x':=x) (f':=f') h.tree hp (en.trans hp) h.low hl2 hl4 rfl rfl rfl (λk hk p hp=>by
   refine hag p (List.mem_append_right _ (List.mem_cons_of_mem _ ?_))
   rcases List.mem_append.1 hk with hk|hk
   ·exact List.mem_append_left _ (List.mem_flatMap.2 ⟨k,hk,hp⟩)
   ·exact List.mem_append_right _ (List.mem_flatMap.2 ⟨k,hk,hp⟩)) hs (λk hk=>by cases List.mem_singleton.1 hk;exact hK.page x (by simp)) (by simp) (λk hk j hj=>by cases List.mem_singleton.1 hk;exact hxm j hj) (λk hk=>by cases List.mem_singleton.1 hk;exact hK.tab x (by simp))
 obtain⟨c1,c2,c3⟩:=h.ctx f' (λm hm=>hag m (List.mem_append_left _ hm)) g1
 refine⟨c1,c2.trans ?_, ?_⟩
 ·rw[g3]
  simp only[List.flatMap_cons,List.flatMap_nil,List.append_nil]
  refine List.perm_iff_count.2 λa=> ?_
  simp only[List.count_cons,List.count_append];omega
 ·rw[c3,g2]
  simp only[List.flatMap_cons,List.flatMap_nil,List.append_nil,List.append_assoc]
theorem At.change{f f':List Content}{D d:Nat}{n:Int}{lo:Key}{hi:Option Key}{Q:List Int}{R1 R2:List Row}(h:At f D d n lo hi Q R1 R2)(hl:f'.length=64)(hok:∀m,0≤m∧m<64→checkP (pg f' m)=true)(hq:∀m∈Q,pg f' m=pg f m)(hs:sub f' d n lo hi)(hn:(Q++pgs f' d n).Nodup)(hr:∀m,0≤m∧m<64→m∉Q++pgs f' d n→(pg f' m).kind=0):At f' D d n lo hi Q R1 R2:=
 ⟨hl,hok,λf2 hag hs2=>h.ctx f2 (λm hm=>(hag m hm).trans (hq m hm)) hs2,hs,hn,hr,h.low⟩
end Go.Proofs.YtlcmdgpjiendmaaGreat
namespace Go.Proofs.YtlcmdgpjiendmaaGreat
open Go.Bur
set_option linter.unusedSimpArgs false
set_option linter.unusedVariables false
set_option maxRecDepth 100000
theorem sub_ok'{f:List Content}:∀{d:Nat} {n:Int} {lo:Key} {hi:Option Key},sub f d n lo hi→∀m∈pgs f d n,checkP (pg f m)=true
 |1,n,lo,hi,h,m,hm=>by
  have hc:=sub_check h
  obtain⟨_,_,l,h3,_⟩:=h
  rw[pgs,h3] at hm
  cases List.mem_singleton.1 hm;exact hc
 |d+2,n,lo,hi,h,m,hm=>by
  have hc:=sub_check h
  obtain⟨_,_,l,h3,_,_,h6⟩:=h
  rcases List.mem_cons.1 hm with rfl|hm
  ·exact hc
  ·obtain⟨k,hk,hm⟩:=List.mem_flatMap.1 hm
   rw[h3] at hk
   obtain⟨a,b,hs⟩:=kidsOk_all h6 k hk
   exact sub_ok' hs m hm
theorem tw_all{α:Type}{p:α→Bool}:∀{u v:List α},(∀x∈u,p x=true)→(u++v).takeWhile p=u++v.takeWhile p
 |[],_,_=>rfl
 |x::u,v,h=>by rw[List.cons_append,List.takeWhile_cons,h x (List.mem_cons_self ..)];simp only[if_true];rw[tw_all λy hy=>h y (List.mem_cons_of_mem _ hy)];rfl
theorem kidI_of{l1 l2:List Kid}{x:Kid}{k:Key}(h:(l1++x::l2).Pairwise λa b=>ltK a.least b.least=true)(c1:l1≠[]→ltK k x.least=false)(c2:∀y t,l2=y::t→ltK k y.least=true):kidI (l1++x::l2) k=l1.length:=by
 have h2:l2.takeWhile (λy=> !ltK k y.least)=[]:=by
  cases l2 with
  |nil=>rfl
  |cons y t=>rw[List.takeWhile_cons,c2 y t rfl];rfl
 unfold kidI
 cases l1 with
 |nil=>rw[List.nil_append,List.tail_cons,h2]
 |cons a u=>
  have hx:=c1 (by simp)
  rw[List.cons_append,List.tail_cons,tw_all λy hy=> ?_,List.takeWhile_cons,hx]
  ·simp only[Bool.not_false,if_true,h2];simp
  ·obtain⟨_,_,q⟩:=List.pairwise_append.1 h
   rw[le_le (lt_asymm (q y (List.mem_cons_of_mem _ hy) x (List.mem_cons_self ..))) hx];rfl
def kidAt(l:List Kid)(i:Nat):Kid:=(l[i]?).getD ⟨key0,0⟩
theorem kidAt_mid{l1 l2:List Kid}{x:Kid}:kidAt (l1++x::l2) l1.length=x:=by simp[kidAt]
def On(f:List Content)(D d:Nat)(n:Int)(k:Key):Prop:=∃lo hi Q R1 R2,At f D d n lo hi Q R1 R2∧within k lo hi=true∧(∀r∈R1,ltK r.key k=true)∧∀r∈R2,ltK k r.key=true
theorem On.root{f:List Content}{D:Nat}(h:Good f D){k:Key}(hk:ltK k key0=false):On f D D 0 k:=⟨key0,none,[],[],[],At.root h,within_iff.2 ⟨hk,λ_ e=>by cases e⟩,by simp,by simp⟩
theorem On.good{f:List Content}{D d:Nat}{n:Int}{k:Key}(h:On f D d n k):Good f D:=by obtain⟨_,_,_,_,_,h,_⟩:=h;exact h.good.1
theorem On.down{f:List Content}{D d:Nat}{n:Int}{k:Key}(h:On f D (d+2) n k){l1 l2:List Kid}{x:Kid}(hp:pg f n=⟨2,[],l1++x::l2⟩)(c1:l1≠[]→ltK k x.least=false)(c2:∀y t,l2=y::t→ltK k y.least=true):On f D (d+1) x.page k:=by
 obtain⟨lo,hi,Q,R1,R2,h,hw,h1,h2⟩:=h
 obtain⟨l,e,hl2,hl4,hK⟩:=inner_of h.tree
 obtain rfl:l=l1++x::l2:=by rw[hp] at e;injection e with _ _ e;exact e.symm
 obtain⟨i1,i2⟩:=hK.inner h.low hl2 hl4
 have hw':=within_iff.1 hw
 obtain⟨a,s1,s2,s3,s4,s5⟩:=kid_rows i1 i2 hK.ok rfl c1 c2 hw'.2
 refine⟨_,_,_,_,_,h.down hp,within_iff.2 ⟨?_,s2⟩,λr hr=> ?_,λr hr=> ?_⟩
 ·cases l1 with
  |nil=>exact hw'.1
  |cons u v=>exact c1 (by simp)
 ·rcases List.mem_append.1 hr with hr|hr
  ·exact h1 r hr
  ·exact s4 r hr
 ·rcases List.mem_append.1 hr with hr|hr
  ·exact s5 r hr
  ·exact h2 r hr
theorem On.kids{f:List Content}{D d:Nat}{n:Int}{k:Key}(h:On f D (d+2) n k):∃l1 x l2,pg f n=⟨2,[],l1++x::l2⟩∧InnerOk (l1++x::l2)∧l1.length=kidI (l1++x::l2) k∧(l1≠[]→ltK k x.least=false)∧(∀y t,l2=y::t→ltK k y.least=true)∧On f D (d+1) x.page k:=by
 have h':=h
 obtain⟨lo,hi,Q,R1,R2,h1,hw,_⟩:=h
 obtain⟨l,e,hl2,hl4,hK⟩:=inner_of h1.tree
 have hI:=(hK.inner h1.low hl2 hl4).1
 obtain⟨l1,x,l2,e1,e2,c1,c2⟩:=kid_cut hI.ne k
 subst e1
 exact⟨l1,x,l2,e,hI,e2,c1,c2,h'.down e c1 c2⟩
theorem three{l:List Sheet}{f:List Content}(hf:f.length=64)(hl:SheetsIn l)(hd:(l.map (·.page)).Nodup):(∀s∈l,pg (withS f (srtS l)) s.page=s.content)∧∀m,(∀s∈l,s.page≠m)→pg (withS f (srtS l)) m=pg f m:=by
 have e:withS f (srtS l)=withS f l:=(with_perm (srtS_perm l).symm hf hl hd).symm
 rw[e]
 exact⟨with_at hf hl hd,λm hm=>with_other hf hl hm⟩
def splitS(f:List Content)(n:Int)(i:Nat)(m:Int):List Sheet:=
 let l:=(pg f n).kids
 let x:=kidAt l i
 let c:=pg f x.page
 [⟨n,⟨2,[],l.take (i+1)++⟨cutS c 2,m⟩::l.drop (i+1)⟩⟩,⟨x.page,cutA c 2⟩,⟨m,cutB c 2⟩]
theorem splitS_eq{f:List Content}{n m:Int}{l1 l2:List Kid}{x:Kid}(hp:pg f n=⟨2,[],l1++x::l2⟩):splitS f n l1.length m=[⟨n,⟨2,[],l1++x::⟨cutS (pg f x.page) 2,m⟩::l2⟩⟩,⟨x.page,cutA (pg f x.page) 2⟩,⟨m,cutB (pg f x.page) 2⟩]:=by
 unfold splitS
 rw[hp]
 simp only[kidAt_mid]
 have e1:(l1++x::l2).take (l1.length+1)=l1++[x]:=by
  rw[show l1++x::l2=(l1++[x])++l2 by simp,show l1.length+1=(l1++[x]).length by simp,List.take_left]
 have e2:(l1++x::l2).drop (l1.length+1)=l2:=by
  rw[show l1++x::l2=(l1++[x])++l2 by simp,show l1.length+1=(l1++[x]).length by simp,List.drop_left]
 rw[e1,e2]
 simp
structure Grp(f:List Content)(l:List Sheet):Prop where
 rng:SheetsIn l
 nodup:(l.map (·.page)).Nodup
theorem split_on{f:List Content}{D d:Nat}{n m:Int}{k:Key}(h:On f D (d+2) n k){l1 l2:List Kid}{x:Kid}(hp:pg f n=⟨2,[],l1++x::l2⟩)(c1:l1≠[]→ltK k x.least=false)(c2:∀y t,l2=y::t→ltK k y.least=true)(h3:(l1++x::l2).length≤3)(hfull:sizeP (pg f x.page)=4)(hm:m∈frees f):
  Grp f (splitS f n l1.length m)∧On (withS f (srtS (splitS f n l1.length m))) D (d+2) n k∧rws (withS f (srtS (splitS f n l1.length m))) D 0=rws f D 0∧pg (withS f (srtS (splitS f n l1.length m))) n=⟨2,[],l1++x::⟨cutS (pg f x.page) 2,m⟩::l2⟩∧
  pg (withS f (srtS (splitS f n l1.length m))) x.page=cutA (pg f x.page) 2∧pg (withS f (srtS (splitS f n l1.length m))) m=cutB (pg f x.page) 2∧sizeP (cutA (pg f x.page) 2)=2∧sizeP (cutB (pg f x.page) 2)=2:=by
 obtain⟨lo,hi,Q,R1,R2,h,hw,hr1,hr2⟩:=h
 obtain⟨hm0,hmf⟩:=h.free hm
 have hnd:=(List.nodup_append.1 h.nodup).2.1
 have hpl:=pgs_list (d:=d+1) hp
 have hxin:x.page∈pgs f (d+2) n:=by rw[hpl];exact List.mem_cons_of_mem _ (kid_self (by simp))
 have hmp:m∉pgs f (d+2) n:=λe=>hmf (List.mem_append_right _ e)
 have hxn:x.page≠n:=λe=>by
  rw[hpl] at hnd
  exact(List.nodup_cons.1 hnd).1 (by rw[←e];exact kid_self (by simp))
 have hmn:m≠n:=λe=>hmp (by rw[e];exact pgs_self)
 have hmx:m≠x.page:=λe=>hmp (by rw[e];exact hxin)
 have hn:=sub_page h.tree
 have hx:=(sub_in h.tree _ hxin).1
 have hG:Grp f (splitS f n l1.length m):=by
  rw[splitS_eq hp]
  refine⟨λs hs=> ?_, ?_⟩
  ·simp only[List.mem_cons,List.not_mem_nil,or_false] at hs
   rcases hs with rfl|rfl|rfl
   ·exact hn
   ·exact hx
   ·simp only;omega
  ·simp only[List.map_cons,List.map_nil,List.nodup_cons,List.mem_cons,List.not_mem_nil,or_false,not_or,List.nodup_nil,and_true,not_false_eq_true]
   exact⟨⟨λe=>hxn e.symm,λe=>hmn e.symm⟩,λe=>hmx e.symm⟩
 obtain⟨t1,t2⟩:=three h.len hG.rng hG.nodup
 have hsz:sizeP (cutA (pg f x.page) 2)=2∧sizeP (cutB (pg f x.page) 2)=2:=by
  obtain⟨l,e,hl2,hl4,hK⟩:=inner_of h.tree
  obtain rfl:l=l1++x::l2:=by rw[hp] at e;injection e with _ _ e;exact e.symm
  obtain⟨a,b,hs⟩:=kidsOk_all hK.ok x (by simp)
  obtain⟨_,_,_,_,_,q1,q2⟩:=con_cut (m:=2) (con_of hs).1 (by omega) (by omega)
  exact⟨q1,by omega⟩
 generalize hf':withS f (srtS (splitS f n l1.length m))=f' at t1 t2⊢
 rw[splitS_eq hp] at t1 t2
 have e1:=t1 _ (List.mem_cons_self ..)
 have e2:=t1 _ (List.mem_cons_of_mem _ (List.mem_cons_self ..))
 have e3:=t1 _ (List.mem_cons_of_mem _ (List.mem_cons_of_mem _ (List.mem_cons_self ..)))
 simp only at e1 e2 e3
 have e4:∀p,p≠n→p≠x.page→p≠m→pg f' p=pg f p:=λp q1 q2 q3=>t2 p λs hs=>by
  simp only[List.mem_cons,List.not_mem_nil,or_false] at hs
  rcases hs with rfl|rfl|rfl
  ·exact q1.symm
  ·exact q2.symm
  ·exact q3.symm
 have hlen:f'.length=64:=by rw[←hf',with_len];exact h.len
 obtain⟨g1,g2,g3,g4⟩:=split_step h.tree hp h.low h3 hfull hnd hm0 hmp e1 e2 e3 e4
 have hQ:∀q∈Q,pg f' q=pg f q:=λq hq=>by
  have hdj:=(List.nodup_append.1 h.nodup).2.2
  exact e4 q (λe=>hdj q hq n pgs_self e) (λe=>hdj q hq _ hxin e) (λe=>hmf (by rw[←e];exact List.mem_append_left _ hq))
 have hperm:(Q++pgs f' (d+2) n).Perm (m::(Q++pgs f (d+2) n)):=(g3.append_left Q).trans List.perm_middle
 have hA:At f' D (d+2) n lo hi Q R1 R2:=h.change hlen (λp hp'=>by
   by_cases hin:p∈pgs f' (d+2) n
   ·exact sub_ok' g1 p hin
   ·have hne:p≠n∧p≠x.page∧p≠m:=⟨λe=>hin (by rw[e];exact pgs_self),λe=>hin (g3.mem_iff.2 (by rw[e];exact List.mem_cons_of_mem _ hxin)),λe=>hin (g3.mem_iff.2 (by rw[e];exact List.mem_cons_self ..))⟩
    rw[e4 p hne.1 hne.2.1 hne.2.2];exact h.ok p hp') hQ g1 (hperm.nodup_iff.2 (List.nodup_cons.2 ⟨hmf,h.nodup⟩)) (λp hp' hnp=>by
   have hnp':p∉m::(Q++pgs f (d+2) n):=λe=>hnp (hperm.mem_iff.2 e)
   have hne:p≠n∧p≠x.page∧p≠m:=⟨λe=>hnp' (by rw[e];exact List.mem_cons_of_mem _ (List.mem_append_right _ pgs_self)),λe=>hnp' (by rw[e];exact List.mem_cons_of_mem _ (List.mem_append_right _ hxin)),λe=>hnp' (by rw[e];exact List.mem_cons_self ..)⟩
   rw[e4 p hne.1 hne.2.1 hne.2.2]
   exact h.rest p hp' λe=>hnp' (List.mem_cons_of_mem _ e))
 exact⟨hG,⟨lo,hi,Q,R1,R2,hA,hw,hr1,hr2⟩,by rw[hA.good.2,h.good.2,g2],e1,e2,e3,hsz.1,hsz.2⟩
end Go.Proofs.YtlcmdgpjiendmaaGreat
namespace Go.Proofs.YtlcmdgpjiendmaaGreat
open Go.Bur
set_option linter.unusedSimpArgs false
set_option linter.unusedVariables false
set_option maxRecDepth 100000
def Chain(R:List Row):List Content→List Group→List Content→Prop
 |f,[],f'=>f'=f
 |f,g::gs,f'=>Grp f g.sheets∧(g.sheets.Pairwise λa b=>a.page<b.page)∧(∃D,Good (withS f g.sheets) D∧rws (withS f g.sheets) D 0=R)∧Chain R (withS f g.sheets) gs f'
theorem chain_app{R:List Row}:∀{gs hs:List Group} {f f' f'':List Content},Chain R f gs f'→Chain R f' hs f''→Chain R f (gs++hs) f''
 |[],_,_,_,_,h1,h2=>by cases h1;exact h2
 |g::gs,_,_,_,_,⟨a,b,c,h1⟩,h2=>⟨a,b,c,chain_app h1 h2⟩
theorem srtS_lt{l:List Sheet}(hd:(l.map (·.page)).Nodup):(srtS l).Pairwise λa b=>a.page<b.page:=by
 have h1:=srtS_sorted l
 have h2:=List.pairwise_map.1 (srtS_nodup hd)
 exact h1.imp₂ (λa b h h'=>by have:a.page≠b.page:=h';omega) h2
theorem grp_srt{f:List Content}{l:List Sheet}(h:Grp f l):Grp f (srtS l):=⟨λs hs=>h.rng s ((srtS_perm l).mem_iff.1 hs),srtS_nodup h.nodup⟩
theorem chain_one{R:List Row}{f:List Content}{l:List Sheet}{D:Nat}(h:Grp f l)(hg:Good (withS f (srtS l)) D)(hr:rws (withS f (srtS l)) D 0=R):Chain R f [⟨srtS l⟩] (withS f (srtS l)):=
 ⟨grp_srt h,srtS_lt h.nodup,⟨D,hg,hr⟩,rfl⟩
theorem On.low{f:List Content}{D d:Nat}{n:Int}{k:Key}(h:On f D d n k):ltK k key0=false:=by
 obtain⟨lo,hi,Q,R1,R2,h1,hw,_⟩:=h
 exact le_le h1.low (within_iff.1 hw).1
def partS(f:List Content)(a b:Int):List Sheet:=[⟨0,⟨2,[],[⟨key0,a⟩,⟨cutS (pg f 0) 2,b⟩]⟩⟩,⟨a,cutA (pg f 0) 2⟩,⟨b,cutB (pg f 0) 2⟩]
theorem part_good{f:List Content}{D:Nat}{a b:Int}{t:List Int}(h:Good f D)(hfull:sizeP (pg f 0)=4)(hfr:frees f=a::b::t):
  Grp f (partS f a b)∧Good (withS f (srtS (partS f a b))) (D+1)∧rws (withS f (srtS (partS f a b))) (D+1) 0=rws f D 0∧pg (withS f (srtS (partS f a b))) 0=⟨2,[],[⟨key0,a⟩,⟨cutS (pg f 0) 2,b⟩]⟩∧
  pg (withS f (srtS (partS f a b))) a=cutA (pg f 0) 2∧pg (withS f (srtS (partS f a b))) b=cutB (pg f 0) 2∧sizeP (cutA (pg f 0) 2)=2∧sizeP (cutB (pg f 0) 2)=2∧(0<a∧a<b∧b<64):=by
 obtain⟨d,rfl⟩:∃d,D=d+1:=⟨D-1,by have:=h.pos;omega⟩
 have hA:=At.root h
 obtain⟨ha0,haf⟩:=hA.free (m:=a) (by rw[hfr];exact List.mem_cons_self ..)
 obtain⟨hb0,hbf⟩:=hA.free (m:=b) (by rw[hfr];exact List.mem_cons_of_mem _ (List.mem_cons_self ..))
 rw[List.nil_append] at haf hbf
 have hsrt:(frees f).Pairwise (· < ·):=by
  unfold frees
  refine List.pairwise_map.2 (List.Pairwise.imp (λ{a b} h=>Int.ofNat_lt.2 h) ((List.pairwise_lt_range' ..).filter _))
 have hab:a<b:=by rw[hfr] at hsrt;exact(List.pairwise_cons.1 hsrt).1 b (List.mem_cons_self ..)
 have hG:Grp f (partS f a b):=by
  refine⟨λs hs=> ?_, ?_⟩
  ·simp only[partS,List.mem_cons,List.not_mem_nil,or_false] at hs
   rcases hs with rfl|rfl|rfl<;>(simp only;omega)
  ·simp only[partS,List.map_cons,List.map_nil,List.nodup_cons,List.mem_cons,List.not_mem_nil,or_false,not_or,List.nodup_nil,and_true,not_false_eq_true]
   omega
 obtain⟨t1,t2⟩:=three h.len hG.rng hG.nodup
 obtain⟨_,_,_,_,_,q1,q2⟩:=con_cut (m:=2) (con_of h.tree).1 (by omega) (by omega)
 generalize hf':withS f (srtS (partS f a b))=f' at t1 t2⊢
 have e1:=t1 _ (List.mem_cons_self ..)
 have e2:=t1 _ (List.mem_cons_of_mem _ (List.mem_cons_self ..))
 have e3:=t1 _ (List.mem_cons_of_mem _ (List.mem_cons_of_mem _ (List.mem_cons_self ..)))
 simp only at e1 e2 e3
 have e4:∀p,p≠0→p≠a→p≠b→pg f' p=pg f p:=λp q1 q2 q3=>t2 p λs hs=>by
  simp only[partS,List.mem_cons,List.not_mem_nil,or_false] at hs
  rcases hs with rfl|rfl|rfl
  ·exact q1.symm
  ·exact q2.symm
  ·exact q3.symm
 obtain⟨g1,g2,g3⟩:=part_step h.tree hfull h.nodup ha0 hb0 (by omega) haf hbf e1 e2 e3 e4
 have hperm:(pgs f' (d+2) 0).Perm (a::b::pgs f (d+1) 0):=g3
 refine⟨hG,⟨by rw[←hf',with_len];exact h.len,λp hp=> ?_,g1,hperm.nodup_iff.2 (List.nodup_cons.2 ⟨λe=> ?_,List.nodup_cons.2 ⟨hbf,h.nodup⟩⟩),λp hp hnp=> ?_⟩,g2,e1,e2,e3,q1,by omega,by omega⟩
 ·by_cases hin:p∈pgs f' (d+2) 0
  ·exact sub_ok' g1 p hin
  ·have hnp':p∉a::b::pgs f (d+1) 0:=λe=>hin (hperm.mem_iff.2 e)
   simp only[List.mem_cons,not_or] at hnp'
   rw[e4 p (λe=>hnp'.2.2 (by rw[e];exact pgs_self)) hnp'.1 hnp'.2.1];exact h.ok p hp
 ·rcases List.mem_cons.1 e with e|e
  ·omega
  ·exact haf e
 ·have hnp':p∉a::b::pgs f (d+1) 0:=λe=>hnp (hperm.mem_iff.2 e)
  simp only[List.mem_cons,not_or] at hnp'
  rw[e4 p (λe=>hnp'.2.2 (by rw[e];exact pgs_self)) hnp'.1 hnp'.2.1]
  exact h.rest p hp hnp'.2.2
theorem rows_many{f:List Content}:∀{d:Nat} {n:Int} {lo:Key} {hi:Option Key},sub f d n lo hi→n≠0→(pgs f d n).length+1≤(rws f d n).length
 |1,n,lo,hi,h,hn=>by
  obtain⟨_,h2,l,h3,h4,h5⟩:=h
  have e:rws f 1 n=l:=by rw[rws,h3];simp
  have e2:pgs f 1 n=[n]:=by rw[pgs,h3];rfl
  have:=h2 hn
  rw[h3] at this
  rw[e,e2];simp[sizeP] at this⊢;omega
 |d+2,n,lo,hi,h,hn=>by
  obtain⟨_,_,l,h3,h4,h5,h6⟩:=h
  have e:rws f (d+2) n=l.flatMap λk=>rws f (d+1) k.page:=by rw[rws,h3];rfl
  have e2:pgs f (d+2) n=n::l.flatMap λk=>pgs f (d+1) k.page:=by rw[pgs,h3]
  have key:∀(t:List Kid),(∀k∈t,k∈l)→(t.flatMap λk=>pgs f (d+1) k.page).length+t.length≤(t.flatMap λk=>rws f (d+1) k.page).length:=by
   intro t
   induction t with
   |nil=>intro _;simp
   |cons k t ih=>
    intro ht
    have hk:=ht k (List.mem_cons_self ..)
    obtain⟨a,b,hs⟩:=kidsOk_all h6 k hk
    have:=rows_many hs (by have:=h4.page k hk;omega)
    have:=ih λx hx=>ht x (List.mem_cons_of_mem _ hx)
    simp only[List.flatMap_cons,List.length_append,List.length_cons];omega
  have:=key l λk hk=>hk
  have:=h4.two
  rw[e,e2];simp only[List.length_cons];omega
theorem good_many{f:List Content}{D:Nat}(h:Good f D):(pgs f D 0).length≤1∨(pgs f D 0).length+1≤(rws f D 0).length:=by
 have ht:=h.tree
 match D,ht with
 |1,ht=>
  obtain⟨_,h2,l,h3,h4,h5⟩:=ht
  left;rw[pgs,h3];simp
 |d+2,ht=>
  right
  obtain⟨_,_,l,h3,h4,h5,h6⟩:=ht
  have e:rws f (d+2) 0=l.flatMap λk=>rws f (d+1) k.page:=by rw[rws,h3];rfl
  have e2:pgs f (d+2) 0=0::l.flatMap λk=>pgs f (d+1) k.page:=by rw[pgs,h3]
  have key:∀(t:List Kid),(∀k∈t,k∈l)→(t.flatMap λk=>pgs f (d+1) k.page).length+t.length≤(t.flatMap λk=>rws f (d+1) k.page).length:=by
   intro t
   induction t with
   |nil=>intro _;simp
   |cons k t ih=>
    intro ht
    have hk:=ht k (List.mem_cons_self ..)
    obtain⟨a,b,hs⟩:=kidsOk_all h6 k hk
    have:=rows_many hs (by have:=h4.page k hk;omega)
    have:=ih λx hx=>ht x (List.mem_cons_of_mem _ hx)
    simp only[List.flatMap_cons,List.length_append,List.length_cons];omega
  have:=key l λk hk=>hk
  have:=h4.two
  rw[e,e2];simp only[List.length_cons];omega
theorem many_rows{f:List Content}{D:Nat}(h:Good f D)(hf:(frees f).length≤1):64≤(rws f D 0).length:=by
 have h1:=count64 h
 have h2:=good_many h
 omega
def stepP(f:List Content)(n:Int)(k:Key)(new:Bool):Option (List Content×Int×List Group):=
 if(new&&fullP (pg f (kidAt (pg f n).kids (kidI (pg f n).kids k)).page))=true then
  match frees f with
  |[]=>none
  |m::_=>some (withS f (srtS (splitS f n (kidI (pg f n).kids k) m)),(kidAt (pg (withS f (srtS (splitS f n (kidI (pg f n).kids k) m))) n).kids (kidI (pg (withS f (srtS (splitS f n (kidI (pg f n).kids k) m))) n).kids k)).page,[⟨srtS (splitS f n (kidI (pg f n).kids k) m)⟩])
 else some (f,(kidAt (pg f n).kids (kidI (pg f n).kids k)).page,[])
theorem fullP_size{f:List Content}{d:Nat}{n:Int}{lo:Key}{hi:Option Key}(h:sub f (d+1) n lo hi):fullP (pg f n)=decide (sizeP (pg f n)=4):=by
 have:(pg f n).kind=1∨(pg f n).kind=2:=by
  cases d with
  |zero=>obtain⟨_,_,l,h3,_⟩:=h;left;rw[h3]
  |succ d=>obtain⟨_,_,l,h3,_⟩:=h;right;rw[h3]
 unfold fullP
 rcases this with h|h<;>simp[h]
def Stp(f:List Content)(D d:Nat)(n:Int)(k:Key)(new:Bool)(f':List Content)(n':Int)(G:List Group):Prop:=
 On f' D d n' k∧(new=true→sizeP (pg f' n')≤3)∧rws f' D 0=rws f D 0∧Chain (rws f D 0) f G f'
theorem stepP_on{f:List Content}{D d:Nat}{n:Int}{k:Key}{new:Bool}(h:On f D (d+2) n k)(hs:new=true→sizeP (pg f n)≤3):
  (new=true∧frees f=[]∧stepP f n k new=none)∨∃f' n' G,stepP f n k new=some (f',n',G)∧Stp f D (d+1) n k new f' n' G∧∃u v,(n'=u∨n'=v)∧∀g∈G,∀s∈g.sheets,s.page=n∨s.page=u∨s.page=v:=by
 obtain⟨l1,x,l2,hp,hI,hi,c1,c2,hd⟩:=h.kids
 have hkx:kidAt (pg f n).kids l1.length=x:=by rw[hp];exact kidAt_mid
 have hik:kidI (pg f n).kids k=l1.length:=by rw[hp];exact hi.symm
 have hd2:=hd
 obtain⟨lx,hx',_,_,_,hx,_⟩:=hd2
 have hfx:=fullP_size hx.tree
 unfold stepP
 simp only[hik,hkx,hfx]
 by_cases hf:(new&&decide (sizeP (pg f x.page)=4))=true
 case neg=>
  rw[if_neg hf]
  refine Or.inr ⟨f,x.page,[],rfl,⟨hd,λe=> ?_,rfl,rfl⟩,x.page,x.page,Or.inl rfl,by simp⟩
  rw[e,Bool.true_and,decide_eq_true_eq] at hf
  have:=(con_of hx.tree).2.1
  omega
 rw[if_pos hf]
 rw[Bool.and_eq_true,decide_eq_true_eq] at hf
 cases hfr:frees f with
 |nil=>exact Or.inl ⟨hf.1,rfl,rfl⟩
 |cons m t=>
  dsimp only
  have h3:(l1++x::l2).length≤3:=by have:=hs hf.1;rw[hp] at this;simpa[sizeP] using this
  obtain⟨g1,g2,g3,g4,g5,g6,g7,g8⟩:=split_on h hp c1 c2 h3 hf.2 (m:=m) (by rw[hfr];exact List.mem_cons_self ..)
  have hch:=chain_one g1 g2.good g3
  generalize hf':withS f (srtS (splitS f n l1.length m))=f' at g2 g3 g4 g5 g6 hch⊢
  have hI':(l1++x::⟨cutS (pg f x.page) 2,m⟩::l2).Pairwise λa b=>ltK a.least b.least=true:=by
   obtain⟨lo,hi',Q,R1,R2,h1,hw,_⟩:=g2
   obtain⟨l,e,hl2,hl4,hK⟩:=inner_of h1.tree
   rw[g4] at e
   injection e with _ _ e
   rw[e];exact(hK.inner h1.low hl2 hl4).1.rise
  have hgs:∀g∈[Group.mk (srtS (splitS f n l1.length m))],∀s∈g.sheets,s.page=n∨s.page=x.page∨s.page=m:=λg hg s hs=>by
   cases List.mem_singleton.1 hg
   have hs':=(srtS_perm _).mem_iff.1 hs
   rw[splitS_eq hp] at hs'
   simp only[List.mem_cons,List.not_mem_nil,or_false] at hs'
   rcases hs' with rfl|rfl|rfl
   ·exact Or.inl rfl
   ·exact Or.inr (Or.inl rfl)
   ·exact Or.inr (Or.inr rfl)
  cases hlt:ltK k (cutS (pg f x.page) 2) with
  |true=>
   have c2':∀y t',(⟨cutS (pg f x.page) 2,m⟩::l2:List Kid)=y::t'→ltK k y.least=true:=λy t' e=>by cases e;exact hlt
   have hk':=kidI_of hI' c1 c2'
   refine Or.inr ⟨f',x.page,_, ?_,⟨g2.down g4 c1 c2',λ_=>by rw[g5];omega,g3,hch⟩,x.page,m,Or.inl rfl,hgs⟩
   rw[g4];simp only;rw[hk',kidAt_mid]
  |false=>
   have e':l1++x::⟨cutS (pg f x.page) 2,m⟩::l2=(l1++[x])++⟨cutS (pg f x.page) 2,m⟩::l2:=by simp
   rw[e'] at hI' g4
   have hk':=kidI_of hI' (λ_=>hlt) c2
   refine Or.inr ⟨f',m,_, ?_,⟨g2.down g4 (λ_=>hlt) c2,λ_=>by rw[g6];omega,g3,hch⟩,x.page,m,Or.inr rfl,hgs⟩
   rw[g4];simp only;rw[hk',kidAt_mid]
def putW(k:Key)(new:Bool):Nat→List Content→Int→Option (List Content×Int×List Group)
 |0,f,n=>some (f,n,[])
 |d+1,f,n=>(stepP f n k new).bind λy=>(putW k new d y.1 y.2.1).map λz=>(z.1,z.2.1,y.2.2++z.2.2)
theorem putW_on{k:Key}{new:Bool}:∀{d D:Nat} {f:List Content} {n:Int},On f D (d+1) n k→(new=true→sizeP (pg f n)≤3)→
  (new=true∧putW k new d f n=none∧64≤(rws f D 0).length)∨∃f' n' G,putW k new d f n=some (f',n',G)∧Stp f D 1 n k new f' n' G∧∃T:List Int,T.length≤2*d∧n'∈n::T∧∀g∈G,∀s∈g.sheets,s.page∈n::T
 |0,D,f,n,h,hs=>Or.inr ⟨f,n,[],rfl,⟨h,hs,rfl,rfl⟩,[],by simp,by simp,by simp⟩
 |d+1,D,f,n,h,hs=>by
  rcases stepP_on h hs with⟨h1,h2,h3⟩|⟨f1,n1,G1,h1,⟨h2,h3,h4,h5⟩,u,v,h6,h7⟩
  ·exact Or.inl ⟨h1,by rw[putW,h3];rfl,by
    have hg:=h.good
    have:=many_rows hg (by rw[h2];simp)
    exact this⟩
  ·rcases putW_on h2 h3 with⟨g1,g2,g3⟩|⟨f2,n2,G2,g1,⟨g2,g3,g4,g5⟩,T,g6,g7,g8⟩
   ·exact Or.inl ⟨g1,by rw[putW,h1];simp[g2],by rw[←h4];exact g3⟩
   ·refine Or.inr ⟨f2,n2,G1++G2,by rw[putW,h1];simp[g1],⟨g2,g3,g4.trans h4,chain_app h5 (h4▸g5)⟩,u::v::T,by simp only[List.length_cons];omega, ?_,λg hg s hs'=> ?_⟩
    ·rcases List.mem_cons.1 g7 with e|e
     ·rw[e];rcases h6 with e|e<;>rw[e]<;>simp
     ·simp[e]
    ·rcases List.mem_append.1 hg with hg|hg
     ·rcases h7 g hg s hs' with e|e|e<;>rw[e]<;>simp
     ·rcases List.mem_cons.1 (g8 g hg s hs') with e|e
      ·rw[e];rcases h6 with e|e<;>rw[e]<;>simp
      ·simp[e]
end Go.Proofs.YtlcmdgpjiendmaaGreat
namespace Go.Proofs.YtlcmdgpjiendmaaGreat
open Go.Bur
set_option linter.unusedSimpArgs false
set_option linter.unusedVariables false
set_option maxRecDepth 100000
def one(n:Int)(l:List Row):List Sheet:=[⟨n,⟨1,l,[]⟩⟩]
theorem leaf_change{f:List Content}{D:Nat}{n:Int}{lo:Key}{hi:Option Key}{Q:List Int}{R1 R2:List Row}{l l':List Row}(h:At f D 1 n lo hi Q R1 R2)(hp:pg f n=⟨1,l,[]⟩)(h1:LeafOk l')(h2:∀r∈l',within r.key lo hi=true)(h3:n≠0→2≤l'.length):
  Grp f (one n l')∧Good (withS f (one n l')) D∧rws (withS f (one n l')) D 0=R1++(l'++R2)∧rws f D 0=R1++(l++R2):=by
 have hn:=sub_page h.tree
 have hG:Grp f (one n l'):=⟨λs hs=>by cases List.mem_singleton.1 hs;exact hn,by simp[one]⟩
 have e1:pg (withS f (one n l')) n=⟨1,l',[]⟩:=with_at h.len hG.rng hG.nodup _ (List.mem_singleton.2 rfl)
 have e2:∀p,p≠n→pg (withS f (one n l')) p=pg f p:=λp hp=>with_other h.len hG.rng λs hs=>by cases List.mem_singleton.1 hs;exact hp.symm
 have hpg:pgs f 1 n=[n]:=by rw[pgs,hp];rfl
 have hpg':pgs (withS f (one n l')) 1 n=[n]:=by rw[pgs,e1];rfl
 have hr:rws f 1 n=l:=by rw[rws,hp];simp
 have hr':rws (withS f (one n l')) 1 n=l':=by rw[rws,e1];simp
 have hnd:=h.nodup
 rw[hpg] at hnd
 have hA:At (withS f (one n l')) D 1 n lo hi Q R1 R2:=h.change (by rw[with_len];exact h.len) (λm hm=>by
   by_cases e:m=n
   ·rw[e,e1];exact(check_iff _).2 (Or.inr (Or.inl ⟨l',rfl,h1⟩))
   ·rw[e2 m e];exact h.ok m hm) (λq hq=>e2 q λe=>(List.nodup_append.1 hnd).2.2 q hq n (List.mem_singleton.2 rfl) e) ⟨hn,λe=>by rw[e1];simpa[sizeP] using h3 e,l',e1,h1,h2⟩ (by rw[hpg'];exact hnd) (λm hm hnm=>by
   rw[hpg'] at hnm
   rw[e2 m λe=>hnm (by rw[e];exact List.mem_append_right _ (List.mem_singleton.2 rfl))]
   exact h.rest m hm (by rw[hpg];exact hnm))
 have g1:=hA.good
 have g2:=h.good
 rw[hr'] at g1
 rw[hr] at g2
 exact⟨hG,g1.1,g1.2,g2.2⟩
def putR(r:Row)(l:List Row):List Row:=insP r (others r.key l)
theorem putR_in{r x:Row}{pre post:List Row}(hx:x.key=r.key)(h:Cut r.key pre post):putR r (pre++x::post)=pre++r::post:=by
 unfold putR;rw[others_in hx h,insP_cut r pre post h]
theorem putR_new{r:Row}{pre post:List Row}(h:Cut r.key pre post):putR r (pre++post)=pre++r::post:=by
 unfold putR;rw[others_cut h,insP_cut r pre post h]
theorem stand{l:List Row}(hs:Srt l)(k:Key):(∃pre x post,l=pre++x::post∧x.key=k∧Cut k pre post∧findK l k=some x)∨∃pre post,l=pre++post∧Cut k pre post∧findK l k=none:=by
 cases ha:at_ l k with
 |some i=>
  obtain⟨pre,x,post,e,_,h3,h4⟩:=idx_split ha
  have hx:x.key=k:=of_decide_eq_true h3
  subst e
  have hc:=(srt_cut hs).1
  rw[hx] at hc
  exact Or.inl ⟨pre,x,post,rfl,hx,hc,by rw[findK_app,findK_none hc.ne1,findK_cons,if_pos hx];rfl⟩
 |none=>
  obtain⟨pre,post,e,hc,_⟩:=place hs ha
  refine Or.inr ⟨pre,post,e,hc,findK_none λx hx=> ?_⟩
  simpa using idx_none ha x hx
theorem findK_whole{l R1 R2:List Row}{k:Key}(h1:∀r∈R1,ltK r.key k=true)(h2:∀r∈R2,ltK k r.key=true):findK (R1++(l++R2)) k=findK l k:=findK_mid h1 h2
theorem On.leaf{f:List Content}{D:Nat}{n:Int}{k:Key}(h:On f D 1 n k):∃l,pg f n=⟨1,l,[]⟩∧LeafOk l∧(n≠0→2≤l.length)∧findK (rws f D 0) k=findK l k:=by
 obtain⟨lo,hi,Q,R1,R2,h,hw,h1,h2⟩:=h
 have hg:=h.good.2
 obtain⟨g1,g2,l,g3,g4,g5⟩:=h.tree
 have hr:rws f 1 n=l:=by rw[rws,g3];simp
 rw[hr] at hg
 exact⟨l,g3,g4,λe=>by have:=g2 e;rw[g3] at this;simpa[sizeP] using this,by rw[hg,findK_whole h1 h2]⟩
theorem putR_len{r:Row}{l:List Row}(hs:Srt l):(putR r l).length=(if findK l r.key=none then l.length+1 else l.length):=by
 rcases stand hs r.key with⟨pre,x,post,rfl,hx,hc,hf⟩|⟨pre,post,rfl,hc,hf⟩
 ·rw[putR_in hx hc,hf,if_neg (by simp)];simp
 ·rw[putR_new hc,hf,if_pos rfl];simp;omega
theorem put_leaf{f:List Content}{D:Nat}{n:Int}{r:Row}(h:On f D 1 n r.key)(hr:okRow r=true)(hs:findK (rws f D 0) r.key=none→sizeP (pg f n)≤3){l:List Row}(hp:pg f n=⟨1,l,[]⟩):
  Grp f (one n (putR r l))∧Good (withS f (one n (putR r l))) D∧rws (withS f (one n (putR r l))) D 0=putR r (rws f D 0)∧LeafOk (putR r l):=by
 obtain⟨l0,g3,g4,g5,g6⟩:=h.leaf
 obtain rfl:l0=l:=by rw[hp] at g3;injection g3 with _ g3;exact g3.symm
 obtain⟨lo,hi,Q,R1,R2,hA,hw,h1,h2⟩:=h
 have hlen:=putR_len (r:=r) g4.srt
 rw[g6] at hs
 obtain⟨_,_,l1,g3',_,g5'⟩:=hA.tree
 obtain rfl:l1=l0:=by rw[hp] at g3';injection g3' with _ g3';exact g3'.symm
 have key:∃pre post,Cut r.key pre post∧putR r l1=pre++r::post∧(∀x∈pre,x∈l1)∧(∀x∈post,x∈l1)∧Srt (pre++post)∧putR r (R1++(l1++R2))=R1++(putR r l1++R2):=by
  have hcw:∀{pre post:List Row},Cut r.key pre post→Cut r.key (R1++pre) (post++R2):=λhc=>⟨λy hy=>by
   rcases List.mem_append.1 hy with hy|hy
   ·exact h1 y hy
   ·exact hc.lo y hy,λy hy=>by
   rcases List.mem_append.1 hy with hy|hy
   ·exact hc.hi y hy
   ·exact h2 y hy⟩
  rcases stand g4.srt r.key with⟨pre,x,post,e,hx,hc,_⟩|⟨pre,post,e,hc,_⟩
  ·refine⟨pre,post,hc,by rw[e,putR_in hx hc],λy hy=>by rw[e];exact List.mem_append_left _ hy,λy hy=>by rw[e];exact List.mem_append_right _ (List.mem_cons_of_mem _ hy),(srt_cut (e▸g4.srt)).2, ?_⟩
   have:=putR_in hx (hcw hc)
   rw[e,putR_in hx hc]
   simpa using this
  ·refine⟨pre,post,hc,by rw[e,putR_new hc],λy hy=>by rw[e];exact List.mem_append_left _ hy,λy hy=>by rw[e];exact List.mem_append_right _ hy,e▸g4.srt, ?_⟩
   have:=putR_new (hcw hc)
   rw[e,putR_new hc]
   simpa using this
 obtain⟨pre,post,hc,e,m1,m2,hsrt,hwhole⟩:=key
 have hmem:∀x∈putR r l1,x=r∨x∈l1:=λx hx=>by
  rw[e] at hx
  rcases List.mem_append.1 hx with hx|hx
  ·exact Or.inr (m1 x hx)
  ·rcases List.mem_cons.1 hx with hx|hx
   ·exact Or.inl hx
   ·exact Or.inr (m2 x hx)
 have hL:LeafOk (putR r l1):=⟨by
   rw[hlen]
   split
   ·rename_i hn
    have:=hs hn
    rw[hp] at this;simp[sizeP] at this;omega
   ·exact g4.len,λx hx=>by
   rcases hmem x hx with rfl|hx
   ·exact hr
   ·exact g4.row x hx,by rw[e];exact cut_srt hsrt hc⟩
 obtain⟨q1,q2,q3,q4⟩:=leaf_change hA hp hL (λx hx=>by
  rcases hmem x hx with rfl|hx
  ·exact hw
  ·exact g5' x hx) (λe=>by rw[hlen];have:=g5 e;split<;>omega)
 exact⟨q1,q2,by rw[q3,q4,hwhole],hL⟩
def wayP(f:List Content)(D:Nat)(k:Key)(new:Bool):Option (List Content×Int×List Group):=
 if(new&&fullP (pg f 0))=true then
  match frees f with
  |a::b::_=>(putW k new D (withS f (srtS (partS f a b))) 0).map λz=>(z.1,z.2.1,⟨srtS (partS f a b)⟩::z.2.2)
  |_=>none
 else putW k new (D-1) f 0
def newB(R:List Row)(k:Key):Bool:=(findK R k).isNone
theorem newB_iff{R:List Row}{k:Key}:newB R k=true↔findK R k=none:=by
 unfold newB;cases findK R k<;>simp
theorem way_on{f:List Content}{D:Nat}{k:Key}{new:Bool}(h:Good f D)(hk:ltK k key0=false):
  (new=true∧wayP f D k new=none∧64≤(rws f D 0).length)∨∃f' n' G D',wayP f D k new=some (f',n',G)∧On f' D' 1 n' k∧(new=true→sizeP (pg f' n')≤3)∧rws f' D' 0=rws f D 0∧Chain (rws f D 0) f G f'∧
   ∃T:List Int,T.length≤2*D∧n'∈0::T∧∀g∈G,∀s∈g.sheets,s.page∈0::T:=by
 have hpos:=h.pos
 obtain⟨d,rfl⟩:∃d,D=d+1:=⟨D-1,by omega⟩
 have hf0:=fullP_size h.tree
 unfold wayP
 rw[hf0]
 by_cases hc:(new&&decide (sizeP (pg f 0)=4))=true
 case neg=>
  rw[if_neg hc,Nat.add_sub_cancel]
  have hs:new=true→sizeP (pg f 0)≤3:=λe=>by
   rw[e,Bool.true_and,decide_eq_true_eq] at hc
   have:=(con_of h.tree).2.1
   omega
  rcases putW_on (On.root h hk) hs with⟨g1,g2,g3⟩|⟨f',n',G,g1,⟨g2,g3,g4,g5⟩,T,g6,g7,g8⟩
  ·exact Or.inl ⟨g1,g2,by omega⟩
  ·exact Or.inr ⟨f',n',G,d+1,g1,g2,g3,g4,g5,T,by omega,g7,g8⟩
 rw[if_pos hc]
 rw[Bool.and_eq_true,decide_eq_true_eq] at hc
 match hfr:frees f with
 |[]=>exact Or.inl ⟨hc.1,rfl,by have:=many_rows h (by rw[hfr];simp);omega⟩
 |[a]=>exact Or.inl ⟨hc.1,rfl,by have:=many_rows h (by rw[hfr];simp);omega⟩
 |a::b::t=>
  dsimp only
  obtain⟨q1,q2,q3,q4,q5,q6,q7,q8,q9⟩:=part_good h hc.2 hfr
  have hch:=chain_one q1 q2 q3
  generalize hf':withS f (srtS (partS f a b))=f1 at q2 q3 q4 q5 q6 hch⊢
  have hstep:stepP f1 0 k new=some (f1,(kidAt (pg f1 0).kids (kidI (pg f1 0).kids k)).page,[])∧((kidAt (pg f1 0).kids (kidI (pg f1 0).kids k)).page=a∨(kidAt (pg f1 0).kids (kidI (pg f1 0).kids k)).page=b):=by
   have hx:(kidAt (pg f1 0).kids (kidI (pg f1 0).kids k)).page=a∨(kidAt (pg f1 0).kids (kidI (pg f1 0).kids k)).page=b:=by
    rw[q4]
    simp only[kidI,List.tail_cons,List.takeWhile_cons,List.takeWhile_nil]
    cases ltK k (cutS (pg f 0) 2)
    ·right;rfl
    ·left;rfl
   refine⟨?_,hx⟩
   unfold stepP
   rw[if_neg]
   have hsz:sizeP (pg f1 (kidAt (pg f1 0).kids (kidI (pg f1 0).kids k)).page)=2:=by
    rcases hx with e|e<;>rw[e]
    ·rw[q5];exact q7
    ·rw[q6];exact q8
   unfold fullP
   rw[hsz];simp
  rcases putW_on (On.root q2 hk) (new:=new) (λ_=>by rw[q4];simp[sizeP]) with⟨g1,g2,g3⟩|⟨f',n',G,g1,⟨g2,g3,g4,g5⟩,_⟩
  ·exact Or.inl ⟨g1,by rw[g2];rfl,by rw[q3] at g3;omega⟩
  ·refine Or.inr ⟨f',n',_,d+2,by rw[g1];rfl,g2,g3,g4.trans q3,chain_app hch (q3▸g5), ?_⟩
   rw[putW,hstep.1] at g1
   simp only[Option.bind_some,Option.map_eq_some_iff] at g1
   obtain⟨z,g1,g1'⟩:=g1
   have hon:On f1 (d+2) (d+1) (kidAt (pg f1 0).kids (kidI (pg f1 0).kids k)).page k:=by
    rcases stepP_on (On.root q2 hk) (new:=new) (λ_=>by rw[q4];simp[sizeP]) with⟨_,_,e⟩|⟨_,_,_,e,st,_⟩
    ·rw[hstep.1] at e;cases e
    ·rw[hstep.1] at e;cases e;exact st.1
   have hsz:new=true→sizeP (pg f1 (kidAt (pg f1 0).kids (kidI (pg f1 0).kids k)).page)≤3:=λ_=>by
    rcases hstep.2 with e|e<;>rw[e]
    ·rw[q5];omega
    ·rw[q6];omega
   rcases putW_on hon hsz with⟨_,e,_⟩|⟨f2,n2,G2,e,_,T,t1,t2,t3⟩
   ·rw[e] at g1;cases g1
   ·rw[e] at g1
    cases g1
    obtain⟨rfl,rfl,rfl⟩:f2=f'∧n2=n'∧G2=G:=by simpa using g1'
    have hk2:∀p,p∈(kidAt (pg f1 0).kids (kidI (pg f1 0).kids k)).page::T→p∈0::a::b::T:=λp hp=>by
     rcases List.mem_cons.1 hp with e|e
     ·rw[e];rcases hstep.2 with e|e<;>rw[e]<;>simp
     ·simp[e]
    refine⟨a::b::T,by simp only[List.length_cons];omega,hk2 _ t2,λg hg s hs=> ?_⟩
    rcases List.mem_cons.1 hg with rfl|hg
    ·have:=(srtS_perm _).mem_iff.1 hs
     simp only[partS,List.mem_cons,List.not_mem_nil,or_false] at this
     rcases this with rfl|rfl|rfl<;>simp
    ·exact hk2 _ (t3 g hg s hs)
end Go.Proofs.YtlcmdgpjiendmaaGreat
namespace Go.Proofs.YtlcmdgpjiendmaaGreat
open Go.Bur
set_option linter.unusedSimpArgs false
set_option linter.unusedVariables false
set_option maxRecDepth 100000
theorem grp3{f:List Content}(hf:f.length=64){n a b:Int}{c1 c2 c3:Content}(hn:0≤n∧n<64)(ha:0≤a∧a<64)(hb:0≤b∧b<64)(h1:a≠n)(h2:b≠n)(h3:a≠b):
  Grp f [⟨n,c1⟩,⟨a,c2⟩,⟨b,c3⟩]∧pg (withS f (srtS [⟨n,c1⟩,⟨a,c2⟩,⟨b,c3⟩])) n=c1∧pg (withS f (srtS [⟨n,c1⟩,⟨a,c2⟩,⟨b,c3⟩])) a=c2∧pg (withS f (srtS [⟨n,c1⟩,⟨a,c2⟩,⟨b,c3⟩])) b=c3∧
  (∀p,p≠n→p≠a→p≠b→pg (withS f (srtS [⟨n,c1⟩,⟨a,c2⟩,⟨b,c3⟩])) p=pg f p)∧(withS f (srtS [⟨n,c1⟩,⟨a,c2⟩,⟨b,c3⟩])).length=64:=by
 have hG:Grp f [⟨n,c1⟩,⟨a,c2⟩,⟨b,c3⟩]:=by
  refine⟨λs hs=> ?_, ?_⟩
  ·simp only[List.mem_cons,List.not_mem_nil,or_false] at hs
   rcases hs with rfl|rfl|rfl
   ·exact hn
   ·exact ha
   ·exact hb
  ·simp only[List.map_cons,List.map_nil,List.nodup_cons,List.mem_cons,List.not_mem_nil,or_false,not_or,List.nodup_nil,and_true,not_false_eq_true]
   exact⟨⟨λe=>h1 e.symm,λe=>h2 e.symm⟩,h3⟩
 obtain⟨t1,t2⟩:=three hf hG.rng hG.nodup
 refine⟨hG,t1 _ (List.mem_cons_self ..),t1 _ (List.mem_cons_of_mem _ (List.mem_cons_self ..)),t1 _ (List.mem_cons_of_mem _ (List.mem_cons_of_mem _ (List.mem_cons_self ..))),λp q1 q2 q3=>t2 p λs hs=> ?_,by rw[with_len];exact hf⟩
 simp only[List.mem_cons,List.not_mem_nil,or_false] at hs
 rcases hs with rfl|rfl|rfl
 ·exact q1.symm
 ·exact q2.symm
 ·exact q3.symm
theorem At.pair{f:List Content}{D d:Nat}{n:Int}{lo:Key}{hi:Option Key}{Q:List Int}{R1 R2:List Row}(h:At f D (d+2) n lo hi Q R1 R2){l1 l2:List Kid}{u v:Kid}(hp:pg f n=⟨2,[],l1++u::v::l2⟩):
  Pair f d n lo hi l1 l2 u v∧u.page∈pgs f (d+2) n∧v.page∈pgs f (d+2) n:=by
 refine⟨mk_pair h.tree hp h.low (List.nodup_append.1 h.nodup).2.1, ?_, ?_⟩<;>(rw[pgs_list (d:=d+1) hp];exact List.mem_cons_of_mem _ (kid_self (by simp)))
theorem kinds_con{f:List Content}{d:Nat}{lo lo':Key}{hi hi':Option Key}{a b:Content}(ha:conS f d lo hi a)(hb:conS f d lo' hi' b):alikeP a b=true:=by
 cases d with
 |zero=>obtain⟨l,rfl,_⟩:=ha;obtain⟨m,rfl,_⟩:=hb;rfl
 |succ d=>obtain⟨l,rfl,_⟩:=ha;obtain⟨m,rfl,_⟩:=hb;rfl
theorem level_on{f:List Content}{D d m:Nat}{n:Int}{k:Key}(h:On f D (d+2) n k){l1 l2:List Kid}{u v:Kid}(hp:pg f n=⟨2,[],l1++u::v::l2⟩){B:Content}(hB:bothC (pg f u.page) (pg f v.page) v.least=B)(h2:2≤m)(h4:m≤4)(h2':m+2≤sizeP B)(h4':sizeP B≤m+4){f':List Content}(hf':withS f (srtS [⟨n,⟨2,[],l1++u::⟨cutS B m,v.page⟩::l2⟩⟩,⟨u.page,cutA B m⟩,⟨v.page,cutB B m⟩])=f'):
  Grp f [⟨n,⟨2,[],l1++u::⟨cutS B m,v.page⟩::l2⟩⟩,⟨u.page,cutA B m⟩,⟨v.page,cutB B m⟩]∧On f' D (d+2) n k∧rws f' D 0=rws f D 0∧pg f' n=⟨2,[],l1++u::⟨cutS B m,v.page⟩::l2⟩∧pg f' u.page=cutA B m∧pg f' v.page=cutB B m:=by
 obtain⟨lo,hi,Q,R1,R2,h,hw,hr1,hr2⟩:=h
 obtain⟨P,hu,hv⟩:=h.pair hp
 have hnd:=(List.nodup_append.1 h.nodup).2.1
 obtain⟨hG,e1,e2,e3,e4,hlen⟩:=grp3 h.len (c1:=⟨2,[],l1++u::⟨cutS B m,v.page⟩::l2⟩) (c2:=cutA B m) (c3:=cutB B m) (sub_page h.tree) (sub_in h.tree _ hu).1 (sub_in h.tree _ hv).1 P.xn P.yn P.xy
 rw[hf'] at e1 e2 e3 e4 hlen
 obtain⟨g1,g2,g3,g4⟩:=level_step h.tree hp h.low hnd hB h2 h4 h2' h4' e1 e2 e3 e4
 have hdj:=(List.nodup_append.1 h.nodup).2.2
 have hperm:(Q++pgs f' (d+2) n).Perm (Q++pgs f (d+2) n):=g3.append_left Q
 have hne:∀p,p∉pgs f (d+2) n→pg f' p=pg f p:=λp hp=>e4 p (λe=>hp (by rw[e];exact pgs_self)) (λe=>hp (by rw[e];exact hu)) (λe=>hp (by rw[e];exact hv))
 have hA:At f' D (d+2) n lo hi Q R1 R2:=h.change hlen (λp hp'=>by
   by_cases hin:p∈pgs f' (d+2) n
   ·exact sub_ok' g1 p hin
   ·rw[hne p λe=>hin (g3.mem_iff.2 e)];exact h.ok p hp') (λq hq=>hne q λe=>hdj q hq q e rfl) g1 (hperm.nodup_iff.2 h.nodup) (λp hp' hnp=>by
   have hnp':p∉Q++pgs f (d+2) n:=λe=>hnp (hperm.mem_iff.2 e)
   rw[hne p λe=>hnp' (List.mem_append_right _ e)]
   exact h.rest p hp' hnp')
 exact⟨hG,⟨lo,hi,Q,R1,R2,hA,hw,hr1,hr2⟩,by rw[hA.good.2,h.good.2,g2],e1,e2,e3⟩
theorem join_on{f:List Content}{D d:Nat}{n:Int}{k:Key}(h:On f D (d+2) n k){l1 l2:List Kid}{u v:Kid}(hp:pg f n=⟨2,[],l1++u::v::l2⟩){B:Content}(hB:bothC (pg f u.page) (pg f v.page) v.least=B)(h3:3≤(l1++u::v::l2).length)(h4:sizeP B≤4){f':List Content}(hf':withS f (srtS [⟨n,⟨2,[],l1++u::l2⟩⟩,⟨u.page,B⟩,⟨v.page,cont0⟩])=f'):
  Grp f [⟨n,⟨2,[],l1++u::l2⟩⟩,⟨u.page,B⟩,⟨v.page,cont0⟩]∧On f' D (d+2) n k∧rws f' D 0=rws f D 0∧pg f' n=⟨2,[],l1++u::l2⟩∧pg f' u.page=B:=by
 obtain⟨lo,hi,Q,R1,R2,h,hw,hr1,hr2⟩:=h
 obtain⟨P,hu,hv⟩:=h.pair hp
 have hnd:=(List.nodup_append.1 h.nodup).2.1
 obtain⟨hG,e1,e2,e3,e4,hlen⟩:=grp3 h.len (c1:=⟨2,[],l1++u::l2⟩) (c2:=B) (c3:=cont0) (sub_page h.tree) (sub_in h.tree _ hu).1 (sub_in h.tree _ hv).1 P.xn P.yn P.xy
 rw[hf'] at e1 e2 e3 e4 hlen
 obtain⟨g1,g2,g3⟩:=join_step h.tree hp h.low hnd hB h3 h4 e1 e2 e4
 have hdj:=(List.nodup_append.1 h.nodup).2.2
 have hperm:(Q++pgs f (d+2) n).Perm (v.page::(Q++pgs f' (d+2) n)):=(g3.append_left Q).trans List.perm_middle
 have hne:∀p,p∉pgs f (d+2) n→pg f' p=pg f p:=λp hp=>e4 p (λe=>hp (by rw[e];exact pgs_self)) (λe=>hp (by rw[e];exact hu)) (λe=>hp (by rw[e];exact hv))
 have hkind:(pg f' v.page).kind=0:=by rw[e3];rfl
 have hA:At f' D (d+2) n lo hi Q R1 R2:=h.change hlen (λp hp'=>by
   by_cases hin:p∈pgs f' (d+2) n
   ·exact sub_ok' g1 p hin
   ·by_cases hv':p=v.page
    ·rw[hv',e3];rfl
    ·rw[hne p λe=>by
      rcases List.mem_cons.1 (g3.mem_iff.1 e) with e|e
      ·exact hv' e
      ·exact hin e]
     exact h.ok p hp') (λq hq=>hne q λe=>hdj q hq q e rfl) g1 (List.nodup_cons.1 (hperm.nodup_iff.1 h.nodup)).2 (λp hp' hnp=>by
   by_cases hv':p=v.page
   ·rw[hv'];exact hkind
   ·have hnp':p∉Q++pgs f (d+2) n:=λe=>by
     rcases List.mem_cons.1 (hperm.mem_iff.1 e) with e|e
     ·exact hv' e
     ·exact hnp e
    rw[hne p λe=>hnp' (List.mem_append_right _ e)]
    exact h.rest p hp' hnp')
 exact⟨hG,⟨lo,hi,Q,R1,R2,hA,hw,hr1,hr2⟩,by rw[hA.good.2,h.good.2,g2],e1,e2⟩
theorem root_good{f:List Content}{d:Nat}(h:Good f (d+2)){u v:Kid}(hp:pg f 0=⟨2,[],[u,v]⟩){B:Content}(hB:bothC (pg f u.page) (pg f v.page) v.least=B)(h4:sizeP B≤4){f':List Content}(hf':withS f (srtS [⟨0,B⟩,⟨u.page,cont0⟩,⟨v.page,cont0⟩])=f'):
  Grp f [⟨0,B⟩,⟨u.page,cont0⟩,⟨v.page,cont0⟩]∧Good f' (d+1)∧rws f' (d+1) 0=rws f (d+2) 0:=by
 obtain⟨P,hu,hv⟩:=(At.root h).pair (l1:=[]) (l2:=[]) hp
 obtain⟨hG,e1,e2,e3,e4,hlen⟩:=grp3 h.len (c1:=B) (c2:=cont0) (c3:=cont0) (sub_page h.tree) (sub_in h.tree _ hu).1 (sub_in h.tree _ hv).1 P.xn P.yn P.xy
 rw[hf'] at e1 e2 e3 e4 hlen
 obtain⟨g1,g2,g3⟩:=root_step h.tree hp h.nodup hB h4 e1 e4
 have hnd:=g3.nodup_iff.1 h.nodup
 have hz:∀p,p=u.page∨p=v.page→pg f' p=cont0:=λp hp=>by rcases hp with rfl|rfl;exact e2;exact e3
 have hne:∀p,p∉pgs f (d+2) 0→pg f' p=pg f p:=λp hp=>e4 p (λe=>hp (by rw[e];exact pgs_self)) (λe=>hp (by rw[e];exact hu)) (λe=>hp (by rw[e];exact hv))
 refine⟨hG,⟨hlen,λp hp'=> ?_,g1,(List.nodup_cons.1 (List.nodup_cons.1 hnd).2).2,λp hp' hnp=> ?_⟩,g2⟩
 ·by_cases hin:p∈pgs f' (d+1) 0
  ·exact sub_ok' g1 p hin
  ·by_cases hv':p=u.page∨p=v.page
   ·rw[hz p hv'];rfl
   ·rw[hne p λe=>by
     rcases List.mem_cons.1 (g3.mem_iff.1 e) with e|e
     ·exact hv' (Or.inl e)
     ·rcases List.mem_cons.1 e with e|e
      ·exact hv' (Or.inr e)
      ·exact hin e]
    exact h.ok p hp'
 ·by_cases hv':p=u.page∨p=v.page
  ·rw[hz p hv'];rfl
  ·have hnp':p∉pgs f (d+2) 0:=λe=>by
    rcases List.mem_cons.1 (g3.mem_iff.1 e) with e|e
    ·exact hv' (Or.inl e)
    ·rcases List.mem_cons.1 e with e|e
     ·exact hv' (Or.inr e)
     ·exact hnp e
   rw[hne p hnp']
   exact h.rest p hp' hnp'
theorem drop_right{α:Type}{a b:List α}{m:Nat}(h:a.length≤m):(a++b).drop m=b.drop (m-a.length):=by
 rw[List.drop_append,List.drop_eq_nil_of_le h,List.nil_append]
theorem lvl_up{f:List Content}{d m:Nat}{lo s:Key}{hi:Option Key}{a b:Content}(ha:conS f d lo (some s) a)(hb:conS f d s hi b)(h1:sizeP a<m)(h2:m<sizeP a+sizeP b):ltK (cutS (bothC a b s) m) s=false:=by
 cases d with
 |zero=>
  obtain⟨la,rfl,a1,a2,a3⟩:=ha
  obtain⟨lb,rfl,b1,b2,b3⟩:=hb
  simp only[sizeP,List.length_nil,Nat.add_zero] at h1 h2
  obtain⟨y,t,e⟩:=drop_some (l:=lb) (m:=m-la.length) (by omega)
  have hs:cutS (bothC ⟨1,la,[]⟩ ⟨1,lb,[]⟩ s) m=y.key:=by simp[cutS,bothC,hd0,stepC,drop_right (show la.length≤m by omega),e]
  rw[hs]
  exact(within_iff.1 (b3 y (List.mem_of_mem_drop (by rw[e];exact List.mem_cons_self ..)))).1
 |succ d=>
  obtain⟨la,rfl,a1⟩:=ha
  obtain⟨lb,rfl,b1⟩:=hb
  simp only[sizeP,List.length_nil,Nat.zero_add] at h1 h2
  obtain⟨z,w,rfl⟩:∃z w,lb=z::w:=by
   cases lb with
   |nil=>simp at h2;omega
   |cons z w=>exact⟨z,w,rfl⟩
  obtain⟨j,hj⟩:∃j,m-la.length=j+1:=⟨m-la.length-1,by omega⟩
  obtain⟨y,t,e⟩:=drop_some (l:=w) (m:=j) (by simp only[List.length_cons] at h2;omega)
  have hs:cutS (bothC ⟨2,[],la⟩ ⟨2,[],z::w⟩ s) m=y.least:=by simp[cutS,bothC,hd0,stepC,drop_right (show la.length≤m by omega),hj,e]
  rw[hs]
  have hy:y∈w:=List.mem_of_mem_drop (by rw[e];exact List.mem_cons_self ..)
  exact lt_asymm ((kids_lt b1.ok λk hk=>by have:=b1.page k hk;omega).1 y hy).1
theorem lvl_dn{f:List Content}{d m:Nat}{lo s:Key}{hi:Option Key}{a b:Content}(ha:conS f d lo (some s) a)(hb:conS f d s hi b)(h0:0<m)(h1:m<sizeP a):ltK (cutS (bothC a b s) m) s=true:=by
 cases d with
 |zero=>
  obtain⟨la,rfl,a1,a2,a3⟩:=ha
  obtain⟨lb,rfl,b1,b2,b3⟩:=hb
  simp only[sizeP,List.length_nil,Nat.add_zero] at h1
  obtain⟨y,t,e⟩:=drop_some h1
  have hs:cutS (bothC ⟨1,la,[]⟩ ⟨1,lb,[]⟩ s) m=y.key:=by simp[cutS,bothC,hd0,stepC,List.drop_append_of_le_length (show m≤la.length by omega),e]
  rw[hs]
  exact(within_iff.1 (a3 y (List.mem_of_mem_drop (by rw[e];exact List.mem_cons_self ..)))).2 s rfl
 |succ d=>
  obtain⟨la,rfl,a1⟩:=ha
  obtain⟨lb,rfl,b1⟩:=hb
  simp only[sizeP,List.length_nil,Nat.zero_add] at h1
  obtain⟨y,t,e⟩:=drop_some h1
  have hs:cutS (bothC ⟨2,[],la⟩ ⟨2,[],lb⟩ s) m=y.least:=by simp[cutS,bothC,stepC,List.drop_append_of_le_length (show m≤la.length by omega),e]
  rw[hs]
  have hy:y∈la.tail:=by
   obtain⟨j,rfl⟩:∃j,m=j+1:=⟨m-1,by omega⟩
   rw[←List.drop_one]
   have e':(la.drop 1).drop j=y::t:=by rw[List.drop_drop,Nat.add_comm];exact e
   exact List.mem_of_mem_drop (by rw[e'];exact List.mem_cons_self ..)
  exact((kids_lt a1.ok λk hk=>by have:=a1.page k hk;omega).1 y hy).2 s rfl
end Go.Proofs.YtlcmdgpjiendmaaGreat
