import Derived.Test.YtchocpffjnodfaaGreatLockG
namespace Go.Proofs.YtchocpffjnodfaaGreat
open Go.Bur
set_option linter.unusedSimpArgs false
set_option linter.unusedVariables false
set_option maxRecDepth 100000
abbrev cH(t:Int):Hold→Int:=λh=>cmpT h.txn t
theorem cmpT_lt{a b:Int}:cmpT a b<0↔a<b:=by unfold cmpT;split<;>(try split)<;>omega
theorem cmpT_zero{a b:Int}:cmpT a b=0↔a=b:=by unfold cmpT;split<;>(try split)<;>omega
theorem cmpT_pos{a b:Int}:0<cmpT a b↔b<a:=by unfold cmpT;split<;>(try split)<;>omega
def SrtH(hs:List Hold):Prop:=hs.Pairwise λa b=>a.txn<b.txn
theorem cutH{hs:List Hold}(t:Int)(h:SrtH hs):∃A y B,Cut (cH t) hs A y B:=by
 refine cut_ex (h.imp λ{a b} hab ha=> ?_)
 have h1:¬a.txn<t:=λk=>by have:=cmpT_lt.2 k;unfold cH at ha;omega
 exact cmpT_pos.2 (by omega)
theorem byTxnH_eq(n:Nat)(h:Hold)(t:Int):locks_byTxn n h t=some (cH t h):=by
 unfold locks_byTxn
 rw[cmpT_int];rfl
theorem halfH{x:Nat}(h:x<4611686018427387904):shrP .u64 (IntKind.wrap .u64 (IntKind.wrap .i64 (x:Int))) 1=some ((x/2:Nat):Int)∧IntKind.wrap .i64 ((x/2:Nat):Int)=((x/2:Nat):Int):=by
 have e0:IntKind.wrap .i64 (x:Int)=x:=wrap_in (by omega)
 rw[e0]
 have e:IntKind.wrap .u64 (x:Int)=x:=by rw[IntKind.wrap_u64];omega
 rw[e]
 have e2:shrV .u64 (x:Int) 1=((x/2:Nat):Int):=by
  unfold shrV
  have e3:(2:Int)^(min (Int.toNat 1) (IntKind.u64.bits))=2:=by decide
  rw[e3,Int.fdiv_eq_ediv_of_nonneg _ (by decide)]
  omega
 refine⟨?_,wrap_in (by omega)⟩
 unfold shrP
 rw[if_pos (by decide),e2]
theorem hsearch{n:Nat}(hn:1003≤n){l A B:List Hold}{y:Option Hold}{t:Int}(h:Cut (cH t) l A y B)(hl:l.length≤1000):
  slices_BinarySearchFunc_int_f79 n l t=some ((A.length:Int),y.isSome):=by
 have hlen:=cut_len h
 show slices_BinarySearchFunc_int_f79_l1 n n (l,t,(l.length:Int),((0:Nat):Int),(l.length:Int),())=_
 unfold slices_BinarySearchFunc_int_f79_l1
 refine bsearch (fun(i j:Nat)=>(l,t,(l.length:Int),(i:Int),(j:Int),())) A.length l.length _ (λr i j hij hj hA=> ?_) (λr i j hij hj hA=> ?_) (λr=> ?_) n 0 l.length (Nat.zero_le _) (by omega) (Nat.le_refl _) (by omega)
 ·have e:((i:Int)+(j:Int))=((i+j:Nat):Int):=by omega
  obtain⟨e1,e2⟩:=halfH (x:=i+j) (by omega)
  have:=cut_lt h (show(i+j)/2<l.length by omega) hA
  simp only[lt_dec hij,cond_true,e,e1,Option.bind_some,e2,idx_nat,get_some (show(i+j)/2<l.length by omega),byTxnH_eq n,jn,slices_BinarySearchFunc_int_f79_j2,decide_eq_true this,wrap_succ (show(i+j)/2<4611686018427387904 by omega)]
 ·have e:((i:Int)+(j:Int))=((i+j:Nat):Int):=by omega
  obtain⟨e1,e2⟩:=halfH (x:=i+j) (by omega)
  have:=cut_ge h (show(i+j)/2<l.length by omega) hA
  simp only[lt_dec hij,cond_true,e,e1,Option.bind_some,e2,idx_nat,get_some (show(i+j)/2<l.length by omega),byTxnH_eq n,jn,slices_BinarySearchFunc_int_f79_j2,decide_eq_false this,cond_false]
 ·simp only[ge_dec (Nat.lt_irrefl _),cond_false,jn]
  by_cases hA:A.length<l.length
  ·simp only[lt_dec hA,cond_true,idx_nat,get_some hA,Option.bind_some,byTxnH_eq n,cut_at h hA]
  ·rw[ge_dec hA,cut_end h hA];rfl
def insH(hs:List Hold)(t m:Int):List Hold:=(hs.filter λh=>decide (h.txn<t))++Hold.mk t m::hs.filter λh=>decide (t<h.txn)
theorem cut_insH{hs A B:List Hold}{y:Option Hold}{t:Int}(h:Cut (cH t) hs A y B)(m:Int):insH hs t m=A++Hold.mk t m::B:=by
 have ha:∀x∈A,x.txn<t:=λx hx=>cmpT_lt.1 (h.lo x hx)
 have hb:∀x∈B,t<x.txn:=λx hx=>cmpT_pos.1 (h.hi x hx)
 have hy:∀x∈y.toList,x.txn=t:=λx hx=>cmpT_zero.1 (h.mid x (by simpa using hx))
 have f1:(A.filter λh=>decide (h.txn<t))=A:=List.filter_eq_self.2 λx hx=>decide_eq_true (ha x hx)
 have f2:(A.filter λh=>decide (t<h.txn))=[]:=List.filter_eq_nil_iff.2 λx hx=>by have:=ha x hx;simp;omega
 have f3:(B.filter λh=>decide (h.txn<t))=[]:=List.filter_eq_nil_iff.2 λx hx=>by have:=hb x hx;simp;omega
 have f4:(B.filter λh=>decide (t<h.txn))=B:=List.filter_eq_self.2 λx hx=>decide_eq_true (hb x hx)
 have f5:(y.toList.filter λh=>decide (h.txn<t))=[]:=List.filter_eq_nil_iff.2 λx hx=>by have:=hy x hx;simp;omega
 have f6:(y.toList.filter λh=>decide (t<h.txn))=[]:=List.filter_eq_nil_iff.2 λx hx=>by have:=hy x hx;simp;omega
 unfold insH
 rw[h.eq]
 simp only[List.filter_append,f1,f2,f3,f4,f5,f6,List.nil_append,List.append_nil]
theorem mem_insH{hs:List Hold}{t m:Int}{x:Hold}:x∈insH hs t m↔x=Hold.mk t m∨(x∈hs∧x.txn≠t):=by
 unfold insH
 simp only[List.mem_append,List.mem_cons,List.mem_filter,decide_eq_true_iff]
 constructor
 ·rintro(⟨h,k⟩|h|⟨h,k⟩)
  ·exact .inr ⟨h,by omega⟩
  ·exact .inl h
  ·exact .inr ⟨h,by omega⟩
 ·rintro(h|⟨h,k⟩)
  ·exact .inr (.inl h)
  ·by_cases hl:x.txn<t
   ·exact .inl ⟨h,hl⟩
   ·exact .inr (.inr ⟨h,by omega⟩)
theorem srt_insH{hs:List Hold}{t m:Int}(h:SrtH hs):SrtH (insH hs t m):=by
 unfold SrtH insH
 rw[List.pairwise_append]
 refine⟨h.filter _,List.pairwise_cons.2 ⟨λx hx=>of_decide_eq_true (List.mem_filter.1 hx).2,h.filter _⟩,λa ha b hb=> ?_⟩
 have h1:a.txn<t:=of_decide_eq_true (List.mem_filter.1 ha).2
 rcases List.mem_cons.1 hb with rfl|hb
 ·exact h1
 ·have h2:t<b.txn:=of_decide_eq_true (List.mem_filter.1 hb).2
  omega
theorem insH_len{hs:List Hold}{t m:Int}(h:SrtH hs):(insH hs t m).length≤hs.length+1:=by
 obtain⟨A,y,B,hc⟩:=cutH t h
 have:=cut_len hc
 rw[cut_insH hc,List.length_append,List.length_cons]
 omega
theorem holdsD_eq(n:Nat)(hn:1003≤n){hs:List Hold}(h:SrtH hs)(hl:hs.length≤900)(t m a c:Int)(b:Bool)(ws:List Wait):locks_holds_d04 n t m a b c ws hs=some (a,b,c,ws,insH hs t m):=by
 obtain⟨A,y,B,hc⟩:=cutH t h
 have hlen:=cut_len hc
 unfold locks_holds_d04
 rw[hsearch hn hc (by omega),Option.bind_some,cut_insH hc]
 have hh:=hc
 obtain⟨he,_,hmid,_⟩:=hc
 cases y with
 |none=>
  simp only[Option.isSome_none,Bool.not_false,cond_true,slices_Insert_Hold,jn,locks_holds_d04_j1]
  rw[insL_cut hh (Hold.mk t 0) (by omega) (by omega)]
  simp only[Option.bind_some,idx_app,put_app]
 |some z=>
  have hz:z.txn=t:=cmpT_zero.1 (hmid z rfl)
  simp only[Option.isSome_some,Bool.not_true,cond_false,jn,locks_holds_d04_j1]
  rw[he]
  simp only[Option.toList_some,List.singleton_append,Option.bind_some,idx_app,put_app,hz]
theorem holdsA_eq(n:Nat)(hn:1003≤n){hs:List Hold}(h:SrtH hs)(hl:hs.length≤900)(t m a c:Int)(b:Bool)(ws:List Wait):locks_holds n t m a b c hs ws=some (a,b,c,insH hs t m,ws):=by
 obtain⟨A,y,B,hc⟩:=cutH t h
 have hlen:=cut_len hc
 unfold locks_holds
 rw[hsearch hn hc (by omega),Option.bind_some,cut_insH hc]
 have hh:=hc
 obtain⟨he,_,hmid,_⟩:=hc
 cases y with
 |none=>
  simp only[Option.isSome_none,Bool.not_false,cond_true,slices_Insert_Hold,jn,locks_holds_j1]
  rw[insL_cut hh (Hold.mk t 0) (by omega) (by omega)]
  simp only[Option.bind_some,idx_app,put_app]
 |some z=>
  have hz:z.txn=t:=cmpT_zero.1 (hmid z rfl)
  simp only[Option.isSome_some,Bool.not_true,cond_false,jn,locks_holds_j1]
  rw[he]
  simp only[Option.toList_some,List.singleton_append,Option.bind_some,idx_app,put_app,hz]
def pumpL:List Hold→List Wait→List Hold×List Wait×List Int
 |hs,[]=>(hs,[],[])
 |hs,w::ws=>if goesL hs w.txn w.mode then((pumpL (insH hs w.txn w.mode) ws).1,(pumpL (insH hs w.txn w.mode) ws).2.1,w.txn::(pumpL (insH hs w.txn w.mode) ws).2.2) else(hs,w::ws,[])
theorem pump_len:∀{ws:List Wait} {hs:List Hold},SrtH hs→(pumpL hs ws).1.length+(pumpL hs ws).2.1.length≤hs.length+ws.length∧(pumpL hs ws).2.2.length+(pumpL hs ws).2.1.length=ws.length
 |[],hs,h=>by simp[pumpL]
 |w::ws,hs,h=>by
  have h1:=pump_len (ws:=ws) (srt_insH (t:=w.txn) (m:=w.mode) h)
  have h2:=insH_len (t:=w.txn) (m:=w.mode) h
  unfold pumpL
  split
  ·simp only[List.length_cons];omega
  ·simp
theorem pump_eq(n:Nat)(hn:1003≤n){hs:List Hold}{ws:List Wait}(h:SrtH hs)(hl:hs.length+ws.length≤800)(a c:Int)(b:Bool):locks_pump n a b c hs ws=some (a,b,c,(pumpL hs ws).2.1,(pumpL hs ws).1,(pumpL hs ws).2.2):=by
 unfold locks_pump
 simp only[jn]
 have key:∀(ws:List Wait)(hs:List Hold)(out:List Int)(k:Nat),SrtH hs→hs.length+ws.length≤800→out.length+ws.length≤1000→ws.length<k→
   locks_pump_l2 n (locks_pump_j1 n) k (a,b,c,ws,out,hs,())=some (a,b,c,(pumpL hs ws).2.1,(pumpL hs ws).1,out++(pumpL hs ws).2.2):=by
  intro ws
  induction ws with
  |nil=>
   intro hs out k h hl ho hk
   obtain⟨k,rfl⟩:∃k',k=k'+1:=⟨k-1,by omega⟩
   unfold locks_pump_l2
   rw[loopF]
   simp only[List.length_nil,pumpL,List.append_nil]
   rfl
  |cons w ws ih=>
   intro hs out k h hl ho hk
   obtain⟨k,rfl⟩:∃k',k=k'+1:=⟨k-1,by omega⟩
   simp only[List.length_cons] at hl ho hk
   obtain⟨r,hr⟩:∃r,r=locks_pump_l2 n (locks_pump_j1 n) k:=⟨_,rfl⟩
   have hi:=insH_len (t:=w.txn) (m:=w.mode) h
   have ih:=ih (insH hs w.txn w.mode) (out++[w.txn]) k (srt_insH h) (by omega) (by simp;omega) (by omega)
   rw[←hr] at ih
   unfold locks_pump_l2 at hr⊢
   rw[loopF,←hr]
   clear hr
   have h0:idx (w::ws) 0=some w:=by rw[show(0:Int)=((0:Nat):Int) from rfl,idx_nat];rfl
   have hsub:sub (w::ws) 1 ((w::ws).length:Int)=some ws:=by
    have:=sub_ok (l:=w::ws) (a:=1) (b:=(w::ws).length) (by simp) (Nat.le_refl _)
    simpa using this
   simp only[decide_eq_true (show((w::ws).length:Int)>0 by simp only[List.length_cons];omega),cond_true,h0,Option.bind_some]
   have hg:=goesL_eq n hn (Queue.mk (Res.mk a b c) hs (w::ws)) (show hs.length≤1000 by omega) w.txn w.mode
   rw[hg,Option.bind_some]
   show(cond (!goesL hs w.txn w.mode) _ _)=_
   unfold pumpL
   cases hgg:goesL hs w.txn w.mode with
   |false=>
    simp only[Bool.not_false,cond_true,locks_pump_j1,Bool.false_eq_true,if_false,List.append_nil]
   |true=>
    simp only[Bool.not_true,cond_false,holdsD_eq n hn h (show hs.length≤900 by omega),Option.bind_some,hsub,app_lt (show out.length+[w.txn].length≤1000000 by simp;omega) (show 8≤1000 by omega),ih,if_true]
    simp
 exact key ws hs [] n h hl (by simp;omega) (by omega)
def pullQ(t:Int)(all:Bool)(q:Queue):List Hold×List Wait×List Int:=pumpL (if all then q.holders.filter λh=> !decide (h.txn=t) else q.holders) (q.waiters.filter λw=> !decide (w.txn=t))
def leftQ(t:Int)(all:Bool)(q:Queue):Queue:=Queue.mk q.res (pullQ t all q).1 (pullQ t all q).2.1
def leftL(t:Int)(all:Bool)(qs:List Queue):List Queue:=(qs.map (leftQ t all)).filter λq=> !decide (q.holders.length=0)
def grantL(t:Int)(all:Bool)(qs:List Queue):List Int:=qs.flatMap λq=>(pullQ t all q).2.2
theorem delW(n:Nat)(hn:1003≤n)(l:List Wait)(hl:l.length≤1000)(t:Int):slices_DeleteFunc_Wait_f90 n t l=some (l.filter λw=> !decide (w.txn=t)):=by
 have h1:slices_IndexFunc_Wait_f90 n l t=some (match l.findIdx? (λw=>decide (w.txn=t)) with|some j=>(j:Int)|none=> -1):=by
  unfold slices_IndexFunc_Wait_f90
  show slices_IndexFunc_Wait_f90_l1 n n (l,t,(l.length:Int),((0:Nat):Int),())=_
  unfold slices_IndexFunc_Wait_f90_l1
  rw[run_loop l (λi (_:Unit)=>(l,t,(l.length:Int),(i:Int),())) (λi x _=>if decide (x.txn=t) then .inl (some (i:Int)) else .inr ()) (λ_=>some (-1)) ?_ ?_ n 0 () (Nat.zero_le _) (by omega)]
  ·rw[List.drop_zero,runL_find0 (f:=λi=>some (i:Int))]
   cases l.findIdx? (λw=>decide (w.txn=t)) with
   |none=>rfl
   |some j=>simp
  ·intro r i s x hx hi
   simp only[lt_dec hi,cond_true,idx_nat,hx,Option.bind_some,locks_without_1,ibeq,wrap_succ (show i<4611686018427387904 by omega)]
   cases decide (x.txn=t)<;>rfl
  ·intro r s
   simp only[ge_dec (Nat.lt_irrefl _),cond_false]
 unfold slices_DeleteFunc_Wait_f90
 rw[h1,Option.bind_some]
 exact delF_eq (p:=λw:Wait=>decide (w.txn=t)) (l:=l) (λx _=>by unfold locks_without_1;rw[ibeq]) (by omega)
theorem delH(n:Nat)(hn:1003≤n)(l:List Hold)(hl:l.length≤1000)(t:Int):slices_DeleteFunc_Hold_f92 n t l=some (l.filter λw=> !decide (w.txn=t)):=by
 have h1:slices_IndexFunc_Hold_f92 n l t=some (match l.findIdx? (λw=>decide (w.txn=t)) with|some j=>(j:Int)|none=> -1):=by
  unfold slices_IndexFunc_Hold_f92
  show slices_IndexFunc_Hold_f92_l1 n n (l,t,(l.length:Int),((0:Nat):Int),())=_
  unfold slices_IndexFunc_Hold_f92_l1
  rw[run_loop l (λi (_:Unit)=>(l,t,(l.length:Int),(i:Int),())) (λi x _=>if decide (x.txn=t) then .inl (some (i:Int)) else .inr ()) (λ_=>some (-1)) ?_ ?_ n 0 () (Nat.zero_le _) (by omega)]
  ·rw[List.drop_zero,runL_find0 (f:=λi=>some (i:Int))]
   cases l.findIdx? (λw=>decide (w.txn=t)) with
   |none=>rfl
   |some j=>simp
  ·intro r i s x hx hi
   simp only[lt_dec hi,cond_true,idx_nat,hx,Option.bind_some,locks_without_2,ibeq,wrap_succ (show i<4611686018427387904 by omega)]
   cases decide (x.txn=t)<;>rfl
  ·intro r s
   simp only[ge_dec (Nat.lt_irrefl _),cond_false]
 unfold slices_DeleteFunc_Hold_f92
 rw[h1,Option.bind_some]
 exact delF_eq (p:=λw:Hold=>decide (w.txn=t)) (l:=l) (λx _=>by unfold locks_without_2;rw[ibeq]) (by omega)
theorem delQ(n:Nat)(hn:1003≤n)(l:List Queue)(hl:l.length≤1000):slices_DeleteFunc_Queue_f95 n l=some (l.filter λq=> !decide (q.holders.length=0)):=by
 have e:∀q:Queue,locks_without_3 n q=some (decide (q.holders.length=0)):=λq=>by
  unfold locks_without_3
  rw[ibeq]
  congr 1
  exact decide_eq_decide.2 (by omega)
 have h1:slices_IndexFunc_Queue_f95 n l=some (match l.findIdx? (λq=>decide (q.holders.length=0)) with|some j=>(j:Int)|none=> -1):=by
  unfold slices_IndexFunc_Queue_f95
  show slices_IndexFunc_Queue_f95_l1 n n (l,(l.length:Int),((0:Nat):Int),())=_
  unfold slices_IndexFunc_Queue_f95_l1
  rw[run_loop l (λi (_:Unit)=>(l,(l.length:Int),(i:Int),())) (λi x _=>if decide (x.holders.length=0) then .inl (some (i:Int)) else .inr ()) (λ_=>some (-1)) ?_ ?_ n 0 () (Nat.zero_le _) (by omega)]
  ·rw[List.drop_zero,runL_find0 (f:=λi=>some (i:Int))]
   cases l.findIdx? (λq=>decide (q.holders.length=0)) with
   |none=>rfl
   |some j=>simp
  ·intro r i s x hx hi
   simp only[lt_dec hi,cond_true,idx_nat,hx,Option.bind_some,e,wrap_succ (show i<4611686018427387904 by omega)]
   cases decide (x.holders.length=0)<;>rfl
  ·intro r s
   simp only[ge_dec (Nat.lt_irrefl _),cond_false]
 unfold slices_DeleteFunc_Queue_f95
 rw[h1,Option.bind_some]
 exact delF_eq (p:=λq:Queue=>decide (q.holders.length=0)) (l:=l) (λx _=>e x) (by omega)
theorem grant_len{t:Int}{all:Bool}:∀{qs:List Queue},(∀q∈qs,SrtH q.holders∧q.waiters.length≤300)→(grantL t all qs).length≤300*qs.length
 |[],_=>by simp[grantL]
 |q::r,h=>by
  have h1:=h q (List.mem_cons_self ..)
  have h2:=grant_len (t:=t) (all:=all) (qs:=r) λx hx=>h x (List.mem_cons_of_mem _ hx)
  have h3:(pullQ t all q).2.2.length≤300:=by
   have hw:=List.length_filter_le (λw:Wait=> !decide (w.txn=t)) q.waiters
   have hs:SrtH (if all then q.holders.filter λh=> !decide (h.txn=t) else q.holders):=by
    cases all with
    |true=>exact h1.1.filter _
    |false=>exact h1.1
   have:=(pump_len (ws:=q.waiters.filter λw=> !decide (w.txn=t)) hs).2
   unfold pullQ;omega
  show((pullQ t all q).2.2++grantL t all r).length≤_
  rw[List.length_append,List.length_cons];omega
theorem without_eq(n:Nat)(hn:1003≤n)(t:Int)(all:Bool)(qs:List Queue)(hq:qs.length≤1000)(hs:∀q∈qs,SrtH q.holders∧q.holders.length≤300∧q.waiters.length≤300):locks_without n t all qs=some (leftL t all qs,grantL t all qs):=by
 unfold locks_without
 show locks_without_l1 n n (all,(qs.length:Int),((0:Nat):Int),t,[],0,qs,())=_
 unfold locks_without_l1
 have up0:upTo (leftQ t all) qs 0=qs:=upTo_zero
 have hgl:∀i,(grantL t all (qs.take i)).length≤300*i:=λi=>by
  have:=grant_len (t:=t) (all:=all) (qs:=qs.take i) λq hq=>⟨(hs q (List.mem_of_mem_take hq)).1,(hs q (List.mem_of_mem_take hq)).2.2⟩
  rw[List.length_take] at this
  have:min i qs.length≤i:=Nat.min_le_left _ _
  omega
 have e0:(all,(qs.length:Int),((0:Nat):Int),t,([]:List Int),0,qs,())=(all,(qs.length:Int),((0:Nat):Int),t,grantL t all (qs.take 0),0,upTo (leftQ t all) qs 0,()):=by rw[up0];rfl
 rw[e0]
 refine loop_to (some (leftL t all qs,grantL t all qs)) qs.length (λi (_:Unit)=>(all,(qs.length:Int),(i:Int),t,grantL t all (qs.take i),i,upTo (leftQ t all) qs i,())) (λ_ _=>True) ?_ ?_ n 0 () (Nat.zero_le _) (by omega) trivial
 ·intro r i _ hi _
  right
  refine⟨(), ?_,trivial⟩
  have hget:=upTo_get (f:=leftQ t all) hi
  have hqq:=hs qs[i] (List.getElem_mem hi)
  generalize hx:qs[i]=q at hget hqq
  have hw:=List.length_filter_le (λw:Wait=> !decide (w.txn=t)) q.waiters
  have hh:=List.length_filter_le (λh:Hold=> !decide (h.txn=t)) q.holders
  have hset:List.set (upTo (leftQ t all) qs i) (Int.toNat (i:Int)) (leftQ t all q)=upTo (leftQ t all) qs (i+1):=by
   rw[Int.toNat_natCast,←hx];exact upTo_set hi
  have htk:grantL t all (qs.take (i+1))=grantL t all (qs.take i)++(pullQ t all q).2.2:=by
   rw[List.take_succ_eq_append_getElem hi,hx]
   simp[grantL]
  have hg2:=hgl i
  have hpl:(pullQ t all q).2.2.length≤300:=by
   have:=grant_len (t:=t) (all:=all) (qs:=[q]) λx hx=>by rw[List.mem_singleton.1 hx];exact⟨hqq.1,hqq.2.2⟩
   simpa[grantL] using this
  have happ:app 8 (grantL t all (qs.take i)) (pullQ t all q).2.2=some (grantL t all (qs.take (i+1))):=by rw[htk];exact app_lt (by omega) (by omega)
  simp only[lt_dec hi,cond_true,idxM_at hget,Option.bind_some,sameI_at,delW n hn q.waiters (by omega)]
  cases all with
  |true=>
   have hp:=pump_eq n hn (hs:=q.holders.filter λh=> !decide (h.txn=t)) (ws:=q.waiters.filter λw=> !decide (w.txn=t)) (hqq.1.filter _) (by omega) q.res.table q.res.id q.res.isKey
   simp only[cond_true,delH n hn q.holders (by omega),Option.bind_some,hp]
   have happ:app 8 (grantL t true (qs.take i)) (pumpL (q.holders.filter λh=> !decide (h.txn=t)) (q.waiters.filter λw=> !decide (w.txn=t))).2.2=_:=happ
   rw[happ,Option.bind_some,wrap_succ (by omega)]
   exact congrArg (λz=>r (true,(qs.length:Int),((i+1:Nat):Int),t,grantL t true (qs.take (i+1)),i+1,z,())) hset
  |false=>
   have hp:=pump_eq n hn (hs:=q.holders) (ws:=q.waiters.filter λw=> !decide (w.txn=t)) hqq.1 (by omega) q.res.table q.res.id q.res.isKey
   simp only[cond_false,Option.bind_some,hp]
   have happ:app 8 (grantL t false (qs.take i)) (pumpL q.holders (q.waiters.filter λw=> !decide (w.txn=t))).2.2=_:=happ
   rw[happ,Option.bind_some,wrap_succ (by omega)]
   exact congrArg (λz=>r (false,(qs.length:Int),((i+1:Nat):Int),t,grantL t false (qs.take (i+1)),i+1,z,())) hset
 ·intro r _ _
  have hsn:sameN qs.length (qs.map (leftQ t all)).length=some ():=by rw[List.length_map];exact sameN_at _
  simp only[ge_dec (Nat.lt_irrefl _),cond_false,upTo_all,hsn,Option.bind_some,List.take_length]
  rw[delQ n hn _ (by simp;omega)]
  rfl
end Go.Proofs.YtchocpffjnodfaaGreat
namespace Go.Proofs.YtchocpffjnodfaaGreat
open Go.Bur
set_option linter.unusedSimpArgs false
set_option linter.unusedVariables false
set_option maxRecDepth 100000
theorem held_mem{hs:List Hold}(h:SrtH hs){x:Hold}(hx:x∈hs):heldL hs x.txn=x.mode:=by
 unfold heldL
 induction hs with
 |nil=>cases hx
 |cons y t ih=>
  obtain⟨h1,h2⟩:=List.pairwise_cons.1 h
  rw[List.find?_cons]
  rcases List.mem_cons.1 hx with rfl|hx
  ·rw[decide_eq_true rfl];rfl
  ·have:=h1 x hx
   rw[decide_eq_false (by omega)]
   exact ih h2 hx
theorem held_none{hs:List Hold}{t:Int}(h:∀x∈hs,x.txn≠t):heldL hs t=0:=by
 unfold heldL
 have:hs.find? (λx=>decide (x.txn=t))=none:=List.find?_eq_none.2 λx hx=>by simpa using h x hx
 rw[this];rfl
theorem held_some{hs:List Hold}{t:Int}(h:heldL hs t≠0):∃x∈hs,x.txn=t∧x.mode=heldL hs t:=by
 unfold heldL at h⊢
 cases hf:hs.find? (λx=>decide (x.txn=t)) with
 |none=>rw[hf] at h;exact absurd rfl h
 |some x=>exact⟨x,List.mem_of_find?_eq_some hf,by simpa using List.find?_some hf,rfl⟩
theorem held_ext{hs gs:List Hold}(h:SrtH hs)(g:SrtH gs){t:Int}(he:∀x,x.txn=t→(x∈hs↔x∈gs)):heldL hs t=heldL gs t:=by
 by_cases hx:∃x∈hs,x.txn=t
 ·obtain⟨x,hx,rfl⟩:=hx
  rw[held_mem h hx,held_mem g ((he x rfl).1 hx)]
 ·rw[held_none λx hx' e=>hx ⟨x,hx',e⟩,held_none λx hx' e=>hx ⟨x,(he x e).2 hx',e⟩]
theorem held_ins{hs:List Hold}(h:SrtH hs){t m x:Int}(hx:x≠t):heldL (insH hs t m) x=heldL hs x:=by
 refine held_ext (srt_insH h) h λy hy=> ?_
 rw[mem_insH]
 constructor
 ·rintro(rfl|⟨h,_⟩)
  ·exact absurd hy.symm hx
  ·exact h
 ·intro h;exact .inr ⟨h,by omega⟩
theorem held_del{hs:List Hold}(h:SrtH hs){t x:Int}(hx:x≠t):heldL (hs.filter λy=> !decide (y.txn=t)) x=heldL hs x:=by
 refine held_ext (h.filter _) h λy hy=> ?_
 rw[List.mem_filter]
 exact⟨λh=>h.1,λh=>⟨h,by simp;omega⟩⟩
theorem goesB_comm(a b:Int):goesB a b=goesB b a:=by
 unfold goesB
 rw[Bool.eq_iff_iff]
 simp only[Bool.and_eq_true,Bool.or_eq_true,decide_eq_true_iff]
 constructor<;>(rintro⟨⟨h1,h2⟩,h3⟩;exact⟨⟨h2,h1⟩,by omega⟩)
theorem goesL_iff{hs:List Hold}{t m:Int}:goesL hs t m=true↔∀x∈hs,x.txn=t∨goesB x.mode m=true:=by
 unfold goesL
 rw[List.all_eq_true]
 simp only[Bool.or_eq_true,decide_eq_true_iff]
structure PV(r:Res)(hs:List Hold)(ws:List Wait):Prop where
 srt:SrtH hs
 ok:∀h∈hs,txnB h.txn=true∧modeB r h.mode=true
 fit:∀h∈hs,goesL hs h.txn h.mode=true
 wok:∀w∈ws,wS r hs w=true
 wr:ws.Pairwise λa b=>wR a b=true
 nd:(ws.map (·.txn)).Nodup
theorem wS_iff{r:Res}{hs:List Hold}{w:Wait}:wS r hs w=true↔txnB w.txn=true∧modeB r w.mode=true∧w.held=heldL hs w.txn∧coversB w.held w.mode=false∧coversB w.mode w.held=true:=by
 unfold wS
 simp only[Bool.and_eq_true,decide_eq_true_iff,Bool.not_eq_true']
 constructor
 ·rintro⟨⟨⟨⟨a,b⟩,c⟩,d⟩,e⟩;exact⟨a,b,c,d,e⟩
 ·rintro⟨a,b,c,d,e⟩;exact⟨⟨⟨⟨a,b⟩,c⟩,d⟩,e⟩
theorem qB_iff{q:Queue}:qB q=true↔resB q.res=true∧q.holders≠[]∧PV q.res q.holders q.waiters∧firstB q.holders q.waiters=true:=by
 unfold qB holdersB waitersB
 simp only[Bool.and_eq_true,chain_iff ltH_trans,chain_iff wR_trans,decide_eq_true_iff,Bool.not_eq_true',List.isEmpty_eq_false_iff]
 have hlt:(q.holders.Pairwise λa b=>ltH a b=true)↔SrtH q.holders:=by
  unfold SrtH ltH
  simp only[decide_eq_true_iff]
 rw[hlt]
 constructor
 ·rintro⟨⟨h1,h2,h3,h4,_⟩,⟨⟨h5,h6,_⟩,h7⟩,h8⟩
  refine⟨h1,h2,⟨h4,λh hh=> ?_,λh hh=> ?_,h5,h6,h7⟩,h8⟩
  ·have:=h3 h hh
   unfold hB at this
   simp only[Bool.and_eq_true] at this
   exact this.1
  ·have:=h3 h hh
   unfold hB at this
   simp only[Bool.and_eq_true] at this
   exact this.2
 ·rintro⟨h1,h2,h3,h4⟩
  refine⟨⟨h1,h2,λh hh=> ?_,h3.srt,nofun⟩,⟨⟨h3.wok,h3.wr,nofun⟩,h3.nd⟩,h4⟩
  unfold hB
  simp only[Bool.and_eq_true]
  exact⟨h3.ok h hh,h3.fit h hh⟩
theorem PV.del{r:Res}{hs:List Hold}{ws:List Wait}(h:PV r hs ws)(t:Int)(all:Bool):PV r (if all then hs.filter λx=> !decide (x.txn=t) else hs) (ws.filter λw=> !decide (w.txn=t)):=by
 have hsub:∀x,x∈(if all then hs.filter λx=> !decide (x.txn=t) else hs)→x∈hs:=λx hx=>by
  cases all with
  |true=>exact(List.mem_filter.1 hx).1
  |false=>exact hx
 have hsrt:SrtH (if all then hs.filter λx=> !decide (x.txn=t) else hs):=by
  cases all with
  |true=>exact h.srt.filter _
  |false=>exact h.srt
 refine⟨hsrt,λx hx=>h.ok x (hsub x hx),λx hx=>goesL_iff.2 λy hy=>goesL_iff.1 (h.fit x (hsub x hx)) y (hsub y hy),λw hw=> ?_,h.wr.filter _, ?_⟩
 ·obtain⟨hw,hne⟩:=List.mem_filter.1 hw
  have hne:w.txn≠t:=by simpa using hne
  obtain⟨a,b,c,d⟩:=wS_iff.1 (h.wok w hw)
  refine wS_iff.2 ⟨a,b, ?_,d⟩
  rw[c]
  cases all with
  |true=>exact(held_del h.srt hne).symm
  |false=>rfl
 ·exact h.nd.sublist ((List.filter_sublist).map _)
theorem lockB_of{qs:List Queue}(h1:qs.length≤500)(h2:∀q∈qs,qB q=true)(h3:qs.Pairwise λa b=>ltQ a b=true)(h4:((wT qs).map (·.txn)).Nodup):lockB qs=true:=by
 unfold lockB
 rw[Bool.and_eq_true,decide_eq_true_iff,allFrom_iff]
 refine⟨h1,λi q hq=> ?_⟩
 have hm:=List.mem_of_getElem? hq
 have hqb:=h2 q hm
 unfold qB at hqb
 simp only[Bool.and_eq_true] at hqb
 have hch:chainB (λ_=>true) ltQ none qs=true:=(chain_iff (λa b c=>ltR_trans a.res b.res c.res)).2 ⟨λ_ _=>rfl,h3,nofun⟩
 rw[←allFrom_chain,allFrom_iff] at hch
 have hp:=hch i q hq
 unfold stepA at hp
 rw[Bool.true_and] at hp
 rw[Nat.zero_add] at hp⊢
 unfold qP
 simp only[Bool.and_eq_true,List.all_eq_true,mhas_metW]
 refine⟨⟨⟨hqb.1.1,hp⟩,hqb.1.2⟩,hqb.2,λw hw=> ?_⟩
 have hlt:=(List.getElem?_eq_some_iff.1 hq).1
 have hsplit:qs=qs.take i++q::qs.drop (i+1):=by
  have:=List.take_append_drop i qs
  rw[List.drop_eq_getElem_cons hlt,(List.getElem?_eq_some_iff.1 hq).2] at this
  exact this.symm
 rw[hsplit] at h4
 have e:wT (qs.take i++q::qs.drop (i+1))=wT (qs.take i)++(q.waiters++wT (qs.drop (i+1))):=by simp[wT]
 rw[e,List.map_append,List.nodup_append] at h4
 have:w.txn∉(wT (qs.take i)).map (·.txn):=λhx=>h4.2.2 _ hx _ (List.mem_map.2 ⟨w,List.mem_append_left _ hw,rfl⟩) rfl
 simp[mhas,this]
end Go.Proofs.YtchocpffjnodfaaGreat
namespace Go.Proofs.YtchocpffjnodfaaGreat
open Go.Bur
set_option linter.unusedSimpArgs false
set_option linter.unusedVariables false
set_option maxRecDepth 100000
def supM(a b:Int):Int:=if coversB a b then a else if coversB b a then b else if(a=2∧b=3)∨(a=3∧b=2) then 4 else 5
def ofM(r:Res)(m:Int):Bool:=if r.isKey then keyM m else tabM m
theorem modeB_iff{r:Res}{m:Int}:modeB r m=true↔m≠0∧ofM r m=true:=by
 unfold modeB ofM
 rw[Bool.and_eq_true,Bool.not_eq_true',decide_eq_false_iff_not]
theorem ofM_zero(r:Res):ofM r 0=true:=by
 unfold ofM
 cases r.isKey<;>decide
theorem sup_eq(n:Nat)(hn:40≤n){r:Res}{a b:Int}(ha:ofM r a=true)(hb:ofM r b=true):mode_Sup n a b=some (supM a b,0):=by
 obtain⟨n,rfl⟩:∃m,n=m+40:=⟨n-40,by omega⟩
 unfold ofM at ha hb
 cases hk:r.isKey with
 |true=>
  rw[hk,if_pos rfl] at ha hb
  have ha:a=0∨a=3∨a=5∨a=6:=of_decide_eq_true ha
  have hb:b=0∨b=3∨b=5∨b=6:=of_decide_eq_true hb
  clear hk
  rcases ha with rfl|rfl|rfl|rfl<;>rcases hb with rfl|rfl|rfl|rfl<;>(show mode_Sup (n+40) _ _=some _;kernel_rfl)
 |false=>
  rw[hk,if_neg (by decide)] at ha hb
  unfold tabM at ha hb
  rw[Bool.and_eq_true,Bool.not_eq_true',decide_eq_false_iff_not] at ha hb
  rcases isM_cases ha.1 with rfl|rfl|rfl|rfl|rfl|rfl|rfl<;>rcases isM_cases hb.1 with rfl|rfl|rfl|rfl|rfl|rfl|rfl<;>first|exact absurd rfl ha.2|exact absurd rfl hb.2|kernel_rfl
theorem sup_ok{r:Res}{a b:Int}(ha:ofM r a=true)(hb:ofM r b=true):ofM r (supM a b)=true∧coversB (supM a b) a=true∧coversB (supM a b) b=true:=by
 unfold ofM at*
 cases hk:r.isKey with
 |true=>
  rw[hk,if_pos rfl] at ha hb
  have ha:a=0∨a=3∨a=5∨a=6:=of_decide_eq_true ha
  have hb:b=0∨b=3∨b=5∨b=6:=of_decide_eq_true hb
  rcases ha with rfl|rfl|rfl|rfl<;>rcases hb with rfl|rfl|rfl|rfl<;>decide
 |false=>
  rw[hk,if_neg (by decide)] at ha hb
  unfold tabM at ha hb
  rw[Bool.and_eq_true,Bool.not_eq_true',decide_eq_false_iff_not] at ha hb
  rcases isM_cases ha.1 with rfl|rfl|rfl|rfl|rfl|rfl|rfl<;>rcases isM_cases hb.1 with rfl|rfl|rfl|rfl|rfl|rfl|rfl<;>first|decide|exact absurd rfl ha.2|exact absurd rfl hb.2
theorem covers_is{a b:Int}(h:coversB a b=true):isM a=true∧isM b=true:=by
 unfold coversB at h
 simp only[Bool.and_eq_true] at h
 exact⟨h.1.1,h.1.2⟩
theorem covers_trans{a b c:Int}(h:coversB a b=true)(k:coversB b c=true):coversB a c=true:=by
 have h1:=covers_is h
 have h2:=covers_is k
 revert h k
 rcases isM_cases h1.1 with rfl|rfl|rfl|rfl|rfl|rfl|rfl<;>rcases isM_cases h1.2 with rfl|rfl|rfl|rfl|rfl|rfl|rfl<;>rcases isM_cases h2.2 with rfl|rfl|rfl|rfl|rfl|rfl|rfl<;>decide
theorem covers_zero{m:Int}(hm:m≠0):coversB 0 m=false:=by
 cases h:coversB 0 m with
 |false=>rfl
 |true=>
  have h1:=(covers_is h).2
  revert h hm
  rcases isM_cases h1 with rfl|rfl|rfl|rfl|rfl|rfl|rfl<;>decide
theorem goes_less{a b c:Int}(h:coversB a b=true)(k:goesB a c=true):goesB b c=true:=by
 have h1:=covers_is h
 have h2:isM c=true:=by
  unfold goesB at k
  simp only[Bool.and_eq_true] at k
  exact k.1.2
 revert h k
 rcases isM_cases h1.1 with rfl|rfl|rfl|rfl|rfl|rfl|rfl<;>rcases isM_cases h1.2 with rfl|rfl|rfl|rfl|rfl|rfl|rfl<;>rcases isM_cases h2 with rfl|rfl|rfl|rfl|rfl|rfl|rfl<;>decide
abbrev cQ(r:Res):Queue→Int:=λq=>cR q.res r
theorem cR_cases(a b:Res):(ltR a b=true∧cR a b= -1)∨(a=b∧cR a b=0)∨(ltR b a=true∧cR a b=1):=by
 have hr:rankR a=rankR b→a.isKey=b.isKey:=λh=>by
  unfold rankR at h
  cases ha:a.isKey<;>cases hb:b.isKey<;>simp[ha,hb] at h⊢
 unfold cR
 rcases cmpT_cases a.table b.table with⟨h,e⟩|⟨h,e⟩|⟨h,e⟩
 ·left;refine⟨ltR_iff.2 (.inl h), ?_⟩;rw[e];rfl
 ·rcases cmpT_cases (rankR a) (rankR b) with⟨h2,e2⟩|⟨h2,e2⟩|⟨h2,e2⟩
  ·left;refine⟨ltR_iff.2 (.inr ⟨h,.inl h2⟩), ?_⟩;rw[e,e2];rfl
  ·rcases cmpT_cases a.id b.id with⟨h3,e3⟩|⟨h3,e3⟩|⟨h3,e3⟩
   ·left;refine⟨ltR_iff.2 (.inr ⟨h,.inr ⟨h2,h3⟩⟩), ?_⟩;rw[e,e2,e3];rfl
   ·right;left
    refine⟨?_,by rw[e,e2,e3];rfl⟩
    have hk:=hr h2
    cases a;cases b;simp only at h hk h3;subst h hk h3;rfl
   ·right;right;refine⟨ltR_iff.2 (.inr ⟨h.symm,.inr ⟨h2.symm,h3⟩⟩), ?_⟩;rw[e,e2,e3];rfl
  ·right;right;refine⟨ltR_iff.2 (.inr ⟨h.symm,.inl h2⟩), ?_⟩;rw[e,e2];rfl
 ·right;right;refine⟨ltR_iff.2 (.inl h), ?_⟩;rw[e];rfl
theorem cR_lt{a b:Res}(h:cR a b<0):ltR a b=true:=by rcases cR_cases a b with⟨h1,_⟩|⟨_,h1⟩|⟨_,h1⟩<;>first|exact h1|omega
theorem cR_zero{a b:Res}(h:cR a b=0):a=b:=by rcases cR_cases a b with⟨_,h1⟩|⟨h1,_⟩|⟨_,h1⟩<;>first|exact h1|omega
theorem cR_pos{a b:Res}(h:0<cR a b):ltR b a=true:=by rcases cR_cases a b with⟨_,h1⟩|⟨_,h1⟩|⟨h1,_⟩<;>first|exact h1|omega
theorem ltR_irr'{a:Res}:ltR a a=false:=by
 unfold ltR
 exact decide_eq_false (by omega)
theorem ltR_pos{a b:Res}(h:ltR b a=true):0<cR a b:=by
 rcases cR_cases a b with⟨h1,_⟩|⟨h1,_⟩|⟨_,h1⟩
 ·have:=ltR_trans _ _ _ h1 h
  rw[ltR_irr'] at this;cases this
 ·subst h1
  rw[ltR_irr'] at h;cases h
 ·omega
theorem cutQ'{qs:List Queue}(r:Res)(h:qs.Pairwise λa b=>ltQ a b=true):∃A y B,Cut (cQ r) qs A y B:=by
 refine cut_ex (h.imp λ{a b} hab ha=> ?_)
 refine ltR_pos ?_
 have hab:ltR a.res b.res=true:=hab
 rcases cR_cases a.res r with⟨_,h1⟩|⟨h1,_⟩|⟨h1,_⟩
 ·unfold cQ at ha;omega
 ·rw[←h1];exact hab
 ·exact ltR_trans _ _ _ h1 hab
theorem qsearch{n:Nat}(hn:1003≤n){l A B:List Queue}{y:Option Queue}{r:Res}(h:Cut (cQ r) l A y B)(hl:l.length≤1000):
  slices_BinarySearchFunc_Res_f27 n l r=some ((A.length:Int),y.isSome):=by
 have hlen:=cut_len h
 have e0:∀q:Queue,locks_Ask_1_1 n q r=some (cQ r q):=λq=>by
  unfold locks_Ask_1_1
  rw[compareR n (by omega)];rfl
 show slices_BinarySearchFunc_Res_f27_l1 n n (l,(l.length:Int),((0:Nat):Int),(l.length:Int),r,())=_
 unfold slices_BinarySearchFunc_Res_f27_l1
 refine bsearch (fun(i j:Nat)=>(l,(l.length:Int),(i:Int),(j:Int),r,())) A.length l.length _ (λk i j hij hj hA=> ?_) (λk i j hij hj hA=> ?_) (λk=> ?_) n 0 l.length (Nat.zero_le _) (by omega) (Nat.le_refl _) (by omega)
 ·have e:((i:Int)+(j:Int))=((i+j:Nat):Int):=by omega
  obtain⟨e1,e2⟩:=halfH (x:=i+j) (by omega)
  have:=cut_lt h (show(i+j)/2<l.length by omega) hA
  simp only[lt_dec hij,cond_true,e,e1,Option.bind_some,e2,idx_nat,get_some (show(i+j)/2<l.length by omega),e0,jn,slices_BinarySearchFunc_Res_f27_j2,decide_eq_true this,wrap_succ (show(i+j)/2<4611686018427387904 by omega)]
 ·have e:((i:Int)+(j:Int))=((i+j:Nat):Int):=by omega
  obtain⟨e1,e2⟩:=halfH (x:=i+j) (by omega)
  have:=cut_ge h (show(i+j)/2<l.length by omega) hA
  simp only[lt_dec hij,cond_true,e,e1,Option.bind_some,e2,idx_nat,get_some (show(i+j)/2<l.length by omega),e0,jn,slices_BinarySearchFunc_Res_f27_j2,decide_eq_false this,cond_false]
 ·simp only[ge_dec (Nat.lt_irrefl _),cond_false,jn]
  by_cases hA:A.length<l.length
  ·simp only[lt_dec hA,cond_true,idx_nat,get_some hA,Option.bind_some,e0,cut_at h hA]
  ·rw[ge_dec hA,cut_end h hA];rfl
def standW(ws:List Wait)(w:Wait):List Wait:=if w.held=0 then ws++[w] else(ws.filter λx=> !decide (x.held=0))++w::ws.filter λx=>decide (x.held=0)
theorem conv_split:∀{ws:List Wait},(ws.Pairwise λa b=>wR a b=true)→∃A B,ws=A++B∧(∀x∈A,x.held≠0)∧∀x∈B,x.held=0
 |[],_=>⟨[],[],rfl,by simp,by simp⟩
 |w::ws,h=>by
  obtain⟨h1,h2⟩:=List.pairwise_cons.1 h
  by_cases hw:w.held=0
  ·refine⟨[],w::ws,rfl,by simp,λx hx=> ?_⟩
   rcases List.mem_cons.1 hx with rfl|hx
   ·exact hw
   ·exact wR_iff.1 (h1 x hx) hw
  ·obtain⟨A,B,e,ha,hb⟩:=conv_split h2
   refine⟨w::A,B,by rw[e];rfl,λx hx=> ?_,hb⟩
   rcases List.mem_cons.1 hx with rfl|hx
   ·exact hw
   ·exact ha x hx
theorem stand_split{A B:List Wait}{w:Wait}(ha:∀x∈A,x.held≠0)(hb:∀x∈B,x.held=0)(hw:w.held≠0):standW (A++B) w=A++w::B:=by
 unfold standW
 rw[if_neg hw,List.filter_append,List.filter_append]
 have f1:(A.filter λx=> !decide (x.held=0))=A:=List.filter_eq_self.2 λx hx=>by simp[ha x hx]
 have f2:(B.filter λx=> !decide (x.held=0))=[]:=List.filter_eq_nil_iff.2 λx hx=>by simp[hb x hx]
 have f3:(A.filter λx=>decide (x.held=0))=[]:=List.filter_eq_nil_iff.2 λx hx=>by simp[ha x hx]
 have f4:(B.filter λx=>decide (x.held=0))=B:=List.filter_eq_self.2 λx hx=>by simp[hb x hx]
 rw[f1,f2,f3,f4];simp
theorem insL_end(ws:List Wait)(w:Wait)(h:ws.length≤1000):insL 24 ws (ws.length:Int) [w]=some (ws++[w]):=by
 have hc:Cut (λ_:Wait=>(-1:Int)) ws ws none []:=⟨by simp,λ_ _=>by decide,nofun,by simp⟩
 exact insL_cut hc w h (by omega)
theorem stands_eq(n:Nat)(hn:1003≤n)(w:Wait)(a c:Int)(b:Bool)(hs:List Hold)(ws:List Wait)(hl:ws.length≤1000)(hwr:ws.Pairwise λa b=>wR a b=true):locks_stands n w a b c hs ws=some (a,b,c,hs,standW ws w):=by
 unfold locks_stands
 simp only[locks_conversion,ibne,Option.bind_some,jn]
 by_cases hw:w.held=0
 ·rw[decide_eq_true hw]
  simp only[Bool.not_true,cond_false,locks_stands_j1,slices_Insert_Wait,insL_end ws w hl,Option.bind_some]
  unfold standW
  rw[if_pos hw]
 ·rw[decide_eq_false hw]
  obtain⟨A,B,rfl,ha,hb⟩:=conv_split hwr
  have h1:slices_IndexFunc_Wait_f82 n (A++B)=some (if B=[] then-1 else(A.length:Int)):=by
   unfold slices_IndexFunc_Wait_f82
   show slices_IndexFunc_Wait_f82_l1 n n (A++B,((A++B).length:Int),((0:Nat):Int),())=_
   unfold slices_IndexFunc_Wait_f82_l1
   rw[run_loop (A++B) (λi (_:Unit)=>(A++B,((A++B).length:Int),(i:Int),())) (λi x _=>if decide (x.held=0) then .inl (some (i:Int)) else .inr ()) (λ_=>some (-1)) ?_ ?_ n 0 () (Nat.zero_le _) (by omega)]
   ·rw[List.drop_zero,runL_find0 (f:=λi=>some (i:Int))]
    have hf:(A++B).findIdx? (λx=>decide (x.held=0))=if B=[] then none else some A.length:=by
     rw[List.findIdx?_append]
     have:A.findIdx? (λx=>decide (x.held=0))=none:=List.findIdx?_eq_none_iff.2 λx hx=>by simp[ha x hx]
     rw[this]
     cases B with
     |nil=>simp
     |cons v B=>simp[List.findIdx?_cons,hb v (List.mem_cons_self ..)]
    rw[hf]
    by_cases hB:B=[]
    ·simp[hB]
    ·simp[hB]
   ·intro r i s x hx hi
    simp only[lt_dec hi,cond_true,idx_nat,hx,Option.bind_some,locks_stands_1,locks_conversion,ibne,wrap_succ (show i<4611686018427387904 by omega)]
    cases decide (x.held=0)<;>rfl
   ·intro r s
    simp only[ge_dec (Nat.lt_irrefl _),cond_false]
  have hc:Cut (λx:Wait=>if x.held=0 then(1:Int) else-1) (A++B) A none B:=⟨by simp,λx hx=>by simp[ha x hx],nofun,λx hx=>by simp[hb x hx]⟩
  have hins:insL 24 (A++B) (A.length:Int) [w]=some (A++w::B):=insL_cut hc w hl (by omega)
  simp only[Bool.not_false,cond_true,h1,Option.bind_some,locks_stands_j2,locks_stands_j1,slices_Insert_Wait]
  rw[stand_split ha hb hw]
  by_cases hB:B=[]
  ·subst hB
   rw[if_pos rfl,decide_eq_false (by omega)]
   simp only[cond_false]
   have:=insL_end (A++[]) w hl
   rw[this]
   simp
  ·rw[if_neg hB,decide_eq_true (by omega)]
   simp only[cond_true,hins,Option.bind_some]
end Go.Proofs.YtchocpffjnodfaaGreat
namespace Go.Proofs.YtchocpffjnodfaaGreat
open Go.Bur
set_option linter.unusedSimpArgs false
set_option linter.unusedVariables false
set_option maxRecDepth 100000
def askNew(q:Queue)(t m:Int):Int×Queue:=
 if coversB (heldL q.holders t) m then(1,q)
 else if goesL q.holders t (supM (heldL q.holders t) m)&&(!decide (heldL q.holders t=0)||decide (q.waiters.length=0)) then(2,Queue.mk q.res (insH q.holders t (supM (heldL q.holders t) m)) q.waiters)
 else(3,Queue.mk q.res q.holders (standW q.waiters (Wait.mk t (supM (heldL q.holders t) m) (heldL q.holders t))))
theorem set_app{A B:List Queue}{o x:Queue}:List.set (A++o::B) (Int.toNat (A.length:Int)) x=A++x::B:=by
 rw[Int.toNat_natCast,List.set_append_right _ _ (Nat.le_refl _),Nat.sub_self];rfl
theorem occQ_none{t:Int}:∀{qs:List Queue} {k:Nat},occQ t k qs=none→∀w∈wT qs,w.txn≠t
 |[],_,_,w,hw=>by cases hw
 |q::r,k,h,w,hw=>by
  unfold occQ at h
  cases ho:occ t 0 q.waiters with
  |some x=>rw[ho] at h;cases h
  |none=>
   rw[ho] at h
   rcases List.mem_append.1 (show w∈q.waiters++wT r from hw) with hw|hw
   ·exact occ_none ho w hw
   ·exact occQ_none h w hw
theorem held_of{r:Res}{hs:List Hold}{ws:List Wait}(h:PV r hs ws)(t:Int):ofM r (heldL hs t)=true:=by
 by_cases h0:heldL hs t=0
 ·rw[h0];exact ofM_zero r
 ·obtain⟨x,hx,_,e⟩:=held_some h0
  rw[←e]
  exact(modeB_iff.1 (h.ok x hx).2).2
theorem pv_nil(r:Res):PV r [] []:=⟨.nil,by simp,by simp,by simp,.nil,.nil⟩
section
variable {qs A B : List Queue} {y : Option Queue} {r : Res}
def theQ(y:Option Queue)(r:Res):Queue:=y.getD (Queue.mk r [] [])
theorem theQ_res(hc:Cut (cQ r) qs A y B):(theQ y r).res=r:=by
 cases y with
 |none=>rfl
 |some q=>exact cR_zero (hc.mid q rfl)
theorem theQ_pv(hl:lockB qs=true)(hc:Cut (cQ r) qs A y B):PV r (theQ y r).holders (theQ y r).waiters∧firstB (theQ y r).holders (theQ y r).waiters=true:=by
 cases y with
 |none=>exact⟨pv_nil r,rfl⟩
 |some q=>
  have hq:q∈qs:=by rw[hc.eq];simp
  obtain⟨_,_,h3,h4⟩:=qB_iff.1 (lock_q hl q hq)
  have e:q.res=r:=theQ_res hc
  rw[e] at h3
  exact⟨h3,h4⟩
theorem ask1_eq(n:Nat)(hn:1003≤n)(hl:lockB qs=true)(hz:∀q∈qs,q.holders.length≤900∧q.waiters.length≤900)(hc:Cut (cQ r) qs A y B)(m t w0:Int):
  locks_Ask_1 n qs r m t w0=some (if resB r&&modeB r m then(if(occQ t 0 qs).isSome then(181,r,m,t,w0,qs) else if !y.isSome&&decide (500≤qs.length) then(6,r,m,t,w0,qs) else(0,r,m,t,(askNew (theQ y r) t m).1,A++(askNew (theQ y r) t m).2::B)) else(2,r,m,t,w0,qs)):=by
 have hlen:=lock_len hl
 have hsm:SmallL qs:=λq hq=>by have:=hz q hq;omega
 unfold locks_Ask_1
 simp only[locked_eq,Option.bind_some,jn,of_eq n (by omega)]
 cases hr:resB r with
 |false=>rfl
 |true=>
  cases hm:modeB r m with
  |false=>rfl
  |true=>
   simp only[Bool.not_true,cond_false,Bool.and_true,if_true,waits_eq n hn (Locks.mk qs) hsm (show qs.length≤1000 by omega),Option.bind_some,qsearch hn hc (show qs.length≤1000 by omega)]
   cases ho:occQ t 0 qs with
   |some z=>rfl
   |none=>
    simp only[cond_false,Option.isSome_none,Bool.false_eq_true,if_false]
    have hpv:=theQ_pv hl hc
    have hres:=theQ_res hc
    have hq0:(theQ y r).holders.length≤900∧(theQ y r).waiters.length≤900:=by
     cases y with
     |none=>exact⟨by simp[theQ],by simp[theQ]⟩
     |some q=>exact hz q (by rw[hc.eq];simp)
    have hj:locks_Ask_1_j1 n ((A.length:Int),r,m,t,w0,A++theQ y r::B,())=some (0,r,m,t,(askNew (theQ y r) t m).1,A++(askNew (theQ y r) t m).2::B):=by
     generalize theQ y r=q at hpv hres hq0
     have hm2:=(modeB_iff.1 hm)
     have hsup:=sup_eq n (by omega) (held_of hpv.1 t) hm2.2
     have hh1:∀x,locks_holds n t x q.res.table q.res.isKey q.res.id q.holders q.waiters=some (q.res.table,q.res.isKey,q.res.id,insH q.holders t x,q.waiters):=λx=>holdsA_eq n hn hpv.1.srt (by omega) t x _ _ _ _
     have hh2:∀w,locks_stands n w q.res.table q.res.isKey q.res.id q.holders q.waiters=some (q.res.table,q.res.isKey,q.res.id,q.holders,standW q.waiters w):=λw=>stands_eq n hn w _ _ _ _ _ (by omega) hpv.1.wr
     unfold locks_Ask_1_j1 askNew
     simp only[idx_app,Option.bind_some,sameI_at,held_eq n hn q (by omega),covers_eq n (by omega),hsup,goesL_eq n hn q (by omega),bne_self_eq_false,cond_false,jn,hh1,hh2,set_app,ibne]
     have hw0:((q.waiters.length:Int)==0)=decide (q.waiters.length=0):=by rw[ibeq];exact decide_eq_decide.2 (by omega)
     rw[hw0]
     cases coversB (heldL q.holders t) m with
     |true=>rfl
     |false=>
      cases goesL q.holders t (supM (heldL q.holders t) m)<;>cases decide (heldL q.holders t=0)<;>cases decide (q.waiters.length=0)<;>rfl
    have he:=hc.eq
    cases y with
    |some q=>
     simp only[Option.isSome_some,Bool.not_true,cond_false,Bool.false_and,Bool.false_eq_true,if_false]
     rw[←hj,he]
     rfl
    |none=>
     simp only[Option.isSome_none,Bool.not_false,cond_true,Bool.true_and]
     by_cases h500:500≤qs.length
     ·rw[decide_eq_true h500,decide_eq_true (show(qs.length:Int)≥500 by omega)];rfl
     ·rw[decide_eq_false h500,decide_eq_false (show ¬(qs.length:Int)≥500 by omega)]
      have hins:slices_Insert_Queue n (A.length:Int) qs [Queue.mk r [] []]=some (A++Queue.mk r [] []::B):=by
       unfold slices_Insert_Queue
       exact insL_cut hc _ (by omega) (by omega)
      simp only[cond_false,hins,Option.bind_some,Bool.false_eq_true,if_false]
      exact hj
theorem supM_ne{a m:Int}(hm:m≠0)(h:coversB a m=false):supM a m≠0:=by
 unfold supM
 rw[h]
 simp only[Bool.false_eq_true,if_false]
 split
 ·exact hm
 ·split<;>omega
theorem goesL_ins{hs:List Hold}{t m x c:Int}(hs':SrtH hs)(hc:heldL hs t=0∨coversB m (heldL hs t)=true)(h:goesL (insH hs t m) x c=true):goesL hs x c=true:=by
 rw[goesL_iff] at h⊢
 intro y hy
 by_cases hyt:y.txn=t
 ·rcases h (Hold.mk t m) (mem_insH.2 (.inl rfl)) with e|e
  ·exact .inl (by rw[hyt];exact e)
  ·right
   have hym:heldL hs t=y.mode:=by rw[←hyt];exact held_mem hs' hy
   rcases hc with h0|h1
   ·--it holds none:goes with all that is a mode
    rw[hym] at h0
    rw[h0]
    have e:goesB m c=true:=e
    unfold goesB at e⊢
    simp only[Bool.and_eq_true] at e⊢
    exact⟨⟨by decide,e.1.2⟩,by simp⟩
   ·rw[hym] at h1
    exact goes_less h1 e
 ·exact h y (mem_insH.2 (.inr ⟨hy,hyt⟩))
theorem grant_pv{hs:List Hold}{ws:List Wait}(h:PV r hs ws){t x:Int}(ht:txnB t=true)(hx:modeB r x=true)(hg:goesL hs t x=true)(hn:∀w∈ws,w.txn≠t):PV r (insH hs t x) ws:=by
 refine⟨srt_insH h.srt,λz hz=> ?_,λz hz=>goesL_iff.2 λv hv=> ?_,λw hw=> ?_,h.wr,h.nd⟩
 ·rcases mem_insH.1 hz with rfl|⟨hz,_⟩
  ·exact⟨ht,hx⟩
  ·exact h.ok z hz
 ·rcases mem_insH.1 hz with rfl|⟨hz,hzn⟩
  ·rcases mem_insH.1 hv with rfl|⟨hv,hvn⟩
   ·exact .inl rfl
   ·exact goesL_iff.1 hg v hv
  ·rcases mem_insH.1 hv with rfl|⟨hv,hvn⟩
   ·right
    rw[goesB_comm]
    exact(goesL_iff.1 hg z hz).resolve_left hzn
   ·exact goesL_iff.1 (h.fit z hz) v hv
 ·obtain⟨a',b',c',d'⟩:=wS_iff.1 (h.wok w hw)
  refine wS_iff.2 ⟨a',b', ?_,d'⟩
  rw[held_ins h.srt (hn w hw)]
  exact c'
theorem mem_stand{ws:List Wait}{w x:Wait}:x∈standW ws w↔x=w∨x∈ws:=by
 unfold standW
 split
 ·simp only[List.mem_append,List.mem_singleton]
  exact⟨λh=>h.symm.imp id id,λh=>h.symm.imp id id⟩
 ·simp only[List.mem_append,List.mem_cons,List.mem_filter,Bool.not_eq_true',decide_eq_false_iff_not,decide_eq_true_iff]
  constructor
  ·rintro(⟨h,_⟩|h|⟨h,_⟩)
   ·exact .inr h
   ·exact .inl h
   ·exact .inr h
  ·rintro(h|h)
   ·exact .inr (.inl h)
   ·by_cases h0:x.held=0
    ·exact .inr (.inr ⟨h,h0⟩)
    ·exact .inl ⟨h,h0⟩
theorem perm_stand{ws:List Wait}{w:Wait}:(standW ws w).Perm (w::ws):=by
 unfold standW
 split
 ·exact List.perm_append_singleton _ _
 ·refine List.perm_middle.trans (List.Perm.cons w ?_)
  have:=List.filter_append_perm (λx:Wait=> !decide (x.held=0)) ws
  simpa using this
theorem stand_pv{hs:List Hold}{ws:List Wait}(h:PV r hs ws){w:Wait}(hw:wS r hs w=true)(hn:∀v∈ws,v.txn≠w.txn):PV r hs (standW ws w):=by
 refine⟨h.srt,h.ok,h.fit,λv hv=> ?_, ?_, ?_⟩
 ·rcases mem_stand.1 hv with rfl|hv
  ·exact hw
  ·exact h.wok v hv
 ·unfold standW
  split
  ·rename_i h0
   rw[List.pairwise_append]
   refine⟨h.wr,List.pairwise_singleton _ _,λa _ b hb=> ?_⟩
   rw[List.mem_singleton] at hb
   subst hb
   exact wR_iff.2 λ_=>h0
  ·rename_i h0
   rw[List.pairwise_append]
   refine⟨h.wr.filter _,List.pairwise_cons.2 ⟨λb hb=>wR_iff.2 λe=>absurd e h0,h.wr.filter _⟩,λa ha b hb=> ?_⟩
   have ha0:a.held≠0:=by simpa using (List.mem_filter.1 ha).2
   exact wR_iff.2 λe=>absurd e ha0
 ·have hp:=(perm_stand (ws:=ws) (w:=w)).map (·.txn)
  rw[hp.nodup_iff,List.map_cons,List.nodup_cons]
  exact⟨λhm=>by obtain⟨v,hv,e⟩:=List.mem_map.1 hm;exact hn v hv e,h.nd⟩
theorem stand_first{hs:List Hold}{ws:List Wait}{w:Wait}(hwr:ws.Pairwise λa b=>wR a b=true)(hf:firstB hs ws=true)(hw:goesL hs w.txn w.mode=false∨(w.held=0∧ws≠[])):firstB hs (standW ws w)=true:=by
 by_cases h0:w.held=0
 ·unfold standW
  rw[if_pos h0]
  cases ws with
  |nil=>
   rcases hw with hw|⟨_,hw⟩
   ·simp[firstB,hw]
   ·exact absurd rfl hw
  |cons v vs=>exact hf
 ·have hgo:=hw.resolve_right λh=>h0 h.1
  obtain⟨A,B,rfl,ha,hb⟩:=conv_split hwr
  rw[stand_split ha hb h0]
  cases A with
  |nil=>simp[firstB,hgo]
  |cons v A=>exact hf
theorem ask_q{q:Queue}(hr:q.res=r)(hrB:resB r=true)(hpv:PV r q.holders q.waiters)(hf:firstB q.holders q.waiters=true){t m:Int}(ht:txnB t=true)(hm:modeB r m=true)(hn:∀w∈q.waiters,w.txn≠t)(hne:q.holders=[]→q.waiters=[]):qB (askNew q t m).2=true∧(askNew q t m).2.res=r:=by
 have hm2:=modeB_iff.1 hm
 have hof:=held_of hpv t
 obtain⟨s1,s2,s3⟩:=sup_ok hof hm2.2
 unfold askNew
 cases hcv:coversB (heldL q.holders t) m with
 |true=>
  simp only[if_true]
  refine⟨qB_iff.2 ⟨by rw[hr];exact hrB,λe=> ?_,by rw[hr];exact hpv,hf⟩,hr⟩
  have:heldL q.holders t=0:=by rw[e];rfl
  rw[this,covers_zero hm2.1] at hcv;cases hcv
 |false=>
  simp only[Bool.false_eq_true,if_false]
  have hwant:modeB r (supM (heldL q.holders t) m)=true:=modeB_iff.2 ⟨supM_ne hm2.1 hcv,s1⟩
  cases hg:goesL q.holders t (supM (heldL q.holders t) m)&&(!decide (heldL q.holders t=0)||decide (q.waiters.length=0)) with
  |true=>
   simp only[if_true]
   rw[Bool.and_eq_true] at hg
   refine⟨qB_iff.2 ⟨by rw[hr];exact hrB, ?_,by rw[hr];exact grant_pv hpv ht hwant hg.1 hn, ?_⟩,hr⟩
   ·intro e
    have e:insH q.holders t (supM (heldL q.holders t) m)=[]:=e
    have:Hold.mk t (supM (heldL q.holders t) m)∈insH q.holders t (supM (heldL q.holders t) m):=mem_insH.2 (.inl rfl)
    rw[e] at this;cases this
   ·show firstB (insH q.holders t (supM (heldL q.holders t) m)) q.waiters=true
    cases hws:q.waiters with
    |nil=>rfl
    |cons v vs=>
     rw[hws] at hf
     simp only[firstB,Bool.not_eq_true'] at hf⊢
     cases hgo:goesL (insH q.holders t (supM (heldL q.holders t) m)) v.txn v.mode with
     |false=>rfl
     |true=>rw[goesL_ins hpv.srt (.inr s2) hgo] at hf;cases hf
  |false=>
   simp only[Bool.false_eq_true,if_false]
   have hw:wS r q.holders (Wait.mk t (supM (heldL q.holders t) m) (heldL q.holders t))=true:=by
    have hno:coversB (heldL q.holders t) (supM (heldL q.holders t) m)=false:=by
     cases hx:coversB (heldL q.holders t) (supM (heldL q.holders t) m) with
     |false=>rfl
     |true=>rw[covers_trans hx s3] at hcv;cases hcv
    exact wS_iff.2 ⟨ht,hwant,rfl,hno,s2⟩
   have hfirst:goesL q.holders t (supM (heldL q.holders t) m)=false∨(heldL q.holders t=0∧q.waiters≠[]):=by
    rw[Bool.and_eq_false_iff,Bool.or_eq_false_iff] at hg
    rcases hg with hg|⟨g1,g2⟩
    ·exact .inl hg
    ·right
     refine⟨by simpa using g1,λe=> ?_⟩
     rw[e] at g2;simp at g2
   refine⟨qB_iff.2 ⟨by rw[hr];exact hrB,λe=> ?_,by rw[hr];exact stand_pv hpv hw hn,stand_first hpv.wr hf hfirst⟩,hr⟩
   have e:q.holders=[]:=e
   rcases hfirst with h|⟨_,h⟩
   ·rw[e] at h;cases h
   ·exact h (hne e)
theorem ask_wT{q:Queue}{t m:Int}:((askNew q t m).2.waiters.map (·.txn)).Perm (q.waiters.map (·.txn))∨((askNew q t m).2.waiters.map (·.txn)).Perm (t::q.waiters.map (·.txn)):=by
 unfold askNew
 split
 ·exact .inl (List.Perm.refl _)
 ·split
  ·exact .inl (List.Perm.refl _)
  ·exact .inr (perm_stand.map (·.txn))
theorem ask_lock(hl:lockB qs=true)(hc:Cut (cQ r) qs A y B){t m:Int}(ht:txnB t=true)(hr:resB r=true)(hm:modeB r m=true)(ho:occQ t 0 qs=none)(hy:y.isSome=true∨qs.length<500):lockB (A++(askNew (theQ y r) t m).2::B)=true:=by
 have hlen:=lock_len hl
 have hno:=occQ_none ho
 have hpv:=theQ_pv hl hc
 have hres:=theQ_res hc
 have heq:wT qs=wT A++((theQ y r).waiters++wT B):=by
  rw[hc.eq]
  cases y with
  |none=>simp[wT,theQ]
  |some q=>simp[wT,theQ]
 have hqn:∀w∈(theQ y r).waiters,w.txn≠t:=λw hw=>hno w (by rw[heq];simp[hw])
 have hne:(theQ y r).holders=[]→(theQ y r).waiters=[]:=λe=>by
  cases y with
  |none=>rfl
  |some q=>exact absurd e (qB_iff.1 (lock_q hl q (by rw[hc.eq];simp))).2.1
 have hq:=ask_q hres hr hpv.1 hpv.2 ht hm hqn hne
 have hsrt:=lock_srt hl
 rw[hc.eq,List.pairwise_append] at hsrt
 obtain⟨p1,p2,p3⟩:=hsrt
 rw[List.pairwise_append] at p2
 refine lockB_of ?_ (λq hqm=> ?_) ?_ ?_
 ·have h1:=cut_len hc
  simp only[List.length_append,List.length_cons]
  cases y with
  |none=>
   simp only[Option.toList_none,List.length_nil] at h1
   rcases hy with hy|hy
   ·cases hy
   ·omega
  |some q=>
   simp only[Option.toList_some,List.length_singleton] at h1
   omega
 ·rcases List.mem_append.1 hqm with h|h
  ·exact lock_q hl q (by rw[hc.eq];simp[h])
  ·rcases List.mem_cons.1 h with rfl|h
   ·exact hq.1
   ·exact lock_q hl q (by rw[hc.eq];simp[h])
 ·rw[List.pairwise_append]
  refine⟨p1,List.pairwise_cons.2 ⟨λb hb=> ?_,p2.2.1⟩,λa ha b hb=> ?_⟩
  ·show ltR (askNew (theQ y r) t m).2.res b.res=true
   rw[hq.2]
   exact cR_pos (hc.hi b hb)
  ·rcases List.mem_cons.1 hb with rfl|hb
   ·show ltR a.res (askNew (theQ y r) t m).2.res=true
    rw[hq.2]
    exact cR_lt (hc.lo a ha)
   ·exact p3 a ha b (List.mem_append_right _ hb)
 ·have hnd:=lock_nod hl
  have e2:wT (A++(askNew (theQ y r) t m).2::B)=wT A++((askNew (theQ y r) t m).2.waiters++wT B):=by simp[wT]
  rw[heq] at hnd hno
  rw[e2]
  simp only[List.map_append] at hnd⊢
  rcases ask_wT (q:=theQ y r) (t:=t) (m:=m) with hp|hp
  ·exact((hp.append_right ((wT B).map (·.txn))).append_left ((wT A).map (·.txn))).nodup_iff.2 hnd
  ·refine(((hp.append_right ((wT B).map (·.txn))).append_left ((wT A).map (·.txn))).trans List.perm_middle).nodup_iff.2 (List.nodup_cons.2 ⟨λhm=> ?_,hnd⟩)
   have hm:t∈(wT A++((theQ y r).waiters++wT B)).map (·.txn):=by
    rw[List.map_append,List.map_append];exact hm
   obtain⟨w,hw,e⟩:=List.mem_map.1 hm
   exact hno w hw e
end
end Go.Proofs.YtchocpffjnodfaaGreat
namespace Go.Proofs.YtchocpffjnodfaaGreat
open Go.Bur
set_option linter.unusedSimpArgs false
set_option linter.unusedVariables false
set_option maxRecDepth 100000
theorem rsup_eq(n:Nat)(hn:40≤n){r:Res}{a b:Int}(ha:ofM r a=true)(hb:ofM r b=true):ref07_Sup n a b=some (supM a b):=by
 obtain⟨n,rfl⟩:∃m,n=m+40:=⟨n-40,by omega⟩
 unfold ofM at ha hb
 cases hk:r.isKey with
 |true=>
  rw[hk,if_pos rfl] at ha hb
  have ha:a=0∨a=3∨a=5∨a=6:=of_decide_eq_true ha
  have hb:b=0∨b=3∨b=5∨b=6:=of_decide_eq_true hb
  clear hk
  rcases ha with rfl|rfl|rfl|rfl<;>rcases hb with rfl|rfl|rfl|rfl<;>(show ref07_Sup (n+40) _ _=some _;kernel_rfl)
 |false=>
  rw[hk,if_neg (by decide)] at ha hb
  unfold tabM at ha hb
  rw[Bool.and_eq_true,Bool.not_eq_true',decide_eq_false_iff_not] at ha hb
  rcases isM_cases ha.1 with rfl|rfl|rfl|rfl|rfl|rfl|rfl<;>rcases isM_cases hb.1 with rfl|rfl|rfl|rfl|rfl|rfl|rfl<;>first|exact absurd rfl ha.2|exact absurd rfl hb.2|(show ref07_Sup (n+40) _ _=some _;kernel_rfl)
theorem rholds_eq(n:Nat)(hn:1003≤n)(q:Queue)(h:SrtH q.holders)(hl:q.holders.length≤1000)(t m:Int):ref08_holds n q t m=some (Queue.mk q.res (insH q.holders t m) q.waiters):=by
 obtain⟨A,y,B,hc⟩:=cutH t h
 rw[cut_insH hc]
 unfold ref08_holds
 show ref08_holds_l1 n n (t,m,false,q.holders,(q.holders.length:Int),((0:Nat):Int),q,Queue.mk (Res.mk 0 false 0) [] [],[],())=_
 unfold ref08_holds_l1
 rw[run_loopI q.holders (λi (s:Bool×List Hold)=>(t,m,s.1,q.holders,(q.holders.length:Int),(i:Int),q,Queue.mk (Res.mk 0 false 0) [] [],s.2,())) (λ_ x s=> .inr (layS (cH t) (Hold.mk t m) x s)) (λs=>some (Queue.mk q.res (layE (Hold.mk t m) s) q.waiters)) (λi s=>s.2.length≤2*i) ?_ ?_ ?_ n 0 (false,[]) (Nat.zero_le _) (by omega) (Nat.le_refl _)]
 ·rw[List.drop_zero,runL_fold (g:=λx s=>layS (cH t) (Hold.mk t m) x s),lay_in hc,List.nil_append]
 ·intro i s x s' hx hI he
  cases he
  have:=layS_len (c:=cH t) (o:=Hold.mk t m) (x:=x) (s:=s);omega
 ·intro r i s x hx hi hI
  obtain⟨d,acc⟩:=s
  simp only at hI⊢
  have ha:∀(u:List Hold),u.length≤5000→∀z:Hold,app 16 u [z]=some (u++[z]):=λu hu z=>app_lt (by simp;omega) (by omega)
  have e1:decide (x.txn≥t)=decide (cH t x≥0):=decide_eq_decide.2 (by rcases cmpT_cases x.txn t with⟨k,e⟩|⟨k,e⟩|⟨k,e⟩<;>unfold cH<;>omega)
  have e2:decide (x.txn=t)=decide (cH t x=0):=decide_eq_decide.2 cmpT_zero.symm
  simp only[lt_dec hi,cond_true,idx_nat,hx,Option.bind_some,jn,ref08_holds_j2,ref08_holds_j3,ibne,e1,e2,wrap_succ (show i<4611686018427387904 by omega)]
  unfold layS
  simp only
  cases d with
  |true=>
   by_cases h0:cH t x=0
   ·simp only[Bool.not_true,cond_false,decide_eq_true h0,Bool.false_and,Bool.false_eq_true,if_false,if_pos h0]
   ·simp only[Bool.not_true,cond_false,decide_eq_false h0,Bool.not_false,cond_true,Bool.false_and,Bool.false_eq_true,if_false,if_neg h0,ha acc (by omega),Option.bind_some]
  |false=>
   simp only[Bool.not_false,cond_true,Bool.true_and]
   by_cases hg:cH t x≥0
   ·by_cases h0:cH t x=0
    ·simp only[decide_eq_true hg,decide_eq_true h0,cond_true,ha acc (by omega),Option.bind_some,Bool.not_true,cond_false,if_true,if_pos h0]
    ·simp only[decide_eq_true hg,decide_eq_false h0,cond_true,ha acc (by omega),Option.bind_some,Bool.not_false,if_true,if_neg h0,ha (acc++[Hold.mk t m]) (by simp;omega)]
   ·have h0:¬cH t x=0:=by omega
    simp only[decide_eq_false hg,decide_eq_false h0,cond_false,Bool.not_false,cond_true,ha acc (by omega),Option.bind_some,Bool.false_eq_true,if_false,if_neg h0]
 ·intro r s hI
  obtain⟨d,acc⟩:=s
  have hI:acc.length≤2*q.holders.length:=hI
  simp only[ge_dec (Nat.lt_irrefl _),cond_false,jn,ref08_holds_j4]
  unfold layE
  cases d with
  |true=>rfl
  |false=>
   simp only[Bool.not_false,cond_true,app_lt (show acc.length+[Hold.mk t m].length≤1000000 by simp;omega) (show 16≤1000 by omega),Option.bind_some,Bool.false_eq_true,if_false]
def layW8(w x:Wait)(s:Bool×List Wait):Bool×List Wait:=if !s.1&&(!decide (w.held=0)&&decide (x.held=0)) then(true,s.2++[w]++[x]) else(s.1,s.2++[x])
theorem layW8_on{w:Wait}:∀{l:List Wait} {acc:List Wait},l.foldl (λs x=>layW8 w x s) (true,acc)=(true,acc++l)
 |[],acc=>by simp
 |x::l,acc=>by
  rw[List.foldl_cons]
  have e:layW8 w x (true,acc)=(true,acc++[x]):=by simp[layW8]
  rw[e,layW8_on];simp
theorem layW8_lo{w:Wait}:∀{l:List Wait} {acc:List Wait},(w.held=0∨∀x∈l,x.held≠0)→l.foldl (λs x=>layW8 w x s) (false,acc)=(false,acc++l)
 |[],acc,_=>by simp
 |x::l,acc,h=>by
  rw[List.foldl_cons]
  have e:layW8 w x (false,acc)=(false,acc++[x]):=by
   rcases h with h|h
   ·simp[layW8,h]
   ·simp[layW8,h x (List.mem_cons_self ..)]
  rw[e,layW8_lo (h.imp id λh z hz=>h z (List.mem_cons_of_mem _ hz))];simp
theorem layW8_end{ws:List Wait}{w:Wait}(hwr:ws.Pairwise λa b=>wR a b=true):(if(ws.foldl (λs x=>layW8 w x s) (false,[])).1 then(ws.foldl (λs x=>layW8 w x s) (false,[])).2 else(ws.foldl (λs x=>layW8 w x s) (false,[])).2++[w])=standW ws w:=by
 by_cases hw:w.held=0
 ·rw[layW8_lo (.inl hw)]
  unfold standW
  rw[if_pos hw]
  simp
 ·obtain⟨A,B,rfl,ha,hb⟩:=conv_split hwr
  rw[stand_split ha hb hw,List.foldl_append,layW8_lo (.inr ha)]
  cases B with
  |nil=>simp
  |cons v B=>
   rw[List.foldl_cons]
   have e:layW8 w v (false,[]++A)=(true,[]++A++[w]++[v]):=by simp[layW8,hw,hb v (List.mem_cons_self ..)]
   rw[e,layW8_on]
   simp
theorem rstands_eq(n:Nat)(hn:1003≤n)(q:Queue)(hwr:q.waiters.Pairwise λa b=>wR a b=true)(hl:q.waiters.length≤1000)(w:Wait):ref08_waits n q w=some (Queue.mk q.res q.holders (standW q.waiters w)):=by
 unfold ref08_waits
 show ref08_waits_l1 n n (false,q.waiters,(q.waiters.length:Int),((0:Nat):Int),q,w,Queue.mk (Res.mk 0 false 0) [] [],[],())=_
 unfold ref08_waits_l1
 rw[run_loopI q.waiters (λi (s:Bool×List Wait)=>(s.1,q.waiters,(q.waiters.length:Int),(i:Int),q,w,Queue.mk (Res.mk 0 false 0) [] [],s.2,())) (λ_ x s=> .inr (layW8 w x s)) (λs=>some (Queue.mk q.res q.holders (if s.1 then s.2 else s.2++[w]))) (λi s=>s.2.length≤2*i) ?_ ?_ ?_ n 0 (false,[]) (Nat.zero_le _) (by omega) (Nat.le_refl _)]
 ·rw[List.drop_zero,runL_fold (g:=λx s=>layW8 w x s),layW8_end hwr]
 ·intro i s x s' hx hI he
  cases he
  unfold layW8
  split
  ·simp;omega
  ·simp;omega
 ·intro r i s x hx hi hI
  obtain⟨d,acc⟩:=s
  simp only at hI⊢
  have ha:∀(u:List Wait),u.length≤5000→∀z:Wait,app 24 u [z]=some (u++[z]):=λu hu z=>app_lt (by simp;omega) (by omega)
  simp only[lt_dec hi,cond_true,idx_nat,hx,Option.bind_some,jn,ref08_waits_j2,ibeq,ibne,wrap_succ (show i<4611686018427387904 by omega)]
  unfold layW8
  simp only
  cases d with
  |true=>simp only[Bool.not_true,cond_false,Bool.false_and,Bool.false_eq_true,if_false,ha acc (by omega),Option.bind_some]
  |false=>
   simp only[Bool.not_false,cond_true,Bool.true_and]
   cases decide (w.held=0) with
   |true=>simp only[Bool.not_true,cond_false,Bool.false_and,Bool.false_eq_true,if_false,ha acc (by omega),Option.bind_some]
   |false=>
    simp only[Bool.not_false,cond_true,Bool.true_and]
    cases decide (x.held=0) with
    |true=>simp only[cond_true,if_true,ha acc (by omega),Option.bind_some,ha (acc++[w]) (by simp;omega)]
    |false=>simp only[cond_false,Bool.false_eq_true,if_false,ha acc (by omega),Option.bind_some]
 ·intro r s hI
  obtain⟨d,acc⟩:=s
  have hI:acc.length≤2*q.waiters.length:=hI
  simp only[ge_dec (Nat.lt_irrefl _),cond_false,jn,ref08_waits_j3]
  cases d with
  |true=>rfl
  |false=>
   simp only[Bool.not_false,cond_true,app_lt (show acc.length+[w].length≤1000000 by simp;omega) (show 24≤1000 by omega),Option.bind_some,Bool.false_eq_true,if_false]
end Go.Proofs.YtchocpffjnodfaaGreat
namespace Go.Proofs.YtchocpffjnodfaaGreat
open Go.Bur
set_option linter.unusedSimpArgs false
set_option linter.unusedVariables false
set_option maxRecDepth 100000
theorem foldI_append{α σ:Type}{g:Nat→α→σ→σ}:∀{a b:List α} {k:Nat} {s:σ},foldI g k (a++b) s=foldI g (k+a.length) b (foldI g k a s)
 |[],b,k,s=>by simp[foldI]
 |x::a,b,k,s=>by
  rw[List.cons_append,foldI,foldI,foldI_append,List.length_cons,show k+1+a.length=k+(a.length+1) from by omega]
theorem foldI_skip{α σ:Type}{g:Nat→α→σ→σ}{s:σ}:∀{l:List α} {k:Nat},(∀i x,x∈l→g i x s=s)→foldI g k l s=s
 |[],_,_=>rfl
 |x::l,k,h=>by
  rw[foldI,h k x (List.mem_cons_self ..)]
  exact foldI_skip λi z hz=>h i z (List.mem_cons_of_mem _ hz)
theorem eqb_ne'{a b:Res}(h:a≠b):Res.eqb a b=false:=by
 cases he:Res.eqb a b with
 |false=>rfl
 |true=>exact absurd (eqb_res he) h
def atG(r:Res)(i:Nat)(x:Queue)(s:Int×Queue):Int×Queue:=if Res.eqb x.res r then((i:Int),x) else s
theorem atG_cut{qs A B:List Queue}{y:Option Queue}{r:Res}(hc:Cut (cQ r) qs A y B):foldI (atG r) 0 qs (-1,Queue.mk r [] [])=(if y.isSome then(A.length:Int) else-1,theQ y r):=by
 have hA:∀i x s,x∈A→atG r i x s=s:=λi x s hx=>by
  unfold atG
  rw[eqb_ne' (λe=>by have:=hc.lo x hx;unfold cQ at this;rw[e] at this;rcases cR_cases r r with⟨_,h⟩|⟨_,h⟩|⟨h,_⟩<;>first|omega|(rw[ltR_irr'] at*;simp_all))]
  rfl
 have hB:∀i x s,x∈B→atG r i x s=s:=λi x s hx=>by
  unfold atG
  rw[eqb_ne' (λe=>by have:=cR_pos (hc.hi x hx);rw[e,ltR_irr'] at this;cases this)]
  rfl
 rw[hc.eq,foldI_append,foldI_skip λi x hx=>hA i x _ hx,foldI_append]
 cases y with
 |none=>simp only[Option.toList_none,foldI];exact foldI_skip λi x hx=>hB i x _ hx
 |some q=>
  have e:atG r (0+A.length) q (-1,Queue.mk r [] [])=((A.length:Int),q):=by
   unfold atG
   have hq:q.res=r:=cR_zero (hc.mid q rfl)
   rw[hq,Nat.zero_add]
   simp[Res.eqb]
  simp only[Option.toList_some,foldI,e]
  exact foldI_skip λi x hx=>hB i x _ hx
theorem rask_eq(n:Nat)(hn:1003≤n){qs A B:List Queue}{y:Option Queue}{r:Res}(hl:lockB qs=true)(hi:IdIn qs)(hri:0≤r.id∧r.id<65536)(hz:∀q∈qs,q.holders.length≤900∧q.waiters.length≤900)(hc:Cut (cQ r) qs A y B){t m:Int}(ht:txnB t=true)(hr:resB r=true)(hm:modeB r m=true)(ho:occQ t 0 qs=none):
  ref08_Ask n (Locks.mk qs) t r m=some (if !y.isSome&&decide (500≤qs.length) then(Locks.mk [],0,6) else(Locks.mk (A++(askNew (theQ y r) t m).2::B),(askNew (theQ y r) t m).1,0)):=by
 have hlen:=lock_len hl
 have hsm:SmallL qs:=λq hq=>by have:=hz q hq;omega
 have hpv:=theQ_pv hl hc
 have hres:=theQ_res hc
 have hq0:(theQ y r).holders.length≤900∧(theQ y r).waiters.length≤900:=by
  cases y with
  |none=>exact⟨by simp[theQ],by simp[theQ]⟩
  |some q=>exact hz q (by rw[hc.eq];simp)
 have hw:=rwaitsC_eq n hn (Locks.mk qs) hsm (show qs.length≤1000 by omega) t
 rw[show occQ t 0 (Locks.mk qs).queues=none from ho] at hw
 unfold ref08_Ask
 simp only[rtxn_eq,ht,rres_eq,hr,rmode_eq,hm,Option.bind_some,jn,Bool.not_true,cond_false,hw]
 show ref08_Ask_l1 n n (t,m,-1,qs,(qs.length:Int),((0:Nat):Int),Locks.mk qs,r,Locks.mk [],Queue.mk r [] [],())=_
 unfold ref08_Ask_l1
 have hlay:∀(q1:Queue)(what:Int),ref08_Ask_l4 n n (what,false,qs,(qs.length:Int),0,r,Locks.mk [],q1,[],())=some (Locks.mk (A++q1::B),what,0):=by
  intro q1 what
  show ref08_Ask_l4 n n (what,false,qs,(qs.length:Int),((0:Nat):Int),r,Locks.mk [],q1,[],())=_
  unfold ref08_Ask_l4
  rw[run_loopI qs (λi (s:Bool×List Queue)=>(what,s.1,qs,(qs.length:Int),(i:Int),r,Locks.mk [],q1,s.2,())) (λ_ x s=> .inr (layS (cQ r) q1 x s)) (λs=>some (Locks.mk (layE q1 s),what,0)) (λi s=>s.2.length≤2*i) ?_ ?_ ?_ n 0 (false,[]) (Nat.zero_le _) (by omega) (Nat.le_refl _)]
  ·rw[List.drop_zero,runL_fold (g:=λx s=>layS (cQ r) q1 x s),lay_in hc,List.nil_append]
  ·intro i s x s' hx hI he
   cases he
   have:=layS_len (c:=cQ r) (o:=q1) (x:=x) (s:=s);omega
  ·intro k i s x hx hi' hI
   obtain⟨d,acc⟩:=s
   simp only at hI⊢
   have hxm:=List.mem_of_getElem? hx
   have hxr:resB x.res=true:=by
    have:=lock_q hl x hxm
    unfold qB at this
    simp only[Bool.and_eq_true] at this
    exact this.1.1
   have ha:∀(u:List Queue),u.length≤5000→∀z:Queue,app 64 u [z]=some (u++[z]):=λu hu z=>app_lt (by simp;omega) (by omega)
   have e1:decide (ordR x.res≥ordR r)=decide (cQ r x≥0):=by
    rw[ord_ge hxr hr (hi x hxm) hri]
    exact cR_ge.symm
   have e2:Res.eqb x.res r=decide (cQ r x=0):=by
    by_cases h0:cQ r x=0
    ·rw[decide_eq_true h0,cR_zero h0];simp[Res.eqb]
    ·rw[decide_eq_false h0]
     refine eqb_ne' λe=>h0 ?_
     unfold cQ
     rw[e]
     rcases cR_cases r r with⟨h,_⟩|⟨_,h⟩|⟨h,_⟩
     ·rw[ltR_irr'] at h;cases h
     ·exact h
     ·rw[ltR_irr'] at h;cases h
   simp only[lt_dec hi',cond_true,idx_nat,hx,Option.bind_some,jn,ref08_Ask_j5,ref08_Ask_j6,order_eq n _ hxr (hi x hxm),order_eq n _ hr hri,e1,e2,wrap_succ (show i<4611686018427387904 by omega)]
   unfold layS
   simp only
   cases d with
   |true=>
    by_cases h0:cQ r x=0
    ·simp only[Bool.not_true,cond_false,decide_eq_true h0,Bool.false_and,Bool.false_eq_true,if_false,if_pos h0]
    ·simp only[Bool.not_true,cond_false,decide_eq_false h0,Bool.not_false,cond_true,Bool.false_and,Bool.false_eq_true,if_false,if_neg h0,ha acc (by omega),Option.bind_some]
   |false=>
    simp only[Bool.not_false,cond_true,Bool.true_and]
    by_cases hg:cQ r x≥0
    ·by_cases h0:cQ r x=0
     ·simp only[decide_eq_true hg,decide_eq_true h0,cond_true,ha acc (by omega),Option.bind_some,Bool.not_true,cond_false,if_true,if_pos h0]
     ·simp only[decide_eq_true hg,decide_eq_false h0,cond_true,ha acc (by omega),Option.bind_some,Bool.not_false,if_true,if_neg h0,ha (acc++[q1]) (by simp;omega)]
    ·have h0:¬cQ r x=0:=by omega
     simp only[decide_eq_false hg,decide_eq_false h0,cond_false,Bool.not_false,cond_true,ha acc (by omega),Option.bind_some,Bool.false_eq_true,if_false,if_neg h0]
  ·intro k s hI
   obtain⟨d,acc⟩:=s
   have hI:acc.length≤2*qs.length:=hI
   simp only[ge_dec (Nat.lt_irrefl _),cond_false,jn,ref08_Ask_j7]
   unfold layE
   cases d with
   |true=>rfl
   |false=>
    simp only[Bool.not_false,cond_true,app_lt (show acc.length+[q1].length≤1000000 by simp;omega) (show 64≤1000 by omega),Option.bind_some,Bool.false_eq_true,if_false]
 rw[run_loopI qs (λi (s:Int×Queue)=>(t,m,s.1,qs,(qs.length:Int),(i:Int),Locks.mk qs,r,Locks.mk [],s.2,())) (λi x s=> .inr (atG r i x s)) (λ_=>some (if !y.isSome&&decide (500≤qs.length) then(Locks.mk [],0,6) else(Locks.mk (A++(askNew (theQ y r) t m).2::B),(askNew (theQ y r) t m).1,0))) (λi s=>s=foldI (atG r) 0 (qs.take i) (-1,Queue.mk r [] [])) ?_ ?_ ?_ n 0 (-1,Queue.mk r [] []) (Nat.zero_le _) (by omega) rfl]
 ·rw[List.drop_zero,runL_foldI]
 ·intro i s x s' hx hI he
  cases he
  have hlt:=(List.getElem?_eq_some_iff.1 hx).1
  have htk:qs.take (i+1)=qs.take i++[x]:=by rw[List.take_succ_eq_append_getElem hlt,(List.getElem?_eq_some_iff.1 hx).2]
  have hl2:(qs.take i).length=i:=by rw[List.length_take];omega
  show atG r i x s=_
  rw[htk,foldI_append,hl2,Nat.zero_add,←hI]
  rfl
 ·intro k i s x hx hi' _
  have hxz:=hz x (List.mem_of_getElem? hx)
  have hcp:ref08_copied n x=some x:=by
   unfold ref08_copied
   rw[app_lt (by simp;omega) (by omega),Option.bind_some,app_lt (by simp;omega) (by omega)];rfl
  simp only[lt_dec hi',cond_true,idx_nat,hx,Option.bind_some,jn,ref08_Ask_j2,hcp,wrap_succ (show i<4611686018427387904 by omega)]
  unfold atG
  cases Res.eqb x.res r<;>rfl
 ·intro k s hI
  rw[List.take_length,atG_cut hc] at hI
  subst hI
  have hm2:=(modeB_iff.1 hm)
  have hsup:=rsup_eq n (by omega) (held_of hpv.1 t) hm2.2
  have hh1:=λx=>rholds_eq n hn (theQ y r) hpv.1.srt (by omega) t x
  have hh2:=λw=>rstands_eq n hn (theQ y r) hpv.1.wr (by omega) w
  have hw0:(((theQ y r).waiters.length:Int)==0)=decide ((theQ y r).waiters.length=0):=by rw[ibeq];exact decide_eq_decide.2 (by omega)
  have hneg:decide ((if y.isSome then(A.length:Int) else-1)<0)= !y.isSome:=by
   cases y with
   |none=>rfl
   |some q=>exact decide_eq_false (by simp)
  have hcovN:y.isSome=false→coversB (heldL (theQ y r).holders t) m=false:=λe=>by
   cases y with
   |some q=>cases e
   |none=>exact covers_zero hm2.1
  have hcovY:coversB (heldL (theQ y r).holders t) m=true→qs=A++theQ y r::B:=λe=>by
   cases y with
   |none=>rw[hcovN rfl] at e;cases e
   |some q=>exact hc.eq
  have h500:decide ((qs.length:Int)≥500)=decide (500≤qs.length):=decide_eq_decide.2 (by omega)
  have hj3:∀what q1,ref08_Ask_j3 n (what,Locks.mk qs,r,Locks.mk [],q1,())=some (Locks.mk (A++q1::B),what,0):=λwhat q1=>hlay q1 what
  simp only[ge_dec (Nat.lt_irrefl _),cond_false,jn,rheld_eq n hn (theQ y r) (by omega),Option.bind_some,rcovers_eq,hsup,rgoesL_eq n hn (theQ y r) (by omega),hneg,h500,hh1,hh2,hw0,ibne,hj3]
  unfold askNew
  cases hcv:coversB (heldL (theQ y r).holders t) m with
  |true=>
   have hys:y.isSome=true:=by
    cases hy:y.isSome with
    |true=>rfl
    |false=>rw[hcovN hy] at hcv;cases hcv
   simp only[cond_true,hys,Bool.not_true,Bool.false_and,Bool.false_eq_true,if_false,if_true]
   rw[←hcovY hcv]
  |false=>
   simp only[cond_false,Bool.false_eq_true,if_false]
   cases y.isSome<;>cases decide (500≤qs.length)<;>cases goesL (theQ y r).holders t (supM (heldL (theQ y r).holders t) m)<;>cases decide (heldL (theQ y r).holders t=0)<;>cases decide ((theQ y r).waiters.length=0)<;>rfl
end Go.Proofs.YtchocpffjnodfaaGreat
namespace Go.Proofs.YtchocpffjnodfaaGreat
open Go.Bur
set_option linter.unusedSimpArgs false
set_option linter.unusedVariables false
set_option maxRecDepth 100000
def cutQ(q:Queue):Queue:=Queue.mk q.res (q.holders.take 20) (q.waiters.take 20)
def fewL(qs:List Queue):List Queue:=(qs.take 501).map cutQ
theorem few_len(qs:List Queue):(fewL qs).length≤501:=by
 unfold fewL
 rw[List.length_map,List.length_take];omega
theorem few_ids{qs:List Queue}(h:IdIn qs):IdIn (fewL qs):=λq hq=>by
 obtain⟨p,hp,rfl⟩:=List.mem_map.1 hq
 exact h p (List.mem_of_mem_take hp)
theorem sub20{α:Type}(l:List α):sub l 0 (if 20<(l.length:Int) then 20 else(l.length:Int))=some (l.take 20):=by
 by_cases h:20<(l.length:Int)
 ·rw[if_pos h]
  have:=sub_ok (l:=l) (a:=0) (b:=20) (Nat.zero_le _) (by omega)
  simpa using this
 ·rw[if_neg h]
  have:=sub_ok (l:=l) (a:=0) (b:=l.length) (Nat.zero_le _) (Nat.le_refl _)
  rw[List.take_of_length_le (show l.length≤20 by omega)]
  simpa using this
theorem foldl_appG{α β:Type}{f:α→β}:∀{l:List α} {s:List β},l.foldl (λs x=>s++[f x]) s=s++l.map f
 |[],s=>by simp
 |x::l,s=>by rw[List.foldl_cons,foldl_appG];simp
theorem few_eq(n:Nat)(hn:1003≤n)(x:Locks):law08_few n x=some (Locks.mk (fewL x.queues)):=by
 unfold law08_few
 simp only[jn]
 show law08_few_l2 n (law08_few_j1 n) n (x.queues,(x.queues.length:Int),((0:Nat):Int),Locks.mk [],[],())=_
 unfold law08_few_l2
 have htl:(x.queues.take 501).length=min 501 x.queues.length:=List.length_take
 rw[run_loopI (x.queues.take 501) (λi (s:List Queue)=>(x.queues,(x.queues.length:Int),(i:Int),Locks.mk [],s,())) (λ_ q s=> .inr (s++[cutQ q])) (λs=>some (Locks.mk s)) (λi s=>s.length≤i) ?_ ?_ ?_ n 0 [] (Nat.zero_le _) (by omega) (Nat.le_refl _)]
 ·rw[List.drop_zero,runL_fold (g:=λq s=>s++[cutQ q]),foldl_appG];rfl
 ·intro i s q s' hx hI he
  cases he
  simp;omega
 ·intro r i s q hx hi hI
  have hi1:i<501:=by omega
  have hi2:i<x.queues.length:=by omega
  have hq:x.queues[i]? =some q:=by rw[←hx,List.getElem?_take_of_lt hi1]
  simp only[lt_dec hi2,cond_true,idx_nat,hq,Option.bind_some,decide_eq_false (show ¬(i:Int)>500 by omega),cond_false,sub20]
  have h1:app 16 ([]:List Hold) (q.holders.take 20)=some (q.holders.take 20):=by rw[app_lt (by simp[List.length_take];omega) (by omega),List.nil_append]
  have h2:app 24 ([]:List Wait) (q.waiters.take 20)=some (q.waiters.take 20):=by rw[app_lt (by simp[List.length_take];omega) (by omega),List.nil_append]
  have h3:app 64 s [Queue.mk q.res (q.holders.take 20) (q.waiters.take 20)]=some (s++[cutQ q]):=app_lt (by simp;omega) (by omega)
  simp only[h1,h2,h3,Option.bind_some,wrap_succ (show i<4611686018427387904 by omega)]
 ·intro r s hI
  rw[htl]
  by_cases h:x.queues.length≤501
  ·rw[Nat.min_eq_right h]
   simp only[ge_dec (Nat.lt_irrefl _),cond_false];rfl
  ·rw[Nat.min_eq_left (by omega)]
   simp only[lt_dec (show 501<x.queues.length by omega),cond_true,idx_nat,get_some (show 501<x.queues.length by omega),Option.bind_some]
   rfl
def rW:Res:=Res.mk 0 true 7
def lW3:Locks:=Locks.mk [Queue.mk rW [Hold.mk 1 3,Hold.mk 2 3] [Wait.mk 1 5 3]]
def lW1:Locks:=Locks.mk [Queue.mk rW [Hold.mk 1 3] []]
def lW2:Locks:=Locks.mk [Queue.mk rW [Hold.mk 1 3,Hold.mk 2 3] []]
theorem small0:SmallL (Locks.mk []).queues:=λq hq=>by cases hq
theorem small1{q:Queue}(h:q.holders.length≤1000∧q.waiters.length≤1000):SmallL (Locks.mk [q]).queues:=λp hp=>by
 rw[List.mem_singleton.1 hp];exact h
theorem wakesL(n:Nat)(hn:3003≤n):law08_wakes n=some true:=by
 obtain⟨m,rfl⟩:∃m,n=m+3003:=⟨n-3003,by omega⟩
 have h1:locks_Ask (m+3003) (Locks.mk []) 1 rW 3=some (2,0,lW1.queues):=ask_step (r':=rW) (m':=3) (t':=1) (by omega) small0 (by decide) (by kernel_rfl) (by kernel_rfl) (by kernel_rfl)
 have h2:locks_Ask (m+3003) lW1 2 rW 3=some (2,0,lW2.queues):=ask_step (r':=rW) (m':=3) (t':=2) (by omega) (small1 ⟨by decide,by decide⟩) (by decide) (by kernel_rfl) (by kernel_rfl) (by kernel_rfl)
 have h3:locks_Ask (m+3003) lW2 1 rW 6=some (3,0,lW3.queues):=ask_step (r':=rW) (m':=6) (t':=1) (by omega) (small1 ⟨by decide,by decide⟩) (by decide) (by kernel_rfl) (by kernel_rfl) (by kernel_rfl)
 have hsm:SmallL lW3.queues:=small1 ⟨by decide,by decide⟩
 have hl3:lockB lW3.queues=true:=by kernel_rfl
 have h4:locks_Blockers (m+3003) lW3 1=some [2]:=by kernel_rfl
 have h5:locks_Release (m+3003) lW3 2=some ([1],0,[Queue.mk rW [Hold.mk 1 5] []]):=release_step (t':=2) (by omega) hsm (by decide) hl3 (by kernel_rfl) (by kernel_rfl)
 unfold law08_wakes
 show(locks_Ask (m+3003) (Locks.mk []) 1 rW 3).bind _=_
 rw[h1,Option.bind_some]
 show(locks_Ask (m+3003) lW1 2 rW 3).bind _=_
 rw[h2,Option.bind_some]
 show(locks_Ask (m+3003) lW2 1 rW 6).bind _=_
 rw[h3,Option.bind_some]
 show(locks_Blockers (m+3003) lW3 1).bind _=_
 rw[h4,Option.bind_some]
 show(locks_Release (m+3003) lW3 2).bind _=_
 rw[h5,Option.bind_some]
 clear h1 h2 h3 h4 h5
 kernel_rfl
end Go.Proofs.YtchocpffjnodfaaGreat
namespace Go.Proofs.YtchocpffjnodfaaGreat
open Go.Bur
set_option linter.unusedSimpArgs false
set_option linter.unusedVariables false
set_option maxRecDepth 100000
def Sz(qs:List Queue):Prop:=qs.length≤501∧∀q∈qs,q.holders.length+q.waiters.length≤100
theorem Sz.small{qs:List Queue}(h:Sz qs):SmallL qs:=λq hq=>by have:=h.2 q hq;omega
end Go.Proofs.YtchocpffjnodfaaGreat
namespace Go.Proofs.YtchocpffjnodfaaGreat
open Go.Bur
set_option linter.unusedSimpArgs false
set_option linter.unusedVariables false
set_option maxRecDepth 100000
theorem with68(n:Nat)(hn:1003≤n)(o:Locks)(hs:SmallL o.queues)(hq:o.queues.length≤1000)(t a:Int)(b:List Int):
  locks_with_f43 n o t a b=if lockB o.queues then(if txnB t then(locks_Leave_1 n o.queues a b).bind λy=>cond (y.1 !=0) (some (y.1,y.2.1,y.2.2.1,[])) (some (0,y.2.1,y.2.2.1,y.2.2.2)) else some (2,a,b,[])) else some (180,a,b,[]):=by
 unfold locks_with_f43
 rw[check_eq n hn o hs,Option.bind_some]
 cases hl:lockB o.queues with
 |false=>rfl
 |true=>
  simp only[if_true,bne_self_eq_false,cond_false,txn_eq,Option.bind_some,cloneQ n _ hq]
  cases ht:txnB t with
  |false=>rfl
  |true=>
   simp only[Bool.not_true,cond_false,if_true]
   show locks_with_f43_l1 n n ((o.queues.length:Int),((0:Nat):Int),a,b,Locks.mk [],0,o.queues,())=_
   unfold locks_with_f43_l1
   rw[run_loop o.queues (λi (_:Unit)=>((o.queues.length:Int),(i:Int),a,b,Locks.mk [],i,o.queues,())) (λ_ _ s=> .inr s) (λ_=>(locks_Leave_1 n o.queues a b).bind λy=>cond (y.1 !=0) (some (y.1,y.2.1,y.2.2.1,[])) (some (0,y.2.1,y.2.2.1,y.2.2.2))) ?_ ?_ n 0 () (Nat.zero_le _) (by omega)]
   ·rw[List.drop_zero,runL_skip]
   ·intro r2 i s q hx hi
    have hqq:=hs q (List.mem_of_getElem? hx)
    simp only[lt_dec hi,cond_true,idxM_at hx,Option.bind_some,sameI_at,cloneH n _ hqq.1,cloneW n _ hqq.2,set_mk hx,wrap_succ (show i<4611686018427387904 by omega)]
   ·intro r2 s
    simp only[ge_dec (Nat.lt_irrefl _),cond_false,sameN_at,Option.bind_some]
def SzK(k:Nat)(qs:List Queue):Prop:=qs.length≤501∧∀q∈qs,q.holders.length+q.waiters.length≤k
theorem SzK.sz{k:Nat}{qs:List Queue}(h:SzK k qs)(hk:k≤100):Sz qs:=⟨h.1,λq hq=>by have:=h.2 q hq;omega⟩
theorem left_szK{k:Nat}{qs:List Queue}(hl:lockB qs=true)(h:SzK k qs)(n:Int)(all:Bool):SzK k (leftL n all qs):=by
 constructor
 ·unfold leftL
  have:=List.length_filter_le (λq:Queue=> !decide (q.holders.length=0)) (qs.map (leftQ n all))
  rw[List.length_map] at this
  have:=h.1;omega
 ·intro q hq
  obtain⟨hq,_⟩:=List.mem_filter.1 hq
  obtain⟨p,hp,rfl⟩:=List.mem_map.1 hq
  have hpv:=(qB_iff.1 (lock_q hl p hp)).2.2.1.del n all
  have h1:=(pump_len (ws:=p.waiters.filter λw=> !decide (w.txn=n)) hpv.srt).1
  have h2:=List.length_filter_le (λw:Wait=> !decide (w.txn=n)) p.waiters
  have h3:(if all then p.holders.filter λx=> !decide (x.txn=n) else p.holders).length≤p.holders.length:=by
   cases all with
   |true=>exact List.length_filter_le _ _
   |false=>exact Nat.le_refl _
  have:=h.2 p hp
  show(pullQ n all p).1.length+(pullQ n all p).2.1.length≤k
  unfold pullQ;omega
theorem ask_szQ{q:Queue}{t m:Int}(h:SrtH q.holders):(askNew q t m).2.holders.length+(askNew q t m).2.waiters.length≤q.holders.length+q.waiters.length+1:=by
 unfold askNew
 split
 ·show q.holders.length+q.waiters.length≤_
  omega
 ·split
  ·have:=insH_len (t:=t) (m:=supM (heldL q.holders t) m) h
   show(insH q.holders t (supM (heldL q.holders t) m)).length+q.waiters.length≤_
   omega
  ·show q.holders.length+(standW q.waiters _).length≤_
   rw[perm_stand.length_eq,List.length_cons];omega
theorem ask_szK{k:Nat}{qs A B:List Queue}{y:Option Queue}{r:Res}(hl:lockB qs=true)(hc:Cut (cQ r) qs A y B){t m:Int}(h:SzK k qs)(hL:lockB (A++(askNew (theQ y r) t m).2::B)=true):SzK (k+1) (A++(askNew (theQ y r) t m).2::B):=by
 refine⟨by have:=lock_len hL;omega,λq hq=> ?_⟩
 rcases List.mem_append.1 hq with hq|hq
 ·have:=h.2 q (by rw[hc.eq];simp[hq]);omega
 ·rcases List.mem_cons.1 hq with rfl|hq
  ·have h1:=ask_szQ (t:=t) (m:=m) (theQ_pv hl hc).1.srt
   have h2:(theQ y r).holders.length+(theQ y r).waiters.length≤k:=by
    cases y with
    |none=>simp[theQ]
    |some p=>exact h.2 p (by rw[hc.eq];simp)
   omega
  ·have:=h.2 q (by rw[hc.eq];simp[hq]);omega
def zOp(o:law08_Op):Int:=(IntKind.wrap .u64 o.kind).tmod 7
theorem zOp_eq(o:law08_Op):remP (IntKind.wrap .u64 o.kind) 7=some (zOp o):=by
 unfold remP zOp
 rfl
end Go.Proofs.YtchocpffjnodfaaGreat
namespace Go.Proofs.YtchocpffjnodfaaGreat
open Go.Bur
set_option linter.unusedSimpArgs false
set_option linter.unusedVariables false
set_option maxRecDepth 100000
theorem copied_eq(n:Nat)(q:Queue)(h:q.holders.length≤1000∧q.waiters.length≤1000):ref08_copied n q=some q:=by
 unfold ref08_copied
 rw[app_lt (by simp;omega) (by omega),Option.bind_some,app_lt (by simp;omega) (by omega)]
 rfl
theorem copy_eq(n:Nat)(o:Locks)(hn:1003≤n)(hs:SmallL o.queues)(hq:o.queues.length≤1000):ref08_Copy n o=some o:=by
 unfold ref08_Copy
 show ref08_Copy_l1 n n (o.queues,(o.queues.length:Int),((0:Nat):Int),Locks.mk [],o.queues.take 0,())=_
 unfold ref08_Copy_l1
 refine loop_to (some o) o.queues.length (λi (_:Unit)=>(o.queues,(o.queues.length:Int),(i:Int),Locks.mk [],o.queues.take i,())) (λ_ _=>True) ?_ ?_ n 0 () (Nat.zero_le _) (by omega) trivial
 ·intro r i _ hi _
  right
  refine⟨(), ?_,trivial⟩
  have h1:app 64 (o.queues.take i) [o.queues[i]]=some (o.queues.take (i+1)):=by
   rw[app_lt (by simp;omega) (by omega),List.take_succ_eq_append_getElem hi]
  simp only[lt_dec hi,cond_true,idx_nat,get_some hi,Option.bind_some,copied_eq n _ (hs _ (List.getElem_mem hi)),h1,wrap_succ (show i<4611686018427387904 by omega)]
 ·intro r _ _
  simp only[ge_dec (Nat.lt_irrefl _),cond_false,List.take_length]
theorem rpump_eq(n:Nat)(hn:1003≤n)(q:Queue)(h:SrtH q.holders)(hl:q.holders.length+q.waiters.length≤800):ref08_pumped n q=some (Queue.mk q.res (pumpL q.holders q.waiters).1 (pumpL q.holders q.waiters).2.1,(pumpL q.holders q.waiters).2.2):=by
 unfold ref08_pumped
 have key:∀(ws:List Wait)(hs:List Hold)(out:List Int)(k:Nat),SrtH hs→hs.length+ws.length≤800→out.length+ws.length≤1000→ws.length<k→
   ref08_pumped_l1 n k (Queue.mk q.res hs ws,Queue.mk (Res.mk 0 false 0) [] [],out,())=some (Queue.mk q.res (pumpL hs ws).1 (pumpL hs ws).2.1,out++(pumpL hs ws).2.2):=by
  intro ws
  induction ws with
  |nil=>
   intro hs out k h hl ho hk
   obtain⟨k,rfl⟩:∃k',k=k'+1:=⟨k-1,by omega⟩
   unfold ref08_pumped_l1
   rw[loopF]
   simp only[List.length_nil,pumpL,List.append_nil]
   rfl
  |cons w ws ih=>
   intro hs out k h hl ho hk
   obtain⟨k,rfl⟩:∃k',k=k'+1:=⟨k-1,by omega⟩
   simp only[List.length_cons] at hl ho hk
   obtain⟨r,hr⟩:∃r,r=ref08_pumped_l1 n k:=⟨_,rfl⟩
   have hi:=insH_len (t:=w.txn) (m:=w.mode) h
   have ih:=ih (insH hs w.txn w.mode) (out++[w.txn]) k (srt_insH h) (by omega) (by simp;omega) (by omega)
   rw[←hr] at ih
   unfold ref08_pumped_l1 at hr⊢
   rw[loopF,←hr]
   clear hr
   have h0:idx (w::ws) 0=some w:=by rw[show(0:Int)=((0:Nat):Int) from rfl,idx_nat];rfl
   have hsub:sub (w::ws) 1 ((w::ws).length:Int)=some ws:=by
    have:=sub_ok (l:=w::ws) (a:=1) (b:=(w::ws).length) (by simp) (Nat.le_refl _)
    simpa using this
   have hg:=rgoesL_eq n hn (Queue.mk q.res hs (w::ws)) (show hs.length≤1000 by omega) w.txn w.mode
   have hh:=rholds_eq n hn (Queue.mk q.res hs (w::ws)) h (show hs.length≤1000 by omega) w.txn w.mode
   simp only[decide_eq_true (show((w::ws).length:Int)>0 by simp only[List.length_cons];omega),cond_true,h0,Option.bind_some,jn,hg]
   unfold pumpL
   cases hgg:goesL hs w.txn w.mode with
   |false=>
    simp only[cond_false,Bool.false_eq_true,if_false,List.append_nil]
   |true=>
    simp only[cond_true,hh,Option.bind_some,hsub,app_lt (show out.length+[w.txn].length≤1000000 by simp;omega) (show 8≤1000 by omega),ih,if_true]
    simp
 exact key q.waiters q.holders [] n h hl (by simp;omega) (by omega)
theorem runL_filter'{α R:Type}{p:α→Bool}{fin:List α→Option R}:∀(l:List α)(i:Nat)(s:List α),runL (λ_ x s=> .inr (if p x then s++[x] else s)) fin l i s=fin (s++l.filter p)
 |[],_,s=>by simp[runL]
 |x::t,i,s=>by
  simp only[runL]
  rw[runL_filter' t]
  cases h:p x<;>simp[h]
section
variable (n : Nat) (hn : 1003 ≤ n) (r1 : Int × Bool × (List Queue) × Int × Int × Locks × (List Int) × (List Queue) × Unit → Option (Locks × (List Int)))
 (t : Int) (all : Bool) (qs : List Queue) (L : Int) (i : Nat) (hi : i ≤ 1000) (o : Locks) (gr : List Int) (hgr : gr.length ≤ 500000) (out : List Queue) (hout : out.length ≤ 1000)
include hn hi hgr hout
theorem rwo4(tb:Int)(kb:Bool)(ib:Int)(ws:List Wait)(hw:ws.length≤300)(hs:List Hold)(hh:SrtH hs)(hhl:hs.length≤300):
  ref08_without_l4 n r1 n (t,all,qs,L,(i:Int),ws,(ws.length:Int),0,o,gr,tb,kb,ib,out,hs,[],())=
   r1 (t,all,qs,L,((i+1:Nat):Int),o,gr++(pumpL hs (ws.filter λw=> !decide (w.txn=t))).2.2,if(pumpL hs (ws.filter λw=> !decide (w.txn=t))).1.length=0 then out else out++[Queue.mk (Res.mk tb kb ib) (pumpL hs (ws.filter λw=> !decide (w.txn=t))).1 (pumpL hs (ws.filter λw=> !decide (w.txn=t))).2.1],()):=by
 have hf:=List.length_filter_le (λw:Wait=> !decide (w.txn=t)) ws
 show ref08_without_l4 n r1 n (t,all,qs,L,(i:Int),ws,(ws.length:Int),((0:Nat):Int),o,gr,tb,kb,ib,out,hs,[],())=_
 unfold ref08_without_l4
 rw[run_loopI ws (λk (s:List Wait)=>(t,all,qs,L,(i:Int),ws,(ws.length:Int),(k:Int),o,gr,tb,kb,ib,out,hs,s,())) (λ_ w s=> .inr (if !decide (w.txn=t) then s++[w] else s))
  (λs=>r1 (t,all,qs,L,((i+1:Nat):Int),o,gr++(pumpL hs s).2.2,if(pumpL hs s).1.length=0 then out else out++[Queue.mk (Res.mk tb kb ib) (pumpL hs s).1 (pumpL hs s).2.1],())) (λk s=>s.length≤k) ?_ ?_ ?_ n 0 [] (Nat.zero_le _) (by omega) (Nat.le_refl _)]
 ·rw[List.drop_zero,runL_filter',List.nil_append]
 ·intro k s x s' hx hI he
  cases he
  split
  ·simp;omega
  ·omega
 ·intro r k s x hx hk hI
  simp only[lt_dec hk,cond_true,idx_nat,hx,Option.bind_some,jn,ref08_without_j5,ibne,wrap_succ (show k<4611686018427387904 by omega)]
  cases hd:decide (x.txn=t) with
  |true=>simp only[Bool.not_true,cond_false,Bool.false_eq_true,if_false]
  |false=>simp only[Bool.not_false,cond_true,if_true,app_lt (show s.length+[x].length≤1000000 by simp;omega) (show 24≤1000 by omega),Option.bind_some]
 ·intro r s hI
  have hI:s.length≤ws.length:=hI
  have hp:=rpump_eq n hn (Queue.mk (Res.mk tb kb ib) hs s) hh (show hs.length+s.length≤800 by omega)
  have hpl:=(pump_len (ws:=s) hh)
  simp only[ge_dec (Nat.lt_irrefl _),cond_false,hp,Option.bind_some,jn,ref08_without_j6,wrap_succ (show i<4611686018427387904 by omega)]
  rw[app_lt (show gr.length+(pumpL hs s).2.2.length≤1000000 by omega) (show 8≤1000 by omega),Option.bind_some]
  by_cases h0:(pumpL hs s).1.length=0
  ·rw[decide_eq_false (show ¬((pumpL hs s).1.length:Int)>0 by omega),if_pos h0]
   rfl
  ·rw[decide_eq_true (show((pumpL hs s).1.length:Int)>0 by omega),if_neg h0]
   simp only[cond_true,app_lt (show out.length+[Queue.mk (Res.mk tb kb ib) (pumpL hs s).1 (pumpL hs s).2.1].length≤1000000 by simp;omega) (show 64≤1000 by omega),Option.bind_some]
theorem rwo2(q:Queue)(hh:SrtH q.holders)(hhl:q.holders.length≤300)(hw:q.waiters.length≤300):
  ref08_without_l2 n r1 n (t,all,qs,L,(i:Int),q.holders,(q.holders.length:Int),0,o,gr,q,q.res.table,q.res.isKey,q.res.id,out,[],[],())=
   r1 (t,all,qs,L,((i+1:Nat):Int),o,gr++(pullQ t all q).2.2,if(leftQ t all q).holders.length=0 then out else out++[leftQ t all q],()):=by
 show ref08_without_l2 n r1 n (t,all,qs,L,(i:Int),q.holders,(q.holders.length:Int),((0:Nat):Int),o,gr,q,q.res.table,q.res.isKey,q.res.id,out,[],[],())=_
 have hfil:(if all then q.holders.filter λh=> !decide (h.txn=t) else q.holders)=q.holders.filter λh=> !decide (h.txn=t)|| !all:=by
  cases all with
  |true=>simp
  |false=>simp;exact(List.filter_eq_self.2 λ_ _=>rfl).symm
 have hfl:=List.length_filter_le (λh:Hold=> !decide (h.txn=t)|| !all) q.holders
 unfold ref08_without_l2
 rw[run_loopI q.holders (λk (s:List Hold)=>(t,all,qs,L,(i:Int),q.holders,(q.holders.length:Int),(k:Int),o,gr,q,q.res.table,q.res.isKey,q.res.id,out,s,[],())) (λ_ h s=> .inr (if !decide (h.txn=t)|| !all then s++[h] else s))
  (λs=>ref08_without_l4 n r1 n (t,all,qs,L,(i:Int),q.waiters,(q.waiters.length:Int),0,o,gr,q.res.table,q.res.isKey,q.res.id,out,s,[],())) (λk s=>s.length≤k) ?_ ?_ ?_ n 0 [] (Nat.zero_le _) (by omega) (Nat.le_refl _)]
 ·rw[List.drop_zero,runL_filter',List.nil_append]
  rw[rwo4 n hn r1 t all qs L i hi o gr hgr out hout q.res.table q.res.isKey q.res.id q.waiters hw _ (hh.filter _) (by omega)]
  unfold leftQ pullQ
  rw[hfil]
 ·intro k s x s' hx hI he
  cases he
  split
  ·simp;omega
  ·omega
 ·intro r k s x hx hk hI
  have ha:app 16 s [x]=some (s++[x]):=app_lt (by simp;omega) (by omega)
  simp only[lt_dec hk,cond_true,idx_nat,hx,Option.bind_some,jn,ref08_without_j3,ibne,wrap_succ (show k<4611686018427387904 by omega)]
  cases hd:decide (x.txn=t) with
  |true=>
   cases all with
   |true=>simp only[Bool.not_true,cond_false,Bool.or_self,Bool.false_eq_true,if_false]
   |false=>simp only[Bool.not_true,Bool.not_false,cond_false,cond_true,Bool.false_or,if_true,ha,Option.bind_some]
  |false=>simp only[Bool.not_false,cond_true,Bool.true_or,if_true,ha,Option.bind_some]
 ·intro r s hI
  simp only[ge_dec (Nat.lt_irrefl _),cond_false]
end
theorem left_take{t:Int}{all:Bool}{qs:List Queue}{i:Nat}(hi:i<qs.length):leftL t all (qs.take (i+1))=if(leftQ t all qs[i]).holders.length=0 then leftL t all (qs.take i) else leftL t all (qs.take i)++[leftQ t all qs[i]]:=by
 unfold leftL
 rw[List.take_succ_eq_append_getElem hi,List.map_append,List.filter_append]
 split
 ·rename_i h;simp[List.eq_nil_of_length_eq_zero h]
 ·rename_i h
  have h':(leftQ t all qs[i]).holders≠[]:=λe=>h (by rw[e];rfl)
  simp[h']
theorem rwithout_eq(n:Nat)(hn:1003≤n)(t:Int)(all:Bool)(qs:List Queue)(hq:qs.length≤1000)(hs:∀q∈qs,SrtH q.holders∧q.holders.length≤300∧q.waiters.length≤300):ref08_without n (Locks.mk qs) t all=some (Locks.mk (leftL t all qs),grantL t all qs):=by
 unfold ref08_without
 have hgl:∀i,(grantL t all (qs.take i)).length≤300*i:=λi=>by
  have:=grant_len (t:=t) (all:=all) (qs:=qs.take i) λq hq=>⟨(hs q (List.mem_of_mem_take hq)).1,(hs q (List.mem_of_mem_take hq)).2.2⟩
  rw[List.length_take] at this
  have:min i qs.length≤i:=Nat.min_le_left _ _
  omega
 have hll:∀i,(leftL t all (qs.take i)).length≤i:=λi=>by
  unfold leftL
  have:=List.length_filter_le (λq:Queue=> !decide (q.holders.length=0)) ((qs.take i).map (leftQ t all))
  rw[List.length_map,List.length_take] at this
  omega
 show ref08_without_l1 n n (t,all,qs,(qs.length:Int),((0:Nat):Int),Locks.mk [],grantL t all (qs.take 0),leftL t all (qs.take 0),())=_
 unfold ref08_without_l1
 refine loop_to (some (Locks.mk (leftL t all qs),grantL t all qs)) qs.length (λi (_:Unit)=>(t,all,qs,(qs.length:Int),(i:Int),Locks.mk [],grantL t all (qs.take i),leftL t all (qs.take i),())) (λ_ _=>True) ?_ ?_ n 0 () (Nat.zero_le _) (by omega) trivial
 ·intro r i _ hi _
  right
  refine⟨(), ?_,trivial⟩
  have hqq:=hs qs[i] (List.getElem_mem hi)
  have h1:=hgl i
  have h2:=hll i
  simp only[lt_dec hi,cond_true,idx_nat,get_some hi,Option.bind_some]
  rw[rwo2 n hn r t all qs _ i (by omega) (Locks.mk []) _ (by omega) _ (by omega) qs[i] hqq.1 hqq.2.1 hqq.2.2]
  have htk:grantL t all (qs.take (i+1))=grantL t all (qs.take i)++(pullQ t all qs[i]).2.2:=by
   unfold grantL
   rw[List.take_succ_eq_append_getElem hi,List.flatMap_append]
   simp only[List.flatMap_cons,List.flatMap_nil,List.append_nil]
  rw[htk,left_take hi]
 ·intro r _ _
  simp only[ge_dec (Nat.lt_irrefl _),cond_false,List.take_length]
end Go.Proofs.YtchocpffjnodfaaGreat
namespace Go.Proofs.YtchocpffjnodfaaGreat
open Go.Bur
set_option linter.unusedSimpArgs false
set_option linter.unusedVariables false
set_option maxRecDepth 100000
theorem askNew_res{q:Queue}{t m:Int}:(askNew q t m).2.res=q.res:=by
 unfold askNew
 split
 ·rfl
 ·split<;>rfl
theorem left_ids{qs:List Queue}(h:IdIn qs)(t:Int)(all:Bool):IdIn (leftL t all qs):=λq hq=>by
 obtain⟨hq,_⟩:=List.mem_filter.1 hq
 obtain⟨p,hp,rfl⟩:=List.mem_map.1 hq
 exact h p hp
theorem ask_ids{qs A B:List Queue}{y:Option Queue}{r:Res}(hc:Cut (cQ r) qs A y B)(h:IdIn qs)(hr:0≤r.id∧r.id<65536)(t m:Int):IdIn (A++(askNew (theQ y r) t m).2::B):=λq hq=>by
 rcases List.mem_append.1 hq with hq|hq
 ·exact h q (by rw[hc.eq];simp[hq])
 ·rcases List.mem_cons.1 hq with rfl|hq
  ·rw[askNew_res,theQ_res hc];exact hr
  ·exact h q (by rw[hc.eq];simp[hq])
def GoOn(qs ps:List Queue):Prop:=IdIn ps∧∀k,SzK k qs→SzK (k+1) ps
theorem go_nil(qs:List Queue):GoOn qs []:=⟨λq hq=>(by cases hq),λk _=>⟨by simp,λq hq=>(by cases hq)⟩⟩
theorem szK_up{k:Nat}{ps:List Queue}(h:SzK k ps):SzK (k+1) ps:=⟨h.1,λq hq=>by have:=h.2 q hq;omega⟩
theorem rask_bad(n:Nat)(hn:1003≤n)(o:Locks)(hs:SmallL o.queues)(hq:o.queues.length≤1000)(t m:Int)(r:Res)(h:(txnB t&&(resB r&&modeB r m))=false):ref08_Ask n o t r m=some (Locks.mk [],0,2):=by
 unfold ref08_Ask
 simp only[rtxn_eq,rres_eq,rmode_eq,Option.bind_some,jn]
 cases ht:txnB t with
 |false=>rfl
 |true=>
  cases hr:resB r with
  |false=>rfl
  |true=>
   cases hm:modeB r m with
   |false=>rfl
   |true=>rw[ht,hr,hm] at h;cases h
theorem rask_busy(n:Nat)(hn:1003≤n)(o:Locks)(hs:SmallL o.queues)(hq:o.queues.length≤1000)(t m:Int)(r:Res)(h:(txnB t&&(resB r&&modeB r m))=true)(ho:(occQ t 0 o.queues).isSome=true):ref08_Ask n o t r m=some (Locks.mk [],0,181):=by
 simp only[Bool.and_eq_true] at h
 obtain⟨ht,hr,hm⟩:=h
 obtain⟨z,hz⟩:=Option.isSome_iff_exists.1 ho
 have hw:=rwaitsC_eq n hn o hs hq t
 rw[hz] at hw
 unfold ref08_Ask
 simp only[rtxn_eq,rres_eq,rmode_eq,Option.bind_some,jn,ht,hr,hm,Bool.not_true,cond_false,hw,cond_true]
theorem op_eq(n:Nat)(hn:1003≤n)(o:law08_Op)(hri:0≤o.res.id∧o.res.id<65536){qs:List Queue}(hz:SzK 100 qs)(hi:IdIn qs):
  ∃w g e ps,law08_Op_run n o (Locks.mk qs)=some (w,g,e,ps)∧law08_Op_wants n o (Locks.mk qs)=some (law08_told.mk (Locks.mk ps) w g e)∧g.length≤200000∧GoOn qs ps:=by
 have hs:=(hz.sz (Nat.le_refl _)).small
 have hq:(Locks.mk qs).queues.length≤1000:=by have:=hz.1;show qs.length≤1000;omega
 have hfew:∀(hl:lockB qs=true),∀q∈qs,SrtH q.holders∧q.holders.length≤300∧q.waiters.length≤300:=λhl q hqm=>⟨(qB_iff.1 (lock_q hl q hqm)).2.2.1.srt,by have:=hz.2 q hqm;omega,by have:=hz.2 q hqm;omega⟩
 have hwo:∀(hl:lockB qs=true) all,locks_without n o.txn all qs=some (leftL o.txn all qs,grantL o.txn all qs):=λhl all=>without_eq n hn o.txn all qs hq (hfew hl)
 have hrwo:∀(hl:lockB qs=true) all,ref08_without n (Locks.mk qs) o.txn all=some (Locks.mk (leftL o.txn all qs),grantL o.txn all qs):=λhl all=>rwithout_eq n hn o.txn all qs hq (hfew hl)
 have hgl:∀(hl:lockB qs=true) all,(grantL o.txn all qs).length≤200000:=λhl all=>by
  have h1:=grant_len (t:=o.txn) (all:=all) (qs:=qs) λq hqm=>⟨(hfew hl q hqm).1,(hfew hl q hqm).2.2⟩
  have h2:=hz.1
  have h3:300*qs.length≤300*501:=Nat.mul_le_mul_left _ h2
  omega
 have hgo:∀(hl:lockB qs=true) all,GoOn qs (leftL o.txn all qs):=λhl all=>⟨left_ids hi _ _,λk hk=>szK_up (left_szK hl hk _ _)⟩
 unfold law08_Op_run law08_Op_wants
 simp only[zOp_eq,Option.bind_some,jn,ibeq,law08_Op_run_j1,law08_Op_run_j2,law08_Op_wants_j1,law08_Op_wants_j2,rright_eq n hn (Locks.mk qs) hs hi]
 by_cases h5:zOp o=5
 ·rw[decide_eq_true h5]
  simp only[cond_true,locks_Release,with66 n hn (Locks.mk qs) hs hq,ref08_Release,rtxn_eq]
  cases hl:lockB qs with
  |false=>exact⟨0,[],180,[],rfl,rfl,by simp,go_nil qs⟩
  |true=>
   cases ht:txnB o.txn with
   |false=>exact⟨0,[],2,[],rfl,rfl,by simp,go_nil qs⟩
   |true=>
    simp only[if_true,locks_Release_1,hwo hl,hrwo hl,Option.bind_some,Bool.not_true,cond_false]
    exact⟨0,_,0,_,rfl,rfl,hgl hl _,hgo hl _⟩
 ·rw[decide_eq_false h5]
  by_cases h6:zOp o=6
  ·rw[decide_eq_true h6]
   simp only[cond_false,cond_true,locks_Leave,with68 n hn (Locks.mk qs) hs hq,ref08_Leave,rtxn_eq]
   cases hl:lockB qs with
   |false=>exact⟨0,[],180,[],rfl,rfl,by simp,go_nil qs⟩
   |true=>
    cases ht:txnB o.txn with
    |false=>exact⟨0,[],2,[],rfl,rfl,by simp,go_nil qs⟩
    |true=>
     simp only[if_true,locks_Leave_1,waits_eq n hn (Locks.mk qs) hs hq,rwaitsC_eq n hn (Locks.mk qs) hs hq,Option.bind_some,Bool.not_true,cond_false]
     cases ho:occQ o.txn 0 qs with
     |none=>exact⟨0,[],4,[],rfl,rfl,by simp,go_nil qs⟩
     |some z=>
      simp only[Bool.not_true,cond_false,hwo hl,hrwo hl,Option.bind_some]
      exact⟨0,_,0,_,rfl,rfl,hgl hl _,hgo hl _⟩
  ·rw[decide_eq_false h6]
   simp only[cond_false,locks_Ask,with56 n hn (Locks.mk qs) hs hq]
   cases hl:lockB qs with
   |false=>exact⟨0,[],180,[],rfl,rfl,by simp,go_nil qs⟩
   |true=>
    simp only[Bool.not_true,cond_false]
    cases ht:txnB o.txn with
    |false=>
     rw[rask_bad n hn (Locks.mk qs) hs hq o.txn o.mode o.res (by rw[ht];rfl)]
     exact⟨0,[],2,[],rfl,rfl,by simp,go_nil qs⟩
    |true=>
     obtain⟨A,y,B,hc⟩:=cutQ' o.res (lock_srt hl)
     have hz9:∀q∈qs,q.holders.length≤900∧q.waiters.length≤900:=λq hqm=>by have:=hz.2 q hqm;omega
     simp only[if_true,ask1_eq n hn hl hz9 hc o.mode o.txn 0,Option.bind_some]
     cases hrm:resB o.res&&modeB o.res o.mode with
     |false=>
      rw[rask_bad n hn (Locks.mk qs) hs hq o.txn o.mode o.res (by rw[ht,hrm];rfl)]
      exact⟨0,[],2,[],rfl,rfl,by simp,go_nil qs⟩
     |true=>
      simp only[if_true]
      cases ho:(occQ o.txn 0 qs).isSome with
      |true=>
       rw[rask_busy n hn (Locks.mk qs) hs hq o.txn o.mode o.res (by rw[ht,hrm];rfl) ho]
       exact⟨0,[],181,[],rfl,rfl,by simp,go_nil qs⟩
      |false=>
       have hon:occQ o.txn 0 qs=none:=by simpa using ho
       have hrm':=hrm
       rw[Bool.and_eq_true] at hrm'
       rw[rask_eq n hn hl hi hri hz9 hc ht hrm'.1 hrm'.2 hon]
       cases hf: !y.isSome&&decide (500≤qs.length) with
       |true=>exact⟨0,[],6,[],rfl,rfl,by simp,go_nil qs⟩
       |false=>
        have hy:y.isSome=true∨qs.length<500:=by
         rw[Bool.and_eq_false_iff] at hf
         rcases hf with hf|hf
         ·exact .inl (by simpa using hf)
         ·exact .inr (by simpa using hf)
        have hok:=ask_lock hl hc ht hrm'.1 hrm'.2 hon hy
        exact⟨_,[],0,_,rfl,rfl,by simp,ask_ids hc hi hri _ _,λk hk=>ask_szK hl hc hk hok⟩
end Go.Proofs.YtchocpffjnodfaaGreat
