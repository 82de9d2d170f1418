import Derived.Test.YtchocpffjnodfaaGreatLckB
namespace Go.Proofs.YtchocpffjnodfaaGreat
open Go.Bur
set_option linter.unusedSimpArgs false
set_option linter.unusedVariables false
set_option maxRecDepth 100000
theorem sameInts_self(n:Nat)(a:List Int)(ha:a.length<n)(hb:a.length≤1000000):ref08_SameInts n a a=some true:=by
 unfold ref08_SameInts
 rw[condF' (by simp)]
 show ref08_SameInts_l1 n n (a,a,(a.length:Int),((0:Nat):Int),())=_
 unfold ref08_SameInts_l1
 refine loop_to (some true) a.length (λi (_:Unit)=>(a,a,(a.length:Int),(i:Int),())) (λ_ _=>True) ?_ ?_ n 0 () (Nat.zero_le _) (by omega) trivial
 ·intro r i _ hi _
  right
  refine⟨(), ?_,trivial⟩
  simp only[lt_dec hi,cond_true,idx_nat,get_some hi,Option.bind_some,bne_self_eq_false,cond_false,wrap_succ (show i<4611686018427387904 by omega)]
 ·intro r _ _
  simp only[ge_dec (Nat.lt_irrefl _),cond_false]
section
variable (n : Nat) (hn : 1003 ≤ n) (r5 : (List law08_Op) × Int × Int × Int × Int × Locks × Locks × Int × (List Int) × Int × Locks × (List Queue) × Unit → Option Bool)
 (os : List law08_Op) (L i len : Int) (l was nx : Locks) (w e : Int) (g : List Int) (ps : List Queue)
include hn
theorem scr7(k:Nat)(hk:k≤1000){q:Queue}(hp:ps[k]? =some q)(hw:q.waiters.length≤1000):
  law08_LocksDoes_l7 n r5 n ((k:Int),os,L,i,len,(k:Int),(q.waiters.length:Int),0,l,was,w,g,e,nx,ps,())=r5 (os,L,i,len,((k+1:Nat):Int),l,was,w,g,e,nx,ps,()):=by
 show law08_LocksDoes_l7 n r5 n ((k:Int),os,L,i,len,(k:Int),(q.waiters.length:Int),((0:Nat):Int),l,was,w,g,e,nx,ps,())=_
 unfold law08_LocksDoes_l7
 refine loop_to _ q.waiters.length (λj (_:Unit)=>((k:Int),os,L,i,len,(k:Int),(q.waiters.length:Int),(j:Int),l,was,w,g,e,nx,ps,())) (λ_ _=>True) ?_ ?_ n 0 () (Nat.zero_le _) (by omega) trivial
 ·intro r j _ hj _
  right
  refine⟨(), ?_,trivial⟩
  simp only[lt_dec hj,cond_true,idx_nat,hp,get_some hj,Option.bind_some,wrap_succ (show j<4611686018427387904 by omega)]
 ·intro r _ _
  simp only[ge_dec (Nat.lt_irrefl _),cond_false,wrap_succ (show k<4611686018427387904 by omega)]
theorem scr6(k:Nat)(hk:k≤1000){q:Queue}(hp:ps[k]? =some q)(hh:q.holders.length≤1000)(hw:q.waiters.length≤1000):
  law08_LocksDoes_l6 n r5 n ((k:Int),os,L,i,len,(k:Int),(q.holders.length:Int),0,l,was,w,g,e,nx,ps,())=r5 (os,L,i,len,((k+1:Nat):Int),l,was,w,g,e,nx,ps,()):=by
 show law08_LocksDoes_l6 n r5 n ((k:Int),os,L,i,len,(k:Int),(q.holders.length:Int),((0:Nat):Int),l,was,w,g,e,nx,ps,())=_
 unfold law08_LocksDoes_l6
 refine loop_to _ q.holders.length (λj (_:Unit)=>((k:Int),os,L,i,len,(k:Int),(q.holders.length:Int),(j:Int),l,was,w,g,e,nx,ps,())) (λ_ _=>True) ?_ ?_ n 0 () (Nat.zero_le _) (by omega) trivial
 ·intro r j _ hj _
  right
  refine⟨(), ?_,trivial⟩
  simp only[lt_dec hj,cond_true,idx_nat,hp,get_some hj,Option.bind_some,wrap_succ (show j<4611686018427387904 by omega)]
 ·intro r _ _
  simp only[ge_dec (Nat.lt_irrefl _),cond_false,idx_nat,hp,Option.bind_some]
  exact scr7 n hn r5 os L i len l was nx w e g ps k hk hp hw
end
theorem scr5(n:Nat)(hn:1003≤n)(j3:(List law08_Op)×Int×Int×Locks×Int×(List Int)×Int×Locks×(List Queue)×Unit→Option Bool)
  (os:List law08_Op) (L i:Int) (l was nx:Locks) (w e:Int) (g:List Int) (ps:List Queue) (hs:SmallL ps) (hl:ps.length≤1000) (hsame:ref08_Same n l was=some true):
  law08_LocksDoes_l5 n j3 n (os,L,i,(ps.length:Int),0,l,was,w,g,e,nx,ps,())=j3 (os,L,i,l,w,g,e,nx,ps,()):=by
 show law08_LocksDoes_l5 n j3 n (os,L,i,(ps.length:Int),((0:Nat):Int),l,was,w,g,e,nx,ps,())=_
 unfold law08_LocksDoes_l5
 refine loop_to _ ps.length (λk (_:Unit)=>(os,L,i,(ps.length:Int),(k:Int),l,was,w,g,e,nx,ps,())) (λ_ _=>True) ?_ ?_ n 0 () (Nat.zero_le _) (by omega) trivial
 ·intro r k _ hk _
  right
  refine⟨(), ?_,trivial⟩
  have hq:=hs ps[k] (List.getElem_mem hk)
  simp only[lt_dec hk,cond_true,idx_nat,get_some hk,Option.bind_some]
  exact scr6 n hn r os L i (ps.length:Int) l was nx w e g ps k (by omega) (get_some hk) hq.1 hq.2
 ·intro r _ _
  simp only[ge_dec (Nat.lt_irrefl _),cond_false,hsame,Option.bind_some,Bool.not_true]
theorem few_szK(qs:List Queue):SzK 40 (fewL qs):=⟨few_len qs,λq hq=>by
 obtain⟨p,_,rfl⟩:=List.mem_map.1 hq
 show(p.holders.take 20).length+(p.waiters.take 20).length≤40
 rw[List.length_take,List.length_take];omega⟩
theorem plainLocksDoes(x:Locks)(os:List law08_Op)(h1:okT tab 9 (.st 4) x)(h2:okT tab 9 (.sl (.st 5)) os):∃n,law08_LocksDoes n x os=some true:=by
 obtain⟨n,hn⟩:∃n,1000003≤n:=⟨1000003,Nat.le_refl _⟩
 refine⟨n, ?_⟩
 have hid:IdIn x.queues:=λq hq=>by
  obtain⟨a,b⟩:inI .u16 q.res.id:=(h1.1.1 q hq).2.2.1
  have a:0≤q.res.id:=a
  have b:q.res.id≤65535:=b
  omega
 unfold law08_LocksDoes
 simp only[wakesL n (by omega),Option.bind_some,Bool.not_true,cond_false,few_eq n (by omega),jn]
 show law08_LocksDoes_l2 n (law08_LocksDoes_j1 n) n (os,(os.length:Int),((0:Nat):Int),Locks.mk (fewL x.queues),())=_
 unfold law08_LocksDoes_l2
 refine loop_to (some true) (min 40 os.length) (λi (s:Locks)=>(os,(os.length:Int),(i:Int),s,())) (λi s=>IdIn s.queues∧SzK (40+i) s.queues) ?_ ?_ n 0 (Locks.mk (fewL x.queues)) (Nat.zero_le _) (by omega) ⟨few_ids hid,few_szK _⟩
 ·rintro r i ⟨qs⟩ hi ⟨hids,hz⟩
  right
  have hi2:i<os.length:=by omega
  have h40:((i:Int)==40)=false:=by rw[ibeq];exact decide_eq_false (by omega)
  have hri:0≤os[i].res.id∧os[i].res.id<65536:=by
   obtain⟨a,b⟩:inI .u16 os[i].res.id:=(h2.1 _ (List.getElem_mem hi2)).2.2.2.2.2.1
   have a:0≤os[i].res.id:=a
   have b:os[i].res.id≤65535:=b
   omega
  generalize hop:os[i]=o at hri
  have hoi:os[i]? =some o:=by rw[get_some hi2,hop]
  have hz:SzK (40+i) qs:=hz
  have hids:IdIn qs:=hids
  have hz100:SzK 100 qs:=⟨hz.1,λq hq=>by have:=hz.2 q hq;omega⟩
  have hsm:=(hz100.sz (Nat.le_refl _)).small
  have hql:qs.length≤1000:=by have:=hz.1;omega
  obtain⟨w,g,e,ps,hrun,hwant,hgl,hgi,hgz⟩:=op_eq n (by omega) o hri hz100 hids
  have hpz:=hgz _ hz
  have hpz100:SzK 100 ps:=⟨hpz.1,λq hq=>by have:=hpz.2 q hq;omega⟩
  have hpsm:=(hpz100.sz (Nat.le_refl _)).small
  have hpl:ps.length≤1000:=by have:=hpz.1;omega
  have hc1:=copy_eq n (Locks.mk qs) (by omega) hsm hql
  have hc2:=copy_eq n (Locks.mk ps) (by omega) hpsm hpl
  have hS1:ref08_Same n (Locks.mk qs) (Locks.mk qs)=some true:=by rw[rsame_eq n (by omega) (Locks.mk qs) (Locks.mk qs) hsm hql,eqL_refl qE_refl]
  have hS2:ref08_Same n (Locks.mk ps) (Locks.mk ps)=some true:=by rw[rsame_eq n (by omega) (Locks.mk ps) (Locks.mk ps) hpsm hpl,eqL_refl qE_refl]
  have hI:=sameInts_self n g (by omega) (by omega)
  have hj3:law08_LocksDoes_j3 n r (os,(os.length:Int),(i:Int),Locks.mk qs,w,g,e,Locks.mk ps,ps,())=r (os,(os.length:Int),((i+1:Nat):Int),if e=0 then Locks.mk ps else Locks.mk qs,()):=by
   unfold law08_LocksDoes_j3
   simp only[jn,law08_LocksDoes_j4,ibeq,wrap_succ (show i<4611686018427387904 by omega)]
   by_cases he:e=0
   ·rw[decide_eq_true he,if_pos he];rfl
   ·rw[decide_eq_false he,if_neg he];rfl
  have h5:=scr5 n (by omega) (law08_LocksDoes_j3 n r) os (os.length:Int) (i:Int) (Locks.mk qs) (Locks.mk qs) (Locks.mk ps) w e g ps hpsm hpl hS1
  refine⟨if e=0 then Locks.mk ps else Locks.mk qs, ?_, ?_⟩
  ·simp only[lt_dec hi2,cond_true,idx_nat,hoi,Option.bind_some,h40,cond_false,hc1,hrun,hwant,jn,bne_self_eq_false,hI,Bool.not_true,hS2,hS1,hc2]
   cases hw:(w !=1) with
   |true=>
    simp only[cond_true]
    rw[h5,hj3]
   |false=>
    simp only[cond_false]
    rw[hj3]
  ·split
   ·exact⟨hgi,hpz⟩
   ·exact⟨hids,szK_up hz⟩
 ·rintro r s _
  by_cases h:os.length≤40
  ·rw[Nat.min_eq_right h]
   simp only[ge_dec (Nat.lt_irrefl _),cond_false];rfl
  ·rw[Nat.min_eq_left (by omega)]
   simp only[lt_dec (show 40<os.length by omega),cond_true,idx_nat,get_some (show 40<os.length by omega),Option.bind_some]
   rfl
end Go.Proofs.YtchocpffjnodfaaGreat
