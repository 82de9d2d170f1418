import Derived.Test.YtchocpffjnodfaaGreatDp
namespace Go.Bur
open Go.RowKit
set_option linter.unusedVariables false
set_option linter.unusedSimpArgs false
section
variable {R : Type}
def vwI(i j:Int):Option Int:=match decide (0≤i∧0≤j) with
 |true=>some (i+j)
 |false=>none
theorem vwI_some{i j r:Int}(h:vwI i j=some r):0≤i∧0≤j∧r=i+j:=by
 unfold vwI at h
 split at h
 ·rename_i hd
  obtain⟨h1,h2⟩:=of_decide_eq_true hd
  exact⟨h1,h2,(someI' h).symm⟩
 ·cases h
def isVw{τ:Nat→Type}:Option (AV τ)→Bool
 |some (.v (.one (.vw _ _ _)))=>true
 |_=>false
variable {P : Program} {S : Tab}
def opIndexV(P:Program)(S:Tab)(ev:Ev S.τ)(it:Nat→Option (Item S.τ))(t:TypeId)(x i:Operand)(k:Out S.τ→Option R):Option R:=match P.underlying t,asInt1 (ev i) with
 |some (.slice e),some (_,j)=>match ev x with
  |some (.v (.one (.vw m sz i0)))=>match it m,P.info? e with
   |some (.row _ u l),some inf=>match Nat.beq inf.size (S.sz u),Nat.beq sz (S.sz u) with
    |true,true=>(vwI i0 j).bind λij=>(idx l ij).bind λ_=>k ⟨.v (.one (.el m (S.sz u) ij 0)),[],[],[m],0⟩
    |_,_=>none
   |_,_=>none
  |_=>none
 |_,_=>none
theorem opIndexV_sound(ok:TabOk S){o:Oper}{ev:Ev S.τ}{it:Nat→Option (Item S.τ)}{nx:Nat}{t:TypeId}{x i:Operand}{k:Out S.τ→Option R}{r:R}(hop:o.op= .indexAddr t x i)(h:opIndexV P S ev it t x i k=some r):∃out,k out=some r∧LocSem P S o ev it nx out:=by
 unfold opIndexV at h
 split at h
 ·rename_i e kk j hu hi
  split at h
  ·rename_i m sz i0 hx
   split at h
   ·rename_i e' u l inf hm hinf
    split at h
    ·rename_i hsz hsz2
     obtain⟨ij,hij,h⟩:=bindS h
     obtain⟨y,hy,h⟩:=bindS h
     obtain⟨p1,p2,rfl⟩:=vwI_some hij
     refine⟨_,h,loc_read [m] λa w F ρ Ps Au us hev hus hit hAu hh hps=> ?_⟩
     obtain⟨A,rfl,_,h1⟩:=use1 hus hit hm hAu
     obtain⟨g,cs,hg,rfl,hn,hmem⟩:=row_open h1
     obtain⟨g',B,hg',hxv,hB⟩:=hev _ _ hx
     rw[hg] at hg'
     obtain rfl:=someI' hg'
     have hlt:(i0+j).toNat<l.length:=by
      unfold Bur.idx at hy
      split at hy
      ·exact(List.getElem?_eq_some_iff.1 hy).1
      ·cases hy
     have hB:=hB (by omega)
     subst hB
     have hb:Inb (some ((baseOf g.a).add (i0.toNat*sz))) (g.n-i0.toNat) j:=⟨p2,by omega,by simp⟩
     refine⟨_,[], ?_,by simp,g,hg,rfl⟩
     obtain⟨dst,op,type,pos,after,guard⟩:=o
     simp only at hop
     subst hop
     have hj:=asInt1_rel hev hi
     simp only[execOp,hxv,hj,Sem.run_bind,run_indexAt hu hinf hb,Result.andThen_ok,Sem.run_pure]
     rw[add_zero',Nat.eq_of_beq_eq_true hsz,Nat.eq_of_beq_eq_true hsz2]
     simp only[baseOf,Option.getD_some]
     rw[add_add,←Nat.add_mul,show(i0+j).toNat=i0.toNat+j.toNat by omega]
    ·cases h
   ·cases h
  ·cases h
 ·cases h
def opLenV(P:Program)(S:Tab)(ev:Ev S.τ)(it:Nat→Option (Item S.τ)):Op→Option (Int×List Nat)
 | .call c=>match c.callee,c.args.toList,c.argTypes.toList with
  | .builtin .len,[x],[t]=>match P.underlying t,ev x with
   |some (.slice _),some (.v (.one (.vw m _ i)))=>match it m with
    |some (.row _ _ l)=>some (((l.length-i.toNat:Nat):Int),[m])
    |_=>none
   |_,_=>none
  |_,_,_=>none
 |_=>none
theorem opLenV_sound{o:Oper}{ev:Ev S.τ}{it:Nat→Option (Item S.τ)}{nx:Nat}{z:Int}{us:List Nat}(h:opLenV P S ev it o.op=some (z,us)):LocSem P S o ev it nx ⟨dint .i64 z,[],[],us,0⟩:=by
 obtain⟨dst,op,type,pos,after,guard⟩:=o
 simp only at h
 unfold opLenV at h
 split at h
 ·rename_i c
  obtain⟨callee,⟨args⟩,⟨tys⟩⟩:=c
  split at h
  ·rename_i x t h1 h2 h3
   simp only at h1 h2 h3
   subst h1 h2 h3
   split at h
   ·rename_i e m sz i hu hx
    split at h
    ·rename_i e' u l hm
     simp only[Option.some.injEq,Prod.mk.injEq] at h
     obtain⟨rfl,rfl⟩:=h
     refine loc_read [m] λa w F ρ Ps Au us hev hus hit hAu hh hps=> ?_
     obtain⟨A,rfl,_,h1⟩:=use1 hus hit hm hAu
     obtain⟨g,cs,hg,rfl,hn,hmem⟩:=row_open h1
     obtain⟨g',B,hg',hxv,_⟩:=hev _ _ hx
     rw[hg] at hg'
     obtain rfl:=someI' hg'
     refine⟨.int .i64 ((g.n-i.toNat:Nat):Int),[], ?_,by simp,by rw[hn];rfl⟩
     simp[execOp,resolve,invoke,builtin,Builtin.len_,hxv,run_underlying hu,goInt]
    ·cases h
   ·cases h
  ·cases h
 ·cases h
def opSliceV(P:Program)(S:Tab)(ev:Ev S.τ)(it:Nat→Option (Item S.τ))(t:TypeId)(x:Operand)(lo:Option Operand)(k:Out S.τ→Option R):Option R:=match lo,P.underlying t with
 |some y,some (.slice e)=>match ev x,P.info? e,asInt1 (ev y) with
  |some (.v (.one (.own j))),some inf,some (_,h1)=>match it j with
   |some (.row _ u l)=>match Nat.beq inf.size (S.sz u) with
    |true=>(sub l h1 (l.length:Int)).bind λ_=>k ⟨.v (.one (.vw j (S.sz u) h1)),[],[],[j],0⟩
    |false=>none
   |_=>none
  |_,_,_=>none
 |_,_=>none
theorem opSliceV_sound(ok:TabOk S){o:Oper}{ev:Ev S.τ}{it:Nat→Option (Item S.τ)}{nx:Nat}{t:TypeId}{x:Operand}{lo:Option Operand}{k:Out S.τ→Option R}{r:R}(hop:o.op= .slice t x lo none none)(h:opSliceV P S ev it t x lo k=some r):∃out,k out=some r∧LocSem P S o ev it nx out:=by
 obtain⟨dst,op,type,pos,after,guard⟩:=o
 simp only at hop
 subst hop
 unfold opSliceV at h
 split at h
 ·rename_i y e hu
  split at h
  ·rename_i j inf kh h1 hx hinf hh
   split at h
   ·rename_i e' u l hj
    split at h
    ·rename_i hsz
     obtain⟨m,hm,h⟩:=bindS h
     refine⟨_,h,loc_read [j] λa w F ρ Ps Au us hev hus hit hAu hold hps=> ?_⟩
     obtain⟨A,rfl,_,g1⟩:=use1 hus hit hj hAu
     obtain⟨g,cs,hg,rfl,hgn,hmem⟩:=row_open g1
     obtain⟨g',hg',hxv⟩:=hev _ _ hx
     rw[hg] at hg'
     obtain rfl:=someI' hg'
     have e1:=asInt1_rel hev hh
     obtain⟨hc1,hc2,hc3⟩:=row_cells (hold _ (List.mem_singleton_self _))
     have hb:0≤h1∧h1≤(l.length:Int):=by
      unfold Bur.sub at hm
      split at hm
      ·rename_i hb;exact⟨hb.1,hb.2.1⟩
      ·cases hm
     have hrun:=run_slice_slice (P:=P) (lo:=some (a.eval y)) (hi:=none) (l:=h1) (h:=(g.n:Int)) (a:=g.a) (m:=g.n) (c:=g.c) hu hinf ⟨kh,e1⟩ rfl hb.1 (by omega) (by omega) w
     refine⟨_,[], ?_,by simp,g,slA g.a h1.toNat g.c inf.size,hg,rfl,λhlt=> ?_⟩
     ·simp only[execOp,hxv,Sem.run_bind,Option.map_none,Option.map_some]
      rw[hrun]
      simp
     ·unfold slA
      rw[if_neg (by omega),Nat.eq_of_beq_eq_true hsz]
      cases hA:g.a with
      |none=>exact absurd hA (hc3 (by omega))
      |some B=>rfl
    ·cases h
   ·cases h
  ·cases h
 ·cases h
theorem zc_succ(z:Array Value)(k:Nat):(Builtin.zeroCells z (k+1)).toList=z.toList++(Builtin.zeroCells z k).toList:=by
 apply List.ext_getElem?
 intro i
 simp only[Builtin.zeroCells,Array.toList_map,Array.toList_range,List.getElem?_map,List.getElem?_append,Array.length_toList]
 by_cases h:i<z.size
 ·rw[if_pos h,List.getElem?_range (by rw[Nat.succ_mul];omega)]
  simp[Nat.mod_eq_of_lt h,h]
 ·rw[if_neg h]
  by_cases h2:i<(k+1)*z.size
  ·rw[List.getElem?_range h2,List.getElem?_range (by rw[Nat.succ_mul] at h2;omega)]
   simp only[Option.map_some]
   rw[show i % z.size=(i-z.size) % z.size from by rw[←Nat.mod_eq_sub_mod (by omega)]]
  ·rw[List.getElem?_eq_none (by simpa using h2),List.getElem?_eq_none (by rw[Nat.succ_mul] at h2;simp;omega)]
theorem zc_reps{α:Type}{G:GoT α}{w:World}{z:Array Value}{x:α}(h:G.rep w z.toList x):∀k,Reps G w (Builtin.zeroCells z k).toList (List.replicate k x)
 |0=>by
  have:(Builtin.zeroCells z 0).toList=[]:=by simp[Builtin.zeroCells]
  rw[this];exact .nil
 |k+1=>by
  rw[zc_succ,List.replicate_succ]
  exact .cons h (zc_reps h k)
def zeroT(P:Program)(S:Tab)(e:TypeId)(u:Ty):Option (Dn S.τ u):=match P.info? e with
 |some inf=>match inf.zero,Nat.beq inf.size (S.sz u),Nat.beq (match inf.zero with|some z=>z.cells.size|none=>0) (S.sz u) with
  |some z,true,true=>match ofVal (τ:=S.τ) z with
   |some a=>match lvsOf a with
    |some ls=>match ls.all Lf.cell,toHL (S.lvs u) ls with
     |true,some h=>some (S.mkT u h)
     |_,_=>none
    |none=>none
   |none=>none
  |_,_,_=>none
 |none=>none
theorem zeroT_rel(ok:TabOk S){e:TypeId}{u:Ty}{x:Dn S.τ u}(h:zeroT P S e u=some x):∃inf z,P.info? e=some inf∧inf.zero=some z∧inf.size=S.sz u∧z.cells.size=S.sz u∧(∀v∈z.cells.toList,v.oneCell'=true)∧∀w,(S.GT u).rep w z.cells.toList x:=by
 unfold zeroT at h
 split at h
 ·rename_i inf hinf
  split at h
  ·rename_i z hz hs1 hs2
   rw[hz] at hs2
   split at h
   ·rename_i a ha
    split at h
    ·rename_i ls hls
     split at h
     ·rename_i hh hc hhl
      obtain rfl:=someI' h
      have hr:∀ρ:Rho,All2 (RelLf S ρ []) ls z.cells.toList:=λρ=>lvsOf_rel hls (ofVal_rel ha)
      refine⟨inf,z,hinf,hz,Nat.eq_of_beq_eq_true hs1,Nat.eq_of_beq_eq_true hs2,cells_one hc (hr λ_=>none),λw=> ?_⟩
      exact(rel_rep ok (Ps:=[]) (F:=[]) (w:=w) (by simp) (toHL_rel hhl (hr λ_=>none))).here
     ·cases h
    ·cases h
   ·cases h
  ·cases h
 ·cases h
theorem run_clear_part{A:Option Addr}{c e sz m i:Nat}{t ty:TypeId}{inf:TypeInfo}{z:Value}{ds:List Value}{B:Option Addr}{kc:Nat}{w:World}(hu:P.underlying t=some (.slice e))(hi:P.info? e=some inf)(hz:inf.zero=some z)(hzs:z.cells.size=sz)(hz1:∀v∈z.cells.toList,v.oneCell'=true)
  (h:(Asn.row A c e sz m ds).holds w) (hB:i<m→B=some ((baseOf A).add (i*sz))):
  ∃w',(∀cs,(builtin .clear #[t] ty cs #[.slice B (m-i) kc]).run P w= .ok (.value (.tuple #[])) w')∧(Asn.row A c e sz m (ds.take (i*sz)++(Builtin.zeroCells z.cells (m-i)).toList)).holds w'∧Keep (Asn.row A c e sz m ds).fp w w':=by
 have hlen:=h.1
 by_cases him:i<m
 ·obtain rfl:=hB him
  have h':w.ownsRow 0 e sz (.slice A m c) m ds:=h
  rcases h'.2 with⟨hv,hn⟩|⟨g,cap,cur,hv,_,hg,hnc,hcm,hcs,htake⟩
  ·omega
  ·injection hv with e1 e2 e3
   subst e1 e3
   have hmi:i*sz+(m-i)*sz=m*sz:=by rw[←Nat.add_mul];congr 1;omega
   have hcap:m*sz≤cur.size:=by rw[hcs];exact Nat.mul_le_mul_right _ hnc
   have hl:=Array.length_toList (xs:=cur)
   have hzl:(Builtin.zeroCells z.cells (m-i)).toList.length=(m-i)*sz:=by simp[Builtin.zeroCells,hzs]
   have hz1':∀v∈(Builtin.zeroCells z.cells (m-i)).toList,v.oneCell'=true:=by
    intro v hv
    simp only[Builtin.zeroCells,Array.toList_map,List.mem_map,Array.toList_range,List.mem_range] at hv
    obtain⟨j,hj,rfl⟩:=hv
    have hpos:0<z.cells.size:=by
     rcases Nat.eq_zero_or_pos z.cells.size with h|h
     ·rw[h] at hj;omega
     ·exact h
    have hlt:j % z.cells.size<z.cells.size:=Nat.mod_lt _ hpos
    refine hz1 _ ?_
    rw[getElem!_pos z.cells _ hlt]
    simp
   have hst:=run_storeCells_at (P:=P) g (i*sz) e (Builtin.zeroCells z.cells (m-i)).toList 0 cur w hg (by rw[hzl];omega) hz1'
   simp only[Nat.add_zero] at hst
   have hcut:cur.toList.take (i*sz)=ds.take (i*sz):=by rw[←htake,List.take_take,Nat.min_eq_left (by omega)]
   refine⟨w.setRow g (spl cur.toList (i*sz) (Builtin.zeroCells z.cells (m-i)).toList).toArray,λcs=> ?_,⟨by rw[List.length_append,List.length_take,hzl,hlen,Nat.min_eq_left (by omega)];omega,.inr ⟨g,c,_,rfl,Nat.zero_le _,setRow_heap w g _ _ e (0,0) hg,hnc,hcm, ?_, ?_⟩⟩,Keep.grown setRow_grown (λc e=>by injection e with e;simp[Asn.fp,e])⟩
   ·have hzr:(zeroValue e).run P w= .ok z w:=by simp[zeroValue,typeInfo,hi,hz]
    have hst2:(storeCells ⟨g,i*sz,none⟩ (Builtin.zeroCells z.cells (m-i)).toList).run P w= .ok () (w.setRow g (spl cur.toList (i*sz) (Builtin.zeroCells z.cells (m-i)).toList).toArray):=hst
    generalize w.setRow g (spl cur.toList (i*sz) (Builtin.zeroCells z.cells (m-i)).toList).toArray=W at hst2⊢
    obtain⟨q,hq⟩:∃q,m-i=q+1:=⟨m-i-1,by omega⟩
    have e2:(baseOf (some (⟨g,0,none⟩:Addr))).add (i*sz)=⟨g,i*sz,none⟩:=by simp only[baseOf,Option.getD_some];rw[add_at,Nat.zero_add]
    rw[e2]
    rw[hq] at hst2⊢
    simp[builtin,Builtin.clear_,run_underlying hu,hzr,hst2]
   ·rw[List.size_toArray,spl_length (by omega),hl,hcs]
   ·rw[List.toList_toArray]
    unfold spl
    rw[hcut,hzl,hmi]
    refine List.take_left' ?_
    rw[List.length_append,List.length_take,hzl,hlen,Nat.min_eq_left (by omega)];omega
 ·have hz0:m-i=0:=by omega
  have hzero:(Builtin.zeroCells z.cells 0).toList=[]:=by simp[Builtin.zeroCells]
  have hti:ds.take (i*sz)=ds:=List.take_of_length_le (by rw[hlen];exact Nat.mul_le_mul_right _ (by omega))
  refine⟨w,λcs=> ?_, ?_,Keep.refl _ _⟩
  ·rw[hz0]
   cases B with
   |none=>simp[builtin,Builtin.clear_,run_underlying hu]
   |some B=>simp[builtin,Builtin.clear_,run_underlying hu]
  ·rw[hz0,hzero,List.append_nil,hti];exact h
def opClrV(P:Program)(S:Tab)(ev:Ev S.τ)(it:Nat→Option (Item S.τ)):Op→(Out S.τ→Option R)→Option R
 | .call c,k=>match c.callee,c.args.toList,c.argTypes.toList with
  | .builtin .clear,[x],[t]=>match P.underlying t,ev x with
   |some (.slice e),some (.v (.one (.vw m sz i)))=>match it m with
    |some (.row e' u l)=>match Nat.beq e e',Nat.beq sz (S.sz u),zeroT P S e u with
     |true,true,some z=>k ⟨.tup [],[m],[(m,.row e' u (l.take i.toNat++List.replicate (l.length-i.toNat) z))],[],0⟩
     |_,_,_=>none
    |_=>none
   |_,_=>none
  |_,_,_=>none
 |_,_=>none
theorem opClrV_sound(ok:TabOk S){o:Oper}{ev:Ev S.τ}{it:Nat→Option (Item S.τ)}{nx:Nat}{k:Out S.τ→Option R}{r:R}(h:opClrV P S ev it o.op k=some r):∃out,k out=some r∧LocSem P S o ev it nx out:=by
 obtain⟨dst,op,type,pos,after,guard⟩:=o
 simp only at h
 unfold opClrV at h
 split at h
 ·rename_i c
  obtain⟨callee,⟨args⟩,⟨tys⟩⟩:=c
  split at h
  ·rename_i x t h1 h2 h3
   simp only at h1 h2 h3
   subst h1 h2 h3
   split at h
   ·rename_i e m sz i hu hx
    split at h
    ·rename_i e' u l hm
     split at h
     ·rename_i z he hsz hz
      obtain rfl:=Nat.eq_of_beq_eq_true he
      obtain rfl:=Nat.eq_of_beq_eq_true hsz
      obtain⟨inf,zv,hinf,hzv,hs1,hs2,hz1,hrep⟩:=zeroT_rel ok hz
      refine⟨_,h, ?_⟩
      intro a w R ρ Ps At Au tk us hd hev htk hus hit hAt hAu hst hn K Q hK
      have e0:us=[]:=List.map_eq_nil_iff.1 hus
      subst e0
      have e0:=All2.nil_left hAu
      subst e0
      obtain⟨A,rfl,h1⟩:=take1 htk (λx hx=>hit x (by simpa using hx)) hm hAt
      rw[List.append_nil] at hst
      obtain⟨g,cs,hg,rfl,hgn,hmem⟩:=row_open h1
      obtain⟨g',B,hg',hxv,hB⟩:=hev _ _ hx
      rw[hg] at hg'
      obtain rfl:=someI' hg'
      have hold:=hst.own _ (List.mem_singleton_self _)
      obtain⟨w',hrun,hrow,hkeep⟩:=run_clear_part (P:=P) (t:=t) (ty:=type) (kc:=g.c-i.toNat) hu hinf hzv hs2 hz1 hold hB
      have hnd:(Asn.row g.a g.c e (S.sz u) g.n cs).fp.Nodup:=fp_row_nodup
      unfold wpX
      have hex:(execOp a.eval (⟨dst,.call ⟨.builtin .clear,⟨[x]⟩,⟨[t]⟩⟩,type,pos,after,guard⟩:Oper)).run P w= .ok (.value (.tuple #[])) w':=by
       simp only[execOp,resolve,invoke,Sem.run_bind,Sem.run_pure,Result.andThen_ok]
       have:(⟨[x]⟩:Array Operand).map a.eval= #[a.eval x]:=by simp
       rw[this,hxv]
       exact hrun _
      rw[hex]
      have hreps:=hst.per _ hmem
      have hfp:∀X,(Asn.row g.a g.c e (S.sz u) g.n X).fp=(Asn.row g.a g.c e (S.sz u) g.n cs).fp:=λX=>by cases g.a<;>rfl
      have h2:=hst.addPs (ps:=[RepsB (S.GT u) (cs.take (i.toNat*S.sz u)++(Builtin.zeroCells zv.cells (g.n-i.toNat)).toList) (l.take i.toNat++List.replicate (l.length-i.toNat) z)]) λp hp=>by
       rw[List.mem_singleton] at hp
       subst hp
       intro w2 hk
       have e1:=(hreps w2 hk).takeN (min i.toNat l.length) (by omega)
       have e2:cs.take (min i.toNat l.length*(S.GT u).sz)=cs.take (i.toNat*S.sz u):=by
        have hcl:=(hreps w2 hk).len
        rw[sz_eq ok] at hcl⊢
        rcases Nat.le_total i.toNat l.length with q|q
        ·rw[Nat.min_eq_left q]
        ·rw[Nat.min_eq_right q,List.take_of_length_le (by omega),List.take_of_length_le (by rw[hcl];exact Nat.mul_le_mul_right _ q)]
       have e3:l.take (min i.toNat l.length)=l.take i.toNat:=by
        rcases Nat.le_total i.toNat l.length with q|q
        ·rw[Nat.min_eq_left q]
        ·rw[Nat.min_eq_right q,List.take_of_length_le (by omega),List.take_of_length_le q]
       rw[e2,e3] at e1
       rw[hgn]
       exact e1.app (zc_reps (hrep w2) _)
      have h3:=St.set (B:=Asn.row g.a g.c e (S.sz u) g.n (cs.take (i.toNat*S.sz u)++(Builtin.zeroCells zv.cells (g.n-i.toNat)).toList)) h2 hkeep hrow (λb hb=> .inl (hfp _▸hb)) fp_row_nodup
      refine hK (.tuple #[]) w' ρ _ [Asn.row g.a g.c e (S.sz u) g.n (cs.take (i.toNat*S.sz u)++(Builtin.zeroCells zv.cells (g.n-i.toNat)).toList)] (Grow.refl _ _ _) (λp hp=>List.mem_cons_of_mem _ hp) ⟨[],rfl,trivial⟩ ⟨⟨g,_,hg,rfl, ?_,List.mem_cons_self ..⟩,trivial⟩ (by simpa using h3) (by simpa[fps] using hkeep) λb hb=> .inl ?_
      ·rw[List.length_append,List.length_take,List.length_replicate,hgn];omega
      ·simp only[fps,List.flatMap_cons,List.flatMap_nil,List.append_nil] at hb⊢
       rw[hfp] at hb;exact hb
     ·cases h
    ·cases h
   ·cases h
  ·cases h
 ·cases h
def opMkS(P:Program)(S:Tab)(ty:TypeId→Option Ty)(ev:Ev S.τ)(nx:Nat)(t:TypeId)(n c:Operand)(k:Out S.τ→Option R):Option R:=match P.underlying t,asInt1 (ev n),asInt1 (ev c) with
 |some (.slice e),some (_,i),some (_,j)=>match ty e with
  |some u=>match zeroT P S e u with
   |some z=>match decide (0≤i∧i=j∧i≤4096),Nat.ble (match P.info? e with|some inf=>inf.bytes|none=>4096) 4095 with
    |true,true=>k ⟨.v (.one (.own nx)),[],[(nx,.row e u (List.replicate i.toNat z))],[],1⟩
    |_,_=>none
   |none=>none
  |none=>none
 |_,_,_=>none
theorem opMkS_sound(ok:TabOk S){ty:TypeId→Option Ty}{o:Oper}{ev:Ev S.τ}{it:Nat→Option (Item S.τ)}{nx:Nat}{t:TypeId}{n c:Operand}{k:Out S.τ→Option R}{r:R}(hop:o.op= .makeSlice t n c)(h:opMkS P S ty ev nx t n c k=some r):∃out,k out=some r∧LocSem P S o ev it nx out:=by
 obtain⟨dst,op,type,pos,after,guard⟩:=o
 simp only at hop
 subst hop
 unfold opMkS at h
 split at h
 ·rename_i e ki i kj j hu hi hj
  split at h
  ·rename_i u hty
   split at h
   ·rename_i z hz
    split at h
    ·rename_i hd hby
     obtain⟨h0,rfl,h1⟩:=of_decide_eq_true hd
     obtain⟨inf,zv,hinf,hzv,hs1,hs2,hz1,hrep⟩:=zeroT_rel ok hz
     rw[hinf] at hby
     have hby:inf.bytes≤4095:=Nat.le_of_ble_eq_true hby
     refine⟨_,h,loc_row ok (by rw[List.length_replicate];omega) λa w F ρ Ps hev hp=>⟨(Builtin.zeroCells zv.cells i.toNat).toList, ?_,λw2 hk=>zc_reps (hrep w2) _⟩⟩
     have e1:=asInt1_rel hev hi
     have e2:=asInt1_rel hev hj
     obtain⟨q,rfl⟩:=Int.eq_ofNat_of_zero_le h0
     have hq:q≤4096:=by omega
     have hwr:IntKind.wrap .i64 (q:Int)=(q:Int):=by rw[IntKind.wrap_i64];omega
     have hmul:inf.bytes*q≤4095*4096:=Nat.mul_le_mul hby hq
     have hmul2:q*inf.bytes≤4095*4096:=by rw[Nat.mul_comm];exact hmul
     have hbi:¬((inf.bytes:Int)*(q:Int)>2^48):=by
      have:((inf.bytes*q:Nat):Int)≤((4095*4096:Nat):Int):=Int.ofNat_le.2 hmul
      rw[Int.natCast_mul] at this
      omega
     have hn0:¬((q:Int)<0):=by omega
     rw[List.length_replicate]
     have hcond:(decide ((q:Int)<0)||decide ((inf.bytes:Int)*(q:Int)>2^48)||decide ((q:Int)<0)||decide ((q:Int)>(q:Int)))=false:=by
      rw[decide_eq_false hn0,decide_eq_false hbi,decide_eq_false (show ¬((q:Int)>(q:Int)) by omega)];rfl
     have hroom:¬(((q:Int)).toNat*inf.bytes>roomBytes):=by
      rw[show((q:Int)).toNat=q from rfl,show roomBytes=140737488355328 from rfl];omega
     simp only[execOp,e1,e2,Sem.run_bind,Instr.makeSlice,run_underlying hu,Result.andThen_ok,asInt,asIntOf,Sem.run_pure,run_info hinf,hwr]
     rw[hcond]
     simp only[Bool.false_eq_true,if_false,askRoom,if_neg hroom,Sem.run_bind,Sem.run_pure,Result.andThen_ok,sizeOf,run_info hinf]
     rw[show((q:Int)).toNat=q from rfl,hs1]
     by_cases hz0:q*S.sz u=0
     ·have:(Builtin.zeroCells zv.cells q).toList.toArray=(Array.range (q*S.sz u)).map (λx=>(#[]:Array Value)[x % (#[]:Array Value).size]!):=by
       simp[Builtin.zeroCells,hs2,hz0]
      rw[if_pos hz0,this]
      simp[run_newRow']
     ·rw[if_neg hz0]
      have:(Builtin.zeroCells zv.cells q).toList.toArray=(Array.range (q*S.sz u)).map (λx=>zv.cells[x % zv.cells.size]!):=by
       rw[Array.toArray_toList];unfold Builtin.zeroCells;rw[hs2]
      rw[this]
      simp[zeroValue,run_info hinf,hzv,run_newRow']
    ·cases h
   ·cases h
  ·cases h
 ·cases h
end
end Go.Bur
