import Derived.Test.YtlcmdgpjiendmaaGreatHn
import Derived.Sort.OwnSortedInts
import Derived.Shelf.SlSortCmp.WholeK
import Derived.Shelf.SlSortCmp.NoneTotal
import Derived.Shelf.SlSortCmp.Whole1
namespace Go.Bur
open Go.RowKit
set_option linter.unusedVariables false
set_option linter.unusedSimpArgs false
theorem Uh{w w':World}(h:bD [] w w'):∃q os,w'=Go.Sort.grow (w.drewN q) os:=by
 refine⟨w'.drawn-w.drawn,w'.heap.extract w.heap.size w'.heap.size, ?_⟩
 obtain⟨heap,tape,drawn,os,output⟩:=w
 obtain⟨heap',tape',drawn',os',output'⟩:=w'
 obtain⟨h1,h2,h3,h4,h5,h6⟩:=h
 simp only at h1 h2 h3 h5 h6
 have h4:drawn<=drawn':=h4
 subst h1 h2 h3
 have hh:heap'=heap++heap'.extract heap.size heap'.size:=by
  refine Array.ext_getElem? λi=> ?_
  by_cases hi:i<heap.size
  ·rw[Array.getElem?_append_left hi]
   exact h6 i hi (by simp)
  ·rw[Array.getElem?_append_right (by omega),Array.getElem?_extract]
   by_cases hj:i<heap'.size
   ·rw[if_pos (by omega)]
    congr 1
    omega
   ·rw[if_neg (by omega),Array.getElem?_eq_none (by omega)]
 simp only[Go.Sort.grow,World.drewN,World.mk.injEq]
 exact⟨hh,trivial,by omega,trivial,trivial⟩
def jD(l:List Int):List Int:=l.mergeSort λx y=>decide (x<=y)
theorem zZ(l:List Int):(jD l).length=l.length:=by unfold jD;exact List.length_mergeSort _
@[reducible] def S1(S:Tab)(g e:Nat):Ct S:=⟨g,[.one (.own 0)],[.row e (.int .i64)],[],[(some 0,.row e (.int .i64))],List Int,λy=>(y,()),λy=>y.1,λ_=>rfl,λn x=>match Nat.ble (@List.length Int x.1) 4611686018427387903 with|true=>some (jD x.1)|false=>none⟩
def aak(P:Program)(g:Nat):Prop:=(∀(blk cap:Nat)(zs:List Int)(w:World),Go.Sort.Holds (Value.int .i64) w blk 0 zs.toArray->blk<w.heap.size->zs.length<4611686018427387904->
  Calls P g #[.slice (some ⟨blk,0,none⟩) zs.length cap] w λe w'=>e= .returned (.tuple #[])/\∃n os,w'=Go.Sort.grow (Go.Sort.putRow (Value.int .i64) (Go.Sort.ahead w n) blk 0 (jD zs).toArray) os)/\
 ∀(p:Option Addr)(cap:Nat)(w:World),Calls P g #[.slice p 0 cap] w λe w'=>e= .returned (.tuple #[])/\w'=w
theorem Ep{α:Type}{F:Flat α}{w:World}:∀{cs:List Value} {l:List α},gN (Flat.toGoT F) w cs l->cs=l.flatMap F.enc
 |_,_,.nil=>rfl
 |_,_,.cons h k=>by rw[List.flatMap_cons,<-Ep k];exact congrArg (· ++_) h
theorem Er{α:Type}{F:Flat α}{w:World}:∀(l:List α),gN (Flat.toGoT F) w (l.flatMap F.enc) l
 |[]=> .nil
 |x::l=>by rw[List.flatMap_cons];exact .cons rfl (Er l)
theorem Mx(l:List Int):l.flatMap (λx=>[Value.int .i64 x])=l.map (Value.int .i64):=by
 induction l with
 |nil=>rfl
 |cons x l ih=>rw[List.flatMap_cons,ih];rfl
theorem Oj{A:Option Addr}{c e sz n:Nat}{cs ds:List Value}:(Asn.row A c e sz n cs).fp=(Asn.row A c e sz n ds).fp:=by cases A<;>rfl
theorem aal{P:Program}{S:Tab}{g e:Nat}(hcall:∀args w,(callFunc g args).run P w= .ok (.enter g args) w)(hraw:aak P g):OkC P S (S1 S g e):=by
 refine⟨hcall, ?_⟩
 intro n x y hy R w ρ As Ps args hst hdom hargs hits
 obtain⟨l,_⟩:=x
 have hy':(match Nat.ble l.length 4611686018427387903 with|true=>some (jD l)|false=>none)=some y:=hy
 split at hy'
 ·rename_i hlen
  obtain rfl:=someI' hy'
  have hlen:=Nat.le_of_ble_eq_true hlen
  obtain⟨v,vs,rfl,hv,hvs⟩:=aH.cons_left hargs
  have e0:=aH.nil_left hvs
  subst e0
  obtain⟨A,As',rfl,hA,hr⟩:=aH.cons_left hits
  have e0:=aH.nil_left hr
  subst e0
  obtain⟨gh,cs,hg,rfl,hn,hmem⟩:=kU hA
  obtain⟨gh',hg',rfl⟩:=hv
  rw[hg] at hg'
  obtain rfl:=someI' hg'
  have hown:=hst.own _ (List.mem_singleton_self _)
  have hreps:=(hst.per _ hmem).here
  have hcs:cs=l.map (Value.int .i64):=(Ep (F:=Tt .i64) hreps).trans (Mx l)
  have hlen2:gh.n=l.length:=hn
  have fin:∀w',(Asn.row gh.a gh.c e (S.sz (.int .i64)) gh.n ((jD l).map (Value.int .i64))).holds w'->bD (Asn.row gh.a gh.c e (S.sz (.int .i64)) gh.n cs).fp w w'->
    ∃v ρ' As' Ps',Ending.returned (.tuple #[])=Ending.returned v/\Ls P S (S1 S g e) ρ ((S1 S g e).un (jD l)) v As' ρ' Ps'/\bD (fps [Asn.row gh.a gh.c e (S.sz (.int .i64)) gh.n cs]) w w'/\St R w' As' Ps'/\∀b∈fps As',b∈fps [Asn.row gh.a gh.c e (S.sz (.int .i64)) gh.n cs]\/w.heap.size<=b:=by
   intro w' hrow hkeep
   have h1:=hst.addPs (ps:=[kB (S.GT (.int .i64)) ((jD l).map (Value.int .i64)) (jD l)]) λp hp=>by
    rw[List.mem_singleton] at hp
    subst hp
    intro w2 _
    have:=Er (F:=Tt .i64) (w:=w2) (jD l)
    rw[show(jD l).flatMap (Tt .i64).enc=(jD l).map (Value.int .i64) from Mx _] at this
    exact this
   have h2:=St.set (B:= .row gh.a gh.c e (S.sz (.int .i64)) gh.n ((jD l).map (Value.int .i64))) h1 hkeep hrow (λb hb=> .inl (by rw[Oj (ds:=(jD l).map (Value.int .i64))];exact hb)) pQ
   refine⟨_,ρ,[.row gh.a gh.c e (S.sz (.int .i64)) gh.n ((jD l).map (Value.int .i64))],_,rfl,⟨⟨[],rfl,trivial⟩,⟨⟨gh,_,hg,rfl,by rw[hn];exact(zZ l).symm,List.mem_cons_self ..⟩,trivial⟩,λr g' hr=>hdom r g' hr,λr j p g' hr hj=> ?_⟩,by simpa[fps] using hkeep,h2,λb hb=> .inl (by simp only[fps,List.flatMap_cons,List.flatMap_nil,List.append_nil] at hb|-;rw[Oj (ds:=(jD l).map (Value.int .i64))];exact hb)⟩
   match r,hr with
   |0,hr=>
    simp only[List.getElem?_cons_zero,Option.some.injEq,Prod.mk.injEq] at hr
    obtain⟨rfl,_⟩:=hr
    exact hj
   |r+1,hr=>simp at hr
  rcases RL hown with⟨ha,h0,hc0⟩|⟨b,ha⟩
  ·have hl0:l=[]:=List.eq_nil_of_length_eq_zero (by omega)
   subst hl0
   have e1:([Value.slice gh.a gh.n gh.c]:List Value).toArray= #[.slice gh.a 0 gh.c]:=by rw[h0]
   rw[e1]
   refine Calls.mono (hraw.2 gh.a gh.c w) λe' w' ⟨h1,h2⟩=> ?_
   subst h1 h2
   refine fin _ ?_ (bD.refl _ _)
   rw[hcs] at hown
   rw[show jD []=[] from List.eq_nil_of_length_eq_zero (zZ [])]
   exact hown
  ·have ho':w.ownsRow 0 e (S.sz (.int .i64)) (.slice gh.a gh.n gh.c) gh.n cs:=hown
   rcases ho'.2 with⟨hv,_⟩|⟨b',cap,cur,hv,hb,hgh,hnc,hcm,hcs',htake⟩
   ·rw[ha] at hv;cases hv
   ·injection hv with e1 e2 e3
    rw[ha] at e1
    injection e1 with e1
    injection e1 with e1
    subst e1 e3
    have hz:S.sz (.int .i64)=1:=rfl
    have hH:Go.Sort.Holds (Value.int .i64) w b 0 l.toArray:=Go.holds_of_blockI hgh (by rw[<-hcs,<-htake,hz,Nat.mul_one,hlen2])
    have e1:([Value.slice gh.a gh.n gh.c]:List Value).toArray= #[.slice (some ⟨b,0,none⟩) l.length gh.c]:=by rw[ha,hlen2]
    rw[e1]
    refine Calls.mono (hraw.1 b gh.c l w hH (Array.getElem?_eq_some_iff.1 hgh).1 (by omega)) λe' w' ⟨h1,k,os,h2⟩=> ?_
    subst h1 h2
    refine fin _ ?_ (bD.grown (Go.grownBy_sortedI _) (λc hc=>by injection hc with hc;subst hc;rw[ha];simp[Asn.fp]) (Nat.le_add_right _ _))
    rw[ha,hlen2]
    exact Go.ownsRow_sortedI (zZ l) (Nat.zero_le _) hgh (by omega) hcm hcs'
 ·cases hy'
end Go.Bur
namespace Go.Bur
open Go.RowKit
set_option linter.unusedVariables false
set_option linter.unusedSimpArgs false
section
variable {α : Type} (f : α -> α -> Option Int)
def wQ(x y:α):Int:=(f x y).getD 0
structure My(l:List α):Prop where
 all:∀x∈l,∀y∈l,∃c,f x y=some c
 irr:∀x∈l,¬wQ f x x<0
 tr:∀x∈l,∀y∈l,∀z∈l,wQ f x y<0->wQ f y z<0->wQ f x z<0
 tot:∀x∈l,∀y∈l,¬wQ f x y<0->¬wQ f y x<0->x=y
def Im(l r:List α):Prop:=r.Perm l/\r.Pairwise λx y=>¬wQ f y x<0
open Classical in
noncomputable def JZ(l:List α):Option (List α):=if h:My f l/\∃r,Im f l r then some (Classical.choose h.2) else none
theorem ET{l:List α}(h:My f l):∀{r s:List α},r.Perm s->(∀x∈r,x∈l)->r.Pairwise (λx y=>¬wQ f y x<0)->s.Pairwise (λx y=>¬wQ f y x<0)->r=s
 |[],s,hp,_,_,_=>(List.nil_perm.1 hp).symm
 |x::r,[],hp,_,_,_=>absurd hp.length_eq (by simp)
 |x::r,y::s,hp,hl,h1,h2=>by
  have hx:=hl x (List.mem_cons_self ..)
  have hy:=hl y (hp.mem_iff.2 (List.mem_cons_self ..))
  obtain⟨p1,p2⟩:=List.pairwise_cons.1 h1
  obtain⟨q1,q2⟩:=List.pairwise_cons.1 h2
  have e:x=y:=by
   rcases List.mem_cons.1 (hp.mem_iff.1 (List.mem_cons_self ..):x∈y::s) with e|hm
   ·exact e
   ·rcases List.mem_cons.1 (hp.mem_iff.2 (List.mem_cons_self ..):y∈x::r) with e|hm'
    ·exact e.symm
    ·exact h.tot x hx y hy (q1 x hm) (p1 y hm')
  subst e
  rw[ET h hp.cons_inv (λz hz=>hl z (List.mem_cons_of_mem _ hz)) p2 q2]
theorem Wx{l r:List α}(h:My f l)(hr:Im f l r):JZ f l=some r:=by
 have hh:My f l/\∃r,Im f l r:=⟨h,r,hr⟩
 unfold JZ
 rw[dif_pos hh]
 have hc:=Classical.choose_spec hh.2
 exact congrArg some (ET f h (hc.1.trans hr.1.symm) (λx hx=>hc.1.mem_iff.1 hx) hc.2 hr.2)
theorem R3{l r:List α}(h:JZ f l=some r):My f l/\Im f l r:=by
 unfold JZ at h
 split at h
 ·rename_i hh
  rw[<-Option.some.inj h]
  exact⟨hh.1,Classical.choose_spec hh.2⟩
 ·cases h
end
theorem Qo{w:World}{g n:Nat}{os:Array Obj}{cur:Array Value}{e:TypeId}{fr:Nat×Nat}(d:Array Value)(hb:w.heap[g]? =some (.cells cur e fr)):
  (Go.Sort.grow (Go.Sort.putRow id (Go.Sort.ahead w n) g 0 d) os).heap[g]? =some (.cells (Go.Sort.putCells id 0 d cur) e fr):=by
 have hg:g<w.heap.size:=(Array.getElem?_eq_some_iff.1 hb).1
 rw[Go.Sort.heap_grow_old _ _ (by simpa using hg)]
 simp[Go.Sort.putRow,Go.Sort.mapBlock,Go.Sort.ahead,Array.getElem?_modify,hb,Go.Sort.onCells]
theorem J0{w:World}{g n:Nat}{os:Array Obj}(d:Array Value):w.grownBy (Go.Sort.grow (Go.Sort.putRow id (Go.Sort.ahead w n) g 0 d) os) (some g):=by
 refine⟨rfl,rfl,rfl,by simp,λk hk hne=> ?_⟩
 rw[Go.Sort.heap_grow_old _ _ (by simpa using hk)]
 have:g≠k:=λe=>hne (by rw[e])
 simp[Go.Sort.putRow,Go.Sort.mapBlock,Go.Sort.ahead,Array.getElem?_modify,this]
theorem J1(cur:Array Value)(ts:List Value)(h:ts.length<=cur.size):(Go.Sort.putCells id 0 ts.toArray cur).toList.take ts.length=ts:=by
 apply List.ext_getElem?
 intro j
 by_cases hj:j<ts.length
 ·rw[List.getElem?_take_of_lt hj,Array.getElem?_toList]
  simp[Go.Sort.putCells,hj,show j<cur.size by omega]
 ·rw[List.getElem?_take_eq_none (by omega),List.getElem?_eq_none (by omega)]
theorem R4{w:World}{g cap m n e sz:Nat}{os:Array Obj}{cur:Array Value}{ts:List Value}(hl:ts.length=n*sz)(hb:w.heap[g]? =some (.cells cur e (0,0)))(h1:n<=cap)(h2:cap<=maxLen)(h3:cur.size=cap*sz):
  (Asn.row (some ⟨g,0,none⟩) cap e sz n ts).holds (Go.Sort.grow (Go.Sort.putRow id (Go.Sort.ahead w m) g 0 ts.toArray) os):=by
 have hm:=Nat.mul_le_mul_right sz h1
 exact⟨hl,.inr ⟨g,cap,_,rfl,Nat.zero_le _,Qo _ hb,h1,h2,by simp[Go.Sort.putCells,h3],by rw[<-hl];exact J1 cur ts (by omega)⟩⟩
theorem Wy{w:World}{g:Nat}{cur:Array Value}{e:TypeId}{ss:List Value}(hb:w.heap[g]? =some (.cells cur e (0,0)))(ht:cur.toList.take ss.length=ss):Go.Sort.Holds id w g 0 ss.toArray:=by
 intro j hj
 have hj':j<ss.length:=by simpa using hj
 refine⟨?_,by simp[World.frozen?,hb]⟩
 have h1:(cur.toList.take ss.length)[j]? =ss[j]? :=by rw[ht]
 rw[List.getElem?_take_of_lt hj'] at h1
 simp only[World.cell?,hb,Nat.zero_add]
 simp only[Option.isSome_none,Bool.false_eq_true,if_false]
 rw[<-Array.getElem?_toList,h1]
 simp[hj']
theorem J2{α:Type}[Inhabited α]{enc:α->List Value}{k:Nat}(hk:∀x,(enc x).length=k):∀(d:List α)(t:Nat),t<d.length*k->(d.flatMap enc)[t]? =some ((enc (d.toArray[t/k]!))[t % k]!)
 |[],t,h=>by simp at h
 |x::d,t,h=>by
  have hk0:0<k:=by
   rcases Nat.eq_zero_or_pos k with h0|h0
   ·subst h0;simp at h
   ·exact h0
  rw[List.flatMap_cons]
  by_cases ht:t<k
  ·rw[List.getElem?_append_left (by rw[hk];exact ht),Nat.div_eq_of_lt ht,Nat.mod_eq_of_lt ht]
   have:t<(enc x).length:=by rw[hk];exact ht
   simp[this]
  ·have h2:t-k<d.length*k:=by rw[List.length_cons,Nat.succ_mul] at h;omega
   rw[List.getElem?_append_right (by rw[hk];omega),hk,J2 hk d (t-k) h2]
   have e1:t/k=(t-k)/k+1:=by rw[<-Nat.div_eq_sub_div hk0 (by omega)]
   have e2:t % k=(t-k) % k:=(Nat.mod_eq_sub_mod (by omega))
   rw[e1,e2]
   have hlt:(t-k)/k<d.length:=(Nat.div_lt_iff_lt_mul hk0).2 h2
   simp[hlt]
theorem Cw{α:Type}{enc:α->List Value}{k:Nat}(hk:∀x,(enc x).length=k):∀d:List α,(d.flatMap enc).length=d.length*k
 |[]=>by simp
 |x::d=>by rw[List.flatMap_cons,List.length_append,hk,Cw hk d,List.length_cons,Nat.succ_mul,Nat.add_comm]
theorem J3{α:Type}[Inhabited α]{enc:α->List Value}{k:Nat}(hk:∀x,(enc x).length=k)(d:List α):Go.Sort.flatK enc k d.toArray=(d.flatMap enc).toArray:=by
 refine Array.ext_getElem? λt=> ?_
 by_cases ht:t<d.length*k
 ·have h1:(d.flatMap enc).toArray[t]? =(d.flatMap enc)[t]? :=by simp
  rw[h1,J2 hk d t ht]
  simp[Go.Sort.flatK,ht]
 ·rw[Array.getElem?_eq_none (by simp[Go.Sort.flatK];omega),Array.getElem?_eq_none (by simp[Cw hk];omega)]
section
variable {P : Program} {S : Tab}
def abv(P:Program)(S:Tab)(gd:Nat)(t:Ty)(f:Nat->Dn S.τ t->Dn S.τ t->Option Int):Prop:=
 ∀n x y c,f n x y=some c->∀(w:World)(Ps:List (World->Prop))(vx vy:Value),St [] w [] Ps->bJ S VB Ps (Ia S t x) vx->bJ S VB Ps (Ia S t y) vy->
  Calls P gd #[vx,vy] w λe w'=>e= .returned (.int .i64 c)/\bD [] w w'
structure Elt(S:Tab)(t:Ty)(l:List (Dn S.τ t))(F:List Nat)(w:World) where
 x:Dn S.τ t
 cs:List Value
 mem:x∈l
 rep:Bx F w (λw'=>(S.GT t).rep w' cs x)
theorem els{t:Ty}{F:List Nat}{w:World}{l0:List (Dn S.τ t)}:∀(l:List (Dn S.τ t))(cs:List Value),(∀x∈l,x∈l0)->Bx F w (kB (S.GT t) cs l)->∃ds:List (Elt S t l0 F w),ds.map (·.x)=l/\ds.flatMap (·.cs)=cs
 |[],cs,_,h=>by
  have h0:gN (S.GT t) w cs []:=h.here
  cases h0
  exact⟨[],rfl,rfl⟩
 |x::l,cs,hl,h=>by
  have h0:gN (S.GT t) w cs (x::l):=h.here
  cases h0 with
  | @cons e _ cs' _ h1 h2=>
   have hsplit:∀w',bD F w w'->(S.GT t).rep w' e x/\gN (S.GT t) w' cs' l:=by
    intro w' hk
    have h3:gN (S.GT t) w' (e++cs') (x::l):=h w' hk
    generalize hq:e++cs'=q at h3
    cases h3 with
    | @cons e2 _ cs2 _ h4 h5=>
     have hlen:e.length=e2.length:=by rw[(S.GT t).len h1,(S.GT t).len h4]
     obtain⟨rfl,rfl⟩:=List.append_inj hq hlen
     exact⟨h4,h5⟩
   obtain⟨ds,g1,g2⟩:=els l cs' (λy hy=>hl y (List.mem_cons_of_mem _ hy)) λw' hk=>(hsplit w' hk).2
   exact⟨⟨x,e,hl x (List.mem_cons_self ..),λw' hk=>(hsplit w' hk).1⟩::ds,by simp[g1],by simp[g2]⟩
theorem Qp{t:Ty}{F:List Nat}{w w':World}{l0:List (Dn S.τ t)}(hk:bD F w w'):∀ds:List (Elt S t l0 F w),gN (S.GT t) w' (ds.flatMap (·.cs)) (ds.map (·.x))
 |[]=> .nil
 |d::ds=>by
  rw[List.flatMap_cons,List.map_cons]
  exact .cons (d.rep w' hk) (Qp hk ds)
theorem aam{t:Ty}{F:List Nat}{w:World}{l:List (Dn S.τ t)}{f:Dn S.τ t->Dn S.τ t->Option Int}(h:My f l):Go.Sort.SWO (Go.Proofs.ltOf λp q:Elt S t l F w=>wQ f p.x q.x) where
 irrefl p:=decide_eq_false (h.irr _ p.mem)
 trans p q r h1 h2:=decide_eq_true (h.tr _ p.mem _ q.mem _ r.mem (of_decide_eq_true h1) (of_decide_eq_true h2))
 ntrans p q r h1 h2:=by
  have h1:¬wQ f p.x q.x<0:=of_decide_eq_false h1
  have h2:¬wQ f q.x r.x<0:=of_decide_eq_false h2
  refine decide_eq_false λh3=> ?_
  have h3:wQ f p.x r.x<0:=h3
  by_cases e1:wQ f q.x p.x<0
  ·exact h2 (h.tr _ q.mem _ p.mem _ r.mem e1 h3)
  ·have e:=h.tot _ p.mem _ q.mem h1 e1
   rw[e] at h3
   exact h2 h3
theorem S2(ok:bB S){i:Nat}{F:List Nat}{w:World}{cs:List Value}{x:Dn S.τ (.st i)}(h:Bx F w (λw'=>(S.GT (.st i)).rep w' cs x)):∃ps,(∀p∈ps,Bx F w p)/\bJ S VB ps (Ia S (.st i) x) (.agg cs.toArray):=by
 obtain⟨ps,h1,h2⟩:=CI (S:=S) (S.lv i) (ok.leaf i) cs (S.get i x) (F:=F) (w:=w) λw' hk=>(ok.rep i w' cs x).1 (h w' hk)
 exact⟨ps,h1,cs,rfl,h2 VB⟩
@[reducible] noncomputable def Ol(S:Tab)(g gd e:Nat)(t:Ty)(f:Nat->Dn S.τ t->Dn S.τ t->Option Int):Ct S:=
 ⟨g,[.one (.own 0),.one (.fn gd [])],[.row e t],[],[(some 0,.row e t)],List (Dn S.τ t),λy=>(y,()),λy=>y.1,λ_=>rfl,λn x=>match Nat.ble (@List.length (Dn S.τ t) x.1) 4611686018427387903 with|true=>JZ (f n) x.1|false=>none⟩
theorem HQ{w:World}{g n:Nat}{os:Array Obj}(d:Array Value):bD [g] w (Go.Sort.grow (Go.Sort.putRow id (Go.Sort.ahead w n) g 0 d) os):=
 bD.grown (J0 d) (λc hc=>by injection hc with hc;simp[hc]) (Nat.le_add_right _ _)
theorem Wz{ρ0:Go.Shelf.Ren}(ok:bB S)(L:Go.Proofs.SlLaysF0.n6 P ρ0){g gd e i:Nat}{f:Nat->Dn S.τ (.st i)->Dn S.τ (.st i)->Option Int}(hg0:ρ0.f 6=g)(he0:ρ0.t 24=e)(aE:∀w,(isAgg e).run P w= .ok true w)(zE:∀w,(Go.sizeOf e).run P w= .ok (S.sz (.st i)) w)
  (hcall:∀args w,(callFunc g args).run P w= .ok (.enter g args) w) (hcd:∀args w,(callFunc gd args).run P w= .ok (.enter gd args) w) (hC:abv P S gd (.st i) f):OkC P S (Ol S g gd e (.st i) f):=by
 refine⟨hcall, ?_⟩
 intro n x y hy R w ρ As Ps args hst hdom hargs hits
 obtain⟨l,xu⟩:=x
 have hy':(match Nat.ble l.length 4611686018427387903 with|true=>JZ (f n) l|false=>none)=some y:=hy
 split at hy'
 ·rename_i hlen
  have hlen:=Nat.le_of_ble_eq_true hlen
  obtain⟨hgood,hperm,hsort⟩:=R3 (f n) hy'
  obtain⟨v,vs,rfl,hv,hvs⟩:=aH.cons_left hargs
  obtain⟨v2,vs2,rfl,hv2,hvs2⟩:=aH.cons_left hvs
  have e0:=aH.nil_left hvs2
  subst e0
  obtain⟨A,As',rfl,hA,hr⟩:=aH.cons_left hits
  have e0:=aH.nil_left hr
  subst e0
  obtain⟨gh,cs,hg,rfl,hn,hmem⟩:=kU hA
  obtain⟨gh',hg',rfl⟩:=hv
  rw[hg] at hg'
  obtain rfl:=someI' hg'
  obtain⟨us,rfl,hus⟩:=hv2
  have e0:=aH.nil_left hus
  subst e0
  have hown:=hst.own _ (List.mem_singleton_self _)
  have hlen2:gh.n=l.length:=hn
  obtain⟨F,hFe⟩:∃F,F=R++fps [Asn.row gh.a gh.c e (S.sz (.st i)) gh.n cs]:=⟨_,rfl⟩
  have hBx:Bx F w (kB (S.GT (.st i)) cs l):=by rw[hFe];exact hst.per _ hmem
  have hz:(S.GT (.st i)).sz=S.sz (.st i):=mV ok _
  have hyl:y.length=l.length:=hperm.length_eq
  have fin:∀(w':World)(ds:List (Elt S (.st i) l F w)),ds.map (·.x)=y->bD (Asn.row gh.a gh.c e (S.sz (.st i)) gh.n cs).fp w w'->(Asn.row gh.a gh.c e (S.sz (.st i)) gh.n (ds.flatMap (·.cs))).holds w'->
    ∃v ρ' As' Ps',Ending.returned (.tuple #[])=Ending.returned v/\Ls P S (Ol S g gd e (.st i) f) ρ ((Ol S g gd e (.st i) f).un y) v As' ρ' Ps'/\bD (fps [Asn.row gh.a gh.c e (S.sz (.st i)) gh.n cs]) w w'/\St R w' As' Ps'/\∀b∈fps As',b∈fps [Asn.row gh.a gh.c e (S.sz (.st i)) gh.n cs]\/w.heap.size<=b:=by
   intro w' ds hds hkeep hrow
   have h1:=hst.addPs (ps:=[kB (S.GT (.st i)) (ds.flatMap (·.cs)) y]) λp hp=>by
    rw[List.mem_singleton] at hp
    subst hp
    intro w2 hk
    rw[<-hFe] at hk
    have:=Qp hk ds
    rw[hds] at this
    exact this
   have h2:=St.set (B:= .row gh.a gh.c e (S.sz (.st i)) gh.n (ds.flatMap (·.cs))) h1 hkeep hrow (λb hb=> .inl (by rw[Oj (ds:=ds.flatMap (·.cs))];exact hb)) pQ
   refine⟨_,ρ,[.row gh.a gh.c e (S.sz (.st i)) gh.n (ds.flatMap (·.cs))],_,rfl,⟨⟨[],rfl,trivial⟩,⟨⟨gh,_,hg,rfl,by rw[hlen2];exact hyl.symm,List.mem_cons_self ..⟩,trivial⟩,λr g' hr=>hdom r g' hr,λr j p g' hr hj=> ?_⟩,by simpa[fps] using hkeep,h2,λb hb=> .inl (by simp only[fps,List.flatMap_cons,List.flatMap_nil,List.append_nil] at hb|-;rw[Oj (ds:=ds.flatMap (·.cs))];exact hb)⟩
   match r,hr with
   |0,hr=>
    simp only[List.getElem?_cons_zero,Option.some.injEq,Prod.mk.injEq] at hr
    obtain⟨rfl,_⟩:=hr
    exact hj
   |r+1,hr=>simp at hr
  obtain⟨ds0,hm0,hc0⟩:=els l cs (λx hx=>hx) hBx
  by_cases hl0:l=[]
  ·have hy0:y=[]:=List.eq_nil_of_length_eq_zero (by rw[hyl,hl0];rfl)
   have hd0:ds0=[]:=List.map_eq_nil_iff.1 (hm0.trans hl0)
   have h0:gh.n=0:=by rw[hlen2,hl0];rfl
   have e1:([Value.slice gh.a gh.n gh.c,Value.func (.func gd) #[] ([]:List Value).toArray]:List Value).toArray= #[.slice gh.a 0 gh.c,.func (.func gd) #[] #[]]:=by rw[h0]
   rw[e1]
   have hcon:=Go.Proofs.AnyF.slices_SortFunc_none L gh.a gh.c (.func (.func gd) #[] #[]) w
   rw[hg0] at hcon
   refine Calls.mono hcon λe' w' ⟨h1,h2⟩=> ?_
   subst h1 h2
   refine fin _ ds0 (by rw[hd0,hy0];rfl) (bD.refl _ _) ?_
   rw[hc0]
   exact hown
  ·obtain⟨b,ha⟩:=qX hown (by rw[hlen2];exact λh=>hl0 (List.eq_nil_of_length_eq_zero h))
   have ho':w.ownsRow 0 e (S.sz (.st i)) (.slice gh.a gh.n gh.c) gh.n cs:=hown
   rcases ho'.2 with⟨hv,_⟩|⟨b',cap,cur,hv,hb,hgh,hnc,hcm,hcs',htake⟩
   ·rw[ha] at hv;cases hv
   ·injection hv with e1 e2 e3
    rw[ha] at e1
    injection e1 with e1
    injection e1 with e1
    subst e1 e3
    have hF:b∈F:=by rw[hFe,ha];simp[fps,Asn.fp]
    obtain⟨d00,hd00⟩:∃d,d∈ds0:=by
     cases ds0 with
     |nil=>exact absurd hm0.symm hl0
     |cons d r=>exact⟨d,List.mem_cons_self ..⟩
    letI:Inhabited (Elt S (.st i) l F w):=⟨d00⟩
    have hk:∀x:Elt S (.st i) l F w,x.cs.length=S.sz (.st i):=λx=>((S.GT (.st i)).len x.rep.here).trans hz
    have h1c:∀x:Elt S (.st i) l F w,∀v∈x.cs,v.oneCell'=true:=λx=>(S.GT (.st i)).one x.rep.here
    have hsz:ds0.toArray.size=gh.n:=by rw[List.size_toArray,hlen2];have:=congrArg List.length hm0;rwa[List.length_map] at this
    have hflat:Go.Sort.flatK (λx:Elt S (.st i) l F w=>x.cs) (S.sz (.st i)) ds0.toArray=cs.toArray:=by rw[J3 hk,hc0]
    have hH:Go.Sort.HoldsK (λx:Elt S (.st i) l F w=>x.cs) (S.sz (.st i)) w b 0 ds0.toArray:=by
     unfold Go.Sort.HoldsK
     rw[hflat]
     exact Wy hgh (by rw[ho'.1];exact htake)
    have hcmp:Go.Proofs.CmpLays P gd #[] (λx:Elt S (.st i) l F w=>x.cs) (S.sz (.st i)) (λp q=>wQ (f n) p.x q.x) b 0 ds0.toArray.size w:=by
     intro m os dk hs x z
     have hkW:bD [b] w (Go.Proofs.sortWorldK (λx:Elt S (.st i) l F w=>x.cs) (S.sz (.st i)) w b 0 m dk os):=HQ _
     generalize Go.Proofs.sortWorldK (λx:Elt S (.st i) l F w=>x.cs) (S.sz (.st i)) w b 0 m dk os=W at hkW
     have hrep:∀x:Elt S (.st i) l F w,Bx [] W (λw'=>(S.GT (.st i)).rep w' x.cs x.x):=λx W' hk'=>x.rep W' ((hkW.step hk' (by simp)).weak λc hc=>by
      rw[List.mem_singleton] at hc
      rw[hc];exact hF)
     obtain⟨p1,a1,a2⟩:=S2 ok (hrep x)
     obtain⟨p2,b1,b2⟩:=S2 ok (hrep z)
     obtain⟨c,hc⟩:=hgood.all _ x.mem _ z.mem
     have hcc:wQ (f n) x.x z.x=c:=by unfold wQ;rw[hc];rfl
     have hSt:St [] W [] (p1++p2):=⟨by simp,by simp[fps],by simp[fps],λp hp=>by
      rcases List.mem_append.1 hp with hp|hp
      ·exact a1 p hp
      ·exact b1 p hp,λp hp=>(hst.gl p hp).step hkW (λc hc=> .inl (by rw[List.mem_singleton] at hc;rw[hc];rw[<-hFe];exact hF)) (by simp[fps])⟩
     have hcall2:=hC n x.x z.x c hc W (p1++p2) _ _ hSt (a2.mono (λ_ _ h=>h) λp hp=>List.mem_append_left _ hp) (b2.mono (λ_ _ h=>h) λp hp=>List.mem_append_right _ hp)
     rw[Array.append_empty]
     refine Calls.mono hcall2 λe' w' ⟨h1,h2⟩=> ?_
     exact⟨by rw[h1];exact congrArg (λc=>Ending.returned (.int .i64 c)) hcc.symm,Uh h2⟩
    have hcon:=Go.Proofs.AnyQ.slices_SortFunc L (S.sz (.st i)) (he0▸aE) (he0▸zE) (λx:Elt S (.st i) l F w=>x.cs) hk h1c (λp q=>wQ (f n) p.x q.x) (aam hgood) gd #[] b 0 gh.c ds0.toArray w hcd hcmp hH (Array.getElem?_eq_some_iff.1 hgh).1 (by rw[hsz,hlen2];omega)
    rw[hg0,hsz] at hcon
    have e1:([Value.slice gh.a gh.n gh.c,Value.func (.func gd) #[] ([]:List Value).toArray]:List Value).toArray= #[.slice (some ⟨b,0,none⟩) gh.n gh.c,.func (.func gd) #[] #[]]:=by rw[ha]
    rw[e1]
    refine Calls.mono hcon λe' w' ⟨h1,d',k',os,hp,hsrt,h2⟩=> ?_
    subst h1
    obtain⟨q1,_,q3⟩:=hp
    have hsz':d'.size=gh.n:=q1.trans hsz
    rw[<-hsz] at q3
    rw[Array.extract_eq_self_of_le (by rw[q1];exact Nat.le_refl _),Array.extract_eq_self_of_le (Nat.le_refl _)] at q3
    have hperm':(d'.toList.map (·.x)).Perm l:=by
     have:=q3.map (·.x)
     rwa[List.toList_toArray,hm0] at this
    have hpw:(d'.toList.map (·.x)).Pairwise λx y=>¬wQ (f n) y x<0:=by
     rw[List.pairwise_map,List.pairwise_iff_getElem]
     intro i1 j1 hi1 hj1 hij
     have:=hsrt i1 j1 (Nat.zero_le _) hij (by rw[<-hsz'];simpa using hj1)
     rw[getElem!_pos d' i1 (by simpa using hi1),getElem!_pos d' j1 (by simpa using hj1)] at this
     simpa using of_decide_eq_false this
    have hyd:d'.toList.map (·.x)=y:=ET (f n) hgood (hperm'.trans hperm.symm) (λx hx=>hperm'.mem_iff.1 hx) hpw hsort
    have hfl:Go.Sort.flatK (λx:Elt S (.st i) l F w=>x.cs) (S.sz (.st i)) d'=(d'.toList.flatMap (·.cs)).toArray:=by
     have:=J3 hk d'.toList
     rwa[Array.toArray_toList] at this
    have hw':w'=Go.Sort.grow (Go.Sort.putRow id (Go.Sort.ahead w k') b 0 (d'.toList.flatMap (·.cs)).toArray) os:=by rw[h2,<-hfl];rfl
    refine fin w' d'.toList hyd (by rw[hw',ha];exact HQ _) ?_
    rw[hw',ha]
    exact R4 (by rw[Cw hk,Array.length_toList,hsz']) hgh hnc hcm hcs'
 ·cases hy'
end
end Go.Bur
namespace Go.Bur
open Go.RowKit
set_option linter.unusedVariables false
set_option linter.unusedSimpArgs false
section
variable {P : Program} {S : Tab}
end
end Go.Bur
