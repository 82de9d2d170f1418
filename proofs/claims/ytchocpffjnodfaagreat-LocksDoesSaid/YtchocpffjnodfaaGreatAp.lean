import Derived.Test.YtchocpffjnodfaaGreatAl
namespace Go.Bur
open Go.RowKit
set_option linter.unusedVariables false
set_option linter.unusedSimpArgs false
def appChk(P:Program)(t:TypeId):Option (TypeId×Nat×Nat):=match P.underlying t with
 |some (.slice e)=>match P.info? e with
  |some inf=>match inf.zero with
   |some z=>match Nat.beq z.cells.size inf.size,Nat.ble 1 inf.size,Nat.ble 1 inf.bytes with
    |true,true,true=>some (e,inf.size,inf.bytes)
    |_,_,_=>none
   |none=>none
  |none=>none
 |_=>none
theorem appChk_sound{P:Program}{t e sz bytes:Nat}(h:appChk P t=some (e,sz,bytes)):AppT P t e sz bytes:=by
 unfold appChk at h
 split at h
 ·rename_i e' hu
  split at h
  ·rename_i inf hi
   split at h
   ·rename_i z hz
    split at h
    ·rename_i h1 h2 h3
     simp only[Option.some.injEq,Prod.mk.injEq] at h
     obtain⟨rfl,rfl,rfl⟩:=h
     exact⟨hu,⟨inf,z,hi,hz,rfl,rfl,Nat.eq_of_beq_eq_true h1⟩,Nat.le_of_ble_eq_true h2,Nat.le_of_ble_eq_true h3⟩
    ·cases h
   ·cases h
  ·cases h
 ·cases h
section
variable {P : Program} {S : Tab} {R : Type}
def castL{S:Tab}{t u:Ty}(l:List (Dn S.τ t)):Option (List (Dn S.τ u)):=match Ty.eq? t u with
 |some h=>some (h.down▸l)
 |none=>none
def srcOf(S:Tab)(ev:Ev S.τ)(it:Nat→Option (Item S.τ))(u:Ty)(x:Operand):Option (List (Dn S.τ u)×List Nat):=match ev x with
 |some (.v (.one (.d (.sl t) l)))=>match castL (S:=S) (u:=u) (l:List (Dn S.τ t)) with
  |some m=>some (m,[])
  |none=>none
 |some (.v (.one .nil))=>some ([],[])
 |some (.v (.one (.own j)))=>match it j with
  |some (.row _ t l)=>match castL (S:=S) (u:=u) l with
   |some m=>some (m,[j])
   |none=>none
  |_=>none
 |_=>none
theorem castL_eq{t u:Ty}{l:List (Dn S.τ t)}{m:List (Dn S.τ u)}(h:castL (S:=S) (u:=u) l=some m):∃e:t=u,m=e▸l:=by
 unfold castL at h
 split at h
 ·rename_i p _
  obtain rfl:=someI' h
  exact⟨p.down,rfl⟩
 ·cases h
theorem srcOf_rel(ok:TabOk S){ev:Ev S.τ}{it:Nat→Option (Item S.τ)}{u:Ty}{x:Operand}{m:List (Dn S.τ u)}{js:List Nat}(h:srcOf S ev it u x=some (m,js)){a:Act}{w:World}{F:List Nat}{ρ:Rho}{Ps:List (World→Prop)}{us:List (Nat×Item S.τ)}{Au:List Asn}
  (hev:EvRel S ρ Ps ev a) (hp:∀p∈Ps,Bx F w p) (hus:us.map (·.1)=js) (hit:∀x∈us,it x.1=some x.2) (hAu:All2 (RelItem S ρ Ps P) us Au) (hh:∀A∈Au,A.holds w):
  ∃b c ms,a.eval x= .slice b m.length c∧CellsAt w (baseOf b) ms∧(b=none→m.length=0)∧Bx F w (RepsB (S.GT u) ms m):=by
 unfold srcOf at h
 split at h
 ·rename_i t l hx
  split at h
  ·rename_i m' hc
   simp only[Option.some.injEq,Prod.mk.injEq] at h
   obtain⟨rfl,rfl⟩:=h
   obtain⟨rfl,rfl⟩:=castL_eq hc
   obtain⟨A,c,hxv,hl⟩:=hev _ _ hx
   rcases hl with hl|hl
   ·have hz: @List.length (Dn S.τ t) m'=0:=by rw[hl];rfl
    refine⟨A,c,[],hxv,CellsAt.nil _ _,λ_=>hz,λw' _=> ?_⟩
    have:∀l:List (Dn S.τ t),l=[]→Reps (S.GT t) w' [] l:=λl h=>h▸ .nil
    exact this _ hl
   ·have hRS:=hp _ hl
    obtain⟨cs,_,h1,h2⟩:=stable (A:=baseOf A) (n:=List.length (α:=Dn S.τ t) m'*(S.GT t).sz) (p:=λw cs=>Reps (S.GT t) w cs m') (λw cs h=>h.len) λw' hk=>(hRS w' hk).reps
    refine⟨A,c,cs,hxv,h1.here,λhA=> ?_,h2⟩
    by_cases e:m'=[]
    ·rw[e];rfl
    ·exact absurd hA (hRS.here.some_ e)
  ·cases h
 ·rename_i hx
  simp only[Option.some.injEq,Prod.mk.injEq] at h
  obtain⟨rfl,rfl⟩:=h
  have hxv:a.eval x= .slice none 0 0:=hev _ _ hx
  exact⟨none,0,[],hxv,CellsAt.nil _ _,λ_=>rfl,λ_ _=> .nil⟩
 ·rename_i j hx
  split at h
  ·rename_i e t l hj
   split at h
   ·rename_i m' hc
    simp only[Option.some.injEq,Prod.mk.injEq] at h
    obtain⟨rfl,rfl⟩:=h
    obtain⟨rfl,rfl⟩:=castL_eq hc
    obtain⟨A,rfl,_,h1⟩:=use1 hus hit hj hAu
    obtain⟨g,cs,hg,rfl,hn,hmem⟩:=row_open h1
    obtain⟨g',hg',hxv⟩:=hev _ _ hx
    rw[hg] at hg'
    obtain rfl:=someI' hg'
    obtain⟨h2,h3,h4⟩:=row_cells (hh _ (List.mem_singleton_self _))
    refine⟨g.a,g.c,cs,by rw[hxv,hn],h2,λe=> ?_,hp _ hmem⟩
    by_cases h0:g.n=0
    ·exact hn▸h0
    ·exact absurd e (h4 h0)
   ·cases h
  ·cases h
 ·cases h
def opApp(P:Program)(S:Tab)(ty:TypeId→Option Ty)(ev:Ev S.τ)(it:Nat→Option (Item S.τ))(nx:Nat)(t:TypeId)(s x:Operand)(k:Out S.τ→Option R):Option R:=match appChk P t with
 |some (e,sz,bytes)=>match ev s with
  |some (.v (.one (.own j)))=>match it j with
   |some (.row e' u l)=>match srcOf S ev it u x,Nat.beq e e',Nat.beq sz (S.sz u) with
    |some (m,us),true,true=>(app bytes l m).bind λr=>k ⟨.v (.one (.own nx)),[j],[(nx,.row e u r)],us,1⟩
    |_,_,_=>none
   |_=>none
  |some (.v (.one .nil))=>match ty e with
   |some u=>match srcOf S ev it u x,Nat.beq sz (S.sz u) with
    |some (m,us),true=>(app bytes ([]:List (Dn S.τ u)) m).bind λr=>k ⟨.v (.one (.own nx)),[],[(nx,.row e u r)],us,1⟩
    |_,_=>none
   |none=>none
  |some (.v (.one (.full u l)))=>match srcOf S ev it u x,Nat.beq sz (S.sz u) with
   |some (m,us),true=>match(m:List (Dn S.τ u)) with
    |[]=>none
    |_::_=>(app bytes (l:List (Dn S.τ u)) m).bind λr=>k ⟨.v (.one (.own nx)),[],[(nx,.row e u r)],us,1⟩
   |_,_=>none
  |_=>none
 |none=>none
theorem run_append_full{w:World}{t ty e sz bytes m c2 k:Nat}{A b:Option Addr}{cs ms:List Value}(ht:AppT P t e sz bytes)(hc:CellsAt w (baseOf A) cs)(hlc:cs.length=k*sz)(hA:A=none→k=0)(hm:CellsAt w (baseOf b) ms)(hb:b=none→m=0)(hl:ms.length=m*sz)(h1:∀u∈ms,u.oneCell'=true)(hm0:m≠0)(hroom:room (k+m) bytes=true):
  ∃A' c' w',(Builtin.append_ #[t,t] ty #[.slice A k k,.slice b m c2]).run P w= .ok (.slice A' (k+m) c') w'∧(Asn.row A' c' e sz (k+m) (cs++ms)).holds w'∧Keep [] w w'∧
   ∀x∈(Asn.row A' c' e sz (k+m) (cs++ms)).fp,w.heap.size≤x∧x<w'.heap.size:=by
 cases A with
 |none=>
  obtain rfl:=hA rfl
  obtain rfl:cs=[]:=List.eq_nil_of_length_eq_zero (by simpa using hlc)
  obtain⟨A',c',w',g1,g2,g3,g4⟩:=run_append_st (P:=P) (w:=w) (ty:=ty) (A:=none) (c:=0) (cs:=[]) (k:=0) ht (World.ownsRow_nil w 0 e sz) hm hb hl h1 hroom
  exact⟨A',c',w',g1,g2,g3,λx hx=>(g4 x hx).resolve_left (by simp[Asn.fp])⟩
 |some g=>
  obtain⟨inf,z,hi,hz,hsize,hby,hzs⟩:=ht.i
  have hbytes:(k+m)*bytes≤140737488355328:=Nat.le_of_ble_eq_true hroom
  have h63:k+m≤maxLen:=by
   have:=Nat.le_trans (Nat.le_mul_of_pos_right (k+m) ht.b) hbytes
   simp only[maxLen];omega
  cases b with
  |none=>exact absurd (hb rfl) hm0
  |some B=>
   have h63':k+m≤9223372036854775807:=by simp only[maxLen] at h63;omega
   have hr:=run_append_grow (P:=P) w t ty e inf z ht.u hi hz g k k cs (by rw[hsize];exact hlc) (λj v hj=>hc j v hj) B m c2 ms (by rw[hsize];exact hl) (λj v hj=>hm j v hj) (by omega) (by omega) (by rw[hby];exact growslice_fits (by omega) hbytes)
   have hge:=grownCap_ge w (k+m) k e
   have hcm:grownCap w (k+m) k e≤maxLen:=grownCap_le_maxLen w (k+m) k e h63
   have hlen:(cs++ms).length=(k+m)*sz:=by rw[List.length_append,hlc,hl,Nat.add_mul]
   refine⟨_,_,_,hr,⟨hlen,.inr ⟨w.heap.size,_,_,rfl,Nat.zero_le _,heap_alloc_new w.drew _,hge,hcm, ?_, ?_⟩⟩,⟨rfl,rfl,rfl,Drn.drewPush,by simp,λk hk _=>heap_alloc_old w.drew _ hk⟩,λx hx=> ?_⟩
   ·simp only[Array.size_append,List.size_toArray,size_zeroCells,hzs,hlc,hl,←Nat.add_mul]
    congr 1
    omega
   ·simp only[Array.toList_append,List.append_assoc]
    rw[←List.append_assoc,←hlen]
    exact List.take_left
   ·simp only[Asn.fp,List.mem_singleton] at hx
    subst hx
    exact⟨Nat.le_refl _,by simp⟩
theorem opApp_sound(ok:TabOk S){ty:TypeId→Option Ty}{o:Oper}{ev:Ev S.τ}{it:Nat→Option (Item S.τ)}{nx:Nat}{t:TypeId}{s x:Operand}{k:Out S.τ→Option R}{r:R}(hop:appOp o.op=some (t,s,x))(h:opApp P S ty ev it nx t s x k=some r):∃out,k out=some r∧LocSem P S o ev it nx out:=by
 have hop:=appOp_sound hop
 have run:∀(a:Act)(w w':World)(v u u':Value),a.eval s=u→a.eval x=u'→(Builtin.append_ #[t,t] o.type #[u,u']).run P w= .ok v w'→(execOp a.eval o).run P w= .ok (.value v) w':=λa w w' v u u' h1 h2 h3=>by
  simp only[execOp,hop,resolve,invoke,builtin,Sem.run_bind,Sem.run_pure,Result.andThen_ok]
  simp[h1,h2,h3]
 have core:∀(e sz bytes:Nat)(u:Ty)(l m:List (Dn S.τ u))(us:List Nat)(rr:List (Dn S.τ u)),appChk P t=some (e,sz,bytes)→srcOf S ev it u x=some (m,us)→sz=S.sz u→app bytes l m=some rr→
   ∀(a:Act)(w:World)(R:List Nat)(ρ:Rho)(Ps:List (World→Prop))(A:Option Addr)(c:Nat)(cs:List Value)(Au:List Asn)(uu:List (Nat×Item S.τ)),EvRel S ρ Ps ev a→uu.map (·.1)=us→(∀x∈uu,it x.1=some x.2)→All2 (RelItem S ρ Ps P) uu Au→St R w (.row A c e (S.sz u) l.length cs::Au) Ps→Bx (R++fps (.row A c e (S.sz u) l.length cs::Au)) w (RepsB (S.GT u) cs l)→a.eval s= .slice A l.length c→ρ nx=none→
   ∀(K:Act→World→Prop)(Q:Exit→Act→World→Prop),(∀v w' ρ' Ps' Ap,Grow ρ ρ' nx 1→(∀p∈Ps,p∈Ps')→RelAV S ρ' Ps' (.v (.one (.own nx))) v→All2 (RelItem S ρ' Ps' P) [(nx,.row e u rr)] Ap→St R w' (Ap++Au) Ps'→Keep (Asn.row A c e (S.sz u) l.length cs).fp w w'→(∀b∈fps Ap,b∈(Asn.row A c e (S.sz u) l.length cs).fp∨w.heap.size≤b)→K (a.put o.dst v) w')→wpX P o a w K Q:=by
  intro e sz bytes u l m us rr hchk hsrc hsz happ a w R ρ Ps A c cs Au uu hev huu hit hAu hst hreps hs hnx K Q hK
  subst hsz
  have hT:=appChk_sound hchk
  obtain⟨hroom,rfl⟩:=app_some happ
  obtain⟨b,c2,ms,hxv,hcells,hb,hms⟩:=srcOf_rel (P:=P) ok hsrc hev hst.per huu hit hAu λB hB=>hst.own B (List.mem_cons_of_mem _ hB)
  obtain⟨A',c',w',hrun,hrow,hkeep,hfp⟩:=run_append_st (P:=P) (w:=w) (ty:=o.type) (k:=l.length) (m:=m.length) (c2:=c2) hT (hst.own _ (List.mem_cons_self ..)) hcells hb (by rw[hms.here.len,sz_eq ok]) hms.here.one hroom
  have hg:Grow ρ (ghost ρ nx ⟨A',c',l.length+m.length,0,noJ,noS⟩) nx 1:=ghost_grow hnx
  unfold wpX
  rw[run a w w' _ _ _ hs hxv hrun]
  have h1:=hst.addPs (ps:=[RepsB (S.GT u) (cs++ms) (l++m)]) λp hp=>by
   rw[List.mem_singleton] at hp
   subst hp
   intro w2 hk
   exact(hreps w2 hk).app (hms w2 hk)
  have h2:=St.set (B:= .row A' c' e (S.sz u) (l.length+m.length) (cs++ms)) h1 hkeep hrow hfp fp_row_nodup
  refine hK _ w' (ghost ρ nx ⟨A',c',l.length+m.length,0,noJ,noS⟩) _ [.row A' c' e (S.sz u) (l.length+m.length) (cs++ms)] hg (λp hp=>List.mem_cons_of_mem _ hp) ⟨_,ghost_at,rfl⟩ ⟨⟨_,_,ghost_at,rfl,by rw[List.length_append],List.mem_cons_self ..⟩,trivial⟩ h2 hkeep λb hb=> ?_
  simp only[fps,List.flatMap_cons,List.flatMap_nil,List.append_nil] at hb
  exact(hfp b hb).imp id (·.1)
 unfold opApp at h
 split at h
 ·rename_i e sz bytes hchk
  split at h
  ·rename_i j hs
   split at h
   ·rename_i e' u l hj
    split at h
    ·rename_i m us hsrc he hsz
     obtain rfl:=Nat.eq_of_beq_eq_true he
     obtain⟨rr,hr,h⟩:=bindS h
     refine⟨_,h, ?_⟩
     intro a w R ρ Ps At Au tk uu hd hev htk hus hit hAt hAu hst hn K Q hK
     obtain⟨A,rfl,h1⟩:=take1 htk (λx hx=>hit x (List.mem_append_left _ hx)) hj hAt
     obtain⟨g,cs,hg,rfl,hgn,hmem⟩:=row_open h1
     obtain⟨g',hg',hsv⟩:=hev _ _ hs
     rw[hg] at hg'
     obtain rfl:=someI' hg'
     rw[hgn] at hst hsv
     refine core e sz bytes u l m us rr hchk hsrc (Nat.eq_of_beq_eq_true hsz) hr a w R ρ Ps g.a g.c cs Au uu hev hus (λx hx=>hit x (List.mem_append_right _ hx)) hAu hst (hst.per _ hmem) hsv (hn nx (Nat.le_refl _) (Nat.lt_succ_self nx)) K Q λv w' ρ' Ps' Ap a1 a2 a3 a4 a5 a6 a7=>hK v w' ρ' Ps' Ap a1 a2 a3 a4 a5 ?_ ?_
     ·simp only[fps,List.flatMap_cons,List.flatMap_nil,List.append_nil]
      rw[hgn]
      exact a6
     ·intro b hb
      have:=a7 b hb
      simp only[fps,List.flatMap_cons,List.flatMap_nil,List.append_nil]
      rw[hgn]
      exact this
    ·cases h
   ·cases h
  ·rename_i hs
   split at h
   ·rename_i u hty
    split at h
    ·rename_i m us hsrc hsz
     obtain⟨rr,hr,h⟩:=bindS h
     refine⟨_,h, ?_⟩
     intro a w R ρ Ps At Au tk uu hd hev htk hus hit hAt hAu hst hn K Q hK
     have e0:tk=[]:=List.map_eq_nil_iff.1 htk
     subst e0
     have e0:=All2.nil_left hAt
     subst e0
     have hsv:a.eval s= .slice none 0 0:=hev _ _ hs
     have hst1:St R w (.row none 0 e (S.sz u) ([]:List (Dn S.τ u)).length []::Au) Ps:=St.new (A:= .row none 0 e (S.sz u) 0 []) hst (Ext.refl w) (World.ownsRow_nil w 0 e (S.sz u)) (by simp[Asn.fp]) (by simp[Asn.fp])
     exact core e sz bytes u [] m us rr hchk hsrc (Nat.eq_of_beq_eq_true hsz) hr a w R ρ Ps none 0 [] Au uu hev hus (λx hx=>hit x (List.mem_append_right _ hx)) hAu hst1 (λ_ _=> .nil) hsv (hn nx (Nat.le_refl _) (Nat.lt_succ_self nx)) K Q hK
    ·cases h
   ·cases h
  ·rename_i u l hs
   split at h
   ·rename_i m us hsrc hsz
    split at h
    ·cases h
    ·rename_i y ys
     obtain⟨rr,hr,h⟩:=bindS h
     refine⟨_,h, ?_⟩
     intro a w R ρ Ps At Au tk uu hd hev htk hus hit hAt hAu hst hn K Q hK
     have e0:tk=[]:=List.map_eq_nil_iff.1 htk
     subst e0
     have e0:=All2.nil_left hAt
     subst e0
     obtain rfl:=Nat.eq_of_beq_eq_true hsz
     obtain⟨A,hsv,hl⟩:=hev _ _ hs
     have hst1:St R w (.row none 0 e (S.sz u) 0 []::Au) Ps:=St.new (A:= .row none 0 e (S.sz u) 0 []) hst (Ext.refl w) (World.ownsRow_nil w 0 e (S.sz u)) (by simp[Asn.fp]) (by simp[Asn.fp])
     have hT:=appChk_sound hchk
     obtain⟨hroom,rfl⟩:=app_some hr
     have hRS:Bx (R++fps (Asn.row none 0 e (S.sz u) 0 []::Au)) w (RSg (S.GT u) A (@List.length (Dn S.τ u) l) l):=by
      rcases hl with hl|hl
      ·rw[hl];exact gnil
      ·exact hst1.per _ hl
     obtain⟨cs,_,hcells0,hreps⟩:=stable (A:=baseOf A) (n:=List.length (α:=Dn S.τ u) l*(S.GT u).sz) (p:=λw cs=>Reps (S.GT u) w cs l) (λw cs h=>h.len) λw' hk=>(hRS w' hk).reps
     have hcells:=hcells0.here
     obtain⟨b,c2,ms,hxv,hcs2,hb,hms⟩:=srcOf_rel (P:=P) ok hsrc hev hst1.per hus (λx hx=>hit x (List.mem_append_right _ hx)) hAu λB hB=>hst1.own B (List.mem_cons_of_mem _ hB)
     obtain⟨A',c',w',hrun,hrow,hkeep,hfp⟩:=run_append_full (P:=P) (w:=w) (ty:=o.type) (k:= @List.length (Dn S.τ u) l) (m:=(y::ys).length) (c2:=c2) hT hcells (by rw[hreps.here.len,sz_eq ok]) (λe=>by
      by_cases hz:l=[]
      ·rw[hz];rfl
      ·exact absurd e (hRS.here.some_ hz)) hcs2 hb (by rw[hms.here.len,sz_eq ok]) hms.here.one (by simp) hroom
     have hg:Grow ρ (ghost ρ nx ⟨A',c', @List.length (Dn S.τ u) l+(y::ys).length,0,noJ,noS⟩) nx 1:=ghost_grow (hn nx (Nat.le_refl _) (Nat.lt_succ_self nx))
     unfold wpX
     rw[run a w w' _ _ _ hsv hxv hrun]
     have h1:=hst1.addPs (ps:=[RepsB (S.GT u) (cs++ms) (l++(y::ys))]) λp hp=>by
      rw[List.mem_singleton] at hp
      subst hp
      intro w2 hk
      exact(hreps w2 hk).app (hms w2 hk)
     have h2:=St.set (B:= .row A' c' e (S.sz u) (@List.length (Dn S.τ u) l+(y::ys).length) (cs++ms)) h1 (by simpa[Asn.fp] using hkeep) hrow (λb hb=> .inr (hfp b hb)) fp_row_nodup
     refine hK _ w' (ghost ρ nx ⟨A',c', @List.length (Dn S.τ u) l+(y::ys).length,0,noJ,noS⟩) _ [.row A' c' e (S.sz u) (@List.length (Dn S.τ u) l+(y::ys).length) (cs++ms)] hg (λp hp=>List.mem_cons_of_mem _ hp) ⟨_,ghost_at,rfl⟩ ⟨⟨_,_,ghost_at,rfl,by rw[List.length_append],List.mem_cons_self ..⟩,trivial⟩ h2 (by simpa[fps] using hkeep) λb hb=> ?_
     simp only[fps,List.flatMap_cons,List.flatMap_nil,List.append_nil] at hb
     exact .inr (hfp b hb).1
   ·cases h
  ·cases h
 ·cases h
theorem Reps.takeN{α:Type}{G:GoT α}{w:World}{cs:List Value}{l:List α}(h:Reps G w cs l):∀k,k≤l.length→Reps G w (cs.take (k*G.sz)) (l.take k):=by
 induction h with
 |nil=>intro k hk;simp;exact .nil
 | @cons c cs x l h1 h2 ih=>
  intro k hk
  have hc:=G.len h1
  cases k with
  |zero=>simp;exact .nil
  |succ k=>
   rw[List.take_succ_cons,Nat.add_mul,Nat.one_mul,Nat.add_comm,List.take_append,hc,Nat.add_sub_cancel_left,List.take_of_length_le (by omega)]
   exact .cons h1 (ih k (by simpa using hk))
def isOwn1{τ:Nat→Type}:Option (AV τ)→Bool
 |some (.v (.one (.own _)))=>true
 |_=>false
def opSliceO(P:Program)(S:Tab)(ev:Ev S.τ)(it:Nat→Option (Item S.τ))(nx:Nat)(t:TypeId)(x:Operand)(lo hi:Option Operand)(k:Out S.τ→Option R):Option R:=match lo,hi,P.underlying t with
 |none,some y,some (.slice e)=>match ev x,P.info? e,asInt1 (ev y) with
  |some (.v (.one (.own j))),some inf,some (_,h1)=>match it j with
   |some (.row e' u l)=>match Nat.beq inf.size (S.sz u) with
    |true=>(sub l 0 h1).bind λm=>k ⟨.v (.one (.own nx)),[j],[(nx,.row e' u m)],[],1⟩
    |false=>none
   |_=>none
  |_,_,_=>none
 |_,_,_=>none
theorem opSliceO_sound(ok:TabOk S){o:Oper}{ev:Ev S.τ}{it:Nat→Option (Item S.τ)}{nx:Nat}{t:TypeId}{x:Operand}{lo hi:Option Operand}{k:Out S.τ→Option R}{r:R}(hop:o.op= .slice t x lo hi none)(h:opSliceO P S ev it nx t x lo hi k=some r):∃out,k out=some r∧LocSem P S o ev it nx out:=by
 obtain⟨dst,op,type,pos,after,guard⟩:=o
 simp only at hop
 subst hop
 unfold opSliceO at h
 split at h
 ·rename_i y e hu
  split at h
  ·rename_i j inf kh h1 hx hinf hh
   split at h
   ·rename_i e' u l hj
    split at h
    ·rename_i hsz
     obtain⟨m,hm,h⟩:=bindS h
     refine⟨_,h, ?_⟩
     intro a w R ρ Ps At Au tk uu hd hev htk hus hit hAt hAu hst hn K Q hK
     obtain⟨A,rfl,g1⟩:=take1 htk (λx hx=>hit x (List.mem_append_left _ hx)) hj hAt
     obtain⟨g,cs,hg,rfl,hgn,hmem⟩:=row_open g1
     obtain⟨g',hg',hxv⟩:=hev _ _ hx
     rw[hg] at hg'
     obtain rfl:=someI' hg'
     have e1:=asInt1_rel hev hh
     have hb:0≤h1∧h1≤(l.length:Int)∧m=l.take h1.toNat:=by
      unfold Bur.sub at hm
      split at hm
      ·rename_i hb
       obtain rfl:=someI' hm
       exact⟨hb.2.1,hb.2.2,by simp⟩
      ·cases hm
     obtain⟨b1,b2,rfl⟩:=hb
     have hrow:(Asn.row g.a g.c e' (S.sz u) g.n cs).holds w:=hst.own _ (List.mem_cons_self ..)
     have hcap:g.n≤g.c:=by
      rcases hrow.2 with⟨h3,h4⟩|⟨_,_,_,h3,_,_,h4,_⟩
      ·omega
      ·injection h3 with _ _ h5;omega
     have hlt:h1.toNat≤g.n:=by omega
     have hsl:slA g.a 0 g.c inf.size=g.a:=by
      unfold slA
      split
      ·rfl
      ·cases hA:g.a with
       |none=>rfl
       |some B=>simp[add_zero']
     have hrun:=run_slice_slice (P:=P) (lo:=none) (hi:=some (a.eval y)) (l:=0) (h:=h1) (a:=g.a) (m:=g.n) (c:=g.c) hu hinf rfl ⟨kh,e1⟩ (Int.le_refl 0) b1 (by omega) w
     have hlen:(l.take h1.toNat).length=h1.toNat:=by simp;omega
     have hB:(Asn.row g.a g.c e' (S.sz u) h1.toNat (cs.take (h1.toNat*S.sz u))).holds w:=by
      have hc0:cs.length=g.n*S.sz u:=hrow.1
      refine⟨?_, ?_⟩
      ·rw[List.length_take,hc0,Nat.min_eq_left (Nat.mul_le_mul_right _ hlt)]
      ·rcases hrow.2 with⟨h3,h4⟩|⟨G,cap,cur,h3,h4,h5,h6,h7,h8,h9⟩
       ·injection h3 with q1 q2 q3
        left
        rw[q1,q3,show h1.toNat=0 by omega]
        exact⟨rfl,rfl⟩
       ·injection h3 with q1 q2 q3
        right
        refine⟨G,cap,cur,by rw[q1,q3],h4,h5,by omega,h7,h8, ?_⟩
        rw[←h9,List.take_take,Nat.min_eq_left (Nat.mul_le_mul_right _ hlt)]
     have h2:=hst.addPs (ps:=[RepsB (S.GT u) (cs.take (h1.toNat*S.sz u)) (l.take h1.toNat)]) λp hp=>by
      rw[List.mem_singleton] at hp
      subst hp
      intro w2 hk
      have:=(hst.per _ hmem w2 hk).takeN h1.toNat (by omega)
      rw[sz_eq ok] at this
      exact this
     have h3:=St.set (B:=Asn.row g.a g.c e' (S.sz u) h1.toNat (cs.take (h1.toNat*S.sz u))) h2 (Keep.refl _ _) hB (λb hb=> .inl (by cases hA:g.a with|none=>rw[hA] at hb;simp[Asn.fp] at hb|some B=>rw[hA] at hb;simpa[Asn.fp] using hb)) fp_row_nodup
     have hgr:Grow ρ (ghost ρ nx ⟨g.a,g.c,h1.toNat,0,noJ,noS⟩) nx 1:=ghost_grow (hn nx (Nat.le_refl _) (Nat.lt_succ_self nx))
     unfold wpX
     simp only[execOp,hxv,Sem.run_bind,Option.map_none,Option.map_some]
     rw[hrun]
     simp only[Result.andThen_ok,Sem.run_pure]
     refine hK _ w (ghost ρ nx ⟨g.a,g.c,h1.toNat,0,noJ,noS⟩) _ [.row g.a g.c e' (S.sz u) h1.toNat (cs.take (h1.toNat*S.sz u))] hgr (λp hp=>List.mem_cons_of_mem _ hp) ⟨_,ghost_at, ?_⟩ ⟨⟨_,_,ghost_at,rfl,hlen.symm,List.mem_cons_self ..⟩,trivial⟩ h3 (Keep.refl _ _) λb hb=> .inl ?_
     ·rw[show(0:Int).toNat=0 from rfl,Nat.sub_zero,Nat.sub_zero,hsl]
     ·simp only[fps,List.flatMap_cons,List.flatMap_nil,List.append_nil] at hb⊢
      cases hA:g.a with
      |none=>rw[hA] at hb;simp[Asn.fp] at hb
      |some B=>rw[hA] at hb;simpa[Asn.fp] using hb
    ·cases h
   ·cases h
  ·cases h
 ·cases h
end
end Go.Bur
