import Derived.Test.YtlcmdgpjiendmaaGreatRun
namespace Go.Bur
open Go.RowKit
set_option linter.unusedVariables false
set_option linter.unusedSimpArgs false
def JQ:Nat->List Asn->Option (Asn×List Asn)
 |_,[]=>none
 |0,A::r=>some (A,r)
 |k+1,B::r=>match JQ k r with
  |some (A,r')=>some (A,B::r')
  |none=>none
def Cv:List Nat->List Asn->Option (List Asn×List Asn)
 |[],As=>some ([],As)
 |k::ks,As=>match JQ k As with
  |some (A,r)=>match Cv ks r with
   |some (p,r')=>some (A::p,r')
   |none=>none
  |none=>none
theorem ES:∀{k:Nat} {As:List Asn} {A:Asn} {r:List Asn},JQ k As=some (A,r)->As.Perm (A::r)
 |k,[],A,r,h=>by cases k<;>simp[JQ] at h
 |0,B::s,A,r,h=>by
  simp only[JQ,Option.some.injEq,Prod.mk.injEq] at h
  obtain⟨rfl,rfl⟩:=h
  exact List.Perm.refl _
 |k+1,B::s,A,r,h=>by
  simp only[JQ] at h
  split at h
  ·rename_i A1 r1 hk
   simp only[Option.some.injEq,Prod.mk.injEq] at h
   obtain⟨rfl,rfl⟩:=h
   exact((ES hk).cons B).trans (List.Perm.swap _ _ _)
  ·cases h
theorem wO:∀{ks:List Nat} {As p r:List Asn},Cv ks As=some (p,r)->As.Perm (p++r)
 |[],As,p,r,h=>by
  simp only[Cv,Option.some.injEq,Prod.mk.injEq] at h
  obtain⟨rfl,rfl⟩:=h
  exact List.Perm.refl _
 |k::ks,As,p,r,h=>by
  simp only[Cv] at h
  split at h
  ·rename_i A r1 hk
   split at h
   ·rename_i p1 r2 hp
    simp only[Option.some.injEq,Prod.mk.injEq] at h
    obtain⟨rfl,rfl⟩:=h
    exact(ES hk).trans ((wO hp).cons A)
   ·cases h
  ·cases h
section
variable {P : Program} {ops : Array Oper} {Q : Exit -> Act -> World -> Prop} {C : Cx} {n : Nat} {a : Act} {w : World} {L : Env} {As : List Asn} {Ps : List (World -> Prop)}
theorem Sy.env{L':Env}(h:Sy C n a w L As Ps)(e:L=L'):Sy C n a w L' As Ps:=e▸h
theorem Sy.p(h:Sy C n a w L As Ps)(k:Nat){p:World->Prop}(hk:Ps[k]? =some p):Bx (C.fr As) w p:=h.st.per p (List.mem_of_getElem? hk)
theorem Sy.addP{p:World->Prop}(h:Sy C n a w L As Ps)(hp:Bx (C.fr As) w p):Sy C n a w L As (p::Ps):=
 ⟨h.has,⟨h.st.own,h.st.lt,h.st.nd,λq hq=>by
  rcases List.mem_cons.1 hq with rfl|hq
  ·exact hp
  ·exact h.st.per q hq,h.st.gl⟩,h.keep,h.old⟩
theorem Sy.freeze{A:Asn}{As':List Asn}(h:Sy C n a w L As Ps)(k:Nat)(hk:JQ k As=some (A,As'))(p:World->Prop)(hp:∀w,A.holds w->p w):Sy C n a w L As' (p::Ps):=by
 have h1:=h.perm ((ES hk).trans (List.perm_append_comm (l₁:=[A])))
 have h2:=h1.sub (Qs:=Ps) λ_ h=>h
 refine h2.addP λw' hw'=>hp w' ?_
 have hnd:=h1.st.nd
 rw[bA,List.nodup_append,List.nodup_append] at hnd
 obtain⟨_,⟨_,_,hd⟩,hR⟩:=hnd
 refine Asn.same (h1.st.own A (by simp)) λb hb=>hw'.block b (h1.st.lt b ?_) λhm=> ?_
 ·rw[bA];simp only[List.mem_append];exact .inr (.inr (by simpa[fps] using hb))
 ·rcases List.mem_append.1 hm with hm|hm
  ·exact hR b hm b (List.mem_append_right _ (by simpa[fps] using hb)) rfl
  ·exact hd b hm b (by simpa[fps] using hb) rfl
theorem Sy.nilrow(h:Sy C n a w L As Ps)(e sz:Nat):Sy C n a w L (.row none 0 e sz 0 []::As) Ps:=
 h.new (Ext.refl w) (A:= .row none 0 e sz 0 []) (World.ownsRow_nil w 0 e sz) (by simp[Asn.fp]) (by simp[Asn.fp])
abbrev Up(C:Cx)(As:List Asn)(w:World)(F:List Nat):Prop:=∀{p:World->Prop},Bx (C.fr As) w p->Bx F w p
abbrev Le(Al:List Asn)(w:World)(F:List Nat):Prop:=∀(k:Nat){A:Asn},Al[k]? =some A->∀(p:World->Prop),(∀w,A.holds w->p w)->Bx F w p
theorem pR.mem{F:List Nat}:∀{l:List (World->Prop)},pR F w l->∀p∈l,Bx F w p
 |[],_,p,hp=>by cases hp
 |_::_,h,p,hp=>by
  rcases List.mem_cons.1 hp with rfl|hp
  ·exact h.1
  ·exact pR.mem h.2 p hp
theorem aaf{pk lk:List Nat}{Ag A1 Al Ar:List Asn}(hp:Cv pk As=some (Ag,A1))(hl:Cv lk A1=some (Al,Ar)):As.Perm (Ag++(Al++Ar)):=(wO hp).trans ((wO hl).append_left Ag)
theorem RW{R:List Nat}{pk lk:List Nat}{Ag A1 Al Ar:List Asn}(h:St R w As Ps)(hp:Cv pk As=some (Ag,A1))(hl:Cv lk A1=some (Al,Ar)):
  (∀{p:World->Prop},Bx (R++fps As) w p->Bx (R++fps Ar++fps Ag) w p)/\Le Al w (R++fps Ar++fps Ag):=by
 have hs:=aaf hp hl
 have h1:=h.perm hs
 have hin:∀x∈R++fps Ar++fps Ag,x∈R++fps As\/w.heap.size<=x:=λx hx=> .inl (by
  have:=(fT hs).mem_iff (a:=x)
  simp only[bA,List.mem_append] at this hx|-
  rw[this]
  rcases hx with(hx|hx)|hx
  ·exact .inl hx
  ·exact .inr (.inr (.inr hx))
  ·exact .inr (.inl hx))
 refine⟨λhp=>hp.weak hin,λk A hk p hi w' hw'=>hi w' ?_⟩
 have hA:=List.mem_of_getElem? hk
 have hnd:=h1.nd
 rw[bA,bA,List.nodup_append,List.nodup_append,List.nodup_append] at hnd
 obtain⟨_,⟨_,⟨_,_,hd2⟩,hd1⟩,hR⟩:=hnd
 have hin2:∀b∈A.fp,b∈fps Al:=λb hb=>nD.2 ⟨A,hA,hb⟩
 refine Asn.same (h1.own A (by simp[hA])) λb hb=>hw'.block b (h1.lt b ?_) λhm=> ?_
 ·simp only[bA,List.mem_append];exact .inr (.inr (.inl (hin2 b hb)))
 ·rcases List.mem_append.1 hm with hm|hm
  ·rcases List.mem_append.1 hm with hm|hm
   ·exact hR b hm b (by simp only[List.mem_append];exact .inr (.inl (hin2 b hb))) rfl
   ·exact hd2 b (hin2 b hb) b hm rfl
  ·exact hd1 b hm b (List.mem_append_left _ (hin2 b hb)) rfl
theorem uB{fn:Func}{QQ:Value->List Asn->List (World->Prop)->Prop}(hS:Sy C n a w L As Ps)(rs:List ResultVar)(vs:List (List Value)){xs:List Value}{ps:List (World->Prop)}(pk:List Nat){A' Ar:List Asn}(P':List (World->Prop))
  (hr:fn.results=rs.toArray) (hx:Fc P L rs vs=some (xs,ps)) (hps:(∀A∈As,A.holds w)->Et w ps) (hp:Cv pk As=some (A',Ar)) (hP:∀F,Up C As w F->pR F w P') (hq:QQ (XN xs) A' P'):bodyPost P fn (aba C QQ) .ret a w:=by
 refine aaP hS.has rs vs xs ps hr hx (hps hS.st.own) ?_
 have hs:=wO hp
 have h1:=(hS.perm hs).sub (Qs:=Ps) λ_ h=>h
 have hf:∀x∈C.R++fps A',x∈C.fr As\/w.heap.size<=x:=λx hx=> .inl (by
  have:=(fT hs).mem_iff (a:=x)
  simp only[Cx.fr,bA,List.mem_append] at this hx|-
  rw[this]
  rcases hx with hx|hx
  ·exact .inl hx
  ·exact .inr (.inl hx))
 exact⟨_,A',P',rfl,hq,h1.keep,⟨h1.st.own,h1.st.lt,h1.st.nd,pR.mem (hP _ λh=>h.weak hf),h1.st.gl⟩,h1.old⟩
theorem aag{α:Type}{F:Flat α}{A:Option Addr}{c e sz:Nat}{l:List α}{k:Nat}{cs:List Value}(h:(Asn.row A c e sz k cs).holds w)(hs:sz=F.sz)(hk:k=l.length)(hc:cs=l.flatMap F.enc):RS (G:=Flat.toGoT F) w A c l:=by
 subst hs hk hc
 have:IJ (F:=F) w 0 e (.slice A l.length c) l:=h
 exact this.rs
theorem yU{t ty e sz bytes c m c2 k:Nat}{A b:Option Addr}{cs ms:List Value}(ht:XK P t e sz bytes)(ho:(Asn.row A c e sz k cs).holds w)(hm:aX w (dR b) ms)(hb:b=none->m=0)(hl:ms.length=m*sz)(h1:∀u∈ms,u.oneCell'=true)(hroom:room (k+m) bytes=true):
  ∃A' c' w',(Builtin.append_ #[t,t] ty #[.slice A k c,.slice b m c2]).run P w= .ok (.slice A' (k+m) c') w'/\(Asn.row A' c' e sz (k+m) (cs++ms)).holds w'/\bD (Asn.row A c e sz k cs).fp w w'/\
   ∀x∈(Asn.row A' c' e sz (k+m) (cs++ms)).fp,x∈(Asn.row A c e sz k cs).fp\/(w.heap.size<=x/\x<w'.heap.size):=by
 obtain⟨inf,z,hi,hz,hsize,hby,hzs⟩:=ht.i
 have hbytes:(k+m)*bytes<=140737488355328:=Nat.le_of_ble_eq_true hroom
 have h63:k+m<=maxLen:=by
  have:=Nat.le_trans (Nat.le_mul_of_pos_right (k+m) ht.b) hbytes
  simp only[maxLen];omega
 have h63':k+m<=9223372036854775807:=by simp only[maxLen] at h63;omega
 have ho':w.ownsRow 0 e sz (.slice A k c) k cs:=ho
 cases hbb:b with
 |none=>
  obtain rfl:=hb hbb
  obtain rfl:ms=[]:=List.eq_nil_of_length_eq_zero (by simpa using hl)
  refine⟨A,c,w, ?_,by simpa using ho,bD.refl _ _,λx hx=> .inl (by simpa using hx)⟩
  rcases ho'.2 with⟨hv,hn⟩|⟨g,cap,cur,hv,_,hgh,hnc,_⟩
  ·injection hv with h1 h2 h3
   subst h1 h2 h3
   simp[Builtin.append_,run_underlying ht.u,sizeOf,typeInfo,hi,Builtin.lenOf,Builtin.firstCells]
  ·injection hv with h1 h2 h3
   subst h1 h3
   simp[Builtin.append_,run_underlying ht.u,sizeOf,typeInfo,hi,Builtin.lenOf,Builtin.firstCells,hnc,storeCells]
 |some B=>
  rw[hbb] at hm
  obtain⟨v',w',hrun,hown,hgr,hnil⟩:=run_append_own (P:=P) w 0 t ty e inf z sz bytes ht.u hi hz hsize hby hzs ht.p (.slice A k c) k cs ho' B m c2 ms hl hm h1 h63 hbytes (Nat.zero_le _)
  have hkeep:w.drawn<=w'.drawn->bD (Asn.row A c e sz k cs).fp w w':=λhd=>bD.grown hgr (λx hx=>by
   cases A with
   |none=>simp[Value.ownBlock] at hx
   |some A=>simp[Value.ownBlock] at hx;simp[Asn.fp,hx]) hd
  rcases ho'.2 with⟨hv,hn⟩|⟨g,cap,cur,hv,_,hgh,hnc,hcm,hcs,htake⟩
  ·injection hv with e1 e2 e3
   subst e1 hn e3
   by_cases hm0:m=0
   ·subst hm0
    obtain rfl:=hnil.2 ⟨rfl,rfl⟩
    have h00:(Builtin.append_ #[t,t] ty #[.slice none 0 0,.slice (some B) 0 c2]).run P w= .ok (.slice none 0 0) w:=by
     simp[Builtin.append_,run_underlying ht.u,sizeOf,typeInfo,hi,Builtin.lenOf,Builtin.firstCells,storeCells,loadCells,loadCellsFrom]
    have hd0:w.drawn<=w'.drawn:=by
     rw[hrun] at h00
     injection h00 with _ h00
     rw[h00];exact Nat.le_refl _
    refine⟨none,0,w',by simpa using hrun, ?_,hkeep hd0,by simp[Asn.fp]⟩
    have hown':w'.ownsRow 0 e sz (.slice none (0+0) 0) (0+0) (cs++ms):=by simpa using hown
    exact hown'
   ·have hr:=run_append_nil (P:=P) w t ty e inf z ht.u hi hz B m c2 ms (by rw[hsize];exact hl) hm (by omega) (by omega) (by rw[hby];have hb:=hbytes;simp only[Nat.zero_add] at hb;omega)
    rw[hrun] at hr
    injection hr with hr1 hr2
    subst hr1
    rw[Nat.zero_add] at hown|-
    refine⟨_,_,w',hrun,hown,hkeep (by rw[hr2];exact Nat.le_succ _),λx hx=> .inr ?_⟩
    simp only[Asn.fp,List.mem_singleton] at hx
    subst hx
    refine⟨Nat.le_refl _, ?_⟩
    rw[hr2];simp
  ·injection hv with e1 e2 e3
   subst e1 e3
   by_cases hroom':k+m<=c
   ·have hfit:k*inf.size+ms.length<=cur.size:=by rw[hl,hcs,hsize,<-Nat.add_mul];exact Nat.mul_le_mul_right _ hroom'
    have hr:=run_append_room (P:=P) w t ty e inf ht.u hi g k c cur hgh B m c2 ms (by rw[hsize];exact hl) hm h1 hroom' hfit
    rw[hrun] at hr
    injection hr with hr1 hr2
    subst hr1
    exact⟨_,_,w',hrun,hown,hkeep (by rw[hr2];exact Nat.le_refl _),λx hx=> .inl hx⟩
   ·have holds:∀j u,cs[j]? =some u->w.cell? ((⟨g,0,none⟩:Addr).add j)=some u:=ho'.cells (g:=g) rfl
    have hr:=run_append_grow (P:=P) w t ty e inf z ht.u hi hz ⟨g,0,none⟩ k c cs (by rw[hsize];exact ho'.1) holds B m c2 ms (by rw[hsize];exact hl) hm (by omega) (by omega) (by rw[hby];exact growslice_fits (by omega) hbytes)
    rw[hrun] at hr
    injection hr with hr1 hr2
    subst hr1
    refine⟨_,_,w',hrun,hown,hkeep (by rw[hr2];exact Nat.le_succ _),λx hx=> .inr ?_⟩
    simp only[Asn.fp,List.mem_singleton] at hx
    subst hx
    refine⟨Nat.le_refl _, ?_⟩
    rw[hr2];simp
theorem pQ{A:Option Addr}{c e sz k:Nat}{cs:List Value}:(Asn.row A c e sz k cs).fp.Nodup:=by cases A<;>simp[Asn.fp]
theorem Qh(i:Nat){j:Nat}(hij:Nat.blt i j=true){d:Nat}{t e sz bytes c m c2 k:Nat}{A b:Option Addr}{cs:List Value}(ms:List Value)(pk:Nat)(lk:List Nat){A1 Al Ar:List Asn}
  (hS:Sy C n a w L As Ps) (ht:XK P t e sz bytes) (h:Y5 n ops L i=some (d,t,.slice A k c,.slice b m c2)) (hp:Cv [pk] As=some ([.row A c e sz k cs],A1)) (hl:Cv lk A1=some (Al,Ar))
  (hm:∀F,Up C As w F->Le Al w F->Bx F w (λw=>(aX w (dR b) ms/\(b=none->m=0))/\ms.length=m*sz/\∀u∈ms,u.oneCell'=true)) (hroom:room (k+m) bytes=true)
  (hK:∀A' c' a w,Sy C n a w ((d,.slice A' (k+m) c')::L) (.row A' c' e sz (k+m) (cs++ms)::A1) Ps->wpList P ops Q (sg ops (i+1) j) a w):wpList P ops Q (sg ops i j) a w:=by
 obtain⟨hu,hle⟩:=RW hS.st hp hl
 obtain⟨⟨hm1,hm2⟩,hm3,hm4⟩:=(hm _ hu hle).here
 have hS1:=hS.perm (wO hp)
 simp only[List.cons_append,List.nil_append] at hS1
 unfold Y5 at h
 split at h
 ·rename_i o ho
  rw[Vh ho hij]
  split at h
  ·rename_i d1 t1 s x hg hdst hop hk
   split at h
   ·rename_i hd
    simp only[Option.some.injEq,Prod.mk.injEq] at h
    obtain⟨rfl,rfl,hs,hx⟩:=h
    have hd':d1<n:=Nat.blt_eq▸hd
    have ho':=Hm hop
    have hks:nG L s=true:=List.all_eq_true.1 hk s (by rw[ho'];simp[Op.operands,Call.operands])
    have hkx:nG L x=true:=List.all_eq_true.1 hk x (by rw[ho'];simp[Op.operands,Call.operands])
    obtain⟨A',c',w',hr,h2,h3,h4⟩:=yU (ty:=o.type) (c2:=c2) ht (hS1.st.own _ (List.mem_cons_self ..)) hm1 hm2 hm3 hm4 hroom
    refine zA (kF hS.has hg) (v:= .slice A' (k+m) c') (w':=w') ?_ (by rw[hdst];exact hK A' c' _ w' ((hS1.set0 h3 h2 h4 pQ).put hd' _))
    simp only[execOp,ho',resolve,invoke,builtin,Sem.run_bind,Sem.run_pure,Result.andThen_ok]
    simp[hS.has.eval hks,hS.has.eval hkx,hs,hx,hr]
   ·cases h
  ·cases h
 ·cases h
theorem Yp{α:Type}{F:Flat α}{b:Option Addr}{c2:Nat}{l:List α}(h:RS (G:=Flat.toGoT F) w b c2 l):(aX w (dR b) (l.flatMap F.enc)/\(b=none->l.length=0))/\(l.flatMap F.enc).length=l.length*F.sz/\∀u∈l.flatMap F.enc,u.oneCell'=true:=
 ⟨⟨h.cells,λe=>by
  by_cases hl:l=[]
  ·simp[hl]
  ·exact absurd e (h.some_ hl)⟩,vJ l,vK l⟩
theorem Zk(i:Nat){j:Nat}(hij:Nat.blt i j=true){d:Option Nat}{b:Builtin}{ts:Array TypeId}{ty:TypeId}{vs:Array Value}(hS:Sy C n a w L As Ps)(h:O0 n ops L i=some (d,b,ts,ty,vs))
  {v:Value} {w':World} (hr:∀cs,(builtin b ts ty cs vs).run P w= .ok (.value v) w')
  (hK:∀a',Has a' n (upd L d v)->wpList P ops Q (sg ops (i+1) j) a' w'):wpList P ops Q (sg ops i j) a w:=ZH i hij hS.has h hr hK
end
inductive DS where
 |val (v:Value)
 |q (Q:Value->List Asn->List (World->Prop)->Prop)
def DS.sp(F:List Nat)(N0:Nat):DS->qD
 | .val v=>qD.val v
 | .q Q=>⟨λw v=>∃A P,Q v A P/\St F w A P/\∀b∈fps A,N0<=b,fun⟨A,P,h1,h2,h3⟩ e=>⟨A,P,h1,h2.ext e,h3⟩,false,λh=>by cases h⟩
def yV(ops:Array Oper)(D:List DS)(V:Nat->Value):List Nat->Env
 |[]=>[]
 |j::r=>match iZ ops j with
  |some d=>(d,match D[j]? with|some (.val v)=>v|_=>V j)::yV ops D V r
  |none=>yV ops D V r
def isQ(D:List DS)(j:Nat):Bool:=match D[j]? with
 |some (.q _)=>true
 |_=>false
section
variable {P : Program} {ops : Array Oper} {Q : Exit -> Act -> World -> Prop} {C : Cx} {n : Nat} {a : Act} {w : World} {L : Env} {As : List Asn} {Ps : List (World -> Prop)}
def Yq(D:List DS)(j:Nat):Value:=match D[j]? with
 |some (.val v)=>v
 |_=>undef
def isV(D:List DS)(j:Nat):Bool:=match D[j]? with
 |some (.val _)=>true
 |_=>false
theorem Ys{D:List DS}{j:Nat}(h:isV D j=true):D[j]? =some (.val (Yq D j)):=by
 unfold isV at h
 unfold Yq
 cases hD:D[j]? with
 |none=>rw[hD] at h;cases h
 |some x=>cases x with
  |val v=>rfl
  |q _=>rw[hD] at h;cases h
def Qi(P:Program)(n:Nat)(ops:Array Oper)(p:Nat)(L:Env)(As:List Asn)(D:List DS):List (Nat×List wP)->Option (List Value×List (World->Prop))
 |[]=>some ([],[])
 |(i,hs)::r=>match ops[i]?,Qi P n ops p L As D r,(aP ops i).all (λj=>match isQ D j with|true=>false|false=>true) with
  |some o,some (vs,ob),true=>match Fa ops (yV ops D (λ_=>undef) (aP ops i)++wY ops p i L) o,o.dst,BB o.op with
   |some false,some _,_=>some (undef::vs,ob)
   |some true,some _,true=>match o.op.operands.toList.all (nG (yV ops D (λ_=>undef) (aP ops i)++wY ops p i L)),Wq P (yV ops D (λ_=>undef) (aP ops i)++wY ops p i L) As hs o with
    |true,some (v,[],ps)=>some (v::vs,ps++ob)
    |_,_=>none
   |_,_,_=>none
  |_,_,_=>none
def Yt(p:Nat->Prop):List Nat->Prop
 |[]=>True
 |i::r=>p i/\Yt p r
theorem Qj{p:Nat->Prop}:∀{l:List Nat},Yt p l->∀i∈l,p i
 |[],_,i,h=>by cases h
 |_::_,h,i,hi=>by
  rcases List.mem_cons.1 hi with rfl|hi
  ·exact h.1
  ·exact Qj h.2 i hi
theorem JR {p : Nat} {D : List DS} : ∀ {l : List (Nat × List wP)} {vs : List Value} {ob : List (World -> Prop)}, Qi P n ops p L As D l = some (vs, ob) -> Et w ob -> ∀ (k i : Nat) (hs : List wP), l[k]? = some (i, hs) -> ∃ o d v, ops[i]? = some o /\ o.dst = some d /\ vs[k]? = some v /\ (∀ j ∈ aP ops i, isQ D j = false) /\
    ((Fa ops (yV ops D (fun _ => undef) (aP ops i) ++ wY ops p i L) o = some false /\ v = undef) \/
     (Fa ops (yV ops D (fun _ => undef) (aP ops i) ++ wY ops p i L) o = some true /\ BB o.op = true /\ o.op.operands.toList.all (nG (yV ops D (fun _ => undef) (aP ops i) ++ wY ops p i L)) = true /\
      ∃ ps, Wq P (yV ops D (fun _ => undef) (aP ops i) ++ wY ops p i L) As hs o = some (v, [], ps) /\ Et w ps))
  | [], vs, ob, h, ho, k, i, hs, hk => by simp at hk
  | (i0, hs0) :: r, vs, ob, h, ho, k, i, hs, hk => by
    simp only [Qi] at h
    split at h
    · rename_i o vs1 ob1 hoi hr hq
      have hq' : ∀ j ∈ aP ops i0, isQ D j = false := fun j hj => by
        have := List.all_eq_true.1 hq j hj
        cases hb : isQ D j
        · rfl
        · rw [hb] at this; cases this
      split at h
      · rename_i d hg hd
        simp only [Option.some.injEq, Prod.mk.injEq] at h
        obtain ⟨rfl, rfl⟩ := h
        cases k with
        | zero =>
          simp only [List.getElem?_cons_zero, Option.some.injEq, Prod.mk.injEq] at hk
          obtain ⟨rfl, rfl⟩ := hk
          exact ⟨o, d, undef, hoi, hd, rfl, hq', .inl ⟨hg, rfl⟩⟩
        | succ k => exact JR hr ho k i hs (by simpa using hk)
      · rename_i d hg hd hsel
        split at h
        · rename_i v ps hkn hval
          simp only [Option.some.injEq, Prod.mk.injEq] at h
          obtain ⟨rfl, rfl⟩ := h
          obtain ⟨ho1, ho2⟩ := BD _ _ ho
          cases k with
          | zero =>
            simp only [List.getElem?_cons_zero, Option.some.injEq, Prod.mk.injEq] at hk
            obtain ⟨rfl, rfl⟩ := hk
            exact ⟨o, d, v, hoi, hd, rfl, hq', .inr ⟨hg, hsel, hkn, ps, hval, ho1⟩⟩
          | succ k => exact JR hr ho2 k i hs (by simpa using hk)
        · cases h
      · cases h
    · cases h
theorem G0{E E' X:Env}(hK:∀t,fH E t=fH E' t)(hl:∀t,fH E t=true->lk E t=lk E' t)(h:Has a n (E++X)):Has a n (E'++X):=by
 refine⟨h.size,h.defers,λt ht=> ?_⟩
 have h1:=h.get t (by rw[wZ] at ht|-;rw[hK t];exact ht)
 rw[h1,zB,zB,hK t]
 split
 ·rename_i h2;exact hl t (by rw[hK t];exact h2)
 ·rfl
theorem Qk{F:List Nat}{N0:Nat}{D:List DS}{V:Nat->Value}{X:Env}{js:List Nat}(h:Has a n (vL ops V js++X))(hv:∀j∈js,∀v,D[j]? =some (.val v)->V j=v):Has a n (yV ops D V js++X):=by
 have hk:∀(js:List Nat)(t:Nat),fH (vL ops V js) t=fH (yV ops D V js) t:=by
  intro js t
  induction js with
  |nil=>rfl
  |cons j r ih=>
   simp only[vL,yV]
   cases iZ ops j with
   |none=>exact ih
   |some d=>simp only[fH];rw[ih]
 refine G0 (hk js) (λt ht=> ?_) h
 clear h
 induction js with
 |nil=>rfl
 |cons j r ih=>
  simp only[vL,yV] at ht|-
  cases hd:iZ ops j with
  |none=>simp only[hd] at ht|-;exact ih (λj hj=>hv j (List.mem_cons_of_mem _ hj)) ht
  |some d=>
   simp only[hd,fH,lk] at ht|-
   cases hb:Nat.beq d t
   ·simp only[hb] at ht|-
    exact ih (λj hj=>hv j (List.mem_cons_of_mem _ hj)) ht
   ·simp only[hb]
    cases hD:D[j]? with
    |none=>rfl
    |some x=>cases x with
     |val v=>exact hv j (List.mem_cons_self ..) v hD
     |q _=>rfl
theorem Ql{D:List DS}{V V':Nat->Value}:∀(js:List Nat),(∀j∈js,isQ D j=false/\j<D.length)->yV ops D V js=yV ops D V' js
 |[],_=>rfl
 |j::r,h=>by
  simp only[yV]
  rw[Ql r λj hj=>h j (List.mem_cons_of_mem _ hj)]
  obtain⟨h1,h2⟩:=h j (List.mem_cons_self ..)
  unfold isQ at h1
  cases hD:D[j]? with
  |none=>simp at hD;omega
  |some x=>cases x with
   |val v=>rfl
   |q _=>rw[hD] at h1;cases h1
theorem aah{c:Code}(ops:Array Oper)(p:Nat){j:Nat}(D:List DS)(ks:List Nat)(pl:List (Nat×List wP))(cl:List Nat){ob:List (World->Prop)}(hm:P.follows .mixedOrders=true)
  (hc:c= .region (Rg c) ops true) (hS:Sy C n a w L As Ps) (hj:ops.size=j) (hok:LA ops p=true) (hks:∀F N0,XL ops p (D.map (DS.sp F N0)) ks=true)
  (hd:(List.range p).all (λk=>match iZ ops k with|some d=>Nat.blt d n|none=>true)=true)
  (hv:Qi P n ops p L As D pl=some (pl.map (λx=>Yq D x.1),ob)) (hvD:(match Nat.beq D.length p with|true=>pl.all λx=>isV D x.1|false=>false)=true)
  (hpl:((List.range p).all λi=>match dF cl i with|true=>true|false=>pl.any λx=>Nat.beq x.1 i&&(match dF ks i with|true=>false|false=>true))=true)
  (ho:pR (C.fr As) w ob)
  (steps:Yt (λi=>∀(V:Nat->Value) a' w',Ext w w'->Sy C n a' w' (yV ops D V (aP ops i)++wY ops p i L) As Ps->(∀j∈aP ops i,∀QQ,D[j]? =some (.q QQ)->∃A' P',QQ (V j) A' P'/\St (C.fr As) w' A' P'/\∀b∈fps A',w.heap.size<=b)->
   OW P ops (Ek ks (Ext w) i) (nI (D.map (DS.sp (C.fr As) w.heap.size)) i).p Q i a' w') cl)
  (fin:∀(V:Nat->Value) a' w',Ext w w'->Sy C n a' w' (yV ops D V (List.range p)++IK ops p L) As Ps->(∀j,j<p->alive ops p (D.map (DS.sp (C.fr As) w.heap.size)) ks j=true->∀QQ,D[j]? =some (.q QQ)->∃A' P',QQ (V j) A' P'/\St (C.fr As) w' A' P'/\∀b∈fps A',w.heap.size<=b)->
   wpList P ops Q (sg ops p j) a' w'):c.wp P Q a w:=by
 have hlen:D.length=p:=by
  split at hvD
  ·rename_i h;exact Nat.eq_of_beq_eq_true h
  ·cases hvD
 have hall:∀x∈pl,isV D x.1=true:=by
  split at hvD
  ·exact λx hx=>List.all_eq_true.1 hvD x hx
  ·cases hvD
 have hspec:∀j x,D[j]? =some x->nI (D.map (DS.sp (C.fr As) w.heap.size)) j=x.sp (C.fr As) w.heap.size:=λj x h=>by
  simp[nI,List.getD_eq_getElem?_getD,h]
 have hpred:∀i j,j∈aP ops i->i<p->j<p:=λi j hj hi=>by
  simp only[LA,Bool.and_eq_true] at hok
  obtain⟨⟨⟨hb1,_⟩,_⟩,hb4⟩:=hok
  have hps:p<=ops.size:=Nat.le_of_ble_eq_true hb4
  have:=List.all_eq_true.1 (List.all_eq_true.1 hb1 i (List.mem_range.2 (by omega))) j hj
  have:j<i:=Nat.blt_eq▸this
  omega
 have vals:∀(js:List Nat)(V:Nat->Value)(w':World),(∀j∈js,(nI (D.map (DS.sp (C.fr As) w.heap.size)) j).p w' (V j))->∀j∈js,∀v,D[j]? =some (.val v)->V j=v:=λjs V w' h j hj v hv=>by
  have:=h j hj
  rw[hspec j _ hv] at this
  exact this
 refine OY ops p j (D.map (DS.sp (C.fr As) w.heap.size)) ks (Ext w) (λh e=>h.trans e) (Ext.drew w) hm hc hok (hks _ _) hj hS.has hd ?_ ?_
 ·intro i hi V a' w' he _ hsp hA
  have hvals:=vals _ V w' hsp
  have hA':=Qk (F:=[]) (N0:=0) (D:=D) hA hvals
  have hS':Sy C n a' w' (yV ops D V (aP ops i)++wY ops p i L) As Ps:=⟨hA',hS.st.ext he,hS.keep.step (bD.ofExt (F:=[]) he) (by simp),hS.old⟩
  have hcov:=List.all_eq_true.1 hpl i (List.mem_range.2 hi)
  cases hmem:dF cl i
  ·rw[hmem] at hcov
   simp only[List.any_eq_true,Bool.and_eq_true] at hcov
   obtain⟨⟨i',hs⟩,hx,hxi,hnk⟩:=hcov
   obtain rfl:=Nat.eq_of_beq_eq_true hxi
   have hnk':dF ks i'=false:=by
    cases hb:dF ks i'
    ·rfl
    ·rw[hb] at hnk;cases hnk
   obtain⟨k,hk⟩:=List.getElem?_of_mem hx
   obtain⟨o,d,v,hoi,hdst,hvk,hnq,hcase⟩:=JR hv (pR.at (bD.ofExt he) ho) k i' hs hk
   have hDv:D[i']? =some (.val v):=by
    rw[List.getElem?_map,hk] at hvk
    simp only[Option.map_some,Option.some.injEq] at hvk
    subst hvk
    exact Ys (hall _ hx)
   rw[hspec _ _ hDv,Fb hnk']
   have hdd:iZ ops i'=some d:=by simp[iZ,hoi,hdst]
   have e1:=Ql (ops:=ops) (D:=D) (V:=V) (V':=λ_=>undef) (aP ops i') λj hj=>⟨hnq j hj,by rw[hlen];exact hpred i' j hj hi⟩
   rw[e1] at hA'
   unfold OW wpOp
   rw[hoi]
   simp only
   rcases hcase with⟨hg,rfl⟩|⟨hg,hsel,hkn,ps,hval,hps⟩
   ·simp only[kF hA' hg,Bool.false_eq_true,if_false]
    exact⟨d,undef,hdd,by rw[hdst],Ext.refl _,rfl⟩
   ·simp only[kF hA' hg,if_true]
    have hrun:=JT (a:=a') hval hsel hps (hS.st.ext he).own λx hx=>hA'.eval (List.all_eq_true.1 hkn x (Array.mem_toList_iff.2 hx))
    refine .inl ?_
    simp only[Oper.wp,hrun,Oper.upon]
    exact⟨d,v,hdd,by rw[hdst],Ext.refl _,rfl⟩
  ·refine Qj steps i (bO.1 hmem) V a' w' he hS' λj hj QQ hQ=> ?_
   have:=hsp j hj
   rw[hspec j _ hQ] at this
   exact this
 ·intro V a' w' he hsp hA
  refine fin V a' w' he ⟨Qk (F:=[]) (N0:=0) (D:=D) hA λj hj v hDv=> ?_,hS.st.ext he,hS.keep.step (bD.ofExt (F:=[]) he) (by simp),hS.old⟩ λj hj hal QQ hQ=> ?_
  ·have hjp:=List.mem_range.1 hj
   have:=hsp j hjp (List.all_eq_true.2 λk _=>by
    simp[OX,hspec j _ hDv,DS.sp,qD.val])
   rw[hspec j _ hDv] at this
   exact this
  ·have:=hsp j hj hal
   rw[hspec j _ hQ] at this
   exact this
end
end Go.Bur
