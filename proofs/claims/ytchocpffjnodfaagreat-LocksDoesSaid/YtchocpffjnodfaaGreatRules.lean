import Derived.Test.YtchocpffjnodfaaGreatRun
namespace Go.Bur
open Go.RowKit
set_option linter.unusedVariables false
set_option linter.unusedSimpArgs false
def takeK:Nat→List Asn→Option (Asn×List Asn)
 |_,[]=>none
 |0,A::r=>some (A,r)
 |k+1,B::r=>match takeK k r with
  |some (A,r')=>some (A,B::r')
  |none=>none
def pickA:List Nat→List Asn→Option (List Asn×List Asn)
 |[],As=>some ([],As)
 |k::ks,As=>match takeK k As with
  |some (A,r)=>match pickA ks r with
   |some (p,r')=>some (A::p,r')
   |none=>none
  |none=>none
theorem takeK_perm:∀{k:Nat} {As:List Asn} {A:Asn} {r:List Asn},takeK k As=some (A,r)→As.Perm (A::r)
 |k,[],A,r,h=>by cases k<;>simp[takeK] at h
 |0,B::s,A,r,h=>by
  simp only[takeK,Option.some.injEq,Prod.mk.injEq] at h
  obtain⟨rfl,rfl⟩:=h
  exact List.Perm.refl _
 |k+1,B::s,A,r,h=>by
  simp only[takeK] at h
  split at h
  ·rename_i A1 r1 hk
   simp only[Option.some.injEq,Prod.mk.injEq] at h
   obtain⟨rfl,rfl⟩:=h
   exact((takeK_perm hk).cons B).trans (List.Perm.swap _ _ _)
  ·cases h
theorem pickA_perm:∀{ks:List Nat} {As p r:List Asn},pickA ks As=some (p,r)→As.Perm (p++r)
 |[],As,p,r,h=>by
  simp only[pickA,Option.some.injEq,Prod.mk.injEq] at h
  obtain⟨rfl,rfl⟩:=h
  exact List.Perm.refl _
 |k::ks,As,p,r,h=>by
  simp only[pickA] at h
  split at h
  ·rename_i A r1 hk
   split at h
   ·rename_i p1 r2 hp
    simp only[Option.some.injEq,Prod.mk.injEq] at h
    obtain⟨rfl,rfl⟩:=h
    exact(takeK_perm hk).trans ((pickA_perm hp).cons A)
   ·cases h
  ·cases h
section
variable {P : Program} {ops : Array Oper} {Q : Exit → Act → World → Prop} {C : Cx} {n : Nat} {a : Act} {w : World} {L : Env} {As : List Asn} {Ps : List (World → Prop)}
theorem Sy.env{L':Env}(h:Sy C n a w L As Ps)(e:L=L'):Sy C n a w L' As Ps:=e▸h
theorem Sy.p(h:Sy C n a w L As Ps)(k:Nat){p:World→Prop}(hk:Ps[k]? =some p):Bx (C.fr As) w p:=h.st.per p (List.mem_of_getElem? hk)
theorem Sy.addP{p:World→Prop}(h:Sy C n a w L As Ps)(hp:Bx (C.fr As) w p):Sy C n a w L As (p::Ps):=
 ⟨h.has,⟨h.st.own,h.st.lt,h.st.nd,λq hq=>by
  rcases List.mem_cons.1 hq with rfl|hq
  ·exact hp
  ·exact h.st.per q hq,h.st.gl⟩,h.keep,h.old⟩
theorem Sy.freeze{A:Asn}{As':List Asn}(h:Sy C n a w L As Ps)(k:Nat)(hk:takeK k As=some (A,As'))(p:World→Prop)(hp:∀w,A.holds w→p w):Sy C n a w L As' (p::Ps):=by
 have h1:=h.perm ((takeK_perm hk).trans (List.perm_append_comm (l₁:=[A])))
 have h2:=h1.sub (Qs:=Ps) λ_ h=>h
 refine h2.addP λw' hw'=>hp w' ?_
 have hnd:=h1.st.nd
 rw[fps_append,List.nodup_append,List.nodup_append] at hnd
 obtain⟨_,⟨_,_,hd⟩,hR⟩:=hnd
 refine Asn.same (h1.st.own A (by simp)) λb hb=>hw'.block b (h1.st.lt b ?_) λhm=> ?_
 ·rw[fps_append];simp only[List.mem_append];exact .inr (.inr (by simpa[fps] using hb))
 ·rcases List.mem_append.1 hm with hm|hm
  ·exact hR b hm b (List.mem_append_right _ (by simpa[fps] using hb)) rfl
  ·exact hd b hm b (by simpa[fps] using hb) rfl
abbrev Up(C:Cx)(As:List Asn)(w:World)(F:List Nat):Prop:=∀{p:World→Prop},Bx (C.fr As) w p→Bx F w p
abbrev Le(Al:List Asn)(w:World)(F:List Nat):Prop:=∀(k:Nat){A:Asn},Al[k]? =some A→∀(p:World→Prop),(∀w,A.holds w→p w)→Bx F w p
theorem AllB.mem{F:List Nat}:∀{l:List (World→Prop)},AllB F w l→∀p∈l,Bx F w p
 |[],_,p,hp=>by cases hp
 |_::_,h,p,hp=>by
  rcases List.mem_cons.1 hp with rfl|hp
  ·exact h.1
  ·exact AllB.mem h.2 p hp
theorem split3{pk lk:List Nat}{Ag A1 Al Ar:List Asn}(hp:pickA pk As=some (Ag,A1))(hl:pickA lk A1=some (Al,Ar)):As.Perm (Ag++(Al++Ar)):=(pickA_perm hp).trans ((pickA_perm hl).append_left Ag)
theorem lend_facts{R:List Nat}{pk lk:List Nat}{Ag A1 Al Ar:List Asn}(h:St R w As Ps)(hp:pickA pk As=some (Ag,A1))(hl:pickA lk A1=some (Al,Ar)):
  (∀{p:World→Prop},Bx (R++fps As) w p→Bx (R++fps Ar++fps Ag) w p)∧Le Al w (R++fps Ar++fps Ag):=by
 have hs:=split3 hp hl
 have h1:=h.perm hs
 have hin:∀x∈R++fps Ar++fps Ag,x∈R++fps As∨w.heap.size≤x:=λx hx=> .inl (by
  have:=(fps_perm hs).mem_iff (a:=x)
  simp only[fps_append,List.mem_append] at this hx⊢
  rw[this]
  rcases hx with(hx|hx)|hx
  ·exact .inl hx
  ·exact .inr (.inr (.inr hx))
  ·exact .inr (.inl hx))
 refine⟨λhp=>hp.weak hin,λk A hk p hi w' hw'=>hi w' ?_⟩
 have hA:=List.mem_of_getElem? hk
 have hnd:=h1.nd
 rw[fps_append,fps_append,List.nodup_append,List.nodup_append,List.nodup_append] at hnd
 obtain⟨_,⟨_,⟨_,_,hd2⟩,hd1⟩,hR⟩:=hnd
 have hin2:∀b∈A.fp,b∈fps Al:=λb hb=>mem_fps.2 ⟨A,hA,hb⟩
 refine Asn.same (h1.own A (by simp[hA])) λb hb=>hw'.block b (h1.lt b ?_) λhm=> ?_
 ·simp only[fps_append,List.mem_append];exact .inr (.inr (.inl (hin2 b hb)))
 ·rcases List.mem_append.1 hm with hm|hm
  ·rcases List.mem_append.1 hm with hm|hm
   ·exact hR b hm b (by simp only[List.mem_append];exact .inr (.inl (hin2 b hb))) rfl
   ·exact hd2 b (hin2 b hb) b hm rfl
  ·exact hd1 b hm b (List.mem_append_left _ (hin2 b hb)) rfl
theorem r_callL(i:Nat){j:Nat}(hij:Nat.blt i j=true){d:Option Nat}{g:FuncId}{args:Array Value}(pk lk:List Nat){Ag A1 Al Ar:List Asn}{Pg:List (World→Prop)}{QQ:Value→List Asn→List (World→Prop)→Prop}
  (hS:Sy C n a w L As Ps) (h:callAt n ops L i=some (d,g,args)) (hp:pickA pk As=some (Ag,A1)) (hl:pickA lk A1=some (Al,Ar)) (hm:Meets P g args Ag Pg QQ)
  (hP:∀F,Up C As w F→Le Al w F→AllB F w Pg)
  (hK:∀v A' P' a w,QQ v A' P'→Sy C n a w (upd L d v) (A'++A1) Ps→(Al=[]→Sy C n a w (upd L d v) (A'++A1) (P'++Ps))→wpList P ops Q (sg ops (i+1) j) a w):wpList P ops Q (sg ops i j) a w:=by
 obtain⟨hu,hle⟩:=lend_facts hS.st hp hl
 have hs:=split3 hp hl
 have hst:=hS.st.perm hs
 have hg:=hst.lend (Pg:=Pg) (AllB.mem (hP _ hu hle))
 refine wl_call i hij hS.has h hm.1 (hm.2 _ _ hg) ?_
 rintro e w' ⟨v,A',P',rfl,hq,hk,hst',hb⟩
 refine⟨v,rfl,λa' hA'=> ?_⟩
 obtain⟨h1,h2⟩:=hst.back hst' hk hb
 have hkeep:Keep C.F C.w0 w':=hS.keep.step hk λx hx=>hS.old x ((fps_perm hs).mem_iff.2 (by rw[fps_append];exact List.mem_append_left _ hx))
 have hold:∀b∈fps (A'++(Al++Ar)),b∈C.F∨C.w0.heap.size≤b:=λb hb'=>by
  rw[fps_append,List.mem_append] at hb'
  rcases hb' with hb'|hb'
  ·rcases hb b hb' with h3|h3
   ·exact hS.old b ((fps_perm hs).mem_iff.2 (by rw[fps_append];exact List.mem_append_left _ h3))
   ·exact .inr (Nat.le_trans hS.keep.size h3)
  ·exact hS.old b ((fps_perm hs).mem_iff.2 (by rw[fps_append];exact List.mem_append_right _ hb'))
 have hperm:(A'++(Al++Ar)).Perm (A'++A1):=(pickA_perm hl).symm.append_left A'
 exact hK v A' P' a' w' hq (Sy.perm ⟨hA',h1,hkeep,hold⟩ hperm) λe=>Sy.perm ⟨hA',h2 e,hkeep,hold⟩ hperm
theorem r_call(i:Nat){j:Nat}(hij:Nat.blt i j=true){d:Option Nat}{g:FuncId}{args:Array Value}(pk:List Nat){Ag A1:List Asn}{Pg:List (World→Prop)}{QQ:Value→List Asn→List (World→Prop)→Prop}
  (hS:Sy C n a w L As Ps) (h:callAt n ops L i=some (d,g,args)) (hp:pickA pk As=some (Ag,A1)) (hm:Meets P g args Ag Pg QQ)
  (hP:∀F,Up C As w F→AllB F w Pg)
  (hK:∀v A' P' a w,QQ v A' P'→Sy C n a w (upd L d v) (A'++A1) (P'++Ps)→wpList P ops Q (sg ops (i+1) j) a w):wpList P ops Q (sg ops i j) a w:=
 r_callL i hij pk [] hS h hp rfl hm (λF hu _=>hP F hu) λv A' P' a w hq _ h2=>hK v A' P' a w hq (h2 rfl)
theorem r_callX(i:Nat){j:Nat}(hij:Nat.blt i j=true){d:Option Nat}{g:FuncId}{args:Array Value}(pk lk:List Nat){Ag A1 Al Ar:List Asn}{Pg:List (World→Prop)}{QQ:Value→List Asn→List (World→Prop)→Prop}
  (hS:Sy C n a w L As Ps) (h:callAt n ops L i=some (d,g,args)) (hp:pickA pk As=some (Ag,A1)) (hl:pickA lk A1=some (Al,Ar)) (hm:Meets P g args Ag Pg QQ)
  (hP:∀F,Up C As w F→Le Al w F→AllB F w Pg)
  (hK:∀v A' P' a w,QQ v A' P'→Sy C n a w (upd L d v) (A'++A1) Ps→wpList P ops Q (sg ops (i+1) j) a w):wpList P ops Q (sg ops i j) a w:=
 r_callL i hij pk lk hS h hp hl hm hP λv A' P' a w hq h1 _=>hK v A' P' a w hq h1
theorem r_ret{fn:Func}{QQ:Value→List Asn→List (World→Prop)→Prop}(hS:Sy C n a w L As Ps)(rs:List ResultVar)(vs:List (List Value)){xs:List Value}{ps:List (World→Prop)}(pk:List Nat){A' Ar:List Asn}(P':List (World→Prop))
  (hr:fn.results=rs.toArray) (hx:resX P L rs vs=some (xs,ps)) (hps:(∀A∈As,A.holds w)→AllP w ps) (hp:pickA pk As=some (A',Ar)) (hP:∀F,Up C As w F→AllB F w P') (hq:QQ (resV xs) A' P'):bodyPost P fn (RetQ C QQ) .ret a w:=by
 refine retG hS.has rs vs xs ps hr hx (hps hS.st.own) ?_
 have hs:=pickA_perm hp
 have h1:=(hS.perm hs).sub (Qs:=Ps) λ_ h=>h
 have hf:∀x∈C.R++fps A',x∈C.fr As∨w.heap.size≤x:=λx hx=> .inl (by
  have:=(fps_perm hs).mem_iff (a:=x)
  simp only[Cx.fr,fps_append,List.mem_append] at this hx⊢
  rw[this]
  rcases hx with hx|hx
  ·exact .inl hx
  ·exact .inr (.inl hx))
 exact⟨_,A',P',rfl,hq,h1.keep,⟨h1.st.own,h1.st.lt,h1.st.nd,AllB.mem (hP _ λh=>h.weak hf),h1.st.gl⟩,h1.old⟩
theorem row_rs{α:Type}{F:Flat α}{A:Option Addr}{c e sz:Nat}{l:List α}{k:Nat}{cs:List Value}(h:(Asn.row A c e sz k cs).holds w)(hs:sz=F.sz)(hk:k=l.length)(hc:cs=l.flatMap F.enc):RS (G:=Flat.toGoT F) w A c l:=by
 subst hs hk hc
 have:OwnS (F:=F) w 0 e (.slice A l.length c) l:=h
 exact this.rs
theorem run_append_st{t ty e sz bytes c m c2 k:Nat}{A b:Option Addr}{cs ms:List Value}(ht:AppT P t e sz bytes)(ho:(Asn.row A c e sz k cs).holds w)(hm:CellsAt w (baseOf b) ms)(hb:b=none→m=0)(hl:ms.length=m*sz)(h1:∀u∈ms,u.oneCell'=true)(hroom:room (k+m) bytes=true):
  ∃A' c' w',(Builtin.append_ #[t,t] ty #[.slice A k c,.slice b m c2]).run P w= .ok (.slice A' (k+m) c') w'∧(Asn.row A' c' e sz (k+m) (cs++ms)).holds w'∧Keep (Asn.row A c e sz k cs).fp w w'∧
   ∀x∈(Asn.row A' c' e sz (k+m) (cs++ms)).fp,x∈(Asn.row A c e sz k cs).fp∨(w.heap.size≤x∧x<w'.heap.size):=by
 obtain⟨inf,z,hi,hz,hsize,hby,hzs⟩:=ht.i
 have hbytes:(k+m)*bytes≤140737488355328:=Nat.le_of_ble_eq_true hroom
 have h63:k+m≤maxLen:=by
  have:=Nat.le_trans (Nat.le_mul_of_pos_right (k+m) ht.b) hbytes
  simp only[maxLen];omega
 have h63':k+m≤9223372036854775807:=by simp only[maxLen] at h63;omega
 have ho':w.ownsRow 0 e sz (.slice A k c) k cs:=ho
 cases hbb:b with
 |none=>
  obtain rfl:=hb hbb
  obtain rfl:ms=[]:=List.eq_nil_of_length_eq_zero (by simpa using hl)
  refine⟨A,c,w, ?_,by simpa using ho,Keep.refl _ _,λx hx=> .inl (by simpa using hx)⟩
  rcases ho'.2 with⟨hv,hn⟩|⟨g,cap,cur,hv,_,hgh,hnc,_⟩
  ·injection hv with h1 h2 h3
   subst h1 h2 h3
   simp[Builtin.append_,run_underlying ht.u,sizeOf,typeInfo,hi,Builtin.lenOf,Builtin.firstCells]
  ·injection hv with h1 h2 h3
   subst h1 h3
   simp[Builtin.append_,run_underlying ht.u,sizeOf,typeInfo,hi,Builtin.lenOf,Builtin.firstCells,hnc,storeCells]
 |some B=>
  rw[hbb] at hm
  obtain⟨v',w',hrun,hown,hgr,hnil⟩:=run_append_own (P:=P) w 0 t ty e inf z sz bytes ht.u hi hz hsize hby hzs ht.p (.slice A k c) k cs ho' B m c2 ms hl hm h1 h63 hbytes (Nat.zero_le _)
  have hkeep:Drn w w'→Keep (Asn.row A c e sz k cs).fp w w':=λhd=>Keep.grown hgr (λx hx=>by
   cases A with
   |none=>simp[Value.ownBlock] at hx
   |some A=>simp[Value.ownBlock] at hx;simp[Asn.fp,hx]) hd
  rcases ho'.2 with⟨hv,hn⟩|⟨g,cap,cur,hv,_,hgh,hnc,hcm,hcs,htake⟩
  ·injection hv with e1 e2 e3
   subst e1 hn e3
   by_cases hm0:m=0
   ·subst hm0
    obtain rfl:=hnil.2 ⟨rfl,rfl⟩
    have h00:(Builtin.append_ #[t,t] ty #[.slice none 0 0,.slice (some B) 0 c2]).run P w= .ok (.slice none 0 0) w:=by
     simp[Builtin.append_,run_underlying ht.u,sizeOf,typeInfo,hi,Builtin.lenOf,Builtin.firstCells,storeCells,loadCells,loadCellsFrom]
    have hd0:Drn w w':=by
     rw[hrun] at h00
     injection h00 with _ h00
     rw[h00];exact Drn.refl _
    refine⟨none,0,w',by simpa using hrun, ?_,hkeep hd0,by simp[Asn.fp]⟩
    have hown':w'.ownsRow 0 e sz (.slice none (0+0) 0) (0+0) (cs++ms):=by simpa using hown
    exact hown'
   ·have hr:=run_append_nil (P:=P) w t ty e inf z ht.u hi hz B m c2 ms (by rw[hsize];exact hl) hm (by omega) (by omega) (by rw[hby];have hb:=hbytes;simp only[Nat.zero_add] at hb;omega)
    rw[hrun] at hr
    injection hr with hr1 hr2
    subst hr1
    rw[Nat.zero_add] at hown⊢
    refine⟨_,_,w',hrun,hown,hkeep (by rw[hr2];exact Drn.drewPush),λx hx=> .inr ?_⟩
    simp only[Asn.fp,List.mem_singleton] at hx
    subst hx
    refine⟨Nat.le_refl _, ?_⟩
    rw[hr2];simp
  ·injection hv with e1 e2 e3
   subst e1 e3
   by_cases hroom':k+m≤c
   ·have hfit:k*inf.size+ms.length≤cur.size:=by rw[hl,hcs,hsize,←Nat.add_mul];exact Nat.mul_le_mul_right _ hroom'
    have hr:=run_append_room (P:=P) w t ty e inf ht.u hi g k c cur hgh B m c2 ms (by rw[hsize];exact hl) hm h1 hroom' hfit
    rw[hrun] at hr
    injection hr with hr1 hr2
    subst hr1
    exact⟨_,_,w',hrun,hown,hkeep (by rw[hr2];exact Drn.setRow),λx hx=> .inl hx⟩
   ·have holds:∀j u,cs[j]? =some u→w.cell? ((⟨g,0,none⟩:Addr).add j)=some u:=ho'.cells (g:=g) rfl
    have hr:=run_append_grow (P:=P) w t ty e inf z ht.u hi hz ⟨g,0,none⟩ k c cs (by rw[hsize];exact ho'.1) holds B m c2 ms (by rw[hsize];exact hl) hm (by omega) (by omega) (by rw[hby];exact growslice_fits (by omega) hbytes)
    rw[hrun] at hr
    injection hr with hr1 hr2
    subst hr1
    refine⟨_,_,w',hrun,hown,hkeep (by rw[hr2];exact Drn.drewPush),λx hx=> .inr ?_⟩
    simp only[Asn.fp,List.mem_singleton] at hx
    subst hx
    refine⟨Nat.le_refl _, ?_⟩
    rw[hr2];simp
theorem fp_row_nodup{A:Option Addr}{c e sz k:Nat}{cs:List Value}:(Asn.row A c e sz k cs).fp.Nodup:=by cases A<;>simp[Asn.fp]
theorem r_append(i:Nat){j:Nat}(hij:Nat.blt i j=true){d:Nat}{t e sz bytes c m c2 k:Nat}{A b:Option Addr}{cs:List Value}(ms:List Value)(pk:Nat)(lk:List Nat){A1 Al Ar:List Asn}
  (hS:Sy C n a w L As Ps) (ht:AppT P t e sz bytes) (h:appAt n ops L i=some (d,t,.slice A k c,.slice b m c2)) (hp:pickA [pk] As=some ([.row A c e sz k cs],A1)) (hl:pickA lk A1=some (Al,Ar))
  (hm:∀F,Up C As w F→Le Al w F→Bx F w (λw=>(CellsAt w (baseOf b) ms∧(b=none→m=0))∧ms.length=m*sz∧∀u∈ms,u.oneCell'=true)) (hroom:room (k+m) bytes=true)
  (hK:∀A' c' a w,Sy C n a w ((d,.slice A' (k+m) c')::L) (.row A' c' e sz (k+m) (cs++ms)::A1) Ps→wpList P ops Q (sg ops (i+1) j) a w):wpList P ops Q (sg ops i j) a w:=by
 obtain⟨hu,hle⟩:=lend_facts hS.st hp hl
 obtain⟨⟨hm1,hm2⟩,hm3,hm4⟩:=(hm _ hu hle).here
 have hS1:=hS.perm (pickA_perm hp)
 simp only[List.cons_append,List.nil_append] at hS1
 unfold appAt at h
 split at h
 ·rename_i o ho
  rw[sg_at ho hij]
  split at h
  ·rename_i d1 t1 s x hg hdst hop hk
   split at h
   ·rename_i hd
    simp only[Option.some.injEq,Prod.mk.injEq] at h
    obtain⟨rfl,rfl,hs,hx⟩:=h
    have hd':d1<n:=Nat.blt_eq▸hd
    have ho':=appOp_sound hop
    have hks:knownO L s=true:=List.all_eq_true.1 hk s (by rw[ho'];simp[Op.operands,Call.operands])
    have hkx:knownO L x=true:=List.all_eq_true.1 hk x (by rw[ho'];simp[Op.operands,Call.operands])
    obtain⟨A',c',w',hr,h2,h3,h4⟩:=run_append_st (ty:=o.type) (c2:=c2) ht (hS1.st.own _ (List.mem_cons_self ..)) hm1 hm2 hm3 hm4 hroom
    refine wpList_do (gwant_sound hS.has hg) (v:= .slice A' (k+m) c') (w':=w') ?_ (by rw[hdst];exact hK A' c' _ w' ((hS1.set0 h3 h2 h4 fp_row_nodup).put hd' _))
    simp only[execOp,ho',resolve,invoke,builtin,Sem.run_bind,Sem.run_pure,Result.andThen_ok]
    simp[hS.has.eval hks,hS.has.eval hkx,hs,hx,hr]
   ·cases h
  ·cases h
 ·cases h
theorem app_src{α:Type}{F:Flat α}{b:Option Addr}{c2:Nat}{l:List α}(h:RS (G:=Flat.toGoT F) w b c2 l):(CellsAt w (baseOf b) (l.flatMap F.enc)∧(b=none→l.length=0))∧(l.flatMap F.enc).length=l.length*F.sz∧∀u∈l.flatMap F.enc,u.oneCell'=true:=
 ⟨⟨h.cells,λe=>by
  by_cases hl:l=[]
  ·simp[hl]
  ·exact absurd e (h.some_ hl)⟩,flat_len l,flat_one l⟩
theorem r_blt(i:Nat){j:Nat}(hij:Nat.blt i j=true){d:Option Nat}{b:Builtin}{ts:Array TypeId}{ty:TypeId}{vs:Array Value}(hS:Sy C n a w L As Ps)(h:bltAt n ops L i=some (d,b,ts,ty,vs))
  {v:Value} {w':World} (hr:∀cs,(builtin b ts ty cs vs).run P w= .ok (.value v) w')
  (hK:∀a',Has a' n (upd L d v)→wpList P ops Q (sg ops (i+1) j) a' w'):wpList P ops Q (sg ops i j) a w:=wl_blt i hij hS.has h hr hK
end
inductive DS where
 |val (v:Value)
 |q (Q:Value→List Asn→List (World→Prop)→Prop)
def DS.sp(F:List Nat)(N0:Nat):DS→SpecV
 | .val v=>SpecV.val v
 | .q Q=>⟨λw v=>∃A P,Q v A P∧St F w A P∧∀b∈fps A,N0≤b,fun⟨A,P,h1,h2,h3⟩ e=>⟨A,P,h1,h2.ext e,h3⟩,false,λh=>by cases h⟩
def envD(ops:Array Oper)(D:List DS)(V:Nat→Value):List Nat→Env
 |[]=>[]
 |j::r=>match dstOf ops j with
  |some d=>(d,match D[j]? with|some (.val v)=>v|_=>V j)::envD ops D V r
  |none=>envD ops D V r
def isQ(D:List DS)(j:Nat):Bool:=match D[j]? with
 |some (.q _)=>true
 |_=>false
section
variable {P : Program} {ops : Array Oper} {Q : Exit → Act → World → Prop} {C : Cx} {n : Nat} {a : Act} {w : World} {L : Env} {As : List Asn} {Ps : List (World → Prop)}
def valD(D:List DS)(j:Nat):Value:=match D[j]? with
 |some (.val v)=>v
 |_=>undef
def isV(D:List DS)(j:Nat):Bool:=match D[j]? with
 |some (.val _)=>true
 |_=>false
theorem isV_val{D:List DS}{j:Nat}(h:isV D j=true):D[j]? =some (.val (valD D j)):=by
 unfold isV at h
 unfold valD
 cases hD:D[j]? with
 |none=>rw[hD] at h;cases h
 |some x=>cases x with
  |val v=>rfl
  |q _=>rw[hD] at h;cases h
def drawB(P:Program)(n:Nat)(ops:Array Oper)(p:Nat)(L:Env)(As:List Asn)(D:List DS):List (Nat×List Hint)→Option (List Value×List (World→Prop))
 |[]=>some ([],[])
 |(i,hs)::r=>match ops[i]?,drawB P n ops p L As D r,(predsOf ops i).all (λj=>match isQ D j with|true=>false|false=>true) with
  |some o,some (vs,ob),true=>match gwant ops (envD ops D (λ_=>undef) (predsOf ops i)++extAt ops p i L) o,o.dst,noSel o.op with
   |some false,some _,_=>some (undef::vs,ob)
   |some true,some _,true=>match o.op.operands.toList.all (knownO (envD ops D (λ_=>undef) (predsOf ops i)++extAt ops p i L)),valA P (envD ops D (λ_=>undef) (predsOf ops i)++extAt ops p i L) As hs o with
    |true,some (v,[],ps)=>some (v::vs,ps++ob)
    |_,_=>none
   |_,_,_=>none
  |_,_,_=>none
def AllI(p:Nat→Prop):List Nat→Prop
 |[]=>True
 |i::r=>p i∧AllI p r
theorem allI_mem{p:Nat→Prop}:∀{l:List Nat},AllI p l→∀i∈l,p i
 |[],_,i,h=>by cases h
 |_::_,h,i,hi=>by
  rcases List.mem_cons.1 hi with rfl|hi
  ·exact h.1
  ·exact allI_mem h.2 i hi
theorem drawB_at {p : Nat} {D : List DS} : ∀ {l : List (Nat × List Hint)} {vs : List Value} {ob : List (World → Prop)}, drawB P n ops p L As D l = some (vs, ob) → AllP w ob → ∀ (k i : Nat) (hs : List Hint), l[k]? = some (i, hs) → ∃ o d v, ops[i]? = some o ∧ o.dst = some d ∧ vs[k]? = some v ∧ (∀ j ∈ predsOf ops i, isQ D j = false) ∧
    ((gwant ops (envD ops D (fun _ => undef) (predsOf ops i) ++ extAt ops p i L) o = some false ∧ v = undef) ∨
     (gwant ops (envD ops D (fun _ => undef) (predsOf ops i) ++ extAt ops p i L) o = some true ∧ noSel o.op = true ∧ o.op.operands.toList.all (knownO (envD ops D (fun _ => undef) (predsOf ops i) ++ extAt ops p i L)) = true ∧
      ∃ ps, valA P (envD ops D (fun _ => undef) (predsOf ops i) ++ extAt ops p i L) As hs o = some (v, [], ps) ∧ AllP w ps))
  | [], vs, ob, h, ho, k, i, hs, hk => by simp at hk
  | (i0, hs0) :: r, vs, ob, h, ho, k, i, hs, hk => by
    simp only [drawB] at h
    split at h
    · rename_i o vs1 ob1 hoi hr hq
      have hq' : ∀ j ∈ predsOf ops i0, isQ D j = false := fun j hj => by
        have := List.all_eq_true.1 hq j hj
        cases hb : isQ D j
        · rfl
        · rw [hb] at this; cases this
      split at h
      · rename_i d hg hd
        simp only [Option.some.injEq, Prod.mk.injEq] at h
        obtain ⟨rfl, rfl⟩ := h
        cases k with
        | zero =>
          simp only [List.getElem?_cons_zero, Option.some.injEq, Prod.mk.injEq] at hk
          obtain ⟨rfl, rfl⟩ := hk
          exact ⟨o, d, undef, hoi, hd, rfl, hq', .inl ⟨hg, rfl⟩⟩
        | succ k => exact drawB_at hr ho k i hs (by simpa using hk)
      · rename_i d hg hd hsel
        split at h
        · rename_i v ps hkn hval
          simp only [Option.some.injEq, Prod.mk.injEq] at h
          obtain ⟨rfl, rfl⟩ := h
          obtain ⟨ho1, ho2⟩ := AllP_append _ _ ho
          cases k with
          | zero =>
            simp only [List.getElem?_cons_zero, Option.some.injEq, Prod.mk.injEq] at hk
            obtain ⟨rfl, rfl⟩ := hk
            exact ⟨o, d, v, hoi, hd, rfl, hq', .inr ⟨hg, hsel, hkn, ps, hval, ho1⟩⟩
          | succ k => exact drawB_at hr ho2 k i hs (by simpa using hk)
        · cases h
      · cases h
    · cases h
theorem has_append_congr{E E' X:Env}(hK:∀t,hasK E t=hasK E' t)(hl:∀t,hasK E t=true→lk E t=lk E' t)(h:Has a n (E++X)):Has a n (E'++X):=by
 refine⟨h.size,h.defers,λt ht=> ?_⟩
 have h1:=h.get t (by rw[hasK_append] at ht⊢;rw[hK t];exact ht)
 rw[h1,lk_append,lk_append,hK t]
 split
 ·rename_i h2;exact hl t (by rw[hK t];exact h2)
 ·rfl
theorem envD_has{F:List Nat}{N0:Nat}{D:List DS}{V:Nat→Value}{X:Env}{js:List Nat}(h:Has a n (envOf ops V js++X))(hv:∀j∈js,∀v,D[j]? =some (.val v)→V j=v):Has a n (envD ops D V js++X):=by
 have hk:∀(js:List Nat)(t:Nat),hasK (envOf ops V js) t=hasK (envD ops D V js) t:=by
  intro js t
  induction js with
  |nil=>rfl
  |cons j r ih=>
   simp only[envOf,envD]
   cases dstOf ops j with
   |none=>exact ih
   |some d=>simp only[hasK];rw[ih]
 refine has_append_congr (hk js) (λt ht=> ?_) h
 clear h
 induction js with
 |nil=>rfl
 |cons j r ih=>
  simp only[envOf,envD] at ht⊢
  cases hd:dstOf ops j with
  |none=>simp only[hd] at ht⊢;exact ih (λj hj=>hv j (List.mem_cons_of_mem _ hj)) ht
  |some d=>
   simp only[hd,hasK,lk] at ht⊢
   cases hb:Nat.beq d t
   ·simp only[hb] at ht⊢
    exact ih (λj hj=>hv j (List.mem_cons_of_mem _ hj)) ht
   ·simp only[hb]
    cases hD:D[j]? with
    |none=>rfl
    |some x=>cases x with
     |val v=>exact hv j (List.mem_cons_self ..) v hD
     |q _=>rfl
theorem envD_noq{D:List DS}{V V':Nat→Value}:∀(js:List Nat),(∀j∈js,isQ D j=false∧j<D.length)→envD ops D V js=envD ops D V' js
 |[],_=>rfl
 |j::r,h=>by
  simp only[envD]
  rw[envD_noq r λj hj=>h j (List.mem_cons_of_mem _ hj)]
  obtain⟨h1,h2⟩:=h j (List.mem_cons_self ..)
  unfold isQ at h1
  cases hD:D[j]? with
  |none=>simp at hD;omega
  |some x=>cases x with
   |val v=>rfl
   |q _=>rw[hD] at h1;cases h1
theorem r_draw{c:Code}(ops:Array Oper)(p:Nat){j:Nat}(D:List DS)(ks:List Nat)(pl:List (Nat×List Hint))(cl:List Nat){ob:List (World→Prop)}(hm:P.follows .mixedOrders=true)
  (hc:c= .region (regI c) ops true) (hS:Sy C n a w L As Ps) (hj:ops.size=j) (hok:relOk ops p=true) (hks:∀F N0,ksOk ops p (D.map (DS.sp F N0)) ks=true)
  (hd:(List.range p).all (λk=>match dstOf ops k with|some d=>Nat.blt d n|none=>true)=true)
  (hv:drawB P n ops p L As D pl=some (pl.map (λx=>valD D x.1),ob)) (hvD:(match Nat.beq D.length p with|true=>pl.all λx=>isV D x.1|false=>false)=true)
  (hpl:((List.range p).all λi=>match memN cl i with|true=>true|false=>pl.any λx=>Nat.beq x.1 i&&(match memN ks i with|true=>false|false=>true))=true)
  (ho:AllB (C.fr As) w ob)
  (steps:AllI (λi=>∀(V:Nat→Value) a' w',Ext w w'→Sy C n a' w' (envD ops D V (predsOf ops i)++extAt ops p i L) As Ps→(∀j∈predsOf ops i,∀QQ,D[j]? =some (.q QQ)→∃A' P',QQ (V j) A' P'∧St (C.fr As) w' A' P'∧∀b∈fps A',w.heap.size≤b)→
   StepR P ops (Ek ks (Ext w) i) (specAt (D.map (DS.sp (C.fr As) w.heap.size)) i).p Q i a' w') cl)
  (fin:∀(V:Nat→Value) a' w',Ext w w'→Sy C n a' w' (envD ops D V (List.range p)++extOut ops p L) As Ps→(∀j,j<p→alive ops p (D.map (DS.sp (C.fr As) w.heap.size)) ks j=true→∀QQ,D[j]? =some (.q QQ)→∃A' P',QQ (V j) A' P'∧St (C.fr As) w' A' P'∧∀b∈fps A',w.heap.size≤b)→
   wpList P ops Q (sg ops p j) a' w'):c.wp P Q a w:=by
 have hlen:D.length=p:=by
  split at hvD
  ·rename_i h;exact Nat.eq_of_beq_eq_true h
  ·cases hvD
 have hall:∀x∈pl,isV D x.1=true:=by
  split at hvD
  ·exact λx hx=>List.all_eq_true.1 hvD x hx
  ·cases hvD
 have hspec:∀j x,D[j]? =some x→specAt (D.map (DS.sp (C.fr As) w.heap.size)) j=x.sp (C.fr As) w.heap.size:=λj x h=>by
  simp[specAt,List.getD_eq_getElem?_getD,h]
 have hpred:∀i j,j∈predsOf ops i→i<p→j<p:=λi j hj hi=>by
  simp only[relOk,Bool.and_eq_true] at hok
  obtain⟨⟨⟨hb1,_⟩,_⟩,hb4⟩:=hok
  have hps:p≤ops.size:=Nat.le_of_ble_eq_true hb4
  have:=List.all_eq_true.1 (List.all_eq_true.1 hb1 i (List.mem_range.2 (by omega))) j hj
  have:j<i:=Nat.blt_eq▸this
  omega
 have vals:∀(js:List Nat)(V:Nat→Value)(w':World),(∀j∈js,(specAt (D.map (DS.sp (C.fr As) w.heap.size)) j).p w' (V j))→∀j∈js,∀v,D[j]? =some (.val v)→V j=v:=λjs V w' h j hj v hv=>by
  have:=h j hj
  rw[hspec j _ hv] at this
  exact this
 refine c_region_ks ops p j (D.map (DS.sp (C.fr As) w.heap.size)) ks (Ext w) (λh e=>h.trans e) (Ext.drew w) hm hc hok (hks _ _) hj hS.has hd ?_ ?_
 ·intro i hi V a' w' he _ hsp hA
  have hvals:=vals _ V w' hsp
  have hA':=envD_has (F:=[]) (N0:=0) (D:=D) hA hvals
  have hS':Sy C n a' w' (envD ops D V (predsOf ops i)++extAt ops p i L) As Ps:=⟨hA',hS.st.ext he,hS.keep.step (Keep.ofExt (F:=[]) he) (by simp),hS.old⟩
  have hcov:=List.all_eq_true.1 hpl i (List.mem_range.2 hi)
  cases hmem:memN cl i
  ·rw[hmem] at hcov
   simp only[List.any_eq_true,Bool.and_eq_true] at hcov
   obtain⟨⟨i',hs⟩,hx,hxi,hnk⟩:=hcov
   obtain rfl:=Nat.eq_of_beq_eq_true hxi
   have hnk':memN ks i'=false:=by
    cases hb:memN ks i'
    ·rfl
    ·rw[hb] at hnk;cases hnk
   obtain⟨k,hk⟩:=List.getElem?_of_mem hx
   obtain⟨o,d,v,hoi,hdst,hvk,hnq,hcase⟩:=drawB_at hv (AllB.at (Keep.ofExt he) ho) k i' hs hk
   have hDv:D[i']? =some (.val v):=by
    rw[List.getElem?_map,hk] at hvk
    simp only[Option.map_some,Option.some.injEq] at hvk
    subst hvk
    exact isV_val (hall _ hx)
   rw[hspec _ _ hDv,Ek_false hnk']
   have hdd:dstOf ops i'=some d:=by simp[dstOf,hoi,hdst]
   have e1:=envD_noq (ops:=ops) (D:=D) (V:=V) (V':=λ_=>undef) (predsOf ops i') λj hj=>⟨hnq j hj,by rw[hlen];exact hpred i' j hj hi⟩
   rw[e1] at hA'
   unfold StepR wpOp
   rw[hoi]
   simp only
   rcases hcase with⟨hg,rfl⟩|⟨hg,hsel,hkn,ps,hval,hps⟩
   ·simp only[gwant_sound hA' hg,Bool.false_eq_true,if_false]
    exact⟨d,undef,hdd,by rw[hdst],Ext.refl _,rfl⟩
   ·simp only[gwant_sound hA' hg,if_true]
    have hrun:=valA_sound (a:=a') hval hsel hps (hS.st.ext he).own λx hx=>hA'.eval (List.all_eq_true.1 hkn x (Array.mem_toList_iff.2 hx))
    refine .inl ?_
    simp only[Oper.wp,hrun,Oper.upon]
    exact⟨d,v,hdd,by rw[hdst],Ext.refl _,rfl⟩
  ·refine allI_mem steps i (memN_iff.1 hmem) V a' w' he hS' λj hj QQ hQ=> ?_
   have:=hsp j hj
   rw[hspec j _ hQ] at this
   exact this
 ·intro V a' w' he hsp hA
  refine fin V a' w' he ⟨envD_has (F:=[]) (N0:=0) (D:=D) hA λj hj v hDv=> ?_,hS.st.ext he,hS.keep.step (Keep.ofExt (F:=[]) he) (by simp),hS.old⟩ λj hj hal QQ hQ=> ?_
  ·have hjp:=List.mem_range.1 hj
   have:=hsp j hjp (List.all_eq_true.2 λk _=>by
    simp[killB,hspec j _ hDv,DS.sp,SpecV.val])
   rw[hspec j _ hDv] at this
   exact this
  ·have:=hsp j hj hal
   rw[hspec j _ hQ] at this
   exact this
end
end Go.Bur
