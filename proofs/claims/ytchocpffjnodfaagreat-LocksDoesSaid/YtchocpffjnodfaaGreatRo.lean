import Derived.Test.YtchocpffjnodfaaGreatRg
namespace Go.Bur
open Go.RowKit
set_option linter.unusedVariables false
set_option linter.unusedSimpArgs false
def jn{T R:Type}(f:T→R)(g:(T→R)→R):R:=g f
inductive Gw where
 |yes
 |no
 |opn (d:Nat) (want b:Bool)
 |bad
def gwE{τ:Nat→Type}(ops:Array Oper)(env:List (Nat×AV τ))(o:Oper):Gw:=match o.guard with
 |none=> .yes
 |some (j,want)=>match dstOf ops j with
  |some d=>match look env d with
   |some (.v (.one (.lit b)))=>match b,want with
    |true,true=> .yes
    |false,false=> .yes
    |_,_=> .no
   |some (.v (.one .ud))=> .no
   |some (.v (.one (.d .bool b)))=> .opn d want b
   |_=> .bad
  |none=> .bad
def isPickOf(d:Nat)(o:Oper):Bool:=match o.op with
 | .pick (.tmp t) _ _=>Nat.beq t d
 |_=>false
def splitPick(d:Nat):List Oper→Option (List Oper×Oper×List Oper)
 |[]=>none
 |o::r=>match isPickOf d o with
  |true=>some ([],o,r)
  |false=>match splitPick d r with
   |some (g,p,q)=>some (o::g,p,q)
   |none=>none
def dsts:List Oper→List Nat
 |[]=>[]
 |o::r=>match o.dst with
  |some d=>d::dsts r
  |none=>dsts r
def dropE{τ:Nat→Type}(ds:List Nat):List (Nat×AV τ)→List (Nat×AV τ)
 |[]=>[]
 |(t,x)::r=>match memN ds t with
  |true=>dropE ds r
  |false=>(t,x)::dropE ds r
def boolOf{τ:Nat→Type}:Option (AV τ)→Option Bool
 |some (.v (.one (.lit b)))=>some b
 |some (.v (.one (.d .bool b)))=>some b
 |_=>none
def setLit{τ:Nat→Type}(s:ASt τ)(d:Nat)(b:Bool):ASt τ:=⟨s.nx,(d,.v (.one (.lit b)))::s.env,s.its,s.org⟩
def setUd{τ:Nat→Type}(s:ASt τ)(d:Option Nat):ASt τ:=⟨s.nx,setE s.env d (.v (.one .ud)),s.its,s.org⟩
def bmp(g:List Oper):Nat:=64*(g.length+1)
def joinSt{τ:Nat→Type}(s:ASt τ)(g:List Oper)(pd:Nat)(x:Bool):ASt τ:=⟨s.nx+bmp g,(pd,dbool x)::dropE (dsts g) s.env,s.its,s.org⟩
section
variable {R : Type}
def finG{τ:Nat→Type}(P:Program)(ops:Array Oper)(p:Oper)(m:Nat)(s':ASt τ)(j:Bool→Option R):Option R:=match gwE ops s'.env p with
 | .yes=>match boolOf (opMove P (evO s'.env) p.op),Nat.ble s'.nx m with
  |some y,true=>j y
  |_,_=>none
 |_=>none
noncomputable def exOps(W:Wk)(N n:Nat)(ops:Array Oper)(sp:Bool):Nat→Option Nat→List Oper→ASt W.S.τ→(ASt W.S.τ→Option R)→Option R
 |0,_,_,_,_=>none
 |_+1,_,[],s,k=>k s
 |f+1,ro,o::r,s,k=>match gwE ops s.env o with
  | .yes=>step1 W N n ro o s λs'=>exOps W N n ops sp f ro r s' k
  | .no=>match dOk N o.dst with
   |true=>exOps W N n ops sp f ro r (setUd s o.dst) k
   |false=>none
  | .opn d want b=>match sp,ro with
   |true,none=>cond b (exOps W N n ops sp f none (o::r) (setLit s d true) k) (exOps W N n ops sp f none (o::r) (setLit s d false) k)
   |_,_=>match splitPick d (o::r) with
    |some (g,p,q)=>match p.dst with
     |some pd=>match Nat.blt pd N with
      |true=>jn (λx:Bool=>exOps W N n ops sp f ro q (joinSt s g pd x) k) λj=>
        cond b (exOps W N n ops sp f (some s.nx) g (setLit s d true) λs'=>finG W.P ops p (s.nx+bmp g) s' j) (exOps W N n ops sp f (some s.nx) g (setLit s d false) λs'=>finG W.P ops p (s.nx+bmp g) s' j)
      |false=>none
     |none=>none
    |none=>none
  | .bad=>none
theorem look_drop{τ:Nat→Type}{ds:List Nat}:∀{env:List (Nat×AV τ)} {t:Nat} {x:AV τ},look (dropE ds env) t=some x→look env t=some x∧t∉ds
 |[],t,x,h=>by cases h
 |(d,y)::r,t,x,h=>by
  simp only[dropE] at h
  split at h
  ·rename_i hm
   obtain⟨h1,h2⟩:=look_drop h
   simp only[look]
   have:Nat.beq d t=false:=by
    cases hb:Nat.beq d t with
    |false=>rfl
    |true=>exact absurd (Nat.eq_of_beq_eq_true hb▸memN_iff.1 hm) h2
   rw[this]
   exact⟨h1,h2⟩
  ·rename_i hm
   simp only[look] at h⊢
   split at h
   ·rename_i hb
    rw[←Nat.eq_of_beq_eq_true hb]
    exact⟨h,λhk=>by rw[memN_iff.2 hk] at hm;cases hm⟩
   ·exact look_drop h
theorem look_drop_of{τ:Nat→Type}{ds:List Nat}:∀{env:List (Nat×AV τ)} {t:Nat},t∉ds→look (dropE ds env) t=look env t
 |[],t,h=>rfl
 |(d,y)::r,t,h=>by
  simp only[dropE]
  cases hm:memN ds d with
  |true=>
   simp only[look]
   have:Nat.beq d t=false:=by
    cases hb:Nat.beq d t with
    |false=>rfl
    |true=>exact absurd (Nat.eq_of_beq_eq_true hb▸memN_iff.1 hm) h
   rw[this]
   exact look_drop_of h
  |false=>
   simp only[look]
   rw[look_drop_of h]
theorem split_eq{d:Nat}:∀{l g q:List Oper} {p:Oper},splitPick d l=some (g,p,q)→l=g++p::q∧isPickOf d p=true
 |[],g,q,p,h=>by cases h
 |o::r,g,q,p,h=>by
  simp only[splitPick] at h
  split at h
  ·rename_i hp
   simp only[Option.some.injEq,Prod.mk.injEq] at h
   obtain⟨rfl,rfl,rfl⟩:=h
   exact⟨rfl,hp⟩
  ·split at h
   ·rename_i g1 p1 q1 h1
    simp only[Option.some.injEq,Prod.mk.injEq] at h
    obtain⟨rfl,rfl,rfl⟩:=h
    obtain⟨h2,h3⟩:=split_eq h1
    exact⟨by rw[h2];rfl,h3⟩
   ·cases h
theorem dsts_app:∀(l m:List Oper),dsts (l++m)=dsts l++dsts m
 |[],m=>rfl
 |o::r,m=>by
  simp only[List.cons_append,dsts]
  split<;>simp[dsts_app r m]
section
variable {P : Program} {S : Tab} {C : Cy} {N : Nat} {s : ASt S.τ} {a : Act} {w : World}
theorem gw_tmp{ops:Array Oper}{j d:Nat}{a:Act}{b:Bool}(hd:dstOf ops j=some d)(hv:a.tmps.getD d undef= .bool b):yielded ops a.tmps j=some b:=by
 have hv':a.tmps[d]? =some (.bool b):=by
  rw[Array.getD_eq_getD_getElem?] at hv
  cases hq:a.tmps[d]? with
  |none=>rw[hq] at hv;simp[undef] at hv
  |some x=>rw[hq] at hv;simpa using hv
 unfold dstOf at hd
 simp only[yielded,hd,Option.bind_some,hv']
theorem gw_yes{ops:Array Oper}{o:Oper}(h:gwE ops s.env o= .yes)(hH:Hold P S C N s a w):Region.wanted o (yielded ops a.tmps)=true:=by
 obtain⟨ρ,As,Ps,hH⟩:=hH
 unfold gwE at h
 unfold Region.wanted
 split at h
 ·rename_i hg;rw[hg]
 ·rename_i j want hg
  rw[hg]
  split at h
  ·rename_i d hd
   split at h
   ·rename_i b hl
    have hv:a.tmps.getD d undef= .bool b:=hH.env _ _ hl
    simp only[gw_tmp hd hv]
    split at h<;>first|rfl|cases h
   ·cases h
   ·cases h
   ·cases h
  ·cases h
theorem gw_no{ops:Array Oper}{o:Oper}(h:gwE ops s.env o= .no)(hH:Hold P S C N s a w):Region.wanted o (yielded ops a.tmps)=false:=by
 obtain⟨ρ,As,Ps,hH⟩:=hH
 unfold gwE at h
 unfold Region.wanted
 split at h
 ·cases h
 ·rename_i j want hg
  rw[hg]
  split at h
  ·rename_i d hd
   split at h
   ·rename_i b hl
    have hv:a.tmps.getD d undef= .bool b:=hH.env _ _ hl
    simp only[gw_tmp hd hv]
    cases b<;>cases want<;>first|rfl|cases h
   ·rename_i hl
    have hv:a.tmps.getD d undef=undef:=hH.env _ _ hl
    have:yielded ops a.tmps j=none:=by
     unfold dstOf at hd
     unfold yielded
     rw[hd]
     rw[Array.getD_eq_getD_getElem?] at hv
     cases hq:a.tmps[d]? with
     |none=>simp[hq]
     |some x=>
      rw[hq] at hv
      simp only[Option.getD_some] at hv
      subst hv
      simp[hq,undef]
    simp only[this]
    cases want<;>rfl
   ·cases h
   ·cases h
  ·cases h
theorem gw_opn{ops:Array Oper}{o:Oper}{d:Nat}{want b:Bool}(h:gwE ops s.env o= .opn d want b):look s.env d=some (.v (.one (.d .bool b))):=by
 unfold gwE at h
 split at h
 ·cases h
 ·split at h
  ·split at h
   ·split at h<;>cases h
   ·cases h
   ·rename_i hl
    injection h with h1 h2 h3
    subst h1 h3
    exact hl
   ·cases h
  ·cases h
theorem hold_lit{d:Nat}{b:Bool}(hl:look s.env d=some (.v (.one (.d .bool b))))(h:Hold P S C N s a w):Hold P S C N (setLit s d b) a w:=by
 obtain⟨ρ,As,Ps,h⟩:=h
 refine⟨ρ,As,Ps,h.st,h.keep,h.old,h.size,h.dfr,λt x hx=> ?_,h.its,h.dom,h.org⟩
 simp only[setLit,look] at hx
 split at hx
 ·rename_i hb
  rw[←Nat.eq_of_beq_eq_true hb]
  obtain rfl:=someI' hx
  exact(show _=Value.bool b from h.env d _ hl)
 ·exact h.env t x hx
theorem hold_ud{d:Option Nat}(hd:dOk N d=true)(h:Hold P S C N s a w):Hold P S C N (setUd s d) (a.put d undef) w:=by
 obtain⟨ρ,As,Ps,h⟩:=h
 refine⟨ρ,As,Ps,h.st,h.keep,h.old, ?_, ?_,λt x hx=> ?_,h.its,h.dom,h.org⟩
 ·cases d<;>simp[Act.put,h.size]
 ·cases d<;>simp[Act.put,h.dfr]
 ·cases d with
  |none=>exact h.env t x hx
  |some d=>
   have hdn:d<N:=Nat.blt_eq▸hd
   simp only[setUd,setE,look] at hx
   split at hx
   ·rename_i hb
    rw[←Nat.eq_of_beq_eq_true hb]
    obtain rfl:=someI' hx
    have:d<a.tmps.size:=h.size▸hdn
    have:((a.put (some d) undef).tmps).getD d undef=undef:=by simp[Act.put,this]
    rw[this];rfl
   ·rename_i hb
    have hne:d≠t:=λe=>by rw[e,show Nat.beq t t=true from Nat.beq_eq▸rfl] at hb;cases hb
    have:((a.put (some d) undef).tmps).getD t undef=a.tmps.getD t undef:=by simp[Act.put,hne]
    rw[this]
    exact h.env t x hx
theorem hold_join{g:List Oper}{pd:Nat}{y:Bool}{s':ASt S.τ}{b:Bool}{d:Nat}(hn:∀x∈s.its,x.1<s.nx)(hfr:Fr (some s.nx) (dsts g) (setLit s d b) s')(horg:s'.org=s.org)(hpd:pd<N)(hnx:s'.nx≤s.nx+bmp g)(hl:look s.env d=some (.v (.one (.d .bool b))))(h:Hold P S C N s' a w):Hold P S C N (joinSt s g pd y) (a.put (some pd) (.bool y)) w:=by
 obtain⟨ρ,As,Ps,h⟩:=h
 obtain⟨X,hp⟩:=hfr.2.2 s.its hn ⟨[],by simp[setLit]⟩
 obtain⟨As1,hp1,h1⟩:=All2.perm hp h.its
 obtain⟨A1,A2,rfl,_,h2⟩:=All2.split h1
 have hst:=(h.st.perm (hp1.trans List.perm_append_comm)).sub (Qs:=Ps) λ_ h=>h
 refine⟨ρ,A2,Ps,hst,h.keep,λb hb=>h.old b ((fps_perm hp1).mem_iff.2 (by rw[fps_append];exact List.mem_append_right _ hb)), ?_, ?_,λt x hx=> ?_,h2,λk g hk=> ?_,λi k g h1 h2=>h.org i k g (horg▸h1) h2⟩
 ·simp[Act.put,h.size]
 ·simp[Act.put,h.dfr]
 ·simp only[joinSt,look] at hx
  split at hx
  ·rename_i hb
   rw[←Nat.eq_of_beq_eq_true hb]
   obtain rfl:=someI' hx
   have:pd<a.tmps.size:=h.size▸hpd
   have:((a.put (some pd) (.bool y)).tmps).getD pd undef= .bool y:=by simp[Act.put,this]
   rw[this];rfl
  ·rename_i hb
   have hne:pd≠t:=λe=>by rw[e,show Nat.beq t t=true from Nat.beq_eq▸rfl] at hb;cases hb
   have:((a.put (some pd) (.bool y)).tmps).getD t undef=a.tmps.getD t undef:=by simp[Act.put,hne]
   rw[this]
   obtain⟨h3,h4⟩:=look_drop hx
   have h5:=hfr.2.1 t h4
   simp only[setLit,look] at h5
   cases hdt:Nat.beq d t with
   |true=>
    rw[hdt] at h5
    have hdt':=Nat.eq_of_beq_eq_true hdt
    subst hdt'
    rw[hl] at h3
    obtain rfl:=someI' h3
    have:=h.env _ _ h5
    exact this
   |false=>
    rw[hdt] at h5
    exact h.env t x (h5.trans h3)
 ·have:=h.dom k g hk
  exact Nat.lt_of_lt_of_le this hnx
end
theorem boolOf_rel{S:Tab}{ρ:Rho}{Ps:List (World→Prop)}{x:Option (AV S.τ)}{y:Bool}{v:Value}(h:boolOf x=some y)(hr:∀z,x=some z→RelAV S ρ Ps z v):v= .bool y:=by
 unfold boolOf at h
 split at h
 ·obtain rfl:=someI' h;exact hr _ rfl
 ·obtain rfl:=someI' h;exact hr _ rfl
 ·cases h
theorem pick_run{P:Program}{S:Tab}{ρ:Rho}{Ps:List (World→Prop)}{o:Oper}{ev:Ev S.τ}{d:Nat}{y:Bool}{a:Act}{w:World}(hev:EvRel S ρ Ps ev a)(hp:isPickOf d o=true)(h:boolOf (opMove P ev o.op)=some y):(execOp a.eval o).run P w= .ok (.value (.bool y)) w:=by
 unfold isPickOf at hp
 split at hp
 ·rename_i t x z ho
  rw[ho] at h
  simp only[opMove] at h
  split at h
  ·rename_i e hc
   have hcv:a.eval (.tmp t)= .bool e:=hev _ _ hc
   split at h
   ·have:=boolOf_rel (v:=a.eval x) h λz hz=>hev _ _ hz
    simp[execOp,ho,hcv,asBool,this]
   ·have:=boolOf_rel (v:=a.eval z) h λz hz=>hev _ _ hz
    simp[execOp,ho,hcv,asBool,this]
  ·cases h
 ·cases hp
theorem exOps_sound{W:Wk}(hW:WkOk W){C:Cy}{N n:Nat}{ops:Array Oper}{sp:Bool}{r:R}{Q:Exit→Act→World→Prop}:∀(f:Nat)(ro:Option Nat)(l rest:List Oper)(s:ASt W.S.τ)(k:ASt W.S.τ→Option R)(a:Act)(w:World),exOps W N n ops sp f ro l s k=some r→Hold W.P W.S C N s a w→
  (∀s' a' w',k s'=some r→Fr ro (dsts l) s s'→Hold W.P W.S C N s' a' w'→wpListX W.P ops Q rest a' w')→wpListX W.P ops Q (l++rest) a w
 |0,ro,l,rest,s,k,a,w,h,hH,hK=>by cases h
 |f+1,ro,[],rest,s,k,a,w,h,hH,hK=>hK s a w h (Fr.refl _ _ _) hH
 |f+1,ro,o::l,rest,s,k,a,w,h,hH,hK=>by
  simp only[exOps] at h
  split at h
  ·rename_i hg
   have hw:=gw_yes hg hH
   show wpListX W.P ops Q (o::(l++rest)) a w
   unfold wpListX
   rw[if_pos hw]
   refine(step1_sound hW h hH λs' a' w' hk hfr hH'=> ?_)
   refine exOps_sound hW f ro l rest s' k a' w' hk hH' λs2 a2 w2 hk2 hfr2 hH2=>hK s2 a2 w2 hk2 (hfr.trans hfr2 (λd hd=> ?_) λd hd=> ?_) hH2
   ·simp only[dsts]
    cases ho:o.dst with
    |none=>rw[ho] at hd;simp at hd
    |some d'=>rw[ho] at hd;simp at hd;simp[hd]
   ·simp only[dsts]
    split
    ·exact List.mem_cons_of_mem _ hd
    ·exact hd
  ·rename_i hg
   have hw:=gw_no hg hH
   split at h
   ·rename_i hd
    show wpListX W.P ops Q (o::(l++rest)) a w
    refine wpListX_skip hw ?_
    refine exOps_sound hW f ro l rest _ k _ w h (hold_ud hd hH) λs2 a2 w2 hk2 hfr2 hH2=>hK s2 a2 w2 hk2 ?_ hH2
    have h0:Fr ro o.dst.toList s (setUd s o.dst):=by
     cases ro with
     |none=>trivial
     |some m=>exact⟨rfl,λt ht=>look_set ht,λ_ _ h=>h⟩
    refine h0.trans hfr2 (λd hd=> ?_) λd hd=> ?_
    ·simp only[dsts]
     cases ho:o.dst with
     |none=>rw[ho] at hd;simp at hd
     |some d'=>rw[ho] at hd;simp at hd;simp[hd]
    ·simp only[dsts]
     split
     ·exact List.mem_cons_of_mem _ hd
     ·exact hd
   ·cases h
  ·rename_i d want b hg
   split at h
   ·rename_i hsp0
    have hlook:=gw_opn hg
    have key:exOps W N n ops true f none (o::l) (setLit s d b) k=some r:=by cases b<;>exact h
    exact exOps_sound hW f none (o::l) rest _ k a w key (hold_lit hlook hH) λs2 a2 w2 hk2 hfr2 hH2=>hK s2 a2 w2 hk2 trivial hH2
   ·split at h
    ·rename_i g p q hsp
     obtain⟨hl,hpk⟩:=split_eq hsp
     split at h
     ·rename_i pd hpd
      split at h
      ·rename_i hpdN
       have hlook:=gw_opn hg
       have hn:∀x∈s.its,x.1<s.nx:=by
        obtain⟨ρ,As,Ps,hH⟩:=hH
        intro x hx
        obtain⟨A,_,hr⟩:=all2_mem hH.its x hx
        obtain⟨k,y⟩:=x
        cases y with
        |box xs=>obtain⟨g,vs,h1,_⟩:=hr;exact hH.dom _ _ h1
        |row e t l=>obtain⟨g,vs,h1,_⟩:=hr;exact hH.dom _ _ h1
        |map q kt et vt m=>obtain⟨g,z,E,L,h1,_⟩:=hr;exact hH.dom _ _ h1
        |cmap q kt et m=>obtain⟨g,vs,h1,_⟩:=hr;exact hH.dom _ _ h1
        |lmap kt et m=>obtain⟨g,vs,h1,_⟩:=hr;exact hH.dom _ _ h1
        |dmap kt et ky vt m=>obtain⟨g,vs,h1,_⟩:=hr;exact hH.dom _ _ h1
        |opq ys ts f m x=>obtain⟨g,F,Pj,h1,_⟩:=hr;exact hH.dom _ _ h1
        |gst=>obtain⟨g,h1,_⟩:=hr;exact hH.dom _ _ h1
        |mit jm q kt et vt m l c=>obtain⟨g,gm,z,E,L,c',h1,_⟩:=hr;exact hH.dom _ _ h1
        |deep e t es m l=>obtain⟨g,c1,c2,F,h1,_⟩:=hr;exact hH.dom _ _ h1
        |rest e t es m l i kb=>obtain⟨g,gb,c1,c2,c3,ex,F1,F2,h1,_⟩:=hr;exact hH.dom _ _ h1
        |shed e t es m l=>obtain⟨g,c1,c2,F,h1,_⟩:=hr;exact hH.dom _ _ h1
        |srest e t es l i kb=>obtain⟨g,gb,c1,c2,ex,F2,h1,_⟩:=hr;exact hH.dom _ _ h1
        |scr t ex l=>obtain⟨g,F,b,h1,_⟩:=hr;exact hH.dom _ _ h1
       have key:exOps W N n ops sp f (some s.nx) g (setLit s d b) (λs'=>finG W.P ops p (s.nx+bmp g) s' λx=>exOps W N n ops sp f ro q (joinSt s g pd x) k)=some r:=by
        unfold jn at h
        cases b<;>exact h
       show wpListX W.P ops Q (o::l++rest) a w
       rw[hl,List.append_assoc]
       refine exOps_sound hW f (some s.nx) g (p::q++rest) (setLit s d b) _ a w key (hold_lit hlook hH) λs' a' w' hk hfr hH'=> ?_
       unfold finG at hk
       split at hk
       ·rename_i hgp
        split at hk
        ·rename_i y hy hnx
         have hwp:=gw_yes hgp hH'
         show wpListX W.P ops Q (p::(q++rest)) a' w'
         have hrun:(execOp a'.eval p).run W.P w'= .ok (.value (.bool y)) w':=by
          obtain⟨ρ,As,Ps,h'⟩:=hH'
          exact pick_run (evO_rel h'.env) hpk hy
         refine wpListX_do hwp hrun ?_
         rw[hpd]
         refine exOps_sound hW f ro q rest _ k _ w' hk (hold_join (y:=y) hn hfr hfr.1 (Nat.blt_eq▸hpdN) (Nat.le_of_ble_eq_true hnx) hlook hH') λs2 a2 w2 hk2 hfr2 hH2=>hK s2 a2 w2 hk2 ?_ hH2
         have h0:Fr ro (pd::dsts g) s (joinSt s g pd y):=by
          cases ro with
          |none=>trivial
          |some m=>
           refine⟨rfl,λt ht=> ?_,λbase hb h=>h⟩
           simp only[List.mem_cons,not_or] at ht
           simp only[joinSt,look]
           have:Nat.beq pd t=false:=by
            cases hb:Nat.beq pd t with
            |false=>rfl
            |true=>exact absurd (Nat.eq_of_beq_eq_true hb).symm ht.1
           rw[this]
           exact look_drop_of ht.2
         have hds:dsts (o::l)=dsts g++pd::dsts q:=by
          rw[hl,dsts_app]
          simp only[dsts,hpd]
         refine h0.trans hfr2 (λd hd=> ?_) λd hd=> ?_
         ·rw[hds];simp only[List.mem_cons,List.mem_append] at hd⊢
          rcases hd with hd|hd
          ·exact .inr (.inl hd)
          ·exact .inl hd
         ·rw[hds];simp only[List.mem_cons,List.mem_append]
          exact .inr (.inr hd)
        ·cases hk
       ·cases hk
      ·cases h
     ·cases h
    ·cases h
  ·cases h
end
end Go.Bur
