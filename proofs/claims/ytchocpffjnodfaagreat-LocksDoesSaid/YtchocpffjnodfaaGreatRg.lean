import Derived.Test.YtchocpffjnodfaaGreatXv
namespace Go.Bur
open Go.RowKit
set_option linter.unusedVariables false
set_option linter.unusedSimpArgs false
structure ASt(τ:Nat→Type) where
 nx:Nat
 env:List (Nat×AV τ)
 its:List (Nat×Item τ)
 org:Mp
structure Wk where
 P:Program
 S:Tab
 ty:TypeId→Option Ty
 Γ:List (Ct S)
 A:Option Nat
 D:List (TypeId×List (Option TypeId))
 cut:Bool
structure WkOk(W:Wk):Prop where
 ok:TabOk W.S
 Γ:AllC W.P W.S W.Γ
 A:AddOk W.P W.A
section
variable {τ : Nat → Type}
def lookI:List (Nat×Item τ)→Nat→Option (Item τ)
 |[],_=>none
 |(j,x)::r,k=>match Nat.beq j k with
  |true=>some x
  |false=>lookI r k
def er1(k:Nat):List (Nat×Item τ)→List (Nat×Item τ)
 |[]=>[]
 |(j,x)::r=>match Nat.beq j k with
  |true=>r
  |false=>(j,x)::er1 k r
def erN:List Nat→List (Nat×Item τ)→List (Nat×Item τ)
 |[],its=>its
 |k::ks,its=>erN ks (er1 k its)
def setE(env:List (Nat×AV τ))(d:Option Nat)(v:AV τ):List (Nat×AV τ):=match d with
 |some d=>(d,v)::env
 |none=>env
def lfSub(k:Nat)(y:Lf τ):Lf τ→Lf τ
 | .own j=>match Nat.beq j k with
  |true=>y
  |false=> .own j
 |l=>l
def a1Sub(k:Nat)(y:Lf τ):A1 τ→A1 τ
 | .one x=> .one (lfSub k y x)
 | .agg xs=> .agg (xs.map (lfSub k y))
def avSub(k:Nat)(y:Lf τ):AV τ→AV τ
 | .v x=> .v (a1Sub k y x)
 | .tup xs=> .tup (xs.map (a1Sub k y))
def itSub(k:Nat)(y:Lf τ):Item τ→Item τ
 | .box xs=> .box (xs.map (lfSub k y))
 |x=>x
def rowOf:Item τ→Option ((t:Ty)×List (Dn τ t))
 | .row _ t l=>some ⟨t,l⟩
 | .deep _ t _ _ l=>some ⟨t,l⟩
 | .scr t true l=>some ⟨t,l⟩
 |_=>none
def rowOfO:Option (Item τ)→Option ((t:Ty)×List (Dn τ t))
 |some x=>rowOf x
 |none=>none
def freeze(k:Nat)(s:ASt τ):ASt τ:=match rowOfO (lookI s.its k) with
 |some ⟨t,l⟩=>⟨s.nx,s.env.map λx=>(x.1,avSub k (.d (.sl t) l) x.2),(er1 k s.its).map (λx=>(x.1,itSub k (.d (.sl t) l) x.2)),s.org⟩
 |_=>s
def freezes:List Nat→ASt τ→ASt τ
 |[],s=>s
 |k::ks,s=>freezes ks (freeze k s)
end
structure Cy extends Cx where
 r0:Rho
structure HoldR(P:Program)(S:Tab)(C:Cy)(n:Nat)(s:ASt S.τ)(a:Act)(w:World)(ρ:Rho)(As:List Asn)(Ps:List (World→Prop)):Prop where
 st:St C.R w As Ps
 keep:Keep C.F C.w0 w
 old:∀b∈fps As,b∈C.F∨C.w0.heap.size≤b
 size:a.tmps.size=n
 dfr:a.defers=[]
 env:∀t x,look s.env t=some x→RelAV S ρ Ps x (a.tmps.getD t undef)
 its:All2 (RelItem S ρ Ps P) s.its As
 dom:∀k g,ρ k=some g→k<s.nx
 org:∀i k g,mpGet s.org i=some k→C.r0 i=some g→ρ k=some g
def Hold(P:Program)(S:Tab)(C:Cy)(n:Nat)(s:ASt S.τ)(a:Act)(w:World):Prop:=∃ρ As Ps,HoldR P S C n s a w ρ As Ps
section
variable {P : Program} {S : Tab} {C : Cy} {n : Nat} {s : ASt S.τ} {a : Act} {w : World} {ρ : Rho} {As : List Asn} {Ps : List (World → Prop)}
theorem er1_perm:∀{its:List (Nat×Item S.τ)} {k:Nat} {x:Item S.τ},lookI its k=some x→its.Perm ((k,x)::er1 k its)
 |[],k,x,h=>by cases h
 |(j,y)::r,k,x,h=>by
  simp only[lookI] at h
  simp only[er1]
  split at h
  ·rename_i hb
   obtain rfl:=someI' h
   obtain rfl:=Nat.eq_of_beq_eq_true hb
   exact List.Perm.refl _
  ·rename_i hb
   exact((er1_perm h).cons _).trans (List.Perm.swap _ _ _)
theorem lookI_er1:∀{its:List (Nat×Item S.τ)} {j k:Nat},j≠k→lookI (er1 j its) k=lookI its k
 |[],j,k,h=>rfl
 |(i,y)::r,j,k,h=>by
  simp only[er1]
  cases hb:Nat.beq i j with
  |true=>
   obtain rfl:=Nat.eq_of_beq_eq_true hb
   simp only[lookI]
   have:Nat.beq i k=false:=by
    cases hq:Nat.beq i k with
    |false=>rfl
    |true=>exact absurd (Nat.eq_of_beq_eq_true hq) h
   rw[this]
  |false=>
   simp only[lookI]
   rw[lookI_er1 h]
theorem pull_perm:∀{ks:List Nat} {its:List (Nat×Item S.τ)} {xs:List (Item S.τ)},ks.Nodup→itsOf (lookI its) ks=some xs→∃tk:List (Nat×Item S.τ),tk.map (·.1)=ks∧(∀x∈tk,lookI its x.1=some x.2)∧its.Perm (tk++erN ks its)
 |[],its,xs,_,h=>⟨[],rfl,by simp,List.Perm.refl _⟩
 |k::ks,its,xs,hn,h=>by
  simp only[itsOf] at h
  split at h
  ·rename_i x ys h1 h2
   obtain⟨hk,hn'⟩:=List.nodup_cons.1 hn
   have h3:itsOf (lookI (er1 k its)) ks=some ys:=by
    rw[←h2]
    clear h2 h
    induction ks with
    |nil=>rfl
    |cons j r ih=>
     have hjk:k≠j:=λe=>hk (by simp[e])
     simp only[itsOf]
     rw[lookI_er1 hjk,ih (List.nodup_cons.2 ⟨λh=>hk (List.mem_cons_of_mem _ h),(List.nodup_cons.1 hn').2⟩) (λh=>hk (List.mem_cons_of_mem _ h)) (List.nodup_cons.1 hn').2]
   obtain⟨tk,e1,e2,e3⟩:=pull_perm hn' h3
   refine⟨(k,x)::tk,by simp[e1],λz hz=> ?_, ?_⟩
   ·rcases List.mem_cons.1 hz with rfl|hz
    ·exact h1
    ·have hz2:k≠z.1:=λe=>hk (by rw[e,←e1];exact List.mem_map_of_mem hz)
     rw[←lookI_er1 hz2]
     exact e2 z hz
   ·exact(er1_perm h1).trans (e3.cons _)
  ·cases h
theorem itsOf_erN:∀{js:List Nat} {its:List (Nat×Item S.τ)} {ks:List Nat},(∀j∈js,∀k∈ks,j≠k)→itsOf (lookI (erN js its)) ks=itsOf (lookI its) ks
 |[],_,_,_=>rfl
 |j::js,its,ks,h=>by
  simp only[erN]
  rw[itsOf_erN λi hi k hk=>h i (List.mem_cons_of_mem _ hi) k hk]
  induction ks with
  |nil=>rfl
  |cons k r ih=>
   simp only[itsOf]
   rw[lookI_er1 (h j (List.mem_cons_self ..) k (List.mem_cons_self ..)),ih λi hi k hk=>h i hi k (List.mem_cons_of_mem _ hk)]
theorem itsOf_app{it:Nat→Option (Item S.τ)}:∀{ks js:List Nat} {xs:List (Item S.τ)},itsOf it (ks++js)=some xs→∃ys zs,itsOf it ks=some ys∧itsOf it js=some zs
 |[],js,xs,h=>⟨[],xs,rfl,h⟩
 |k::ks,js,xs,h=>by
  simp only[List.cons_append,itsOf] at h
  split at h
  ·rename_i x ys h1 h2
   obtain⟨y1,z1,h3,h4⟩:=itsOf_app h2
   exact⟨x::y1,z1,by simp only[itsOf];rw[h1,h3],h4⟩
  ·cases h
theorem lookI_erN:∀{js:List Nat} {its:List (Nat×Item S.τ)} {k:Nat},k∉js→lookI (erN js its) k=lookI its k
 |[],_,_,_=>rfl
 |j::js,its,k,h=>by
  simp only[erN]
  rw[lookI_erN λhk=>h (List.mem_cons_of_mem _ hk),lookI_er1 λe=>h (by simp[e])]
theorem lfSub_rel{k:Nat}{y x:Lf S.τ}{v:Value}{Ps':List (World→Prop)}(hP:∀p∈Ps,p∈Ps')(hy:∀v,RelLf S ρ Ps (.own k) v→RelLf S ρ Ps' y v)(h:RelLf S ρ Ps x v):RelLf S ρ Ps' (lfSub k y x) v:=by
 unfold lfSub
 split
 ·rename_i j
  split
  ·rename_i hb
   obtain rfl:=Nat.eq_of_beq_eq_true hb
   exact hy v h
  ·exact RelLf.mono (λ_ _ h=>h) hP h
 ·exact RelLf.mono (λ_ _ h=>h) hP h
theorem lfSubs_rel{k:Nat}{y:Lf S.τ}{Ps':List (World→Prop)}(hP:∀p∈Ps,p∈Ps')(hy:∀v,RelLf S ρ Ps (.own k) v→RelLf S ρ Ps' y v):∀{xs:List (Lf S.τ)} {vs:List Value},All2 (RelLf S ρ Ps) xs vs→All2 (RelLf S ρ Ps') (xs.map (lfSub k y)) vs
 |[],vs,h=>by have:=All2.nil_left h;subst this;trivial
 |x::xs,vs,h=>by
  obtain⟨v,vs',rfl,h1,h2⟩:=All2.cons_left h
  exact⟨lfSub_rel hP hy h1,lfSubs_rel hP hy h2⟩
theorem a1Sub_rel{k:Nat}{y:Lf S.τ}{x:A1 S.τ}{v:Value}{Ps':List (World→Prop)}(hP:∀p∈Ps,p∈Ps')(hy:∀v,RelLf S ρ Ps (.own k) v→RelLf S ρ Ps' y v)(h:RelA1 S ρ Ps x v):RelA1 S ρ Ps' (a1Sub k y x) v:=by
 cases x with
 |one x=>exact lfSub_rel hP hy h
 |agg xs=>obtain⟨vs,h1,h2⟩:=h;exact⟨vs,h1,lfSubs_rel hP hy h2⟩
theorem a1Subs_rel{k:Nat}{y:Lf S.τ}{Ps':List (World→Prop)}(hP:∀p∈Ps,p∈Ps')(hy:∀v,RelLf S ρ Ps (.own k) v→RelLf S ρ Ps' y v):∀{xs:List (A1 S.τ)} {vs:List Value},All2 (RelA1 S ρ Ps) xs vs→All2 (RelA1 S ρ Ps') (xs.map (a1Sub k y)) vs
 |[],vs,h=>by have:=All2.nil_left h;subst this;trivial
 |x::xs,vs,h=>by
  obtain⟨v,vs',rfl,h1,h2⟩:=All2.cons_left h
  exact⟨a1Sub_rel hP hy h1,a1Subs_rel hP hy h2⟩
theorem avSub_rel{k:Nat}{y:Lf S.τ}{x:AV S.τ}{v:Value}{Ps':List (World→Prop)}(hP:∀p∈Ps,p∈Ps')(hy:∀v,RelLf S ρ Ps (.own k) v→RelLf S ρ Ps' y v)(h:RelAV S ρ Ps x v):RelAV S ρ Ps' (avSub k y x) v:=by
 cases x with
 |v x=>exact a1Sub_rel hP hy h
 |tup xs=>obtain⟨vs,h1,h2⟩:=h;exact⟨vs,h1,a1Subs_rel hP hy h2⟩
theorem itSubs_rel{k:Nat}{y:Lf S.τ}{Ps':List (World→Prop)}(hP:∀p∈Ps,p∈Ps')(hy:∀v,RelLf S ρ Ps (.own k) v→RelLf S ρ Ps' y v):∀{xs:List (Nat×Item S.τ)} {As:List Asn},All2 (RelItem S ρ Ps P) xs As→All2 (RelItem S ρ Ps' P) (xs.map λx=>(x.1,itSub k y x.2)) As
 |[],vs,h=>by have:=All2.nil_left h;subst this;trivial
 |(j,x)::xs,vs,h=>by
  obtain⟨v,vs',rfl,h1,h2⟩:=All2.cons_left h
  refine⟨?_,itSubs_rel hP hy h2⟩
  cases x with
  |box xs=>obtain⟨g,vs,e1,e2,e3⟩:=h1;exact⟨g,vs,e1,e2,lfSubs_rel hP hy e3⟩
  |row e t l=>exact RelItem.mono (λ_ _ h=>h) hP h1
  |map q kt et vt m=>exact RelItem.mono (λ_ _ h=>h) hP h1
  |cmap q kt et m=>exact RelItem.mono (λ_ _ h=>h) hP h1
  |lmap kt et m=>exact RelItem.mono (λ_ _ h=>h) hP h1
  |dmap kt et ky vt m=>exact RelItem.mono (λ_ _ h=>h) hP h1
  |opq ys ts f m x=>exact RelItem.mono (λ_ _ h=>h) hP h1
  |gst=>exact RelItem.mono (λ_ _ h=>h) hP h1
  |mit jm q kt et vt m l c=>exact RelItem.mono (λ_ _ h=>h) hP h1
  |deep e t es m l=>exact RelItem.mono (λ_ _ h=>h) hP h1
  |rest e t es m l i kb=>exact RelItem.mono (λ_ _ h=>h) hP h1
  |shed e t es m l=>exact RelItem.mono (λ_ _ h=>h) hP h1
  |srest e t es l i kb=>exact RelItem.mono (λ_ _ h=>h) hP h1
  |scr t ex l=>exact RelItem.mono (λ_ _ h=>h) hP h1
theorem look_map{f:AV S.τ→AV S.τ}:∀{env:List (Nat×AV S.τ)} {t:Nat} {x:AV S.τ},look (env.map λx=>(x.1,f x.2)) t=some x→∃y,look env t=some y∧x=f y
 |[],t,x,h=>by cases h
 |(d,y)::r,t,x,h=>by
  simp only[List.map_cons,look] at h
  simp only[look]
  split at h
  ·exact⟨y,rfl,(someI' h).symm⟩
  ·exact look_map h
theorem st_frz0{R:List Nat}{w:World}{As:List Asn}{A:Asn}{k:Nat}{t:Ty}{l:List (Dn S.τ t)}{g:Gh}(hst:St R w (A::As) Ps)(hg:ρ k=some g)(hn:g.n=l.length)(hRS:Bx (R++fps As) w (RSg (S.GT t) g.a g.c l)):
  ∃p,St R w As (p::Ps)∧∀v,RelLf S ρ Ps (.own k) v→RelLf S ρ (p::Ps) (.d (.sl t) l) v:=by
 have hst2:St R w As (RSg (S.GT t) g.a g.c l::Ps):=hst.tail.addPs (ps:=[RSg (S.GT t) g.a g.c l]) λp hp=>by rw[List.mem_singleton] at hp;subst hp;exact hRS
 refine⟨_,hst2,λv ⟨g',hg',hv⟩=> ?_⟩
 rw[hg] at hg'
 obtain rfl:=someI' hg'
 exact⟨g.a,g.c,by rw[hv,hn],.inr (List.mem_cons_self ..)⟩
theorem st_frz(ok:TabOk S){R:List Nat}{w:World}{As:List Asn}{A:Asn}{k:Nat}{x:Item S.τ}{t:Ty}{l:List (Dn S.τ t)}(hx:rowOf x=some ⟨t,l⟩)(hst:St R w (A::As) Ps)(hA:RelItem S ρ Ps P (k,x) A):
  ∃p,St R w As (p::Ps)∧∀v,RelLf S ρ Ps (.own k) v→RelLf S ρ (p::Ps) (.d (.sl t) l) v:=by
 have hF:∀p∈Ps,Bx (R++fps As) w p:=λp hp=>(hst.per p hp).weak λx hx=> .inl (by
  rw[fps_cons];simp only[List.mem_append] at hx⊢
  rcases hx with hx|hx
  ·exact .inl hx
  ·exact .inr (.inr hx))
 cases x with
 |row e t' l'=>
  have hx:=someI' hx
  cases hx
  obtain⟨g,cs,hg,rfl,hn,hmem⟩:=row_open hA
  refine st_frz0 hst hg hn λw' hk'=> ?_
  obtain⟨h4,h5,h6⟩:=row_cells (hst.own_bx w' hk')
  exact(hF _ hmem w' hk').rs h4 (by omega) λhne=>h6 λe=>hne (List.eq_nil_of_length_eq_zero (by omega))
 |deep e t' es m l'=>
  have hx:=someI' hx
  cases hx
  obtain⟨g,hg,hn,hb⟩:=deep_rs ok hF hA hst.own_bx
  exact st_frz0 hst hg hn hb
 |scr t' ex l'=>
  cases ex with
  |false=>cases hx
  |true=>
   have hx:=someI' hx
   cases hx
   obtain⟨g,F',b,hg,rfl,hb,hn,_⟩:=hA
   exact st_frz0 hst hg hn λw' hk'=>((hst.own_bx w' hk') w' λ_ _=>rfl).1 (hb rfl)
 |box _=>cases hx
 |map _ _ _ _ _=>cases hx
 |cmap _ _ _ _=>cases hx
 |lmap _ _ _=>cases hx
 |dmap _ _ _ _ _=>cases hx
 |opq _ _ _ _ _=>cases hx
 |gst=>cases hx
 |mit _ _ _ _ _ _ _ _=>cases hx
 |rest _ _ _ _ _ _ _=>cases hx
 |shed _ _ _ _ _=>cases hx
 |srest _ _ _ _ _ _=>cases hx
theorem freeze_hold(ok:TabOk S){k:Nat}(h:Hold P S C n s a w):Hold P S C n (freeze k s) a w:=by
 unfold freeze
 split
 ·rename_i t l hk
  obtain⟨ρ,As,Ps,h⟩:=h
  obtain⟨x,hk1,hk2⟩:∃x,lookI s.its k=some x∧rowOf x=some ⟨t,l⟩:=by
   cases hx:lookI s.its k with
   |none=>rw[hx] at hk;cases hk
   |some x=>rw[hx] at hk;exact⟨x,rfl,hk⟩
  obtain⟨As1,hp1,h1⟩:=All2.perm (er1_perm hk1) h.its
  obtain⟨A,As',rfl,hA,hr⟩:=All2.cons_left h1
  obtain⟨p,hst2,hy⟩:=st_frz ok hk2 (h.st.perm hp1) hA
  have hP:∀q∈Ps,q∈p::Ps:=λq hq=>List.mem_cons_of_mem _ hq
  refine⟨ρ,As',p::Ps,hst2,h.keep,λb hb=>h.old b ((fps_perm hp1).mem_iff.2 (by rw[fps_cons];exact List.mem_append_right _ hb)),h.size,h.dfr,λq x hx=> ?_,itSubs_rel hP hy hr,h.dom,h.org⟩
  obtain⟨y,h3,rfl⟩:=look_map hx
  exact avSub_rel hP hy (h.env q y h3)
 ·exact h
theorem freezes_hold(ok:TabOk S):∀{ks:List Nat} {s:ASt S.τ},Hold P S C n s a w→Hold P S C n (freezes ks s) a w
 |[],s,h=>h
 |k::ks,s,h=>show Hold P S C n (freezes ks (freeze k s)) a w from freezes_hold ok (freeze_hold ok h)
end
section
variable {R : Type}
def subO(W:Wk)(ev:Ev W.S.τ)(o:Op):Option (AV W.S.τ):=match W.cut with
 |true=>opSub W.P W.S W.ty ev o
 |false=>none
def isCat{τ:Nat→Type}(ev:Ev τ):Op→Bool
 | .binOp .add _ x _ _=>match asStr (ev x) with
  |some _=>true
  |none=>false
 |_=>false
def opMaps(W:Wk)(ev:Ev W.S.τ)(it:Nat→Option (Item W.S.τ))(nx:Nat)(t:TypeId)(o:Op)(k:Out W.S.τ→Option R):Option R:=match lmapChk W.P W.S t with
 |some _=>opLMap W.P W.S ev it nx o k
 |none=>match cmapChk W.P t with
  |some _=>opCMap W.P W.S ev it nx o k
  |none=>opDMap W.P W.S W.ty ev it nx o k
theorem opMaps_sound{W:Wk}(ok:TabOk W.S){o:Oper}{ev:Ev W.S.τ}{it:Nat→Option (Item W.S.τ)}{nx:Nat}{t:TypeId}{k:Out W.S.τ→Option R}{r:R}(h:opMaps W ev it nx t o.op k=some r):∃out,k out=some r∧LocSem W.P W.S o ev it nx out:=by
 unfold opMaps at h
 split at h
 ·exact opLMap_sound h
 ·split at h
  ·exact opCMap_sound h
  ·exact opDMap_sound ok h
def locOp(W:Wk)(n:Nat)(o:Oper)(ev:Ev W.S.τ)(it:Nat→Option (Item W.S.τ))(nx:Nat)(k:Out W.S.τ→Option R):Option R:=
 match o.op with
 | .move x=>match opMove W.P ev (.move x) with
  |some v=>k ⟨v,[],[],[],0⟩
  |none=>none
 | .assign x=>match opMove W.P ev (.assign x) with
  |some v=>k ⟨v,[],[],[],0⟩
  |none=>none
 | .nilCheck x=>match opMove W.P ev (.nilCheck x) with
  |some v=>k ⟨v,[],[],[],0⟩
  |none=>none
 | .pick c x y=>match opMove W.P ev (.pick c x y) with
  |some v=>k ⟨v,[],[],[],0⟩
  |none=>none
 | .extract x i=>match opMove W.P ev (.extract x i) with
  |some v=>k ⟨v,[],[],[],0⟩
  |none=>none
 | .makeFunc f x c=>match opMove W.P ev (.makeFunc f x c) with
  |some v=>k ⟨v,[],[],[],0⟩
  |none=>none
 | .fieldAddr t x f=>match subO W ev (.fieldAddr t x f) with
  |some v=>k ⟨v,[],[],[],0⟩
  |none=>match opMove W.P ev (.fieldAddr t x f) with
   |some v=>k ⟨v,[],[],[],0⟩
   |none=>none
 | .build t ps=>match opBuild W.P ev (.build t ps) with
  |some v=>k ⟨v,[],[],[],0⟩
  |none=>none
 | .field t x f=>match opBuild W.P ev (.field t x f) with
  |some v=>k ⟨v,[],[],[],0⟩
  |none=>none
 | .binOp b t x y yt=>match isScal (.binOp b t x y yt) with
  |true=>match isCat ev (.binOp b t x y yt) with
   |true=>opStr W.P W.S ev it (.binOp b t x y yt) k
   |false=>match opScal W.P ev o with
    |some v=>k ⟨v,[],[],[],0⟩
    |none=>match opNil W.P W.S ev it (.binOp b t x y yt) with
     |some (v,us)=>k ⟨v,[],[],us,0⟩
     |none=>match opPtrNil W.P ev (.binOp b t x y yt) with
      |some v=>k ⟨v,[],[],[],0⟩
      |none=>match opErr W.P ev (.binOp b t x y yt) with
       |some v=>k ⟨v,[],[],[],0⟩
       |none=>none
  |false=>match arithO ev (.binOp b t x y yt) with
   |some (q,z)=>z.bind λz=>k ⟨dint q z,[],[],[],0⟩
   |none=>none
 | .unOp _ _ _=>match opScal W.P ev o with
  |some v=>k ⟨v,[],[],[],0⟩
  |none=>none
 | .convert t u x=>match isOwn1 (ev x) with
  |true=>opStr W.P W.S ev it (.convert t u x) k
  |false=>match opScal W.P ev o with
   |some v=>k ⟨v,[],[],[],0⟩
   |none=>none
 | .index t x i=>opStr W.P W.S ev it (.index t x i) k
 | .load t x=>opLoad W.P W.S ev it t x k
 | .store t x v=>opStore W.P W.S ev it t x v k
 | .indexAddr t x i=>match isVw (ev x) with
  |true=>opIndexV W.P W.S ev it t x i k
  |false=>opIndex W.P W.S ev it t x i k
 | .slice t x lo hi none=>match isOwn1 (ev x) with
  |true=>match hi with
   |none=>opSliceV W.P W.S ev it t x lo k
   |some y=>opSliceO W.P W.S ev it nx t x lo (some y) k
  |false=>opSlice W.P W.S W.ty ev t x lo hi k
 | .slice t x none (some hi) (some mx)=>opSlice3 W.P W.S ev t x hi mx k
 | .alloc t=>match opAlloc W.P W.S ev nx (.alloc t) with
  |some xs=>k ⟨.v (.one (.box nx 0)),[],[(nx,.box xs)],[],1⟩
  |none=>none
 | .box t x=>match opAlloc W.P W.S ev nx (.box t x) with
  |some xs=>k ⟨.v (.one (.box nx 0)),[],[(nx,.box xs)],[],1⟩
  |none=>none
 | .buildSlice t m ps=>match opBuildD W.P W.S W.D W.ty ev (.buildSlice t m ps) with
  |some (e,es,⟨t,y⟩)=>k ⟨.v (.one (.own nx)),[],[(nx,.deep e t es none [y])],[],1⟩
  |none=>match opBuildS W.P W.S W.ty ev (.buildSlice t m ps) with
   |some (e,⟨t,l⟩)=>k ⟨.v (.one (.own nx)),[],[(nx,.row e t l)],[],1⟩
   |none=>none
 | .makeSlice t a c=>opMkS W.P W.S W.ty ev nx t a c k
 | .makeMap t r=>match mapChk W.P t with
  |some _=>opMap W.P W.S ev it nx (.makeMap t r) k
  |none=>opMaps W ev it nx t (.makeMap t r) k
 | .lookup t m x ok=>match mapChk W.P t with
  |some _=>opMap W.P W.S ev it nx (.lookup t m x ok) k
  |none=>opMaps W ev it nx t (.lookup t m x ok) k
 | .mapUpdate t m x v=>match mapChk W.P t with
  |some _=>opMap W.P W.S ev it nx (.mapUpdate t m x v) k
  |none=>opMaps W ev it nx t (.mapUpdate t m x v) k
 | .insert t m x v=>match mapChk W.P t with
  |some _=>opMap W.P W.S ev it nx (.insert t m x v) k
  |none=>opMaps W ev it nx t (.insert t m x v) k
 | .call c=>match c.callee with
  | .value _=>match opAdd W.A ev c with
   |some (x,y)=>k ⟨.tup [.one (.d (.int .u64) (add64L x y)),.one (.d (.int .u64) (add64C x y))],[],[],[],0⟩
   |none=>opCall W.S W.Γ ev it nx n c k
  | .builtin .append=>match appOp (.call c) with
   |some (t,s,x)=>opApp W.P W.S W.ty ev it nx t s x k
   |none=>none
  | .builtin .len=>match opLen W.P W.S ev it (.call c) with
   |some (z,us)=>k ⟨dint .i64 z,[],[],us,0⟩
   |none=>match opLenM W.P W.S ev it (.call c) with
    |some (z,us)=>k ⟨dint .i64 z,[],[],us,0⟩
    |none=>match opLenV W.P W.S ev it (.call c) with
     |some (z,us)=>k ⟨dint .i64 z,[],[],us,0⟩
     |none=>match opScal W.P ev o with
      |some v=>k ⟨v,[],[],[],0⟩
      |none=>none
  | .builtin .clear=>opClrV W.P W.S ev it (.call c) k
  | .builtin .delete=>opDel W.P W.S ev it (.call c) k
  | .builtin .max=>match opScal W.P ev o with
   |some v=>k ⟨v,[],[],[],0⟩
   |none=>none
  | .builtin .min=>match opScal W.P ev o with
   |some v=>k ⟨v,[],[],[],0⟩
   |none=>none
  |_=>none
 | .range t x=>opRange W.P W.S ev it nx (.range t x) k
 | .entry x=>opEntry W.P W.S ev it (.entry x) k
 |_=>none
theorem locOp_sound{W:Wk}(hW:WkOk W){n:Nat}{o:Oper}{ev:Ev W.S.τ}{it:Nat→Option (Item W.S.τ)}{nx:Nat}{k:Out W.S.τ→Option R}{r:R}(h:locOp W n o ev it nx k=some r):∃out,k out=some r∧LocSem W.P W.S o ev it nx out:=by
 have mv:∀op,o.op=op→(match opMove W.P ev op with|some v=>k ⟨v,[],[],[],0⟩|none=>none)=some r→∃out,k out=some r∧LocSem W.P W.S o ev it nx out:=λop ho h=>by
  split at h
  ·rename_i v hv;exact⟨_,h,opMove_sound (by rw[ho];exact hv)⟩
  ·cases h
 have bd:∀op,o.op=op→(match opBuild W.P ev op with|some v=>k ⟨v,[],[],[],0⟩|none=>none)=some r→∃out,k out=some r∧LocSem W.P W.S o ev it nx out:=λop ho h=>by
  split at h
  ·rename_i v hv;exact⟨_,h,opBuild_sound (by rw[ho];exact hv)⟩
  ·cases h
 have sc:(match opScal W.P ev o with|some v=>k ⟨v,[],[],[],0⟩|none=>none)=some r→∃out,k out=some r∧LocSem W.P W.S o ev it nx out:=λh=>by
  split at h
  ·rename_i v hv;exact⟨_,h,opScal_sound hv⟩
  ·cases h
 unfold locOp at h
 split at h
 ·rename_i x ho;exact mv _ ho h
 ·rename_i x ho;exact mv _ ho h
 ·rename_i x ho;exact mv _ ho h
 ·rename_i ho;exact mv _ ho h
 ·rename_i ho;exact mv _ ho h
 ·rename_i ho;exact mv _ ho h
 ·rename_i ho
  split at h
  ·rename_i v hv
   unfold subO at hv
   split at hv
   ·exact⟨_,h,opSub_sound hW.ok (by rw[ho];exact hv)⟩
   ·cases hv
  ·exact mv _ ho h
 ·rename_i ho;exact bd _ ho h
 ·rename_i ho;exact bd _ ho h
 ·rename_i ho
  split at h
  ·split at h
   ·exact opStr_sound (by rw[ho];exact h)
   ·split at h
    ·rename_i v hv;exact⟨_,h,opScal_sound hv⟩
    ·split at h
     ·rename_i v us hv;exact⟨_,h,opNil_sound (by rw[ho];exact hv)⟩
     ·split at h
      ·rename_i v hv;exact⟨_,h,opPtrNil_sound (by rw[ho];exact hv)⟩
      ·split at h
       ·rename_i v hv;exact⟨_,h,opErr_sound (by rw[ho];exact hv)⟩
       ·cases h
  ·split at h
   ·rename_i q z hz
    obtain⟨z',rfl,h⟩:=bindS h
    exact⟨_,h,arithO_sound (by rw[ho];exact hz)⟩
   ·cases h
 ·exact sc h
 ·rename_i ho
  split at h
  ·exact opStr_sound (by rw[ho];exact h)
  ·exact sc h
 ·rename_i ho;exact opStr_sound (by rw[ho];exact h)
 ·rename_i ho;exact opLoad_sound hW.ok ho h
 ·rename_i ho;exact opStore_sound hW.ok ho h
 ·rename_i ho
  split at h
  ·exact opIndexV_sound hW.ok ho h
  ·exact opIndex_sound hW.ok ho h
 ·rename_i ho
  split at h
  ·split at h
   ·exact opSliceV_sound hW.ok ho h
   ·exact opSliceO_sound hW.ok ho h
  ·exact opSlice_sound hW.ok ho h
 ·rename_i ho;exact opSlice3_sound hW.ok ho h
 ·rename_i ho
  split at h
  ·rename_i xs hx;exact⟨_,h,opAlloc_sound (by rw[ho];exact hx)⟩
  ·cases h
 ·rename_i ho
  split at h
  ·rename_i xs hx;exact⟨_,h,opAlloc_sound (by rw[ho];exact hx)⟩
  ·cases h
 ·rename_i ho
  split at h
  ·rename_i e es t y hx;exact⟨_,h,opBuildD_sound hW.ok (by rw[ho];exact hx)⟩
  ·split at h
   ·rename_i e t l hx;exact⟨_,h,opBuildS_sound hW.ok (by rw[ho];exact hx)⟩
   ·cases h
 ·rename_i ho;exact opMkS_sound hW.ok ho h
 ·rename_i ho
  split at h
  ·exact opMap_sound (by rw[ho];exact h)
  ·exact opMaps_sound hW.ok (by rw[ho];exact h)
 ·rename_i ho
  split at h
  ·exact opMap_sound (by rw[ho];exact h)
  ·exact opMaps_sound hW.ok (by rw[ho];exact h)
 ·rename_i ho
  split at h
  ·exact opMap_sound (by rw[ho];exact h)
  ·exact opMaps_sound hW.ok (by rw[ho];exact h)
 ·rename_i ho
  split at h
  ·exact opMap_sound (by rw[ho];exact h)
  ·exact opMaps_sound hW.ok (by rw[ho];exact h)
 ·rename_i c ho
  split at h
  ·split at h
   ·rename_i x y hx;exact⟨_,h,opAdd_sound hW.A ho hx⟩
   ·exact opCall_sound hW.ok hW.Γ ho h
  ·split at h
   ·rename_i t s x hx;exact opApp_sound hW.ok (by rw[ho];exact hx) h
   ·cases h
  ·split at h
   ·rename_i z us hz;exact⟨_,h,opLen_sound (by rw[ho];exact hz)⟩
   ·split at h
    ·rename_i z us hz;exact⟨_,h,opLenM_sound (by rw[ho];exact hz)⟩
    ·split at h
     ·rename_i z us hz;exact⟨_,h,opLenV_sound (by rw[ho];exact hz)⟩
     ·exact sc h
  ·exact opClrV_sound hW.ok (by rw[ho];exact h)
  ·exact opDel_sound (by rw[ho];exact h)
  ·exact sc h
  ·exact sc h
  ·cases h
 ·rename_i ho;exact opRange_sound (by rw[ho];exact h)
 ·rename_i ho;exact opEntry_sound (by rw[ho];exact h)
 ·cases h
section
variable {τ : Nat → Type}
def ownL:Lf τ→List Nat
 | .own k=>[k]
 |_=>[]
def ownLs:List (Lf τ)→List Nat
 |[]=>[]
 |x::r=>ownL x++ownLs r
def ownA:A1 τ→List Nat
 | .one x=>ownL x
 | .agg xs=>ownLs xs
def ownE(ev:Ev τ)(x:Operand):List Nat:=match ev x with
 |some (.v y)=>ownA y
 |_=>[]
def ownPs(ev:Ev τ):List (Nat×Operand)→List Nat
 |[]=>[]
 |(_,x)::r=>ownE ev x++ownPs ev r
def frzP:PL→Lf τ→List Nat
 | .d _,.own k=>[k]
 |_,_=>[]
def frzPs:List PL→List (Lf τ)→List Nat
 |p::ps,l::ls=>frzP p l++frzPs ps ls
 |_,_=>[]
def frzV:PV→A1 τ→List Nat
 | .one p,.one l=>frzP p l
 | .agg ps,.agg ls=>frzPs ps ls
 | .st _,.agg ls=>ownLs ls
 |_,_=>[]
def frzVs:List PV→List (A1 τ)→List Nat
 |p::ps,l::ls=>frzV p l++frzVs ps ls
 |_,_=>[]
end
def frzC(S:Tab)(g:Nat)(as:List (A1 S.τ)):List (Ct S)→List Nat
 |[]=>[]
 |c::r=>match Nat.beq c.g g with
  |true=>match c.rv.all (PV.flatR S),(c.ri.map (·.2)).all (PI.flatR S) with
   |true,true=>[]
   |_,_=>frzVs c.av as
  |false=>frzC S g as r
def frzFor(W:Wk)(ev:Ev W.S.τ):Op→List Nat
 | .slice _ x lo hi mx=>match W.cut,lo,hi,mx with
  |true,none,some _,none=>[]
  |true,some _,none,none=>[]
  |_,_,_,_=>ownE ev x
 | .buildSlice _ _ ps=>ownPs ev ps.toList
 | .call c=>match c.callee with
  | .value f=>match ev f,a1s ev c.args.toList with
   |some (.v (.one (.fn g cs))),some as=>frzC W.S g (as++capLs cs) W.Γ
   |some (.v (.one (.bfn g cs))),some as=>frzC W.S g (capLs cs++as) W.Γ
   |_,_=>[]
  |_=>[]
 | .store _ x v=>match ev x with
  |some (.v (.one (.el _ _ _ _)))=>ownE ev v
  |_=>[]
 |_=>[]
def frzEv{S:Tab}(it:Nat→Option (Item S.τ)):List Nat→Ev S.τ→Ev S.τ
 |[],ev=>ev
 |k::ks,ev=>match rowOfO (it k) with
  |some ⟨t,l⟩=>frzEv it ks λx=>(ev x).map (avSub k (.d (.sl t) l))
  |_=>frzEv it ks ev
def locOpF(W:Wk)(n:Nat)(o:Oper)(ev:Ev W.S.τ)(it:Nat→Option (Item W.S.τ))(nx:Nat)(k:Out W.S.τ→Option R):Option R:=match ddN (frzFor W ev o.op) with
 |[]=>locOp W n o ev it nx k
 |ks=>locOp W n o (frzEv it ks ev) it nx λout=>k ⟨out.v,ks++out.take,out.put,out.use,out.nn⟩
theorem loc_frz1{S:Tab}(ok:TabOk S){P:Program}{o:Oper}{ev ev1:Ev S.τ}{it:Nat→Option (Item S.τ)}{nx k:Nat}{out:Out S.τ}
  (he:∀x y,ev1 x=some y→∃z,ev x=some z∧(y=z∨∃t l,rowOfO (it k)=some ⟨t,l⟩∧y=avSub k (.d (.sl t) l) z)) (h:LocSem P S o ev1 it nx out):LocSem P S o ev it nx ⟨out.v,k::out.take,out.put,out.use,out.nn⟩:=by
 intro a w R ρ Ps At Au tk us hd hev htk hus hit hAt hAu hst hn K Q hK
 match tk,htk,hAt,hit with
 |[],htk,_,_=>cases htk
 |(k',x)::tk,htk0,hAt,hit=>
  simp only[List.map_cons,List.cons.injEq] at htk0
  obtain⟨hk0,htk1⟩:=htk0
  subst hk0
  obtain⟨A,At',rfl,hA,hAt⟩:=All2.cons_left hAt
  have hx:it k'=some x:=hit (k',x) (by simp)
  have hlow:∃ps,St R w (At'++Au) (ps++Ps)∧∀t l,rowOf x=some ⟨t,l⟩→∀v,RelLf S ρ Ps (.own k') v→RelLf S ρ (ps++Ps) (.d (.sl t) l) v:=by
   cases hr:rowOf x with
   |none=>exact⟨[],hst.tail,λt l he=>by cases he⟩
   |some q=>
    obtain⟨t,l⟩:=q
    obtain⟨p,h1,h2⟩:=st_frz (As:=At'++Au) ok hr hst hA
    exact⟨[p],h1,λt' l' he'=>by cases he';exact h2⟩
  obtain⟨ps,h1,h2⟩:=hlow
  have hP:∀p∈Ps,p∈ps++Ps:=λp hp=>List.mem_append_right _ hp
  refine h a w R ρ (ps++Ps) At' Au tk us hd (λy z hy=> ?_) htk1 hus (λz hz=>hit z (by simp at hz⊢;exact .inr hz)) (hAt.mono λ_ _ h=>RelItem.mono (λ_ _ h=>h) hP h) (hAu.mono λ_ _ h=>RelItem.mono (λ_ _ h=>h) hP h) h1 hn K Q λv w' ρ' Ps' Ap k1 k2 k3 k4 k5 k6 k7=> ?_
  ·obtain⟨u,h3,h4⟩:=he y z hy
   have h5:=hev y u h3
   rcases h4 with rfl|⟨t,l,h4,rfl⟩
   ·exact RelAV.mono (λ_ _ h=>h) hP h5
   ·rw[hx] at h4
    exact avSub_rel hP (h2 t l h4) h5
  ·have hsub:∀b∈fps At',b∈fps (A::At'):=λb hb=>by rw[fps_cons];exact List.mem_append_right _ hb
   exact hK v w' ρ' Ps' Ap k1 (λp hp=>k2 p (hP p hp)) k3 k4 k5 ⟨k6.os,k6.tape,k6.output,k6.drawn,k6.size,λj hj hnj=>k6.block j hj λhm=>hnj (hsub j hm)⟩ λb hb=>(k7 b hb).imp (hsub b) id
theorem frzEv_rel{S:Tab}(ok:TabOk S){P:Program}{o:Oper}{it:Nat→Option (Item S.τ)}{nx:Nat}:∀{ks:List Nat} {ev:Ev S.τ} {out:Out S.τ},LocSem P S o (frzEv it ks ev) it nx out→LocSem P S o ev it nx ⟨out.v,ks++out.take,out.put,out.use,out.nn⟩
 |[],ev,out,h=>h
 |k::ks,ev,out,h=>by
  unfold frzEv at h
  split at h
  ·rename_i t l hk
   refine loc_frz1 ok (out:=⟨out.v,ks++out.take,out.put,out.use,out.nn⟩) (λx y hy=> ?_) (frzEv_rel ok h)
   obtain⟨z,h1,h2⟩:=Option.map_eq_some_iff.1 hy
   exact⟨z,h1,.inr ⟨t,l,hk,h2.symm⟩⟩
  ·exact loc_frz1 ok (out:=⟨out.v,ks++out.take,out.put,out.use,out.nn⟩) (λx y hy=>⟨y,hy,.inl rfl⟩) (frzEv_rel ok h)
theorem locOpF_sound{W:Wk}(hW:WkOk W){n:Nat}{o:Oper}{ev:Ev W.S.τ}{it:Nat→Option (Item W.S.τ)}{nx:Nat}{k:Out W.S.τ→Option R}{r:R}(h:locOpF W n o ev it nx k=some r):∃out,k out=some r∧LocSem W.P W.S o ev it nx out:=by
 unfold locOpF at h
 split at h
 ·exact locOp_sound hW h
 ·obtain⟨out,h1,h2⟩:=locOp_sound hW h
  exact⟨_,h1,frzEv_rel hW.ok h2⟩
def roOk(ro:Option Nat)(ks:List Nat):Bool:=match ro with
 |none=>true
 |some m=>ks.all λk=>Nat.ble m k
def dOk(n:Nat):Option Nat→Bool
 |some d=>Nat.blt d n
 |none=>true
def after{τ:Nat→Type}(s:ASt τ)(d:Option Nat)(out:Out τ):ASt τ:=⟨s.nx+out.nn,setE s.env d out.v,out.put++erN out.take s.its,s.org⟩
def ahead(W:Wk)(ro:Option Nat)(o:Oper)(s:ASt W.S.τ):ASt W.S.τ:=match ro with
 |none=>freezes (frzFor W (evO s.env) o.op) s
 |some _=>s
noncomputable def step1(W:Wk)(N n:Nat)(ro:Option Nat)(o:Oper)(s:ASt W.S.τ)(k:ASt W.S.τ→Option R):Option R:=
 match isNext o.op with
 |true=>match nextOf W.S (evO s.env) (lookI s.its) o.op with
  |some (i,j,q,kt,et,m,l)=>match mapK W.P q kt et,ndN [i,j],roOk ro [i,j],dOk N o.dst,itsOf (lookI s.its) [i,j] with
   |true,true,true,true,some _=>pickK l (k (after s o.dst ⟨.tup [.one (.lit false)],[i,j],[(j,.map q kt et .bool m)],[],0⟩)) λx l'=>
     k (after s o.dst ⟨.tup [.one (.lit true),.one (.d (.int q) x),.one (.d .bool (mget false m x))],[i,j],[(i,.mit j q kt et .bool m l' (some x)),(j,.gst)],[],0⟩)
   |_,_,_,_,_=>none
  |none=>none
 |false=>match ahead W ro o s with
  |s=>locOp W n o (evO s.env) (lookI s.its) s.nx λout=>match ndN (out.take++out.use),roOk ro out.take,dOk N o.dst,itsOf (lookI s.its) (out.take++out.use) with
   |true,true,true,some _=>k (after s o.dst out)
   |_,_,_,_=>none
def Fr{τ:Nat→Type}(ro:Option Nat)(ds:List Nat)(s s':ASt τ):Prop:=match ro with
 |none=>True
 |some m=>s'.org=s.org∧(∀t,t∉ds→look s'.env t=look s.env t)∧∀base:List (Nat×Item τ),(∀x∈base,x.1<m)→(∃X,s.its.Perm (X++base))→∃X,s'.its.Perm (X++base)
theorem Fr.refl{τ:Nat→Type}(ro:Option Nat)(ds:List Nat)(s:ASt τ):Fr ro ds s s:=by
 cases ro with
 |none=>trivial
 |some m=>exact⟨rfl,λ_ _=>rfl,λ_ _ h=>h⟩
theorem Fr.trans{τ:Nat→Type}{ro:Option Nat}{ds ds' ds2:List Nat}{s s' s2:ASt τ}(h:Fr ro ds s s')(k:Fr ro ds' s' s2)(h1:∀d∈ds,d∈ds2)(h2:∀d∈ds',d∈ds2):Fr ro ds2 s s2:=by
 cases ro with
 |none=>trivial
 |some m=>exact⟨k.1.trans h.1,λt ht=>(k.2.1 t λhm=>ht (h2 t hm)).trans (h.2.1 t λhm=>ht (h1 t hm)),λbase hb hx=>k.2.2 base hb (h.2.2 base hb hx)⟩
theorem look_set{τ:Nat→Type}{env:List (Nat×AV τ)}{d:Option Nat}{v:AV τ}{t:Nat}(h:t∉d.toList):look (setE env d v) t=look env t:=by
 cases d with
 |none=>rfl
 |some d=>
  simp only[setE,look]
  have:Nat.beq d t=false:=by
   cases hb:Nat.beq d t with
   |false=>rfl
   |true=>exact absurd (by simp[Nat.eq_of_beq_eq_true hb]) h
  rw[this]
theorem er1_base{S:Tab}{k:Nat}:∀{its base X:List (Nat×Item S.τ)},its.Perm (X++base)→(∀x∈base,x.1≠k)→∃X',(er1 k its).Perm (X'++base):=by
 intro its base X hp hb
 cases hk:lookI its k with
 |none=>
  have:er1 k its=its:=by
   clear hp
   induction its with
   |nil=>rfl
   |cons x r ih=>
    obtain⟨j,y⟩:=x
    simp only[lookI] at hk
    simp only[er1]
    split at hk
    ·cases hk
    ·rename_i hb;rw[ih hk]
  rw[this];exact⟨X,hp⟩
 |some x=>
  have h1:=(er1_perm hk).symm.trans hp
  have hm:(k,x)∈X:=by
   have:=h1.mem_iff.1 (List.mem_cons_self ..)
   rcases List.mem_append.1 this with h|h
   ·exact h
   ·exact absurd rfl (hb _ h)
  obtain⟨X1,X2,rfl⟩:=List.append_of_mem hm
  refine⟨X1++X2, ?_⟩
  have h2:(X1++(k,x)::X2++base).Perm ((k,x)::(X1++X2++base)):=by
   rw[List.append_assoc,List.append_assoc]
   exact List.perm_middle
  exact(h1.trans h2).cons_inv
theorem erN_base{S:Tab}:∀{ks:List Nat} {its base X:List (Nat×Item S.τ)},its.Perm (X++base)→(∀x∈base,x.1∉ks)→∃X',(erN ks its).Perm (X'++base)
 |[],its,base,X,hp,_=>⟨X,hp⟩
 |k::ks,its,base,X,hp,hb=>by
  obtain⟨X1,h1⟩:=er1_base (k:=k) hp λx hx e=>hb x hx (by simp[e])
  exact show ∃X',(erN ks (er1 k its)).Perm (X'++base) from erN_base h1 λx hx hm=>hb x hx (List.mem_cons_of_mem _ hm)
theorem ahead_hold{W:Wk}(hW:WkOk W){C:Cy}{N:Nat}{ro:Option Nat}{o:Oper}{s:ASt W.S.τ}{a:Act}{w:World}(h:Hold W.P W.S C N s a w):Hold W.P W.S C N (ahead W ro o s) a w:=by
 cases ro with
 |none=>exact freezes_hold hW.ok h
 |some m=>exact h
theorem after_fr{W:Wk}{ro:Option Nat}{o:Oper}{s:ASt W.S.τ}{out:Out W.S.τ}(hro:roOk ro out.take=true):Fr ro o.dst.toList s (after (ahead W ro o s) o.dst out):=by
 cases ro with
 |none=>trivial
 |some m=>
  refine⟨rfl,λt ht=>look_set ht,λbase hb ⟨X,hp⟩=> ?_⟩
  obtain⟨X',h1⟩:=erN_base (ks:=out.take) hp λx hx hm=>by
   have:=List.all_eq_true.1 hro _ hm
   have:=Nat.le_of_ble_eq_true this
   have:=hb x hx
   omega
  exact⟨out.put++X',by rw[List.append_assoc];exact h1.append_left _⟩
theorem loc_coreO{P:Program}{S:Tab}{C:Cy}{o:Oper}{ev:Ev S.τ}{it:Nat→Option (Item S.τ)}{nx:Nat}{take use:List Nat}{nn:Nat}{O:AV S.τ→List (Nat×Item S.τ)→Prop}{a:Act}{w:World}{ρ:Rho}{As:List Asn}{Ps:List (World→Prop)}{its:List (Nat×Item S.τ)}(hS:LocSemO P S o ev it nx take use nn O)(hev:EvRel S ρ Ps ev a)(hst0:St C.R w As Ps)(hkeep0:Keep C.F C.w0 w)(hold0:∀b∈fps As,b∈C.F∨C.w0.heap.size≤b)(hdf:a.defers=[])
  (hits0:All2 (RelItem S ρ Ps P) its As) (hnd:ndN (take++use)=true) {xs:List (Item S.τ)} (hi:itsOf (lookI its) (take++use)=some xs) (hag:∀k x,k∈take++use→lookI its k=some x→it k=some x) (hfr:∀k,nx≤k→k<nx+nn→ρ k=none)
  {K:Act→World→Prop} {Q:Exit→Act→World→Prop} (hK:∀vv put v w' ρ' As' Ps',O vv put→Grow ρ ρ' nx nn→(∀p∈Ps,p∈Ps')→RelAV S ρ' Ps' vv v→All2 (RelItem S ρ' Ps' P) (put++erN take its) As'→St C.R w' As' Ps'→Keep C.F C.w0 w'→(∀b∈fps As',b∈C.F∨C.w0.heap.size≤b)→K (a.put o.dst v) w'):wpX P o a w K Q:=by
 have hnd':=ndN_iff hnd
 obtain⟨ys,zs,hi1,hi2⟩:=itsOf_app hi
 obtain⟨hn1,hn2,hn3⟩:=List.nodup_append.1 hnd'
 obtain⟨tk,e1,e2,e3⟩:=pull_perm hn1 hi1
 have hi3:itsOf (lookI (erN take its)) use=some zs:=by rw[itsOf_erN λj hj k hk=>hn3 j hj k hk];exact hi2
 obtain⟨us,g1,g2,g3⟩:=pull_perm hn2 hi3
 obtain⟨As1,hp1,h1⟩:=All2.perm (e3.trans (g3.append_left tk)) hits0
 obtain⟨At,As2,rfl,hAt,h2⟩:=All2.split h1
 obtain⟨Au,Ar,rfl,hAu,hAr⟩:=All2.split h2
 have hst:=hst0.perm hp1
 have hst':St C.R w ((At++Au)++([]++Ar)) Ps:=by rw[List.nil_append,List.append_assoc];exact hst
 have hin:∀x∈C.R++fps Ar++fps (At++Au),x∈C.R++fps (At++(Au++Ar)):=λx hx=>by
  simp only[fps_append,List.mem_append] at hx⊢
  rcases hx with(hx|hx)|hx|hx
  ·exact .inl hx
  ·exact .inr (.inr (.inr hx))
  ·exact .inr (.inl hx)
  ·exact .inr (.inr (.inl hx))
 have hlend:=St.lend (Ag:=At++Au) (Al:=[]) (Ar:=Ar) hst' λp hp=>(hst.per p hp).weak λx hx=> .inl (hin x hx)
 refine hS a w (C.R++fps Ar) ρ Ps At Au tk us hdf hev e1 g1 (λx hx=> ?_) hAt hAu hlend hfr K Q λvv put v w' ρ' Ps' Ap hO hg hP hv hput hst2 hk hb=> ?_
 ·refine hag x.1 x.2 ?_ ?_
  ·rcases List.mem_append.1 hx with hx|hx
   ·exact List.mem_append_left _ (by rw[←e1];exact List.mem_map_of_mem hx)
   ·exact List.mem_append_right _ (by rw[←g1];exact List.mem_map_of_mem hx)
  ·rcases List.mem_append.1 hx with hx|hx
   ·exact e2 x hx
   ·have:=g2 x hx
    rwa[lookI_erN λhm=>hn3 _ hm _ (by rw[←g1];exact List.mem_map_of_mem hx) rfl] at this
 ·have hkeep:Keep (fps (At++Au)) w w':=hk.weak λx hx=>by rw[fps_append];exact List.mem_append_left _ hx
  obtain⟨_,hst3⟩:=St.back (Ag:=At++Au) (Al:=[]) (Ar:=Ar) (A':=Ap++Au) hst' hst2 hkeep λb hb'=>by
   simp only[fps_append,List.mem_append] at hb'⊢
   rcases hb' with hb'|hb'
   ·exact(hb b hb').imp .inl id
   ·exact .inl (.inr hb')
  have hst4:=hst3 rfl
  rw[List.nil_append,List.append_assoc] at hst4
  have hmono:∀p∈Ps,p∈Ps'++Ps:=λp hp=>List.mem_append_right _ hp
  have hmono':∀p∈Ps',p∈Ps'++Ps:=λp hp=>List.mem_append_left _ hp
  have hits:All2 (RelItem S ρ' (Ps'++Ps) P) (put++(us++erN use (erN take its))) (Ap++(Au++Ar)):=by
   refine(hput.mono λ_ _ h=>RelItem.mono (λ_ _ h=>h) hmono' h).app ?_
   refine(hAu.mono λ_ _ h=>RelItem.mono hg.keep hmono h).app ?_
   exact hAr.mono λ_ _ h=>RelItem.mono hg.keep hmono h
  obtain⟨As3,hp3,hits3⟩:=All2.perm (g3.symm.append_left put) hits
  refine hK vv put v w' ρ' As3 (Ps'++Ps) hO hg hmono (RelAV.mono (λ_ _ h=>h) hmono' hv) hits3 (hst4.perm hp3) ?_ λb hb'=> ?_
  ·refine hkeep0.step hkeep λx hx=>hold0 x ((fps_perm hp1).mem_iff.2 ?_)
   simp only[fps_append,List.mem_append] at hx⊢
   rcases hx with hx|hx
   ·exact .inl hx
   ·exact .inr (.inl hx)
  ·have:=(fps_perm hp3).mem_iff.2 hb'
   simp only[fps_append,List.mem_append] at this
   have hold:∀b,b∈fps At∨b∈fps Au∨b∈fps Ar→b∈C.F∨C.w0.heap.size≤b:=λb hh=>hold0 b ((fps_perm hp1).mem_iff.2 (by simp only[fps_append,List.mem_append];exact hh))
   rcases this with h1|h1
   ·rcases hb b h1 with h2|h2
    ·exact hold b (.inl h2)
    ·exact .inr (Nat.le_trans hkeep0.size h2)
   ·exact hold b (.inr h1)
theorem loc_core{P:Program}{S:Tab}{C:Cy}{o:Oper}{ev:Ev S.τ}{it:Nat→Option (Item S.τ)}{nx:Nat}{out:Out S.τ}{a:Act}{w:World}{ρ:Rho}{As:List Asn}{Ps:List (World→Prop)}{its:List (Nat×Item S.τ)}(hS:LocSem P S o ev it nx out)(hev:EvRel S ρ Ps ev a)(hst0:St C.R w As Ps)(hkeep0:Keep C.F C.w0 w)(hold0:∀b∈fps As,b∈C.F∨C.w0.heap.size≤b)(hdf:a.defers=[])
  (hits0:All2 (RelItem S ρ Ps P) its As) (hnd:ndN (out.take++out.use)=true) {xs:List (Item S.τ)} (hi:itsOf (lookI its) (out.take++out.use)=some xs) (hag:∀k x,k∈out.take++out.use→lookI its k=some x→it k=some x) (hfr:∀k,nx≤k→k<nx+out.nn→ρ k=none)
  {K:Act→World→Prop} {Q:Exit→Act→World→Prop} (hK:∀v w' ρ' As' Ps',Grow ρ ρ' nx out.nn→(∀p∈Ps,p∈Ps')→RelAV S ρ' Ps' out.v v→All2 (RelItem S ρ' Ps' P) (out.put++erN out.take its) As'→St C.R w' As' Ps'→Keep C.F C.w0 w'→(∀b∈fps As',b∈C.F∨C.w0.heap.size≤b)→K (a.put o.dst v) w'):wpX P o a w K Q:=
 loc_coreO hS.toO hev hst0 hkeep0 hold0 hdf hits0 hnd hi hag hfr λvv put v w' ρ' As' Ps' hO hg hP hv hits=>by
  obtain⟨rfl,rfl⟩:=hO
  exact hK v w' ρ' As' Ps' hg hP hv hits
theorem put_get{a:Act}{N d t:Nat}{v:Value}(hs:a.tmps.size=N)(hd:d<N):((a.put (some d) v).tmps).getD t undef=match Nat.beq d t with|true=>v|false=>a.tmps.getD t undef:=by
 cases hb:Nat.beq d t with
 |true=>
  obtain rfl:=Nat.eq_of_beq_eq_true hb
  have:d<a.tmps.size:=hs▸hd
  simp[Act.put,this]
 |false=>
  have hne:d≠t:=λe=>by rw[e,show Nat.beq t t=true from Nat.beq_eq▸rfl] at hb;cases hb
  simp[Act.put,hne]
theorem loc_holdO{W:Wk}{C:Cy}{N:Nat}{o:Oper}{s:ASt W.S.τ}{take use:List Nat}{nn:Nat}{O:AV W.S.τ→List (Nat×Item W.S.τ)→Prop}{a:Act}{w:World}(hS:LocSemO W.P W.S o (evO s.env) (lookI s.its) s.nx take use nn O)(h:Hold W.P W.S C N s a w)(hnd:ndN (take++use)=true)(hd:dOk N o.dst=true){xs:List (Item W.S.τ)}(hi:itsOf (lookI s.its) (take++use)=some xs)
  {K:Act→World→Prop} {Q:Exit→Act→World→Prop} (hK:∀vv put a' w',O vv put→Hold W.P W.S C N (after s o.dst ⟨vv,take,put,use,nn⟩) a' w'→K a' w'):wpX W.P o a w K Q:=by
 obtain⟨ρ,As,Ps,h⟩:=h
 refine loc_coreO hS (evO_rel h.env) h.st h.keep h.old h.dfr h.its hnd hi (λk x _ hx=>hx) (λk h1 _=> ?_) λvv put v w' ρ' As' Ps' hO hg hP hv hits hst hkeep hold=>hK vv put _ _ hO ?_
 ·cases hr:ρ k with
  |none=>rfl
  |some g=>have:=h.dom k g hr;omega
 ·refine⟨ρ',As',Ps',hst,hkeep,hold, ?_, ?_,λt x hx=> ?_,hits,λk g hr=> ?_,λi k g h1 h2=>hg.keep _ _ (h.org i k g h1 h2)⟩
  ·cases hd:o.dst<;>simp[Act.put,h.size]
  ·cases hd:o.dst<;>simp[Act.put,h.dfr]
  ·replace hx:look (setE s.env o.dst vv) t=some x:=hx
   cases hdst:o.dst with
   |none=>
    rw[hdst] at hx
    exact RelAV.mono hg.keep hP (h.env t x hx)
   |some d=>
    rw[hdst] at hx hd
    rw[put_get h.size (Nat.blt_eq▸hd)]
    simp only[setE,look] at hx
    split at hx
    ·rename_i hbq
     obtain rfl:=someI' hx
     rw[hbq];exact hv
    ·rename_i hbq
     rw[hbq];exact RelAV.mono hg.keep hP (h.env t x hx)
  ·rcases hg.new k g hr with h1|h1
   ·have:=h.dom k g h1
    show k<s.nx+nn
    omega
   ·exact h1.2
theorem loc_hold{W:Wk}{C:Cy}{N:Nat}{o:Oper}{s:ASt W.S.τ}{out:Out W.S.τ}{a:Act}{w:World}(hS:LocSem W.P W.S o (evO s.env) (lookI s.its) s.nx out)(h:Hold W.P W.S C N s a w)(hnd:ndN (out.take++out.use)=true)(hd:dOk N o.dst=true){xs:List (Item W.S.τ)}(hi:itsOf (lookI s.its) (out.take++out.use)=some xs)
  {K:Act→World→Prop} {Q:Exit→Act→World→Prop} (hK:∀a' w',Hold W.P W.S C N (after s o.dst out) a' w'→K a' w'):wpX W.P o a w K Q:=
 loc_holdO hS.toO h hnd hd hi λvv put a' w' hO hh=>by
  obtain⟨rfl,rfl⟩:=hO
  exact hK a' w' hh
theorem after_frN{W:Wk}{ro:Option Nat}{o:Oper}{s:ASt W.S.τ}{out:Out W.S.τ}(hro:roOk ro out.take=true):Fr ro o.dst.toList s (after s o.dst out):=by
 cases ro with
 |none=>trivial
 |some m=>exact after_fr (W:=W) (ro:=some m) hro
theorem step1_sound{W:Wk}(hW:WkOk W){C:Cy}{N n:Nat}{ro:Option Nat}{o:Oper}{s:ASt W.S.τ}{k:ASt W.S.τ→Option R}{r:R}{a:Act}{w:World}(h:step1 W N n ro o s k=some r)(hH:Hold W.P W.S C N s a w){K:Act→World→Prop}{Q:Exit→Act→World→Prop}
  (hK:∀s' a' w',k s'=some r→Fr ro o.dst.toList s s'→Hold W.P W.S C N s' a' w'→K a' w'):wpX W.P o a w K Q:=by
 unfold step1 at h
 split at h
 ·split at h
  ·rename_i i j q kt et m l hn
   split at h
   ·rename_i xs h1 h2 h3 h4 h5
    obtain⟨g1,g2⟩:=pickK_some h
    refine loc_holdO (next_sound hn h1) hH (by simpa using h2) h4 (by simpa using h5) λvv put a' w' hO hh=> ?_
    rcases hO with⟨hl,rfl,rfl⟩|⟨x,hx,rfl,rfl⟩
    ·exact hK _ a' w' (g1 hl) (after_frN (W:=W) h3) hh
    ·exact hK _ a' w' (g2 x hx) (after_frN (W:=W) h3) hh
   ·cases h
  ·cases h
 ·have hH1:=ahead_hold hW (ro:=ro) (o:=o) hH
  obtain⟨out,h,hS⟩:=locOp_sound hW h
  split at h
  ·rename_i xs h1 h2 h3 h4
   exact loc_hold hS hH1 h1 h3 h4 λa' w' hh=>hK _ a' w' h (after_fr h2) hh
  ·cases h
end
end Go.Bur
