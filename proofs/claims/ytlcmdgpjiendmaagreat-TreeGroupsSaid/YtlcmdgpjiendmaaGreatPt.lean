import Derived.Test.YtlcmdgpjiendmaaGreatVw
namespace Go.Bur
open Go.RowKit
set_option linter.unusedVariables false
set_option linter.unusedSimpArgs false
inductive PC where
 |bx (j:Nat)
 |ro (t:Ty)
inductive PL where
 |d (t:Ty)
 |own (j:Nat)
 |box (j o:Nat)
 |ro (t:Ty)
 |fn (g:Nat) (cs:List PC)
 |map (j:Nat)
 |yd (j:Nat)
 |vw (j sz:Nat)
 |er
 |nil
 |nmap
 |nptr
 |nfn
inductive PV where
 |one (p:PL)
 |agg (ps:List PL)
 |st (i:Nat)
inductive PI where
 |box (ps:List PL)
 |bst (i:Nat)
 |row (e:Nat) (t:Ty)
 |map (q:IntKind) (kt et:TypeId) (vt:Ty)
 |opq (ys ts:List Ty)
 |gst
 |dmap (kt et:TypeId) (ky vt:Ty)
 |mit (j:Nat) (q:IntKind) (kt et:TypeId) (vt:Ty)
 |deep (e:TypeId) (t:Ty) (es:List (Option TypeId))
 |pdeep (e:TypeId) (t:Ty) (es:List (Option TypeId))
 |shed (e:TypeId) (t:Ty) (es:List (Option TypeId))
section
variable (τ : Nat -> Type)
@[reducible] def PC.T:PC->Type->Type
 | .ro t,r=>Dn τ t×r
 | .bx _,r=>r
@[reducible] def N9:List PC->Type->Type
 |[],r=>r
 |c::cs,r=>c.T τ (N9 cs r)
@[reducible] def PL.T:PL->Type->Type
 | .d t,r=>Dn τ t×r
 | .ro t,r=>Dn τ t×r
 | .fn _ cs,r=>N9 τ cs r
 | .own _,r=>r
 | .box _ _,r=>r
 | .map _,r=>r
 | .yd _,r=>r
 | .vw _ _,r=>Int×r
 | .er,r=>Bool×r
 | .nil,r=>r
 | .nmap,r=>r
 | .nptr,r=>r
 | .nfn,r=>r
@[reducible] def Lb:List PL->Type->Type
 |[],r=>r
 |p::ps,r=>p.T τ (Lb ps r)
@[reducible] def PV.T:PV->Type->Type
 | .one p,r=>p.T τ r
 | .agg ps,r=>Lb τ ps r
 | .st i,r=>τ i×r
@[reducible] def sX:List PV->Type->Type
 |[],r=>r
 |p::ps,r=>p.T τ (sX ps r)
@[reducible] def PI.T:PI->Type->Type
 | .box ps,r=>Lb τ ps r
 | .bst i,r=>τ i×r
 | .row _ t,r=>List (Dn τ t)×r
 | .map _ _ _ vt,r=>List (Int×Dn τ vt)×r
 | .opq ys ts,r=>(HL τ ys->HL τ ts->Option (Nat×HL τ ts))×Nat×HL τ ts×r
 | .gst,r=>r
 | .dmap _ _ ky vt,r=>List (Dn τ ky×Dn τ vt)×r
 | .mit _ _ _ _ vt,r=>List (Int×Dn τ vt)×List Int×r
 | .deep _ t _,r=>List (Dn τ t)×r
 | .pdeep _ t _,r=>Nat×List (Dn τ t)×r
 | .shed _ t _,r=>Nat×List (Dn τ t)×r
@[reducible] def pO:List PI->Type->Type
 |[],r=>r
 |p::ps,r=>p.T τ (pO ps r)
end
section
variable {τ : Nat -> Type} {r : Type}
def Lc(m:Nat->Nat):(c:PC)->c.T τ r->Cap τ×r
 | .bx j,x=>(.bx (m j),x)
 | .ro t,x=>(.ro t x.1,x.2)
def xN(m:Nat->Nat):(cs:List PC)->N9 τ cs r->List (Cap τ)×r
 |[],x=>([],x)
 |c::cs,x=>((Lc m c x).1::(xN m cs (Lc m c x).2).1,(xN m cs (Lc m c x).2).2)
def FU(m:Nat->Nat):(p:PL)->p.T τ r->Lf τ×r
 | .d t,x=>(.d t x.1,x.2)
 | .ro t,x=>(.ro t x.1 0,x.2)
 | .fn g cs,x=>(.fn g (xN m cs x).1,(xN m cs x).2)
 | .own j,x=>(.own (m j),x)
 | .box j o,x=>(.box (m j) o,x)
 | .map j,x=>(.map (m j),x)
 | .yd j,x=>(.yd (m j),x)
 | .vw j sz,x=>(.vw (m j) sz x.1,x.2)
 | .er,x=>(.er x.1,x.2)
 | .nil,x=>(.nil,x)
 | .nmap,x=>(.nmap,x)
 | .nptr,x=>(.nptr,x)
 | .nfn,x=>(.nfn,x)
def uA(m:Nat->Nat):(ps:List PL)->Lb τ ps r->List (Lf τ)×r
 |[],x=>([],x)
 |p::ps,x=>((FU m p x).1::(uA m ps (FU m p x).2).1,(uA m ps (FU m p x).2).2)
end
section
variable (S : Tab) {r : Type}
def H5(m:Nat->Nat):(p:PV)->p.T S.τ r->A1 S.τ×r
 | .one p,x=>(.one (FU m p x).1,(FU m p x).2)
 | .agg ps,x=>(.agg (uA m ps x).1,(uA m ps x).2)
 | .st i,x=>(.agg (tP (S.lv i) (S.get i x.1)),x.2)
def dQ(m:Nat->Nat):(ps:List PV)->sX S.τ ps r->List (A1 S.τ)×r
 |[],x=>([],x)
 |p::ps,x=>((H5 S m p x).1::(dQ m ps (H5 S m p x).2).1,(dQ m ps (H5 S m p x).2).2)
def H6(m:Nat->Nat):(p:PI)->p.T S.τ r->Item S.τ×r
 | .box ps,x=>(.box (uA m ps x).1,(uA m ps x).2)
 | .bst i,x=>(.box (tP (S.lv i) (S.get i x.1)),x.2)
 | .row e t,x=>(.row e t x.1,x.2)
 | .map q kt et vt,x=>(.map q kt et vt x.1,x.2)
 | .opq ys ts,x=>(.opq ys ts x.1 x.2.1 x.2.2.1,x.2.2.2)
 | .gst,x=>(.gst,x)
 | .dmap kt et ky vt,x=>(.dmap kt et ky vt x.1,x.2)
 | .mit j q kt et vt,x=>(.mit (m j) q kt et vt x.1 x.2.1 none,x.2.2)
 | .deep e t es,x=>(.deep e t es none x.1,x.2)
 | .pdeep e t es,x=>(.deep e t es (some x.1) x.2.1,x.2.2)
 | .shed e t es,x=>(.shed e t es x.1 x.2.1,x.2.2)
def gM(m:Nat->Nat):(ps:List PI)->pO S.τ ps r->List (Item S.τ)×r
 |[],x=>([],x)
 |p::ps,x=>((H6 S m p x).1::(gM m ps (H6 S m p x).2).1,(gM m ps (H6 S m p x).2).2)
end
section
variable {τ : Nat -> Type} {r : Type}
def okM(m:Nat->Option Nat)(j k:Nat):Bool:=match m j with
 |some k'=>Nat.beq k' k
 |none=>false
def rdC(m:Nat->Option Nat):(c:PC)->Cap τ->r->Option (c.T τ r)
 | .bx j,.bx k,x=>match okM m j k with
  |true=>some x
  |false=>none
 | .ro t,.ro _ y,x=>match HJ y with
  |some z=>some (z,x)
  |none=>none
 | .bx _,.ro _ _,_=>none
 | .ro _,.bx _,_=>none
def Yc(m:Nat->Option Nat):(cs:List PC)->List (Cap τ)->r->Option (N9 τ cs r)
 |[],[],x=>some x
 |c::cs,y::ys,x=>match Yc m cs ys x with
  |some x'=>rdC m c y x'
  |none=>none
 |[],_::_,_=>none
 |_::_,[],_=>none
def rdL(m:Nat->Option Nat):(p:PL)->Lf τ->r->Option (p.T τ r)
 | .d t,l,x=>match toD t l with
  |some y=>some (y,x)
  |none=>none
 | .ro t,l,x=>match l with
  | .ro _ y 0=>match HJ y with
   |some z=>some (z,x)
   |none=>none
  |_=>none
 | .fn g cs,l,x=>match l with
  | .fn g' cs'=>match Nat.beq g g' with
   |true=>Yc m cs cs' x
   |false=>none
  |_=>none
 | .own j,l,x=>match l with
  | .own k=>match okM m j k with
   |true=>some x
   |false=>none
  |_=>none
 | .box j o,l,x=>match l with
  | .box k o'=>match okM m j k,Nat.beq o o' with
   |true,true=>some x
   |_,_=>none
  |_=>none
 | .map j,l,x=>match l with
  | .map k=>match okM m j k with
   |true=>some x
   |false=>none
  |_=>none
 | .yd j,l,x=>match l with
  | .yd k=>match okM m j k with
   |true=>some x
   |false=>none
  |_=>none
 | .vw j sz,l,x=>match l with
  | .vw k sz' i=>match okM m j k,Nat.beq sz sz' with
   |true,true=>some (i,x)
   |_,_=>none
  |_=>none
 | .er,l,x=>match l with
  | .er e=>some (e,x)
  |_=>none
 | .nil,l,x=>match l with
  | .nil=>some x
  |_=>none
 | .nmap,l,x=>match l with
  | .nmap=>some x
  |_=>none
 | .nptr,l,x=>match l with
  | .nptr=>some x
  |_=>none
 | .nfn,l,x=>match l with
  | .nfn=>some x
  |_=>none
def V5(m:Nat->Option Nat):(ps:List PL)->List (Lf τ)->r->Option (Lb τ ps r)
 |[],[],x=>some x
 |p::ps,l::ls,x=>match V5 m ps ls x with
  |some x'=>rdL m p l x'
  |none=>none
 |[],_::_,_=>none
 |_::_,[],_=>none
end
def L9:(ts us:List Ty)->Option (PLift (ts=us))
 |[],[]=>some ⟨rfl⟩
 |t::ts,u::us=>match Ty.eq? t u,L9 ts us with
  |some h,some k=>some ⟨by rw[h.down,k.down]⟩
  |_,_=>none
 |_,_=>none
def PO:List (Option Nat)->List (Option Nat)->Bool
 |[],[]=>true
 |none::a,none::b=>PO a b
 |some x::a,some y::b=>match Nat.beq x y with
  |true=>PO a b
  |false=>false
 |_,_=>false
theorem FV:∀{a b:List (Option Nat)},PO a b=true->a=b
 |[],[],_=>rfl
 |none::a,none::b,h=>by rw[FV (show PO a b=true from h)]
 |some x::a,some y::b,h=>by
  simp only[PO] at h
  split at h
  ·rename_i hb
   rw[Nat.eq_of_beq_eq_true hb,FV h]
  ·cases h
 |[],_::_,h=>by cases h
 |none::_,[],h=>by cases h
 |some _::_,[],h=>by cases h
 |none::_,some _::_,h=>by cases h
 |some _::_,none::_,h=>by cases h
section
variable (S : Tab) {r : Type}
def rdV(m:Nat->Option Nat):(p:PV)->A1 S.τ->r->Option (p.T S.τ r)
 | .one p,.one l,x=>rdL m p l x
 | .agg ps,.agg ls,x=>V5 m ps ls x
 | .st i,.agg ls,x=>match GJ (S.lv i) ls with
  |some h=>some (S.mkS i h,x)
  |none=>none
 | .one _,.agg _,_=>none
 | .agg _,.one _,_=>none
 | .st _,.one _,_=>none
def T7(m:Nat->Option Nat):(ps:List PV)->List (A1 S.τ)->r->Option (sX S.τ ps r)
 |[],[],x=>some x
 |p::ps,l::ls,x=>match T7 m ps ls x with
  |some x'=>rdV S m p l x'
  |none=>none
 |[],_::_,_=>none
 |_::_,[],_=>none
def rdI(m:Nat->Option Nat):(p:PI)->Item S.τ->r->Option (p.T S.τ r)
 | .box ps,.box ls,x=>V5 m ps ls x
 | .bst i,.box ls,x=>match GJ (S.lv i) ls with
  |some h=>some (S.mkS i h,x)
  |none=>none
 | .row e t,.row e' _ l,x=>match Nat.beq e e',Hi (S:=S) (u:=t) l with
  |true,some y=>some (y,x)
  |_,_=>none
 | .opq ys ts,.opq ys' ts' f k z,x=>match L9 ys' ys,L9 ts' ts with
  |some h,some h'=>some (h.down▸h'.down▸f,k,h'.down▸z,x)
  |_,_=>none
 | .map q kt et vt,.map q' kt' et' vt' l,x=>match ikB q q',Nat.beq kt kt',Nat.beq et et',Ty.eq? vt' vt with
  |true,true,true,some h=>some (h.down▸l,x)
  |_,_,_,_=>none
 | .gst,l,x=>match l with
  | .gst=>some x
  |_=>none
 | .dmap kt et ky vt,l,x=>match l with
  | .dmap kt' et' ky' vt' l=>match Nat.beq kt kt',Nat.beq et et',Ty.eq? ky' ky,Ty.eq? vt' vt with
   |true,true,some h,some h'=>some (h.down▸h'.down▸l,x)
   |_,_,_,_=>none
  |_=>none
 | .mit j q kt et vt,l,x=>match l with
  | .mit jm q' kt' et' vt' l ks _=>match okM m j jm,ikB q q',Nat.beq kt kt',Nat.beq et et',Ty.eq? vt' vt with
   |true,true,true,true,some h=>some (h.down▸l,ks,x)
   |_,_,_,_,_=>none
  |_=>none
 | .deep e t es,l,x=>match l with
  | .deep e' _ es' none l=>match Nat.beq e e',PO es es',Hi (S:=S) (u:=t) l with
   |true,true,some y=>some (y,x)
   |_,_,_=>none
  |_=>none
 | .pdeep e t es,l,x=>match l with
  | .deep e' _ es' (some m) l=>match Nat.beq e e',PO es es',Hi (S:=S) (u:=t) l with
   |true,true,some y=>some (m,y,x)
   |_,_,_=>none
  |_=>none
 | .shed e t es,l,x=>match l with
  | .shed e' _ es' m l=>match Nat.beq e e',PO es es',Hi (S:=S) (u:=t) l with
   |true,true,some y=>some (m,y,x)
   |_,_,_=>none
  |_=>none
 |_,.gst,_=>none
 |_,.mit _ _ _ _ _ _ _ _,_=>none
 |_,.deep _ _ _ _ _,_=>none
 |_,.rest _ _ _ _ _ _ _,_=>none
 |_,.shed _ _ _ _ _,_=>none
 |_,.srest _ _ _ _ _ _,_=>none
 | .box _,.row _ _ _,_=>none
 | .box _,.map _ _ _ _ _,_=>none
 | .bst _,.row _ _ _,_=>none
 | .bst _,.map _ _ _ _ _,_=>none
 | .row _ _,.box _,_=>none
 | .row _ _,.map _ _ _ _ _,_=>none
 | .map _ _ _ _,.box _,_=>none
 | .map _ _ _ _,.row _ _ _,_=>none
 |_,.cmap _ _ _ _,_=>none
 |_,.lmap _ _ _,_=>none
 |_,.dmap _ _ _ _ _,_=>none
 | .opq _ _,.box _,_=>none
 | .opq _ _,.row _ _ _,_=>none
 | .opq _ _,.map _ _ _ _ _,_=>none
 | .box _,.opq _ _ _ _ _,_=>none
 | .bst _,.opq _ _ _ _ _,_=>none
 | .row _ _,.opq _ _ _ _ _,_=>none
 | .map _ _ _ _,.opq _ _ _ _ _,_=>none
def RM(m:Nat->Option Nat):(ps:List PI)->List (Item S.τ)->r->Option (pO S.τ ps r)
 |[],[],x=>some x
 |p::ps,l::ls,x=>match RM m ps ls x with
  |some x'=>rdI S m p l x'
  |none=>none
 |[],_::_,_=>none
 |_::_,[],_=>none
end
section
variable {S : Tab} {r : Type} {ρ ρ' : Rho} {Ps : List (World -> Prop)} {m : Nat -> Option Nat} {m' : Nat -> Nat}
def Ren(m:Nat->Option Nat)(m':Nat->Nat)(ρ ρ':Rho):Prop:=∀j k g,m j=some k->ρ k=some g->ρ' (m' j)=some g
theorem EO{j k:Nat}(h:okM m j k=true):m j=some k:=by
 unfold okM at h
 split at h
 ·rename_i k' hk;rw[hk,Nat.eq_of_beq_eq_true h]
 ·cases h
theorem PP{τ:Nat->Type}{t u:Ty}{x:Dn τ t}{y:Dn τ u}(h:HJ x=some y):∃e:t=u,y=e▸x:=by
 unfold HJ at h
 split at h
 ·rename_i p _
  obtain rfl:=someI' h
  exact⟨p.down,rfl⟩
 ·cases h
theorem ZZ(hm:Ren m m' ρ ρ'):∀{c:PC} {y:Cap S.τ} {x:r} {z:c.T S.τ r},rdC m c y x=some z->(Lc m' c z).2=x/\∀v,fP S ρ Ps y v->fP S ρ' Ps (Lc m' c z).1 v
 | .bx j,.bx k,x,z,h=>by
  simp only[rdC] at h
  split at h
  ·rename_i hk
   obtain rfl:=someI' h
   exact⟨rfl,λv ⟨g,h1,h2⟩=>⟨g,hm j k g (EO hk) h1,h2⟩⟩
  ·cases h
 | .ro t,.ro u y,x,z,h=>by
  simp only[rdC] at h
  split at h
  ·rename_i w hw
   obtain rfl:=someI' h
   obtain⟨rfl,rfl⟩:=PP hw
   exact⟨rfl,λv h=>h⟩
  ·cases h
 | .bx _,.ro _ _,_,_,h=>by cases h
 | .ro _,.bx _,_,_,h=>by cases h
theorem SO(hm:Ren m m' ρ ρ'):∀{cs:List PC} {ys:List (Cap S.τ)} {x:r} {z:N9 S.τ cs r},Yc m cs ys x=some z->(xN m' cs z).2=x/\∀vs,aH (fP S ρ Ps) ys vs->aH (fP S ρ' Ps) (xN m' cs z).1 vs
 |[],[],x,z,h=>by obtain rfl:=someI' h;exact⟨rfl,λvs h=>by have:=aH.nil_left h;subst this;trivial⟩
 |c::cs,y::ys,x,z,h=>by
  simp only[Yc] at h
  split at h
  ·rename_i x' hx
   obtain⟨h1,h2⟩:=ZZ (Ps:=Ps) hm h
   obtain⟨h3,h4⟩:=SO hm hx
   simp only[xN]
   rw[h1]
   refine⟨h3,λvs hv=> ?_⟩
   obtain⟨v,vs',rfl,h5,h6⟩:=aH.cons_left hv
   exact⟨h2 _ h5,h4 _ h6⟩
  ·cases h
 |[],_::_,_,_,h=>by cases h
 |_::_,[],_,_,h=>by cases h
theorem V6(hm:Ren m m' ρ ρ'):∀{p:PL} {l:Lf S.τ} {x:r} {z:p.T S.τ r},rdL m p l x=some z->(FU m' p z).2=x/\∀v,aU S ρ Ps l v->aU S ρ' Ps (FU m' p z).1 v:=by
 intro p l x z h
 cases p with
 |d t=>
  simp only[rdL] at h
  split at h
  ·rename_i y hy
   obtain rfl:=someI' h
   exact⟨rfl,λv hv=>rU hy hv⟩
  ·cases h
 |ro t=>
  simp only[rdL] at h
  split at h
  ·rename_i u y
   split at h
   ·rename_i w hw
    obtain rfl:=someI' h
    obtain⟨rfl,rfl⟩:=PP hw
    exact⟨rfl,λv h=>h⟩
   ·cases h
  ·cases h
 |fn g cs=>
  simp only[rdL] at h
  split at h
  ·rename_i g' cs'
   split at h
   ·rename_i hg
    obtain rfl:=Nat.eq_of_beq_eq_true hg
    obtain⟨h1,h2⟩:=SO (Ps:=Ps) hm h
    exact⟨h1,λv ⟨vs,h3,h4⟩=>⟨vs,h3,h2 _ h4⟩⟩
   ·cases h
  ·cases h
 |own j=>
  simp only[rdL] at h
  split at h
  ·split at h
   ·rename_i hk
    obtain rfl:=someI' h
    exact⟨rfl,λv ⟨g,h1,h2⟩=>⟨g,hm _ _ g (EO hk) h1,h2⟩⟩
   ·cases h
  ·cases h
 |box j o=>
  simp only[rdL] at h
  split at h
  ·split at h
   ·rename_i hk ho
    obtain rfl:=someI' h
    obtain rfl:=Nat.eq_of_beq_eq_true ho
    exact⟨rfl,λv ⟨g,h1,h2⟩=>⟨g,hm _ _ g (EO hk) h1,h2⟩⟩
   ·cases h
  ·cases h
 |map j=>
  simp only[rdL] at h
  split at h
  ·split at h
   ·rename_i hk
    obtain rfl:=someI' h
    exact⟨rfl,λv ⟨g,h1,h2⟩=>⟨g,hm _ _ g (EO hk) h1,h2⟩⟩
   ·cases h
  ·cases h
 |yd j=>
  simp only[rdL] at h
  split at h
  ·split at h
   ·rename_i hk
    obtain rfl:=someI' h
    exact⟨rfl,λv ⟨g,h1,h2⟩=>⟨g,hm _ _ g (EO hk) h1,h2⟩⟩
   ·cases h
  ·cases h
 |vw j sz=>
  simp only[rdL] at h
  split at h
  ·split at h
   ·rename_i hk hs
    obtain rfl:=Nat.eq_of_beq_eq_true hs
    obtain rfl:=someI' h
    exact⟨rfl,λv ⟨g,a,h1,h2⟩=>⟨g,a,hm _ _ g (EO hk) h1,h2⟩⟩
   ·cases h
  ·cases h
 |er=>simp only[rdL] at h;split at h<;>first|(obtain rfl:=someI' h;exact⟨rfl,λv h=>h⟩)|cases h
 |nil=>simp only[rdL] at h;split at h<;>first|(obtain rfl:=someI' h;exact⟨rfl,λv h=>h⟩)|cases h
 |nmap=>simp only[rdL] at h;split at h<;>first|(obtain rfl:=someI' h;exact⟨rfl,λv h=>h⟩)|cases h
 |nptr=>simp only[rdL] at h;split at h<;>first|(obtain rfl:=someI' h;exact⟨rfl,λv h=>h⟩)|cases h
 |nfn=>simp only[rdL] at h;split at h<;>first|(obtain rfl:=someI' h;exact⟨rfl,λv h=>h⟩)|cases h
theorem Oa(hm:Ren m m' ρ ρ'):∀{ps:List PL} {ls:List (Lf S.τ)} {x:r} {z:Lb S.τ ps r},V5 m ps ls x=some z->(uA m' ps z).2=x/\∀vs,aH (aU S ρ Ps) ls vs->aH (aU S ρ' Ps) (uA m' ps z).1 vs
 |[],[],x,z,h=>by obtain rfl:=someI' h;exact⟨rfl,λvs h=>by have:=aH.nil_left h;subst this;trivial⟩
 |c::cs,y::ys,x,z,h=>by
  simp only[V5] at h
  split at h
  ·rename_i x' hx
   obtain⟨h1,h2⟩:=V6 (Ps:=Ps) hm h
   obtain⟨h3,h4⟩:=Oa hm hx
   simp only[uA]
   rw[h1]
   refine⟨h3,λvs hv=> ?_⟩
   obtain⟨v,vs',rfl,h5,h6⟩:=aH.cons_left hv
   exact⟨h2 _ h5,h4 _ h6⟩
  ·cases h
 |[],_::_,_,_,h=>by cases h
 |_::_,[],_,_,h=>by cases h
theorem Z0(ok:bB S)(hm:Ren m m' ρ ρ'):∀{p:PV} {l:A1 S.τ} {x:r} {z:p.T S.τ r},rdV S m p l x=some z->(H5 S m' p z).2=x/\∀v,bJ S ρ Ps l v->bJ S ρ' Ps (H5 S m' p z).1 v
 | .one p,.one l,x,z,h=>V6 hm h
 | .agg ps,.agg ls,x,z,h=>by
  obtain⟨h1,h2⟩:=Oa (Ps:=Ps) hm h
  exact⟨h1,λv ⟨vs,h3,h4⟩=>⟨vs,h3,h2 _ h4⟩⟩
 | .st i,.agg ls,x,z,h=>by
  simp only[rdV] at h
  split at h
  ·rename_i hl hh
   obtain rfl:=someI' h
   refine⟨rfl,λv ⟨vs,h3,h4⟩=>⟨vs,h3, ?_⟩⟩
   show aH (aU S ρ' Ps) (tP (S.lv i) (S.get i (S.mkS i hl))) vs
   rw[ok.get_mk]
   have hd:∀(ts:List Ty)(h:HL S.τ ts)(vs:List Value),aH (aU S ρ Ps) (tP ts h) vs->aH (aU S ρ' Ps) (tP ts h) vs:=by
    intro ts
    induction ts with
    |nil=>intro h vs hv;have:=aH.nil_left hv;subst this;trivial
    |cons t ts ih=>
     intro h vs hv
     obtain⟨v,vs',rfl,h5,h6⟩:=aH.cons_left hv
     exact⟨h5,ih _ _ h6⟩
   exact hd _ _ _ (kS hh h4)
  ·cases h
 | .one _,.agg _,_,_,h=>by cases h
 | .agg _,.one _,_,_,h=>by cases h
 | .st _,.one _,_,_,h=>by cases h
theorem Ik(ok:bB S)(hm:Ren m m' ρ ρ'):∀{ps:List PV} {ls:List (A1 S.τ)} {x:r} {z:sX S.τ ps r},T7 S m ps ls x=some z->(dQ S m' ps z).2=x/\∀vs,aH (bJ S ρ Ps) ls vs->aH (bJ S ρ' Ps) (dQ S m' ps z).1 vs
 |[],[],x,z,h=>by obtain rfl:=someI' h;exact⟨rfl,λvs h=>by have:=aH.nil_left h;subst this;trivial⟩
 |c::cs,y::ys,x,z,h=>by
  simp only[T7] at h
  split at h
  ·rename_i x' hx
   obtain⟨h1,h2⟩:=Z0 (Ps:=Ps) ok hm h
   obtain⟨h3,h4⟩:=Ik ok hm hx
   simp only[dQ]
   rw[h1]
   refine⟨h3,λvs hv=> ?_⟩
   obtain⟨v,vs',rfl,h5,h6⟩:=aH.cons_left hv
   exact⟨h2 _ h5,h4 _ h6⟩
  ·cases h
 |[],_::_,_,_,h=>by cases h
 |_::_,[],_,_,h=>by cases h
theorem Jy:∀(ts:List Ty)(h:HL S.τ ts)(vs:List Value),aH (aU S ρ Ps) (tP ts h) vs->aH (aU S ρ' Ps) (tP ts h) vs
 |[],h,vs,hv=>by have:=aH.nil_left hv;subst this;trivial
 |t::ts,h,vs,hv=>by
  obtain⟨v,vs',rfl,h5,h6⟩:=aH.cons_left hv
  exact⟨h5,Jy ts _ _ h6⟩
theorem Z3{P:Program}(ok:bB S)(hm:Ren m m' ρ ρ'){j k:Nat}(hjk:∀g,ρ k=some g->ρ' j=some g):∀{p:PI} {l:Item S.τ} {x:r} {z:p.T S.τ r},rdI S m p l x=some z->(H6 S m' p z).2=x/\∀A,aI S ρ Ps P (k,l) A->aI S ρ' Ps P (j,(H6 S m' p z).1) A
 | .box ps,.box ls,x,z,h=>by
  obtain⟨h1,h2⟩:=Oa (Ps:=Ps) hm h
  exact⟨h1,λA ⟨g,vs,h3,h4,h5⟩=>⟨g,vs,hjk _ h3,h4,h2 _ h5⟩⟩
 | .bst i,.box ls,x,z,h=>by
  simp only[rdI] at h
  split at h
  ·rename_i hl hh
   obtain rfl:=someI' h
   refine⟨rfl,λA ⟨g,vs,h3,h4,h5⟩=>⟨g,vs,hjk _ h3,h4, ?_⟩⟩
   show aH (aU S ρ' Ps) (tP (S.lv i) (S.get i (S.mkS i hl))) vs
   rw[ok.get_mk]
   exact Jy _ _ _ (kS hh h5)
  ·cases h
 | .row e t,.row e' t' l,x,z,h=>by
  simp only[rdI] at h
  split at h
  ·rename_i y he hy
   obtain rfl:=someI' h
   obtain rfl:=Nat.eq_of_beq_eq_true he
   obtain⟨rfl,rfl⟩:=yY hy
   exact⟨rfl,λA ⟨g,cs,h3,h4⟩=>⟨g,cs,hjk _ h3,h4⟩⟩
  ·cases h
 | .map q kt et vt,.map q' kt' et' vt' l,x,z,h=>by
  simp only[rdI] at h
  split at h
  ·rename_i hh h1 h2 h3 h4
   obtain rfl:=someI' h
   obtain rfl:=wL h1
   obtain rfl:=Nat.eq_of_beq_eq_true h2
   obtain rfl:=Nat.eq_of_beq_eq_true h3
   obtain⟨rfl⟩:=hh
   exact⟨rfl,λA ⟨g,z,E,L,h5,h6⟩=>⟨g,z,E,L,hjk _ h5,h6⟩⟩
  ·cases h
 | .gst,l,x,z,h=>by
  simp only[rdI] at h
  split at h
  ·obtain rfl:=someI' h
   exact⟨rfl,λA ⟨g,h3,h4⟩=>⟨g,hjk _ h3,h4⟩⟩
  ·cases h
 | .dmap kt et ky vt,l,x,z,h=>by
  simp only[rdI] at h
  split at h
  ·split at h
   ·rename_i hk hv h1 h2 _ _
    obtain rfl:=someI' h
    obtain rfl:=Nat.eq_of_beq_eq_true h1
    obtain rfl:=Nat.eq_of_beq_eq_true h2
    obtain⟨rfl⟩:=hk
    obtain⟨rfl⟩:=hv
    exact⟨rfl,λA ⟨g,vs,h5,h6⟩=>⟨g,vs,hjk _ h5,h6⟩⟩
   ·cases h
  ·cases h
 | .mit i q kt et vt,l,x,z,h=>by
  simp only[rdI] at h
  split at h
  ·split at h
   ·rename_i hh h0 h1 h2 h3 h4
    obtain rfl:=someI' h
    obtain rfl:=wL h1
    obtain rfl:=Nat.eq_of_beq_eq_true h2
    obtain rfl:=Nat.eq_of_beq_eq_true h3
    obtain⟨rfl⟩:=hh
    exact⟨rfl,λA ⟨g,gm,z,E,L,c,h5,h6,h7,h8,h9,h10⟩=>⟨g,gm,z,E,L,c,hjk _ h5,hm _ _ _ (EO h0) h6,h7,h8,h9,nofun⟩⟩
   ·cases h
  ·cases h
 | .deep e t es,l,x,z,h=>by
  simp only[rdI] at h
  split at h
  ·split at h
   ·rename_i y he hes hy
    obtain rfl:=someI' h
    obtain rfl:=Nat.eq_of_beq_eq_true he
    obtain rfl:=FV hes
    obtain⟨rfl,rfl⟩:=yY hy
    exact⟨rfl,λA ⟨g,c1,c2,F,h3,h4⟩=>⟨g,c1,c2,F,hjk _ h3,h4⟩⟩
   ·cases h
  ·cases h
 | .pdeep e t es,l,x,z,h=>by
  simp only[rdI] at h
  split at h
  ·split at h
   ·rename_i y he hes hy
    obtain rfl:=someI' h
    obtain rfl:=Nat.eq_of_beq_eq_true he
    obtain rfl:=FV hes
    obtain⟨rfl,rfl⟩:=yY hy
    exact⟨rfl,λA ⟨g,c1,c2,F,h3,h4⟩=>⟨g,c1,c2,F,hjk _ h3,h4⟩⟩
   ·cases h
  ·cases h
 | .shed e t es,l,x,z,h=>by
  simp only[rdI] at h
  split at h
  ·split at h
   ·rename_i y he hes hy
    obtain rfl:=someI' h
    obtain rfl:=Nat.eq_of_beq_eq_true he
    obtain rfl:=FV hes
    obtain⟨rfl,rfl⟩:=yY hy
    exact⟨rfl,λA ⟨g,c1,c2,F,h3,h4⟩=>⟨g,c1,c2,F,hjk _ h3,h4⟩⟩
   ·cases h
  ·cases h
 | .box _,.deep _ _ _ _ _,_,_,h=>by cases h
 | .bst _,.deep _ _ _ _ _,_,_,h=>by cases h
 | .row _ _,.deep _ _ _ _ _,_,_,h=>by cases h
 | .map _ _ _ _,.deep _ _ _ _ _,_,_,h=>by cases h
 | .opq _ _,.deep _ _ _ _ _,_,_,h=>by cases h
 | .box _,.shed _ _ _ _ _,_,_,h=>by cases h
 | .bst _,.shed _ _ _ _ _,_,_,h=>by cases h
 | .row _ _,.shed _ _ _ _ _,_,_,h=>by cases h
 | .map _ _ _ _,.shed _ _ _ _ _,_,_,h=>by cases h
 | .opq _ _,.shed _ _ _ _ _,_,_,h=>by cases h
 | .box _,.srest _ _ _ _ _ _,_,_,h=>by cases h
 | .bst _,.srest _ _ _ _ _ _,_,_,h=>by cases h
 | .row _ _,.srest _ _ _ _ _ _,_,_,h=>by cases h
 | .map _ _ _ _,.srest _ _ _ _ _ _,_,_,h=>by cases h
 | .opq _ _,.srest _ _ _ _ _ _,_,_,h=>by cases h
 | .box _,.rest _ _ _ _ _ _ _,_,_,h=>by cases h
 | .bst _,.rest _ _ _ _ _ _ _,_,_,h=>by cases h
 | .row _ _,.rest _ _ _ _ _ _ _,_,_,h=>by cases h
 | .map _ _ _ _,.rest _ _ _ _ _ _ _,_,_,h=>by cases h
 | .opq _ _,.rest _ _ _ _ _ _ _,_,_,h=>by cases h
 | .box _,.row _ _ _,_,_,h=>by cases h
 | .box _,.map _ _ _ _ _,_,_,h=>by cases h
 | .bst _,.row _ _ _,_,_,h=>by cases h
 | .bst _,.map _ _ _ _ _,_,_,h=>by cases h
 | .row _ _,.box _,_,_,h=>by cases h
 | .row _ _,.map _ _ _ _ _,_,_,h=>by cases h
 | .map _ _ _ _,.box _,_,_,h=>by cases h
 | .map _ _ _ _,.row _ _ _,_,_,h=>by cases h
 | .box _,.gst,_,_,h=>by cases h
 | .bst _,.gst,_,_,h=>by cases h
 | .row _ _,.gst,_,_,h=>by cases h
 | .map _ _ _ _,.gst,_,_,h=>by cases h
 | .opq _ _,.gst,_,_,h=>by cases h
 | .box _,.mit _ _ _ _ _ _ _ _,_,_,h=>by cases h
 | .bst _,.mit _ _ _ _ _ _ _ _,_,_,h=>by cases h
 | .row _ _,.mit _ _ _ _ _ _ _ _,_,_,h=>by cases h
 | .map _ _ _ _,.mit _ _ _ _ _ _ _ _,_,_,h=>by cases h
 | .opq _ _,.mit _ _ _ _ _ _ _ _,_,_,h=>by cases h
 | .box _,.cmap _ _ _ _,_,_,h=>by cases h
 | .bst _,.cmap _ _ _ _,_,_,h=>by cases h
 | .row _ _,.cmap _ _ _ _,_,_,h=>by cases h
 | .map _ _ _ _,.cmap _ _ _ _,_,_,h=>by cases h
 | .opq _ _,.cmap _ _ _ _,_,_,h=>by cases h
 | .box _,.lmap _ _ _,_,_,h=>by cases h
 | .bst _,.lmap _ _ _,_,_,h=>by cases h
 | .row _ _,.lmap _ _ _,_,_,h=>by cases h
 | .map _ _ _ _,.lmap _ _ _,_,_,h=>by cases h
 | .opq _ _,.lmap _ _ _,_,_,h=>by cases h
 | .box _,.dmap _ _ _ _ _,_,_,h=>by cases h
 | .bst _,.dmap _ _ _ _ _,_,_,h=>by cases h
 | .row _ _,.dmap _ _ _ _ _,_,_,h=>by cases h
 | .map _ _ _ _,.dmap _ _ _ _ _,_,_,h=>by cases h
 | .opq _ _,.dmap _ _ _ _ _,_,_,h=>by cases h
 | .opq _ _,.box _,_,_,h=>by cases h
 | .opq _ _,.row _ _ _,_,_,h=>by cases h
 | .opq _ _,.map _ _ _ _ _,_,_,h=>by cases h
 | .box _,.opq _ _ _ _ _,_,_,h=>by cases h
 | .bst _,.opq _ _ _ _ _,_,_,h=>by cases h
 | .row _ _,.opq _ _ _ _ _,_,_,h=>by cases h
 | .map _ _ _ _,.opq _ _ _ _ _,_,_,h=>by cases h
 | .opq ys ts,.opq ys' ts' f k z0,x,z,h=>by
  simp only[rdI] at h
  split at h
  ·rename_i h1 h2 _ _
   obtain rfl:=someI' h
   obtain⟨rfl⟩:=h1
   obtain⟨rfl⟩:=h2
   exact⟨rfl,λA ⟨g,F,Pj,h3,h4⟩=>⟨g,F,Pj,hjk _ h3,h4⟩⟩
  ·cases h
def qB{α:Type}(k:Nat):List α->List (Nat×α)
 |[]=>[]
 |x::xs=>(k,x)::qB (k+1) xs
theorem Il{P:Program}(ok:bB S)(hm:Ren m m' ρ ρ'):∀{ps:List PI} {ls:List (Nat×Item S.τ)} {x:r} {z:pO S.τ ps r} {i:Nat},RM S m ps (ls.map (·.2)) x=some z->(∀q k,(ls[q]?).map (·.1)=some k->∀g,ρ k=some g->ρ' (i+q)=some g)->
  (gM S m' ps z).2=x/\∀As,aH (aI S ρ Ps P) ls As->aH (aI S ρ' Ps P) (qB i (gM S m' ps z).1) As
 |[],[],x,z,i,h,_=>by obtain rfl:=someI' h;exact⟨rfl,λvs h=>by have:=aH.nil_left h;subst this;trivial⟩
 |c::cs,(k,y)::ys,x,z,i,h,hk=>by
  simp only[List.map_cons,RM] at h
  split at h
  ·rename_i x' hx
   obtain⟨h1,h2⟩:=Z3 (Ps:=Ps) (P:=P) ok hm (j:=i) (k:=k) (hk 0 k rfl) h
   obtain⟨h3,h4⟩:=Il (i:=i+1) ok hm hx λq k' hq g hg=>by
    have:=hk (q+1) k' (by simpa using hq) g hg
    rwa[show i+(q+1)=i+1+q from by omega] at this
   simp only[gM]
   rw[h1]
   refine⟨h3,λvs hv=> ?_⟩
   obtain⟨v,vs',rfl,h5,h6⟩:=aH.cons_left hv
   exact⟨h2 _ h5,h4 _ h6⟩
  ·cases h
 |[],(_,_)::_,_,_,_,h,_=>by cases h
 |_::_,[],_,_,_,h,_=>by cases h
section
variable {m1 m2 : Nat -> Nat}
def Ld(m1 m2:Nat->Nat)(ρ ρ':Rho):Prop:=∀j g,ρ (m1 j)=some g->ρ' (m2 j)=some g
theorem V7(hm:Ld m1 m2 ρ ρ'):∀{c:PC} {z:c.T S.τ r},(Lc (τ:=S.τ) m1 c z).2=(Lc (τ:=S.τ) m2 c z).2/\∀v,fP S ρ Ps (Lc m1 c z).1 v->fP S ρ' Ps (Lc m2 c z).1 v
 | .bx j,z=>⟨rfl,λv ⟨g,h1,h2⟩=>⟨g,hm j g h1,h2⟩⟩
 | .ro t,z=>⟨rfl,λv h=>h⟩
theorem Ma(hm:Ld m1 m2 ρ ρ'):∀{cs:List PC} {z:N9 S.τ cs r},(xN (τ:=S.τ) m1 cs z).2=(xN (τ:=S.τ) m2 cs z).2/\∀vs,aH (fP S ρ Ps) (xN m1 cs z).1 vs->aH (fP S ρ' Ps) (xN m2 cs z).1 vs
 |[],z=>⟨rfl,λvs h=>by have:=aH.nil_left h;subst this;trivial⟩
 |c::cs,z=>by
  obtain⟨h1,h2⟩:=V7 (Ps:=Ps) hm (c:=c) (z:=z)
  obtain⟨h3,h4⟩:=Ma hm (cs:=cs) (z:=(Lc (τ:=S.τ) m1 c z).2)
  simp only[xN]
  rw[<-h1]
  refine⟨h3,λvs hv=> ?_⟩
  obtain⟨v,vs',rfl,h5,h6⟩:=aH.cons_left hv
  exact⟨h2 _ h5,h4 _ h6⟩
theorem PQ(hm:Ld m1 m2 ρ ρ'):∀{p:PL} {z:p.T S.τ r},(FU (τ:=S.τ) m1 p z).2=(FU (τ:=S.τ) m2 p z).2/\∀v,aU S ρ Ps (FU m1 p z).1 v->aU S ρ' Ps (FU m2 p z).1 v
 | .d t,z=>⟨rfl,λv h=>h⟩
 | .ro t,z=>⟨rfl,λv h=>h⟩
 | .fn g cs,z=>by
  obtain⟨h1,h2⟩:=Ma (Ps:=Ps) hm (cs:=cs) (z:=z)
  exact⟨h1,λv ⟨vs,h3,h4⟩=>⟨vs,h3,h2 _ h4⟩⟩
 | .own j,z=>⟨rfl,λv ⟨g,h1,h2⟩=>⟨g,hm j g h1,h2⟩⟩
 | .box j o,z=>⟨rfl,λv ⟨g,h1,h2⟩=>⟨g,hm j g h1,h2⟩⟩
 | .map j,z=>⟨rfl,λv ⟨g,h1,h2⟩=>⟨g,hm j g h1,h2⟩⟩
 | .yd j,z=>⟨rfl,λv ⟨g,h1,h2⟩=>⟨g,hm j g h1,h2⟩⟩
 | .vw j sz,z=>⟨rfl,λv ⟨g,a,h1,h2⟩=>⟨g,a,hm j g h1,h2⟩⟩
 | .er,z=>⟨rfl,λv h=>h⟩
 | .nil,z=>⟨rfl,λv h=>h⟩
 | .nmap,z=>⟨rfl,λv h=>h⟩
 | .nptr,z=>⟨rfl,λv h=>h⟩
 | .nfn,z=>⟨rfl,λv h=>h⟩
theorem GO(hm:Ld m1 m2 ρ ρ'):∀{cs:List PL} {z:Lb S.τ cs r},(uA (τ:=S.τ) m1 cs z).2=(uA (τ:=S.τ) m2 cs z).2/\∀vs,aH (aU S ρ Ps) (uA m1 cs z).1 vs->aH (aU S ρ' Ps) (uA m2 cs z).1 vs
 |[],z=>⟨rfl,λvs h=>by have:=aH.nil_left h;subst this;trivial⟩
 |c::cs,z=>by
  obtain⟨h1,h2⟩:=PQ (Ps:=Ps) hm (p:=c) (z:=z)
  obtain⟨h3,h4⟩:=GO hm (cs:=cs) (z:=(FU (τ:=S.τ) m1 c z).2)
  simp only[uA]
  rw[<-h1]
  refine⟨h3,λvs hv=> ?_⟩
  obtain⟨v,vs',rfl,h5,h6⟩:=aH.cons_left hv
  exact⟨h2 _ h5,h4 _ h6⟩
theorem V8(hm:Ld m1 m2 ρ ρ'):∀{p:PV} {z:p.T S.τ r},(H5 S m1 p z).2=(H5 S m2 p z).2/\∀v,bJ S ρ Ps (H5 S m1 p z).1 v->bJ S ρ' Ps (H5 S m2 p z).1 v
 | .one p,z=>PQ hm (p:=p) (z:=z)
 | .agg ps,z=>by
  obtain⟨h1,h2⟩:=GO (Ps:=Ps) hm (cs:=ps) (z:=z)
  exact⟨h1,λv ⟨vs,h3,h4⟩=>⟨vs,h3,h2 _ h4⟩⟩
 | .st i,z=>⟨rfl,λv ⟨vs,h3,h4⟩=>⟨vs,h3,Jy _ _ _ h4⟩⟩
theorem Mb(hm:Ld m1 m2 ρ ρ'):∀{cs:List PV} {z:sX S.τ cs r},(dQ S m1 cs z).2=(dQ S m2 cs z).2/\∀vs,aH (bJ S ρ Ps) (dQ S m1 cs z).1 vs->aH (bJ S ρ' Ps) (dQ S m2 cs z).1 vs
 |[],z=>⟨rfl,λvs h=>by have:=aH.nil_left h;subst this;trivial⟩
 |c::cs,z=>by
  obtain⟨h1,h2⟩:=V8 (Ps:=Ps) hm (p:=c) (z:=z)
  obtain⟨h3,h4⟩:=Mb hm (cs:=cs) (z:=(H5 S m1 c z).2)
  simp only[dQ]
  rw[<-h1]
  refine⟨h3,λvs hv=> ?_⟩
  obtain⟨v,vs',rfl,h5,h6⟩:=aH.cons_left hv
  exact⟨h2 _ h5,h4 _ h6⟩
theorem V9{P:Program}(hm:Ld m1 m2 ρ ρ'){j k:Nat}(hjk:∀g,ρ k=some g->ρ' j=some g):∀{p:PI} {z:p.T S.τ r},(H6 S m1 p z).2=(H6 S m2 p z).2/\∀A,aI S ρ Ps P (k,(H6 S m1 p z).1) A->aI S ρ' Ps P (j,(H6 S m2 p z).1) A
 | .box ps,z=>by
  obtain⟨h1,h2⟩:=GO (Ps:=Ps) hm (cs:=ps) (z:=z)
  exact⟨h1,λA ⟨g,vs,h3,h4,h5⟩=>⟨g,vs,hjk _ h3,h4,h2 _ h5⟩⟩
 | .bst i,z=>⟨rfl,λA ⟨g,vs,h3,h4,h5⟩=>⟨g,vs,hjk _ h3,h4,Jy _ _ _ h5⟩⟩
 | .row e t,z=>⟨rfl,λA ⟨g,cs,h3,h4⟩=>⟨g,cs,hjk _ h3,h4⟩⟩
 | .map q kt et vt,z=>⟨rfl,λA ⟨g,z,E,L,h5,h6⟩=>⟨g,z,E,L,hjk _ h5,h6⟩⟩
 | .opq ys ts,z=>⟨rfl,λA ⟨g,F,Pj,h3,h4⟩=>⟨g,F,Pj,hjk _ h3,h4⟩⟩
 | .gst,z=>⟨rfl,λA ⟨g,h3,h4⟩=>⟨g,hjk _ h3,h4⟩⟩
 | .dmap kt et ky vt,z=>⟨rfl,λA ⟨g,vs,h3,h4⟩=>⟨g,vs,hjk _ h3,h4⟩⟩
 | .mit i q kt et vt,z=>⟨rfl,λA ⟨g,gm,z,E,L,c,h5,h6,h7⟩=>⟨g,gm,z,E,L,c,hjk _ h5,hm _ _ h6,h7⟩⟩
 | .deep e t es,z=>⟨rfl,λA ⟨g,c1,c2,F,h3,h4⟩=>⟨g,c1,c2,F,hjk _ h3,h4⟩⟩
 | .pdeep e t es,z=>⟨rfl,λA ⟨g,c1,c2,F,h3,h4⟩=>⟨g,c1,c2,F,hjk _ h3,h4⟩⟩
 | .shed e t es,z=>⟨rfl,λA ⟨g,c1,c2,F,h3,h4⟩=>⟨g,c1,c2,F,hjk _ h3,h4⟩⟩
def Wa{α:Type}:List Nat->List α->List (Nat×α)
 |k::ks,x::xs=>(k,x)::Wa ks xs
 |_,_=>[]
theorem GP{P:Program}(hm:Ld m1 m2 ρ ρ'):∀{ps:List PI} {z:pO S.τ ps r} {i:Nat} {ks:List Nat},ks.length=ps.length->(∀q k,ks[q]? =some k->∀g,ρ (i+q)=some g->ρ' k=some g)->
  (gM S m1 ps z).2=(gM S m2 ps z).2/\∀As,aH (aI S ρ Ps P) (qB i (gM S m1 ps z).1) As->aH (aI S ρ' Ps P) (Wa ks (gM S m2 ps z).1) As
 |[],z,i,ks,hl,hk=>by
  have:ks=[]:=List.eq_nil_of_length_eq_zero hl
  subst this
  exact⟨rfl,λvs h=>by have:=aH.nil_left h;subst this;trivial⟩
 |c::cs,z,i,[],hl,hk=>by simp at hl
 |c::cs,z,i,k::ks,hl,hk=>by
  obtain⟨h1,h2⟩:=V9 (Ps:=Ps) (P:=P) hm (j:=k) (k:=i) (λg hg=>hk 0 k rfl g (by simpa using hg)) (p:=c) (z:=z)
  obtain⟨h3,h4⟩:=GP hm (ps:=cs) (z:=(H6 S m1 c z).2) (i:=i+1) (ks:=ks) (by simpa using hl) λq k' hq g hg=>hk (q+1) k' (by simpa using hq) g (by rwa[show i+(q+1)=i+1+q from by omega])
  simp only[gM]
  rw[<-h1]
  refine⟨h3,λvs hv=> ?_⟩
  obtain⟨v,vs',rfl,h5,h6⟩:=aH.cons_left hv
  exact⟨h2 _ h5,h4 _ h6⟩
end
end
end Go.Bur
