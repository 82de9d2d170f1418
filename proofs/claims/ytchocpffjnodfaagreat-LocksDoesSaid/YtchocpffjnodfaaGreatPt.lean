import Derived.Test.YtchocpffjnodfaaGreatVw
namespace Go.Bur
open Go.RowKit
set_option linter.unusedVariables false
set_option linter.unusedSimpArgs false
inductive PC where
 |bx (j:Nat)
 |ro (t:Ty)
inductive PL where
 |d (t:Ty)
 |own (j:Nat)
 |box (j o:Nat)
 |ro (t:Ty)
 |fn (g:Nat) (cs:List PC)
 |map (j:Nat)
 |yd (j:Nat)
 |vw (j sz:Nat)
 |er
 |nil
 |nmap
 |nptr
 |nfn
inductive PV where
 |one (p:PL)
 |agg (ps:List PL)
 |st (i:Nat)
inductive PI where
 |box (ps:List PL)
 |bst (i:Nat)
 |row (e:Nat) (t:Ty)
 |map (q:IntKind) (kt et:TypeId) (vt:Ty)
 |opq (ys ts:List Ty)
 |gst
 |dmap (kt et:TypeId) (ky vt:Ty)
 |mit (j:Nat) (q:IntKind) (kt et:TypeId) (vt:Ty)
 |deep (e:TypeId) (t:Ty) (es:List (Option TypeId))
 |pdeep (e:TypeId) (t:Ty) (es:List (Option TypeId))
 |shed (e:TypeId) (t:Ty) (es:List (Option TypeId))
 |scr (t:Ty) (ex:Bool)
section
variable (τ : Nat → Type)
@[reducible] def PC.T:PC→Type→Type
 | .ro t,r=>Dn τ t×r
 | .bx _,r=>r
@[reducible] def PCsT:List PC→Type→Type
 |[],r=>r
 |c::cs,r=>c.T τ (PCsT cs r)
@[reducible] def PL.T:PL→Type→Type
 | .d t,r=>Dn τ t×r
 | .ro t,r=>Dn τ t×r
 | .fn _ cs,r=>PCsT τ cs r
 | .own _,r=>r
 | .box _ _,r=>r
 | .map _,r=>r
 | .yd _,r=>r
 | .vw _ _,r=>Int×r
 | .er,r=>Bool×r
 | .nil,r=>r
 | .nmap,r=>r
 | .nptr,r=>r
 | .nfn,r=>r
@[reducible] def PLsT:List PL→Type→Type
 |[],r=>r
 |p::ps,r=>p.T τ (PLsT ps r)
@[reducible] def PV.T:PV→Type→Type
 | .one p,r=>p.T τ r
 | .agg ps,r=>PLsT τ ps r
 | .st i,r=>τ i×r
@[reducible] def PVsT:List PV→Type→Type
 |[],r=>r
 |p::ps,r=>p.T τ (PVsT ps r)
@[reducible] def PI.T:PI→Type→Type
 | .box ps,r=>PLsT τ ps r
 | .bst i,r=>τ i×r
 | .row _ t,r=>List (Dn τ t)×r
 | .map _ _ _ vt,r=>List (Int×Dn τ vt)×r
 | .opq ys ts,r=>(HL τ ys→HL τ ts→Option (Nat×HL τ ts))×Nat×HL τ ts×r
 | .gst,r=>r
 | .dmap _ _ ky vt,r=>List (Dn τ ky×Dn τ vt)×r
 | .mit _ _ _ _ vt,r=>List (Int×Dn τ vt)×List Int×r
 | .deep _ t _,r=>List (Dn τ t)×r
 | .pdeep _ t _,r=>Nat×List (Dn τ t)×r
 | .shed _ t _,r=>Nat×List (Dn τ t)×r
 | .scr t _,r=>List (Dn τ t)×r
@[reducible] def PIsT:List PI→Type→Type
 |[],r=>r
 |p::ps,r=>p.T τ (PIsT ps r)
end
section
variable {τ : Nat → Type} {r : Type}
def putC(m:Nat→Nat):(c:PC)→c.T τ r→Cap τ×r
 | .bx j,x=>(.bx (m j),x)
 | .ro t,x=>(.ro t x.1,x.2)
def putCs(m:Nat→Nat):(cs:List PC)→PCsT τ cs r→List (Cap τ)×r
 |[],x=>([],x)
 |c::cs,x=>((putC m c x).1::(putCs m cs (putC m c x).2).1,(putCs m cs (putC m c x).2).2)
def putL(m:Nat→Nat):(p:PL)→p.T τ r→Lf τ×r
 | .d t,x=>(.d t x.1,x.2)
 | .ro t,x=>(.ro t x.1 0,x.2)
 | .fn g cs,x=>(.fn g (putCs m cs x).1,(putCs m cs x).2)
 | .own j,x=>(.own (m j),x)
 | .box j o,x=>(.box (m j) o,x)
 | .map j,x=>(.map (m j),x)
 | .yd j,x=>(.yd (m j),x)
 | .vw j sz,x=>(.vw (m j) sz x.1,x.2)
 | .er,x=>(.er x.1,x.2)
 | .nil,x=>(.nil,x)
 | .nmap,x=>(.nmap,x)
 | .nptr,x=>(.nptr,x)
 | .nfn,x=>(.nfn,x)
def putLs(m:Nat→Nat):(ps:List PL)→PLsT τ ps r→List (Lf τ)×r
 |[],x=>([],x)
 |p::ps,x=>((putL m p x).1::(putLs m ps (putL m p x).2).1,(putLs m ps (putL m p x).2).2)
end
section
variable (S : Tab) {r : Type}
def putV(m:Nat→Nat):(p:PV)→p.T S.τ r→A1 S.τ×r
 | .one p,x=>(.one (putL m p x).1,(putL m p x).2)
 | .agg ps,x=>(.agg (putLs m ps x).1,(putLs m ps x).2)
 | .st i,x=>(.agg (hlLf (S.lv i) (S.get i x.1)),x.2)
def putVs(m:Nat→Nat):(ps:List PV)→PVsT S.τ ps r→List (A1 S.τ)×r
 |[],x=>([],x)
 |p::ps,x=>((putV S m p x).1::(putVs m ps (putV S m p x).2).1,(putVs m ps (putV S m p x).2).2)
def putI(m:Nat→Nat):(p:PI)→p.T S.τ r→Item S.τ×r
 | .box ps,x=>(.box (putLs m ps x).1,(putLs m ps x).2)
 | .bst i,x=>(.box (hlLf (S.lv i) (S.get i x.1)),x.2)
 | .row e t,x=>(.row e t x.1,x.2)
 | .map q kt et vt,x=>(.map q kt et vt x.1,x.2)
 | .opq ys ts,x=>(.opq ys ts x.1 x.2.1 x.2.2.1,x.2.2.2)
 | .gst,x=>(.gst,x)
 | .dmap kt et ky vt,x=>(.dmap kt et ky vt x.1,x.2)
 | .mit j q kt et vt,x=>(.mit (m j) q kt et vt x.1 x.2.1 none,x.2.2)
 | .deep e t es,x=>(.deep e t es none x.1,x.2)
 | .pdeep e t es,x=>(.deep e t es (some x.1) x.2.1,x.2.2)
 | .shed e t es,x=>(.shed e t es x.1 x.2.1,x.2.2)
 | .scr t ex,x=>(.scr t ex x.1,x.2)
def putIs(m:Nat→Nat):(ps:List PI)→PIsT S.τ ps r→List (Item S.τ)×r
 |[],x=>([],x)
 |p::ps,x=>((putI S m p x).1::(putIs m ps (putI S m p x).2).1,(putIs m ps (putI S m p x).2).2)
end
section
variable {τ : Nat → Type} {r : Type}
def okM(m:Nat→Option Nat)(j k:Nat):Bool:=match m j with
 |some k'=>Nat.beq k' k
 |none=>false
def rdC(m:Nat→Option Nat):(c:PC)→Cap τ→r→Option (c.T τ r)
 | .bx j,.bx k,x=>match okM m j k with
  |true=>some x
  |false=>none
 | .ro t,.ro _ y,x=>match castD y with
  |some z=>some (z,x)
  |none=>none
 | .bx _,.ro _ _,_=>none
 | .ro _,.bx _,_=>none
def rdCs(m:Nat→Option Nat):(cs:List PC)→List (Cap τ)→r→Option (PCsT τ cs r)
 |[],[],x=>some x
 |c::cs,y::ys,x=>match rdCs m cs ys x with
  |some x'=>rdC m c y x'
  |none=>none
 |[],_::_,_=>none
 |_::_,[],_=>none
def rdL(m:Nat→Option Nat):(p:PL)→Lf τ→r→Option (p.T τ r)
 | .d t,l,x=>match toD t l with
  |some y=>some (y,x)
  |none=>none
 | .ro t,l,x=>match l with
  | .ro _ y 0=>match castD y with
   |some z=>some (z,x)
   |none=>none
  |_=>none
 | .fn g cs,l,x=>match l with
  | .fn g' cs'=>match Nat.beq g g' with
   |true=>rdCs m cs cs' x
   |false=>none
  |_=>none
 | .own j,l,x=>match l with
  | .own k=>match okM m j k with
   |true=>some x
   |false=>none
  |_=>none
 | .box j o,l,x=>match l with
  | .box k o'=>match okM m j k,Nat.beq o o' with
   |true,true=>some x
   |_,_=>none
  |_=>none
 | .map j,l,x=>match l with
  | .map k=>match okM m j k with
   |true=>some x
   |false=>none
  |_=>none
 | .yd j,l,x=>match l with
  | .yd k=>match okM m j k with
   |true=>some x
   |false=>none
  |_=>none
 | .vw j sz,l,x=>match l with
  | .vw k sz' i=>match okM m j k,Nat.beq sz sz' with
   |true,true=>some (i,x)
   |_,_=>none
  |_=>none
 | .er,l,x=>match l with
  | .er e=>some (e,x)
  |_=>none
 | .nil,l,x=>match l with
  | .nil=>some x
  |_=>none
 | .nmap,l,x=>match l with
  | .nmap=>some x
  |_=>none
 | .nptr,l,x=>match l with
  | .nptr=>some x
  |_=>none
 | .nfn,l,x=>match l with
  | .nfn=>some x
  |_=>none
def rdLs(m:Nat→Option Nat):(ps:List PL)→List (Lf τ)→r→Option (PLsT τ ps r)
 |[],[],x=>some x
 |p::ps,l::ls,x=>match rdLs m ps ls x with
  |some x'=>rdL m p l x'
  |none=>none
 |[],_::_,_=>none
 |_::_,[],_=>none
end
def tysEq:(ts us:List Ty)→Option (PLift (ts=us))
 |[],[]=>some ⟨rfl⟩
 |t::ts,u::us=>match Ty.eq? t u,tysEq ts us with
  |some h,some k=>some ⟨by rw[h.down,k.down]⟩
  |_,_=>none
 |_,_=>none
def esEq:List (Option Nat)→List (Option Nat)→Bool
 |[],[]=>true
 |none::a,none::b=>esEq a b
 |some x::a,some y::b=>match Nat.beq x y with
  |true=>esEq a b
  |false=>false
 |_,_=>false
theorem esEq_eq:∀{a b:List (Option Nat)},esEq a b=true→a=b
 |[],[],_=>rfl
 |none::a,none::b,h=>by rw[esEq_eq (show esEq a b=true from h)]
 |some x::a,some y::b,h=>by
  simp only[esEq] at h
  split at h
  ·rename_i hb
   rw[Nat.eq_of_beq_eq_true hb,esEq_eq h]
  ·cases h
 |[],_::_,h=>by cases h
 |none::_,[],h=>by cases h
 |some _::_,[],h=>by cases h
 |none::_,some _::_,h=>by cases h
 |some _::_,none::_,h=>by cases h
section
variable (S : Tab) {r : Type}
def rdV(m:Nat→Option Nat):(p:PV)→A1 S.τ→r→Option (p.T S.τ r)
 | .one p,.one l,x=>rdL m p l x
 | .agg ps,.agg ls,x=>rdLs m ps ls x
 | .st i,.agg ls,x=>match toHL (S.lv i) ls with
  |some h=>some (S.mkS i h,x)
  |none=>none
 | .one _,.agg _,_=>none
 | .agg _,.one _,_=>none
 | .st _,.one _,_=>none
def rdVs(m:Nat→Option Nat):(ps:List PV)→List (A1 S.τ)→r→Option (PVsT S.τ ps r)
 |[],[],x=>some x
 |p::ps,l::ls,x=>match rdVs m ps ls x with
  |some x'=>rdV S m p l x'
  |none=>none
 |[],_::_,_=>none
 |_::_,[],_=>none
def rdI(m:Nat→Option Nat):(p:PI)→Item S.τ→r→Option (p.T S.τ r)
 | .box ps,.box ls,x=>rdLs m ps ls x
 | .bst i,.box ls,x=>match toHL (S.lv i) ls with
  |some h=>some (S.mkS i h,x)
  |none=>none
 | .row e t,.row e' _ l,x=>match Nat.beq e e',castL (S:=S) (u:=t) l with
  |true,some y=>some (y,x)
  |_,_=>none
 | .opq ys ts,.opq ys' ts' f k z,x=>match tysEq ys' ys,tysEq ts' ts with
  |some h,some h'=>some (h.down▸h'.down▸f,k,h'.down▸z,x)
  |_,_=>none
 | .map q kt et vt,.map q' kt' et' vt' l,x=>match ikB q q',Nat.beq kt kt',Nat.beq et et',Ty.eq? vt' vt with
  |true,true,true,some h=>some (h.down▸l,x)
  |_,_,_,_=>none
 | .gst,l,x=>match l with
  | .gst=>some x
  |_=>none
 | .dmap kt et ky vt,l,x=>match l with
  | .dmap kt' et' ky' vt' l=>match Nat.beq kt kt',Nat.beq et et',Ty.eq? ky' ky,Ty.eq? vt' vt with
   |true,true,some h,some h'=>some (h.down▸h'.down▸l,x)
   |_,_,_,_=>none
  |_=>none
 | .mit j q kt et vt,l,x=>match l with
  | .mit jm q' kt' et' vt' l ks _=>match okM m j jm,ikB q q',Nat.beq kt kt',Nat.beq et et',Ty.eq? vt' vt with
   |true,true,true,true,some h=>some (h.down▸l,ks,x)
   |_,_,_,_,_=>none
  |_=>none
 | .deep e t es,l,x=>match l with
  | .deep e' _ es' none l=>match Nat.beq e e',esEq es es',castL (S:=S) (u:=t) l with
   |true,true,some y=>some (y,x)
   |_,_,_=>none
  |_=>none
 | .pdeep e t es,l,x=>match l with
  | .deep e' _ es' (some m) l=>match Nat.beq e e',esEq es es',castL (S:=S) (u:=t) l with
   |true,true,some y=>some (m,y,x)
   |_,_,_=>none
  |_=>none
 | .shed e t es,l,x=>match l with
  | .shed e' _ es' m l=>match Nat.beq e e',esEq es es',castL (S:=S) (u:=t) l with
   |true,true,some y=>some (m,y,x)
   |_,_,_=>none
  |_=>none
 | .scr t ex,l,x=>match l with
  | .scr _ ex' l=>match !ex||ex',castL (S:=S) (u:=t) l with
   |true,some y=>some (y,x)
   |_,_=>none
  |_=>none
 |_,.scr _ _ _,_=>none
 |_,.gst,_=>none
 |_,.mit _ _ _ _ _ _ _ _,_=>none
 |_,.deep _ _ _ _ _,_=>none
 |_,.rest _ _ _ _ _ _ _,_=>none
 |_,.shed _ _ _ _ _,_=>none
 |_,.srest _ _ _ _ _ _,_=>none
 | .box _,.row _ _ _,_=>none
 | .box _,.map _ _ _ _ _,_=>none
 | .bst _,.row _ _ _,_=>none
 | .bst _,.map _ _ _ _ _,_=>none
 | .row _ _,.box _,_=>none
 | .row _ _,.map _ _ _ _ _,_=>none
 | .map _ _ _ _,.box _,_=>none
 | .map _ _ _ _,.row _ _ _,_=>none
 |_,.cmap _ _ _ _,_=>none
 |_,.lmap _ _ _,_=>none
 |_,.dmap _ _ _ _ _,_=>none
 | .opq _ _,.box _,_=>none
 | .opq _ _,.row _ _ _,_=>none
 | .opq _ _,.map _ _ _ _ _,_=>none
 | .box _,.opq _ _ _ _ _,_=>none
 | .bst _,.opq _ _ _ _ _,_=>none
 | .row _ _,.opq _ _ _ _ _,_=>none
 | .map _ _ _ _,.opq _ _ _ _ _,_=>none
def rdIs(m:Nat→Option Nat):(ps:List PI)→List (Item S.τ)→r→Option (PIsT S.τ ps r)
 |[],[],x=>some x
 |p::ps,l::ls,x=>match rdIs m ps ls x with
  |some x'=>rdI S m p l x'
  |none=>none
 |[],_::_,_=>none
 |_::_,[],_=>none
end
section
variable {S : Tab} {r : Type} {ρ ρ' : Rho} {Ps : List (World → Prop)} {m : Nat → Option Nat} {m' : Nat → Nat}
def Ren(m:Nat→Option Nat)(m':Nat→Nat)(ρ ρ':Rho):Prop:=∀j k g,m j=some k→ρ k=some g→ρ' (m' j)=some g
theorem okM_eq{j k:Nat}(h:okM m j k=true):m j=some k:=by
 unfold okM at h
 split at h
 ·rename_i k' hk;rw[hk,Nat.eq_of_beq_eq_true h]
 ·cases h
theorem castD_eq{τ:Nat→Type}{t u:Ty}{x:Dn τ t}{y:Dn τ u}(h:castD x=some y):∃e:t=u,y=e▸x:=by
 unfold castD at h
 split at h
 ·rename_i p _
  obtain rfl:=someI' h
  exact⟨p.down,rfl⟩
 ·cases h
theorem rdC_ok(hm:Ren m m' ρ ρ'):∀{c:PC} {y:Cap S.τ} {x:r} {z:c.T S.τ r},rdC m c y x=some z→(putC m' c z).2=x∧∀v,RelCap S ρ Ps y v→RelCap S ρ' Ps (putC m' c z).1 v
 | .bx j,.bx k,x,z,h=>by
  simp only[rdC] at h
  split at h
  ·rename_i hk
   obtain rfl:=someI' h
   exact⟨rfl,λv ⟨g,h1,h2⟩=>⟨g,hm j k g (okM_eq hk) h1,h2⟩⟩
  ·cases h
 | .ro t,.ro u y,x,z,h=>by
  simp only[rdC] at h
  split at h
  ·rename_i w hw
   obtain rfl:=someI' h
   obtain⟨rfl,rfl⟩:=castD_eq hw
   exact⟨rfl,λv h=>h⟩
  ·cases h
 | .bx _,.ro _ _,_,_,h=>by cases h
 | .ro _,.bx _,_,_,h=>by cases h
theorem rdCs_ok(hm:Ren m m' ρ ρ'):∀{cs:List PC} {ys:List (Cap S.τ)} {x:r} {z:PCsT S.τ cs r},rdCs m cs ys x=some z→(putCs m' cs z).2=x∧∀vs,All2 (RelCap S ρ Ps) ys vs→All2 (RelCap S ρ' Ps) (putCs m' cs z).1 vs
 |[],[],x,z,h=>by obtain rfl:=someI' h;exact⟨rfl,λvs h=>by have:=All2.nil_left h;subst this;trivial⟩
 |c::cs,y::ys,x,z,h=>by
  simp only[rdCs] at h
  split at h
  ·rename_i x' hx
   obtain⟨h1,h2⟩:=rdC_ok (Ps:=Ps) hm h
   obtain⟨h3,h4⟩:=rdCs_ok hm hx
   simp only[putCs]
   rw[h1]
   refine⟨h3,λvs hv=> ?_⟩
   obtain⟨v,vs',rfl,h5,h6⟩:=All2.cons_left hv
   exact⟨h2 _ h5,h4 _ h6⟩
  ·cases h
 |[],_::_,_,_,h=>by cases h
 |_::_,[],_,_,h=>by cases h
theorem rdL_ok(hm:Ren m m' ρ ρ'):∀{p:PL} {l:Lf S.τ} {x:r} {z:p.T S.τ r},rdL m p l x=some z→(putL m' p z).2=x∧∀v,RelLf S ρ Ps l v→RelLf S ρ' Ps (putL m' p z).1 v:=by
 intro p l x z h
 cases p with
 |d t=>
  simp only[rdL] at h
  split at h
  ·rename_i y hy
   obtain rfl:=someI' h
   exact⟨rfl,λv hv=>toD_rel hy hv⟩
  ·cases h
 |ro t=>
  simp only[rdL] at h
  split at h
  ·rename_i u y
   split at h
   ·rename_i w hw
    obtain rfl:=someI' h
    obtain⟨rfl,rfl⟩:=castD_eq hw
    exact⟨rfl,λv h=>h⟩
   ·cases h
  ·cases h
 |fn g cs=>
  simp only[rdL] at h
  split at h
  ·rename_i g' cs'
   split at h
   ·rename_i hg
    obtain rfl:=Nat.eq_of_beq_eq_true hg
    obtain⟨h1,h2⟩:=rdCs_ok (Ps:=Ps) hm h
    exact⟨h1,λv ⟨vs,h3,h4⟩=>⟨vs,h3,h2 _ h4⟩⟩
   ·cases h
  ·cases h
 |own j=>
  simp only[rdL] at h
  split at h
  ·split at h
   ·rename_i hk
    obtain rfl:=someI' h
    exact⟨rfl,λv ⟨g,h1,h2⟩=>⟨g,hm _ _ g (okM_eq hk) h1,h2⟩⟩
   ·cases h
  ·cases h
 |box j o=>
  simp only[rdL] at h
  split at h
  ·split at h
   ·rename_i hk ho
    obtain rfl:=someI' h
    obtain rfl:=Nat.eq_of_beq_eq_true ho
    exact⟨rfl,λv ⟨g,h1,h2⟩=>⟨g,hm _ _ g (okM_eq hk) h1,h2⟩⟩
   ·cases h
  ·cases h
 |map j=>
  simp only[rdL] at h
  split at h
  ·split at h
   ·rename_i hk
    obtain rfl:=someI' h
    exact⟨rfl,λv ⟨g,h1,h2⟩=>⟨g,hm _ _ g (okM_eq hk) h1,h2⟩⟩
   ·cases h
  ·cases h
 |yd j=>
  simp only[rdL] at h
  split at h
  ·split at h
   ·rename_i hk
    obtain rfl:=someI' h
    exact⟨rfl,λv ⟨g,h1,h2⟩=>⟨g,hm _ _ g (okM_eq hk) h1,h2⟩⟩
   ·cases h
  ·cases h
 |vw j sz=>
  simp only[rdL] at h
  split at h
  ·split at h
   ·rename_i hk hs
    obtain rfl:=Nat.eq_of_beq_eq_true hs
    obtain rfl:=someI' h
    exact⟨rfl,λv ⟨g,a,h1,h2⟩=>⟨g,a,hm _ _ g (okM_eq hk) h1,h2⟩⟩
   ·cases h
  ·cases h
 |er=>simp only[rdL] at h;split at h<;>first|(obtain rfl:=someI' h;exact⟨rfl,λv h=>h⟩)|cases h
 |nil=>simp only[rdL] at h;split at h<;>first|(obtain rfl:=someI' h;exact⟨rfl,λv h=>h⟩)|cases h
 |nmap=>simp only[rdL] at h;split at h<;>first|(obtain rfl:=someI' h;exact⟨rfl,λv h=>h⟩)|cases h
 |nptr=>simp only[rdL] at h;split at h<;>first|(obtain rfl:=someI' h;exact⟨rfl,λv h=>h⟩)|cases h
 |nfn=>simp only[rdL] at h;split at h<;>first|(obtain rfl:=someI' h;exact⟨rfl,λv h=>h⟩)|cases h
theorem rdLs_ok(hm:Ren m m' ρ ρ'):∀{ps:List PL} {ls:List (Lf S.τ)} {x:r} {z:PLsT S.τ ps r},rdLs m ps ls x=some z→(putLs m' ps z).2=x∧∀vs,All2 (RelLf S ρ Ps) ls vs→All2 (RelLf S ρ' Ps) (putLs m' ps z).1 vs
 |[],[],x,z,h=>by obtain rfl:=someI' h;exact⟨rfl,λvs h=>by have:=All2.nil_left h;subst this;trivial⟩
 |c::cs,y::ys,x,z,h=>by
  simp only[rdLs] at h
  split at h
  ·rename_i x' hx
   obtain⟨h1,h2⟩:=rdL_ok (Ps:=Ps) hm h
   obtain⟨h3,h4⟩:=rdLs_ok hm hx
   simp only[putLs]
   rw[h1]
   refine⟨h3,λvs hv=> ?_⟩
   obtain⟨v,vs',rfl,h5,h6⟩:=All2.cons_left hv
   exact⟨h2 _ h5,h4 _ h6⟩
  ·cases h
 |[],_::_,_,_,h=>by cases h
 |_::_,[],_,_,h=>by cases h
theorem rdV_ok(ok:TabOk S)(hm:Ren m m' ρ ρ'):∀{p:PV} {l:A1 S.τ} {x:r} {z:p.T S.τ r},rdV S m p l x=some z→(putV S m' p z).2=x∧∀v,RelA1 S ρ Ps l v→RelA1 S ρ' Ps (putV S m' p z).1 v
 | .one p,.one l,x,z,h=>rdL_ok hm h
 | .agg ps,.agg ls,x,z,h=>by
  obtain⟨h1,h2⟩:=rdLs_ok (Ps:=Ps) hm h
  exact⟨h1,λv ⟨vs,h3,h4⟩=>⟨vs,h3,h2 _ h4⟩⟩
 | .st i,.agg ls,x,z,h=>by
  simp only[rdV] at h
  split at h
  ·rename_i hl hh
   obtain rfl:=someI' h
   refine⟨rfl,λv ⟨vs,h3,h4⟩=>⟨vs,h3, ?_⟩⟩
   show All2 (RelLf S ρ' Ps) (hlLf (S.lv i) (S.get i (S.mkS i hl))) vs
   rw[ok.get_mk]
   have hd:∀(ts:List Ty)(h:HL S.τ ts)(vs:List Value),All2 (RelLf S ρ Ps) (hlLf ts h) vs→All2 (RelLf S ρ' Ps) (hlLf ts h) vs:=by
    intro ts
    induction ts with
    |nil=>intro h vs hv;have:=All2.nil_left hv;subst this;trivial
    |cons t ts ih=>
     intro h vs hv
     obtain⟨v,vs',rfl,h5,h6⟩:=All2.cons_left hv
     exact⟨h5,ih _ _ h6⟩
   exact hd _ _ _ (toHL_rel hh h4)
  ·cases h
 | .one _,.agg _,_,_,h=>by cases h
 | .agg _,.one _,_,_,h=>by cases h
 | .st _,.one _,_,_,h=>by cases h
theorem rdVs_ok(ok:TabOk S)(hm:Ren m m' ρ ρ'):∀{ps:List PV} {ls:List (A1 S.τ)} {x:r} {z:PVsT S.τ ps r},rdVs S m ps ls x=some z→(putVs S m' ps z).2=x∧∀vs,All2 (RelA1 S ρ Ps) ls vs→All2 (RelA1 S ρ' Ps) (putVs S m' ps z).1 vs
 |[],[],x,z,h=>by obtain rfl:=someI' h;exact⟨rfl,λvs h=>by have:=All2.nil_left h;subst this;trivial⟩
 |c::cs,y::ys,x,z,h=>by
  simp only[rdVs] at h
  split at h
  ·rename_i x' hx
   obtain⟨h1,h2⟩:=rdV_ok (Ps:=Ps) ok hm h
   obtain⟨h3,h4⟩:=rdVs_ok ok hm hx
   simp only[putVs]
   rw[h1]
   refine⟨h3,λvs hv=> ?_⟩
   obtain⟨v,vs',rfl,h5,h6⟩:=All2.cons_left hv
   exact⟨h2 _ h5,h4 _ h6⟩
  ·cases h
 |[],_::_,_,_,h=>by cases h
 |_::_,[],_,_,h=>by cases h
theorem hl_any:∀(ts:List Ty)(h:HL S.τ ts)(vs:List Value),All2 (RelLf S ρ Ps) (hlLf ts h) vs→All2 (RelLf S ρ' Ps) (hlLf ts h) vs
 |[],h,vs,hv=>by have:=All2.nil_left hv;subst this;trivial
 |t::ts,h,vs,hv=>by
  obtain⟨v,vs',rfl,h5,h6⟩:=All2.cons_left hv
  exact⟨h5,hl_any ts _ _ h6⟩
theorem rdI_ok{P:Program}(ok:TabOk S)(hm:Ren m m' ρ ρ'){j k:Nat}(hjk:∀g,ρ k=some g→ρ' j=some g):∀{p:PI} {l:Item S.τ} {x:r} {z:p.T S.τ r},rdI S m p l x=some z→(putI S m' p z).2=x∧∀A,RelItem S ρ Ps P (k,l) A→RelItem S ρ' Ps P (j,(putI S m' p z).1) A
 | .box ps,.box ls,x,z,h=>by
  obtain⟨h1,h2⟩:=rdLs_ok (Ps:=Ps) hm h
  exact⟨h1,λA ⟨g,vs,h3,h4,h5⟩=>⟨g,vs,hjk _ h3,h4,h2 _ h5⟩⟩
 | .bst i,.box ls,x,z,h=>by
  simp only[rdI] at h
  split at h
  ·rename_i hl hh
   obtain rfl:=someI' h
   refine⟨rfl,λA ⟨g,vs,h3,h4,h5⟩=>⟨g,vs,hjk _ h3,h4, ?_⟩⟩
   show All2 (RelLf S ρ' Ps) (hlLf (S.lv i) (S.get i (S.mkS i hl))) vs
   rw[ok.get_mk]
   exact hl_any _ _ _ (toHL_rel hh h5)
  ·cases h
 | .row e t,.row e' t' l,x,z,h=>by
  simp only[rdI] at h
  split at h
  ·rename_i y he hy
   obtain rfl:=someI' h
   obtain rfl:=Nat.eq_of_beq_eq_true he
   obtain⟨rfl,rfl⟩:=castL_eq hy
   exact⟨rfl,λA ⟨g,cs,h3,h4⟩=>⟨g,cs,hjk _ h3,h4⟩⟩
  ·cases h
 | .map q kt et vt,.map q' kt' et' vt' l,x,z,h=>by
  simp only[rdI] at h
  split at h
  ·rename_i hh h1 h2 h3 h4
   obtain rfl:=someI' h
   obtain rfl:=ikB_eq h1
   obtain rfl:=Nat.eq_of_beq_eq_true h2
   obtain rfl:=Nat.eq_of_beq_eq_true h3
   obtain⟨rfl⟩:=hh
   exact⟨rfl,λA ⟨g,z,E,L,h5,h6⟩=>⟨g,z,E,L,hjk _ h5,h6⟩⟩
  ·cases h
 | .gst,l,x,z,h=>by
  simp only[rdI] at h
  split at h
  ·obtain rfl:=someI' h
   exact⟨rfl,λA ⟨g,h3,h4⟩=>⟨g,hjk _ h3,h4⟩⟩
  ·cases h
 | .dmap kt et ky vt,l,x,z,h=>by
  simp only[rdI] at h
  split at h
  ·split at h
   ·rename_i hk hv h1 h2 _ _
    obtain rfl:=someI' h
    obtain rfl:=Nat.eq_of_beq_eq_true h1
    obtain rfl:=Nat.eq_of_beq_eq_true h2
    obtain⟨rfl⟩:=hk
    obtain⟨rfl⟩:=hv
    exact⟨rfl,λA ⟨g,vs,h5,h6⟩=>⟨g,vs,hjk _ h5,h6⟩⟩
   ·cases h
  ·cases h
 | .mit i q kt et vt,l,x,z,h=>by
  simp only[rdI] at h
  split at h
  ·split at h
   ·rename_i hh h0 h1 h2 h3 h4
    obtain rfl:=someI' h
    obtain rfl:=ikB_eq h1
    obtain rfl:=Nat.eq_of_beq_eq_true h2
    obtain rfl:=Nat.eq_of_beq_eq_true h3
    obtain⟨rfl⟩:=hh
    exact⟨rfl,λA ⟨g,gm,z,E,L,c,h5,h6,h7,h8,h9,h10⟩=>⟨g,gm,z,E,L,c,hjk _ h5,hm _ _ _ (okM_eq h0) h6,h7,h8,h9,nofun⟩⟩
   ·cases h
  ·cases h
 | .deep e t es,l,x,z,h=>by
  simp only[rdI] at h
  split at h
  ·split at h
   ·rename_i y he hes hy
    obtain rfl:=someI' h
    obtain rfl:=Nat.eq_of_beq_eq_true he
    obtain rfl:=esEq_eq hes
    obtain⟨rfl,rfl⟩:=castL_eq hy
    exact⟨rfl,λA ⟨g,c1,c2,F,h3,h4⟩=>⟨g,c1,c2,F,hjk _ h3,h4⟩⟩
   ·cases h
  ·cases h
 | .pdeep e t es,l,x,z,h=>by
  simp only[rdI] at h
  split at h
  ·split at h
   ·rename_i y he hes hy
    obtain rfl:=someI' h
    obtain rfl:=Nat.eq_of_beq_eq_true he
    obtain rfl:=esEq_eq hes
    obtain⟨rfl,rfl⟩:=castL_eq hy
    exact⟨rfl,λA ⟨g,c1,c2,F,h3,h4⟩=>⟨g,c1,c2,F,hjk _ h3,h4⟩⟩
   ·cases h
  ·cases h
 | .shed e t es,l,x,z,h=>by
  simp only[rdI] at h
  split at h
  ·split at h
   ·rename_i y he hes hy
    obtain rfl:=someI' h
    obtain rfl:=Nat.eq_of_beq_eq_true he
    obtain rfl:=esEq_eq hes
    obtain⟨rfl,rfl⟩:=castL_eq hy
    exact⟨rfl,λA ⟨g,c1,c2,F,h3,h4⟩=>⟨g,c1,c2,F,hjk _ h3,h4⟩⟩
   ·cases h
  ·cases h
 | .scr t ex,l,x,z,h=>by
  simp only[rdI] at h
  split at h
  ·split at h
   ·rename_i y he hy
    obtain rfl:=someI' h
    obtain⟨rfl,rfl⟩:=castL_eq hy
    refine⟨rfl,λA ⟨g,F,b,h3,h4,h5,h6⟩=>⟨g,F,b,hjk _ h3,h4,λe=>h5 ?_,h6⟩⟩
    rw[e] at he
    simpa using he
   ·cases h
  ·cases h
 | .box _,.scr _ _ _,_,_,h=>by cases h
 | .bst _,.scr _ _ _,_,_,h=>by cases h
 | .row _ _,.scr _ _ _,_,_,h=>by cases h
 | .map _ _ _ _,.scr _ _ _,_,_,h=>by cases h
 | .opq _ _,.scr _ _ _,_,_,h=>by cases h
 | .box _,.deep _ _ _ _ _,_,_,h=>by cases h
 | .bst _,.deep _ _ _ _ _,_,_,h=>by cases h
 | .row _ _,.deep _ _ _ _ _,_,_,h=>by cases h
 | .map _ _ _ _,.deep _ _ _ _ _,_,_,h=>by cases h
 | .opq _ _,.deep _ _ _ _ _,_,_,h=>by cases h
 | .box _,.shed _ _ _ _ _,_,_,h=>by cases h
 | .bst _,.shed _ _ _ _ _,_,_,h=>by cases h
 | .row _ _,.shed _ _ _ _ _,_,_,h=>by cases h
 | .map _ _ _ _,.shed _ _ _ _ _,_,_,h=>by cases h
 | .opq _ _,.shed _ _ _ _ _,_,_,h=>by cases h
 | .box _,.srest _ _ _ _ _ _,_,_,h=>by cases h
 | .bst _,.srest _ _ _ _ _ _,_,_,h=>by cases h
 | .row _ _,.srest _ _ _ _ _ _,_,_,h=>by cases h
 | .map _ _ _ _,.srest _ _ _ _ _ _,_,_,h=>by cases h
 | .opq _ _,.srest _ _ _ _ _ _,_,_,h=>by cases h
 | .box _,.rest _ _ _ _ _ _ _,_,_,h=>by cases h
 | .bst _,.rest _ _ _ _ _ _ _,_,_,h=>by cases h
 | .row _ _,.rest _ _ _ _ _ _ _,_,_,h=>by cases h
 | .map _ _ _ _,.rest _ _ _ _ _ _ _,_,_,h=>by cases h
 | .opq _ _,.rest _ _ _ _ _ _ _,_,_,h=>by cases h
 | .box _,.row _ _ _,_,_,h=>by cases h
 | .box _,.map _ _ _ _ _,_,_,h=>by cases h
 | .bst _,.row _ _ _,_,_,h=>by cases h
 | .bst _,.map _ _ _ _ _,_,_,h=>by cases h
 | .row _ _,.box _,_,_,h=>by cases h
 | .row _ _,.map _ _ _ _ _,_,_,h=>by cases h
 | .map _ _ _ _,.box _,_,_,h=>by cases h
 | .map _ _ _ _,.row _ _ _,_,_,h=>by cases h
 | .box _,.gst,_,_,h=>by cases h
 | .bst _,.gst,_,_,h=>by cases h
 | .row _ _,.gst,_,_,h=>by cases h
 | .map _ _ _ _,.gst,_,_,h=>by cases h
 | .opq _ _,.gst,_,_,h=>by cases h
 | .box _,.mit _ _ _ _ _ _ _ _,_,_,h=>by cases h
 | .bst _,.mit _ _ _ _ _ _ _ _,_,_,h=>by cases h
 | .row _ _,.mit _ _ _ _ _ _ _ _,_,_,h=>by cases h
 | .map _ _ _ _,.mit _ _ _ _ _ _ _ _,_,_,h=>by cases h
 | .opq _ _,.mit _ _ _ _ _ _ _ _,_,_,h=>by cases h
 | .box _,.cmap _ _ _ _,_,_,h=>by cases h
 | .bst _,.cmap _ _ _ _,_,_,h=>by cases h
 | .row _ _,.cmap _ _ _ _,_,_,h=>by cases h
 | .map _ _ _ _,.cmap _ _ _ _,_,_,h=>by cases h
 | .opq _ _,.cmap _ _ _ _,_,_,h=>by cases h
 | .box _,.lmap _ _ _,_,_,h=>by cases h
 | .bst _,.lmap _ _ _,_,_,h=>by cases h
 | .row _ _,.lmap _ _ _,_,_,h=>by cases h
 | .map _ _ _ _,.lmap _ _ _,_,_,h=>by cases h
 | .opq _ _,.lmap _ _ _,_,_,h=>by cases h
 | .box _,.dmap _ _ _ _ _,_,_,h=>by cases h
 | .bst _,.dmap _ _ _ _ _,_,_,h=>by cases h
 | .row _ _,.dmap _ _ _ _ _,_,_,h=>by cases h
 | .map _ _ _ _,.dmap _ _ _ _ _,_,_,h=>by cases h
 | .opq _ _,.dmap _ _ _ _ _,_,_,h=>by cases h
 | .opq _ _,.box _,_,_,h=>by cases h
 | .opq _ _,.row _ _ _,_,_,h=>by cases h
 | .opq _ _,.map _ _ _ _ _,_,_,h=>by cases h
 | .box _,.opq _ _ _ _ _,_,_,h=>by cases h
 | .bst _,.opq _ _ _ _ _,_,_,h=>by cases h
 | .row _ _,.opq _ _ _ _ _,_,_,h=>by cases h
 | .map _ _ _ _,.opq _ _ _ _ _,_,_,h=>by cases h
 | .opq ys ts,.opq ys' ts' f k z0,x,z,h=>by
  simp only[rdI] at h
  split at h
  ·rename_i h1 h2 _ _
   obtain rfl:=someI' h
   obtain⟨rfl⟩:=h1
   obtain⟨rfl⟩:=h2
   exact⟨rfl,λA ⟨g,F,Pj,h3,h4⟩=>⟨g,F,Pj,hjk _ h3,h4⟩⟩
  ·cases h
def numI{α:Type}(k:Nat):List α→List (Nat×α)
 |[]=>[]
 |x::xs=>(k,x)::numI (k+1) xs
theorem rdIs_ok{P:Program}(ok:TabOk S)(hm:Ren m m' ρ ρ'):∀{ps:List PI} {ls:List (Nat×Item S.τ)} {x:r} {z:PIsT S.τ ps r} {i:Nat},rdIs S m ps (ls.map (·.2)) x=some z→(∀q k,(ls[q]?).map (·.1)=some k→∀g,ρ k=some g→ρ' (i+q)=some g)→
  (putIs S m' ps z).2=x∧∀As,All2 (RelItem S ρ Ps P) ls As→All2 (RelItem S ρ' Ps P) (numI i (putIs S m' ps z).1) As
 |[],[],x,z,i,h,_=>by obtain rfl:=someI' h;exact⟨rfl,λvs h=>by have:=All2.nil_left h;subst this;trivial⟩
 |c::cs,(k,y)::ys,x,z,i,h,hk=>by
  simp only[List.map_cons,rdIs] at h
  split at h
  ·rename_i x' hx
   obtain⟨h1,h2⟩:=rdI_ok (Ps:=Ps) (P:=P) ok hm (j:=i) (k:=k) (hk 0 k rfl) h
   obtain⟨h3,h4⟩:=rdIs_ok (i:=i+1) ok hm hx λq k' hq g hg=>by
    have:=hk (q+1) k' (by simpa using hq) g hg
    rwa[show i+(q+1)=i+1+q from by omega] at this
   simp only[putIs]
   rw[h1]
   refine⟨h3,λvs hv=> ?_⟩
   obtain⟨v,vs',rfl,h5,h6⟩:=All2.cons_left hv
   exact⟨h2 _ h5,h4 _ h6⟩
  ·cases h
 |[],(_,_)::_,_,_,_,h,_=>by cases h
 |_::_,[],_,_,_,h,_=>by cases h
section
variable {m1 m2 : Nat → Nat}
def Ren2(m1 m2:Nat→Nat)(ρ ρ':Rho):Prop:=∀j g,ρ (m1 j)=some g→ρ' (m2 j)=some g
theorem putC_ren(hm:Ren2 m1 m2 ρ ρ'):∀{c:PC} {z:c.T S.τ r},(putC (τ:=S.τ) m1 c z).2=(putC (τ:=S.τ) m2 c z).2∧∀v,RelCap S ρ Ps (putC m1 c z).1 v→RelCap S ρ' Ps (putC m2 c z).1 v
 | .bx j,z=>⟨rfl,λv ⟨g,h1,h2⟩=>⟨g,hm j g h1,h2⟩⟩
 | .ro t,z=>⟨rfl,λv h=>h⟩
theorem putCs_ren(hm:Ren2 m1 m2 ρ ρ'):∀{cs:List PC} {z:PCsT S.τ cs r},(putCs (τ:=S.τ) m1 cs z).2=(putCs (τ:=S.τ) m2 cs z).2∧∀vs,All2 (RelCap S ρ Ps) (putCs m1 cs z).1 vs→All2 (RelCap S ρ' Ps) (putCs m2 cs z).1 vs
 |[],z=>⟨rfl,λvs h=>by have:=All2.nil_left h;subst this;trivial⟩
 |c::cs,z=>by
  obtain⟨h1,h2⟩:=putC_ren (Ps:=Ps) hm (c:=c) (z:=z)
  obtain⟨h3,h4⟩:=putCs_ren hm (cs:=cs) (z:=(putC (τ:=S.τ) m1 c z).2)
  simp only[putCs]
  rw[←h1]
  refine⟨h3,λvs hv=> ?_⟩
  obtain⟨v,vs',rfl,h5,h6⟩:=All2.cons_left hv
  exact⟨h2 _ h5,h4 _ h6⟩
theorem putL_ren(hm:Ren2 m1 m2 ρ ρ'):∀{p:PL} {z:p.T S.τ r},(putL (τ:=S.τ) m1 p z).2=(putL (τ:=S.τ) m2 p z).2∧∀v,RelLf S ρ Ps (putL m1 p z).1 v→RelLf S ρ' Ps (putL m2 p z).1 v
 | .d t,z=>⟨rfl,λv h=>h⟩
 | .ro t,z=>⟨rfl,λv h=>h⟩
 | .fn g cs,z=>by
  obtain⟨h1,h2⟩:=putCs_ren (Ps:=Ps) hm (cs:=cs) (z:=z)
  exact⟨h1,λv ⟨vs,h3,h4⟩=>⟨vs,h3,h2 _ h4⟩⟩
 | .own j,z=>⟨rfl,λv ⟨g,h1,h2⟩=>⟨g,hm j g h1,h2⟩⟩
 | .box j o,z=>⟨rfl,λv ⟨g,h1,h2⟩=>⟨g,hm j g h1,h2⟩⟩
 | .map j,z=>⟨rfl,λv ⟨g,h1,h2⟩=>⟨g,hm j g h1,h2⟩⟩
 | .yd j,z=>⟨rfl,λv ⟨g,h1,h2⟩=>⟨g,hm j g h1,h2⟩⟩
 | .vw j sz,z=>⟨rfl,λv ⟨g,a,h1,h2⟩=>⟨g,a,hm j g h1,h2⟩⟩
 | .er,z=>⟨rfl,λv h=>h⟩
 | .nil,z=>⟨rfl,λv h=>h⟩
 | .nmap,z=>⟨rfl,λv h=>h⟩
 | .nptr,z=>⟨rfl,λv h=>h⟩
 | .nfn,z=>⟨rfl,λv h=>h⟩
theorem putLs_ren(hm:Ren2 m1 m2 ρ ρ'):∀{cs:List PL} {z:PLsT S.τ cs r},(putLs (τ:=S.τ) m1 cs z).2=(putLs (τ:=S.τ) m2 cs z).2∧∀vs,All2 (RelLf S ρ Ps) (putLs m1 cs z).1 vs→All2 (RelLf S ρ' Ps) (putLs m2 cs z).1 vs
 |[],z=>⟨rfl,λvs h=>by have:=All2.nil_left h;subst this;trivial⟩
 |c::cs,z=>by
  obtain⟨h1,h2⟩:=putL_ren (Ps:=Ps) hm (p:=c) (z:=z)
  obtain⟨h3,h4⟩:=putLs_ren hm (cs:=cs) (z:=(putL (τ:=S.τ) m1 c z).2)
  simp only[putLs]
  rw[←h1]
  refine⟨h3,λvs hv=> ?_⟩
  obtain⟨v,vs',rfl,h5,h6⟩:=All2.cons_left hv
  exact⟨h2 _ h5,h4 _ h6⟩
theorem putV_ren(hm:Ren2 m1 m2 ρ ρ'):∀{p:PV} {z:p.T S.τ r},(putV S m1 p z).2=(putV S m2 p z).2∧∀v,RelA1 S ρ Ps (putV S m1 p z).1 v→RelA1 S ρ' Ps (putV S m2 p z).1 v
 | .one p,z=>putL_ren hm (p:=p) (z:=z)
 | .agg ps,z=>by
  obtain⟨h1,h2⟩:=putLs_ren (Ps:=Ps) hm (cs:=ps) (z:=z)
  exact⟨h1,λv ⟨vs,h3,h4⟩=>⟨vs,h3,h2 _ h4⟩⟩
 | .st i,z=>⟨rfl,λv ⟨vs,h3,h4⟩=>⟨vs,h3,hl_any _ _ _ h4⟩⟩
theorem putVs_ren(hm:Ren2 m1 m2 ρ ρ'):∀{cs:List PV} {z:PVsT S.τ cs r},(putVs S m1 cs z).2=(putVs S m2 cs z).2∧∀vs,All2 (RelA1 S ρ Ps) (putVs S m1 cs z).1 vs→All2 (RelA1 S ρ' Ps) (putVs S m2 cs z).1 vs
 |[],z=>⟨rfl,λvs h=>by have:=All2.nil_left h;subst this;trivial⟩
 |c::cs,z=>by
  obtain⟨h1,h2⟩:=putV_ren (Ps:=Ps) hm (p:=c) (z:=z)
  obtain⟨h3,h4⟩:=putVs_ren hm (cs:=cs) (z:=(putV S m1 c z).2)
  simp only[putVs]
  rw[←h1]
  refine⟨h3,λvs hv=> ?_⟩
  obtain⟨v,vs',rfl,h5,h6⟩:=All2.cons_left hv
  exact⟨h2 _ h5,h4 _ h6⟩
theorem putI_ren{P:Program}(hm:Ren2 m1 m2 ρ ρ'){j k:Nat}(hjk:∀g,ρ k=some g→ρ' j=some g):∀{p:PI} {z:p.T S.τ r},(putI S m1 p z).2=(putI S m2 p z).2∧∀A,RelItem S ρ Ps P (k,(putI S m1 p z).1) A→RelItem S ρ' Ps P (j,(putI S m2 p z).1) A
 | .box ps,z=>by
  obtain⟨h1,h2⟩:=putLs_ren (Ps:=Ps) hm (cs:=ps) (z:=z)
  exact⟨h1,λA ⟨g,vs,h3,h4,h5⟩=>⟨g,vs,hjk _ h3,h4,h2 _ h5⟩⟩
 | .bst i,z=>⟨rfl,λA ⟨g,vs,h3,h4,h5⟩=>⟨g,vs,hjk _ h3,h4,hl_any _ _ _ h5⟩⟩
 | .row e t,z=>⟨rfl,λA ⟨g,cs,h3,h4⟩=>⟨g,cs,hjk _ h3,h4⟩⟩
 | .map q kt et vt,z=>⟨rfl,λA ⟨g,z,E,L,h5,h6⟩=>⟨g,z,E,L,hjk _ h5,h6⟩⟩
 | .opq ys ts,z=>⟨rfl,λA ⟨g,F,Pj,h3,h4⟩=>⟨g,F,Pj,hjk _ h3,h4⟩⟩
 | .gst,z=>⟨rfl,λA ⟨g,h3,h4⟩=>⟨g,hjk _ h3,h4⟩⟩
 | .dmap kt et ky vt,z=>⟨rfl,λA ⟨g,vs,h3,h4⟩=>⟨g,vs,hjk _ h3,h4⟩⟩
 | .mit i q kt et vt,z=>⟨rfl,λA ⟨g,gm,z,E,L,c,h5,h6,h7⟩=>⟨g,gm,z,E,L,c,hjk _ h5,hm _ _ h6,h7⟩⟩
 | .deep e t es,z=>⟨rfl,λA ⟨g,c1,c2,F,h3,h4⟩=>⟨g,c1,c2,F,hjk _ h3,h4⟩⟩
 | .pdeep e t es,z=>⟨rfl,λA ⟨g,c1,c2,F,h3,h4⟩=>⟨g,c1,c2,F,hjk _ h3,h4⟩⟩
 | .shed e t es,z=>⟨rfl,λA ⟨g,c1,c2,F,h3,h4⟩=>⟨g,c1,c2,F,hjk _ h3,h4⟩⟩
 | .scr t ex,z=>⟨rfl,λA ⟨g,F,b,h3,h4⟩=>⟨g,F,b,hjk _ h3,h4⟩⟩
def zipI{α:Type}:List Nat→List α→List (Nat×α)
 |k::ks,x::xs=>(k,x)::zipI ks xs
 |_,_=>[]
theorem putIs_ren{P:Program}(hm:Ren2 m1 m2 ρ ρ'):∀{ps:List PI} {z:PIsT S.τ ps r} {i:Nat} {ks:List Nat},ks.length=ps.length→(∀q k,ks[q]? =some k→∀g,ρ (i+q)=some g→ρ' k=some g)→
  (putIs S m1 ps z).2=(putIs S m2 ps z).2∧∀As,All2 (RelItem S ρ Ps P) (numI i (putIs S m1 ps z).1) As→All2 (RelItem S ρ' Ps P) (zipI ks (putIs S m2 ps z).1) As
 |[],z,i,ks,hl,hk=>by
  have:ks=[]:=List.eq_nil_of_length_eq_zero hl
  subst this
  exact⟨rfl,λvs h=>by have:=All2.nil_left h;subst this;trivial⟩
 |c::cs,z,i,[],hl,hk=>by simp at hl
 |c::cs,z,i,k::ks,hl,hk=>by
  obtain⟨h1,h2⟩:=putI_ren (Ps:=Ps) (P:=P) hm (j:=k) (k:=i) (λg hg=>hk 0 k rfl g (by simpa using hg)) (p:=c) (z:=z)
  obtain⟨h3,h4⟩:=putIs_ren hm (ps:=cs) (z:=(putI S m1 c z).2) (i:=i+1) (ks:=ks) (by simpa using hl) λq k' hq g hg=>hk (q+1) k' (by simpa using hq) g (by rwa[show i+(q+1)=i+1+q from by omega])
  simp only[putIs]
  rw[←h1]
  refine⟨h3,λvs hv=> ?_⟩
  obtain⟨v,vs',rfl,h5,h6⟩:=All2.cons_left hv
  exact⟨h2 _ h5,h4 _ h6⟩
end
end
end Go.Bur
