import Derived.Test.YtchocpffjnodfaaGreatDr
namespace Go.Bur
open Go.RowKit
set_option linter.unusedVariables false
set_option linter.unusedSimpArgs false
structure Pt where
 vs:List (Nat×PV)
 is:List PI
 og:Mp
@[reducible] def Pt.T(p:Pt)(τ:Nat→Type):Type:=PVsT τ (p.vs.map (·.2)) (PIsT τ p.is Unit)
def zipE{τ:Nat→Type}:List (Nat×PV)→List (A1 τ)→List (Nat×AV τ)
 |p::ps,x::xs=>(p.1,.v x)::zipE ps xs
 |_,_=>[]
def putS(S:Tab)(p:Pt)(x:p.T S.τ):ASt S.τ:=
 ⟨p.is.length,zipE p.vs (putVs S (λj=>j) (p.vs.map (·.2)) x).1,numI 0 (putIs S (λj=>j) p.is (putVs S (λj=>j) (p.vs.map (·.2)) x).2).1,p.og⟩
def slotsOf{τ:Nat→Type}(env:List (Nat×AV τ)):List (Nat×PV)→Option (List (A1 τ))
 |[]=>some []
 |p::ps=>match look env p.1,slotsOf env ps with
  |some (.v x),some xs=>some (x::xs)
  |_,_=>none
def ogOk(org:Mp)(ks:List Nat):Mp→Bool
 |[]=>true
 |(i,j)::r=>(match mpGet org i,ks[j]? with
  |some k,some k'=>Nat.beq k k'
  |_,_=>false)&&ogOk org ks r
def rdS(S:Tab)(p:Pt)(s:ASt S.τ):Option (p.T S.τ):=match slotsOf s.env p.vs with
 |some as=>match rdA S [] (p.vs.map (·.2)) p.is s as with
  |some (x,ks)=>match ogOk s.org ks p.og with
   |true=>some x
   |false=>none
  |none=>none
 |none=>none
section
variable {P : Program} {S : Tab} {C : Cy} {N : Nat} {s : ASt S.τ} {a : Act} {w : World}
theorem slotsOf_rel{ρ:Rho}{Ps:List (World→Prop)}(h:∀t x,look s.env t=some x→RelAV S ρ Ps x (a.tmps.getD t undef)):∀{ps:List (Nat×PV)} {as:List (A1 S.τ)},slotsOf s.env ps=some as→All2 (RelA1 S ρ Ps) as (ps.map λp=>a.tmps.getD p.1 undef)
 |[],as,hh=>by obtain rfl:=someI' hh;trivial
 |p::ps,as,hh=>by
  simp only[slotsOf] at hh
  split at hh
  ·rename_i x xs h1 h2
   obtain rfl:=someI' hh
   exact⟨h _ _ h1,slotsOf_rel h h2⟩
  ·cases hh
theorem zipE_rel{ρ:Rho}{Ps:List (World→Prop)}:∀{ps:List (Nat×PV)} {xs:List (A1 S.τ)},All2 (RelA1 S ρ Ps) xs (ps.map λp=>a.tmps.getD p.1 undef)→∀t x,look (zipE ps xs) t=some x→RelAV S ρ Ps x (a.tmps.getD t undef)
 |[],xs,h,t,x,hx=>by cases xs<;>cases hx
 |p::ps,[],h,t,x,hx=>by cases hx
 |p::ps,y::xs,h,t,x,hx=>by
  simp only[zipE,look] at hx
  split at hx
  ·rename_i hb
   obtain rfl:=someI' hx
   rw[←Nat.eq_of_beq_eq_true hb]
   exact h.1
  ·exact zipE_rel h.2 t x hx
theorem ogOk_get{org:Mp}{ks:List Nat}:∀{og:Mp},ogOk org ks og=true→∀i j,mpGet og i=some j→∃k,mpGet org i=some k∧ks[j]? =some k
 |[],_,i,j,h=>by cases h
 |(i0,j0)::r,hh,i,j,h=>by
  simp only[ogOk,Bool.and_eq_true] at hh
  obtain⟨h1,h2⟩:=hh
  simp only[mpGet] at h
  split at h
  ·rename_i hb
   obtain rfl:=Nat.eq_of_beq_eq_true hb
   obtain rfl:=someI' h
   split at h1
   ·rename_i k k' e1 e2
    exact⟨k,e1,by rw[e2,Nat.eq_of_beq_eq_true h1]⟩
   ·cases h1
  ·exact ogOk_get h2 i j h
theorem rdS_hold(ok:TabOk S){p:Pt}{x:p.T S.τ}(hrd:rdS S p s=some x)(h:Hold P S C N s a w):Hold P S C N (putS S p x) a w:=by
 obtain⟨ρ,As,Ps,h⟩:=h
 unfold rdS at hrd
 split at hrd
 ·rename_i as has
  split at hrd
  ·rename_i y ks hra
   split at hrd
   ·rename_i hog
    obtain rfl:=someI' hrd
    obtain⟨ρ2,As2,Ps2,h1,h2,h3,h4,h5,h6⟩:=rdA_ok (P:=P) (C:=C) (w:=w) ok hra ⟨h.st,h.keep,h.old,slotsOf_rel h.env has,h.its,h.dom,h.org⟩
    refine⟨ρ2,As2,Ps2,h1,h.keep,h2,h.size,h.dfr,zipE_rel h3,h4,h5,λi j g hi hg=> ?_⟩
    obtain⟨k,e1,e2⟩:=ogOk_get hog i j hi
    exact h6 i k j g e1 e2 hg
   ·cases hrd
  ·cases hrd
 ·cases hrd
end
def ogRes(ks:List Nat)(org:Mp):Nat→List (Option Nat×PI)→Bool
 |_,[]=>true
 |r,(some j,_)::rest=>(match mpGet org j,ks[r]? with
  |some k,some k'=>Nat.beq k k'
  |_,_=>false)&&ogRes ks org (r+1) rest
 |r,(none,_)::rest=>ogRes ks org (r+1) rest
def seedRi(org:Mp):Nat→List (Option Nat×PI)→Mp
 |_,[]=>[]
 |r,(some j,_)::rest=>match mpGet org j with
  |some k=>(r,k)::seedRi org (r+1) rest
  |none=>seedRi org (r+1) rest
 |r,(none,_)::rest=>seedRi org (r+1) rest
def idMp:Nat→Nat→Mp
 |_,0=>[]
 |k,n+1=>(k,k)::idMp (k+1) n
theorem idMp_get:∀{n k i j:Nat},mpGet (idMp k n) i=some j→i=j
 |0,k,i,j,h=>by cases h
 |n+1,k,i,j,h=>by
  simp only[idMp,mpGet] at h
  split at h
  ·rename_i hb
   rw[←Nat.eq_of_beq_eq_true hb]
   exact someI' h
  ·exact idMp_get h
theorem ogRes_get{ks:List Nat}{org:Mp}:∀{ri:List (Option Nat×PI)} {r:Nat},ogRes ks org r ri=true→∀q j p,ri[q]? =some (some j,p)→∃k,mpGet org j=some k∧ks[r+q]? =some k
 |[],r,_,q,j,p,h=>by simp at h
 |(some j0,p0)::rest,r,hh,q,j,p,h=>by
  simp only[ogRes,Bool.and_eq_true] at hh
  cases q with
  |zero=>
   simp only[List.getElem?_cons_zero,Option.some.injEq,Prod.mk.injEq] at h
   obtain⟨rfl,rfl⟩:=h
   have h1:=hh.1
   split at h1
   ·rename_i k k' e1 e2
    exact⟨k,e1,by rw[Nat.add_zero,e2,Nat.eq_of_beq_eq_true h1]⟩
   ·cases h1
  |succ q=>
   obtain⟨k,e1,e2⟩:=ogRes_get hh.2 q j p (by simpa using h)
   exact⟨k,e1,by rw[←e2];congr 1;omega⟩
 |(none,p0)::rest,r,hh,q,j,p,h=>by
  simp only[ogRes] at hh
  cases q with
  |zero=>simp at h
  |succ q=>
   obtain⟨k,e1,e2⟩:=ogRes_get hh q j p (by simpa using h)
   exact⟨k,e1,by rw[←e2];congr 1;omega⟩
section
variable {τ : Nat → Type}
def tyC:PC→List Ty→List Ty
 | .bx _,us=>us
 | .ro t,us=>t::us
def tyCs:List PC→List Ty→List Ty
 |[],us=>us
 |c::cs,us=>tyC c (tyCs cs us)
def tyL:PL→List Ty→List Ty
 | .d t,us=>t::us
 | .ro t,us=>t::us
 | .fn _ cs,us=>tyCs cs us
 | .vw _ _,us=> .int .i64::us
 | .er,us=> .bool::us
 |_,us=>us
def tyLs:List PL→List Ty→List Ty
 |[],us=>us
 |p::ps,us=>tyL p (tyLs ps us)
def tyI:PI→List Ty→List Ty
 | .box ps,us=>tyLs ps us
 | .bst i,us=> .st i::us
 | .row _ t,us=> .sl t::us
 | .map _ _ _ vt,us=> .mp vt::us
 |_,us=>us
def tyIs:List PI→List Ty→List Ty
 |[],us=>us
 |p::ps,us=>tyI p (tyIs ps us)
variable {r : Type} {us : List Ty}
def pkC(c:PC)(k:r→HL τ us):c.T τ r→HL τ (tyC c us):=match c with
 | .bx _=>k
 | .ro _=>λx=>(x.1,k x.2)
def upC(c:PC)(k:HL τ us→r):HL τ (tyC c us)→c.T τ r:=match c with
 | .bx _=>k
 | .ro _=>λx=>(x.1,k x.2)
def pkCs:(cs:List PC)→(r→HL τ us)→PCsT τ cs r→HL τ (tyCs cs us)
 |[],k=>k
 |c::cs,k=>pkC c (pkCs cs k)
def upCs:(cs:List PC)→(HL τ us→r)→HL τ (tyCs cs us)→PCsT τ cs r
 |[],k=>k
 |c::cs,k=>upC c (upCs cs k)
def pkL(p:PL)(k:r→HL τ us):p.T τ r→HL τ (tyL p us):=match p with
 | .d _=>λx=>(x.1,k x.2)
 | .ro _=>λx=>(x.1,k x.2)
 | .fn _ cs=>pkCs cs k
 | .own _=>k
 | .box _ _=>k
 | .map _=>k
 | .yd _=>k
 | .vw _ _=>λx=>(x.1,k x.2)
 | .er=>λx=>(x.1,k x.2)
 | .nil=>k
 | .nmap=>k
 | .nptr=>k
 | .nfn=>k
def upL(p:PL)(k:HL τ us→r):HL τ (tyL p us)→p.T τ r:=match p with
 | .d _=>λx=>(x.1,k x.2)
 | .ro _=>λx=>(x.1,k x.2)
 | .fn _ cs=>upCs cs k
 | .own _=>k
 | .box _ _=>k
 | .map _=>k
 | .yd _=>k
 | .vw _ _=>λx=>(x.1,k x.2)
 | .er=>λx=>(x.1,k x.2)
 | .nil=>k
 | .nmap=>k
 | .nptr=>k
 | .nfn=>k
def pkLs:(ps:List PL)→(r→HL τ us)→PLsT τ ps r→HL τ (tyLs ps us)
 |[],k=>k
 |p::ps,k=>pkL p (pkLs ps k)
def upLs:(ps:List PL)→(HL τ us→r)→HL τ (tyLs ps us)→PLsT τ ps r
 |[],k=>k
 |p::ps,k=>upL p (upLs ps k)
def okI:PI→Bool
 | .box _=>true
 | .bst _=>true
 | .row _ _=>true
 | .map _ _ _ _=>true
 | .gst=>true
 |_=>false
def pkI(p:PI)(k:r→HL τ us):p.T τ r→HL τ (tyI p us):=match p with
 | .box ps=>pkLs ps k
 | .bst _=>λx=>(x.1,k x.2)
 | .row _ _=>λx=>(x.1,k x.2)
 | .map _ _ _ _=>λx=>(x.1,k x.2)
 | .gst=>k
 | .mit _ _ _ _ _=>λx=>k x.2.2
 | .dmap _ _ _ _=>λx=>k x.2
 | .opq _ _=>λx=>k x.2.2.2
 | .deep _ _ _=>λx=>k x.2
 | .pdeep _ _ _=>λx=>k x.2.2
 | .shed _ _ _=>λx=>k x.2.2
 | .scr _ _=>λx=>k x.2
def upI(p:PI)(hp:okI p=true)(k:HL τ us→r):HL τ (tyI p us)→p.T τ r:=match p,hp with
 | .box ps,_=>upLs ps k
 | .bst _,_=>λx=>(x.1,k x.2)
 | .row _ _,_=>λx=>(x.1,k x.2)
 | .map _ _ _ _,_=>λx=>(x.1,k x.2)
 | .gst,_=>k
def pkIs:(ps:List PI)→(r→HL τ us)→PIsT τ ps r→HL τ (tyIs ps us)
 |[],k=>k
 |p::ps,k=>pkI p (pkIs ps k)
def okIs:List PI→Bool
 |[]=>true
 |p::ps=>okI p&&okIs ps
def upIs:(ps:List PI)→okIs ps=true→(HL τ us→r)→HL τ (tyIs ps us)→PIsT τ ps r
 |[],_,k=>k
 |p::ps,h,k=>upI p (by simp only[okIs,Bool.and_eq_true] at h;exact h.1) (upIs ps (by simp only[okIs,Bool.and_eq_true] at h;exact h.2) k)
variable {k : r → HL τ us} {k' : HL τ us → r}
theorem up_pkC(c:PC)(h:∀x,k' (k x)=x):∀x,upC (τ:=τ) c k' (pkC c k x)=x:=λx=>by
 cases c with
 |bx _=>exact h x
 |ro _=>exact congrArg (Prod.mk x.1) (h x.2)
theorem up_pkCs:∀(cs:List PC){k:r→HL τ us}{k':HL τ us→r}(h:∀x,k' (k x)=x),∀x,upCs (τ:=τ) cs k' (pkCs cs k x)=x
 |[],_,_,h=>h
 |c::cs,_,_,h=>up_pkC c (up_pkCs cs h)
theorem up_pkL(p:PL)(h:∀x,k' (k x)=x):∀x,upL (τ:=τ) p k' (pkL p k x)=x:=λx=>by
 cases p with
 |d _=>exact congrArg (Prod.mk x.1) (h x.2)
 |ro _=>exact congrArg (Prod.mk x.1) (h x.2)
 |fn _ cs=>exact up_pkCs cs h x
 |own _=>exact h x
 |box _ _=>exact h x
 |map _=>exact h x
 |yd _=>exact h x
 |vw _ _=>exact congrArg (Prod.mk x.1) (h x.2)
 |er=>exact congrArg (Prod.mk x.1) (h x.2)
 |nil=>exact h x
 |nmap=>exact h x
 |nptr=>exact h x
 |nfn=>exact h x
theorem up_pkLs:∀(ps:List PL){k:r→HL τ us}{k':HL τ us→r}(h:∀x,k' (k x)=x),∀x,upLs (τ:=τ) ps k' (pkLs ps k x)=x
 |[],_,_,h=>h
 |p::ps,_,_,h=>up_pkL p (up_pkLs ps h)
theorem up_pkI(p:PI)(hp:okI p=true)(h:∀x,k' (k x)=x):∀x,upI (τ:=τ) p hp k' (pkI p k x)=x:=λx=>by
 cases p with
 |box ps=>exact up_pkLs ps h x
 |bst _=>exact congrArg (Prod.mk x.1) (h x.2)
 |row _ _=>exact congrArg (Prod.mk x.1) (h x.2)
 |map _ _ _ _=>exact congrArg (Prod.mk x.1) (h x.2)
 |gst=>exact h x
 |mit _ _ _ _ _=>cases hp
 |dmap _ _ _ _=>cases hp
 |opq _ _=>cases hp
 |deep _ _ _=>cases hp
 |pdeep _ _ _=>cases hp
 |shed _ _ _=>cases hp
 |scr _ _=>cases hp
theorem up_pkIs:∀(ps:List PI)(hp:okIs ps=true){k:r→HL τ us}{k':HL τ us→r}(h:∀x,k' (k x)=x),∀x,upIs (τ:=τ) ps hp k' (pkIs ps k x)=x
 |[],_,_,_,h=>h
 |p::ps,hp,_,_,h=>up_pkI p _ (up_pkIs ps _ h)
end
structure Ref(C C1:Cy):Prop where
 r0:C1.r0=C.r0
 keep:Keep C.F C.w0 C1.w0
 F:∀b∈C1.F,b∈C.F∨C.w0.heap.size≤b
 R:∃X,C1.R=X++C.R
theorem Ref.refl(C:Cy):Ref C C:=⟨rfl,Keep.refl _ _,λ_ h=> .inl h,[],rfl⟩
theorem St.lessR{X R:List Nat}{w:World}{As:List Asn}{Ps:List (World→Prop)}(h:St (X++R) w As Ps):St R w As Ps:=by
 refine⟨h.own,λb hb=>h.lt b ?_, ?_,λp hp=>(h.per p hp).weak λb hb=> .inl ?_,λp hp=>(h.gl p hp).weak λb hb=> .inl (by rw[List.append_assoc];exact List.mem_append_right _ hb)⟩
 ·rw[List.append_assoc];exact List.mem_append_right _ hb
 ·have:=h.nd;rw[List.append_assoc] at this;exact(List.nodup_append.1 this).2.1
 ·rw[List.append_assoc];exact List.mem_append_right _ hb
theorem St.other{R G:List Nat}{w w':World}{As:List Asn}{Ps:List (World→Prop)}(h:St R w As Ps)(hk:Keep G w w')(hG:∀b∈G,b∈R):St R w' As Ps:=by
 have hnd:=List.nodup_append.1 h.nd
 refine⟨λA hA=>h.own_keep hk hA λb hb hg=>hnd.2.2 b (hG b hg) b (mem_fps.2 ⟨A,hA,hb⟩) rfl,λb hb=>Nat.lt_of_lt_of_le (h.lt b hb) hk.size,h.nd,λp hp=>(h.per p hp).step hk (λx hx=> .inl (List.mem_append_left _ (hG x hx))) λx hx=> .inl hx,λp hp=>(h.gl p hp).step hk (λx hx=> .inl (List.mem_append_left _ (hG x hx))) λx hx=> .inl hx⟩
section
variable {P : Program} {S : Tab} {C C1 : Cy} {N : Nat} {s : ASt S.τ} {a : Act} {w w' : World}
theorem Ref.old(h:Ref C C1){b:Nat}(hb:b∈C1.F∨C1.w0.heap.size≤b):b∈C.F∨C.w0.heap.size≤b:=by
 rcases hb with hb|hb
 ·exact h.F b hb
 ·exact .inr (Nat.le_trans h.keep.size hb)
theorem Ref.keep'(h:Ref C C1)(k:Keep C1.F C1.w0 w):Keep C.F C.w0 w:=h.keep.step k h.F
theorem Ref.hold(h:Ref C C1)(hH:Hold P S C1 N s a w):Hold P S C N s a w:=by
 obtain⟨ρ,As,Ps,hH⟩:=hH
 obtain⟨X,hX⟩:=h.R
 exact⟨ρ,As,Ps,St.lessR (X:=X) (hX▸hH.st),h.keep' hH.keep,λb hb=>h.old (hH.old b hb),hH.size,hH.dfr,hH.env,hH.its,hH.dom,λi k g h1 h2=>hH.org i k g h1 (by rw[h.r0];exact h2)⟩
def mks(D:List Nat):List Deferred:=D.map λr=>{target:= .collected r,args:= #[]}
structure Mk(D:List Nat)(C C1:Cy):Prop where
 all:∀d∈D,C1.w0.heap[d]? =some (.deferred (some []))∧d∈C1.R∧C.w0.heap.size≤d∧d∉C1.F
 nd:D.Nodup
theorem Mk.nil(C C1:Cy):Mk [] C C1:=⟨by simp,List.nodup_nil⟩
def HoldD(P:Program)(S:Tab)(C:Cy)(N:Nat)(D:List Nat)(s:ASt S.τ)(a:Act)(w:World):Prop:=∃C1,Ref C C1∧Mk D C C1∧Hold P S C1 N s a w
theorem HoldD.start(h:Hold P S C N s a w):HoldD P S C N [] s a w:=⟨C,Ref.refl C,Mk.nil _ _,h⟩
theorem HoldD.hold{D:List Nat}(h:HoldD P S C N D s a w):Hold P S C N s a w:=by
 obtain⟨C1,h1,_,h2⟩:=h
 exact h1.hold h2
theorem heap_lt{d:Nat}{o:Obj}(h:w.heap[d]? =some o):d<w.heap.size:=(Array.getElem?_eq_some_iff.1 h).1
def lendS(S:Tab)(t:Nat)(pl:PL)(s:ASt S.τ):Option (ASt S.τ):=match look s.env t with
 |some (.v (.one l))=>match lendL S (lookI s.its) pl l with
  |some (l',us)=>match itsOf (lookI s.its) (ddN us) with
   |some _=>some ⟨s.nx,(t,.v (.one l'))::s.env,erN (ddN us) s.its,s.org⟩
   |none=>none
  |none=>none
 |_=>none
theorem ddN_nd:∀(l:List Nat),(ddN l).Nodup
 |[]=>List.nodup_nil
 |x::r=>by
  simp only[ddN]
  cases h:memN r x with
  |true=>exact ddN_nd r
  |false=>exact List.nodup_cons.2 ⟨λhm=>(by rw[memN_iff.2 (memN_dd.1 hm)] at h;cases h),ddN_nd r⟩
theorem lendS_hold(ok:TabOk S){t:Nat}{pl:PL}{s1:ASt S.τ}(h:lendS S t pl s=some s1)(hH:Hold P S C N s a w):Hold P S C N s1 a w:=by
 obtain⟨ρ,As,Ps,hH⟩:=hH
 unfold lendS at h
 split at h
 ·rename_i l hl
  split at h
  ·rename_i l' us hlend
   split at h
   ·rename_i xs hxs
    obtain rfl:=someI' h
    obtain⟨tk,e1,e2,e3⟩:=pull_perm (ddN_nd us) hxs
    obtain⟨As',hp,hA⟩:=All2.perm e3 hH.its
    obtain⟨Au,Ar,rfl,hAu,hAr⟩:=All2.split hA
    have hst:=hH.st.perm hp
    have hst':St C.R w Ar Ps:=(hst.perm (List.perm_append_comm (l₁:=Au))).sub (Qs:=Ps) λ_ h=>h
    have hnd:=hst.nd
    rw[fps_append] at hnd
    have hF:∀p∈Ps,Bx (C.R++fps Ar) w p:=hst'.per
    have hlent:Lent P S ρ Ps (lookI s.its) (C.R++fps Ar) w us:=λq hq=>by
     have hq':q∈tk.map (·.1):=by rw[e1];exact memN_dd.2 hq
     obtain⟨z,hz,rfl⟩:=List.mem_map.1 hq'
     obtain⟨A,hA,hrel⟩:=all2_mem hAu z hz
     refine⟨z.2,A,e2 z hz,hrel,λw' hk=> ?_⟩
     have hA':A∈Au++Ar:=List.mem_append_left _ hA
     refine Asn.same (hst.own A hA') λb hb=>hk.block b (hst.lt b (List.mem_append_right _ (mem_fps.2 ⟨A,hA',hb⟩))) λhm=> ?_
     have hbu:b∈fps Au:=mem_fps.2 ⟨A,hA,hb⟩
     obtain⟨n1,n2,n3⟩:=List.nodup_append.1 hnd
     rcases List.mem_append.1 hm with hm|hm
     ·exact n3 b hm b (List.mem_append_left _ hbu) rfl
     ·exact(List.nodup_append.1 n2).2.2 b hbu b hm rfl
    obtain⟨ps,hps,hrel⟩:=lendL_ok ok hF hlend hlent
    refine⟨ρ,Ar,ps++Ps,hst'.addPs hps,hH.keep,λb hb=>hH.old b ((fps_perm hp).mem_iff.2 (by rw[fps_append];exact List.mem_append_right _ hb)),hH.size,hH.dfr,λt' x hx=> ?_,hAr.mono λ_ _ h=>RelItem.mono (λ_ _ h=>h) (λp hp=>List.mem_append_right _ hp) h,hH.dom,hH.org⟩
    simp only[look] at hx
    split at hx
    ·rename_i hb
     obtain rfl:=someI' hx
     rw[←Nat.eq_of_beq_eq_true hb]
     exact hrel _ (hH.env t _ hl)
    ·exact RelAV.mono (λ_ _ h=>h) (λp hp=>List.mem_append_right _ hp) (hH.env t' x hx)
   ·cases h
  ·cases h
 ·cases h
end
def lookX{α:Type}:List (Nat×α)→Nat→Option α
 |[],_=>none
 |(i,f)::r,k=>match Nat.beq i k with
  |true=>some f
  |false=>lookX r k
def plOwn:PL→List Nat
 | .own j=>[j]
 |_=>[]
def pvOwn:PV→List Nat
 | .one p=>plOwn p
 | .agg ps=>ps.flatMap plOwn
 | .st _=>[]
def isRowI:PI→Bool
 | .row _ _=>true
 |_=>false
def fxOf(vs:List PV)(is:List PI)(j:Nat):Bool:=match is[j]? with
 |some p=>match isRowI p with
  |true=>memN (vs.flatMap pvOwn) j
  |false=>true
 |none=>true
def fxS(fx:Nat→Bool)(j:Nat):Option Nat:=match fx j with
 |true=>some j
 |false=>none
def riOf(fx:Nat→Bool):Nat→List PI→List (Option Nat×PI)
 |_,[]=>[]
 |j,p::ps=>(fxS fx j,p)::riOf fx (j+1) ps
theorem riOf_get{fx:Nat→Bool}:∀(ps:List PI)(j q:Nat),q<ps.length→∃p,(riOf fx j ps)[q]? =some (fxS fx (j+q),p)
 |[],_,q,h=>by simp at h
 |p::ps,j,0,_=>⟨p,rfl⟩
 |p::ps,j,q+1,h=>by
  obtain⟨p',h'⟩:=riOf_get ps (j+1) q (by simpa using h)
  exact⟨p',by simp only[riOf,List.getElem?_cons_succ];rw[h',show j+1+q=j+(q+1) from by omega]⟩
def finR(S:Tab)(fx:Nat→Bool)(is:List PI)(code:Nat)(s:ASt S.τ):Option (Nat×HL S.τ (tyIs is [])):=match rdA S (seedRi s.org 0 (riOf fx 0 is)) [] is s [] with
 |some (y,ks)=>match ogRes ks s.org 0 (riOf fx 0 is) with
  |true=>some (code,pkIs is (us:=[]) (λ_=>()) y)
  |false=>none
 |none=>none
def exR(S:Tab)(fx:Nat→Bool)(is:List PI):Nat→List Nat→List (Nat×(ASt S.τ→Option (Nat×HL S.τ (tyIs is []))))
 |_,[]=>[]
 |k,id::r=>(id,finR S fx is k)::exR S fx is (k+1) r
def pendOf(ids:List Nat):Nat→Option Code
 |0=>none
 |1=>some .ret
 |j+2=>(ids[j]?).map Code.exit
theorem exR_look{S:Tab}{fx:Nat→Bool}{is:List PI}:∀{ids:List Nat} {k id:Nat} {f:ASt S.τ→Option (Nat×HL S.τ (tyIs is []))},lookX (exR S fx is k ids) id=some f→∃j,f=finR S fx is (k+j)∧ids[j]? =some id
 |[],k,id,f,h=>by cases h
 |i::r,k,id,f,h=>by
  simp only[exR,lookX] at h
  split at h
  ·rename_i hb
   obtain rfl:=someI' h
   exact⟨0,rfl,by rw[Nat.eq_of_beq_eq_true hb];rfl⟩
  ·obtain⟨j,h1,h2⟩:=exR_look h
   exact⟨j+1,by rw[h1,show k+1+j=k+(j+1) from by omega],h2⟩
def zipA{τ:Nat→Type}:List Nat→List (A1 τ)→List (Nat×AV τ)
 |t::ts,x::xs=>(t,.v x)::zipA ts xs
 |_,_=>[]
def stB(S:Tab)(envR:List (Nat×AV S.τ))(ps:List Nat)(ys:List Ty)(is:List PI)(hk:okIs is=true)(y:HL S.τ ys)(z:HL S.τ (tyIs is [])):ASt S.τ:=
 ⟨is.length,zipA ps (canYs S ys y)++envR,numI 0 (putIs S (λj=>j) is (upIs is hk (us:=[]) (λ_=>()) z)).1,idMp 0 is.length⟩
theorem putIs_len{S:Tab}{r:Type}(m:Nat→Nat):∀(ps:List PI)(z:PIsT S.τ ps r),(putIs S m ps z).1.length=ps.length
 |[],z=>rfl
 |p::ps,z=>by simp[putIs,putIs_len m ps]
theorem fold_set{N:Nat}:∀(ps:List Nat)(vs:List Value)(A:Array Value),A.size=N→ps.Nodup→(∀t∈ps,t<N)→ps.length=vs.length→
  ((ps.zip vs).foldl (λt (p,v)=>t.setIfInBounds p v) A).size=N∧(∀(i t:Nat)(v:Value),ps[i]? =some t→vs[i]? =some v→((ps.zip vs).foldl (λt (p,v)=>t.setIfInBounds p v) A).getD t undef=v)∧(∀t,t∉ps→((ps.zip vs).foldl (λt (p,v)=>t.setIfInBounds p v) A).getD t undef=A.getD t undef)
 |[],vs,A,hA,_,_,_=>⟨by simpa using hA,λi t v h=>by simp at h,λt _=>by simp⟩
 |p::ps,[],A,_,_,_,hl=>by simp at hl
 |p::ps,v::vs,A,hA,hn,hlt,hl=>by
  have hn':=List.nodup_cons.1 hn
  obtain⟨h1,h2,h3⟩:=fold_set ps vs (A.setIfInBounds p v) (by simpa using hA) hn'.2 (λt ht=>hlt t (List.mem_cons_of_mem _ ht)) (by simpa using hl)
  simp only[List.zip_cons_cons,List.foldl_cons]
  refine⟨h1,λi t u hi hu=> ?_,λt ht=> ?_⟩
  ·cases i with
   |zero=>
    simp at hi hu
    subst hi;subst hu
    rw[h3 _ hn'.1]
    have:p<A.size:=hA▸hlt p (by simp)
    simp[this]
   |succ i=>exact h2 i t u (by simpa using hi) (by simpa using hu)
  ·simp only[List.mem_cons,not_or] at ht
   rw[h3 t ht.2]
   have:¬p=t:=λe=>ht.1 e.symm
   simp[this]
theorem zipA_look{τ:Nat→Type}:∀{ps:List Nat} {xs:List (A1 τ)} {e:List (Nat×AV τ)} {t:Nat} {x:AV τ},ps.length=xs.length→look (zipA ps xs++e) t=some x→(∃(i:Nat) (y:A1 τ),ps[i]? =some t∧xs[i]? =some y∧x= .v y)∨(t∉ps∧look e t=some x)
 |[],xs,e,t,x,_,h=> .inr ⟨by simp,by cases xs<;>exact h⟩
 |p::ps,[],e,t,x,hl,h=>by simp at hl
 |p::ps,y::xs,e,t,x,hl,h=>by
  simp only[zipA,List.cons_append,look] at h
  split at h
  ·rename_i hb
   obtain rfl:=someI' h
   exact .inl ⟨0,y,by rw[Nat.eq_of_beq_eq_true hb];rfl,rfl,rfl⟩
  ·rename_i hb
   rcases zipA_look (by simpa using hl) h with⟨i,z,h1,h2,h3⟩|⟨h1,h2⟩
   ·exact .inl ⟨i+1,z,by simpa using h1,by simpa using h2,h3⟩
   ·refine .inr ⟨λhm=> ?_,h2⟩
    rcases List.mem_cons.1 hm with e|hm
    ·rw[e,show Nat.beq p p=true from Nat.beq_eq▸rfl] at hb;cases hb
    ·exact h1 hm
theorem canYs_len{S:Tab}:∀(ys:List Ty)(y:HL S.τ ys),(canYs S ys y).length=ys.length
 |[],_=>rfl
 |t::ys,y=>by simp[canYs,canYs_len ys]
structure Lp(S:Tab) where
 P:Program
 fn:FuncId
 tmps:Array Value
 ps:List Nat
 assign:Code
 body:Code
 l:Nat
 d:Nat
 is:List PI
 hk:okIs is=true
 ids:List Nat
 ρc:Rho
 fx:Nat→Bool
 hfx:∀k g,ρc k=some g→fx k=true
 Ps0:List (World→Prop)
def Lp.rc{S:Tab}(L:Lp S)(m:Nat):Loop:={state:=if m=0 then .ready else .done,pending:=pendOf L.ids m,fn:=L.fn,tmps:=L.tmps,params:=L.ps.toArray,assign:=L.assign,body:=L.body,defers:=L.d}
def Lp.J{S:Tab}(L:Lp S)(m:Nat)(x:HL S.τ (tyIs L.is []))(F:List Nat)(Pj:List (World→Prop))(w:World):Prop:=
 ∃(ρL:Rho) (As:List Asn),F=L.d::L.l::fps As∧w.heap[L.d]? =some (.deferred (some []))∧w.heap[L.l]? =some (.loop (L.rc m))∧(∀A∈As,A.holds w)∧(∀k g,ρL k=some g→k<L.is.length)∧(∀k g,L.ρc k=some g→ρL k=some g)∧
  All2 (RelItem S ρL Pj L.P) (numI 0 (putIs S (λj=>j) L.is (upIs L.is L.hk (us:=[]) (λ_=>()) x)).1) As∧(∀p∈L.Ps0,p∈Pj)
theorem Lp.J_same{S:Tab}{L:Lp S}{m:Nat}{x:HL S.τ (tyIs L.is [])}{F:List Nat}{Pj:List (World→Prop)}{w w':World}(h:L.J m x F Pj w)(hw:∀k∈F,w'.heap[k]? =w.heap[k]?):L.J m x F Pj w':=by
 obtain⟨ρL,As,rfl,h1,h2,h3,h4⟩:=h
 refine⟨ρL,As,rfl,by rw[hw _ (by simp)];exact h1,by rw[hw _ (by simp)];exact h2,λA hA=>Asn.same (h3 A hA) λk hk=>hw k ?_,h4⟩
 exact List.mem_cons_of_mem _ (List.mem_cons_of_mem _ (mem_fps.2 ⟨A,hA,hk⟩))
def Lp.gh{S:Tab}(L:Lp S):Gh:=⟨none,0,0,L.l,λT m x F Pj w=>∃h:T=HL S.τ (tyIs L.is []),L.J m (h▸x) F Pj w,noS⟩
theorem Lp.gh_iff{S:Tab}{L:Lp S}{m:Nat}{x:HL S.τ (tyIs L.is [])}{F:List Nat}{Pj:List (World→Prop)}{w:World}:L.gh.j (HL S.τ (tyIs L.is [])) m x F Pj w↔L.J m x F Pj w:=
 ⟨fun⟨_,h⟩=>h,λh=>⟨rfl,h⟩⟩
theorem Lp.opq_holds{S:Tab}{L:Lp S}{m:Nat}{x:HL S.τ (tyIs L.is [])}{F:List Nat}{Pj:List (World→Prop)}{w:World}:(opqA S L.gh (tyIs L.is []) m x F Pj).holds w↔L.J m x F Pj w:=
 ⟨λh=>Lp.gh_iff.1 (h w λ_ _=>rfl),λh w' hw=>Lp.gh_iff.2 (Lp.J_same h hw)⟩
theorem keep_put{w:World}{l:Nat}{o:Obj}(h:l<w.heap.size)(ho:∀c T fr,o= .cells c T fr→fr=(0,0):=by intro c T fr h;cases h<;>rfl):Keep [l] w (w.putObj l o):=by
 refine⟨rfl,rfl,rfl,Drn.setB (Nat.le_refl _) rfl ho,by simp[World.putObj],λk hk hn=> ?_⟩
 exact World.putObj_heap_other (by simpa using hn)
def ExC(ids:List Nat)(e:Exit)(code:Nat):Prop:=match e with
 | .normal=>code=0
 | .ret=>code=1
 | .exit id=>∃j,code=j+2∧ids[j]? =some id
 |_=>False
theorem finR_code{S:Tab}{fx:Nat→Bool}{is:List PI}{code m':Nat}{s:ASt S.τ}{z':HL S.τ (tyIs is [])}(h:finR S fx is code s=some (m',z')):code=m':=by
 unfold finR at h
 split at h
 ·split at h
  ·exact congrArg Prod.fst (someI' h)
  ·cases h
 ·cases h
theorem finR_ok{S:Tab}(ok:TabOk S){P:Program}{C:Cy}{N:Nat}{fx:Nat→Bool}{is:List PI}(hk:okIs is=true){code m':Nat}{s:ASt S.τ}{z':HL S.τ (tyIs is [])}(h:finR S fx is code s=some (m',z')){a:Act}{w:World}(hH:Hold P S C N s a w):
  ∃(ρ2:Rho) (As2:List Asn) (Ps2:List (World→Prop)),St C.R w As2 Ps2∧Keep C.F C.w0 w∧(∀b∈fps As2,b∈C.F∨C.w0.heap.size≤b)∧
   All2 (RelItem S ρ2 Ps2 P) (numI 0 (putIs S (λj=>j) is (upIs is hk (us:=[]) (λ_=>()) z')).1) As2∧(∀k g,ρ2 k=some g→k<is.length)∧∀j g,j<is.length→fx j=true→C.r0 j=some g→ρ2 j=some g:=by
 obtain⟨ρ,As,Ps,hH⟩:=hH
 unfold finR at h
 split at h
 ·rename_i y ks hrd
  split at h
  ·rename_i hog
   have hz:=congrArg Prod.snd (someI' h)
   simp only at hz
   subst hz
   obtain⟨ρ2,As2,Ps2,h1,h2,h3,h4,h5,h6⟩:=rdA_ok (P:=P) (C:=C) (w:=w) (vs:=[]) ok hrd ⟨hH.st,hH.keep,hH.old,trivial,hH.its,hH.dom,hH.org⟩
   refine⟨ρ2,As2,Ps2,h1,hH.keep,h2, ?_,h5,λj g hj hfx hg=> ?_⟩
   ·rw[up_pkIs is hk (λ_=>rfl)]
    exact h4
   ·obtain⟨p,hp⟩:=riOf_get (fx:=fx) is 0 j hj
    rw[Nat.zero_add,show fxS fx j=some j from by unfold fxS;rw[hfx]] at hp
    obtain⟨k,e1,e2⟩:=ogRes_get hog j j p hp
    rw[Nat.zero_add] at e2
    exact h6 j k j g e1 e2 hg
  ·cases h
 ·cases h
theorem nodup_front{d l:Nat}{R:List Nat}{As:List Asn}(h:(R++(d::l::fps As)).Nodup):((d::l::R)++fps As).Nodup∧∀b,b∈(d::l::R)++fps As↔b∈R++(d::l::fps As):=by
 have hp:(R++(d::l::fps As)).Perm ((d::l::R)++fps As):=by
  rw[List.perm_iff_count];intro x;simp only[List.count_append,List.count_cons];omega
 exact⟨hp.nodup_iff.1 h,λb=>hp.symm.mem_iff⟩
theorem canY_any{S:Tab}{ρ ρ':Rho}{Ps:List (World→Prop)}{t:Ty}{y:Dn S.τ t}{v:Value}(h:RelA1 S ρ Ps (canY S t y) v):RelA1 S ρ' Ps (canY S t y) v:=by
 cases t with
 |st i=>obtain⟨vs,h1,h2⟩:=h;exact⟨vs,h1,hl_any _ _ _ h2⟩
 |int k=>exact h
 |bool=>exact h
 |str=>exact h
 |fnc g=>exact h
 |sl e=>exact h
 |mp e=>exact h
theorem canYs_any{S:Tab}{ρ ρ':Rho}{Ps:List (World→Prop)}:∀{ys:List Ty} {y:HL S.τ ys} {vs:List Value},All2 (RelA1 S ρ Ps) (canYs S ys y) vs→All2 (RelA1 S ρ' Ps) (canYs S ys y) vs
 |[],y,vs,h=>by have:=All2.nil_left h;subst this;trivial
 |t::ys,y,vs,h=>by
  obtain⟨v,vs',rfl,h1,h2⟩:=All2.cons_left h
  exact⟨canY_any h1,canYs_any h2⟩
theorem Lp.ysem{S:Tab}(ok:TabOk S)(L:Lp S){N:Nat}{ys:List Ty}{envR:List (Nat×AV S.τ)}{f:HL S.τ ys→HL S.τ (tyIs L.is [])→Option (Nat×HL S.τ (tyIs L.is []))}
  (hnd:L.ps.Nodup) (hlt:∀t∈L.ps,t<N) (hsz:L.tmps.size=N) (hlen:L.ps.length=ys.length) (hslot:∀t x,look envR t=some x→RelAV S L.ρc L.Ps0 x (L.tmps.getD t undef))
  (hdl:L.d≠L.l)
  (hf:∀y z m' z',f y z=some (m',z')→∃kb:ASt S.τ→Option (Nat×HL S.τ (tyIs L.is [])),
   (∀(C:Cy)(a:Act)(w:World)(Q:Exit→Act→World→Prop),Hold L.P S C N (stB S envR L.ps ys L.is L.hk y z) a w→(∀s1 a1 w1,kb s1=some (m',z')→Hold L.P S C N s1 a1 w1→Q .normal a1 w1)→L.assign.wpIn (roF (some L.l)) 0 L.P Q (setD [] a) w)∧
   (∀(C:Cy)(s1:ASt S.τ)(a:Act)(w:World)(Q:Exit→Act→World→Prop),kb s1=some (m',z')→Hold L.P S C N s1 a w→(∀e code s a' w',ExC L.ids e code→finR S L.fx L.is code s=some (m',z')→Hold L.P S C N s a' w'→Q e a' w')→L.body.wpIn (roF (some L.l)) 0 L.P Q (setD [] a) w)):
  YSem S L.P L.gh ys (tyIs L.is []) f:=by
 intro y x m' x' hy ρ Ps args R W F Pj hargs hPj hst
 obtain⟨kb,hA,hB⟩:=hf y x m' x' hy
 have hJ:=Lp.opq_holds.1 (hst.own _ (List.mem_singleton_self _))
 obtain⟨ρL,As,rfl,hd0,hl0,hown,hdom,hρc,hits,hPs0⟩:=hJ
 have hfp:fps [opqA S L.gh (tyIs L.is []) 0 x (L.d::L.l::fps As) Pj]=L.d::L.l::fps As:=by simp[fps,opqA,Asn.fp]
 have hnd0:=hst.nd
 rw[hfp] at hnd0
 obtain⟨hnd1,hmem⟩:=nodup_front hnd0
 have hstA:St (L.d::L.l::R) W As (Ps):=⟨hown,λb hb=>hst.lt b (by rw[hfp];exact(hmem b).1 hb),hnd1,λp hp=>(hst.per p hp).weak λb hb=> .inl (by rw[hfp];exact(hmem b).1 hb),λp hp=>(hst.gl p hp).weak λb hb=> .inl (by rw[hfp];exact(hmem b).1 hb)⟩
 have hal:args.length=L.ps.length:=by rw[←hargs.len,canYs_len,hlen]
 have hrun:=run_yield (P:=L.P) (args:=args.toArray) hl0 (by simp[Lp.rc,hal])
 refine⟨_,_,_,_,hrun,roundIn_of_wpIn (F:=Fence.wide) trivial ?_⟩
 have hzip:(((L.rc 0).params.zip args.toArray).foldl (λtmps (p:Nat×Value)=>tmps.setIfInBounds p.1 p.2) (L.rc 0).tmps)=(L.ps.zip args).foldl (λt (p:Nat×Value)=>t.setIfInBounds p.1 p.2) L.tmps:=by
  simp[Lp.rc]
 obtain⟨t1,t2,t3⟩:=fold_set (N:=N) L.ps args L.tmps hsz hnd hlt hal.symm
 generalize hT:((L.ps.zip args).foldl (λt (p,v)=>t.setIfInBounds p v) L.tmps)=T at t1 t2 t3
 have hH:Hold L.P S ⟨⟨L.d::L.l::R,fps As,W⟩,ρL⟩ N (stB S envR L.ps ys L.is L.hk y x) ⟨T,[]⟩ W:=by
  refine⟨ρL,As,Ps,hstA,Keep.refl _ _,λb hb=> .inl hb,t1,rfl,λt z hz=> ?_,hits.mono λ_ _ h=>RelItem.mono (λ_ _ h=>h) hPj h,hdom,λi k g h1 h2=>by rw[←idMp_get h1];exact h2⟩
  rcases zipA_look (by rw[canYs_len,hlen]) hz with⟨i,u,e1,e2,rfl⟩|⟨e1,e2⟩
  ·obtain⟨v,e3,e4⟩:=(canYs_any (ρ':=ρL) hargs).get e2
   rw[t2 i t v e1 e3]
   exact e4
  ·rw[t3 t e1]
   exact RelAV.mono hρc (λp hp=>hPj p (hPs0 p hp)) (hslot t z e2)
 have hdR:L.d∈(⟨⟨L.d::L.l::R,fps As,W⟩,ρL⟩:Cy).R:=by simp
 have key:=hA ⟨⟨L.d::L.l::R,fps As,W⟩,ρL⟩ ⟨T,[]⟩ W (Exit.then (λa₁ w₁=>∃w₂,(Instr.beginRound L.l).run L.P w₁= .ok () w₂∧L.body.wpIn (Fence.wide.inRound L.l) 0 L.P (roundPost L.P L.l λe W'=>
   ∃F' Ps' Pj',e= .returned (.bool (Nat.beq m' 0))∧(∀p∈Ps,p∈Ps')∧(∀p∈Pj',p∈Ps')∧St R W' [opqA S L.gh (tyIs L.is []) m' x' F' Pj'] Ps'∧Keep (L.d::L.l::fps As) W W'∧∀b∈F',b∈L.d::L.l::fps As∨W.heap.size≤b) a₁ w₂) (λ_ _ _=>False)) hH ?_
 ·have e:({tmps:=((L.rc 0).params.zip args.toArray).foldl (λtmps (x:Nat×Value)=>tmps.setIfInBounds x.1 x.2) (L.rc 0).tmps,defers:=[]}:Act)=setD [] ⟨T,[]⟩:=by
   rw[hzip]
   show(⟨_,[]⟩:Act)=⟨T,[]⟩
   rw[←hT]
  exact e▸key
 ·intro s1 a1 w1 hs1 hH1
  obtain⟨ρ1,As1,Ps1,hH1⟩:=hH1
  have hk1:Keep (fps As) W w1:=hH1.keep
  have nodup1:=List.nodup_append.1 hH1.st.nd
  have ndd:L.d∉fps As:=λh=>(List.nodup_append.1 hnd1).2.2 L.d (by simp) L.d h rfl
  have ndl:L.l∉fps As:=λh=>(List.nodup_append.1 hnd1).2.2 L.l (by simp) L.l h rfl
  have hl1:w1.heap[L.l]? =some (.loop (L.rc 0)):=by rw[hk1.block _ (heap_lt hl0) ndl];exact hl0
  have hd1:w1.heap[L.d]? =some (.deferred (some [])):=by rw[hk1.block _ (heap_lt hd0) ndd];exact hd0
  refine⟨_,run_beginRound hl1 rfl, ?_⟩
  generalize hw2:w1.putObj L.l (.loop {L.rc 0 with state:= .busy})=w2
  have hk12:Keep [L.l] w1 w2:=by rw[←hw2];exact keep_put (heap_lt hl1)
  have hl2:w2.heap[L.l]? =some (.loop {L.rc 0 with state:= .busy}):=by rw[←hw2];exact World.putObj_heap_same (heap_lt hl1)
  have hd2:w2.heap[L.d]? =some (.deferred (some [])):=by rw[hk12.block _ (heap_lt hd1) (by simpa using hdl)];exact hd1
  have hst2:St (L.d::L.l::R) w2 As1 Ps1:=hH1.st.other hk12 (by simp)
  have hH2:Hold L.P S ⟨⟨L.d::L.l::R,fps As1,w2⟩,ρL⟩ N s1 a1 w2:=⟨ρ1,As1,Ps1,hst2,Keep.refl _ _,λb hb=> .inl hb,hH1.size,hH1.dfr,hH1.env,hH1.its,hH1.dom,hH1.org⟩
  have hold1:∀b∈fps As1,b∈fps As∨W.heap.size≤b:=hH1.old
  have e1:setD [] a1=a1:=by have:=hH1.dfr;cases a1;simp only at this;subst this;rfl
  rw[←e1]
  refine hB _ s1 a1 w2 _ hs1 hH2 λe code s a' w' hex hfin hH3=> ?_
  obtain rfl:=finR_code hfin
  obtain⟨ρ2,As2,Ps2,g1,g2,g3,g4,g5,g6⟩:=finR_ok ok L.hk hfin hH3
  have g2:Keep (fps As1) w2 w':=g2
  have g3:∀b∈fps As2,b∈fps As1∨w2.heap.size≤b:=g3
  have nd1d:L.d∉fps As1:=λh=>nodup1.2.2 L.d (by simp) L.d h rfl
  have nd1l:L.l∉fps As1:=λh=>nodup1.2.2 L.l (by simp) L.l h rfl
  have hl3:w'.heap[L.l]? =some (.loop {L.rc 0 with state:= .busy}):=by rw[g2.block _ (heap_lt hl2) nd1l];exact hl2
  have hd3:w'.heap[L.d]? =some (.deferred (some [])):=by rw[g2.block _ (heap_lt hd2) nd1d];exact hd2
  have hjump:∀(jump:Option Code),jump=pendOf L.ids code→(jump=none↔code=0)→∃v w'',(Instr.endRound L.l jump).run L.P w'= .ok v w''∧∃F' Ps' Pj',Ending.returned v= .returned (.bool (Nat.beq code 0))∧(∀p∈Ps,p∈Ps')∧(∀p∈Pj',p∈Ps')∧St R w'' [opqA S L.gh (tyIs L.is []) code x' F' Pj'] Ps'∧Keep (L.d::L.l::fps As) W w''∧∀b∈F',b∈L.d::L.l::fps As∨W.heap.size≤b:=by
   intro jump hj hz
   refine⟨_,_,run_endRound jump hl3, ?_⟩
   generalize hw4:w'.putObj L.l (.loop {({L.rc 0 with state:= .busy}:Loop) with state:=if jump.isNone then .ready else .done,pending:=jump})=w4
   have hk4:Keep [L.l] w' w4:=by rw[←hw4];exact keep_put (heap_lt hl3)
   have hrec:({({L.rc 0 with state:= .busy}:Loop) with state:=if jump.isNone then .ready else .done,pending:=jump}:Loop)=L.rc code:=by
    unfold Lp.rc
    rw[hj]
    congr 1
    by_cases hc:code=0
    ·subst hc;rfl
    ·rw[if_neg hc]
     have:jump≠none:=λe=>hc (hz.1 e)
     rw[←hj]
     cases jump with
     |none=>exact absurd rfl this
     |some c=>rfl
   have hl4:w4.heap[L.l]? =some (.loop (L.rc code)):=by rw[←hw4,World.putObj_heap_same (heap_lt hl3),hrec]
   have hd4:w4.heap[L.d]? =some (.deferred (some [])):=by rw[hk4.block _ (heap_lt hd3) (by simpa using hdl)];exact hd3
   have hst4:St (L.d::L.l::R) w4 As2 Ps2:=(St.other g1 hk4 (by simp))
   have hb2:∀b∈fps As2,b∈fps As∨W.heap.size≤b:=λb hb=>by
    rcases g3 b hb with h|h
    ·exact hold1 b h
    ·exact .inr (Nat.le_trans (Nat.le_trans hk1.size hk12.size) h)
   have hkeep:Keep (L.d::L.l::fps As) W w4:=by
    have k1:Keep (L.d::L.l::fps As) W w1:=hk1.weak λx hx=>by simp[hx]
    have k2:=k1.step hk12 (λb hb=> .inl (by simp at hb;simp[hb]))
    have k3:=k2.step g2 (λb hb=>(hold1 b hb).imp (λh=>by simp[h]) id)
    exact k3.step hk4 (λb hb=> .inl (by simp at hb;simp[hb]))
   have hF':∀b∈L.d::L.l::fps As2,b∈L.d::L.l::fps As∨W.heap.size≤b:=λb hb=>by
    rcases List.mem_cons.1 hb with rfl|hb
    ·exact .inl (by simp)
    ·rcases List.mem_cons.1 hb with rfl|hb
     ·exact .inl (by simp)
     ·exact(hb2 b hb).imp (λh=>by simp[h]) id
   have hfp2:fps [opqA S L.gh (tyIs L.is []) code x' (L.d::L.l::fps As2) (Ps2++Ps)]=L.d::L.l::fps As2:=by simp[fps,opqA,Asn.fp]
   have hp2:(R++(L.d::L.l::fps As2)).Perm ((L.d::L.l::R)++fps As2):=by
    rw[List.perm_iff_count];intro x;simp only[List.count_append,List.count_cons];omega
   have hmem2:∀b,b∈(L.d::L.l::R)++fps As2↔b∈R++(L.d::L.l::fps As2):=λb=>hp2.symm.mem_iff
   refine⟨L.d::L.l::fps As2,Ps2++Ps,Ps2++Ps, ?_,λp hp=>List.mem_append_right _ hp,λp hp=>hp,⟨?_, ?_, ?_, ?_,λp hp=>by rw[hfp2];exact(hst4.gl p hp).weak λb hb=> .inl ((hmem2 b).2 hb)⟩,hkeep,hF'⟩
   ·congr 2
    cases jump with
    |none=>rw[hz.1 rfl];rfl
    |some c=>
     have:code≠0:=λe=>by have:=hz.2 e;cases this
     cases code with
     |zero=>exact absurd rfl this
     |succ c=>rfl
   ·intro A hA
    rw[List.mem_singleton] at hA
    subst hA
    refine Lp.opq_holds.2 ⟨ρ2,As2,rfl,hd4,hl4,hst4.own,g5,λk g hk=> ?_,g4.mono λ_ _ h=>RelItem.mono (λ_ _ h=>h) (λp hp=>List.mem_append_left _ hp) h,λp hp=>List.mem_append_right _ (hPj p (hPs0 p hp))⟩
    have h1:=hρc k g hk
    exact g6 k g (hdom k g h1) (L.hfx k g hk) h1
   ·intro b hb
    rw[hfp2] at hb
    exact hst4.lt b ((hmem2 b).2 hb)
   ·rw[hfp2]
    have:=hst4.nd
    have hp:(R++(L.d::L.l::fps As2)).Perm ((L.d::L.l::R)++fps As2):=by
     rw[List.perm_iff_count];intro x;simp only[List.count_append,List.count_cons];omega
    exact hp.nodup_iff.2 this
   ·intro p hp
    rw[hfp2]
    rcases List.mem_append.1 hp with hp|hp
    ·exact(hst4.per p hp).weak λb hb=> .inl ((hmem2 b).2 hb)
    ·have hper:=hst.per p hp
     rw[hfp] at hper
     refine hper.step hkeep (λb hb=> .inl (List.mem_append_right _ hb)) λb hb=> ?_
     rcases List.mem_append.1 hb with hb|hb
     ·exact .inl (List.mem_append_left _ hb)
     ·exact(hF' b hb).imp (λh=>List.mem_append_right _ h) id
  cases e with
  |normal=>
   have hc:code=0:=hex
   exact hjump none (by rw[hc];rfl) ⟨λ_=>hc,λ_=>rfl⟩
  |ret=>
   have hc:code=1:=hex
   exact hjump (some .ret) (by rw[hc];rfl) ⟨λh=>(by cases h),λh=>(by omega)⟩
  |exit id=>
   obtain⟨j,hc,hid⟩:=(hex:∃j,code=j+2∧L.ids[j]? =some id)
   refine hjump (some (.exit id)) (by rw[hc];simp[pendOf,hid]) ⟨λh=>(by cases h),λh=>(by omega)⟩
  |goto t=>exact hex.elim
  |panic c=>exact hex.elim
  |outgrown=>exact hex.elim
def callF(t N:Nat):Call:={callee:= .value (.tmp t),args:= #[.tmp N],argTypes:= #[]}
def operF(t N:Nat):Oper:={dst:=none,op:= .call (callF t N),type:=0,pos:= "",after:= #[],guard:=none}
def rfCall{R:Type}(W:Wk)(N n t:Nat)(s:ASt W.S.τ)(c:Nat)(it:Item W.S.τ)(k:Item W.S.τ→Nat→Option R):Option R:=
 match look s.env t,Nat.blt t N with
 |some (.v (.one (.fn _ _))),true=>opCall W.S W.Γ (evO ((N,.v (.one (.yd s.nx)))::s.env)) (lookI ((s.nx,it)::s.its.drop c)) (s.nx+1) n (callF t N) λout=>
  match ndN (out.take++out.use),itsOf (lookI ((s.nx,it)::s.its.drop c)) (out.take++out.use) with
  |true,some _=>match out.take,out.put with
   |[j],[(j',it')]=>match Nat.beq j s.nx,Nat.beq j' s.nx with
    |true,true=>k it' (s.nx+1+out.nn)
    |_,_=>none
   |_,_=>none
  |_,_=>none
 |_,_=>none
def kOpq{S:Tab}{R:Type}(ts:List Ty)(k:Nat→HL S.τ ts→Nat→Option R)(it:Item S.τ)(nx:Nat):Option R:=match it with
 | .opq _ ts' _ m x=>match tysEq ts' ts with
  |some h=>k m (h.down▸x) nx
  |none=>none
 |_=>none
theorem opCallC_mem{S:Tab}{R:Type}{it:Nat→Option (Item S.τ)}{nx n g:Nat}{as:List (A1 S.τ)}{k:Out S.τ→Option R}{r:R}:∀{Γ:List (Ct S)},opCallC S it nx n g as k Γ=some r→∃ct∈Γ,ct.g=g
 |[],h=>by cases h
 |ct::Γ,h=>by
  simp only[opCallC] at h
  split at h
  ·rename_i hg
   exact⟨ct,List.mem_cons_self ..,Nat.eq_of_beq_eq_true hg⟩
  ·obtain⟨c2,h1,h2⟩:=opCallC_mem h
   exact⟨c2,List.mem_cons_of_mem _ h1,h2⟩
theorem allC_mem{P:Program}{S:Tab}:∀{Γ:List (Ct S)} {ct:Ct S},AllC P S Γ→ct∈Γ→OkC P S ct
 |[],ct,_,h=>by cases h
 |c::Γ,ct,hΓ,h=>by
  rcases List.mem_cons.1 h with rfl|h
  ·exact hΓ.1
  ·exact allC_mem hΓ.2 h
theorem all2_numI_drop{α β:Type}{R:Nat×α→β→Prop}:∀(c:Nat){xs:List (Nat×α)}{ys:List β},All2 R xs ys→All2 R (xs.take c) (ys.take c)∧All2 R (xs.drop c) (ys.drop c):=λc _ _ h=>⟨h.take c,h.drop c⟩
theorem numI_take_get{α:Type}:∀(xs:List α)(k c q k':Nat),(((numI k xs).take c)[q]?).map (·.1)=some k'→k'=k+q∧q<c
 |[],k,c,q,k',h=>by simp[numI] at h
 |y::r,k,0,q,k',h=>by simp at h
 |y::r,k,c+1,0,k',h=>by simp[numI] at h;exact⟨by omega,by omega⟩
 |y::r,k,c+1,q+1,k',h=>by
  have:=numI_take_get r (k+1) c q k' (by simpa[numI] using h)
  omega
def ltM(c:Nat):Nat→Option Nat:=λj=>match Nat.blt j c with
 |true=>some j
 |false=>none
def ltF(fx:Nat→Bool)(c:Nat):Nat→Option Nat:=λj=>match Nat.blt j c&&fx j with
 |true=>some j
 |false=>none
def nmF(fx:Nat→Bool)(nx:Nat):Nat→Nat:=λj=>match fx j with
 |true=>j
 |false=>nx+j
def nmL(fx:Nat→Bool)(nx:Nat):Nat→Nat→List Nat
 |_,0=>[]
 |j,n+1=>nmF fx nx j::nmL fx nx (j+1) n
theorem nmL_len{fx:Nat→Bool}{nx:Nat}:∀(n j:Nat),(nmL fx nx j n).length=n
 |0,_=>rfl
 |n+1,j=>by simp[nmL,nmL_len n]
theorem nmL_get{fx:Nat→Bool}{nx:Nat}:∀(n j q k:Nat),(nmL fx nx j n)[q]? =some k→k=nmF fx nx (j+q)
 |0,_,q,k,h=>by simp[nmL] at h
 |n+1,j,0,k,h=>by simp[nmL] at h;exact h.symm
 |n+1,j,q+1,k,h=>by
  have:=nmL_get n (j+1) q k (by simpa[nmL] using h)
  rw[this,show j+1+q=j+(q+1) from by omega]
def stAfter(S:Tab)(fx:Nat→Bool)(s:ASt S.τ)(is:List PI)(hk:okIs is=true)(z:HL S.τ (tyIs is []))(nx:Nat):ASt S.τ:=
 ⟨nx+is.length,s.env,zipI (nmL fx nx 0 is.length) (putIs S (nmF fx nx) is (upIs is hk (us:=[]) (λ_=>()) z)).1++s.its.drop is.length,s.org⟩
theorem range_sound{W:Wk}(hW:WkOk W){fx:Nat→Bool}{C:Cy}{N n t:Nat}{R:Type}{r:R}{D:List Nat}{s:ASt W.S.τ}{a:Act}{w:World}{ps:Array Tmp}{as b:Code}{is:List PI}{hk:okIs is=true}{ids:List Nat}{ys:List Ty}{envR:List (Nat×AV W.S.τ)}{xs:List (Item W.S.τ)}
  {f:HL W.S.τ ys→HL W.S.τ (tyIs is [])→Option (Nat×HL W.S.τ (tyIs is []))} {kk:Nat→HL W.S.τ (tyIs is [])→Nat→Option R} {z0:PIsT W.S.τ is Unit} {Q:Exit→Act→World→Prop}
  (hs:s.its=numI 0 xs) (hnx0:s.nx=xs.length) (hc:is.length≤xs.length)
  (hz:rdIs W.S (ltM is.length) is ((s.its.take is.length).map (·.2)) ()=some z0)
  (hnd:ps.toList.Nodup) (hlt:∀t∈ps.toList,t<N) (hlen:ps.toList.length=ys.length)
  (hslot:∀ρ Ps,(∀t x,look s.env t=some x→RelAV W.S ρ Ps x (a.tmps.getD t undef))→∀t x,look envR t=some x→RelAV W.S (λk=>match Nat.blt k is.length&&fx k with|true=>ρ k|false=>none) Ps x (a.tmps.getD t undef))
  (hf:∀l y z m' z',f y z=some (m',z')→∃kb:ASt W.S.τ→Option (Nat×HL W.S.τ (tyIs is [])),
   (∀(C:Cy)(a:Act)(w:World)(Q:Exit→Act→World→Prop),Hold W.P W.S C N (stB W.S envR ps.toList ys is hk y z) a w→(∀s1 a1 w1,kb s1=some (m',z')→Hold W.P W.S C N s1 a1 w1→Q .normal a1 w1)→as.wpIn (roF (some l)) 0 W.P Q (setD [] a) w)∧
   (∀(C:Cy)(s1:ASt W.S.τ)(a:Act)(w:World)(Q:Exit→Act→World→Prop),kb s1=some (m',z')→Hold W.P W.S C N s1 a w→(∀e code s a' w',ExC ids e code→finR W.S fx is code s=some (m',z')→Hold W.P W.S C N s a' w'→Q e a' w')→b.wpIn (roF (some l)) 0 W.P Q (setD [] a) w))
  (h:rfCall W N n t s is.length (.opq ys (tyIs is []) f 0 (pkIs is (us:=[]) (λ_=>()) z0)) (kOpq (tyIs is []) kk)=some r)
  (hH:HoldD W.P W.S C N D s a w)
  (hK:∀d m' z' nx' w',kk m' z' nx'=some r→HoldD W.P W.S C N (d::D) (stAfter W.S fx s is hk z' nx') a w'→
   (m'=0→Q .normal (setD (mks (d::D)) a) w')∧(m'=1→Q .ret (setD (mks (d::D)) a) w')∧∀j,m'=j+2→∃id,ids[j]? =some id∧Q (.exit id) (setD (mks (d::D)) a) w'):
  (Code.rangeFunc (.tmp t) ps as b).wpIn (roF none) 0 W.P Q (setD (mks D) a) w:=by
 obtain⟨C1,hR,hM,ρ0,As,Ps0,hH⟩:=hH
 unfold rfCall at h
 split at h
 ·rename_i gf cs hlook hblt
  have htN:t<N:=Nat.blt_eq▸hblt
  have hits:All2 (RelItem W.S ρ0 Ps0 W.P) s.its As:=hH.its
  obtain⟨hitL,hitR⟩:=all2_numI_drop is.length hits
  generalize hAL:As.take is.length=AsL at hitL
  generalize hAR:As.drop is.length=AsR at hitR
  have hAs:As=AsL++AsR:=by rw[←hAL,←hAR,List.take_append_drop]
  subst hAs
  have hst:=hH.st
  generalize hρc:(λk=>match Nat.blt k is.length&&fx k with|true=>ρ0 k|false=>none:Rho)=ρc
  have hρc1:∀k g,ρc k=some g→ρ0 k=some g∧k<is.length∧fx k=true:=λk g hk=>by
   rw[←hρc] at hk
   simp only at hk
   split at hk
   ·rename_i hb
    rw[Bool.and_eq_true] at hb
    exact⟨hk,Nat.blt_eq▸hb.1,hb.2⟩
   ·cases hk
  have hρc2:∀k g,ρ0 k=some g→k<is.length→fx k=true→ρc k=some g:=λk g hk hl hf=>by
   rw[←hρc]
   simp only[show Nat.blt k is.length=true from Nat.blt_eq▸hl,hf]
   exact hk
  generalize hρb:(λk=>match Nat.blt k is.length with|true=>ρ0 k|false=>none:Rho)=ρb
  have hρb1:∀k g,ρb k=some g→ρ0 k=some g∧k<is.length:=λk g hk=>by
   rw[←hρb] at hk
   simp only at hk
   split at hk
   ·rename_i hb;exact⟨hk,Nat.blt_eq▸hb⟩
   ·cases hk
  have hρb2:∀k g,ρ0 k=some g→k<is.length→ρb k=some g:=λk g hk hl=>by
   rw[←hρb]
   simp only[show Nat.blt k is.length=true from Nat.blt_eq▸hl]
   exact hk
  have hren:Ren (ltM is.length) (λj=>j) ρ0 ρb:=λj k g h1 h2=>by
   unfold ltM at h1
   split at h1
   ·rename_i hb
    obtain rfl:=someI' h1
    exact hρb2 _ _ h2 (Nat.blt_eq▸hb)
   ·cases h1
  obtain⟨_,hrel⟩:=rdIs_ok (ρ':=ρb) (Ps:=Ps0) (P:=W.P) (i:=0) hW.ok hren hz λq k' hq g hg=>by
   rw[hs] at hq
   obtain⟨e1,e2⟩:=numI_take_get xs 0 is.length q k' hq
   rw[e1] at hg
   rw[Nat.zero_add] at hg⊢
   exact hρb2 _ _ hg e2
  have hitL':=hrel AsL hitL
  refine wpIn_rangeFunc λfn _=> ?_
  let L:Lp W.S:=⟨W.P,fn,a.tmps,ps.toList,as,b,w.heap.size+1,w.heap.size,is,hk,ids,ρc,fx,λk g h=>(hρc1 k g h).2.2,Ps0⟩
  have henter:=run_enterLoop_outer (P:=W.P) (w:=w) fn a.tmps ps as b
  generalize hw1:(w.alloc (.deferred (some []))).alloc (.loop {state:= .ready,pending:=none,fn,tmps:=a.tmps,params:=ps,assign:=as,body:=b,defers:=w.heap.size})=w1 at henter
  have he:Ext w w1:=by rw[←hw1];exact(Ext.alloc w _).trans (Ext.alloc _ _)
  have hd1:w1.heap[w.heap.size]? =some (.deferred (some [])):=by rw[←hw1];exact(Below.heap_alloc _ _ _ (by simp)).trans (World.alloc_heap_new w _)
  have hl1:w1.heap[w.heap.size+1]? =some (.loop (L.rc 0)):=by
   have:=World.alloc_heap_new (w.alloc (.deferred (some []))) (.loop {state:= .ready,pending:=none,fn,tmps:=a.tmps,params:=ps,assign:=as,body:=b,defers:=w.heap.size})
   rw[World.size_alloc] at this
   rw[←hw1,this]
   simp[Lp.rc,pendOf,L]
  have hst':=hst.ext he
  have hJ:L.J 0 (pkIs is (us:=[]) (λ_=>()) z0) (w.heap.size::(w.heap.size+1)::fps AsL) Ps0 w1:=by
   refine⟨ρb,AsL,rfl,hd1,hl1,λA hA=>hst'.own A (List.mem_append_left _ hA),λk g hk=>(hρb1 k g hk).2,λk g h=>hρb2 k g (hρc1 k g h).1 (hρc1 k g h).2.1, ?_,λp hp=>hp⟩
   show All2 _ (numI 0 (putIs W.S (λj=>j) is (upIs is hk (us:=[]) (λ_=>()) (pkIs is (us:=[]) (λ_=>()) z0))).1) AsL
   rw[up_pkIs is hk (λ_=>rfl)]
   exact hitL'
  have hfp:fps (opqA W.S L.gh (tyIs is []) 0 (pkIs is (us:=[]) (λ_=>()) z0) (w.heap.size::(w.heap.size+1)::fps AsL) Ps0::AsR)=(w.heap.size::(w.heap.size+1)::fps AsL)++fps AsR:=by simp[fps,opqA,Asn.fp]
  have hst1:St C1.R w1 (opqA W.S L.gh (tyIs is []) 0 (pkIs is (us:=[]) (λ_=>()) z0) (w.heap.size::(w.heap.size+1)::fps AsL) Ps0::AsR) Ps0:=by
   have hold:∀b∈C1.R++fps (AsL++AsR),b<w.heap.size:=hst.lt
   have hp:(C1.R++((w.heap.size::(w.heap.size+1)::fps AsL)++fps AsR)).Perm (w.heap.size::(w.heap.size+1)::(C1.R++fps (AsL++AsR))):=by
    rw[List.perm_iff_count];intro x;simp only[List.count_append,List.count_cons,fps_append];omega
   have hin:∀x∈C1.R++fps (opqA W.S L.gh (tyIs is []) 0 (pkIs is (us:=[]) (λ_=>()) z0) (w.heap.size::(w.heap.size+1)::fps AsL) Ps0::AsR),x∈C1.R++fps (AsL++AsR)∨w.heap.size≤x:=λx hx=>by
    rw[hfp] at hx
    rcases List.mem_cons.1 (hp.mem_iff.1 hx) with rfl|hx
    ·exact .inr (Nat.le_refl _)
    ·rcases List.mem_cons.1 hx with rfl|hx
     ·exact .inr (Nat.le_succ _)
     ·exact .inl hx
   refine⟨λA hA=> ?_,λb hb=> ?_, ?_,λp hp'=> ?_,λp hp'=>(hst.gl p hp').step (Keep.ofExt (F:=[]) he) (by simp) hin⟩
   ·rcases List.mem_cons.1 hA with rfl|hA
    ·exact Lp.opq_holds.2 hJ
    ·exact hst'.own A (List.mem_append_right _ hA)
   ·rw[hfp] at hb
    rcases List.mem_cons.1 (hp.mem_iff.1 hb) with rfl|hb
    ·exact heap_lt hd1
    ·rcases List.mem_cons.1 hb with rfl|hb
     ·exact heap_lt hl1
     ·exact Nat.lt_of_lt_of_le (hold b hb) he.size
   ·rw[hfp]
    refine hp.nodup_iff.2 (List.nodup_cons.2 ⟨λhm=> ?_,List.nodup_cons.2 ⟨λhm=> ?_,hst.nd⟩⟩)
    ·rcases List.mem_cons.1 hm with e|hm
     ·omega
     ·have:=hold _ hm;omega
    ·have:=hold _ hm;omega
   ·refine(hst.per p hp').step (Keep.ofExt (F:=[]) he) (by simp) λx hx=> ?_
    rw[hfp] at hx
    rcases List.mem_cons.1 (hp.mem_iff.1 hx) with rfl|hx
    ·exact .inr (Nat.le_refl _)
    ·rcases List.mem_cons.1 hx with rfl|hx
     ·exact .inr (Nat.le_succ _)
     ·exact .inl hx
  have hn0:ρ0 s.nx=none:=by
   cases hq:ρ0 s.nx with
   |none=>rfl
   |some g=>exact absurd (hH.dom _ _ hq) (Nat.lt_irrefl _)
  have hgr:Grow ρ0 (ghost ρ0 s.nx L.gh) s.nx 1:=ghost_grow hn0
  have hYS:YSem W.S W.P L.gh ys (tyIs is []) f:=by
   refine Lp.ysem hW.ok L (N:=N) (envR:=envR) hnd hlt hH.size hlen (λt x hx=> ?_) (by simp[L]) λy z m' z' hy=>hf _ y z m' z' hy
   have:=hslot ρ0 Ps0 hH.env t x hx
   rw[hρc] at this
   exact this
  have hits1:All2 (RelItem W.S (ghost ρ0 s.nx L.gh) Ps0 W.P) ((s.nx,.opq ys (tyIs is []) f 0 (pkIs is (us:=[]) (λ_=>()) z0))::s.its.drop is.length) (opqA W.S L.gh (tyIs is []) 0 (pkIs is (us:=[]) (λ_=>()) z0) (w.heap.size::(w.heap.size+1)::fps AsL) Ps0::AsR):=
   ⟨⟨L.gh,_,Ps0,ghost_at,rfl,λp hp=>hp,hYS⟩,hitR.mono λ_ _ h=>RelItem.mono hgr.keep (λ_ h=>h) h⟩
  have hNt:Nat.beq N t=false:=by
   cases hb:Nat.beq N t with
   |false=>rfl
   |true=>have:=Nat.eq_of_beq_eq_true hb;omega
  have hev:EvRel W.S (ghost ρ0 s.nx L.gh) Ps0 (evO ((N,.v (.one (.yd s.nx)))::s.env)) ⟨a.tmps.push (.func (.yield (w.heap.size+1)) #[] #[]),[]⟩:=by
   refine evO_rel λt' x hx=> ?_
   simp only[look] at hx
   split at hx
   ·rename_i hb
    obtain rfl:=someI' hx
    obtain rfl:=Nat.eq_of_beq_eq_true hb
    have:(a.tmps.push (.func (.yield (w.heap.size+1)) #[] #[])).getD N undef= .func (.yield (w.heap.size+1)) #[] #[]:=by simp[←hH.size]
    exact⟨L.gh,ghost_at,this⟩
   ·rename_i hb
    have hne:t'≠N:=λe=>by rw[e,show Nat.beq N N=true from Nat.beq_eq▸rfl] at hb;cases hb
    have h1:=hH.env t' x hx
    have:(a.tmps.push (.func (.yield (w.heap.size+1)) #[] #[])).getD t' undef=a.tmps.getD t' undef:=by
     have hsz:=hH.size
     by_cases hlt':t'<a.tmps.size
     ·simp[Array.getElem_push,hlt',Nat.lt_succ_of_lt hlt']
     ·have h2:¬t'<a.tmps.size+1:=by omega
      simp[hlt',h2]
    show RelAV _ _ _ x ((a.tmps.push (.func (.yield (w.heap.size+1)) #[] #[])).getD t' undef)
    rw[this]
    exact RelAV.mono hgr.keep (λ_ h=>h) h1
  obtain⟨vs,hv,_⟩:RelLf W.S ρ0 Ps0 (.fn gf cs) (a.tmps.getD t undef):=hH.env t _ hlook
  have e1:evO ((N,.v (.one (.yd s.nx)))::s.env) (.tmp t)=some (.v (.one (.fn gf cs))):=by
   simp only[evO,look,hNt]
   exact hlook
  have hmem:∃ct∈W.Γ,ct.g=gf:=by
   have h':=h
   unfold opCall at h'
   simp only[callF] at h'
   rw[e1] at h'
   split at h'
   ·rename_i e2 _
    simp only[Option.some.injEq,AV.v.injEq,A1.one.injEq,Lf.fn.injEq] at e2
    have:=opCallC_mem h'
    rw[←e2.1] at this
    exact this
   ·rename_i e2 _
    cases e2
   ·rename_i e2 _
    cases e2
   ·rename_i e2 _
    cases e2
   ·cases h'
  obtain⟨ct,hct,rfl⟩:=hmem
  have hcf:=(allC_mem hW.Γ hct).1
  obtain⟨out,hk2,hLoc⟩:=opCall_sound hW.ok hW.Γ (o:=operF t N) rfl h
  split at hk2
  ·rename_i xs2 hnd2 hi2
   split at hk2
   ·rename_i j j' it' htake hput
    split at hk2
    ·rename_i hj hj'
     obtain rfl:=Nat.eq_of_beq_eq_true hj
     obtain rfl:=Nat.eq_of_beq_eq_true hj'
     have hfr:∀k,s.nx+1≤k→k<s.nx+1+out.nn→ghost ρ0 s.nx L.gh k=none:=λk h1 _=>by
      cases hq:ghost ρ0 s.nx L.gh k with
      |none=>rfl
      |some g=>
       rcases hgr.new k g hq with h2|h2
       ·have:=hH.dom _ _ h2;omega
       ·omega
     have hkeep1:Keep C1.F C1.w0 w1:=hH.keep.step (Keep.ofExt (F:=[]) he) (by simp)
     have hold1:∀b∈fps (opqA W.S L.gh (tyIs is []) 0 (pkIs is (us:=[]) (λ_=>()) z0) (w.heap.size::(w.heap.size+1)::fps AsL) Ps0::AsR),b∈C1.F∨C1.w0.heap.size≤b:=λb hb=>by
      have hsz:=hH.keep.size
      rw[hfp] at hb
      rcases List.mem_cons.1 hb with rfl|hb
      ·exact .inr hsz
      ·rcases List.mem_cons.1 hb with rfl|hb
       ·exact .inr (by omega)
       ·exact hH.old b (by rw[fps_append];exact hb)
     have hwp:=loc_core (C:=C1) (o:=operF t N) (a:=⟨a.tmps.push (.func (.yield (w.heap.size+1)) #[] #[]),[]⟩) hLoc hev hst1 hkeep1 hold1 rfl hits1 hnd2 hi2 (λk x _ hx=>hx) hfr
      (K:=λ_ w2=>∃ρ' As' Ps',Grow (ghost ρ0 s.nx L.gh) ρ' (s.nx+1) out.nn∧(∀p∈Ps0,p∈Ps')∧All2 (RelItem W.S ρ' Ps' W.P) ((s.nx,it')::s.its.drop is.length) As'∧St C1.R w2 As' Ps'∧Keep C1.F C1.w0 w2∧∀b∈fps As',b∈C1.F∨C1.w0.heap.size≤b) (Q:=λ_ _ _=>False)
      λv w' ρ' As' Ps' g1 g2 g3 g4 g5 g6 g7=>⟨ρ',As',Ps',g1,g2,by
       rw[hput,htake] at g4
       have:erN [s.nx] ((s.nx,Item.opq ys (tyIs is []) f 0 (pkIs is (us:=[]) (λ_=>()) z0))::s.its.drop is.length)=s.its.drop is.length:=by
        simp only[erN,er1]
        rw[show Nat.beq s.nx s.nx=true from Nat.beq_eq▸rfl]
       rw[this] at g4
       exact g4,g5,g6,g7⟩
     unfold wpX at hwp
     have hv1:(⟨a.tmps.push (.func (.yield (w.heap.size+1)) #[] #[]),[]⟩:Act).eval (.tmp t)= .func (.func ct.g) #[] vs.toArray:=by
      have hsz:=hH.size
      have hlt':t<a.tmps.size:=by omega
      rw[←hv]
      show(a.tmps.push (.func (.yield (w.heap.size+1)) #[] #[])).getD t undef=a.tmps.getD t undef
      simp[Array.getElem_push,hlt',Nat.lt_succ_of_lt hlt']
     rw[callRun (c:=callF t N) rfl rfl hv1 hcf] at hwp
     simp only[uponX] at hwp
     have harg:(callF t N).args.toList.map (⟨a.tmps.push (.func (.yield (w.heap.size+1)) #[] #[]),[]⟩:Act).eval=[.func (.yield (w.heap.size+1)) #[] #[]]:=by
      have hsz:=hH.size
      simp[callF,Act.eval,←hsz]
     rw[harg] at hwp
     have hv0:(setD (mks D) a).eval (.tmp t)= .func (.func ct.g) #[] vs.toArray:=hv
     refine⟨w.heap.size+1,[{target:= .collected w.heap.size,args:= #[]}],w1,{target:= .fn (.func ct.g) vs.toArray,args:= #[.func (.yield (w.heap.size+1)) #[] #[]]},w1,ct.g,([Value.func (.yield (w.heap.size+1)) #[] #[]]++vs).toArray,w1,henter, ?_,λ_ _=>trivial, ?_,λh=>(by cases h), ?_⟩
     ·simp only[resolve,rangeCall,hv0,Deferred.ofValue,Sem.run_bind,Sem.run_pure,Result.andThen_ok]
      simp[Act.eval]
     ·have e:(#[Value.func (.yield (w.heap.size+1)) #[] #[]]++vs.toArray)=([Value.func (.yield (w.heap.size+1)) #[] #[]]++vs).toArray:=by simp
      simp only[invoke]
      rw[e]
      exact hcf _ _
     ·show CallsIn Fence.wide _ _ _ _ _ _
      refine CallsIn.mono (callsIn_wide.2 hwp) λe w2 he2=> ?_
      obtain⟨v,rfl,ρ',As',Ps',hg,hP,hits2,hst2,hkeep2,hold2⟩:=he2
      unfold kOpq at hk2
      split at hk2
      ·rename_i ys' ts' f' m' x'
       split at hk2
       ·rename_i hts _
        obtain⟨hts⟩:=hts
        subst hts
        have hk3:kk m' x' (s.nx+1+out.nn)=some r:=hk2
        obtain⟨A',AsR',rfl,⟨g',F',Pj',hg',rfl,hPj',_⟩,hitR'⟩:=All2.cons_left hits2
        have hgg:g'=L.gh:=by
         have:=hg.keep _ _ (ghost_at (ρ:=ρ0) (nx:=s.nx) (g:=L.gh))
         rw[hg'] at this
         exact someI' this
        subst hgg
        obtain⟨ρL,AsL',hF',hd2,hl2,hown,hdom,hρL,hitL2,_⟩:=Lp.opq_holds.1 (hst2.own _ (List.mem_cons_self ..))
        have hF':F'=w.heap.size::(w.heap.size+1)::fps AsL':=hF'
        subst hF'
        have hfp2:fps (opqA W.S L.gh (tyIs is []) m' x' (w.heap.size::(w.heap.size+1)::fps AsL') Pj'::AsR')=(w.heap.size::(w.heap.size+1)::fps AsL')++fps AsR':=by simp[fps,opqA,Asn.fp]
        have hl2:w2.heap[w.heap.size+1]? =some (.loop (L.rc m')):=hl2
        have hd2:w2.heap[w.heap.size]? =some (.deferred (some [])):=hd2
        have hst:(L.rc m').state≠ .busy:=by
         unfold Lp.rc
         by_cases hm:m'=0
         ·simp[hm]
         ·simp[hm]
        refine⟨_,_,run_endLoop hl2 hst, ?_⟩
        generalize hw4:w2.putObj (w.heap.size+1) (.loop {L.rc m' with state:= .exhausted})=w4
        have hk4:Keep [w.heap.size+1] w2 w4:=by rw[←hw4];exact keep_put (heap_lt hl2)
        have hd4:w4.heap[w.heap.size]? =some (.deferred (some [])):=by rw[hk4.block _ (heap_lt hd2) (by simp)];exact hd2
        have hp:(C1.R++((w.heap.size::(w.heap.size+1)::fps AsL')++fps AsR')).Perm ((w.heap.size::(w.heap.size+1)::C1.R)++fps (AsL'++AsR')):=by
         rw[List.perm_iff_count];intro x;simp only[List.count_append,List.count_cons,fps_append];omega
        have hst3:St (w.heap.size::(w.heap.size+1)::C1.R) w2 (AsL'++AsR') Ps':=by
         refine⟨λA hA=> ?_,λb hb=>hst2.lt b (by rw[hfp2];exact hp.mem_iff.2 hb), ?_,λp hp'=>(hst2.per p hp').weak λb hb=> .inl (by rw[hfp2];exact hp.mem_iff.2 hb),λp hp'=>(hst2.gl p hp').weak λb hb=> .inl (by rw[hfp2];exact hp.mem_iff.2 hb)⟩
         ·rcases List.mem_append.1 hA with hA|hA
          ·exact hown A hA
          ·exact hst2.own A (List.mem_cons_of_mem _ hA)
         ·have:=hst2.nd
          rw[hfp2] at this
          exact hp.nodup_iff.1 this
        have hst4:=hst3.other hk4 (by simp)
        have hold4:∀b∈fps (AsL'++AsR'),b∈C1.F∨C1.w0.heap.size≤b:=λb hb=>hold2 b (by
         rw[hfp2]
         rw[fps_append] at hb
         rcases List.mem_append.1 hb with hb|hb
         ·exact List.mem_append_left _ (by simp[hb])
         ·exact List.mem_append_right _ hb)
        generalize hnx:s.nx+1+out.nn=nx'
        have hnxs:s.nx<nx':=by omega
        have hlen':is.length≤s.nx:=by rw[hnx0];exact hc
        have hdom':∀k g,ρ' k=some g→k<nx':=λk g hk=>by
         rcases hg.new k g hk with h1|h1
         ·rcases hgr.new k g h1 with h2|h2
          ·have:=hH.dom k g h2;omega
          ·omega
         ·omega
        generalize hρ3:(λk=>match Nat.blt k is.length with|true=>(match fx k with|true=>ρL k|false=>ρ0 k)|false=>(match Nat.ble nx' k with|true=>ρL (k-nx')|false=>ρ' k):Rho)=ρ3
        have blt1:∀k,k<is.length→Nat.blt k is.length=true:=λk h=>Nat.blt_eq▸h
        have blt0:∀k,¬k<is.length→Nat.blt k is.length=false:=λk h=>by
         cases hb:Nat.blt k is.length with
         |false=>rfl
         |true=>exact absurd (Nat.blt_eq▸hb:k<is.length) h
        have ble0:∀k,k<nx'→Nat.ble nx' k=false:=λk h=>by
         cases hb:Nat.ble nx' k with
         |false=>rfl
         |true=>have:=Nat.le_of_ble_eq_true hb;omega
        have r1:Ren2 (λj=>j) (nmF fx nx') ρL ρ3:=λj g hj=>by
         have hlt:j<is.length:=hdom j g hj
         rw[←hρ3]
         unfold nmF
         cases hf:fx j with
         |true=>
          simp only[blt1 j hlt,hf]
          exact hj
         |false=>
          have h1:¬nx'+j<is.length:=by omega
          have h2:Nat.ble nx' (nx'+j)=true:=Nat.ble_eq_true_of_le (by omega)
          simp only[blt0 _ h1,h2,Nat.add_sub_cancel_left]
          exact hj
        have r2:∀k g,ρ0 k=some g→ρ3 k=some g:=λk g hk=>by
         have hks:=hH.dom _ _ hk
         by_cases hl:k<is.length
         ·rw[←hρ3]
          simp only[blt1 k hl]
          cases hf:fx k with
          |true=>exact hρL k g (hρc2 k g hk hl hf)
          |false=>exact hk
         ·rw[←hρ3]
          simp only[blt0 k hl,ble0 k (by omega)]
          exact hg.keep _ _ (hgr.keep _ _ hk)
        have r3:∀k g,ρ' k=some g→ρ3 k=some g:=λk g hk=>by
         have hkn:=hdom' k g hk
         by_cases hl:k<is.length
         ·rcases hg.new k g hk with h1|h1
          ·rcases hgr.new k g h1 with h2|h2
           ·exact r2 k g h2
           ·omega
          ·omega
         ·rw[←hρ3]
          simp only[blt0 k hl,ble0 k hkn]
          exact hk
        have r4:∀k g,ρ3 k=some g→k<nx'+is.length:=λk g hk=>by
         rw[←hρ3] at hk
         simp only at hk
         split at hk
         ·rename_i hb
          have:=(Nat.blt_eq▸hb:k<is.length)
          omega
         ·split at hk
          ·have:k-nx'<is.length:=hdom _ _ hk
           omega
          ·have:=hdom' _ _ hk;omega
        have hszw:C1.w0.heap.size≤w.heap.size:=hH.keep.size
        have hszc:C.w0.heap.size≤C1.w0.heap.size:=hR.keep.size
        have hkeep4:Keep C1.F C1.w0 w4:=hkeep2.step hk4 (λb hb=> .inr (by simp at hb;omega))
        have hHold:Hold W.P W.S ⟨⟨w.heap.size::(w.heap.size+1)::C1.R,fps (AsL'++AsR'),w4⟩,C1.r0⟩ N (stAfter W.S fx s is hk x' nx') a w4:=by
         refine⟨ρ3,AsL'++AsR',Ps',hst4,Keep.refl _ _,λb hb=> .inl hb,hH.size,hH.dfr,λt' x hx=>RelAV.mono r2 hP (hH.env t' x hx), ?_,r4,λi k g h1 h2=>r2 k g (hH.org i k g h1 h2)⟩
         have hitL3:=(putIs_ren (ρ:=ρL) (ρ':=ρ3) (Ps:=Pj') (P:=W.P) r1 (ps:=is) (z:=upIs is hk (us:=[]) (λ_=>()) x') (i:=0) (ks:=nmL fx nx' 0 is.length) (nmL_len _ _) λq k hq g hg=>by
          have:=nmL_get _ _ _ _ hq
          rw[this]
          exact r1 _ _ hg).2 AsL' hitL2
         exact All2.app (hitL3.mono λ_ _ h=>RelItem.mono (λ_ _ h=>h) hPj' h) (hitR'.mono λ_ _ h=>RelItem.mono r3 (λ_ h=>h) h)
        have hRef:Ref C ⟨⟨w.heap.size::(w.heap.size+1)::C1.R,fps (AsL'++AsR'),w4⟩,C1.r0⟩:=by
         obtain⟨X,hX⟩:=hR.R
         exact⟨hR.r0,hR.keep' hkeep4,λb hb=>hR.old (hold4 b hb),w.heap.size::(w.heap.size+1)::X,by rw[hX];rfl⟩
        have hnd4:=List.nodup_append.1 hst4.nd
        have hMk:Mk (w.heap.size::D) C ⟨⟨w.heap.size::(w.heap.size+1)::C1.R,fps (AsL'++AsR'),w4⟩,C1.r0⟩:=by
         refine⟨λd hd=> ?_,List.nodup_cons.2 ⟨λhm=> ?_,hM.nd⟩⟩
         ·rcases List.mem_cons.1 hd with rfl|hd
          ·exact⟨hd4,by simp,by omega,λh=>hnd4.2.2 _ (by simp) _ h rfl⟩
          ·obtain⟨q1,q2,q3,q4⟩:=hM.all d hd
           have:=heap_lt q1
           exact⟨by rw[hkeep4.block _ this q4];exact q1,by simp[q2],q3,λh=>hnd4.2.2 d (by simp[q2]) d h rfl⟩
         ·have:=heap_lt (hM.all _ hm).1
          omega
        obtain⟨k0,k1,k2⟩:=hK w.heap.size m' x' _ w4 (hnx▸hk3) ⟨_,hRef,hMk,hHold⟩
        have hpend:(L.rc m').pending=pendOf ids m':=rfl
        rw[hpend]
        match m',k0,k1,k2 with
        |0,k0,_,_=>exact k0 rfl
        |1,_,k1,_=>exact wpIn_ret (k1 rfl)
        |j+2,_,_,k2=>
         obtain⟨id,hid,hQ⟩:=k2 j rfl
         simp only[pendOf,hid,Option.map_some]
         exact wpIn_exit hQ
       ·cases hk2
      ·cases hk2
    ·cases hk2
   ·cases hk2
  ·cases hk2
 ·cases h
end Go.Bur
