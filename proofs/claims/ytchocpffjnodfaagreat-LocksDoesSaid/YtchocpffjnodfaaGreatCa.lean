import Derived.Test.YtchocpffjnodfaaGreatPt
import Derived.Laws.Externs
namespace Go.Bur
open Go.RowKit
set_option linter.unusedVariables false
set_option linter.unusedSimpArgs false
structure Ct(S:Tab) where
 g:Nat
 av:List PV
 ai:List PI
 rv:List PV
 ri:List (Option Nat×PI)
 Rt:Type
 un:Rt→PVsT S.τ rv (PIsT S.τ (ri.map (·.2)) Unit)
 mk':PVsT S.τ rv (PIsT S.τ (ri.map (·.2)) Unit)→Rt
 um:∀y,un (mk' y)=y
 f:Nat→PVsT S.τ av (PIsT S.τ ai Unit)→Option Rt
def resAV{τ:Nat→Type}:List (A1 τ)→AV τ
 |[x]=> .v x
 |xs=> .tup xs
def ResOk(P:Program)(S:Tab)(c:Ct S)(ρ:Rho)(y:PVsT S.τ c.rv (PIsT S.τ (c.ri.map (·.2)) Unit))(v:Value)(As:List Asn)(ρ':Rho)(Ps':List (World→Prop)):Prop:=
 RelAV S ρ' Ps' (resAV (putVs S (λj=>j) c.rv y).1) v∧All2 (RelItem S ρ' Ps' P) (numI 0 (putIs S (λj=>j) (c.ri.map (·.2)) (putVs S (λj=>j) c.rv y).2).1) As∧
  (∀r g,ρ' r=some g→r<c.ri.length)∧∀r j p g,c.ri[r]? =some (some j,p)→ρ j=some g→ρ' r=some g
def OkC(P:Program)(S:Tab)(c:Ct S):Prop:=(∀args w,(callFunc c.g args).run P w= .ok (.enter c.g args) w)∧
 ∀n x y,c.f n x=some y→∀(R:List Nat)(w:World)(ρ:Rho)(As:List Asn)(Ps:List (World→Prop))(args:List Value),St R w As Ps→(∀j g,ρ j=some g→j<c.ai.length)→
  All2 (RelA1 S ρ Ps) (putVs S (λj=>j) c.av x).1 args→All2 (RelItem S ρ Ps P) (numI 0 (putIs S (λj=>j) c.ai (putVs S (λj=>j) c.av x).2).1) As→
  Calls P c.g args.toArray w λe w'=>∃v ρ' As' Ps',e= .returned v∧ResOk P S c ρ (c.un y) v As' ρ' Ps'∧Keep (fps As) w w'∧St R w' As' Ps'∧∀b∈fps As',b∈fps As∨w.heap.size≤b
def AllC(P:Program)(S:Tab):List (Ct S)→Prop
 |[]=>True
 |c::r=>OkC P S c∧AllC P S r
section
variable (S : Tab)
def PL.flatR:PL→Bool
 | .d t=>t.flat
 | .ro _=>false
 | .fn _ cs=>cs.all fun| .bx _=>true| .ro _=>false
 |_=>true
def PV.flatR:PV→Bool
 | .one p=>p.flatR
 | .agg ps=>ps.all PL.flatR
 | .st i=>flatT S (.st i)
def PI.flatR:PI→Bool
 | .box ps=>ps.all PL.flatR
 | .bst i=>flatT S (.st i)
 | .row _ t=>flatT S t
 | .map _ _ _ _=>true
 | .opq _ _=>false
 | .gst=>true
 | .dmap _ _ _ _=>false
 | .mit _ _ _ _ _=>true
 | .deep _ _ _=>true
 | .pdeep _ _ _=>false
 | .shed _ _ _=>false
 | .scr _ _=>true
end
section
variable {P : Program} {S : Tab} {r : Type} {ρ : Rho} {Ps Ps' : List (World → Prop)} {m : Nat → Nat}
theorem flat_hl:∀(ts:List Ty)(ht:ts.all Ty.flat=true)(h:HL S.τ ts)(vs:List Value),All2 (RelLf S ρ Ps) (hlLf ts h) vs→All2 (RelLf S ρ Ps') (hlLf ts h) vs
 |[],_,h,vs,hv=>by have:=All2.nil_left hv;subst this;trivial
 |t::ts,ht,h,vs,hv=>by
  simp only[List.all_cons,Bool.and_eq_true] at ht
  obtain⟨v,vs',rfl,h5,h6⟩:=All2.cons_left hv
  exact⟨flat_leaf ht.1 h5,flat_hl ts ht.2 _ _ h6⟩
theorem flat_caps:∀(cs:List PC)(h:(cs.all fun| .bx _=>true| .ro _=>false)=true)(z:PCsT S.τ cs r)(vs:List Value),All2 (RelCap S ρ Ps) (putCs m cs z).1 vs→All2 (RelCap S ρ Ps') (putCs m cs z).1 vs
 |[],_,z,vs,hv=>by have:=All2.nil_left hv;subst this;trivial
 | .bx j::cs,h,z,vs,hv=>by
  simp only[List.all_cons,Bool.and_eq_true] at h
  obtain⟨v,vs',rfl,h5,h6⟩:=All2.cons_left hv
  exact⟨h5,flat_caps cs h.2 _ _ h6⟩
 | .ro _::cs,h,z,vs,hv=>by simp at h
theorem flat_L{p:PL}(hp:p.flatR=true){z:p.T S.τ r}{v:Value}(h:RelLf S ρ Ps (putL m p z).1 v):RelLf S ρ Ps' (putL m p z).1 v:=by
 cases p with
 |d t=>exact flat_leaf hp h
 |ro t=>cases hp
 |fn g cs=>obtain⟨vs,h1,h2⟩:=h;exact⟨vs,h1,flat_caps cs hp z vs h2⟩
 |_=>exact h
theorem flat_Ls:∀{ps:List PL} (hp:ps.all PL.flatR=true) {z:PLsT S.τ ps r} {vs:List Value},All2 (RelLf S ρ Ps) (putLs m ps z).1 vs→All2 (RelLf S ρ Ps') (putLs m ps z).1 vs
 |[],_,z,vs,hv=>by have:=All2.nil_left hv;subst this;trivial
 |p::ps,hp,z,vs,hv=>by
  simp only[List.all_cons,Bool.and_eq_true] at hp
  obtain⟨v,vs',rfl,h5,h6⟩:=All2.cons_left hv
  exact⟨flat_L hp.1 h5,flat_Ls hp.2 h6⟩
theorem flat_V{p:PV}(hp:p.flatR S=true){z:p.T S.τ r}{v:Value}(h:RelA1 S ρ Ps (putV S m p z).1 v):RelA1 S ρ Ps' (putV S m p z).1 v:=by
 cases p with
 |one p=>exact flat_L (p:=p) hp h
 |agg ps=>obtain⟨vs,h1,h2⟩:=h;exact⟨vs,h1,flat_Ls hp h2⟩
 |st i=>obtain⟨vs,h1,h2⟩:=h;exact⟨vs,h1,flat_hl _ hp _ _ h2⟩
theorem flat_Vs:∀{ps:List PV} (hp:ps.all (PV.flatR S)=true) {z:PVsT S.τ ps r} {vs:List Value},All2 (RelA1 S ρ Ps) (putVs S m ps z).1 vs→All2 (RelA1 S ρ Ps') (putVs S m ps z).1 vs
 |[],_,z,vs,hv=>by have:=All2.nil_left hv;subst this;trivial
 |p::ps,hp,z,vs,hv=>by
  simp only[List.all_cons,Bool.and_eq_true] at hp
  obtain⟨v,vs',rfl,h5,h6⟩:=All2.cons_left hv
  exact⟨flat_V hp.1 h5,flat_Vs hp.2 h6⟩
theorem flat_res{xs:List (A1 S.τ)}(h:∀vs,All2 (RelA1 S ρ Ps) xs vs→All2 (RelA1 S ρ Ps') xs vs){v:Value}(hv:RelAV S ρ Ps (resAV xs) v):RelAV S ρ Ps' (resAV xs) v:=by
 unfold resAV at hv⊢
 split
 ·rename_i x
  have:=h [v] ⟨hv,trivial⟩
  exact this.1
 ·split at hv
  ·rename_i x hn;exact absurd rfl (hn x)
  ·obtain⟨vs,h1,h2⟩:=hv;exact⟨vs,h1,h _ h2⟩
theorem flat_I(ok:TabOk S){w:World}(hw:∀p∈Ps,p w){k:Nat}{p:PI}(hp:p.flatR S=true){z:p.T S.τ r}{A:Asn}(h:RelItem S ρ Ps P (k,(putI S m p z).1) A):∃ps:List (World→Prop),(∀p∈ps,∀w',p w')∧RelItem S ρ ps P (k,(putI S m p z).1) A:=by
 cases p with
 |box ps=>obtain⟨g,vs,h1,h2,h3⟩:=h;exact⟨[],by simp,g,vs,h1,h2,flat_Ls hp h3⟩
 |bst i=>obtain⟨g,vs,h1,h2,h3⟩:=h;exact⟨[],by simp,g,vs,h1,h2,flat_hl _ hp _ _ h3⟩
 |row e t=>
  obtain⟨g,cs,h1,h2,h3,h4⟩:=h
  refine⟨[RepsB (S.GT t) cs z.1],λp hpp w'=> ?_,g,cs,h1,h2,h3,List.mem_singleton_self _⟩
  rw[List.mem_singleton] at hpp
  subst hpp
  exact flat_reps ok hp (hw _ h4)
 |map q kt et vt=>exact⟨[],by simp,h⟩
 |gst=>exact⟨[],by simp,h⟩
 |dmap kt et ky vt=>cases hp
 |mit j q kt et vt=>exact⟨[],by simp,h⟩
 |opq ys ts=>cases hp
 |deep e t es=>
  obtain⟨g,c1,c2,F,h1,h2,h3,h4,h5⟩:=h
  rw[mOf,List.drop_length] at h5
  have hc:c2=[]:=by
   rcases h5 with h5|h5
   ·exact h5.2
   ·have:=hw _ h5;cases this;rfl
  subst hc
  exact⟨[],by simp,g,c1,[],F,h1,h2,h3,h4,.inl ⟨List.drop_length,rfl⟩⟩
 |pdeep e t es=>cases hp
 |shed e t es=>cases hp
 |scr t ex=>exact⟨[],by simp,h⟩
theorem flat_Is(ok:TabOk S){w:World}(hw:∀p∈Ps,p w):∀{ps:List PI} (hp:ps.all (PI.flatR S)=true) {z:PIsT S.τ ps r} {i:Nat} {As:List Asn},All2 (RelItem S ρ Ps P) (numI i (putIs S m ps z).1) As→∃qs:List (World→Prop),(∀p∈qs,∀w',p w')∧All2 (RelItem S ρ qs P) (numI i (putIs S m ps z).1) As
 |[],_,z,i,As,hv=>by have:=All2.nil_left hv;subst this;exact⟨[],by simp,trivial⟩
 |p::ps,hp,z,i,As,hv=>by
  simp only[List.all_cons,Bool.and_eq_true] at hp
  obtain⟨v,vs',rfl,h5,h6⟩:=All2.cons_left hv
  obtain⟨q1,g1,g2⟩:=flat_I ok hw hp.1 h5
  obtain⟨q2,g3,g4⟩:=flat_Is ok hw hp.2 h6
  refine⟨q1++q2,λp hpp=> ?_,RelItem.mono (λ_ _ h=>h) (λp hp=>List.mem_append_left _ hp) g2,g4.mono λ_ _ h=>RelItem.mono (λ_ _ h=>h) (λp hp=>List.mem_append_right _ hp) h⟩
  rcases List.mem_append.1 hpp with hpp|hpp
  ·exact g1 p hpp
  ·exact g3 p hpp
end
section
variable (S : Tab)
def lendCell(it:Nat→Option (Item S.τ)):Lf S.τ→Option (Lf S.τ×List Nat)
 | .own k=>match it k with
  |some (.row _ t l)=>some (.d (.sl t) l,[k])
  |some (.deep _ t _ _ l)=>some (.d (.sl t) l,[k])
  |some (.scr t true l)=>some (.d (.sl t) l,[k])
  |_=>none
 |l=>some (l,[])
def lendCells(it:Nat→Option (Item S.τ)):List (Lf S.τ)→Option (List (Lf S.τ)×List Nat)
 |[]=>some ([],[])
 |l::ls=>match lendCell S it l,lendCells it ls with
  |some (x,us),some (xs,vs)=>some (x::xs,us++vs)
  |_,_=>none
def lendBox(it:Nat→Option (Item S.τ))(t:Ty)(k o:Nat):Option (Dn S.τ t×List Nat):=match it k with
 |some (.box xs)=>match lendCells S it ((xs.drop o).take (S.sz t)) with
  |some (ls,us)=>match toHL (S.lvs t) ls with
   |some h=>some (S.mkT t h,k::us)
   |none=>none
  |none=>none
 |_=>none
def lendC(it:Nat→Option (Item S.τ)):PC→Cap S.τ→Option (Cap S.τ×List Nat)
 | .ro t,.bx k=>match lendBox S it t k 0 with
  |some (x,us)=>some (.ro t x,us)
  |none=>none
 |_,c=>some (c,[])
def lendCs(it:Nat→Option (Item S.τ)):List PC→List (Cap S.τ)→Option (List (Cap S.τ)×List Nat)
 |p::ps,l::ls=>match lendC S it p l,lendCs it ps ls with
  |some (x,us),some (xs,vs)=>some (x::xs,us++vs)
  |_,_=>none
 |_,ls=>some (ls,[])
def lendL(it:Nat→Option (Item S.τ)):PL→Lf S.τ→Option (Lf S.τ×List Nat)
 | .d _,l=>lendCell S it l
 | .ro t,.box k o=>match lendBox S it t k o with
  |some (x,us)=>some (.ro t x 0,us)
  |none=>none
 | .fn _ cs,.fn g ls=>match lendCs S it cs ls with
  |some (xs,us)=>some (.fn g xs,us)
  |none=>none
 |_,l=>some (l,[])
def lendLs(it:Nat→Option (Item S.τ)):List PL→List (Lf S.τ)→Option (List (Lf S.τ)×List Nat)
 |p::ps,l::ls=>match lendL S it p l,lendLs it ps ls with
  |some (x,us),some (xs,vs)=>some (x::xs,us++vs)
  |_,_=>none
 |_,ls=>some (ls,[])
def lendV(it:Nat→Option (Item S.τ)):PV→A1 S.τ→Option (A1 S.τ×List Nat)
 | .one p,.one l=>match lendL S it p l with
  |some (x,us)=>some (.one x,us)
  |none=>none
 | .agg ps,.agg ls=>match lendLs S it ps ls with
  |some (x,us)=>some (.agg x,us)
  |none=>none
 | .st _,.agg ls=>match lendCells S it ls with
  |some (x,us)=>some (.agg x,us)
  |none=>none
 |_,a=>some (a,[])
def lendVs(it:Nat→Option (Item S.τ)):List PV→List (A1 S.τ)→Option (List (A1 S.τ)×List Nat)
 |p::ps,l::ls=>match lendV S it p l,lendVs it ps ls with
  |some (x,us),some (xs,vs)=>some (x::xs,us++vs)
  |_,_=>none
 |_,ls=>some (ls,[])
end
section
variable {P : Program} {S : Tab} {ρ : Rho} {Ps : List (World → Prop)} {it : Nat → Option (Item S.τ)} {F : List Nat} {w : World}
def Lent(P:Program)(S:Tab)(ρ:Rho)(Ps:List (World→Prop))(it:Nat→Option (Item S.τ))(F:List Nat)(w:World)(us:List Nat):Prop:=∀k∈us,∃x A,it k=some x∧RelItem S ρ Ps P (k,x) A∧Bx F w (λw=>A.holds w)
theorem lendCell_ok(ok:TabOk S)(hp:∀p∈Ps,Bx F w p){l x:Lf S.τ}{us:List Nat}(h:lendCell S it l=some (x,us))(hl:Lent P S ρ Ps it F w us):∃ps:List (World→Prop),(∀p∈ps,Bx F w p)∧∀v,RelLf S ρ Ps l v→RelLf S ρ (ps++Ps) x v:=by
 unfold lendCell at h
 split at h
 ·rename_i k
  split at h
  ·rename_i e t l hk
   simp only[Option.some.injEq,Prod.mk.injEq] at h
   obtain⟨rfl,rfl⟩:=h
   obtain⟨y,A,h1,h2,h3⟩:=hl k (by simp)
   rw[hk] at h1
   obtain rfl:=someI' h1
   obtain⟨g,cs,hg,rfl,hn,hmem⟩:=row_open h2
   refine⟨[RSg (S.GT t) g.a g.c l],λp hpp=> ?_,λv ⟨g',hg',hv⟩=> ?_⟩
   ·rw[List.mem_singleton] at hpp
    subst hpp
    intro w' hk
    obtain⟨h4,h5,h6⟩:=row_cells (h3 w' hk)
    exact(hp _ hmem w' hk).rs h4 (by omega) λhne=>h6 λe=>hne (List.eq_nil_of_length_eq_zero (by omega))
   ·rw[hg] at hg'
    obtain rfl:=someI' hg'
    exact⟨g.a,g.c,by rw[hv,hn],.inr (by simp)⟩
  ·rename_i e t es mm l hk
   simp only[Option.some.injEq,Prod.mk.injEq] at h
   obtain⟨rfl,rfl⟩:=h
   obtain⟨y,A,h1,h2,h3⟩:=hl k (by simp)
   rw[hk] at h1
   obtain rfl:=someI' h1
   obtain⟨g,hg,hn,hb⟩:=deep_rs ok hp h2 h3
   refine⟨[RSg (S.GT t) g.a g.c l],λp hpp=> ?_,λv ⟨g',hg',hv⟩=> ?_⟩
   ·rw[List.mem_singleton] at hpp
    subst hpp
    exact hb
   ·rw[hg] at hg'
    obtain rfl:=someI' hg'
    exact⟨g.a,g.c,by rw[hv,hn],.inr (by simp)⟩
  ·rename_i t l hk
   simp only[Option.some.injEq,Prod.mk.injEq] at h
   obtain⟨rfl,rfl⟩:=h
   obtain⟨y,A,h1,h2,h3⟩:=hl k (by simp)
   rw[hk] at h1
   obtain rfl:=someI' h1
   obtain⟨g,F',b,hg,rfl,hb,hn,_⟩:=h2
   refine⟨[RSg (S.GT t) g.a g.c l],λp hpp=> ?_,λv ⟨g',hg',hv⟩=> ?_⟩
   ·rw[List.mem_singleton] at hpp
    subst hpp
    exact λw' hk=>((h3 w' hk) w' λ_ _=>rfl).1 (hb rfl)
   ·rw[hg] at hg'
    obtain rfl:=someI' hg'
    exact⟨g.a,g.c,by rw[hv,hn],.inr (by simp)⟩
  ·cases h
 ·simp only[Option.some.injEq,Prod.mk.injEq] at h
  obtain⟨rfl,rfl⟩:=h
  exact⟨[],by simp,λv h=>h⟩
theorem Lent.left{us vs:List Nat}(h:Lent P S ρ Ps it F w (us++vs)):Lent P S ρ Ps it F w us:=λk hk=>h k (List.mem_append_left _ hk)
theorem Lent.right{us vs:List Nat}(h:Lent P S ρ Ps it F w (us++vs)):Lent P S ρ Ps it F w vs:=λk hk=>h k (List.mem_append_right _ hk)
theorem two_app{ps qs:List (World→Prop)}(h:∀p∈ps,Bx F w p)(h2:∀p∈qs,Bx F w p):∀p∈ps++qs,Bx F w p:=λp hp=>by
 rcases List.mem_append.1 hp with hp|hp
 ·exact h p hp
 ·exact h2 p hp
theorem memL{ps qs:List (World→Prop)}:∀p∈ps++Ps,p∈(ps++qs)++Ps:=λp hp=>by
 simp only[List.mem_append] at hp⊢
 rcases hp with hp|hp
 ·exact .inl (.inl hp)
 ·exact .inr hp
theorem memR{ps qs:List (World→Prop)}:∀p∈qs++Ps,p∈(ps++qs)++Ps:=λp hp=>by
 simp only[List.mem_append] at hp⊢
 rcases hp with hp|hp
 ·exact .inl (.inr hp)
 ·exact .inr hp
theorem lendCells_ok(ok:TabOk S)(hp:∀p∈Ps,Bx F w p):∀{ls xs:List (Lf S.τ)} {us:List Nat},lendCells S it ls=some (xs,us)→Lent P S ρ Ps it F w us→∃ps:List (World→Prop),(∀p∈ps,Bx F w p)∧∀vs,All2 (RelLf S ρ Ps) ls vs→All2 (RelLf S ρ (ps++Ps)) xs vs
 |[],xs,us,h,hl=>by
  simp only[lendCells,Option.some.injEq,Prod.mk.injEq] at h
  obtain⟨rfl,rfl⟩:=h
  exact⟨[],by simp,λvs h=>h⟩
 |l::ls,xs,us,h,hl=>by
  simp only[lendCells] at h
  split at h
  ·rename_i x us1 xs1 us2 h1 h2
   simp only[Option.some.injEq,Prod.mk.injEq] at h
   obtain⟨rfl,rfl⟩:=h
   obtain⟨p1,g1,g2⟩:=lendCell_ok ok hp h1 hl.left
   obtain⟨p2,g3,g4⟩:=lendCells_ok ok hp h2 hl.right
   refine⟨p1++p2,two_app g1 g3,λvs hv=> ?_⟩
   obtain⟨v,vs',rfl,h5,h6⟩:=All2.cons_left hv
   exact⟨RelLf.mono (λ_ _ h=>h) memL (g2 _ h5),(g4 _ h6).mono2 memR⟩
  ·cases h
theorem lendBox_ok(ok:TabOk S)(hp:∀p∈Ps,Bx F w p){t:Ty}{k o:Nat}{x:Dn S.τ t}{us:List Nat}(h:lendBox S it t k o=some (x,us))(hl:Lent P S ρ Ps it F w us):∃ps:List (World→Prop),(∀p∈ps,Bx F w p)∧∀v:Value,(∃g,ρ k=some g∧v= .pointer (some ⟨g.b,g.bo+o,none⟩))→∃A,v= .pointer (some A)∧RoF S t x A∈ps++Ps:=by
 unfold lendBox at h
 split at h
 ·rename_i xs hk
  split at h
  ·rename_i ls us' hls
   split at h
   ·rename_i hh hhl
    simp only[Option.some.injEq,Prod.mk.injEq] at h
    obtain⟨rfl,rfl⟩:=h
    obtain⟨y,A,h1,h2,h3⟩:=hl k (by simp)
    rw[hk] at h1
    obtain rfl:=someI' h1
    obtain⟨g,vs,hg,rfl,hr⟩:=box_open h2
    obtain⟨ps,g1,g2⟩:=lendCells_ok ok hp hls (λk hk=>hl k (List.mem_cons_of_mem _ hk))
    have h4:=g2 _ ((hr.drop o).take (S.sz t))
    have h5:=rel_rep ok (two_app g1 hp) (toHL_rel hhl h4)
    refine⟨[RoF S t (S.mkT t hh) ⟨g.b,g.bo+o,none⟩],λp hpp=> ?_,λv ⟨g',hg',hv⟩=>⟨_, ?_,by simp;exact .inl rfl⟩⟩
    ·rw[List.mem_singleton] at hpp
     subst hpp
     intro w' hk'
     refine⟨(vs.drop o).take (S.sz t), ?_,h5 w' hk'⟩
     have:=(boxA_at (h3 w' hk')).cells.sub o (S.sz t)
     rwa[add_at] at this
    ·rw[hg] at hg'
     obtain rfl:=someI' hg'
     exact hv
   ·cases h
  ·cases h
 ·cases h
theorem lendC_ok(ok:TabOk S)(hp:∀p∈Ps,Bx F w p){p:PC}{l x:Cap S.τ}{us:List Nat}(h:lendC S it p l=some (x,us))(hl:Lent P S ρ Ps it F w us):∃ps:List (World→Prop),(∀p∈ps,Bx F w p)∧∀v,RelCap S ρ Ps l v→RelCap S ρ (ps++Ps) x v:=by
 unfold lendC at h
 split at h
 ·rename_i t k
  split at h
  ·rename_i y us' hb
   simp only[Option.some.injEq,Prod.mk.injEq] at h
   obtain⟨rfl,rfl⟩:=h
   obtain⟨ps,g1,g2⟩:=lendBox_ok ok hp hb hl
   exact⟨ps,g1,λv hv=>g2 v hv⟩
  ·cases h
 ·simp only[Option.some.injEq,Prod.mk.injEq] at h
  obtain⟨rfl,rfl⟩:=h
  exact⟨[],by simp,λv h=>h⟩
theorem lendCs_ok(ok:TabOk S)(hp:∀p∈Ps,Bx F w p):∀{ps:List PC} {ls xs:List (Cap S.τ)} {us:List Nat},lendCs S it ps ls=some (xs,us)→Lent P S ρ Ps it F w us→∃ps:List (World→Prop),(∀p∈ps,Bx F w p)∧∀vs,All2 (RelCap S ρ Ps) ls vs→All2 (RelCap S ρ (ps++Ps)) xs vs
 |[],ls,xs,us,h,hl=>by
  simp only[lendCs,Option.some.injEq,Prod.mk.injEq] at h
  obtain⟨rfl,rfl⟩:=h
  exact⟨[],by simp,λvs h=>h⟩
 |_::_,[],xs,us,h,hl=>by
  simp only[lendCs,Option.some.injEq,Prod.mk.injEq] at h
  obtain⟨rfl,rfl⟩:=h
  exact⟨[],by simp,λvs h=>h⟩
 |p::ps,l::ls,xs,us,h,hl=>by
  simp only[lendCs] at h
  split at h
  ·rename_i x us1 xs1 us2 h1 h2
   simp only[Option.some.injEq,Prod.mk.injEq] at h
   obtain⟨rfl,rfl⟩:=h
   obtain⟨p1,g1,g2⟩:=lendC_ok ok hp h1 hl.left
   obtain⟨p2,g3,g4⟩:=lendCs_ok ok hp h2 hl.right
   refine⟨p1++p2,two_app g1 g3,λvs hv=> ?_⟩
   obtain⟨v,vs',rfl,h5,h6⟩:=All2.cons_left hv
   exact⟨RelCap.mono (λ_ _ h=>h) memL (g2 _ h5),(g4 _ h6).mono λ_ _ h=>RelCap.mono (λ_ _ h=>h) memR h⟩
  ·cases h
theorem lendL_ok(ok:TabOk S)(hp:∀p∈Ps,Bx F w p){p:PL}{l x:Lf S.τ}{us:List Nat}(h:lendL S it p l=some (x,us))(hl:Lent P S ρ Ps it F w us):∃ps:List (World→Prop),(∀p∈ps,Bx F w p)∧∀v,RelLf S ρ Ps l v→RelLf S ρ (ps++Ps) x v:=by
 unfold lendL at h
 split at h
 ·exact lendCell_ok ok hp h hl
 ·rename_i t k o
  split at h
  ·rename_i y us' hb
   simp only[Option.some.injEq,Prod.mk.injEq] at h
   obtain⟨rfl,rfl⟩:=h
   obtain⟨ps,g1,g2⟩:=lendBox_ok ok hp hb hl
   refine⟨ps,g1,λv hv=> ?_⟩
   obtain⟨A,h1,h2⟩:=g2 v hv
   exact⟨A,by rw[add_zero'];exact h1,h2⟩
  ·cases h
 ·rename_i g0 cs g ls
  split at h
  ·rename_i ys us' hb
   simp only[Option.some.injEq,Prod.mk.injEq] at h
   obtain⟨rfl,rfl⟩:=h
   obtain⟨ps,g1,g2⟩:=lendCs_ok ok hp hb hl
   exact⟨ps,g1,λv ⟨vs,h1,h2⟩=>⟨vs,h1,g2 _ h2⟩⟩
  ·cases h
 ·simp only[Option.some.injEq,Prod.mk.injEq] at h
  obtain⟨rfl,rfl⟩:=h
  exact⟨[],by simp,λv h=>h⟩
theorem lendLs_ok(ok:TabOk S)(hp:∀p∈Ps,Bx F w p):∀{ps:List PL} {ls xs:List (Lf S.τ)} {us:List Nat},lendLs S it ps ls=some (xs,us)→Lent P S ρ Ps it F w us→∃ps:List (World→Prop),(∀p∈ps,Bx F w p)∧∀vs,All2 (RelLf S ρ Ps) ls vs→All2 (RelLf S ρ (ps++Ps)) xs vs
 |[],ls,xs,us,h,hl=>by
  simp only[lendLs,Option.some.injEq,Prod.mk.injEq] at h
  obtain⟨rfl,rfl⟩:=h
  exact⟨[],by simp,λvs h=>h⟩
 |_::_,[],xs,us,h,hl=>by
  simp only[lendLs,Option.some.injEq,Prod.mk.injEq] at h
  obtain⟨rfl,rfl⟩:=h
  exact⟨[],by simp,λvs h=>h⟩
 |p::ps,l::ls,xs,us,h,hl=>by
  simp only[lendLs] at h
  split at h
  ·rename_i x us1 xs1 us2 h1 h2
   simp only[Option.some.injEq,Prod.mk.injEq] at h
   obtain⟨rfl,rfl⟩:=h
   obtain⟨p1,g1,g2⟩:=lendL_ok ok hp h1 hl.left
   obtain⟨p2,g3,g4⟩:=lendLs_ok ok hp h2 hl.right
   refine⟨p1++p2,two_app g1 g3,λvs hv=> ?_⟩
   obtain⟨v,vs',rfl,h5,h6⟩:=All2.cons_left hv
   exact⟨RelLf.mono (λ_ _ h=>h) memL (g2 _ h5),(g4 _ h6).mono2 memR⟩
  ·cases h
theorem lendV_ok(ok:TabOk S)(hp:∀p∈Ps,Bx F w p){p:PV}{l x:A1 S.τ}{us:List Nat}(h:lendV S it p l=some (x,us))(hl:Lent P S ρ Ps it F w us):∃ps:List (World→Prop),(∀p∈ps,Bx F w p)∧∀v,RelA1 S ρ Ps l v→RelA1 S ρ (ps++Ps) x v:=by
 unfold lendV at h
 split at h
 ·split at h
  ·rename_i y us' hb
   simp only[Option.some.injEq,Prod.mk.injEq] at h
   obtain⟨rfl,rfl⟩:=h
   exact lendL_ok ok hp hb hl
  ·cases h
 ·split at h
  ·rename_i y us' hb
   simp only[Option.some.injEq,Prod.mk.injEq] at h
   obtain⟨rfl,rfl⟩:=h
   obtain⟨ps,g1,g2⟩:=lendLs_ok ok hp hb hl
   exact⟨ps,g1,λv ⟨vs,h1,h2⟩=>⟨vs,h1,g2 _ h2⟩⟩
  ·cases h
 ·split at h
  ·rename_i y us' hb
   simp only[Option.some.injEq,Prod.mk.injEq] at h
   obtain⟨rfl,rfl⟩:=h
   obtain⟨ps,g1,g2⟩:=lendCells_ok ok hp hb hl
   exact⟨ps,g1,λv ⟨vs,h1,h2⟩=>⟨vs,h1,g2 _ h2⟩⟩
  ·cases h
 ·simp only[Option.some.injEq,Prod.mk.injEq] at h
  obtain⟨rfl,rfl⟩:=h
  exact⟨[],by simp,λv h=>h⟩
theorem lendVs_ok(ok:TabOk S)(hp:∀p∈Ps,Bx F w p):∀{ps:List PV} {ls xs:List (A1 S.τ)} {us:List Nat},lendVs S it ps ls=some (xs,us)→Lent P S ρ Ps it F w us→∃ps:List (World→Prop),(∀p∈ps,Bx F w p)∧∀vs,All2 (RelA1 S ρ Ps) ls vs→All2 (RelA1 S ρ (ps++Ps)) xs vs
 |[],ls,xs,us,h,hl=>by
  simp only[lendVs,Option.some.injEq,Prod.mk.injEq] at h
  obtain⟨rfl,rfl⟩:=h
  exact⟨[],by simp,λvs h=>h⟩
 |_::_,[],xs,us,h,hl=>by
  simp only[lendVs,Option.some.injEq,Prod.mk.injEq] at h
  obtain⟨rfl,rfl⟩:=h
  exact⟨[],by simp,λvs h=>h⟩
 |p::ps,l::ls,xs,us,h,hl=>by
  simp only[lendVs] at h
  split at h
  ·rename_i x us1 xs1 us2 h1 h2
   simp only[Option.some.injEq,Prod.mk.injEq] at h
   obtain⟨rfl,rfl⟩:=h
   obtain⟨p1,g1,g2⟩:=lendV_ok ok hp h1 hl.left
   obtain⟨p2,g3,g4⟩:=lendVs_ok ok hp h2 hl.right
   refine⟨p1++p2,two_app g1 g3,λvs hv=> ?_⟩
   obtain⟨v,vs',rfl,h5,h6⟩:=All2.cons_left hv
   exact⟨RelA1.mono (λ_ _ h=>h) memL (g2 _ h5),(g4 _ h6).mono λ_ _ h=>RelA1.mono (λ_ _ h=>h) memR h⟩
  ·cases h
end
section
variable {τ : Nat → Type}
abbrev Mp:=List (Nat×Nat)
def mpGet:Mp→Nat→Option Nat
 |[],_=>none
 |(j,k)::r,i=>match Nat.beq j i with
  |true=>some k
  |false=>mpGet r i
def mpAdd(m:Mp)(j k:Nat):Mp:=match mpGet m j with
 |some _=>m
 |none=>(j,k)::m
def colCs:List PC→List (Cap τ)→Mp→Mp
 | .bx j::ps,.bx k::cs,m=>colCs ps cs (mpAdd m j k)
 |_::ps,_::cs,m=>colCs ps cs m
 |_,_,m=>m
def colL:PL→Lf τ→Mp→Mp
 | .own j,.own k,m=>mpAdd m j k
 | .box j _,.box k _,m=>mpAdd m j k
 | .map j,.map k,m=>mpAdd m j k
 | .yd j,.yd k,m=>mpAdd m j k
 | .vw j _,.vw k _ _,m=>mpAdd m j k
 | .fn _ ps,.fn _ cs,m=>colCs ps cs m
 |_,_,m=>m
def colLs:List PL→List (Lf τ)→Mp→Mp
 |p::ps,l::ls,m=>colLs ps ls (colL p l m)
 |_,_,m=>m
def colV:PV→A1 τ→Mp→Mp
 | .one p,.one l,m=>colL p l m
 | .agg ps,.agg ls,m=>colLs ps ls m
 |_,_,m=>m
def colVs:List PV→List (A1 τ)→Mp→Mp
 |p::ps,l::ls,m=>colVs ps ls (colV p l m)
 |_,_,m=>m
def colIs(it:Nat→Option (Item τ)):Nat→List PI→Mp→Mp
 |_,[],m=>m
 |j,.box ps::r,m=>match mpGet m j with
  |some k=>match it k with
   |some (.box ls)=>colIs it (j+1) r (colLs ps ls m)
   |_=>m
  |none=>m
 |j,.mit i _ _ _ _::r,m=>match mpGet m j with
  |some k=>match it k with
   |some (.mit jm _ _ _ _ _ _ _)=>colIs it (j+1) r (mpAdd m i jm)
   |_=>m
  |none=>m
 |j,_::r,m=>colIs it (j+1) r m
def idsOf(m:Mp):Nat→Nat→Option (List Nat)
 |_,0=>some []
 |j,n+1=>match mpGet m j,idsOf m (j+1) n with
  |some k,some ks=>some (k::ks)
  |_,_=>none
def ddN:List Nat→List Nat
 |[]=>[]
 |x::r=>match memN r x with
  |true=>ddN r
  |false=>x::ddN r
def a1s(ev:Ev τ):List Operand→Option (List (A1 τ))
 |[]=>some []
 |x::r=>match ev x,a1s ev r with
  |some (.v y),some ys=>some (y::ys)
  |_,_=>none
def capLs:List (Cap τ)→List (A1 τ)
 |[]=>[]
 | .bx k::r=> .one (.box k 0)::capLs r
 | .ro t x::r=> .one (.ro t x 0)::capLs r
def atN(ks:List Nat)(j:Nat):Option Nat:=ks[j]?
def ridOf(ks:List Nat)(nx:Nat)(ri:List (Option Nat×PI))(r:Nat):Nat:=match ri[r]? with
 |some (some j,_)=>match ks[j]? with
  |some k=>k
  |none=>nx+r
 |_=>nx+r
def rids(ks:List Nat)(nx:Nat)(ri:List (Option Nat×PI)):List Nat:=(List.range ri.length).map (ridOf ks nx ri)
end
section
variable {P : Program} {S : Tab} {R : Type}
def takeCt(S:Tab)(c:Ct S)(it:Nat→Option (Item S.τ))(as:List (A1 S.τ)):Option (PVsT S.τ c.av (PIsT S.τ c.ai Unit)×List Nat×List Nat):=match lendVs S it c.av as with
 |some (as',us)=>match idsOf (colIs it 0 c.ai (colVs c.av as' [])) 0 c.ai.length with
  |some ks=>match itsOf it ks with
   |some xs=>match rdIs S (atN ks) c.ai xs () with
    |some t1=>match rdVs S (atN ks) c.av as' t1 with
     |some x=>match ndN (ks++ddN us),us with
      |true,[]=>some (x,ks,[])
      |true,us=>match c.rv.all (PV.flatR S),(c.ri.map (·.2)).all (PI.flatR S) with
       |true,true=>some (x,ks,ddN us)
       |_,_=>none
      |false,_=>none
     |none=>none
    |none=>none
   |none=>none
  |none=>none
 |none=>none
def outCt(S:Tab)(c:Ct S)(ks us:List Nat)(nx:Nat)(y:PVsT S.τ c.rv (PIsT S.τ (c.ri.map (·.2)) Unit)):Out S.τ:=
 ⟨resAV (putVs S (ridOf ks nx c.ri) c.rv y).1,ks,zipI (rids ks nx c.ri) (putIs S (ridOf ks nx c.ri) (c.ri.map (·.2)) (putVs S (ridOf ks nx c.ri) c.rv y).2).1,us,c.ri.length⟩
def opCallC(S:Tab)(it:Nat→Option (Item S.τ))(nx n:Nat)(g:Nat)(as:List (A1 S.τ))(k:Out S.τ→Option R):List (Ct S)→Option R
 |[]=>none
 |c::r=>match Nat.beq c.g g with
  |true=>match takeCt S c it as with
   |some (x,ks,us)=>(c.f n x).bind λy=>k (outCt S c ks us nx (c.un y))
   |none=>opCallC S it nx n g as k r
  |false=>opCallC S it nx n g as k r
def rdY1(S:Tab):(t:Ty)→A1 S.τ→Option (Dn S.τ t)
 | .st i,.agg ls=>match toHL (S.lv i) ls with
  |some h=>some (S.mkS i h)
  |none=>none
 | .st _,.one _=>none
 | .int k,.one l=>toD (.int k) l
 | .int _,.agg _=>none
 | .bool,.one l=>toD .bool l
 | .bool,.agg _=>none
 | .str,.one l=>toD .str l
 | .str,.agg _=>none
 | .fnc g,.one l=>toD (.fnc g) l
 | .fnc _,.agg _=>none
 | .sl e,.one l=>toD (.sl e) l
 | .sl _,.agg _=>none
 | .mp e,.one l=>toD (.mp e) l
 | .mp _,.agg _=>none
def rdYs(S:Tab):(ys:List Ty)→List (A1 S.τ)→Option (HL S.τ ys)
 |[],[]=>some ()
 |t::ys,a::as=>match rdY1 S t a,rdYs S ys as with
  |some y,some z=>some (y,z)
  |_,_=>none
 |[],_::_=>none
 |_::_,[]=>none
def callY{Y Z R:Type}(f:Y→Z→Option R):Nat→Y→Z→Option R
 |0,y,z=>f y z
 |_+1,_,_=>none
def opCall(S:Tab)(Γ:List (Ct S))(ev:Ev S.τ)(it:Nat→Option (Item S.τ))(nx n:Nat)(c:Call)(k:Out S.τ→Option R):Option R:=match c.callee with
 | .value f=>match ev f,a1s ev c.args.toList with
  |some (.v (.one (.fn g cs))),some as=>opCallC S it nx n g (as++capLs cs) k Γ
  |some (.v (.one (.d (.fnc g) _))),some as=>opCallC S it nx n g (as++capLs []) k Γ
  |some (.v (.one (.bfn g cs))),some as=>opCallC S it nx n g (capLs cs++as) k Γ
  |some (.v (.one (.yd j))),some as=>match it j with
   |some (.opq ys ts f m z)=>match rdYs S ys as with
    |some y=>(callY f m y z).bind λr=>k ⟨.v (.one (.d .bool (Nat.beq r.1 0))),[j],[(j,.opq ys ts f r.1 r.2)],[],0⟩
    |none=>none
   |_=>none
  |_,_=>none
 |_=>none
theorem memN_dd:∀{l:List Nat} {k:Nat},k∈ddN l↔k∈l
 |[],k=>by simp[ddN]
 |x::r,k=>by
  simp only[ddN]
  cases h:memN r x with
  |true=>
   have hx:=memN_iff.1 h
   simp only[List.mem_cons]
   rw[memN_dd]
   constructor
   ·exact .inr
   ·rintro(rfl|h)
    ·exact hx
    ·exact h
  |false=>simp only[List.mem_cons,memN_dd]
theorem a1s_rel{ρ:Rho}{Ps:List (World→Prop)}{ev:Ev S.τ}{a:Act}(h:EvRel S ρ Ps ev a):∀{xs:List Operand} {ys:List (A1 S.τ)},a1s ev xs=some ys→All2 (RelA1 S ρ Ps) ys (xs.map a.eval)
 |[],ys,hh=>by obtain rfl:=someI' hh;trivial
 |x::r,ys,hh=>by
  simp only[a1s] at hh
  split at hh
  ·rename_i y ys' h1 h2
   obtain rfl:=someI' hh
   exact⟨h x _ h1,a1s_rel h h2⟩
  ·cases hh
theorem capLs_rel{ρ:Rho}{Ps:List (World→Prop)}:∀{cs:List (Cap S.τ)} {vs:List Value},All2 (RelCap S ρ Ps) cs vs→All2 (RelA1 S ρ Ps) (capLs cs) vs
 |[],vs,h=>by have:=All2.nil_left h;subst this;trivial
 | .bx k::r,vs,h=>by
  obtain⟨v,vs',rfl,h1,h2⟩:=All2.cons_left h
  exact⟨h1,capLs_rel h2⟩
 | .ro t x::r,vs,h=>by
  obtain⟨v,vs',rfl,⟨A,h1,h3⟩,h2⟩:=All2.cons_left h
  exact⟨⟨A,by rw[add_zero'];exact h1,h3⟩,capLs_rel h2⟩
theorem itsOf_eq{it:Nat→Option (Item S.τ)}:∀{ks:List Nat} {xs:List (Item S.τ)} {tk:List (Nat×Item S.τ)},itsOf it ks=some xs→tk.map (·.1)=ks→(∀x∈tk,it x.1=some x.2)→tk.map (·.2)=xs
 |[],xs,tk,h,h1,_=>by
  obtain rfl:=someI' h
  have:=List.map_eq_nil_iff.1 h1
  subst this;rfl
 |k::ks,xs,[],h,h1,_=>by cases h1
 |k::ks,xs,(k',x)::tk,h,h1,h2=>by
  simp only[List.map_cons,List.cons.injEq] at h1
  obtain⟨rfl,h1⟩:=h1
  simp only[itsOf] at h
  split at h
  ·rename_i y ys h3 h4
   obtain rfl:=someI' h
   have h5:=h2 (k',x) (by simp)
   simp only at h5
   rw[h3] at h5
   obtain rfl:=someI' h5
   rw[List.map_cons,itsOf_eq h4 h1 λx hx=>h2 x (List.mem_cons_of_mem _ hx)]
  ·cases h
theorem all2_mem{α β:Type}{R:α→β→Prop}:∀{xs:List α} {ys:List β},All2 R xs ys→∀x∈xs,∃y∈ys,R x y
 |[],_,_,x,hx=>by cases hx
 |x::xs,ys,h,z,hz=>by
  obtain⟨y,ys',rfl,h1,h2⟩:=All2.cons_left h
  rcases List.mem_cons.1 hz with rfl|hz
  ·exact⟨y,List.mem_cons_self ..,h1⟩
  ·obtain⟨y',h3,h4⟩:=all2_mem h2 z hz
   exact⟨y',List.mem_cons_of_mem _ h3,h4⟩
theorem item_some{ρ:Rho}{Ps:List (World→Prop)}{x:Nat×Item S.τ}{A:Asn}(h:RelItem S ρ Ps P x A):∃g,ρ x.1=some g:=by
 obtain⟨k,y⟩:=x
 cases y with
 |box xs=>obtain⟨g,vs,h1,_⟩:=h;exact⟨g,h1⟩
 |row e t l=>obtain⟨g,vs,h1,_⟩:=h;exact⟨g,h1⟩
 |map q kt et vt m=>obtain⟨g,z,E,L,h1,_⟩:=h;exact⟨g,h1⟩
 |cmap q kt et m=>obtain⟨g,vs,h1,_⟩:=h;exact⟨g,h1⟩
 |lmap kt et m=>obtain⟨g,vs,h1,_⟩:=h;exact⟨g,h1⟩
 |dmap kt et ky vt m=>obtain⟨g,vs,h1,_⟩:=h;exact⟨g,h1⟩
 |opq ys ts f m x=>obtain⟨g,F,Pj,h1,_⟩:=h;exact⟨g,h1⟩
 |gst=>obtain⟨g,h1,_⟩:=h;exact⟨g,h1⟩
 |mit jm q kt et vt m l c=>obtain⟨g,gm,z,E,L,c',h1,_⟩:=h;exact⟨g,h1⟩
 |deep e t es m l=>obtain⟨g,c1,c2,F,h1,_⟩:=h;exact⟨g,h1⟩
 |rest e t es m l i kb=>obtain⟨g,gb,c1,c2,c3,ex,F1,F2,h1,_⟩:=h;exact⟨g,h1⟩
 |shed e t es m l=>obtain⟨g,c1,c2,F,h1,_⟩:=h;exact⟨g,h1⟩
 |srest e t es l i kb=>obtain⟨g,gb,c1,c2,ex,F2,h1,_⟩:=h;exact⟨g,h1⟩
 |scr t ex l=>obtain⟨g,F,b,h1,_⟩:=h;exact⟨g,h1⟩
theorem callRunB{o:Oper}{c:Call}{f:Operand}{g:Nat}{a:Act}{w:World}{vs:List Value}(hop:o.op= .call c)(hf:c.callee= .value f)(hv:a.eval f= .func (.func g) vs.toArray #[])(hc:∀args w,(callFunc g args).run P w= .ok (.enter g args) w):
  (execOp a.eval o).run P w= .ok (.enter g (vs++c.args.toList.map a.eval).toArray) w:=by
 have e:(vs++c.args.toList.map a.eval).toArray=vs.toArray++c.args.map a.eval++ #[]:=by apply Array.ext';simp
 rw[e]
 simp only[execOp,hop,resolve,hf,hv,Deferred.ofValue,Sem.run_bind,Sem.run_pure,Result.andThen_ok,invoke,hc]
theorem callRun{o:Oper}{c:Call}{f:Operand}{g:Nat}{a:Act}{w:World}{vs:List Value}(hop:o.op= .call c)(hf:c.callee= .value f)(hv:a.eval f= .func (.func g) #[] vs.toArray)(hc:∀args w,(callFunc g args).run P w= .ok (.enter g args) w):
  (execOp a.eval o).run P w= .ok (.enter g (c.args.toList.map a.eval++vs).toArray) w:=by
 have e:(c.args.toList.map a.eval++vs).toArray= #[]++c.args.map a.eval++vs.toArray:=by apply Array.ext';simp
 rw[e]
 simp only[execOp,hop,resolve,hf,hv,Deferred.ofValue,Sem.run_bind,Sem.run_pure,Result.andThen_ok,invoke,hc]
theorem opCallC_sound(ok:TabOk S){o:Oper}{g:Nat}{ev:Ev S.τ}{it:Nat→Option (Item S.τ)}{nx n:Nat}{as:List (A1 S.τ)}{k:Out S.τ→Option R}{r:R}
  (hcal:∀(a:Act)(w:World)(ρ:Rho)(Ps:List (World→Prop)),EvRel S ρ Ps ev a→∃vs,All2 (RelA1 S ρ Ps) as vs∧((∀args w,(callFunc g args).run P w= .ok (.enter g args) w)→(execOp a.eval o).run P w= .ok (.enter g vs.toArray) w)):
  ∀(Γ:List (Ct S)),AllC P S Γ→opCallC S it nx n g as k Γ=some r→∃out,k out=some r∧LocSem P S o ev it nx out
 |[],_,h=>by cases h
 |ct::Γ,hΓ,h=>by
  simp only[opCallC] at h
  split at h
  ·rename_i hg
   obtain rfl:=Nat.eq_of_beq_eq_true hg
   split at h
   ·rename_i x ks us htk
    obtain⟨y0,hy,h⟩:=bindS h
    generalize hyy:ct.un y0=y at h
    refine⟨_,h, ?_⟩
    intro a w R0 ρ Ps At Au tk ul hd hevr htk1 hus hit hAt hAu hst hn K Q hK
    unfold takeCt at htk
    split at htk
    ·rename_i as' us0 hlend
     split at htk
     ·rename_i ks0 hks
      split at htk
      ·rename_i xs hxs
       split at htk
       ·rename_i t1 ht1
        split at htk
        ·rename_i x0 hx0
         have hfin:x0=x∧ks0=ks∧ddN us0=us∧(us0=[]∨(ct.rv.all (PV.flatR S)=true∧(ct.ri.map (·.2)).all (PI.flatR S)=true)):=by
          split at htk
          ·simp only[Option.some.injEq,Prod.mk.injEq] at htk
           exact⟨htk.1,htk.2.1,htk.2.2,.inl rfl⟩
          ·split at htk
           ·rename_i hf1 hf2
            simp only[Option.some.injEq,Prod.mk.injEq] at htk
            exact⟨htk.1,htk.2.1,htk.2.2,.inr ⟨hf1,hf2⟩⟩
           ·cases htk
          ·cases htk
         clear htk
         obtain⟨rfl,rfl,rfl,hflat⟩:=hfin
         have htk1:tk.map (·.1)=ks0:=htk1
         have hul:ul.map (·.1)=ddN us0:=hus
         have hsub:∀b∈R0++fps At,b∈R0++fps (At++Au):=λb hb=>by
          rw[fps_append,←List.append_assoc];exact List.mem_append_left _ hb
         have hPs:∀p∈Ps,Bx (R0++fps At) w p:=λp hp=>(hst.per p hp).weak λb hb=> .inl (hsub b hb)
         have hnd:=hst.nd
         rw[fps_append,←List.append_assoc,List.nodup_append] at hnd
         have hlent:Lent P S ρ Ps it (R0++fps At) w us0:=λq hq=>by
          have hq':q∈ul.map (·.1):=by rw[hul];exact memN_dd.2 hq
          obtain⟨z,hz,rfl⟩:=List.mem_map.1 hq'
          obtain⟨A,hA,hrel⟩:=all2_mem hAu z hz
          refine⟨z.2,A,hit z (List.mem_append_right _ hz),hrel,λw' hk=> ?_⟩
          have hA':A∈At++Au:=List.mem_append_right _ hA
          refine Asn.same (hst.own A hA') λb hb=>hk.block b (hst.lt b (List.mem_append_right _ (mem_fps.2 ⟨A,hA',hb⟩))) λhm=> ?_
          exact hnd.2.2 b hm b (mem_fps.2 ⟨A,hA,hb⟩) rfl
         obtain⟨ps,hps,hargs⟩:=lendVs_ok ok hPs hlend hlent
         obtain⟨vs,hvs,hrunc⟩:=hcal a w ρ Ps hevr
         have hav:=hargs _ hvs
         have hst1:St (R0++fps []) w At (ps++Ps):=St.lend (Ar:=[]) (by rw[List.append_nil];exact hst) λp hp=>by
          simp only[fps,List.flatMap_nil,List.append_nil]
          exact two_app hps hPs p hp
         rw[show R0++fps []=R0 from by simp[fps]] at hst1
         have hrc:Ren (atN ks0) (λj=>j) ρ (λj=>(atN ks0 j).bind ρ):=λj q gg h1 h2=>by simp[h1,h2]
         obtain⟨e1,hv⟩:=rdVs_ok (Ps:=ps++Ps) ok hrc hx0
         have hxs':=itsOf_eq hxs htk1 λz hz=>hit z (List.mem_append_left _ hz)
         subst hxs'
         obtain⟨e2,hi⟩:=rdIs_ok (Ps:=ps++Ps) (P:=P) (i:=0) ok hrc ht1 λq q' hq gg hg=>by
          have:ks0[q]? =some q':=by rw[←htk1];simpa using hq
          simp[atN,this,hg]
         have hAt':=hi At (hAt.mono λ_ _ h=>RelItem.mono (λ_ _ h=>h) (λp hp=>List.mem_append_right _ hp) h)
         have hlen:ks0.length=ct.ai.length:=by
          have:∀(m:Mp)(j n:Nat)(l:List Nat),idsOf m j n=some l→l.length=n:=by
           intro m j n
           induction n generalizing j with
           |zero=>intro l h;obtain rfl:=someI' h;rfl
           |succ n ih=>
            intro l h
            simp only[idsOf] at h
            split at h
            ·rename_i h1 h2
             obtain rfl:=someI' h
             rw[List.length_cons,ih _ _ h2]
            ·cases h
          exact this _ _ _ _ hks
         have hcall:=hΓ.1.2 n x0 y0 hy R0 w (λj=>(atN ks0 j).bind ρ) At (ps++Ps) _ hst1 (λj gg h=>by
          cases hj:atN ks0 j with
          |none=>rw[hj] at h;cases h
          |some q=>
           have:=(List.getElem?_eq_some_iff.1 (show ks0[j]? =some q from hj)).1
           omega) (hv _ hav) (by rw[e1];exact hAt')
         unfold wpX
         rw[hrunc hΓ.1.1]
         simp only[uponX]
         rw[hyy] at hcall
         refine hcall.mono λe w' he=> ?_
         obtain⟨v,ρ',As',Ps',rfl,⟨hres,hitems,hdom,hsame⟩,hkeep,hst',hb⟩:=he
         refine⟨v,rfl, ?_⟩
         let ρ2:Rho:=λq=>match Nat.ble nx q&&Nat.blt q (nx+ct.ri.length) with
          |true=>ρ' (q-nx)
          |false=>ρ q
         have hin:∀q,nx≤q→q<nx+ct.ri.length→ρ2 q=ρ' (q-nx):=λq h1 h2=>by
          show(match Nat.ble nx q&&Nat.blt q (nx+ct.ri.length) with|true=>ρ' (q-nx)|false=>ρ q)=_
          rw[show Nat.ble nx q=true from Nat.ble_eq▸h1,show Nat.blt q (nx+ct.ri.length)=true from Nat.blt_eq▸h2];rfl
         have hgrow:Grow ρ ρ2 nx ct.ri.length:=by
          refine⟨λq gg hq=> ?_,λq gg hq=> ?_⟩
          ·show(match Nat.ble nx q&&Nat.blt q (nx+ct.ri.length) with|true=>ρ' (q-nx)|false=>ρ q)=some gg
           cases hc:Nat.ble nx q&&Nat.blt q (nx+ct.ri.length) with
           |false=>exact hq
           |true=>
            rw[Bool.and_eq_true] at hc
            have:=hn q (Nat.le_of_ble_eq_true hc.1) (Nat.blt_eq▸hc.2)
            rw[this] at hq;cases hq
          ·have hq:(match Nat.ble nx q&&Nat.blt q (nx+ct.ri.length) with|true=>ρ' (q-nx)|false=>ρ q)=some gg:=hq
           cases hc:Nat.ble nx q&&Nat.blt q (nx+ct.ri.length) with
           |false=>rw[hc] at hq;exact .inl hq
           |true=>
            rw[Bool.and_eq_true] at hc
            exact .inr ⟨Nat.le_of_ble_eq_true hc.1,Nat.blt_eq▸hc.2⟩
         have hren:Ren2 (λj=>j) (ridOf ks0 nx ct.ri) ρ' ρ2:=λq gg hq=>by
          have hq:ρ' q=some gg:=hq
          have hlt:=hdom q gg hq
          have hnew:ρ2 (nx+q)=some gg:=by rw[hin _ (by omega) (by omega),show nx+q-nx=q from by omega];exact hq
          unfold ridOf
          split
          ·rename_i j p hj
           split
           ·rename_i k' hk'
            have hmem:k'∈tk.map (·.1):=by rw[htk1];exact List.mem_of_getElem? hk'
            obtain⟨z,hz,rfl⟩:=List.mem_map.1 hmem
            obtain⟨A,_,hrel⟩:=all2_mem hAt z hz
            obtain⟨g',hg'⟩:=item_some hrel
            have h1:=hsame q j p g' hj (by show(atN ks0 j).bind ρ=some g';rw[show atN ks0 j=some z.1 from hk'];exact hg')
            rw[hq] at h1
            obtain rfl:=someI' h1
            exact hgrow.keep _ _ hg'
           ·exact hnew
          ·exact hnew
         have hrl:(rids ks0 nx ct.ri).length=(ct.ri.map (·.2)).length:=by simp[rids]
         have hrk:∀q k',(rids ks0 nx ct.ri)[q]? =some k'→∀gg,ρ' (0+q)=some gg→ρ2 k'=some gg:=λq k' hq gg hg=>by
          rw[Nat.zero_add] at hg
          have hlt:=hdom q gg hg
          have:k'=ridOf ks0 nx ct.ri q:=by
           simp[rids,hlt] at hq
           exact hq.symm
          rw[this];exact hren q gg hg
         have finish:∀(Pf:List (World→Prop)),St R0 w' (As'++Au) Pf→(∀p∈Ps,p∈Pf)→RelAV S ρ' Pf (resAV (putVs S (λj=>j) ct.rv y).1) v→All2 (RelItem S ρ' Pf P) (numI 0 (putIs S (λj=>j) (ct.ri.map (·.2)) (putVs S (λj=>j) ct.rv y).2).1) As'→K (a.put o.dst v) w':=by
          intro Pf hstf hPf hresf hitf
          obtain⟨e3,hvr⟩:=putVs_ren (Ps:=Pf) hren (cs:=ct.rv) (z:=y)
          obtain⟨_,hir⟩:=putIs_ren (Ps:=Pf) (P:=P) hren (ps:=ct.ri.map (·.2)) (z:=(putVs S (λj=>j) ct.rv y).2) (i:=0) (ks:=rids ks0 nx ct.ri) hrl hrk
          refine hK v w' ρ2 Pf As' hgrow hPf ?_ ?_ hstf hkeep hb
          ·show RelAV S ρ2 Pf (resAV (putVs S (ridOf ks0 nx ct.ri) ct.rv y).1) v
           have:∀(xs ys:List (A1 S.τ)),xs.length=ys.length→(∀vs,All2 (RelA1 S ρ' Pf) xs vs→All2 (RelA1 S ρ2 Pf) ys vs)→RelAV S ρ' Pf (resAV xs) v→RelAV S ρ2 Pf (resAV ys) v:=by
            intro xs ys hl hh hx
            match xs,ys,hl with
            |[],[],_=>obtain⟨vs,h1,h2⟩:=hx;exact⟨vs,h1,hh _ h2⟩
            |[x],[z],_=>exact(hh [v] ⟨hx,trivial⟩).1
            |x::x'::xs,z::z'::ys,_=>obtain⟨vs,h1,h2⟩:=hx;exact⟨vs,h1,hh _ h2⟩
           refine this _ _ ?_ hvr hresf
           have hlen2:∀(m:Nat→Nat)(ps:List PV)(z:PVsT S.τ ps (PIsT S.τ (ct.ri.map (·.2)) Unit)),(putVs S m ps z).1.length=ps.length:=by
            intro m ps
            induction ps with
            |nil=>intro z;rfl
            |cons p ps ih=>intro z;simp[putVs,ih]
           rw[hlen2,hlen2]
          ·show All2 (RelItem S ρ2 Pf P) (zipI (rids ks0 nx ct.ri) (putIs S (ridOf ks0 nx ct.ri) (ct.ri.map (·.2)) (putVs S (ridOf ks0 nx ct.ri) ct.rv y).2).1) As'
           have:=hir _ hitf
           rw[e3] at this
           exact this
         have hback:=St.back (Ag:=At) (Al:=Au) (Ar:=[]) (by rw[List.append_nil];exact hst) (by simpa[fps] using hst') hkeep hb
         rw[List.append_nil] at hback
         rcases hflat with he|⟨hf1,hf2⟩
         ·have hAu0:Au=[]:=by
           have:ul=[]:=by
            rw[he] at hul
            exact List.map_eq_nil_iff.1 hul
           subst this
           exact All2.nil_left hAu
          have hst2:=hback.2 hAu0
          refine finish (Ps'++Ps) hst2 (λp hp=>List.mem_append_right _ hp) ?_ ?_
          ·exact RelAV.mono (λ_ _ h=>h) (λp hp=>List.mem_append_left _ hp) hres
          ·exact hitems.mono λ_ _ h=>RelItem.mono (λ_ _ h=>h) (λp hp=>List.mem_append_left _ hp) h
         ·obtain⟨qs,hq1,hq2⟩:=flat_Is ok (w:=w') (λp hp=>(hst'.per p hp).here) hf2 hitems
          have hst2:=hback.1.addPs (ps:=qs) λp hp w2 _=>hq1 p hp w2
          refine finish (qs++Ps) hst2 (λp hp=>List.mem_append_right _ hp) ?_ ?_
          ·exact flat_res (λvs h=>flat_Vs hf1 h) hres
          ·exact hq2.mono λ_ _ h=>RelItem.mono (λ_ _ h=>h) (λp hp=>List.mem_append_left _ hp) h
        ·cases htk
       ·cases htk
      ·cases htk
     ·cases htk
    ·cases htk
   ·exact opCallC_sound ok hcal Γ hΓ.2 h
  ·exact opCallC_sound ok hcal Γ hΓ.2 h
theorem rdY1_rel(ok:TabOk S){ρ:Rho}{Ps:List (World→Prop)}{t:Ty}{a:A1 S.τ}{y:Dn S.τ t}{v:Value}(h:rdY1 S t a=some y)(hr:RelA1 S ρ Ps a v):RelA1 S ρ Ps (canY S t y) v:=by
 cases t with
 |st i=>
  cases a with
  |one l=>cases h
  |agg ls=>
   simp only[rdY1] at h
   split at h
   ·rename_i hl hh
    obtain rfl:=someI' h
    obtain⟨vs,h1,h2⟩:=hr
    refine⟨vs,h1, ?_⟩
    show All2 (RelLf S ρ Ps) (hlLf (S.lv i) (S.get i (S.mkS i hl))) vs
    rw[ok.get_mk]
    exact toHL_rel hh h2
   ·cases h
 |int k=>cases a<;>first|exact toD_rel h hr|cases h
 |bool=>cases a<;>first|exact toD_rel h hr|cases h
 |str=>cases a<;>first|exact toD_rel h hr|cases h
 |fnc g=>cases a<;>first|exact toD_rel h hr|cases h
 |sl e=>cases a<;>first|exact toD_rel h hr|cases h
 |mp e=>cases a<;>first|exact toD_rel h hr|cases h
theorem rdYs_rel(ok:TabOk S){ρ:Rho}{Ps:List (World→Prop)}:∀{ys:List Ty} {as:List (A1 S.τ)} {y:HL S.τ ys} {vs:List Value},rdYs S ys as=some y→All2 (RelA1 S ρ Ps) as vs→All2 (RelA1 S ρ Ps) (canYs S ys y) vs
 |[],[],y,vs,h,hr=>by have:=All2.nil_left hr;subst this;trivial
 |t::ys,a::as,y,vs,h,hr=>by
  simp only[rdYs] at h
  split at h
  ·rename_i y1 y2 h1 h2
   obtain rfl:=someI' h
   obtain⟨v,vs',rfl,h3,h4⟩:=All2.cons_left hr
   exact⟨rdY1_rel ok h1 h3,rdYs_rel ok h2 h4⟩
  ·cases h
 |[],_::_,_,_,h,_=>by cases h
 |_::_,[],_,_,h,_=>by cases h
theorem callY_some{Y Z R:Type}{f:Y→Z→Option R}{m:Nat}{y:Y}{z:Z}{r:R}(h:callY f m y z=some r):m=0∧f y z=some r:=by
 cases m with
 |zero=>exact⟨rfl,h⟩
 |succ m=>cases h
theorem opCall_sound(ok:TabOk S){Γ:List (Ct S)}(hΓ:AllC P S Γ){o:Oper}{c:Call}{ev:Ev S.τ}{it:Nat→Option (Item S.τ)}{nx n:Nat}{k:Out S.τ→Option R}{r:R}(hop:o.op= .call c)(h:opCall S Γ ev it nx n c k=some r):∃out,k out=some r∧LocSem P S o ev it nx out:=by
 unfold opCall at h
 split at h
 ·rename_i f hf
  split at h
  ·rename_i g cs as h1 h2
   refine opCallC_sound ok (λa w ρ Ps hevr=> ?_) Γ hΓ h
   obtain⟨vs,hfv,hcap⟩:RelLf S ρ Ps (.fn g cs) (a.eval f):=hevr _ _ h1
   exact⟨_,(a1s_rel hevr h2).app (capLs_rel hcap),λhc=>callRun hop hf hfv hc⟩
  ·rename_i g u as h1 h2
   refine opCallC_sound ok (λa w ρ Ps hevr=> ?_) Γ hΓ h
   have hfv:a.eval f= .func (.func g) #[] ([]:List Value).toArray:=hevr _ _ h1
   exact⟨_,(a1s_rel hevr h2).app (capLs_rel (cs:=[]) (vs:=[]) trivial),λhc=>callRun hop hf hfv hc⟩
  ·rename_i g cs as h1 h2
   refine opCallC_sound ok (λa w ρ Ps hevr=> ?_) Γ hΓ h
   obtain⟨vs,hfv,hcap⟩:RelLf S ρ Ps (.bfn g cs) (a.eval f):=hevr _ _ h1
   exact⟨_,(capLs_rel hcap).app (a1s_rel hevr h2),λhc=>callRunB hop hf hfv hc⟩
  ·rename_i j as h1 h2
   split at h
   ·rename_i ys ts fy m z hj
    split at h
    ·rename_i y hy
     obtain⟨q,hq0,h3⟩:=bindS h
     obtain⟨hm0,hq⟩:=callY_some hq0
     clear h hq0
     subst hm0
     refine⟨_,h3, ?_⟩
     intro a w R0 ρ Ps At Au tk us hd hev htk hus hit hAt hAu hst hn K Q hK
     have e0:us=[]:=List.map_eq_nil_iff.1 hus
     subst e0
     have e0:=All2.nil_left hAu
     subst e0
     obtain⟨A,rfl,hA⟩:=take1 htk (λx hx=>hit x (by simpa using hx)) hj hAt
     rw[List.append_nil] at hst
     obtain⟨g,F,Pj,hg,rfl,hPj,hY⟩:=hA
     obtain⟨g',hg',hfv⟩:RelLf S ρ Ps (.yd j) (a.eval f):=hev _ _ h1
     rw[hg] at hg'
     obtain rfl:=someI' hg'
     have hargs:=rdYs_rel ok hy (a1s_rel hev h2)
     obtain⟨fn,tmps,assign,body,hrun,hround⟩:=hY y z q.1 q.2 hq ρ Ps _ R0 w F Pj hargs hPj hst
     have hex:(execOp a.eval o).run P w= .ok (.round g.b fn tmps assign body) w:=by
      rw[←hrun]
      simp only[execOp,hop,resolve,hf,hfv,Deferred.ofValue,Sem.run_bind,Sem.run_pure,Result.andThen_ok,invoke]
      congr 1
      congr 1
      apply Array.ext';simp
     unfold wpX
     rw[hex]
     refine hround.mono λe w' he=> ?_
     obtain⟨F',Ps',Pj',rfl,hP,hPj',hst',hkeep,hF'⟩:=he
     refine⟨_,rfl,hK _ w' ρ Ps' [opqA S g ts q.1 q.2 F' Pj'] (Grow.refl _ _ _) hP rfl ⟨⟨g,F',Pj',hg,rfl,hPj',hY⟩,trivial⟩ (by simpa using hst') (by simpa[fps,opqA,Asn.fp] using hkeep) λb hb=> ?_⟩
     simp only[fps,opqA,Asn.fp,List.flatMap_cons,List.flatMap_nil,List.append_nil] at hb⊢
     exact hF' b hb
    ·cases h
   ·cases h
  ·cases h
 ·cases h
def add64L(x y:Int):Int:=(((x.toNat+y.toNat) % 18446744073709551616:Nat):Int)
def add64C(x y:Int):Int:=(((x.toNat+y.toNat)/18446744073709551616:Nat):Int)
def AddOk(P:Program)(A:Option Nat):Prop:=∀g,A=some g→∀(x y:Int)(w:World),(callFunc g #[.int .u64 x,.int .u64 y,.int .u64 0]).run P w= .ok (.value (.tuple #[.int .u64 (add64L x y),.int .u64 (add64C x y)])) w
theorem addOk_none(P:Program):AddOk P none:=λg h=>by cases h
def opAdd{τ:Nat→Type}(A:Option Nat)(ev:Ev τ)(c:Call):Option (Int×Int):=match A,c.callee,c.args.toList with
 |some a,.value f,[x,y,z]=>match ev f,asInt1 (ev x),asInt1 (ev y),asInt1 (ev z) with
  |some (.v (.one (.fn g []))),some (.u64,m),some (.u64,p),some (.u64,q)=>match Nat.beq a g,decide (q=0) with
   |true,true=>some (m,p)
   |_,_=>none
  |_,_,_,_=>none
 |_,_,_=>none
theorem opAdd_sound{A:Option Nat}(hA:AddOk P A){o:Oper}{c:Call}{ev:Ev S.τ}{it:Nat→Option (Item S.τ)}{nx:Nat}{x y:Int}(hop:o.op= .call c)(h:opAdd A ev c=some (x,y)):
  LocSem P S o ev it nx ⟨.tup [.one (.d (.int .u64) (add64L x y)),.one (.d (.int .u64) (add64C x y))],[],[],[],0⟩:=by
 unfold opAdd at h
 split at h
 ·rename_i a f x1 y1 z1 hf hargs
  split at h
  ·rename_i g m p q h1 h2 h3 h4
   split at h
   ·rename_i hg hq
    simp only[Option.some.injEq,Prod.mk.injEq] at h
    obtain⟨rfl,rfl⟩:=h
    obtain rfl:=Nat.eq_of_beq_eq_true hg
    obtain rfl:=of_decide_eq_true hq
    refine loc_val λact w ρ Ps hev=>⟨.tuple #[.int .u64 (add64L m p),.int .u64 (add64C m p)], ?_,_,rfl,rfl,rfl,trivial⟩
    obtain⟨vs,hv,hvs⟩:RelLf S ρ Ps (.fn a []) (act.eval f):=hev _ _ h1
    have:=All2.nil_left hvs
    subst this
    have e:c.args.map act.eval= #[.int .u64 m,.int .u64 p,.int .u64 0]:=by
     have e1:c.args= #[x1,y1,z1]:=by apply Array.ext';simpa using hargs
     rw[e1]
     simp[asInt1_rel hev h2,asInt1_rel hev h3,asInt1_rel hev h4]
    simp only[execOp,hop,resolve,hf,hv,Deferred.ofValue,Sem.run_bind,Sem.run_pure,Result.andThen_ok,invoke,e]
    simpa using hA a rfl m p w
   ·cases h
  ·cases h
 ·cases h
end
end Go.Bur
