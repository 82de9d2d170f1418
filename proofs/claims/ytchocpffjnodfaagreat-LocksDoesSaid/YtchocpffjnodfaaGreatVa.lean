import Derived.Test.YtchocpffjnodfaaGreatWx
namespace Go.Bur
open Go.RowKit
set_option linter.unusedVariables false
set_option linter.unusedSimpArgs false
inductive Ty where
 |int (k:IntKind)
 |bool
 |str
 |st (i:Nat)
 |fnc (g:Nat)
 |sl (e:Ty)
 |mp (e:Ty)
def ikEq:(a b:IntKind)→Option (PLift (a=b))
 | .i8,.i8=>some ⟨rfl⟩
 | .i16,.i16=>some ⟨rfl⟩
 | .i32,.i32=>some ⟨rfl⟩
 | .i64,.i64=>some ⟨rfl⟩
 | .u8,.u8=>some ⟨rfl⟩
 | .u16,.u16=>some ⟨rfl⟩
 | .u32,.u32=>some ⟨rfl⟩
 | .u64,.u64=>some ⟨rfl⟩
 |_,_=>none
def natEq(a b:Nat):Option (PLift (a=b)):=match Nat.decEq a b with
 | .isTrue h=>some ⟨h⟩
 | .isFalse _=>none
def Ty.eq? :(t u:Ty)→Option (PLift (t=u))
 | .int a,.int b=>match ikEq a b with
  |some h=>some ⟨congrArg Ty.int h.down⟩
  |none=>none
 | .bool,.bool=>some ⟨rfl⟩
 | .str,.str=>some ⟨rfl⟩
 | .fnc a,.fnc b=>match natEq a b with
  |some h=>some ⟨congrArg Ty.fnc h.down⟩
  |none=>none
 | .st i,.st j=>match natEq i j with
  |some h=>some ⟨congrArg Ty.st h.down⟩
  |none=>none
 | .sl a,.sl b=>match Ty.eq? a b with
  |some h=>some ⟨congrArg Ty.sl h.down⟩
  |none=>none
 | .mp a,.mp b=>match Ty.eq? a b with
  |some h=>some ⟨congrArg Ty.mp h.down⟩
  |none=>none
 |_,_=>none
@[reducible] def Dn(τ:Nat→Type):Ty→Type
 | .int _=>Int
 | .bool=>Bool
 | .str=>ByteArray
 | .fnc _=>Unit
 | .st i=>τ i
 | .sl e=>List (Dn τ e)
 | .mp e=>List (Int×Dn τ e)
@[reducible] def HL(τ:Nat→Type):List Ty→Type
 |[]=>Unit
 |t::ts=>Dn τ t×HL τ ts
structure Tab where
 τ:Nat→Type
 lv:Nat→List Ty
 get:(i:Nat)→τ i→HL τ (lv i)
 mkS:(i:Nat)→HL τ (lv i)→τ i
 G:(i:Nat)→GoT (τ i)
@[reducible] def flatFn(g:Nat):Flat Unit:=⟨1,λ_=>[.func (.func g) #[] #[]],λ_=>rfl,λx=>oneAll rfl⟩
@[reducible] def flatI(k:IntKind):Flat Int:=⟨1,λx=>[.int k x],λ_=>rfl,λx=>oneAll rfl⟩
@[reducible] def noneG(α:Type):GoT α:=⟨1,λ_ _ _=>False,λh=>h.elim,λh _=>h.elim,λh=>h.elim⟩
@[reducible] def Tab.GT(S:Tab):(t:Ty)→GoT (Dn S.τ t)
 | .int k=>Flat.toGoT (flatI k)
 | .bool=>Flat.toGoT flat_bool
 | .str=>Flat.toGoT flat_str
 | .fnc g=>Flat.toGoT (flatFn g)
 | .st i=>S.G i
 | .sl e=>slG (S.GT e)
 | .mp e=>noneG _
def Ty.leaf:Ty→Bool
 | .st _=>false
 |_=>true
def Ty.flat:Ty→Bool
 | .int _=>true
 | .bool=>true
 | .str=>true
 | .fnc _=>true
 |_=>false
def flatT(S:Tab):Ty→Bool
 | .st i=>(S.lv i).all Ty.flat
 |t=>t.flat
def Tab.lvs(S:Tab):Ty→List Ty
 | .st i=>S.lv i
 |t=>[t]
def Tab.sz(S:Tab)(t:Ty):Nat:=(S.lvs t).length
def Tab.getT(S:Tab):(t:Ty)→Dn S.τ t→HL S.τ (S.lvs t)
 | .st i,x=>S.get i x
 | .int _,x=>(x,())
 | .bool,x=>(x,())
 | .str,x=>(x,())
 | .fnc _,x=>(x,())
 | .sl _,x=>(x,())
 | .mp _,x=>(x,())
def Tab.mkT(S:Tab):(t:Ty)→HL S.τ (S.lvs t)→Dn S.τ t
 | .st i,h=>S.mkS i h
 | .int _,h=>h.1
 | .bool,h=>h.1
 | .str,h=>h.1
 | .fnc _,h=>h.1
 | .sl _,h=>h.1
 | .mp _,h=>h.1
def HRep(S:Tab)(w:World):(ts:List Ty)→List Value→HL S.τ ts→Prop
 |[],vs,_=>vs=[]
 |t::ts,vs,h=>∃v vs',vs=v::vs'∧(S.GT t).rep w [v] h.1∧HRep S w ts vs' h.2
structure TabOk(S:Tab):Prop where
 mk_get:∀i x,S.mkS i (S.get i x)=x
 get_mk:∀i h,S.get i (S.mkS i h)=h
 leaf:∀i,∀t∈S.lv i,t.leaf=true
 sz:∀i,(S.G i).sz=(S.lv i).length
 rep:∀i w vs x,(S.G i).rep w vs x↔HRep S w (S.lv i) vs (S.get i x)
section
variable {S : Tab}
theorem HRep.len{w:World}:∀{ts:List Ty} {vs:List Value} {h:HL S.τ ts},HRep S w ts vs h→vs.length=ts.length
 |[],vs,h,hh=>by simp[HRep] at hh;simp[hh]
 |t::ts,vs,h,⟨v,vs',e,_,h2⟩=>by rw[e,List.length_cons,HRep.len h2,List.length_cons]
theorem leaf_lvs{t:Ty}(h:t.leaf=true):S.lvs t=[t]:=by cases t<;>first|rfl|cases h
theorem sz_eq(ok:TabOk S)(t:Ty):(S.GT t).sz=S.sz t:=by
 cases t with
 |st i=>exact ok.sz i
 |_=>rfl
theorem sz_leaf{t:Ty}(h:t.leaf=true):S.sz t=1:=by unfold Tab.sz;rw[leaf_lvs h];rfl
theorem one_cell{α:Type}(G:GoT α)(hs:G.sz=1){w:World}{vs:List Value}{x:α}(h:G.rep w vs x):∃v,vs=[v]:=by
 have:=G.len h;rw[hs] at this
 exact List.length_eq_one_iff.1 this
theorem GT_rep(ok:TabOk S)(t:Ty)(w:World)(vs:List Value)(x:Dn S.τ t):(S.GT t).rep w vs x↔HRep S w (S.lvs t) vs (S.getT t x):=by
 have one:∀t:Ty,t.leaf=true→∀(hl:S.lvs t=[t])(x:Dn S.τ t),((S.GT t).rep w vs x↔∃v vs',vs=v::vs'∧(S.GT t).rep w [v] x∧vs'=[]):=by
  intro t ht hl x
  constructor
  ·intro h
   obtain⟨v,rfl⟩:=one_cell _ (by rw[sz_eq ok,sz_leaf ht]) h
   exact⟨v,[],rfl,h,rfl⟩
  ·rintro⟨v,vs',rfl,h,rfl⟩;exact h
 cases t with
 |st i=>exact ok.rep i w vs x
 |int k=>exact one (.int k) rfl rfl x
 |bool=>exact one .bool rfl rfl x
 |str=>exact one .str rfl rfl x
 |fnc g=>exact one (.fnc g) rfl rfl x
 |sl e=>exact one (.sl e) rfl rfl x
 |mp e=>exact one (.mp e) rfl rfl x
theorem getT_mkT(ok:TabOk S):∀(t:Ty)(x:HL S.τ (S.lvs t)),S.getT t (S.mkT t x)=x
 | .st i,x=>ok.get_mk i x
 | .int _,_=>rfl
 | .bool,_=>rfl
 | .str,_=>rfl
 | .fnc _,_=>rfl
 | .sl _,_=>rfl
 | .mp _,_=>rfl
end
inductive Cap(τ:Nat→Type) where
 |bx (k:Nat)
 |ro (t:Ty) (x:Dn τ t)
inductive Lf(τ:Nat→Type) where
 |d (t:Ty) (x:Dn τ t)
 |nil
 |own (k:Nat)
 |box (k o:Nat)
 |el (k sz:Nat) (i:Int) (o:Nat)
 |ro (t:Ty) (x:Dn τ t) (o:Nat)
 |fn (g:Nat) (cs:List (Cap τ))
 |bfn (g:Nat) (cs:List (Cap τ))
 |full (t:Ty) (l:List (Dn τ t))
 |map (k:Nat)
 |yd (k:Nat)
 |vw (k sz:Nat) (i:Int)
 |si (k:Nat) (u:Ty) (l:List (Dn τ u))
 |se (k:Nat) (qs:List (Option IntKind))
 |er (e:Bool)
 |nmap
 |nptr
 |nfn
 |lit (b:Bool)
 |nb (neg e:Bool)
 |ud
 |un
inductive A1(τ:Nat→Type) where
 |one (x:Lf τ)
 |agg (xs:List (Lf τ))
inductive AV(τ:Nat→Type) where
 |v (x:A1 τ)
 |tup (xs:List (A1 τ))
inductive Item(τ:Nat→Type) where
 |box (xs:List (Lf τ))
 |row (e:TypeId) (t:Ty) (l:List (Dn τ t))
 |map (q:IntKind) (kt et:TypeId) (vt:Ty) (m:List (Int×Dn τ vt))
 |cmap (q:IntKind) (kt et:TypeId) (m:List (Int×Lf τ))
 |lmap (kt et:TypeId) (m:List (ByteArray×List (Lf τ)))
 |dmap (kt et:TypeId) (ky vt:Ty) (m:List (Dn τ ky×Dn τ vt))
 |opq (ys ts:List Ty) (f:HL τ ys→HL τ ts→Option (Nat×HL τ ts)) (m:Nat) (x:HL τ ts)
 |gst
 |mit (jm:Nat) (q:IntKind) (kt et:TypeId) (vt:Ty) (m:List (Int×Dn τ vt)) (l:List Int) (cur:Option Int)
 |deep (e:TypeId) (t:Ty) (es:List (Option TypeId)) (m:Option Nat) (l:List (Dn τ t))
 |rest (e:TypeId) (t:Ty) (es:List (Option TypeId)) (m:Option Nat) (l:List (Dn τ t)) (i:Int) (kb:Nat)
 |shed (e:TypeId) (t:Ty) (es:List (Option TypeId)) (m:Nat) (l:List (Dn τ t))
 |srest (e:TypeId) (t:Ty) (es:List (Option TypeId)) (l:List (Dn τ t)) (i:Int) (kb:Nat)
 |scr (t:Ty) (ex:Bool) (l:List (Dn τ t))
structure Sub where
 pre:List Value
 post:List Value
 ty:Option Nat
def noS:Sub:=⟨[],[],none⟩
structure Gh where
 a:Option Addr
 c:Nat
 n:Nat
 b:Nat
 j:(T:Type)→Nat→T→List Nat→List (World→Prop)→World→Prop
 s:Sub
def Gh.bo(g:Gh):Nat:=g.s.pre.length
def noJ:(T:Type)→Nat→T→List Nat→List (World→Prop)→World→Prop:=λ_ _ _ _ _ _=>False
abbrev Rho:=Nat→Option Gh
def All2{α β:Type}(R:α→β→Prop):List α→List β→Prop
 |[],[]=>True
 |x::xs,y::ys=>R x y∧All2 R xs ys
 |_,_=>False
section
variable {α β γ : Type} {R R' : α → β → Prop}
theorem All2.mono(h:∀x y,R x y→R' x y):∀{xs:List α} {ys:List β},All2 R xs ys→All2 R' xs ys
 |[],[],_=>trivial
 |_::_,_::_,hh=>⟨h _ _ hh.1,All2.mono h hh.2⟩
theorem All2.len:∀{xs:List α} {ys:List β},All2 R xs ys→xs.length=ys.length
 |[],[],_=>rfl
 |_::_,_::_,hh=>by rw[List.length_cons,List.length_cons,All2.len hh.2]
theorem All2.app:∀{xs:List α} {ys:List β} {xs':List α} {ys':List β},All2 R xs ys→All2 R xs' ys'→All2 R (xs++xs') (ys++ys')
 |[],[],_,_,_,h=>h
 |_::_,_::_,_,_,hh,h=>⟨hh.1,All2.app hh.2 h⟩
theorem All2.nil_left{ys:List β}(h:All2 R [] ys):ys=[]:=by cases ys with
 |nil=>rfl
 |cons _ _=>exact h.elim
theorem All2.cons_left{x:α}{xs:List α}{ys:List β}(h:All2 R (x::xs) ys):∃y ys',ys=y::ys'∧R x y∧All2 R xs ys':=by
 cases ys with
 |nil=>exact h.elim
 |cons y ys'=>exact⟨y,ys',rfl,h.1,h.2⟩
theorem All2.split:∀{xs xs':List α} {ys:List β},All2 R (xs++xs') ys→∃y1 y2,ys=y1++y2∧All2 R xs y1∧All2 R xs' y2
 |[],xs',ys,h=>⟨[],ys,rfl,trivial,h⟩
 |x::xs,xs',ys,h=>by
  obtain⟨y,ys',rfl,h1,h2⟩:=All2.cons_left h
  obtain⟨y1,y2,rfl,h3,h4⟩:=All2.split h2
  exact⟨y::y1,y2,rfl,⟨h1,h3⟩,h4⟩
theorem All2.perm:∀{xs xs':List α} {ys:List β},xs.Perm xs'→All2 R xs ys→∃ys',ys.Perm ys'∧All2 R xs' ys':=by
 intro xs xs' ys hp
 induction hp generalizing ys with
 |nil=>intro h;exact⟨ys,List.Perm.refl _,h⟩
 |cons x _ ih=>
  intro h
  obtain⟨y,r,rfl,h1,h2⟩:=All2.cons_left h
  obtain⟨r',hp,h3⟩:=ih h2
  exact⟨y::r',hp.cons y,h1,h3⟩
 |swap x y l=>
  intro h
  obtain⟨a,r,rfl,h1,h2⟩:=All2.cons_left h
  obtain⟨b,r,rfl,h3,h4⟩:=All2.cons_left h2
  exact⟨b::a::r,List.Perm.swap _ _ _,h3,h1,h4⟩
 |trans _ _ ih1 ih2=>
  intro h
  obtain⟨y1,p1,h1⟩:=ih1 h
  obtain⟨y2,p2,h2⟩:=ih2 h1
  exact⟨y2,p1.trans p2,h2⟩
theorem All2.take:∀(n:Nat){xs:List α}{ys:List β},All2 R xs ys→All2 R (xs.take n) (ys.take n)
 |0,_,_,_=>by simp[All2]
 |_+1,[],[],_=>trivial
 |n+1,_::_,_::_,h=>⟨h.1,All2.take n h.2⟩
theorem All2.drop:∀(n:Nat){xs:List α}{ys:List β},All2 R xs ys→All2 R (xs.drop n) (ys.drop n)
 |0,_,_,h=>h
 |_+1,[],[],_=>trivial
 |n+1,_::_,_::_,h=>All2.drop n h.2
theorem All2.get:∀{xs:List α} {ys:List β} {i:Nat} {x:α},All2 R xs ys→xs[i]? =some x→∃y,ys[i]? =some y∧R x y
 |[],[],i,x,_,h=>by simp at h
 |x::xs,y::ys,0,z,hh,h=>by simp at h;subst h;exact⟨y,rfl,hh.1⟩
 |x::xs,y::ys,i+1,z,hh,h=>by simpa using All2.get hh.2 (by simpa using h)
end
def hlLf{τ:Nat→Type}:(ts:List Ty)→HL τ ts→List (Lf τ)
 |[],_=>[]
 |t::ts,h=> .d t h.1::hlLf ts h.2
section
variable (S : Tab) (ρ : Rho) (Ps : List (World → Prop))
def RelD:(t:Ty)→Dn S.τ t→Value→Prop
 | .int k,x,v=>v= .int k x
 | .bool,x,v=>v= .bool x
 | .str,x,v=>v= .string x
 | .fnc g,_,v=>v= .func (.func g) #[] #[]
 | .st _,_,_=>False
 | .mp _,_,_=>False
 | .sl e,l,v=>∃a c,v= .slice a (@List.length (Dn S.τ e) l) c∧((l:List (Dn S.τ e))=[]∨(RSg (S.GT e) a c l∈Ps))
def RoF(t:Ty)(x:Dn S.τ t)(A:Addr):World→Prop:=λw=>∃cs,CellsAt w A cs∧(S.GT t).rep w cs x
def RelCap:Cap S.τ→Value→Prop
 | .bx k,v=>∃g,ρ k=some g∧v= .pointer (some ⟨g.b,g.bo,none⟩)
 | .ro t x,v=>∃A,v= .pointer (some A)∧RoF S t x A∈Ps
def InL(g:Gh)(A:Addr)(v:Value):Prop:=Value.tuple #[.pointer (some A),v]∈g.s.pre
def SeOk(g:Gh)(u:Ty)(A:Addr):Prop:=∀p q,(S.lvs u)[p]? =some (.int q)→InL g (A.add p) (.int q 0)
def SeQ(g:Gh)(qs:List (Option IntKind))(A:Addr):Prop:=∀p q,qs[p]? =some (some q)→InL g (A.add p) (.int q 0)
def kindQ:Ty→Option IntKind
 | .int q=>some q
 |_=>none
def SiOk(g:Gh)(u:Ty)(n:Nat)(v:Value):Prop:=∃a c,v= .slice a n c∧(n≠0→a≠none)∧∀j,j<n→SeOk S g u ((baseOf a).add (j*S.sz u))
def HdR(g:Gh):(ts:List Ty)→HL S.τ ts→Addr→Prop
 |[],_,_=>True
 | .sl u::ts,h,A=>(∃v,InL g A v∧SiOk S g u (@List.length (Dn S.τ u) h.1) v)∧HdR g ts h.2 (A.add 1)
 | .int _::ts,h,A=>HdR g ts h.2 (A.add 1)
 | .bool::ts,h,A=>HdR g ts h.2 (A.add 1)
 | .str::ts,h,A=>HdR g ts h.2 (A.add 1)
 | .fnc _::ts,h,A=>HdR g ts h.2 (A.add 1)
 | .st _::ts,h,A=>HdR g ts h.2 (A.add 1)
 | .mp _::ts,h,A=>HdR g ts h.2 (A.add 1)
def ReqOk(w:World)(A:Addr):Value→Prop
 | .int q _=>(∃z,CellsAt w A [.int q z])∧NF w A.block
 |v=>CellsAt w A [v]
def ScrP(g:Gh)(t:Ty)(ex:Bool)(l:List (Dn S.τ t))(w:World):Prop:=(ex=true→RSg (S.GT t) g.a g.c l w)∧∀A v,InL g A v→ReqOk w A v
def RelLf:Lf S.τ→Value→Prop
 | .d t x,v=>RelD S Ps t x v
 | .nil,v=>v= .slice none 0 0
 | .own k,v=>∃g,ρ k=some g∧v= .slice g.a g.n g.c
 | .box k o,v=>∃g,ρ k=some g∧v= .pointer (some ⟨g.b,g.bo+o,none⟩)
 | .el k sz i o,v=>∃g,ρ k=some g∧v= .pointer (some (((baseOf g.a).add (i.toNat*sz)).add o))
 | .ro t x o,v=>∃A,v= .pointer (some (A.add o))∧RoF S t x A∈Ps
 | .fn g cs,v=>∃vs:List Value,v= .func (.func g) #[] vs.toArray∧All2 (RelCap S ρ Ps) cs vs
 | .bfn g cs,v=>∃vs:List Value,v= .func (.func g) vs.toArray #[]∧All2 (RelCap S ρ Ps) cs vs
 | .full t l,v=>∃a,v= .slice a (@List.length (Dn S.τ t) l) (@List.length (Dn S.τ t) l)∧(l=[]∨(RSg (S.GT t) a (@List.length (Dn S.τ t) l) l∈Ps))
 | .map k,v=>∃g,ρ k=some g∧v= .map (some g.b)
 | .yd k,v=>∃g,ρ k=some g∧v= .func (.yield g.b) #[] #[]
 | .vw k sz i,v=>∃g a,ρ k=some g∧v= .slice a (g.n-i.toNat) (g.c-i.toNat)∧(i.toNat<g.n→a=some ((baseOf g.a).add (i.toNat*sz)))
 | .si k u l,v=>∃g,ρ k=some g∧SiOk S g u (@List.length (Dn S.τ u) l) v
 | .se k qs,v=>∃g A,ρ k=some g∧v= .pointer (some A)∧SeQ g qs A
 | .er e,v=>(e=false∧v= .nilIface)∨(e=true∧∃t p,v= .iface t p)
 | .nmap,v=>v= .map none
 | .nptr,v=>v= .pointer none
 | .nfn,v=>v= .nilFunc
 | .lit b,v=>v= .bool b
 | .nb neg e,v=>∃b:Bool,v= .bool (b !=neg)∧(b=true→e=true)
 | .ud,v=>v=undef
 | .un,_=>True
def RelA1:A1 S.τ→Value→Prop
 | .one x,v=>RelLf S ρ Ps x v
 | .agg xs,v=>∃vs:List Value,v= .agg vs.toArray∧All2 (RelLf S ρ Ps) xs vs
def RelAV:AV S.τ→Value→Prop
 | .v x,v=>RelA1 S ρ Ps x v
 | .tup xs,v=>∃vs:List Value,v= .tuple vs.toArray∧All2 (RelA1 S ρ Ps) xs vs
def BoxAt(g:Gh)(vs:List Value)(w:World):Prop:=∃T,w.heap[g.b]? =some (.cells (g.s.pre++vs++g.s.post).toArray T (0,0))∧∀e,g.s.ty=some e→T=e
def boxA(g:Gh)(vs:List Value):Asn:= .any [g.b] (BoxAt g vs)
def InR(e:TypeId)(t:Ty)(w:World)(v:Value)(l:List (Dn S.τ t))(F:List Nat):Prop:=
 ∃a c cs,v= .slice a l.length c∧F=(Asn.row a c e (S.sz t) l.length cs).fp∧(Asn.row a c e (S.sz t) l.length cs).holds w∧Reps (S.GT t) w cs l
def OneR(w:World):Option TypeId→(t:Ty)→Dn S.τ t→Value→List Nat→Prop
 |some e,.sl t,l,v,F=>flatT S t=true∧InR S e t w v l F
 |none,t,x,v,F=>t.flat=true∧RelD S [] t x v∧F=[]
 |some _,.int _,_,_,_=>False
 |some _,.bool,_,_,_=>False
 |some _,.str,_,_,_=>False
 |some _,.fnc _,_,_,_=>False
 |some _,.st _,_,_,_=>False
 |some _,.mp _,_,_,_=>False
def esH:List (Option TypeId)→Option TypeId
 |x::_=>x
 |[]=>none
def LvR(w:World):(ts:List Ty)→List (Option TypeId)→HL S.τ ts→List Value→List Nat→Prop
 |[],_,_,vs,F=>vs=[]∧F=[]
 |t::ts,es,h,vs,F=>∃v vs' F1 F2,vs=v::vs'∧F=F1++F2∧OneR S w (esH es) t h.1 v F1∧LvR w ts es.tail h.2 vs' F2
def DeepR(w:World)(t:Ty)(es:List (Option TypeId)):List (Dn S.τ t)→List Value→List Nat→Prop
 |[],cs,F=>cs=[]∧F=[]
 |x::l,cs,F=>∃c cs' F1 F2,cs=c++cs'∧F=F1++F2∧LvR S w (S.lvs t) es (S.getT t x) c F1∧DeepR w t es l cs' F2
def mOf{α:Type}:Option Nat→List α→Nat
 |none,l=>l.length
 |some m,_=>m
def ShR(t:Ty)(cs:List Value)(l:List (Dn S.τ t)):Prop:=(l=[]∧cs=[])∨RepsB (S.GT t) cs l∈Ps
def deepA(g:Gh)(e:TypeId)(t:Ty)(es:List (Option TypeId))(l:List (Dn S.τ t))(cs1 cs:List Value)(F:List Nat):Asn:= .any ((Asn.row g.a g.c e (S.sz t) g.n cs).fp++F) (λw=>(Asn.row g.a g.c e (S.sz t) g.n cs).holds w∧DeepR S w t es l cs1 F)
def restA(t:Ty)(es:List (Option TypeId))(l1 l2:List (Dn S.τ t))(c1 c2:List Value)(F1 F2:List Nat):Asn:= .any (F1++F2) (λw=>DeepR S w t es l1 c1 F1∧DeepR S w t es l2 c2 F2)
def CMapIs(q:IntKind)(b:Nat)(vs:List (Int×Value))(w:World):Prop:=∃es clock,w.heap[b]? =some (.map es clock)∧es.toList.map (λe=>(e.key,e.val))=vs.map λx=>(.int q x.1,x.2)
abbrev cmapA(q:IntKind)(b:Nat)(vs:List (Int×Value)):Asn:= .any [b] (CMapIs q b vs)
def LMapIs(b:Nat)(vs:List (ByteArray×List Value))(w:World):Prop:=∃es clock,w.heap[b]? =some (.map es clock)∧es.toList.map (λe=>(e.key,e.val))=vs.map λx=>(Value.string x.1,Value.agg x.2.toArray)
abbrev lmapA(b:Nat)(vs:List (ByteArray×List Value)):Asn:= .any [b] (LMapIs b vs)
def valT:Ty→List Value→Value
 | .st _,cs=> .agg cs.toArray
 |_,cs=>cs.headD undef
def DMapIs(ky vt:Ty)(b:Nat)(vs:List (List Value×List Value))(w:World):Prop:=∃es clock,w.heap[b]? =some (.map es clock)∧es.toList.map (λe=>(e.key,e.val))=vs.map λx=>(valT ky x.1,valT vt x.2)
abbrev dmapA(ky vt:Ty)(b:Nat)(vs:List (List Value×List Value)):Asn:= .any [b] (DMapIs ky vt b vs)
def DRep(ky vt:Ty)(l:List (Dn S.τ ky×Dn S.τ vt))(vs:List (List Value×List Value))(w:World):Prop:=All2 (fun(x:Dn S.τ ky×Dn S.τ vt) (y:List Value×List Value)=>(S.GT ky).rep w y.1 x.1∧(S.GT vt).rep w y.2 x.2) l vs
def mapZ:(t:Ty)→Option (Dn S.τ t×(Dn S.τ t→Value)×(Dn S.τ t→DataW Unit))
 | .bool=>some (false,Value.bool,λv=> .lit (.bool v))
 |_=>none
def opqA(g:Gh)(ts:List Ty)(m:Nat)(x:HL S.τ ts)(F:List Nat)(Pj:List (World→Prop)):Asn:= .any F (g.j (HL S.τ ts) m x F Pj)
def canY:(t:Ty)→Dn S.τ t→A1 S.τ
 | .st i,x=> .agg (hlLf (S.lv i) (S.get i x))
 | .int k,x=> .one (.d (.int k) x)
 | .bool,x=> .one (.d .bool x)
 | .str,x=> .one (.d .str x)
 | .fnc g,x=> .one (.d (.fnc g) x)
 | .sl e,x=> .one (.d (.sl e) x)
 | .mp e,x=> .one (.d (.mp e) x)
def canYs:(ys:List Ty)→HL S.τ ys→List (A1 S.τ)
 |[],_=>[]
 |t::ys,y=>canY S t y.1::canYs ys y.2
def YSem(P:Program)(g:Gh)(ys ts:List Ty)(f:HL S.τ ys→HL S.τ ts→Option (Nat×HL S.τ ts)):Prop:=
 ∀(y:HL S.τ ys)(x:HL S.τ ts)(m':Nat)(x':HL S.τ ts),f y x=some (m',x')→∀(ρ:Rho)(Ps:List (World→Prop))(args:List Value)(R:List Nat)(W:World)(F:List Nat)(Pj:List (World→Prop)),
  All2 (RelA1 S ρ Ps) (canYs S ys y) args→(∀p∈Pj,p∈Ps)→St R W [opqA S g ts 0 x F Pj] Ps→
  ∃fn tmps assign body,(Instr.yield g.b args.toArray).run P W= .ok (.round g.b fn tmps assign body) W∧RoundIn Fence.wide 0 P g.b fn tmps assign body W λe W'=>
   ∃F' Ps' Pj',e= .returned (.bool (Nat.beq m' 0))∧(∀p∈Ps,p∈Ps')∧(∀p∈Pj',p∈Ps')∧St R W' [opqA S g ts m' x' F' Pj'] Ps'∧Keep F W W'∧∀b∈F',b∈F∨W.heap.size≤b
def RelItem(P:Program):Nat×Item S.τ→Asn→Prop
 |(k,.box xs),A=>∃g vs,ρ k=some g∧A=boxA g vs∧All2 (RelLf S ρ Ps) xs vs
 |(k,.row e t l),A=>∃g cs,ρ k=some g∧A= .row g.a g.c e (S.sz t) g.n cs∧g.n=l.length∧RepsB (S.GT t) cs l∈Ps
 |(k,.map q kt et vt m),A=>∃g z E L,ρ k=some g∧mapZ S vt=some (z,E,L)∧A=mapA P kt et q z L g.b m
 |(k,.cmap q kt et m),A=>∃g vs,ρ k=some g∧A=cmapA q g.b vs∧All2 (fun(x:Int×Lf S.τ) (y:Int×Value)=>x.1=y.1∧RelLf S ρ Ps x.2 y.2) m vs
 |(k,.lmap kt et m),A=>∃g vs,ρ k=some g∧A=lmapA g.b vs∧All2 (fun(x:ByteArray×List (Lf S.τ)) (y:ByteArray×List Value)=>x.1=y.1∧All2 (RelLf S ρ Ps) x.2 y.2) m vs
 |(k,.dmap kt et ky vt m),A=>∃g vs,ρ k=some g∧A=dmapA ky vt g.b vs∧DRep S ky vt m vs∈Ps
 |(k,.opq ys ts f m x),A=>∃g F Pj,ρ k=some g∧A=opqA S g ts m x F Pj∧(∀p∈Pj,p∈Ps)∧YSem S P g ys ts f
 |(k,.gst),A=>∃g,ρ k=some g∧A= .any [] (λ_=>True)
 |(k,.mit jm q kt et vt m l cur),A=>∃g gm z E L cur',ρ k=some g∧ρ jm=some gm∧g.s=noS∧mapZ S vt=some (z,E,L)∧A=iterA P kt et q z E L gm.b g.b m l cur'∧∀x,cur=some x→cur'=some x
 |(k,.deep e t es m l),A=>∃g cs1 cs2 F,ρ k=some g∧A=deepA S g e t es (l.take (mOf m l)) cs1 (cs1++cs2) F∧g.n=l.length∧mOf m l≤l.length∧ShR S Ps t cs2 (l.drop (mOf m l))
 |(k,.rest e t es m l i kb),A=>∃g gb c1 c2 c3 ex F1 F2,ρ k=some g∧ρ kb=some gb∧A=restA S t es (l.take i.toNat) ((l.take (mOf m l)).drop (i.toNat+1)) c1 c2 F1 F2∧g.a=some ⟨gb.b,0,none⟩∧g.n=l.length∧
   gb.s=⟨c1,c2++c3++ex,some e⟩∧0≤i∧i.toNat<l.length∧i.toNat≤mOf m l∧mOf m l≤l.length∧(∀j,m=some j→i.toNat=j)∧c1.length=i.toNat*S.sz t∧(c1.length+S.sz t+(c2++c3).length)=l.length*S.sz t∧
   (c1.length+S.sz t+(c2++c3).length+ex.length)=g.c*S.sz t∧l.length≤g.c∧g.c≤maxLen∧ShR S Ps t c3 (l.drop (max (mOf m l) (i.toNat+1)))
 |(k,.shed e t es m l),A=>∃g cs1 cs2 F,ρ k=some g∧A=deepA S g e t es (l.drop m) cs2 (cs1++cs2) F∧g.n=l.length∧m≤l.length∧ShR S Ps t cs1 (l.take m)
 |(k,.srest e t es l i kb),A=>∃g gb c1 c2 ex F2,ρ k=some g∧ρ kb=some gb∧A=restA S t es [] (l.drop (i.toNat+1)) [] c2 [] F2∧g.a=some ⟨gb.b,0,none⟩∧g.n=l.length∧
   gb.s=⟨c1,c2++ex,some e⟩∧0≤i∧i.toNat<l.length∧c1.length=i.toNat*S.sz t∧(c1.length+S.sz t+c2.length)=l.length*S.sz t∧
   (c1.length+S.sz t+c2.length+ex.length)=g.c*S.sz t∧l.length≤g.c∧g.c≤maxLen∧ShR S Ps t c1 (l.take i.toNat)
 |(k,.scr t ex l),A=>∃g F b,ρ k=some g∧A= .any F (ScrP S g t b l)∧(ex=true→b=true)∧g.n=l.length∧(l≠[]→g.a≠none)∧(∀B v,InL g B v→B.block∈F)∧∀i x,l[i]? =some x→HdR S g (S.lvs t) (S.getT t x) ((baseOf g.a).add (i*S.sz t))
end
structure Grow(ρ ρ':Rho)(nx nn:Nat):Prop where
 keep:∀k g,ρ k=some g→ρ' k=some g
 new:∀k g,ρ' k=some g→ρ k=some g∨(nx≤k∧k<nx+nn)
theorem Grow.refl(ρ:Rho)(nx nn:Nat):Grow ρ ρ nx nn:=⟨λ_ _ h=>h,λ_ _ h=> .inl h⟩
section
variable {S : Tab} {ρ ρ' : Rho} {Ps Ps' : List (World → Prop)}
theorem RelD.mono(hP:∀p∈Ps,p∈Ps'):∀{t:Ty} {x:Dn S.τ t} {v:Value},RelD S Ps t x v→RelD S Ps' t x v
 | .int _,_,_,h=>h
 | .bool,_,_,h=>h
 | .str,_,_,h=>h
 | .fnc _,_,_,h=>h
 | .st _,_,_,h=>h
 | .mp _,_,_,h=>h
 | .sl _,_,_,⟨a,c,h1,h2⟩=>⟨a,c,h1,h2.imp id (hP _)⟩
theorem RelCap.mono(hr:∀k g,ρ k=some g→ρ' k=some g)(hP:∀p∈Ps,p∈Ps'):∀{x:Cap S.τ} {v:Value},RelCap S ρ Ps x v→RelCap S ρ' Ps' x v
 | .bx _,_,⟨g,h1,h2⟩=>⟨g,hr _ _ h1,h2⟩
 | .ro _ _,_,⟨A,h1,h2⟩=>⟨A,h1,hP _ h2⟩
theorem RelLf.mono(hr:∀k g,ρ k=some g→ρ' k=some g)(hP:∀p∈Ps,p∈Ps'):∀{x:Lf S.τ} {v:Value},RelLf S ρ Ps x v→RelLf S ρ' Ps' x v
 | .d _ _,_,h=>RelD.mono hP h
 | .nil,_,h=>h
 | .own _,_,⟨g,h1,h2⟩=>⟨g,hr _ _ h1,h2⟩
 | .box _ _,_,⟨g,h1,h2⟩=>⟨g,hr _ _ h1,h2⟩
 | .el _ _ _ _,_,⟨g,h1,h2⟩=>⟨g,hr _ _ h1,h2⟩
 | .ro _ _ _,_,⟨A,h1,h2⟩=>⟨A,h1,hP _ h2⟩
 | .fn _ _,_,⟨vs,h1,h2⟩=>⟨vs,h1,h2.mono λ_ _ h=>RelCap.mono hr hP h⟩
 | .bfn _ _,_,⟨vs,h1,h2⟩=>⟨vs,h1,h2.mono λ_ _ h=>RelCap.mono hr hP h⟩
 | .full _ _,_,⟨a,h1,h2⟩=>⟨a,h1,h2.imp id (hP _)⟩
 | .map _,_,⟨g,h1,h2⟩=>⟨g,hr _ _ h1,h2⟩
 | .yd _,_,⟨g,h1,h2⟩=>⟨g,hr _ _ h1,h2⟩
 | .vw _ _ _,_,⟨g,a,h1,h2⟩=>⟨g,a,hr _ _ h1,h2⟩
 | .si _ _ _,_,⟨g,h1,h2⟩=>⟨g,hr _ _ h1,h2⟩
 | .se _ _,_,⟨g,A,h1,h2⟩=>⟨g,A,hr _ _ h1,h2⟩
 | .er _,_,h=>h
 | .nmap,_,h=>h
 | .nptr,_,h=>h
 | .nfn,_,h=>h
 | .lit _,_,h=>h
 | .nb _ _,_,h=>h
 | .ud,_,h=>h
 | .un,_,h=>h
theorem RelA1.mono(hr:∀k g,ρ k=some g→ρ' k=some g)(hP:∀p∈Ps,p∈Ps'):∀{x:A1 S.τ} {v:Value},RelA1 S ρ Ps x v→RelA1 S ρ' Ps' x v
 | .one _,_,h=>RelLf.mono hr hP h
 | .agg _,_,⟨vs,h1,h2⟩=>⟨vs,h1,h2.mono λ_ _ h=>RelLf.mono hr hP h⟩
theorem RelAV.mono(hr:∀k g,ρ k=some g→ρ' k=some g)(hP:∀p∈Ps,p∈Ps'):∀{x:AV S.τ} {v:Value},RelAV S ρ Ps x v→RelAV S ρ' Ps' x v
 | .v _,_,h=>RelA1.mono hr hP h
 | .tup _,_,⟨vs,h1,h2⟩=>⟨vs,h1,h2.mono λ_ _ h=>RelA1.mono hr hP h⟩
theorem RelItem.mono{P:Program}(hr:∀k g,ρ k=some g→ρ' k=some g)(hP:∀p∈Ps,p∈Ps'):∀{x:Nat×Item S.τ} {A:Asn},RelItem S ρ Ps P x A→RelItem S ρ' Ps' P x A
 |(_,.box _),_,⟨g,vs,h1,h2,h3⟩=>⟨g,vs,hr _ _ h1,h2,h3.mono λ_ _ h=>RelLf.mono hr hP h⟩
 |(_,.row _ _ _),_,⟨g,cs,h1,h2,h3,h4⟩=>⟨g,cs,hr _ _ h1,h2,h3,hP _ h4⟩
 |(_,.map _ _ _ _ _),_,⟨g,z,E,L,h1,h2,h3⟩=>⟨g,z,E,L,hr _ _ h1,h2,h3⟩
 |(_,.cmap _ _ _ _),_,⟨g,vs,h1,h2,h3⟩=>⟨g,vs,hr _ _ h1,h2,h3.mono λ_ _ h=>⟨h.1,RelLf.mono hr hP h.2⟩⟩
 |(_,.lmap _ _ _),_,⟨g,vs,h1,h2,h3⟩=>⟨g,vs,hr _ _ h1,h2,h3.mono λ_ _ h=>⟨h.1,h.2.mono λ_ _ h=>RelLf.mono hr hP h⟩⟩
 |(_,.dmap _ _ _ _ _),_,⟨g,vs,h1,h2,h3⟩=>⟨g,vs,hr _ _ h1,h2,hP _ h3⟩
 |(_,.opq _ _ _ _ _),_,⟨g,F,Pj,h1,h2,h3,h4⟩=>⟨g,F,Pj,hr _ _ h1,h2,λp hp=>hP _ (h3 p hp),h4⟩
 |(_,.gst),_,⟨g,h1,h2⟩=>⟨g,hr _ _ h1,h2⟩
 |(_,.mit _ _ _ _ _ _ _ _),_,⟨g,gm,z,E,L,c,h1,h2,h3⟩=>⟨g,gm,z,E,L,c,hr _ _ h1,hr _ _ h2,h3⟩
 |(_,.deep _ _ _ _ _),_,⟨g,c1,c2,F,h1,h2,h3,h4,h5⟩=>⟨g,c1,c2,F,hr _ _ h1,h2,h3,h4,h5.imp id (hP _)⟩
 |(_,.rest _ _ _ _ _ _ _),_,⟨g,gb,c1,c2,c3,ex,F1,F2,h1,h2,h3,h4,h5,h6,h7,h8,h9,h10,h11,h12,h13,h14,h15,h16,h17⟩=>⟨g,gb,c1,c2,c3,ex,F1,F2,hr _ _ h1,hr _ _ h2,h3,h4,h5,h6,h7,h8,h9,h10,h11,h12,h13,h14,h15,h16,h17.imp id (hP _)⟩
 |(_,.shed _ _ _ _ _),_,⟨g,c1,c2,F,h1,h2,h3,h4,h5⟩=>⟨g,c1,c2,F,hr _ _ h1,h2,h3,h4,h5.imp id (hP _)⟩
 |(_,.srest _ _ _ _ _ _),_,⟨g,gb,c1,c2,ex,F2,h1,h2,h3,h4,h5,h6,h7,h8,h9,h10,h11,h12,h13,h14⟩=>⟨g,gb,c1,c2,ex,F2,hr _ _ h1,hr _ _ h2,h3,h4,h5,h6,h7,h8,h9,h10,h11,h12,h13,h14.imp id (hP _)⟩
 |(_,.scr _ _ _),_,⟨g,F,b,h1,h2⟩=>⟨g,F,b,hr _ _ h1,h2⟩
theorem cons1{α:Type}{x y:α}(h:[x]=[y]):x=y:=by injection h
theorem leaf_rel{t:Ty}(ht:t.leaf=true){F:List Nat}{w:World}{v:Value}{x:Dn S.τ t}(h:Bx F w (λw=>(S.GT t).rep w [v] x)):∃ps,(∀p∈ps,Bx F w p)∧RelD S ps t x v:=by
 cases t with
 |st i=>cases ht
 |int k=>exact⟨[],by simp,cons1 (show [v]=[.int k x] from h.here)⟩
 |bool=>exact⟨[],by simp,cons1 (show [v]=[.bool x] from h.here)⟩
 |str=>exact⟨[],by simp,cons1 (show [v]=[.string x] from h.here)⟩
 |fnc g=>exact⟨[],by simp,cons1 (show [v]=[.func (.func g) #[] #[]] from h.here)⟩
 |mp e=>exact(show False from h.here).elim
 |sl e=>
  obtain⟨a,c,h1,h2⟩:=slG_open (G:=S.GT e) h
  simp only[List.cons.injEq,and_true] at h1
  exact⟨[RSg (S.GT e) a c x],by simpa using h2,a,c,h1,.inr (by simp)⟩
theorem hrep_rel{F:List Nat}{w:World}:∀(ts:List Ty)(hl:∀t∈ts,t.leaf=true)(vs:List Value)(h:HL S.τ ts),Bx F w (λw=>HRep S w ts vs h)→∃ps,(∀p∈ps,Bx F w p)∧∀ρ,All2 (RelLf S ρ ps) (hlLf ts h) vs
 |[],_,vs,_,h=>⟨[],by simp,λρ=>by have:=h.here;simp[HRep] at this;subst this;trivial⟩
 |t::ts,hl,vs,h,hh=>by
  obtain⟨v,vs',e0,_,_⟩:=hh.here
  subst e0
  obtain⟨p1,h1,h2⟩:=leaf_rel (S:=S) (hl t (by simp)) (F:=F) (w:=w) (v:=v) (x:=h.1) λw' hk=>by
   obtain⟨v1,vs1,e1,h3,_⟩:=hh w' hk
   simp only[List.cons.injEq] at e1
   rw[e1.1];exact h3
  obtain⟨p2,h3,h4⟩:=hrep_rel ts (λt ht=>hl t (by simp[ht])) vs' h.2 (F:=F) (w:=w) λw' hk=>by
   obtain⟨v1,vs1,e1,_,h3⟩:=hh w' hk
   simp only[List.cons.injEq] at e1
   rw[e1.2];exact h3
  refine⟨p1++p2,λp hp=> ?_,λρ=>⟨h2.mono λp hp=>List.mem_append_left _ hp,(h4 ρ).mono λ_ _ h=>RelLf.mono (λ_ _ h=>h) (λp hp=>List.mem_append_right _ hp) h⟩⟩
  rcases List.mem_append.1 hp with hp|hp
  ·exact h1 p hp
  ·exact h3 p hp
theorem rel_leaf{t:Ty}{F:List Nat}{w:World}{v:Value}{x:Dn S.τ t}(hp:∀p∈Ps,Bx F w p)(h:RelD S Ps t x v):Bx F w (λw=>(S.GT t).rep w [v] x):=by
 cases t with
 |st i=>exact h.elim
 |int k=>intro w' _;exact congrArg (λv=>[v]) h
 |bool=>intro w' _;exact congrArg (λv=>[v]) h
 |str=>intro w' _;exact congrArg (λv=>[v]) h
 |fnc g=>intro w' _;exact congrArg (λv=>[v]) h
 |mp e=>exact h.elim
 |sl e=>
  obtain⟨a,c,rfl,h2⟩:=h
  intro w' hk
  refine⟨a,c,rfl, ?_⟩
  rcases h2 with h2|h2
  ·rw[h2];exact RS.nil _ _ _
  ·exact hp _ h2 w' hk
theorem rel_hrep{F:List Nat}{w:World}(hp:∀p∈Ps,Bx F w p):∀(ts:List Ty)(vs:List Value)(h:HL S.τ ts),All2 (RelLf S ρ Ps) (hlLf ts h) vs→Bx F w (λw=>HRep S w ts vs h)
 |[],vs,_,h=>by
  have:=All2.nil_left h
  subst this
  intro w' _;rfl
 |t::ts,vs,h,hh=>by
  obtain⟨v,vs',rfl,h1,h2⟩:=All2.cons_left hh
  have h3:=rel_leaf (S:=S) hp h1
  have h4:=rel_hrep hp ts vs' h.2 h2
  intro w' hk
  exact⟨v,vs',rfl,h3 w' hk,h4 w' hk⟩
theorem lvs_leaf(ok:TabOk S):∀t,∀u∈S.lvs t,u.leaf=true
 | .st i=>ok.leaf i
 | .int _=>by simp[Tab.lvs,Ty.leaf]
 | .bool=>by simp[Tab.lvs,Ty.leaf]
 | .str=>by simp[Tab.lvs,Ty.leaf]
 | .fnc _=>by simp[Tab.lvs,Ty.leaf]
 | .sl _=>by simp[Tab.lvs,Ty.leaf]
 | .mp _=>by simp[Tab.lvs,Ty.leaf]
end
end Go.Bur
