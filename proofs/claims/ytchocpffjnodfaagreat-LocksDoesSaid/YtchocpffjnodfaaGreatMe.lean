import Derived.Test.YtchocpffjnodfaaGreatMo
namespace Go.Bur
open Go.RowKit
set_option linter.unusedVariables false
set_option linter.unusedSimpArgs false
section
variable {τ : Nat → Type}
def castD{t u:Ty}(x:Dn τ t):Option (Dn τ u):=match Ty.eq? t u with
 |some h=>some (h.down▸x)
 |none=>none
def toD:(t:Ty)→Lf τ→Option (Dn τ t)
 |t,.d u x=>castD x
 | .sl e,.nil=>some []
 | .sl e,.full u l=>castD (t:= .sl u) (u:= .sl e) l
 | .bool,.lit b=>some b
 | .fnc g,.fn g' []=>match Nat.beq g g' with
  |true=>some ()
  |false=>none
 |_,_=>none
def toHL:(ts:List Ty)→List (Lf τ)→Option (HL τ ts)
 |[],[]=>some ()
 |t::ts,x::xs=>match toD t x,toHL ts xs with
  |some y,some h=>some (y,h)
  |_,_=>none
 |_,_=>none
end
section
variable {S : Tab} {ρ : Rho} {Ps : List (World → Prop)}
theorem toD_rel{t:Ty}{x:Lf S.τ}{y:Dn S.τ t}{v:Value}(h:toD t x=some y)(hr:RelLf S ρ Ps x v):RelD S Ps t y v:=by
 unfold toD at h
 split at h
 ·rename_i u z
  unfold castD at h
  split at h
  ·rename_i p _
   obtain⟨rfl⟩:=p
   obtain rfl:=someI' h
   exact hr
  ·cases h
 ·obtain rfl:=someI' h
  exact⟨none,0,hr,.inl rfl⟩
 ·rename_i e u l
  unfold castD at h
  split at h
  ·rename_i p _
   obtain⟨p⟩:=p
   injection p with p
   subst p
   obtain rfl:=someI' h
   obtain⟨a,h1,h2⟩:=hr
   exact⟨a,_,h1,h2⟩
  ·cases h
 ·obtain rfl:=someI' h
  exact hr
 ·split at h
  ·rename_i hg
   obtain rfl:=Nat.eq_of_beq_eq_true hg
   obtain⟨vs,h1,h2⟩:=hr
   have:=All2.nil_left h2
   subst this
   exact h1
  ·cases h
 ·cases h
theorem toHL_rel:∀{ts:List Ty} {xs:List (Lf S.τ)} {h:HL S.τ ts} {vs:List Value},toHL ts xs=some h→All2 (RelLf S ρ Ps) xs vs→All2 (RelLf S ρ Ps) (hlLf ts h) vs
 |[],xs,h,vs,hh,hr=>by
  cases xs with
  |nil=>exact hr
  |cons _ _=>cases hh
 |t::ts,xs,h,vs,hh,hr=>by
  cases xs with
  |nil=>cases hh
  |cons x xs=>
   simp only[toHL] at hh
   split at hh
   ·rename_i y h' h1 h2
    obtain rfl:=someI' hh
    obtain⟨v,vs',rfl,h3,h4⟩:=All2.cons_left hr
    exact⟨toD_rel h1 h3,toHL_rel h2 h4⟩
   ·cases hh
theorem RoF_open(ok:TabOk S){F:List Nat}{w:World}{t:Ty}{x:Dn S.τ t}{A:Addr}(h:Bx F w (RoF S t x A)):∃cs ps,cs.length=S.sz t∧Bx F w (Cel A cs)∧(∀p∈ps,Bx F w p)∧∀ρ,All2 (RelLf S ρ ps) (hlLf (S.lvs t) (S.getT t x)) cs:=by
 obtain⟨cs,hl,h1,h2⟩:=stable (A:=A) (n:=S.sz t) (p:=λw cs=>(S.GT t).rep w cs x) (λw cs h=>by rw[(S.GT t).len h,sz_eq ok]) h
 obtain⟨ps,h3,h4⟩:=hrep_rel (S:=S) (F:=F) (w:=w) (S.lvs t) (lvs_leaf ok t) cs (S.getT t x) λw' hk=>(GT_rep ok t w' cs x).1 (h2 w' hk)
 exact⟨cs,ps,hl,h1,h3,h4⟩
theorem rep_rel(ok:TabOk S){F:List Nat}{w:World}{t:Ty}{x:Dn S.τ t}{cs:List Value}(h:Bx F w (λw=>(S.GT t).rep w cs x)):∃ps,(∀p∈ps,Bx F w p)∧∀ρ,All2 (RelLf S ρ ps) (hlLf (S.lvs t) (S.getT t x)) cs:=
 hrep_rel (S:=S) (F:=F) (w:=w) (S.lvs t) (lvs_leaf ok t) cs (S.getT t x) λw' hk=>(GT_rep ok t w' cs x).1 (h w' hk)
theorem rel_rep(ok:TabOk S){F:List Nat}{w:World}(hp:∀p∈Ps,Bx F w p){t:Ty}{h:HL S.τ (S.lvs t)}{cs:List Value}(hr:All2 (RelLf S ρ Ps) (hlLf (S.lvs t) h) cs):Bx F w (λw=>(S.GT t).rep w cs (S.mkT t h)):=λw' hk=>by
 show(S.GT t).rep w' cs (S.mkT t h)
 rw[GT_rep ok,getT_mkT ok]
 exact rel_hrep hp (S.lvs t) cs h hr w' hk
theorem All2.mono2{xs:List (Lf S.τ)}{vs:List Value}{ps Ps':List (World→Prop)}(h:All2 (RelLf S ρ ps) xs vs)(hp:∀p∈ps,p∈Ps'):All2 (RelLf S ρ Ps') xs vs:=
 h.mono λ_ _ h=>RelLf.mono (λ_ _ h=>h) hp h
theorem RS.reps{α:Type}{G:GoT α}{w:World}{a:Option Addr}{c:Nat}:∀{l:List α},RS (G:=G) w a c l→∃cs,CellsAt w (baseOf a) cs∧Reps G w cs l:=by
 intro l h
 have key:∀(l:List α)(A:Addr),(∀i x,l[i]? =some x→∃e,G.rep w e x∧CellsAt w (A.add (i*G.sz)) e)→∃cs,CellsAt w A cs∧Reps G w cs l:=by
  intro l
  induction l with
  |nil=>intro A _;exact⟨[],CellsAt.nil _ _,.nil⟩
  |cons x r ih=>
   intro A hA
   obtain⟨e,h1,h2⟩:=hA 0 x rfl
   obtain⟨cs,h3,h4⟩:=ih (A.add G.sz) λi y hy=>by
    obtain⟨e',h5,h6⟩:=hA (i+1) y (by simpa using hy)
    refine⟨e',h5, ?_⟩
    rw[add_add,show G.sz+i*G.sz=(i+1)*G.sz from by rw[Nat.succ_mul,Nat.add_comm]]
    exact h6
   refine⟨e++cs,λk u hu=> ?_,.cons h1 h4⟩
   by_cases hk:k<e.length
   ·rw[List.getElem?_append_left hk] at hu
    have:=h2 k u hu
    rwa[Nat.zero_mul,add_zero'] at this
   ·rw[List.getElem?_append_right (by omega)] at hu
    have:=h3 _ u hu
    rw[add_add,←G.len h1,show e.length+(k-e.length)=k from by omega] at this
    exact this
 exact key l _ h.at_
end
section
variable {τ : Nat → Type}
def ldV(P:Program)(t:TypeId)(ls:List (Lf τ)):Option (A1 τ):=match aggOf P t,P.info? t with
 |some true,some i=>match Nat.beq ls.length i.size with
  |true=>some (.agg ls)
  |false=>none
 |some false,some _=>match ls with
  |[x]=>some (.one x)
  |_=>none
 |_,_=>none
def szOf(P:Program)(t:TypeId):Nat:=match P.info? t with
 |some i=>i.size
 |none=>0
end
def elLs(S:Tab)(t:Ty)(x:Dn S.τ t)(o n:Nat):List (Lf S.τ):=((hlLf (S.lvs t) (S.getT t x)).drop o).take n
section
variable {P : Program} {S : Tab} {R : Type}
def opLoad(P:Program)(S:Tab)(ev:Ev S.τ)(it:Nat→Option (Item S.τ))(t:TypeId)(x:Operand)(k:Out S.τ→Option R):Option R:=match ev x with
 |some (.v (.one (.box j o)))=>match it j with
  |some (.box xs)=>match ldV P t ((xs.drop o).take (szOf P t)) with
   |some y=>k ⟨.v y,[],[],[j],0⟩
   |none=>none
  |_=>none
 |some (.v (.one (.ro u y o)))=>match ldV P t (elLs S u y o (szOf P t)) with
  |some y=>k ⟨.v y,[],[],[],0⟩
  |none=>none
 |some (.v (.one (.el j sz i o)))=>match it j with
  |some (.row _ u l)=>match Nat.beq sz (S.sz u) with
   |true=>(idx l i).bind λy=>match ldV P t (elLs S u y o (szOf P t)) with
    |some y=>k ⟨.v y,[],[],[j],0⟩
    |none=>none
   |false=>none
  |some (.scr u _ l)=>match Nat.beq sz (S.sz u),aggOf P t,P.info? t with
   |true,some false,some _=>(idx l i).bind λy=>match elLs S u y o 1 with
    |[.d (.sl u2) l2]=>k ⟨.v (.one (.si j u2 l2)),[],[],[j],0⟩
    |_=>none
   |_,_,_=>none
  |_=>none
 |_=>none
theorem HdR_at{g:Gh}{u2:Ty}{l2:Dn S.τ (.sl u2)}{r:List (Lf S.τ)}:∀{ts:List Ty} {h:HL S.τ ts} {A:Addr} {o:Nat},HdR S g ts h A→(hlLf ts h).drop o= .d (.sl u2) l2::r→∃v,InL g (A.add o) v∧SiOk S g u2 (@List.length (Dn S.τ u2) l2) v
 |[],h,A,o,_,hd=>by simp[hlLf] at hd
 |t::ts,h,A,0,hh,hd=>by
  simp only[hlLf,List.drop_zero,List.cons.injEq] at hd
  obtain⟨hd,_⟩:=hd
  injection hd with h1 h2
  subst h1
  have h2:=eq_of_heq h2
  subst h2
  obtain⟨⟨v,h3,h4⟩,_⟩:=hh
  exact⟨v,by rw[add_zero'];exact h3,h4⟩
 |t::ts,h,A,o+1,hh,hd=>by
  simp only[hlLf,List.drop_succ_cons] at hd
  have h2:HdR S g ts h.2 (A.add 1):=by cases t<;>first|exact hh.2|exact hh
  obtain⟨v,h3,h4⟩:=HdR_at h2 hd
  exact⟨v,by rw[add_add,Nat.add_comm 1 o] at h3;exact h3,h4⟩
theorem ldV_rel{ρ:Rho}{Ps:List (World→Prop)}{t:TypeId}{ls:List (Lf S.τ)}{y:A1 S.τ}(h:ldV P t ls=some y){vs:List Value}(hr:All2 (RelLf S ρ Ps) ls vs):∃v,loadV P t vs=some v∧RelA1 S ρ Ps y v:=by
 unfold ldV at h
 unfold loadV
 split at h
 ·rename_i i ha hi
  split at h
  ·rename_i hb
   obtain rfl:=someI' h
   rw[ha,hi]
   simp only
   rw[←hr.len,hb]
   exact⟨_,rfl,vs,rfl,hr⟩
  ·cases h
 ·rename_i i ha hi
  split at h
  ·rename_i x
   obtain rfl:=someI' h
   obtain⟨v,vs',rfl,h1,h2⟩:=All2.cons_left hr
   have:=All2.nil_left h2
   subst this
   rw[ha,hi]
   exact⟨v,rfl,h1⟩
  ·cases h
 ·cases h
theorem row_open{ρ:Rho}{Ps:List (World→Prop)}{k:Nat}{e:TypeId}{t:Ty}{l:List (Dn S.τ t)}{A:Asn}(h:RelItem S ρ Ps P (k,.row e t l) A):∃g cs,ρ k=some g∧A= .row g.a g.c e (S.sz t) g.n cs∧g.n=l.length∧RepsB (S.GT t) cs l∈Ps:=h
theorem box_open{ρ:Rho}{Ps:List (World→Prop)}{k:Nat}{xs:List (Lf S.τ)}{A:Asn}(h:RelItem S ρ Ps P (k,.box xs) A):∃g vs,ρ k=some g∧A=boxA g vs∧All2 (RelLf S ρ Ps) xs vs:=h
theorem use1{us:List (Nat×Item S.τ)}{Au:List Asn}{ρ:Rho}{Ps:List (World→Prop)}{j:Nat}{it:Nat→Option (Item S.τ)}{x:Item S.τ}(hus:us.map (·.1)=[j])(hit:∀x∈us,it x.1=some x.2)(hj:it j=some x)(h:All2 (RelItem S ρ Ps P) us Au):∃A,Au=[A]∧us=[(j,x)]∧RelItem S ρ Ps P (j,x) A:=by
 match us,hus with
 |[(j',y)],hus=>
  simp only[List.map_cons,List.map_nil,List.cons.injEq,and_true] at hus
  subst hus
  have:=hit (j',y) (by simp)
  rw[hj] at this
  obtain rfl:=someI' this
  obtain⟨A,Au',rfl,h1,h2⟩:=All2.cons_left h
  have:=All2.nil_left h2
  subst this
  exact⟨A,rfl,rfl,h1⟩
theorem Reps.bx_at{S:Tab}{F:List Nat}{w:World}{t:Ty}{cs:List Value}{l:List (Dn S.τ t)}(h:Bx F w (RepsB (S.GT t) cs l)){i:Int}{x:Dn S.τ t}(hx:idx l i=some x):Bx F w (λw=>(S.GT t).rep w ((cs.drop (i.toNat*(S.GT t).sz)).take (S.GT t).sz) x):=λw' hk=>by
 unfold Bur.idx at hx
 split at hx
 ·exact(h w' hk).at_ _ _ hx
 ·cases hx
theorem opLoad_sound(ok:TabOk S){o:Oper}{ev:Ev S.τ}{it:Nat→Option (Item S.τ)}{nx:Nat}{t:TypeId}{x:Operand}{k:Out S.τ→Option R}{r:R}(hop:o.op= .load t x)(h:opLoad P S ev it t x k=some r):∃out,k out=some r∧LocSem P S o ev it nx out:=by
 have run:∀(a:Act)(w:World)(A:Addr)(cs:List Value)(v:Value),a.eval x= .pointer (some A)→CellsAt w A cs→loadV P t cs=some v→(execOp a.eval o).run P w= .ok (.value v) w:=λa w A cs v hx hc hv=>by
  obtain⟨dst,op,type,pos,after,guard⟩:=o
  simp only at hop
  subst hop
  simp only[execOp,hx,Sem.run_bind,loadV_run hv hc,Result.andThen_ok,Sem.run_pure]
 unfold opLoad at h
 split at h
 ·rename_i j o' hx
  split at h
  ·rename_i xs hj
   split at h
   ·rename_i y hy
    refine⟨_,h,loc_read [j] λa w F ρ Ps Au us hev hus hit hAu hh hps=> ?_⟩
    obtain⟨A,rfl,_,h1⟩:=use1 hus hit hj hAu
    obtain⟨g,vs,hg,rfl,hr⟩:=box_open h1
    obtain⟨g',hg',hxv⟩:=hev _ _ hx
    rw[hg] at hg'
    obtain rfl:=someI' hg'
    obtain⟨v,hv,hrv⟩:=ldV_rel hy ((hr.drop o').take _)
    refine⟨v,[],run a w _ _ v hxv ?_ hv,by simp,hrv⟩
    have:=(boxA_at (hh (boxA g vs) (by simp))).cells.sub o' (szOf P t)
    rwa[add_at] at this
   ·cases h
  ·cases h
 ·rename_i u y o' hx
  split at h
  ·rename_i z hz
   refine⟨_,h,loc_read [] λa w F ρ Ps Au us hev hus hit hAu hh hps=> ?_⟩
   obtain⟨A,hxv,hmem⟩:RelLf S ρ Ps (.ro u y o') (a.eval x):=hev _ _ hx
   obtain⟨cs,ps,hl,hc,hps',hr⟩:=RoF_open ok (hps _ hmem)
   obtain⟨v,hv,hrv⟩:=ldV_rel hz (((hr ρ).drop o').take (szOf P t))
   exact⟨v,ps,run a w _ _ v hxv (hc.here.sub o' _) hv,hps',RelA1.mono (λ_ _ h=>h) (λp hp=>List.mem_append_left _ hp) hrv⟩
  ·cases h
 ·rename_i j sz i o' hx
  split at h
  ·rename_i e u l hj
   split at h
   ·rename_i hsz
    obtain⟨y,hy,h⟩:=bindS h
    split at h
    ·rename_i z hz
     refine⟨_,h,loc_read [j] λa w F ρ Ps Au us hev hus hit hAu hh hps=> ?_⟩
     obtain⟨A,rfl,_,h1⟩:=use1 hus hit hj hAu
     obtain⟨g,cs,hg,rfl,hn,hmem⟩:=row_open h1
     obtain⟨g',hg',hxv⟩:=hev _ _ hx
     rw[hg] at hg'
     obtain rfl:=someI' hg'
     have hrep:=Reps.bx_at (hps _ hmem) hy
     obtain⟨ps,hps',hr⟩:=rep_rel ok hrep
     obtain⟨v,hv,hrv⟩:=ldV_rel hz (((hr ρ).drop o').take (szOf P t))
     refine⟨v,ps,run a w _ _ v hxv ?_ hv,hps',RelA1.mono (λ_ _ h=>h) (λp hp=>List.mem_append_left _ hp) hrv⟩
     have hc:=(row_cells (hh _ (List.mem_singleton_self _))).1.sub (i.toNat*S.sz u) (S.sz u)
     rw[Nat.eq_of_beq_eq_true hsz]
     rw[sz_eq ok] at*
     exact hc.sub o' _
    ·cases h
   ·cases h
  ·rename_i u ex l hj
   split at h
   ·rename_i inf hsz hag hinf
    obtain⟨y,hy,h⟩:=bindS h
    split at h
    ·rename_i u2 l2 hls
     refine⟨_,h,loc_read [j] λa w F ρ Ps Au us hev hus hit hAu hh hps=> ?_⟩
     obtain⟨A,rfl,_,h1⟩:=use1 hus hit hj hAu
     obtain⟨g,F',b,hg,rfl,hb,hn,hne,hblk,hhd⟩:=h1
     obtain⟨g',hg',hxv⟩:=hev _ _ hx
     rw[hg] at hg'
     obtain rfl:=someI' hg'
     have hyi:l[i.toNat]? =some y:=by
      unfold Bur.idx at hy
      split at hy
      ·exact hy
      ·cases hy
     have hsz:=Nat.eq_of_beq_eq_true hsz
     subst hsz
     have hdr:∃r,(hlLf (S.lvs u) (S.getT u y)).drop o'= .d (.sl u2) l2::r:=by
      unfold elLs at hls
      cases hd:(hlLf (S.lvs u) (S.getT u y)).drop o' with
      |nil=>rw[hd] at hls;simp at hls
      |cons z r=>rw[hd] at hls;simp at hls;exact⟨r,by rw[hls]⟩
     obtain⟨r,hdr⟩:=hdr
     obtain⟨v,hv1,hv2⟩:=HdR_at (hhd _ _ hyi) hdr
     have hread:=(hh _ (List.mem_singleton_self _):(Asn.any F' (ScrP S g u b l)).holds w) w (λ_ _=>rfl)
     have hcell:CellsAt w (((baseOf g.a).add (i.toNat*S.sz u)).add o') [v]:=by
      have h5:=hread.2 _ _ hv1
      obtain⟨a2,c2,rfl,_⟩:=hv2
      exact h5
     refine⟨v,[],run a w _ [v] v hxv hcell ?_,by simp,g,hg,hv2⟩
     unfold loadV
     rw[hag,hinf]
    ·cases h
   ·cases h
  ·cases h
 ·cases h
def sameI(i j:Int):Option Unit:=if i=j then some () else none
theorem sameI_eq{i j:Int}{u:Unit}(h:sameI i j=some u):i=j:=by
 unfold sameI at h
 split at h
 ·assumption
 ·cases h
def opIndex(P:Program)(S:Tab)(ev:Ev S.τ)(it:Nat→Option (Item S.τ))(t:TypeId)(x i:Operand)(k:Out S.τ→Option R):Option R:=match P.underlying t,asInt1 (ev i) with
 |some (.slice e),some (_,j)=>match ev x with
  |some (.v (.one (.d (.sl u) l)))=>match P.info? e with
   |some inf=>match Nat.beq inf.size (S.sz u) with
    |true=>(idx (l:List (Dn S.τ u)) j).bind λy=>k ⟨.v (.one (.ro u y 0)),[],[],[],0⟩
    |false=>none
   |none=>none
  |some (.v (.one (.own m)))=>match it m,P.info? e with
   |some (.row _ u l),some inf=>match Nat.beq inf.size (S.sz u) with
    |true=>(idx l j).bind λy=>k ⟨.v (.one (.el m (S.sz u) j 0)),[],[],[m],0⟩
    |false=>none
   |some (.rest _ u _ _ _ i kb),some inf=>match Nat.beq inf.size (S.sz u) with
    |true=>(sameI i j).bind λ_=>k ⟨.v (.one (.box kb 0)),[],[],[m],0⟩
    |false=>none
   |some (.srest _ u _ _ i kb),some inf=>match Nat.beq inf.size (S.sz u) with
    |true=>(sameI i j).bind λ_=>k ⟨.v (.one (.box kb 0)),[],[],[m],0⟩
    |false=>none
   |some (.scr u _ l),some inf=>match Nat.beq inf.size (S.sz u) with
    |true=>(idx l j).bind λ_=>k ⟨.v (.one (.el m (S.sz u) j 0)),[],[],[m],0⟩
    |false=>none
   |_,_=>none
  |some (.v (.one (.si m u l)))=>match P.info? e with
   |some inf=>match Nat.beq inf.size (S.sz u) with
    |true=>(idx (l:List (Dn S.τ u)) j).bind λ_=>k ⟨.v (.one (.se m ((S.lvs u).map kindQ))),[],[],[],0⟩
    |false=>none
   |none=>none
  |_=>none
 |some (.array n e),some (_,j)=>match ev x,P.info? e,decide (0≤j∧j<(n:Int)) with
  |some (.v (.one l)),some inf,true=>match offL (j.toNat*inf.size) l with
   |some l'=>k ⟨.v (.one l'),[],[],[],0⟩
   |none=>none
  |_,_,_=>none
 |_,_=>none
theorem run_indexAt{t e:TypeId}{inf:TypeInfo}{a:Option Addr}{n c:Nat}{kk:IntKind}{j:Int}{w:World}(hu:P.underlying t=some (.slice e))(hi:P.info? e=some inf)(hb:Inb a n j):
  (Instr.indexAt t (.slice a n c) (.int kk j)).run P w= .ok (.pointer (some ((baseOf a).add (j.toNat*inf.size)))) w:=by
 obtain⟨h0,h1,h2⟩:=hb
 cases a with
 |none=>exact absurd rfl h2
 |some A=>
  simp only[Instr.indexAt,asIntOf,Sem.run_bind,Sem.run_pure,Result.andThen_ok,run_underlying hu]
  simp[h0,h1,sizeOf,run_info hi,baseOf,run_underlying hu]
theorem opIndex_sound(ok:TabOk S){o:Oper}{ev:Ev S.τ}{it:Nat→Option (Item S.τ)}{nx:Nat}{t:TypeId}{x i:Operand}{k:Out S.τ→Option R}{r:R}(hop:o.op= .indexAddr t x i)(h:opIndex P S ev it t x i k=some r):∃out,k out=some r∧LocSem P S o ev it nx out:=by
 unfold opIndex at h
 split at h
 ·rename_i e kk j hu hi
  have run:∀(a:Act)(w:World)(A:Option Addr)(n c:Nat)(inf:TypeInfo),a.eval x= .slice A n c→a.eval i= .int kk j→P.info? e=some inf→Inb A n j→(execOp a.eval o).run P w= .ok (.value (.pointer (some ((baseOf A).add (j.toNat*inf.size))))) w:=λa w A n c inf hx hj hinf hb=>by
   obtain⟨dst,op,type,pos,after,guard⟩:=o
   simp only at hop
   subst hop
   simp only[execOp,hx,hj,Sem.run_bind,run_indexAt hu hinf hb,Result.andThen_ok,Sem.run_pure]
  split at h
  ·rename_i u l hx
   split at h
   ·rename_i inf hinf
    split at h
    ·rename_i hsz
     obtain⟨y,hy,h⟩:=bindS h
     refine⟨_,h,loc_read [] λa w F ρ Ps Au us hev hus hit hAu hh hps=> ?_⟩
     obtain⟨A,c,hxv,hl⟩:RelLf S ρ Ps (.d (.sl u) l) (a.eval x):=hev _ _ hx
     have hl:RSg (S.GT u) A c l∈Ps:=by
      rcases hl with hl|hl
      ·rw[hl] at hy;simp[idx] at hy
      ·exact hl
     obtain⟨hb,cs,h1,h2⟩:=gidx (hps _ hl) hy
     refine⟨_,[RoF S u y ((baseOf A).add (j.toNat*inf.size))],run a w A _ c inf hxv (asInt1_rel hev hi) hinf hb, ?_,(baseOf A).add (j.toNat*inf.size),rfl,by simp⟩
     intro p hp
     rw[List.mem_singleton] at hp
     subst hp
     intro w' hk
     refine⟨cs, ?_,h2 w' hk⟩
     have:=h1 w' hk
     rw[sz_eq ok,←Nat.eq_of_beq_eq_true hsz] at this
     exact this
    ·cases h
   ·cases h
  ·rename_i m hx
   split at h
   ·rename_i e' u l inf hm hinf
    split at h
    ·rename_i hsz
     obtain⟨y,hy,h⟩:=bindS h
     refine⟨_,h,loc_read [m] λa w F ρ Ps Au us hev hus hit hAu hh hps=> ?_⟩
     obtain⟨A,rfl,_,h1⟩:=use1 hus hit hm hAu
     obtain⟨g,cs,hg,rfl,hn,hmem⟩:=row_open h1
     obtain⟨g',hg',hxv⟩:=hev _ _ hx
     rw[hg] at hg'
     obtain rfl:=someI' hg'
     have hb:Inb g.a g.n j:=by
      obtain⟨_,h2,h3⟩:=row_cells (hh _ (List.mem_singleton_self _))
      unfold Bur.idx at hy
      split at hy
      ·rename_i h0
       obtain⟨hlt,_⟩:=List.getElem?_eq_some_iff.1 hy
       exact⟨h0,by omega,h3 (by omega)⟩
      ·cases hy
     refine⟨_,[],run a w _ _ _ inf hxv (asInt1_rel hev hi) hinf hb,by simp,g,hg, ?_⟩
     rw[add_zero',Nat.eq_of_beq_eq_true hsz]
    ·cases h
   ·rename_i e' u es mm l i kb inf hm hinf
    split at h
    ·rename_i hsz
     obtain⟨y,hy,hkk⟩:=bindS h
     obtain rfl:=sameI_eq hy
     refine⟨_,hkk,loc_read [m] λa w F ρ Ps Au us hev hus hit hAu hh hps=> ?_⟩
     obtain⟨A,rfl,_,h1⟩:=use1 hus hit hm hAu
     obtain⟨g,gb,c1,c2,c3,ex,F1,F2,hg,hgb,rfl,ha,hn,hs,h0,hlt,_,_,_,hc1,_⟩:=h1
     obtain⟨g',hg',hxv⟩:=hev _ _ hx
     rw[hg] at hg'
     obtain rfl:=someI' hg'
     have hb:Inb g.a g.n i:=⟨h0,by omega,by rw[ha];simp⟩
     refine⟨_,[],run a w _ _ _ inf hxv (asInt1_rel hev hi) hinf hb,by simp,gb,hgb, ?_⟩
     rw[ha,Nat.eq_of_beq_eq_true hsz]
     simp only[baseOf,Option.getD_some]
     rw[add_at,Nat.zero_add,Nat.add_zero]
     unfold Gh.bo
     rw[hs,hc1]
    ·cases h
   ·rename_i e' u es l i kb inf hm hinf
    split at h
    ·rename_i hsz
     obtain⟨y,hy,hkk⟩:=bindS h
     obtain rfl:=sameI_eq hy
     refine⟨_,hkk,loc_read [m] λa w F ρ Ps Au us hev hus hit hAu hh hps=> ?_⟩
     obtain⟨A,rfl,_,h1⟩:=use1 hus hit hm hAu
     obtain⟨g,gb,c1,c2,ex,F2,hg,hgb,rfl,ha,hn,hs,h0,hlt,hc1,_⟩:=h1
     obtain⟨g',hg',hxv⟩:=hev _ _ hx
     rw[hg] at hg'
     obtain rfl:=someI' hg'
     have hb:Inb g.a g.n i:=⟨h0,by omega,by rw[ha];simp⟩
     refine⟨_,[],run a w _ _ _ inf hxv (asInt1_rel hev hi) hinf hb,by simp,gb,hgb, ?_⟩
     rw[ha,Nat.eq_of_beq_eq_true hsz]
     simp only[baseOf,Option.getD_some]
     rw[add_at,Nat.zero_add,Nat.add_zero]
     unfold Gh.bo
     rw[hs,hc1]
    ·cases h
   ·rename_i u ex l inf hm hinf
    split at h
    ·rename_i hsz
     obtain⟨y,hy,h⟩:=bindS h
     refine⟨_,h,loc_read [m] λa w F ρ Ps Au us hev hus hit hAu hh hps=> ?_⟩
     obtain⟨A,rfl,_,h1⟩:=use1 hus hit hm hAu
     obtain⟨g,F',b,hg,rfl,_,hn,hne,_⟩:=h1
     obtain⟨g',hg',hxv⟩:=hev _ _ hx
     rw[hg] at hg'
     obtain rfl:=someI' hg'
     have hb:Inb g.a g.n j:=by
      unfold Bur.idx at hy
      split at hy
      ·rename_i h0
       obtain⟨hlt,_⟩:=List.getElem?_eq_some_iff.1 hy
       exact⟨h0,by omega,hne λe=>by rw[e] at hlt;simp at hlt⟩
      ·cases hy
     refine⟨_,[],run a w _ _ _ inf hxv (asInt1_rel hev hi) hinf hb,by simp,g,hg, ?_⟩
     rw[add_zero',Nat.eq_of_beq_eq_true hsz]
    ·cases h
   ·cases h
  ·rename_i m u l hx
   split at h
   ·rename_i inf hinf
    split at h
    ·rename_i hsz
     obtain⟨y,hy,h⟩:=bindS h
     refine⟨_,h,loc_read [] λa w F ρ Ps Au us hev hus hit hAu hh hps=> ?_⟩
     obtain⟨g,hg,A,c,hxv,hne,hse⟩:RelLf S ρ Ps (.si m u l) (a.eval x):=hev _ _ hx
     have hj:0≤j∧j.toNat< @List.length (Dn S.τ u) l:=by
      unfold Bur.idx at hy
      split at hy
      ·rename_i h0
       exact⟨h0,(List.getElem?_eq_some_iff.1 hy).1⟩
      ·cases hy
     have hb:Inb A (@List.length (Dn S.τ u) l) j:=⟨hj.1,by omega,hne (by omega)⟩
     refine⟨_,[],run a w A _ c inf hxv (asInt1_rel hev hi) hinf hb,by simp,g,_,hg,rfl, ?_⟩
     rw[Nat.eq_of_beq_eq_true hsz]
     intro p q hp
     rw[List.getElem?_map,Option.map_eq_some_iff] at hp
     obtain⟨ty,h1,h2⟩:=hp
     cases ty<;>cases h2
     exact hse _ hj.2 p q h1
    ·cases h
   ·cases h
  ·cases h
 ·rename_i n e kk j hu hi
  split at h
  ·rename_i l inf hx hinf hb
   split at h
   ·rename_i l' hl
    obtain⟨hb1,hb2⟩:=of_decide_eq_true hb
    refine⟨_,h,loc_val λa w ρ Ps hev=> ?_⟩
    obtain⟨A,hA,hr⟩:=offL_rel hl (hev _ _ hx)
    refine⟨_, ?_,hr⟩
    obtain⟨dst,op,type,pos,after,guard⟩:=o
    simp only at hop
    subst hop
    have hj:=asInt1_rel hev hi
    simp[execOp,hA,hj,Instr.indexAt,asIntOf,run_underlying hu,Instr.sureAddr,sizeOf,run_info hinf,hb1,hb2]
   ·cases h
  ·cases h
 ·cases h
def opLen(P:Program)(S:Tab)(ev:Ev S.τ)(it:Nat→Option (Item S.τ)):Op→Option (Int×List Nat)
 | .call c=>match c.callee,c.args.toList,c.argTypes.toList with
  | .builtin .len,[x],[t]=>match P.underlying t,ev x with
   |some (.slice _),some (.v (.one (.d (.sl u) l)))=>some ((@List.length (Dn S.τ u) l:Int),[])
   |some (.slice _),some (.v (.one .nil))=>some (0,[])
   |some (.slice _),some (.v (.one (.own m)))=>match it m with
    |some (.row _ _ l)=>some ((l.length:Int),[m])
    |some (.deep _ _ _ _ l)=>some ((l.length:Int),[m])
    |some (.rest _ _ _ _ l _ _)=>some ((l.length:Int),[m])
    |some (.shed _ _ _ _ l)=>some ((l.length:Int),[m])
    |some (.scr _ _ l)=>some ((l.length:Int),[m])
    |_=>none
   |some (.slice _),some (.v (.one (.si _ u l)))=>some ((@List.length (Dn S.τ u) l:Int),[])
   |_,_=>none
  |_,_,_=>none
 |_=>none
theorem opLen_sound{o:Oper}{ev:Ev S.τ}{it:Nat→Option (Item S.τ)}{nx:Nat}{z:Int}{us:List Nat}(h:opLen P S ev it o.op=some (z,us)):LocSem P S o ev it nx ⟨dint .i64 z,[],[],us,0⟩:=by
 obtain⟨dst,op,type,pos,after,guard⟩:=o
 simp only at h
 unfold opLen at h
 split at h
 ·rename_i c
  obtain⟨callee,⟨args⟩,⟨tys⟩⟩:=c
  split at h
  ·rename_i x t h1 h2 h3
   simp only at h1 h2 h3
   subst h1 h2 h3
   have run:∀(a:Act)(w:World)(e:TypeId)(A:Option Addr)(n c:Nat),P.underlying t=some (.slice e)→a.eval x= .slice A n c→(execOp a.eval (⟨dst,.call ⟨.builtin .len,⟨[x]⟩,⟨[t]⟩⟩,type,pos,after,guard⟩:Oper)).run P w= .ok (.value (.int .i64 n)) w:=λa w e A n c hu hx=>by
    simp[execOp,resolve,invoke,builtin,Builtin.len_,hx,run_underlying hu,goInt]
   split at h
   ·rename_i e u l hu hx
    simp only[Option.some.injEq,Prod.mk.injEq] at h
    obtain⟨rfl,rfl⟩:=h
    refine loc_val λa w ρ Ps hev=> ?_
    obtain⟨A,c,hxv,_⟩:RelLf S ρ Ps (.d (.sl u) l) (a.eval x):=hev _ _ hx
    exact⟨_,run a w e A _ c hu hxv,rfl⟩
   ·rename_i e hu hx
    simp only[Option.some.injEq,Prod.mk.injEq] at h
    obtain⟨rfl,rfl⟩:=h
    refine loc_val λa w ρ Ps hev=> ?_
    have hxv:a.eval x= .slice none 0 0:=hev _ _ hx
    exact⟨_,run a w e _ _ _ hu hxv,rfl⟩
   ·rename_i e m hu hx
    split at h
    ·rename_i e' u l hm
     simp only[Option.some.injEq,Prod.mk.injEq] at h
     obtain⟨rfl,rfl⟩:=h
     refine loc_read [m] λa w F ρ Ps Au us hev hus hit hAu hh hps=> ?_
     obtain⟨A,rfl,_,h1⟩:=use1 hus hit hm hAu
     obtain⟨g,cs,hg,rfl,hn,hmem⟩:=row_open h1
     obtain⟨g',hg',hxv⟩:=hev _ _ hx
     rw[hg] at hg'
     obtain rfl:=someI' hg'
     exact⟨_,[],run a w e _ _ _ hu hxv,by simp,by rw[hn];rfl⟩
    ·rename_i e' u es mm l hm
     simp only[Option.some.injEq,Prod.mk.injEq] at h
     obtain⟨rfl,rfl⟩:=h
     refine loc_read [m] λa w F ρ Ps Au us hev hus hit hAu hh hps=> ?_
     obtain⟨A,rfl,_,h1⟩:=use1 hus hit hm hAu
     obtain⟨g,c1,c2,G,hg,rfl,hn,_⟩:=h1
     obtain⟨g',hg',hxv⟩:=hev _ _ hx
     rw[hg] at hg'
     obtain rfl:=someI' hg'
     exact⟨_,[],run a w e _ _ _ hu hxv,by simp,by rw[hn];rfl⟩
    ·rename_i e' u es mm l i kb hm
     simp only[Option.some.injEq,Prod.mk.injEq] at h
     obtain⟨rfl,rfl⟩:=h
     refine loc_read [m] λa w F ρ Ps Au us hev hus hit hAu hh hps=> ?_
     obtain⟨A,rfl,_,h1⟩:=use1 hus hit hm hAu
     obtain⟨g,gb,c1,c2,c3,ex,F1,F2,hg,_,rfl,_,hn,_⟩:=h1
     obtain⟨g',hg',hxv⟩:=hev _ _ hx
     rw[hg] at hg'
     obtain rfl:=someI' hg'
     exact⟨_,[],run a w e _ _ _ hu hxv,by simp,by rw[hn];rfl⟩
    ·rename_i e' u es mm l hm
     simp only[Option.some.injEq,Prod.mk.injEq] at h
     obtain⟨rfl,rfl⟩:=h
     refine loc_read [m] λa w F ρ Ps Au us hev hus hit hAu hh hps=> ?_
     obtain⟨A,rfl,_,h1⟩:=use1 hus hit hm hAu
     obtain⟨g,c1,c2,G,hg,rfl,hn,_⟩:=h1
     obtain⟨g',hg',hxv⟩:=hev _ _ hx
     rw[hg] at hg'
     obtain rfl:=someI' hg'
     exact⟨_,[],run a w e _ _ _ hu hxv,by simp,by rw[hn];rfl⟩
    ·rename_i u ex l hm
     simp only[Option.some.injEq,Prod.mk.injEq] at h
     obtain⟨rfl,rfl⟩:=h
     refine loc_read [m] λa w F ρ Ps Au us hev hus hit hAu hh hps=> ?_
     obtain⟨A,rfl,_,h1⟩:=use1 hus hit hm hAu
     obtain⟨g,F',b,hg,rfl,hb,hn,_⟩:=h1
     obtain⟨g',hg',hxv⟩:=hev _ _ hx
     rw[hg] at hg'
     obtain rfl:=someI' hg'
     exact⟨_,[],run a w e _ _ _ hu hxv,by simp,by rw[hn];rfl⟩
    ·cases h
   ·rename_i e k u l hu hx
    simp only[Option.some.injEq,Prod.mk.injEq] at h
    obtain⟨rfl,rfl⟩:=h
    refine loc_val λa w ρ Ps hev=> ?_
    obtain⟨g,hg,A,c,hxv,_⟩:RelLf S ρ Ps (.si k u l) (a.eval x):=hev _ _ hx
    exact⟨_,run a w e A _ c hu hxv,rfl⟩
   ·cases h
  ·cases h
 ·cases h
def bndE{τ:Nat→Type}(ev:Ev τ)(d:Int):Option Operand→Option Int
 |none=>some d
 |some x=>match asInt1 (ev x) with
  |some (_,j)=>some j
  |none=>none
def opSlice(P:Program)(S:Tab)(ty:TypeId→Option Ty)(ev:Ev S.τ)(t:TypeId)(x:Operand)(lo hi:Option Operand)(k:Out S.τ→Option R):Option R:=match P.underlying t with
 |some (.slice e)=>match ev x,P.info? e with
  |some (.v (.one (.d (.sl u) l))),some inf=>match bndE ev 0 lo,bndE ev (@List.length (Dn S.τ u) l:Int) hi,Nat.beq inf.size (S.sz u) with
   |some l1,some h1,true=>(sub (l:List (Dn S.τ u)) l1 h1).bind λm=>k ⟨.v (.one (.d (.sl u) m)),[],[],[],0⟩
   |_,_,_=>none
  |some (.v (.one .nil)),some inf=>match bndE ev 0 lo,bndE ev 0 hi,ty e with
   |some l1,some h1,some u=>(sub ([]:List (Dn S.τ u)) l1 h1).bind λm=>k ⟨.v (.one (.d (.sl u) [])),[],[],[],0⟩
   |_,_,_=>none
  |_,_=>none
 |some .string=>match ev x with
  |some (.v (.one (.d .str s)))=>match bndE ev 0 lo,bndE ev (s.size:Int) hi with
   |some l1,some h1=>match decide (0≤l1∧l1≤h1∧h1≤(s.size:Int)) with
    |true=>k ⟨.v (.one (.d .str (s.extract l1.toNat h1.toNat))),[],[],[],0⟩
    |false=>none
   |_,_=>none
  |_=>none
 |_=>none
def sub3{α:Type}(l:List α)(hi mx:Int):Option (List α):=match decide (hi=mx) with
 |true=>sub l 0 hi
 |false=>none
def opSlice3(P:Program)(S:Tab)(ev:Ev S.τ)(t:TypeId)(x:Operand)(hi mx:Operand)(k:Out S.τ→Option R):Option R:=match P.underlying t with
 |some (.slice e)=>match ev x,P.info? e,asInt1 (ev hi),asInt1 (ev mx) with
  |some (.v (.one (.d (.sl u) l))),some inf,some (_,h1),some (_,m1)=>(sub3 (l:List (Dn S.τ u)) h1 m1).bind λm=>k ⟨.v (.one (.full u m)),[],[],[],0⟩
  |some (.v (.one .nil)),some inf,_,_=>none
  |_,_,_,_=>none
 |_=>none
theorem bndE_spec{ρ:Rho}{Ps:List (World→Prop)}{ev:Ev S.τ}{a:Act}(hev:EvRel S ρ Ps ev a){d j:Int}{x:Option Operand}(h:bndE ev d x=some j):match x.map a.eval with|none=>j=d|some v=>∃k,v= .int k j:=by
 unfold bndE at h
 split at h
 ·simpa using h.symm
 ·rename_i x
  split at h
  ·rename_i kk j' hx
   obtain rfl:=someI' h
   exact⟨kk,asInt1_rel hev hx⟩
  ·cases h
theorem opSlice_sound(ok:TabOk S){ty:TypeId→Option Ty}{o:Oper}{ev:Ev S.τ}{it:Nat→Option (Item S.τ)}{nx:Nat}{t:TypeId}{x:Operand}{lo hi:Option Operand}{k:Out S.τ→Option R}{r:R}(hop:o.op= .slice t x lo hi none)(h:opSlice P S ty ev t x lo hi k=some r):∃out,k out=some r∧LocSem P S o ev it nx out:=by
 obtain⟨dst,op,type,pos,after,guard⟩:=o
 simp only at hop
 subst hop
 unfold opSlice at h
 split at h
 ·rename_i e hu
  split at h
  ·rename_i u l inf hx hinf
   split at h
   ·rename_i l1 h1 hl1 hh1 hsz
    obtain⟨m,hm,h⟩:=bindS h
    refine⟨_,h,loc_read [] λa w F ρ Ps Au us hev hus hit hAu hh hps=> ?_⟩
    obtain⟨A,c,hxv,hl⟩:RelLf S ρ Ps (.d (.sl u) l) (a.eval x):=hev _ _ hx
    have hRS:Bx F w (RSg (S.GT u) A c l):=by
     rcases hl with hl|hl
     ·rw[hl];exact gnil
     ·exact hps _ hl
    obtain⟨⟨g1,g2,g3⟩,g4,g5⟩:=gsub hRS hm
    have hlo:=bndE_spec hev hl1
    have hhi:=bndE_spec hev hh1
    refine⟨.slice (slA A l1.toNat c inf.size) (h1.toNat-l1.toNat) (c-l1.toNat),[RSg (S.GT u) (slA A l1.toNat c (S.GT u).sz) (c-l1.toNat) m], ?_,by simpa using g5,slA A l1.toNat c (S.GT u).sz,c-l1.toNat, ?_,.inr (by simp)⟩
    ·have hrun:=run_slice_slice (lo:=lo.map a.eval) (hi:=hi.map a.eval) (a:=A) (m:= @List.length (Dn S.τ u) l) (c:=c) hu hinf hlo hhi g1 g2 g3 w
     simp only[execOp,hxv,Sem.run_bind,Option.map_none]
     rw[hrun]
     simp
    ·rw[g4,sz_eq ok,←Nat.eq_of_beq_eq_true hsz]
   ·cases h
  ·rename_i inf hx hinf
   split at h
   ·rename_i l1 h1 u hl1 hh1 hty
    obtain⟨m,hm,h⟩:=bindS h
    refine⟨_,h,loc_read [] λa w F ρ Ps Au us hev hus hit hAu hh hps=> ?_⟩
    have hxv:a.eval x= .slice none 0 0:=hev _ _ hx
    have hlo:=bndE_spec hev hl1
    have hhi:=bndE_spec hev hh1
    have hz:l1=0∧h1=0:=by
     unfold Bur.sub at hm
     split at hm
     ·rename_i hb;simp at hb;omega
     ·cases hm
    obtain⟨rfl,rfl⟩:=hz
    refine⟨.slice none 0 0,[], ?_,by simp,none,0,rfl,.inl rfl⟩
    have hrun:=run_slice_slice (lo:=lo.map a.eval) (hi:=hi.map a.eval) (a:=none) (m:=0) (c:=0) hu hinf hlo hhi (by omega) (by omega) (by omega) w
    simp only[execOp,hxv,Sem.run_bind,Option.map_none]
    rw[hrun]
    simp[slA]
   ·cases h
  ·cases h
 ·rename_i hu
  split at h
  ·rename_i s hx
   split at h
   ·rename_i l1 h1 hl1 hh1
    split at h
    ·rename_i hb
     obtain⟨g1,g2,g3⟩:=of_decide_eq_true hb
     refine⟨_,h,loc_val λa w ρ Ps hev=> ?_⟩
     have hxv:a.eval x= .string s:=hev _ _ hx
     have hlo:=bndE_spec hev hl1
     have hhi:=bndE_spec hev hh1
     refine⟨.string (s.extract l1.toNat h1.toNat), ?_,rfl⟩
     have hrun:=run_slice_str (lo:=lo.map a.eval) (hi:=hi.map a.eval) (s:=s) hu hlo hhi g1 g2 g3 w
     simp only[execOp,hxv,Sem.run_bind,Option.map_none]
     rw[hrun]
     simp
    ·cases h
   ·cases h
  ·cases h
 ·cases h
theorem opSlice3_sound(ok:TabOk S){o:Oper}{ev:Ev S.τ}{it:Nat→Option (Item S.τ)}{nx:Nat}{t:TypeId}{x hi mx:Operand}{k:Out S.τ→Option R}{r:R}(hop:o.op= .slice t x none (some hi) (some mx))(h:opSlice3 P S ev t x hi mx k=some r):∃out,k out=some r∧LocSem P S o ev it nx out:=by
 obtain⟨dst,op,type,pos,after,guard⟩:=o
 simp only at hop
 subst hop
 unfold opSlice3 at h
 split at h
 ·rename_i e hu
  split at h
  ·rename_i u l inf kh h1 km m1 hx hinf hh hm
   obtain⟨m,hm3,h⟩:=bindS h
   refine⟨_,h,loc_read [] λa w F ρ Ps Au us hev hus hit hAu hh' hps=> ?_⟩
   obtain⟨A,c,hxv,hl⟩:RelLf S ρ Ps (.d (.sl u) l) (a.eval x):=hev _ _ hx
   have hRS:Bx F w (RSg (S.GT u) A c l):=by
    rcases hl with hl|hl
    ·rw[hl];exact gnil
    ·exact hps _ hl
   unfold sub3 at hm3
   split at hm3
   ·rename_i heq
    obtain rfl:=of_decide_eq_true heq
    have hlen:=hRS.here.cap
    have hml:h1.toNat=m.length∧0≤h1∧m=l.take h1.toNat∧h1≤(@List.length (Dn S.τ u) l:Int):=by
     unfold Bur.sub at hm3
     split at hm3
     ·rename_i hb
      obtain rfl:=someI' hm3
      refine⟨?_,hb.2.1,by simp,hb.2.2⟩
      have:=hb.2.1
      have:=hb.2.2
      simp;omega
     ·cases hm3
    obtain⟨g1,g2,g3,g4⟩:=hml
    have e1:=asInt1_rel hev hh
    have e2:=asInt1_rel hev hm
    have hcc:(@List.length (Dn S.τ u) l:Int)≤(c:Int):=by exact_mod_cast hlen
    have hsl:slA A 0 h1.toNat inf.size=A:=by
     unfold slA
     split
     ·rfl
     ·cases A with
      |none=>rfl
      |some B=>simp[add_zero']
    refine⟨.slice A m.length m.length,[RSg (S.GT u) A m.length m], ?_, ?_,A,rfl,.inr (by simp)⟩
    ·have hrun:=run_slice_three (P:=P) (lo:=none) (kh:=kh) (km:=km) (l:=0) (h:=h1) (m:=h1) (a:=A) (n:= @List.length (Dn S.τ u) l) (c:=c) hu hinf rfl (by omega) (by omega) (by omega) (by omega) w
     simp only[execOp,hxv,Sem.run_bind,Option.map_none,Option.map_some,e1,e2]
     rw[hrun]
     simp[g1]
     rw[←g1];exact hsl
    ·intro p hp w' hk
     simp only[List.mem_singleton] at hp
     subst hp
     have h2:=hRS w' hk
     refine⟨Nat.le_refl _,λhne=>h2.some_ λe=>hne (by rw[g3,e];simp),λi y hy=> ?_⟩
     have hlt:i<h1.toNat:=by
      have:=(List.getElem?_eq_some_iff.1 hy).1
      omega
     rw[g3,List.getElem?_take_of_lt hlt] at hy
     exact h2.at_ i y hy
   ·cases hm3
  ·cases h
  ·cases h
 ·cases h
end
end Go.Bur
