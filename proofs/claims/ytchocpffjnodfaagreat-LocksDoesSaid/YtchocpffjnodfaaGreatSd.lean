import Derived.Test.YtchocpffjnodfaaGreatRf
namespace Go.Bur
open Go.RowKit
set_option linter.unusedVariables false
set_option linter.unusedSimpArgs false
section
variable {S : Tab}
def SubW(w w2:World):Prop:=∀A u,w.cell? A=some u→w2.cell? A=some u
theorem SubW.cells{w w2:World}(s:SubW w w2){A:Addr}{vs:List Value}(h:CellsAt w A vs):CellsAt w2 A vs:=λk u hu=>s _ _ (h k u hu)
def lv2(S:Tab):Ty→Bool
 | .sl u=>flatT S u
 | .st _=>false
 | .mp _=>false
 |_=>true
def two(S:Tab)(t:Ty):Bool:=(S.lvs t).all (lv2 S)
theorem rs_flat(ok:TabOk S){u:Ty}(hu:flatT S u=true){w w2:World}(s:SubW w w2){a:Option Addr}{c:Nat}{l:List (Dn S.τ u)}(h:RSg (S.GT u) a c l w):RSg (S.GT u) a c l w2:=
 ⟨h.cap,h.some_,λi x hx=>by
  obtain⟨e,h1,h2⟩:=h.at_ i x hx
  exact⟨e,flat_rep ok hu h1,s.cells h2⟩⟩
theorem leaf_sub(ok:TabOk S){t:Ty}(ht:lv2 S t=true){w w2:World}(s:SubW w w2){v:Value}{x:Dn S.τ t}(h:(S.GT t).rep w [v] x):(S.GT t).rep w2 [v] x:=by
 cases t with
 |st i=>cases ht
 |mp e=>cases ht
 |int k=>exact h
 |bool=>exact h
 |str=>exact h
 |fnc g=>exact h
 |sl u=>
  obtain⟨a,c,h1,h2⟩:=h
  exact⟨a,c,h1,rs_flat ok ht s h2⟩
theorem hrep_sub(ok:TabOk S){w w2:World}(s:SubW w w2):∀(ts:List Ty)(ht:ts.all (lv2 S)=true)(vs:List Value)(h:HL S.τ ts),HRep S w ts vs h→HRep S w2 ts vs h
 |[],_,vs,h,hh=>hh
 |t::ts,ht,vs,h,⟨v,vs',e,h1,h2⟩=>by
  simp only[List.all_cons,Bool.and_eq_true] at ht
  exact⟨v,vs',e,leaf_sub ok ht.1 s h1,hrep_sub ok s ts ht.2 _ _ h2⟩
theorem rep_sub(ok:TabOk S){t:Ty}(ht:two S t=true){w w2:World}(s:SubW w w2){vs:List Value}{x:Dn S.τ t}(h:(S.GT t).rep w vs x):(S.GT t).rep w2 vs x:=by
 rw[GT_rep ok] at h⊢
 exact hrep_sub ok s _ ht _ _ h
theorem rs_sub(ok:TabOk S){t:Ty}(ht:two S t=true){w w2:World}(s:SubW w w2){a:Option Addr}{c:Nat}{l:List (Dn S.τ t)}(h:RSg (S.GT t) a c l w):RSg (S.GT t) a c l w2:=
 ⟨h.cap,h.some_,λi x hx=>by
  obtain⟨e,h1,h2⟩:=h.at_ i x hx
  exact⟨e,rep_sub ok ht s h1,s.cells h2⟩⟩
def blind(F:List Nat)(w:World):World:={w with heap:=Array.ofFn λk:Fin w.heap.size=>if k.1∈F then w.heap[k.1] else .deferred none}
theorem blind_size(F:List Nat)(w:World):(blind F w).heap.size=w.heap.size:=by simp[blind]
theorem blind_in{F:List Nat}{w:World}{k:Nat}(h:k∈F):(blind F w).heap[k]? =w.heap[k]? :=by
 unfold blind
 by_cases hk:k<w.heap.size
 ·simp[hk,h]
 ·simp[hk]
theorem blind_out{F:List Nat}{w:World}{k:Nat}(h:k∉F)(hk:k<w.heap.size):(blind F w).heap[k]? =some (.deferred none):=by
 unfold blind
 simp[hk,h]
theorem blind_cell{F:List Nat}{w:World}{A:Addr}{u:Value}(h:(blind F w).cell? A=some u):A.block∈F∧w.cell? A=some u:=by
 have hlt:A.block<w.heap.size:=by have:=World.block_lt_of_cell? _ _ h;rwa[blind_size] at this
 by_cases hm:A.block∈F
 ·refine⟨hm, ?_⟩
  unfold World.cell? at h⊢
  rwa[blind_in hm] at h
 ·unfold World.cell? at h
  rw[blind_out hm hlt] at h
  cases h
theorem blind_sub{F:List Nat}{w w2:World}(h:∀k∈F,w2.heap[k]? =w.heap[k]?):SubW (blind F w) w2:=λA u hu=>by
 obtain⟨h1,h2⟩:=blind_cell hu
 unfold World.cell? at h2⊢
 rw[h _ h1];exact h2
theorem blind_nf{F:List Nat}{w:World}(h:∀b∈F,NF w b)(b:Nat):NF (blind F w) b:=λc T fr hc=>by
 by_cases hb:b∈F
 ·rw[blind_in hb] at hc;exact h b hb c T fr hc
 ·by_cases hk:b<w.heap.size
  ·rw[blind_out hb hk] at hc;cases hc
  ·rw[Array.getElem?_eq_none (by rw[blind_size];omega)] at hc;cases hc
theorem blind_drn{F:List Nat}{w:World}:Drn w (blind F w):=⟨Nat.le_refl _,λb hb c T fr hc=>by
 by_cases hm:b∈F
 ·rw[blind_in hm] at hc;exact hb c T fr hc
 ·by_cases hk:b<w.heap.size
  ·rw[blind_out hm hk] at hc;cases hc
  ·rw[Array.getElem?_eq_none (by rw[blind_size];omega)] at hc;cases hc⟩
def blkD(n:Nat)(G:List Nat):List Nat:=(List.range n).filter λk=>decide (k∉G)
theorem mem_blkD{n:Nat}{G:List Nat}{k:Nat}:k∈blkD n G↔k<n∧k∉G:=by simp[blkD]
theorem nodup_blkD{n:Nat}{G:List Nat}:(blkD n G).Nodup:=List.nodup_range.filter _
theorem blind_keep{G:List Nat}{w:World}:Keep G w (blind (blkD w.heap.size G) w):=
 ⟨rfl,rfl,rfl,blind_drn,by rw[blind_size];exact Nat.le_refl _,λk hk hn=>blind_in (mem_blkD.2 ⟨hk,hn⟩)⟩
theorem rs_owned(ok:TabOk S){t:Ty}(ht:two S t=true){G:List Nat}{w:World}{a:Option Addr}{c:Nat}{l:List (Dn S.τ t)}(h:Bx G w (RSg (S.GT t) a c l)):
  ∀w2,(∀k∈blkD w.heap.size G,w2.heap[k]? =w.heap[k]?)→RSg (S.GT t) a c l w2:=λw2 hw=>
 rs_sub ok ht (blind_sub hw) (h _ blind_keep)
def mkR(A:Addr)(v:Value):Value:= .tuple #[.pointer (some A),v]
theorem mkR_inj{A B:Addr}{u v:Value}(h:mkR A u=mkR B v):A=B∧u=v:=by
 unfold mkR at h
 simp only[Value.tuple.injEq,Array.mk.injEq,List.cons.injEq,Value.pointer.injEq,Option.some.injEq,and_true] at h
 exact h
theorem hrep_int{w:World}{q:IntKind}:∀{ts:List Ty} {vs:List Value} {h:HL S.τ ts} {p:Nat},HRep S w ts vs h→ts[p]? =some (.int q)→∃z,vs[p]? =some (.int q z)
 |[],_,_,p,_,hp=>by simp at hp
 |t::ts,vs,h,0,⟨v,vs',e,h1,h2⟩,hp=>by
  simp only[List.getElem?_cons_zero,Option.some.injEq] at hp
  subst hp
  subst e
  exact⟨h.1,by rw[List.getElem?_cons_zero,cons1 (show [v]=[.int q h.1] from h1)]⟩
 |t::ts,vs,h,p+1,⟨v,vs',e,h1,h2⟩,hp=>by
  subst e
  rw[List.getElem?_cons_succ] at hp⊢
  exact hrep_int h2 hp
theorem cells_at1{w:World}{A:Addr}{vs:List Value}{p:Nat}{u:Value}(h:CellsAt w A vs)(hp:vs[p]? =some u):CellsAt w (A.add p) [u]:=λk x hx=>by
 match k,hx with
 |0,hx=>
  simp only[List.getElem?_cons_zero,Option.some.injEq] at hx
  subst hx
  have:=h p u hp
  rw[add_add,Nat.add_zero];exact this
theorem req_inner(ok:TabOk S){u:Ty}{W:World}{a:Option Addr}{c:Nat}{l:List (Dn S.τ u)}(hnf:∀b,NF W b)(h:RSg (S.GT u) a c l W):
  ∃rq:List Value,(∀A v,mkR A v∈rq→ReqOk W A v)∧∀j,j<l.length→∀p q,(S.lvs u)[p]? =some (.int q)→mkR (((baseOf a).add (j*S.sz u)).add p) (.int q 0)∈rq:=by
 refine⟨(List.range l.length).flatMap λj=>(List.range (S.lvs u).length).filterMap λp=>match(S.lvs u)[p]? with
  |some (Ty.int q)=>some (mkR (((baseOf a).add (j*S.sz u)).add p) (Value.int q 0))
  |_=>none,λA v hm=> ?_,λj hj p q hp=> ?_⟩
 ·obtain⟨j,hj,hm⟩:=List.mem_flatMap.1 hm
  obtain⟨p,hp,hm⟩:=List.mem_filterMap.1 hm
  rw[List.mem_range] at hj
  split at hm
  ·rename_i q hq
   obtain⟨rfl,rfl⟩:=mkR_inj (Option.some.inj hm)
   obtain⟨e,h1,h2⟩:=h.at_ j l[j] (by simp[hj])
   rw[GT_rep ok] at h1
   obtain⟨z,hz⟩:=hrep_int h1 hq
   rw[sz_eq ok] at h2
   exact⟨⟨z,cells_at1 h2 hz⟩,hnf _⟩
  ·cases hm
 ·refine List.mem_flatMap.2 ⟨j,List.mem_range.2 hj,List.mem_filterMap.2 ⟨p,List.mem_range.2 (List.getElem?_eq_some_iff.1 hp).1, ?_⟩⟩
  rw[hp]
theorem cells_tail{w:World}{A:Addr}{v:Value}{vs:List Value}(h:CellsAt w A (v::vs)):CellsAt w (A.add 1) vs:=λk u hu=>by
 have:=h (k+1) u (by rw[List.getElem?_cons_succ];exact hu)
 rw[add_add,Nat.add_comm 1 k];exact this
theorem cells_head{w:World}{A:Addr}{v:Value}{vs:List Value}(h:CellsAt w A (v::vs)):CellsAt w A [v]:=by
 have:=cells_at1 (p:=0) (u:=v) h (by simp)
 rwa[add_zero'] at this
theorem req_elem(ok:TabOk S){W:World}(hnf:∀b,NF W b):∀(ts:List Ty)(vs:List Value)(h:HL S.τ ts)(A:Addr),ts.all (lv2 S)=true→HRep S W ts vs h→CellsAt W A vs→
  ∃rq:List Value,(∀B v,mkR B v∈rq→ReqOk W B v)∧∀g:Gh,(∀r∈rq,r∈g.s.pre)→HdR S g ts h A
 |[],vs,h,A,_,_,_=>⟨[],by simp,λg _=>trivial⟩
 |t::ts,vs,h,A,ht,⟨v,vs',e,h1,h2⟩,hc=>by
  subst e
  simp only[List.all_cons,Bool.and_eq_true] at ht
  obtain⟨r2,g1,g2⟩:=req_elem ok hnf ts vs' h.2 (A.add 1) ht.2 h2 (cells_tail hc)
  cases t with
  |st i=>cases ht.1
  |mp e=>cases ht.1
  |int k=>exact⟨r2,g1,λg hg=>g2 g hg⟩
  |bool=>exact⟨r2,g1,λg hg=>g2 g hg⟩
  |str=>exact⟨r2,g1,λg hg=>g2 g hg⟩
  |fnc f=>exact⟨r2,g1,λg hg=>g2 g hg⟩
  |sl u=>
   obtain⟨a,c,e1,h3⟩:=h1
   have e1:=cons1 e1
   obtain⟨r1,g3,g4⟩:=req_inner ok (u:=u) hnf h3
   refine⟨mkR A v::(r1++r2),λB x hm=> ?_,λg hg=>⟨⟨v,hg _ (List.mem_cons_self ..),a,c,e1,λhn=>h3.some_ λe=>hn (by rw[e];rfl),λj hj p q hp=>hg _ (List.mem_cons_of_mem _ (List.mem_append_left _ (g4 j hj p q hp)))⟩,g2 g λr hr=>hg _ (List.mem_cons_of_mem _ (List.mem_append_right _ hr))⟩⟩
   rcases List.mem_cons.1 hm with hm|hm
   ·obtain⟨rfl,rfl⟩:=mkR_inj hm
    have hcell:=cells_head hc
    subst e1
    exact hcell
   ·rcases List.mem_append.1 hm with hm|hm
    ·exact g3 B x hm
    ·exact g1 B x hm
theorem req_all(ok:TabOk S){t:Ty}(ht:two S t=true){W:World}{a:Option Addr}{c:Nat}{l:List (Dn S.τ t)}(hnf:∀b,NF W b)(h:RSg (S.GT t) a c l W):∀m,m≤l.length→
  ∃rq:List Value,(∀B v,mkR B v∈rq→ReqOk W B v)∧∀g:Gh,(∀r∈rq,r∈g.s.pre)→∀i x,i<m→l[i]? =some x→HdR S g (S.lvs t) (S.getT t x) ((baseOf a).add (i*S.sz t))
 |0,_=>⟨[],by simp,λg _ i x hi=>by omega⟩
 |m+1,hm=>by
  obtain⟨r1,g1,g2⟩:=req_all ok ht hnf h m (by omega)
  obtain⟨e,h1,h2⟩:=h.at_ m l[m] (by simp[show m<l.length by omega])
  rw[GT_rep ok] at h1
  rw[sz_eq ok] at h2
  obtain⟨r2,g3,g4⟩:=req_elem ok hnf _ _ _ _ ht h1 h2
  refine⟨r1++r2,λB v hb=> ?_,λg hg i x hi hx=> ?_⟩
  ·rcases List.mem_append.1 hb with hb|hb
   ·exact g1 B v hb
   ·exact g3 B v hb
  ·by_cases he:i=m
   ·subst he
    rw[List.getElem?_eq_getElem (show i<l.length by omega),Option.some.injEq] at hx
    subst hx
    exact g4 g λr hr=>hg r (List.mem_append_right _ hr)
   ·exact g2 g (λr hr=>hg r (List.mem_append_left _ hr)) i x (by omega) hx
theorem req_in{F:List Nat}{w:World}{A:Addr}{v:Value}(h:ReqOk (blind F w) A v):A.block∈F:=by
 have:∃x,CellsAt (blind F w) A [x]:=by
  unfold ReqOk at h
  split at h
  ·obtain⟨⟨z,h⟩,_⟩:=h;exact⟨_,h⟩
  ·exact⟨_,h⟩
 obtain⟨x,hx⟩:=this
 have:=hx 0 x (by simp)
 rw[add_zero'] at this
 exact(blind_cell this).1
theorem req_sub{F:List Nat}{w w2:World}(hw:∀k∈F,w2.heap[k]? =w.heap[k]?){A:Addr}{v:Value}(h:ReqOk (blind F w) A v):ReqOk w2 A v:=
 req_at h (by rw[blind_in (req_in h)];exact hw _ (req_in h))
theorem scr_of(ok:TabOk S){t:Ty}(ht:two S t=true){G:List Nat}{w:World}{a:Option Addr}{c:Nat}{l:List (Dn S.τ t)}(hnf:∀b∈blkD w.heap.size G,NF w b)(h:Bx G w (RSg (S.GT t) a c l))(P:Program)(k:Nat):
  ∃g:Gh,g.a=a∧g.c=c∧g.n=l.length∧∀(ρ:Rho)(Ps:List (World→Prop)),ρ k=some g→RelItem S ρ Ps P (k,.scr t true l) (.any (blkD w.heap.size G) (ScrP S g t true l))∧(Asn.any (blkD w.heap.size G) (ScrP S g t true l)).holds w:=by
 have hb:RSg (S.GT t) a c l (blind (blkD w.heap.size G) w):=h _ blind_keep
 obtain⟨rq,g1,g2⟩:=req_all ok ht (blind_nf hnf) hb l.length (Nat.le_refl _)
 let g:Gh:=⟨a,c,l.length,0,noJ,⟨rq,[],none⟩⟩
 refine⟨g,rfl,rfl,rfl,λρ Ps hk=>⟨⟨g,_,true,hk,rfl,λe=>e,rfl,λhn=>h.here.some_ hn,λB v hm=>req_in (g1 B v hm),λi x hx=>g2 g (λr hr=>hr) i x (List.getElem?_eq_some_iff.1 hx).1 hx⟩,λw2 hw=>⟨λ_=>rs_owned ok ht h w2 hw,λA v hm=>req_sub hw (g1 A v hm)⟩⟩⟩
theorem nf_row{a:Option Addr}{c e sz n:Nat}{cs:List Value}{w:World}(h:(Asn.row a c e sz n cs).holds w):∀b∈(Asn.row a c e sz n cs).fp,NF w b:=by
 have h':w.ownsRow 0 e sz (.slice a n c) n cs:=h
 rcases h'.2 with⟨hv,_⟩|⟨g,cap,cur,hv,_,hg,_⟩
 ·injection hv with e1 _ _
  subst e1
  intro b hb
  simp[Asn.fp] at hb
 ·injection hv with e1 _ _
  subst e1
  intro b hb
  simp only[Asn.fp,List.mem_singleton] at hb
  subst hb
  exact NF.of hg
theorem nf_one{w:World}:∀{x:Option TypeId} {t:Ty} {y:Dn S.τ t} {v:Value} {F:List Nat},OneR S w x t y v F→∀b∈F,NF w b
 |some e,.sl t,l,v,F,h=>by
  obtain⟨_,a,c,cs,_,rfl,h3,_⟩:=h
  exact nf_row h3
 |none,t,x,v,F,h=>by
  obtain⟨_,_,rfl⟩:=h
  intro b hb;cases hb
 |some _,.int _,_,_,_,h=>h.elim
 |some _,.bool,_,_,_,h=>h.elim
 |some _,.str,_,_,_,h=>h.elim
 |some _,.fnc _,_,_,_,h=>h.elim
 |some _,.st _,_,_,_,h=>h.elim
 |some _,.mp _,_,_,_,h=>h.elim
theorem nf_lv{w:World}:∀{ts:List Ty} {es:List (Option TypeId)} {h:HL S.τ ts} {vs:List Value} {F:List Nat},LvR S w ts es h vs F→∀b∈F,NF w b
 |[],es,h,vs,F,⟨_,e⟩=>by intro b hb;rw[e] at hb;cases hb
 |t::ts,es,h,vs,F,⟨v,vs',F1,F2,_,e,h1,h2⟩=>by
  intro b hb
  rw[e] at hb
  rcases List.mem_append.1 hb with hb|hb
  ·exact nf_one h1 b hb
  ·exact nf_lv h2 b hb
theorem nf_deepR{w:World}{t:Ty}{es:List (Option TypeId)}:∀{l:List (Dn S.τ t)} {cs:List Value} {F:List Nat},DeepR S w t es l cs F→∀b∈F,NF w b
 |[],cs,F,⟨_,e⟩=>by intro b hb;rw[e] at hb;cases hb
 |x::l,cs,F,⟨c,cs',F1,F2,_,e,h1,h2⟩=>by
  intro b hb
  rw[e] at hb
  rcases List.mem_append.1 hb with hb|hb
  ·exact nf_lv h1 b hb
  ·exact nf_deepR h2 b hb
def nfI:PI→Bool
 | .box _=>true
 | .bst _=>true
 | .row _ _=>true
 | .deep _ _ _=>true
 |_=>false
theorem nf_item{ρ:Rho}{Ps:List (World→Prop)}{P:Program}{r:Type}{m:Nat→Nat}{k:Nat}{p:PI}(hp:nfI p=true){z:p.T S.τ r}{A:Asn}(h:RelItem S ρ Ps P (k,(putI S m p z).1) A){w:World}(hA:A.holds w):∀b∈A.fp,NF w b:=by
 cases p with
 |box ps=>
  obtain⟨g,vs,h1,rfl,h3⟩:=h
  obtain⟨T,hT,_⟩:=boxA_at hA
  intro b hb
  simp only[boxA,Asn.fp,List.mem_singleton] at hb
  subst hb
  exact NF.of hT
 |bst i=>
  obtain⟨g,vs,h1,rfl,h3⟩:=h
  obtain⟨T,hT,_⟩:=boxA_at hA
  intro b hb
  simp only[boxA,Asn.fp,List.mem_singleton] at hb
  subst hb
  exact NF.of hT
 |row e t=>
  obtain⟨g,cs,h1,rfl,h3,h4⟩:=h
  exact nf_row hA
 |deep e t es=>
  obtain⟨g,c1,c2,F,h1,rfl,h3,h4,h5⟩:=h
  obtain⟨g1,g2⟩:=deepA_at hA
  intro b hb
  rcases List.mem_append.1 hb with hb|hb
  ·exact nf_row g1 b hb
  ·exact nf_deepR g2 b hb
 |_=>cases hp
theorem nf_items{ρ:Rho}{Ps:List (World→Prop)}{P:Program}{r:Type}{m:Nat→Nat}{w:World}:∀{ps:List PI} (hp:ps.all nfI=true) {z:PIsT S.τ ps r} {i:Nat} {As:List Asn},All2 (RelItem S ρ Ps P) (numI i (putIs S m ps z).1) As→(∀A∈As,A.holds w)→∀b∈fps As,NF w b
 |[],_,z,i,As,hv,_=>by have:=All2.nil_left hv;subst this;intro b hb;cases hb
 |p::ps,hp,z,i,As,hv,hA=>by
  simp only[List.all_cons,Bool.and_eq_true] at hp
  obtain⟨A,As',rfl,h5,h6⟩:=All2.cons_left hv
  intro b hb
  rw[fps_cons] at hb
  rcases List.mem_append.1 hb with hb|hb
  ·exact nf_item hp.1 h5 (hA A (List.mem_cons_self ..)) b hb
  ·exact nf_items hp.2 h6 (λB hB=>hA B (List.mem_cons_of_mem _ hB)) b hb
theorem scr_mk(ok:TabOk S){t:Ty}(ht:two S t=true){F:List Nat}{w:World}{a:Option Addr}{c:Nat}{l:List (Dn S.τ t)}(hnf:∀b∈F,NF w b)(h:∀w2,(∀k∈F,w2.heap[k]? =w.heap[k]?)→RSg (S.GT t) a c l w2)(P:Program)(k:Nat):
  ∃g:Gh,g.a=a∧g.c=c∧g.n=l.length∧∀(ρ:Rho)(Ps:List (World→Prop)),ρ k=some g→RelItem S ρ Ps P (k,.scr t true l) (.any F (ScrP S g t true l))∧(Asn.any F (ScrP S g t true l)).holds w:=by
 have hb:RSg (S.GT t) a c l (blind F w):=h _ λk hk=>blind_in hk
 obtain⟨rq,g1,g2⟩:=req_all ok ht (blind_nf hnf) hb l.length (Nat.le_refl _)
 let g:Gh:=⟨a,c,l.length,0,noJ,⟨rq,[],none⟩⟩
 refine⟨g,rfl,rfl,rfl,λρ Ps hk=>⟨⟨g,_,true,hk,rfl,λe=>e,rfl,λhn=>(h w λ_ _=>rfl).some_ hn,λB v hm=>req_in (g1 B v hm),λi x hx=>g2 g (λr hr=>hr) i x (List.getElem?_eq_some_iff.1 hx).1 hx⟩,λw2 hw=>⟨λ_=>h w2 hw,λA v hm=>req_sub hw (g1 A v hm)⟩⟩⟩
theorem deep_rs0{ρ:Rho}{Ps:List (World→Prop)}{P:Program}(ok:TabOk S){w:World}(hp:∀p∈Ps,p w){k:Nat}{e:TypeId}{t:Ty}{es:List (Option TypeId)}{l:List (Dn S.τ t)}{A:Asn}(h2:RelItem S ρ Ps P (k,.deep e t es none l) A):
  ∃g,ρ k=some g∧g.n=l.length∧∀w2,A.holds w2→RSg (S.GT t) g.a g.c l w2:=by
 obtain⟨g,c1,c2,G,h4,rfl,h5,h6,h7⟩:=h2
 rw[mOf,List.drop_length] at h7
 have hc:c2=[]:=by
  rcases h7 with h7|h7
  ·exact h7.2
  ·have:=hp _ h7;cases this;rfl
 subst hc
 refine⟨g,h4,h5,λw2 hw=> ?_⟩
 obtain⟨g1,g2⟩:=deepA_at hw
 obtain⟨g3,g4,g5⟩:=row_cells g1
 have hr:=g2.reps ok
 rw[mOf,List.take_length] at hr
 rw[List.append_nil] at g3
 exact hr.rs g3 (by omega) λhne=>g5 λe=>hne (List.eq_nil_of_length_eq_zero (by omega))
end
end Go.Bur
