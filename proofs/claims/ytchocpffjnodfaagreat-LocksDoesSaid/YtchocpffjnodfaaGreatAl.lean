import Derived.Test.YtchocpffjnodfaaGreatMe
namespace Go.Bur
open Go.RowKit
set_option linter.unusedVariables false
set_option linter.unusedSimpArgs false
section
variable {P : Program} {S : Tab} {R : Type}
def ghost(ρ:Rho)(nx:Nat)(g:Gh):Rho:=λk=>match Nat.beq k nx with
 |true=>some g
 |false=>ρ k
theorem ghost_at{ρ:Rho}{nx:Nat}{g:Gh}:ghost ρ nx g nx=some g:=by
 unfold ghost;rw[show Nat.beq nx nx=true from Nat.beq_eq▸rfl]
theorem ghost_grow{ρ:Rho}{nx:Nat}{g:Gh}(h:ρ nx=none):Grow ρ (ghost ρ nx g) nx 1:=by
 refine⟨λk g' hk=> ?_,λk g' hk=> ?_⟩
 ·unfold ghost
  cases hb:Nat.beq k nx with
  |true=>rw[Nat.eq_of_beq_eq_true hb,h] at hk;cases hk
  |false=>exact hk
 ·unfold ghost at hk
  cases hb:Nat.beq k nx with
  |true=>have:=Nat.eq_of_beq_eq_true hb;exact .inr (by omega)
  |false=>rw[hb] at hk;exact .inl hk
theorem loc_box{o:Oper}{ev:Ev S.τ}{it:Nat→Option (Item S.τ)}{nx:Nat}{xs:List (Lf S.τ)}
  (h:∀(a:Act)(w:World)(ρ:Rho)(Ps:List (World→Prop)),EvRel S ρ Ps ev a→∃vs T,(execOp a.eval o).run P w= .ok (.value (.pointer (some ⟨w.heap.size,0,none⟩))) (w.alloc (.cells vs.toArray T))∧All2 (RelLf S ρ Ps) xs vs):
  LocSem P S o ev it nx ⟨.v (.one (.box nx 0)),[],[(nx,.box xs)],[],1⟩:=by
 intro a w R ρ Ps At Au tk us hd hev htk hus hit hAt hAu hst hn K Q hK
 have e:tk=[]:=List.map_eq_nil_iff.1 htk
 subst e
 have e:=All2.nil_left hAt
 subst e
 have e:us=[]:=List.map_eq_nil_iff.1 hus
 subst e
 have e:=All2.nil_left hAu
 subst e
 obtain⟨vs,T,hr,hv⟩:=h a w ρ Ps hev
 have hg:Grow ρ (ghost ρ nx ⟨none,0,0,w.heap.size,noJ,noS⟩) nx 1:=ghost_grow (hn nx (Nat.le_refl _) (Nat.lt_succ_self nx))
 unfold wpX
 rw[hr]
 have he:=Ext.alloc w (.cells vs.toArray T)
 refine hK _ _ (ghost ρ nx ⟨none,0,0,w.heap.size,noJ,noS⟩) Ps [boxA ⟨none,0,0,w.heap.size,noJ,noS⟩ vs] hg (λp hp=>hp) ⟨_,ghost_at,rfl⟩ ⟨⟨_,vs,ghost_at,rfl,hv.mono λ_ _ h=>RelLf.mono hg.keep (λp hp=>hp) h⟩,trivial⟩ ?_ (Keep.ofExt he) ?_
 ·refine St.new (A:=boxA ⟨none,0,0,w.heap.size,noJ,noS⟩ vs) hst he (boxA_of ⟨T,by simpa[noS] using heap_alloc_new w _,λe he=>by cases he⟩) (λb hb=> ?_) (by simp[boxA,Asn.fp])
  have hb:b=w.heap.size:=List.mem_singleton.1 hb
  rw[hb];simp
 ·intro b hb
  have hb:b=w.heap.size:=by simpa[fps,boxA,Asn.fp] using hb
  exact .inr (by rw[hb];exact Nat.le_refl _)
def opAlloc(P:Program)(S:Tab)(ev:Ev S.τ)(nx:Nat):Op→Option (List (Lf S.τ))
 | .alloc t=>zeroLs P t
 | .box t x=>avLvs (ev x)
 |_=>none
theorem opAlloc_sound{o:Oper}{ev:Ev S.τ}{it:Nat→Option (Item S.τ)}{nx:Nat}{xs:List (Lf S.τ)}(h:opAlloc P S ev nx o.op=some xs):LocSem P S o ev it nx ⟨.v (.one (.box nx 0)),[],[(nx,.box xs)],[],1⟩:=by
 refine loc_box λa w ρ Ps hev=> ?_
 obtain⟨dst,op,type,pos,after,guard⟩:=o
 simp only at h
 unfold opAlloc at h
 split at h
 ·rename_i t
  obtain⟨z,hz,hr⟩:=zeroLs_rel (ρ:=ρ) (Ps:=Ps) h
  refine⟨z.cells.toList,t, ?_,hr⟩
  simp[execOp,Instr.alloc,Sem.run_bind,hz,newVar,run_newRow']
 ·rename_i t x
  refine⟨(a.eval x).cells.toList,t, ?_,avLvs_rel h λy hy=>hev x y hy⟩
  simp[execOp,Instr.box,newVar,run_newRow']
 ·cases h
def toRow(S:Tab)(t:Ty):Nat→List (Lf S.τ)→Option (List (Dn S.τ t))
 |0,[]=>some []
 |0,_::_=>none
 |n+1,xs=>match toHL (S.lvs t) (xs.take (S.sz t)),toRow S t n (xs.drop (S.sz t)) with
  |some h,some r=>some (S.mkT t h::r)
  |_,_=>none
theorem toRow_len{t:Ty}:∀{n:Nat} {xs:List (Lf S.τ)} {l:List (Dn S.τ t)},toRow S t n xs=some l→l.length=n
 |0,[],l,h=>by obtain rfl:=someI' h;rfl
 |n+1,xs,l,h=>by
  simp only[toRow] at h
  split at h
  ·rename_i h1 r hh hr
   obtain rfl:=someI' h
   rw[List.length_cons,toRow_len hr]
  ·cases h
theorem toRow_rel(ok:TabOk S){ρ:Rho}{Ps:List (World→Prop)}{F:List Nat}{w:World}(hp:∀p∈Ps,Bx F w p){t:Ty}:∀{n:Nat} {xs:List (Lf S.τ)} {l:List (Dn S.τ t)} {vs:List Value},toRow S t n xs=some l→All2 (RelLf S ρ Ps) xs vs→Bx F w (RepsB (S.GT t) vs l)
 |0,[],l,vs,h,hr=>by
  obtain rfl:=someI' h
  have:=All2.nil_left hr
  subst this
  exact λ_ _=> .nil
 |n+1,xs,l,vs,h,hr=>by
  simp only[toRow] at h
  split at h
  ·rename_i h1 r hh hr'
   obtain rfl:=someI' h
   have g1:=rel_rep ok hp (toHL_rel hh (hr.take (S.sz t)))
   have g2:=toRow_rel ok hp hr' (hr.drop (S.sz t))
   intro w' hk
   have:=Reps.cons (g1 w' hk) (g2 w' hk)
   rwa[List.take_append_drop] at this
  ·cases h
def opBuildS(P:Program)(S:Tab)(ty:TypeId→Option Ty)(ev:Ev S.τ):Op→Option (Nat×(t:Ty)×List (Dn S.τ t))
 | .buildSlice t n parts=>match P.underlying t with
  |some (.slice e)=>match P.info? e,partsOf ev parts.toList,ty e with
   |some i,some ps,some u=>match i.zero,Nat.ble (n*i.size) (2^24),Nat.ble n (2^24),Nat.beq i.size (S.sz u),fillL (λk=>some (k*i.size,i.size)) (List.replicate (n*i.size) .un) ps with
    |some _,true,true,true,some xs=>match toRow S u n xs with
     |some l=>some (e,⟨u,l⟩)
     |none=>none
    |_,_,_,_,_=>none
   |_,_,_=>none
  |_=>none
 |_=>none
theorem un_all{ρ:Rho}{Ps:List (World→Prop)}:∀(vs:List Value),All2 (RelLf S ρ Ps) (List.replicate vs.length .un) vs
 |[]=>trivial
 |v::r=>⟨trivial,un_all r⟩
theorem newOp_build{t e n:Nat}{parts:Array (Nat×Operand)}{i:TypeInfo}{z:Value}{ev:Operand→Value}{ds:Array Value}{o:Oper}(hop:o.op= .buildSlice t n parts)(hu:P.underlying t=some (.slice e))(hi:P.info? e=some i)(hz:i.zero=some z)(hb:n*i.size≤2^24)
  (hf:Instr.fill (λk=>some (k*i.size,i.size)) ((Array.range (n*i.size)).map ((if n*i.size=0 then #[] else z.cells)[· % (if n*i.size=0 then #[] else z.cells).size]!)) (parts.map fun(k,x)=>(k,ev x)).toList=some ds) (w:World):
  (execOp ev o).run P w= .ok (.value (.slice (some ⟨w.heap.size,0,none⟩) n n)) (w.alloc (.cells ds e)):=by
 obtain⟨dst,op,type,pos,after,guard⟩:=o
 simp only at hop
 subst hop
 have hb':¬(n*i.size>2^24):=by omega
 simp only[execOp,Instr.buildSlice,Sem.run_bind,run_underlying hu,Result.andThen_ok,sizeOf,run_info hi,Sem.run_pure]
 rw[if_neg hb']
 by_cases h0:n*i.size=0
 ·simp only[h0,if_true] at hf
  simp only[h0,if_true,Sem.run_pure,Result.andThen_ok,Sem.run_bind]
  rw[hf]
  simp[run_newRow']
 ·simp only[h0,if_false] at hf
  simp only[h0,if_false,Sem.run_pure,Result.andThen_ok,Sem.run_bind,zeroValue,run_info hi,hz]
  rw[hf]
  simp[run_newRow']
theorem loc_row(ok:TabOk S){o:Oper}{ev:Ev S.τ}{it:Nat→Option (Item S.τ)}{nx:Nat}{e:TypeId}{t:Ty}{l:List (Dn S.τ t)}(hl:l.length≤2^24)
  (h:∀(a:Act)(w:World)(F:List Nat)(ρ:Rho)(Ps:List (World→Prop)),EvRel S ρ Ps ev a→(∀p∈Ps,Bx F w p)→∃vs:List Value,(execOp a.eval o).run P w= .ok (.value (.slice (some ⟨w.heap.size,0,none⟩) l.length l.length)) (w.alloc (.cells vs.toArray e))∧Bx F w (RepsB (S.GT t) vs l)):
  LocSem P S o ev it nx ⟨.v (.one (.own nx)),[],[(nx,.row e t l)],[],1⟩:=by
 intro a w R ρ Ps At Au tk us hd hev htk hus hit hAt hAu hst hn K Q hK
 have e0:tk=[]:=List.map_eq_nil_iff.1 htk
 subst e0
 have e0:=All2.nil_left hAt
 subst e0
 have e0:us=[]:=List.map_eq_nil_iff.1 hus
 subst e0
 have e0:=All2.nil_left hAu
 subst e0
 obtain⟨vs,hr,hv⟩:=h a w (R++fps ([]++[])) ρ Ps hev hst.per
 have hg:Grow ρ (ghost ρ nx ⟨some ⟨w.heap.size,0,none⟩,l.length,l.length,0,noJ,noS⟩) nx 1:=ghost_grow (hn nx (Nat.le_refl _) (Nat.lt_succ_self nx))
 have hlen:vs.length=l.length*S.sz t:=by rw[hv.here.len,sz_eq ok]
 unfold wpX
 rw[hr]
 have he:=Ext.alloc w (.cells vs.toArray e)
 have hA:(Asn.row (some ⟨w.heap.size,0,none⟩) l.length e (S.sz t) l.length vs).holds (w.alloc (.cells vs.toArray e)):=by
  refine⟨hlen,.inr ⟨w.heap.size,l.length,vs.toArray,rfl,Nat.zero_le _,heap_alloc_new w _,Nat.le_refl _, ?_,by simp[hlen], ?_⟩⟩
  ·simp only[maxLen];omega
  ·rw[List.toList_toArray,←hlen,List.take_length]
 have h1:=hst.addPs (ps:=[RepsB (S.GT t) vs l]) (by simpa using hv)
 have h2:=St.new (A:= .row (some ⟨w.heap.size,0,none⟩) l.length e (S.sz t) l.length vs) h1 he hA (λb hb=>by simp[Asn.fp] at hb;subst hb;simp) (by simp[Asn.fp])
 refine hK _ _ (ghost ρ nx ⟨some ⟨w.heap.size,0,none⟩,l.length,l.length,0,noJ,noS⟩) (RepsB (S.GT t) vs l::Ps) [.row (some ⟨w.heap.size,0,none⟩) l.length e (S.sz t) l.length vs] hg (λp hp=>List.mem_cons_of_mem _ hp) ⟨_,ghost_at,rfl⟩ ⟨⟨_,vs,ghost_at,rfl,rfl,List.mem_cons_self ..⟩,trivial⟩ h2 (Keep.ofExt he) ?_
 intro b hb
 simp[fps,Asn.fp] at hb;subst hb;exact .inr (Nat.le_refl _)
theorem opBuildS_sound(ok:TabOk S){ty:TypeId→Option Ty}{o:Oper}{ev:Ev S.τ}{it:Nat→Option (Item S.τ)}{nx:Nat}{e:TypeId}{t:Ty}{l:List (Dn S.τ t)}(h:opBuildS P S ty ev o.op=some (e,⟨t,l⟩)):LocSem P S o ev it nx ⟨.v (.one (.own nx)),[],[(nx,.row e t l)],[],1⟩:=by
 unfold opBuildS at h
 split at h
 ·rename_i tt n parts hop
  split at h
  ·rename_i e' hu
   split at h
   ·rename_i i ps u hi hps hty
    split at h
    ·rename_i z xs hz hb hb2 hsz hf
     split at h
     ·rename_i l' hl
      simp only[Option.some.injEq,Prod.mk.injEq,Sigma.mk.injEq] at h
      obtain⟨rfl,rfl,h⟩:=h
      have h:=eq_of_heq h
      subst h
      have hlen:=toRow_len hl
      refine loc_row ok (by rw[hlen];exact Nat.le_of_ble_eq_true hb2) λa w F ρ Ps hev hp=> ?_
      have h0:All2 (RelLf S ρ Ps) (List.replicate (n*i.size) .un) ((Array.range (n*i.size)).map ((if n*i.size=0 then #[] else z.cells)[· % (if n*i.size=0 then #[] else z.cells).size]!)).toList:=by
       have:=un_all (S:=S) (ρ:=ρ) (Ps:=Ps) ((Array.range (n*i.size)).map ((if n*i.size=0 then #[] else z.cells)[· % (if n*i.size=0 then #[] else z.cells).size]!)).toList
       rwa[Array.length_toList,Array.size_map,Array.size_range] at this
      obtain⟨ds,hd,hr⟩:=fill_rel ps _ _ xs _ hf h0 (partsOf_rel hev hps)
      refine⟨ds.toList, ?_,toRow_rel ok hp hl hr⟩
      have hpm:(parts.map fun(x:Nat×Operand)=>(x.1,a.eval x.2)).toList=parts.toList.map λx=>(x.1,a.eval x.2):=by simp
      rw[hlen]
      exact newOp_build (ev:=a.eval) hop hu hi hz (Nat.le_of_ble_eq_true hb) (by rw[hpm];exact hd) w
     ·cases h
    ·cases h
   ·cases h
  ·cases h
 ·cases h
def Lf.cell{τ:Nat→Type}:Lf τ→Bool
 | .un=>false
 | .ud=>false
 |_=>true
theorem cell_one{ρ:Rho}{Ps:List (World→Prop)}{x:Lf S.τ}{v:Value}(hx:x.cell=true)(h:RelLf S ρ Ps x v):v.oneCell'=true:=by
 cases x with
 |un=>cases hx
 |ud=>cases hx
 |d t y=>
  cases t with
  |st i=>exact h.elim
  |mp e=>exact h.elim
  |sl e=>obtain⟨a,c,rfl,_⟩:=h;rfl
  |_=>rw[show v=_ from h];rfl
 |nil=>rw[show v=_ from h];rfl
 |own k=>obtain⟨g,_,rfl⟩:=h;rfl
 |box k o=>obtain⟨g,_,rfl⟩:=h;rfl
 |el k sz i o=>obtain⟨g,_,rfl⟩:=h;rfl
 |ro t y o=>obtain⟨A,rfl,_⟩:=h;rfl
 |fn g cs=>obtain⟨vs,rfl,_⟩:=h;rfl
 |bfn g cs=>obtain⟨vs,rfl,_⟩:=h;rfl
 |full t l=>obtain⟨a,rfl,_⟩:=h;rfl
 |map k=>obtain⟨g,_,rfl⟩:=h;rfl
 |yd k=>obtain⟨g,_,rfl⟩:=h;rfl
 |vw k sz i=>obtain⟨g,b,_,rfl,_⟩:=h;rfl
 |si k u l=>obtain⟨g,_,a,c,rfl,_⟩:=h;rfl
 |se k u=>obtain⟨g,A,_,rfl,_⟩:=h;rfl
 |er e=>rcases h with⟨_,rfl⟩|⟨_,t,p,rfl⟩<;>rfl
 |nmap=>rw[show v=_ from h];rfl
 |nptr=>rw[show v=_ from h];rfl
 |nfn=>rw[show v=_ from h];rfl
 |lit b=>rw[show v=_ from h];rfl
 |nb n e=>obtain⟨b,rfl,_⟩:=h;rfl
theorem cells_one{ρ:Rho}{Ps:List (World→Prop)}:∀{xs:List (Lf S.τ)} {vs:List Value},xs.all Lf.cell=true→All2 (RelLf S ρ Ps) xs vs→∀v∈vs,v.oneCell'=true
 |[],vs,_,h=>by have:=All2.nil_left h;subst this;simp
 |x::xs,vs,hx,h=>by
  obtain⟨v,vs',rfl,h1,h2⟩:=All2.cons_left h
  simp only[List.all_cons,Bool.and_eq_true] at hx
  intro u hu
  rcases List.mem_cons.1 hu with rfl|hu
  ·exact cell_one hx.1 h1
  ·exact cells_one hx.2 h2 u hu
def opStore(P:Program)(S:Tab)(ev:Ev S.τ)(it:Nat→Option (Item S.τ))(t:TypeId)(x v:Operand)(k:Out S.τ→Option R):Option R:=match avLvs (ev v),P.info? t with
 |some ls,some i=>match Nat.beq ls.length i.size,ls.all Lf.cell with
  |true,true=>match ev x with
   |some (.v (.one (.box j o)))=>match it j with
    |some (.box xs)=>match Nat.ble (o+i.size) xs.length with
     |true=>k ⟨.v (.one .ud),[j],[(j,.box (splA xs o ls))],[],0⟩
     |false=>none
    |_=>none
   |some (.v (.one (.el j sz ix o)))=>match it j with
    |some (.row e u l)=>match Nat.beq sz (S.sz u),Nat.ble (o+i.size) (S.sz u) with
     |true,true=>match Nat.beq i.size (S.sz u) with
      |true=>match toHL (S.lvs u) ls with
       |some h=>(put l ix (S.mkT u h)).bind λl'=>k ⟨.v (.one .ud),[j],[(j,.row e u l')],[],0⟩
       |none=>none
      |false=>(idx l ix).bind λy=>match toHL (S.lvs u) (splA (hlLf (S.lvs u) (S.getT u y)) o ls) with
       |some h=>(put l ix (S.mkT u h)).bind λl'=>k ⟨.v (.one .ud),[j],[(j,.row e u l')],[],0⟩
       |none=>none
     |_,_=>none
    |_=>none
   |some (.v (.one (.se j (some q::_))))=>match it j,ls with
    |some (.scr u _ l),[.d (.int q') _]=>match ikB q q' with
     |true=>k ⟨.v (.one .ud),[j],[(j,.scr u false l)],[],0⟩
     |false=>none
    |_,_=>none
   |_=>none
  |_,_=>none
 |_,_=>none
theorem req_store{w:World}{A:Addr}{q:IntKind}{z z0:Int}{cur:Array Value}{T:TypeId}(hT:w.heap[A.block]? =some (.cells cur T (0,0)))(hz:cur[A.off]? =some (.int q z0)){B:Addr}{v:Value}(h:ReqOk w B v):ReqOk (w.setRow A.block (spl cur.toList A.off [.int q z]).toArray) B v:=by
 have hlt:A.off<cur.size:=(Array.getElem?_eq_some_iff.1 hz).1
 have hnew:=setRow_heap w A.block cur (spl cur.toList A.off [.int q z]).toArray T (0,0) hT
 have key:∀u,CellsAt w B [u]→CellsAt (w.setRow A.block (spl cur.toList A.off [.int q z]).toArray) B [u]∨(u= .int q z0∧CellsAt (w.setRow A.block (spl cur.toList A.off [.int q z]).toArray) B [.int q z]):=by
  intro u hu
  have hc:=hu 0 u rfl
  rw[add_zero'] at hc
  have put:∀{w':World} {x:Value},w'.cell? B=some x→CellsAt w' B [x]:=λ{w' x} hx k y hy=>by
   match k,hy with
   |0,hy=>simp only[List.getElem?_cons_zero,Option.some.injEq] at hy;subst hy;rw[add_zero'];exact hx
  by_cases hb:B.block=A.block
  ·unfold World.cell? at hc
   rw[hb,hT] at hc
   simp only at hc
   split at hc
   ·cases hc
   ·rename_i hsp
    by_cases ho:B.off=A.off
    ·right
     rw[ho,hz] at hc
     refine⟨(Option.some.inj hc).symm,put ?_⟩
     unfold World.cell?
     rw[hb,hnew]
     simp only[hsp,Bool.false_eq_true,if_false,ho]
     unfold spl
     simp[List.getElem?_append,show min A.off cur.size=A.off by omega]
    ·left
     refine put ?_
     unfold World.cell?
     rw[hb,hnew]
     simp only[hsp,Bool.false_eq_true,if_false]
     rw[←hc]
     have hb2:B.off<cur.size:=(Array.getElem?_eq_some_iff.1 hc).1
     unfold spl
     rw[List.getElem?_toArray,List.getElem?_append]
     simp only[List.length_append,List.length_take,Array.length_toList,List.length_singleton,show min A.off cur.size=A.off by omega]
     split
     ·rw[List.getElem?_append]
      simp only[List.length_take,Array.length_toList,show min A.off cur.size=A.off by omega]
      rw[if_pos (by omega),List.getElem?_take_of_lt (by omega),Array.getElem?_toList]
     ·rw[List.getElem?_drop,Array.getElem?_toList]
      congr 1
      omega
  ·left
   refine put ?_
   unfold World.cell? at hc⊢
   rw[setRow_other w A.block B.block _ hb]
   exact hc
 unfold ReqOk at h⊢
 split at h
 ·rename_i q2 z2
  obtain⟨⟨z3,h1⟩,h2⟩:=h
  refine⟨?_,Drn.setRow.nf _ h2⟩
  rcases key _ h1 with h3|⟨e,h3⟩
  ·exact⟨z3,h3⟩
  ·injection e with e1 e2
   subst e1
   exact⟨z,h3⟩
 ·rename_i hne
  rcases key _ h with h3|⟨e,h3⟩
  ·exact h3
  ·exact absurd e (hne _ _)
theorem req_at{w w2:World}{B:Addr}{v:Value}(h:ReqOk w B v)(e:w2.heap[B.block]? =w.heap[B.block]?):ReqOk w2 B v:=by
 have key:∀u,CellsAt w B [u]→CellsAt w2 B [u]:=λu hu=>hu.keep e
 unfold ReqOk at h⊢
 split at h
 ·obtain⟨⟨z,h1⟩,h2⟩:=h
  exact⟨⟨z,key _ h1⟩,λc T fr hc=>h2 c T fr (e▸hc)⟩
 ·exact key _ h
theorem take1{tk:List (Nat×Item S.τ)}{At:List Asn}{ρ:Rho}{Ps:List (World→Prop)}{j:Nat}{it:Nat→Option (Item S.τ)}{x:Item S.τ}(hus:tk.map (·.1)=[j])(hit:∀x∈tk,it x.1=some x.2)(hj:it j=some x)(h:All2 (RelItem S ρ Ps P) tk At):∃A,At=[A]∧RelItem S ρ Ps P (j,x) A:=by
 obtain⟨A,h1,_,h2⟩:=use1 hus hit hj h
 exact⟨A,h1,h2⟩
theorem run_store{o:Oper}{t:TypeId}{x v:Operand}{a:Act}{w:World}{b k:Nat}{T:TypeId}{cur:Array Value}{i:TypeInfo}(hop:o.op= .store t x v)
  (hx:a.eval x= .pointer (some ((⟨b,0,none⟩:Addr).add k))) (hi:P.info? t=some i) (hsz:(a.eval v).cells.size=i.size) (hT:w.heap[b]? =some (.cells cur T (0,0))) (hle:k+(a.eval v).cells.toList.length≤cur.size)
  (h1:∀u∈(a.eval v).cells.toList,u.oneCell'=true):(execOp a.eval o).run P w= .ok .skip (w.setRow b (spl cur.toList k (a.eval v).cells.toList).toArray):=by
 obtain⟨dst,op,type,pos,after,guard⟩:=o
 simp only at hop
 subst hop
 have hst:=run_storeCells_at (P:=P) b k T (a.eval v).cells.toList 0 cur w hT (by simpa using hle) h1
 simp only[Nat.add_zero] at hst
 simp only[execOp,hx,Sem.run_bind,Instr.storeAt,Instr.sureAddr,Sem.run_pure,Result.andThen_ok,storeVar,sizeOf,run_info hi]
 rw[if_neg (by simpa using hsz),addr_add0,hst]
 simp[spl]
theorem Reps.set{α:Type}{G:GoT α}{w:World}{cs:List Value}{l:List α}(h:Reps G w cs l):∀{i:Nat} {x y:α} {o:Nat} {vs:List Value},l[i]? =some x→o+vs.length≤G.sz→G.rep w (spl ((cs.drop (i*G.sz)).take G.sz) o vs) y→Reps G w (spl cs (i*G.sz+o) vs) (l.set i y):=by
 induction h with
 |nil=>intro i x y o vs hx;simp at hx
 | @cons e z cs l h1 h2 ih=>
  intro i x y o vs hx ho hr
  have hlen:=G.len h1
  cases i with
  |zero=>
   rw[Nat.zero_mul,List.drop_zero,←hlen,List.take_left] at hr
   simp only[List.set_cons_zero,Nat.zero_mul,Nat.zero_add]
   have:spl (e++cs) o vs=spl e o vs++cs:=by
    unfold spl
    rw[List.take_append_of_le_length (by omega),List.drop_append_of_le_length (by omega)]
    simp[List.append_assoc]
   rw[this]
   exact .cons hr h2
  |succ i=>
   simp only[List.getElem?_cons_succ] at hx
   have e1:(e++cs).drop ((i+1)*G.sz)=cs.drop (i*G.sz):=by
    rw[Nat.succ_mul,Nat.add_comm,←List.drop_drop,←hlen,List.drop_left]
   rw[e1] at hr
   have h3:=ih hx ho hr
   have:spl (e++cs) ((i+1)*G.sz+o) vs=e++spl cs (i*G.sz+o) vs:=by
    unfold spl
    rw[Nat.succ_mul,show i*G.sz+G.sz+o=e.length+(i*G.sz+o) from by rw[hlen];omega,List.take_length_add_append,Nat.add_assoc,List.drop_length_add_append]
    simp[List.append_assoc]
   rw[this]
   exact .cons h1 h3
theorem row_store{A:Option Addr}{c e sz n:Nat}{cs:List Value}{w:World}{i o:Nat}{vs:List Value}(h:(Asn.row A c e sz n cs).holds w)(hi:i<n)(ho:o+vs.length≤sz):
  ∃g cur,A=some ⟨g,0,none⟩∧w.heap[g]? =some (.cells cur e (0,0))∧i*sz+o+vs.length≤cur.size∧(Asn.row A c e sz n (spl cs (i*sz+o) vs)).holds (w.setRow g (spl cur.toList (i*sz+o) vs).toArray):=by
 have h':w.ownsRow 0 e sz (.slice A n c) n cs:=h
 rcases h'.2 with⟨_,hn⟩|⟨g,cap,cur,hv,_,hg,hnc,hcm,hcs,htake⟩
 ·omega
 ·injection hv with e1 e2 e3
  subst e1 e3
  have hin:i*sz+sz≤n*sz:=by
   have:=Nat.mul_le_mul_right sz (Nat.succ_le_of_lt hi)
   rwa[Nat.succ_mul] at this
  have hcap:n*sz≤cur.size:=by rw[hcs];exact Nat.mul_le_mul_right _ hnc
  have hlen:=h'.1
  have hl:=Array.length_toList (xs:=cur)
  refine⟨g,cur,rfl,hg,by omega,⟨by rw[spl_length (by omega),hlen],.inr ⟨g,c,_,rfl,Nat.zero_le _,setRow_heap w g _ _ e (0,0) hg,hnc,hcm, ?_, ?_⟩⟩⟩
  ·rw[List.size_toArray,spl_length (by omega),hl,hcs]
  ·rw[←htake,List.toList_toArray,spl_take (by omega) (by omega)]
theorem loc_write{o:Oper}{ev:Ev S.τ}{it:Nat→Option (Item S.τ)}{nx:Nat}{j:Nat}{x y:Item S.τ}(hj:it j=some x)
  (h:∀(a:Act)(w:World)(R:List Nat)(ρ:Rho)(Ps:List (World→Prop))(A:Asn),EvRel S ρ Ps ev a→RelItem S ρ Ps P (j,x) A→A.holds w→St R w [A] Ps→
   ∃w' B ps,(execOp a.eval o).run P w= .ok .skip w'∧Keep A.fp w w'∧B.holds w'∧B.fp=A.fp∧(∀p∈ps,Bx (R++fps [A]) w p)∧RelItem S ρ (ps++Ps) P (j,y) B):LocSem P S o ev it nx ⟨.v (.one .ud),[j],[(j,y)],[],0⟩:=by
 intro a w R ρ Ps At Au tk us hd hev htk hus hit hAt hAu hst hn K Q hK
 have e0:us=[]:=List.map_eq_nil_iff.1 hus
 subst e0
 have e0:=All2.nil_left hAu
 subst e0
 obtain⟨A,rfl,h1⟩:=take1 htk (λx hx=>hit x (by simpa using hx)) hj hAt
 rw[List.append_nil] at hst
 obtain⟨w',B,ps,hr,hk,hB,hfp,hps,hrel⟩:=h a w R ρ Ps A hev h1 (hst.own A (List.mem_singleton_self _)) hst
 unfold wpX
 rw[hr]
 have hnd:A.fp.Nodup:=by
  have:=hst.nd
  rw[List.nodup_append] at this
  simpa[fps] using this.2.1
 have h2:=St.set (B:=B) (hst.addPs hps) hk hB (λb hb=> .inl (hfp▸hb)) (hfp▸hnd)
 refine hK undef w' ρ (ps++Ps) [B] (Grow.refl _ _ _) (λp hp=>List.mem_append_right _ hp) rfl ⟨hrel,trivial⟩ (by simpa using h2) (by simpa[fps] using hk) λb hb=> .inl ?_
 simp only[fps,List.flatMap_cons,List.flatMap_nil,List.append_nil] at hb⊢
 rwa[←hfp]
theorem opStore_sound(ok:TabOk S){o:Oper}{ev:Ev S.τ}{it:Nat→Option (Item S.τ)}{nx:Nat}{t:TypeId}{x v:Operand}{k:Out S.τ→Option R}{r:R}(hop:o.op= .store t x v)(h:opStore P S ev it t x v k=some r):∃out,k out=some r∧LocSem P S o ev it nx out:=by
 unfold opStore at h
 split at h
 ·rename_i ls i hls hi
  split at h
  ·rename_i hlen hcell
   have hlen:=Nat.eq_of_beq_eq_true hlen
   have hvs:∀(a:Act)(ρ:Rho)(Ps:List (World→Prop)),EvRel S ρ Ps ev a→All2 (RelLf S ρ Ps) ls (a.eval v).cells.toList:=λa ρ Ps hev=>avLvs_rel hls λy hy=>hev v y hy
   split at h
   ·rename_i j o' hx
    split at h
    ·rename_i xs hj
     split at h
     ·rename_i hle
      have hle:=Nat.le_of_ble_eq_true hle
      refine⟨_,h,loc_write hj λa w R ρ Ps A hev hrel hA hst=> ?_⟩
      obtain⟨g,vs,hg,rfl,hr⟩:=box_open hrel
      obtain⟨g',hg',hxv⟩:=hev _ _ hx
      rw[hg] at hg'
      obtain rfl:=someI' hg'
      have hv:=hvs a ρ Ps hev
      obtain⟨T,hT,hTy⟩:=boxA_at hA
      have hvl:(a.eval v).cells.toList.length=i.size:=by rw[←hv.len,hlen]
      have hrl:=hr.len
      have hrun:=run_store (P:=P) (a:=a) (w:=w) (b:=g.b) (k:=g.bo+o') hop (by rw[hxv,add_at,Nat.zero_add]) hi (by simpa using hvl) hT (by rw[hvl,List.size_toArray];simp only[List.length_append,Gh.bo];omega) (cells_one hcell hv)
      have hsp:spl (g.s.pre++vs++g.s.post) (g.bo+o') (a.eval v).cells.toList=g.s.pre++spl vs o' (a.eval v).cells.toList++g.s.post:=by
       unfold spl Gh.bo
       rw[show g.s.pre++vs++g.s.post=g.s.pre++(vs++g.s.post) from List.append_assoc ..,List.take_length_add_append,Nat.add_assoc,List.drop_length_add_append,List.take_append_of_le_length (by omega),List.drop_append_of_le_length (by omega)]
       simp[List.append_assoc]
      refine⟨_,boxA g (spl vs o' (a.eval v).cells.toList),[],hrun, ?_,boxA_of ⟨T,by rw[←hsp];exact setRow_heap w g.b _ _ T (0,0) hT,hTy⟩,rfl,by simp,g,_,hg,rfl,hr.splA hv o'⟩
      exact Keep.grown setRow_grown λc hc=>by injection hc with hc;simp[boxA,Asn.fp,hc]
     ·cases h
    ·cases h
   ·rename_i j sz ix o' hx
    split at h
    ·rename_i e u l hj
     split at h
     ·rename_i hsz hle
      have hsz:=Nat.eq_of_beq_eq_true hsz
      have hle:=Nat.le_of_ble_eq_true hle
      have key:∀(y':Dn S.τ u)(l':List (Dn S.τ u)),put l ix y'=some l'→(∀(a:Act)(w:World)(F:List Nat)(ρ:Rho)(Ps:List (World→Prop))(cs:List Value),EvRel S ρ Ps ev a→(∀p∈Ps,Bx F w p)→Bx F w (RepsB (S.GT u) cs l)→
        Bx F w (λw=>(S.GT u).rep w (spl ((cs.drop (ix.toNat*(S.GT u).sz)).take (S.GT u).sz) o' (a.eval v).cells.toList) y'))→LocSem P S o ev it nx ⟨.v (.one .ud),[j],[(j,.row e u l')],[],0⟩:=by
       intro y' l' hput hy'
       obtain⟨h0,hlt,rfl,_⟩:=put_some hput
       refine loc_write hj λa w R ρ Ps A hev hrel hA hst=> ?_
       obtain⟨g,cs,hg,rfl,hn,hmem⟩:=row_open hrel
       obtain⟨g',hg',hxv⟩:=hev _ _ hx
       rw[hg] at hg'
       obtain rfl:=someI' hg'
       have hv:=hvs a ρ Ps hev
       have hvl:(a.eval v).cells.toList.length=i.size:=by rw[←hv.len,hlen]
       obtain⟨b,cur,hga,hT,hfit,hB⟩:=row_store (i:=ix.toNat) (o:=o') (vs:=(a.eval v).cells.toList) hA (by omega) (by omega)
       have hrun:=run_store (P:=P) (a:=a) (w:=w) (b:=b) (k:=ix.toNat*S.sz u+o') hop (by rw[hxv,hga,hsz];simp only[baseOf,Option.getD_some];rw[add_add]) hi (by simpa using hvl) hT (by omega) (cells_one hcell hv)
       have hreps:=hst.per _ hmem
       have hy:=hy' a w _ ρ Ps cs hev hst.per hreps
       refine⟨_,.row g.a g.c e (S.sz u) g.n (spl cs (ix.toNat*S.sz u+o') (a.eval v).cells.toList),[RepsB (S.GT u) (spl cs (ix.toNat*S.sz u+o') (a.eval v).cells.toList) (l.set ix.toNat y')],hrun, ?_,hB,by rw[hga];rfl, ?_,g,_,hg,rfl,by rw[hn,List.length_set],by simp⟩
       ·refine Keep.grown setRow_grown λc hc=> ?_
        injection hc with hc
        rw[hga]
        simp[Asn.fp,hc]
       ·intro p hp
        rw[List.mem_singleton] at hp
        subst hp
        intro w' hk
        have hx0:l[ix.toNat]? =some (l[ix.toNat]'(by omega)):=List.getElem?_eq_getElem _
        have:=Reps.set (hreps w' hk) (o:=o') (vs:=(a.eval v).cells.toList) hx0 (by rw[sz_eq ok];omega) (hy w' hk)
        rw[sz_eq ok] at this
        exact this
      split at h
      ·rename_i hwhole
       have hwhole:=Nat.eq_of_beq_eq_true hwhole
       split at h
       ·rename_i hl hhl
        obtain⟨l',hput,h⟩:=bindS h
        refine⟨_,h,key _ l' hput λa w F ρ Ps cs hev hp hreps=> ?_⟩
        have hv:=hvs a ρ Ps hev
        have hvl:(a.eval v).cells.toList.length=S.sz u:=by rw[←hv.len,hlen,hwhole]
        obtain⟨h0,hlt,_,_⟩:=put_some hput
        have hcl:=hreps.here.len
        rw[sz_eq ok] at hcl⊢
        have hin:ix.toNat*S.sz u+S.sz u≤l.length*S.sz u:=by
         have:=Nat.mul_le_mul_right (S.sz u) (show ix.toNat+1≤l.length by omega)
         rwa[Nat.succ_mul] at this
        have ho0:o'=0:=by omega
        subst ho0
        have hsl:spl ((cs.drop (ix.toNat*S.sz u)).take (S.sz u)) 0 (a.eval v).cells.toList=(a.eval v).cells.toList:=spl_all (by rw[hvl,List.length_take,List.length_drop];omega)
        intro w' hk
        show(S.GT u).rep w' _ _
        rw[hsl]
        exact rel_rep ok hp (toHL_rel hhl hv) w' hk
       ·cases h
      ·obtain⟨y,hy,h⟩:=bindS h
       split at h
       ·rename_i hl hhl
        obtain⟨l',hput,h⟩:=bindS h
        refine⟨_,h,key _ l' hput λa w F ρ Ps cs hev hp hreps=> ?_⟩
        have hv:=hvs a ρ Ps hev
        obtain⟨ps,hps,hr⟩:=rep_rel ok (Reps.bx_at hreps hy)
        have h1:=((hr ρ).mono2 (Ps':=ps++Ps) λp hp=>List.mem_append_left _ hp).splA (hv.mono2 (Ps':=ps++Ps) λp hp=>List.mem_append_right _ hp) o'
        have:=rel_rep ok (Ps:=ps++Ps) (F:=F) (w:=w) (λp hpp=>by
         rcases List.mem_append.1 hpp with hpp|hpp
         ·exact hps p hpp
         ·exact hp p hpp) (toHL_rel hhl h1)
        exact this
       ·cases h
     ·cases h
    ·cases h
   ·rename_i j q qs hx
    split at h
    ·rename_i u ex l q' z hj _
     split at h
     ·rename_i hq
      obtain rfl:=ikB_eq hq
      refine⟨_,h,loc_write hj λa w R ρ Ps A hev hrel hA hst=> ?_⟩
      obtain⟨g,F',b,hg,rfl,hb,hn,hne,hblk,hhd⟩:=hrel
      obtain⟨g',A',hg',hxv,hse⟩:RelLf S ρ Ps (.se j (some q::qs)) (a.eval x):=hev _ _ hx
      rw[hg] at hg'
      obtain rfl:=someI' hg'
      have hin:InL g A' (.int q 0):=by have:=hse 0 q rfl;rwa[add_zero'] at this
      have hread:=hA w (λ_ _=>rfl)
      obtain⟨⟨z0,hc⟩,hnf⟩:ReqOk w A' (.int q 0):=hread.2 _ _ hin
      have hc:=hc 0 _ rfl
      rw[add_zero'] at hc
      obtain⟨cur,T,hT,hz,hsp⟩:∃cur T,w.heap[A'.block]? =some (.cells cur T (0,0))∧cur[A'.off]? =some (.int q z0)∧A'.spot=none:=by
       unfold World.cell? at hc
       split at hc
       ·rename_i c T fr hT
        split at hc
        ·cases hc
        ·rename_i hs
         obtain rfl:=hnf _ _ _ hT
         exact⟨c,T,hT,hc,by simpa using hs⟩
       ·cases hc
      have hlt:A'.off<cur.size:=(Array.getElem?_eq_some_iff.1 hz).1
      have hv:=hvs a ρ Ps hev
      obtain⟨v1,r1,hcl,e1,hr1⟩:=All2.cons_left hv
      obtain rfl:=All2.nil_left hr1
      obtain rfl:v1= .int q z:=e1
      have hA2:A'=(⟨A'.block,0,none⟩:Addr).add A'.off:=by rw[add_at,Nat.zero_add,←hsp]
      have hrun:=run_store (P:=P) (a:=a) (w:=w) (b:=A'.block) (k:=A'.off) hop (by rw[hxv,←hA2]) hi (by simp only[←Array.length_toList,hcl];exact hlen) hT (by rw[hcl];simp only[List.length_singleton];omega) (cells_one hcell hv)
      rw[hcl] at hrun
      have hF:A'.block∈F':=hblk _ _ hin
      refine⟨_,.any F' (ScrP S g u false l),[],hrun, ?_,λw2 hw2=>⟨(λe=>by cases e),λB y hy=> ?_⟩,rfl,by simp,g,F',false,hg,rfl,(λe=>e),hn,hne,hblk,hhd⟩
      ·exact Keep.grown setRow_grown λc hc=>by injection hc with hc;rw[←hc];exact hF
      ·exact req_at (req_store hT hz (hread.2 _ _ hy)) (hw2 _ (hblk _ _ hy))
     ·cases h
    ·cases h
   ·cases h
  ·cases h
 ·cases h
end
end Go.Bur
