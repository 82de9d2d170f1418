import Derived.Test.YtchocpffjnodfaaGreatLo
namespace Go.Bur
open Go.RowKit
set_option linter.unusedVariables false
set_option linter.unusedSimpArgs false
theorem add_at(b o n:Nat):(⟨b,o,none⟩:Addr).add n=⟨b,o+n,none⟩:=by
 unfold Addr.add;split
 ·rename_i h;subst h;rfl
 ·rfl
theorem boxA_at{g:Gh}{vs:List Value}{w:World}(h:(boxA g vs).holds w):BoxAt g vs w:=h w λ_ _=>rfl
theorem boxA_of{g:Gh}{vs:List Value}{w:World}(h:BoxAt g vs w):(boxA g vs).holds w:=λw' hk=>by
 obtain⟨T,h1,h2⟩:=h
 exact⟨T,by rw[hk g.b (List.mem_singleton_self _)];exact h1,h2⟩
theorem BoxAt.cells{g:Gh}{vs:List Value}{w:World}(h:BoxAt g vs w):CellsAt w ⟨g.b,g.bo,none⟩ vs:=by
 obtain⟨T,h1,_⟩:=h
 have h2:=(Own.cells (show Own w g.b (g.s.pre++vs++g.s.post) from⟨T,h1⟩)).sub g.bo vs.length
 rw[add_at,Nat.zero_add] at h2
 have e:((g.s.pre++vs++g.s.post).drop g.bo).take vs.length=vs:=by
  unfold Gh.bo
  rw[List.append_assoc,List.drop_left,List.take_left]
 rwa[e] at h2
section
variable {τ : Nat → Type}
def capsOf(ev:Ev τ):List Operand→Option (List (Cap τ))
 |[]=>some []
 |x::r=>match ev x,capsOf ev r with
  |some (.v (.one (.box k 0))),some cs=>some (.bx k::cs)
  |some (.v (.one (.ro t y 0))),some cs=>some (.ro t y::cs)
  |_,_=>none
def isPtr:Lf τ→Bool
 | .box _ _| .el _ _ _ _| .ro _ _ _| .fn _ _=>true
 |_=>false
def offL(n:Nat):Lf τ→Option (Lf τ)
 | .box k o=>some (.box k (o+n))
 | .el k sz i o=>some (.el k sz i (o+n))
 | .ro t x o=>some (.ro t x (o+n))
 | .se k qs=>some (.se k (qs.drop n))
 |_=>none
def fieldOff(P:Program)(s:TypeId)(f:Nat):Option (Nat×TypeId):=match P.underlying s with
 |some (.struct fs)=>match fs[f]? with
  |some fd=>match P.info? fd.type with
   |some i=>match i.size with
    |0=>none
    |_+1=>some (fd.offset,fd.type)
   |none=>none
  |none=>none
 |_=>none
def opMove(P:Program)(ev:Ev τ):Op→Option (AV τ)
 | .move x=>ev x
 | .assign x=>ev x
 | .nilCheck x=>match ev x with
  |some (.v (.one l))=>match isPtr l with
   |true=>some (.v (.one l))
   |false=>none
  |_=>none
 | .pick c a b=>match ev c with
  |some (.v (.one (.lit e)))=>match e with
   |true=>ev a
   |false=>ev b
  |_=>none
 | .extract t i=>match ev t with
  |some (.tup xs)=>match xs[i]? with
   |some x=>some (.v x)
   |none=>none
  |_=>none
 | .makeFunc (.func g) first caps=>match capsOf ev first.toList,capsOf ev caps.toList with
  |some [],some cs=>some (.v (.one (.fn g cs)))
  |some fs,some []=>some (.v (.one (.bfn g fs)))
  |_,_=>none
 | .fieldAddr s x f=>match ev x,fieldOff P s f with
  |some (.v (.one l)),some (n,_)=>match offL n l with
   |some l'=>some (.v (.one l'))
   |none=>none
  |_,_=>none
 |_=>none
end
section
variable {P : Program} {S : Tab} {ρ : Rho} {Ps : List (World → Prop)}
theorem capsOf_rel{ev:Ev S.τ}{a:Act}(h:EvRel S ρ Ps ev a):∀{xs:List Operand} {cs:List (Cap S.τ)},capsOf ev xs=some cs→All2 (RelCap S ρ Ps) cs (xs.map a.eval)
 |[],cs,hc=>by obtain rfl:=someI' hc;trivial
 |x::r,cs,hc=>by
  simp only[capsOf] at hc
  split at hc
  ·rename_i k cs' h1 h2
   obtain rfl:=someI' hc
   exact⟨h x _ h1,capsOf_rel h h2⟩
  ·rename_i t y cs' h1 h2
   obtain rfl:=someI' hc
   obtain⟨A,h3,h4⟩:RelLf S ρ Ps (.ro t y 0) (a.eval x):=h x _ h1
   exact⟨⟨A,by rw[h3];rfl,h4⟩,capsOf_rel h h2⟩
  ·cases hc
theorem isPtr_val{l:Lf S.τ}{v:Value}(hl:isPtr l=true)(h:RelLf S ρ Ps l v):(∃A,v= .pointer (some A))∨(∃g vs,v= .func (.func g) #[] vs):=by
 cases l with
 |box k o=>obtain⟨g,_,rfl⟩:=h;exact .inl ⟨_,rfl⟩
 |el k sz i o=>obtain⟨g,_,rfl⟩:=h;exact .inl ⟨_,rfl⟩
 |ro t x o=>obtain⟨A,rfl,_⟩:=h;exact .inl ⟨_,rfl⟩
 |fn g cs=>obtain⟨vs,rfl,_⟩:=h;exact .inr ⟨_,_,rfl⟩
 |_=>cases hl
theorem offL_rel{n:Nat}{l l':Lf S.τ}{v:Value}(hl:offL n l=some l')(h:RelLf S ρ Ps l v):∃A,v= .pointer (some A)∧RelLf S ρ Ps l' (.pointer (some (A.add n))):=by
 cases l with
 |box k o=>obtain rfl:=someI' hl;obtain⟨g,h1,rfl⟩:=h;exact⟨_,rfl,g,h1,by rw[add_at,Nat.add_assoc]⟩
 |el k sz i o=>obtain rfl:=someI' hl;obtain⟨g,h1,rfl⟩:=h;exact⟨_,rfl,g,h1,by rw[add_add]⟩
 |ro t x o=>obtain rfl:=someI' hl;obtain⟨A,rfl,h1⟩:=h;exact⟨_,rfl,A,by rw[add_add],h1⟩
 |se k qs=>
  obtain rfl:=someI' hl
  obtain⟨g,A,h1,rfl,h2⟩:=h
  exact⟨_,rfl,g,_,h1,rfl,λp q hp=>by rw[List.getElem?_drop] at hp;rw[add_add];exact h2 _ q hp⟩
 |_=>cases hl
theorem fieldOff_run{s:TypeId}{f n:Nat}{ft:TypeId}(h:fieldOff P s f=some (n,ft))(A:Addr)(w:World):(Instr.fieldAt s (.pointer (some A)) f).run P w= .ok (.pointer (some (A.add n))) w:=by
 unfold fieldOff at h
 split at h
 ·rename_i fs hu
  split at h
  ·rename_i fd hf
   split at h
   ·rename_i i hi
    split at h
    ·cases h
    ·rename_i m hm
     simp only[Option.some.injEq,Prod.mk.injEq] at h
     obtain⟨rfl,rfl⟩:=h
     simp[Instr.fieldAt,run_underlying hu,hf,Instr.sureAddr,fieldPlace,sizeOf,run_info hi,hm]
   ·cases h
  ·cases h
 ·cases h
theorem opMove_sound{o:Oper}{ev:Ev S.τ}{it:Nat→Option (Item S.τ)}{nx:Nat}{out:AV S.τ}(h:opMove P ev o.op=some out):LocSem P S o ev it nx ⟨out,[],[],[],0⟩:=by
 refine loc_val λa w ρ Ps hev=> ?_
 obtain⟨dst,op,type,pos,after,guard⟩:=o
 simp only at h
 unfold opMove at h
 split at h
 ·exact⟨_,by simp[execOp],hev _ _ h⟩
 ·exact⟨_,by simp[execOp],hev _ _ h⟩
 ·rename_i x
  split at h
  ·rename_i l hx
   split at h
   ·rename_i hl
    obtain rfl:=someI' h
    have hr:=hev _ _ hx
    refine⟨a.eval x, ?_,hr⟩
    rcases isPtr_val hl hr with⟨A,e⟩|⟨g,vs,e⟩<;>simp[execOp,e]
   ·cases h
  ·cases h
 ·rename_i c x y
  split at h
  ·rename_i e hc
   have hcv:a.eval c= .bool e:=hev _ _ hc
   split at h
   ·exact⟨a.eval x,by simp[execOp,hcv,asBool],hev _ _ h⟩
   ·exact⟨a.eval y,by simp[execOp,hcv,asBool],hev _ _ h⟩
  ·cases h
 ·rename_i t i
  split at h
  ·rename_i xs ht
   split at h
   ·rename_i x hx
    obtain rfl:=someI' h
    obtain⟨vs,hv,hh⟩:=hev _ _ ht
    obtain⟨v,h1,h2⟩:=hh.get hx
    exact⟨v,by simp[execOp,Instr.extract,hv,h1],h2⟩
   ·cases h
  ·cases h
 ·rename_i g first caps
  have hrun:(execOp a.eval ⟨dst,.makeFunc (.func g) first caps,type,pos,after,guard⟩).run P w= .ok (.value (.func (.func g) (first.toList.map a.eval).toArray (caps.toList.map a.eval).toArray)) w:=by
   have e1:first.map a.eval=(first.toList.map a.eval).toArray:=by apply Array.ext';simp
   have e2:caps.map a.eval=(caps.toList.map a.eval).toArray:=by apply Array.ext';simp
   simp only[execOp,Instr.makeFunc,e1,e2]
   rfl
  split at h
  ·rename_i cs h1 h2
   obtain rfl:=someI' h
   have hf:=All2.nil_left (capsOf_rel hev h1)
   rw[hf] at hrun
   exact⟨_,hrun,caps.toList.map a.eval,rfl,capsOf_rel hev h2⟩
  ·rename_i fs _ h1 h2
   obtain rfl:=someI' h
   have hf:=All2.nil_left (capsOf_rel hev h2)
   rw[hf] at hrun
   exact⟨_,hrun,first.toList.map a.eval,rfl,capsOf_rel hev h1⟩
  ·cases h
 ·rename_i s x f
  split at h
  ·rename_i l n ft hx hf
   split at h
   ·rename_i l' hl
    obtain rfl:=someI' h
    obtain⟨A,e,hr⟩:=offL_rel hl (hev _ _ hx)
    exact⟨_,by simp[execOp,e,fieldOff_run hf],hr⟩
   ·cases h
  ·cases h
 ·cases h
end
def splA{α:Type}(cs:List α)(k:Nat)(vs:List α):List α:=cs.take k++vs++cs.drop (k+vs.length)
section
variable {τ : Nat → Type}
def Lf.ok:Lf τ→Bool
 | .un=>false
 |_=>true
def lvsOf:A1 τ→Option (List (Lf τ))
 | .one x=>match x.ok with
  |true=>some [x]
  |false=>none
 | .agg xs=>some xs
def avLvs:Option (AV τ)→Option (List (Lf τ))
 |some (.v x)=>lvsOf x
 |_=>none
def partsOf(ev:Ev τ):List (Nat×Operand)→Option (List (Nat×List (Lf τ)))
 |[]=>some []
 |(i,x)::r=>match avLvs (ev x),partsOf ev r with
  |some ls,some ps=>some ((i,ls)::ps)
  |_,_=>none
def fillL(place:Nat→Option (Nat×Nat))(xs:List (Lf τ)):List (Nat×List (Lf τ))→Option (List (Lf τ))
 |[]=>some xs
 |(i,ls)::rest=>match place i with
  |some (off,size)=>match Nat.beq ls.length size,Nat.ble (off+size) xs.length with
   |true,true=>fillL place (splA xs off ls) rest
   |_,_=>none
  |none=>none
end
def placesOf(P:Program)(t:TypeId):Option (Nat→Option (Nat×Nat)):=match P.underlying t with
 |some (.struct fields)=>match peval P (fields.mapM λf=>do pure (f.offset,←sizeOf f.type):Sem (Array (Nat×Nat))) with
  |some pl=>some λi=>pl[i]?
  |none=>none
 |some (.array _ e)=>match P.info? e with
  |some i=>some λk=>some (k*i.size,i.size)
  |none=>none
 |_=>none
def zeroLs{τ:Nat→Type}(P:Program)(t:TypeId):Option (List (Lf τ)):=match P.info? t with
 |some i=>match i.zero with
  |some z=>ofLfs z.cells.toList
  |none=>none
 |none=>none
def opBuild{τ:Nat→Type}(P:Program)(ev:Ev τ):Op→Option (AV τ)
 | .build t parts=>match zeroLs P t,placesOf P t,partsOf ev parts.toList with
  |some z,some pl,some ps=>match fillL pl z ps with
   |some xs=>some (.v (.agg xs))
   |none=>none
  |_,_,_=>none
 | .field t x f=>match ev x,fieldOff P t f with
  |some (.v (.agg xs)),some (n,ft)=>match aggOf P ft,P.info? ft with
   |some true,some i=>some (.v (.agg ((xs.drop n).take i.size)))
   |some false,some _=>match xs[n]? with
    |some y=>some (.v (.one y))
    |none=>none
   |_,_=>none
  |_,_=>none
 |_=>none
section
variable {P : Program} {S : Tab} {ρ : Rho} {Ps : List (World → Prop)}
theorem ok_cells{x:Lf S.τ}{v:Value}(hx:x.ok=true)(h:RelLf S ρ Ps x v):v.cells= #[v]:=by
 cases x with
 |un=>cases hx
 |d t y=>
  cases t with
  |st i=>exact h.elim
  |mp e=>exact h.elim
  |sl e=>obtain⟨a,c,rfl,_⟩:=h;rfl
  |_=>rw[show v=_ from h];rfl
 |nil=>rw[show v=_ from h];rfl
 |own k=>obtain⟨g,_,rfl⟩:=h;rfl
 |box k o=>obtain⟨g,_,rfl⟩:=h;rfl
 |el k sz i o=>obtain⟨g,_,rfl⟩:=h;rfl
 |ro t y o=>obtain⟨A,rfl,_⟩:=h;rfl
 |fn g cs=>obtain⟨vs,rfl,_⟩:=h;rfl
 |bfn g cs=>obtain⟨vs,rfl,_⟩:=h;rfl
 |full t l=>obtain⟨a,rfl,_⟩:=h;rfl
 |map k=>obtain⟨g,_,rfl⟩:=h;rfl
 |yd k=>obtain⟨g,_,rfl⟩:=h;rfl
 |vw k sz i=>obtain⟨g,b,_,rfl,_⟩:=h;rfl
 |si k u l=>obtain⟨g,_,a,c,rfl,_⟩:=h;rfl
 |se k u=>obtain⟨g,A,_,rfl,_⟩:=h;rfl
 |er e=>rcases h with⟨_,rfl⟩|⟨_,t,p,rfl⟩<;>rfl
 |nmap=>rw[show v=_ from h];rfl
 |nptr=>rw[show v=_ from h];rfl
 |nfn=>rw[show v=_ from h];rfl
 |lit b=>rw[show v=_ from h];rfl
 |nb n e=>obtain⟨b,rfl,_⟩:=h;rfl
 |ud=>rw[show v=_ from h];rfl
theorem lvsOf_rel{x:A1 S.τ}{ls:List (Lf S.τ)}{v:Value}(hx:lvsOf x=some ls)(h:RelA1 S ρ Ps x v):All2 (RelLf S ρ Ps) ls v.cells.toList:=by
 cases x with
 |one y=>
  simp only[lvsOf] at hx
  split at hx
  ·rename_i hy
   obtain rfl:=someI' hx
   rw[ok_cells hy h]
   exact⟨h,trivial⟩
  ·cases hx
 |agg xs=>
  obtain rfl:=someI' hx
  obtain⟨vs,rfl,h1⟩:=h
  simpa[Value.cells] using h1
theorem avLvs_rel{x:Option (AV S.τ)}{ls:List (Lf S.τ)}{v:Value}(hx:avLvs x=some ls)(h:∀y,x=some y→RelAV S ρ Ps y v):All2 (RelLf S ρ Ps) ls v.cells.toList:=by
 unfold avLvs at hx
 split at hx
 ·exact lvsOf_rel hx (h _ rfl)
 ·cases hx
theorem All2.splA{α β:Type}{R:α→β→Prop}{xs vs:List α}{ys us:List β}(h:All2 R xs ys)(hv:All2 R vs us)(k:Nat):All2 R (splA xs k vs) (splA ys k us):=by
 unfold Bur.splA
 rw[hv.len]
 exact((h.take k).app hv).app (h.drop _)
theorem setFold:∀(vs:List Value)(n off:Nat)(cs:Array Value),off+n+vs.length≤cs.size→((vs.zipIdx n).foldl (λcs (x:Value×Nat)=>cs.setIfInBounds (off+x.2) x.1) cs).toList=splA cs.toList (off+n) vs
 |[],n,off,cs,h=>by simp[splA]
 |v::r,n,off,cs,h=>by
  simp only[List.length_cons] at h
  rw[List.zipIdx_cons,List.foldl_cons,setFold r (n+1) off _ (by simp;omega)]
  have hl:off+n<cs.toList.length:=by rw[Array.length_toList];omega
  simp only[splA,Array.toList_setIfInBounds,List.length_cons]
  rw[show off+(n+1)=off+n+1 from by omega,List.take_add_one,List.take_set_of_le (Nat.le_refl _)]
  rw[List.getElem?_set_self hl,List.drop_set_of_lt (by omega)]
  simp[Nat.add_assoc,Nat.add_comm 1]
theorem fill_rel{place:Nat→Option (Nat×Nat)}:∀(ps:List (Nat×List (Lf S.τ)))(vs:List (Nat×Value))(xs ys:List (Lf S.τ))(cs:Array Value),fillL place xs ps=some ys→All2 (RelLf S ρ Ps) xs cs.toList→
  All2 (fun(x:Nat×List (Lf S.τ)) (y:Nat×Value)=>x.1=y.1∧All2 (RelLf S ρ Ps) x.2 y.2.cells.toList) ps vs→∃ds,Instr.fill place cs vs=some ds∧All2 (RelLf S ρ Ps) ys ds.toList
 |[],vs,xs,ys,cs,h,hx,hp=>by
  have:=All2.nil_left hp
  subst this
  obtain rfl:=someI' h
  exact⟨cs,rfl,hx⟩
 |(i,ls)::rest,vs,xs,ys,cs,h,hx,hp=>by
  obtain⟨⟨j,v⟩,vs',rfl,⟨h1,h2⟩,h3⟩:=All2.cons_left hp
  simp only at h1 h2
  subst h1
  simp only[fillL] at h
  split at h
  ·rename_i off size hpl
   split at h
   ·rename_i hb1 hb2
    have e1:=Nat.eq_of_beq_eq_true hb1
    have e2:=Nat.le_of_ble_eq_true hb2
    have hlen:ls.length=v.cells.toList.length:=h2.len
    have hxl:=hx.len
    have e3:v.cells.toList.length=v.cells.size:=Array.length_toList
    have e4:cs.toList.length=cs.size:=Array.length_toList
    have e5:xs.length=cs.toList.length:=hxl
    have e6:ls.length=size:=e1
    have hs:=hx.splA h2 off
    have hf:=setFold v.cells.toList 0 off cs (by omega)
    rw[Nat.add_zero] at hf
    rw[←hf] at hs
    obtain⟨ds,hd,hr⟩:=fill_rel rest vs' _ ys _ h hs h3
    refine⟨ds, ?_,hr⟩
    unfold Instr.fill
    rw[hpl]
    simp only
    rw[if_neg (by simp;omega),←hd]
    congr 1
    rw[←Array.foldl_toList,Array.toList_zipIdx]
   ·cases h
  ·cases h
theorem partsOf_rel{ev:Ev S.τ}{a:Act}(hev:EvRel S ρ Ps ev a):∀{xs:List (Nat×Operand)} {ps:List (Nat×List (Lf S.τ))},partsOf ev xs=some ps→
  All2 (fun(x:Nat×List (Lf S.τ)) (y:Nat×Value)=>x.1=y.1∧All2 (RelLf S ρ Ps) x.2 y.2.cells.toList) ps (xs.map λx=>(x.1,a.eval x.2))
 |[],ps,h=>by obtain rfl:=someI' h;trivial
 |(i,x)::r,ps,h=>by
  simp only[partsOf] at h
  split at h
  ·rename_i ls ps' h1 h2
   obtain rfl:=someI' h
   exact⟨⟨rfl,avLvs_rel h1 λy hy=>hev x y hy⟩,partsOf_rel hev h2⟩
  ·cases h
theorem zeroLs_rel{t:TypeId}{xs:List (Lf S.τ)}(h:zeroLs P t=some xs):∃z,(∀w,(zeroValue t).run P w= .ok z w)∧All2 (RelLf S ρ Ps) xs z.cells.toList:=by
 unfold zeroLs at h
 split at h
 ·rename_i i hi
  split at h
  ·rename_i z hz
   exact⟨z,λw=>by simp[zeroValue,run_info hi,hz],ofLfs_rel h⟩
  ·cases h
 ·cases h
theorem opBuild_sound{o:Oper}{ev:Ev S.τ}{it:Nat→Option (Item S.τ)}{nx:Nat}{out:AV S.τ}(h:opBuild P ev o.op=some out):LocSem P S o ev it nx ⟨out,[],[],[],0⟩:=by
 refine loc_val λa w ρ Ps hev=> ?_
 obtain⟨dst,op,type,pos,after,guard⟩:=o
 simp only at h
 unfold opBuild at h
 split at h
 ·rename_i t parts
  split at h
  ·rename_i z pl ps hz hpl hps
   split at h
   ·rename_i xs hx
    obtain rfl:=someI' h
    obtain⟨zv,hrz,hzr⟩:=zeroLs_rel (ρ:=ρ) (Ps:=Ps) hz
    obtain⟨ds,hd,hr⟩:=fill_rel ps _ z xs zv.cells hx hzr (partsOf_rel hev hps)
    refine⟨.agg ds, ?_,ds.toList,by simp,hr⟩
    have hpm:(parts.map fun(x:Nat×Operand)=>(x.1,a.eval x.2)).toList=parts.toList.map λx=>(x.1,a.eval x.2):=by simp
    unfold placesOf at hpl
    split at hpl
    ·rename_i fields hu
     split at hpl
     ·rename_i pls hpe
      obtain rfl:=someI' hpl
      have hrun:=peval_sound _ hpe w
      have hbind:(Instr.build t (parts.map fun(x:Nat×Operand)=>(x.1,a.eval x.2))).run P w= .ok (.agg ds) w:=by
       unfold Instr.build
       simp only[Sem.run_bind,hrz,Result.andThen_ok,run_underlying hu]
       rw[hrun]
       simp only[Result.andThen_ok,hpm]
       rw[hd]
       simp
      simp only[execOp,Sem.run_bind]
      rw[hbind]
      rfl
     ·cases hpl
    ·rename_i len e hu
     split at hpl
     ·rename_i i hi
      obtain rfl:=someI' hpl
      have hbind:(Instr.build t (parts.map fun(x:Nat×Operand)=>(x.1,a.eval x.2))).run P w= .ok (.agg ds) w:=by
       unfold Instr.build
       simp only[Sem.run_bind,hrz,Result.andThen_ok,run_underlying hu,sizeOf,run_info hi,Sem.run_pure,hpm]
       rw[hd]
       simp
      simp only[execOp,Sem.run_bind]
      rw[hbind]
      rfl
     ·cases hpl
    ·cases hpl
   ·cases h
  ·cases h
 ·rename_i t x f
  split at h
  ·rename_i xs n ft hx hf
   obtain⟨vs,hv,hr⟩:=hev _ _ hx
   unfold fieldOff at hf
   split at hf
   ·rename_i fs hu
    split at hf
    ·rename_i fd hfd
     split at hf
     ·rename_i i0 hi0
      split at hf
      ·cases hf
      ·simp only[Option.some.injEq,Prod.mk.injEq] at hf
       obtain⟨rfl,rfl⟩:=hf
       split at h
       ·rename_i i ha hi
        obtain rfl:=someI' h
        refine⟨.agg ((vs.drop fd.offset).take i.size).toArray, ?_,_,rfl,(hr.drop _).take _⟩
        have hag:(isAgg fd.type).run P w= .ok true w:=by
         unfold aggOf at ha
         split at ha<;>simp_all[isAgg,run_underlying]
        simp only[execOp,Sem.run_bind,Instr.field,run_underlying hu,Result.andThen_ok,hfd,hv,asAgg,Sem.run_pure,part,hag,if_true,sizeOf,run_info hi]
        simp[List.extract_eq_take_drop]
       ·rename_i i ha hi
        split at h
        ·rename_i y hy
         obtain rfl:=someI' h
         obtain⟨v,h1,h2⟩:=hr.get hy
         refine⟨v, ?_,h2⟩
         have hag:(isAgg fd.type).run P w= .ok false w:=by
          unfold aggOf at ha
          split at ha<;>first|(cases ha;done)|skip
          rename_i d hd hd2 hd3
          cases d<;>simp_all[isAgg,run_underlying]
         simp only[execOp,Sem.run_bind,Instr.field,run_underlying hu,Result.andThen_ok,hfd,hv,asAgg,Sem.run_pure,part,hag]
         simp[h1]
        ·cases h
       ·cases h
     ·cases hf
    ·cases hf
   ·cases hf
  ·cases h
 ·cases h
end
end Go.Bur
