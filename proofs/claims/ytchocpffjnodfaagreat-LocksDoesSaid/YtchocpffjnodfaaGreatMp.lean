import Derived.Test.YtchocpffjnodfaaGreatCa
namespace Go.Bur
open Go.RowKit
set_option linter.unusedVariables false
set_option linter.unusedSimpArgs false
open Classical in
noncomputable def agree{R:Type}(x y:Option R):Option R:=if x=y then x else none
theorem agree_some{R:Type}{x y:Option R}{r:R}(h:agree x y=some r):x=some r∧y=some r:=by
 unfold agree at h
 split at h
 ·rename_i e;exact⟨h,e▸h⟩
 ·cases h
theorem agree_self{R:Type}(x:Option R):agree x x=x:=by unfold agree;rw[if_pos rfl]
noncomputable def nilC{R:Type}(e:Bool)(x y:Option R):Option R:=cond e (agree x y) y
theorem nilC_some{R:Type}{e b:Bool}{x y:Option R}{r:R}(h:nilC e x y=some r)(hb:b=true→e=true):(cond b x y)=some r:=by
 unfold nilC at h
 cases e with
 |true=>
  obtain⟨h1,h2⟩:=agree_some h
  cases b
  ·exact h2
  ·exact h1
 |false=>cases b with
  |true=>cases hb rfl
  |false=>exact h
section
variable {P : Program} {S : Tab} {R : Type}
def isEq:BinOp→Option Bool
 | .eql=>some false
 | .neq=>some true
 |_=>none
def opNil(P:Program)(S:Tab)(ev:Ev S.τ)(it:Nat→Option (Item S.τ)):Op→Option (AV S.τ×List Nat)
 | .binOp b t x y _=>match P.underlying t,ev y,isEq b with
  |some (.slice _),some (.v (.one .nil)),some neg=>match ev x with
   |some (.v (.one (.d (.sl u) l)))=>some (.v (.one (.nb neg (@List.isEmpty (Dn S.τ u) l))),[])
   |some (.v (.one (.own j)))=>match it j with
    |some (.row _ _ l)=>some (.v (.one (.nb neg l.isEmpty)),[j])
    |some (.deep _ _ _ _ l)=>some (.v (.one (.nb neg l.isEmpty)),[j])
    |_=>none
   |_=>none
  |_,_,_=>none
 |_=>none
theorem eqOk_nil'{t e:TypeId}{a:Option Addr}{n c:Nat}{w:World}(hu:P.underlying t=some (.slice e))(b:BinOp)(neg:Bool)(hb:isEq b=some neg):EqOk P b t (.slice a n c) (.slice none 0 0) (.bool (a.isNone !=neg)) w:=by
 cases b<;>first|(cases hb;done)|skip
 ·obtain rfl:=someI' hb
  intro xo yo
  have:=eqOk_nil (P:=P) (a:=a) (n:=n) (c:=c) (w:=w) hu xo yo
  simpa using this
 ·obtain rfl:=someI' hb
  intro xo yo
  have h:∀d,(Op.equalIn (d+1) t (.slice a n c) (.slice none 0 0)).run P w= .ok a.isNone w:=λd=>by
   cases a<;>simp[Op.equalIn,run_underlying hu]
  have hb:(Go.binOp .neq t (.slice a n c) (.slice none 0 0):Sem Value)=(do pure (.bool (!(←Op.equalIn (9999+1) t (.slice a n c) (.slice none 0 0))))):=rfl
  have hg:eqGuard .neq t xo yo (.slice a n c) (.slice none 0 0)=pure ():=rfl
  rw[hg,hb]
  simp only[Sem.run_bind,Sem.run_pure,Result.andThen_ok,h]
  cases a<;>rfl
theorem opNil_sound{o:Oper}{ev:Ev S.τ}{it:Nat→Option (Item S.τ)}{nx:Nat}{out:AV S.τ}{us:List Nat}(h:opNil P S ev it o.op=some (out,us)):LocSem P S o ev it nx ⟨out,[],[],us,0⟩:=by
 obtain⟨dst,op,type,pos,after,guard⟩:=o
 simp only at h
 unfold opNil at h
 split at h
 ·rename_i b t x y yt
  split at h
  ·rename_i e neg hu hy hb
   have run:∀(a:Act)(w:World)(A:Option Addr)(n c:Nat),a.eval x= .slice A n c→a.eval y= .slice none 0 0→(execOp a.eval (⟨dst,.binOp b t x y yt,type,pos,after,guard⟩:Oper)).run P w= .ok (.value (.bool (A.isNone !=neg))) w:=λa w A n c hx hy=>by
    have h1:=eqOk_nil' (P:=P) (a:=A) (n:=n) (c:=c) (w:=w) hu b neg hb x y
    simp only[Sem.run_bind] at h1
    simp only[execOp,hx,hy,Sem.run_bind]
    rw[h1];rfl
   split at h
   ·rename_i u l hx
    simp only[Option.some.injEq,Prod.mk.injEq] at h
    obtain⟨rfl,rfl⟩:=h
    refine loc_read [] λa w F ρ Ps Au us hev hus hit hAu hh hps=> ?_
    obtain⟨A,c,hxv,hl⟩:=hev _ _ hx
    have hyv:a.eval y= .slice none 0 0:=hev _ _ hy
    refine⟨_,[],run a w A _ c hxv hyv,by simp,A.isNone,rfl,λhn=> ?_⟩
    rcases hl with hl|hl
    ·rw[hl];rfl
    ·by_cases e:(l:List (Dn S.τ u))=[]
     ·rw[e];rfl
     ·exact absurd (Option.isNone_iff_eq_none.1 hn) ((hps _ hl).here.some_ e)
   ·rename_i j hx
    split at h
    ·rename_i e' u l hj
     simp only[Option.some.injEq,Prod.mk.injEq] at h
     obtain⟨rfl,rfl⟩:=h
     refine loc_read [j] λa w F ρ Ps Au us hev hus hit hAu hh hps=> ?_
     obtain⟨A,rfl,_,h1⟩:=use1 hus hit hj hAu
     obtain⟨g,cs,hg,rfl,hn,hmem⟩:=row_open h1
     obtain⟨g',hg',hxv⟩:=hev _ _ hx
     rw[hg] at hg'
     obtain rfl:=someI' hg'
     have hyv:a.eval y= .slice none 0 0:=hev _ _ hy
     refine⟨_,[],run a w _ _ _ hxv hyv,by simp,g.a.isNone,rfl,λhnn=> ?_⟩
     obtain⟨_,_,h3⟩:=row_cells (hh _ (List.mem_singleton_self _))
     cases l with
     |nil=>rfl
     |cons z l=>exact absurd (Option.isNone_iff_eq_none.1 hnn) (h3 (by rw[hn];simp))
    ·rename_i e' u es mm l hj
     simp only[Option.some.injEq,Prod.mk.injEq] at h
     obtain⟨rfl,rfl⟩:=h
     refine loc_read [j] λa w F ρ Ps Au us hev hus hit hAu hh hps=> ?_
     obtain⟨A,rfl,_,h1⟩:=use1 hus hit hj hAu
     obtain⟨g,c1,c2,G,hg,rfl,hn,_⟩:=h1
     obtain⟨g',hg',hxv⟩:=hev _ _ hx
     rw[hg] at hg'
     obtain rfl:=someI' hg'
     have hyv:a.eval y= .slice none 0 0:=hev _ _ hy
     refine⟨_,[],run a w _ _ _ hxv hyv,by simp,g.a.isNone,rfl,λhnn=> ?_⟩
     obtain⟨_,_,h3⟩:=row_cells (deepA_at (hh _ (List.mem_singleton_self _))).1
     cases l with
     |nil=>rfl
     |cons z l=>exact absurd (Option.isNone_iff_eq_none.1 hnn) (h3 (by rw[hn];simp))
    ·cases h
   ·cases h
  ·cases h
 ·cases h
def mapChk(P:Program)(t:TypeId):Option (IntKind×TypeId×TypeId):=match P.underlying t with
 |some (.map k e)=>match P.underlying k,P.underlying e,peval P (zeroValue e) with
  |some (.int q),some .bool,some (.bool false)=>some (q,k,e)
  |_,_,_=>none
 |_=>none
theorem mapChk_ok{t k e:TypeId}{q:IntKind}(h:mapChk P t=some (q,k,e)):MapT P t k e q false Value.bool (λv=> .lit (.bool v)):=by
 unfold mapChk at h
 split at h
 ·rename_i k' e' hu
  split at h
  ·rename_i q' hk he hz
   simp only[Option.some.injEq,Prod.mk.injEq] at h
   obtain⟨rfl,rfl,rfl⟩:=h
   exact mapT_bool hu hk he λw=>peval_sound _ hz w
  ·cases h
 ·cases h
def cmapChk(P:Program)(t:TypeId):Option (IntKind×TypeId×TypeId):=match P.underlying t with
 |some (.map k e)=>match P.underlying k,peval P (zeroValue e) with
  |some (.int q),some .nilFunc=>some (q,k,e)
  |_,_=>none
 |_=>none
def opCMap(P:Program)(S:Tab)(ev:Ev S.τ)(it:Nat→Option (Item S.τ))(nx:Nat)(o:Op)(k:Out S.τ→Option R):Option R:=none
theorem opCMap_sound{o:Oper}{ev:Ev S.τ}{it:Nat→Option (Item S.τ)}{nx:Nat}{k:Out S.τ→Option R}{r:R}(h:opCMap P S ev it nx o.op k=some r):∃out,k out=some r∧LocSem P S o ev it nx out:=by
 unfold opCMap at h
 cases h
def opMap(P:Program)(S:Tab)(ev:Ev S.τ)(it:Nat→Option (Item S.τ))(nx:Nat)(o:Op)(k:Out S.τ→Option R):Option R:=match o with
 | .makeMap t none=>match mapChk P t with
  |some (q,kt,et)=>k ⟨.v (.one (.map nx)),[],[(nx,.map q kt et .bool [])],[],1⟩
  |none=>none
 | .lookup t m x false=>match mapChk P t,ev m,asInt1 (ev x) with
  |some (q,kt,et),some (.v (.one (.map j))),some (q',i)=>match it j with
   |some (.map q2 kt2 et2 .bool l)=>match ikB q q',ikB q q2,Nat.beq kt kt2,Nat.beq et et2 with
    |true,true,true,true=>(mlook q false (l:List (Int×Bool)) i).bind λv=>k ⟨dbool v,[],[],[j],0⟩
    |_,_,_,_=>none
   |_=>none
  |_,_,_=>none
 | .mapUpdate t m x v=>match mapChk P t,ev m,asInt1 (ev x),ev v with
  |some (q,kt,et),some (.v (.one (.map j))),some (q',i),some (.v (.one b))=>match it j,toD .bool b with
   |some (.map q2 kt2 et2 .bool l),some y=>match ikB q q',ikB q q2,Nat.beq kt kt2,Nat.beq et et2 with
    |true,true,true,true=>(mput q (l:List (Int×Bool)) i y).bind λl'=>k ⟨.v (.one .ud),[j],[(j,.map q kt et .bool l')],[],0⟩
    |_,_,_,_=>none
   |_,_=>none
  |_,_,_,_=>none
 | .insert t m x v=>match mapChk P t,ev m,asInt1 (ev x),ev v with
  |some (q,kt,et),some (.v (.one (.map j))),some (q',i),some (.v (.one b))=>match it j,toD .bool b with
   |some (.map q2 kt2 et2 .bool l),some y=>match ikB q q',ikB q q2,Nat.beq kt kt2,Nat.beq et et2 with
    |true,true,true,true=>(mput q (l:List (Int×Bool)) i y).bind λl'=>k ⟨.v (.one .ud),[j],[(j,.map q kt et .bool l')],[],0⟩
    |_,_,_,_=>none
   |_,_=>none
  |_,_,_,_=>none
 |_=>none
theorem map_open{ρ:Rho}{Ps:List (World→Prop)}{j:Nat}{q:IntKind}{kt et:TypeId}{l:List (Int×Bool)}{A:Asn}(h:RelItem S ρ Ps P (j,.map q kt et .bool l) A):∃g,ρ j=some g∧A=mapA P kt et q false (λv=> .lit (.bool v)) g.b l:=by
 obtain⟨g,z,E,L,h1,h2,h3⟩:=h
 simp only[mapZ,Option.some.injEq,Prod.mk.injEq] at h2
 obtain⟨rfl,rfl,rfl⟩:=h2
 exact⟨g,h1,h3⟩
theorem opMap_sound{o:Oper}{ev:Ev S.τ}{it:Nat→Option (Item S.τ)}{nx:Nat}{k:Out S.τ→Option R}{r:R}(h:opMap P S ev it nx o.op k=some r):∃out,k out=some r∧LocSem P S o ev it nx out:=by
 obtain⟨dst,op,type,pos,after,guard⟩:=o
 simp only at h
 unfold opMap at h
 have upd:∀(o:Oper)(t:TypeId)(m x v:Operand),(o.op= .mapUpdate t m x v∨o.op= .insert t m x v)→(match mapChk P t,ev m,asInt1 (ev x),ev v with
  |some (q,kt,et),some (.v (.one (.map j))),some (q',i),some (.v (.one b))=>match it j,toD .bool b with
   |some (.map q2 kt2 et2 .bool l),some y=>match ikB q q',ikB q q2,Nat.beq kt kt2,Nat.beq et et2 with
    |true,true,true,true=>(mput q (l:List (Int×Bool)) i y).bind λl'=>k ⟨.v (.one .ud),[j],[(j,.map q kt et .bool l')],[],0⟩
    |_,_,_,_=>none
   |_,_=>none
  |_,_,_,_=>none)=some r→∃out,k out=some r∧LocSem P S o ev it nx out:=by
  intro o t m x v ho h
  split at h
  ·rename_i q kt et j q' i b hc hm hx hv
   split at h
   ·rename_i q2 kt2 et2 l y hj hy
    split at h
    ·rename_i h1 h2 h3 h4
     obtain rfl:=ikB_eq h1
     obtain rfl:=ikB_eq h2
     obtain rfl:=Nat.eq_of_beq_eq_true h3
     obtain rfl:=Nat.eq_of_beq_eq_true h4
     obtain⟨l',hl,h⟩:=bindS h
     refine⟨_,h,loc_write hj λa w R ρ Ps A hev hrel hA hst=> ?_⟩
     obtain⟨g,hg,rfl⟩:=map_open hrel
     obtain⟨g',hg',hmv⟩:=hev _ _ hm
     rw[hg] at hg'
     obtain rfl:=someI' hg'
     have hxv:=asInt1_rel hev hx
     have hvv:a.eval v= .bool y:=toD_rel (t:= .bool) hy (hev _ _ hv)
     obtain⟨w',hrun,hh,hkeep⟩:=map_put (mapChk_ok hc) hA hl
     refine⟨w',mapA P kt et q false (λv=> .lit (.bool v)) g.b l',[], ?_,by simpa[Asn.fp] using hkeep,hh,rfl,by simp,g,false,Value.bool,_,hg,rfl,rfl⟩
     obtain⟨dst,op,type,pos,after,guard⟩:=o
     rcases ho with ho|ho<;>(simp only at ho;subst ho;simp[execOp,hmv,hxv,hvv,hrun,Result.andThen])
    ·cases h
   ·cases h
  ·cases h
 split at h
 ·rename_i t
  split at h
  ·rename_i q kt et hc
   refine⟨_,h, ?_⟩
   intro a w R ρ Ps At Au tk us hd hev htk hus hit hAt hAu hst hn K Q hK
   have e:tk=[]:=List.map_eq_nil_iff.1 htk
   subst e
   have e:=All2.nil_left hAt
   subst e
   have e:us=[]:=List.map_eq_nil_iff.1 hus
   subst e
   have e:=All2.nil_left hAu
   subst e
   have hg:Grow ρ (ghost ρ nx ⟨none,0,0,w.heap.size,noJ,noS⟩) nx 1:=ghost_grow (hn nx (Nat.le_refl _) (Nat.lt_succ_self nx))
   have hr:(Instr.makeMap t none).run P w= .ok (.map (some w.heap.size)) (w.alloc (.map #[] 0)):=rfl
   have he:=Ext.alloc w (.map #[] 0)
   unfold wpX
   simp only[execOp,Option.map_none,Sem.run_bind,hr,Result.andThen_ok,Sem.run_pure,uponX]
   refine hK _ _ (ghost ρ nx ⟨none,0,0,w.heap.size,noJ,noS⟩) Ps [mapA P kt et q false (λv=> .lit (.bool v)) w.heap.size []] hg (λp hp=>hp) ⟨_,ghost_at,rfl⟩ ⟨⟨_,false,Value.bool,_,ghost_at,rfl,rfl⟩,trivial⟩ ?_ (Keep.ofExt he) ?_
   ·exact St.new (A:=mapA P kt et q false (λv=> .lit (.bool v)) w.heap.size []) hst he (map_made w) (λc hc=>by simp[Asn.fp] at hc;subst hc;simp) (by simp[Asn.fp])
   ·intro b hb
    simp[fps,Asn.fp] at hb;subst hb;exact .inr (Nat.le_refl _)
  ·cases h
 ·rename_i t m x
  split at h
  ·rename_i q kt et j q' i hc hm hx
   split at h
   ·rename_i q2 kt2 et2 l hj
    split at h
    ·rename_i h1 h2 h3 h4
     obtain rfl:=ikB_eq h1
     obtain rfl:=ikB_eq h2
     obtain rfl:=Nat.eq_of_beq_eq_true h3
     obtain rfl:=Nat.eq_of_beq_eq_true h4
     obtain⟨v,hv,h⟩:=bindS h
     refine⟨_,h,loc_read [j] λa w F ρ Ps Au us hev hus hit hAu hh hps=> ?_⟩
     obtain⟨A,rfl,_,hrel⟩:=use1 hus hit hj hAu
     obtain⟨g,hg,rfl⟩:=map_open hrel
     obtain⟨g',hg',hmv⟩:=hev _ _ hm
     rw[hg] at hg'
     obtain rfl:=someI' hg'
     have hxv:=asInt1_rel hev hx
     have hr:=map_look (mapChk_ok hc) (hh _ (List.mem_singleton_self _)) hv
     exact⟨.bool v,[],by simp[execOp,hmv,hxv,hr],by simp,rfl⟩
    ·cases h
   ·cases h
  ·cases h
 ·rename_i t m x v;exact upd _ t m x v (.inl rfl) h
 ·rename_i t m x v;exact upd _ t m x v (.inr rfl) h
 ·cases h
end
end Go.Bur
