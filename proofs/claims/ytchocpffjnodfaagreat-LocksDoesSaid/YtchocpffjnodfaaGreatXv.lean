import Derived.Test.YtchocpffjnodfaaGreatMi
import Derived.Laws.BytesArg
namespace Go.Bur
open Go.RowKit
set_option linter.unusedVariables false
set_option linter.unusedSimpArgs false
section
variable {P : Program} {S : Tab} {R : Type}
def opSub(P:Program)(S:Tab)(ty:TypeId→Option Ty)(ev:Ev S.τ):Op→Option (AV S.τ)
 | .fieldAddr s x f=>match ev x,fieldOff P s f with
  |some (.v (.one (.ro t y o))),some (n,ft)=>match ty ft with
   |some (.st j)=>match toHL (S.lvs (.st j)) (elLs S t y (o+n) (S.lvs (.st j)).length) with
    |some h=>some (.v (.one (.ro (.st j) (S.mkT (.st j) h) 0)))
    |none=>none
   |_=>none
  |_,_=>none
 |_=>none
theorem opSub_sound(ok:TabOk S){ty:TypeId→Option Ty}{o:Oper}{ev:Ev S.τ}{it:Nat→Option (Item S.τ)}{nx:Nat}{out:AV S.τ}(h:opSub P S ty ev o.op=some out):LocSem P S o ev it nx ⟨out,[],[],[],0⟩:=by
 obtain⟨dst,op,type,pos,after,guard⟩:=o
 simp only at h
 unfold opSub at h
 split at h
 ·rename_i s x f
  split at h
  ·rename_i t y o n ft hx hf
   split at h
   ·rename_i j hj
    split at h
    ·rename_i hl hhl
     obtain rfl:=someI' h
     refine loc_read [] λa w F ρ Ps Au us hev hus hit hAu hh hps=> ?_
     obtain⟨A,hxv,hm⟩:RelLf S ρ Ps (.ro t y o) (a.eval x):=hev _ _ hx
     obtain⟨cs,ps,hlen,hcel,hp,hr⟩:=RoF_open ok (hps _ hm)
     have hrel:All2 (RelLf S ρ ps) (hlLf (S.lvs (.st j)) hl) ((cs.drop (o+n)).take (S.lvs (.st j)).length):=toHL_rel hhl (((hr ρ).drop _).take _)
     have hrep:=rel_rep (t:= .st j) ok hp hrel
     refine⟨.pointer (some ((A.add o).add n)),[RoF S (.st j) (S.mkT (.st j) hl) ((A.add o).add n)], ?_,λp hpp=> ?_,(A.add o).add n,by rw[add_zero'],by simp⟩
     ·simp only[execOp,hxv,Sem.run_bind,fieldOff_run hf,Result.andThen_ok,Sem.run_pure]
     ·rw[List.mem_singleton] at hpp
      subst hpp
      intro w' hk
      refine⟨_, ?_,hrep w' hk⟩
      rw[add_add]
      exact CellsAt.sub (hcel w' hk) (o+n) _
    ·cases h
   ·cases h
  ·cases h
 ·cases h
def opPtrNil(P:Program)(ev:Ev S.τ):Op→Option (AV S.τ)
 | .binOp b t x y _=>match P.underlying t,isEq b,ev y with
  |some (.pointer _),some neg,some (.v (.one .nptr))=>match ev x with
   |some (.v (.one .nptr))=>some (.v (.one (.lit (!neg))))
   |some (.v (.one (.ro _ _ _)))=>some (.v (.one (.lit neg)))
   |some (.v (.one (.box _ _)))=>some (.v (.one (.lit neg)))
   |_=>none
  |_,_,_=>none
 |_=>none
theorem eqOk_ptr{t e:TypeId}{A:Option Addr}{w:World}(hu:P.underlying t=some (.pointer e))(b:BinOp)(neg:Bool)(hb:isEq b=some neg):EqOk P b t (.pointer A) (.pointer none) (.bool (A.isNone !=neg)) w:=by
 have h:∀d,(Op.equalIn (d+1) t (.pointer A) (.pointer none)).run P w= .ok A.isNone w:=λd=>by
  cases A<;>simp[Op.equalIn,run_underlying hu]
 cases b<;>first|(cases hb;done)|skip
 ·obtain rfl:=someI' hb
  intro xo yo
  have hb:(Go.binOp .eql t (.pointer A) (.pointer none):Sem Value)=(do pure (.bool (←Op.equalIn (9999+1) t (.pointer A) (.pointer none)))):=rfl
  have hg:eqGuard .eql t xo yo (.pointer A) (.pointer none)=pure ():=rfl
  rw[hg,hb]
  simp only[Sem.run_bind,Sem.run_pure,Result.andThen_ok,h]
  cases A<;>rfl
 ·obtain rfl:=someI' hb
  intro xo yo
  have hb:(Go.binOp .neq t (.pointer A) (.pointer none):Sem Value)=(do pure (.bool (!(←Op.equalIn (9999+1) t (.pointer A) (.pointer none))))):=rfl
  have hg:eqGuard .neq t xo yo (.pointer A) (.pointer none)=pure ():=rfl
  rw[hg,hb]
  simp only[Sem.run_bind,Sem.run_pure,Result.andThen_ok,h]
  cases A<;>rfl
theorem opPtrNil_sound{o:Oper}{ev:Ev S.τ}{it:Nat→Option (Item S.τ)}{nx:Nat}{out:AV S.τ}(h:opPtrNil P ev o.op=some out):LocSem P S o ev it nx ⟨out,[],[],[],0⟩:=by
 obtain⟨dst,op,type,pos,after,guard⟩:=o
 simp only at h
 unfold opPtrNil at h
 split at h
 ·rename_i b t x y yt
  split at h
  ·rename_i e neg hu hb hy
   have run:∀(a:Act)(w:World)(A:Option Addr),a.eval x= .pointer A→a.eval y= .pointer none→(execOp a.eval (⟨dst,.binOp b t x y yt,type,pos,after,guard⟩:Oper)).run P w= .ok (.value (.bool (A.isNone !=neg))) w:=λa w A hx hy=>by
    have h1:=eqOk_ptr (P:=P) (A:=A) (w:=w) hu b neg hb x y
    simp only[Sem.run_bind] at h1
    simp only[execOp,hx,hy,Sem.run_bind]
    rw[h1];rfl
   split at h
   ·rename_i hx
    obtain rfl:=someI' h
    refine loc_val λa w ρ Ps hev=> ?_
    exact⟨_,run a w none (hev _ _ hx) (hev _ _ hy),by cases neg<;>rfl⟩
   ·rename_i u z o hx
    obtain rfl:=someI' h
    refine loc_val λa w ρ Ps hev=> ?_
    obtain⟨A,hxv,_⟩:RelLf S ρ Ps (.ro u z o) (a.eval x):=hev _ _ hx
    exact⟨_,run a w _ hxv (hev _ _ hy),by cases neg<;>rfl⟩
   ·rename_i j o hx
    obtain rfl:=someI' h
    refine loc_val λa w ρ Ps hev=> ?_
    obtain⟨g,_,hxv⟩:RelLf S ρ Ps (.box j o) (a.eval x):=hev _ _ hx
    exact⟨_,run a w _ hxv (hev _ _ hy),by cases neg<;>rfl⟩
   ·cases h
  ·cases h
 ·cases h
def catP(a b:ByteArray):Option ByteArray:=match Nat.ble (a.size+b.size) 9223372036854775807 with
 |true=>some (a++b)
 |false=>none
def sIdx(s:ByteArray)(i:Int):Option Int:=match decide (0≤i) with
 |true=>match s[i.toNat]? with
  |some b=>some b.toNat
  |none=>none
 |false=>none
def bstr(l:List Int):ByteArray:=strOfNums l
def asStr{τ:Nat→Type}:Option (AV τ)→Option ByteArray
 |some (.v (.one (.d .str s)))=>some s
 |_=>none
theorem asStr_rel{ρ:Rho}{Ps:List (World→Prop)}{ev:Ev S.τ}{a:Act}(h:EvRel S ρ Ps ev a){x:Operand}{s:ByteArray}(hx:asStr (ev x)=some s):a.eval x= .string s:=by
 unfold asStr at hx
 split at hx
 ·rename_i s' he
  obtain rfl:=someI' hx
  exact h x _ he
 ·cases hx
def opStr(P:Program)(S:Tab)(ev:Ev S.τ)(it:Nat→Option (Item S.τ))(o:Op)(k:Out S.τ→Option R):Option R:=match o with
 | .binOp .add _ x y _=>match asStr (ev x),asStr (ev y) with
  |some a,some b=>(catP a b).bind λc=>k ⟨.v (.one (.d .str c)),[],[],[],0⟩
  |_,_=>none
 | .index t x i=>match P.underlying t,asStr (ev x),asInt1 (ev i) with
  |some .string,some s,some (_,j)=>(sIdx s j).bind λb=>k ⟨dint .u8 b,[],[],[],0⟩
  |_,_,_=>none
 | .convert s d x=>match P.underlying s,P.underlying d,ev x with
  |some (.slice e),some .string,some (.v (.one (.own j)))=>match P.underlying e,it j with
   |some (.int .u8),some (.row _ (.int .u8) l)=>k ⟨.v (.one (.d .str (bstr l))),[],[],[j],0⟩
   |_,_=>none
  |_,_,_=>none
 |_=>none
theorem opStr_sound{o:Oper}{ev:Ev S.τ}{it:Nat→Option (Item S.τ)}{nx:Nat}{k:Out S.τ→Option R}{r:R}(h:opStr P S ev it o.op k=some r):∃out,k out=some r∧LocSem P S o ev it nx out:=by
 obtain⟨dst,op,type,pos,after,guard⟩:=o
 simp only at h
 unfold opStr at h
 split at h
 ·rename_i t x y yt
  split at h
  ·rename_i a b hx hy
   obtain⟨c,hc,h⟩:=bindS h
   refine⟨_,h,loc_val λac w ρ Ps hev=>⟨.string c, ?_,rfl⟩⟩
   have ex:=asStr_rel hev hx
   have ey:=asStr_rel hev hy
   unfold catP at hc
   split at hc
   ·rename_i hb
    obtain rfl:=someI' hc
    have hb:=Nat.le_of_ble_eq_true hb
    have hn:¬((a.size+b.size:Nat):Int)>IntKind.i64.max:=by
     have:IntKind.i64.max=9223372036854775807:=rfl
     rw[this];omega
    simp only[execOp,ex,ey,eqGuard,Go.binOp,Op.stringOp,if_neg hn]
    rfl
   ·cases hc
  ·cases h
 ·rename_i t x i
  split at h
  ·rename_i s kk j hu hx hi
   obtain⟨b,hb,h⟩:=bindS h
   refine⟨_,h,loc_val λac w ρ Ps hev=>⟨.int .u8 b, ?_,rfl⟩⟩
   have ex:=asStr_rel hev hx
   have ei:=asInt1_rel hev hi
   unfold sIdx at hb
   split at hb
   ·rename_i h0
    have h0:=of_decide_eq_true h0
    split at hb
    ·rename_i c hc
     obtain rfl:=someI' hb
     simp[execOp,ex,ei,Instr.index,asIntOf,run_underlying hu,h0,hc]
    ·cases hb
   ·cases hb
  ·cases h
 ·rename_i s d x
  split at h
  ·rename_i e j hs hd hx
   split at h
   ·rename_i ee l he hj
    refine⟨_,h,loc_read [j] λac w F ρ Ps Au us hev hus hit hAu hh hps=> ?_⟩
    obtain⟨A,rfl,_,h1⟩:=use1 hus hit hj hAu
    obtain⟨g,cs,hg,rfl,hn,hmem⟩:=row_open h1
    obtain⟨g',hg',hxv⟩:=hev _ _ hx
    rw[hg] at hg'
    obtain rfl:=someI' hg'
    refine⟨.string (bstr l),[], ?_,by simp,rfl⟩
    have hreps:=(hps _ hmem).here
    have hcs:cs=l.map (Value.int .u8):=by
     have key:∀{cs:List Value} {l:List Int},Reps (Flat.toGoT (flatI .u8)) w cs l→cs=l.map (Value.int .u8):=by
      intro cs l h
      induction h with
      |nil=>rfl
      |cons h1 _ ih=>
       rw[List.map_cons,←ih]
       exact congrArg (· ++_) h1
     exact key hreps
    have hcell:=(row_cells (hh _ (List.mem_singleton_self _))).1
    have hlen:l.length=g.n:=hn.symm
    simp only[execOp,hxv,Sem.run_bind]
    cases ha:g.a with
    |none=>
     have h0:l=[]:=by
      cases l with
      |nil=>rfl
      |cons z l=>exact absurd ha ((row_cells (hh _ (List.mem_singleton_self _))).2.2 (by rw[hn];simp))
     rw[run_convert_bytes_nil w s e hs he _ _ d hd,h0]
     rfl
    |some A=>
     have hl:(loadCells A g.n).run P w= .ok (l.map (Value.int .u8)).toArray w:=by
      have:=run_loadCells_list (P:=P) w A (l.map (Value.int .u8)) (λj v hj=>by
       rw[←hcs] at hj
       have:=hcell j v hj
       rwa[ha] at this)
      simpa[hlen] using this
     rw[run_convert_bytes_string w s d e _ g.n g.c hs he hd,run_bytesToString w _ g.n g.c l hl,foldl_push_bytes]
     simp[bstr,strOfNums,ByteArray.empty,ByteArray.emptyWithCapacity]
     rfl
   ·cases h
  ·cases h
 ·cases h
def opErr(P:Program)(ev:Ev S.τ):Op→Option (AV S.τ):=λ_=>none
theorem opErr_sound{o:Oper}{ev:Ev S.τ}{it:Nat→Option (Item S.τ)}{nx:Nat}{out:AV S.τ}(h:opErr P ev o.op=some out):LocSem P S o ev it nx ⟨out,[],[],[],0⟩:=by
 unfold opErr at h
 cases h
end
end Go.Bur
namespace Go.Bur
open Go.RowKit
set_option linter.unusedVariables false
set_option linter.unusedSimpArgs false
section
variable {P : Program} {S : Tab} {R : Type}
def lmapChk(P:Program)(S:Tab)(t:TypeId):Option (TypeId×TypeId×List (Lf S.τ)):=match P.underlying t with
 |some (.map k e)=>match P.underlying k,peval P (zeroValue e) with
  |some .string,some (.agg cs)=>match ofLfs cs.toList with
   |some zs=>some (k,e,zs)
   |none=>none
  |_,_=>none
 |_=>none
def asAgg{τ:Nat→Type}:Option (AV τ)→Option (List (Lf τ))
 |some (.v (.agg xs))=>some xs
 |_=>none
def opLMap(P:Program)(S:Tab)(ev:Ev S.τ)(it:Nat→Option (Item S.τ))(nx:Nat)(o:Op)(k:Out S.τ→Option R):Option R:=none
theorem opLMap_sound{o:Oper}{ev:Ev S.τ}{it:Nat→Option (Item S.τ)}{nx:Nat}{k:Out S.τ→Option R}{r:R}(h:opLMap P S ev it nx o.op k=some r):∃out,k out=some r∧LocSem P S o ev it nx out:=by
 unfold opLMap at h
 cases h
end
end Go.Bur
namespace Go.Bur
open Go.RowKit
set_option linter.unusedVariables false
set_option linter.unusedSimpArgs false
section
variable {P : Program} {S : Tab} {R : Type}
theorem All2.set{α β:Type}{R:α→β→Prop}{x:α}{y:β}(hxy:R x y):∀{xs:List α} {ys:List β} (i:Nat),All2 R xs ys→All2 R (xs.set i x) (ys.set i y)
 |[],[],_,_=>trivial
 |_::_,_::_,0,h=>⟨hxy,h.2⟩
 |_::_,_::_,i+1,h=>⟨h.1,All2.set hxy i h.2⟩
def opDMap(P:Program)(S:Tab)(ty:TypeId→Option Ty)(ev:Ev S.τ)(it:Nat→Option (Item S.τ))(nx:Nat)(o:Op)(k:Out S.τ→Option R):Option R:=none
theorem opDMap_sound(ok:TabOk S){ty:TypeId→Option Ty}{o:Oper}{ev:Ev S.τ}{it:Nat→Option (Item S.τ)}{nx:Nat}{k:Out S.τ→Option R}{r:R}(h:opDMap P S ty ev it nx o.op k=some r):∃out,k out=some r∧LocSem P S o ev it nx out:=by
 unfold opDMap at h
 cases h
end
end Go.Bur
