import Derived.OpenShut
import Derived.Test.YtchocpffjnodfaaGreatHn
import Derived.Deep.Slices
import Derived.ChangeArms
import Derived.ChangeMaps5
import Derived.DataReads
import Derived.WideShapes
import Derived.ChangeShapes
namespace Go.Bur
open Go.RowKit Go.WideShapes
set_option linter.unusedVariables false
set_option linter.unusedSimpArgs false
def inI(k:IntKind)(n:Int):Prop:=k.min≤n∧n≤k.max
section
variable {S : Tab}
def okLf(okf:(t:Ty)→Dn S.τ t→Prop):(ts:List Ty)→HL S.τ ts→Prop
 |[],_=>True
 |t::ts,h=>okf t h.1∧okLf okf ts h.2
def okTs(okst:(i:Nat)→S.τ i→Prop):(t:Ty)→Dn S.τ t→Prop
 | .int k,x=>inI k x
 | .bool,_=>True
 | .str,x=>ByteArray.size x≤maxLen
 | .fnc _,_=>True
 | .st i,x=>okst i x
 | .mp _,_=>True
 | .sl e,l=>(∀y∈(l:List (Dn S.τ e)),okTs okst e y)∧ @List.length (Dn S.τ e) l≤maxLen
end
def okSt(S:Tab):Nat→(i:Nat)→S.τ i→Prop
 |0,_,_=>True
 |d+1,i,x=>okLf (okTs (okSt S d)) (S.lv i) (S.get i x)
abbrev okT(S:Tab)(d:Nat)(t:Ty)(x:Dn S.τ t):Prop:=okTs (okSt S d) t x
def RdL(P:Program)(S:Tab)(t:TypeId)(ts:List Ty)(okl:HL S.τ ts→Prop):Prop:=
 ∀(H:Type)(enc:TypeId×Value→H)(w:World)(base:Nat)(spare:Nat→Bool)(held:Bool)(fuel:Nat)(cs:List Value)(x:DataW H×List MemPlace),DataW.trod enc P w base spare held fuel t cs=some x→∃h:HL S.τ ts,HRep S w ts cs h∧okl h
def rdFs(P:Program)(g:TypeId→Option (List Ty)):Nat→List Field→Option (List Ty)
 |_,[]=>some []
 |off,f::r=>match g f.type with
  |some ts=>match Nat.beq f.offset off,Nat.beq (P.cellsOf f.type) ts.length,rdFs P g (off+ts.length) r with
   |true,true,some ts'=>some (ts++ts')
   |_,_,_=>none
  |none=>none
def repN(ts:List Ty):Nat→List Ty
 |0=>[]
 |n+1=>ts++repN ts n
def rdChk(P:Program)(S:Tab)(ty:TypeId→Option Ty):Nat→TypeId→Option (List Ty)
 |0,_=>none
 |f+1,t=>match P.underlying t with
  |some (.int k)=>some [.int k]
  |some .bool=>some [.bool]
  |some .string=>some [.str]
  |some (.slice e)=>match ty e,rdChk P S ty f e with
   |some T,some ts=>match tysEq ts (S.lvs T),Nat.beq (P.cellsOf e) ts.length with
    |some _,true=>some [.sl T]
    |_,_=>none
   |_,_=>none
  |some (.struct fs)=>match rdFs P (rdChk P S ty f) 0 fs.toList with
   |some ts=>match Nat.beq (P.cellsOf t) ts.length with
    |true=>some ts
    |false=>none
   |none=>none
  |some (.array m e)=>match rdChk P S ty f e with
   |some ts=>match Nat.beq (P.cellsOf e) ts.length,Nat.beq (P.cellsOf t) (repN ts m).length with
    |true,true=>some (repN ts m)
    |_,_=>none
   |none=>none
  |_=>none
theorem rw_choice{α:Type}{p:Nat→α→Prop}:∀(n:Nat),(∀i,i<n→∃y,p i y)→∃l:List α,l.length=n∧∀i y,l[i]? =some y→p i y
 |0,_=>⟨[],rfl,λi y h=>by simp at h⟩
 |n+1,h=>by
  obtain⟨l,hl,hp⟩:=rw_choice n λi hi=>h i (by omega)
  obtain⟨y,hy⟩:=h n (by omega)
  refine⟨l++[y],by simp[hl],λi z hz=> ?_⟩
  by_cases hi:i<l.length
  ·rw[List.getElem?_append_left hi] at hz;exact hp i z hz
  ·rw[List.getElem?_append_right (by omega)] at hz
   have:i-l.length=0:=by
    rcases Nat.eq_zero_or_pos (i-l.length) with h0|h0
    ·exact h0
    ·simp[List.getElem?_eq_none (show [y].length≤i-l.length from by simp;omega)] at hz
   rw[this] at hz
   simp at hz
   subst hz
   rw[show i=n from by omega]
   exact hy
theorem rw_cells{w:World}{base:Nat}{A:Addr}{n:Nat}{cs:List Value}(h:w.cells? base A n=some cs):CellsAt w A cs∧cs.length=n:=by
 obtain⟨h1,h2,h3⟩:=World.cells?_some h
 exact⟨λk u hk=>by
  have:=h3 k (by have:=(List.getElem?_eq_some_iff.1 hk).1;omega)
  rw[this];exact hk,h2⟩
section
variable {P : Program} {S : Tab} {t e : TypeId}
def hlApp:{a b:List Ty}→HL S.τ a→HL S.τ b→HL S.τ (a++b)
 |[],_,_,k=>k
 |_::_,_,h,k=>(h.1,hlApp h.2 k)
theorem hrep_app{w:World}:∀{a b:List Ty} {vs us:List Value} {h:HL S.τ a} {k:HL S.τ b},HRep S w a vs h→HRep S w b us k→HRep S w (a++b) (vs++us) (hlApp h k)
 |[],b,vs,us,h,k,h1,h2=>by
  have h1:vs=[]:=h1
  subst h1;exact h2
 |t::a,b,vs,us,h,k,⟨v,vs',e,h3,h4⟩,h2=>⟨v,vs'++us,by rw[e];rfl,h3,hrep_app h4 h2⟩
theorem okLf_app{okf:(t:Ty)→Dn S.τ t→Prop}:∀{a b:List Ty} {h:HL S.τ a} {k:HL S.τ b},okLf okf a h→okLf okf b k→okLf okf (a++b) (hlApp h k)
 |[],b,h,k,_,h2=>h2
 |t::a,b,h,k,h1,h2=>⟨h1.1,okLf_app h1.2 h2⟩
theorem rd_sl{α:Type}{G:GoT α}{okp:α→Prop}(hu:P.underlying t=some (.slice e))(he:P.cellsOf e=G.sz){H:Type}{enc:TypeId×Value→H}{w:World}{base:Nat}{spare:Nat→Bool}{held:Bool}{fuel:Nat}{cs:List Value}{x:DataW H×List MemPlace}
  (hr:∀(base:Nat)(spare:Nat→Bool)(held:Bool)(fuel:Nat)(cs:List Value)(x:DataW H×List MemPlace),DataW.trod enc P w base spare held fuel e cs=some x→∃y,G.rep w cs y∧okp y)
  (h:DataW.trod enc P w base spare held fuel t cs=some x):∃a c l,cs=[.slice a l.length c]∧RS (G:=G) w a c l∧(∀y∈l,okp y)∧l.length≤maxLen:=by
 rcases Go.Deep.open_slice hu h with⟨rfl,_⟩|⟨A,len,cap,m,n,D,Pl,rfl,_,hlc,hcm,hm,_,hel⟩
 ·exact⟨none,0,[],rfl,RS.nil _ _ _,by simp,by simp⟩
 ·have hlm:len≤m:=by rw[hm];split<;>omega
  obtain⟨l,hl,hp⟩:=rw_choice (p:=λi y=>(∃e,G.rep w e y∧CellsAt w (A.add (i*G.sz)) e)∧okp y) len λi hi=>by
   obtain⟨cs',h1,h2⟩:=hel i (by omega)
   obtain⟨y,hy,hok⟩:=hr _ _ _ _ _ _ h2
   rw[he] at h1
   exact⟨y,⟨cs',hy,(rw_cells h1).1⟩,hok⟩
  subst hl
  refine⟨some A,cap,l,rfl,⟨hlc,(λ_ h=>by cases h),λi y hy=>(hp i y hy).1⟩,λy hy=> ?_,by omega⟩
  obtain⟨i,hi⟩:=List.getElem?_of_mem hy
  exact(hp i y hi).2
theorem st_elem(ok:TabOk S){w:World}{i:Nat}{cs:List Value}{h:HL S.τ (S.lv i)}(hh:HRep S w (S.lv i) cs h):(S.G i).rep w cs (S.mkS i h):=(ok.rep i w cs _).2 (by rw[ok.get_mk];exact hh)
theorem st_ok(ok:TabOk S){okf:(t:Ty)→Dn S.τ t→Prop}{i:Nat}{h:HL S.τ (S.lv i)}(hh:okLf okf (S.lv i) h):okLf okf (S.lv i) (S.get i (S.mkS i h)):=by rw[ok.get_mk];exact hh
theorem st_rel(ok:TabOk S){R:Lf S.τ→Value→Prop}{i:Nat}{h:HL S.τ (S.lv i)}{vs:List Value}(hh:All2 R (hlLf (S.lv i) h) vs):All2 R (hlLf (S.lv i) (S.get i (S.mkS i h))) vs:=by rw[ok.get_mk];exact hh
theorem HRep.elem(ok:TabOk S){w:World}{T:Ty}{cs:List Value}{h:HL S.τ (S.lvs T)}(hh:HRep S w (S.lvs T) cs h):(S.GT T).rep w cs (S.mkT T h):=by
 cases T with
 |st i=>exact st_elem ok hh
 |int k=>obtain⟨v,vs,rfl,h1,h2⟩:=hh;have h2:vs=[]:=h2;subst h2;exact h1
 |bool=>obtain⟨v,vs,rfl,h1,h2⟩:=hh;have h2:vs=[]:=h2;subst h2;exact h1
 |str=>obtain⟨v,vs,rfl,h1,h2⟩:=hh;have h2:vs=[]:=h2;subst h2;exact h1
 |fnc g=>obtain⟨v,vs,rfl,h1,h2⟩:=hh;have h2:vs=[]:=h2;subst h2;exact h1
 |sl e=>obtain⟨v,vs,rfl,h1,h2⟩:=hh;have h2:vs=[]:=h2;subst h2;exact h1
 |mp e=>obtain⟨v,vs,rfl,h1,h2⟩:=hh;have h2:vs=[]:=h2;subst h2;exact h1
theorem okT_elem(ok:TabOk S){d:Nat}{T:Ty}{h:HL S.τ (S.lvs T)}(hh:∀d,okLf (okTs (okSt S d)) (S.lvs T) h):okT S d T (S.mkT T h):=by
 cases T with
 |st i=>
  cases d with
  |zero=>trivial
  |succ d=>
   exact st_ok ok (hh d)
 |int k=>exact(hh d).1
 |bool=>trivial
 |str=>exact(hh d).1
 |fnc g=>trivial
 |sl e=>exact(hh d).1
 |mp e=>trivial
theorem rdFs_ok{g:TypeId→Option (List Ty)}{okl:(ts:List Ty)→HL S.τ ts→Prop}(h0:okl [] ())(happ:∀{a b:List Ty} {h:HL S.τ a} {k:HL S.τ b},okl a h→okl b k→okl (a++b) (hlApp h k))
  {w:World} {cs:List Value} (hg:∀(f:Field)(ts:List Ty),g f.type=some ts→∀vs,(∃(H:Type) (enc:TypeId×Value→H) (base:Nat) (spare:Nat→Bool) (held:Bool) (fuel:Nat) (x:DataW H×List MemPlace),DataW.trod enc P w base spare held fuel f.type vs=some x)→∃h:HL S.τ ts,HRep S w ts vs h∧okl ts h):
  ∀{fs:List Field} {off:Nat} {ts:List Ty},rdFs P g off fs=some ts→(∀f∈fs,∃(H:Type) (enc:TypeId×Value→H) (base:Nat) (spare:Nat→Bool) (held:Bool) (fuel:Nat) (x:DataW H×List MemPlace),DataW.trod enc P w base spare held fuel f.type ((cs.drop f.offset).take (P.cellsOf f.type))=some x)→
   cs.length=off+ts.length→∃h:HL S.τ ts,HRep S w ts (cs.drop off) h∧okl ts h
 |[],off,ts,h,_,hl=>by
  obtain rfl:=someI' h
  exact⟨(),by show cs.drop off=[];exact List.drop_eq_nil_of_le (by simpa using Nat.le_of_eq hl),h0⟩
 |f::fs,off,ts,h,hf,hl=>by
  simp only[rdFs] at h
  split at h
  ·rename_i t1 h1
   split at h
   ·rename_i t2 ho hc h2
    obtain rfl:=someI' h
    obtain⟨a,ha1,ha2⟩:=hg f t1 h1 _ (hf f (List.mem_cons_self ..))
    rw[List.length_append] at hl
    obtain⟨b,hb1,hb2⟩:=rdFs_ok h0 happ hg h2 (λf' hf'=>hf f' (List.mem_cons_of_mem _ hf')) (by omega)
    refine⟨hlApp a b, ?_,happ ha2 hb2⟩
    have e:cs.drop off=(cs.drop f.offset).take (P.cellsOf f.type)++cs.drop (off+t1.length):=by
     rw[Nat.eq_of_beq_eq_true ho,Nat.eq_of_beq_eq_true hc,←List.drop_drop,List.take_append_drop]
    rw[e]
    exact hrep_app ha1 hb1
   ·cases h
  ·cases h
theorem rdN_ok{okl:(ts:List Ty)→HL S.τ ts→Prop}(h0:okl [] ())(happ:∀{a b:List Ty} {h:HL S.τ a} {k:HL S.τ b},okl a h→okl b k→okl (a++b) (hlApp h k)){w:World}{cs:List Value}{ts:List Ty}:
  ∀(m off:Nat),(∀i,i<m→∃h:HL S.τ ts,HRep S w ts ((cs.drop (off+i*ts.length)).take ts.length) h∧okl ts h)→cs.length=off+(repN ts m).length→∃h:HL S.τ (repN ts m),HRep S w (repN ts m) (cs.drop off) h∧okl (repN ts m) h
 |0,off,_,hl=>⟨(),by show cs.drop off=[];exact List.drop_eq_nil_of_le (by simpa[repN] using Nat.le_of_eq hl),h0⟩
 |m+1,off,hf,hl=>by
  obtain⟨a,ha1,ha2⟩:=hf 0 (by omega)
  simp only[repN,List.length_append] at hl
  obtain⟨b,hb1,hb2⟩:=rdN_ok h0 happ m (off+ts.length) (λi hi=>by
   have:=hf (i+1) (by omega)
   rw[show off+ts.length+i*ts.length=off+(i+1)*ts.length from by rw[Nat.succ_mul];omega]
   exact this) (by omega)
  refine⟨hlApp a b, ?_,happ ha2 hb2⟩
  have e:cs.drop off=(cs.drop (off+0*ts.length)).take ts.length++cs.drop (off+ts.length):=by
   rw[Nat.zero_mul,Nat.add_zero,←List.drop_drop,List.take_append_drop]
  rw[e]
  exact hrep_app ha1 hb1
theorem rdChk_ok(ok:TabOk S){ty:TypeId→Option Ty}:∀{f:Nat} {t:TypeId} {ts:List Ty},rdChk P S ty f t=some ts→RdL P S t ts λh=>∀d,okLf (okTs (okSt S d)) ts h
 |0,t,ts,h=>by cases h
 |f+1,t,ts,h=>by
  intro H enc w base spare held fuel cs x hx
  simp only[rdChk] at h
  split at h
  ·rename_i k hu
   obtain rfl:=someI' h
   obtain⟨n,rfl,_,hw⟩:=DataW.trod_int hu hx
   simp[Lit.wf] at hw
   exact⟨(n,()),⟨_,[],rfl,rfl,rfl⟩,λd=>⟨hw,trivial⟩⟩
  ·rename_i hu
   obtain rfl:=someI' h
   obtain⟨b,rfl,_⟩:=DataW.trod_bool hu hx
   exact⟨(b,()),⟨_,[],rfl,rfl,rfl⟩,λd=>⟨trivial,trivial⟩⟩
  ·rename_i hu
   obtain rfl:=someI' h
   obtain⟨s,rfl,_,hw⟩:=DataW.trod_string hu hx
   exact⟨(s,()),⟨_,[],rfl,rfl,rfl⟩,λd=>⟨hw,trivial⟩⟩
  ·rename_i e hu
   split at h
   ·rename_i T ts1 hT h1
    split at h
    ·rename_i he _ hc
     obtain rfl:=someI' h
     have he:=he.down
     subst he
     obtain⟨a,c,l,rfl,h2,h3,h4⟩:=rd_sl (G:=S.GT T) (okp:=λy=>∀d,okT S d T y) hu (by rw[sz_eq ok T];exact Nat.eq_of_beq_eq_true hc) (λbase spare held fuel cs x h=>by
      obtain⟨h5,h6,h7⟩:=rdChk_ok ok h1 _ _ _ _ _ _ _ _ _ h
      exact⟨S.mkT T h5,h6.elem ok,λd=>okT_elem ok h7⟩) hx
     exact⟨(l,()),⟨_,[],rfl,⟨a,c,rfl,h2⟩,rfl⟩,λd=>⟨⟨λy hy=>h3 y hy d,h4⟩,trivial⟩⟩
    ·cases h
   ·cases h
  ·rename_i fs hu
   split at h
   ·rename_i ts1 h1
    split at h
    ·rename_i hc
     obtain rfl:=someI' h
     obtain⟨xs,n,_,_,hl,hn,hf⟩:=DataW.trod_struct hu hx
     have:=rdFs_ok (P:=P) (S:=S) (w:=w) (cs:=cs) (okl:=λts h=>∀d,okLf (okTs (okSt S d)) ts h) (λd=>trivial) (λh1 h2 d=>okLf_app (h1 d) (h2 d)) (λfd ts hg vs ⟨H',enc',b',s',he',fu',x',hx'⟩=>rdChk_ok ok hg _ _ _ _ _ _ _ _ _ hx') h1 (λfd hfd=>by
      obtain⟨i,hi⟩:=List.getElem?_of_mem hfd
      have hi':fs[i]? =some fd:=by simpa using hi
      have:=hf i fd hi'
      have hlt:i<xs.length:=by rw[hn];exact(Array.getElem?_eq_some_iff.1 hi').1
      rw[List.getElem?_eq_getElem hlt] at this
      exact⟨_,_,_,_,_,_,_,this⟩) (by rw[hl,Nat.zero_add];exact Nat.eq_of_beq_eq_true hc)
     exact this
    ·cases h
   ·cases h
  ·rename_i m e hu
   split at h
   ·rename_i ts1 h1
    split at h
    ·rename_i hc1 hc2
     obtain rfl:=someI' h
     have hc1:=Nat.eq_of_beq_eq_true hc1
     have hc2:=Nat.eq_of_beq_eq_true hc2
     obtain⟨xs,n,_,_,hl,hn,hf⟩:=DataW.trod_array hu hx
     have:=rdN_ok (S:=S) (w:=w) (cs:=cs) (ts:=ts1) (okl:=λts h=>∀d,okLf (okTs (okSt S d)) ts h) (λd=>trivial) (λh1 h2 d=>okLf_app (h1 d) (h2 d)) m 0 (λi hi=>by
      have:=hf i hi
      rw[List.getElem?_eq_getElem (by omega:i<xs.length),hc1] at this
      rw[Nat.zero_add]
      exact rdChk_ok ok h1 _ _ _ _ _ _ _ _ _ this) (by omega)
     exact this
    ·cases h
   ·cases h
  ·cases h
theorem okWide_array'{m:Nat}{e:TypeId}{w:World}{r:Reach}{base:Nat}{v:Value}(ht:P.underlying t=some (.array m e))(h:Value.okWide P w r base t v):∃cs,v= .agg cs∧cs.size=P.cellsOf t:=by
 simp only[Value.okWide,ht] at h
 obtain⟨cs,h1,h2,_⟩:=h
 exact⟨cs,h1,h2⟩
def argA(S:Tab):(T:Ty)→Dn S.τ T→A1 S.τ
 | .st i,x=> .agg (hlLf (S.lv i) (S.get i x))
 | .int k,x=> .one (.d (.int k) x)
 | .bool,x=> .one (.d .bool x)
 | .str,x=> .one (.d .str x)
 | .fnc g,x=> .one (.d (.fnc g) x)
 | .sl e,x=> .one (.d (.sl e) x)
 | .mp e,x=> .one (.d (.mp e) x)
def argChk(P:Program)(S:Tab)(ty:TypeId→Option Ty)(f:Nat)(t:TypeId)(T:Ty):Bool:=match rdChk P S ty f t with
 |some ts=>(match tysEq ts (S.lvs T) with|some _=>true|none=>false)&&(match T,P.underlying t with
  | .st _,some (.struct _)=>true
  | .st _,some (.array _ _)=>true
  | .int k,some (.int k')=>ikB k k'
  | .bool,some .bool=>true
  | .str,some .string=>true
  | .sl _,some (.slice _)=>true
  |_,_=>false)
 |none=>false
theorem rdArg(ok:TabOk S){ty:TypeId→Option Ty}{f:Nat}{T:Ty}(h:argChk P S ty f t T=true){H:Type}{enc:TypeId×Value→H}{w:World}{r:Reach}{b0 base:Nat}{spare:Nat→Bool}{held:Bool}{v:Value}{dd:DataW H}{p:List MemPlace}(hval:Value.okWide P w r b0 t v)(ht:DataW.Trod enc P w base spare held t v dd p)(d:Nat):
  ∃(x:Dn S.τ T) (ps:List (World→Prop)),(∀p∈ps,Bx [] w p)∧okT S d T x∧∀ρ,RelA1 S ρ ps (argA S T x) v:=by
 unfold argChk at h
 split at h
 ·rename_i ts hts
  rw[Bool.and_eq_true] at h
  obtain⟨h1,h2⟩:=h
  split at h1
  ·rename_i x0 he hq
   have e0:=he.down
   clear hq x0 he
   subst e0
   obtain⟨fuel,hf⟩:=ht
   obtain⟨hh,hrep,hok⟩:=rdChk_ok ok hts _ _ _ _ _ _ _ _ _ hf
   obtain⟨ps,hp1,hp2⟩:=hrep_rel (S:=S) (F:=[]) (w:=w) (S.lvs T) (lvs_leaf ok T) _ hh λw' hk=>HRep.mono hk.toExt hrep
   refine⟨S.mkT T hh,ps,hp1,okT_elem ok hok,λρ=> ?_⟩
   have h3:=hp2 ρ
   split at h2
   ·rename_i i fs hu
    obtain⟨cs,rfl,_⟩:=okWide_struct hu hval
    refine⟨cs.toList,by simp, ?_⟩
    exact st_rel ok h3
   ·rename_i i m e hu
    obtain⟨cs,rfl,_⟩:=okWide_array' hu hval
    refine⟨cs.toList,by simp, ?_⟩
    exact st_rel ok h3
   ·rename_i k k' hu
    obtain⟨n,rfl⟩:=okWide_int hu hval
    exact h3.1
   ·rename_i hu
    obtain⟨b,rfl⟩:=okWide_bool hu hval
    exact h3.1
   ·rename_i hu
    obtain⟨s,rfl⟩:=okWide_string hu hval
    exact h3.1
   ·rename_i u e hu
    obtain⟨a,n,c,rfl⟩:=okWide_slice hu hval
    exact h3.1
   ·cases h2
  ·cases h1
 ·cases h
theorem St.began{w:World}{Ps:List (World→Prop)}(h:∀p∈Ps,Bx [] w p)(hg:∀p∈glob,Bx [] w p:=by exact nofun):St [] w [] Ps:=⟨by simp,by simp[fps],by simp[fps],λp hp=>by simpa[fps] using h p hp,λp hp=>by simpa[fps] using hg p hp⟩
end
end Go.Bur
