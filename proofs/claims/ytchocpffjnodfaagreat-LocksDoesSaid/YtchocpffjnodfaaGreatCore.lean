import Derived.WalkKit
import Derived.Test.YtchocpffjnodfaaGreatWd
import Derived.Deep.LoopGhost
import Derived.Deep.Quiet
import Derived.Laws.CopyRow
import Derived.Lib.AppendZerosOnto
import Derived.Lib.Overlaps
import Derived.Laws.StructEq
import Derived.Laws.AppendOwnNone
namespace Go.Bur
open Go.RowKit
set_option linter.unusedVariables false
set_option linter.unusedSimpArgs false
structure Ext(w w':World):Prop where
 below:Below w.heap.size w w'
 drawn:Drn w w'
theorem Ext.os{w w':World}(h:Ext w w'):w'.os=w.os:=h.below.os
theorem Ext.tape{w w':World}(h:Ext w w'):w'.tape=w.tape:=h.below.tape
theorem Ext.output{w w':World}(h:Ext w w'):w'.output=w.output:=h.below.output
theorem Ext.refl(w:World):Ext w w:=⟨Below.refl _ _,Drn.refl _⟩
theorem Ext.size{a b:World}(h:Ext a b):a.heap.size≤b.heap.size:=Below.size h.below
theorem Ext.trans{a b c:World}(h:Ext a b)(k:Ext b c):Ext a c:=⟨Below.trans h.below (Below.mono k.below h.size),h.drawn.trans k.drawn⟩
theorem Ext.drew(w:World):Ext w {w with drawn:=w.drawn+1}:=⟨⟨rfl,rfl,rfl,Nat.le_refl _,λ_ _=>rfl⟩,Drn.heap (Nat.le_succ _) rfl⟩
theorem Ext.alloc(w:World)(o:Obj)(ho:∀c T fr,o= .cells c T fr→fr=(0,0):=by intro c T fr h;cases h<;>rfl):Ext w (w.alloc o):=⟨(Below.refl _ _).alloc (Nat.le_refl _) o,Drn.push ho⟩
theorem Ext.block{a b:World}(h:Ext a b){k:Nat}(hk:k<a.heap.size):b.heap[k]? =a.heap[k]? :=Below.block h.below k hk
theorem Ext.cell{a b:World}(h:Ext a b){p:Addr}{v:Value}(hc:a.cell? p=some v):b.cell? p=some v:=by
 rw[Below.cell h.below (World.block_lt_of_cell? a p hc)];exact hc
theorem add_add(a:Addr)(m n:Nat):(a.add m).add n=a.add (m+n):=by
 unfold Addr.add
 by_cases hn:n=0
 ·simp[hn]
 ·by_cases hm:m=0
  ·simp[hm,hn]
  ·simp[hm,hn,Nat.add_assoc]
theorem add_zero'(a:Addr):a.add 0=a:=rfl
def CellsAt(w:World)(A:Addr)(vs:List Value):Prop:=∀k u,vs[k]? =some u→w.cell? (A.add k)=some u
theorem CellsAt.mono{w w':World}{A:Addr}{vs:List Value}(h:CellsAt w A vs)(e:Ext w w'):CellsAt w' A vs:=λk u hu=>e.cell (h k u hu)
theorem CellsAt.sub{w:World}{A:Addr}{vs:List Value}(h:CellsAt w A vs)(o n:Nat):CellsAt w (A.add o) ((vs.drop o).take n):=by
 intro k u hu
 rw[add_add]
 refine h (o+k) u ?_
 rw[List.getElem?_take] at hu
 split at hu
 ·simpa using hu
 ·cases hu
theorem CellsAt.one{w:World}{A:Addr}{v:Value}(h:CellsAt w A [v]):w.cell? A=some v:=h 0 v rfl
theorem CellsAt.nil(w:World)(A:Addr):CellsAt w A []:=λk u hu=>by simp at hu
def AllP(w:World):List (World→Prop)→Prop
 |[]=>True
 |p::r=>p w∧AllP w r
def peval{α:Type}(P:Program):Sem α→Option α
 | .pure a=>some a
 | .program k=>peval P (k P)
 |_=>none
theorem someI'.{u} {α:Type u} {a b:α} (h:some a=some b):a=b:=by injection h
theorem peval_sound{α:Type}{P:Program}{a:α}:∀(s:Sem α),peval P s=some a→∀w,s.run P w= .ok a w
 | .pure _,h,w=>by simp only[peval,Option.some.injEq] at h;subst h;rfl
 | .program k,h,w=>peval_sound (k P) h w
 | .load ..,h,_| .store ..,h,_| .new ..,h,_| .shape ..,h,_| .freeze ..,h,_| .frozen ..,h,_| .getObj ..,h,_| .setObj ..,h,_| .choose ..,h,_| .sys ..,h,_| .mark ..,h,_| .halt ..,h,_=>by simp[peval] at h
abbrev Env:=List (Nat×Value)
def lk:Env→Nat→Value
 |[],_=>undef
 |(t,v)::r,k=>match Nat.beq t k with|true=>v|false=>lk r k
def hasK:Env→Nat→Bool
 |[],_=>false
 |(t,_)::r,k=>match Nat.beq t k with|true=>true|false=>hasK r k
def evL(L:Env):Operand→Value
 | .tmp t=>lk L t
 | .const v=>v
 | .global g=> .pointer (some ⟨g,0,none⟩)
 | .func f=> .func (.func f) #[] #[]
def knownO(L:Env):Operand→Bool
 | .tmp t=>hasK L t
 |_=>true
structure Has(a:Act)(n:Nat)(L:Env):Prop where
 size:a.tmps.size=n
 defers:a.defers=[]
 get:∀t,hasK L t=true→a.tmps.getD t undef=lk L t
theorem Has.eval{a:Act}{n:Nat}{L:Env}(h:Has a n L){x:Operand}(hx:knownO L x=true):a.eval x=evL L x:=by
 cases x with
 |tmp t=>exact h.get t hx
 |const v=>rfl
 |global g=>rfl
 |func f=>rfl
theorem Has.put{a:Act}{n:Nat}{L:Env}(h:Has a n L){d:Nat}(hd:d<n)(v:Value):Has (a.put (some d) v) n ((d,v)::L):=by
 refine⟨by simp[Act.put,h.size],h.defers,λt ht=> ?_⟩
 simp only[Act.put,lk]
 by_cases e:d=t
 ·subst e
  rw[show Nat.beq d d=true from Nat.beq_eq▸rfl]
  have:d<a.tmps.size:=h.size▸hd
  simp[this]
 ·have hb:Nat.beq d t=false:=by
   cases hq:Nat.beq d t
   ·rfl
   ·exact absurd (Nat.eq_of_beq_eq_true hq) e
  simp only[hb]
  simp only[hasK,hb] at ht
  rw[←h.get t ht]
  simp[e]
theorem Has.keep{a:Act}{n:Nat}{L:Env}(h:Has a n L)(ks:List Nat)(hk:ks.all (hasK L)=true):Has a n (ks.map λk=>(k,lk L k)):=by
 refine⟨h.size,h.defers,λt ht=> ?_⟩
 have key:∀ks:List Nat,hasK (ks.map λk=>(k,lk L k)) t=true→t∈ks∧lk (ks.map λk=>(k,lk L k)) t=lk L t:=by
  intro ks
  induction ks with
  |nil=>intro h;simp[hasK] at h
  |cons k r ih=>
   intro hh
   simp only[List.map_cons,hasK,lk] at hh⊢
   cases hb:Nat.beq k t
   ·simp only[hb] at hh⊢
    obtain⟨h1,h2⟩:=ih hh
    exact⟨List.mem_cons_of_mem _ h1,h2⟩
   ·have:=Nat.eq_of_beq_eq_true hb
    subst this
    exact⟨List.mem_cons_self,rfl⟩
 obtain⟨h1,h2⟩:=key ks ht
 rw[h2]
 exact h.get t (List.all_eq_true.1 hk t h1)
def aggOf(P:Program)(t:TypeId):Option Bool:=
 match P.underlying t with
 |some (.struct _)|some (.array _ _)=>some true
 |some _=>some false
 |none=>none
def Inb(a:Option Addr)(n:Nat)(j:Int):Prop:=0≤j∧j<(n:Int)∧a≠none
def baseOf(a:Option Addr):Addr:=a.getD ⟨0,0,none⟩
def slA(a:Option Addr)(l m sz:Nat):Option Addr:=if m=l then a else a.map (·.add (l*sz))
def bndOf(L:Env)(dflt:Int):Option Operand→Option Int
 |none=>some dflt
 |some x=>match evL L x with
  | .int _ j=>some j
  |_=>none
def EqOk(P:Program)(op:BinOp)(t:TypeId)(x y v:Value)(w:World):Prop:=∀xo yo:Operand,(do eqGuard op t xo yo x y;binOp op t x y:Sem Value).run P w= .ok v w
def shlV(k:IntKind)(x y:Int):Int:=k.wrap (x*2^(min y.toNat k.bits))
def shrV(k:IntKind)(x y:Int):Int:=x.fdiv (2^(min y.toNat k.bits))
def shlP(k:IntKind)(x y:Int):Option Int:=if 0≤y then some (shlV k x y) else none
def shrP(k:IntKind)(x y:Int):Option Int:=if 0≤y then some (shrV k x y) else none
def quoP(k:IntKind)(x y:Int):Option Int:=if y≠0 then some (k.wrap (x.tdiv y)) else none
def remP(x y:Int):Option Int:=if y≠0 then some (x.tmod y) else none
theorem shlP_some{k:IntKind}{x y z:Int}(h:shlP k x y=some z):0≤y∧z=shlV k x y:=by
 unfold shlP at h;split at h
 ·injection h with h;exact⟨by assumption,h.symm⟩
 ·cases h
theorem shrP_some{k:IntKind}{x y z:Int}(h:shrP k x y=some z):0≤y∧z=shrV k x y:=by
 unfold shrP at h;split at h
 ·injection h with h;exact⟨by assumption,h.symm⟩
 ·cases h
theorem quoP_some{k:IntKind}{x y z:Int}(h:quoP k x y=some z):y≠0∧z=k.wrap (x.tdiv y):=by
 unfold quoP at h;split at h
 ·injection h with h;exact⟨by assumption,h.symm⟩
 ·cases h
theorem remP_some{x y z:Int}(h:remP x y=some z):y≠0∧z=x.tmod y:=by
 unfold remP at h;split at h
 ·injection h with h;exact⟨by assumption,h.symm⟩
 ·cases h
def arith:BinOp→Value→Value→Option (Value×Prop)
 | .shl,.int k x,.int _ y=>some (.int k (shlV k x y),0≤y)
 | .shr,.int k x,.int _ y=>some (.int k (shrV k x y),0≤y)
 | .quo,.int k x,.int k' y=>if k=k' then some (.int k (k.wrap (x.tdiv y)),y≠0) else none
 | .rem,.int k x,.int k' y=>if k=k' then some (.int k (x.tmod y),y≠0) else none
 |_,_,_=>none
def isArith:Op→Bool
 | .binOp .shl _ _ _ _| .binOp .shr _ _ _ _| .binOp .quo _ _ _ _| .binOp .rem _ _ _ _=>true
 |_=>false
def oracle(L:Env):Op→Bool
 | .binOp _ _ x _ _=>match evL L x with
  | .agg _| .slice .. | .map _=>true
  |_=>false
 | .lookup .. =>true
 |_=>false
def execD(P:Program)(L:Env)(vs:List (List Value))(o:Oper):Option (Value×List (List Value)×List (World→Prop)):=
 match oracle L o.op with
 |true=>match vs,o.op with
  |[v]::vs',.binOp op t x y _=>some (v,vs',[λw=>EqOk P op t (evL L x) (evL L y) v w])
  |[v]::vs',_=>some (v,vs',[λw=>(execOp (evL L) o).run P w= .ok (.value v) w])
  |_,_=>none
 |false=>match peval P (execOp (evL L) o) with
  |some (.value v)=>some (v,vs,[])
  |_=>none
def exec1(P:Program)(L:Env)(vs:List (List Value))(o:Oper):Option (Value×List (List Value)×List (World→Prop)):=
 match o.op with
 | .load t x=>
  match evL L x,vs,P.info? t with
  | .pointer (some A),cs::vs',some i=>
   match aggOf P t with
   |some true=>match Nat.beq cs.length i.size with
    |true=>some (.agg cs.toArray,vs',[λw=>CellsAt w A cs])
    |false=>none
   |some false=>match cs with
    |[c]=>some (c,vs',[λw=>CellsAt w A [c]])
    |_=>none
   |none=>none
  |_,_,_=>none
 | .indexAddr t x i=>
  match P.underlying t,evL L x,evL L i with
  |some (.slice e),.slice a n _,.int _ j=>
   match P.info? e with
   |some inf=>some (.pointer (some ((baseOf a).add (j.toNat*inf.size))),vs,[λ_=>Inb a n j])
   |none=>none
  |some (.array n e),.pointer (some A),.int _ j=>
   match P.info? e with
   |some inf=>some (.pointer (some (A.add (j.toNat*inf.size))),vs,[λ_=>0≤j∧j<(n:Int)])
   |none=>none
  |_,_,_=>none
 | .binOp op _ x y _=>
  match isArith o.op with
  |true=>match arith op (evL L x) (evL L y) with
   |some (v,p)=>some (v,vs,[λ_=>p])
   |none=>none
  |false=>execD P L vs o
 | .slice t x lo hi none=>
  match P.underlying t,evL L x with
  |some (.slice e),.slice a n c=>
   match P.info? e,bndOf L 0 lo,bndOf L n hi with
   |some inf,some l,some h=>some (.slice (slA a l.toNat c inf.size) (h.toNat-l.toNat) (c-l.toNat),vs,[λ_=>0≤l∧l≤h∧h≤(c:Int)])
   |_,_,_=>none
  |some .string,.string s=>
   match bndOf L 0 lo,bndOf L s.size hi with
   |some l,some h=>some (.string (s.extract l.toNat h.toNat),vs,[λ_=>0≤l∧l≤h∧h≤(s.size:Int)])
   |_,_=>none
  |_,_=>none
 | .slice t x lo (some hi) (some mx)=>
  match P.underlying t,evL L x with
  |some (.slice e),.slice a n c=>
   match P.info? e,bndOf L 0 lo,bndOf L 0 (some hi),bndOf L 0 (some mx) with
   |some inf,some l,some h,some m=>some (.slice (slA a l.toNat m.toNat inf.size) (h.toNat-l.toNat) (m.toNat-l.toNat),vs,[λ_=>0≤l∧l≤h∧h≤m∧m≤(c:Int)])
   |_,_,_,_=>none
  |_,_=>none
 |_=>execD P L vs o
def noSel:Op→Bool
 | .select .. =>false
 |_=>true
section
variable {P : Program} {n : Nat} {ops : Array Oper} {Q : Exit → Act → World → Prop}
theorem run_info{t:TypeId}{i:TypeInfo}(h:P.info? t=some i)(w:World):(typeInfo t).run P w= .ok i w:=by
 simp[typeInfo,program,h,Sem.run_bind,Sem.run]
theorem run_loadCellsFrom(w:World)(A:Addr)(cs:List Value):∀(i:Nat)(acc:Array Value),(∀k u,cs[k]? =some u→w.cell? (A.add (i+k))=some u)→
  (loadCellsFrom A i cs.length acc).run P w= .ok (acc++cs.toArray) w:=by
 induction cs with
 |nil=>intro i acc _;simp[loadCellsFrom]
 |cons c r ih=>
  intro i acc h
  have h0:w.cell? (A.add i)=some c:=h 0 c rfl
  have:=ih (i+1) (acc.push c) (λk u hu=>by have:=h (k+1) u (by simpa using hu);rw[show i+1+k=i+(k+1) from by omega];exact this)
  simp only[List.length_cons,loadCellsFrom,Sem.run_bind,load,Sem.run,h0,Result.andThen_ok,this]
  simp
theorem run_load_agg{t:TypeId}{i:TypeInfo}{A:Addr}{cs:List Value}{w:World}(hi:P.info? t=some i)(ha:aggOf P t=some true)(hl:cs.length=i.size)(hc:CellsAt w A cs):
  (Instr.loadAt t (.pointer (some A))).run P w= .ok (.agg cs.toArray) w:=by
 have hagg:(isAgg t).run P w= .ok true w:=by
  unfold aggOf at ha
  cases hu:P.underlying t with
  |none=>rw[hu] at ha;simp at ha
  |some d=>
   rw[hu] at ha
   cases d<;>simp at ha<;>simp[isAgg,Sem.run_bind,run_underlying hu]
 have:=run_loadCellsFrom (P:=P) w A cs 0 #[] (λk u hu=>by simpa using hc k u hu)
 simp only[Instr.loadAt,Instr.sureAddr,loadVar,Sem.run_bind,Sem.run_pure,Result.andThen_ok,hagg,if_true,sizeOf,run_info hi,loadCells,←hl,this]
 simp
theorem run_load_one{t:TypeId}{A:Addr}{c:Value}{w:World}(ha:aggOf P t=some false)(hc:CellsAt w A [c]):
  (Instr.loadAt t (.pointer (some A))).run P w= .ok c w:=by
 have hagg:(isAgg t).run P w= .ok false w:=by
  unfold aggOf at ha
  cases hu:P.underlying t with
  |none=>rw[hu] at ha;simp at ha
  |some d=>
   rw[hu] at ha
   cases d<;>simp at ha<;>simp[isAgg,Sem.run_bind,run_underlying hu]
 simp[Instr.loadAt,Instr.sureAddr,loadVar,Sem.run_bind,hagg,load,Sem.run,hc.one]
theorem run_slice_slice{t e:TypeId}{inf:TypeInfo}{a:Option Addr}{m c:Nat}{lo hi:Option Value}{l h:Int}(hu:P.underlying t=some (.slice e))(hi_:P.info? e=some inf)
  (hl:match lo with|none=>l=0|some v=>∃k,v= .int k l) (hh:match hi with|none=>h=m|some v=>∃k,v= .int k h) (h0:0≤l) (h1:l≤h) (h2:h≤(c:Int)) (w:World):
  (Instr.sliceAt t (.slice a m c) lo hi none).run P w= .ok (.slice (slA a l.toNat c inf.size) (h.toNat-l.toNat) (c-l.toNat)) w:=by
 have hlo:∀h':Nat,h'=h.toNat→(match lo with|some v=>Instr.sliceBound v h' .sliceB|none=>pure 0:Sem Nat).run P w= .ok l.toNat w:=by
  intro h' eh
  cases lo with
  |none=>simp at hl;subst hl;simp
  |some v=>
   obtain⟨k,rfl⟩:=hl
   have:l≤(h':Int):=by omega
   simp[Instr.sliceBound,asIntOf,h0,this]
 have hhi:(match hi,(none:Option Value) with
  |some v,some _=>Instr.sliceBound v c .slice3B
  |some v,none=>Instr.sliceBound v c .sliceAcap
  |none,none=>pure m
  |none,some _=>stuck "Slice: max without high" :Sem Nat).run P w= .ok h.toNat w:=by
  cases hi with
  |none=>simp at hh;subst hh;simp
  |some v=>
   obtain⟨k,rfl⟩:=hh
   have:0≤h:=by omega
   simp[Instr.sliceBound,asIntOf,this,h2]
 have hlo':=hlo h.toNat rfl
 cases lo<;>cases hi<;>simp_all[Instr.sliceAt,Instr.slice,Sem.run_bind,run_underlying hu,Instr.sliceBounds,sizeOf,run_info hi_,slA]
theorem run_slice_three{t e:TypeId}{inf:TypeInfo}{a:Option Addr}{n c:Nat}{lo:Option Value}{kh km:IntKind}{l h m:Int}(hu:P.underlying t=some (.slice e))(hi_:P.info? e=some inf)
  (hl:match lo with|none=>l=0|some v=>∃k,v= .int k l) (h0:0≤l) (h1:l≤h) (h2:h≤m) (h3:m≤(c:Int)) (w:World):
  (Instr.sliceAt t (.slice a n c) lo (some (.int kh h)) (some (.int km m))).run P w= .ok (.slice (slA a l.toNat m.toNat inf.size) (h.toNat-l.toNat) (m.toNat-l.toNat)) w:=by
 have e1:(Instr.sliceBound (.int km m) c .slice3Acap).run P w= .ok m.toNat w:=by
  have:0≤m:=by omega
  simp[Instr.sliceBound,asIntOf,this,h3]
 have e2:(Instr.sliceBound (.int kh h) m.toNat .slice3B).run P w= .ok h.toNat w:=by
  have:0≤h:=by omega
  have h2':h≤(m.toNat:Int):=by omega
  have h2'':¬max m 0<h:=by omega
  simp[Instr.sliceBound,asIntOf,this,h2',h2'']
  try omega
 cases lo with
 |none=>
  simp at hl;subst hl
  simp[Instr.sliceAt,Instr.slice,Sem.run_bind,run_underlying hu,Instr.sliceBounds,sizeOf,run_info hi_,slA,e1,e2]
 |some v=>
  obtain⟨k,rfl⟩:=hl
  have e3:(Instr.sliceBound (.int k l) h.toNat .slice3C).run P w= .ok l.toNat w:=by
   have h2':l≤(h.toNat:Int):=by omega
   have h2'':¬max h 0<l:=by omega
   simp[Instr.sliceBound,asIntOf,h0,h2',h2'']
   try omega
  simp[Instr.sliceAt,Instr.slice,Sem.run_bind,run_underlying hu,Instr.sliceBounds,sizeOf,run_info hi_,slA,e1,e2,e3]
theorem run_slice_str{t:TypeId}{s:ByteArray}{lo hi:Option Value}{l h:Int}(hu:P.underlying t=some .string)
  (hl:match lo with|none=>l=0|some v=>∃k,v= .int k l) (hh:match hi with|none=>h=s.size|some v=>∃k,v= .int k h) (h0:0≤l) (h1:l≤h) (h2:h≤(s.size:Int)) (w:World):
  (Instr.sliceAt t (.string s) lo hi none).run P w= .ok (.string (s.extract l.toNat h.toNat)) w:=by
 have hlo':(match lo with|some v=>Instr.sliceBound v h.toNat .sliceB|none=>pure 0:Sem Nat).run P w= .ok l.toNat w:=by
  cases lo with
  |none=>simp at hl;subst hl;simp
  |some v=>
   obtain⟨k,rfl⟩:=hl
   have:l≤(h.toNat:Int):=by omega
   simp only[Instr.sliceBound,asIntOf,Sem.run_bind,Sem.run_pure,Result.andThen_ok]
   rw[if_pos ⟨h0,this⟩]
   rfl
 have hhi:(match hi,(none:Option Value) with
  |some v,some _=>Instr.sliceBound v s.size .slice3B
  |some v,none=>Instr.sliceBound v s.size .sliceAlen
  |none,none=>pure s.size
  |none,some _=>stuck "Slice: max without high" :Sem Nat).run P w= .ok h.toNat w:=by
  cases hi with
  |none=>simp at hh;subst hh;simp
  |some v=>
   obtain⟨k,rfl⟩:=hh
   have:0≤h:=by omega
   simp[Instr.sliceBound,asIntOf,this,h2]
 cases lo<;>cases hi<;>simp_all[Instr.sliceAt,Instr.slice,Sem.run_bind,run_underlying hu,Instr.sliceBounds]
theorem bndOf_spec{L:Env}{d j:Int}:∀{x:Option Operand},bndOf L d x=some j→match x.map (evL L) with|none=>j=d|some v=>∃k,v= .int k j
 |none,h=>by simp only[bndOf,Option.some.injEq] at h;simp[h]
 |some x,h=>by
  simp only[bndOf] at h
  simp only[Option.map_some]
  split at h
  ·rename_i k j' e
   injection h with h
   subst h
   exact⟨k,e⟩
  ·cases h
theorem execD_sound{L:Env}{vs vs':List (List Value)}{o:Oper}{w:World}{v:Value}{ps:List (World→Prop)}
  (h:execD P L vs o=some (v,vs',ps)) (hp:AllP w ps):(execOp (evL L) o).run P w= .ok (.value v) w:=by
 unfold execD at h
 split at h
 ·split at h
  ·rename_i v1 vs1 op t x y yt hop
   simp only[Option.some.injEq,Prod.mk.injEq] at h
   obtain⟨rfl,rfl,rfl⟩:=h
   have:=hp.1 x y
   simp only[execOp,hop,Sem.run_bind] at this⊢
   rw[this]
   rfl
  ·simp only[Option.some.injEq,Prod.mk.injEq] at h
   obtain⟨rfl,rfl,rfl⟩:=h
   exact hp.1
  ·cases h
 ·split at h
  ·rename_i v1 hr
   simp only[Option.some.injEq,Prod.mk.injEq] at h
   obtain⟨rfl,rfl,rfl⟩:=h
   exact peval_sound _ hr w
  ·cases h
theorem exec1_sound{L:Env}{vs vs':List (List Value)}{o:Oper}{w:World}{v:Value}{ps:List (World→Prop)}{a:Act}
  (h:exec1 P L vs o=some (v,vs',ps)) (hs:noSel o.op=true) (hp:AllP w ps) (ha:∀x∈o.op.operands,a.eval x=evL L x):
  (execOp a.eval o).run P w= .ok (.value v) w:=by
 have hc:execOp a.eval o=execOp (evL L) o:=execOp_congr o (λcs b e=>by rw[e] at hs;simp[noSel] at hs) ha
 rw[hc]
 obtain⟨dst,op,type,pos,after,guard⟩:=o
 cases op
 case load t x=>
  simp only[exec1] at h
  split at h
  ·rename_i A cs vs1 i hx hi
   split at h
   ·rename_i hagg
    split at h
    ·rename_i hl
     simp only[Option.some.injEq,Prod.mk.injEq] at h
     obtain⟨rfl,rfl,rfl⟩:=h
     simp only[execOp,hx,Sem.run_bind,run_load_agg hi hagg (Nat.eq_of_beq_eq_true hl) hp.1]
     simp
    ·cases h
   ·rename_i hagg
    split at h
    ·rename_i c
     simp only[Option.some.injEq,Prod.mk.injEq] at h
     obtain⟨rfl,rfl,rfl⟩:=h
     simp only[execOp,hx,Sem.run_bind,run_load_one hagg hp.1]
     simp
    ·cases h
   ·cases h
  ·cases h
 case indexAddr t x i=>
  simp only[exec1] at h
  split at h
  ·rename_i e b m c k j hu hx hj
   split at h
   ·rename_i inf hi
    simp only[Option.some.injEq,Prod.mk.injEq] at h
    obtain⟨rfl,rfl,rfl⟩:=h
    obtain⟨⟨h0,h1,h2⟩,_⟩:=hp
    cases b with
    |none=>exact absurd rfl h2
    |some A=>
     simp[execOp,hx,hj,Sem.run_bind,Instr.indexAt,asIntOf,run_underlying hu,h0,h1,sizeOf,run_info hi,baseOf]
   ·cases h
  ·rename_i m e A k j hu hx hj
   split at h
   ·rename_i inf hi
    simp only[Option.some.injEq,Prod.mk.injEq] at h
    obtain⟨rfl,rfl,rfl⟩:=h
    obtain⟨⟨h0,h1⟩,_⟩:=hp
    simp[execOp,hx,hj,Sem.run_bind,Instr.indexAt,Instr.sureAddr,asIntOf,run_underlying hu,h0,h1,sizeOf,run_info hi]
   ·cases h
  ·cases h
 case binOp op t x y yt=>
  simp only[exec1] at h
  split at h
  ·rename_i har
   split at h
   ·rename_i v1 p1 hv
    simp only[Option.some.injEq,Prod.mk.injEq] at h
    obtain⟨rfl,rfl,rfl⟩:=h
    have hp1:=hp.1
    unfold arith at hv
    split at hv
    ·rename_i k a1 k2 b1 hx hy
     simp only[Option.some.injEq,Prod.mk.injEq] at hv
     obtain⟨rfl,rfl⟩:=hv
     simp[execOp,hx,hy,eqGuard,binOp,Op.shift,shlV,Int.not_lt.2 hp1]
    ·rename_i k a1 k2 b1 hx hy
     simp only[Option.some.injEq,Prod.mk.injEq] at hv
     obtain⟨rfl,rfl⟩:=hv
     simp[execOp,hx,hy,eqGuard,binOp,Op.shift,shrV,Int.not_lt.2 hp1]
    ·rename_i k a1 k2 b1 hx hy
     split at hv
     ·rename_i hk
      subst hk
      simp only[Option.some.injEq,Prod.mk.injEq] at hv
      obtain⟨rfl,rfl⟩:=hv
      simp[execOp,hx,hy,eqGuard,binOp,Op.intDiv,hp1]
     ·cases hv
    ·rename_i k a1 k2 b1 hx hy
     split at hv
     ·rename_i hk
      subst hk
      simp only[Option.some.injEq,Prod.mk.injEq] at hv
      obtain⟨rfl,rfl⟩:=hv
      simp[execOp,hx,hy,eqGuard,binOp,Op.intDiv,hp1]
     ·cases hv
    ·cases hv
   ·cases h
  ·exact execD_sound (vs:=vs) h hp
 case slice t x lo hi mx=>
  cases mx with
  |some y=>
   cases hi with
   |none=>exact execD_sound h hp
   |some hi=>
    simp only[exec1] at h
    split at h
    ·rename_i e b m c hu hx
     split at h
     ·rename_i inf l hh mm hinf hl hhi hmm
      simp only[Option.some.injEq,Prod.mk.injEq] at h
      obtain⟨rfl,rfl,rfl⟩:=h
      obtain⟨⟨h0,h1,h2,h3⟩,_⟩:=hp
      obtain⟨kh,ekh⟩:=bndOf_spec hhi
      obtain⟨km,ekm⟩:=bndOf_spec hmm
      simp only[execOp,hx,Sem.run_bind,Option.map_some,ekh,ekm,run_slice_three hu hinf (bndOf_spec hl) h0 h1 h2 h3 w]
      simp
     ·cases h
    ·cases h
  |none=>
   simp only[exec1] at h
   split at h
   ·rename_i e b m c hu hx
    split at h
    ·rename_i inf l hh hinf hl hhi
     simp only[Option.some.injEq,Prod.mk.injEq] at h
     obtain⟨rfl,rfl,rfl⟩:=h
     obtain⟨⟨h0,h1,h2⟩,_⟩:=hp
     simp only[execOp,hx,Sem.run_bind,Option.map_none,run_slice_slice hu hinf (bndOf_spec hl) (bndOf_spec hhi) h0 h1 h2 w]
     simp
    ·cases h
   ·rename_i s hu hx
    split at h
    ·rename_i l hh hl hhi
     simp only[Option.some.injEq,Prod.mk.injEq] at h
     obtain⟨rfl,rfl,rfl⟩:=h
     obtain⟨⟨h0,h1,h2⟩,_⟩:=hp
     simp only[execOp,hx,Sem.run_bind,Option.map_none,run_slice_str hu (bndOf_spec hl) (bndOf_spec hhi) h0 h1 h2 w]
     simp
    ·cases h
   ·cases h
 all_goals exact execD_sound (vs:=vs) h hp
def gwant(ops:Array Oper)(L:Env)(o:Oper):Option Bool:=
 match o.guard with
 |none=>some true
 |some (j,want)=>
  match(ops[j]?).bind (·.dst) with
  |some d=>
   match hasK L d,lk L d with
   |true,.bool b=>some (match b,want with|true,true=>true|false,false=>true|_,_=>false)
   |true,.tuple _=>some false
   |_,_=>none
  |none=>none
theorem AllP_append{w:World}:∀(a b:List (World→Prop)),AllP w (a++b)→AllP w a∧AllP w b
 |[],_,h=>⟨trivial,h⟩
 |_::r,b,h=>let⟨h1,h2⟩:=AllP_append r b h.2;⟨⟨h.1,h1⟩,h2⟩
theorem gwant_sound{L:Env}{o:Oper}{a:Act}{b:Bool}(hA:Has a n L)(h:gwant ops L o=some b):Region.wanted o (yielded ops a.tmps)=b:=by
 unfold gwant at h
 unfold Region.wanted
 split at h
 ·rename_i hg;rw[hg];simpa using h
 ·rename_i j want hg
  rw[hg]
  simp only
  split at h
  ·rename_i d hd
   have hy:∀v,hasK L d=true→lk L d=v→a.tmps.getD d undef=v:=λv h1 h2=>by rw[hA.get d h1,h2]
   split at h
   ·rename_i b' hk hl
    have hv:=hy _ hk hl
    have hv':a.tmps[d]? =some (.bool b'):=by
     rw[Array.getD_eq_getD_getElem?] at hv
     cases hq:a.tmps[d]? with
     |none=>rw[hq] at hv;simp[undef] at hv
     |some x=>rw[hq] at hv;simpa using hv
    simp only[yielded,hd,Option.bind_some,hv']
    cases b'<;>cases want<;>cases b<;>simp at h⊢
   ·rename_i vs hk hl
    have hv:=hy _ hk hl
    have hv':∀b',a.tmps[d]? ≠some (.bool b'):=by
     intro b' hq
     rw[Array.getD_eq_getD_getElem?,hq] at hv
     simp at hv
    have:yielded ops a.tmps j=none:=by
     unfold yielded
     rw[hd]
     cases hq:a.tmps[d]? with
     |none=>simp[hq]
     |some x=>cases x<;>first|exact absurd hq (hv' _)|simp[hq]
    rw[this]
    cases b<;>simp_all
   ·cases h
  ·cases h
theorem wpList_do{o:Oper}{rest:List Oper}{a:Act}{w w':World}{v:Value}(hw:Region.wanted o (yielded ops a.tmps)=true)
  (hr:(execOp a.eval o).run P w= .ok (.value v) w') (h:wpList P ops Q rest (a.put o.dst v) w'):wpList P ops Q (o::rest) a w:=by
 unfold wpList
 rw[if_pos hw]
 refine .inl ?_
 simp only[Oper.wp,hr,Oper.upon]
 exact h
def sg(ops:Array Oper)(i j:Nat):List Oper:=(ops.toList.drop i).take (j-i)
theorem sg_split(i k j:Nat)(h:i+k≤j):sg ops i j=sg ops i (i+k)++sg ops (i+k) j:=by
 unfold sg
 rw[show j-i=k+(j-(i+k)) from by omega,show i+k-i=k from by omega,List.take_add,List.drop_drop]
theorem wl_end{i:Nat}{a:Act}{w:World}(h:Q .normal a w):wpList P ops Q (sg ops i i) a w:=by
 unfold sg
 rw[Nat.sub_self]
 exact h
end
def seqL:Code→Code| .seq a _=>a|c=>c
def seqR:Code→Code| .seq _ b=>b|c=>c
def condX:Code→Operand| .cond x _ _=>x|_=> .const undef
def condT:Code→Code| .cond _ a _=>a|c=>c
def condE:Code→Code| .cond _ _ b=>b|c=>c
def blkI:Code→Nat| .block i _=>i|_=>0
def blkB:Code→Code| .block _ b=>b|c=>c
def loopB:Code→Code| .loop b=>b|c=>c
def regI:Code→Nat| .region i _ _=>i|_=>0
def regO:Code→Array Oper| .region _ o _=>o|_=> #[]
def bodyOf(f:Func):Code:=f.body.getD .skip
section
variable {P : Program} {n : Nat} {Q : Exit → Act → World → Prop} {a : Act} {w : World} {c : Code}
theorem c_seq(x y:Code)(hc:c= .seq x y)(h:∀K:Act→World→Prop,(∀a w,y.wp P Q a w→K a w)→x.wp P (Exit.then K Q) a w):c.wp P Q a w:=by
 rw[hc];exact wp_seq_k h
theorem c_cond{L:Env}(x y:Code)(v:Operand)(t:Bool)(hA:Has a n L)(hc:c= .cond v x y)(hk:knownO L v=true)(hx:evL L v= .bool t)
  (ht:t=true→x.wp P Q a w) (hf:t=false→y.wp P Q a w):c.wp P Q a w:=by
 rw[hc]
 exact wp_cond_split ((hA.eval hk).trans hx) ht hf
theorem c_block(i:Nat)(x:Code)(hc:c= .block i x)(h:x.wp P (Exit.inBlock i Q) a w):c.wp P Q a w:=by
 rw[hc];exact wp_block h
theorem c_skip(hc:c= .skip)(h:Q .normal a w):c.wp P Q a w:=by rw[hc];exact wp_skip h
theorem c_exit(i:Nat)(hc:c= .exit i)(h:Q (.exit i) a w):c.wp P Q a w:=by rw[hc];exact wp_exit h
theorem c_ret(hc:c= .ret)(h:Q .ret a w):c.wp P Q a w:=by rw[hc];exact wp_ret h
theorem c_region(ops:Array Oper)(j:Nat)(hc:c= .region (regI c) ops false)(hj:ops.size=j)(h:wpList P ops Q (sg ops 0 j) a w):c.wp P Q a w:=by
 rw[hc]
 refine wp_region_list ?_
 unfold sg at h
 rw[←hj,List.drop_zero,Nat.sub_zero,List.take_of_length_le (by simp)] at h
 exact h
theorem c_loop(x:Code)(hc:c= .loop x)(I:Nat→Act→World→Prop)(n₀:Nat)(h₀:I n₀ a w)
  (round:∀n a w,I n a w→∀K:Act→World→Prop,(∀n' a' w',n'<n→I n' a' w'→K a' w')→x.wp P (Exit.then K Q) a w):c.wp P Q a w:=by
 rw[hc]
 exact wp_loop_ghost I n₀ h₀ λn a w hI=>round n a w hI _ (λn' a' w' h1 h2=>⟨n',h1,h2⟩)
theorem enter{f:FuncId}{fn:Func}{args:Array Value}{R:Ending→World→Prop}(N:Nat)(hf:P.funcs[f]? =some fn)(hb:fn.body=some (bodyOf fn))(hn:fn.ntmps=N)(hs:args.size≤N)
  (h:∀a,Has a N (args.toList.zipIdx.map λp=>(p.2,p.1))→(bodyOf fn).wp P (bodyPost P fn R) a w):Calls P f args w R:=by
 refine calls_of_wp hf hb (h _ ⟨by simp;omega,rfl, ?_⟩)
 have key:∀(l:List Value)(k t:Nat),hasK ((l.zipIdx k).map λp=>(p.2,p.1)) t=true→k≤t∧t-k<l.length∧lk ((l.zipIdx k).map λp=>(p.2,p.1)) t=l.getD (t-k) undef:=by
  intro l
  induction l with
  |nil=>intro k t h;simp[hasK] at h
  |cons v r ih=>
   intro k t hh
   simp only[List.zipIdx_cons,List.map_cons,hasK,lk] at hh⊢
   cases hb:Nat.beq k t
   ·simp only[hb] at hh⊢
    obtain⟨h1,h2,h3⟩:=ih (k+1) t hh
    refine⟨by omega,by simp;omega, ?_⟩
    rw[h3,show t-k=(t-(k+1))+1 from by omega]
    simp
   ·have:=Nat.eq_of_beq_eq_true hb
    subst this
    simp
 intro t ht
 obtain⟨_,h2,h3⟩:=key args.toList 0 t ht
 rw[h3]
 simp only[Nat.sub_zero,Array.length_toList] at h2⊢
 rw[Array.getD_eq_getD_getElem?,Array.getElem?_append_left h2]
 simp[List.getD_eq_getElem?_getD]
end
structure NewB(w w':World)(b:Nat)(cs:List Value)(T:TypeId):Prop where
 is:w'=w.alloc (.cells cs.toArray T)
 at_:b=w.heap.size
def Own(w:World)(b:Nat)(cs:List Value):Prop:=∃T,w.heap[b]? =some (.cells cs.toArray T (0,0))
theorem NewB.ext{w w':World}{b:Nat}{cs:List Value}{T:TypeId}(h:NewB w w' b cs T):Ext w w':=h.is▸Ext.alloc w _
theorem NewB.own{w w':World}{b:Nat}{cs:List Value}{T:TypeId}(h:NewB w w' b cs T):Own w' b cs:=by
 refine⟨T, ?_⟩
 rw[h.is,h.at_]
 exact heap_alloc_new w _
theorem NewB.lt{w w':World}{b:Nat}{cs:List Value}{T:TypeId}(h:NewB w w' b cs T):b<w'.heap.size:=by
 rw[h.is,h.at_];simp
theorem Own.lt{w:World}{b:Nat}{cs:List Value}(h:Own w b cs):b<w.heap.size:=by
 obtain⟨T,hT⟩:=h
 exact(Array.getElem?_eq_some_iff.1 hT).1
theorem Own.mono{w w':World}{b:Nat}{cs:List Value}(h:Own w b cs)(e:Ext w w'):Own w' b cs:=by
 obtain⟨T,hT⟩:=h
 exact⟨T,by rw[e.block (Array.getElem?_eq_some_iff.1 hT).1];exact hT⟩
theorem addr_add0(b k:Nat):(⟨b,0,none⟩:Addr).add k=⟨b,k,none⟩:=by
 unfold Addr.add;split<;>simp_all
theorem Own.cells{w:World}{b:Nat}{cs:List Value}(h:Own w b cs):CellsAt w ⟨b,0,none⟩ cs:=by
 obtain⟨T,hT⟩:=h
 intro k u hu
 rw[addr_add0,cell_of_row w b k _ T (0,0) hT]
 simpa using hu
def spl(cs:List Value)(k:Nat)(vs:List Value):List Value:=cs.take k++vs++cs.drop (k+vs.length)
section
variable {P : Program} {n : Nat} {ops : Array Oper} {Q : Exit → Act → World → Prop}
def newOp(P:Program)(L:Env):Op→Option (Option Nat×List Value×TypeId)
 | .alloc t=>match P.info? t with
  |some i=>match i.zero with
   |some z=>some (none,z.cells.toList,t)
   |none=>none
  |none=>none
 | .box t x=>some (none,(evL L x).cells.toList,t)
 | .buildSlice t len parts=>match P.underlying t with
  |some (.slice e)=>match P.info? e with
   |some i=>match i.zero with
    |some z=>match Nat.ble (len*i.size) (2^24),Instr.fill (λk=>some (k*i.size,i.size)) ((Array.range (len*i.size)).map ((if len*i.size=0 then #[] else z.cells)[· % (if len*i.size=0 then #[] else z.cells).size]!)) (parts.map fun(k,x)=>(k,evL L x)).toList with
     |true,some cells=>some (some len,cells.toList,e)
     |_,_=>none
    |none=>none
   |none=>none
  |_=>none
 |_=>none
def newVal(b:Nat):Option Nat→Value
 |none=> .pointer (some ⟨b,0,none⟩)
 |some len=> .slice (some ⟨b,0,none⟩) len len
theorem run_newRow'(e:TypeId)(cs:Array Value)(w:World):(newRow e cs).run P w= .ok ⟨w.heap.size,0,none⟩ (w.alloc (.cells cs e)):=rfl
theorem newOp_sound{L:Env}{o:Oper}{m:Option Nat}{cs:List Value}{T:TypeId}(h:newOp P L o.op=some (m,cs,T))(w:World):
  (execOp (evL L) o).run P w= .ok (.value (newVal w.heap.size m)) (w.alloc (.cells cs.toArray T)):=by
 obtain⟨dst,op,type,pos,after,guard⟩:=o
 cases op<;>simp only[newOp] at h
 case alloc t=>
  split at h
  ·rename_i i hi
   split at h
   ·rename_i z hz
    simp only[Option.some.injEq,Prod.mk.injEq] at h
    obtain⟨rfl,rfl,rfl⟩:=h
    simp[execOp,Instr.alloc,Sem.run_bind,zeroValue,run_info hi,hz,newVar,run_newRow',newVal]
   ·cases h
  ·cases h
 case box t x=>
  simp only[Option.some.injEq,Prod.mk.injEq] at h
  obtain⟨rfl,rfl,rfl⟩:=h
  simp[execOp,Instr.box,newVar,run_newRow',newVal]
 case buildSlice t len parts=>
  split at h
  ·rename_i e hu
   split at h
   ·rename_i i hi
    split at h
    ·rename_i z hz
     split at h
     ·rename_i cells hb hf
      simp only[Option.some.injEq,Prod.mk.injEq] at h
      obtain⟨rfl,rfl,rfl⟩:=h
      have hb':¬(len*i.size>2^24):=by
       have:=Nat.le_of_ble_eq_true hb
       omega
      simp only[execOp,Instr.buildSlice,Sem.run_bind,run_underlying hu,Result.andThen_ok,sizeOf,run_info hi,Sem.run_pure]
      rw[if_neg hb']
      by_cases h0:len*i.size=0
      ·simp only[h0,if_true] at hf
       simp only[h0,if_true,Sem.run_pure,Result.andThen_ok,Sem.run_bind]
       rw[hf]
       simp[run_newRow',newVal]
      ·simp only[h0,if_false] at hf
       simp only[h0,if_false,Sem.run_pure,Result.andThen_ok,Sem.run_bind,zeroValue,run_info hi,hz]
       rw[hf]
       simp[run_newRow',newVal]
     ·cases h
    ·cases h
   ·cases h
  ·cases h
 all_goals cases h
theorem sg_at{i j:Nat}{o:Oper}(ho:ops[i]? =some o)(hij:Nat.blt i j=true):sg ops i j=o::sg ops (i+1) j:=by
 have hij':i<j:=Nat.blt_eq▸hij
 have h1:ops.toList[i]? =some o:=by simpa using ho
 obtain⟨hlt,he⟩:=List.getElem?_eq_some_iff.1 h1
 unfold sg
 rw[List.drop_eq_getElem_cons hlt,he,show j-i=(j-(i+1))+1 from by omega]
 rfl
theorem exec_eq{L:Env}{o:Oper}{a:Act}(hA:Has a n L)(hs:noSel o.op=true)(hk:o.op.operands.toList.all (knownO L)=true):execOp a.eval o=execOp (evL L) o:=
 execOp_congr o (λcs b e=>by rw[e] at hs;simp[noSel] at hs) λ_ hx=>hA.eval (List.all_eq_true.1 hk _ (Array.mem_toList_iff.2 hx))
def upd(L:Env)(d:Option Nat)(v:Value):Env:=match d with|some d=>(d,v)::L|none=>L
def callAt(n:Nat)(ops:Array Oper)(L:Env)(i:Nat):Option (Option Nat×FuncId×Array Value):=
 match ops[i]? with
 |some o=>
  match gwant ops L o,o.op.operands.toList.all (knownO L),o.op with
  |some true,true,.call c=>match c.callee with
   | .value f=>match evL L f,(match o.dst with|some d=>Nat.blt d n|none=>true) with
    | .func (.func g) first caps,true=>some (o.dst,g,(first.toList++c.args.toList.map (evL L)++caps.toList).toArray)
    |_,_=>none
   |_=>none
  |_,_,_=>none
 |none=>none
theorem wl_call(i:Nat){j:Nat}(hij:Nat.blt i j=true){a:Act}{L:Env}{w:World}{d:Option Nat}{g:FuncId}{args:Array Value}{R:Ending→World→Prop}(hA:Has a n L)(h:callAt n ops L i=some (d,g,args))
  (hg:∀args w,(callFunc g args).run P w= .ok (.enter g args) w) (hc:Calls P g args w R)
  (hK:∀e w',R e w'→∃v,e= .returned v∧∀a',Has a' n (upd L d v)→wpList P ops Q (sg ops (i+1) j) a' w'):wpList P ops Q (sg ops i j) a w:=by
 unfold callAt at h
 split at h
 ·rename_i o ho
  rw[sg_at ho hij]
  split at h
  ·rename_i c hgd hk hop
   split at h
   ·rename_i f hf
    split at h
    ·rename_i g1 first caps hv hd
     simp only[Option.some.injEq,Prod.mk.injEq] at h
     obtain⟨rfl,rfl,rfl⟩:=h
     have hs:noSel o.op=true:=by rw[hop];rfl
     have hargs:(first.toList++c.args.toList.map (evL L)++caps.toList).toArray=first++c.args.map (evL L)++caps:=by simp
     have hrun:(execOp a.eval o).run P w= .ok (.enter g1 (first.toList++c.args.toList.map (evL L)++caps.toList).toArray) w:=by
      rw[exec_eq hA hs hk,hargs]
      simp only[execOp,hop,resolve,hf,hv,Deferred.ofValue,Sem.run_bind,Sem.run_pure,Result.andThen_ok,invoke,hg]
     unfold wpList
     rw[if_pos (gwant_sound hA hgd)]
     refine .inl ?_
     simp only[Oper.wp,hrun,Oper.upon]
     refine hc.mono λe w' hR=> ?_
     obtain⟨v,rfl,hn⟩:=hK e w' hR
     refine hn _ ?_
     cases hdst:o.dst with
     |none=>simpa[upd,Act.put] using hA
     |some d=>
      rw[hdst] at hd
      exact hA.put (Nat.blt_eq▸hd) v
    ·cases h
   ·cases h
  ·cases h
 ·cases h
end
class GoT (α:Type) where
 sz:Nat
 rep:World→List Value→α→Prop
 len:∀{w vs x},rep w vs x→vs.length=sz
 mono:∀{w w' vs x},rep w vs x→Ext w w'→rep w' vs x
 one:∀{w vs x},rep w vs x→∀v∈vs,v.oneCell'=true
class Flat (α:Type) where
 sz:Nat
 enc:α→List Value
 len:∀x,(enc x).length=sz
 one:∀x,∀v∈enc x,v.oneCell'=true
@[reducible] def Flat.toGoT{α:Type}(F:Flat α):GoT α where
 sz:=F.sz
 rep _ vs x:=vs=F.enc x
 len h:=h▸F.len _
 mono h _:=h
 one h:=h▸F.one _
structure RS{α:Type}{G:GoT α}(w:World)(a:Option Addr)(c:Nat)(l:List α):Prop where
 cap:l.length≤c
 some_:l≠[]→a≠none
 at_:∀i x,l[i]? =some x→∃e,G.rep w e x∧CellsAt w ((baseOf a).add (i*G.sz)) e
theorem RS.mono{α:Type}{G:GoT α}{w w':World}{a:Option Addr}{c:Nat}{l:List α}(h:RS (G:=G) w a c l)(e:Ext w w'):RS (G:=G) w' a c l:=
 ⟨h.cap,h.some_,λi x hx=>let⟨e1,h1,h2⟩:=h.at_ i x hx;⟨e1,G.mono h1 e,h2.mono e⟩⟩
theorem RS.nil{α:Type}{G:GoT α}(w:World)(a:Option Addr)(c:Nat):RS (G:=G) w a c ([]:List α):=⟨Nat.zero_le _,λh=>absurd rfl h,λi x hx=>by simp at hx⟩
def idx{α:Type}(l:List α)(j:Int):Option α:=if 0≤j then l[j.toNat]? else none
theorem RS.idx{α:Type}{G:GoT α}{w:World}{a:Option Addr}{c:Nat}{l:List α}{j:Int}{x:α}(h:RS (G:=G) w a c l)(hx:idx l j=some x):
  Inb a l.length j∧∃e,G.rep w e x∧CellsAt w ((baseOf a).add (j.toNat*G.sz)) e:=by
 unfold Bur.idx at hx
 split at hx
 ·rename_i h0
  obtain⟨hlt,he⟩:=List.getElem?_eq_some_iff.1 hx
  refine⟨⟨h0,by omega,h.some_ (by intro e;simp[e] at hlt)⟩,h.at_ _ x hx⟩
 ·cases hx
theorem RS.fidx{α:Type}{F:Flat α}{w:World}{a:Option Addr}{c:Nat}{l:List α}{j:Int}{x:α}(h:RS (G:=Flat.toGoT F) w a c l)(hx:Bur.idx l j=some x):
  Inb a l.length j∧CellsAt w ((baseOf a).add (j.toNat*F.sz)) (F.enc x):=by
 obtain⟨h1,e,h2,h3⟩:=h.idx hx
 have h2':e=F.enc x:=h2
 subst h2'
 exact⟨h1,h3⟩
theorem RS.ofCells{α:Type}{F:Flat α}{w:World}{A:Addr}{c:Nat}{l:List α}(h:CellsAt w A (l.flatMap F.enc))(hc:l.length≤c):RS (G:=Flat.toGoT F) w (some A) c l:=by
 refine⟨hc,(λ_ h=>by cases h),λi x hx=>⟨F.enc x,rfl, ?_⟩⟩
 have key:∀(l:List α)(i:Nat)(x:α),l[i]? =some x→((l.flatMap F.enc).drop (i*F.sz)).take F.sz=F.enc x:=by
  intro l
  induction l with
  |nil=>intro i x h;simp at h
  |cons y r ih=>
   intro i x h
   cases i with
   |zero=>
    simp at h
    subst h
    simp only[Nat.zero_mul,List.drop_zero,List.flatMap_cons]
    rw[←F.len y]
    exact List.take_left
   |succ i=>
    simp at h
    have hl:=F.len y
    rw[List.flatMap_cons,Nat.succ_mul,Nat.add_comm,←List.drop_drop,show List.drop F.sz (F.enc y++List.flatMap F.enc r)=List.flatMap F.enc r from by rw[←hl];exact List.drop_left]
    exact ih i x h
 have h2:=h.sub (i*F.sz) F.sz
 rw[key l i x hx] at h2
 exact h2
def OwnS{α:Type}{F:Flat α}(w:World)(B:Nat)(e:TypeId)(v:Value)(l:List α):Prop:=w.ownsRow B e F.sz v l.length (l.flatMap F.enc)
theorem OwnS.nil{α:Type}{F:Flat α}(w:World)(B:Nat)(e:TypeId):OwnS (F:=F) w B e (.slice none 0 0) ([]:List α):=World.ownsRow_nil w B e _
theorem OwnS.shape{α:Type}{F:Flat α}{w:World}{B:Nat}{e:TypeId}{v:Value}{l:List α}(h:OwnS (F:=F) w B e v l):
  ∃a c,v= .slice a l.length c∧RS (G:=Flat.toGoT F) w a c l∧(∀A,a=some A→B≤A.block∧A.block<w.heap.size):=by
 have hc:=λg=>World.ownsRow.cells (g:=g) h
 have hlt:=h.lt
 rcases h.2 with⟨h1,h2⟩|⟨g,cap,cur,h1,h2,h3,h4,h5,h6,h7⟩
 ·have:l=[]:=List.eq_nil_of_length_eq_zero h2
  subst this
  exact⟨none,0,h1,RS.nil _ _ _,(λA h=>by cases h)⟩
 ·refine⟨some ⟨g,0,none⟩,cap,h1,RS.ofCells ?_ h4, ?_⟩
  ·intro j u hu
   exact hc g (by rw[h1];rfl) j u hu
  ·intro A hA
   injection hA with hA
   subst hA
   exact hlt g (by rw[h1];rfl)
theorem OwnS.mono{α:Type}{F:Flat α}{w w':World}{B:Nat}{e:TypeId}{v:Value}{l:List α}(h:OwnS (F:=F) w B e v l)(x:Ext w w'):OwnS (F:=F) w' B e v l:=by
 have hx:w.grownBy w' none:=⟨x.os,x.tape,x.output,x.size,λk hk _=>x.block hk⟩
 exact World.ownsRow.kept h hx (by cases v.ownBlock<;>simp)
theorem Ext.grown{w0 w w':World}{B:Nat}{v:Value}(h:Ext w0 w)(g:w.grownBy w' v.ownBlock)(hB:w0.heap.size≤B)(hv:∀k,v.ownBlock=some k→B≤k)(hd:Drn w w'):Ext w0 w':=
 ⟨Below.grown h.below g h.size λk hk=>Nat.le_trans hB (hv k hk),h.drawn.trans hd⟩
def room(k bytes:Nat):Bool:=Nat.ble (k*bytes) 140737488355328
def app{α:Type}(bytes:Nat)(l m:List α):Option (List α):=match room (l.length+m.length) bytes with|true=>some (l++m)|false=>none
section
variable {P : Program} {n : Nat} {ops : Array Oper} {Q : Exit → Act → World → Prop}
def appOp:Op→Option (TypeId×Operand×Operand)
 | .call c=>match c.callee,c.args.toList,c.argTypes.toList with
  | .builtin .append,[s,x],[t,u]=>match Nat.beq t u with
   |true=>some (t,s,x)
   |false=>none
  |_,_,_=>none
 |_=>none
theorem appOp_sound{op:Op}{t:TypeId}{s x:Operand}(h:appOp op=some (t,s,x)):op= .call {callee:= .builtin .append,args:= #[s,x],argTypes:= #[t,t]}:=by
 cases op<;>simp only[appOp] at h
 case call c=>
  obtain⟨callee,⟨args⟩,⟨tys⟩⟩:=c
  split at h
  ·rename_i s1 x1 t1 u1 h1 h2 h3
   split at h
   ·rename_i hb
    simp only[Option.some.injEq,Prod.mk.injEq] at h
    obtain⟨rfl,rfl,rfl⟩:=h
    have:=Nat.eq_of_beq_eq_true hb
    subst this
    simp only at h1 h2 h3
    subst h1 h2 h3
    rfl
   ·cases h
  ·cases h
 all_goals cases h
def appAt(n:Nat)(ops:Array Oper)(L:Env)(i:Nat):Option (Nat×TypeId×Value×Value):=
 match ops[i]? with
 |some o=>
  match gwant ops L o,o.dst,appOp o.op,o.op.operands.toList.all (knownO L) with
  |some true,some d,some (t,s,x),true=>match Nat.blt d n with
   |true=>some (d,t,evL L s,evL L x)
   |false=>none
  |_,_,_,_=>none
 |none=>none
theorem flat_len{α:Type}{F:Flat α}(l:List α):(l.flatMap F.enc).length=l.length*F.sz:=by
 induction l with
 |nil=>simp
 |cons x r ih=>simp[List.flatMap_cons,ih,F.len,Nat.succ_mul,Nat.add_comm]
theorem flat_one{α:Type}{F:Flat α}(l:List α):∀v∈l.flatMap F.enc,v.oneCell'=true:=by
 intro v hv
 obtain⟨x,_,h⟩:=List.mem_flatMap.1 hv
 exact F.one x v h
theorem RS.cells{α:Type}{F:Flat α}{w:World}{a:Option Addr}{c:Nat}{l:List α}(h:RS (G:=Flat.toGoT F) w a c l):CellsAt w (baseOf a) (l.flatMap F.enc):=by
 have key:∀(l:List α)(A:Addr),(∀i x,l[i]? =some x→CellsAt w (A.add (i*F.sz)) (F.enc x))→CellsAt w A (l.flatMap F.enc):=by
  intro l
  induction l with
  |nil=>intro A _ k u hu;simp at hu
  |cons x r ih=>
   intro A h
   have h0:=h 0 x rfl
   have h1:=ih (A.add F.sz) (λi y hy=>by
    have:=h (i+1) y (by simpa using hy)
    rw[add_add,show F.sz+i*F.sz=(i+1)*F.sz from by rw[Nat.succ_mul,Nat.add_comm]]
    exact this)
   intro k u hu
   rw[List.flatMap_cons] at hu
   by_cases hk:k<(F.enc x).length
   ·rw[List.getElem?_append_left hk] at hu
    have:=h0 k u hu
    rwa[Nat.zero_mul,add_zero'] at this
   ·rw[List.getElem?_append_right (by omega),F.len] at hu
    have:=h1 (k-F.sz) u hu
    rw[add_add,F.len] at*
    rwa[show F.sz+(k-F.sz)=k from by omega] at this
 refine key l _ λi x hx=> ?_
 obtain⟨e,h1,h2⟩:=h.at_ i x hx
 have h1':e=F.enc x:=h1
 subst h1'
 exact h2
structure AppT(P:Program)(t e:TypeId)(sz bytes:Nat):Prop where
 u:P.underlying t=some (.slice e)
 i:∃inf z,P.info? e=some inf∧inf.zero=some z∧inf.size=sz∧inf.bytes=bytes∧z.cells.size=sz
 p:0<sz
 b:0<bytes
end
section
variable {P : Program} {n : Nat} {ops : Array Oper} {Q : Exit → Act → World → Prop}
def predsOf(ops:Array Oper)(i:Nat):List Nat:=
 match ops[i]? with
 |some o=>(o.after.toList.filter (Region.binds .any)).map (·.on)
 |none=>[]
def dstOf(ops:Array Oper)(i:Nat):Option Nat:=(ops[i]?).bind (·.dst)
def memN:List Nat→Nat→Bool
 |[],_=>false
 |x::r,k=>match Nat.beq x k with|true=>true|false=>memN r k
theorem memN_iff:∀{l:List Nat} {k:Nat},memN l k=true↔k∈l
 |[],k=>by simp[memN]
 |x::r,k=>by
  simp only[memN,List.mem_cons]
  cases hb:Nat.beq x k
  ·simp only[memN_iff (l:=r)]
   constructor
   ·exact .inr
   ·rintro(rfl|h)
    ·simp at hb
    ·exact h
  ·simp[Nat.eq_of_beq_eq_true hb]
def keepsTill(ops:Array Oper)(p i s:Nat):Bool:=(List.range p).all λk=>match dstOf ops k with
 |some d=>match Nat.beq d s with
  |true=>memN (predsOf ops k) i
  |false=>true
 |none=>true
def keepsOut(ops:Array Oper)(p s:Nat):Bool:=(List.range p).all λk=>match dstOf ops k with
 |some d=>match Nat.beq d s with
  |true=>false
  |false=>true
 |none=>true
def extAt(ops:Array Oper)(p i:Nat)(L:Env):Env:=L.filter λx=>keepsTill ops p i x.1
def extOut(ops:Array Oper)(p:Nat)(L:Env):Env:=L.filter λx=>keepsOut ops p x.1
def envOf(ops:Array Oper)(V:Nat→Value):List Nat→Env
 |[]=>[]
 |j::r=>match dstOf ops j with
  |some d=>(d,V j)::envOf ops V r
  |none=>envOf ops V r
def anc(ops:Array Oper):Nat→List Nat→List Nat
 |0,S=>S
 |k+1,S=>match memN S k with
  |true=>anc ops k (predsOf ops k++S)
  |false=>anc ops k S
theorem anc_all{ops:Array Oper}{T:Nat→Prop}(hT:∀k,T k→∀j∈predsOf ops k,T j):∀(k:Nat)(S:List Nat),(∀j∈S,T j)→∀j∈anc ops k S,T j
 |0,S,h,j,hj=>h j hj
 |k+1,S,h,j,hj=>by
  simp only[anc] at hj
  split at hj
  ·rename_i hm
   exact anc_all hT k _ (λi hi=>by
    rcases List.mem_append.1 hi with hi|hi
    ·exact hT k (h k (memN_iff.1 hm)) i hi
    ·exact h i hi) j hj
  ·exact anc_all hT k S h j hj
def relOk(ops:Array Oper)(p:Nat):Bool:=
 ((List.range ops.size).all λi=>(predsOf ops i).all λj=>Nat.blt j i)&&
 ((List.range p).all λi=>match dstOf ops i with
  |some d=>(List.range p).all λk=>match dstOf ops k with
   |some e=>match Nat.beq d e with
    |true=>Nat.beq i k
    |false=>true
   |none=>true
  |none=>false)&&
 ((List.range ops.size).all λj=>match Nat.ble p j with
  |true=>(List.range j).all λi=>memN (anc ops j (predsOf ops j)) i
  |false=>true)&&Nat.ble p ops.size
def StepR(P:Program)(ops:Array Oper)(E:World→World→Prop)(S:World→Value→Prop)(Q:Exit→Act→World→Prop)(i:Nat)(a:Act)(w:World):Prop:=
 wpOp P ops Q i (λa' w'=>∃d v,dstOf ops i=some d∧a'=a.put (some d) v∧E w w'∧S w' v) a w
def slotV(ops:Array Oper)(a:Act)(j:Nat):Value:=match dstOf ops j with
 |some d=>a.tmps.getD d undef
 |none=>undef
theorem wpOp_mono{i:Nat}{a:Act}{w:World}{K K':Act→World→Prop}(h:∀a w,K a w→K' a w)(hh:wpOp P ops Q i K a w):wpOp P ops Q i K' a w:=by
 unfold wpOp at*
 split
 ·rename_i ho;simp only[ho] at hh;exact h _ _ hh
 ·rename_i o ho
  simp only[ho] at hh
  split
  ·rename_i hw
   simp only[hw,if_true] at hh
   exact hh.imp (Oper.wp_mono h) id
  ·rename_i hw
   simp only[hw] at hh
   exact h _ _ hh
theorem wpAny_tail(p:Nat)(htail:∀j,p≤j→j<ops.size→∀i,i<j→i∈anc ops j (predsOf ops j))(hback:∀i,i<ops.size→∀j∈predsOf ops i,j<i):
  ∀(fuel q:Nat)(listed:Array Bool)(a:Act)(w:World),p≤q→q+fuel=ops.size→listed.size=ops.size→(∀k,k<ops.size→listed.getD k true=decide (k<q))→
   wpList P ops Q (ops.toList.drop q) a w→wpAny P .any ops Q fuel listed a w:=by
 intro fuel
 have hmem:∀(q:Nat)(listed:Array Bool),p≤q→(∀k,k<ops.size→listed.getD k true=decide (k<q))→∀j∈Region.ready .any ops listed,j=q∧q<ops.size:=by
  intro q listed hpq hl j hj
  obtain⟨h0,o,ho,hall⟩:=mem_ready.1 hj
  have hlt:j<ops.size:=(Array.getElem?_eq_some_iff.1 ho).1
  have hjq:q≤j:=by
   rw[hl j hlt] at h0
   simpa using h0
  rcases Nat.lt_or_ge q j with hgt|hge
  ·exfalso
   have hq:q∈anc ops j (predsOf ops j):=htail j (by omega) hlt q hgt
   have hdir:∀k∈predsOf ops j,k<q:=λk hk=>by
    have hkj:=hback j hlt k hk
    unfold predsOf at hk
    rw[ho] at hk
    obtain⟨e,he,hon⟩:=List.mem_map.1 hk
    obtain⟨he1,he2⟩:=List.mem_filter.1 he
    have:=hall e (by simpa using he1) he2
    rw[hon] at this
    have h2:=hl k (by omega)
    rcases Nat.lt_or_ge k listed.size with h'|h'
    ·simp[h'] at this h2;rw[this] at h2;simpa using h2.symm
    ·simp[Array.getElem?_eq_none h'] at this
   have:=anc_all (ops:=ops) (T:=λk=>k<q) (λk hk i hi=>Nat.lt_trans (hback k (by omega) i hi) hk) j _ hdir q hq
   omega
  ·exact⟨by omega,by omega⟩
 induction fuel with
 |zero=>
  intro q listed a w hpq hq hsz hl h
  have hqs:q=ops.size:=by omega
  refine⟨?_, ?_⟩
  ·rw[List.eq_nil_iff_forall_not_mem]
   intro j hj
   have:=(hmem q listed hpq hl j hj).2
   omega
  ·rw[hqs,List.drop_of_length_le (by simp)] at h
   exact h
 |succ fuel ih=>
  intro q listed a w hpq hq hsz hl h
  have hqs:q<ops.size:=by omega
  obtain⟨o,ho⟩:∃o,ops[q]? =some o:=⟨_,Array.getElem?_eq_getElem hqs⟩
  refine⟨λhr=> ?_,λi hi=> ?_⟩
  ·exfalso
   have:q∈Region.ready .any ops listed:=by
    rw[mem_ready]
    refine⟨by rw[hl q hqs];simp,o,ho,λe he hb=> ?_⟩
    have hlt:=hback q hqs e.on (by
     unfold predsOf
     rw[ho]
     exact List.mem_map.2 ⟨e,List.mem_filter.2 ⟨by simpa using he,hb⟩,rfl⟩)
    have h3:=hl e.on (by omega)
    have hls:e.on<listed.size:=by omega
    simp[hls] at h3⊢
    rw[h3];simpa using hlt
   rw[hr] at this
   cases this
  ·obtain⟨rfl,_⟩:=hmem q listed hpq hl i hi
   have hd:ops.toList.drop i=o::ops.toList.drop (i+1):=by
    have h1:ops.toList[i]? =some o:=by simpa using ho
    obtain⟨hlt,he⟩:=List.getElem?_eq_some_iff.1 h1
    rw[List.drop_eq_getElem_cons hlt,he]
   rw[hd] at h
   have hset:∀k,k<ops.size→(listed.setIfInBounds i true).getD k true=decide (k<i+1):=by
    intro k hk
    by_cases e:i=k
    ·subst e
     have:i<listed.size:=by omega
     simp[this]
    ·have:=hl k hk
     have hks:k<listed.size:=by omega
     simp[hks,e] at this⊢
     rw[this]
     simp;omega
   have hgo:∀a w,wpList P ops Q (ops.toList.drop (i+1)) a w→wpAny P .any ops Q fuel (listed.setIfInBounds i true) a w:=
    λa w h=>ih (i+1) _ a w (by omega) (by omega) (by simpa using hsz) hset h
   unfold wpOp
   rw[ho]
   unfold wpList at h
   simp only
   split
   ·rename_i hw
    rw[if_pos hw] at h
    exact h.imp (Oper.wp_mono hgo) id
   ·rename_i hw
    rw[if_neg hw] at h
    exact hgo _ _ h
theorem envOf_get{a:Act}(hs:a.tmps.size=n):∀(js:List Nat)(t:Nat),hasK (envOf ops (slotV ops a) js) t=true→a.tmps.getD t undef=lk (envOf ops (slotV ops a) js) t
 |[],t,h=>by simp[envOf,hasK] at h
 |j::r,t,h=>by
  simp only[envOf] at h⊢
  split
  ·rename_i d hd
   simp only[hd,hasK] at h
   simp only[lk]
   cases hb:Nat.beq d t
   ·simp only[hb] at h
    exact envOf_get hs r t h
   ·have:=Nat.eq_of_beq_eq_true hb
    subst this
    simp only[slotV,hd]
  ·rename_i hd
   simp only[hd] at h
   exact envOf_get hs r t h
theorem hasK_append:∀(A B:Env)(t:Nat),hasK (A++B) t=(hasK A t||hasK B t)
 |[],B,t=>by simp[hasK]
 |(s,v)::r,B,t=>by
  simp only[List.cons_append,hasK]
  cases Nat.beq s t
  ·exact hasK_append r B t
  ·simp
theorem lk_append:∀(A B:Env)(t:Nat),lk (A++B) t=if hasK A t=true then lk A t else lk B t
 |[],B,t=>by simp[hasK]
 |(s,v)::r,B,t=>by
  simp only[List.cons_append,hasK,lk]
  by_cases hb:Nat.beq s t=true
  ·simp only[hb];simp
  ·have hb':Nat.beq s t=false:=by cases h:Nat.beq s t<;>first|rfl|exact absurd h hb
   simp only[hb'];exact lk_append r B t
theorem lk_filter(f:Nat→Bool):∀(L:Env)(t:Nat),hasK (L.filter λx=>f x.1) t=true→f t=true∧hasK L t=true∧lk (L.filter λx=>f x.1) t=lk L t
 |[],t,h=>by simp[hasK] at h
 |(s,v)::r,t,h=>by
  rw[List.filter_cons] at h⊢
  cases hf:f s
  ·simp only[hf] at h
   obtain⟨h1,h2,h3⟩:=lk_filter f r t h
   have hne:Nat.beq s t=false:=by
    cases hb:Nat.beq s t
    ·rfl
    ·rw[Nat.eq_of_beq_eq_true hb] at hf;rw[hf] at h1;cases h1
   simp only[hasK,lk,hne]
   exact⟨h1,h2,h3⟩
  ·simp only[hf,if_true] at h⊢
   simp only[hasK,lk] at h⊢
   cases hb:Nat.beq s t
   ·simp only[hb] at h
    obtain⟨h1,h2,h3⟩:=lk_filter f r t h
    exact⟨h1,by simpa using h2,by simpa using h3⟩
   ·exact⟨by rw[←Nat.eq_of_beq_eq_true hb];exact hf,rfl,rfl⟩
structure InvR(P:Program)(n:Nat)(ops:Array Oper)(L:Env)(p:Nat)(E0:World→Prop)(kill:Nat→Nat→Bool)(kl:Nat→Bool)(W0:World→Prop)(S:Nat→World→Value→Prop)(fuel:Nat)(listed:Array Bool)(a:Act)(w:World):Prop where
 sz:listed.size=ops.size
 cnt:listed.toList.count false=fuel
 tail:∀k,p≤k→k<ops.size→listed.getD k true=false
 asz:a.tmps.size=n
 dfr:a.defers=[]
 ext:E0 w
 pre:(∀k,k<p→kl k=true→listed.getD k true=false)→W0 w
 spec:∀j,j<p→listed.getD j true=true→(∀k,k<p→kill k j=true→listed.getD k true=false)→S j w (slotV ops a j)
 clo:∀k,listed.getD k true=true→k<ops.size→∀j∈predsOf ops k,listed.getD j true=true
 old:∀s,hasK L s=true→(∀k,k<p→dstOf ops k=some s→listed.getD k true=false)→a.tmps.getD s undef=lk L s
theorem c_region_kill{c:Code}{a:Act}{w:World}{L:Env}(p:Nat)(E0:World→Prop)(E:Nat→World→World→Prop)(hE1:∀{i a b},E0 a→E i a b→E0 b)(kill:Nat→Nat→Bool)(kl:Nat→Bool)(W0:World→Prop)(hW:∀{i a b},kl i=false→W0 a→E i a b→W0 b)
  (S:Nat→World→Value→Prop) (hS:∀i j w w' v,i<p→j<p→i≠j→kill i j=false→i∉predsOf (regO c) j→S j w v→E i w w'→S j w' v)
  (hkill:∀i,i<p→∀j∈predsOf (regO c) i,∀k,k<p→kill k j=true→k=i∨i∈predsOf (regO c) k) (hm:P.follows .mixedOrders=true)
  (hc:c= .region (regI c) (regO c) true) (hok:relOk (regO c) p=true) (hA:Has a n L)
  (hw0:E0 {w with drawn:=w.drawn+1}) (hw1:W0 {w with drawn:=w.drawn+1})
  (hd:∀j,j<p→∀d,dstOf (regO c) j=some d→d<n)
  (steps:∀i,i<p→∀(V:Nat→Value) a' w',E0 w'→((∀k,k<p→kl k=true→k=i∨i∈predsOf (regO c) k∨∃m∈predsOf (regO c) k,i∈predsOf (regO c) m)→W0 w')→(∀j,j∈predsOf (regO c) i→S j w' (V j))→Has a' n (envOf (regO c) V (predsOf (regO c) i)++extAt (regO c) p i L)→StepR P (regO c) (E i) (S i) Q i a' w')
  (fin:∀(V:Nat→Value) a' w',E0 w'→(∀j,j<p→(∀k,k<p→kill k j=false)→S j w' (V j))→Has a' n (envOf (regO c) V (List.range p)++extOut (regO c) p L)→wpList P (regO c) Q ((regO c).toList.drop p) a' w'):c.wp P Q a w:=by
 rw[hc]
 generalize regO c=ops at*
 simp only[relOk,Bool.and_eq_true] at hok
 obtain⟨⟨⟨hb1,hb2⟩,hb3⟩,hb4⟩:=hok
 have hps:p≤ops.size:=Nat.le_of_ble_eq_true hb4
 have hback:∀i,i<ops.size→∀j∈predsOf ops i,j<i:=λi hi j hj=>by
  have:=List.all_eq_true.1 (List.all_eq_true.1 hb1 i (List.mem_range.2 hi)) j hj
  exact Nat.blt_eq▸this
 have hdist:∀i,i<p→∃d,dstOf ops i=some d∧∀k,k<p→dstOf ops k=some d→k=i:=λi hi=>by
  have h1:=List.all_eq_true.1 hb2 i (List.mem_range.2 hi)
  split at h1
  ·rename_i d hdi
   refine⟨d,hdi,λk hk hkd=> ?_⟩
   have h2:=List.all_eq_true.1 h1 k (List.mem_range.2 hk)
   rw[hkd] at h2
   simp only[show Nat.beq d d=true from Nat.beq_eq▸rfl] at h2
   exact(Nat.eq_of_beq_eq_true h2).symm
  ·cases h1
 have htail:∀j,p≤j→j<ops.size→∀i,i<j→i∈anc ops j (predsOf ops j):=λj hj hjs i hi=>by
  have h1:=List.all_eq_true.1 hb3 j (List.mem_range.2 hjs)
  rw[Nat.ble_eq_true_of_le hj] at h1
  exact memN_iff.1 (List.all_eq_true.1 h1 i (List.mem_range.2 hi))
 have here:∀fuel listed a' w',InvR P n ops L p E0 kill kl W0 S fuel listed a' w'→∀i,i<p→listed.getD i true=false→(∀j∈predsOf ops i,listed.getD j true=true∧j<p)→
   Has a' n (envOf ops (slotV ops a') (predsOf ops i)++extAt ops p i L):=by
  intro fuel listed a' w' inv i hi hun hpr
  refine⟨inv.asz,inv.dfr,λt ht=> ?_⟩
  rw[hasK_append] at ht
  rw[lk_append]
  split
  ·rename_i h1;exact envOf_get inv.asz _ t h1
  ·rename_i h1
   rw[Bool.or_eq_true] at ht
   obtain⟨h2,h3,h4⟩:=lk_filter (λs=>keepsTill ops p i s) L t (ht.resolve_left h1)
   unfold extAt
   rw[h4]
   refine inv.old t h3 λk hk hkd=> ?_
   have h5:=List.all_eq_true.1 h2 k (List.mem_range.2 hk)
   rw[hkd] at h5
   simp only[show Nat.beq t t=true from Nat.beq_eq▸rfl] at h5
   have h6:=memN_iff.1 h5
   cases hlk:listed.getD k true
   ·rfl
   ·exfalso
    have h7:=inv.clo k hlk (by omega) i h6
    rw[hun] at h7
    cases h7
 have hfin:∀listed a' w',InvR P n ops L p E0 kill kl W0 S (ops.size-p) listed a' w'→(∀j,j<p→listed.getD j true=true)→wpAny P .any ops Q (ops.size-p) listed a' w':=by
  intro listed a' w' inv hall
  refine wpAny_tail p htail hback (ops.size-p) p listed a' w' (Nat.le_refl _) (by omega) inv.sz ?_ ?_
  ·intro k hk
   by_cases hkp:k<p
   ·rw[hall k hkp];simp[hkp]
   ·rw[inv.tail k (by omega) hk];simp[hkp]
  ·refine fin (slotV ops a') a' w' inv.ext (λj hj hno=>inv.spec j hj (hall j hj) λk hk hkk=>by rw[hno k hk] at hkk;cases hkk) ⟨inv.asz,inv.dfr,λt ht=> ?_⟩
   rw[hasK_append] at ht
   rw[lk_append]
   split
   ·rename_i h1;exact envOf_get inv.asz _ t h1
   ·rename_i h1
    rw[Bool.or_eq_true] at ht
    obtain⟨h2,h3,h4⟩:=lk_filter (λs=>keepsOut ops p s) L t (ht.resolve_left h1)
    unfold extOut
    rw[h4]
    refine inv.old t h3 λk hk hkd=> ?_
    have h5:=List.all_eq_true.1 h2 k (List.mem_range.2 hk)
    rw[hkd] at h5
    simp only[show Nat.beq t t=true from Nat.beq_eq▸rfl] at h5
    cases h5
 have count_le:∀(l:Array Bool),(∃k,k<l.size∧l.getD k true=false)→0<l.toList.count false:=by
  rintro l ⟨k,hk,hkf⟩
  refine List.count_pos_iff.2 ?_
  have:l[k]=false:=by simpa[hk] using hkf
  rw[←this]
  simp
 have main:∀m listed a' w',InvR P n ops L p E0 kill kl W0 S (m+(ops.size-p)) listed a' w'→wpAny P .any ops Q (m+(ops.size-p)) listed a' w':=by
  intro m
  induction m with
  |zero=>
   intro listed a' w' inv
   rw[Nat.zero_add] at inv⊢
   refine hfin listed a' w' inv λj hj=> ?_
   cases hlj:listed.getD j true
   ·exfalso
    have hc1:=inv.cnt
    have hle:ops.size-p+1≤listed.toList.count false:=by
     have hlen:listed.toList.length=ops.size:=by simpa using inv.sz
     have hsplit:listed.toList.count false=(listed.toList.take p).count false+(listed.toList.drop p).count false:=by
      rw[←List.count_append,List.take_append_drop]
     have h1:(listed.toList.drop p).count false=ops.size-p:=by
      rw[List.count_eq_length.2]
      ·simp[hlen]
      ·intro b hb
       obtain⟨k,hk,hkb⟩:=List.getElem_of_mem hb
       simp only[List.length_drop,hlen] at hk
       have:=inv.tail (p+k) (by omega) (by omega)
       have hlt:p+k<listed.size:=by rw[inv.sz];omega
       simp only[List.getElem_drop] at hkb
       simp[hlt] at this
       rw[←hkb]
       simpa using this.symm
     have h2:0<(listed.toList.take p).count false:=by
      refine List.count_pos_iff.2 ?_
      have hlt:j<listed.size:=by rw[inv.sz];omega
      have hjf:listed[j]=false:=by simpa[hlt] using hlj
      rw[List.mem_take_iff_getElem]
      exact⟨j,by simp;omega,by simpa using hjf⟩
     omega
    omega
   ·rfl
  |succ m ih=>
   intro listed a' w' inv
   have hex:∃j,j<p∧listed.getD j true=false:=by
    refine Classical.byContradiction λhno=> ?_
    have hall:∀j,j<p→listed.getD j true=true:=λj hj=>by
     cases hlj:listed.getD j true
     ·exact absurd ⟨j,hj,hlj⟩ hno
     ·rfl
    have hc1:=inv.cnt
    have hlen:listed.toList.length=ops.size:=by simpa using inv.sz
    have hsplit:listed.toList.count false=(listed.toList.take p).count false+(listed.toList.drop p).count false:=by
     rw[←List.count_append,List.take_append_drop]
    have h1:(listed.toList.drop p).count false≤ops.size-p:=by
     have:=List.count_le_length (a:=false) (l:=listed.toList.drop p)
     simp[hlen] at this
     exact this
    have h2:(listed.toList.take p).count false=0:=by
     refine List.count_eq_zero.2 λhmem=> ?_
     rw[List.mem_take_iff_getElem] at hmem
     obtain⟨k,hk,hkf⟩:=hmem
     have hkp:k<p:=by omega
     have hlt:k<listed.size:=by rw[inv.sz];omega
     have:=hall k hkp
     simp[hlt] at this
     simp at hkf
     rw[this] at hkf
     cases hkf
    omega
   rw[Nat.succ_add]
   refine⟨λhr=> ?_,λi hi=> ?_⟩
   ·exfalso
    obtain⟨j,hj,hjf⟩:=hex
    have:∀k,k≤j→listed.getD k true=false→False:=by
     intro k
     induction k using Nat.strongRecOn with
     |_ k ihk=>
      intro hkj hkf
      obtain⟨o,ho⟩:∃o,ops[k]? =some o:=⟨_,Array.getElem?_eq_getElem (by omega)⟩
      have hk:k∈Region.ready .any ops listed:=by
       rw[mem_ready]
       refine⟨hkf,o,ho,λe he hb=> ?_⟩
       have hlt:=hback k (by omega) e.on (by
        unfold predsOf
        rw[ho]
        exact List.mem_map.2 ⟨e,List.mem_filter.2 ⟨by simpa using he,hb⟩,rfl⟩)
       have hls:e.on<listed.size:=by rw[inv.sz];omega
       cases hle:listed.getD e.on false
       ·exact(ihk e.on hlt (by omega) (by simp[hls] at hle⊢;exact hle)).elim
       ·rfl
      rw[hr] at hk
      cases hk
    exact this j (Nat.le_refl _) hjf
   ·obtain⟨hun,o,ho,hall⟩:=mem_ready.1 hi
    have his:i<ops.size:=(Array.getElem?_eq_some_iff.1 ho).1
    have hpr:∀j∈predsOf ops i,listed.getD j true=true:=λj hj=>by
     unfold predsOf at hj
     rw[ho] at hj
     obtain⟨e,he,hon⟩:=List.mem_map.1 hj
     obtain⟨he1,he2⟩:=List.mem_filter.1 he
     have h1:=hall e (by simpa using he1) he2
     rw[hon] at h1
     have hj2:=hback i his j (by
      unfold predsOf
      rw[ho]
      exact hj)
     have hls:j<listed.size:=by rw[inv.sz];omega
     simp[hls] at h1⊢
     exact h1
    have hip:i<p:=by
     rcases Nat.lt_or_ge i p with h|h
     ·exact h
     ·exfalso
      obtain⟨j,hj,hjf⟩:=hex
      have hcl:∀k,(listed.getD k true=true∧k<ops.size)→∀m∈predsOf ops k,listed.getD m true=true∧m<ops.size:=λk hk m hm=>⟨inv.clo k hk.1 hk.2 m hm,Nat.lt_trans (hback k hk.2 m hm) hk.2⟩
      rw[(anc_all (ops:=ops) hcl i _ (λk hk=>⟨hpr k hk,Nat.lt_trans (hback i his k hk) his⟩) j (htail i h his j (by omega))).1] at hjf
      cases hjf
    have hpp:∀j∈predsOf ops i,listed.getD j true=true∧j<p:=λj hj=>⟨hpr j hj,Nat.lt_trans (hback i his j hj) hip⟩
    have hst:=steps i hip (slotV ops a') a' w' inv.ext (λhbef=>inv.pre λk hk hkl=>by
      rcases hbef k hk hkl with rfl|h|⟨m,hm,h⟩
      ·exact hun
      ·cases hlk:listed.getD k true
       ·rfl
       ·exfalso
        have:=inv.clo k hlk (by omega) i h
        rw[hun] at this
        cases this
      ·cases hlk:listed.getD k true
       ·rfl
       ·exfalso
        have h1:=inv.clo k hlk (by omega) m hm
        have h2:=inv.clo m h1 (Nat.lt_trans (hback k (by omega) m hm) (by omega)) i h
        rw[hun] at h2
        cases h2) (λj hj=>inv.spec j (hpp j hj).2 (hpp j hj).1 λk hk hkk=>by
     rcases hkill i hip j hj k hk hkk with rfl|h
     ·exact hun
     ·cases hlk:listed.getD k true
      ·rfl
      ·exfalso
       have:=inv.clo k hlk (by omega) i h
       rw[hun] at this
       cases this) (here _ _ _ _ inv i hip hun hpp)
    refine wpOp_mono ?_ hst
    rintro a2 w2 ⟨d,v,hdi,rfl,hE,hSv⟩
    refine ih _ _ _ ?_
    have hil:i<listed.size:=by rw[inv.sz];exact his
    have hdn:=hd i hip d hdi
    have hset:∀k,(listed.setIfInBounds i true).getD k true=if i=k then true else listed.getD k true:=λk=>by
     by_cases e:i=k
     ·subst e;simp[hil]
     ·simp[e]
    have hother:∀k,k<p→k≠i→slotV ops (a'.put (some d) v) k=slotV ops a' k:=λk hk hki=>by
     unfold slotV
     cases hdk:dstOf ops k with
     |none=>rfl
     |some d'=>
      have hne:d≠d':=λe=>hki (by
       obtain⟨d0,hd0,huniq⟩:=hdist i hip
       rw[hdi] at hd0
       injection hd0 with hd0
       exact huniq k hk (by rw[hdk,←e,hd0]))
      simp[Act.put,hne]
    refine⟨by simpa using inv.sz, ?_,λk hk hks=> ?_,by simp[Act.put,inv.asz],inv.dfr,hE1 inv.ext hE,λhno=> ?_,λj hj hjl hjk=> ?_,λk hkl hks j hj=> ?_,λs hs hno=> ?_⟩
    ·have hif:listed.toList[i]'(by simpa using hil)=false:=by simpa[hil] using hun
     have hc1:=inv.cnt
     have hcs:=List.count_set (l:=listed.toList) (a:=true) (b:=false) (i:=i) (by simpa using hil)
     rw[hif] at hcs
     rw[Array.toList_setIfInBounds,hcs]
     have e1:(false==false)=true:=rfl
     have e2:(true==false)=false:=rfl
     simp only[e1,e2,if_true]
     rw[if_neg (by simp)]
     omega
    ·rw[hset,if_neg (by omega)]
     exact inv.tail k hk hks
    ·refine hW (i:=i) ?_ (inv.pre λk hk hkk=> ?_) hE
     ·cases hki:kl i
      ·rfl
      ·have:=hno i hip hki
       rw[hset,if_pos rfl] at this
       cases this
     ·have:=hno k hk hkk
      rw[hset] at this
      split at this
      ·cases this
      ·exact this
    ·by_cases e:j=i
     ·subst e
      have:slotV ops (a'.put (some d) v) j=v:=by
       unfold slotV
       rw[hdi]
       have:d<a'.tmps.size:=by rw[inv.asz];exact hdn
       simp[Act.put,this]
      rw[this]
      exact hSv
     ·rw[hother j hj e]
      rw[hset,if_neg (Ne.symm e)] at hjl
      refine hS i j _ _ _ hip hj (Ne.symm e) ?_ ?_ (inv.spec j hj hjl λk hk hkk=> ?_) hE
      ·cases hkij:kill i j
       ·rfl
       ·have:=hjk i hip hkij
        rw[hset,if_pos rfl] at this
        cases this
      ·intro hmem
       have:=inv.clo j hjl (by omega) i hmem
       rw[hun] at this
       cases this
      ·have:=hjk k hk hkk
       rw[hset] at this
       split at this
       ·cases this
       ·exact this
    ·rw[hset] at hkl⊢
     split
     ·rfl
     ·by_cases e:i=k
      ·subst e
       exact hpr j hj
      ·rw[if_neg e] at hkl
       exact inv.clo k hkl hks j hj
    ·have hsd:d≠s:=λe=>by
      have:=hno i hip (by rw[hdi,e])
      rw[hset,if_pos rfl] at this
      cases this
     have:=inv.old s hs (λk hk hkd=>by
      have h1:=hno k hk hkd
      rw[hset] at h1
      split at h1
      ·cases h1
      ·exact h1)
     rw[←this]
     simp[Act.put,hsd]
 refine wp_region_any hm ?_
 have h0:=main p (Array.replicate ops.size false) a {w with drawn:=w.drawn+1} ?_
 ·rwa[show p+(ops.size-p)=ops.size from by omega] at h0
 ·have hrep:∀k,k<ops.size→(Array.replicate ops.size false).getD k true=false:=λk hk=>by simp[hk]
  refine⟨by simp, ?_,λk _ hk=>hrep k hk,hA.size,hA.defers,hw0,λ_=>hw1,λj hj hjl _=> ?_,λk hkl hks=> ?_,λs hs _=>hA.get s hs⟩
  ·simp;omega
  ·rw[hrep j (by omega)] at hjl;cases hjl
  ·rw[hrep k hks] at hkl;cases hkl
structure SpecV where
 p:World→Value→Prop
 mono:∀{w w' v},p w v→Ext w w'→p w' v
 free:Bool
 fr:free=true→∀w w' v,p w v→p w' v
def SpecV.val(v:Value):SpecV:=⟨λ_ x=>x=v,λh _=>h,true,λ_ _ _ _ h=>h⟩
def SpecV.sl{α:Type}{G:GoT α}(l:List α):SpecV:=⟨λw x=>∃a c,x= .slice a l.length c∧RS (G:=G) w a c l,fun⟨a,c,h1,h2⟩ e=>⟨a,c,h1,h2.mono e⟩,false,λh=>by cases h⟩
def SpecV.new(B:Nat)(m:Option Nat)(cs:List Value):SpecV:=⟨λw x=>∃b,x=newVal b m∧B≤b∧Own w b cs,fun⟨b,h1,h2,h3⟩ e=>⟨b,h1,h2,h3.mono e⟩,false,λh=>by cases h⟩
def SpecV.own{α:Type}{F:Flat α}(B e:Nat)(l:List α):SpecV:=⟨λw x=>OwnS (F:=F) w B e x l,λh e=>h.mono e,false,λh=>by cases h⟩
def specAt(S:List SpecV)(i:Nat):SpecV:=S.getD i (SpecV.val undef)
def killB(ops:Array Oper)(S:List SpecV)(ks:List Nat)(k j:Nat):Bool:=memN ks k&&(!(specAt S j).free&&Nat.blt j k)
def alive(ops:Array Oper)(p:Nat)(S:List SpecV)(ks:List Nat)(j:Nat):Bool:=(List.range p).all λk=> !(killB ops S ks k j)
def ksOk(ops:Array Oper)(p:Nat)(S:List SpecV)(ks:List Nat):Bool:=
 ((List.range p).all λi=>(predsOf ops i).all λj=>(List.range p).all λk=>match killB ops S ks k j with
  |true=>Nat.beq k i||memN (predsOf ops k) i
  |false=>true)&&
 ((List.range p).all λi=>match memN ks i with
  |true=>(List.range p).all λj=>Nat.beq i j||((specAt S j).free||(Nat.blt j i||memN (predsOf ops j) i))
  |false=>true)
def Ek(ks:List Nat)(E0:World→Prop)(i:Nat):World→World→Prop:=match memN ks i with
 |true=>λ_ b=>E0 b
 |false=>Ext
theorem Ek_true{ks:List Nat}{E0:World→Prop}{i:Nat}(h:memN ks i=true):Ek ks E0 i=λ_ b=>E0 b:=by unfold Ek;rw[h]
theorem Ek_false{ks:List Nat}{E0:World→Prop}{i:Nat}(h:memN ks i=false):Ek ks E0 i=Ext:=by unfold Ek;rw[h]
def befK(ops:Array Oper)(ks:List Nat)(p i:Nat):Bool:=(List.range p).all λk=>match memN ks k with
 |true=>Nat.beq k i||(memN (predsOf ops k) i||(predsOf ops k).any λm=>memN (predsOf ops m) i)
 |false=>true
theorem befK_sound{ops:Array Oper}{ks:List Nat}{p i:Nat}(h:befK ops ks p i=true):∀k,k<p→memN ks k=true→k=i∨i∈predsOf ops k∨∃m∈predsOf ops k,i∈predsOf ops m:=by
 intro k hk hkk
 have h1:=List.all_eq_true.1 h k (List.mem_range.2 hk)
 rw[hkk] at h1
 simp only[Bool.or_eq_true,List.any_eq_true] at h1
 rcases h1 with h1|h1|⟨m,hm,h1⟩
 ·exact .inl (Nat.eq_of_beq_eq_true h1)
 ·exact .inr (.inl (memN_iff.1 h1))
 ·exact .inr (.inr ⟨m,hm,memN_iff.1 h1⟩)
theorem c_region_ks(ops:Array Oper){c:Code}{a:Act}{w:World}{L:Env}(p j:Nat)(S:List SpecV)(ks:List Nat)(E0:World→Prop)(hE0:∀{a b},E0 a→Ext a b→E0 b)(h00:E0 {w with drawn:=w.drawn+1})(hm:P.follows .mixedOrders=true)
  (hc:c= .region (regI c) ops true) (hok:relOk ops p=true) (hks:ksOk ops p S ks=true) (hj:ops.size=j) (hA:Has a n L)
  (hd:(List.range p).all (λk=>match dstOf ops k with|some d=>Nat.blt d n|none=>true)=true)
  (steps:∀i,i<p→∀(V:Nat→Value) a' w',E0 w'→(befK ops ks p i=true→Ext w w')→(∀j,j∈predsOf ops i→(specAt S j).p w' (V j))→Has a' n (envOf ops V (predsOf ops i)++extAt ops p i L)→StepR P ops (Ek ks E0 i) (specAt S i).p Q i a' w')
  (fin:∀(V:Nat→Value) a' w',E0 w'→(∀j,j<p→alive ops p S ks j=true→(specAt S j).p w' (V j))→Has a' n (envOf ops V (List.range p)++extOut ops p L)→wpList P ops Q (sg ops p j) a' w'):c.wp P Q a w:=by
 have hro:regO c=ops:=by rw[hc];rfl
 subst hro
 unfold ksOk at hks
 rw[Bool.and_eq_true] at hks
 refine c_region_kill p E0 (Ek ks E0) ?_ (killB (regO c) S ks) (memN ks) (Ext w) (λh0 h k=>by rw[Ek_false h0] at k;exact h.trans k) (λj=>(specAt S j).p) ?_ ?_ hm hc hok hA h00 (Ext.drew w) ?_ (λi hi V a' w' h1 hpre h2 h3=>steps i hi V a' w' h1 (λhb=>hpre λk hk hkk=>befK_sound hb k hk hkk) h2 h3) ?_
 ·intro i x y h k
  cases hmem:memN ks i
  ·rw[Ek_false hmem] at k;exact hE0 h k
  ·rw[Ek_true hmem] at k;exact k
 ·intro i j' w1 w2 v hi hj' hne hkf hpr h k
  cases hmem:memN ks i
  ·rw[Ek_false hmem] at k;exact(specAt S j').mono h k
  ·have h1:=List.all_eq_true.1 hks.2 i (List.mem_range.2 hi)
   rw[hmem] at h1
   have h2:=List.all_eq_true.1 h1 j' (List.mem_range.2 hj')
   simp only[Bool.or_eq_true] at h2
   rcases h2 with h2|h2|h2|h2
   ·exact absurd (Nat.eq_of_beq_eq_true h2) hne
   ·exact(specAt S j').fr h2 _ _ _ h
   ·unfold killB at hkf
    rw[hmem,h2] at hkf
    cases hf:(specAt S j').free
    ·rw[hf] at hkf;cases hkf
    ·exact(specAt S j').fr hf _ _ _ h
   ·exact absurd (memN_iff.1 h2) hpr
 ·intro i hi j' hj' k hk hkk
  have h1:=List.all_eq_true.1 (List.all_eq_true.1 (List.all_eq_true.1 hks.1 i (List.mem_range.2 hi)) j' hj') k (List.mem_range.2 hk)
  rw[hkk] at h1
  simp only[Bool.or_eq_true] at h1
  rcases h1 with h1|h1
  ·exact .inl (Nat.eq_of_beq_eq_true h1)
  ·exact .inr (memN_iff.1 h1)
 ·intro k hk d hkd
  have:=List.all_eq_true.1 hd k (List.mem_range.2 hk)
  rw[hkd] at this
  exact Nat.blt_eq▸this
 ·intro V a' w' h1 h2 h3
  have:=fin V a' w' h1 (λj' hj' hal=>h2 j' hj' λk hk=>by
   have:=List.all_eq_true.1 hal k (List.mem_range.2 hk)
   simpa using this) h3
  unfold sg at this
  rw[←hj,List.take_of_length_le (by simp)] at this
  exact this
end
def orV(k:IntKind)(x y:Int):Int:=k.wrap (BitVec.ofInt k.bits x|||BitVec.ofInt k.bits y).toNat
def andV(k:IntKind)(x y:Int):Int:=k.wrap (BitVec.ofInt k.bits x&&&BitVec.ofInt k.bits y).toNat
theorem bindS{α β:Type}{o:Option α}{k:α→Option β}{r:β}(h:o.bind k=some r):∃y,o=some y∧k y=some r:=by
 cases o with
 |none=>cases h
 |some y=>exact⟨y,rfl,h⟩
theorem someI{α:Type}{a b:α}(h:some a=some b):a=b:=by injection h
theorem oneAll{vs:List Value}(h:vs.all Value.oneCell'=true):∀v∈vs,v.oneCell'=true:=λv hv=>List.all_eq_true.1 h v hv
@[reducible] def flat_bool:Flat Bool:=⟨1,λx=>[.bool x],λ_=>rfl,λx=>oneAll rfl⟩
@[reducible] def flat_str:Flat ByteArray:=⟨1,λx=>[.string x],λ_=>rfl,λx=>oneAll rfl⟩
theorem app_some{α:Type}{b:Nat}{l m r:List α}(h:app b l m=some r):room (l.length+m.length) b=true∧r=l++m:=by
 unfold app at h
 split at h
 ·rename_i hr;injection h with h;exact⟨hr,h.symm⟩
 ·cases h
def sub{α:Type}(l:List α)(lo hi:Int):Option (List α):=if 0≤lo∧lo≤hi∧hi≤(l.length:Int) then some ((l.drop lo.toNat).take (hi.toNat-lo.toNat)) else none
theorem RS.sub{α:Type}{G:GoT α}{w:World}{a:Option Addr}{c:Nat}{l m:List α}{lo hi:Int}(h:RS (G:=G) w a c l)(hm:Bur.sub l lo hi=some m):
  (0≤lo∧lo≤hi∧hi≤(c:Int))∧hi.toNat-lo.toNat=m.length∧RS (G:=G) w (slA a lo.toNat c G.sz) (c-lo.toNat) m:=by
 unfold Bur.sub at hm
 split at hm
 ·rename_i hb
  injection hm with hm
  obtain⟨h0,h1,h2⟩:=hb
  have hcap:=h.cap
  have hlen:m.length=hi.toNat-lo.toNat:=by rw[←hm];simp;omega
  refine⟨⟨h0,h1,by omega⟩,hlen.symm,⟨by omega, ?_, ?_⟩⟩
  ·intro hne
   have hl:l≠[]:=by
    intro e;subst e;simp at hm;exact hne hm
   have:=h.some_ hl
   unfold slA
   split
   ·exact this
   ·cases a with
    |none=>exact absurd rfl this
    |some A=>simp
  ·intro i x hx
   have hi':i<m.length:=(List.getElem?_eq_some_iff.1 hx).1
   have hxl:l[lo.toNat+i]? =some x:=by
    rw[←hm,List.getElem?_take] at hx
    split at hx
    ·simpa using hx
    ·cases hx
   obtain⟨e,h3,h4⟩:=h.at_ _ x hxl
   refine⟨e,h3, ?_⟩
   have hcl:c≠lo.toNat:=by omega
   have hA:baseOf (slA a lo.toNat c G.sz)=(baseOf a).add (lo.toNat*G.sz):=by
    unfold slA
    rw[if_neg hcl]
    cases a with
    |none=>exact absurd rfl (h.some_ (by intro e;subst e;simp at hxl))
    |some A=>rfl
   rw[hA,add_add,←Nat.add_mul]
   exact h4
 ·cases hm
def resX(P:Program)(L:Env):List ResultVar→List (List Value)→Option (List Value×List (World→Prop))
 |[],_=>some ([],[])
 | .tmp t::r,vs=>match hasK L t,resX P L r vs with
  |true,some (xs,ps)=>some (lk L t::xs,ps)
  |_,_=>none
 | .cell a t::r,cs::vs=>match hasK L a,lk L a,P.info? t,aggOf P t with
  |true,.pointer (some A),some i,some true=>match Nat.beq cs.length i.size,resX P L r vs with
   |true,some (xs,ps)=>some (.agg cs.toArray::xs,(λw=>CellsAt w A cs)::ps)
   |_,_=>none
  |true,.pointer (some A),some _,some false=>match cs,resX P L r vs with
   |[c],some (xs,ps)=>some (c::xs,(λw=>CellsAt w A [c])::ps)
   |_,_=>none
  |_,_,_,_=>none
 | .cell _ _::_,[]=>none
def resV:List Value→Value
 |[v]=>v
 |vs=> .tuple vs.toArray
theorem resX_run{P:Program}{n:Nat}{a:Act}{w:World}{L:Env}(hA:Has a n L):∀(rs:List ResultVar)(vs:List (List Value))(xs:List Value)(ps:List (World→Prop)),resX P L rs vs=some (xs,ps)→AllP w ps→
  (List.mapM (m:=Sem) (fun(r:ResultVar)=>match r with
   | .tmp t=>(pure (a.tmps.getD t undef):Sem Value)
   | .cell ad t=>do loadVar t (←asAddr (a.tmps.getD ad undef))) rs).run P w= .ok xs w
 |[],vs,xs,ps,h,_=>by
  simp only[resX,Option.some.injEq,Prod.mk.injEq] at h
  obtain⟨rfl,rfl⟩:=h
  simp
 | .tmp t::r,vs,xs,ps,h,hp=>by
  simp only[resX] at h
  split at h
  ·rename_i ys qs hk hr
   simp only[Option.some.injEq,Prod.mk.injEq] at h
   obtain⟨rfl,rfl⟩:=h
   simp only[List.mapM_cons,Sem.run_bind,Sem.run_pure,Result.andThen_ok,resX_run hA r vs ys qs hr hp,hA.get t hk]
  ·cases h
 | .cell ad t::r,[],xs,ps,h,hp=>by simp[resX] at h
 | .cell ad t::r,cs::vs,xs,ps,h,hp=>by
  simp only[resX] at h
  split at h
  ·rename_i A i hk hl hi hagg
   split at h
   ·rename_i ys qs hb hr
    simp only[Option.some.injEq,Prod.mk.injEq] at h
    obtain⟨rfl,rfl⟩:=h
    have hload:=run_load_agg (P:=P) hi hagg (Nat.eq_of_beq_eq_true hb) hp.1
    simp only[Instr.loadAt,Instr.sureAddr,Sem.run_bind,Sem.run_pure,Result.andThen_ok] at hload
    simp only[List.mapM_cons,Sem.run_bind,Sem.run_pure,Result.andThen_ok,hA.get ad hk,hl,show(asAddr (.pointer (some A))).run P w= .ok A w from rfl,hload,resX_run hA r vs ys qs hr hp.2]
   ·cases h
  ·rename_i A i hk hl hi hagg
   split at h
   ·rename_i c ys qs hr
    simp only[Option.some.injEq,Prod.mk.injEq] at h
    obtain⟨rfl,rfl⟩:=h
    have hload:=run_load_one (P:=P) hagg hp.1
    simp only[Instr.loadAt,Instr.sureAddr,Sem.run_bind,Sem.run_pure,Result.andThen_ok] at hload
    simp only[List.mapM_cons,Sem.run_bind,Sem.run_pure,Result.andThen_ok,hA.get ad hk,hl,show(asAddr (.pointer (some A))).run P w= .ok A w from rfl,hload,resX_run hA r vs ys qs hr hp.2]
   ·cases h
  ·cases h
theorem retG{P:Program}{n:Nat}{a:Act}{w:World}{fn:Func}{R:Ending→World→Prop}{L:Env}(hA:Has a n L)(rs:List ResultVar)(vs:List (List Value))(xs:List Value)(ps:List (World→Prop))(hr:fn.results=rs.toArray)
  (hx:resX P L rs vs=some (xs,ps)) (hp:AllP w ps) (h:R (.returned (resV xs)) w):bodyPost P fn R .ret a w:=by
 refine bodyPost_ret (v:=resV xs) ?_ hA.defers h
 have hrun:=resX_run (P:=P) hA rs vs xs ps hx hp
 unfold results
 rw[hr]
 simp only[List.mapM_toArray,Sem.run_bind]
 rw[map_eq_pure_bind,Sem.run_bind]
 have hrun':=hrun
 erw[hrun']
 simp only[Result.andThen_ok,Sem.run_pure]
 congr 1
 cases xs with
 |nil=>rfl
 |cons x r=>
  cases r with
  |nil=>rfl
  |cons y r=>simp[resV]
def eqFs(P:Program)(eq:TypeId→Value→Value→Option Bool)(xs ys:Array Value):List Field→Option Bool
 |[]=>some true
 |f::fs=>match f.name != "_" with
  |true=>match peval P (part f.type xs f.offset),peval P (part f.type ys f.offset) with
   |some a,some b=>match eq f.type a b with
    |some r=>match eqFs P eq xs ys fs with
     |some q=>some (r&&q)
     |none=>none
    |none=>none
   |_,_=>none
  |false=>none
def eqE(P:Program):Nat→TypeId→Value→Value→Option Bool
 |0,_,_,_=>none
 |d+1,t,.int k a,.int k' b=>match P.underlying t with
  |some (.int _)=>match decide (k=k') with
   |true=>some (a==b)
   |false=>none
  |_=>none
 |d+1,t,.bool a,.bool b=>match P.underlying t with
  |some .bool=>some (a==b)
  |_=>none
 |d+1,t,.string a,.string b=>match P.underlying t with
  |some .string=>some (a.toList==b.toList)
  |_=>none
 |d+1,t,.agg xs,.agg ys=>match P.underlying t with
  |some (.struct fs)=>match P.stoodInHeld t with
   |true=>none
   |false=>eqFs P (eqE P d) xs ys fs.toList
  |_=>none
 |_+1,_,_,_=>none
theorem eqE_sound{P:Program}{w:World}:∀(d:Nat)(t:TypeId)(x y:Value)(b:Bool),eqE P d t x y=some b→∀m,(Op.equalIn (m+d) t x y).run P w= .ok b w:=by
 intro d
 induction d with
 |zero=>intro t x y b h;simp[eqE] at h
 |succ d ih=>
  intro t x y b h m
  rw[show m+(d+1)=(m+d)+1 from rfl]
  unfold eqE at h
  split at h
  ·cases h
  ·rename_i d' t k a k' b' he1
   injection he1 with he1;subst he1
   split at h
   ·rename_i kk hu
    split at h
    ·rename_i hk
     obtain rfl:=of_decide_eq_true hk
     obtain rfl:=someI' h
     simp[Op.equalIn,run_underlying hu]
    ·cases h
   ·cases h
  ·rename_i d' t a b' he1
   injection he1 with he1;subst he1
   split at h
   ·rename_i hu
    obtain rfl:=someI' h
    simp[Op.equalIn,run_underlying hu]
   ·cases h
  ·rename_i d' t a b' he1
   injection he1 with he1;subst he1
   split at h
   ·rename_i hu
    obtain rfl:=someI' h
    exact run_equalIn_string w _ _ _ _ hu
   ·cases h
  ·rename_i t _ _ _ _ dd xs ys he1
   injection he1 with he1;subst he1
   split at h
   ·rename_i fs hu
    split at h
    ·cases h
    ·rename_i hs
     have hf:P.fieldsOf t=fs:=by unfold Program.fieldsOf;rw[hu]
     rw[run_equalIn_struct w _ t xs ys (by rw[hf];exact hu) hs,hf]
     clear hf hu
     generalize fs.toList=l at h
     induction l generalizing b with
     |nil=>simp only[eqFs,Option.some.injEq] at h;subst h;rfl
     |cons f fs ihf=>
      unfold eqFs at h
      split at h
      ·rename_i hn
       split at h
       ·rename_i a b' ha hb
        split at h
        ·rename_i r hr
         split at h
         ·rename_i q hq
          obtain rfl:=someI' h
          have hn':f.name≠ "_" :=by simpa using hn
          simp only[Op.eqFields,if_pos hn',Sem.run_bind,peval_sound _ ha w,peval_sound _ hb w,Result.andThen_ok,ih _ _ _ _ hr m,Sem.run_ite,ihf q hq]
          cases r<;>simp
         ·cases h
        ·cases h
       ·cases h
      ·cases h
   ·cases h
  ·cases h
theorem eqOk_eql{P:Program}{t:TypeId}{xs ys:Array Value}{b:Bool}{w:World}(hg:P.eqGuardType P.depth t=false)(h:eqE P 20 t (.agg xs) (.agg ys)=some b):EqOk P .eql t (.agg xs) (.agg ys) (.bool b) w:=by
 intro xo yo
 simp only[Sem.run_bind,run_eqGuard_agg w .eql t xo yo xs ys hg,Result.andThen_ok,run_eql_struct,eqE_sound _ _ _ _ _ h 9980]
theorem eqOk_neq{P:Program}{t:TypeId}{xs ys:Array Value}{b:Bool}{w:World}(hg:P.eqGuardType P.depth t=false)(h:eqE P 20 t (.agg xs) (.agg ys)=some b):EqOk P .neq t (.agg xs) (.agg ys) (.bool (!b)) w:=by
 intro xo yo
 simp only[Sem.run_bind,run_eqGuard_agg w .neq t xo yo xs ys hg,Result.andThen_ok,run_neq_struct,eqE_sound _ _ _ _ _ h 9980]
theorem enc_set{α:Type}{F:Flat α}(x:α):∀(l:List α)(i:Nat),i<l.length→(l.set i x).flatMap F.enc=spl (l.flatMap F.enc) (i*F.sz) (F.enc x)
 |[],i,h=>by simp at h
 |z::r,0,h=>by
  have:F.sz=(F.enc z).length:=(F.len z).symm
  simp only[spl,F.len,List.set_cons_zero,List.flatMap_cons,Nat.zero_mul,List.take_zero,List.nil_append,Nat.zero_add]
  rw[this,List.drop_left]
 |z::r,i+1,h=>by
  have hz:=F.len z
  simp only[List.set_cons_succ,List.flatMap_cons]
  rw[enc_set x r i (by simpa using h)]
  unfold spl
  rw[F.len,Nat.succ_mul,show i*F.sz+F.sz=(F.enc z).length+i*F.sz from by rw[hz,Nat.add_comm],List.take_length_add_append,Nat.add_assoc,List.drop_length_add_append]
  rw[hz,Nat.add_comm F.sz];simp only[List.append_assoc]
theorem spl_length{cs vs:List Value}{k:Nat}(h:k+vs.length≤cs.length):(spl cs k vs).length=cs.length:=by
 unfold spl;simp;omega
theorem spl_take{cs vs:List Value}{k m:Nat}(h:k+vs.length≤m)(hm:m≤cs.length):(spl cs k vs).take m=spl (cs.take m) k vs:=by
 have hl:(cs.take m).length=m:=by simp;omega
 have e:spl cs k vs=spl (cs.take m) k vs++cs.drop m:=by
  conv=>lhs;rw[←List.take_append_drop m cs]
  unfold spl
  rw[List.take_append_of_le_length (by omega),List.drop_append_of_le_length (by omega)]
  simp[List.append_assoc]
 rw[e,List.take_left' (by rw[spl_length (by omega),hl])]
theorem OwnS.rs{α:Type}{F:Flat α}{w:World}{B e n c:Nat}{a:Option Addr}{l:List α}(h:OwnS (F:=F) w B e (.slice a n c) l):RS (G:=Flat.toGoT F) w a c l:=by
 obtain⟨a',c',hv,hr,_⟩:=h.shape
 injection hv with h1 h2 h3
 subst h1 h3
 exact hr
section
variable {P : Program} {n : Nat} {ops : Array Oper} {Q : Exit → Act → World → Prop}
def bltAt(n:Nat)(ops:Array Oper)(L:Env)(i:Nat):Option (Option Nat×Builtin×Array TypeId×TypeId×Array Value):=
 match ops[i]? with
 |some o=>
  match gwant ops L o,o.op.operands.toList.all (knownO L),o.op with
  |some true,true,.call c=>match c.callee with
   | .builtin b=>match(match o.dst with|some d=>Nat.blt d n|none=>true) with
    |true=>some (o.dst,b,c.argTypes,o.type,(c.args.toList.map (evL L)).toArray)
    |false=>none
   |_=>none
  |_,_,_=>none
 |none=>none
theorem wl_blt(i:Nat){j:Nat}(hij:Nat.blt i j=true){a:Act}{L:Env}{w w':World}{d:Option Nat}{b:Builtin}{ts:Array TypeId}{ty:TypeId}{vs:Array Value}{v:Value}(hA:Has a n L)(h:bltAt n ops L i=some (d,b,ts,ty,vs))
  (hr:∀cs,(builtin b ts ty cs vs).run P w= .ok (.value v) w')
  (hK:∀a',Has a' n (upd L d v)→wpList P ops Q (sg ops (i+1) j) a' w'):wpList P ops Q (sg ops i j) a w:=by
 unfold bltAt at h
 split at h
 ·rename_i o ho
  rw[sg_at ho hij]
  split at h
  ·rename_i c hgd hk hop
   split at h
   ·rename_i b1 hf
    split at h
    ·rename_i hd
     simp only[Option.some.injEq,Prod.mk.injEq] at h
     obtain⟨rfl,rfl,rfl,rfl,rfl⟩:=h
     have hs:noSel o.op=true:=by rw[hop];rfl
     refine wpList_do (gwant_sound hA hgd) (v:=v) (w':=w') ?_ (hK _ ?_)
     ·rw[exec_eq hA hs hk]
      have hargs:c.args.map (evL L)=(c.args.toList.map (evL L)).toArray:=by rw[←Array.toList_map,Array.toArray_toList]
      simp only[execOp,hop,resolve,hf,Sem.run_bind,Sem.run_pure,Result.andThen_ok,invoke,hargs]
      exact hr _
     ·cases hdst:o.dst with
      |none=>simpa[upd,Act.put] using hA
      |some d=>
       rw[hdst] at hd
       exact hA.put (Nat.blt_eq▸hd) v
    ·cases h
   ·cases h
  ·cases h
 ·cases h
end
theorem run_copy_own{P:Program}{w:World}{dT sT ty e:TypeId}{inf:TypeInfo}{g o dLen dCap sLen sCap:Nat}{a:Addr}{T:TypeId}{cur:Array Value}{cs:List Value}
  (hu:P.underlying dT=some (.slice e)) (hi:P.info? e=some inf) (hg:w.heap[g]? =some (.cells cur T (0,0)))
  (hn:cs.length=Nat.min sLen dLen*inf.size) (hsrc:CellsAt w a cs) (hfit:o+cs.length≤cur.size) (h1:∀v∈cs,v.oneCell'=true):
  (Builtin.copy_ #[dT,sT] ty #[.slice (some ⟨g,o,none⟩) dLen dCap,.slice (some a) sLen sCap]).run P w=
   .ok (goInt (Nat.min sLen dLen)) (w.setRow g (spl cur.toList o cs).toArray):=by
 have hl:=run_loadCells_list (P:=P) w a cs hsrc
 have hst:=run_storeCells_at P g o T cs 0 cur w hg hfit h1
 simp[Builtin.copy_,run_underlying hu,Builtin.lenOf,Builtin.firstCells,sizeOf,typeInfo,hi,←hn,hl,hst,spl]
theorem eqOk_nil{P:Program}{t e:TypeId}{a:Option Addr}{n c:Nat}{w:World}(hu:P.underlying t=some (.slice e)):EqOk P .eql t (.slice a n c) (.slice none 0 0) (.bool a.isNone) w:=by
 intro xo yo
 have h:∀d,(Op.equalIn (d+1) t (.slice a n c) (.slice none 0 0)).run P w= .ok a.isNone w:=λd=>by
  cases a<;>simp[Op.equalIn,run_underlying hu]
 have hb:(binOp .eql t (.slice a n c) (.slice none 0 0):Sem Value)=(do pure (.bool (←Op.equalIn (9999+1) t (.slice a n c) (.slice none 0 0)))):=rfl
 have hg:eqGuard .eql t xo yo (.slice a n c) (.slice none 0 0)=pure ():=rfl
 rw[hg,hb]
 simp only[Sem.run_bind,Sem.run_pure,Result.andThen_ok,h]
theorem flat_take{α:Type}{F:Flat α}:∀(l:List α)(i:Nat),(l.take i).flatMap F.enc=(l.flatMap F.enc).take (i*F.sz)
 |[],i=>by simp
 |z::r,0=>by simp
 |z::r,i+1=>by
  have hz:=F.len z
  rw[List.take_succ_cons,List.flatMap_cons,List.flatMap_cons,flat_take r i,Nat.succ_mul,Nat.add_comm (i*F.sz),←hz,List.take_length_add_append]
theorem flat_drop{α:Type}{F:Flat α}:∀(l:List α)(i:Nat),(l.drop i).flatMap F.enc=(l.flatMap F.enc).drop (i*F.sz)
 |[],i=>by simp
 |z::r,0=>by simp
 |z::r,i+1=>by
  have hz:=F.len z
  rw[List.drop_succ_cons,List.flatMap_cons,flat_drop r i,Nat.succ_mul,Nat.add_comm (i*F.sz),←hz,List.drop_length_add_append]
theorem slA_zero{g c sz:Nat}:slA (some ⟨g,0,none⟩) 0 c sz=some ⟨g,0,none⟩:=by
 unfold slA
 split
 ·rfl
 ·simp[addr_add0]
theorem setRow_grown{w:World}{g:Nat}{cs:Array Value}:w.grownBy (w.setRow g cs) (some g):=
 ⟨rfl,rfl,rfl,by simp,λk' _ hk'=>setRow_other w g k' _ (λe=>hk' (by rw[e]))⟩
end Go.Bur
