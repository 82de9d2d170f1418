import Derived.Test.YtchocpffjnodfaaGreatSt
namespace Go.Bur
open Go.RowKit
set_option linter.unusedVariables false
set_option linter.unusedSimpArgs false
theorem Sy.put{C:Cx}{n:Nat}{a:Act}{w:World}{L:Env}{As:List Asn}{Ps:List (World→Prop)}(h:Sy C n a w L As Ps){d:Nat}(hd:d<n)(v:Value):Sy C n (a.put (some d) v) w ((d,v)::L) As Ps:=
 ⟨h.has.put hd v,h.st,h.keep,h.old⟩
theorem Sy.ext{C:Cx}{n:Nat}{a:Act}{w w':World}{L:Env}{As:List Asn}{Ps:List (World→Prop)}(h:Sy C n a w L As Ps)(e:Ext w w'):Sy C n a w' L As Ps:=
 ⟨h.has,h.st.ext e,h.keep.step (Keep.ofExt (F:=[]) e) (by simp),h.old⟩
theorem Sy.new{C:Cx}{n:Nat}{a:Act}{w w':World}{L:Env}{As:List Asn}{Ps:List (World→Prop)}(h:Sy C n a w L As Ps)(e:Ext w w'){A:Asn}(hA:A.holds w')(hf:∀b∈A.fp,w.heap.size≤b∧b<w'.heap.size)(hn:A.fp.Nodup):Sy C n a w' L (A::As) Ps:=
 ⟨h.has,h.st.new e hA hf hn,h.keep.step (Keep.ofExt (F:=[]) e) (by simp),λb hb=>by
  rw[fps_cons,List.mem_append] at hb
  rcases hb with hb|hb
  ·exact .inr (Nat.le_trans h.keep.size (hf b hb).1)
  ·exact h.old b hb⟩
theorem Sy.set0{C:Cx}{n:Nat}{a:Act}{w w':World}{L:Env}{A B:Asn}{As:List Asn}{Ps:List (World→Prop)}(h:Sy C n a w L (A::As) Ps)(hk:Keep A.fp w w')(hB:B.holds w')(hf:∀b∈B.fp,b∈A.fp∨(w.heap.size≤b∧b<w'.heap.size))(hn:B.fp.Nodup):Sy C n a w' L (B::As) Ps:=
 ⟨h.has,h.st.set hk hB hf hn,h.keep.step hk λx hx=>h.old x (by rw[fps_cons];simp[hx]),λb hb=>by
  rw[fps_cons,List.mem_append] at hb
  rcases hb with hb|hb
  ·rcases hf b hb with h1|h1
   ·exact h.old b (by rw[fps_cons];simp[h1])
   ·exact .inr (Nat.le_trans h.keep.size h1.1)
  ·exact h.old b (by rw[fps_cons];simp[hb])⟩
theorem Sy.perm{C:Cx}{n:Nat}{a:Act}{w:World}{L:Env}{As Bs:List Asn}{Ps:List (World→Prop)}(h:Sy C n a w L As Ps)(hp:As.Perm Bs):Sy C n a w L Bs Ps:=
 ⟨h.has,h.st.perm hp,h.keep,λb hb=>h.old b ((fps_perm hp).mem_iff.2 hb)⟩
theorem Sy.sub{C:Cx}{n:Nat}{a:Act}{w:World}{L:Env}{As Bs:List Asn}{Ps Qs:List (World→Prop)}(h:Sy C n a w L (As++Bs) Ps)(hq:∀q∈Qs,q∈Ps):Sy C n a w L As Qs:=
 ⟨h.has,h.st.sub hq,h.keep,λb hb=>h.old b (by rw[fps_append];exact List.mem_append_left _ hb)⟩
theorem set_perm{A:Asn}:∀{As:List Asn} {k:Nat},As[k]? =some A→∀B,(As.set k B).Perm (B::As.eraseIdx k)∧As.Perm (A::As.eraseIdx k)
 |[],k,h,B=>by simp at h
 |x::r,0,h,B=>by
  simp only[List.getElem?_cons_zero,Option.some.injEq] at h
  subst h
  exact⟨List.Perm.refl _,List.Perm.refl _⟩
 |x::r,k+1,h,B=>by
  simp only[List.getElem?_cons_succ] at h
  obtain⟨h1,h2⟩:=set_perm h B
  simp only[List.set_cons_succ,List.eraseIdx_cons_succ]
  exact⟨(h1.cons x).trans (List.Perm.swap _ _ _),(h2.cons x).trans (List.Perm.swap _ _ _)⟩
theorem Sy.set{C:Cx}{n:Nat}{a:Act}{w w':World}{L:Env}{A B:Asn}{As:List Asn}{Ps:List (World→Prop)}{k:Nat}(h:Sy C n a w L As Ps)(hA:As[k]? =some A)(hk:Keep A.fp w w')(hB:B.holds w')(hf:∀b∈B.fp,b∈A.fp∨(w.heap.size≤b∧b<w'.heap.size))(hn:B.fp.Nodup):Sy C n a w' L (As.set k B) Ps:=by
 obtain⟨h1,h2⟩:=set_perm hA B
 exact((h.perm h2).set0 hk hB hf hn).perm h1.symm
inductive Hint where
 |own (k off:Nat)
 |row (k:Nat) (cs:List Value)
 |ext (cs:List Value)
 |put (k:Nat) (B:Asn)
 |val (v:Value)
 |as (d:Nat) (v:Value)
def AllB(F:List Nat)(w:World):List (World→Prop)→Prop
 |[]=>True
 |p::r=>Bx F w p∧AllB F w r
theorem Bx.c{F:List Nat}{w:World}{p:Prop}(h:p):Bx F w (λ_=>p):=λ_ _=>h
theorem AllB_append{F:List Nat}{w:World}:∀(a b:List (World→Prop)),AllB F w (a++b)→AllB F w a∧AllB F w b
 |[],_,h=>⟨trivial,h⟩
 |_::r,b,h=>let⟨h1,h2⟩:=AllB_append r b h.2;⟨⟨h.1,h1⟩,h2⟩
theorem AllB.at{F:List Nat}{w w':World}(k:Keep F w w'):∀{l:List (World→Prop)},AllB F w l→AllP w' l
 |[],_=>trivial
 |_::_,h=>⟨h.1 w' k,AllB.at k h.2⟩
def LoadOk(A:Asn)(p:Addr)(cs:List Value):Prop:=∀w,A.holds w→CellsAt w p cs
structure PutOk(A B:Asn)(p:Addr)(vs:List Value):Prop where
 fp:B.fp=A.fp
 nd:A.fp.Nodup
 one:∀v∈vs,v.oneCell'=true
 ok:∀w,A.holds w→∃b k T cur,b∈A.fp∧p=(⟨b,0,none⟩:Addr).add k∧w.heap[b]? =some (.cells cur T (0,0))∧k+vs.length≤cur.size∧
  ∀w',w'.heap[b]? =some (.cells (spl cur.toList k vs).toArray T (0,0))→(∀x∈A.fp,x≠b→w'.heap[x]? =w.heap[x]?)→B.holds w'
def loadV(P:Program)(t:TypeId)(cs:List Value):Option Value:=
 match aggOf P t,P.info? t with
 |some true,some i=>match Nat.beq cs.length i.size with
  |true=>some (.agg cs.toArray)
  |false=>none
 |some false,some _=>match cs with
  |[c]=>some c
  |_=>none
 |_,_=>none
def hv:List Hint→List (List Value)
 | .val v::_=>[[v]]
 |_=>[]
def hdrop(hs:List Hint)(vs':List (List Value)):List Hint:=
 match hs,vs' with
 | .val _::r,[]=>r
 |hs,_=>hs
def isLoad:Op→Option (TypeId×Operand)
 | .load t x=>some (t,x)
 |_=>none
def valH(P:Program)(L:Env)(As:List Asn)(hs:List Hint)(o:Oper):Option (Value×List Hint×List (World→Prop)):=
 match isLoad o.op with
 |some (t,x)=>match evL L x,hs with
  | .pointer (some A),.own k off::hs'=>match As[k]?,P.info? t with
   |some (.box b cs),some i=>match loadV P t ((cs.drop off).take i.size) with
    |some v=>some (v,hs',[λ_=>A=(⟨b,0,none⟩:Addr).add off])
    |none=>none
   |_,_=>none
  | .pointer (some A),.row k cs::hs'=>match As[k]?,loadV P t cs with
   |some B,some v=>some (v,hs',[λ_=>LoadOk B A cs])
   |_,_=>none
  | .pointer (some A),.ext cs::hs'=>match loadV P t cs with
   |some v=>some (v,hs',[λw=>CellsAt w A cs])
   |none=>none
  |_,_=>none
 |none=>match exec1 P L (hv hs) o with
  |some (v,vs',ps)=>some (v,hdrop hs vs',ps)
  |none=>none
def asH(o:Oper)(x:Value×List Hint×List (World→Prop)):Value×List Hint×List (World→Prop):=
 match x,o.dst with
 |(v,.as d u::hs,ps),some d'=>match Nat.beq d d' with
  |true=>(u,hs,ps++[fun(_:World)=>v=u])
  |false=>(v,.as d u::hs,ps)
 |x,_=>x
def valA(P:Program)(L:Env)(As:List Asn)(hs:List Hint)(o:Oper):Option (Value×List Hint×List (World→Prop)):=
 match valH P L As hs o with
 |some x=>some (asH o x)
 |none=>none
def newAsn(P:Program)(b:Nat)(m:Option Nat)(cs:List Value)(T:TypeId):Option Asn:=
 match m with
 |none=>some (.box b cs)
 |some len=>match P.info? T with
  |some i=>match Nat.beq cs.length (len*i.size),Nat.ble len (2^24) with
   |true,true=>some (.row (some ⟨b,0,none⟩) len T i.size len cs)
   |_,_=>none
  |none=>none
def isStore:Op→Option (TypeId×Operand×Operand)
 | .store t x v=>some (t,x,v)
 |_=>none
def isNew:Op→Bool
 | .alloc _| .box _ _| .buildSlice _ _ _=>true
 |_=>false
def stepH(P:Program)(n:Nat)(ops:Array Oper)(o:Oper)(L:Env)(As:List Asn)(bs:List Nat)(hs:List Hint):Option (Env×List Asn×List Nat×List Hint×List (World→Prop)):=
 match gwant ops L o with
 |none=>none
 |some false=>match o.dst with
  |some d=>match Nat.blt d n with
   |true=>some ((d,undef)::L,As,bs,hs,[])
   |false=>none
  |none=>some (L,As,bs,hs,[])
 |some true=>match noSel o.op,o.op.operands.toList.all (knownO L) with
  |true,true=>match isStore o.op with
   |some (t,x,v)=>match o.dst,evL L x,P.info? t with
    |none,.pointer (some A),some i=>match Nat.beq (evL L v).cells.size i.size,hs with
     |true,.own k off::hs'=>match As[k]? with
      |some (.box b cs)=>match Nat.ble (off+i.size) cs.length with
       |true=>some (L,As.set k (.box b (spl cs off (evL L v).cells.toList)),bs,hs',[λ_=>A=(⟨b,0,none⟩:Addr).add off,λ_=>∀u∈(evL L v).cells.toList,u.oneCell'=true])
       |false=>none
      |_=>none
     |true,.put k B::hs'=>match As[k]? with
      |some A0=>some (L,As.set k B,bs,hs',[λ_=>PutOk A0 B A (evL L v).cells.toList])
      |none=>none
     |_,_=>none
    |_,_,_=>none
   |none=>match isNew o.op with
    |true=>match o.dst,newOp P L o.op,bs with
     |some d,some (m,cs,T),b::bs'=>match Nat.blt d n,newAsn P b m cs T with
      |true,some A=>some ((d,newVal b m)::L,A::As,bs',hs,[])
      |_,_=>none
     |_,_,_=>none
    |false=>match o.dst,valA P L As hs o with
     |some d,some (v,hs',ps)=>match Nat.blt d n with
      |true=>some ((d,v)::L,As,bs,hs',ps)
      |false=>none
     |_,_=>none
  |_,_=>none
def runH(P:Program)(n:Nat)(ops:Array Oper)(ks:List Nat):List Oper→Env→List Asn→List Nat→List Hint→Option (Env×List Asn×List (World→Prop))
 |[],L,As,bs,hs=>match bs,hs,ks.all (hasK L) with
  |[],[],true=>some (ks.map λk=>(k,lk L k),As,[])
  |_,_,_=>none
 |o::r,L,As,bs,hs=>match stepH P n ops o L As bs hs with
  |some (L',As',bs',hs',ps)=>match runH P n ops ks r L' As' bs' hs' with
   |some (L2,A2,ob)=>some (L2,A2,ps++ob)
   |none=>none
  |none=>none
section
variable {P : Program} {ops : Array Oper} {Q : Exit → Act → World → Prop} {C : Cx} {n : Nat} {Ps : List (World → Prop)}
theorem loadV_run{t:TypeId}{A:Addr}{cs:List Value}{v:Value}{w:World}(h:loadV P t cs=some v)(hc:CellsAt w A cs):(Instr.loadAt t (.pointer (some A))).run P w= .ok v w:=by
 unfold loadV at h
 split at h
 ·rename_i i ha hi
  split at h
  ·rename_i hb
   obtain rfl:=someI' h
   exact run_load_agg hi ha (Nat.eq_of_beq_eq_true hb) hc
  ·cases h
 ·rename_i i ha hi
  split at h
  ·obtain rfl:=someI' h
   exact run_load_one ha hc
  ·cases h
 ·cases h
theorem own_sub{w:World}{b off m:Nat}{cs:List Value}(h:Own w b cs):CellsAt w ((⟨b,0,none⟩:Addr).add off) ((cs.drop off).take m):=h.cells.sub off m
theorem valH_sound{L:Env}{As:List Asn}{hs hs':List Hint}{o:Oper}{v:Value}{ps:List (World→Prop)}{a:Act}{w:World}
  (h:valH P L As hs o=some (v,hs',ps)) (hsel:noSel o.op=true) (hp:AllP w ps) (hA:∀A∈As,A.holds w) (ha:∀x∈o.op.operands,a.eval x=evL L x):
  (execOp a.eval o).run P w= .ok (.value v) w:=by
 unfold valH at h
 split at h
 ·rename_i t x hl
  have hop:o.op= .load t x:=by
   cases ho:o.op<;>rw[ho] at hl<;>first|(simp[isLoad] at hl;done)|(simp only[isLoad,Option.some.injEq,Prod.mk.injEq] at hl;obtain⟨rfl,rfl⟩:=hl;rfl)
  have key:∀A cs,evL L x= .pointer (some A)→CellsAt w A cs→loadV P t cs=some v→(execOp a.eval o).run P w= .ok (.value v) w:=by
   intro A cs hx hc hv
   have hx':a.eval x= .pointer (some A):=by rw[ha x (by rw[hop];simp[Op.operands]),hx]
   obtain⟨dst,op,type,pos,after,guard⟩:=o
   simp only at hop
   subst hop
   simp only[execOp,hx',Sem.run_bind,loadV_run hv hc,Result.andThen_ok,Sem.run_pure]
  split at h
  ·rename_i A k off hs1 hx
   split at h
   ·rename_i b cs i hk hi
    split at h
    ·rename_i v1 hv
     simp only[Option.some.injEq,Prod.mk.injEq] at h
     obtain⟨rfl,rfl,rfl⟩:=h
     have hA1:A=_:=hp.1
     refine key _ _ hx ?_ hv
     rw[hA1]
     exact own_sub (hA _ (List.mem_of_getElem? hk))
    ·cases h
   ·cases h
  ·rename_i A k cs hs1 hx
   split at h
   ·rename_i B v1 hk hv
    simp only[Option.some.injEq,Prod.mk.injEq] at h
    obtain⟨rfl,rfl,rfl⟩:=h
    exact key _ _ hx (hp.1 w (hA _ (List.mem_of_getElem? hk))) hv
   ·cases h
  ·rename_i A cs hs1 hx
   split at h
   ·rename_i v1 hv
    simp only[Option.some.injEq,Prod.mk.injEq] at h
    obtain⟨rfl,rfl,rfl⟩:=h
    exact key _ _ hx hp.1 hv
   ·cases h
  ·cases h
 ·split at h
  ·rename_i v1 vs' ps1 hx
   simp only[Option.some.injEq,Prod.mk.injEq] at h
   obtain⟨rfl,rfl,rfl⟩:=h
   exact exec1_sound hx hsel hp ha
  ·cases h
theorem valA_sound{L:Env}{As:List Asn}{hs hs':List Hint}{o:Oper}{v:Value}{ps:List (World→Prop)}{a:Act}{w:World}
  (h:valA P L As hs o=some (v,hs',ps)) (hsel:noSel o.op=true) (hp:AllP w ps) (hA:∀A∈As,A.holds w) (ha:∀x∈o.op.operands,a.eval x=evL L x):
  (execOp a.eval o).run P w= .ok (.value v) w:=by
 unfold valA at h
 split at h
 ·rename_i x hx
  have h:=someI' h
  obtain⟨v0,hs0,ps0⟩:=x
  have plain:(v0,hs0,ps0)=(v,hs',ps)→(execOp a.eval o).run P w= .ok (.value v) w:=λe=>by
   simp only[Prod.mk.injEq] at e
   obtain⟨rfl,rfl,rfl⟩:=e
   exact valH_sound hx hsel hp hA ha
  unfold asH at h
  split at h
  ·rename_i v1 d u hs1 ps1 d' he hd
   simp only[Prod.mk.injEq] at he
   obtain⟨rfl,rfl,rfl⟩:=he
   split at h
   ·simp only[Prod.mk.injEq] at h
    obtain⟨rfl,rfl,rfl⟩:=h
    obtain⟨h1,h2⟩:=AllP_append _ _ hp
    have e:v0=u:=h2.1
    rw[←e]
    exact valH_sound hx hsel h1 hA ha
   ·exact plain h
  ·exact plain h
 ·cases h
theorem store_run{o:Oper}{t:TypeId}{x v:Operand}{L:Env}{a:Act}{w:World}{b k:Nat}{T:TypeId}{cur:Array Value}{i:TypeInfo}(hop:o.op= .store t x v)(hA:Has a n L)(hk:o.op.operands.toList.all (knownO L)=true)
  (hx:evL L x= .pointer (some ((⟨b,0,none⟩:Addr).add k))) (hi:P.info? t=some i) (hsz:Nat.beq (evL L v).cells.size i.size=true) (hT:w.heap[b]? =some (.cells cur T (0,0))) (hle:k+(evL L v).cells.toList.length≤cur.size)
  (h1:∀u∈(evL L v).cells.toList,u.oneCell'=true):(execOp a.eval o).run P w= .ok .skip (w.setRow b (spl cur.toList k (evL L v).cells.toList).toArray):=by
 have hks:knownO L x=true:=List.all_eq_true.1 hk x (by rw[hop];simp[Op.operands])
 have hkv:knownO L v=true:=List.all_eq_true.1 hk v (by rw[hop];simp[Op.operands])
 obtain⟨dst,op,type,pos,after,guard⟩:=o
 simp only at hop
 subst hop
 have hst:=run_storeCells_at (P:=P) b k T (evL L v).cells.toList 0 cur w hT (by simpa using hle) h1
 simp only[Nat.add_zero] at hst
 simp only[execOp,hA.eval hks,hA.eval hkv,hx,Sem.run_bind,Instr.storeAt,Instr.sureAddr,Sem.run_pure,Result.andThen_ok,storeVar,sizeOf,run_info hi]
 rw[if_neg (by simpa using Nat.eq_of_beq_eq_true hsz),addr_add0,hst]
 simp[spl]
theorem newAsn_ok{w:World}{m:Option Nat}{cs:List Value}{T:TypeId}{A:Asn}(h:newAsn P w.heap.size m cs T=some A):
  A.holds (w.alloc (.cells cs.toArray T))∧A.fp=[w.heap.size]:=by
 unfold newAsn at h
 split at h
 ·obtain rfl:=someI' h
  exact⟨⟨T,heap_alloc_new w _⟩,rfl⟩
 ·rename_i len
  split at h
  ·rename_i i hi
   split at h
   ·rename_i h1 h2
    obtain rfl:=someI' h
    have h1:=Nat.eq_of_beq_eq_true h1
    have h2:=Nat.le_of_ble_eq_true h2
    refine⟨⟨h1,.inr ⟨w.heap.size,len,cs.toArray,rfl,Nat.zero_le _,heap_alloc_new w _,Nat.le_refl _, ?_,by simpa using h1, ?_⟩⟩,rfl⟩
    ·simp only[maxLen];omega
    ·rw[List.toList_toArray,←h1,List.take_length]
   ·cases h
  ·cases h
theorem wpList_skip'{o:Oper}{rest:List Oper}{a:Act}{w w':World}(hd:o.dst=none)(hw:Region.wanted o (yielded ops a.tmps)=true)
  (hr:(execOp a.eval o).run P w= .ok .skip w') (h:wpList P ops Q rest a w'):wpList P ops Q (o::rest) a w:=by
 unfold wpList
 rw[if_pos hw]
 refine .inl ?_
 simp only[Oper.wp,hr,Oper.upon]
 simpa[hd,Act.put] using h
theorem stepH_sound{F:List Nat}{ws:World}{o:Oper}{L L':Env}{As As':List Asn}{bs bs':List Nat}{hs hs':List Hint}{ps:List (World→Prop)}{a:Act}{w:World}{rest:List Oper}
  (h:stepH P n ops o L As bs hs=some (L',As',bs',hs',ps)) (hp:AllB F ws ps) (hS:Sy C n a w L As Ps) (hk:Keep F ws w) (hold:∀b∈fps As,b∈F∨ws.heap.size≤b) (hbs:bs=List.range' w.heap.size bs.length)
  (hK:∀a' w',Sy C n a' w' L' As' Ps→Keep F ws w'→(∀b∈fps As',b∈F∨ws.heap.size≤b)→bs'=List.range' w'.heap.size bs'.length→wpList P ops Q rest a' w'):wpList P ops Q (o::rest) a w:=by
 unfold stepH at h
 have hA:=hS.has
 split at h
 ·cases h
 ·rename_i hg
  have hw:=gwant_sound hA hg
  split at h
  ·rename_i d hd
   split at h
   ·rename_i hlt
    simp only[Option.some.injEq,Prod.mk.injEq] at h
    obtain⟨rfl,rfl,rfl,rfl,rfl⟩:=h
    exact wpList_skip hw (by rw[hd];exact hK _ w (hS.put (Nat.blt_eq▸hlt) undef) hk hold hbs)
   ·cases h
  ·rename_i hd
   simp only[Option.some.injEq,Prod.mk.injEq] at h
   obtain⟨rfl,rfl,rfl,rfl,rfl⟩:=h
   exact wpList_skip hw (by rw[hd];exact hK _ w hS hk hold hbs)
 ·rename_i hg
  have hw:=gwant_sound hA hg
  split at h
  ·rename_i hsel hkn
   have hP:=AllB.at hk hp
   split at h
   ·rename_i t x v hst
    have hop:o.op= .store t x v:=by
     cases ho:o.op<;>rw[ho] at hst<;>first|(simp[isStore] at hst;done)|(simp only[isStore,Option.some.injEq,Prod.mk.injEq] at hst;obtain⟨rfl,rfl,rfl⟩:=hst;rfl)
    split at h
    ·rename_i A i hdst hx hi
     split at h
     ·rename_i k off hs1 hsz
      split at h
      ·rename_i b cs hkA
       split at h
       ·rename_i hle
        simp only[Option.some.injEq,Prod.mk.injEq] at h
        obtain⟨rfl,rfl,rfl,rfl,rfl⟩:=h
        have hA1:A=_:=hP.1
        have h1:=hP.2.1
        have hle:=Nat.le_of_ble_eq_true hle
        obtain⟨T,hT⟩:Own w b cs:=hS.st.own _ (List.mem_of_getElem? hkA)
        have hsz':=Nat.eq_of_beq_eq_true hsz
        have hrun:=store_run (P:=P) (a:=a) hop hA hkn (by rw[hx,hA1]) hi hsz hT (by simp[hsz'];simpa using hle) h1
        refine wpList_skip' hdst hw hrun ?_
        have hkeep:Keep [b] w (w.setRow b (spl cs off (evL L v).cells.toList).toArray):=Keep.grown setRow_grown (λc e=>by injection e with e;simp[e])
        refine hK _ _ (hS.set hkA hkeep ⟨T,setRow_heap w b _ _ T (0,0) hT⟩ (λc hc=> .inl hc) (by simp[Asn.fp])) (hk.step hkeep λx hx=>hold x (mem_fps.2 ⟨_,List.mem_of_getElem? hkA,hx⟩)) (λx hx=>hold x ?_) (by simpa using hbs)
        have h2:=(set_perm hkA (.box b (spl cs off (evL L v).cells.toList)))
        rw[(fps_perm h2.1).mem_iff,fps_cons] at hx
        rw[(fps_perm h2.2).mem_iff,fps_cons]
        exact hx
       ·cases h
      ·cases h
     ·rename_i k B hs1 hsz
      split at h
      ·rename_i A0 hkA
       simp only[Option.some.injEq,Prod.mk.injEq] at h
       obtain⟨rfl,rfl,rfl,rfl,rfl⟩:=h
       obtain⟨hfp,hnd,h1,hok⟩:PutOk A0 B A (evL L v).cells.toList:=hP.1
       obtain⟨b,kk,T,cur,hb,hA1,hT,hle,hB⟩:=hok w (hS.st.own _ (List.mem_of_getElem? hkA))
       have hrun:=store_run (P:=P) (a:=a) hop hA hkn (by rw[hx,hA1]) hi hsz hT hle h1
       refine wpList_skip' hdst hw hrun ?_
       have hkeep:Keep A0.fp w (w.setRow b (spl cur.toList kk (evL L v).cells.toList).toArray):=Keep.grown setRow_grown (λc e=>by injection e with e;exact e▸hb)
       refine hK _ _ (hS.set hkA hkeep (hB _ (setRow_heap w b _ _ T (0,0) hT) λx hx hne=>setRow_other w b x _ hne) (λc hc=> .inl (hfp▸hc)) (hfp▸hnd)) (hk.step hkeep λx hx=>hold x (mem_fps.2 ⟨_,List.mem_of_getElem? hkA,hx⟩)) (λx hx=>hold x ?_) (by simpa using hbs)
       have h2:=(set_perm hkA B)
       rw[(fps_perm h2.1).mem_iff,fps_cons,hfp] at hx
       rw[(fps_perm h2.2).mem_iff,fps_cons]
       exact hx
      ·cases h
     ·cases h
    ·cases h
   ·split at h
    ·split at h
     ·rename_i d m cs T b bs1 hdst hnew
      split at h
      ·rename_i A hlt hnA
       simp only[Option.some.injEq,Prod.mk.injEq] at h
       obtain⟨rfl,rfl,rfl,rfl,rfl⟩:=h
       simp only[List.length_cons,List.range'_succ,List.cons.injEq] at hbs
       obtain⟨rfl,hbs⟩:=hbs
       obtain⟨hh,hfp⟩:=newAsn_ok hnA
       refine wpList_do hw (by rw[exec_eq hA hsel hkn];exact newOp_sound hnew w) ?_
       rw[hdst]
       have he:=Ext.alloc w (.cells cs.toArray T)
       refine hK _ _ (((hS.new he hh (λc hc=> ?_) (by rw[hfp];simp))).put (Nat.blt_eq▸hlt) _) (hk.step (Keep.ofExt (F:=[]) he) (by simp)) (λx hx=> ?_) (by simpa using hbs)
       ·rw[hfp] at hc;simp at hc;subst hc;simp
       ·rw[fps_cons,hfp,List.mem_append] at hx
        rcases hx with hx|hx
        ·simp at hx;subst hx;exact .inr hk.size
        ·exact hold x hx
      ·cases h
     ·cases h
    ·split at h
     ·rename_i d v hs1 ps1 hdst hval
      split at h
      ·rename_i hlt
       simp only[Option.some.injEq,Prod.mk.injEq] at h
       obtain⟨rfl,rfl,rfl,rfl,rfl⟩:=h
       refine wpList_do hw (valA_sound hval hsel hP hS.st.own λx hx=>hA.eval (List.all_eq_true.1 hkn x (Array.mem_toList_iff.2 hx))) ?_
       rw[hdst]
       exact hK _ w (hS.put (Nat.blt_eq▸hlt) v) hk hold hbs
      ·cases h
     ·cases h
  ·cases h
theorem runH_sound{F:List Nat}{ws:World}(ks:List Nat):∀(l rest:List Oper)(L:Env)(As:List Asn)(bs:List Nat)(hs:List Hint)(L':Env)(As':List Asn)(ob:List (World→Prop))(a:Act)(w:World),
  runH P n ops ks l L As bs hs=some (L',As',ob)→AllB F ws ob→Sy C n a w L As Ps→Keep F ws w→(∀b∈fps As,b∈F∨ws.heap.size≤b)→bs=List.range' w.heap.size bs.length→
  (∀a' w',Sy C n a' w' L' As' Ps→wpList P ops Q rest a' w')→wpList P ops Q (l++rest) a w
 |[],rest,L,As,bs,hs,L',As',ob,a,w,h,ho,hS,hk,hold,hbs,hK=>by
  simp only[runH] at h
  split at h
  ·rename_i h1
   simp only[Option.some.injEq,Prod.mk.injEq] at h
   obtain⟨rfl,rfl,rfl⟩:=h
   exact hK a w ⟨hS.has.keep ks h1,hS.st,hS.keep,hS.old⟩
  ·cases h
 |o::r,rest,L,As,bs,hs,L',As',ob,a,w,h,ho,hS,hk,hold,hbs,hK=>by
  simp only[runH] at h
  split at h
  ·rename_i L1 A1 bs1 hs1 ps hst
   split at h
   ·rename_i L2 A2 ob2 hr
    simp only[Option.some.injEq,Prod.mk.injEq] at h
    obtain⟨rfl,rfl,rfl⟩:=h
    obtain⟨ho1,ho2⟩:=AllB_append _ _ ho
    show wpList P ops Q (o::(r++rest)) a w
    exact stepH_sound hst ho1 hS hk hold hbs λa' w' hS' hk' hold' hbs'=>runH_sound ks r rest L1 A1 bs1 hs1 _ _ ob2 a' w' hr ho2 hS' hk' hold' hbs' hK
   ·cases h
  ·cases h
abbrev Cx.fr(C:Cx)(As:List Asn):List Nat:=C.R++fps As
theorem r_runs(i k m:Nat){j:Nat}{a:Act}{w:World}{L:Env}{As:List Asn}(ks:List Nat)(hs:List Hint){f:List Nat→Env}{g:List Nat→List Asn}{ob:List Nat→List (World→Prop)}(hS:Sy C n a w L As Ps)(hj:Nat.ble (i+k) j=true)
  (hr:∀bs:List Nat,bs.length=m→runH P n ops ks (sg ops i (i+k)) L As bs hs=some (f bs,g bs,ob bs)) (ho:∀bs:List Nat,bs.length=m→AllB (C.fr As) w (ob bs))
  (hK:∀(bs:List Nat) a w,bs.length=m→Sy C n a w (f bs) (g bs) Ps→wpList P ops Q (sg ops (i+k) j) a w):wpList P ops Q (sg ops i j) a w:=by
 rw[sg_split i k j (Nat.le_of_ble_eq_true hj)]
 have hl:(List.range' w.heap.size m).length=m:=by simp
 exact runH_sound (Q:=Q) (F:=C.fr As) (ws:=w) ks _ _ L As _ hs _ _ _ a w (hr _ hl) (ho _ hl) hS (Keep.refl _ _) (λb hb=> .inl (List.mem_append_right _ hb)) (by rw[hl]) λa' w' h=>hK _ a' w' hl h
theorem r_run(i k:Nat){j:Nat}{a:Act}{w:World}{L:Env}{As:List Asn}(ks:List Nat)(hs:List Hint){L':Env}{As':List Asn}{ob:List (World→Prop)}(hS:Sy C n a w L As Ps)(hj:Nat.ble (i+k) j=true)
  (hr:runH P n ops ks (sg ops i (i+k)) L As [] hs=some (L',As',ob)) (ho:AllB (C.fr As) w ob)
  (hK:∀a w,Sy C n a w L' As' Ps→wpList P ops Q (sg ops (i+k) j) a w):wpList P ops Q (sg ops i j) a w:=
 r_runs i k 0 ks hs (f:=λ_=>L') (g:=λ_=>As') (ob:=λ_=>ob) hS hj (λbs h=>by rw[List.eq_nil_of_length_eq_zero h];exact hr) (λ_ _=>ho) λbs a w _ h=>hK a w h
theorem r_run1(i k:Nat){j:Nat}{a:Act}{w:World}{L:Env}{As:List Asn}(ks:List Nat)(hs:List Hint){L':Nat→Env}{As':Nat→List Asn}{ob:Nat→List (World→Prop)}(hS:Sy C n a w L As Ps)(hj:Nat.ble (i+k) j=true)
  (hr:∀b,runH P n ops ks (sg ops i (i+k)) L As [b] hs=some (L' b,As' b,ob b)) (ho:∀b,AllB (C.fr As) w (ob b))
  (hK:∀b a w,Sy C n a w (L' b) (As' b) Ps→wpList P ops Q (sg ops (i+k) j) a w):wpList P ops Q (sg ops i j) a w:=
 r_runs i k 1 ks hs (f:=λbs=>L' (bs.getD 0 0)) (g:=λbs=>As' (bs.getD 0 0)) (ob:=λbs=>ob (bs.getD 0 0)) hS hj (λbs h=>by
  obtain⟨b,rfl⟩:=List.length_eq_one_iff.1 h;exact hr b) (λ_ _=>ho _) λbs a w _ h=>hK _ a w h
end
end Go.Bur
