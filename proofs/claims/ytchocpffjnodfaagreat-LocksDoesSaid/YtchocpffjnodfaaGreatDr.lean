import Derived.Test.YtchocpffjnodfaaGreatRd
namespace Go.Bur
open Go.RowKit
set_option linter.unusedVariables false
set_option linter.unusedSimpArgs false
structure Inf where
 rd:List Nat
 d:Option Nat
 tk:List Nat
 us:List Nat
 pt:List Nat
 top:Bool
def disj(a b:List Nat):Bool:=a.all λx=> !memN b x
def noconf(a b:Inf):Bool:=
 (match a.d with|some d=> !memN b.rd d|none=>true)&&(match b.d with|some d=> !memN a.rd d|none=>true)&&
 (match a.d,b.d with|some d,some e=> !Nat.beq d e|_,_=>true)&&
 disj a.tk (b.tk++(b.us++b.pt))&&disj a.pt (b.tk++(b.us++b.pt))&&(match a.top with|true=>(match b.tk with|[]=>(match b.pt with|[]=>true|_=>false)|_=>false)|false=>disj b.tk a.us&&disj b.pt a.us)
def okAll(ops:Array Oper)(i:Nat)(b:Inf)(acc:List (Nat×Inf)):Bool:=match anc ops i (predsOf ops i) with
 |l=>acc.all λx=>memN l x.1||noconf x.2 b
def opdT:List Operand→List Nat
 |[]=>[]
 | .tmp t::r=>t::opdT r
 |_::r=>opdT r
def rdsOf(ops:Array Oper)(o:Oper):List Nat:=(match o.guard with
 |some (j,_)=>match dstOf ops j with
  |some d=>[d]
  |none=>[]
 |none=>[])++opdT o.op.operands.toList
def resE'{τ:Nat→Type}(rd:List Nat):List (Nat×AV τ)→List (Nat×AV τ)
 |[]=>[]
 |(t,x)::r=>match memN rd t with
  |true=>(t,x)::resE' rd r
  |false=>resE' rd r
def splitD(d:Nat):List (Nat×Oper)→Option (List (Nat×Oper)×(Nat×Oper)×List (Nat×Oper))
 |[]=>none
 |o::r=>match isPickOf d o.2 with
  |true=>some ([],o,r)
  |false=>match splitD d r with
   |some (g,p,q)=>some (o::g,p,q)
   |none=>none
def statics(ops:Array Oper):List (Nat×Oper)→List (Nat×Inf)
 |[]=>[]
 |(i,o)::r=>(i,⟨rdsOf ops o,o.dst,[],[],[],true⟩)::statics ops r
def infV(ops:Array Oper)(o:Oper):Inf:=⟨rdsOf ops o,o.dst,[],[],[],false⟩
def infO{τ:Nat→Type}(ops:Array Oper)(o:Oper)(out:Out τ):Inf:=⟨rdsOf ops o,o.dst,out.take,out.use,out.put.map (·.1),false⟩
def putOk{τ:Nat→Type}(nx:Nat)(out:Out τ):Bool:=ndN (out.put.map (·.1))&&out.put.all λx=>(memN out.take x.1||Nat.ble nx x.1)&&Nat.blt x.1 (nx+out.nn)
def grpOk{τ:Nat→Type}(grp:Bool)(out:Out τ):Bool:=match grp,out.take,out.put,out.nn with
 |false,_,_,_=>true
 |true,[],[],0=>true
 |true,_,_,_=>false
def joinD{τ:Nat→Type}(s:ASt τ)(g:List (Nat×Oper))(pd:Nat)(x:Bool):ASt τ:=⟨s.nx,(pd,dbool x)::dropE (dsts (g.map (·.2))) s.env,s.its,s.org⟩
section
variable {R : Type}
abbrev Acc:=List (Nat×Inf)
def stepD(W:Wk)(N n:Nat)(ops:Array Oper)(grp:Bool)(i:Nat)(o:Oper)(acc:Acc)(s:ASt W.S.τ)(k:Acc→ASt W.S.τ→Option R):Option R:=
 locOpF W n o (evO (resE' (rdsOf ops o) s.env)) (lookI s.its) s.nx λout=>match ndN (out.take++out.use),dOk N o.dst,itsOf (lookI s.its) (out.take++out.use),okAll ops i (infO ops o out) acc,putOk s.nx out,grpOk grp out with
  |true,true,some _,true,true,true=>k ((i,infO ops o out)::acc) (after s o.dst out)
  |_,_,_,_,_,_=>none
def finD{τ:Nat→Type}(P:Program)(ops:Array Oper)(p:Nat×Oper)(acc:Acc)(s':ASt τ)(j:Bool→Option R):Option R:=match gwE ops s'.env p.2 with
 | .yes=>match boolOf (opMove P (evO (resE' (rdsOf ops p.2) s'.env)) p.2.op),okAll ops p.1 (infV ops p.2) acc with
  |some y,true=>j y
  |_,_=>none
 |_=>none
def exDr(W:Wk)(N n:Nat)(ops:Array Oper)(sp:Bool):Nat→Bool→List (Nat×Oper)→Acc→ASt W.S.τ→(Acc→ASt W.S.τ→Option R)→Option R
 |0,_,_,_,_,_=>none
 |_+1,_,[],acc,s,k=>k acc s
 |f+1,grp,(i,o)::r,acc,s,k=>match gwE ops s.env o with
  | .yes=>stepD W N n ops grp i o acc s λacc' s'=>exDr W N n ops sp f grp r acc' s' k
  | .no=>match dOk N o.dst,okAll ops i (infV ops o) acc with
   |true,true=>exDr W N n ops sp f grp r ((i,infV ops o)::acc) (setUd s o.dst) k
   |_,_=>none
  | .opn d want b=>match sp,grp with
   |true,false=>cond b (exDr W N n ops sp f false ((i,o)::r) acc (setLit s d true) k) (exDr W N n ops sp f false ((i,o)::r) acc (setLit s d false) k)
   |_,_=>match splitD d ((i,o)::r) with
    |some (g,p,q)=>match p.2.dst with
     |some pd=>match Nat.blt pd N with
      |true=>jn (λx:Bool=>exDr W N n ops sp f grp q ((p.1,infV ops p.2)::(statics ops g++acc)) (joinD s g pd x) k) λj=>
        cond b (exDr W N n ops sp f true g acc (setLit s d true) λacc' s'=>finD W.P ops p acc' s' j) (exDr W N n ops sp f true g acc (setLit s d false) λacc' s'=>finD W.P ops p acc' s' j)
      |false=>none
     |none=>none
    |none=>none
  | .bad=>none
def fzIds{τ:Nat→Type}(env:List (Nat×AV τ)):List Nat→List Nat
 |[]=>[]
 |t::r=>ownE (evO env) (.tmp t)++fzIds env r
def numL{α:Type}(k:Nat):List α→List (Nat×α)
 |[]=>[]
 |x::r=>(k,x)::numL (k+1) r
def backOk(ops:Array Oper):Bool:=(List.range ops.size).all λi=>(predsOf ops i).all λj=>Nat.blt j i
noncomputable def exReg(W:Wk)(N n:Nat)(ops:Array Oper)(draw:Bool)(fz:List Nat)(s:ASt W.S.τ)(k:ASt W.S.τ→Option R):Option R:=match draw with
 |false=>exOps W N n ops (memN fz 1000000) (ops.size*2+2) none ops.toList s k
 |true=>match freezes (fzIds s.env fz) s with
  |s1=>match backOk ops,ndN (s1.its.map (·.1)) with
   |true,true=>exDr W N n ops (memN fz 1000000) (ops.size*2+2) false (numL 0 ops.toList) [] s1 λ_ s'=>k s'
   |_,_=>none
end
structure Rc(τ:Nat→Type) where
 i:Nat
 o:Oper
 w:Bool
 er:List (Nat×AV τ)
 inf:Inf
 out:Out τ
 nx:Nat
 it:Nat→Option (Item τ)
section
variable {τ : Nat → Type}
def envF(e0:List (Nat×AV τ))(T:Nat→Bool):List (Rc τ)→Nat→Option (AV τ)
 |[],t=>look e0 t
 |r::l,t=>match T r.i&&(match r.o.dst with|some d=>Nat.beq d t|none=>false) with
  |true=>some r.out.v
  |false=>envF e0 T l t
def itF(i0:List (Nat×Item τ))(T:Nat→Bool):List (Rc τ)→Nat→Option (Item τ)
 |[],k=>lookI i0 k
 |r::l,k=>match T r.i with
  |true=>match memN (r.out.put.map (·.1)) k with
   |true=>lookI r.out.put k
   |false=>match memN r.out.take k with
    |true=>none
    |false=>itF i0 T l k
  |false=>itF i0 T l k
def Pair(ops:Array Oper)(q r:Rc τ):Prop:=memN (anc ops r.i (predsOf ops r.i)) q.i=true∨noconf q.inf r.inf=true
end
section
variable {S : Tab}
def Imp(S:Tab)(y x:AV S.τ):Prop:=∀ρ Ps v,RelAV S ρ Ps y v→RelAV S ρ Ps x v
structure GoodR(P:Program)(S:Tab)(N:Nat)(ops:Array Oper)(r:Rc S.τ):Prop where
 at_:ops[r.i]? =some r.o
 dok:dOk N r.o.dst=true
 inf:r.inf=infO ops r.o r.out
 keys:∀t x,look r.er t=some x→t∈r.inf.rd
 guard:∀ρ Ps (a:Act),(∀t x,look r.er t=some x→RelAV S ρ Ps x (a.tmps.getD t undef))→Region.wanted r.o (yielded ops a.tmps)=r.w
 yes:r.w=true→LocSem P S r.o (evO r.er) r.it r.nx r.out∧ndN (r.out.take++r.out.use)=true∧(∃xs,itsOf r.it (r.out.take++r.out.use)=some xs)
 no:r.w=false→r.out=⟨.v (.one .ud),[],[],[],0⟩
 put:putOk r.nx r.out=true
def GoodL(P:Program)(S:Tab)(N:Nat)(ops:Array Oper)(e0:List (Nat×AV S.τ))(i0:List (Nat×Item S.τ))(n0:Nat):List (Rc S.τ)→Prop
 |[]=>True
 |r::l=>GoodR P S N ops r∧(∀q∈l,Pair ops q r∧q.nx+q.out.nn≤r.nx)∧n0≤r.nx∧(∀t x,look r.er t=some x→∃y,envF e0 (λ_=>true) l t=some y∧Imp S y x)∧(∀k∈r.out.take++r.out.use,itF i0 (λ_=>true) l k=r.it k)∧GoodL P S N ops e0 i0 n0 l
theorem disj_iff{a b:List Nat}(h:disj a b=true):∀x∈a,x∉b:=λx hx hm=>by
 have:=List.all_eq_true.1 h x hx
 rw[memN_iff.2 hm] at this;cases this
structure NC(a b:Inf):Prop where
 h1:∀d,a.d=some d→d∉b.rd
 h2:∀d,b.d=some d→d∉a.rd
 h3:∀d,a.d=some d→b.d≠some d
 h4:∀k∈a.tk++a.pt,k∉b.tk++(b.us++b.pt)
 h5:∀k∈b.tk++b.pt,k∉a.us
theorem noconf_nc{a b:Inf}(h:noconf a b=true)(ht:a.top=false):NC a b:=by
 unfold noconf at h
 simp only[Bool.and_eq_true] at h
 obtain⟨⟨⟨⟨⟨g1,g2⟩,g3⟩,g4⟩,g5⟩,g6⟩:=h
 refine⟨λd hd hm=> ?_,λd hd hm=> ?_,λd hd he=> ?_,λk hk=> ?_,λk hk=> ?_⟩
 ·rw[hd] at g1;simp only at g1;rw[memN_iff.2 hm] at g1;cases g1
 ·rw[hd] at g2;simp only at g2;rw[memN_iff.2 hm] at g2;cases g2
 ·rw[hd,he] at g3;simp only at g3;rw[show Nat.beq d d=true from Nat.beq_eq▸rfl] at g3;cases g3
 ·rcases List.mem_append.1 hk with hk|hk
  ·exact disj_iff g4 k hk
  ·exact disj_iff g5 k hk
 ·rw[ht] at g6
  simp only[Bool.and_eq_true] at g6
  rcases List.mem_append.1 hk with hk|hk
  ·exact disj_iff g6.1 k hk
  ·exact disj_iff g6.2 k hk
theorem look_res{τ:Nat→Type}{rd:List Nat}:∀{env:List (Nat×AV τ)} {t:Nat} {x:AV τ},look (resE' rd env) t=some x→look env t=some x∧t∈rd
 |[],t,x,h=>by cases h
 |(d,y)::r,t,x,h=>by
  simp only[resE'] at h
  split at h
  ·rename_i hm
   simp only[look] at h⊢
   split at h
   ·rename_i hb
    exact⟨h,Nat.eq_of_beq_eq_true hb▸memN_iff.1 hm⟩
   ·exact look_res h
  ·rename_i hm
   obtain⟨h1,h2⟩:=look_res h
   simp only[look]
   have:Nat.beq d t=false:=by
    cases hb:Nat.beq d t with
    |false=>rfl
    |true=>rw[Nat.eq_of_beq_eq_true hb,memN_iff.2 h2] at hm;cases hm
   rw[this];exact⟨h1,h2⟩
theorem look_res_of{τ:Nat→Type}{rd:List Nat}:∀{env:List (Nat×AV τ)} {t:Nat},t∈rd→look (resE' rd env) t=look env t
 |[],t,h=>rfl
 |(d,y)::r,t,h=>by
  simp only[resE']
  cases hm:memN rd d with
  |true=>simp only[look];rw[look_res_of h]
  |false=>
   simp only[look]
   have:Nat.beq d t=false:=by
    cases hb:Nat.beq d t with
    |false=>rfl
    |true=>rw[Nat.eq_of_beq_eq_true hb,memN_iff.2 h] at hm;cases hm
   rw[this];exact look_res_of h
variable {P : Program} {N : Nat} {ops : Array Oper} {e0 : List (Nat × AV S.τ)} {i0 : List (Nat × Item S.τ)} {n0 : Nat}
theorem envF_skip{T T':Nat→Bool}{t:Nat}:∀{l:List (Rc S.τ)},(∀q∈l,T q.i≠T' q.i→q.o.dst≠some t)→envF e0 T l t=envF e0 T' l t
 |[],_=>rfl
 |r::l,h=>by
  simp only[envF]
  rw[envF_skip λq hq=>h q (List.mem_cons_of_mem _ hq)]
  by_cases e:T r.i=T' r.i
  ·rw[e]
  ·have h1:=h r (List.mem_cons_self ..) e
   have:(match r.o.dst with|some d=>Nat.beq d t|none=>false)=false:=by
    cases hd:r.o.dst with
    |none=>rfl
    |some d=>
     simp only
     cases hb:Nat.beq d t with
     |false=>rfl
     |true=>exact absurd (by rw[hd,Nat.eq_of_beq_eq_true hb]) h1
   rw[this,Bool.and_false,Bool.and_false]
theorem itF_skip{T T':Nat→Bool}{k:Nat}:∀{l:List (Rc S.τ)},(∀q∈l,T q.i≠T' q.i→k∉q.out.put.map (·.1)∧k∉q.out.take)→itF i0 T l k=itF i0 T' l k
 |[],_=>rfl
 |r::l,h=>by
  simp only[itF]
  rw[itF_skip λq hq=>h q (List.mem_cons_of_mem _ hq)]
  by_cases e:T r.i=T' r.i
  ·rw[e]
  ·obtain⟨h1,h2⟩:=h r (List.mem_cons_self ..) e
   have g1:memN (r.out.put.map (·.1)) k=false:=by
    cases hb:memN (r.out.put.map (·.1)) k with
    |false=>rfl
    |true=>exact absurd (memN_iff.1 hb) h1
   have g2:memN r.out.take k=false:=by
    cases hb:memN r.out.take k with
    |false=>rfl
    |true=>exact absurd (memN_iff.1 hb) h2
   rw[g1,g2]
   cases T r.i<;>cases T' r.i<;>rfl
theorem envF_off{T:Nat→Bool}{t:Nat}{q:Rc S.τ}{l:List (Rc S.τ)}(h:T q.i=true→q.o.dst≠some t):envF e0 T (q::l) t=envF e0 T l t:=by
 simp only[envF]
 cases hT:T q.i with
 |false=>rfl
 |true=>
  have h1:=h hT
  have:(match q.o.dst with|some d=>Nat.beq d t|none=>false)=false:=by
   cases hd:q.o.dst with
   |none=>rfl
   |some d=>
    simp only
    cases hb:Nat.beq d t with
    |false=>rfl
    |true=>exact absurd (by rw[hd,Nat.eq_of_beq_eq_true hb]) h1
  rw[this];rfl
theorem itF_off{T:Nat→Bool}{k:Nat}{q:Rc S.τ}{l:List (Rc S.τ)}(h:T q.i=true→k∉q.out.put.map (·.1)∧k∉q.out.take):itF i0 T (q::l) k=itF i0 T l k:=by
 simp only[itF]
 cases hT:T q.i with
 |false=>rfl
 |true=>
  obtain⟨h1,h2⟩:=h hT
  have g1:memN (q.out.put.map (·.1)) k=false:=by
   cases hb:memN (q.out.put.map (·.1)) k with
   |false=>rfl
   |true=>exact absurd (memN_iff.1 hb) h1
  have g2:memN q.out.take k=false:=by
   cases hb:memN q.out.take k with
   |false=>rfl
   |true=>exact absurd (memN_iff.1 hb) h2
  rw[g1,g2]
def upT(T:Nat→Bool)(i:Nat):Nat→Bool:=λk=>if k=i then true else T k
theorem goodL_app{l1:List (Rc S.τ)}{r:Rc S.τ}{l2:List (Rc S.τ)}(h:GoodL P S N ops e0 i0 n0 (l1++r::l2)):GoodL P S N ops e0 i0 n0 (r::l2)∧∀q∈l1,GoodR P S N ops q∧Pair ops r q∧r.nx+r.out.nn≤q.nx:=by
 induction l1 with
 |nil=>exact⟨h,by simp⟩
 |cons x l1 ih=>
  obtain⟨h1,h2,_,_,_,h3⟩:=h
  obtain⟨g1,g2⟩:=ih h3
  refine⟨g1,λq hq=> ?_⟩
  rcases List.mem_cons.1 hq with rfl|hq
  ·obtain⟨k1,k2⟩:=h2 r (by simp)
   exact⟨h1,k1,k2⟩
  ·exact g2 q hq
theorem goodL_mem:∀{l:List (Rc S.τ)},GoodL P S N ops e0 i0 n0 l→∀r∈l,GoodR P S N ops r
 |[],_,r,hr=>by cases hr
 |x::l,h,r,hr=>by
  rcases List.mem_cons.1 hr with rfl|hr
  ·exact h.1
  ·exact goodL_mem h.2.2.2.2.2 r hr
structure DJ(P:Program)(S:Tab)(C:Cy)(N:Nat)(ops:Array Oper)(e0:List (Nat×AV S.τ))(i0:List (Nat×Item S.τ))(n0:Nat)(org:Mp)(L:List (Rc S.τ))(T:Nat→Bool)(a:Act)(w:World)(ρ:Rho)(As:List Asn)(Ps:List (World→Prop))(its:List (Nat×Item S.τ)):Prop where
 st:St C.R w As Ps
 keep:Keep C.F C.w0 w
 old:∀b∈fps As,b∈C.F∨C.w0.heap.size≤b
 size:a.tmps.size=N
 dfr:a.defers=[]
 env:∀t x,envF e0 T L t=some x→RelAV S ρ Ps x (a.tmps.getD t undef)
 nd:(its.map (·.1)).Nodup
 look:∀k,lookI its k=itF i0 T L k
 its:All2 (RelItem S ρ Ps P) its As
 dom:∀k g,ρ k=some g→k<n0∨∃r∈L,T r.i=true∧r.nx≤k∧k<r.nx+r.out.nn
 org:∀i k g,mpGet org i=some k→C.r0 i=some g→ρ k=some g
theorem er1_mem{k:Nat}:∀{its:List (Nat×Item S.τ)} {x:Nat×Item S.τ},x∈er1 k its→x∈its
 |[],x,h=>h
 |(j,y)::r,x,h=>by
  simp only[er1] at h
  split at h
  ·exact List.mem_cons_of_mem _ h
  ·rcases List.mem_cons.1 h with rfl|h
   ·exact List.mem_cons_self ..
   ·exact List.mem_cons_of_mem _ (er1_mem h)
theorem er1_nd{k:Nat}:∀{its:List (Nat×Item S.τ)},(its.map (·.1)).Nodup→((er1 k its).map (·.1)).Nodup∧lookI (er1 k its) k=none
 |[],h=>⟨h,rfl⟩
 |(j,y)::r,h=>by
  simp only[List.map_cons,List.nodup_cons] at h
  simp only[er1]
  cases hb:Nat.beq j k with
  |true=>
   obtain rfl:=Nat.eq_of_beq_eq_true hb
   refine⟨h.2, ?_⟩
   cases hl:lookI r j with
   |none=>rfl
   |some x=>
    have:=(er1_perm hl).mem_iff.2 (List.mem_cons_self ..)
    exact absurd (List.mem_map_of_mem (f:=(·.1)) this) h.1
  |false=>
   obtain⟨g1,g2⟩:=er1_nd (k:=k) h.2
   refine⟨?_,by simp only[lookI];rw[hb];exact g2⟩
   simp only[List.map_cons,List.nodup_cons]
   refine⟨λhm=>h.1 ?_,g1⟩
   obtain⟨x,hx,e⟩:=List.mem_map.1 hm
   exact List.mem_map.2 ⟨x,er1_mem hx,e⟩
theorem erN_nd:∀{ks:List Nat} {its:List (Nat×Item S.τ)},(its.map (·.1)).Nodup→((erN ks its).map (·.1)).Nodup∧(∀k∈ks,lookI (erN ks its) k=none)∧∀x∈erN ks its,x∈its
 |[],its,h=>⟨h,by simp,λx hx=>hx⟩
 |k::ks,its,h=>by
  obtain⟨g1,g2⟩:=er1_nd (k:=k) h
  obtain⟨k1,k2,k3⟩:=erN_nd (ks:=ks) g1
  refine⟨k1,λj hj=> ?_,λx hx=>er1_mem (k3 x hx)⟩
  show lookI (erN ks (er1 k its)) j=none
  rcases List.mem_cons.1 hj with rfl|hj
  ·by_cases hm:j∈ks
   ·exact k2 j hm
   ·rw[lookI_erN hm];exact g2
  ·exact k2 j hj
theorem lookI_app{k:Nat}:∀{xs ys:List (Nat×Item S.τ)},lookI (xs++ys) k=match memN (xs.map (·.1)) k with|true=>lookI xs k|false=>lookI ys k
 |[],ys=>rfl
 |(j,x)::xs,ys=>by
  simp only[List.cons_append,lookI,List.map_cons,memN]
  cases hb:Nat.beq j k with
  |true=>rfl
  |false=>simp only;rw[lookI_app]
theorem itsOf_some{it it':Nat→Option (Item S.τ)}:∀{ks:List Nat} {xs:List (Item S.τ)},itsOf it ks=some xs→(∀k∈ks,it' k=it k)→itsOf it' ks=some xs
 |[],xs,h,_=>h
 |k::ks,xs,h,he=>by
  simp only[itsOf] at h⊢
  rw[he k (List.mem_cons_self ..)]
  split at h
  ·rename_i x ys h1 h2
   rw[h1,itsOf_some h2 λj hj=>he j (List.mem_cons_of_mem _ hj)]
   exact h
  ·cases h
theorem dj_step{C:Cy}{org:Mp}{L:List (Rc S.τ)}(hL:GoodL P S N ops e0 i0 n0 L){T:Nat→Bool}{i:Nat}{a:Act}{w:World}{Q:Exit→Act→World→Prop}(hJ:∃ρ As Ps its,DJ P S C N ops e0 i0 n0 org L T a w ρ As Ps its)(hTi:T i=false)(hpr:∀j∈predsOf ops i,T j=true)
  (hclo:∀k,T k=true→k<ops.size∧∀j∈predsOf ops k,T j=true) (hin:∃r∈L,r.i=i) (huniq:∀l1 l2 r,L=l1++r::l2→∀q∈l1++l2,q.i≠r.i):wpOpX P ops Q i (λa' w'=>∃ρ As Ps its,DJ P S C N ops e0 i0 n0 org L (upT T i) a' w' ρ As Ps its) a w:=by
 obtain⟨ρ,As,Ps,its,hJ⟩:=hJ
 obtain⟨r,hr,rfl⟩:=hin
 obtain⟨l1,l2,rfl⟩:=List.append_of_mem hr
 obtain⟨⟨hg,hpre,hn0,hse,hsi,_⟩,hpost⟩:=goodL_app hL
 have hun:=huniq l1 l2 r rfl
 have hanc:∀(k:Nat),T k=true→∀j,memN (anc ops k (predsOf ops k)) j=true→T j=true:=λk hk j hj=>anc_all (T:=λx=>T x=true) (λk hk=>(hclo k hk).2) k (predsOf ops k) (hclo k hk).2 j (memN_iff.1 hj)
 have hanci:∀j,memN (anc ops r.i (predsOf ops r.i)) j=true→T j=true:=λj hj=>anc_all (T:=λx=>T x=true) (λk hk=>(hclo k hk).2) r.i (predsOf ops r.i) hpr j (memN_iff.1 hj)
 have htop:∀q∈l1++r::l2,q.inf.top=false:=λq hq=>by rw[(goodL_mem hL q hq).inf];rfl
 have nc1:∀q∈l2,T q.i=false→NC q.inf r.inf:=λq hq hTq=>by
  rcases(hpre q hq).1 with h|h
  ·rw[hanci _ h] at hTq;cases hTq
  ·exact noconf_nc h (htop q (by simp[hq]))
 have nc2:∀q∈l1,T q.i=true→NC r.inf q.inf:=λq hq hTq=>by
  rcases(hpost q hq).2.1 with h|h
  ·rw[hanc _ hTq _ h] at hTi;cases hTi
  ·exact noconf_nc h (htop r (by simp))
 have hinf:∀q∈l1++r::l2,q.inf.d=q.o.dst∧q.inf.tk=q.out.take∧q.inf.us=q.out.use∧q.inf.pt=q.out.put.map (·.1):=λq hq=>by
  rw[(goodL_mem hL q hq).inf];exact⟨rfl,rfl,rfl,rfl⟩
 have hri:=hinf r (by simp)
 have hE:∀t,t∈r.inf.rd→envF e0 T (l1++r::l2) t=envF e0 (λ_=>true) l2 t:=λt ht=>by
  have e1:envF e0 T (l1++r::l2) t=envF e0 T (r::l2) t:=by
   have:∀l:List (Rc S.τ),(∀q∈l,T q.i=true→q.o.dst≠some t)→envF e0 T (l++r::l2) t=envF e0 T (r::l2) t:=by
    intro l
    induction l with
    |nil=>intro _;rfl
    |cons q l ih=>
     intro h
     rw[List.cons_append,envF_off (h q (List.mem_cons_self ..))]
     exact ih λp hp=>h p (List.mem_cons_of_mem _ hp)
   refine this l1 λq hq hTq he=> ?_
   have:=(nc2 q hq hTq).h2 t (by rw[(hinf q (by simp[hq])).1,he])
   exact this ht
  have e2:envF e0 T (r::l2) t=envF e0 T l2 t:=by simp only[envF];rw[hTi];rfl
  rw[e1,e2]
  exact envF_skip λq hq hne he=>by
   have hTq:T q.i=false:=by cases h:T q.i with|false=>rfl|true=>exact absurd h hne
   exact(nc1 q hq hTq).h1 t (by rw[(hinf q (by simp[hq])).1,he]) ht
 have hI:∀k,k∈r.out.take++(r.out.use++r.out.put.map (·.1))→itF i0 T (l1++r::l2) k=itF i0 (λ_=>true) l2 k:=λk hk=>by
  have e1:itF i0 T (l1++r::l2) k=itF i0 T (r::l2) k:=by
   have:∀l:List (Rc S.τ),(∀q∈l,T q.i=true→k∉q.out.put.map (·.1)∧k∉q.out.take)→itF i0 T (l++r::l2) k=itF i0 T (r::l2) k:=by
    intro l
    induction l with
    |nil=>intro _;rfl
    |cons q l ih=>
     intro h
     rw[List.cons_append,itF_off (h q (List.mem_cons_self ..))]
     exact ih λp hp=>h p (List.mem_cons_of_mem _ hp)
   refine this l1 λq hq hTq=> ?_
   have h4:=(nc2 q hq hTq).h4
   have h5:=(nc2 q hq hTq).h5
   obtain⟨q1,q2,q3,q4⟩:=hinf q (by simp[hq])
   obtain⟨r1,r2,r3,r4⟩:=hri
   have key:k∉q.inf.tk++q.inf.pt:=λhm=>by
    rcases List.mem_append.1 hk with h|h
    ·exact h4 k (by rw[r2];exact List.mem_append_left _ h) (by
      rcases List.mem_append.1 hm with hm|hm
      ·exact List.mem_append_left _ hm
      ·exact List.mem_append_right _ (List.mem_append_right _ hm))
    ·rcases List.mem_append.1 h with h|h
     ·exact h5 k hm (by rw[r3];exact h)
     ·exact h4 k (by rw[r4];exact List.mem_append_right _ h) (by
       rcases List.mem_append.1 hm with hm|hm
       ·exact List.mem_append_left _ hm
       ·exact List.mem_append_right _ (List.mem_append_right _ hm))
   exact⟨λhm=>key (by rw[q4];exact List.mem_append_right _ hm),λhm=>key (by rw[q2];exact List.mem_append_left _ hm)⟩
  have e2:itF i0 T (r::l2) k=itF i0 T l2 k:=by simp only[itF];rw[hTi]
  rw[e1,e2]
  refine itF_skip λq hq hne=> ?_
  have hTq:T q.i=false:=by cases h:T q.i with|false=>rfl|true=>exact absurd h hne
  have h4:=(nc1 q hq hTq).h4
  obtain⟨q1,q2,q3,q4⟩:=hinf q (by simp[hq])
  obtain⟨r1,r2,r3,r4⟩:=hri
  have hk':k∈r.inf.tk++(r.inf.us++r.inf.pt):=by rw[r2,r3,r4];exact hk
  exact⟨λhm=>h4 k (by rw[q4];exact List.mem_append_right _ hm) hk',λhm=>h4 k (by rw[q2];exact List.mem_append_left _ hm) hk'⟩
 have hrel:∀t x,look r.er t=some x→RelAV S ρ Ps x (a.tmps.getD t undef):=λt x hx=>by
  obtain⟨y,h1,h2⟩:=hse t x hx
  exact h2 _ _ _ (hJ.env t y (by rw[hE t (hg.keys t x hx)];exact h1))
 have hw:=hg.guard ρ Ps a hrel
 have hafter:∀(v:Value)(w':World)(ρ':Rho)(As':List Asn)(Ps':List (World→Prop)),Grow ρ ρ' r.nx r.out.nn→(∀p∈Ps,p∈Ps')→RelAV S ρ' Ps' r.out.v v→All2 (RelItem S ρ' Ps' P) (r.out.put++erN r.out.take its) As'→St C.R w' As' Ps'→Keep C.F C.w0 w'→(∀b∈fps As',b∈C.F∨C.w0.heap.size≤b)→
   ∃ρ As Ps its,DJ P S C N ops e0 i0 n0 org (l1++r::l2) (upT T r.i) (a.put r.o.dst v) w' ρ As Ps its:=by
  intro v w' ρ' As' Ps' hgr hP hv hits hst hkeep hold
  have hT':∀q∈l1++l2,upT T r.i q.i=T q.i:=λq hq=>by unfold upT;rw[if_neg (hun q hq)]
  have hTr:upT T r.i r.i=true:=by unfold upT;rw[if_pos rfl]
  have hpk:=hg.put
  unfold putOk at hpk
  rw[Bool.and_eq_true] at hpk
  have hpn:=ndN_iff hpk.1
  have hpm:∀k∈r.out.put.map (·.1),(k∈r.out.take∨r.nx≤k)∧k<r.nx+r.out.nn:=λk hk=>by
   obtain⟨x,hx,rfl⟩:=List.mem_map.1 hk
   have:=List.all_eq_true.1 hpk.2 x hx
   rw[Bool.and_eq_true,Bool.or_eq_true] at this
   exact⟨this.1.imp memN_iff.1 Nat.le_of_ble_eq_true,Nat.blt_eq▸this.2⟩
  obtain⟨n1,n2,n3⟩:=erN_nd (ks:=r.out.take) hJ.nd
  refine⟨ρ',As',Ps',r.out.put++erN r.out.take its,hst,hkeep,hold, ?_, ?_,λt x hx=> ?_, ?_,λk=> ?_,hits,λk g hk=> ?_,λi k g h1 h2=>hgr.keep _ _ (hJ.org i k g h1 h2)⟩
  ·cases hd:r.o.dst<;>simp[Act.put,hJ.size]
  ·cases hd:r.o.dst<;>simp[Act.put,hJ.dfr]
  ·--slots
   by_cases hdt:r.o.dst=some t
   ·have hnone:∀l:List (Rc S.τ),(∀q∈l,q∈l1)→envF e0 (upT T r.i) (l++r::l2) t=some r.out.v:=by
     intro l
     induction l with
     |nil=>intro _;simp only[List.nil_append,envF];rw[hTr,hdt];simp[Nat.beq_refl]
     |cons q l ih=>
      intro h
      simp only[List.cons_append,envF]
      have hq:=h q (List.mem_cons_self ..)
      rw[hT' q (List.mem_append_left _ hq)]
      cases hTq:T q.i with
      |false=>simp;exact ih λp hp=>h p (List.mem_cons_of_mem _ hp)
      |true=>
       have:=(nc2 q hq hTq).h3 t (by rw[hri.1,hdt])
       rw[(hinf q (by simp[hq])).1] at this
       have hbf:(match q.o.dst with|some d=>Nat.beq d t|none=>false)=false:=by
        cases hd:q.o.dst with
        |none=>rfl
        |some d=>
         simp only
         cases hb:Nat.beq d t with
         |false=>rfl
         |true=>exact absurd (by rw[hd,Nat.eq_of_beq_eq_true hb]) this
       rw[hbf,Bool.and_false]
       exact ih λp hp=>h p (List.mem_cons_of_mem _ hp)
    have:=hnone l1 λq hq=>hq
    rw[this] at hx
    obtain rfl:=someI' hx
    rw[hdt]
    have hdk:=hg.dok
    rw[hdt] at hdk
    rw[put_get hJ.size (Nat.blt_eq▸hdk),show Nat.beq t t=true from Nat.beq_eq▸rfl]
    exact hv
   ·have e1:envF e0 (upT T r.i) (l1++r::l2) t=envF e0 T (l1++r::l2) t:=envF_skip λq hq hne he=>by
     rcases List.mem_append.1 hq with hq|hq
     ·exact hne (hT' q (List.mem_append_left _ hq))
     ·rcases List.mem_cons.1 hq with rfl|hq
      ·exact hdt he
      ·exact hne (hT' q (List.mem_append_right _ hq))
    rw[e1] at hx
    have:(a.put r.o.dst v).tmps.getD t undef=a.tmps.getD t undef:=by
     cases hd:r.o.dst with
     |none=>rfl
     |some d=>
      have hdk:=hg.dok
      rw[hd] at hdk
      rw[put_get hJ.size (Nat.blt_eq▸hdk)]
      cases hb:Nat.beq d t with
      |false=>rfl
      |true=>exact absurd (by rw[hd,Nat.eq_of_beq_eq_true hb]) hdt
    rw[this]
    exact RelAV.mono hgr.keep hP (hJ.env t x hx)
  ·--names differ
   rw[List.map_append,List.nodup_append]
   refine⟨hpn,n1,λx hx y hy e=> ?_⟩
   subst e
   obtain⟨h1,h2⟩:=hpm x hx
   obtain⟨z,hz,rfl⟩:=List.mem_map.1 hy
   rcases h1 with h1|h1
   ·have:=n2 _ h1
    have hne:lookI (erN r.out.take its) z.1≠none:=by
     intro e
     have:∀(l:List (Nat×Item S.τ)),z∈l→lookI l z.1≠none:=by
      intro l
      induction l with
      |nil=>intro h;cases h
      |cons y l ih=>
       obtain⟨j,y⟩:=y
       intro h
       simp only[lookI]
       split
       ·simp
       ·rename_i hb
        rcases List.mem_cons.1 h with e|h
        ·rw[e,show Nat.beq j j=true from Nat.beq_eq▸rfl] at hb;cases hb
        ·exact ih h
     exact this _ hz e
    exact hne this
   ·obtain⟨A,_,hrelz⟩:=all2_mem hJ.its z (n3 z hz)
    obtain⟨g,hgz⟩:=item_some hrelz
    rcases hJ.dom _ g hgz with h3|⟨q,hq,hTq,h3,h4⟩
    ·omega
    ·rcases List.mem_append.1 hq with hq|hq
     ·have:=(hpost q hq).2.2;omega
     ·rcases List.mem_cons.1 hq with rfl|hq
      ·rw[hTi] at hTq;cases hTq
      ·have:=(hpre q hq).2;omega
  ·--things
   have hmine:∀k,(k∈r.out.put.map (·.1)∨k∈r.out.take)→itF i0 (upT T r.i) (l1++r::l2) k=itF i0 (upT T r.i) (r::l2) k:=λk hk=>by
    have:∀l:List (Rc S.τ),(∀q∈l,q∈l1)→itF i0 (upT T r.i) (l++r::l2) k=itF i0 (upT T r.i) (r::l2) k:=by
     intro l
     induction l with
     |nil=>intro _;rfl
     |cons q l ih=>
      intro h
      have hq:=h q (List.mem_cons_self ..)
      simp only[List.cons_append]
      rw[itF,ih λp hp=>h p (List.mem_cons_of_mem _ hp),hT' q (List.mem_append_left _ hq)]
      cases hTq:T q.i with
      |false=>rfl
      |true=>
       have h4:=(nc2 q hq hTq).h4
       obtain⟨q1,q2,q3,q4⟩:=hinf q (by simp[hq])
       obtain⟨r1,r2,r3,r4⟩:=hri
       have hk':k∈r.inf.tk++r.inf.pt:=by
        rw[r2,r4]
        rcases hk with hk|hk
        ·exact List.mem_append_right _ hk
        ·exact List.mem_append_left _ hk
       have hno:=h4 k hk'
       have g1:memN (q.out.put.map (·.1)) k=false:=by
        cases hb:memN (q.out.put.map (·.1)) k with
        |false=>rfl
        |true=>exact absurd (List.mem_append_right _ (List.mem_append_right _ (by rw[q4];exact memN_iff.1 hb))) hno
       have g2:memN q.out.take k=false:=by
        cases hb:memN q.out.take k with
        |false=>rfl
        |true=>exact absurd (List.mem_append_left _ (by rw[q2];exact memN_iff.1 hb)) hno
       rw[g1,g2]
    exact this l1 λq hq=>hq
   rw[lookI_app]
   cases hb:memN (r.out.put.map (·.1)) k with
   |true=>
    rw[hmine k (.inl (memN_iff.1 hb))]
    simp only[itF];rw[hTr,hb]
   |false=>
    cases hb2:memN r.out.take k with
    |true=>
     rw[hmine k (.inr (memN_iff.1 hb2))]
     simp only[itF];rw[hTr,hb,hb2]
     exact n2 k (memN_iff.1 hb2)
    |false=>
     have hk1:k∉r.out.put.map (·.1):=λh=>by rw[memN_iff.2 h] at hb;cases hb
     have hk2:k∉r.out.take:=λh=>by rw[memN_iff.2 h] at hb2;cases hb2
     have e1:itF i0 (upT T r.i) (l1++r::l2) k=itF i0 T (l1++r::l2) k:=itF_skip λq hq hne=>by
      rcases List.mem_append.1 hq with hq|hq
      ·exact absurd (hT' q (List.mem_append_left _ hq)) hne
      ·rcases List.mem_cons.1 hq with rfl|hq
       ·exact⟨hk1,hk2⟩
       ·exact absurd (hT' q (List.mem_append_right _ hq)) hne
     rw[e1,←hJ.look k]
     exact lookI_erN hk2
  ·rcases hgr.new k g hk with h1|h1
   ·rcases hJ.dom k g h1 with h2|⟨q,hq,hTq,h2⟩
    ·exact .inl h2
    ·refine .inr ⟨q,hq, ?_,h2⟩
     rcases List.mem_append.1 hq with hq|hq
     ·rw[hT' q (List.mem_append_left _ hq)];exact hTq
     ·rcases List.mem_cons.1 hq with rfl|hq
      ·exact hTr
      ·rw[hT' q (List.mem_append_right _ hq)];exact hTq
   ·exact .inr ⟨r,by simp,hTr,h1.1,h1.2⟩
 unfold wpOpX
 rw[hg.at_]
 simp only
 cases hww:r.w with
 |true=>
  rw[hww] at hw
  rw[if_pos hw]
  obtain⟨hS,hnd,xs,hxs⟩:=hg.yes hww
  have hag:∀k∈r.out.take++r.out.use,lookI its k=r.it k:=λk hk=>by
   rw[hJ.look k,hI k (by
    rcases List.mem_append.1 hk with h|h
    ·exact List.mem_append_left _ h
    ·exact List.mem_append_right _ (List.mem_append_left _ h))]
   exact hsi k hk
  refine(loc_core hS (evO_rel hrel) hJ.st hJ.keep hJ.old hJ.dfr hJ.its hnd (itsOf_some hxs hag) (λk x hk hx=>(hag k hk)▸hx) (λk h1 h2=> ?_) hafter)
  cases hρ:ρ k with
  |none=>rfl
  |some g=>
   rcases hJ.dom k g hρ with h3|⟨q,hq,hTq,h3,h4⟩
   ·omega
   ·rcases List.mem_append.1 hq with hq|hq
    ·have:=(hpost q hq).2.2;omega
    ·rcases List.mem_cons.1 hq with rfl|hq
     ·rw[hTi] at hTq;cases hTq
     ·have:=(hpre q hq).2;omega
 |false=>
  rw[hww] at hw
  rw[if_neg (by rw[hw];simp)]
  have hno:=hg.no hww
  refine hafter undef w ρ As Ps ?_ (λp hp=>hp) (by rw[hno];rfl) (by rw[hno];exact hJ.its) hJ.st hJ.keep hJ.old
  rw[hno];exact Grow.refl _ _ _
end
section
variable {R : Type} {W : Wk} {N n : Nat} {ops : Array Oper} {e0 : List (Nat × AV W.S.τ)} {i0 : List (Nat × Item W.S.τ)} {n0 : Nat}
def Cov(a:Nat×Inf)(r:Rc W.S.τ):Prop:=a.1=r.i∧a.2.rd=r.inf.rd∧a.2.d=r.inf.d∧a.2.tk=r.inf.tk∧a.2.pt=r.inf.pt∧(a.2.top=true∨a.2.us=r.inf.us)
structure TI(W:Wk)(N:Nat)(ops:Array Oper)(e0:List (Nat×AV W.S.τ))(i0:List (Nat×Item W.S.τ))(n0:Nat)(org:Mp)(L:List (Rc W.S.τ))(acc:Acc)(s:ASt W.S.τ):Prop where
 good:GoodL W.P W.S N ops e0 i0 n0 L
 env:∀t x,look s.env t=some x→∃y,envF e0 (λ_=>true) L t=some y∧Imp W.S y x
 its:∀k,lookI s.its k=itF i0 (λ_=>true) L k
 nd:(s.its.map (·.1)).Nodup
 lt:∀x∈s.its,x.1<s.nx
 nx:n0≤s.nx∧∀r∈L,r.nx+r.out.nn≤s.nx
 cov:∀r∈L,∃a∈acc,Cov a r
 org:s.org=org
theorem noconf_cov{a:Nat×Inf}{r:Rc W.S.τ}{b:Inf}(hc:Cov a r)(ht:r.inf.top=false)(hbt:b.top=false)(h:noconf a.2 b=true):noconf r.inf b=true:=by
 obtain⟨_,h1,h2,h3,h4,h5⟩:=hc
 unfold noconf at h⊢
 rw[h1,h2,h3,h4] at h
 simp only[Bool.and_eq_true] at h⊢
 refine⟨h.1, ?_⟩
 rw[ht]
 simp only
 rcases h5 with h5|h5
 ·have h6:=h.2
  rw[h5] at h6
  simp only at h6
  split at h6
  ·rename_i e1
   split at h6
   ·rename_i e2;rw[e1,e2];rfl
   ·cases h6
  ·cases h6
 ·cases htt:a.2.top with
  |false=>
   have h6:=h.2
   rw[htt] at h6
   simp only at h6
   rw[h5] at h6;exact h6
  |true=>
   have h6:=h.2
   rw[htt] at h6
   simp only at h6
   split at h6
   ·rename_i e1
    split at h6
    ·rename_i e2;rw[e1,e2];rfl
    ·cases h6
   ·cases h6
theorem ti_pairs{org:Mp}{L:List (Rc W.S.τ)}{acc:Acc}{s:ASt W.S.τ}(h:TI W N ops e0 i0 n0 org L acc s){r:Rc W.S.τ}(hb:r.inf.top=false)(hok:okAll ops r.i r.inf acc=true):∀q∈L,Pair ops q r:=λq hq=>by
 obtain⟨a,ha,hc⟩:=h.cov q hq
 have:=List.all_eq_true.1 hok a ha
 rw[Bool.or_eq_true] at this
 rcases this with h1|h1
 ·exact .inl (hc.1▸h1)
 ·refine .inr (noconf_cov hc ?_ hb h1)
  rw[(goodL_mem h.good q hq).inf];rfl
theorem ti_add{org:Mp}{L:List (Rc W.S.τ)}{acc:Acc}{s:ASt W.S.τ}(h:TI W N ops e0 i0 n0 org L acc s){r:Rc W.S.τ}(hg:GoodR W.P W.S N ops r)(hok:okAll ops r.i r.inf acc=true)(hnx:r.nx=s.nx)(hse:∀t x,look r.er t=some x→look s.env t=some x)(hsi:∀k,r.it k=lookI s.its k)
  {s':ASt W.S.τ} (henv:∀t x,look s'.env t=some x→(r.o.dst=some t∧Imp W.S r.out.v x)∨(r.o.dst≠some t∧∃y,look s.env t=some y∧Imp W.S y x)) (hits:s'.its=r.out.put++erN r.out.take s.its) (hnx':s'.nx=s.nx+r.out.nn) (horg:s'.org=s.org) {acc':Acc} (hcov:∀q∈r::L,∃a∈acc',Cov a q):TI W N ops e0 i0 n0 org (r::L) acc' s':=by
 have hpk:=hg.put
 unfold putOk at hpk
 rw[Bool.and_eq_true] at hpk
 have hpn:=ndN_iff hpk.1
 have hpm:∀k∈r.out.put.map (·.1),(k∈r.out.take∨r.nx≤k)∧k<r.nx+r.out.nn:=λk hk=>by
  obtain⟨x,hx,rfl⟩:=List.mem_map.1 hk
  have:=List.all_eq_true.1 hpk.2 x hx
  rw[Bool.and_eq_true,Bool.or_eq_true] at this
  exact⟨this.1.imp memN_iff.1 Nat.le_of_ble_eq_true,Nat.blt_eq▸this.2⟩
 obtain⟨n1,n2,n3⟩:=erN_nd (ks:=r.out.take) h.nd
 refine⟨⟨hg,λq hq=>⟨ti_pairs h (by rw[hg.inf];rfl) hok q hq,by have:=h.nx.2 q hq;omega⟩,by have:=h.nx.1;omega,λt x hx=> ?_,λk hk=>by rw[hsi k,h.its k],h.good⟩,λt x hx=> ?_,λk=> ?_, ?_,λx hx=> ?_,⟨by have:=h.nx.1;omega,λq hq=> ?_⟩,hcov,horg.trans h.org⟩
 ·obtain⟨y,h1,h2⟩:=h.env t x (hse t x hx)
  exact⟨y,h1,h2⟩
 ·rcases henv t x hx with⟨h1,h2⟩|⟨h1,y,h2,h3⟩
  ·exact⟨r.out.v,by simp only[envF];rw[h1];simp[Nat.beq_refl],h2⟩
  ·obtain⟨z,h4,h5⟩:=h.env t y h2
   refine⟨z, ?_,λρ Ps v hv=>h3 _ _ _ (h5 _ _ _ hv)⟩
   simp only[envF]
   have:(match r.o.dst with|some d=>Nat.beq d t|none=>false)=false:=by
    cases hd:r.o.dst with
    |none=>rfl
    |some d=>
     simp only
     cases hb:Nat.beq d t with
     |false=>rfl
     |true=>exact absurd (by rw[hd,Nat.eq_of_beq_eq_true hb]) h1
   rw[this];exact h4
 ·rw[hits,lookI_app]
  simp only[itF]
  cases hb:memN (r.out.put.map (·.1)) k with
  |true=>rfl
  |false=>
   cases hb2:memN r.out.take k with
   |true=>exact n2 k (memN_iff.1 hb2)
   |false=>
    simp only
    rw[lookI_erN λhm=>by rw[memN_iff.2 hm] at hb2;cases hb2]
    exact h.its k
 ·rw[hits,List.map_append,List.nodup_append]
  refine⟨hpn,n1,λx hx y hy e=> ?_⟩
  subst e
  obtain⟨z,hz,rfl⟩:=List.mem_map.1 hy
  rcases(hpm _ hx).1 with h1|h1
  ·have h2:=n2 _ h1
   have:∀(l:List (Nat×Item W.S.τ)),z∈l→lookI l z.1≠none:=by
    intro l
    induction l with
    |nil=>intro h;cases h
    |cons y l ih=>
     obtain⟨j,y⟩:=y
     intro h
     simp only[lookI]
     split
     ·simp
     ·rename_i hb
      rcases List.mem_cons.1 h with e|h
      ·rw[e,show Nat.beq j j=true from Nat.beq_eq▸rfl] at hb;cases hb
      ·exact ih h
   exact this _ hz h2
  ·have:=h.lt z (n3 z hz);omega
 ·rw[hits] at hx
  rcases List.mem_append.1 hx with hx|hx
  ·have:=(hpm x.1 (List.mem_map_of_mem hx)).2;omega
  ·have:=h.lt x (n3 x hx);omega
 ·rcases List.mem_cons.1 hq with rfl|hq
  ·omega
  ·have:=h.nx.2 q hq;omega
theorem gw_static{P:Program}{S:Tab}{N:Nat}{s:ASt S.τ}{o:Oper}{b:Bool}(hg:gwE ops s.env o=(match b with|true=> .yes|false=> .no))(ρ:Rho)(Ps:List (World→Prop))(a:Act)(h:∀t x,look (resE' (rdsOf ops o) s.env) t=some x→RelAV S ρ Ps x (a.tmps.getD t undef)):Region.wanted o (yielded ops a.tmps)=b:=by
 unfold gwE at hg
 unfold Region.wanted
 split at hg
 ·rename_i h0;rw[h0];cases b<;>first|rfl|cases hg
 ·rename_i j want h0
  rw[h0]
  simp only
  split at hg
  ·rename_i d hd
   have hmem:d∈rdsOf ops o:=by unfold rdsOf;rw[h0];simp only;rw[hd];simp
   split at hg
   ·rename_i c hl
    have hv:a.tmps.getD d undef= .bool c:=h d (.v (.one (.lit c))) (by rw[look_res_of hmem];exact hl)
    simp only[gw_tmp hd hv]
    cases b<;>cases c<;>cases want<;>first|rfl|cases hg
   ·rename_i hl
    have hv:a.tmps.getD d undef=undef:=h d (.v (.one .ud)) (by rw[look_res_of hmem];exact hl)
    have:yielded ops a.tmps j=none:=by
     unfold dstOf at hd
     unfold yielded
     rw[hd]
     rw[Array.getD_eq_getD_getElem?] at hv
     cases hq:a.tmps[d]? with
     |none=>simp[hq]
     |some x=>
      rw[hq] at hv
      simp only[Option.getD_some] at hv
      subst hv
      simp[hq,undef]
    simp only[this]
    cases b<;>cases want<;>first|rfl|cases hg
   ·cases b<;>cases hg
   ·cases b<;>cases hg
  ·cases b<;>cases hg
theorem cov_refl(r:Rc W.S.τ):Cov (W:=W) (r.i,r.inf) r:=⟨rfl,rfl,rfl,rfl,rfl,.inr rfl⟩
theorem imp_refl(x:AV W.S.τ):Imp W.S x x:=λ_ _ _ h=>h
theorem splitD_eq{d:Nat}:∀{l g q:List (Nat×Oper)} {p:Nat×Oper},splitD d l=some (g,p,q)→l=g++p::q∧isPickOf d p.2=true
 |[],g,q,p,h=>by cases h
 |o::r,g,q,p,h=>by
  simp only[splitD] at h
  split at h
  ·rename_i hp
   simp only[Option.some.injEq,Prod.mk.injEq] at h
   obtain⟨rfl,rfl,rfl⟩:=h
   exact⟨rfl,hp⟩
  ·split at h
   ·rename_i g1 p1 q1 h1
    simp only[Option.some.injEq,Prod.mk.injEq] at h
    obtain⟨rfl,rfl,rfl⟩:=h
    obtain⟨h2,h3⟩:=splitD_eq h1
    exact⟨by rw[h2];rfl,h3⟩
   ·cases h
theorem statics_mem{r:Rc W.S.τ}:∀{g:List (Nat×Oper)},(r.i,r.o)∈g→(r.i,(⟨rdsOf ops r.o,r.o.dst,[],[],[],true⟩:Inf))∈statics ops g
 |[],h=>by cases h
 |(j,o)::g,h=>by
  simp only[statics]
  rcases List.mem_cons.1 h with e|h
  ·simp only[Prod.mk.injEq] at e
   rw[e.1,e.2];exact List.mem_cons_self ..
  ·exact List.mem_cons_of_mem _ (statics_mem h)
theorem dsts_mem{o:Oper}{d:Nat}:∀{l:List Oper},o∈l→o.dst=some d→d∈dsts l
 |[],h,_=>by cases h
 |x::l,h,hd=>by
  simp only[dsts]
  rcases List.mem_cons.1 h with rfl|h
  ·rw[hd];exact List.mem_cons_self ..
  ·split
   ·exact List.mem_cons_of_mem _ (dsts_mem h hd)
   ·exact dsts_mem h hd
structure GrpOk(L':List (Rc W.S.τ))(s s':ASt W.S.τ)(ds:List Nat):Prop where
 its:s'.its=s.its
 nx:s'.nx=s.nx
 org:s'.org=s.org
 env:∀t,t∉ds→look s'.env t=look s.env t
 tk:∀r∈L',r.out.take=[]∧r.out.put=[]
theorem exDr_ok(hW:WkOk W){sp:Bool}{org:Mp}{r:R}:∀(f:Nat)(grp:Bool)(l:List (Nat×Oper))(acc:Acc)(s:ASt W.S.τ)(k:Acc→ASt W.S.τ→Option R)(L:List (Rc W.S.τ)),(∀x∈l,ops[x.1]? =some x.2)→exDr W N n ops sp f grp l acc s k=some r→TI W N ops e0 i0 n0 org L acc s→
  ∃L' acc' s',k acc' s'=some r∧TI W N ops e0 i0 n0 org (L'++L) acc' s'∧L'.map (λr=>(r.i,r.o))=l.reverse∧(grp=true→GrpOk L' s s' (dsts (l.map (·.2))))
 |0,grp,l,acc,s,k,L,hl,h,hT=>by cases h
 |f+1,grp,[],acc,s,k,L,hl,h,hT=>⟨[],acc,s,h,hT,rfl,λ_=>⟨rfl,rfl,rfl,λ_ _=>rfl,by simp⟩⟩
 |f+1,grp,(i,o)::l,acc,s,k,L,hl,h,hT=>by
  have hat:ops[i]? =some o:=hl (i,o) (List.mem_cons_self ..)
  have hl':∀x∈l,ops[x.1]? =some x.2:=λx hx=>hl x (List.mem_cons_of_mem _ hx)
  simp only[exDr] at h
  split at h
  ·rename_i hg
   unfold stepD at h
   obtain⟨out,h,hS⟩:=locOpF_sound hW h
   split at h
   ·rename_i xs h1 h2 h3 h4 h5 h6
    let rc:Rc W.S.τ:=⟨i,o,true,resE' (rdsOf ops o) s.env,infO ops o out,out,s.nx,lookI s.its⟩
    have hgood:GoodR W.P W.S N ops rc:=⟨hat,h2,rfl,λt x hx=>(look_res hx).2,λρ Ps a ha=>gw_static (P:=W.P) (N:=N) (b:=true) hg ρ Ps a ha,λ_=>⟨hS,h1,xs,h3⟩,λe=>(by cases e),h5⟩
    have hT1:TI W N ops e0 i0 n0 org (rc::L) ((i,infO ops o out)::acc) (after s o.dst out):=by
     refine ti_add (s':=after s o.dst out) hT hgood h4 rfl (λt x hx=>(look_res hx).1) (λk=>rfl) (λt x hx=> ?_) rfl rfl rfl λq hq=> ?_
     ·have hx:look (setE s.env o.dst out.v) t=some x:=hx
      by_cases hdt:o.dst=some t
      ·rw[hdt] at hx
       simp only[setE,look] at hx
       rw[show Nat.beq t t=true from Nat.beq_eq▸rfl] at hx
       obtain rfl:=someI' hx
       exact .inl ⟨hdt,imp_refl _⟩
      ·refine .inr ⟨hdt,x, ?_,imp_refl _⟩
       rwa[look_set (by cases hd:o.dst with|none=>simp|some d=>simp;intro e;exact hdt (by rw[hd,e]))] at hx
     ·rcases List.mem_cons.1 hq with rfl|hq
      ·exact⟨_,List.mem_cons_self ..,cov_refl rc⟩
      ·obtain⟨a,ha,hc⟩:=hT.cov q hq
       exact⟨a,List.mem_cons_of_mem _ ha,hc⟩
    obtain⟨L',acc',s',g1,g2,g3,g4⟩:=exDr_ok hW f grp l _ _ k (rc::L) hl' h hT1
    refine⟨L'++[rc],acc',s',g1,by rw[List.append_assoc];exact g2,by simp[g3,rc],λhgrp=> ?_⟩
    obtain⟨k1,k2,k3,k4,k5⟩:=g4 hgrp
    rw[hgrp] at h6
    have h7:out.take=[]∧out.put=[]∧out.nn=0:=by
     unfold grpOk at h6
     split at h6
     ·rename_i e;cases e
     ·rename_i e1 e2 e3 e4;exact⟨e2,e3,e4⟩
     ·cases h6
    refine⟨?_, ?_,k3,λt ht=> ?_,λq hq=> ?_⟩
    ·rw[k1];show out.put++erN out.take s.its=s.its;rw[h7.1,h7.2.1];rfl
    ·rw[k2];show s.nx+out.nn=s.nx;rw[h7.2.2];rfl
    ·rw[k4 t (λhm=>ht (by simp only[List.map_cons,dsts];split<;>simp[hm]))]
     show look (setE s.env o.dst out.v) t=_
     refine look_set λhm=>ht ?_
     simp only[List.map_cons,dsts]
     cases hd:o.dst with
     |none=>rw[hd] at hm;simp at hm
     |some d=>rw[hd] at hm;simp at hm;simp[hm]
    ·rcases List.mem_append.1 hq with hq|hq
     ·exact k5 q hq
     ·rw[List.mem_singleton] at hq;subst hq;exact⟨h7.1,h7.2.1⟩
   ·cases h
  ·rename_i hg
   split at h
   ·rename_i h2 h4
    let rc:Rc W.S.τ:=⟨i,o,false,resE' (rdsOf ops o) s.env,infV ops o,⟨.v (.one .ud),[],[],[],0⟩,s.nx,lookI s.its⟩
    have hgood:GoodR W.P W.S N ops rc:=⟨hat,h2,rfl,λt x hx=>(look_res hx).2,λρ Ps a ha=>gw_static (P:=W.P) (N:=N) (b:=false) hg ρ Ps a ha,λe=>(by cases e),λ_=>rfl,rfl⟩
    have hT1:TI W N ops e0 i0 n0 org (rc::L) ((i,infV ops o)::acc) (setUd s o.dst):=by
     refine ti_add (s':=setUd s o.dst) hT hgood h4 rfl (λt x hx=>(look_res hx).1) (λk=>rfl) (λt x hx=> ?_) rfl rfl rfl λq hq=> ?_
     ·have hx:look (setE s.env o.dst (.v (.one .ud))) t=some x:=hx
      by_cases hdt:o.dst=some t
      ·rw[hdt] at hx
       simp only[setE,look] at hx
       rw[show Nat.beq t t=true from Nat.beq_eq▸rfl] at hx
       obtain rfl:=someI' hx
       exact .inl ⟨hdt,imp_refl _⟩
      ·refine .inr ⟨hdt,x, ?_,imp_refl _⟩
       rwa[look_set (by cases hd:o.dst with|none=>simp|some d=>simp;intro e;exact hdt (by rw[hd,e]))] at hx
     ·rcases List.mem_cons.1 hq with rfl|hq
      ·exact⟨_,List.mem_cons_self ..,cov_refl rc⟩
      ·obtain⟨a,ha,hc⟩:=hT.cov q hq
       exact⟨a,List.mem_cons_of_mem _ ha,hc⟩
    obtain⟨L',acc',s',g1,g2,g3,g4⟩:=exDr_ok hW f grp l _ _ k (rc::L) hl' h hT1
    refine⟨L'++[rc],acc',s',g1,by rw[List.append_assoc];exact g2,by simp[g3,rc],λhgrp=> ?_⟩
    obtain⟨k1,k2,k3,k4,k5⟩:=g4 hgrp
    refine⟨k1,k2,k3,λt ht=> ?_,λq hq=> ?_⟩
    ·rw[k4 t (λhm=>ht (by simp only[List.map_cons,dsts];split<;>simp[hm]))]
     show look (setE s.env o.dst (.v (.one .ud))) t=_
     refine look_set λhm=>ht ?_
     simp only[List.map_cons,dsts]
     cases hd:o.dst with
     |none=>rw[hd] at hm;simp at hm
     |some d=>rw[hd] at hm;simp at hm;simp[hm]
    ·rcases List.mem_append.1 hq with hq|hq
     ·exact k5 q hq
     ·rw[List.mem_singleton] at hq;subst hq;exact⟨rfl,rfl⟩
   ·cases h
  ·rename_i d want b hg
   have hlook0:=gw_opn hg
   split at h
   ·have key0:exDr W N n ops true f false ((i,o)::l) acc (setLit s d b) k=some r:=by cases b<;>exact h
    have hTl0:TI W N ops e0 i0 n0 org L acc (setLit s d b):=by
     refine⟨hT.good,λt x hx=> ?_,hT.its,hT.nd,hT.lt,hT.nx,hT.cov,hT.org⟩
     simp only[setLit,look] at hx
     split at hx
     ·rename_i hb
      obtain rfl:=Nat.eq_of_beq_eq_true hb
      obtain rfl:=someI' hx
      obtain⟨y,h1,h2⟩:=hT.env _ _ hlook0
      exact⟨y,h1,h2⟩
     ·exact hT.env t x hx
    obtain⟨L',acc',s',g1,g2,g3,g4⟩:=exDr_ok hW f false ((i,o)::l) acc _ k L hl key0 hTl0
    exact⟨L',acc',s',g1,g2,g3,λe=>by cases e⟩
   ·split at h
    ·rename_i g p q hsp
     obtain⟨hleq,hpk⟩:=splitD_eq hsp
     split at h
     ·rename_i pd hpd
      split at h
      ·rename_i hpdN
       have hlook:=gw_opn hg
       have key:exDr W N n ops sp f true g acc (setLit s d b) (λacc' s'=>finD W.P ops p acc' s' λx=>exDr W N n ops sp f grp q ((p.1,infV ops p.2)::(statics ops g++acc)) (joinD s g pd x) k)=some r:=by
        unfold jn at h
        cases b<;>exact h
       have hTl:TI W N ops e0 i0 n0 org L acc (setLit s d b):=by
        refine⟨hT.good,λt x hx=> ?_,hT.its,hT.nd,hT.lt,hT.nx,hT.cov,hT.org⟩
        simp only[setLit,look] at hx
        split at hx
        ·rename_i hb
         obtain rfl:=Nat.eq_of_beq_eq_true hb
         obtain rfl:=someI' hx
         obtain⟨y,h1,h2⟩:=hT.env _ _ hlook
         exact⟨y,h1,h2⟩
        ·exact hT.env t x hx
       have hlg:∀x∈g,ops[x.1]? =some x.2:=λx hx=>hl x (by rw[hleq];exact List.mem_append_left _ hx)
       have hlp:ops[p.1]? =some p.2:=hl p (by rw[hleq];simp)
       have hlq:∀x∈q,ops[x.1]? =some x.2:=λx hx=>hl x (by rw[hleq];simp[hx])
       obtain⟨Lg,accg,sg',kg1,kg2,kg3,kg4⟩:=exDr_ok hW f true g acc (setLit s d b) _ L hlg key hTl
       obtain⟨m1,m2,m3,m4,m5⟩:=kg4 rfl
       unfold finD at kg1
       split at kg1
       ·rename_i hgp
        split at kg1
        ·rename_i y hy hokp
         let rc:Rc W.S.τ:=⟨p.1,p.2,true,resE' (rdsOf ops p.2) sg'.env,infV ops p.2,⟨dbool y,[],[],[],0⟩,sg'.nx,lookI sg'.its⟩
         have hgood:GoodR W.P W.S N ops rc:=by
          refine⟨hlp,by show dOk N p.2.dst=true;rw[hpd];exact hpdN,rfl,λt x hx=>(look_res hx).2,λρ Ps a ha=>gw_static (P:=W.P) (N:=N) (b:=true) hgp ρ Ps a ha,λ_=>⟨?_,rfl,[],rfl⟩,λe=>(by cases e),rfl⟩
          exact loc_val λa w ρ Ps hev=>⟨.bool y,pick_run hev hpk hy,rfl⟩
         have hT2:TI W N ops e0 i0 n0 org (rc::(Lg++L)) ((p.1,infV ops p.2)::(statics ops g++acc)) (joinD s g pd y):=by
          have hdsL:∀q'∈Lg,∀d',q'.o.dst=some d'→d'∈dsts (g.map (·.2)):=λq' hq' d' hd'=>by
           have:(q'.i,q'.o)∈Lg.map (λr=>(r.i,r.o)):=List.mem_map.2 ⟨q',hq',rfl⟩
           rw[kg3,List.mem_reverse] at this
           exact dsts_mem (List.mem_map.2 ⟨_,this,rfl⟩) hd'
          refine ti_add (s':=joinD s g pd y) kg2 hgood hokp rfl (λt x hx=>(look_res hx).1) (λk=>rfl) (λt x hx=> ?_) ?_ ?_ ?_ λq' hq'=> ?_
          ·simp only[joinD,look] at hx
           split at hx
           ·rename_i hb
            obtain rfl:=Nat.eq_of_beq_eq_true hb
            obtain rfl:=someI' hx
            exact .inl ⟨hpd,imp_refl _⟩
           ·rename_i hb
            obtain⟨e1,e2⟩:=look_drop hx
            refine .inr ⟨λe=> ?_, ?_⟩
            ·have e:p.2.dst=some t:=e
             rw[hpd] at e
             injection e with e
             rw[e,show Nat.beq t t=true from Nat.beq_eq▸rfl] at hb;cases hb
            ·have e3:=m4 t e2
             simp only[setLit,look] at e3
             cases hdt:Nat.beq d t with
             |true=>
              rw[hdt] at e3
              obtain rfl:=Nat.eq_of_beq_eq_true hdt
              rw[hlook] at e1
              obtain rfl:=someI' e1
              exact⟨_,e3,λρ Ps v hv=>hv⟩
             |false=>
              rw[hdt] at e3
              exact⟨x,e3.trans e1,imp_refl _⟩
          ·show s.its=[]++erN [] sg'.its
           rw[m1];rfl
          ·show s.nx=sg'.nx+0
           rw[m2];rfl
          ·show s.org=sg'.org
           rw[m3];rfl
          ·rcases List.mem_cons.1 hq' with rfl|hq'
           ·exact⟨_,List.mem_cons_self ..,cov_refl rc⟩
           ·rcases List.mem_append.1 hq' with hq'|hq'
            ·have hmem:(q'.i,q'.o)∈g:=by
              have:(q'.i,q'.o)∈Lg.map (λr=>(r.i,r.o)):=List.mem_map.2 ⟨q',hq',rfl⟩
              rw[kg3,List.mem_reverse] at this;exact this
             refine⟨_,List.mem_cons_of_mem _ (List.mem_append_left _ (statics_mem (W:=W) (ops:=ops) hmem)), ?_⟩
             obtain⟨t1,t2⟩:=m5 q' hq'
             have hi:=(goodL_mem kg2.good q' (List.mem_append_left _ hq')).inf
             rw[Cov,hi]
             exact⟨rfl,rfl,rfl,by simp[infO,t1],by simp[infO,t2],.inl rfl⟩
            ·obtain⟨a,ha,hc⟩:=hT.cov q' hq'
             exact⟨a,List.mem_cons_of_mem _ (List.mem_append_right _ ha),hc⟩
         obtain⟨L',acc',s',g1,g2,g3,g4⟩:=exDr_ok hW f grp q _ _ k _ hlq kg1 hT2
         refine⟨L'++rc::Lg,acc',s',g1,by rw[List.append_assoc,List.cons_append];exact g2, ?_,λhgrp=> ?_⟩
         ·rw[hleq,List.map_append,List.map_cons,g3,kg3]
          simp[rc]
         ·obtain⟨k1,k2,k3,k4,k5⟩:=g4 hgrp
          have hds:dsts (((i,o)::l).map (·.2))=dsts (g.map (·.2))++pd::dsts (q.map (·.2)):=by
           rw[hleq,List.map_append,dsts_app]
           simp only[List.map_cons,dsts,hpd]
          refine⟨k1,k2,k3,λt ht=> ?_,λq' hq'=> ?_⟩
          ·rw[hds] at ht
           simp only[List.mem_append,List.mem_cons,not_or] at ht
           rw[k4 t ht.2.2]
           simp only[joinD,look]
           have:Nat.beq pd t=false:=by
            cases hb:Nat.beq pd t with
            |false=>rfl
            |true=>exact absurd (Nat.eq_of_beq_eq_true hb).symm ht.2.1
           rw[this]
           exact look_drop_of ht.1
          ·rcases List.mem_append.1 hq' with hq'|hq'
           ·exact k5 q' hq'
           ·rcases List.mem_cons.1 hq' with rfl|hq'
            ·exact⟨rfl,rfl⟩
            ·exact m5 q' hq'
        ·cases kg1
       ·cases kg1
      ·cases h
     ·cases h
    ·cases h
  ·cases h
end
section
variable {R : Type}
theorem numL_mem{α:Type}{ops:Array α}:∀(l:List α)(k:Nat),(∀j x,l[j]? =some x→ops[k+j]? =some x)→∀x∈numL k l,ops[x.1]? =some x.2
 |[],k,h,x,hx=>by cases hx
 |y::l,k,h,x,hx=>by
  rcases List.mem_cons.1 hx with rfl|hx
  ·exact h 0 y rfl
  ·exact numL_mem l (k+1) (λj z hz=>by have:=h (j+1) z (by simpa using hz);rwa[show k+1+j=k+(j+1) from by omega]) x hx
theorem numL_keys{α:Type}:∀(l:List α)(k:Nat),(numL k l).map (·.1)=List.range' k l.length
 |[],k=>rfl
 |y::l,k=>by simp only[numL,List.map_cons,List.length_cons,List.range'_succ,numL_keys l]
theorem lookI_perm{S:Tab}:∀{xs ys:List (Nat×Item S.τ)},(xs.map (·.1)).Nodup→(ys.map (·.1)).Nodup→(∀k,lookI xs k=lookI ys k)→xs.Perm ys:=by
 intro xs ys hx hy h
 have mem:∀{zs:List (Nat×Item S.τ)},(zs.map (·.1)).Nodup→∀z,z∈zs↔lookI zs z.1=some z.2:=by
  intro zs
  induction zs with
  |nil=>intro _ z;simp[lookI]
  |cons y zs ih=>
   obtain⟨j,y⟩:=y
   intro hn z
   simp only[List.map_cons,List.nodup_cons] at hn
   simp only[lookI]
   cases hb:Nat.beq j z.1 with
   |true=>
    have e:=Nat.eq_of_beq_eq_true hb
    simp only[List.mem_cons]
    constructor
    ·rintro(rfl|h)
     ·rfl
     ·exact absurd (List.mem_map.2 ⟨z,h,e.symm⟩) hn.1
    ·intro h
     obtain rfl:=someI' h
     exact .inl (by rw[e])
   |false=>
    simp only[List.mem_cons]
    rw[←ih hn.2]
    constructor
    ·rintro(rfl|h)
     ·rw[show Nat.beq j j=true from Nat.beq_eq▸rfl] at hb;cases hb
     ·exact h
    ·exact .inr
 have nd:∀{zs:List (Nat×Item S.τ)},(zs.map (·.1)).Nodup→zs.Nodup:=λ{zs} h=>by
  induction zs with
  |nil=>exact List.nodup_nil
  |cons z zs ih=>
   simp only[List.map_cons,List.nodup_cons] at h
   exact List.nodup_cons.2 ⟨λhm=>h.1 (List.mem_map_of_mem hm),ih h.2⟩
 refine(List.perm_ext_iff_of_nodup (nd hx) (nd hy)).2 λz=> ?_
 rw[mem hx,mem hy,h]
theorem hold_drew{P:Program}{S:Tab}{C:Cy}{N:Nat}{s:ASt S.τ}{a:Act}{w:World}(h:Hold P S C N s a w):Hold P S C N s a {w with drawn:=w.drawn+1}:=by
 obtain⟨ρ,As,Ps,h⟩:=h
 exact⟨ρ,As,Ps,h.st.ext (Ext.drew w),h.keep.step (Keep.ofExt (F:=[]) (Ext.drew w)) (by simp),h.old,h.size,h.dfr,h.env,h.its,h.dom,h.org⟩
theorem exReg_sound{W:Wk}(hW:WkOk W)(hm:W.P.follows .mixedOrders=true){C:Cy}{N n:Nat}{id:Nat}{ops:Array Oper}{draw:Bool}{fz:List Nat}{s:ASt W.S.τ}{k:ASt W.S.τ→Option R}{r:R}{a:Act}{w:World}{Q:Exit→Act→World→Prop}(h:exReg W N n ops draw fz s k=some r)(hH:Hold W.P W.S C N s a w)
  {ro:Option Nat} {D:List Deferred} (hK:∀s' a' w',k s'=some r→Hold W.P W.S C N s' a' w'→Q .normal a' w'):(Code.region id ops draw).wpIn (roF ro) 0 W.P (liftQ D Q) (setD D a) w:=by
 cases draw with
 |false=>
  have:=exOps_sound hW _ none ops.toList [] s k a w (Q:=Q) h hH λs' a' w' h1 _ h2=>hK s' a' w' h1 h2
  rw[List.append_nil] at this
  exact wpIn_region_list (wpListX_in this)
 |true=>
  unfold exReg at h
  simp only at h
  have hH1:=hold_drew (freezes_hold hW.ok (ks:=fzIds s.env fz) hH)
  generalize freezes (fzIds s.env fz) s=s1 at h hH1
  split at h
  ·rename_i hback hnd
   have hlt:∀x∈s1.its,x.1<s1.nx:=λx hx=>by
    obtain⟨ρ,As,Ps,hH⟩:=hH1
    obtain⟨A,_,hrel⟩:=all2_mem hH.its x hx
    obtain⟨g,hg⟩:=item_some hrel
    exact hH.dom _ g hg
   have hT0:TI W N ops s1.env s1.its s1.nx s1.org [] [] s1:=⟨trivial,λt x hx=>⟨x,hx,imp_refl x⟩,λk=>rfl,ndN_iff hnd,hlt,⟨Nat.le_refl _,by simp⟩,by simp,rfl⟩
   obtain⟨L,acc',s',h1,hT,hmap,_⟩:=exDr_ok hW (ops:=ops) (ops.size*2+2) false (numL 0 ops.toList) [] s1 _ [] (numL_mem ops.toList 0 λj x hx=>by rw[Nat.zero_add];simpa using hx) h hT0
   rw[List.append_nil] at hT
   have hkeys:L.map (·.i)=(List.range ops.size).reverse:=by
    have:=congrArg (List.map (·.1)) hmap
    rw[List.map_reverse,numL_keys,List.map_map] at this
    rw[List.range_eq_range',←Array.length_toList]
    exact this
   have hnodup:(L.map (·.i)).Nodup:=by rw[hkeys];exact(List.reverse_perm _).nodup_iff.2 List.nodup_range
   have hall:∀i,i<ops.size→∃q∈L,q.i=i:=λi hi=>by
    have:i∈L.map (·.i):=by rw[hkeys,List.mem_reverse];exact List.mem_range.2 hi
    obtain⟨q,hq,e⟩:=List.mem_map.1 this
    exact⟨q,hq,e⟩
   have hlti:∀q∈L,q.i<ops.size:=λq hq=>by
    have:q.i∈L.map (·.i):=List.mem_map_of_mem hq
    rw[hkeys,List.mem_reverse] at this
    exact List.mem_range.1 this
   refine c_region_absX ops (λT a w=>∃ρ As Ps its,DJ W.P W.S C N ops s1.env s1.its s1.nx s1.org L T a w ρ As Ps its) hm rfl hback ?_ ?_ ?_
   ·obtain⟨ρ,As,Ps,hH⟩:=hH1
    refine⟨ρ,As,Ps,s1.its,hH.st,hH.keep,hH.old,hH.size,hH.dfr,λt x hx=>hH.env t x ?_,ndN_iff hnd,λk=> ?_,hH.its,λk g hk=> .inl (hH.dom k g hk),hH.org⟩
    ·have:∀l:List (Rc W.S.τ),envF s1.env (λ_=>false) l t=look s1.env t:=by
      intro l
      induction l with
      |nil=>rfl
      |cons q l ih=>simp only[envF,Bool.false_and];exact ih
     rw[this] at hx;exact hx
    ·have:∀l:List (Rc W.S.τ),itF s1.its (λ_=>false) l k=lookI s1.its k:=by
      intro l
      induction l with
      |nil=>rfl
      |cons q l ih=>simp only[itF];exact ih
     rw[this]
   ·intro T i a w hJ hi hTi hpr hclo
    exact dj_step hT.good hJ hTi hpr hclo (hall i hi) λl1 l2 q e p hp he=>by
     rw[e,List.map_append,List.map_cons,List.nodup_append] at hnodup
     rcases List.mem_append.1 hp with hp|hp
     ·exact hnodup.2.2 p.i (List.mem_map_of_mem hp) q.i (List.mem_cons_self ..) he
     ·exact(List.nodup_cons.1 hnodup.2.1).1 (by rw[←he];exact List.mem_map_of_mem hp)
   ·intro T a w hJ hTall
    obtain⟨ρ,As,Ps,its,hJ⟩:=hJ
    have hT1:∀q∈L,T q.i=true:=λq hq=>hTall q.i (hlti q hq)
    have hperm:its.Perm s'.its:=lookI_perm hJ.nd hT.nd λk=>by
     rw[hJ.look k,hT.its k]
     exact itF_skip λq hq hne=>absurd (hT1 q hq) hne
    obtain⟨As',hp',hits'⟩:=All2.perm hperm hJ.its
    refine hK s' a w h1 ⟨ρ,As',Ps,hJ.st.perm hp',hJ.keep,λb hb=>hJ.old b ((fps_perm hp').mem_iff.2 hb),hJ.size,hJ.dfr,λt x hx=> ?_,hits',λk g hk=> ?_,λi k g h2 h3=>hJ.org i k g (by rw[←hT.org];exact h2) h3⟩
    ·obtain⟨y,h2,h3⟩:=hT.env t x hx
     refine h3 _ _ _ (hJ.env t y ?_)
     rw[←h2]
     exact envF_skip λq hq hne=>absurd (hT1 q hq) hne
    ·rcases hJ.dom k g hk with h2|⟨q,hq,_,_,h3⟩
     ·exact Nat.lt_of_lt_of_le h2 hT.nx.1
     ·exact Nat.lt_of_lt_of_le h3 (hT.nx.2 q hq)
  ·cases h
end
end Go.Bur
