import Derived.Test.YtchocpffjnodfaaGreatGl
namespace Go.Bur
open Go.RowKit
set_option linter.unusedVariables false
set_option linter.unusedSimpArgs false
structure Keep(F:List Nat)(w w':World):Prop where
 os:w'.os=w.os
 tape:w'.tape=w.tape
 output:w'.output=w.output
 drawn:Drn w w'
 size:w.heap.size≤w'.heap.size
 block:∀k,k<w.heap.size→k∉F→w'.heap[k]? =w.heap[k]?
theorem Keep.refl(F:List Nat)(w:World):Keep F w w:=⟨rfl,rfl,rfl,Drn.refl _,Nat.le_refl _,λ_ _ _=>rfl⟩
theorem Keep.step{F G:List Nat}{a b c:World}(h:Keep F a b)(k:Keep G b c)(hG:∀x∈G,x∈F∨a.heap.size≤x):Keep F a c:=
 ⟨k.os.trans h.os,k.tape.trans h.tape,k.output.trans h.output,h.drawn.trans k.drawn,Nat.le_trans h.size k.size,λi hi hn=>(k.block i (Nat.lt_of_lt_of_le hi h.size) (λhm=>by
  rcases hG i hm with h1|h1
  ·exact hn h1
  ·omega)).trans (h.block i hi hn)⟩
theorem Keep.weak{F G:List Nat}{a b:World}(h:Keep F a b)(hG:∀x∈F,x∈G):Keep G a b:=
 ⟨h.os,h.tape,h.output,h.drawn,h.size,λk hk hn=>h.block k hk λhm=>hn (hG k hm)⟩
theorem Keep.ofExt{F:List Nat}{a b:World}(h:Ext a b):Keep F a b:=⟨h.os,h.tape,h.output,h.drawn,h.size,λk hk _=>h.block hk⟩
theorem Keep.toExt{a b:World}(h:Keep [] a b):Ext a b:=⟨⟨h.os,h.tape,h.output,h.size,λk hk=>h.block k hk (by simp)⟩,h.drawn⟩
theorem Keep.grown{F:List Nat}{w w':World}{r:Option Nat}(h:w.grownBy w' r)(hr:∀b,r=some b→b∈F)(hd:Drn w w':=by first|exact Drn.setRow|exact Drn.refl _):Keep F w w':=
 ⟨h.os,h.tape,h.output,hd,h.size,λk hk hn=>h.block k hk λe=>hn (hr k e.symm)⟩
def Bx(F:List Nat)(w:World)(p:World→Prop):Prop:=∀w',Keep F w w'→p w'
theorem Bx.here{F:List Nat}{w:World}{p:World→Prop}(h:Bx F w p):p w:=h w (Keep.refl _ _)
theorem Bx.step{F F' G:List Nat}{w w1:World}{p:World→Prop}(h:Bx F w p)(k:Keep G w w1)(hG:∀x∈G,x∈F∨w.heap.size≤x)(hF:∀x∈F',x∈F∨w.heap.size≤x):Bx F' w1 p:=
 λw' hk=>h w' (((Keep.refl F w).step k hG).step hk hF)
theorem Bx.weak{F F':List Nat}{w:World}{p:World→Prop}(h:Bx F w p)(hF:∀x∈F',x∈F∨w.heap.size≤x):Bx F' w p:=h.step (Keep.refl [] w) (by simp) hF
theorem Bx.mono{F:List Nat}{w:World}{p q:World→Prop}(h:Bx F w p)(hi:∀w,p w→q w):Bx F w q:=λw' hk=>hi w' (h w' hk)
inductive Asn where
 |box (b:Nat) (cs:List Value)
 |row (a:Option Addr) (c e sz n:Nat) (cs:List Value)
 |any (F:List Nat) (p:World→Prop)
def Asn.fp:Asn→List Nat
 | .box b _=>[b]
 | .row (some A) _ _ _ _ _=>[A.block]
 | .row none _ _ _ _ _=>[]
 | .any F _=>F
def Asn.holds:Asn→World→Prop
 | .box b cs,w=>Own w b cs
 | .row a c e sz n cs,w=>w.ownsRow 0 e sz (.slice a n c) n cs
 | .any F p,w=>∀w',(∀k∈F,w'.heap[k]? =w.heap[k]?)→p w'
theorem Asn.same{A:Asn}{w w':World}(h:A.holds w)(hk:∀k∈A.fp,w'.heap[k]? =w.heap[k]?):A.holds w':=by
 cases A with
 |box b cs=>
  obtain⟨T,hT⟩:=h
  exact⟨T,by rw[hk b (by simp[Asn.fp])];exact hT⟩
 |row a c e sz n cs=>
  refine⟨h.1, ?_⟩
  rcases h.2 with hn|⟨g,cap,cur,hv,hb,hgg,rest⟩
  ·exact .inl hn
  ·refine .inr ⟨g,cap,cur,hv,hb, ?_,rest⟩
   injection hv with ha
   subst ha
   rw[hk g (by simp[Asn.fp])]
   exact hgg
 |any F p=>exact λw'' h2=>h w'' λk hm=>(h2 k hm).trans (hk k hm)
def fps(As:List Asn):List Nat:=As.flatMap Asn.fp
theorem mem_fps{As:List Asn}{b:Nat}:b∈fps As↔∃A∈As,b∈A.fp:=by simp[fps,List.mem_flatMap]
theorem fps_cons(A:Asn)(As:List Asn):fps (A::As)=A.fp++fps As:=by simp[fps]
theorem fps_append(As Bs:List Asn):fps (As++Bs)=fps As++fps Bs:=by simp[fps]
theorem fps_perm{As Bs:List Asn}(h:As.Perm Bs):(fps As).Perm (fps Bs):=h.flatMap_right _
structure St(R:List Nat)(w:World)(As:List Asn)(Ps:List (World→Prop)):Prop where
 own:∀A∈As,A.holds w
 lt:∀b∈R++fps As,b<w.heap.size
 nd:(R++fps As).Nodup
 per:∀p∈Ps,Bx (R++fps As) w p
 gl:∀p∈glob,Bx (R++fps As) w p
theorem St.perm{R:List Nat}{w:World}{As Bs:List Asn}{Ps:List (World→Prop)}(h:St R w As Ps)(hp:As.Perm Bs):St R w Bs Ps:=by
 have hf:=(fps_perm hp).append_left R
 exact⟨λA hA=>h.own A (hp.mem_iff.2 hA),λb hb=>h.lt b (hf.mem_iff.2 hb),hf.nodup_iff.1 h.nd,λp hp'=>(h.per p hp').weak λx hx=> .inl (hf.mem_iff.2 hx),λp hp'=>(h.gl p hp').weak λx hx=> .inl (hf.mem_iff.2 hx)⟩
theorem St.sub{R:List Nat}{w:World}{As Bs:List Asn}{Ps Qs:List (World→Prop)}(h:St R w (As++Bs) Ps)(hq:∀q∈Qs,q∈Ps):St R w As Qs:=by
 refine⟨λA hA=>h.own A (List.mem_append_left _ hA),λb hb=>h.lt b ?_, ?_,λp hp=>(h.per p (hq p hp)).weak λx hx=> .inl ?_,λp hp=>(h.gl p hp).weak λx hx=> .inl (by rw[fps_append,←List.append_assoc];exact List.mem_append_left _ hx)⟩
 ·rw[fps_append,←List.append_assoc];exact List.mem_append_left _ hb
 ·have:=h.nd
  rw[fps_append,←List.append_assoc] at this
  exact(List.nodup_append.1 this).1
 ·rw[fps_append,←List.append_assoc];exact List.mem_append_left _ hx
theorem St.own_keep{R G:List Nat}{w w':World}{As:List Asn}{Ps:List (World→Prop)}(h:St R w As Ps)(hk:Keep G w w'){A:Asn}(hA:A∈As)(hd:∀b∈A.fp,b∉G):A.holds w':=
 Asn.same (h.own A hA) λk hm=>hk.block k (h.lt k (List.mem_append_right _ (mem_fps.2 ⟨A,hA,hm⟩))) (hd k hm)
theorem St.ext{R:List Nat}{w w':World}{As:List Asn}{Ps:List (World→Prop)}(h:St R w As Ps)(hk:Ext w w'):St R w' As Ps:=
 ⟨λA hA=>h.own_keep (Keep.ofExt (F:=[]) hk) hA (by simp),λb hb=>Nat.lt_of_lt_of_le (h.lt b hb) hk.size,h.nd,
  λp hp=>(h.per p hp).step (Keep.ofExt (F:=[]) hk) (by simp) λx hx=> .inl hx,λp hp=>(h.gl p hp).step (Keep.ofExt (F:=[]) hk) (by simp) λx hx=> .inl hx⟩
theorem St.new{R:List Nat}{w w':World}{As:List Asn}{Ps:List (World→Prop)}(h:St R w As Ps)(hk:Ext w w'){A:Asn}(hA:A.holds w')(hf:∀b∈A.fp,w.heap.size≤b∧b<w'.heap.size)(hn:A.fp.Nodup):St R w' (A::As) Ps:=by
 have h':=h.ext hk
 have hin:∀x∈R++fps (A::As),x∈R++fps As∨w.heap.size≤x:=λx hx=>by
  rw[fps_cons] at hx
  simp only[List.mem_append] at hx⊢
  rcases hx with hx|hx|hx
  ·exact .inl (.inl hx)
  ·exact .inr (hf x hx).1
  ·exact .inl (.inr hx)
 refine⟨λB hB=> ?_,λb hb=> ?_, ?_,λp hp=>(h.per p hp).step (Keep.ofExt (F:=[]) hk) (by simp) hin,λp hp=>(h.gl p hp).step (Keep.ofExt (F:=[]) hk) (by simp) hin⟩
 ·rcases List.mem_cons.1 hB with rfl|hB
  ·exact hA
  ·exact h'.own B hB
 ·rw[fps_cons] at hb
  simp only[List.mem_append] at hb
  rcases hb with hb|hb|hb
  ·exact h'.lt b (List.mem_append_left _ hb)
  ·exact(hf b hb).2
  ·exact h'.lt b (List.mem_append_right _ hb)
 ·rw[fps_cons]
  have hp:(R++(A.fp++fps As)).Perm (A.fp++(R++fps As)):=by
   rw[←List.append_assoc,←List.append_assoc];exact List.perm_append_comm.append_right _
  refine hp.nodup_iff.2 (List.nodup_append.2 ⟨hn,h.nd,λx hx y hy e=> ?_⟩)
  subst e
  have h1:=(hf x hx).1
  have h2:=h.lt x hy
  omega
theorem St.set{R:List Nat}{w w':World}{A B:Asn}{As:List Asn}{Ps:List (World→Prop)}(h:St R w (A::As) Ps)(hk:Keep A.fp w w')(hB:B.holds w')(hf:∀b∈B.fp,b∈A.fp∨(w.heap.size≤b∧b<w'.heap.size))(hn:B.fp.Nodup):St R w' (B::As) Ps:=by
 have hnd:=h.nd
 rw[fps_cons,List.nodup_append] at hnd
 obtain⟨hR,hAA,hRA⟩:=hnd
 rw[List.nodup_append] at hAA
 obtain⟨hA1,hA2,hA3⟩:=hAA
 have hlt:∀b∈R++fps (A::As),b<w'.heap.size:=λb hb=>Nat.lt_of_lt_of_le (h.lt b hb) hk.size
 have hin1:∀x∈A.fp,x∈R++fps (A::As)∨w.heap.size≤x:=λx hx=> .inl (by rw[fps_cons];simp[hx])
 have hin2:∀x∈R++fps (B::As),x∈R++fps (A::As)∨w.heap.size≤x:=λx hx=>by
  rw[fps_cons] at hx⊢
  simp only[List.mem_append] at hx⊢
  rcases hx with hx|hx|hx
  ·exact .inl (.inl hx)
  ·rcases hf x hx with h1|h1
   ·exact .inl (.inr (.inl h1))
   ·exact .inr h1.1
  ·exact .inl (.inr (.inr hx))
 refine⟨λC hC=> ?_,λb hb=> ?_, ?_,λp hp=>(h.per p hp).step hk hin1 hin2,λp hp=>(h.gl p hp).step hk hin1 hin2⟩
 ·rcases List.mem_cons.1 hC with rfl|hC
  ·exact hB
  ·exact h.own_keep hk (List.mem_cons_of_mem _ hC) λb hb hbA=>hA3 b hbA b (mem_fps.2 ⟨C,hC,hb⟩) rfl
 ·rw[fps_cons] at hb
  simp only[List.mem_append] at hb
  rcases hb with hb|hb|hb
  ·exact hlt b (List.mem_append_left _ hb)
  ·rcases hf b hb with h1|h1
   ·exact hlt b (by rw[fps_cons];simp[h1])
   ·exact h1.2
  ·exact hlt b (by rw[fps_cons];simp[hb])
 ·rw[fps_cons,List.nodup_append]
  refine⟨hR,List.nodup_append.2 ⟨hn,hA2,λx hx y hy e=> ?_⟩,λx hx y hy e=> ?_⟩
  ·subst e
   rcases hf x hx with h1|h1
   ·exact hA3 x h1 x hy rfl
   ·have:=h.lt x (by rw[fps_cons];simp[hy]);omega
  ·subst e
   rcases List.mem_append.1 hy with h1|h1
   ·rcases hf x h1 with h2|h2
    ·exact hRA x hx x (List.mem_append_left _ h2) rfl
    ·have:=h.lt x (List.mem_append_left _ hx);omega
   ·exact hRA x hx x (List.mem_append_right _ h1) rfl
theorem St.lend{R:List Nat}{w:World}{Ag Al Ar:List Asn}{Ps Pg:List (World→Prop)}(h:St R w (Ag++(Al++Ar)) Ps)(hg:∀p∈Pg,Bx (R++fps Ar++fps Ag) w p):St (R++fps Ar) w Ag Pg:=by
 have hp:(R++fps (Ag++(Al++Ar))).Perm ((R++fps Ar++fps Ag)++fps Al):=by
  rw[List.perm_iff_count];intro x;simp only[fps_append,List.count_append];omega
 refine⟨λA hA=>h.own A (List.mem_append_left _ hA),λb hb=>h.lt b (hp.mem_iff.2 (List.mem_append_left _ hb)),(List.nodup_append.1 (hp.nodup_iff.1 h.nd)).1,hg,λp hpp=>(h.gl p hpp).weak λx hx=> .inl (hp.mem_iff.2 (List.mem_append_left _ hx))⟩
theorem St.back{R:List Nat}{w w':World}{Ag Al Ar A':List Asn}{Ps P':List (World→Prop)}(h:St R w (Ag++(Al++Ar)) Ps)(h':St (R++fps Ar) w' A' P')(hk:Keep (fps Ag) w w')(hb:∀b∈fps A',b∈fps Ag∨w.heap.size≤b):
  St R w' (A'++(Al++Ar)) Ps∧(Al=[]→St R w' (A'++(Al++Ar)) (P'++Ps)):=by
 have hnd:=h.nd
 rw[fps_append,List.nodup_append] at hnd
 obtain⟨hR,hAA,hRA⟩:=hnd
 rw[List.nodup_append] at hAA
 obtain⟨hA1,hA2,hA3⟩:=hAA
 have hnd':=h'.nd
 rw[List.nodup_append] at hnd'
 obtain⟨_,hA',hRA'⟩:=hnd'
 have hltw:∀b∈R++fps (Ag++(Al++Ar)),b<w.heap.size:=h.lt
 have hlr:∀b∈fps (Al++Ar),b<w.heap.size:=λb hb=>h.lt b (by rw[fps_append];simp[hb])
 have hin:∀x∈R++fps (A'++(Al++Ar)),x∈R++fps (Ag++(Al++Ar))∨w.heap.size≤x:=λx hx=>by
  rw[fps_append] at hx⊢
  simp only[List.mem_append] at hx⊢
  rcases hx with hx|hx|hx
  ·exact .inl (.inl hx)
  ·rcases hb x hx with h1|h1
   ·exact .inl (.inr (.inl h1))
   ·exact .inr h1
  ·exact .inl (.inr (.inr hx))
 have hdis:∀x∈fps A',∀y∈fps (Al++Ar),x≠y:=λx hx y hy e=>by
  subst e
  rcases hb x hx with h1|h1
  ·exact hA3 x h1 x hy rfl
  ·have:=hlr x hy;omega
 have hdisR:∀x∈R,∀y∈fps A',x≠y:=λx hx y hy=>hRA' x (List.mem_append_left _ hx) y hy
 have own:∀A∈A'++(Al++Ar),A.holds w':=λA hA=>by
  rcases List.mem_append.1 hA with hA|hA
  ·exact h'.own A hA
  ·exact h.own_keep hk (List.mem_append_right _ hA) λb hb' hbG=>hA3 b hbG b (mem_fps.2 ⟨A,hA,hb'⟩) rfl
 have lt:∀b∈R++fps (A'++(Al++Ar)),b<w'.heap.size:=λb hb'=>by
  rw[fps_append] at hb'
  simp only[List.mem_append] at hb'
  rcases hb' with h1|h1|h1
  ·exact Nat.lt_of_lt_of_le (h.lt b (List.mem_append_left _ h1)) hk.size
  ·exact h'.lt b (List.mem_append_right _ h1)
  ·exact Nat.lt_of_lt_of_le (hlr b h1) hk.size
 have nd:(R++fps (A'++(Al++Ar))).Nodup:=by
  rw[fps_append,List.nodup_append,List.nodup_append]
  refine⟨hR,⟨hA',hA2,hdis⟩,λx hx y hy=> ?_⟩
  rcases List.mem_append.1 hy with h1|h1
  ·exact hdisR x hx y h1
  ·exact hRA x hx y (List.mem_append_right _ h1)
 have per:∀p∈Ps,Bx (R++fps (A'++(Al++Ar))) w' p:=λp hp=>(h.per p hp).step hk (λx hx=> .inl (by rw[fps_append];simp[hx])) hin
 have gl:∀p∈glob,Bx (R++fps (A'++(Al++Ar))) w' p:=λp hp=>(h.gl p hp).step hk (λx hx=> .inl (by rw[fps_append];simp[hx])) hin
 refine⟨⟨own,lt,nd,per,gl⟩,λe=>⟨own,lt,nd,λp hp=> ?_,gl⟩⟩
 rcases List.mem_append.1 hp with hp|hp
 ·subst e
  refine(h'.per p hp).weak λx hx=> .inl ?_
  rw[fps_append,List.nil_append] at hx
  simp only[List.mem_append] at hx⊢
  rcases hx with h1|h1|h1
  ·exact .inl (.inl h1)
  ·exact .inr h1
  ·exact .inl (.inr h1)
 ·exact per p hp
def Meets(P:Program)(g:FuncId)(args:Array Value)(As:List Asn)(Ps:List (World→Prop))(Q:Value→List Asn→List (World→Prop)→Prop):Prop:=
 (∀args w,(callFunc g args).run P w= .ok (.enter g args) w)∧
 ∀R w,St R w As Ps→Calls P g args w λe w'=>∃v A' P',e= .returned v∧Q v A' P'∧Keep (fps As) w w'∧St R w' A' P'∧∀b∈fps A',b∈fps As∨w.heap.size≤b
structure Cx where
 R:List Nat
 F:List Nat
 w0:World
structure Sy(C:Cx)(n:Nat)(a:Act)(w:World)(L:Env)(As:List Asn)(Ps:List (World→Prop)):Prop where
 has:Has a n L
 st:St C.R w As Ps
 keep:Keep C.F C.w0 w
 old:∀b∈fps As,b∈C.F∨C.w0.heap.size≤b
def RetQ(C:Cx)(Q:Value→List Asn→List (World→Prop)→Prop)(e:Ending)(w:World):Prop:=
 ∃v A' P',e= .returned v∧Q v A' P'∧Keep C.F C.w0 w∧St C.R w A' P'∧∀b∈fps A',b∈C.F∨C.w0.heap.size≤b
theorem meets_enter{P:Program}{g:FuncId}{fn:Func}{args:Array Value}{As:List Asn}{Ps:List (World→Prop)}{Q:Value→List Asn→List (World→Prop)→Prop}(N:Nat)(hf:P.funcs[g]? =some fn)(hc:∀args w,(callFunc g args).run P w= .ok (.enter g args) w)
  (hb:fn.body=some (bodyOf fn)) (hn:fn.ntmps=N) (hs:args.size≤N)
  (h:∀(C:Cx) a w,Sy C N a w (args.toList.zipIdx.map λp=>(p.2,p.1)) As Ps→(bodyOf fn).wp P (bodyPost P fn (RetQ C Q)) a w):Meets P g args As Ps Q:=by
 refine⟨hc,λR w hst=> ?_⟩
 refine enter N hf hb hn hs λa hA=> ?_
 exact h ⟨R,fps As,w⟩ a w ⟨hA,hst,Keep.refl _ _,λb hb=> .inl hb⟩
end Go.Bur
