import Derived.Test.YtchocpffjnodfaaGreatNet
namespace Go.Bur
open Go.RowKit
set_option linter.unusedVariables false
set_option linter.unusedSimpArgs false
abbrev RSg{α:Type}(G:GoT α)(a:Option Addr)(c:Nat)(l:List α):World→Prop:=λw=>RS (G:=G) w a c l
theorem cell_block{w w':World}{A:Addr}(h:w'.heap[A.block]? =w.heap[A.block]?):w'.cell? A=w.cell? A:=by
 unfold World.cell?;rw[h]
theorem add_block(A:Addr)(k:Nat):(A.add k).block=A.block:=by unfold Addr.add;split<;>rfl
theorem CellsAt.keep{w w':World}{A:Addr}{cs:List Value}(h:CellsAt w A cs)(hb:w'.heap[A.block]? =w.heap[A.block]?):CellsAt w' A cs:=λk u hu=>by
 rw[cell_block (A:=A.add k) (w:=w) (by rw[add_block];exact hb)];exact h k u hu
def World.void(w:World)(b:Nat):World:={w with heap:=w.heap.setIfInBounds b (.cells #[] 0 (0,0))}
theorem void_keep{w:World}{b:Nat}:Keep [b] w (World.void w b):=⟨rfl,rfl,rfl,Drn.setB (Nat.le_refl _) rfl (λc T fr h=>by cases h;rfl),by simp[World.void],λk hk hn=>by
 have:b≠k:=λe=>hn (by simp[e])
 simp[World.void,this]⟩
theorem void_cells{w:World}{A:Addr}{cs:List Value}(h:CellsAt (World.void w A.block) A cs)(hb:A.block<w.heap.size):cs=[]:=by
 cases cs with
 |nil=>rfl
 |cons u r=>
  exfalso
  have:=h 0 u rfl
  rw[add_zero'] at this
  unfold World.cell? World.void at this
  simp[hb] at this
theorem block_lt{w:World}{A:Addr}{cs:List Value}(h:CellsAt w A cs)(hn:cs≠[]):A.block<w.heap.size:=by
 cases cs with
 |nil=>exact absurd rfl hn
 |cons u r=>
  have:=World.block_lt_of_cell? _ _ (h 0 u rfl)
  rwa[add_block] at this
theorem stable{F:List Nat}{w:World}{A:Addr}{n:Nat}{p:World→List Value→Prop}(hl:∀w cs,p w cs→cs.length=n)(h:Bx F w (λw=>∃cs,CellsAt w A cs∧p w cs)):
  ∃cs,cs.length=n∧Bx F w (Cel A cs)∧Bx F w (λw=>p w cs):=by
 obtain⟨cs,h1,h2⟩:=h.here
 have hlen:=hl _ _ h2
 by_cases hn:n=0
 ·have h0:cs=[]:=List.eq_nil_of_length_eq_zero (by omega)
  refine⟨cs,hlen,λw' _=>by subst h0;intro k u hu;simp at hu,λw' hk=> ?_⟩
  obtain⟨cs',_,h4⟩:=h w' hk
  have:cs'=[]:=List.eq_nil_of_length_eq_zero (by rw[hl _ _ h4];exact hn)
  rw[h0,←this];exact h4
 ·have hne:cs≠[]:=λe=>by subst e;simp at hlen;omega
  have hlt:=block_lt h1 hne
  have hF:A.block∉F:=λhm=>by
   obtain⟨cs',h3,h4⟩:=h _ (void_keep.weak (F:=[A.block]) λx hx=>by simp at hx;rw[hx];exact hm)
   have:=void_cells h3 hlt
   have h5:=hl _ _ h4
   rw[this] at h5;simp at h5;omega
  have hb:∀w',Keep F w w'→w'.heap[A.block]? =w.heap[A.block]? :=λw' hk=>hk.block _ hlt hF
  refine⟨cs,hlen,λw' hk=>h1.keep (hb w' hk),λw' hk=> ?_⟩
  obtain⟨cs',h3,h4⟩:=h w' hk
  have h5:=h1.keep (hb w' hk)
  have:cs'=cs:=by
   refine List.ext_getElem? λk=> ?_
   by_cases hk:k<n
   ·have e1:cs'[k]? =some (cs'[k]'(by rw[hl _ _ h4];exact hk)):=List.getElem?_eq_getElem _
    have e2:cs[k]? =some (cs[k]'(by omega)):=List.getElem?_eq_getElem _
    have f1:=h3 k _ e1
    have f2:=h5 k _ e2
    rw[f1] at f2
    rw[e1,e2,f2]
   ·rw[List.getElem?_eq_none (by rw[hl _ _ h4];omega),List.getElem?_eq_none (by omega)]
  rw[←this];exact h4
section
variable {α : Type} {G : GoT α} {a : Option Addr} {c : Nat} {l : List α} {j : Int} {x : α} {w : World} {F : List Nat}
theorem gidx(h:Bx F w (RSg G a c l))(hx:idx l j=some x):Inb a l.length j∧∃cs,Bx F w (Cel ((baseOf a).add (j.toNat*G.sz)) cs)∧Bx F w (λw=>G.rep w cs x):=by
 refine⟨(RS.idx h.here hx).1, ?_⟩
 obtain⟨cs,_,h1,h2⟩:=stable (A:=(baseOf a).add (j.toNat*G.sz)) (p:=λw cs=>G.rep w cs x) (λw cs h=>G.len h) λw' hk=>by
  obtain⟨_,e,h1,h2⟩:=RS.idx (h w' hk) hx
  exact⟨e,h2,h1⟩
 exact⟨cs,h1,h2⟩
theorem gsub{lo hi:Int}{m:List α}(h:Bx F w (RSg G a c l))(hm:Bur.sub l lo hi=some m):
  (0≤lo∧lo≤hi∧hi≤(c:Int))∧hi.toNat-lo.toNat=m.length∧Bx F w (RSg G (slA a lo.toNat c G.sz) (c-lo.toNat) m):=
 ⟨(RS.sub h.here hm).1,(RS.sub h.here hm).2.1,λw' hk=>(RS.sub (h w' hk) hm).2.2⟩
theorem gnil:Bx F w (RSg G a c []):=λw' _=>RS.nil _ _ _
end
@[reducible] def slG{α:Type}(G:GoT α):GoT (List α) where
 sz:=1
 rep w vs l:=∃a c,vs=[.slice a l.length c]∧RS (G:=G) w a c l
 len:=fun⟨_,_,h,_⟩=>by rw[h];rfl
 mono:=fun⟨a,c,h,k⟩ e=>⟨a,c,h,k.mono e⟩
 one:=fun⟨_,_,h,_⟩=>by rw[h];exact oneAll rfl
theorem slG_open{α:Type}{G:GoT α}{F:List Nat}{w:World}{cs:List Value}{l:List α}(h:Bx F w (λw=>(slG G).rep w cs l)):∃a c,cs=[.slice a l.length c]∧Bx F w (RSg G a c l):=by
 obtain⟨a,c,h1,_⟩:=h.here
 refine⟨a,c,h1,λw' hk=> ?_⟩
 obtain⟨a',c',h3,h4⟩:=h w' hk
 rw[h1] at h3
 simp only[List.cons.injEq,Value.slice.injEq,and_true] at h3
 obtain⟨rfl,-,rfl⟩:=h3
 exact h4
inductive Reps{α:Type}(G:GoT α)(w:World):List Value→List α→Prop where
 |nil:Reps G w [] []
 |cons {e:List Value} {x:α} {cs:List Value} {l:List α}:G.rep w e x→Reps G w cs l→Reps G w (e++cs) (x::l)
abbrev RepsB{α:Type}(G:GoT α)(cs:List Value)(l:List α):World→Prop:=λw=>Reps G w cs l
theorem Reps.len{α:Type}{G:GoT α}{w:World}{cs:List Value}{l:List α}(h:Reps G w cs l):cs.length=l.length*G.sz:=by
 induction h with
 |nil=>simp
 |cons h1 _ ih=>rw[List.length_append,G.len h1,ih,List.length_cons,Nat.succ_mul,Nat.add_comm]
theorem Reps.one{α:Type}{G:GoT α}{w:World}{cs:List Value}{l:List α}(h:Reps G w cs l):∀v∈cs,v.oneCell'=true:=by
 induction h with
 |nil=>simp
 |cons h1 _ ih=>
  intro v hv
  rcases List.mem_append.1 hv with hv|hv
  ·exact G.one h1 v hv
  ·exact ih v hv
theorem Reps.app{α:Type}{G:GoT α}{w:World}{cs ds:List Value}{l m:List α}(h:Reps G w cs l)(k:Reps G w ds m):Reps G w (cs++ds) (l++m):=by
 induction h with
 |nil=>exact k
 |cons h1 _ ih=>rw[List.append_assoc,List.cons_append];exact .cons h1 ih
theorem Reps.at_{α:Type}{G:GoT α}{w:World}{cs:List Value}{l:List α}(h:Reps G w cs l):∀(i:Nat)(x:α),l[i]? =some x→G.rep w ((cs.drop (i*G.sz)).take G.sz) x:=by
 induction h with
 |nil=>intro i x hx;simp at hx
 | @cons e y cs l h1 h2 ih=>
  intro i x hx
  have hlen:=G.len h1
  cases i with
  |zero=>
   simp only[List.getElem?_cons_zero,Option.some.injEq] at hx
   subst hx
   rw[Nat.zero_mul,List.drop_zero,←hlen,List.take_left];exact h1
  |succ i=>
   simp only[List.getElem?_cons_succ] at hx
   have e1:(e++cs).drop ((i+1)*G.sz)=cs.drop (i*G.sz):=by
    rw[Nat.succ_mul,Nat.add_comm,←List.drop_drop,←hlen,List.drop_left]
   rw[e1];exact ih i x hx
theorem Reps.rs{α:Type}{G:GoT α}{w:World}{a:Option Addr}{c:Nat}{cs:List Value}{l:List α}(h:Reps G w cs l)(hc:CellsAt w (baseOf a) cs)(hcap:l.length≤c)(hs:l≠[]→a≠none):RS (G:=G) w a c l:=
 ⟨hcap,hs,λi x hx=>⟨_,h.at_ i x hx,hc.sub (i*G.sz) G.sz⟩⟩
theorem row_cells{A:Option Addr}{c e sz k:Nat}{cs:List Value}{w:World}(h:(Asn.row A c e sz k cs).holds w):CellsAt w (baseOf A) cs∧k≤c∧(k≠0→A≠none):=by
 have h':w.ownsRow 0 e sz (.slice A k c) k cs:=h
 rcases h'.2 with⟨hv,hn⟩|⟨g,cap,cur,hv,_,hg,hnc,hcm,hcs,htake⟩
 ·injection hv with h1 h2 h3
  subst h1
  have hl:cs.length=0:=by rw[h'.1,hn,Nat.zero_mul]
  have:cs=[]:=List.eq_nil_of_length_eq_zero hl
  subst this
  exact⟨λk u hu=>by simp at hu,by omega,λh=>absurd hn h⟩
 ·injection hv with h1 h2 h3
  subst h1 h3
  refine⟨λj u hu=> ?_,hnc,λ_ h=>by cases h⟩
  exact h'.cells (g:=g) rfl j u hu
end Go.Bur
