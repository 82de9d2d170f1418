import Derived.Test.YtchocpffjnodfaaGreatRw
namespace Go.Bur
open Go.RowKit
set_option linter.unusedVariables false
set_option linter.unusedSimpArgs false
section
variable {S : Tab}
theorem claim_ok(ok:TabOk S){P:Program}{g:Nat}{av:List PV}{ai:List PI}{e e2:TypeId}{t t2:Ty}{Rt:Type}(hav:av.all (PV.flatR S)=true)(hai:ai.all (PI.flatR S)=true)(hain:ai.all nfI=true)(ht:two S t=true)(ht2:flatT S t2=true)
  {u:Rt→List (Dn S.τ t)×List (Dn S.τ t2)×Unit} {mk:List (Dn S.τ t)×List (Dn S.τ t2)×Unit→Rt} {um:∀y,u (mk y)=y} {f:Nat→PVsT S.τ av (PIsT S.τ ai Unit)→Option Rt}
  (H:OkC P S ⟨g,av,ai,[.one (.own 2)],[(some 0,.box [.own 1]),(none,.row e t),(none,.row e2 t2)],Rt,u,mk,um,f⟩):
  OkC P S ⟨g,av,ai,[.one (.own 2)],[(some 0,.box [.own 1]),(none,.scr t true),(none,.row e2 t2)],Rt,u,mk,um,f⟩:=by
 refine⟨H.1,λn x y hy R w ρ As Ps args hst hdom hargs hits=> ?_⟩
 obtain⟨qs,hqs,hits'⟩:=flat_Is ok (λp hp=>(hst.per p hp).here) hai hits
 have hargs':All2 (RelA1 S ρ qs) _ args:=flat_Vs hav hargs
 have hndAll:=hst.nd
 rw[List.nodup_append] at hndAll
 have hst':St (blkD w.heap.size (fps As)) w As qs:=by
  refine⟨hst.own,λb hb=> ?_,List.nodup_append.2 ⟨nodup_blkD,hndAll.2.1,λa ha b hb e=> ?_⟩,λp hp w' _=>hqs p hp w',λp hp=>by cases hp⟩
  ·rcases List.mem_append.1 hb with hb|hb
   ·exact(mem_blkD.1 hb).1
   ·exact hst.lt b (List.mem_append_right _ hb)
  ·subst e;exact(mem_blkD.1 ha).2 hb
 refine(H.2 n x y hy _ w ρ As qs args hst' hdom hargs' hits').mono λe' w' he=> ?_
 obtain⟨v,ρ',As',Ps',rfl,⟨hres,hitems,hdom',hsame⟩,hkeep,hst1,hb⟩:=he
 obtain⟨A0,r0,rfl,i0,hitems⟩:=All2.cons_left hitems
 obtain⟨A1,r1,rfl,i1,hitems⟩:=All2.cons_left hitems
 obtain⟨A2,r2,rfl,i2,hitems⟩:=All2.cons_left hitems
 obtain rfl:=All2.nil_left hitems
 obtain⟨g1,cs1,hg1,rfl,hn1,hm1⟩:=row_open i1
 obtain⟨g2,cs2,hg2,rfl,hn2,hm2⟩:=row_open i2
 have hst2:=hst1.perm (List.Perm.swap _ _ _)
 have hG:∀p∈Ps',Bx (blkD w.heap.size (fps As)++fps [A0,Asn.row g2.a g2.c e2 (S.sz t2) g2.n cs2]) w' p:=λp hp=>(hst2.per p hp).weak λb hb=> .inl (by
  rw[fps_cons];simp only[List.mem_append] at hb⊢
  rcases hb with hb|hb
  ·exact .inl hb
  ·exact .inr (.inr hb))
 have hRS:Bx (blkD w.heap.size (fps As)++fps [A0,Asn.row g2.a g2.c e2 (S.sz t2) g2.n cs2]) w' (RSg (S.GT t) g1.a g1.c (u y).1):=λw'' hk=>by
  obtain⟨h4,h5,h6⟩:=row_cells (hst2.own_bx w'' hk)
  exact(hG _ hm1 w'' hk).rs h4 (by omega) λhne=>h6 λe=>hne (List.eq_nil_of_length_eq_zero (by omega))
 have hflat:∀w'',RepsB (S.GT t2) cs2 (u y).2.1 w'':=λw''=>flat_reps ok ht2 (hst1.per _ hm2).here
 have hnf0:∀b∈fps As,NF w b:=nf_items hain hits λA hA=>hst.own A hA
 obtain⟨gg,ea,ec,en,hsc⟩:=scr_of ok ht (λb hb=>hkeep.drawn.nf b (by
  by_cases h1:b∈fps As
  ·exact hnf0 b h1
  ·by_cases h2:b<w.heap.size
   ·exact absurd (List.mem_append_left _ (mem_blkD.2 ⟨h2,h1⟩)) (mem_blkD.1 hb).2
   ·exact NF.lt (by omega))) hRS P 1
 obtain⟨j1,hold1⟩:=hsc (λk=>if k=1 then some gg else ρ' k) [RepsB (S.GT t2) cs2 (u y).2.1] rfl
 have hnd1:=hst1.nd
 rw[List.nodup_append] at hnd1
 obtain⟨hn0,hn3,hn4⟩:=hnd1
 simp only[fps,List.flatMap_cons,List.flatMap_nil,List.append_nil] at hn3 hn4
 refine⟨v,λk=>if k=1 then some gg else ρ' k,[A0,_,_],[RepsB (S.GT t2) cs2 (u y).2.1],rfl,⟨?_,⟨?_,j1,⟨g2,cs2, ?_,rfl,hn2,List.mem_singleton_self _⟩,trivial⟩, ?_, ?_⟩,hkeep, ?_, ?_⟩
 ·obtain⟨g',h1,h2⟩:=hres
  exact⟨g',h1,h2⟩
 ·obtain⟨g0,vs,h1,h2,h3⟩:=i0
  obtain⟨v0,vs0,rfl,⟨g',h4,h5⟩,h6⟩:=All2.cons_left h3
  obtain rfl:=All2.nil_left h6
  refine⟨g0,_,h1,h2,⟨gg,rfl, ?_⟩,trivial⟩
  rw[hg1] at h4
  obtain rfl:=someI' h4
  rw[h5,ea,ec,en,hn1]
  rfl
 ·exact hg2
 ·intro r gr hr
  by_cases h:r=1
  ·subst h;show 1<3;decide
  ·exact hdom' r gr (by simpa[h] using hr)
 ·intro r j p gr h1 h2
  match r,h1 with
  |0,h1=>exact hsame 0 j p gr h1 h2
  |1,h1=>simp at h1
  |2,h1=>simp at h1
  |r+3,h1=>simp at h1
 ·have hRs:∀b∈R,b∈blkD w.heap.size (fps As):=λb hb=>mem_blkD.2 ⟨hst.lt b (List.mem_append_left _ hb),λhm=>hndAll.2.2 b hb b hm rfl⟩
  obtain⟨m0,m12,m3⟩:=List.nodup_append.1 hn3
  obtain⟨m1,m2,m4⟩:=List.nodup_append.1 m12
  refine⟨λA hA=> ?_,λb hb=> ?_, ?_,λp hp w'' _=> ?_,λp hp=>by cases hp⟩
  ·simp only[List.mem_cons,List.not_mem_nil,or_false] at hA
   rcases hA with rfl|rfl|rfl
   ·exact hst1.own _ (by simp)
   ·exact hold1
   ·exact hst1.own _ (by simp)
  ·rcases List.mem_append.1 hb with hb|hb
   ·exact Nat.lt_of_lt_of_le (hst.lt b (List.mem_append_left _ hb)) hkeep.size
   ·simp only[fps,List.flatMap_cons,List.flatMap_nil,List.append_nil,List.mem_append] at hb
    rcases hb with hb|hb|hb
    ·exact hst1.lt b (List.mem_append_right _ (by simp only[fps,List.flatMap_cons,List.flatMap_nil,List.append_nil,List.mem_append];exact .inl hb))
    ·exact(mem_blkD.1 hb).1
    ·exact hst1.lt b (List.mem_append_right _ (by simp only[fps,List.flatMap_cons,List.flatMap_nil,List.append_nil,List.mem_append];exact .inr (.inr hb)))
  ·simp only[fps,List.flatMap_cons,List.flatMap_nil,List.append_nil]
   refine List.nodup_append.2 ⟨hndAll.1,List.nodup_append.2 ⟨m0,List.nodup_append.2 ⟨nodup_blkD,m2,λa ha b hb e=> ?_⟩,λa ha b hb e=> ?_⟩,λa ha b hb e=> ?_⟩
   ·subst e
    exact(mem_blkD.1 ha).2 (List.mem_append_right _ (by simp only[fps,List.flatMap_cons,List.flatMap_nil,List.append_nil,List.mem_append];exact .inr hb))
   ·subst e
    rcases List.mem_append.1 hb with hb|hb
    ·exact(mem_blkD.1 hb).2 (List.mem_append_right _ (by simp only[fps,List.flatMap_cons,List.flatMap_nil,List.append_nil,List.mem_append];exact .inl ha))
    ·exact m3 a ha a (List.mem_append_right _ hb) rfl
   ·subst e
    rcases List.mem_append.1 hb with hb|hb
    ·exact hn4 a (hRs a ha) a (List.mem_append_left _ hb) rfl
    ·rcases List.mem_append.1 hb with hb|hb
     ·exact(mem_blkD.1 hb).2 (List.mem_append_left _ (hRs a ha))
     ·exact hn4 a (hRs a ha) a (List.mem_append_right _ (List.mem_append_right _ hb)) rfl
  ·rw[List.mem_singleton] at hp
   subst hp
   exact hflat w''
 ·intro b hb'
  simp only[fps,List.flatMap_cons,List.flatMap_nil,List.append_nil,List.mem_append] at hb'
  rcases hb' with hb'|hb'|hb'
  ·exact hb b (by simp only[fps,List.flatMap_cons,List.flatMap_nil,List.append_nil,List.mem_append];exact .inl hb')
  ·by_cases h1:b∈fps As
   ·exact .inl h1
   ·right
    by_cases h2:b<w.heap.size
    ·exact absurd (List.mem_append_left _ (mem_blkD.2 ⟨h2,h1⟩)) (mem_blkD.1 hb').2
    ·omega
  ·exact hb b (by simp only[fps,List.flatMap_cons,List.flatMap_nil,List.append_nil,List.mem_append];exact .inr (.inr hb'))
end
end Go.Bur
