import Derived.Test.YtchocpffjnodfaaGreatRo
namespace Go.Bur
open Go.RowKit
set_option linter.unusedVariables false
set_option linter.unusedSimpArgs false
section
variable (S : Tab)
def unf1(k:Nat)(its:List (Nat×Item S.τ)):Option (List (Nat×Item S.τ)):=match lookI its k with
 |some (.rest e t es m l i kb)=>match lookI its kb with
  |some (.box ls)=>match ufLs S (lookI its) es (S.lvs t) ls with
   |some (h,ks)=>match ndN (k::kb::ks) with
    |true=>some ((k,.deep e t es (m.map λj=>j+1) (List.set l i.toNat (S.mkT t h)))::erN (k::kb::ks) its)
    |false=>none
   |none=>none
  |_=>none
 |_=>none
def restIds{τ:Nat→Type}:List (Nat×Item τ)→List Nat
 |[]=>[]
 |(k,.rest _ _ _ _ _ _ _)::r=>k::restIds r
 |_::r=>restIds r
def unfs:List Nat→List (Nat×Item S.τ)→List (Nat×Item S.τ)
 |[],its=>its
 |k::ks,its=>match unf1 S k its with
  |some its'=>unfs ks its'
  |none=>unfs ks its
def unfAll(its:List (Nat×Item S.τ)):List (Nat×Item S.τ):=unfs S (restIds its) its
end
section
variable {P : Program} {S : Tab} {ρ : Rho} {Ps : List (World → Prop)} {w : World}
theorem take_set{α:Type}{l:List α}{i M:Nat}{y:α}(hi:i<l.length):(l.set i y).take (max M (i+1))=l.take i++y::(l.take M).drop (i+1):=by
 rw[List.set_eq_take_append_cons_drop,if_pos hi]
 have h1:(l.take i).length=i:=by rw[List.length_take];omega
 rw[List.take_append,h1,List.take_of_length_le (by omega),show max M (i+1)-i=(M-(i+1))+1 from by omega,List.take_succ_cons,List.drop_take]
theorem drop_set{α:Type}{l:List α}{i M:Nat}{y:α}:(l.set i y).drop (max M (i+1))=l.drop (max M (i+1)):=by
 rw[List.drop_set_of_lt (by omega)]
theorem unf1_ok(ok:TabOk S){R:List Nat}{k:Nat}{its its':List (Nat×Item S.τ)}{As:List Asn}(h:unf1 S k its=some its')(hst:St R w As Ps)(hA:All2 (RelItem S ρ Ps P) its As):∃As',St R w As' Ps∧All2 (RelItem S ρ Ps P) its' As'∧(fps As').Perm (fps As):=by
 unfold unf1 at h
 split at h
 ·rename_i e t es m l i kb hk
  split at h
  ·rename_i ls hkb
   split at h
   ·rename_i hl ks huf
    split at h
    ·rename_i hnd
     obtain rfl:=someI' h
     obtain⟨xs,hxs⟩:=ufLs_its huf
     have hall:itsOf (lookI its) (k::kb::ks)=some (.rest e t es m l i kb:: .box ls::xs):=by simp only[itsOf,hk,hkb,hxs]
     obtain⟨tk,e1,e2,e3⟩:=pull_perm (ndN_iff hnd) hall
     obtain⟨As1,hp1,h1⟩:=All2.perm e3 hA
     obtain⟨At,Ar,rfl,hAt,hAr⟩:=All2.split h1
     match tk,e1,e2,hAt with
     |(k1,x1)::(k2,x2)::tk,e1,e2,hAt=>
      simp only[List.map_cons,List.cons.injEq] at e1
      obtain⟨rfl,rfl,e4⟩:=e1
      have q1:=e2 (k1,x1) (by simp)
      have q2:=e2 (k2,x2) (by simp)
      simp only at q1 q2
      rw[hk] at q1
      rw[hkb] at q2
      obtain rfl:=someI' q1
      obtain rfl:=someI' q2
      obtain⟨A1,At,rfl,hr1,hAt⟩:=All2.cons_left hAt
      obtain⟨A2,At,rfl,hr2,hAtk⟩:=All2.cons_left hAt
      obtain⟨g,gb,c1,c2,c3,ex,F1,F2,hg,hgb,rfl,ha,hn,hs,h0,hlt,hiM,hMl,hmj,hc1,hsz1,hsz2,hlc,hcm,hsh⟩:=hr1
      obtain⟨gb',vs,hgb',rfl,hvs⟩:=box_open hr2
      rw[hgb] at hgb'
      obtain rfl:=someI' hgb'
      have hst1:=hst.perm hp1
      have hown:∀A∈restA S t es (l.take i.toNat) ((l.take (mOf m l)).drop (i.toNat+1)) c1 c2 F1 F2::boxA gb vs::At,A.holds w:=λA hA=>hst1.own A (List.mem_append_left _ hA)
      obtain⟨d1,d2⟩:=restA_at (hown _ (List.mem_cons_self ..))
      have hbx:=boxA_at (hown (boxA gb vs) (by simp))
      have hlv:=ufLs_ok (P:=P) ok (λp hp=>(hst1.per p hp).here) huf hvs e4 (λx hx=>e2 x (by simp[hx])) hAtk λA hA=>hown A (by simp[hA])
      have hy:DeepR S w t es (S.mkT t hl::(l.take (mOf m l)).drop (i.toNat+1)) (vs++c2) (fps At++F2):=⟨vs,c2,fps At,F2,rfl,rfl,by rw[getT_mkT ok];exact hlv,d2⟩
      have hdeep:=d1.app hy
      have hvl:vs.length=S.sz t:=(LvR.rep ok hlv).len
      obtain⟨T,hT,hTe⟩:=hbx
      have hTe:=hTe e (by rw[hs])
      subst hTe
      have hM':mOf (m.map λj=>j+1) (List.set l i.toNat (S.mkT t hl))=max (mOf m l) (i.toNat+1):=by
       cases m with
       |none=>simp only[Option.map_none,mOf,List.length_set];omega
       |some j=>have:=hmj j rfl;simp only[Option.map_some,mOf];omega
      refine⟨deepA S g T t es ((List.set l i.toNat (S.mkT t hl)).take (max (mOf m l) (i.toNat+1))) (c1++(vs++c2)) ((c1++(vs++c2))++c3) (F1++(fps At++F2))::Ar, ?_,⟨⟨g,c1++(vs++c2),c3,F1++(fps At++F2),hg, ?_,by rw[hn,List.length_set], ?_, ?_⟩,hAr⟩, ?_⟩
      ·refine St.re (Bs:=restA S t es (l.take i.toNat) ((l.take (mOf m l)).drop (i.toNat+1)) c1 c2 F1 F2::boxA gb vs::At) (Cs:=[deepA S g T t es ((List.set l i.toNat (S.mkT t hl)).take (max (mOf m l) (i.toNat+1))) (c1++(vs++c2)) ((c1++(vs++c2))++c3) (F1++(fps At++F2))]) hst1 (λC hC=> ?_) ?_
       ·rw[List.mem_singleton] at hC
        subst hC
        refine deepA_of ok (row_of (ex:=ex) ha ?_ ?_ ?_ (by omega) hcm) ?_
        ·rw[hT,hs];simp[List.append_assoc]
        ·rw[hn,←hsz1];simp only[List.length_append,hvl];omega
        ·rw[←hsz2];simp only[List.length_append,hvl];omega
        ·rw[take_set hlt];exact hdeep
       ·simp only[fps,List.flatMap_cons,List.flatMap_nil,List.append_nil,restA,boxA,deepA,Asn.fp,ha]
        rw[List.perm_iff_count]
        intro x
        simp only[List.count_append]
        omega
      ·rw[hM']
      ·rw[hM',List.length_set];omega
      ·rw[hM',drop_set];exact hsh
      ·refine List.Perm.trans ?_ (fps_perm hp1).symm
       simp only[fps,List.flatMap_cons,List.flatMap_append,restA,boxA,deepA,Asn.fp,ha]
       rw[List.perm_iff_count]
       intro x
       simp only[List.count_append]
       omega
    ·cases h
   ·cases h
  ·cases h
 ·cases h
theorem unfs_ok(ok:TabOk S){R:List Nat}:∀{ks:List Nat} {its:List (Nat×Item S.τ)} {As:List Asn},St R w As Ps→All2 (RelItem S ρ Ps P) its As→∃As',St R w As' Ps∧All2 (RelItem S ρ Ps P) (unfs S ks its) As'∧(fps As').Perm (fps As)
 |[],its,As,hst,hA=>⟨As,hst,hA,List.Perm.refl _⟩
 |k::ks,its,As,hst,hA=>by
  simp only[unfs]
  split
  ·rename_i its' hu
   obtain⟨A1,h1,h2,h3⟩:=unf1_ok ok hu hst hA
   obtain⟨A2,h4,h5,h6⟩:=unfs_ok ok (ks:=ks) h1 h2
   exact⟨A2,h4,h5,h6.trans h3⟩
  ·exact unfs_ok ok hst hA
end
end Go.Bur
