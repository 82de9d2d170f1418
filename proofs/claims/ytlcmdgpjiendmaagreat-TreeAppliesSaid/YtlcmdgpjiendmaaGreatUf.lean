import Derived.Test.YtlcmdgpjiendmaaGreatRo
namespace Go.Bur
open Go.RowKit
set_option linter.unusedVariables false
set_option linter.unusedSimpArgs false
section
variable (S : Tab)
def unf1(k:Nat)(its:List (Nat×Item S.τ)):Option (List (Nat×Item S.τ)):=none
def restIds{τ:Nat→Type}:List (Nat×Item τ)→List Nat
 |[]=>[]
 |(k,.rest _ _ _ _ _ _ _)::r=>k::restIds r
 |_::r=>restIds r
def unfs:List Nat→List (Nat×Item S.τ)→List (Nat×Item S.τ)
 |[],its=>its
 |k::ks,its=>match unf1 S k its with
  |some its'=>unfs ks its'
  |none=>unfs ks its
def unfAll(its:List (Nat×Item S.τ)):List (Nat×Item S.τ):=unfs S (restIds its) its
end
section
variable {P : Program} {S : Tab} {ρ : Rho} {Ps : List (World → Prop)} {w : World}
theorem unf1_ok(ok:TabOk S){R:List Nat}{k:Nat}{its its':List (Nat×Item S.τ)}{As:List Asn}(h:unf1 S k its=some its')(hst:St R w As Ps)(hA:All2 (RelItem S ρ Ps P) its As):∃As',St R w As' Ps∧All2 (RelItem S ρ Ps P) its' As'∧(fps As').Perm (fps As):=by
 unfold unf1 at h
 cases h
theorem unfs_ok(ok:TabOk S){R:List Nat}:∀{ks:List Nat} {its:List (Nat×Item S.τ)} {As:List Asn},St R w As Ps→All2 (RelItem S ρ Ps P) its As→∃As',St R w As' Ps∧All2 (RelItem S ρ Ps P) (unfs S ks its) As'∧(fps As').Perm (fps As)
 |[],its,As,hst,hA=>⟨As,hst,hA,List.Perm.refl _⟩
 |k::ks,its,As,hst,hA=>by
  simp only[unfs]
  split
  ·rename_i its' hu
   obtain⟨A1,h1,h2,h3⟩:=unf1_ok ok hu hst hA
   obtain⟨A2,h4,h5,h6⟩:=unfs_ok ok (ks:=ks) h1 h2
   exact⟨A2,h4,h5,h6.trans h3⟩
  ·exact unfs_ok ok hst hA
end
end Go.Bur
