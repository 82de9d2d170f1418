import Derived.Test.YtlcmdgpjiendmaaGreatRo
namespace Go.Bur
open Go.RowKit
set_option linter.unusedVariables false
set_option linter.unusedSimpArgs false
section
variable (S : Tab)
def aaA(k:Nat)(its:List (Nat×Item S.τ)):Option (List (Nat×Item S.τ)):=none
def It{τ:Nat->Type}:List (Nat×Item τ)->List Nat
 |[]=>[]
 |(k,.rest _ _ _ _ _ _ _)::r=>k::It r
 |_::r=>It r
def Xn:List Nat->List (Nat×Item S.τ)->List (Nat×Item S.τ)
 |[],its=>its
 |k::ks,its=>match aaA S k its with
  |some its'=>Xn ks its'
  |none=>Xn ks its
def Xo(its:List (Nat×Item S.τ)):List (Nat×Item S.τ):=Xn S (It its) its
end
section
variable {P : Program} {S : Tab} {ρ : Rho} {Ps : List (World -> Prop)} {w : World}
theorem YZ(ok:bB S){R:List Nat}{k:Nat}{its its':List (Nat×Item S.τ)}{As:List Asn}(h:aaA S k its=some its')(hst:St R w As Ps)(hA:aH (aI S ρ Ps P) its As):∃As',St R w As' Ps/\aH (aI S ρ Ps P) its' As'/\(fps As').Perm (fps As):=by
 unfold aaA at h
 cases h
theorem OD(ok:bB S){R:List Nat}:∀{ks:List Nat} {its:List (Nat×Item S.τ)} {As:List Asn},St R w As Ps->aH (aI S ρ Ps P) its As->∃As',St R w As' Ps/\aH (aI S ρ Ps P) (Xn S ks its) As'/\(fps As').Perm (fps As)
 |[],its,As,hst,hA=>⟨As,hst,hA,List.Perm.refl _⟩
 |k::ks,its,As,hst,hA=>by
  simp only[Xn]
  split
  ·rename_i its' hu
   obtain⟨A1,h1,h2,h3⟩:=YZ ok hu hst hA
   obtain⟨A2,h4,h5,h6⟩:=OD ok (ks:=ks) h1 h2
   exact⟨A2,h4,h5,h6.trans h3⟩
  ·exact OD ok hst hA
end
end Go.Bur
