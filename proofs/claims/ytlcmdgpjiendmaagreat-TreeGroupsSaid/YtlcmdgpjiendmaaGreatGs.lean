import Derived.Test.YtlcmdgpjiendmaaGreatRf
namespace Go.Bur
open Go.RowKit
set_option linter.unusedVariables false
set_option linter.unusedSimpArgs false
inductive Gs where
 |foc (k t:Nat)
 |ufo (k:Nat)
 |dpn (k:Nat) (es:List (Option Nat))
 |fin (k:Nat)
 |nrb (k i e:Nat) (t:Ty)
 |shd (k:Nat)
 |frz (k:Nat)
 |frb (k:Nat)
 |shu (k:Nat)
 |shf (k:Nat)
section
variable (S : Tab)
def gho{R:Type}:List Gs->ASt S.τ->(ASt S.τ->Option R)->Option R
 |[],s,K=>K s
 |_::_,_,_=>none
end
section
variable {P : Program} {S : Tab} {ρ : Rho} {Ps : List (World -> Prop)} {w : World}
theorem qU{α:Type}{l:List α}{i:Int}{y:α}(h:idx l i=some y):0<=i/\i.toNat<l.length/\l=l.take i.toNat++y::l.drop (i.toNat+1):=by
 unfold idx at h
 split at h
 ·rename_i h0
  obtain⟨hlt,he⟩:=List.getElem?_eq_some_iff.1 h
  refine⟨h0,hlt, ?_⟩
  have:=List.take_append_drop i.toNat l
  rw[List.drop_eq_getElem_cons hlt,he] at this
  exact this.symm
 ·cases h
variable {C : Cy} {N : Nat} {s : ASt S.τ} {a : Act}
theorem TT(ok:bB S){R:Type}{r:R}{K:ASt S.τ->Option R}:∀{gs:List Gs} {s:ASt S.τ},gho S gs s K=some r->eE P S C N s a w->∃s',K s'=some r/\eE P S C N s' a w
 |[],s,h,hH=>⟨s,h,hH⟩
 |_::_,s,h,hH=>by cases h
end
end Go.Bur
