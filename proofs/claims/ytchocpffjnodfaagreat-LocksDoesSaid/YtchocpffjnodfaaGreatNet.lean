import Derived.Test.YtchocpffjnodfaaGreatOwn
namespace Go.Bur
open Go.RowKit
set_option linter.unusedVariables false
set_option linter.unusedSimpArgs false
section
variable {P : Program} {ops : Array Oper} {Q : Exit → Act → World → Prop}
end
def ndN:List Nat→Bool
 |[]=>true
 |x::r=>match memN r x with
  |true=>false
  |false=>ndN r
theorem ndN_iff:∀{l:List Nat},ndN l=true→l.Nodup
 |[],_=>List.nodup_nil
 |x::r,h=>by
  simp only[ndN] at h
  split at h
  ·cases h
  ·rename_i hm
   refine List.nodup_cons.2 ⟨λhx=> ?_,ndN_iff h⟩
   rw[memN_iff.2 hx] at hm;cases hm
section
variable {P : Program} {ops : Array Oper} {Q : Exit → Act → World → Prop} {C : Cx} {n : Nat} {a : Act} {w : World} {L : Env} {As : List Asn} {Ps : List (World → Prop)}
end
end Go.Bur
