/- Rows of one's own that are cut, shifted, filled in place: what the library's slices functions do. -/
import Derived.Test.YtlfjoaipbpendaaGreatDoorCtl
namespace Go.Bur
open Go.RowKit
set_option linter.unusedVariables false
set_option linter.unusedSimpArgs false

section
variable {P : Program} {ops : Array Oper} {Q : Exit → Act → World → Prop} {C : Cx} {n : Nat} {a : Act} {w : World} {L : Env} {As : List Asn} {Ps : List (World → Prop)}

theorem Sy.same {A B : Asn} (hS : Sy C n a w L As Ps) (k : Nat) (hk : As[k]? = some A) (hB : A.holds w → B.holds w) (hf : B.fp = A.fp) (hn : A.fp.Nodup) : Sy C n a w L (As.set k B) Ps :=
  hS.set hk (Keep.refl _ _) (hB (hS.st.own _ (List.mem_of_getElem? hk))) (fun b hb => .inl (hf ▸ hb)) (hf ▸ hn)
/-! What the cells come to. -/
end
end Go.Bur
