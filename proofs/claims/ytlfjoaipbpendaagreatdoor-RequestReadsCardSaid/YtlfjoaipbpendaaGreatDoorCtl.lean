/- The rules of control, places told by the road to them; and what the printed walks lean on. -/
import Derived.Test.YtlfjoaipbpendaaGreatDoorRules
namespace Go.Bur
open Go.RowKit
set_option linter.unusedVariables false
set_option linter.unusedSimpArgs false

section
variable {P : Program} {n : Nat} {Q : Exit → Act → World → Prop} {a : Act} {w : World} {c : Code}
end

section
variable {P : Program} {Q : Exit → Act → World → Prop} {C : Cx} {n : Nat} {a : Act} {w : World} {L : Env} {As : List Asn} {Ps : List (World → Prop)}
end

/-! ### Facts in short -/
abbrev Cel (A : Addr) (cs : List Value) : World → Prop := fun w => CellsAt w A cs
section
variable {α : Type} {F : Flat α} {a : Option Addr} {c e : Nat} {l : List α} {j : Int} {x y : α} {w : World} {G : List Nat}
theorem LoadOk.sub {A : Asn} {p : Addr} {cs : List Value} (h : LoadOk A p cs) (o n : Nat) : LoadOk A (p.add o) ((cs.drop o).take n) := fun w hw => (h w hw).sub o n
theorem Bx.sub {p : Addr} {cs : List Value} (h : Bx G w (Cel p cs)) (o n : Nat) : Bx G w (Cel (p.add o) ((cs.drop o).take n)) := fun w' hk => CellsAt.sub (h w' hk) o n
/-- An element of a row of one's own is set. -/
def put (l : List α) (j : Int) (x : α) : Option (List α) := if 0 ≤ j ∧ j < (l.length : Int) then some (l.set j.toNat x) else none
theorem put_some {r : List α} (h : put l j x = some r) : 0 ≤ j ∧ j < (l.length : Int) ∧ r = l.set j.toNat x ∧ l.length = r.length := by
  unfold put at h
  split at h
  · rename_i hb
    obtain rfl := someI' h
    exact ⟨hb.1, hb.2, rfl, by simp⟩
  · cases h
theorem spl_all {cs vs : List Value} (h : vs.length = cs.length) : spl cs 0 vs = vs := by simp [spl, h]
end
theorem AllB.app {F : List Nat} {w : World} : ∀ {a b : List (World → Prop)}, AllB F w a → AllB F w b → AllB F w (a ++ b)
  | [], _, _, h => h
  | _ :: _, _, h, k => ⟨h.1, AllB.app h.2 k⟩
end Go.Bur
