/- What a law is handed, read as plain data. -/
import Derived.Test.YtlflbhhajnoelaaCtl
import Derived.Deep.Slices
import Derived.ChangeArms
import Derived.DataReads
import Derived.WideShapes
namespace Go.Bur
open Go.RowKit
set_option linter.unusedVariables false
set_option linter.unusedSimpArgs false

def Rd (P : Program) (t : TypeId) {α : Type} (G : GoT α) (ok : α → Prop) : Prop :=
  ∀ (H : Type) (enc : TypeId × Value → H) (w : World) (base : Nat) (spare : Nat → Bool) (held : Bool) (fuel : Nat) (cs : List Value) (x : DataW H × List MemPlace), DataW.trod enc P w base spare held fuel t cs = some x → ∃ y, G.rep w cs y ∧ ok y

section
variable {P : Program} {t e : TypeId}
def inI (k : IntKind) (n : Int) : Prop := k.min ≤ n ∧ n ≤ k.max
@[reducible] def flatI (k : IntKind) : Flat Int := ⟨1, fun x => [.int k x], fun _ => rfl, fun x => oneAll rfl⟩
theorem rd_int {k : IntKind} (hu : P.underlying t = some (.int k)) : Rd P t (Flat.toGoT (flatI k)) (inI k) := by
  intro H enc w base spare held fuel cs x h
  obtain ⟨n, rfl, _, hw⟩ := DataW.trod_int hu h
  refine ⟨n, rfl, ?_⟩
  simp [Lit.wf] at hw
  exact hw
theorem rd_str (hu : P.underlying t = some .string) : Rd P t (Flat.toGoT flat_str) (fun s => s.size ≤ maxLen) := by
  intro H enc w base spare held fuel cs x h
  obtain ⟨s, rfl, _, hw⟩ := DataW.trod_string hu h
  exact ⟨s, rfl, hw⟩
theorem rd_bool (hu : P.underlying t = some .bool) : Rd P t (Flat.toGoT flat_bool) (fun _ => True) := by
  intro H enc w base spare held fuel cs x h
  obtain ⟨b, rfl, _⟩ := DataW.trod_bool hu h
  exact ⟨b, rfl, trivial⟩
theorem list_choice {α : Type} {p : Nat → α → Prop} : ∀ (n : Nat), (∀ i, i < n → ∃ y, p i y) → ∃ l : List α, l.length = n ∧ ∀ i y, l[i]? = some y → p i y
  | 0, _ => ⟨[], rfl, fun i y h => by simp at h⟩
  | n + 1, h => by
    obtain ⟨l, hl, hp⟩ := list_choice n fun i hi => h i (by omega)
    obtain ⟨y, hy⟩ := h n (by omega)
    refine ⟨l ++ [y], by simp [hl], fun i z hz => ?_⟩
    by_cases hi : i < l.length
    · rw [List.getElem?_append_left hi] at hz; exact hp i z hz
    · rw [List.getElem?_append_right (by omega)] at hz
      have : i - l.length = 0 := by
        rcases Nat.eq_zero_or_pos (i - l.length) with h0 | h0
        · exact h0
        · simp [List.getElem?_eq_none (show [y].length ≤ i - l.length from by simp; omega)] at hz
      rw [this] at hz
      simp at hz
      subst hz
      rw [show i = n from by omega]
      exact hy
theorem cellsAt_of {w : World} {base : Nat} {A : Addr} {n : Nat} {cs : List Value} (h : w.cells? base A n = some cs) : CellsAt w A cs ∧ cs.length = n := by
  obtain ⟨h1, h2, h3⟩ := World.cells?_some h
  exact ⟨fun k u hk => by
    have := h3 k (by have := (List.getElem?_eq_some_iff.1 hk).1; omega)
    rw [this]; exact hk, h2⟩
theorem rd_slice {α : Type} {G : GoT α} {ok : α → Prop} (hu : P.underlying t = some (.slice e)) (he : P.cellsOf e = G.sz) (hr : Rd P e G ok) {H : Type} {enc : TypeId × Value → H} {w : World} {base : Nat} {spare : Nat → Bool} {held : Bool} {fuel : Nat} {cs : List Value} {x : DataW H × List MemPlace}
    (h : DataW.trod enc P w base spare held fuel t cs = some x) : ∃ a c l, cs = [.slice a l.length c] ∧ RS (G := G) w a c l ∧ (∀ y ∈ l, ok y) ∧ l.length ≤ maxLen := by
  rcases Go.Deep.open_slice hu h with ⟨rfl, _⟩ | ⟨A, len, cap, m, n, D, Pl, rfl, _, hlc, hcm, hm, _, hel⟩
  · exact ⟨none, 0, [], rfl, RS.nil _ _ _, by simp, by simp⟩
  · have hlm : len ≤ m := by rw [hm]; split <;> omega
    obtain ⟨l, hl, hp⟩ := list_choice (p := fun i y => (∃ e, G.rep w e y ∧ CellsAt w (A.add (i * G.sz)) e) ∧ ok y) len fun i hi => by
      obtain ⟨cs', h1, h2⟩ := hel i (by omega)
      obtain ⟨y, hy, hok⟩ := hr _ _ _ _ _ _ _ _ _ h2
      rw [he] at h1
      exact ⟨y, ⟨cs', hy, (cellsAt_of h1).1⟩, hok⟩
    subst hl
    refine ⟨some A, cap, l, rfl, ⟨hlc, (fun _ h => by cases h), fun i y hy => (hp i y hy).1⟩, fun y hy => ?_, by omega⟩
    obtain ⟨i, hi⟩ := List.getElem?_of_mem hy
    exact (hp i y hi).2
theorem St.start {w : World} {Ps : List (World → Prop)} (h : AllB [] w Ps) : St [] w [] Ps := ⟨by simp, by simp [fps], by simp [fps], fun p hp => by simpa [fps] using AllB.mem h p hp⟩
theorem Bx.ofRS {α : Type} {F : Flat α} {w : World} {a : Option Addr} {c : Nat} {l : List α} (h : RS (G := Flat.toGoT F) w a c l) : Bx [] w (RSf F a c l) := fun w' hk => h.mono hk.toExt
theorem len_1 {α : Type} {l : List α} (h : l.length = 1) : ∃ a, l = [a] := by match l, h with | [a], _ => exact ⟨a, rfl⟩
theorem len_2 {α : Type} {l : List α} (h : l.length = 2) : ∃ a b, l = [a, b] := by match l, h with | [a, b], _ => exact ⟨a, b, rfl⟩
theorem len_3 {α : Type} {l : List α} (h : l.length = 3) : ∃ a b c, l = [a, b, c] := by match l, h with | [a, b, c], _ => exact ⟨a, b, c, rfl⟩
theorem len_4 {α : Type} {l : List α} (h : l.length = 4) : ∃ a b c d, l = [a, b, c, d] := by match l, h with | [a, b, c, d], _ => exact ⟨a, b, c, d, rfl⟩
theorem len_5 {α : Type} {l : List α} (h : l.length = 5) : ∃ a b c d e, l = [a, b, c, d, e] := by match l, h with | [a, b, c, d, e], _ => exact ⟨a, b, c, d, e, rfl⟩
theorem len_6 {α : Type} {l : List α} (h : l.length = 6) : ∃ a b c d e f, l = [a, b, c, d, e, f] := by match l, h with | [a, b, c, d, e, f], _ => exact ⟨a, b, c, d, e, f, rfl⟩
theorem len_8 {α : Type} {l : List α} (h : l.length = 8) : ∃ a b c d e f g i, l = [a, b, c, d, e, f, g, i] := by match l, h with | [a, b, c, d, e, f, g, i], _ => exact ⟨a, b, c, d, e, f, g, i, rfl⟩
theorem len_7 {α : Type} {l : List α} (h : l.length = 7) : ∃ a b c d e f g, l = [a, b, c, d, e, f, g] := by match l, h with | [a, b, c, d, e, f, g], _ => exact ⟨a, b, c, d, e, f, g, rfl⟩
end
end Go.Bur
