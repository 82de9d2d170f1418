/- Plain lemmas on lists, numbers and loops, for laws. -/
import Derived.Test.YtlfjoaipbpendaaGreatDoorHn
namespace Go.Bur
open Go.RowKit
set_option linter.unusedVariables false
set_option linter.unusedSimpArgs false

theorem idx_nat {α : Type} (l : List α) (i : Nat) : idx l (i : Int) = l[i]? := by
  unfold idx
  rw [if_pos (Int.natCast_nonneg i), Int.toNat_natCast]
theorem wrap_in {x : Int} (h : -9223372036854775808 ≤ x ∧ x ≤ 9223372036854775807) : IntKind.wrap .i64 x = x := by rw [IntKind.wrap_i64]; omega
theorem wrap_succ {i : Nat} (h : i < 4611686018427387904) : IntKind.wrap .i64 ((i : Int) + 1) = ((i + 1 : Nat) : Int) := by rw [IntKind.wrap_i64]; omega
theorem wrap_pred {i : Nat} (h : i < 4611686018427387904) : IntKind.wrap .i64 (((i + 1 : Nat) : Int) - 1) = (i : Int) := by rw [IntKind.wrap_i64]; omega
theorem lt_dec {i n : Nat} (h : i < n) : decide ((i : Int) < (n : Int)) = true := decide_eq_true (by omega)
theorem ge_dec {i n : Nat} (h : ¬ i < n) : decide ((i : Int) < (n : Int)) = false := decide_eq_false (by omega)
theorem room_ok {k b : Nat} (h : k * b ≤ 140737488355328) : room k b = true := Nat.ble_eq_true_of_le h
theorem app_ok {α : Type} {b : Nat} {l m : List α} (h : (l.length + m.length) * b ≤ 140737488355328) : app b l m = some (l ++ m) := by
  unfold app; rw [room_ok h]
theorem app_lt {α : Type} {b : Nat} {l m : List α} (h : l.length + m.length ≤ 1000000) (hb : b ≤ 1000) : app b l m = some (l ++ m) :=
  app_ok (Nat.le_trans (Nat.mul_le_mul h hb) (by decide))
theorem drop_cons {α : Type} {l : List α} {i : Nat} (h : i < l.length) : l.drop i = l[i] :: l.drop (i + 1) := List.drop_eq_getElem_cons h
theorem get_some {α : Type} {l : List α} {i : Nat} (h : i < l.length) : l[i]? = some l[i] := List.getElem?_eq_getElem h
theorem drop_nil {α : Type} {l : List α} {i : Nat} (h : ¬ i < l.length) : l.drop i = [] := List.drop_eq_nil_of_le (by omega)
theorem bindE {α β : Type} {o : Option α} {x : α} {k : α → Option β} (h : o = some x) : o.bind k = k x := by rw [h]; rfl
theorem put_ok {α : Type} {l : List α} {i : Nat} {x : α} (h : i < l.length) : put l (i : Int) x = some (l.set i x) := by
  unfold put
  rw [if_pos ⟨by omega, by omega⟩, Int.toNat_natCast]
theorem nilC_eq {R : Type} {e : Bool} {x y : Option R} (h : e = true → x = y) : nilC e x y = y := by
  unfold nilC
  cases e with
  | true => rw [h rfl]; exact agree_self y
  | false => rfl
/-- A copy of a slice. -/
theorem clone_eq {α : Type} {b : Nat} {l : List α} (h : l.length ≤ 1000000) (hb : b ≤ 1000) : nilC l.isEmpty (some ([] : List α)) ((app b ([] : List α) l).bind fun l1 => some l1) = some l := by
  have h1 : app b ([] : List α) l = some l := by rw [app_lt (by simpa using h) hb]; rfl
  rw [h1]
  exact nilC_eq fun he => by simp at he; subst he; rfl

/-- A loop over a list, as a walk over what is left of it. -/
def runL {α σ R : Type} (step : Nat → α → σ → Option R ⊕ σ) (fin : σ → Option R) : List α → Nat → σ → Option R
  | [], _, s => fin s
  | x :: t, i, s => match step i x s with
    | .inl v => v
    | .inr s' => runL step fin t (i + 1) s'
theorem run_loop {T α σ R : Type} {F : (T → Option R) → T → Option R} (l : List α) (mk : Nat → σ → T) (step : Nat → α → σ → Option R ⊕ σ) (fin : σ → Option R)
    (hF : ∀ r i s x, l[i]? = some x → i < l.length → F r (mk i s) = match step i x s with | .inl v => v | .inr s' => r (mk (i + 1) s'))
    (hE : ∀ r s, F r (mk l.length s) = fin s) : ∀ m i s, i ≤ l.length → l.length - i < m → loopF F m (mk i s) = runL step fin (l.drop i) i s := by
  intro m
  induction m with
  | zero => intro i s _ h; omega
  | succ m ih =>
    intro i s hi hm
    show F (loopF F m) (mk i s) = _
    by_cases h : i < l.length
    · rw [hF _ i s _ (get_some h) h, drop_cons h]
      simp only [runL]
      cases step i l[i] s with
      | inl v => rfl
      | inr s' => exact ih (i + 1) s' (by omega) (by omega)
    · obtain rfl : i = l.length := by omega
      rw [hE, drop_nil h]; rfl
theorem run_loopI {T α σ R : Type} {F : (T → Option R) → T → Option R} (l : List α) (mk : Nat → σ → T) (step : Nat → α → σ → Option R ⊕ σ) (fin : σ → Option R) (I : Nat → σ → Prop)
    (hI : ∀ i s x s', l[i]? = some x → I i s → step i x s = .inr s' → I (i + 1) s')
    (hF : ∀ r i s x, l[i]? = some x → i < l.length → I i s → F r (mk i s) = match step i x s with | .inl v => v | .inr s' => r (mk (i + 1) s'))
    (hE : ∀ r s, I l.length s → F r (mk l.length s) = fin s) : ∀ m i s, i ≤ l.length → l.length - i < m → I i s → loopF F m (mk i s) = runL step fin (l.drop i) i s := by
  intro m
  induction m with
  | zero => intro i s _ h; omega
  | succ m ih =>
    intro i s hi hm hs
    show F (loopF F m) (mk i s) = _
    by_cases h : i < l.length
    · rw [hF _ i s _ (get_some h) h hs, drop_cons h]
      simp only [runL]
      cases hst : step i l[i] s with
      | inl v => rfl
      | inr s' => exact ih (i + 1) s' (by omega) (by omega) (hI i s _ s' (get_some h) hs hst)
    · obtain rfl : i = l.length := by omega
      rw [hE _ _ hs, drop_nil h]; rfl
end Go.Bur

/- More plain lemmas on loops over lists. -/
namespace Go.Bur
open Go.RowKit
set_option linter.unusedVariables false
set_option linter.unusedSimpArgs false

theorem runL_any {α R : Type} {p : α → Bool} {v : Option R} {fin : Unit → Option R} : ∀ (l : List α) (i : Nat), runL (fun _ x (_ : Unit) => if p x then .inl v else .inr ()) fin l i () = if l.any p then v else fin ()
  | [], _ => rfl
  | x :: t, i => by
    by_cases hp : p x = true
    · simp [runL, hp]
    · have hp : p x = false := by simpa using hp
      simp only [runL, hp, List.any_cons, Bool.false_or]; exact runL_any t (i + 1)
theorem runL_find0 {α R : Type} {p : α → Bool} {f : Nat → Option R} {fin : Unit → Option R} : ∀ (l : List α) (i : Nat), runL (fun i x (_ : Unit) => if p x then .inl (f i) else .inr ()) fin l i () = match l.findIdx? p with | some j => f (i + j) | none => fin ()
  | [], _ => rfl
  | x :: t, i => by
    rw [List.findIdx?_cons]
    by_cases hp : p x = true
    · simp [runL, hp]
    · have hp : p x = false := by simpa using hp
      simp only [runL, hp, Bool.false_eq_true, if_false]
      rw [runL_find0 t (i + 1)]
      cases t.findIdx? p with
      | none => rfl
      | some j => simp only [Option.map_some]; congr 1; omega
/-- All from a place on, with their places. -/
def allFrom {α : Type} (p : Nat → α → Bool) : Nat → List α → Bool
  | _, [] => true
  | i, x :: t => p i x && allFrom p (i + 1) t
theorem runL_allFrom {α R : Type} {p : Nat → α → Bool} {v : Option R} {fin : Unit → Option R} : ∀ (l : List α) (i : Nat), runL (fun i x (_ : Unit) => if p i x then .inr () else .inl v) fin l i () = if allFrom p i l then fin () else v
  | [], _ => rfl
  | x :: t, i => by
    by_cases hp : p i x = true
    · simp only [runL, allFrom, hp, if_true, Bool.true_and]; exact runL_allFrom t (i + 1)
    · have hp : p i x = false := by simpa using hp
      simp [runL, allFrom, hp]
/-- A list gathered: what is kept. -/
theorem runL_filter {α R : Type} {p : α → Bool} {fin : List α → Option R} : ∀ (l : List α) (i : Nat) (s : List α), runL (fun _ x s => .inr (if p x then s ++ [x] else s)) fin l i s = fin (s ++ l.filter p)
  | [], _, s => by simp [runL]
  | x :: t, i, s => by
    simp only [runL]
    rw [runL_filter t]
    by_cases hp : p x = true
    · simp [hp]
    · simp [hp]
theorem ibeq (a b : Int) : (a == b) = decide (a = b) := by
  by_cases h : a = b
  · subst h; simp
  · rw [decide_eq_false h]; simp [h]
theorem ibne (a b : Int) : (a != b) = !decide (a = b) := by rw [bne, ibeq]
theorem ieqN {k m : Nat} : (((k : Int)) == (m : Int)) = decide (k = m) := by
  rw [ibeq]
  by_cases h : k = m
  · subst h; simp
  · rw [decide_eq_false h, decide_eq_false (by omega)]
theorem ineN {k m : Nat} : (((k : Int)) != (m : Int)) = !decide (k = m) := by rw [bne, ieqN]
theorem idx_some {α : Type} {l : List α} {i : Int} {x : α} (h : idx l i = some x) : 0 ≤ i ∧ i < l.length ∧ x ∈ l := by
  unfold idx at h
  split at h
  · rename_i h0
    obtain ⟨h1, h2⟩ := List.getElem?_eq_some_iff.1 h
    exact ⟨h0, by omega, h2 ▸ List.getElem_mem h1⟩
  · cases h
theorem idx_in {α : Type} {l : List α} {i : Int} (h : 0 ≤ i ∧ i < l.length) : ∃ x, idx l i = some x := by
  obtain ⟨k, rfl⟩ := Int.eq_ofNat_of_zero_le h.1
  exact ⟨_, (idx_nat l k).trans (get_some (by omega))⟩
/-- A search by halves. -/
theorem bsearch {T R : Type} {F : (T → Option R) → T → Option R} (mk : Nat → Nat → T) (a len : Nat) (fin : Option R)
    (hlo : ∀ r i j, i < j → j ≤ len → (i + j) / 2 < a → F r (mk i j) = r (mk ((i + j) / 2 + 1) j))
    (hhi : ∀ r i j, i < j → j ≤ len → a ≤ (i + j) / 2 → F r (mk i j) = r (mk i ((i + j) / 2)))
    (hE : ∀ r, F r (mk a a) = fin) : ∀ m i j, i ≤ a → a ≤ j → j ≤ len → j - i < m → loopF F m (mk i j) = fin
  | 0, i, j, _, _, _, h => by omega
  | m + 1, i, j, h1, h2, h3, h => by
    show F (loopF F m) (mk i j) = fin
    by_cases hij : i < j
    · by_cases hA : (i + j) / 2 < a
      · rw [hlo _ i j hij h3 hA]
        exact bsearch mk a len fin hlo hhi hE m _ j (by omega) h2 h3 (by omega)
      · rw [hhi _ i j hij h3 (by omega)]
        exact bsearch mk a len fin hlo hhi hE m i _ h1 (by omega) (by omega) (by omega)
    · obtain rfl : i = a := by omega
      obtain rfl : j = i := by omega
      exact hE _
end Go.Bur
