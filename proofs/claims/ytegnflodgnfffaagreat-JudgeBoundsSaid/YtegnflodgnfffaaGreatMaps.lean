/- Maps of one's own: keys of an integer kind, elements bools or integers. -/
import Derived.Test.YtegnflodgnfffaaGreatScope
import Derived.Maps.Own
import Derived.Maps.Views
namespace Go.Bur
open Go.RowKit
set_option linter.unusedVariables false
set_option linter.unusedSimpArgs false

/-- A map in plain words: what was put last stands first. -/
def mget {β : Type} (z : β) : List (Int × β) → Int → β
  | [], _ => z
  | (k, v) :: r, x => match decide (k = x) with
    | true => v
    | false => mget z r x
/-- Is the key one of its kind? -/
def keyIn (q : IntKind) (x : Int) : Bool := (Lit.int q x).wf
def mlook {β : Type} (q : IntKind) (z : β) (m : List (Int × β)) (x : Int) : Option β := match keyIn q x with
  | true => some (mget z m x)
  | false => none
def mput {β : Type} (q : IntKind) (m : List (Int × β)) (x : Int) (v : β) : Option (List (Int × β)) := match keyIn q x && Nat.ble m.length 1000000 with
  | true => some ((x, v) :: m)
  | false => none
theorem mlook_some {β : Type} {q : IntKind} {z : β} {m : List (Int × β)} {x : Int} {v : β} (h : mlook q z m x = some v) : keyIn q x = true ∧ v = mget z m x := by
  unfold mlook at h
  split at h
  · rename_i hk; exact ⟨hk, (someI' h).symm⟩
  · cases h
theorem mput_some {β : Type} {q : IntKind} {m l : List (Int × β)} {x : Int} {v : β} (h : mput q m x v = some l) : keyIn q x = true ∧ m.length ≤ 1000000 ∧ l = (x, v) :: m := by
  unfold mput at h
  split at h
  · rename_i hk
    rw [Bool.and_eq_true] at hk
    exact ⟨hk.1, Nat.le_of_ble_eq_true hk.2, (someI' h).symm⟩
  · cases h

/-- A map's type, with how its elements read. -/
structure MapT (P : Program) (t k e : TypeId) (q : IntKind) {β : Type} (z : β) (E : β → Value) (L : β → DataW Unit) : Prop where
  ht : P.underlying t = some (.map k e)
  hk : P.underlying k = some (.int q)
  hz : ∀ w, (zeroValue e).run P w = .ok (E z) w
  he : ∀ v, plainElem (H := Unit) P e (E v) = some (L v, [])
  inv : ∀ u v ps, plainElem (H := Unit) P e u = some (L v, ps) → u = E v

section
variable {β : Type} {P : Program} {t k e : TypeId} {q : IntKind} {z : β} {E : β → Value} {L : β → DataW Unit}
def MapIs (P : Program) (k e : TypeId) (q : IntKind) (z : β) (L : β → DataW Unit) (b : Nat) (m : List (Int × β)) (w : World) : Prop :=
  ∃ n D, w.ownsMap P k (plainElem (H := Unit) P e) b n D ∧ n ≤ m.length ∧ m.length ≤ 1000001 ∧ Maps.IsMap D ∧ ∀ x, keyIn q x = true → D.atKey (.int q x) (L z) = L (mget z m x)
abbrev mapA (P : Program) (k e : TypeId) (q : IntKind) (z : β) (L : β → DataW Unit) (b : Nat) (m : List (Int × β)) : Asn := .any [b] (MapIs P k e q z L b m)
theorem MapIs.same {b : Nat} {m : List (Int × β)} {w w' : World} (h : MapIs P k e q z L b m w) (hb : w'.heap[b]? = w.heap[b]?) : MapIs P k e q z L b m w' := by
  obtain ⟨n, D, ⟨es, clock, h1, h2⟩, h3⟩ := h
  exact ⟨n, D, ⟨es, clock, hb.trans h1, h2⟩, h3⟩
theorem mapA_holds {b : Nat} {m : List (Int × β)} {w : World} (h : MapIs P k e q z L b m w) : (mapA P k e q z L b m).holds w := fun w' hk => h.same (hk b (by simp))
theorem mapA_is {b : Nat} {m : List (Int × β)} {w : World} (h : (mapA P k e q z L b m).holds w) : MapIs P k e q z L b m w := h w fun _ _ => rfl
theorem map_made (w : World) : (mapA P k e q z L w.heap.size []).holds (w.alloc (.map #[] 0)) :=
  mapA_holds ⟨0, .map [], World.ownsMap_made w P k _, Nat.le_refl _, by simp, Maps.isMap_empty, fun x _ => rfl⟩
theorem map_look (T : MapT P t k e q z E L) {b : Nat} {m : List (Int × β)} {w : World} (h : (mapA P k e q z L b m).holds w) {x : Int} {v : β} (hx : mlook q z m x = some v) :
    (Instr.lookup t (.map (some b)) (.int q x) false).run P w = .ok (E v) w := by
  obtain ⟨n, D, ho, _, _, _, hat⟩ := mapA_is h
  obtain ⟨hk, rfl⟩ := mlook_some hx
  obtain ⟨u, ps, hrun, hu⟩ := ho.lookup (Maps.int_keyed T.hk) T.ht (T.hz w) (T.he z) (Maps.keyOf_int_mk T.hk hk)
  rw [hat x hk] at hu
  rw [hrun, T.inv u _ ps hu]
theorem map_put (T : MapT P t k e q z E L) {b : Nat} {m l : List (Int × β)} {w : World} (h : (mapA P k e q z L b m).holds w) {x : Int} {v : β} (hx : mput q m x v = some l) :
    ∃ w', (Instr.mapUpdate t (.map (some b)) (.int q x) (E v)).run P w = .ok () w' ∧ (mapA P k e q z L b l).holds w' ∧ Keep [b] w w' := by
  obtain ⟨n, D, ho, hn, hm, hD, hat⟩ := mapA_is h
  obtain ⟨hk, hlen, rfl⟩ := mput_some hx
  obtain ⟨w', hrun, h1, h2⟩ := ho.update (Maps.int_keyed T.hk) T.ht (by simp only [maxLen]; omega) (Maps.keyOf_int_mk T.hk hk) (T.he v)
  refine ⟨w', hrun, mapA_holds ⟨n + 1, _, h1, by simp; omega, by simp; omega, hD.put _ _, fun y hy => ?_⟩, Keep.grown h2 fun c hc => by injection hc with hc; simp [hc]⟩
  by_cases hxy : x = y
  · subst hxy
    rw [Maps.atKey_put_same hD (by trivial)]
    simp [mget]
  · rw [Maps.atKey_put_other (by intro e; injection e with _ e; exact hxy e.symm), hat y hy]
    simp [mget, hxy]
end

section
variable {P : Program} {ops : Array Oper} {Q : Exit → Act → World → Prop} {C : Cx} {n : Nat} {a : Act} {w : World} {Lv : Env} {As : List Asn} {Ps : List (World → Prop)}
variable {β : Type} {t k e : TypeId} {q : IntKind} {z : β} {E : β → Value} {L : β → DataW Unit}
end
/-- Elements that are bools. -/
theorem mapT_bool {P : Program} {t k e : TypeId} {q : IntKind} (ht : P.underlying t = some (.map k e)) (hk : P.underlying k = some (.int q)) (he : P.underlying e = some .bool) (hz : ∀ w, (zeroValue e).run P w = .ok (.bool false) w) :
    MapT P t k e q false Value.bool (fun v => .lit (.bool v)) where
  ht := ht
  hk := hk
  hz := hz
  he v := plainElem_bool he v
  inv u v ps h := by
    unfold plainElem at h
    rw [he] at h
    cases u <;> simp at h
    rw [h.1]
end Go.Bur
