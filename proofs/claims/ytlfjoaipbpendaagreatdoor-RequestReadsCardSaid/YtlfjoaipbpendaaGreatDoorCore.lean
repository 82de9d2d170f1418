/- Rules of my own for walking a Go function by program: frames as lists of the slots that matter, memory as facts, straight pieces of a region run by the kernel. -/
import Derived.WalkKit
import Derived.Test.YtlfjoaipbpendaaGreatDoorWd
import Derived.Deep.LoopGhost
import Derived.Deep.Quiet
import Derived.Laws.CopyRow
import Derived.Lib.AppendZerosOnto
import Derived.Lib.Overlaps
import Derived.Laws.StructEq
import Derived.Laws.AppendOwnNone
namespace Go.Bur
open Go.RowKit
set_option linter.unusedVariables false
set_option linter.unusedSimpArgs false

/-! ### The world grows -/
structure Ext (w w' : World) : Prop where
  below : Below w.heap.size w w'
  drawn : dn w ≤ dn w'
theorem Ext.os {w w' : World} (h : Ext w w') : w'.os = w.os := h.below.os
theorem Ext.tape {w w' : World} (h : Ext w w') : w'.tape = w.tape := h.below.tape
theorem Ext.output {w w' : World} (h : Ext w w') : w'.output = w.output := h.below.output
theorem Ext.refl (w : World) : Ext w w := ⟨Below.refl _ _, Nat.le_refl _⟩
theorem Ext.size {a b : World} (h : Ext a b) : a.heap.size ≤ b.heap.size := Below.size h.below
theorem Ext.trans {a b c : World} (h : Ext a b) (k : Ext b c) : Ext a c := ⟨Below.trans h.below (Below.mono k.below h.size), Nat.le_trans h.drawn k.drawn⟩
theorem Ext.drew (w : World) : Ext w { w with drawn := w.drawn + 1 } := ⟨⟨rfl, rfl, rfl, Nat.le_refl _, fun _ _ => rfl⟩, dn_le (Nat.le_succ _)⟩
theorem Ext.alloc (w : World) (o : Obj) : Ext w (w.alloc o) := ⟨(Below.refl _ _).alloc (Nat.le_refl _) o, Nat.le_refl _⟩
theorem Ext.block {a b : World} (h : Ext a b) {k : Nat} (hk : k < a.heap.size) : b.heap[k]? = a.heap[k]? := Below.block h.below k hk
theorem Ext.cell {a b : World} (h : Ext a b) {p : Addr} {v : Value} (hc : a.cell? p = some v) : b.cell? p = some v := by
  rw [Below.cell h.below (World.block_lt_of_cell? a p hc)]; exact hc

theorem add_add (a : Addr) (m n : Nat) : (a.add m).add n = a.add (m + n) := by
  unfold Addr.add
  by_cases hn : n = 0
  · simp [hn]
  · by_cases hm : m = 0
    · simp [hm, hn]
    · simp [hm, hn, Nat.add_assoc]
theorem add_zero' (a : Addr) : a.add 0 = a := rfl

/-- From an address on stand these cells. -/
def CellsAt (w : World) (A : Addr) (vs : List Value) : Prop := ∀ k u, vs[k]? = some u → w.cell? (A.add k) = some u
theorem CellsAt.mono {w w' : World} {A : Addr} {vs : List Value} (h : CellsAt w A vs) (e : Ext w w') : CellsAt w' A vs := fun k u hu => e.cell (h k u hu)
theorem CellsAt.sub {w : World} {A : Addr} {vs : List Value} (h : CellsAt w A vs) (o n : Nat) : CellsAt w (A.add o) ((vs.drop o).take n) := by
  intro k u hu
  rw [add_add]
  refine h (o + k) u ?_
  rw [List.getElem?_take] at hu
  split at hu
  · simpa using hu
  · cases hu
theorem CellsAt.one {w : World} {A : Addr} {v : Value} (h : CellsAt w A [v]) : w.cell? A = some v := h 0 v rfl
theorem CellsAt.nil (w : World) (A : Addr) : CellsAt w A [] := fun k u hu => by simp at hu

def AllP (w : World) : List (World → Prop) → Prop
  | [] => True
  | p :: r => p w ∧ AllP w r

/-- What a computation yields without a look at the world. -/
def peval {α : Type} (P : Program) : Sem α → Option α
  | .pure a => some a
  | .program k => peval P (k P)
  | _ => none
theorem someI'.{u} {α : Type u} {a b : α} (h : some a = some b) : a = b := by injection h
theorem peval_sound {α : Type} {P : Program} {a : α} : ∀ (s : Sem α), peval P s = some a → ∀ w, s.run P w = .ok a w
  | .pure _, h, w => by simp only [peval, Option.some.injEq] at h; subst h; rfl
  | .program k, h, w => peval_sound (k P) h w
  | .load .., h, _ | .store .., h, _ | .new .., h, _ | .shape .., h, _ | .freeze .., h, _ | .frozen .., h, _ | .getObj .., h, _ | .setObj .., h, _ | .choose .., h, _ | .sys .., h, _ | .mark .., h, _ | .halt .., h, _ => by simp [peval] at h

/-! ### The frame -/
abbrev Env := List (Nat × Value)
def lk : Env → Nat → Value
  | [], _ => undef
  | (t, v) :: r, k => match Nat.beq t k with | true => v | false => lk r k
def hasK : Env → Nat → Bool
  | [], _ => false
  | (t, _) :: r, k => match Nat.beq t k with | true => true | false => hasK r k
def evL (L : Env) : Operand → Value
  | .tmp t => lk L t
  | .const v => v
  | .global g => .pointer (some ⟨g, 0, none⟩)
  | .func f => .func (.func f) #[] #[]
def knownO (L : Env) : Operand → Bool
  | .tmp t => hasK L t
  | _ => true
structure Has (a : Act) (n : Nat) (L : Env) : Prop where
  size : a.tmps.size = n
  defers : a.defers = []
  get : ∀ t, hasK L t = true → a.tmps.getD t undef = lk L t

theorem Has.eval {a : Act} {n : Nat} {L : Env} (h : Has a n L) {x : Operand} (hx : knownO L x = true) : a.eval x = evL L x := by
  cases x with
  | tmp t => exact h.get t hx
  | const v => rfl
  | global g => rfl
  | func f => rfl

theorem Has.put {a : Act} {n : Nat} {L : Env} (h : Has a n L) {d : Nat} (hd : d < n) (v : Value) : Has (a.put (some d) v) n ((d, v) :: L) := by
  refine ⟨by simp [Act.put, h.size], h.defers, fun t ht => ?_⟩
  simp only [Act.put, lk]
  by_cases e : d = t
  · subst e
    rw [show Nat.beq d d = true from Nat.beq_eq ▸ rfl]
    have : d < a.tmps.size := h.size ▸ hd
    simp [this]
  · have hb : Nat.beq d t = false := by
      cases hq : Nat.beq d t
      · rfl
      · exact absurd (Nat.eq_of_beq_eq_true hq) e
    simp only [hb]
    simp only [hasK, hb] at ht
    rw [← h.get t ht]
    simp [e]

theorem Has.keep {a : Act} {n : Nat} {L : Env} (h : Has a n L) (ks : List Nat) (hk : ks.all (hasK L) = true) : Has a n (ks.map fun k => (k, lk L k)) := by
  refine ⟨h.size, h.defers, fun t ht => ?_⟩
  have key : ∀ ks : List Nat, hasK (ks.map fun k => (k, lk L k)) t = true → t ∈ ks ∧ lk (ks.map fun k => (k, lk L k)) t = lk L t := by
    intro ks
    induction ks with
    | nil => intro h; simp [hasK] at h
    | cons k r ih =>
      intro hh
      simp only [List.map_cons, hasK, lk] at hh ⊢
      cases hb : Nat.beq k t
      · simp only [hb] at hh ⊢
        obtain ⟨h1, h2⟩ := ih hh
        exact ⟨List.mem_cons_of_mem _ h1, h2⟩
      · have := Nat.eq_of_beq_eq_true hb
        subst this
        exact ⟨List.mem_cons_self, rfl⟩
  obtain ⟨h1, h2⟩ := key ks ht
  rw [h2]
  exact h.get t (List.all_eq_true.1 hk t h1)

/-- The frame's facts, their list spelled otherwise. -/
theorem Has.to {a : Act} {n : Nat} {L L' : Env} (h : Has a n L) (e : L = L') : Has a n L' := e ▸ h

/-! ### One operation -/
def aggOf (P : Program) (t : TypeId) : Option Bool :=
  match P.underlying t with
  | some (.struct _) | some (.array _ _) => some true
  | some _ => some false
  | none => none

def Inb (a : Option Addr) (n : Nat) (j : Int) : Prop := 0 ≤ j ∧ j < (n : Int) ∧ a ≠ none
def baseOf (a : Option Addr) : Addr := a.getD ⟨0, 0, none⟩

/-- A slice of a slice: its address. -/
def slA (a : Option Addr) (l m sz : Nat) : Option Addr := if m = l then a else a.map (·.add (l * sz))

/-- '==', '!=' of two values whose parts are looked at one by one: what it comes to. -/
def EqOk (P : Program) (op : BinOp) (t : TypeId) (x y v : Value) (w : World) : Prop := ∀ xo yo : Operand, (do eqGuard op t xo yo x y; binOp op t x y : Sem Value).run P w = .ok v w

def shlV (k : IntKind) (x y : Int) : Int := k.wrap (x * 2 ^ (min y.toNat k.bits))
def shrV (k : IntKind) (x y : Int) : Int := x.fdiv (2 ^ (min y.toNat k.bits))
def shlP (k : IntKind) (x y : Int) : Option Int := if 0 ≤ y then some (shlV k x y) else none
def shrP (k : IntKind) (x y : Int) : Option Int := if 0 ≤ y then some (shrV k x y) else none
def quoP (k : IntKind) (x y : Int) : Option Int := if y ≠ 0 then some (k.wrap (x.tdiv y)) else none
def remP (x y : Int) : Option Int := if y ≠ 0 then some (x.tmod y) else none
theorem shlP_some {k : IntKind} {x y z : Int} (h : shlP k x y = some z) : 0 ≤ y ∧ z = shlV k x y := by
  unfold shlP at h; split at h
  · injection h with h; exact ⟨by assumption, h.symm⟩
  · cases h
theorem shrP_some {k : IntKind} {x y z : Int} (h : shrP k x y = some z) : 0 ≤ y ∧ z = shrV k x y := by
  unfold shrP at h; split at h
  · injection h with h; exact ⟨by assumption, h.symm⟩
  · cases h
theorem quoP_some {k : IntKind} {x y z : Int} (h : quoP k x y = some z) : y ≠ 0 ∧ z = k.wrap (x.tdiv y) := by
  unfold quoP at h; split at h
  · injection h with h; exact ⟨by assumption, h.symm⟩
  · cases h
theorem remP_some {x y z : Int} (h : remP x y = some z) : y ≠ 0 ∧ z = x.tmod y := by
  unfold remP at h; split at h
  · injection h with h; exact ⟨by assumption, h.symm⟩
  · cases h

section
variable {P : Program} {n : Nat} {ops : Array Oper} {Q : Exit → Act → World → Prop}

theorem run_info {t : TypeId} {i : TypeInfo} (h : P.info? t = some i) (w : World) : (typeInfo t).run P w = .ok i w := by
  simp [typeInfo, program, h, Sem.run_bind, Sem.run]

theorem run_loadCellsFrom (w : World) (A : Addr) (cs : List Value) : ∀ (i : Nat) (acc : Array Value), (∀ k u, cs[k]? = some u → w.cell? (A.add (i + k)) = some u) →
    (loadCellsFrom A i cs.length acc).run P w = .ok (acc ++ cs.toArray) w := by
  induction cs with
  | nil => intro i acc _; simp [loadCellsFrom]
  | cons c r ih =>
    intro i acc h
    have h0 : w.cell? (A.add i) = some c := h 0 c rfl
    have := ih (i + 1) (acc.push c) (fun k u hu => by have := h (k + 1) u (by simpa using hu); rw [show i + 1 + k = i + (k + 1) from by omega]; exact this)
    simp only [List.length_cons, loadCellsFrom, Sem.run_bind, load, Sem.run, h0, Result.andThen_ok, this]
    simp

theorem run_load_agg {t : TypeId} {i : TypeInfo} {A : Addr} {cs : List Value} {w : World} (hi : P.info? t = some i) (ha : aggOf P t = some true) (hl : cs.length = i.size) (hc : CellsAt w A cs) :
    (Instr.loadAt t (.pointer (some A))).run P w = .ok (.agg cs.toArray) w := by
  have hagg : (isAgg t).run P w = .ok true w := by
    unfold aggOf at ha
    cases hu : P.underlying t with
    | none => rw [hu] at ha; simp at ha
    | some d =>
      rw [hu] at ha
      cases d <;> simp at ha <;> simp [isAgg, Sem.run_bind, run_underlying hu]
  have := run_loadCellsFrom (P := P) w A cs 0 #[] (fun k u hu => by simpa using hc k u hu)
  simp only [Instr.loadAt, Instr.sureAddr, loadVar, Sem.run_bind, Sem.run_pure, Result.andThen_ok, hagg, if_true, sizeOf, run_info hi, loadCells, ← hl, this]
  simp

theorem run_load_one {t : TypeId} {A : Addr} {c : Value} {w : World} (ha : aggOf P t = some false) (hc : CellsAt w A [c]) :
    (Instr.loadAt t (.pointer (some A))).run P w = .ok c w := by
  have hagg : (isAgg t).run P w = .ok false w := by
    unfold aggOf at ha
    cases hu : P.underlying t with
    | none => rw [hu] at ha; simp at ha
    | some d =>
      rw [hu] at ha
      cases d <;> simp at ha <;> simp [isAgg, Sem.run_bind, run_underlying hu]
  simp [Instr.loadAt, Instr.sureAddr, loadVar, Sem.run_bind, hagg, load, Sem.run, hc.one]

theorem run_slice_slice {t e : TypeId} {inf : TypeInfo} {a : Option Addr} {m c : Nat} {lo hi : Option Value} {l h : Int} (hu : P.underlying t = some (.slice e)) (hi_ : P.info? e = some inf)
    (hl : match lo with | none => l = 0 | some v => ∃ k, v = .int k l) (hh : match hi with | none => h = m | some v => ∃ k, v = .int k h) (h0 : 0 ≤ l) (h1 : l ≤ h) (h2 : h ≤ (c : Int)) (w : World) :
    (Instr.sliceAt t (.slice a m c) lo hi none).run P w = .ok (.slice (slA a l.toNat c inf.size) (h.toNat - l.toNat) (c - l.toNat)) w := by
  have hlo : ∀ h' : Nat, h' = h.toNat → (match lo with | some v => Instr.sliceBound v h' .sliceB | none => pure 0 : Sem Nat).run P w = .ok l.toNat w := by
    intro h' eh
    cases lo with
    | none => simp at hl; subst hl; simp
    | some v =>
      obtain ⟨k, rfl⟩ := hl
      have : l ≤ (h' : Int) := by omega
      simp [Instr.sliceBound, asIntOf, h0, this]
  have hhi : (match hi, (none : Option Value) with
    | some v, some _ => Instr.sliceBound v c .slice3B
    | some v, none => Instr.sliceBound v c .sliceAcap
    | none, none => pure m
    | none, some _ => stuck "Slice: max without high" : Sem Nat).run P w = .ok h.toNat w := by
    cases hi with
    | none => simp at hh; subst hh; simp
    | some v =>
      obtain ⟨k, rfl⟩ := hh
      have : 0 ≤ h := by omega
      simp [Instr.sliceBound, asIntOf, this, h2]
  have hlo' := hlo h.toNat rfl
  cases lo <;> cases hi <;> simp_all [Instr.sliceAt, Instr.slice, Sem.run_bind, run_underlying hu, Instr.sliceBounds, sizeOf, run_info hi_, slA]

theorem run_slice_three {t e : TypeId} {inf : TypeInfo} {a : Option Addr} {n c : Nat} {lo : Option Value} {kh km : IntKind} {l h m : Int} (hu : P.underlying t = some (.slice e)) (hi_ : P.info? e = some inf)
    (hl : match lo with | none => l = 0 | some v => ∃ k, v = .int k l) (h0 : 0 ≤ l) (h1 : l ≤ h) (h2 : h ≤ m) (h3 : m ≤ (c : Int)) (w : World) :
    (Instr.sliceAt t (.slice a n c) lo (some (.int kh h)) (some (.int km m))).run P w = .ok (.slice (slA a l.toNat m.toNat inf.size) (h.toNat - l.toNat) (m.toNat - l.toNat)) w := by
  have e1 : (Instr.sliceBound (.int km m) c .slice3Acap).run P w = .ok m.toNat w := by
    have : 0 ≤ m := by omega
    simp [Instr.sliceBound, asIntOf, this, h3]
  have e2 : (Instr.sliceBound (.int kh h) m.toNat .slice3B).run P w = .ok h.toNat w := by
    have : 0 ≤ h := by omega
    have h2' : h ≤ (m.toNat : Int) := by omega
    have h2'' : ¬ max m 0 < h := by omega
    simp [Instr.sliceBound, asIntOf, this, h2', h2'']
    try omega
  cases lo with
  | none =>
    simp at hl; subst hl
    simp [Instr.sliceAt, Instr.slice, Sem.run_bind, run_underlying hu, Instr.sliceBounds, sizeOf, run_info hi_, slA, e1, e2]
  | some v =>
    obtain ⟨k, rfl⟩ := hl
    have e3 : (Instr.sliceBound (.int k l) h.toNat .slice3C).run P w = .ok l.toNat w := by
      have h2' : l ≤ (h.toNat : Int) := by omega
      have h2'' : ¬ max h 0 < l := by omega
      simp [Instr.sliceBound, asIntOf, h0, h2', h2'']
      try omega
    simp [Instr.sliceAt, Instr.slice, Sem.run_bind, run_underlying hu, Instr.sliceBounds, sizeOf, run_info hi_, slA, e1, e2, e3]

theorem run_slice_str {t : TypeId} {s : ByteArray} {lo hi : Option Value} {l h : Int} (hu : P.underlying t = some .string)
    (hl : match lo with | none => l = 0 | some v => ∃ k, v = .int k l) (hh : match hi with | none => h = s.size | some v => ∃ k, v = .int k h) (h0 : 0 ≤ l) (h1 : l ≤ h) (h2 : h ≤ (s.size : Int)) (w : World) :
    (Instr.sliceAt t (.string s) lo hi none).run P w = .ok (.string (s.extract l.toNat h.toNat)) w := by
  have hlo' : (match lo with | some v => Instr.sliceBound v h.toNat .sliceB | none => pure 0 : Sem Nat).run P w = .ok l.toNat w := by
    cases lo with
    | none => simp at hl; subst hl; simp
    | some v =>
      obtain ⟨k, rfl⟩ := hl
      have : l ≤ (h.toNat : Int) := by omega
      simp only [Instr.sliceBound, asIntOf, Sem.run_bind, Sem.run_pure, Result.andThen_ok]
      rw [if_pos ⟨h0, this⟩]
      rfl
  have hhi : (match hi, (none : Option Value) with
    | some v, some _ => Instr.sliceBound v s.size .slice3B
    | some v, none => Instr.sliceBound v s.size .sliceAlen
    | none, none => pure s.size
    | none, some _ => stuck "Slice: max without high" : Sem Nat).run P w = .ok h.toNat w := by
    cases hi with
    | none => simp at hh; subst hh; simp
    | some v =>
      obtain ⟨k, rfl⟩ := hh
      have : 0 ≤ h := by omega
      simp [Instr.sliceBound, asIntOf, this, h2]
  cases lo <;> cases hi <;> simp_all [Instr.sliceAt, Instr.slice, Sem.run_bind, run_underlying hu, Instr.sliceBounds]

/-! ### A straight piece of a region, run by the kernel -/
end

/-! ### The shapes of code, by places in the body -/
def regI : Code → Nat | .region i _ _ => i | _ => 0
def bodyOf (f : Func) : Code := f.body.getD .skip

section
variable {P : Program} {n : Nat} {Q : Exit → Act → World → Prop} {a : Act} {w : World} {c : Code}

/-! ### Results -/
/-! ### Entering -/
end

/-! ### Memory of one's own -/
structure NewB (w w' : World) (b : Nat) (cs : List Value) (T : TypeId) : Prop where
  is : w' = w.alloc (.cells cs.toArray T)
  at_ : b = w.heap.size
/-- Block b is one's own: just these cells, none frozen. -/
def Own (w : World) (b : Nat) (cs : List Value) : Prop := ∃ T, w.heap[b]? = some (.cells cs.toArray T (0, 0))
theorem NewB.ext {w w' : World} {b : Nat} {cs : List Value} {T : TypeId} (h : NewB w w' b cs T) : Ext w w' := h.is ▸ Ext.alloc w _
theorem NewB.own {w w' : World} {b : Nat} {cs : List Value} {T : TypeId} (h : NewB w w' b cs T) : Own w' b cs := by
  refine ⟨T, ?_⟩
  rw [h.is, h.at_]
  exact heap_alloc_new w _
theorem NewB.ge {w w' : World} {b : Nat} {cs : List Value} {T : TypeId} (h : NewB w w' b cs T) : w.heap.size ≤ b := Nat.le_of_eq h.at_.symm
theorem NewB.lt {w w' : World} {b : Nat} {cs : List Value} {T : TypeId} (h : NewB w w' b cs T) : b < w'.heap.size := by
  rw [h.is, h.at_]; simp
theorem Own.lt {w : World} {b : Nat} {cs : List Value} (h : Own w b cs) : b < w.heap.size := by
  obtain ⟨T, hT⟩ := h
  exact (Array.getElem?_eq_some_iff.1 hT).1
theorem Own.mono {w w' : World} {b : Nat} {cs : List Value} (h : Own w b cs) (e : Ext w w') : Own w' b cs := by
  obtain ⟨T, hT⟩ := h
  exact ⟨T, by rw [e.block (Array.getElem?_eq_some_iff.1 hT).1]; exact hT⟩
theorem addr_add0 (b k : Nat) : (⟨b, 0, none⟩ : Addr).add k = ⟨b, k, none⟩ := by
  unfold Addr.add; split <;> simp_all
theorem Own.cells {w : World} {b : Nat} {cs : List Value} (h : Own w b cs) : CellsAt w ⟨b, 0, none⟩ cs := by
  obtain ⟨T, hT⟩ := h
  intro k u hu
  rw [addr_add0, cell_of_row w b k _ T (0, 0) hT]
  simpa using hu

def spl (cs : List Value) (k : Nat) (vs : List Value) : List Value := cs.take k ++ vs ++ cs.drop (k + vs.length)

section
variable {P : Program} {n : Nat} {ops : Array Oper} {Q : Exit → Act → World → Prop}

def newVal (b : Nat) : Option Nat → Value
  | none => .pointer (some ⟨b, 0, none⟩)
  | some len => .slice (some ⟨b, 0, none⟩) len len

theorem run_newRow' (e : TypeId) (cs : Array Value) (w : World) : (newRow e cs).run P w = .ok ⟨w.heap.size, 0, none⟩ (w.alloc (.cells cs e)) := rfl

/-! ### A store into a block of one's own -/
/-! ### A call -/
def upd (L : Env) (d : Option Nat) (v : Value) : Env := match d with | some d => (d, v) :: L | none => L

end

/-! ### Go data and plain data -/
/-- A Lean type that stands for a Go type of sz cells. -/
class GoT (α : Type) where
  sz : Nat
  rep : World → List Value → α → Prop
  len : ∀ {w vs x}, rep w vs x → vs.length = sz
  mono : ∀ {w w' vs x}, rep w vs x → Ext w w' → rep w' vs x
  one : ∀ {w vs x}, rep w vs x → ∀ v ∈ vs, v.oneCell' = true

/-- A Go type whose values hold no address. -/
class Flat (α : Type) where
  sz : Nat
  enc : α → List Value
  len : ∀ x, (enc x).length = sz
  one : ∀ x, ∀ v ∈ enc x, v.oneCell' = true

@[reducible] def Flat.toGoT {α : Type} (F : Flat α) : GoT α where
  sz := F.sz
  rep _ vs x := vs = F.enc x
  len h := h ▸ F.len _
  mono h _ := h
  one h := h ▸ F.one _

/-- The slice at a, of capacity c, holds the list l. -/
structure RS {α : Type} {G : GoT α} (w : World) (a : Option Addr) (c : Nat) (l : List α) : Prop where
  cap : l.length ≤ c
  some_ : l ≠ [] → a ≠ none
  at_ : ∀ i x, l[i]? = some x → ∃ e, G.rep w e x ∧ CellsAt w ((baseOf a).add (i * G.sz)) e

theorem RS.mono {α : Type} {G : GoT α} {w w' : World} {a : Option Addr} {c : Nat} {l : List α} (h : RS (G := G) w a c l) (e : Ext w w') : RS (G := G) w' a c l :=
  ⟨h.cap, h.some_, fun i x hx => let ⟨e1, h1, h2⟩ := h.at_ i x hx; ⟨e1, G.mono h1 e, h2.mono e⟩⟩
theorem RS.nil {α : Type} {G : GoT α} (w : World) (a : Option Addr) (c : Nat) : RS (G := G) w a c ([] : List α) := ⟨Nat.zero_le _, fun h => absurd rfl h, fun i x hx => by simp at hx⟩

/-- An element of a list at a Go index. -/
def idx {α : Type} (l : List α) (j : Int) : Option α := if 0 ≤ j then l[j.toNat]? else none

theorem RS.idx {α : Type} {G : GoT α} {w : World} {a : Option Addr} {c : Nat} {l : List α} {j : Int} {x : α} (h : RS (G := G) w a c l) (hx : idx l j = some x) :
    Inb a l.length j ∧ ∃ e, G.rep w e x ∧ CellsAt w ((baseOf a).add (j.toNat * G.sz)) e := by
  unfold Bur.idx at hx
  split at hx
  · rename_i h0
    obtain ⟨hlt, he⟩ := List.getElem?_eq_some_iff.1 hx
    refine ⟨⟨h0, by omega, h.some_ (by intro e; simp [e] at hlt)⟩, h.at_ _ x hx⟩
  · cases hx
/-- Cells in a row are a slice of flat things. -/
theorem RS.ofCells {α : Type} {F : Flat α} {w : World} {A : Addr} {c : Nat} {l : List α} (h : CellsAt w A (l.flatMap F.enc)) (hc : l.length ≤ c) : RS (G := Flat.toGoT F) w (some A) c l := by
  refine ⟨hc, (fun _ h => by cases h), fun i x hx => ⟨F.enc x, rfl, ?_⟩⟩
  have key : ∀ (l : List α) (i : Nat) (x : α), l[i]? = some x → ((l.flatMap F.enc).drop (i * F.sz)).take F.sz = F.enc x := by
    intro l
    induction l with
    | nil => intro i x h; simp at h
    | cons y r ih =>
      intro i x h
      cases i with
      | zero =>
        simp at h
        subst h
        simp only [Nat.zero_mul, List.drop_zero, List.flatMap_cons]
        rw [← F.len y]
        exact List.take_left
      | succ i =>
        simp at h
        have hl := F.len y
        rw [List.flatMap_cons, Nat.succ_mul, Nat.add_comm, ← List.drop_drop, show List.drop F.sz (F.enc y ++ List.flatMap F.enc r) = List.flatMap F.enc r from by rw [← hl]; exact List.drop_left]
        exact ih i x h
  have h2 := h.sub (i * F.sz) F.sz
  rw [key l i x hx] at h2
  exact h2

/-- An owned row (of whatever capacity) that holds l. -/
def OwnS {α : Type} {F : Flat α} (w : World) (B : Nat) (e : TypeId) (v : Value) (l : List α) : Prop := w.ownsRow B e F.sz v l.length (l.flatMap F.enc)

theorem OwnS.nil {α : Type} {F : Flat α} (w : World) (B : Nat) (e : TypeId) : OwnS (F := F) w B e (.slice none 0 0) ([] : List α) := World.ownsRow_nil w B e _

theorem OwnS.shape {α : Type} {F : Flat α} {w : World} {B : Nat} {e : TypeId} {v : Value} {l : List α} (h : OwnS (F := F) w B e v l) :
    ∃ a c, v = .slice a l.length c ∧ RS (G := Flat.toGoT F) w a c l ∧ (∀ A, a = some A → B ≤ A.block ∧ A.block < w.heap.size) := by
  have hc := fun g => World.ownsRow.cells (g := g) h
  have hlt := h.lt
  rcases h.2 with ⟨h1, h2⟩ | ⟨g, cap, cur, h1, h2, h3, h4, h5, h6, h7⟩
  · have : l = [] := List.eq_nil_of_length_eq_zero h2
    subst this
    exact ⟨none, 0, h1, RS.nil _ _ _, (fun A h => by cases h)⟩
  · refine ⟨some ⟨g, 0, none⟩, cap, h1, RS.ofCells ?_ h4, ?_⟩
    · intro j u hu
      exact hc g (by rw [h1]; rfl) j u hu
    · intro A hA
      injection hA with hA
      subst hA
      exact hlt g (by rw [h1]; rfl)
theorem OwnS.mono {α : Type} {F : Flat α} {w w' : World} {B : Nat} {e : TypeId} {v : Value} {l : List α} (h : OwnS (F := F) w B e v l) (x : Ext w w') : OwnS (F := F) w' B e v l := by
  have hx : w.grownBy w' none := ⟨x.os, x.tape, x.output, x.size, fun k hk _ => x.block hk⟩
  exact World.ownsRow.kept h hx (by cases v.ownBlock <;> simp)
/-- What an append to an owned row does to the world: nothing to what lies below B. -/
theorem Ext.grown {w0 w w' : World} {B : Nat} {v : Value} (h : Ext w0 w) (g : w.grownBy w' v.ownBlock) (hB : w0.heap.size ≤ B) (hv : ∀ k, v.ownBlock = some k → B ≤ k) (hd : w.drawn ≤ w'.drawn) : Ext w0 w' :=
  ⟨Below.grown h.below g h.size fun k hk => Nat.le_trans hB (hv k hk), Nat.le_trans h.drawn (dn_le hd)⟩

def room (k bytes : Nat) : Bool := Nat.ble (k * bytes) 140737488355328
/-- append, in plain lists; none where it takes more room than there is. -/
def app {α : Type} (bytes : Nat) (l m : List α) : Option (List α) := match room (l.length + m.length) bytes with | true => some (l ++ m) | false => none

section
variable {P : Program} {n : Nat} {ops : Array Oper} {Q : Exit → Act → World → Prop}

def appOp : Op → Option (TypeId × Operand × Operand)
  | .call c => match c.callee, c.args.toList, c.argTypes.toList with
    | .builtin .append, [s, x], [t, u] => match Nat.beq t u with
      | true => some (t, s, x)
      | false => none
    | _, _, _ => none
  | _ => none
theorem appOp_sound {op : Op} {t : TypeId} {s x : Operand} (h : appOp op = some (t, s, x)) : op = .call { callee := .builtin .append, args := #[s, x], argTypes := #[t, t] } := by
  cases op <;> simp only [appOp] at h
  case call c =>
    obtain ⟨callee, ⟨args⟩, ⟨tys⟩⟩ := c
    split at h
    · rename_i s1 x1 t1 u1 h1 h2 h3
      split at h
      · rename_i hb
        simp only [Option.some.injEq, Prod.mk.injEq] at h
        obtain ⟨rfl, rfl, rfl⟩ := h
        have := Nat.eq_of_beq_eq_true hb
        subst this
        simp only at h1 h2 h3
        subst h1 h2 h3
        rfl
      · cases h
    · cases h
  all_goals cases h

theorem flat_len {α : Type} {F : Flat α} (l : List α) : (l.flatMap F.enc).length = l.length * F.sz := by
  induction l with
  | nil => simp
  | cons x r ih => simp [List.flatMap_cons, ih, F.len, Nat.succ_mul, Nat.add_comm]
theorem RS.cells {α : Type} {F : Flat α} {w : World} {a : Option Addr} {c : Nat} {l : List α} (h : RS (G := Flat.toGoT F) w a c l) : CellsAt w (baseOf a) (l.flatMap F.enc) := by
  have key : ∀ (l : List α) (A : Addr), (∀ i x, l[i]? = some x → CellsAt w (A.add (i * F.sz)) (F.enc x)) → CellsAt w A (l.flatMap F.enc) := by
    intro l
    induction l with
    | nil => intro A _ k u hu; simp at hu
    | cons x r ih =>
      intro A h
      have h0 := h 0 x rfl
      have h1 := ih (A.add F.sz) (fun i y hy => by
        have := h (i + 1) y (by simpa using hy)
        rw [add_add, show F.sz + i * F.sz = (i + 1) * F.sz from by rw [Nat.succ_mul, Nat.add_comm]]
        exact this)
      intro k u hu
      rw [List.flatMap_cons] at hu
      by_cases hk : k < (F.enc x).length
      · rw [List.getElem?_append_left hk] at hu
        have := h0 k u hu
        rwa [Nat.zero_mul, add_zero'] at this
      · rw [List.getElem?_append_right (by omega), F.len] at hu
        have := h1 (k - F.sz) u hu
        rw [add_add, F.len] at *
        rwa [show F.sz + (k - F.sz) = k from by omega] at this
  refine key l _ fun i x hx => ?_
  obtain ⟨e, h1, h2⟩ := h.at_ i x hx
  have h1' : e = F.enc x := h1
  subst h1'
  exact h2

/-- append, the type's facts apart. -/
structure AppT (P : Program) (t e : TypeId) (sz bytes : Nat) : Prop where
  u : P.underlying t = some (.slice e)
  i : ∃ inf z, P.info? e = some inf ∧ inf.zero = some z ∧ inf.size = sz ∧ inf.bytes = bytes ∧ z.cells.size = sz
  p : 0 < sz
  b : 0 < bytes

end

/-! ### A region that draws its order: facts on values, whatever order -/
section
variable {P : Program} {n : Nat} {ops : Array Oper} {Q : Exit → Act → World → Prop}

def predsOf (ops : Array Oper) (i : Nat) : List Nat :=
  match ops[i]? with
  | some o => (o.after.toList.filter (Region.binds .any)).map (·.on)
  | none => []
def dstOf (ops : Array Oper) (i : Nat) : Option Nat := (ops[i]?).bind (·.dst)
def memN : List Nat → Nat → Bool
  | [], _ => false
  | x :: r, k => match Nat.beq x k with | true => true | false => memN r k
theorem memN_iff : ∀ {l : List Nat} {k : Nat}, memN l k = true ↔ k ∈ l
  | [], k => by simp [memN]
  | x :: r, k => by
    simp only [memN, List.mem_cons]
    cases hb : Nat.beq x k
    · simp only [memN_iff (l := r)]
      constructor
      · exact .inr
      · rintro (rfl | h)
        · simp at hb
        · exact h
    · simp [Nat.eq_of_beq_eq_true hb]
/-- All that an operation waits for, directly or by others. -/
def anc (ops : Array Oper) : Nat → List Nat → List Nat
  | 0, S => S
  | k + 1, S => match memN S k with
    | true => anc ops k (predsOf ops k ++ S)
    | false => anc ops k S
theorem anc_all {ops : Array Oper} {T : Nat → Prop} (hT : ∀ k, T k → ∀ j ∈ predsOf ops k, T j) : ∀ (k : Nat) (S : List Nat), (∀ j ∈ S, T j) → ∀ j ∈ anc ops k S, T j
  | 0, S, h, j, hj => h j hj
  | k + 1, S, h, j, hj => by
    simp only [anc] at hj
    split at hj
    · rename_i hm
      exact anc_all hT k _ (fun i hi => by
        rcases List.mem_append.1 hi with hi | hi
        · exact hT k (h k (memN_iff.1 hm)) i hi
        · exact h i hi) j hj
    · exact anc_all hT k S h j hj
/-- What an operation of the region must leave: facts on values that stay as the world grows. -/
structure SpecV where
  p : World → Value → Prop
  mono : ∀ {w w' v}, p w v → Ext w w' → p w' v
  free : Bool
  fr : free = true → ∀ w w' v, p w v → p w' v
def SpecV.val (v : Value) : SpecV := ⟨fun _ x => x = v, fun h _ => h, true, fun _ _ _ _ h => h⟩
/-- A slice that holds l. -/
def SpecV.sl {α : Type} {G : GoT α} (l : List α) : SpecV := ⟨fun w x => ∃ a c, x = .slice a l.length c ∧ RS (G := G) w a c l, fun ⟨a, c, h1, h2⟩ e => ⟨a, c, h1, h2.mono e⟩, false, fun h => by cases h⟩
/-- A new block of these cells. -/
def SpecV.new (B : Nat) (m : Option Nat) (cs : List Value) : SpecV := ⟨fun w x => ∃ b, x = newVal b m ∧ B ≤ b ∧ Own w b cs, fun ⟨b, h1, h2, h3⟩ e => ⟨b, h1, h2, h3.mono e⟩, false, fun h => by cases h⟩
/-- A row of one's own. -/
def SpecV.own {α : Type} {F : Flat α} (B e : Nat) (l : List α) : SpecV := ⟨fun w x => OwnS (F := F) w B e x l, fun h e => h.mono e, false, fun h => by cases h⟩
end

/-! ### Small helps for the printed proofs -/
theorem bindS {α β : Type} {o : Option α} {k : α → Option β} {r : β} (h : o.bind k = some r) : ∃ y, o = some y ∧ k y = some r := by
  cases o with
  | none => cases h
  | some y => exact ⟨y, rfl, h⟩
theorem oneAll {vs : List Value} (h : vs.all Value.oneCell' = true) : ∀ v ∈ vs, v.oneCell' = true := fun v hv => List.all_eq_true.1 h v hv
@[reducible] def flat_bool : Flat Bool := ⟨1, fun x => [.bool x], fun _ => rfl, fun x => oneAll rfl⟩
@[reducible] def flat_str : Flat ByteArray := ⟨1, fun x => [.string x], fun _ => rfl, fun x => oneAll rfl⟩

theorem app_some {α : Type} {b : Nat} {l m r : List α} (h : app b l m = some r) : room (l.length + m.length) b = true ∧ r = l ++ m := by
  unfold app at h
  split at h
  · rename_i hr; injection h with h; exact ⟨hr, h.symm⟩
  · cases h

/-- l[lo:hi], within the length. -/
def sub {α : Type} (l : List α) (lo hi : Int) : Option (List α) := if 0 ≤ lo ∧ lo ≤ hi ∧ hi ≤ (l.length : Int) then some ((l.drop lo.toNat).take (hi.toNat - lo.toNat)) else none

theorem RS.sub {α : Type} {G : GoT α} {w : World} {a : Option Addr} {c : Nat} {l m : List α} {lo hi : Int} (h : RS (G := G) w a c l) (hm : Bur.sub l lo hi = some m) :
    (0 ≤ lo ∧ lo ≤ hi ∧ hi ≤ (c : Int)) ∧ hi.toNat - lo.toNat = m.length ∧ RS (G := G) w (slA a lo.toNat c G.sz) (c - lo.toNat) m := by
  unfold Bur.sub at hm
  split at hm
  · rename_i hb
    injection hm with hm
    obtain ⟨h0, h1, h2⟩ := hb
    have hcap := h.cap
    have hlen : m.length = hi.toNat - lo.toNat := by rw [← hm]; simp; omega
    refine ⟨⟨h0, h1, by omega⟩, hlen.symm, ⟨by omega, ?_, ?_⟩⟩
    · intro hne
      have hl : l ≠ [] := by
        intro e; subst e; simp at hm; exact hne hm
      have := h.some_ hl
      unfold slA
      split
      · exact this
      · cases a with
        | none => exact absurd rfl this
        | some A => simp
    · intro i x hx
      have hi' : i < m.length := (List.getElem?_eq_some_iff.1 hx).1
      have hxl : l[lo.toNat + i]? = some x := by
        rw [← hm, List.getElem?_take] at hx
        split at hx
        · simpa using hx
        · cases hx
      obtain ⟨e, h3, h4⟩ := h.at_ _ x hxl
      refine ⟨e, h3, ?_⟩
      have hcl : c ≠ lo.toNat := by omega
      have hA : baseOf (slA a lo.toNat c G.sz) = (baseOf a).add (lo.toNat * G.sz) := by
        unfold slA
        rw [if_neg hcl]
        cases a with
        | none => exact absurd rfl (h.some_ (by intro e; subst e; simp at hxl))
        | some A => rfl
      rw [hA, add_add, ← Nat.add_mul]
      exact h4
  · cases hm

/-! ### Results, in slots and in memory -/
def resX (P : Program) (L : Env) : List ResultVar → List (List Value) → Option (List Value × List (World → Prop))
  | [], _ => some ([], [])
  | .tmp t :: r, vs => match hasK L t, resX P L r vs with
    | true, some (xs, ps) => some (lk L t :: xs, ps)
    | _, _ => none
  | .cell a t :: r, cs :: vs => match hasK L a, lk L a, P.info? t, aggOf P t with
    | true, .pointer (some A), some i, some true => match Nat.beq cs.length i.size, resX P L r vs with
      | true, some (xs, ps) => some (.agg cs.toArray :: xs, (fun w => CellsAt w A cs) :: ps)
      | _, _ => none
    | true, .pointer (some A), some _, some false => match cs, resX P L r vs with
      | [c], some (xs, ps) => some (c :: xs, (fun w => CellsAt w A [c]) :: ps)
      | _, _ => none
    | _, _, _, _ => none
  | .cell _ _ :: _, [] => none

def resV : List Value → Value
  | [v] => v
  | vs => .tuple vs.toArray

theorem resX_run {P : Program} {n : Nat} {a : Act} {w : World} {L : Env} (hA : Has a n L) : ∀ (rs : List ResultVar) (vs : List (List Value)) (xs : List Value) (ps : List (World → Prop)), resX P L rs vs = some (xs, ps) → AllP w ps →
    (List.mapM (m := Sem) (fun (r : ResultVar) => match r with
      | .tmp t => (pure (a.tmps.getD t undef) : Sem Value)
      | .cell ad t => do loadVar t (← asAddr (a.tmps.getD ad undef))) rs).run P w = .ok xs w
  | [], vs, xs, ps, h, _ => by
    simp only [resX, Option.some.injEq, Prod.mk.injEq] at h
    obtain ⟨rfl, rfl⟩ := h
    simp
  | .tmp t :: r, vs, xs, ps, h, hp => by
    simp only [resX] at h
    split at h
    · rename_i ys qs hk hr
      simp only [Option.some.injEq, Prod.mk.injEq] at h
      obtain ⟨rfl, rfl⟩ := h
      simp only [List.mapM_cons, Sem.run_bind, Sem.run_pure, Result.andThen_ok, resX_run hA r vs ys qs hr hp, hA.get t hk]
    · cases h
  | .cell ad t :: r, [], xs, ps, h, hp => by simp [resX] at h
  | .cell ad t :: r, cs :: vs, xs, ps, h, hp => by
    simp only [resX] at h
    split at h
    · rename_i A i hk hl hi hagg
      split at h
      · rename_i ys qs hb hr
        simp only [Option.some.injEq, Prod.mk.injEq] at h
        obtain ⟨rfl, rfl⟩ := h
        have hload := run_load_agg (P := P) hi hagg (Nat.eq_of_beq_eq_true hb) hp.1
        simp only [Instr.loadAt, Instr.sureAddr, Sem.run_bind, Sem.run_pure, Result.andThen_ok] at hload
        simp only [List.mapM_cons, Sem.run_bind, Sem.run_pure, Result.andThen_ok, hA.get ad hk, hl, show (asAddr (.pointer (some A))).run P w = .ok A w from rfl, hload, resX_run hA r vs ys qs hr hp.2]
      · cases h
    · rename_i A i hk hl hi hagg
      split at h
      · rename_i c ys qs hr
        simp only [Option.some.injEq, Prod.mk.injEq] at h
        obtain ⟨rfl, rfl⟩ := h
        have hload := run_load_one (P := P) hagg hp.1
        simp only [Instr.loadAt, Instr.sureAddr, Sem.run_bind, Sem.run_pure, Result.andThen_ok] at hload
        simp only [List.mapM_cons, Sem.run_bind, Sem.run_pure, Result.andThen_ok, hA.get ad hk, hl, show (asAddr (.pointer (some A))).run P w = .ok A w from rfl, hload, resX_run hA r vs ys qs hr hp.2]
      · cases h
    · cases h

theorem retG {P : Program} {n : Nat} {a : Act} {w : World} {fn : Func} {R : Ending → World → Prop} {L : Env} (hA : Has a n L) (rs : List ResultVar) (vs : List (List Value)) (xs : List Value) (ps : List (World → Prop)) (hr : fn.results = rs.toArray)
    (hx : resX P L rs vs = some (xs, ps)) (hp : AllP w ps) (h : R (.returned (resV xs)) w) : bodyPost P fn R .ret a w := by
  refine bodyPost_ret (v := resV xs) ?_ hA.defers h
  have hrun := resX_run (P := P) hA rs vs xs ps hx hp
  unfold results
  rw [hr]
  simp only [List.mapM_toArray, Sem.run_bind]
  rw [map_eq_pure_bind, Sem.run_bind]
  have hrun' := hrun
  erw [hrun']
  simp only [Result.andThen_ok, Sem.run_pure]
  congr 1
  cases xs with
  | nil => rfl
  | cons x r =>
    cases r with
    | nil => rfl
    | cons y r => simp [resV]

/-! ### '==' on structs -/
def eqFs (P : Program) (eq : TypeId → Value → Value → Option Bool) (xs ys : Array Value) : List Field → Option Bool
  | [] => some true
  | f :: fs => match f.name != "_" with
    | true => match peval P (part f.type xs f.offset), peval P (part f.type ys f.offset) with
      | some a, some b => match eq f.type a b with
        | some r => match eqFs P eq xs ys fs with
          | some q => some (r && q)
          | none => none
        | none => none
      | _, _ => none
    | false => none
def eqE (P : Program) : Nat → TypeId → Value → Value → Option Bool
  | 0, _, _, _ => none
  | d + 1, t, .int k a, .int k' b => match P.underlying t with
    | some (.int _) => match decide (k = k') with
      | true => some (a == b)
      | false => none
    | _ => none
  | d + 1, t, .bool a, .bool b => match P.underlying t with
    | some .bool => some (a == b)
    | _ => none
  | d + 1, t, .string a, .string b => match P.underlying t with
    | some .string => some (a.toList == b.toList)
    | _ => none
  | d + 1, t, .agg xs, .agg ys => match P.underlying t with
    | some (.struct fs) => match P.stoodInHeld t with
      | true => none
      | false => eqFs P (eqE P d) xs ys fs.toList
    | _ => none
  | _ + 1, _, _, _ => none
theorem eqE_sound {P : Program} {w : World} : ∀ (d : Nat) (t : TypeId) (x y : Value) (b : Bool), eqE P d t x y = some b → ∀ m, (Op.equalIn (m + d) t x y).run P w = .ok b w := by
  intro d
  induction d with
  | zero => intro t x y b h; simp [eqE] at h
  | succ d ih =>
    intro t x y b h m
    rw [show m + (d + 1) = (m + d) + 1 from rfl]
    unfold eqE at h
    split at h
    · cases h
    · rename_i d' t k a k' b' he1
      injection he1 with he1; subst he1
      split at h
      · rename_i kk hu
        split at h
        · rename_i hk
          obtain rfl := of_decide_eq_true hk
          obtain rfl := someI' h
          simp [Op.equalIn, run_underlying hu]
        · cases h
      · cases h
    · rename_i d' t a b' he1
      injection he1 with he1; subst he1
      split at h
      · rename_i hu
        obtain rfl := someI' h
        simp [Op.equalIn, run_underlying hu]
      · cases h
    · rename_i d' t a b' he1
      injection he1 with he1; subst he1
      split at h
      · rename_i hu
        obtain rfl := someI' h
        exact run_equalIn_string w _ _ _ _ hu
      · cases h
    · rename_i t _ _ _ _ dd xs ys he1
      injection he1 with he1; subst he1
      split at h
      · rename_i fs hu
        split at h
        · cases h
        · rename_i hs
          have hf : P.fieldsOf t = fs := by unfold Program.fieldsOf; rw [hu]
          rw [run_equalIn_struct w _ t xs ys (by rw [hf]; exact hu) hs, hf]
          clear hf hu
          generalize fs.toList = l at h
          induction l generalizing b with
          | nil => simp only [eqFs, Option.some.injEq] at h; subst h; rfl
          | cons f fs ihf =>
            unfold eqFs at h
            split at h
            · rename_i hn
              split at h
              · rename_i a b' ha hb
                split at h
                · rename_i r hr
                  split at h
                  · rename_i q hq
                    obtain rfl := someI' h
                    have hn' : f.name ≠ "_" := by simpa using hn
                    simp only [Op.eqFields, if_pos hn', Sem.run_bind, peval_sound _ ha w, peval_sound _ hb w, Result.andThen_ok, ih _ _ _ _ hr m, Sem.run_ite, ihf q hq]
                    cases r <;> simp
                  · cases h
                · cases h
              · cases h
            · cases h
      · cases h
    · cases h
theorem eqOk_eql {P : Program} {t : TypeId} {xs ys : Array Value} {b : Bool} {w : World} (hg : P.eqGuardType P.depth t = false) (h : eqE P 20 t (.agg xs) (.agg ys) = some b) : EqOk P .eql t (.agg xs) (.agg ys) (.bool b) w := by
  intro xo yo
  simp only [Sem.run_bind, run_eqGuard_agg w .eql t xo yo xs ys hg, Result.andThen_ok, run_eql_struct, eqE_sound _ _ _ _ _ h 9980]
theorem eqOk_neq {P : Program} {t : TypeId} {xs ys : Array Value} {b : Bool} {w : World} (hg : P.eqGuardType P.depth t = false) (h : eqE P 20 t (.agg xs) (.agg ys) = some b) : EqOk P .neq t (.agg xs) (.agg ys) (.bool (!b)) w := by
  intro xo yo
  simp only [Sem.run_bind, run_eqGuard_agg w .neq t xo yo xs ys hg, Result.andThen_ok, run_neq_struct, eqE_sound _ _ _ _ _ h 9980]

theorem spl_length {cs vs : List Value} {k : Nat} (h : k + vs.length ≤ cs.length) : (spl cs k vs).length = cs.length := by
  unfold spl; simp; omega
theorem spl_take {cs vs : List Value} {k m : Nat} (h : k + vs.length ≤ m) (hm : m ≤ cs.length) : (spl cs k vs).take m = spl (cs.take m) k vs := by
  have hl : (cs.take m).length = m := by simp; omega
  have e : spl cs k vs = spl (cs.take m) k vs ++ cs.drop m := by
    conv => lhs; rw [← List.take_append_drop m cs]
    unfold spl
    rw [List.take_append_of_le_length (by omega), List.drop_append_of_le_length (by omega)]
    simp [List.append_assoc]
  rw [e, List.take_left' (by rw [spl_length (by omega), hl])]
theorem OwnS.rs {α : Type} {F : Flat α} {w : World} {B e n c : Nat} {a : Option Addr} {l : List α} (h : OwnS (F := F) w B e (.slice a n c) l) : RS (G := Flat.toGoT F) w a c l := by
  obtain ⟨a', c', hv, hr, _⟩ := h.shape
  injection hv with h1 h2 h3
  subst h1 h3
  exact hr

/-! ### A builtin whose run is known -/
section
variable {P : Program} {n : Nat} {ops : Array Oper} {Q : Exit → Act → World → Prop}
end
theorem eqOk_nil {P : Program} {t e : TypeId} {a : Option Addr} {n c : Nat} {w : World} (hu : P.underlying t = some (.slice e)) : EqOk P .eql t (.slice a n c) (.slice none 0 0) (.bool a.isNone) w := by
  intro xo yo
  have h : ∀ d, (Op.equalIn (d + 1) t (.slice a n c) (.slice none 0 0)).run P w = .ok a.isNone w := fun d => by
    cases a <;> simp [Op.equalIn, run_underlying hu]
  have hb : (binOp .eql t (.slice a n c) (.slice none 0 0) : Sem Value) = (do pure (.bool (← Op.equalIn (9999 + 1) t (.slice a n c) (.slice none 0 0)))) := rfl
  have hg : eqGuard .eql t xo yo (.slice a n c) (.slice none 0 0) = pure () := rfl
  rw [hg, hb]
  simp only [Sem.run_bind, Sem.run_pure, Result.andThen_ok, h]
theorem NewB.owns {α : Type} {F : Flat α} {w w' : World} {b e n : Nat} {l : List α} {cs : List Value} (h : NewB w w' b cs e) (hc : cs = l.flatMap F.enc) (hn : l.length = n) (hm : n ≤ maxLen) :
    OwnS (F := F) w' w.heap.size e (.slice (some ⟨b, 0, none⟩) n n) l := by
  subst hc hn
  refine ⟨flat_len l, .inr ⟨b, l.length, (l.flatMap F.enc).toArray, rfl, h.ge, ?_, Nat.le_refl _, hm, by simpa using flat_len (F := F) l, ?_⟩⟩
  · rw [h.is, h.at_]; exact heap_alloc_new w _
  · have e : (l.flatMap F.enc).toArray.toList = l.flatMap F.enc := rfl
    rw [e, ← flat_len (F := F) l, List.take_length]

/-! ### An owned row that is cut and shifted in place -/
theorem setRow_grown {w : World} {g : Nat} {cs : Array Value} : w.grownBy (w.setRow g cs) (some g) :=
  ⟨rfl, rfl, rfl, by simp, fun k' _ hk' => setRow_other w g k' _ (fun e => hk' (by rw [e]))⟩
end Go.Bur
