/- Strings: contracts of the shelf brought to this chain (where nothing is counted of draws). -/
import Derived.Test.YtlfjoaipbpendaaGreatDoorHn
import Derived.Lib.ItoaNum
import Derived.Lib.IndexMore
import Derived.Lib.Join
import Derived.Lib.ParseIntB
namespace Go.Bur
open Go.RowKit
set_option linter.unusedVariables false
set_option linter.unusedSimpArgs false

theorem keep_below {w w' : World} (h : Below w.heap.size w w') : Keep [] w w' := ⟨h.os, h.tape, h.output, Nat.le_refl 0, h.size, fun k hk _ => h.block k hk⟩
section
variable {P : Program} {S : Tab}
/-! ### strconv.FormatInt -/
def fmtZ (n b : Int) : Option ByteArray := match decide (b = 10 ∧ -9223372036854775808 ≤ n ∧ n ≤ 9223372036854775807) with
  | true => some ⟨(Lib.itoa n).toArray⟩
  | false => none
@[reducible] def fmtCt (S : Tab) (g : Nat) : Ct S := ⟨g, [.one (.d (.int .i64)), .one (.d (.int .i64))], [], [.one (.d .str)], [], ByteArray, fun y => (y, ()), fun y => y.1, fun _ => rfl, fun n x => fmtZ x.1 x.2.1⟩
def FmtRaw (P : Program) (g : Nat) : Prop := ∀ (n : Int) (w : World), -9223372036854775808 ≤ n → n ≤ 9223372036854775807 → (∀ p ∈ glob, p w) → Calls P g #[.int .i64 n, .int .i64 10] w fun e w' => e = .returned (.string ⟨(Lib.itoa n).toArray⟩) ∧ Below w.heap.size w w'
theorem fmt_ok {g : Nat} (hcall : ∀ args w, (callFunc g args).run P w = .ok (.enter g args) w) (hraw : FmtRaw P g) : OkC P S (fmtCt S g) := by
  refine ⟨hcall, ?_⟩
  intro n x y hy R w ρ As Ps args hst hdom hargs hits
  obtain ⟨z, b, _⟩ := x
  have hy' : fmtZ z b = some y := hy
  unfold fmtZ at hy'
  split at hy'
  · rename_i hd
    obtain ⟨rfl, h1, h2⟩ := of_decide_eq_true hd
    obtain rfl := someI' hy'
    obtain ⟨v, vs, rfl, hv, hvs⟩ := All2.cons_left hargs
    obtain ⟨v2, vs2, rfl, hv2, hvs2⟩ := All2.cons_left hvs
    have e0 := All2.nil_left hvs2
    subst e0
    have e0 := All2.nil_left hits
    subst e0
    obtain rfl : v = .int .i64 z := hv
    obtain rfl : v2 = .int .i64 10 := hv2
    refine Calls.mono (hraw z w h1 h2 fun p hp => (hst.gl p hp).here) fun e w' ⟨he, hb⟩ => ?_
    have hk := keep_below hb
    exact ⟨_, fun _ => none, [], [], he, ⟨rfl, trivial, nofun, nofun⟩, by simpa [fps] using hk, (hst.ext hk.toExt).sub (As := []) (Bs := []) (by simp), by simp [fps]⟩
  · cases hy'

/-! ### strconv.ParseInt -/
def parN (l : List UInt8) : Int × Bool := match Lib.parseIntB 64 l with
  | .ok v => (v, false)
  | .«syntax» => (0, true)
  | .range => (Lib.intSat 64 l, true)
def parZ (s : ByteArray) (b z : Int) : Option (Int × Bool) := match decide (b = 10 ∧ z = 64 ∧ s.size ≤ 281474976710656) with
  | true => some (parN s.data.toList)
  | false => none
@[reducible] def parCt (S : Tab) (g : Nat) : Ct S := ⟨g, [.one (.d .str), .one (.d (.int .i64)), .one (.d (.int .i64))], [], [.one (.d (.int .i64)), .one .er], [], Int × Bool, fun y => (y.1, y.2, ()), fun y => (y.1, y.2.1), fun _ => rfl, fun n x => parZ x.1 x.2.1 x.2.2.1⟩
def ErV (e : Bool) (v : Value) : Prop := (e = false ∧ v = .nilIface) ∨ (e = true ∧ ∃ t p, v = .iface t p)
def ParRaw (P : Program) (g : Nat) : Prop := ∀ (s : ByteArray) (w : World), s.size ≤ 281474976710656 → (∀ p ∈ glob, p w) → Calls P g #[.string s, .int .i64 10, .int .i64 64] w fun e w' => ∃ u, e = .returned (.tuple #[.int .i64 (parN s.data.toList).1, u]) ∧ ErV (parN s.data.toList).2 u ∧ Below w.heap.size w w'
theorem par_ok {g : Nat} (hcall : ∀ args w, (callFunc g args).run P w = .ok (.enter g args) w) (hraw : ParRaw P g) : OkC P S (parCt S g) := by
  refine ⟨hcall, ?_⟩
  intro n x y hy R w ρ As Ps args hst hdom hargs hits
  obtain ⟨s, b, z, _⟩ := x
  have hy' : parZ s b z = some y := hy
  unfold parZ at hy'
  split at hy'
  · rename_i hd
    obtain ⟨rfl, rfl, h2⟩ := of_decide_eq_true hd
    obtain rfl := someI' hy'
    obtain ⟨v, vs, rfl, hv, hvs⟩ := All2.cons_left hargs
    obtain ⟨v2, vs2, rfl, hv2, hvs2⟩ := All2.cons_left hvs
    obtain ⟨v3, vs3, rfl, hv3, hvs3⟩ := All2.cons_left hvs2
    have e0 := All2.nil_left hvs3
    subst e0
    have e0 := All2.nil_left hits
    subst e0
    obtain rfl : v = .string s := hv
    obtain rfl : v2 = .int .i64 10 := hv2
    obtain rfl : v3 = .int .i64 64 := hv3
    refine Calls.mono (hraw s w h2 fun p hp => (hst.gl p hp).here) fun e w' ⟨u, he, hu, hb⟩ => ?_
    have hk := keep_below hb
    exact ⟨_, fun _ => none, [], [], he, ⟨⟨[_, u], rfl, rfl, hu, trivial⟩, trivial, nofun, nofun⟩, by simpa [fps] using hk, (hst.ext hk.toExt).sub (As := []) (Bs := []) (by simp), by simp [fps]⟩
  · cases hy'

/-! ### strings.Cut -/
def cutZ (s p : ByteArray) : Option (ByteArray × ByteArray × Bool) := match Nat.blt s.size 4294967281 with
  | true => some (⟨(Lib.cut s.data.toList p.data.toList).1.toArray⟩, ⟨(Lib.cut s.data.toList p.data.toList).2.1.toArray⟩, (Lib.cut s.data.toList p.data.toList).2.2)
  | false => none
@[reducible] def cutCt (S : Tab) (g : Nat) : Ct S := ⟨g, [.one (.d .str), .one (.d .str)], [], [.one (.d .str), .one (.d .str), .one (.d .bool)], [], ByteArray × ByteArray × Bool, fun y => (y.1, y.2.1, y.2.2, ()), fun y => (y.1, y.2.1, y.2.2.1), fun _ => rfl, fun n x => cutZ x.1 x.2.1⟩
def CutRaw (P : Program) (g : Nat) : Prop := ∀ (s p : ByteArray) (w : World), s.size < 4294967281 → (∀ q ∈ glob, q w) → Calls P g #[.string s, .string p] w fun e w' => e = .returned (.tuple #[.string ⟨(Lib.cut s.data.toList p.data.toList).1.toArray⟩, .string ⟨(Lib.cut s.data.toList p.data.toList).2.1.toArray⟩, .bool (Lib.cut s.data.toList p.data.toList).2.2]) ∧ Below w.heap.size w w'
theorem cut_ok {g : Nat} (hcall : ∀ args w, (callFunc g args).run P w = .ok (.enter g args) w) (hraw : CutRaw P g) : OkC P S (cutCt S g) := by
  refine ⟨hcall, ?_⟩
  intro n x y hy R w ρ As Ps args hst hdom hargs hits
  obtain ⟨s, p, _⟩ := x
  have hy' : cutZ s p = some y := hy
  unfold cutZ at hy'
  split at hy'
  · rename_i hd
    have h2 : s.size < 4294967281 := Nat.blt_eq ▸ hd
    obtain rfl := someI' hy'
    obtain ⟨v, vs, rfl, hv, hvs⟩ := All2.cons_left hargs
    obtain ⟨v2, vs2, rfl, hv2, hvs2⟩ := All2.cons_left hvs
    have e0 := All2.nil_left hvs2
    subst e0
    have e0 := All2.nil_left hits
    subst e0
    obtain rfl : v = .string s := hv
    obtain rfl : v2 = .string p := hv2
    refine Calls.mono (hraw s p w h2 fun p hp => (hst.gl p hp).here) fun e w' ⟨he, hb⟩ => ?_
    have hk := keep_below hb
    exact ⟨_, fun _ => none, [], [], he, ⟨⟨[_, _, _], rfl, rfl, rfl, rfl, trivial⟩, trivial, nofun, nofun⟩, by simpa [fps] using hk, (hst.ext hk.toExt).sub (As := []) (Bs := []) (by simp), by simp [fps]⟩
  · cases hy'

/-! ### strings.Join -/
def joinB (l : List ByteArray) (p : ByteArray) : List UInt8 := Lib.join (l.map (·.data.toList)) p.data.toList
def joinZ (l : List ByteArray) (p : ByteArray) : Option ByteArray := match Nat.ble (joinB l p).length 140737488355328 && Nat.ble l.length 140737488355328 with
  | true => some ⟨(joinB l p).toArray⟩
  | false => none
@[reducible] def joinCt (S : Tab) (g : Nat) : Ct S := ⟨g, [.one (.d (.sl .str)), .one (.d .str)], [], [.one (.d .str)], [], ByteArray, fun y => (y, ()), fun y => y.1, fun _ => rfl, fun n x => joinZ x.1 x.2.1⟩
def JoinRaw (P : Program) (g : Nat) : Prop := (∀ (a : Option Addr) (c : Nat) (p : ByteArray) (w : World), Calls P g #[.slice a 0 c, .string p] w fun e w' => e = .returned (.string ⟨#[]⟩) ∧ w' = w) ∧
  ∀ (bk o c : Nat) (xs : List ByteArray) (p : ByteArray) (w : World), (∀ (j : Nat) x, xs[j]? = some x → w.cell? ⟨bk, o + j, none⟩ = some (.string x)) → bk < w.heap.size → xs.length ≤ 140737488355328 → xs.length ≤ c → (joinB xs p).length ≤ 140737488355328 →
    Calls P g #[.slice (some ⟨bk, o, none⟩) xs.length c, .string p] w fun e w' => e = .returned (.string ⟨(joinB xs p).toArray⟩) ∧ Below w.heap.size w w'
theorem cell_lt {w : World} {A : Addr} {v : Value} (h : w.cell? A = some v) : A.block < w.heap.size ∧ A.spot = none := by
  unfold World.cell? at h
  split at h
  · rename_i c _ _ hb
    split at h
    · cases h
    · rename_i hs
      refine ⟨(Array.getElem?_eq_some_iff.1 hb).1, ?_⟩
      cases he : A.spot with
      | none => rfl
      | some _ => rw [he] at hs; simp at hs
  · cases h
theorem join_ok {g : Nat} (hcall : ∀ args w, (callFunc g args).run P w = .ok (.enter g args) w) (hraw : JoinRaw P g) : OkC P S (joinCt S g) := by
  refine ⟨hcall, ?_⟩
  intro n x y hy R w ρ As Ps args hst hdom hargs hits
  obtain ⟨l, p, _⟩ := x
  have hy' : joinZ l p = some y := hy
  unfold joinZ at hy'
  split at hy'
  · rename_i hd
    simp only [Bool.and_eq_true] at hd
    have h1 := Nat.le_of_ble_eq_true hd.1
    have h2 := Nat.le_of_ble_eq_true hd.2
    obtain rfl := someI' hy'
    obtain ⟨v, vs, rfl, hv, hvs⟩ := All2.cons_left hargs
    obtain ⟨v2, vs2, rfl, hv2, hvs2⟩ := All2.cons_left hvs
    have e0 := All2.nil_left hvs2
    subst e0
    have e0 := All2.nil_left hits
    subst e0
    obtain ⟨a, c, rfl, hl⟩ : ∃ a c, v = .slice a (@List.length ByteArray l) c ∧ ((l : List ByteArray) = [] ∨ (RSg (S.GT .str) a c l ∈ Ps)) := hv
    obtain rfl : v2 = .string p := hv2
    have fin : ∀ (e : Ending) (w' : World), e = .returned (.string ⟨(joinB l p).toArray⟩) ∧ Below w.heap.size w w' → ∃ v ρ' As' Ps', e = .returned v ∧ ResOk P S (joinCt S g) ρ ((joinCt S g).un ⟨(joinB l p).toArray⟩) v As' ρ' Ps' ∧ Keep (fps []) w w' ∧ St R w' As' Ps' ∧ ∀ b ∈ fps As', b ∈ fps [] ∨ w.heap.size ≤ b := by
      intro e w' ⟨he, hb⟩
      have hk := keep_below hb
      exact ⟨_, fun _ => none, [], [], he, ⟨rfl, trivial, nofun, nofun⟩, by simpa [fps] using hk, (hst.ext hk.toExt).sub (As := []) (Bs := []) (by simp), by simp [fps]⟩
    by_cases h0 : l = []
    · subst h0
      refine Calls.mono (hraw.1 a c p w) fun e w' ⟨he, hw⟩ => fin e w' ⟨by rw [he]; rfl, hw ▸ Below.refl _ _⟩
    · have hrs := (hst.per _ (hl.resolve_left h0)).here
      have hne := hrs.some_ h0
      have hc := hrs.cap
      cases a with
      | none => exact absurd rfl hne
      | some A =>
        have hat : ∀ (j : Nat) x, l[j]? = some x → w.cell? (A.add j) = some (.string x) := fun j x hj => by
          obtain ⟨e, he, hcell⟩ := hrs.at_ j x hj
          have he' : e = [Value.string x] := he
          subst he'
          have := hcell 0 _ rfl
          have hsz : (S.GT .str).sz = 1 := rfl
          rw [hsz, Nat.mul_one, add_zero'] at this
          exact this
        obtain ⟨x0, hx0⟩ : ∃ x, l[0]? = some x := by
          cases l with
          | nil => exact absurd rfl h0
          | cons x l => exact ⟨x, rfl⟩
        have hc0 := hat 0 x0 hx0
        rw [add_zero'] at hc0
        obtain ⟨hb, hs⟩ := cell_lt hc0
        obtain ⟨bk, o, sp⟩ := A
        simp only at hs hb
        subst hs
        refine Calls.mono (hraw.2 bk o c l p w (fun j x hj => by have := hat j x hj; rwa [add_at] at this) hb h2 hc h1) fun e w' h => fin e w' h
  · cases hy'
end
end Go.Bur
