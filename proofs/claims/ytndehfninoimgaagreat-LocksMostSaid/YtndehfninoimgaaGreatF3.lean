import Derived.Test.YtndehfninoimgaaGreatTypes
import Derived.Test.YtndehfninoimgaaGreatF2
namespace Go.Proofs.YtndehfninoimgaaGreat
open Go Go.Bur Go.RowKit
set_option linter.unusedVariables false
set_option linter.unusedSimpArgs false
set_option maxRecDepth 100000
noncomputable section
def locks_holds_d04_j1 (n : Nat) : Int × Int × Int × Bool × Int × (List Wait) × (List Hold) × Unit → Option (Int × Bool × Int × (List Wait) × (List Hold)) := fun ⟨v3, v4, v5, v6, v7, v8, v9, _⟩ =>
 (idx v9 v4).bind fun x10 =>
 (idx v9 v4).bind fun x11 =>
 (put v9 v4 (Hold.mk x11.txn v3)).bind fun l12 =>
 some (v5, v6, v7, v8, l12)
def locks_holds_d04 (n : Nat) (p1 : Int) (p2 : Int) (q0_0 : Int) (q0_1 : Bool) (q0_2 : Int) (q0_3 : List Wait) (q1 : List Hold) : Option (Int × Bool × Int × (List Wait) × (List Hold)) :=
 (slices_BinarySearchFunc_int_f105 n q1 p1).bind fun y1 =>
 jn (locks_holds_d04_j1 n) fun j1 =>
 cond (!y1.2)
 ((slices_Insert_Hold n y1.1 q1 ([(Hold.mk p1 0)] : List Hold)).bind fun y13 =>
 j1 (p2, y1.1, q0_0, q0_1, q0_2, q0_3, y13, ()))
 (j1 (p2, y1.1, q0_0, q0_1, q0_2, q0_3, q1, ()))
@[reducible] def locks_holds_d04_ct : Ct tab := ⟨64, [.one (.box 0 0), .one (.d (.int .i64)), .one (.d (.int .i64))], [.box [.d (.int .i64), .d .bool, .d (.int .u16), .own 1, .d (.sl (.st 2))], .row 45 (.st 1)], [], [(some 0, .box [.d (.int .i64), .d .bool, .d (.int .u16), .own 1, .d (.sl (.st 2))]), (none, .row 45 (.st 1))], (Int × Bool × Int × (List Wait) × (List Hold)), fun y => (y.1, y.2.1, y.2.2.1, y.2.2.2.1, y.2.2.2.2, ()), fun y => (y.1, y.2.1, y.2.2.1, y.2.2.2.1, y.2.2.2.2.1), fun _ => rfl, fun n x => locks_holds_d04 n x.1 x.2.1 x.2.2.1 x.2.2.2.1 x.2.2.2.2.1 x.2.2.2.2.2.1 x.2.2.2.2.2.2.1⟩
theorem locks_holds_d04_ok : OkC Tryz.prog tab locks_holds_d04_ct := fn_ok (W := ⟨Tryz.prog, tab, tyOf, [slices_BinarySearchFunc_int_f105_ct, slices_Insert_Hold_ct], addO, dpO, false⟩) ⟨tabOk, ⟨slices_BinarySearchFunc_int_f105_ok, slices_Insert_Hold_ok, trivial⟩, addOk⟩ (by kernel_rfl) 39 Tryz.f64 (.sq (.n) (.sq (.sq (.n) (.cd (some ⟨[(0, .one (.box 0 0)), (2, .one (.d (.int .i64))), (6, .one (.d (.int .i64)))], [.box [.d (.int .i64), .d .bool, .d (.int .u16), .own 1, .d (.sl (.st 2))], .row 45 (.st 1)], [(0, 0)]⟩) (.n) (.n))) (.n))) Tryz.func64 Tryz.call64 rfl (by kernel_rfl) (by kernel_rfl) (by kernel_rfl) fun n x => by kernel_rfl
def locks_pump_j1 (n : Nat) : Int × Bool × Int × (List Wait) × (List Int) × (List Hold) × Unit → Option (Int × Bool × Int × (List Wait) × (List Hold) × (List Int)) := fun ⟨v12, v13, v14, v15, v16, v17, _⟩ =>
 some (v12, v13, v14, v15, v17, v16)
def locks_pump_l2 (n : Nat) (j1 : Int × Bool × Int × (List Wait) × (List Int) × (List Hold) × Unit → Option (Int × Bool × Int × (List Wait) × (List Hold) × (List Int))) : Nat → Int × Bool × Int × (List Wait) × (List Int) × (List Hold) × Unit → Option (Int × Bool × Int × (List Wait) × (List Hold) × (List Int)) := loopF fun r2 ⟨v18, v19, v20, v21, v22, v23, _⟩ =>
 cond (decide ((v21.length : Int) > 0))
 ((idx v21 0).bind fun x24 =>
 (locks_goes n (Queue.mk (Res.mk v18 v19 v20) v23 v21) x24.txn x24.mode).bind fun y25 =>
 cond (!y25)
 (j1 (v18, v19, v20, v21, v22, v23, ()))
 ((locks_holds_d04 n x24.txn x24.mode v18 v19 v20 v21 v23).bind fun y26 =>
 (sub y26.2.2.2.1 1 (y26.2.2.2.1.length : Int)).bind fun l27 =>
 (app 8 v22 ([x24.txn] : List Int)).bind fun l28 =>
 r2 (y26.1, y26.2.1, y26.2.2.1, l27, l28, y26.2.2.2.2, ())))
 (j1 (v18, v19, v20, v21, v22, v23, ()))
def locks_pump (n : Nat) (q0_0 : Int) (q0_1 : Bool) (q0_2 : Int) (q1 : List Hold) (q2 : List Wait) : Option (Int × Bool × Int × (List Wait) × (List Hold) × (List Int)) :=
 jn (locks_pump_j1 n) fun j1 =>
 locks_pump_l2 n j1 n (q0_0, q0_1, q0_2, q2, ([] : List Int), q1, ())
@[reducible] def locks_pump_ct : Ct tab := ⟨113, [.one (.box 0 0)], [.box [.d (.int .i64), .d .bool, .d (.int .u16), .own 1, .own 2], .row 45 (.st 1), .row 47 (.st 2)], [.one (.own 2)], [(some 0, .box [.d (.int .i64), .d .bool, .d (.int .u16), .own 1, .d (.sl (.st 2))]), (none, .row 45 (.st 1)), (none, .row 3 (.int .i64))], (Int × Bool × Int × (List Wait) × (List Hold) × (List Int)), fun y => (y.1, y.2.1, y.2.2.1, y.2.2.2.1, y.2.2.2.2.1, y.2.2.2.2.2, ()), fun y => (y.1, y.2.1, y.2.2.1, y.2.2.2.1, y.2.2.2.2.1, y.2.2.2.2.2.1), fun _ => rfl, fun n x => locks_pump n x.1 x.2.1 x.2.2.1 x.2.2.2.1 x.2.2.2.2.1⟩
theorem locks_pump_ok : OkC Tryz.prog tab locks_pump_ct := fn_ok (W := ⟨Tryz.prog, tab, tyOf, [locks_goes_ct, locks_holds_d04_ct], addO, dpO, false⟩) ⟨tabOk, ⟨locks_goes_ok, locks_holds_d04_ok, trivial⟩, addOk⟩ (by kernel_rfl) 46 Tryz.f113 (.sq (.n) (.sq (.n) (.sq (.n) (.sq (.bk (some ⟨[(0, .one (.box 0 0)), (3, .one (.own 1))], [.box [.d (.int .i64), .d .bool, .d (.int .u16), .own 2, .d (.sl (.st 2))], .row 3 (.int .i64), .row 45 (.st 1)], [(0, 0)]⟩) (.lp ⟨[(0, .one (.box 0 0)), (3, .one (.own 1))], [.box [.d (.int .i64), .d .bool, .d (.int .u16), .own 2, .d (.sl (.st 2))], .row 3 (.int .i64), .row 45 (.st 1)], [(0, 0)]⟩ (.n))) (.n))))) Tryz.func113 Tryz.call113 rfl (by kernel_rfl) (by kernel_rfl) (by kernel_rfl) fun n x => by kernel_rfl
def locks_without_3 (n : Nat) (p0 : Queue) : Option Bool :=
 some ((p0.holders.length : Int) == 0)
@[reducible] def locks_without_3_ct : Ct tab := ⟨115, [.st 3], [], [.one (.d .bool)], [], Bool, fun y => (y, ()), fun y => y.1, fun _ => rfl, fun n x => locks_without_3 n x.1⟩
theorem locks_without_3_ok : OkC Tryz.prog tab locks_without_3_ct := fn_ok (W := ⟨Tryz.prog, tab, tyOf, [], addO, dpO, false⟩) ⟨tabOk, trivial, addOk⟩ (by kernel_rfl) 7 Tryz.f115 (.n) Tryz.func115 Tryz.call115 rfl (by kernel_rfl) (by kernel_rfl) (by kernel_rfl) fun n x => by kernel_rfl
def slices_IndexFunc_Queue_f115_l1 (n : Nat) : Nat → (List Queue) × Int × Int × Unit → Option Int := loopF fun r1 ⟨v1, v2, v3, _⟩ =>
 cond (decide (v3 < v2))
 ((idx v1 v3).bind fun x4 =>
 (locks_without_3 n x4).bind fun y5 =>
 cond y5
 (some v3)
 (r1 (v1, v2, (IntKind.wrap .i64 (v3 + 1)), ())))
 (some (-1))
def slices_IndexFunc_Queue_f115 (n : Nat) (p0 : List Queue) : Option Int :=
 slices_IndexFunc_Queue_f115_l1 n n (p0, (p0.length : Int), 0, ())
@[reducible] def slices_IndexFunc_Queue_f115_ct : Ct tab := ⟨137, [.one (.d (.sl (.st 3))), .one (.fn 115 [])], [], [.one (.d (.int .i64))], [], Int, fun y => (y, ()), fun y => y.1, fun _ => rfl, fun n x => slices_IndexFunc_Queue_f115 n x.1⟩
theorem slices_IndexFunc_Queue_f115_ok : OkC Tryz.prog tab slices_IndexFunc_Queue_f115_ct := fn_ok (W := ⟨Tryz.prog, tab, tyOf, [locks_without_3_ct], addO, dpO, false⟩) ⟨tabOk, ⟨locks_without_3_ok, trivial⟩, addOk⟩ (by kernel_rfl) 19 Tryz.f137 (.sq (.n) (.sq (.sq (.n) (.bk none (.lp ⟨[(0, .one (.d (.sl (.st 3)))), (1, .one (.fn 115 [])), (7, .one (.d (.int .i64))), (8, .one (.d (.int .i64)))], [], []⟩ (.n)))) (.n))) Tryz.func137 Tryz.call137 rfl (by kernel_rfl) (by kernel_rfl) (by kernel_rfl) fun n x => by kernel_rfl
theorem slices_DeleteFunc_Queue_raw {a0 : Option Addr} {c0 gd : Nat} {cv : List Value} {Pf PI : List (World → Prop)} (p0 : List (Raw 5)) (bs : List Bool) (hbl : bs.length = p0.length) (ix : Int)
    (hI : Meets Tryz.prog 137 #[.slice a0 p0.length c0, .func (.func gd) #[] cv.toArray] [] PI fun v A P => v = .int .i64 ix ∧ A = [] ∧ P = [])
    (hPI : ∀ (F : List Nat) (w : World), AllB F w Pf → Bx F w (fun w => (rowF (rawF 5) 43 a0 c0 p0).holds w) → AllB F w PI)
    (hix : (ix = -1 ∧ ∀ y ∈ bs, y = false) ∨ ∃ k : Nat, ix = (k : Int) ∧ bs[k]? = some true ∧ ∀ y ∈ bs.take k, y = false)
    (hD : ∀ (j : Nat) (x : (Raw 5)) (y : Bool), p0[j]? = some x → bs[j]? = some y → Meets Tryz.prog gd (([Value.agg x.1.toArray] ++ cv).toArray) [] Pf fun v A P => v = .bool y ∧ A = [] ∧ P = []) (hsm : p0.length < 4611686018427387904) :
    Meets Tryz.prog 114 #[.slice a0 p0.length c0, .func (.func gd) #[] cv.toArray] [rowF (rawF 5) 43 a0 c0 p0] Pf fun v A P => ∃ (a : Option Addr) (c : Nat), v = .slice a (keepF p0 bs).length c ∧ A = [rowF (rawF 5) 43 a c (keepF p0 bs)] ∧ P = [] := by
  have len : ∀ x : (Raw 5), ∃ v0 v1 v2 v3 v4, x.1 = [v0, v1, v2, v3, v4] := fun x => by
    have h := x.2.1
    generalize x.1 = l at h ⊢
    match l, h with
    | [v0, v1, v2, v3, v4], _ => exact ⟨v0, v1, v2, v3, v4, rfl⟩
  refine meets_enter 42 Tryz.func114 Tryz.call114 rfl (by kernel_rfl) (by simp) fun C a w hS => ?_
  have hc : p0.length ≤ c0 := (row_len (hS.st.own _ (List.mem_cons_self ..))).2.1
  have hfs : ∀ {F : List Nat} {a : Act} {w : World} {L : Env} {As : List Asn}, Sy C 42 a w L As Pf → Up C As w F → AllB F w Pf := fun {F a w L As} hS up => by
    have key : ∀ l : List (World → Prop), (∀ p ∈ l, Bx F w p) → AllB F w l := fun l => by
      induction l with
      | nil => intro _; trivial
      | cons p r ih => intro h; exact ⟨h p (by simp), ih fun q hq => h q (by simp [hq])⟩
    exact key _ fun p hp => up (hS.st.per p hp)
  refine k_seq (by kernel_rfl) fun K1 hK1 => ?_
  refine k_reg 1 (by kernel_rfl) ?_
  refine r_run 0 1 [0, 1] [] hS rfl (L' := [(0, .slice a0 p0.length c0), (1, .func (.func gd) #[] cv.toArray)]) (As' := [rowF (rawF 5) 43 a0 c0 p0]) (ob := []) (by kernel_rfl) trivial fun a w hS => ?_
  refine wl_end ?_
  refine hK1 _ _ ?_
  refine k_seq (by kernel_rfl) fun K2 hK2 => ?_
  refine k_reg 4 (by kernel_rfl) ?_
  refine r_run 0 2 [0, 1, 8, 9] [] hS rfl (L' := [(0, .slice a0 p0.length c0), (1, .func (.func gd) #[] cv.toArray), (8, .slice a0 p0.length c0), (9, .func (.func gd) #[] cv.toArray)]) (As' := [rowF (rawF 5) 43 a0 c0 p0]) (ob := []) (by kernel_rfl) trivial fun a w hS => ?_
  refine r_callX 2 rfl (d := some 10) (g := 137) (args := #[.slice a0 p0.length c0, .func (.func gd) #[] cv.toArray]) [] [0] hS (by kernel_rfl) rfl rfl hI (fun F up le => hPI F _ (hfs hS up) (le 0 rfl _ fun _ h => h)) ?_
  rintro v A' P' a w ⟨rfl, rfl, rfl⟩ hS
  refine r_run 3 1 [0, 1, 5] [] hS rfl (L' := [(0, .slice a0 p0.length c0), (1, .func (.func gd) #[] cv.toArray), (5, .int .i64 ix)]) (As' := [rowF (rawF 5) 43 a0 c0 p0]) (ob := []) (by kernel_rfl) trivial fun a w hS => ?_
  refine wl_end ?_
  refine hK2 _ _ ?_
  refine k_seq (by kernel_rfl) fun K3 hK3 => ?_
  refine k_seq (by kernel_rfl) fun K4 hK4 => ?_
  refine k_reg 2 (by kernel_rfl) ?_
  refine r_run 0 2 [0, 1, 5, 12] [] hS rfl (L' := [(0, .slice a0 p0.length c0), (1, .func (.func gd) #[] cv.toArray), (5, .int .i64 ix), (12, .bool (ix == (-1 : Int)))]) (As' := [rowF (rawF 5) 43 a0 c0 p0]) (ob := []) (by kernel_rfl) trivial fun a w hS => ?_
  refine wl_end ?_
  refine hK4 _ _ ?_
  refine k_cond (ix == (-1 : Int)) hS.has (by kernel_rfl) (by kernel_rfl) (by kernel_rfl) (fun hq => ?_) (fun hq => ?_)
  · have hall : keepF p0 bs = p0 := by
      have hq : ix = -1 := of_decide_eq_true (p := ix = (-1 : Int)) (by simpa using hq)
      rcases hix with ⟨_, h⟩ | ⟨k, h, _⟩
      · exact keepF_all hbl h
      · omega
    rw [hall]
    refine k_seq (by kernel_rfl) fun K5 hK5 => ?_
    refine k_reg 2 (by kernel_rfl) ?_
    refine r_run 0 2 [4] [] hS rfl (L' := [(4, .slice a0 p0.length c0)]) (As' := [rowF (rawF 5) 43 a0 c0 p0]) (ob := []) (by kernel_rfl) trivial fun a w hS => ?_
    refine wl_end ?_
    refine hK5 _ _ ?_
    refine k_ret (by kernel_rfl) ?_
    try simp only [Exit.then, Exit.inBlock]
    refine r_ret hS [.tmp 4] [] (xs := [.slice a0 p0.length c0]) (ps := []) [0] [] rfl (by kernel_rfl) (fun hA => trivial) rfl (fun F up => trivial) ?_
    exact ⟨a0, c0, rfl, rfl, rfl⟩
  · have hne : ix ≠ -1 := fun e => by rw [e] at hq; simp at hq
    obtain ⟨k0, rfl, hb0, htk⟩ : ∃ k : Nat, ix = (k : Int) ∧ bs[k]? = some true ∧ ∀ y ∈ bs.take k, y = false := hix.resolve_left fun h => hne h.1
    obtain ⟨hk0, _⟩ := List.getElem?_eq_some_iff.1 hb0
    rw [hbl] at hk0
    obtain ⟨g, rfl⟩ := row_block (hS.st.own _ (List.mem_cons_self ..)) (by omega)
    refine k_skip (by kernel_rfl) ?_
    refine hK3 _ _ ?_
    refine k_seq (by kernel_rfl) fun K5 hK5 => ?_
    refine k_seq (by kernel_rfl) fun K6 hK6 => ?_
    refine k_reg 3 (by kernel_rfl) ?_
    refine r_run 0 3 [0, 1, 5, 6] [.as 15 (.int .i64 ((k0 + 1 : Nat) : Int))] hS rfl (L' := [(0, .slice (some ⟨g, 0, none⟩) p0.length c0), (1, .func (.func gd) #[] cv.toArray), (5, .int .i64 (k0 : Int)), (6, .int .i64 ((k0 + 1 : Nat) : Int))]) (As' := [rowF (rawF 5) 43 (some ⟨g, 0, none⟩) c0 p0]) (ob := [fun _ => Value.int .i64 (IntKind.wrap .i64 ((k0 : Int) + 1)) = .int .i64 ((k0 + 1 : Nat) : Int)]) (by kernel_rfl) ⟨Bx.c (congrArg (Value.int .i64) (wrap_s (by omega))), trivial⟩ fun a w hS => ?_
    refine wl_end ?_
    refine hK6 _ _ ?_
    refine k_blk (by kernel_rfl) ?_
    refine k_loop (by kernel_rfl) (fun q a w => ∃ (i j : Nat) (cur : List (Raw 5)), q + j = p0.length ∧ i < j ∧ cur.length = p0.length ∧ cur.take i = keepF (p0.take j) (bs.take j) ∧ cur.drop j = p0.drop j ∧ Sy C 42 a w [(0, .slice (some ⟨g, 0, none⟩) p0.length c0), (1, .func (.func gd) #[] cv.toArray), (5, .int .i64 (i : Int)), (6, .int .i64 (j : Int))] [rowF (rawF 5) 43 (some ⟨g, 0, none⟩) c0 cur] Pf)
      (p0.length - (k0 + 1)) ⟨k0, k0 + 1, p0, by omega, by omega, rfl, ?_, rfl, hS⟩ ?_
    · obtain ⟨x0, hx0⟩ : ∃ x, p0[k0]? = some x := ⟨_, List.getElem?_eq_getElem hk0⟩
      rw [List.take_add_one, List.take_add_one, hx0, hb0]
      simp only [Option.toList_some]
      rw [keepF_snoc (by rw [List.length_take, List.length_take, hbl]), keepF_all (by rw [List.length_take, List.length_take, hbl]) htk]
      simp
    · rintro q a w ⟨i, j, cur, hqj, hij, hcl, htake, hdrop, hS⟩ K hK
      have hil : i ≤ p0.length := by omega
      refine k_seq (by kernel_rfl) fun K7 hK7 => ?_
      refine k_seq (by kernel_rfl) fun K8 hK8 => ?_
      refine k_reg 4 (by kernel_rfl) ?_
      refine r_run 0 4 [0, 1, 5, 6, 19] [] hS rfl (L' := [(0, .slice (some ⟨g, 0, none⟩) p0.length c0), (1, .func (.func gd) #[] cv.toArray), (5, .int .i64 (i : Int)), (6, .int .i64 (j : Int)), (19, .bool (decide ((j : Int) < (p0.length : Int))))]) (As' := [rowF (rawF 5) 43 (some ⟨g, 0, none⟩) c0 cur]) (ob := []) (by kernel_rfl) trivial fun a w hS => ?_
      refine wl_end ?_
      refine hK8 _ _ ?_
      refine k_cond (decide ((j : Int) < (p0.length : Int))) hS.has (by kernel_rfl) (by kernel_rfl) (by kernel_rfl) (fun hq => ?_) (fun hq => ?_)
      · have hjl : j < p0.length := by have := of_decide_eq_true hq; omega
        obtain ⟨x, hxj⟩ : ∃ x, cur[j]? = some x := ⟨_, List.getElem?_eq_getElem (by omega)⟩
        have hxp : p0[j]? = some x := by
          have h1 : (cur.drop j)[0]? = some x := by rw [List.getElem?_drop]; simpa using hxj
          rw [hdrop, List.getElem?_drop] at h1
          simpa using h1
        obtain ⟨yb, hyb⟩ : ∃ y, bs[j]? = some y := ⟨_, List.getElem?_eq_getElem (by omega)⟩
        have hd := hD j x yb hxp hyb
        have hidx : idx cur (j : Int) = some x := by unfold idx; rw [if_pos (by omega)]; simpa using hxj
        obtain ⟨v0, v1, v2, v3, v4, hxv⟩ := len x
        rw [hxv] at hd
        have hone : ∀ u ∈ [v0, v1, v2, v3, v4], u.oneCell' = true := fun u hu => x.2.2 u (by rw [hxv]; exact hu)
        refine k_skip (by kernel_rfl) ?_
        refine hK7 _ _ ?_
        refine k_seq (by kernel_rfl) fun K9 hK9 => ?_
        refine k_blk (by kernel_rfl) ?_
        refine k_seq (by kernel_rfl) fun K10 hK10 => ?_
        refine k_reg 6 (by kernel_rfl) ?_
        refine r_run1 0 6 [0, 1, 5, 6, 7] [.row 0 [v0, v1, v2, v3, v4], .own 0 0] hS rfl (L' := fun u0 => [(0, .slice (some ⟨g, 0, none⟩) p0.length c0), (1, .func (.func gd) #[] cv.toArray), (5, .int .i64 (i : Int)), (6, .int .i64 (j : Int)), (7, newVal u0 none)]) (As' := fun u0 => [.box u0 [v0, v1, v2, v3, v4], rowF (rawF 5) 43 (some ⟨g, 0, none⟩) c0 cur])
          (ob := fun u0 => [fun _ => Inb (some ⟨g, 0, none⟩) p0.length (j : Int), fun _ => LoadOk (rowF (rawF 5) 43 (some ⟨g, 0, none⟩) c0 cur) ((baseOf (some ⟨g, 0, none⟩)).add ((j : Int).toNat * 5)) [v0, v1, v2, v3, v4], fun _ => (⟨u0, 0, none⟩ : Addr) = (⟨u0, 0, none⟩ : Addr).add 0, fun _ => ∀ u ∈ [v0, v1, v2, v3, v4], u.oneCell' = true]) (fun u0 => by kernel_rfl) (fun u0 => ⟨Bx.c ⟨by omega, by omega, by simp⟩, Bx.c (by have := loadRow (F := (rawF 5)) (e := 43) (a := some ⟨g, 0, none⟩) (c := c0) hidx; rw [← hxv]; exact this), Bx.c (add_zero' _).symm, Bx.c hone, trivial⟩) fun u0 a w hS => ?_
        refine wl_end ?_
        refine hK10 _ _ ?_
        refine k_seq (by kernel_rfl) fun K11 hK11 => ?_
        refine k_reg 4 (by kernel_rfl) ?_
        refine r_run 0 2 [0, 1, 5, 6, 7, 26, 27] [.own 0 0] hS rfl (L' := [(0, .slice (some ⟨g, 0, none⟩) p0.length c0), (1, .func (.func gd) #[] cv.toArray), (5, .int .i64 (i : Int)), (6, .int .i64 (j : Int)), (7, newVal u0 none), (26, .func (.func gd) #[] cv.toArray), (27, .agg #[v0, v1, v2, v3, v4])]) (As' := [.box u0 [v0, v1, v2, v3, v4], rowF (rawF 5) 43 (some ⟨g, 0, none⟩) c0 cur]) (ob := [fun _ => (⟨u0, 0, none⟩ : Addr) = (⟨u0, 0, none⟩ : Addr).add 0]) (by kernel_rfl) ⟨Bx.c (add_zero' _).symm, trivial⟩ fun a w hS => ?_
        refine r_call 2 rfl (d := some 28) (g := gd) (args := ([Value.agg #[v0, v1, v2, v3, v4]] ++ cv).toArray) [] hS (by kernel_rfl) rfl hd (fun F up => hfs hS up) ?_
        rintro v A' P' a w ⟨rfl, rfl, rfl⟩ hS
        refine r_run 3 1 [0, 1, 5, 6, 7, 29] [] hS rfl (L' := [(0, .slice (some ⟨g, 0, none⟩) p0.length c0), (1, .func (.func gd) #[] cv.toArray), (5, .int .i64 (i : Int)), (6, .int .i64 (j : Int)), (7, newVal u0 none), (29, .bool (!yb))]) (As' := [.box u0 [v0, v1, v2, v3, v4], rowF (rawF 5) 43 (some ⟨g, 0, none⟩) c0 cur]) (ob := []) (by kernel_rfl) trivial fun a w hS => ?_
        refine wl_end ?_
        refine hK11 _ _ ?_
        have hnext : ∀ (i' : Nat) (cur' : List (Raw 5)) (a : Act) (w : World), i' < j + 1 → cur'.length = p0.length → cur'.take i' = keepF (p0.take (j + 1)) (bs.take (j + 1)) → cur'.drop (j + 1) = p0.drop (j + 1) →
            Sy C 42 a w [(0, .slice (some ⟨g, 0, none⟩) p0.length c0), (1, .func (.func gd) #[] cv.toArray), (5, .int .i64 (i' : Int)), (6, .int .i64 (j : Int))] [rowF (rawF 5) 43 (some ⟨g, 0, none⟩) c0 cur'] Pf → K9 a w := fun i' cur' a w h1 h2 h3 h4 hS => by
          refine hK9 _ _ ?_
          refine k_reg 3 (by kernel_rfl) ?_
          refine r_run 0 3 [0, 1, 5, 6] [.as 21 (.int .i64 ((j + 1 : Nat) : Int))] hS rfl (L' := [(0, .slice (some ⟨g, 0, none⟩) p0.length c0), (1, .func (.func gd) #[] cv.toArray), (5, .int .i64 (i' : Int)), (6, .int .i64 ((j + 1 : Nat) : Int))]) (As' := [rowF (rawF 5) 43 (some ⟨g, 0, none⟩) c0 cur']) (ob := [fun _ => Value.int .i64 (IntKind.wrap .i64 ((j : Int) + 1)) = .int .i64 ((j + 1 : Nat) : Int)]) (by kernel_rfl) ⟨Bx.c (congrArg (Value.int .i64) (wrap_s (by omega))), trivial⟩ fun a w hS => ?_
          refine wl_end ?_
          exact hK (q - 1) _ _ (by omega) ⟨i', j + 1, cur', by omega, h1, h2, h3, h4, hS⟩
        have hpt : keepF (p0.take (j + 1)) (bs.take (j + 1)) = keepF (p0.take j) (bs.take j) ++ cond yb [] [x] := by
          rw [List.take_add_one, List.take_add_one, hxp, hyb]
          exact keepF_snoc (by rw [List.length_take, List.length_take, hbl])
        have hdr : ∀ cur' : List (Raw 5), cur'.drop j = x :: p0.drop (j + 1) → cur'.drop (j + 1) = p0.drop (j + 1) := fun cur' h => by
          rw [← List.drop_drop, h]; rfl
        have hpd : p0.drop j = x :: p0.drop (j + 1) := by
          rw [List.drop_eq_getElem_cons hjl]
          obtain ⟨_, he⟩ := List.getElem?_eq_some_iff.1 hxp
          rw [he]
        refine k_cond (!yb) hS.has (by kernel_rfl) (by kernel_rfl) (by kernel_rfl) (fun hbx => ?_) (fun hbx => ?_)
        · have hput : put cur (i : Int) x = some (cur.set i x) := by unfold put; rw [if_pos (by omega)]; rfl
          obtain ⟨y, hyi⟩ : ∃ y, idx cur (i : Int) = some y := ⟨cur[i]'(by omega), by unfold idx; rw [if_pos (by omega)]; simp⟩
          refine k_seq (by kernel_rfl) fun K12 hK12 => ?_
          refine k_reg 5 (by kernel_rfl) ?_
          refine r_run 0 5 [0, 1, 5, 6] [.own 0 0, .put 1 (rowF (rawF 5) 43 (some ⟨g, 0, none⟩) c0 (cur.set i x))] hS rfl (L' := [(0, .slice (some ⟨g, 0, none⟩) p0.length c0), (1, .func (.func gd) #[] cv.toArray), (5, .int .i64 (i : Int)), (6, .int .i64 (j : Int))]) (As' := [.box u0 [v0, v1, v2, v3, v4], rowF (rawF 5) 43 (some ⟨g, 0, none⟩) c0 (cur.set i x)])
            (ob := [fun _ => (⟨u0, 0, none⟩ : Addr) = (⟨u0, 0, none⟩ : Addr).add 0, fun _ => Inb (some ⟨g, 0, none⟩) p0.length (i : Int), fun _ => PutOk (rowF (rawF 5) 43 (some ⟨g, 0, none⟩) c0 cur) (rowF (rawF 5) 43 (some ⟨g, 0, none⟩) c0 (cur.set i x)) ((baseOf (some ⟨g, 0, none⟩)).add ((i : Int).toNat * 5)) [v0, v1, v2, v3, v4]]) (by kernel_rfl) ⟨Bx.c (add_zero' _).symm, Bx.c ⟨by omega, by omega, by simp⟩, Bx.c (by have := putRow (F := (rawF 5)) (e := 43) (a := some ⟨g, 0, none⟩) (c := c0) hyi hput (sl := (cur.set i x).length) (by simp); rw [← hxv]; exact this), trivial⟩ fun a w hS => ?_
          refine wl_end ?_
          refine hK12 _ _ ?_
          refine k_reg 3 (by kernel_rfl) ?_
          refine r_run 0 3 [0, 1, 5, 6] [.as 35 (.int .i64 ((i + 1 : Nat) : Int))] hS rfl (L' := [(0, .slice (some ⟨g, 0, none⟩) p0.length c0), (1, .func (.func gd) #[] cv.toArray), (5, .int .i64 ((i + 1 : Nat) : Int)), (6, .int .i64 (j : Int))]) (As' := [.box u0 [v0, v1, v2, v3, v4], rowF (rawF 5) 43 (some ⟨g, 0, none⟩) c0 (cur.set i x)]) (ob := [fun _ => Value.int .i64 (IntKind.wrap .i64 ((i : Int) + 1)) = .int .i64 ((i + 1 : Nat) : Int)]) (by kernel_rfl) ⟨Bx.c (congrArg (Value.int .i64) (wrap_s (by omega))), trivial⟩ fun a w hS => ?_
          refine wl_end ?_
          refine hnext (i + 1) (cur.set i x) _ _ (by omega) (by simp [hcl]) ?_ ?_ ((hS.perm (List.Perm.swap _ _ _)).sub (As := [_]) (Bs := [_]) fun _ h => h)
          · have hyf : yb = false := by simpa using hbx
            rw [hpt, ← htake, hyf, List.take_add_one, List.take_set_of_le (Nat.le_refl _), List.getElem?_set_self (by omega)]; rfl
          · exact hdr _ (by rw [List.drop_set_of_lt hij, hdrop, hpd])
        · refine k_skip (by kernel_rfl) ?_
          have hyt : yb = true := by simpa using hbx
          refine hnext i cur _ _ (by omega) hcl ?_ (hdr _ (by rw [hdrop, hpd])) (((hS.perm (List.Perm.swap _ _ _)).sub (As := [_]) (Bs := [_]) fun _ h => h).env4)
          rw [hpt, ← htake, hyt]
          simp
      · have hjl : j = p0.length := by have := of_decide_eq_false hq; omega
        subst hjl
        rw [List.take_length, show bs.take p0.length = bs from by rw [← hbl]; exact List.take_length] at htake
        refine k_exit 0 (by kernel_rfl) ?_
        try simp only [Exit.then, Exit.inBlock, if_true]
        refine hK5 _ _ ?_
        have hil2 : i = (keepF p0 bs).length := by rw [← htake, List.length_take]; omega
        have hs0 : slA (some (⟨g, 0, none⟩ : Addr)) i c0 ((rawF 5)).sz = some ⟨g, i * ((rawF 5)).sz, none⟩ := by
          unfold slA; rw [if_neg (by omega)]; simp only [Option.map_some, addr_add0]
        have hs1 : slA (some (⟨g, 0, none⟩ : Addr)) 0 c0 ((rawF 5)).sz = some ⟨g, 0, none⟩ := by
          unfold slA; rw [if_neg (by omega)]; simp only [Option.map_some, Nat.zero_mul, addr_add0]
        refine k_seq (by kernel_rfl) fun K7 hK7 => ?_
        refine k_reg 4 (by kernel_rfl) ?_
        refine r_run 0 3 [0, 5, 38] [.as 38 (.slice (some ⟨g, i * ((rawF 5)).sz, none⟩) (p0.length - i) (c0 - i))] hS rfl (L' := [(0, .slice (some ⟨g, 0, none⟩) p0.length c0), (5, .int .i64 (i : Int)), (38, .slice (some ⟨g, i * ((rawF 5)).sz, none⟩) (p0.length - i) (c0 - i))]) (As' := [rowF (rawF 5) 43 (some ⟨g, 0, none⟩) c0 cur]) (ob := [fun _ => 0 ≤ (i : Int) ∧ (i : Int) ≤ (p0.length : Int) ∧ (p0.length : Int) ≤ (c0 : Int), fun _ => Value.slice (slA (some ⟨g, 0, none⟩) i c0 ((rawF 5)).sz) (p0.length - i) (c0 - i) = .slice (some ⟨g, i * ((rawF 5)).sz, none⟩) (p0.length - i) (c0 - i)]) (by kernel_rfl) ⟨Bx.c ⟨by omega, by omega, by omega⟩, Bx.c (by rw [hs0]), trivial⟩ fun a w hS => ?_
        obtain ⟨ds, hd1, hd2, hd3, hd4⟩ := row_full (hS.st.own _ (List.mem_cons_self ..))
        replace hS := hS.same (B := .row (some ⟨g, 0, none⟩) c0 43 ((rawF 5)).sz c0 ds) 0 rfl (fun _ => hd4) rfl (by simp [Asn.fp])
        refine r_bltS 3 rfl 0 (.row (some ⟨g, 0, none⟩) c0 43 ((rawF 5)).sz c0 (spl ds (i * ((rawF 5)).sz) (Builtin.zeroCells ((Tryz.t43.zero).getD undef).cells (p0.length - i)).toList)) (d := none) (b := .clear) (ts := #[22]) (ty := 0) (vs := #[.slice (some ⟨g, i * ((rawF 5)).sz, none⟩) (p0.length - i) (c0 - i)]) hS (by kernel_rfl) rfl (fun hA => run_clear_row (t := 22) (ty := 0) (inf := Tryz.t43) (by kernel_rfl) (by kernel_rfl) (by kernel_rfl) (by kernel_rfl) (oneAll (by kernel_rfl)) hA (by rw [← Nat.add_mul]; exact Nat.mul_le_mul_right _ (by omega))) rfl (by simp [Asn.fp]) fun a w hS => ?_
        have hcut : (spl ds (i * ((rawF 5)).sz) (Builtin.zeroCells ((Tryz.t43.zero).getD undef).cells (p0.length - i)).toList).take (i * ((rawF 5)).sz) = (keepF p0 bs).flatMap ((rawF 5)).enc := by
          have hle : i * ((rawF 5)).sz ≤ ds.length := by rw [hd2]; exact Nat.mul_le_mul_right _ (by omega)
          have hle2 : i * ((rawF 5)).sz ≤ cur.length * ((rawF 5)).sz := Nat.mul_le_mul_right _ (by omega)
          unfold spl
          rw [List.append_assoc, List.take_left' (by rw [List.length_take]; omega), ← htake, flat_take, ← hd1, List.take_take, Nat.min_eq_left hle2]
        have hlen : (keepF p0 bs).length = i := by rw [← htake, List.length_take]; omega
        replace hS := hS.same (B := rowF (rawF 5) 43 (some ⟨g, 0, none⟩) c0 (keepF p0 bs)) 0 rfl (fun hA => by
          have := row_cut hA i (by omega)
          rw [hcut] at this
          unfold rowF
          rw [hlen]
          exact this) rfl (by simp [Asn.fp])
        refine wl_end ?_
        refine hK7 _ _ ?_
        refine k_seq (by kernel_rfl) fun K8 hK8 => ?_
        refine k_reg 4 (by kernel_rfl) ?_
        refine r_run 0 4 [4] [.as 41 (.slice (some ⟨g, 0, none⟩) i c0)] hS rfl (L' := [(4, .slice (some ⟨g, 0, none⟩) i c0)]) (As' := [rowF (rawF 5) 43 (some ⟨g, 0, none⟩) c0 (keepF p0 bs)]) (ob := [fun _ => (0 : Int) ≤ 0 ∧ (0 : Int) ≤ (i : Int) ∧ (i : Int) ≤ (c0 : Int), fun _ => Value.slice (slA (some ⟨g, 0, none⟩) 0 c0 ((rawF 5)).sz) (i - 0) (c0 - 0) = .slice (some ⟨g, 0, none⟩) i c0]) (by kernel_rfl) ⟨Bx.c ⟨by omega, by omega, by omega⟩, Bx.c (by rw [hs1]; rfl), trivial⟩ fun a w hS => ?_
        refine wl_end ?_
        refine hK8 _ _ ?_
        refine k_ret (by kernel_rfl) ?_
        try simp only [Exit.then, Exit.inBlock]
        refine r_ret hS [.tmp 4] [] (xs := [.slice (some ⟨g, 0, none⟩) i c0]) (ps := []) [0] [] rfl (by kernel_rfl) (fun hA => trivial) rfl (fun F up => trivial) ?_
        exact ⟨some ⟨g, 0, none⟩, c0, by rw [hlen]; rfl, rfl, rfl⟩
def slices_DeleteFunc_Queue_f115 (n : Nat) (q0 : List Queue) : Option (List Queue) := (slices_IndexFunc_Queue_f115 n q0).bind fun z => delF (fun y => locks_without_3 n y) z q0
@[reducible] def slices_DeleteFunc_Queue_f115_ct : Ct tab := ⟨114, [.one (.own 0), .one (.fn 115 [])], [.row 43 (.st 3)], [.one (.own 0)], [(none, .row 43 (.st 3))], List Queue, fun y => (y, ()), fun y => y.1, fun _ => rfl, fun n x => slices_DeleteFunc_Queue_f115 n x.1⟩
theorem slices_DeleteFunc_Queue_f115_ok : OkC Tryz.prog tab slices_DeleteFunc_Queue_f115_ct := dlf_ok (i := 3) (cs := []) (fI := fun n x => slices_IndexFunc_Queue_f115 n x.1) (fD := fun n x y => locks_without_3 n y) (m := 5) tabOk rfl rfl Tryz.call114 Tryz.call137 Tryz.call115
  (fun n x z hz R w Ps v cv hst hv hcv => Calls.mono (slices_IndexFunc_Queue_f115_ok.2 n (x.1, ()) z hz R w rho0 [] Ps [v, .func (.func 115) #[] cv.toArray] hst (fun j g h => by cases h) ⟨hv, ⟨cv, rfl, hcv⟩, trivial⟩ trivial) fun e w' h => by
    obtain ⟨v1, ρ1, As1, Ps1, h1, h2, h3, _⟩ := h
    exact ⟨h1.trans (congrArg Ending.returned (show v1 = .int .i64 z from h2.1)), h3⟩)
  (fun n x y b hb R w Ps v cv hst hv hcv => Calls.mono (locks_without_3_ok.2 n (y, ()) b hb R w rho0 [] Ps (v :: cv) hst (fun j g h => by cases h) ⟨hv, capLs_rel hcv⟩ trivial) fun e w' h => by
    obtain ⟨v1, ρ1, As1, Ps1, h1, h2, h3, _⟩ := h
    exact ⟨h1.trans (congrArg Ending.returned (show v1 = .bool b from h2.1)), h3⟩) slices_DeleteFunc_Queue_raw
def locks_without_l1 (n : Nat) : Nat → Bool × Int × Int × Int × (List Int) × Nat × (List Queue) × Unit → Option ((List Queue) × (List Int)) := loopF fun r1 ⟨v1, v2, v3, v4, v5, v6, v7, _⟩ =>
 cond (decide (v3 < v2))
 ((idxM v7 v3 v6).bind fun x8 =>
 (sameI v3 v3).bind fun u9 =>
 (slices_DeleteFunc_Wait_f110 n v4 x8.waiters).bind fun y10 =>
 cond v1
 ((slices_DeleteFunc_Hold_f112 n v4 x8.holders).bind fun y11 =>
 (locks_pump n x8.res.table x8.res.isKey x8.res.id y11 y10).bind fun y12 =>
 (app 8 v5 y12.2.2.2.2.2).bind fun l13 =>
 r1 (v1, v2, (IntKind.wrap .i64 (v3 + 1)), v4, l13, ((Int.toNat v3) + 1), (List.set v7 (Int.toNat v3) (Queue.mk (Res.mk y12.1 y12.2.1 y12.2.2.1) y12.2.2.2.2.1 y12.2.2.2.1)), ()))
 ((locks_pump n x8.res.table x8.res.isKey x8.res.id x8.holders y10).bind fun y14 =>
 (app 8 v5 y14.2.2.2.2.2).bind fun l15 =>
 r1 (v1, v2, (IntKind.wrap .i64 (v3 + 1)), v4, l15, ((Int.toNat v3) + 1), (List.set v7 (Int.toNat v3) (Queue.mk (Res.mk y14.1 y14.2.1 y14.2.2.1) y14.2.2.2.2.1 y14.2.2.2.1)), ())))
 ((sameN v6 (v7).length).bind fun u16 =>
 (slices_DeleteFunc_Queue_f115 n v7).bind fun y17 =>
 some (y17, v5))
def locks_without (n : Nat) (p1 : Int) (p2 : Bool) (q1 : List Queue) : Option ((List Queue) × (List Int)) :=
 locks_without_l1 n n (p2, (q1.length : Int), 0, p1, ([] : List Int), 0, q1, ())
@[reducible] def locks_without_ct : Ct tab := ⟨67, [.one (.box 0 0), .one (.d (.int .i64)), .one (.d .bool)], [.box [.own 1], .deep 43 (.st 3) [none, none, none, some 45, some 47]], [.one (.own 2)], [(some 0, .box [.own 1]), (none, .row 43 (.st 3)), (none, .row 3 (.int .i64))], ((List Queue) × (List Int)), fun y => (y.1, y.2, ()), fun y => (y.1, y.2.1), fun _ => rfl, fun n x => locks_without n x.1 x.2.1 x.2.2.1⟩
theorem locks_without_ok : OkC Tryz.prog tab locks_without_ct := fn_ok (W := ⟨Tryz.prog, tab, tyOf, [slices_DeleteFunc_Wait_f110_ct, slices_DeleteFunc_Hold_f112_ct, locks_pump_ct, slices_DeleteFunc_Queue_f115_ct], addO, dpO, false⟩) ⟨tabOk, ⟨slices_DeleteFunc_Wait_f110_ok, slices_DeleteFunc_Hold_f112_ok, locks_pump_ok, slices_DeleteFunc_Queue_f115_ok, trivial⟩, addOk⟩ (by kernel_rfl) 57 Tryz.f67 (.sq (.gs [.shd 1] (.n)) (.sq (.n) (.sq (.sq (.n) (.bk none (.lp ⟨[(0, .one (.box 0 0)), (2, .one (.d .bool)), (4, .one (.box 1 0)), (7, .one (.own 2)), (14, .one (.d (.int .i64))), (15, .one (.d (.int .i64)))], [.box [.own 3], .box [.d (.int .i64)], .row 3 (.int .i64), .shed 43 (.st 3) [none, none, none, some 45, some 47]], [(0, 0)]⟩ (.sq (.n) (.sq (.n) (.sq (.bk none (.sq (.n) (.sq (.gs [.foc 3 8] (.n)) (.n)))) (.gs [.frb 3, .shu 3] (.n)))))))) (.sq (.gs [.shf 3] (.n)) (.n))))) Tryz.func67 Tryz.call67 rfl (by kernel_rfl) (by kernel_rfl) (by kernel_rfl) fun n x => by kernel_rfl
def locks_Release_1 (n : Nat) (q1 : List Queue) (q2 : Int) (q3 : List Int) : Option (Int × Int × (List Int) × (List Queue)) :=
 (locks_without n q2 true q1).bind fun y1 =>
 some (0, q2, y1.2, y1.1)
@[reducible] def locks_Release_1_ct : Ct tab := ⟨66, [.one (.box 0 0), .one (.box 2 0), .one (.box 3 0)], [.box [.own 1], .deep 43 (.st 3) [none, none, none, some 45, some 47], .box [.d (.int .i64)], .box [.d (.sl (.int .i64))]], [.one (.d (.int .i64))], [(some 0, .box [.own 3]), (some 2, .box [.d (.int .i64)]), (some 3, .box [.d (.sl (.int .i64))]), (none, .row 43 (.st 3))], (Int × Int × (List Int) × (List Queue)), fun y => (y.1, y.2.1, y.2.2.1, y.2.2.2, ()), fun y => (y.1, y.2.1, y.2.2.1, y.2.2.2.1), fun _ => rfl, fun n x => locks_Release_1 n x.1 x.2.1 x.2.2.1⟩
theorem locks_Release_1_ok : OkC Tryz.prog tab locks_Release_1_ct := fn_ok (W := ⟨Tryz.prog, tab, tyOf, [locks_without_ct], addO, dpO, false⟩) ⟨tabOk, ⟨locks_without_ok, trivial⟩, addOk⟩ (by kernel_rfl) 8 Tryz.f66 (.n) Tryz.func66 Tryz.call66 rfl (by kernel_rfl) (by kernel_rfl) (by kernel_rfl) fun n x => by kernel_rfl
def locks_with_f66_l1 (n : Nat) : Nat → Int × Int × Int × (List Int) × Locks × Nat × (List Queue) × Unit → Option (Locks × Int × Int × (List Int)) := loopF fun r1 ⟨v4, v5, v6, v7, v8, v9, v10, _⟩ =>
 cond (decide (v5 < v4))
 ((idxM v10 v5 v9).bind fun x11 =>
 (sameI v5 v5).bind fun u12 =>
 (slices_Clone_Hold n x11.holders).bind fun y13 =>
 (slices_Clone_Wait n x11.waiters).bind fun y14 =>
 r1 (v4, (IntKind.wrap .i64 (v5 + 1)), v6, v7, v8, (v9 + 1), (List.set v10 (Int.toNat v5) (Queue.mk x11.res y13 y14)), ()))
 ((sameN v9 (v10).length).bind fun u15 =>
 (locks_Release_1 n v10 v6 v7).bind fun y16 =>
 cond (y16.1 != 0)
 (some ((Locks.mk ([] : List Queue)), y16.1, y16.2.1, y16.2.2.1))
 (some ((Locks.mk y16.2.2.2), 0, y16.2.1, y16.2.2.1)))
def locks_with_f66 (n : Nat) (p0 : Locks) (p1 : Int) (q0 : Int) (q1 : List Int) : Option (Locks × Int × Int × (List Int)) :=
 (locks_Check n p0).bind fun y1 =>
 cond (y1 != 0)
 (some ((Locks.mk ([] : List Queue)), y1, q0, q1))
 ((locks_txn n p1).bind fun y2 =>
 cond (!y2)
 (some ((Locks.mk ([] : List Queue)), 2, q0, q1))
 ((slices_Clone_Queue n p0.queues).bind fun y3 =>
 locks_with_f66_l1 n n ((y3.length : Int), 0, q0, q1, (Locks.mk ([] : List Queue)), 0, y3, ())))
@[reducible] def locks_with_f66_ct : Ct tab := ⟨55, [.st 4, .one (.d (.int .i64)), .one (.fn 66 [.bx 0, .bx 1])], [.box [.d (.int .i64)], .box [.d (.sl (.int .i64))]], [.st 4, .one (.d (.int .i64))], [(some 0, .box [.d (.int .i64)]), (some 1, .box [.d (.sl (.int .i64))])], (Locks × Int × Int × (List Int)), fun y => (y.1, y.2.1, y.2.2.1, y.2.2.2, ()), fun y => (y.1, y.2.1, y.2.2.1, y.2.2.2.1), fun _ => rfl, fun n x => locks_with_f66 n x.1 x.2.1 x.2.2.1 x.2.2.2.1⟩
theorem locks_with_f66_ok : OkC Tryz.prog tab locks_with_f66_ct := fn_ok (W := ⟨Tryz.prog, tab, tyOf, [locks_Check_ct, locks_txn_ct, slices_Clone_Queue_ct, slices_Clone_Hold_ct, slices_Clone_Wait_ct, locks_Release_1_ct], addO, dpO, false⟩) ⟨tabOk, ⟨locks_Check_ok, locks_txn_ok, slices_Clone_Queue_ok, slices_Clone_Hold_ok, slices_Clone_Wait_ok, locks_Release_1_ok, trivial⟩, addOk⟩ (by kernel_rfl) 61 Tryz.f55 (.sq (.n) (.sq (.n) (.sq (.n) (.sq (.n) (.sq (.sq (.gs [.dpn 4 [none, none, none, some 45, some 47]] (.n)) (.bk none (.lp ⟨[(2, .one (.fn 66 [.bx 0, .bx 1])), (6, .one (.box 2 0)), (9, .one (.box 3 0)), (29, .one (.d (.int .i64))), (30, .one (.d (.int .i64)))], [.box [.d (.int .i64)], .box [.d (.sl (.int .i64))], .bst 4, .box [.own 4], .pdeep 43 (.st 3) [none, none, none, some 45, some 47]], [(0, 0), (1, 1)]⟩ (.sq (.n) (.sq (.n) (.sq (.bk none (.sq (.n) (.sq (.gs [.foc 4 10] (.n)) (.n)))) (.n))))))) (.sq (.sq (.gs [.fin 4] (.n)) (.sq (.gs [.dpn 8 [none, none, none, some 45, some 47]] (.n)) (.n))) (.n))))))) Tryz.func55 Tryz.call55 rfl (by kernel_rfl) (by kernel_rfl) (by kernel_rfl) fun n x => by kernel_rfl
def locks_Release (n : Nat) (p0 : Locks) (p1 : Int) : Option (Locks × (List Int) × Int) :=
 (locks_with_f66 n p0 p1 p1 ([] : List Int)).bind fun y1 =>
 some (y1.1, y1.2.2.2, y1.2.1)
@[reducible] def locks_Release_ct : Ct tab := ⟨29, [.st 4, .one (.d (.int .i64))], [], [.st 4, .one (.d (.sl (.int .i64))), .one (.d (.int .i64))], [], (Locks × (List Int) × Int), fun y => (y.1, y.2.1, y.2.2, ()), fun y => (y.1, y.2.1, y.2.2.1), fun _ => rfl, fun n x => locks_Release n x.1 x.2.1⟩
theorem locks_Release_ok : OkC Tryz.prog tab locks_Release_ct := fn_ok (W := ⟨Tryz.prog, tab, tyOf, [locks_with_f66_ct], addO, dpO, false⟩) ⟨tabOk, ⟨locks_with_f66_ok, trivial⟩, addOk⟩ (by kernel_rfl) 20 Tryz.f29 (.n) Tryz.func29 Tryz.call29 rfl (by kernel_rfl) (by kernel_rfl) (by kernel_rfl) fun n x => by kernel_rfl
def locks_own (n : Nat) (p0 : Locks) (p1 : Int) : Option (Locks × Int) :=
 some (p0, p1)
@[reducible] def locks_own_ct : Ct tab := ⟨40, [.st 4, .one (.d (.int .i64))], [], [.one (.fn 85 [.bx 0, .bx 1])], [(none, .bst 4), (none, .box [.d (.int .i64)])], (Locks × Int), fun y => (y.1, y.2, ()), fun y => (y.1, y.2.1), fun _ => rfl, fun n x => locks_own n x.1 x.2.1⟩
theorem locks_own_ok : OkC Tryz.prog tab locks_own_ct := fn_ok (W := ⟨Tryz.prog, tab, tyOf, [], addO, dpO, false⟩) ⟨tabOk, trivial, addOk⟩ (by kernel_rfl) 6 Tryz.f40 (.n) Tryz.func40 Tryz.call40 rfl (by kernel_rfl) (by kernel_rfl) (by kernel_rfl) fun n x => by kernel_rfl
def locks_own_1_fyd0_l1 (n : Nat) : Nat → Int × (List Queue) × Int × Int × (HL tabT [.st 5] → HL tabT [.st 0, .int .i64] → Option (Nat × HL tabT [.st 0, .int .i64])) × Nat × (HL tabT [.st 0, .int .i64]) × Unit → Option ((HL tabT [.st 5] → HL tabT [.st 0, .int .i64] → Option (Nat × HL tabT [.st 0, .int .i64])) × Nat × (HL tabT [.st 0, .int .i64])) := loopF fun r1 ⟨v1, v2, v3, v4, v5, v6, v7, _⟩ =>
 cond (decide (v4 < v3))
 ((idx v2 v4).bind fun x8 =>
 (locks_held n x8 v1).bind fun y9 =>
 cond (y9 != 0)
 ((callY v5 v6 ((Lock.mk x8.res y9), ()) v7).bind fun y10 =>
 cond (!(Nat.beq y10.1 0))
 (some (v5, y10.1, y10.2))
 (r1 (v1, v2, v3, (IntKind.wrap .i64 (v4 + 1)), v5, y10.1, y10.2, ())))
 (cond false
 (some (v5, v6, v7))
 (r1 (v1, v2, v3, (IntKind.wrap .i64 (v4 + 1)), v5, v6, v7, ()))))
 (some (v5, v6, v7))
def locks_own_1_fyd0 (n : Nat) (p1 : Locks) (p2 : Int) (q0_0 : HL tabT [.st 5] → HL tabT [.st 0, .int .i64] → Option (Nat × HL tabT [.st 0, .int .i64])) (q0_1 : Nat) (q0_2 : HL tabT [.st 0, .int .i64]) : Option ((HL tabT [.st 5] → HL tabT [.st 0, .int .i64] → Option (Nat × HL tabT [.st 0, .int .i64])) × Nat × (HL tabT [.st 0, .int .i64])) :=
 locks_own_1_fyd0_l1 n n (p2, p1.queues, (p1.queues.length : Int), 0, q0_0, q0_1, q0_2, ())
@[reducible] def locks_own_1_fyd0_ct : Ct tab := ⟨85, [.one (.yd 0), .one (.ro (.st 4)), .one (.ro (.int .i64))], [.opq [.st 5] [.st 0, .int .i64]], [], [(some 0, .opq [.st 5] [.st 0, .int .i64])], ((HL tabT [.st 5] → HL tabT [.st 0, .int .i64] → Option (Nat × HL tabT [.st 0, .int .i64])) × Nat × (HL tabT [.st 0, .int .i64])), fun y => (y.1, y.2.1, y.2.2, ()), fun y => (y.1, y.2.1, y.2.2.1), fun _ => rfl, fun n x => locks_own_1_fyd0 n x.1 x.2.1 x.2.2.1 x.2.2.2.1 x.2.2.2.2.1⟩
theorem locks_own_1_fyd0_ok : OkC Tryz.prog tab locks_own_1_fyd0_ct := fn_ok (W := ⟨Tryz.prog, tab, tyOf, [locks_held_ct], addO, dpO, false⟩) ⟨tabOk, ⟨locks_held_ok, trivial⟩, addOk⟩ (by kernel_rfl) 29 Tryz.f85 (.sq (.n) (.bk none (.lp ⟨[(0, .one (.yd 0)), (2, .one (.ro (.int .i64))), (8, .one (.d (.sl (.st 3)))), (9, .one (.d (.int .i64))), (10, .one (.d (.int .i64)))], [.opq [.st 5] [.st 0, .int .i64]], [(0, 0)]⟩ (.sq (.n) (.sq (.n) (.sq (.bk none (.sq (.n) (.sq (.n) (.sq (.rg [1000000]) (.n))))) (.n))))))) Tryz.func85 Tryz.call85 rfl (by kernel_rfl) (by kernel_rfl) (by kernel_rfl) fun n x => by kernel_rfl
def locks_Mode (n : Nat) (p0 : Locks) (p1 : Int) (p2 : Res) : Option Int :=
 (locks_Check n p0).bind fun y1 =>
 cond (y1 != 0)
 (some 0)
 ((locks_own n p0 p1).bind fun y2 =>
 (locks_own_1_fyd0 n y2.1 y2.2 (fun y3 z4 =>
 cond (Res.eqb y3.1.res z4.1)
 (some (1, (z4.1, y3.1.mode, ())))
 (some (0, (z4.1, z4.2.1, ())))) 0 (p2, 0, ())).bind fun y5 =>
 sel y5.2.1 [
 some 0,
 some y5.2.2.2.1,
 some 0])
@[reducible] def locks_Mode_ct : Ct tab := ⟨17, [.st 4, .one (.d (.int .i64)), .st 0], [], [.one (.d (.int .i64))], [], Int, fun y => (y, ()), fun y => y.1, fun _ => rfl, fun n x => locks_Mode n x.1 x.2.1 x.2.2.1⟩
theorem locks_Mode_ok : OkC Tryz.prog tab locks_Mode_ct := fn_ok (W := ⟨Tryz.prog, tab, tyOf, [locks_Check_ct, locks_own_ct, locks_own_1_fyd0_ct], addO, dpO, false⟩) ⟨tabOk, ⟨locks_Check_ok, locks_own_ok, locks_own_1_fyd0_ok, trivial⟩, addOk⟩ (by kernel_rfl) 21 Tryz.f17 (.sq (.n) (.sq (.n) (.sq (.sq (.n) (.bk none (.rf [(5, .one (.box 0 0)), (6, .one (.box 1 0))] [(13, .one (.fn 85 [.ro (.st 4), .ro (.int .i64)]))] [.bst 0, .box [.d (.int .i64)]] [] [] 13 (.fn 85 [.ro (.st 4), .ro (.int .i64)]) [.st 5] (.n) (.n)))) (.n)))) Tryz.func17 Tryz.call17 rfl (by kernel_rfl) (by kernel_rfl) (by kernel_rfl) fun n x => by kernel_rfl
def law08_wakes (n : Nat) : Option Bool :=
 (locks_Ask n (Locks.mk ([] : List Queue)) 1 (Res.mk 0 true 7) 3).bind fun y1 =>
 (locks_Ask n y1.1 2 (Res.mk 0 true 7) 3).bind fun y2 =>
 (locks_Ask n y2.1 1 (Res.mk 0 true 7) 6).bind fun y3 =>
 (locks_Blockers n y3.1 1).bind fun y4 =>
 (locks_Release n y3.1 2).bind fun y5 =>
 jn (fun (b6 : Bool) =>
 jn (fun (b8 : Bool) =>
 jn (fun (b10 : Bool) =>
 jn (fun (b12 : Bool) =>
 jn (fun (b14 : Bool) =>
 jn (fun (b16 : Bool) =>
 jn (fun (b18 : Bool) =>
 jn (fun (b20 : Bool) =>
 jn (fun (b22 : Bool) =>
 jn (fun (b24 : Bool) =>
 jn (fun (b26 : Bool) =>
 some b26) fun k27 =>
 cond b24
 ((locks_Mode n y5.1 1 (Res.mk 0 true 7)).bind fun y28 =>
 k27 (y28 == 5))
 (k27 false)) fun k25 =>
 cond b22
 ((idx y5.2.1 0).bind fun x29 =>
 k25 (x29 == 1))
 (k25 false)) fun k23 =>
 cond b20
 (k23 ((y5.2.1.length : Int) == 1))
 (k23 false)) fun k21 =>
 cond b18
 ((idx y4 0).bind fun x30 =>
 (idx y4 0).bind fun x31 =>
 k21 (x31 == 2))
 (k21 false)) fun k19 =>
 cond b16
 (k19 ((y4.length : Int) == 1))
 (k19 false)) fun k17 =>
 cond b14
 (k17 (y3.2.1 == 3))
 (k17 false)) fun k15 =>
 cond b12
 (k15 (y2.2.1 == 2))
 (k15 false)) fun k13 =>
 cond b10
 (k13 (y1.2.1 == 2))
 (k13 false)) fun k11 =>
 cond b8
 (k11 (y5.2.2 == 0))
 (k11 false)) fun k9 =>
 cond b6
 (k9 (y3.2.2 == 0))
 (k9 false)) fun k7 =>
 cond (y1.2.2 == 0)
 (k7 (y2.2.2 == 0))
 (k7 false)
@[reducible] def law08_wakes_ct : Ct tab := ⟨8, [], [], [.one (.d .bool)], [], Bool, fun y => (y, ()), fun y => y.1, fun _ => rfl, fun n x => law08_wakes n⟩
theorem law08_wakes_ok : OkC Tryz.prog tab law08_wakes_ct := fn_ok (W := ⟨Tryz.prog, tab, tyOf, [locks_Ask_ct, locks_Blockers_ct, locks_Release_ct, locks_Mode_ct], addO, dpO, false⟩) ⟨tabOk, ⟨locks_Ask_ok, locks_Blockers_ok, locks_Release_ok, locks_Mode_ok, trivial⟩, addOk⟩ (by kernel_rfl) 96 Tryz.f8 (.n) Tryz.func8 Tryz.call8 rfl (by kernel_rfl) (by kernel_rfl) (by kernel_rfl) fun n x => by kernel_rfl
def locks_Leave_1 (n : Nat) (q1 : List Queue) (q2 : Int) (q3 : List Int) : Option (Int × (List Queue) × Int × (List Int)) :=
 (locks_waits n (Locks.mk q1) q2).bind fun y1 =>
 cond (!y1.2.2)
 (some (4, q1, q2, q3))
 ((locks_without n q2 false q1).bind fun y2 =>
 some (0, y2.1, q2, y2.2))
@[reducible] def locks_Leave_1_ct : Ct tab := ⟨68, [.one (.box 0 0), .one (.box 2 0), .one (.box 3 0)], [.box [.own 1], .deep 43 (.st 3) [none, none, none, some 45, some 47], .box [.d (.int .i64)], .box [.d (.sl (.int .i64))]], [.one (.d (.int .i64))], [(some 0, .box [.d (.sl (.st 3))]), (some 2, .box [.d (.int .i64)]), (some 3, .box [.d (.sl (.int .i64))])], (Int × (List Queue) × Int × (List Int)), fun y => (y.1, y.2.1, y.2.2.1, y.2.2.2, ()), fun y => (y.1, y.2.1, y.2.2.1, y.2.2.2.1), fun _ => rfl, fun n x => locks_Leave_1 n x.1 x.2.1 x.2.2.1⟩
theorem locks_Leave_1_ok : OkC Tryz.prog tab locks_Leave_1_ct := fn_ok (W := ⟨Tryz.prog, tab, tyOf, [locks_waits_ct, locks_without_ct], addO, dpO, false⟩) ⟨tabOk, ⟨locks_waits_ok, locks_without_ok, trivial⟩, addOk⟩ (by kernel_rfl) 22 Tryz.f68 (.n) Tryz.func68 Tryz.call68 rfl (by kernel_rfl) (by kernel_rfl) (by kernel_rfl) fun n x => by kernel_rfl
def locks_with_f68_l1 (n : Nat) : Nat → Int × Int × Int × (List Int) × Locks × Nat × (List Queue) × Unit → Option (Locks × Int × Int × (List Int)) := loopF fun r1 ⟨v4, v5, v6, v7, v8, v9, v10, _⟩ =>
 cond (decide (v5 < v4))
 ((idxM v10 v5 v9).bind fun x11 =>
 (sameI v5 v5).bind fun u12 =>
 (slices_Clone_Hold n x11.holders).bind fun y13 =>
 (slices_Clone_Wait n x11.waiters).bind fun y14 =>
 r1 (v4, (IntKind.wrap .i64 (v5 + 1)), v6, v7, v8, (v9 + 1), (List.set v10 (Int.toNat v5) (Queue.mk x11.res y13 y14)), ()))
 ((sameN v9 (v10).length).bind fun u15 =>
 (locks_Leave_1 n v10 v6 v7).bind fun y16 =>
 cond (y16.1 != 0)
 (some ((Locks.mk ([] : List Queue)), y16.1, y16.2.2.1, y16.2.2.2))
 (some ((Locks.mk y16.2.1), 0, y16.2.2.1, y16.2.2.2)))
def locks_with_f68 (n : Nat) (p0 : Locks) (p1 : Int) (q0 : Int) (q1 : List Int) : Option (Locks × Int × Int × (List Int)) :=
 (locks_Check n p0).bind fun y1 =>
 cond (y1 != 0)
 (some ((Locks.mk ([] : List Queue)), y1, q0, q1))
 ((locks_txn n p1).bind fun y2 =>
 cond (!y2)
 (some ((Locks.mk ([] : List Queue)), 2, q0, q1))
 ((slices_Clone_Queue n p0.queues).bind fun y3 =>
 locks_with_f68_l1 n n ((y3.length : Int), 0, q0, q1, (Locks.mk ([] : List Queue)), 0, y3, ())))
@[reducible] def locks_with_f68_ct : Ct tab := ⟨55, [.st 4, .one (.d (.int .i64)), .one (.fn 68 [.bx 0, .bx 1])], [.box [.d (.int .i64)], .box [.d (.sl (.int .i64))]], [.st 4, .one (.d (.int .i64))], [(some 0, .box [.d (.int .i64)]), (some 1, .box [.d (.sl (.int .i64))])], (Locks × Int × Int × (List Int)), fun y => (y.1, y.2.1, y.2.2.1, y.2.2.2, ()), fun y => (y.1, y.2.1, y.2.2.1, y.2.2.2.1), fun _ => rfl, fun n x => locks_with_f68 n x.1 x.2.1 x.2.2.1 x.2.2.2.1⟩
theorem locks_with_f68_ok : OkC Tryz.prog tab locks_with_f68_ct := fn_ok (W := ⟨Tryz.prog, tab, tyOf, [locks_Check_ct, locks_txn_ct, slices_Clone_Queue_ct, slices_Clone_Hold_ct, slices_Clone_Wait_ct, locks_Leave_1_ct], addO, dpO, false⟩) ⟨tabOk, ⟨locks_Check_ok, locks_txn_ok, slices_Clone_Queue_ok, slices_Clone_Hold_ok, slices_Clone_Wait_ok, locks_Leave_1_ok, trivial⟩, addOk⟩ (by kernel_rfl) 61 Tryz.f55 (.sq (.n) (.sq (.n) (.sq (.n) (.sq (.n) (.sq (.sq (.gs [.dpn 4 [none, none, none, some 45, some 47]] (.n)) (.bk none (.lp ⟨[(2, .one (.fn 68 [.bx 0, .bx 1])), (6, .one (.box 2 0)), (9, .one (.box 3 0)), (29, .one (.d (.int .i64))), (30, .one (.d (.int .i64)))], [.box [.d (.int .i64)], .box [.d (.sl (.int .i64))], .bst 4, .box [.own 4], .pdeep 43 (.st 3) [none, none, none, some 45, some 47]], [(0, 0), (1, 1)]⟩ (.sq (.n) (.sq (.n) (.sq (.bk none (.sq (.n) (.sq (.gs [.foc 4 10] (.n)) (.n)))) (.n))))))) (.sq (.sq (.gs [.fin 4] (.n)) (.n)) (.n))))))) Tryz.func55 Tryz.call55 rfl (by kernel_rfl) (by kernel_rfl) (by kernel_rfl) fun n x => by kernel_rfl
def locks_Leave (n : Nat) (p0 : Locks) (p1 : Int) : Option (Locks × (List Int) × Int) :=
 (locks_with_f68 n p0 p1 p1 ([] : List Int)).bind fun y1 =>
 some (y1.1, y1.2.2.2, y1.2.1)
@[reducible] def locks_Leave_ct : Ct tab := ⟨31, [.st 4, .one (.d (.int .i64))], [], [.st 4, .one (.d (.sl (.int .i64))), .one (.d (.int .i64))], [], (Locks × (List Int) × Int), fun y => (y.1, y.2.1, y.2.2, ()), fun y => (y.1, y.2.1, y.2.2.1), fun _ => rfl, fun n x => locks_Leave n x.1 x.2.1⟩
theorem locks_Leave_ok : OkC Tryz.prog tab locks_Leave_ct := fn_ok (W := ⟨Tryz.prog, tab, tyOf, [locks_with_f68_ct], addO, dpO, false⟩) ⟨tabOk, ⟨locks_with_f68_ok, trivial⟩, addOk⟩ (by kernel_rfl) 20 Tryz.f31 (.n) Tryz.func31 Tryz.call31 rfl (by kernel_rfl) (by kernel_rfl) (by kernel_rfl) fun n x => by kernel_rfl
def law08_Op_run_j1 (n : Nat) : law08_told × Unit → Option law08_told := fun ⟨v8, _⟩ =>
 some v8
def law08_Op_run_j2 (n : Nat) (j1 : law08_told × Unit → Option law08_told) : law08_told × Unit → Option law08_told := fun ⟨v12, _⟩ =>
 j1 (v12, ())
def law08_Op_run (n : Nat) (p0 : law08_Op) (p1 : Locks) : Option law08_told :=
 (remP (IntKind.wrap .u64 p0.kind) 7).bind fun z1 =>
 jn (law08_Op_run_j1 n) fun j1 =>
 cond (z1 == 5)
 ((locks_Release n p1 p0.txn).bind fun y9 =>
 j1 ((law08_told.mk y9.1 0 y9.2.1 y9.2.2), ()))
 (jn (law08_Op_run_j2 n j1) fun j2 =>
 cond (z1 == 6)
 ((locks_Leave n p1 p0.txn).bind fun y13 =>
 j2 ((law08_told.mk y13.1 0 y13.2.1 y13.2.2), ()))
 ((locks_Ask n p1 p0.txn p0.res p0.mode).bind fun y14 =>
 j2 ((law08_told.mk y14.1 y14.2.1 ([] : List Int) y14.2.2), ())))
@[reducible] def law08_Op_run_ct : Ct tab := ⟨11, [.st 6, .st 4], [], [.st 7], [], law08_told, fun y => (y, ()), fun y => y.1, fun _ => rfl, fun n x => law08_Op_run n x.1 x.2.1⟩
theorem law08_Op_run_ok : OkC Tryz.prog tab law08_Op_run_ct := fn_ok (W := ⟨Tryz.prog, tab, tyOf, [locks_Release_ct, locks_Leave_ct, locks_Ask_ct], addO, dpO, false⟩) ⟨tabOk, ⟨locks_Release_ok, locks_Leave_ok, locks_Ask_ok, trivial⟩, addOk⟩ (by kernel_rfl) 51 Tryz.f11 (.sq (.n) (.sq (.sq (.n) (.bk none (.sq (.n) (.cd (some ⟨[(4, .one (.box 0 0))], [.bst 7], []⟩) (.n) (.sq (.n) (.cd (some ⟨[(4, .one (.box 0 0))], [.bst 7], []⟩) (.n) (.n))))))) (.n))) Tryz.func11 Tryz.call11 rfl (by kernel_rfl) (by kernel_rfl) (by kernel_rfl) fun n x => by kernel_rfl
def ref08_RightRes (n : Nat) (p0 : Res) : Option Bool :=
 jn (fun (b1 : Bool) =>
 jn (fun (b3 : Bool) =>
 some b3) fun k4 =>
 cond b1
 (jn (fun (b5 : Bool) =>
 k4 b5) fun k6 =>
 cond p0.isKey
 (k6 true)
 (k6 (p0.id == 0)))
 (k4 false)) fun k2 =>
 cond (decide (p0.table ≥ 0))
 (k2 (decide (p0.table < 3)))
 (k2 false)
@[reducible] def ref08_RightRes_ct : Ct tab := ⟨71, [.st 0], [], [.one (.d .bool)], [], Bool, fun y => (y, ()), fun y => y.1, fun _ => rfl, fun n x => ref08_RightRes n x.1⟩
theorem ref08_RightRes_ok : OkC Tryz.prog tab ref08_RightRes_ct := fn_ok (W := ⟨Tryz.prog, tab, tyOf, [], addO, dpO, false⟩) ⟨tabOk, trivial, addOk⟩ (by kernel_rfl) 20 Tryz.f71 (.n) Tryz.func71 Tryz.call71 rfl (by kernel_rfl) (by kernel_rfl) (by kernel_rfl) fun n x => by kernel_rfl
def ref08_txn (n : Nat) (p0 : Int) : Option Bool :=
 jn (fun (b1 : Bool) =>
 some b1) fun k2 =>
 cond (decide (p0 ≥ 1))
 (k2 (decide (p0 ≤ 1073741824)))
 (k2 false)
@[reducible] def ref08_txn_ct : Ct tab := ⟨69, [.one (.d (.int .i64))], [], [.one (.d .bool)], [], Bool, fun y => (y, ()), fun y => y.1, fun _ => rfl, fun n x => ref08_txn n x.1⟩
theorem ref08_txn_ok : OkC Tryz.prog tab ref08_txn_ct := fn_ok (W := ⟨Tryz.prog, tab, tyOf, [], addO, dpO, false⟩) ⟨tabOk, trivial, addOk⟩ (by kernel_rfl) 9 Tryz.f69 (.n) Tryz.func69 Tryz.call69 rfl (by kernel_rfl) (by kernel_rfl) (by kernel_rfl) fun n x => by kernel_rfl
def ref07_Is (n : Nat) (p0 : Int) : Option Bool :=
 jn (fun (b1 : Bool) =>
 some b1) fun k2 =>
 cond (decide (p0 ≥ 0))
 (k2 (decide (p0 ≤ 6)))
 (k2 false)
@[reducible] def ref07_Is_ct : Ct tab := ⟨91, [.one (.d (.int .i64))], [], [.one (.d .bool)], [], Bool, fun y => (y, ()), fun y => y.1, fun _ => rfl, fun n x => ref07_Is n x.1⟩
theorem ref07_Is_ok : OkC Tryz.prog tab ref07_Is_ct := fn_ok (W := ⟨Tryz.prog, tab, tyOf, [], addO, dpO, false⟩) ⟨tabOk, trivial, addOk⟩ (by kernel_rfl) 9 Tryz.f91 (.n) Tryz.func91 Tryz.call91 rfl (by kernel_rfl) (by kernel_rfl) (by kernel_rfl) fun n x => by kernel_rfl
def ref07_pair (n : Nat) (p0 : Int) (p1 : Int) (p2 : Int) (p3 : Int) : Option Bool :=
 jn (fun (b1 : Bool) =>
 jn (fun (b3 : Bool) =>
 some b3) fun k4 =>
 cond b1
 (k4 true)
 (jn (fun (b5 : Bool) =>
 k4 b5) fun k6 =>
 cond (p0 == p3)
 (k6 (p1 == p2))
 (k6 false))) fun k2 =>
 cond (p0 == p2)
 (k2 (p1 == p3))
 (k2 false)
@[reducible] def ref07_pair_ct : Ct tab := ⟨92, [.one (.d (.int .i64)), .one (.d (.int .i64)), .one (.d (.int .i64)), .one (.d (.int .i64))], [], [.one (.d .bool)], [], Bool, fun y => (y, ()), fun y => y.1, fun _ => rfl, fun n x => ref07_pair n x.1 x.2.1 x.2.2.1 x.2.2.2.1⟩
theorem ref07_pair_ok : OkC Tryz.prog tab ref07_pair_ct := fn_ok (W := ⟨Tryz.prog, tab, tyOf, [], addO, dpO, false⟩) ⟨tabOk, trivial, addOk⟩ (by kernel_rfl) 27 Tryz.f92 (.n) Tryz.func92 Tryz.call92 rfl (by kernel_rfl) (by kernel_rfl) (by kernel_rfl) fun n x => by kernel_rfl
def ref07_Goes (n : Nat) (p0 : Int) (p1 : Int) : Option Bool :=
 (ref07_Is n p0).bind fun y1 =>
 jn (fun (b2 : Bool) =>
 cond b2
 (some false)
 (jn (fun (b4 : Bool) =>
 cond b4
 (some true)
 ((ref07_pair n p0 p1 1 1).bind fun y6 =>
 jn (fun (b7 : Bool) =>
 jn (fun (b9 : Bool) =>
 jn (fun (b11 : Bool) =>
 jn (fun (b13 : Bool) =>
 jn (fun (b15 : Bool) =>
 jn (fun (b17 : Bool) =>
 some b17) fun k18 =>
 cond b15
 (k18 true)
 ((ref07_pair n p0 p1 6 6).bind fun y19 =>
 k18 y19)) fun k16 =>
 cond b13
 (k16 true)
 ((ref07_pair n p0 p1 3 3).bind fun y20 =>
 k16 y20)) fun k14 =>
 cond b11
 (k14 true)
 ((ref07_pair n p0 p1 2 2).bind fun y21 =>
 k14 y21)) fun k12 =>
 cond b9
 (k12 true)
 ((ref07_pair n p0 p1 1 4).bind fun y22 =>
 k12 y22)) fun k10 =>
 cond b7
 (k10 true)
 ((ref07_pair n p0 p1 1 3).bind fun y23 =>
 k10 y23)) fun k8 =>
 cond y6
 (k8 true)
 ((ref07_pair n p0 p1 1 2).bind fun y24 =>
 k8 y24))) fun k5 =>
 cond (p0 == 0)
 (k5 true)
 (k5 (p1 == 0)))) fun k3 =>
 cond (!y1)
 (k3 true)
 ((ref07_Is n p1).bind fun y25 =>
 k3 (!y25))
@[reducible] def ref07_Goes_ct : Ct tab := ⟨54, [.one (.d (.int .i64)), .one (.d (.int .i64))], [], [.one (.d .bool)], [], Bool, fun y => (y, ()), fun y => y.1, fun _ => rfl, fun n x => ref07_Goes n x.1 x.2.1⟩
theorem ref07_Goes_ok : OkC Tryz.prog tab ref07_Goes_ct := fn_ok (W := ⟨Tryz.prog, tab, tyOf, [ref07_Is_ct, ref07_pair_ct], addO, dpO, false⟩) ⟨tabOk, ⟨ref07_Is_ok, ref07_pair_ok, trivial⟩, addOk⟩ (by kernel_rfl) 52 Tryz.f54 (.n) Tryz.func54 Tryz.call54 rfl (by kernel_rfl) (by kernel_rfl) (by kernel_rfl) fun n x => by kernel_rfl
def ref08_goes_l1 (n : Nat) : Nat → Int × Int × (List Hold) × Int × Int × Unit → Option Bool := loopF fun r1 ⟨v1, v2, v3, v4, v5, _⟩ =>
 cond (decide (v5 < v4))
 ((idx v3 v5).bind fun x6 =>
 jn (fun (b7 : Bool) =>
 cond b7
 (some false)
 (r1 (v1, v2, v3, v4, (IntKind.wrap .i64 (v5 + 1)), ()))) fun k8 =>
 cond (x6.txn != v1)
 ((ref07_Goes n x6.mode v2).bind fun y9 =>
 k8 (!y9))
 (k8 false))
 (some true)
def ref08_goes (n : Nat) (p0 : Queue) (p1 : Int) (p2 : Int) : Option Bool :=
 ref08_goes_l1 n n (p1, p2, p0.holders, (p0.holders.length : Int), 0, ())
@[reducible] def ref08_goes_ct : Ct tab := ⟨75, [.st 3, .one (.d (.int .i64)), .one (.d (.int .i64))], [], [.one (.d .bool)], [], Bool, fun y => (y, ()), fun y => y.1, fun _ => rfl, fun n x => ref08_goes n x.1 x.2.1 x.2.2.1⟩
theorem ref08_goes_ok : OkC Tryz.prog tab ref08_goes_ct := fn_ok (W := ⟨Tryz.prog, tab, tyOf, [ref07_Goes_ct], addO, dpO, false⟩) ⟨tabOk, ⟨ref07_Goes_ok, trivial⟩, addOk⟩ (by kernel_rfl) 28 Tryz.f75 (.sq (.n) (.sq (.sq (.n) (.bk none (.lp ⟨[(1, .one (.d (.int .i64))), (2, .one (.d (.int .i64))), (10, .one (.d (.sl (.st 1)))), (11, .one (.d (.int .i64))), (12, .one (.d (.int .i64)))], [], []⟩ (.n)))) (.n))) Tryz.func75 Tryz.call75 rfl (by kernel_rfl) (by kernel_rfl) (by kernel_rfl) fun n x => by kernel_rfl
def ref07_Keys (n : Nat) (p0 : Int) : Option Bool :=
 jn (fun (b1 : Bool) =>
 jn (fun (b3 : Bool) =>
 jn (fun (b5 : Bool) =>
 some b5) fun k6 =>
 cond b3
 (k6 true)
 (k6 (p0 == 6))) fun k4 =>
 cond b1
 (k4 true)
 (k4 (p0 == 5))) fun k2 =>
 cond (p0 == 0)
 (k2 true)
 (k2 (p0 == 3))
@[reducible] def ref07_Keys_ct : Ct tab := ⟨117, [.one (.d (.int .i64))], [], [.one (.d .bool)], [], Bool, fun y => (y, ()), fun y => y.1, fun _ => rfl, fun n x => ref07_Keys n x.1⟩
theorem ref07_Keys_ok : OkC Tryz.prog tab ref07_Keys_ct := fn_ok (W := ⟨Tryz.prog, tab, tyOf, [], addO, dpO, false⟩) ⟨tabOk, trivial, addOk⟩ (by kernel_rfl) 17 Tryz.f117 (.n) Tryz.func117 Tryz.call117 rfl (by kernel_rfl) (by kernel_rfl) (by kernel_rfl) fun n x => by kernel_rfl
def ref07_Tables (n : Nat) (p0 : Int) : Option Bool :=
 (ref07_Is n p0).bind fun y1 =>
 jn (fun (b2 : Bool) =>
 some b2) fun k3 =>
 cond y1
 (k3 (p0 != 6))
 (k3 false)
@[reducible] def ref07_Tables_ct : Ct tab := ⟨118, [.one (.d (.int .i64))], [], [.one (.d .bool)], [], Bool, fun y => (y, ()), fun y => y.1, fun _ => rfl, fun n x => ref07_Tables n x.1⟩
theorem ref07_Tables_ok : OkC Tryz.prog tab ref07_Tables_ct := fn_ok (W := ⟨Tryz.prog, tab, tyOf, [ref07_Is_ct], addO, dpO, false⟩) ⟨tabOk, ⟨ref07_Is_ok, trivial⟩, addOk⟩ (by kernel_rfl) 9 Tryz.f118 (.n) Tryz.func118 Tryz.call118 rfl (by kernel_rfl) (by kernel_rfl) (by kernel_rfl) fun n x => by kernel_rfl
def ref08_RightMode (n : Nat) (p0 : Res) (p1 : Int) : Option Bool :=
 cond (p1 == 0)
 (some false)
 (cond p0.isKey
 ((ref07_Keys n p1).bind fun y1 =>
 some y1)
 ((ref07_Tables n p1).bind fun y2 =>
 some y2))
@[reducible] def ref08_RightMode_ct : Ct tab := ⟨72, [.st 0, .one (.d (.int .i64))], [], [.one (.d .bool)], [], Bool, fun y => (y, ()), fun y => y.1, fun _ => rfl, fun n x => ref08_RightMode n x.1 x.2.1⟩
theorem ref08_RightMode_ok : OkC Tryz.prog tab ref08_RightMode_ct := fn_ok (W := ⟨Tryz.prog, tab, tyOf, [ref07_Keys_ct, ref07_Tables_ct], addO, dpO, false⟩) ⟨tabOk, ⟨ref07_Keys_ok, ref07_Tables_ok, trivial⟩, addOk⟩ (by kernel_rfl) 13 Tryz.f72 (.n) Tryz.func72 Tryz.call72 rfl (by kernel_rfl) (by kernel_rfl) (by kernel_rfl) fun n x => by kernel_rfl
def ref07_Covers (n : Nat) (p0 : Int) (p1 : Int) : Option Bool :=
 (ref07_Is n p0).bind fun y1 =>
 jn (fun (b2 : Bool) =>
 cond b2
 (some false)
 (jn (fun (b4 : Bool) =>
 jn (fun (b6 : Bool) =>
 cond b6
 (some true)
 (jn (fun (b8 : Bool) =>
 jn (fun (b10 : Bool) =>
 some b10) fun k11 =>
 cond b8
 (k11 true)
 (jn (fun (b12 : Bool) =>
 k11 b12) fun k13 =>
 cond (p0 == 4)
 (jn (fun (b14 : Bool) =>
 k13 b14) fun k15 =>
 cond (p1 == 2)
 (k15 true)
 (k15 (p1 == 3)))
 (k13 false))) fun k9 =>
 cond (p1 == 1)
 (jn (fun (b16 : Bool) =>
 jn (fun (b18 : Bool) =>
 k9 b18) fun k19 =>
 cond b16
 (k19 true)
 (k19 (p0 == 4))) fun k17 =>
 cond (p0 == 2)
 (k17 true)
 (k17 (p0 == 3)))
 (k9 false))) fun k7 =>
 cond b4
 (k7 true)
 (k7 (p0 == 5))) fun k5 =>
 cond (p0 == p1)
 (k5 true)
 (k5 (p1 == 0)))) fun k3 =>
 cond (!y1)
 (k3 true)
 ((ref07_Is n p1).bind fun y20 =>
 k3 (!y20))
@[reducible] def ref07_Covers_ct : Ct tab := ⟨73, [.one (.d (.int .i64)), .one (.d (.int .i64))], [], [.one (.d .bool)], [], Bool, fun y => (y, ()), fun y => y.1, fun _ => rfl, fun n x => ref07_Covers n x.1 x.2.1⟩
theorem ref07_Covers_ok : OkC Tryz.prog tab ref07_Covers_ct := fn_ok (W := ⟨Tryz.prog, tab, tyOf, [ref07_Is_ct], addO, dpO, false⟩) ⟨tabOk, ⟨ref07_Is_ok, trivial⟩, addOk⟩ (by kernel_rfl) 50 Tryz.f73 (.n) Tryz.func73 Tryz.call73 rfl (by kernel_rfl) (by kernel_rfl) (by kernel_rfl) fun n x => by kernel_rfl
end
end Go.Proofs.YtndehfninoimgaaGreat
