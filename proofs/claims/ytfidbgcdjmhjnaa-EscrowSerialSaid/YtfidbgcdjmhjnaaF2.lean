/- Functions of the program: plain twins and their contracts, printed by program. -/
import Derived.Test.YtfidbgcdjmhjnaaTypes
import Derived.Test.YtfidbgcdjmhjnaaF1
namespace Go.Proofs.Ytfidbgcdjmhjnaa
open Go Go.Bur Go.RowKit
set_option linter.unusedVariables false
set_option linter.unusedSimpArgs false
set_option maxRecDepth 100000
noncomputable section
/-! bursary escrow.shares 1 -/
def escrow_shares_1_fyd0_c1_50_l1 (n : Nat) : Nat → Unit × (List Share) × Int × Int × (HL tabT [.int .i64] → HL tabT [.sl (.int .i64)] → Option (Nat × HL tabT [.sl (.int .i64)])) × Nat × (HL tabT [.sl (.int .i64)]) × Unit → Option ((HL tabT [.int .i64] → HL tabT [.sl (.int .i64)] → Option (Nat × HL tabT [.sl (.int .i64)])) × Nat × (HL tabT [.sl (.int .i64)])) := loopF fun r1 ⟨v1, v2, v3, v4, v5, v6, v7, _⟩ =>
    cond (decide (v4 < v3))
      ((idx v2 v4).bind fun x8 =>
      (escrow_whole n x8).bind fun y9 =>
      (callY v5 v6 (y9, ()) v7).bind fun y10 =>
      cond (!(Nat.beq y10.1 0))
        (some (v5, y10.1, y10.2))
        (r1 (v1, v2, v3, (IntKind.wrap .i64 (v4 + 1)), v5, y10.1, y10.2, ())))
      (some (v5, v6, v7))
def escrow_shares_1_fyd0_c1_50 (n : Nat) (p1 : Pending) (p2 : Unit) (q0_0 : HL tabT [.int .i64] → HL tabT [.sl (.int .i64)] → Option (Nat × HL tabT [.sl (.int .i64)])) (q0_1 : Nat) (q0_2 : HL tabT [.sl (.int .i64)]) : Option ((HL tabT [.int .i64] → HL tabT [.sl (.int .i64)] → Option (Nat × HL tabT [.sl (.int .i64)])) × Nat × (HL tabT [.sl (.int .i64)])) :=
  escrow_shares_1_fyd0_c1_50_l1 n n (p2, p1.shares, (p1.shares.length : Int), 0, q0_0, q0_1, q0_2, ())
/-! bursary escrow.end -/
def escrow_end_f50 (n : Nat) (p0 : Pending) : Option escrow_wide :=
  (escrow_shares_f50 n p0).bind fun y1 =>
  (escrow_shares_1_fyd0_c1_50 n y1 () (fun y2 z3 =>
        (app 8 z3.1 ([y2.1] : List Int)).bind fun l4 =>
        some (0, (l4, ()))) 0 (([p0.value] : List Int), ())).bind fun y5 =>
  sel y5.2.1 [
    (escrow_sum n y5.2.2.1).bind fun y6 =>
    some y6,
    some (escrow_wide.mk 0 0),
    (escrow_sum n y5.2.2.1).bind fun y7 =>
    some y7]
/-! bursary escrow.Ends -/
def escrow_Ends (n : Nat) (p0 : Pending) : Option (Int × Int × Int × Int) :=
  (escrow_right n p0).bind fun y1 =>
  cond (!y1)
    (some (0, 0, 0, 200))
    ((escrow_end_f48 n p0).bind fun y2 =>
    (escrow_wide_small n y2).bind fun y3 =>
    (escrow_end_f50 n p0).bind fun y4 =>
    (escrow_wide_small n y4).bind fun y5 =>
    (escrow_end_f51 n p0).bind fun y6 =>
    (escrow_wide_small n y6).bind fun y7 =>
    some (y3.1, y5.1, y7.1, 0))
/-! bursary bursaryref10.Ends -/
/-! slices.Equal   bursary api.Share bursary api.Share  -/
/-! bursary escrow.Same 1 -/
/-! slices.EqualFunc   bursary api.Pending   bursary api.Pending bursary api.Pending bursary api.Pending  -/
/-! bursary escrow.Same -/
/-! bursary bursaryref10.Same -/
/-!  bursary bursarylaw10.Op .key -/
theorem slices_Delete_Share_raw {a0 : Option Addr} {c0 : Nat} (p0 : List (Raw 4)) (p1 p2 : Int) (r : List (Raw 4)) (h : delL p0 p1 p2 = some r) :
    Meets Try.prog 66 #[.slice a0 p0.length c0, .int .i64 p1, .int .i64 p2] [rowF (rawF 4) 61 a0 c0 p0] [] fun v A P => ∃ (a : Option Addr) (c : Nat), v = .slice a r.length c ∧ A = [rowF (rawF 4) 61 a c r] ∧ P = [] := by
  unfold delL at h
  split at h
  case isFalse => cases h
  rename_i hb
  obtain ⟨hb0, hb1, hb2⟩ := hb
  obtain rfl := someI h
  obtain ⟨i, hi⟩ : ∃ i : Nat, p1 = (i : Int) := ⟨p1.toNat, by omega⟩
  obtain ⟨j, hj⟩ : ∃ j : Nat, p2 = (j : Int) := ⟨p2.toNat, by omega⟩
  subst hi hj
  simp only [Int.toNat_natCast]
  have hij : i ≤ j := by omega
  have hjl : j ≤ p0.length := by omega
  refine meets_enter 33 Try.func66 Try.call66 rfl (by kernel_rfl) (by simp) fun C a w hS => ?_
  have hc : p0.length ≤ c0 := (row_len (hS.st.own _ (List.mem_cons_self ..))).2.1
  refine k_seq (by kernel_rfl) fun K1 hK1 => ?_
  refine k_reg 1 (by kernel_rfl) ?_
  refine r_run 0 1 [0, 1, 2] [] hS rfl (L' := [(0, .slice a0 p0.length c0), (1, .int .i64 i), (2, .int .i64 j)]) (As' := [rowF (rawF 4) 61 a0 c0 p0]) (ob := []) (by kernel_rfl) trivial fun a w hS => ?_
  refine wl_end ?_
  refine hK1 _ _ ?_
  refine k_seq (by kernel_rfl) fun K2 hK2 => ?_
  refine k_reg 6 (by kernel_rfl) ?_
  refine r_run 0 6 [0, 1, 2] [] hS rfl (L' := [(0, .slice a0 p0.length c0), (1, .int .i64 i), (2, .int .i64 j)]) (As' := [rowF (rawF 4) 61 a0 c0 p0]) (ob := [fun _ => 0 ≤ (i : Int) ∧ (i : Int) ≤ (j : Int) ∧ (j : Int) ≤ (p0.length : Int) ∧ (p0.length : Int) ≤ (c0 : Int)]) (by kernel_rfl) ⟨Bx.c ⟨hb0, hb1, hb2, by omega⟩, trivial⟩ fun a w hS => ?_
  refine wl_end ?_
  refine hK2 _ _ ?_
  refine k_seq (by kernel_rfl) fun K3 hK3 => ?_
  refine k_seq (by kernel_rfl) fun K4 hK4 => ?_
  refine k_reg 3 (by kernel_rfl) ?_
  refine r_run 0 3 [0, 1, 2, 16] [] hS rfl (L' := [(0, .slice a0 p0.length c0), (1, .int .i64 i), (2, .int .i64 j), (16, .bool ((i : Int) == (j : Int)))]) (As' := [rowF (rawF 4) 61 a0 c0 p0]) (ob := []) (by kernel_rfl) trivial fun a w hS => ?_
  refine wl_end ?_
  refine hK4 _ _ ?_
  refine k_cond ((i : Int) == (j : Int)) hS.has (by kernel_rfl) (by kernel_rfl) (by kernel_rfl) (fun hq => ?_) (fun hq => ?_)
  · have hij : i = j := by
      have := of_decide_eq_true (p := (i : Int) = (j : Int)) (by simpa using hq)
      omega
    subst hij
    refine k_seq (by kernel_rfl) fun K5 hK5 => ?_
    refine k_reg 2 (by kernel_rfl) ?_
    refine r_run 0 2 [6] [] hS rfl (L' := [(6, .slice a0 p0.length c0)]) (As' := [rowF (rawF 4) 61 a0 c0 p0]) (ob := []) (by kernel_rfl) trivial fun a w hS => ?_
    refine wl_end ?_
    refine hK5 _ _ ?_
    refine k_ret (by kernel_rfl) ?_
    try simp only [Exit.then, Exit.inBlock]
    refine r_ret hS [.tmp 6] [] (xs := [.slice a0 p0.length c0]) (ps := []) [0] [] rfl (by kernel_rfl) (fun hA => trivial) rfl (fun F up => trivial) ?_
    rw [List.take_append_drop]
    exact ⟨a0, c0, rfl, rfl, rfl⟩
  · have hne : i ≠ j := fun e => by
      subst e
      simp at hq
    have hlt : i < j := by omega
    obtain ⟨g, rfl⟩ := row_block (hS.st.own _ (List.mem_cons_self ..)) (by omega)
    refine k_skip (by kernel_rfl) ?_
    refine hK3 _ _ ?_
    refine k_seq (by kernel_rfl) fun K5 hK5 => ?_
    refine k_reg 3 (by kernel_rfl) ?_
    refine r_run 0 3 [0, 1, 2, 7] [] hS rfl (L' := [(0, .slice (some ⟨g, 0, none⟩) p0.length c0), (1, .int .i64 i), (2, .int .i64 j), (7, .int .i64 (p0.length : Int))]) (As' := [rowF (rawF 4) 61 (some ⟨g, 0, none⟩) c0 p0]) (ob := []) (by kernel_rfl) trivial fun a w hS => ?_
    refine wl_end ?_
    refine hK5 _ _ ?_
    refine k_seq (by kernel_rfl) fun K6 hK6 => ?_
    refine k_draw 6 8 [.val (.slice (some ⟨g, 0, none⟩) p0.length c0), .val (.int .i64 i), .val (.slice (slA (some ⟨g, 0, none⟩) 0 c0 ((rawF 4)).sz) i c0), .val (.slice (some ⟨g, 0, none⟩) p0.length c0), .val (.int .i64 j), .val (.slice (slA (some ⟨g, 0, none⟩) j c0 ((rawF 4)).sz) (p0.length - j) (c0 - j))] [] [(0, []), (1, []), (2, []), (3, []), (4, []), (5, [])] [] (ob := [fun _ => (0 : Int) ≤ 0 ∧ (0 : Int) ≤ (i : Int) ∧ (i : Int) ≤ (c0 : Int), fun _ => 0 ≤ (j : Int) ∧ (j : Int) ≤ (p0.length : Int) ∧ (p0.length : Int) ≤ (c0 : Int)]) (by kernel_rfl) (by kernel_rfl) hS (by kernel_rfl) (fun F N0 => by kernel_rfl) (by kernel_rfl) (by kernel_rfl) (by kernel_rfl) (by kernel_rfl) ⟨Bx.c ⟨by omega, by omega, by omega⟩, Bx.c ⟨by omega, by omega, by omega⟩, trivial⟩ ?_ ?_
    · exact trivial
    intro V a w e hS hq
    refine r_bltS 6 rfl 0 (.row (some ⟨g, 0, none⟩) c0 61 ((rawF 4)).sz (i + (p0.length - j)) ((p0.flatMap ((rawF 4)).enc).take (i * ((rawF 4)).sz) ++ (p0.flatMap ((rawF 4)).enc).drop (j * ((rawF 4)).sz))) (d := some 26) (b := .append) (ts := #[25, 25]) (ty := 25) (vs := #[.slice (slA (some ⟨g, 0, none⟩) 0 c0 ((rawF 4)).sz) i c0, .slice (slA (some ⟨g, 0, none⟩) j c0 ((rawF 4)).sz) (p0.length - j) (c0 - j)]) hS (by kernel_rfl) rfl (fun hA => run_cut_row (t := 25) (ty := 25) (inf := Try.t61) (by kernel_rfl) (by kernel_rfl) rfl hA (flat_one p0) hij hjl) rfl (by simp [Asn.fp]) fun a w hS => ?_
    have hn' : p0.length - (i + (p0.length - j)) = j - i := by omega
    have hs0 : slA (some (⟨g, 0, none⟩ : Addr)) (i + (p0.length - j)) c0 ((rawF 4)).sz = some ⟨g, (i + (p0.length - j)) * ((rawF 4)).sz, none⟩ := by
      unfold slA; rw [if_neg (by omega)]; simp only [Option.map_some, addr_add0]
    refine r_run 7 1 [0, 7] [] hS rfl (L' := [(0, .slice (some ⟨g, 0, none⟩) (i + (p0.length - j)) c0), (7, .int .i64 (p0.length : Int))]) (As' := [.row (some ⟨g, 0, none⟩) c0 61 ((rawF 4)).sz (i + (p0.length - j)) ((p0.flatMap ((rawF 4)).enc).take (i * ((rawF 4)).sz) ++ (p0.flatMap ((rawF 4)).enc).drop (j * ((rawF 4)).sz))]) (ob := []) (by kernel_rfl) trivial fun a w hS => ?_
    refine wl_end ?_
    refine hK6 _ _ ?_
    refine k_seq (by kernel_rfl) fun K7 hK7 => ?_
    refine k_reg 6 (by kernel_rfl) ?_
    refine r_run 0 5 [0, 31] [.as 31 (.slice (some ⟨g, (i + (p0.length - j)) * ((rawF 4)).sz, none⟩) (j - i) (c0 - (i + (p0.length - j))))] hS rfl (L' := [(0, .slice (some ⟨g, 0, none⟩) (i + (p0.length - j)) c0), (31, .slice (some ⟨g, (i + (p0.length - j)) * ((rawF 4)).sz, none⟩) (j - i) (c0 - (i + (p0.length - j))))]) (As' := [.row (some ⟨g, 0, none⟩) c0 61 ((rawF 4)).sz (i + (p0.length - j)) ((p0.flatMap ((rawF 4)).enc).take (i * ((rawF 4)).sz) ++ (p0.flatMap ((rawF 4)).enc).drop (j * ((rawF 4)).sz))]) (ob := [fun _ => 0 ≤ ((i + (p0.length - j) : Nat) : Int) ∧ ((i + (p0.length - j) : Nat) : Int) ≤ (p0.length : Int) ∧ (p0.length : Int) ≤ (c0 : Int), fun _ => Value.slice (slA (some ⟨g, 0, none⟩) (i + (p0.length - j)) c0 ((rawF 4)).sz) (p0.length - (i + (p0.length - j))) (c0 - (i + (p0.length - j))) = .slice (some ⟨g, (i + (p0.length - j)) * ((rawF 4)).sz, none⟩) (j - i) (c0 - (i + (p0.length - j)))]) (by kernel_rfl) ⟨Bx.c ⟨by omega, by omega, by omega⟩, Bx.c (by rw [hs0, hn']), trivial⟩ fun a w hS => ?_
    obtain ⟨ds, hd1, hd2, hd3, hd4⟩ := row_full (hS.st.own _ (List.mem_cons_self ..))
    replace hS := hS.same (B := .row (some ⟨g, 0, none⟩) c0 61 ((rawF 4)).sz c0 ds) 0 rfl (fun _ => hd4) rfl (by simp [Asn.fp])
    refine r_bltS 5 rfl 0 (.row (some ⟨g, 0, none⟩) c0 61 ((rawF 4)).sz c0 (spl ds ((i + (p0.length - j)) * ((rawF 4)).sz) (Builtin.zeroCells ((Try.t61.zero).getD undef).cells (j - i)).toList)) (d := none) (b := .clear) (ts := #[25]) (ty := 0) (vs := #[.slice (some ⟨g, (i + (p0.length - j)) * ((rawF 4)).sz, none⟩) (j - i) (c0 - (i + (p0.length - j)))]) hS (by kernel_rfl) rfl (fun hA => run_clear_row (t := 25) (ty := 0) (inf := Try.t61) (by kernel_rfl) (by kernel_rfl) (by kernel_rfl) (by kernel_rfl) (oneAll (by kernel_rfl)) hA (by rw [← Nat.add_mul]; exact Nat.mul_le_mul_right _ (by omega))) rfl (by simp [Asn.fp]) fun a w hS => ?_
    have hcut : (spl ds ((i + (p0.length - j)) * ((rawF 4)).sz) (Builtin.zeroCells ((Try.t61.zero).getD undef).cells (j - i)).toList).take ((i + (p0.length - j)) * ((rawF 4)).sz) = (p0.take i ++ p0.drop j).flatMap ((rawF 4)).enc := by
      have hle : (i + (p0.length - j)) * ((rawF 4)).sz ≤ ds.length := by rw [hd2]; exact Nat.mul_le_mul_right _ hd3
      unfold spl
      rw [List.append_assoc, List.take_left' (by rw [List.length_take]; omega), hd1, List.flatMap_append, flat_take, flat_drop]
    have hlen : (p0.take i ++ p0.drop j).length = i + (p0.length - j) := by simp; omega
    replace hS := hS.same (B := rowF (rawF 4) 61 (some ⟨g, 0, none⟩) c0 (p0.take i ++ p0.drop j)) 0 rfl (fun hA => by
      have := row_cut hA (i + (p0.length - j)) (by omega)
      rw [hcut] at this
      unfold rowF
      rw [hlen]
      exact this) rfl (by simp [Asn.fp])
    refine wl_end ?_
    refine hK7 _ _ ?_
    refine k_seq (by kernel_rfl) fun K8 hK8 => ?_
    refine k_reg 2 (by kernel_rfl) ?_
    refine r_run 0 2 [6] [] hS rfl (L' := [(6, .slice (some ⟨g, 0, none⟩) (i + (p0.length - j)) c0)]) (As' := [rowF (rawF 4) 61 (some ⟨g, 0, none⟩) c0 (p0.take i ++ p0.drop j)]) (ob := []) (by kernel_rfl) trivial fun a w hS => ?_
    refine wl_end ?_
    refine hK8 _ _ ?_
    refine k_ret (by kernel_rfl) ?_
    try simp only [Exit.then, Exit.inBlock]
    refine r_ret hS [.tmp 6] [] (xs := [.slice (some ⟨g, 0, none⟩) (i + (p0.length - j)) c0]) (ps := []) [0] [] rfl (by kernel_rfl) (fun hA => trivial) rfl (fun F up => trivial) ?_
    exact ⟨some ⟨g, 0, none⟩, c0, by rw [hlen]; rfl, rfl, rfl⟩
def slices_Delete_Share (n : Nat) (p1 p2 : Int) (q0 : List Share) : Option (List Share) := delL q0 p1 p2
@[reducible] def slices_Delete_Share_ct : Ct tab := ⟨66, [.one (.own 0), .one (.d (.int .i64)), .one (.d (.int .i64))], [.row 61 (.st 1)], [.one (.own 0)], [(none, .row 61 (.st 1))], List Share, fun y => (y, ()), fun y => y.1, fun _ => rfl, fun n x => slices_Delete_Share n x.1 x.2.1 x.2.2.1⟩
theorem slices_Delete_Share_ok : OkC Try.prog tab slices_Delete_Share_ct := del_ok (t := .st 1) (m := 4) tabOk rfl Try.call66 fun p0 p1 p2 r h => slices_Delete_Share_raw p0 p1 p2 r h

/-! bursary escrow.Over 1 1 -/
def escrow_Over_1_1 (n : Nat) (p0 : Pending) : Option Bool :=
  some ((p0.shares.length : Int) == 0)
@[reducible] def escrow_Over_1_1_ct : Ct tab := ⟨68, [.st 2], [], [.one (.d .bool)], [], Bool, fun y => (y, ()), fun y => y.1, fun _ => rfl, fun n x => escrow_Over_1_1 n x.1⟩
theorem escrow_Over_1_1_ok : OkC Try.prog tab escrow_Over_1_1_ct := fn_ok (W := ⟨Try.prog, tab, tyOf, [], addO, dpO, false⟩) ⟨tabOk, trivial, addOk⟩ (by kernel_rfl) 7 Try.f68 (.n) Try.func68 Try.call68 rfl (by kernel_rfl) (by kernel_rfl) (by kernel_rfl) fun n x => by kernel_rfl

/-! slices.IndexFunc   bursary api.Pending bursary api.Pending  -/
def slices_IndexFunc_Pending_f68_l1 (n : Nat) : Nat → (List Pending) × Int × Int × Unit → Option Int := loopF fun r1 ⟨v1, v2, v3, _⟩ =>
    cond (decide (v3 < v2))
      ((idx v1 v3).bind fun x4 =>
      (escrow_Over_1_1 n x4).bind fun y5 =>
      cond y5
        (some v3)
        (r1 (v1, v2, (IntKind.wrap .i64 (v3 + 1)), ())))
      (some (-1))
def slices_IndexFunc_Pending_f68 (n : Nat) (p0 : List Pending) : Option Int :=
  slices_IndexFunc_Pending_f68_l1 n n (p0, (p0.length : Int), 0, ())
@[reducible] def slices_IndexFunc_Pending_f68_ct : Ct tab := ⟨45, [.one (.d (.sl (.st 2))), .one (.fn 68 [])], [], [.one (.d (.int .i64))], [], Int, fun y => (y, ()), fun y => y.1, fun _ => rfl, fun n x => slices_IndexFunc_Pending_f68 n x.1⟩
theorem slices_IndexFunc_Pending_f68_ok : OkC Try.prog tab slices_IndexFunc_Pending_f68_ct := fn_ok (W := ⟨Try.prog, tab, tyOf, [escrow_Over_1_1_ct], addO, dpO, false⟩) ⟨tabOk, ⟨escrow_Over_1_1_ok, trivial⟩, addOk⟩ (by kernel_rfl) 19 Try.f45 (.sq (.n) (.sq (.sq (.n) (.bk none (.lp ⟨[(0, .one (.d (.sl (.st 2)))), (1, .one (.fn 68 [])), (7, .one (.d (.int .i64))), (8, .one (.d (.int .i64)))], [], []⟩ (.n)))) (.n))) Try.func45 Try.call45 rfl (by kernel_rfl) (by kernel_rfl) (by kernel_rfl) fun n x => by kernel_rfl

theorem slices_DeleteFunc_Pending_raw {a0 : Option Addr} {c0 gd : Nat} {cv : List Value} {Pf PI : List (World → Prop)} (p0 : List (Raw 4)) (bs : List Bool) (hbl : bs.length = p0.length) (ix : Int)
    (hI : Meets Try.prog 45 #[.slice a0 p0.length c0, .func (.func gd) #[] cv.toArray] [] PI fun v A P => v = .int .i64 ix ∧ A = [] ∧ P = [])
    (hPI : ∀ (F : List Nat) (w : World), AllB F w Pf → Bx F w (fun w => (rowF (rawF 4) 27 a0 c0 p0).holds w) → AllB F w PI)
    (hix : (ix = -1 ∧ ∀ y ∈ bs, y = false) ∨ ∃ k : Nat, ix = (k : Int) ∧ bs[k]? = some true ∧ ∀ y ∈ bs.take k, y = false)
    (hD : ∀ (j : Nat) (x : (Raw 4)) (y : Bool), p0[j]? = some x → bs[j]? = some y → Meets Try.prog gd (([Value.agg x.1.toArray] ++ cv).toArray) [] Pf fun v A P => v = .bool y ∧ A = [] ∧ P = []) (hsm : p0.length < 4611686018427387904) :
    Meets Try.prog 67 #[.slice a0 p0.length c0, .func (.func gd) #[] cv.toArray] [rowF (rawF 4) 27 a0 c0 p0] Pf fun v A P => ∃ (a : Option Addr) (c : Nat), v = .slice a (keepF p0 bs).length c ∧ A = [rowF (rawF 4) 27 a c (keepF p0 bs)] ∧ P = [] := by
  have len : ∀ x : (Raw 4), ∃ v0 v1 v2 v3, x.1 = [v0, v1, v2, v3] := fun x => by
    have h := x.2.1
    generalize x.1 = l at h ⊢
    match l, h with
    | [v0, v1, v2, v3], _ => exact ⟨v0, v1, v2, v3, rfl⟩
  refine meets_enter 42 Try.func67 Try.call67 rfl (by kernel_rfl) (by simp) fun C a w hS => ?_
  have hc : p0.length ≤ c0 := (row_len (hS.st.own _ (List.mem_cons_self ..))).2.1
  have hfs : ∀ {F : List Nat} {a : Act} {w : World} {L : Env} {As : List Asn}, Sy C 42 a w L As Pf → Up C As w F → AllB F w Pf := fun {F a w L As} hS up => by
    have key : ∀ l : List (World → Prop), (∀ p ∈ l, Bx F w p) → AllB F w l := fun l => by
      induction l with
      | nil => intro _; trivial
      | cons p r ih => intro h; exact ⟨h p (by simp), ih fun q hq => h q (by simp [hq])⟩
    exact key _ fun p hp => up (hS.st.per p hp)
  refine k_seq (by kernel_rfl) fun K1 hK1 => ?_
  refine k_reg 1 (by kernel_rfl) ?_
  refine r_run 0 1 [0, 1] [] hS rfl (L' := [(0, .slice a0 p0.length c0), (1, .func (.func gd) #[] cv.toArray)]) (As' := [rowF (rawF 4) 27 a0 c0 p0]) (ob := []) (by kernel_rfl) trivial fun a w hS => ?_
  refine wl_end ?_
  refine hK1 _ _ ?_
  refine k_seq (by kernel_rfl) fun K2 hK2 => ?_
  refine k_reg 4 (by kernel_rfl) ?_
  refine r_run 0 2 [0, 1, 8, 9] [] hS rfl (L' := [(0, .slice a0 p0.length c0), (1, .func (.func gd) #[] cv.toArray), (8, .slice a0 p0.length c0), (9, .func (.func gd) #[] cv.toArray)]) (As' := [rowF (rawF 4) 27 a0 c0 p0]) (ob := []) (by kernel_rfl) trivial fun a w hS => ?_
  refine r_callX 2 rfl (d := some 10) (g := 45) (args := #[.slice a0 p0.length c0, .func (.func gd) #[] cv.toArray]) [] [0] hS (by kernel_rfl) rfl rfl hI (fun F up le => hPI F _ (hfs hS up) (le 0 rfl _ fun _ h => h)) ?_
  rintro v A' P' a w ⟨rfl, rfl, rfl⟩ hS
  refine r_run 3 1 [0, 1, 5] [] hS rfl (L' := [(0, .slice a0 p0.length c0), (1, .func (.func gd) #[] cv.toArray), (5, .int .i64 ix)]) (As' := [rowF (rawF 4) 27 a0 c0 p0]) (ob := []) (by kernel_rfl) trivial fun a w hS => ?_
  refine wl_end ?_
  refine hK2 _ _ ?_
  refine k_seq (by kernel_rfl) fun K3 hK3 => ?_
  refine k_seq (by kernel_rfl) fun K4 hK4 => ?_
  refine k_reg 2 (by kernel_rfl) ?_
  refine r_run 0 2 [0, 1, 5, 12] [] hS rfl (L' := [(0, .slice a0 p0.length c0), (1, .func (.func gd) #[] cv.toArray), (5, .int .i64 ix), (12, .bool (ix == (-1 : Int)))]) (As' := [rowF (rawF 4) 27 a0 c0 p0]) (ob := []) (by kernel_rfl) trivial fun a w hS => ?_
  refine wl_end ?_
  refine hK4 _ _ ?_
  refine k_cond (ix == (-1 : Int)) hS.has (by kernel_rfl) (by kernel_rfl) (by kernel_rfl) (fun hq => ?_) (fun hq => ?_)
  · have hall : keepF p0 bs = p0 := by
      have hq : ix = -1 := of_decide_eq_true (p := ix = (-1 : Int)) (by simpa using hq)
      rcases hix with ⟨_, h⟩ | ⟨k, h, _⟩
      · exact keepF_all hbl h
      · omega
    rw [hall]
    refine k_seq (by kernel_rfl) fun K5 hK5 => ?_
    refine k_reg 2 (by kernel_rfl) ?_
    refine r_run 0 2 [4] [] hS rfl (L' := [(4, .slice a0 p0.length c0)]) (As' := [rowF (rawF 4) 27 a0 c0 p0]) (ob := []) (by kernel_rfl) trivial fun a w hS => ?_
    refine wl_end ?_
    refine hK5 _ _ ?_
    refine k_ret (by kernel_rfl) ?_
    try simp only [Exit.then, Exit.inBlock]
    refine r_ret hS [.tmp 4] [] (xs := [.slice a0 p0.length c0]) (ps := []) [0] [] rfl (by kernel_rfl) (fun hA => trivial) rfl (fun F up => trivial) ?_
    exact ⟨a0, c0, rfl, rfl, rfl⟩
  · have hne : ix ≠ -1 := fun e => by rw [e] at hq; simp at hq
    obtain ⟨k0, rfl, hb0, htk⟩ : ∃ k : Nat, ix = (k : Int) ∧ bs[k]? = some true ∧ ∀ y ∈ bs.take k, y = false := hix.resolve_left fun h => hne h.1
    obtain ⟨hk0, _⟩ := List.getElem?_eq_some_iff.1 hb0
    rw [hbl] at hk0
    obtain ⟨g, rfl⟩ := row_block (hS.st.own _ (List.mem_cons_self ..)) (by omega)
    refine k_skip (by kernel_rfl) ?_
    refine hK3 _ _ ?_
    refine k_seq (by kernel_rfl) fun K5 hK5 => ?_
    refine k_seq (by kernel_rfl) fun K6 hK6 => ?_
    refine k_reg 3 (by kernel_rfl) ?_
    refine r_run 0 3 [0, 1, 5, 6] [.as 15 (.int .i64 ((k0 + 1 : Nat) : Int))] hS rfl (L' := [(0, .slice (some ⟨g, 0, none⟩) p0.length c0), (1, .func (.func gd) #[] cv.toArray), (5, .int .i64 (k0 : Int)), (6, .int .i64 ((k0 + 1 : Nat) : Int))]) (As' := [rowF (rawF 4) 27 (some ⟨g, 0, none⟩) c0 p0]) (ob := [fun _ => Value.int .i64 (IntKind.wrap .i64 ((k0 : Int) + 1)) = .int .i64 ((k0 + 1 : Nat) : Int)]) (by kernel_rfl) ⟨Bx.c (congrArg (Value.int .i64) (wrap_s (by omega))), trivial⟩ fun a w hS => ?_
    refine wl_end ?_
    refine hK6 _ _ ?_
    refine k_blk (by kernel_rfl) ?_
    refine k_loop (by kernel_rfl) (fun q a w => ∃ (i j : Nat) (cur : List (Raw 4)), q + j = p0.length ∧ i < j ∧ cur.length = p0.length ∧ cur.take i = keepF (p0.take j) (bs.take j) ∧ cur.drop j = p0.drop j ∧ Sy C 42 a w [(0, .slice (some ⟨g, 0, none⟩) p0.length c0), (1, .func (.func gd) #[] cv.toArray), (5, .int .i64 (i : Int)), (6, .int .i64 (j : Int))] [rowF (rawF 4) 27 (some ⟨g, 0, none⟩) c0 cur] Pf)
      (p0.length - (k0 + 1)) ⟨k0, k0 + 1, p0, by omega, by omega, rfl, ?_, rfl, hS⟩ ?_
    · obtain ⟨x0, hx0⟩ : ∃ x, p0[k0]? = some x := ⟨_, List.getElem?_eq_getElem hk0⟩
      rw [List.take_add_one, List.take_add_one, hx0, hb0]
      simp only [Option.toList_some]
      rw [keepF_snoc (by rw [List.length_take, List.length_take, hbl]), keepF_all (by rw [List.length_take, List.length_take, hbl]) htk]
      simp
    · rintro q a w ⟨i, j, cur, hqj, hij, hcl, htake, hdrop, hS⟩ K hK
      have hil : i ≤ p0.length := by omega
      refine k_seq (by kernel_rfl) fun K7 hK7 => ?_
      refine k_seq (by kernel_rfl) fun K8 hK8 => ?_
      refine k_reg 4 (by kernel_rfl) ?_
      refine r_run 0 4 [0, 1, 5, 6, 19] [] hS rfl (L' := [(0, .slice (some ⟨g, 0, none⟩) p0.length c0), (1, .func (.func gd) #[] cv.toArray), (5, .int .i64 (i : Int)), (6, .int .i64 (j : Int)), (19, .bool (decide ((j : Int) < (p0.length : Int))))]) (As' := [rowF (rawF 4) 27 (some ⟨g, 0, none⟩) c0 cur]) (ob := []) (by kernel_rfl) trivial fun a w hS => ?_
      refine wl_end ?_
      refine hK8 _ _ ?_
      refine k_cond (decide ((j : Int) < (p0.length : Int))) hS.has (by kernel_rfl) (by kernel_rfl) (by kernel_rfl) (fun hq => ?_) (fun hq => ?_)
      · have hjl : j < p0.length := by have := of_decide_eq_true hq; omega
        obtain ⟨x, hxj⟩ : ∃ x, cur[j]? = some x := ⟨_, List.getElem?_eq_getElem (by omega)⟩
        have hxp : p0[j]? = some x := by
          have h1 : (cur.drop j)[0]? = some x := by rw [List.getElem?_drop]; simpa using hxj
          rw [hdrop, List.getElem?_drop] at h1
          simpa using h1
        obtain ⟨yb, hyb⟩ : ∃ y, bs[j]? = some y := ⟨_, List.getElem?_eq_getElem (by omega)⟩
        have hd := hD j x yb hxp hyb
        have hidx : idx cur (j : Int) = some x := by unfold idx; rw [if_pos (by omega)]; simpa using hxj
        obtain ⟨v0, v1, v2, v3, hxv⟩ := len x
        rw [hxv] at hd
        have hone : ∀ u ∈ [v0, v1, v2, v3], u.oneCell' = true := fun u hu => x.2.2 u (by rw [hxv]; exact hu)
        refine k_skip (by kernel_rfl) ?_
        refine hK7 _ _ ?_
        refine k_seq (by kernel_rfl) fun K9 hK9 => ?_
        refine k_blk (by kernel_rfl) ?_
        refine k_seq (by kernel_rfl) fun K10 hK10 => ?_
        refine k_reg 6 (by kernel_rfl) ?_
        refine r_run1 0 6 [0, 1, 5, 6, 7] [.row 0 [v0, v1, v2, v3], .own 0 0] hS rfl (L' := fun u0 => [(0, .slice (some ⟨g, 0, none⟩) p0.length c0), (1, .func (.func gd) #[] cv.toArray), (5, .int .i64 (i : Int)), (6, .int .i64 (j : Int)), (7, newVal u0 none)]) (As' := fun u0 => [.box u0 [v0, v1, v2, v3], rowF (rawF 4) 27 (some ⟨g, 0, none⟩) c0 cur])
          (ob := fun u0 => [fun _ => Inb (some ⟨g, 0, none⟩) p0.length (j : Int), fun _ => LoadOk (rowF (rawF 4) 27 (some ⟨g, 0, none⟩) c0 cur) ((baseOf (some ⟨g, 0, none⟩)).add ((j : Int).toNat * 4)) [v0, v1, v2, v3], fun _ => (⟨u0, 0, none⟩ : Addr) = (⟨u0, 0, none⟩ : Addr).add 0, fun _ => ∀ u ∈ [v0, v1, v2, v3], u.oneCell' = true]) (fun u0 => by kernel_rfl) (fun u0 => ⟨Bx.c ⟨by omega, by omega, by simp⟩, Bx.c (by have := loadRow (F := (rawF 4)) (e := 27) (a := some ⟨g, 0, none⟩) (c := c0) hidx; rw [← hxv]; exact this), Bx.c (add_zero' _).symm, Bx.c hone, trivial⟩) fun u0 a w hS => ?_
        refine wl_end ?_
        refine hK10 _ _ ?_
        refine k_seq (by kernel_rfl) fun K11 hK11 => ?_
        refine k_reg 4 (by kernel_rfl) ?_
        refine r_run 0 2 [0, 1, 5, 6, 7, 26, 27] [.own 0 0] hS rfl (L' := [(0, .slice (some ⟨g, 0, none⟩) p0.length c0), (1, .func (.func gd) #[] cv.toArray), (5, .int .i64 (i : Int)), (6, .int .i64 (j : Int)), (7, newVal u0 none), (26, .func (.func gd) #[] cv.toArray), (27, .agg #[v0, v1, v2, v3])]) (As' := [.box u0 [v0, v1, v2, v3], rowF (rawF 4) 27 (some ⟨g, 0, none⟩) c0 cur]) (ob := [fun _ => (⟨u0, 0, none⟩ : Addr) = (⟨u0, 0, none⟩ : Addr).add 0]) (by kernel_rfl) ⟨Bx.c (add_zero' _).symm, trivial⟩ fun a w hS => ?_
        refine r_call 2 rfl (d := some 28) (g := gd) (args := ([Value.agg #[v0, v1, v2, v3]] ++ cv).toArray) [] hS (by kernel_rfl) rfl hd (fun F up => hfs hS up) ?_
        rintro v A' P' a w ⟨rfl, rfl, rfl⟩ hS
        refine r_run 3 1 [0, 1, 5, 6, 7, 29] [] hS rfl (L' := [(0, .slice (some ⟨g, 0, none⟩) p0.length c0), (1, .func (.func gd) #[] cv.toArray), (5, .int .i64 (i : Int)), (6, .int .i64 (j : Int)), (7, newVal u0 none), (29, .bool (!yb))]) (As' := [.box u0 [v0, v1, v2, v3], rowF (rawF 4) 27 (some ⟨g, 0, none⟩) c0 cur]) (ob := []) (by kernel_rfl) trivial fun a w hS => ?_
        refine wl_end ?_
        refine hK11 _ _ ?_
        have hnext : ∀ (i' : Nat) (cur' : List (Raw 4)) (a : Act) (w : World), i' < j + 1 → cur'.length = p0.length → cur'.take i' = keepF (p0.take (j + 1)) (bs.take (j + 1)) → cur'.drop (j + 1) = p0.drop (j + 1) →
            Sy C 42 a w [(0, .slice (some ⟨g, 0, none⟩) p0.length c0), (1, .func (.func gd) #[] cv.toArray), (5, .int .i64 (i' : Int)), (6, .int .i64 (j : Int))] [rowF (rawF 4) 27 (some ⟨g, 0, none⟩) c0 cur'] Pf → K9 a w := fun i' cur' a w h1 h2 h3 h4 hS => by
          refine hK9 _ _ ?_
          refine k_reg 3 (by kernel_rfl) ?_
          refine r_run 0 3 [0, 1, 5, 6] [.as 21 (.int .i64 ((j + 1 : Nat) : Int))] hS rfl (L' := [(0, .slice (some ⟨g, 0, none⟩) p0.length c0), (1, .func (.func gd) #[] cv.toArray), (5, .int .i64 (i' : Int)), (6, .int .i64 ((j + 1 : Nat) : Int))]) (As' := [rowF (rawF 4) 27 (some ⟨g, 0, none⟩) c0 cur']) (ob := [fun _ => Value.int .i64 (IntKind.wrap .i64 ((j : Int) + 1)) = .int .i64 ((j + 1 : Nat) : Int)]) (by kernel_rfl) ⟨Bx.c (congrArg (Value.int .i64) (wrap_s (by omega))), trivial⟩ fun a w hS => ?_
          refine wl_end ?_
          exact hK (q - 1) _ _ (by omega) ⟨i', j + 1, cur', by omega, h1, h2, h3, h4, hS⟩
        have hpt : keepF (p0.take (j + 1)) (bs.take (j + 1)) = keepF (p0.take j) (bs.take j) ++ cond yb [] [x] := by
          rw [List.take_add_one, List.take_add_one, hxp, hyb]
          exact keepF_snoc (by rw [List.length_take, List.length_take, hbl])
        have hdr : ∀ cur' : List (Raw 4), cur'.drop j = x :: p0.drop (j + 1) → cur'.drop (j + 1) = p0.drop (j + 1) := fun cur' h => by
          rw [← List.drop_drop, h]; rfl
        have hpd : p0.drop j = x :: p0.drop (j + 1) := by
          rw [List.drop_eq_getElem_cons hjl]
          obtain ⟨_, he⟩ := List.getElem?_eq_some_iff.1 hxp
          rw [he]
        refine k_cond (!yb) hS.has (by kernel_rfl) (by kernel_rfl) (by kernel_rfl) (fun hbx => ?_) (fun hbx => ?_)
        · have hput : put cur (i : Int) x = some (cur.set i x) := by unfold put; rw [if_pos (by omega)]; rfl
          obtain ⟨y, hyi⟩ : ∃ y, idx cur (i : Int) = some y := ⟨cur[i]'(by omega), by unfold idx; rw [if_pos (by omega)]; simp⟩
          refine k_seq (by kernel_rfl) fun K12 hK12 => ?_
          refine k_reg 5 (by kernel_rfl) ?_
          refine r_run 0 5 [0, 1, 5, 6] [.own 0 0, .put 1 (rowF (rawF 4) 27 (some ⟨g, 0, none⟩) c0 (cur.set i x))] hS rfl (L' := [(0, .slice (some ⟨g, 0, none⟩) p0.length c0), (1, .func (.func gd) #[] cv.toArray), (5, .int .i64 (i : Int)), (6, .int .i64 (j : Int))]) (As' := [.box u0 [v0, v1, v2, v3], rowF (rawF 4) 27 (some ⟨g, 0, none⟩) c0 (cur.set i x)])
            (ob := [fun _ => (⟨u0, 0, none⟩ : Addr) = (⟨u0, 0, none⟩ : Addr).add 0, fun _ => Inb (some ⟨g, 0, none⟩) p0.length (i : Int), fun _ => PutOk (rowF (rawF 4) 27 (some ⟨g, 0, none⟩) c0 cur) (rowF (rawF 4) 27 (some ⟨g, 0, none⟩) c0 (cur.set i x)) ((baseOf (some ⟨g, 0, none⟩)).add ((i : Int).toNat * 4)) [v0, v1, v2, v3]]) (by kernel_rfl) ⟨Bx.c (add_zero' _).symm, Bx.c ⟨by omega, by omega, by simp⟩, Bx.c (by have := putRow (F := (rawF 4)) (e := 27) (a := some ⟨g, 0, none⟩) (c := c0) hyi hput (sl := (cur.set i x).length) (by simp); rw [← hxv]; exact this), trivial⟩ fun a w hS => ?_
          refine wl_end ?_
          refine hK12 _ _ ?_
          refine k_reg 3 (by kernel_rfl) ?_
          refine r_run 0 3 [0, 1, 5, 6] [.as 35 (.int .i64 ((i + 1 : Nat) : Int))] hS rfl (L' := [(0, .slice (some ⟨g, 0, none⟩) p0.length c0), (1, .func (.func gd) #[] cv.toArray), (5, .int .i64 ((i + 1 : Nat) : Int)), (6, .int .i64 (j : Int))]) (As' := [.box u0 [v0, v1, v2, v3], rowF (rawF 4) 27 (some ⟨g, 0, none⟩) c0 (cur.set i x)]) (ob := [fun _ => Value.int .i64 (IntKind.wrap .i64 ((i : Int) + 1)) = .int .i64 ((i + 1 : Nat) : Int)]) (by kernel_rfl) ⟨Bx.c (congrArg (Value.int .i64) (wrap_s (by omega))), trivial⟩ fun a w hS => ?_
          refine wl_end ?_
          refine hnext (i + 1) (cur.set i x) _ _ (by omega) (by simp [hcl]) ?_ ?_ ((hS.perm (List.Perm.swap _ _ _)).sub (As := [_]) (Bs := [_]) fun _ h => h)
          · have hyf : yb = false := by simpa using hbx
            rw [hpt, ← htake, hyf, List.take_add_one, List.take_set_of_le (Nat.le_refl _), List.getElem?_set_self (by omega)]; rfl
          · exact hdr _ (by rw [List.drop_set_of_lt hij, hdrop, hpd])
        · refine k_skip (by kernel_rfl) ?_
          have hyt : yb = true := by simpa using hbx
          refine hnext i cur _ _ (by omega) hcl ?_ (hdr _ (by rw [hdrop, hpd])) (((hS.perm (List.Perm.swap _ _ _)).sub (As := [_]) (Bs := [_]) fun _ h => h).env4)
          rw [hpt, ← htake, hyt]
          simp
      · have hjl : j = p0.length := by have := of_decide_eq_false hq; omega
        subst hjl
        rw [List.take_length, show bs.take p0.length = bs from by rw [← hbl]; exact List.take_length] at htake
        refine k_exit 0 (by kernel_rfl) ?_
        try simp only [Exit.then, Exit.inBlock, if_true]
        refine hK5 _ _ ?_
        have hil2 : i = (keepF p0 bs).length := by rw [← htake, List.length_take]; omega
        have hs0 : slA (some (⟨g, 0, none⟩ : Addr)) i c0 ((rawF 4)).sz = some ⟨g, i * ((rawF 4)).sz, none⟩ := by
          unfold slA; rw [if_neg (by omega)]; simp only [Option.map_some, addr_add0]
        have hs1 : slA (some (⟨g, 0, none⟩ : Addr)) 0 c0 ((rawF 4)).sz = some ⟨g, 0, none⟩ := by
          unfold slA; rw [if_neg (by omega)]; simp only [Option.map_some, Nat.zero_mul, addr_add0]
        refine k_seq (by kernel_rfl) fun K7 hK7 => ?_
        refine k_reg 4 (by kernel_rfl) ?_
        refine r_run 0 3 [0, 5, 38] [.as 38 (.slice (some ⟨g, i * ((rawF 4)).sz, none⟩) (p0.length - i) (c0 - i))] hS rfl (L' := [(0, .slice (some ⟨g, 0, none⟩) p0.length c0), (5, .int .i64 (i : Int)), (38, .slice (some ⟨g, i * ((rawF 4)).sz, none⟩) (p0.length - i) (c0 - i))]) (As' := [rowF (rawF 4) 27 (some ⟨g, 0, none⟩) c0 cur]) (ob := [fun _ => 0 ≤ (i : Int) ∧ (i : Int) ≤ (p0.length : Int) ∧ (p0.length : Int) ≤ (c0 : Int), fun _ => Value.slice (slA (some ⟨g, 0, none⟩) i c0 ((rawF 4)).sz) (p0.length - i) (c0 - i) = .slice (some ⟨g, i * ((rawF 4)).sz, none⟩) (p0.length - i) (c0 - i)]) (by kernel_rfl) ⟨Bx.c ⟨by omega, by omega, by omega⟩, Bx.c (by rw [hs0]), trivial⟩ fun a w hS => ?_
        obtain ⟨ds, hd1, hd2, hd3, hd4⟩ := row_full (hS.st.own _ (List.mem_cons_self ..))
        replace hS := hS.same (B := .row (some ⟨g, 0, none⟩) c0 27 ((rawF 4)).sz c0 ds) 0 rfl (fun _ => hd4) rfl (by simp [Asn.fp])
        refine r_bltS 3 rfl 0 (.row (some ⟨g, 0, none⟩) c0 27 ((rawF 4)).sz c0 (spl ds (i * ((rawF 4)).sz) (Builtin.zeroCells ((Try.t27.zero).getD undef).cells (p0.length - i)).toList)) (d := none) (b := .clear) (ts := #[30]) (ty := 0) (vs := #[.slice (some ⟨g, i * ((rawF 4)).sz, none⟩) (p0.length - i) (c0 - i)]) hS (by kernel_rfl) rfl (fun hA => run_clear_row (t := 30) (ty := 0) (inf := Try.t27) (by kernel_rfl) (by kernel_rfl) (by kernel_rfl) (by kernel_rfl) (oneAll (by kernel_rfl)) hA (by rw [← Nat.add_mul]; exact Nat.mul_le_mul_right _ (by omega))) rfl (by simp [Asn.fp]) fun a w hS => ?_
        have hcut : (spl ds (i * ((rawF 4)).sz) (Builtin.zeroCells ((Try.t27.zero).getD undef).cells (p0.length - i)).toList).take (i * ((rawF 4)).sz) = (keepF p0 bs).flatMap ((rawF 4)).enc := by
          have hle : i * ((rawF 4)).sz ≤ ds.length := by rw [hd2]; exact Nat.mul_le_mul_right _ (by omega)
          have hle2 : i * ((rawF 4)).sz ≤ cur.length * ((rawF 4)).sz := Nat.mul_le_mul_right _ (by omega)
          unfold spl
          rw [List.append_assoc, List.take_left' (by rw [List.length_take]; omega), ← htake, flat_take, ← hd1, List.take_take, Nat.min_eq_left hle2]
        have hlen : (keepF p0 bs).length = i := by rw [← htake, List.length_take]; omega
        replace hS := hS.same (B := rowF (rawF 4) 27 (some ⟨g, 0, none⟩) c0 (keepF p0 bs)) 0 rfl (fun hA => by
          have := row_cut hA i (by omega)
          rw [hcut] at this
          unfold rowF
          rw [hlen]
          exact this) rfl (by simp [Asn.fp])
        refine wl_end ?_
        refine hK7 _ _ ?_
        refine k_seq (by kernel_rfl) fun K8 hK8 => ?_
        refine k_reg 4 (by kernel_rfl) ?_
        refine r_run 0 4 [4] [.as 41 (.slice (some ⟨g, 0, none⟩) i c0)] hS rfl (L' := [(4, .slice (some ⟨g, 0, none⟩) i c0)]) (As' := [rowF (rawF 4) 27 (some ⟨g, 0, none⟩) c0 (keepF p0 bs)]) (ob := [fun _ => (0 : Int) ≤ 0 ∧ (0 : Int) ≤ (i : Int) ∧ (i : Int) ≤ (c0 : Int), fun _ => Value.slice (slA (some ⟨g, 0, none⟩) 0 c0 ((rawF 4)).sz) (i - 0) (c0 - 0) = .slice (some ⟨g, 0, none⟩) i c0]) (by kernel_rfl) ⟨Bx.c ⟨by omega, by omega, by omega⟩, Bx.c (by rw [hs1]; rfl), trivial⟩ fun a w hS => ?_
        refine wl_end ?_
        refine hK8 _ _ ?_
        refine k_ret (by kernel_rfl) ?_
        try simp only [Exit.then, Exit.inBlock]
        refine r_ret hS [.tmp 4] [] (xs := [.slice (some ⟨g, 0, none⟩) i c0]) (ps := []) [0] [] rfl (by kernel_rfl) (fun hA => trivial) rfl (fun F up => trivial) ?_
        exact ⟨some ⟨g, 0, none⟩, c0, by rw [hlen]; rfl, rfl, rfl⟩
def slices_DeleteFunc_Pending_f68 (n : Nat) (q0 : List Pending) : Option (List Pending) := (slices_IndexFunc_Pending_f68 n q0).bind fun z => delF (fun y => escrow_Over_1_1 n y) z q0
@[reducible] def slices_DeleteFunc_Pending_f68_ct : Ct tab := ⟨67, [.one (.own 0), .one (.fn 68 [])], [.deep 27 (.st 2) [none, none, none, some 61]], [.one (.own 0)], [(none, .deep 27 (.st 2) [none, none, none, some 61])], List Pending, fun y => (y, ()), fun y => y.1, fun _ => rfl, fun n x => slices_DeleteFunc_Pending_f68 n x.1⟩
theorem slices_DeleteFunc_Pending_f68_ok : OkC Try.prog tab slices_DeleteFunc_Pending_f68_ct := dlf_okD (es := [none, none, none, some 61]) (i := 2) (cs := []) (fI := fun n x => slices_IndexFunc_Pending_f68 n x.1) (fD := fun n x y => escrow_Over_1_1 n y) (m := 4) tabOk rfl rfl Try.call67 Try.call45 Try.call68
  (fun n x z hz R w Ps v cv hst hv hcv => Calls.mono (slices_IndexFunc_Pending_f68_ok.2 n (x.1, ()) z hz R w rho0 [] Ps [v, .func (.func 68) #[] cv.toArray] hst (fun j g h => by cases h) ⟨hv, ⟨cv, rfl, hcv⟩, trivial⟩ trivial) fun e w' h => by
    obtain ⟨v1, ρ1, As1, Ps1, h1, h2, h3, _⟩ := h
    exact ⟨h1.trans (congrArg Ending.returned (show v1 = .int .i64 z from h2.1)), h3⟩)
  (fun n x y b hb R w Ps v cv hst hv hcv => Calls.mono (escrow_Over_1_1_ok.2 n (y, ()) b hb R w rho0 [] Ps (v :: cv) hst (fun j g h => by cases h) ⟨hv, capLs_rel hcv⟩ trivial) fun e w' h => by
    obtain ⟨v1, ρ1, As1, Ps1, h1, h2, h3, _⟩ := h
    exact ⟨h1.trans (congrArg Ending.returned (show v1 = .bool b from h2.1)), h3⟩) slices_DeleteFunc_Pending_raw

/-! bursary escrow.Over 1 -/
def escrow_Over_1_j2 (n : Nat) (r1 : Int × Int × Int × Bool × (List Pending) × Unit → Option (Int × Int × Bool × (List Pending))) : Int × Int × Int × Bool × (List Pending) × Unit → Option (Int × Int × Bool × (List Pending)) := fun ⟨v7, v8, v9, v10, v11, _⟩ =>
    r1 (v7, (IntKind.wrap .i64 (v8 + 1)), v9, v10, v11, ())
def escrow_Over_1_l1 (n : Nat) : Nat → Int × Int × Int × Bool × (List Pending) × Unit → Option (Int × Int × Bool × (List Pending)) := loopF fun r1 ⟨v2, v3, v4, v5, v6, _⟩ =>
    cond (decide (v3 < v2))
      (jn (escrow_Over_1_j2 n r1) fun j2 =>
      (idx v6 v3).bind fun x12 =>
      (sameI v3 v3).bind fun u13 =>
      (slices_BinarySearchFunc_int_f65 n x12.shares v4).bind fun y14 =>
      cond (!y14.2)
        (j2 (v2, v3, v4, v5, (List.set v6 (Int.toNat v3) x12), ()))
        (cond v5
          ((idx x12.shares y14.1).bind fun x15 =>
          (idx x12.shares y14.1).bind fun x16 =>
          (slices_Delete_Share n y14.1 (IntKind.wrap .i64 (y14.1 + 1)) x12.shares).bind fun y17 =>
          j2 (v2, v3, v4, v5, (List.set v6 (Int.toNat v3) (Pending.mk x12.key (IntKind.wrap .i64 (x12.value + x16.sum)) y17)), ()))
          ((slices_Delete_Share n y14.1 (IntKind.wrap .i64 (y14.1 + 1)) x12.shares).bind fun y18 =>
          j2 (v2, v3, v4, v5, (List.set v6 (Int.toNat v3) (Pending.mk x12.key x12.value y18)), ()))))
      ((slices_DeleteFunc_Pending_f68 n v6).bind fun y19 =>
      some (0, v4, v5, y19))
def escrow_Over_1 (n : Nat) (q1 : List Pending) (q2 : Int) (q3 : Bool) : Option (Int × Int × Bool × (List Pending)) :=
  (escrow_txn n q2).bind fun y1 =>
  cond (!y1)
    (some (2, q2, q3, q1))
    (escrow_Over_1_l1 n n ((q1.length : Int), 0, q2, q3, q1, ()))
@[reducible] def escrow_Over_1_ct : Ct tab := ⟨62, [.one (.box 0 0), .one (.box 2 0), .one (.box 3 0)], [.box [.own 1], .deep 27 (.st 2) [none, none, none, some 61], .box [.d (.int .i64)], .box [.d .bool]], [.one (.d (.int .i64))], [(some 0, .box [.own 3]), (some 2, .box [.d (.int .i64)]), (some 3, .box [.d .bool]), (none, .deep 27 (.st 2) [none, none, none, some 61])], (Int × Int × Bool × (List Pending)), fun y => (y.1, y.2.1, y.2.2.1, y.2.2.2, ()), fun y => (y.1, y.2.1, y.2.2.1, y.2.2.2.1), fun _ => rfl, fun n x => escrow_Over_1 n x.1 x.2.1 x.2.2.1⟩
theorem escrow_Over_1_ok : OkC Try.prog tab escrow_Over_1_ct := fn_ok (W := ⟨Try.prog, tab, tyOf, [escrow_txn_ct, slices_BinarySearchFunc_int_f65_ct, slices_Delete_Share_ct, slices_DeleteFunc_Pending_f68_ct], addO, dpO, false⟩) ⟨tabOk, ⟨escrow_txn_ok, slices_BinarySearchFunc_int_f65_ok, slices_Delete_Share_ok, slices_DeleteFunc_Pending_f68_ok, trivial⟩, addOk⟩ (by kernel_rfl) 73 Try.f62 (.sq (.n) (.sq (.n) (.sq (.sq (.n) (.bk none (.lp ⟨[(0, .one (.box 0 0)), (1, .one (.box 1 0)), (2, .one (.box 2 0)), (16, .one (.d (.int .i64))), (17, .one (.d (.int .i64)))], [.box [.own 3], .box [.d (.int .i64)], .box [.d .bool], .deep 27 (.st 2) [none, none, none, some 61]], [(0, 0), (2, 1), (3, 2)]⟩ (.sq (.n) (.sq (.n) (.sq (.bk (some ⟨[(0, .one (.box 0 0)), (1, .one (.box 1 0)), (2, .one (.box 2 0)), (16, .one (.d (.int .i64))), (17, .one (.d (.int .i64)))], [.box [.own 3], .box [.d (.int .i64)], .box [.d .bool], .deep 27 (.st 2) [none, none, none, some 61]], [(0, 0), (2, 1), (3, 2)]⟩) (.sq (.n) (.sq (.gs [.foc 3 5] (.n)) (.n)))) (.n))))))) (.n)))) Try.func62 Try.call62 rfl (by kernel_rfl) (by kernel_rfl) (by kernel_rfl) fun n x => by kernel_rfl

/-! bursary bursaryref10.put -/
/-! bursary bursaryref10.Add -/
/-! bursary bursaryref10.copied -/
/-! bursary bursaryref10.Back -/
/-! bursary bursaryref10.Over -/
end
end Go.Proofs.Ytfidbgcdjmhjnaa
