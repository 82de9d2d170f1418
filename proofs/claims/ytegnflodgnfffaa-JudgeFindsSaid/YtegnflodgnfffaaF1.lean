/- Functions of the program: plain twins and their contracts, printed by program. -/
import Derived.Test.YtegnflodgnfffaaTypes
import Derived.Test.YtegnflodgnfffaaF0
namespace Go.Proofs.Ytegnflodgnfffaa
open Go Go.Bur Go.RowKit
set_option linter.unusedVariables false
set_option linter.unusedSimpArgs false
set_option maxRecDepth 100000
noncomputable section
/-! bursary row.Put -/
def row_Put_j1 (n : Nat) : (List Row) × Unit → Option (Int × (List Row)) := fun ⟨v5, _⟩ =>
    some (0, v5)
def row_Put (n : Nat) (p0 : Schema) (p1 : List Row) (p2 : Row) : Option (Int × (List Row)) :=
  (row_CheckList n p0 p1).bind fun y1 =>
  cond (y1 != 0)
    (some (y1, ([] : List Row)))
    ((row_CheckRow n p0 p2).bind fun y2 =>
    cond (y2 != 0)
      (some (y2, ([] : List Row)))
      ((row_place n p1 p2.key).bind fun y3 =>
      (slices_Clone_Row n p1).bind fun y4 =>
      jn (row_Put_j1 n) fun j1 =>
      cond y3.2
        ((idx y4 y3.1).bind fun x6 =>
        (put y4 y3.1 p2).bind fun l7 =>
        j1 (l7, ()))
        (cond ((p1.length : Int) == 60)
          (some (6, ([] : List Row)))
          ((slices_Insert_Row n y3.1 y4 ([p2] : List Row)).bind fun y8 =>
          j1 (y8, ())))))
@[reducible] def row_Put_ct : Ct tab := ⟨85, [.st 1, .one (.d (.sl (.st 3))), .st 3], [], [.one (.own 0), .one (.d (.int .i64))], [(none, .row 67 (.st 3))], (Int × (List Row)), fun y => (y.1, y.2, ()), fun y => (y.1, y.2.1), fun _ => rfl, fun n x => row_Put n x.1 x.2.1 x.2.2.1⟩
theorem row_Put_ok : OkC Try.prog tab row_Put_ct := fn_ok (W := ⟨Try.prog, tab, tyOf, [row_CheckList_ct, row_CheckRow_ct, row_place_ct, slices_Clone_Row_ct, slices_Insert_Row_ct]⟩) ⟨tabOk, ⟨row_CheckList_ok, row_CheckRow_ok, row_place_ok, slices_Clone_Row_ok, slices_Insert_Row_ok, trivial⟩⟩ (by kernel_rfl) 50 Try.f85 (.sq (.n) (.sq (.n) (.sq (.n) (.sq (.n) (.sq (.n) (.sq (.bk none (.sq (.n) (.cd (some ⟨[(12, .one (.own 0))], [.row 67 (.st 3)], []⟩) (.n) (.n)))) (.n))))))) Try.func85 Try.call85 rfl (by kernel_rfl) (by kernel_rfl) (by kernel_rfl) fun n x => by kernel_rfl

/-!   bursary ideal.turn .insert -/
def ideal_turn_insert_j1 (n : Nat) : Int × (List Bounds) × Int × Int × Int × Int × Int × Int × ByteArray × Int × Answer × (List Row) × Unit → Option (Answer × (List Bounds) × Int × Int × Int × Int × Int × Int × ByteArray × Int × (List Row)) := fun ⟨v4, v5, v6, v7, v8, v9, v10, v11, v12, v13, v14, v15, _⟩ =>
    some ((Answer.mk v4 ([] : List Row) 0), v5, v6, v7, v8, v9, v10, v11, v12, v13, v15)
def ideal_turn_insert (n : Nat) (q0_0 : List Bounds) (q0_1 : Int) (q0_2 : Int) (q0_3 : Int) (q0_4 : Int) (q0_5 : Int) (q0_6 : Int) (q0_7 : ByteArray) (q0_8 : Int) (q1 : List Row) : Option (Answer × (List Bounds) × Int × Int × Int × Int × Int × Int × ByteArray × Int × (List Row)) :=
  (ideal_turn_fits n (Key.mk q0_2 q0_3) q0_6 q0_0 q0_1 q0_2 q0_3 q0_4 q0_5 q0_6 q0_7 q0_8 q1).bind fun y1 =>
  cond (!y1.1)
    (some ((Answer.mk 152 ([] : List Row) 0), y1.2.1, y1.2.2.1, y1.2.2.2.1, y1.2.2.2.2.1, y1.2.2.2.2.2.1, y1.2.2.2.2.2.2.1, y1.2.2.2.2.2.2.2.1, y1.2.2.2.2.2.2.2.2.1, y1.2.2.2.2.2.2.2.2.2.1, y1.2.2.2.2.2.2.2.2.2.2))
    ((row_Find n y1.2.2.2.2.2.2.2.2.2.2 (Key.mk y1.2.2.2.1 y1.2.2.2.2.1)).bind fun y2 =>
    cond y2.2
      (some ((Answer.mk 5 ([] : List Row) 0), y1.2.1, y1.2.2.1, y1.2.2.2.1, y1.2.2.2.2.1, y1.2.2.2.2.2.1, y1.2.2.2.2.2.2.1, y1.2.2.2.2.2.2.2.1, y1.2.2.2.2.2.2.2.2.1, y1.2.2.2.2.2.2.2.2.2.1, y1.2.2.2.2.2.2.2.2.2.2))
      ((row_Put n (Schema.mk y1.2.1) y1.2.2.2.2.2.2.2.2.2.2 (Row.mk (Key.mk y1.2.2.2.1 y1.2.2.2.2.1) y1.2.2.2.2.2.2.2.1 y1.2.2.2.2.2.2.2.2.1)).bind fun y3 =>
      jn (ideal_turn_insert_j1 n) fun j1 =>
      cond (y3.1 == 0)
        (j1 (y3.1, y1.2.1, y1.2.2.1, y1.2.2.2.1, y1.2.2.2.2.1, y1.2.2.2.2.2.1, y1.2.2.2.2.2.2.1, y1.2.2.2.2.2.2.2.1, y1.2.2.2.2.2.2.2.2.1, y1.2.2.2.2.2.2.2.2.2.1, (Answer.mk 0 ([] : List Row) 0), y3.2, ()))
        (j1 (y3.1, y1.2.1, y1.2.2.1, y1.2.2.2.1, y1.2.2.2.2.1, y1.2.2.2.2.2.1, y1.2.2.2.2.2.2.1, y1.2.2.2.2.2.2.2.1, y1.2.2.2.2.2.2.2.2.1, y1.2.2.2.2.2.2.2.2.2.1, (Answer.mk 0 ([] : List Row) 0), y1.2.2.2.2.2.2.2.2.2.2, ()))))
@[reducible] def ideal_turn_insert_ct : Ct tab := ⟨68, [.one (.box 0 0)], [.box [.d (.sl (.st 0)), .own 1, .d (.int .i64), .d (.int .i64), .d (.int .u16), .d (.int .i64), .d (.int .u16), .d (.int .i64), .d .str, .d (.int .i64)], .row 67 (.st 3)], [.st 5], [(some 0, .box [.d (.sl (.st 0)), .own 1, .d (.int .i64), .d (.int .i64), .d (.int .u16), .d (.int .i64), .d (.int .u16), .d (.int .i64), .d .str, .d (.int .i64)]), (none, .row 67 (.st 3))], (Answer × (List Bounds) × Int × Int × Int × Int × Int × Int × ByteArray × Int × (List Row)), fun y => (y.1, y.2.1, y.2.2.1, y.2.2.2.1, y.2.2.2.2.1, y.2.2.2.2.2.1, y.2.2.2.2.2.2.1, y.2.2.2.2.2.2.2.1, y.2.2.2.2.2.2.2.2.1, y.2.2.2.2.2.2.2.2.2.1, y.2.2.2.2.2.2.2.2.2.2, ()), fun y => (y.1, y.2.1, y.2.2.1, y.2.2.2.1, y.2.2.2.2.1, y.2.2.2.2.2.1, y.2.2.2.2.2.2.1, y.2.2.2.2.2.2.2.1, y.2.2.2.2.2.2.2.2.1, y.2.2.2.2.2.2.2.2.2.1, y.2.2.2.2.2.2.2.2.2.2.1), fun _ => rfl, fun n x => ideal_turn_insert n x.1 x.2.1 x.2.2.1 x.2.2.2.1 x.2.2.2.2.1 x.2.2.2.2.2.1 x.2.2.2.2.2.2.1 x.2.2.2.2.2.2.2.1 x.2.2.2.2.2.2.2.2.1 x.2.2.2.2.2.2.2.2.2.1⟩
theorem ideal_turn_insert_ok : OkC Try.prog tab ideal_turn_insert_ct := fn_ok (W := ⟨Try.prog, tab, tyOf, [ideal_turn_fits_ct, row_Find_ct, row_Put_ct]⟩) ⟨tabOk, ⟨ideal_turn_fits_ok, row_Find_ok, row_Put_ok, trivial⟩⟩ (by kernel_rfl) 72 Try.f68 (.sq (.n) (.sq (.n) (.sq (.n) (.sq (.n) (.sq (.sq (.n) (.cd (some ⟨[(0, .one (.box 0 0)), (2, .one (.box 1 0)), (6, .one (.d (.int .i64)))], [.box [.d (.sl (.st 0)), .own 2, .d (.int .i64), .d (.int .i64), .d (.int .u16), .d (.int .i64), .d (.int .u16), .d (.int .i64), .d .str, .d (.int .i64)], .bst 5, .row 67 (.st 3)], [(0, 0)]⟩) (.n) (.n))) (.n)))))) Try.func68 Try.call68 rfl (by kernel_rfl) (by kernel_rfl) (by kernel_rfl) fun n x => by kernel_rfl

theorem slices_Delete_Row_raw {a0 : Option Addr} {c0 : Nat} (p0 : List (Raw 4)) (p1 p2 : Int) (r : List (Raw 4)) (h : delL p0 p1 p2 = some r) :
    Meets Try.prog 87 #[.slice a0 p0.length c0, .int .i64 p1, .int .i64 p2] [rowF (rawF 4) 67 a0 c0 p0] [] fun v A P => ∃ (a : Option Addr) (c : Nat), v = .slice a r.length c ∧ A = [rowF (rawF 4) 67 a c r] ∧ P = [] := by
  unfold delL at h
  split at h
  case isFalse => cases h
  rename_i hb
  obtain ⟨hb0, hb1, hb2⟩ := hb
  obtain rfl := someI h
  obtain ⟨i, hi⟩ : ∃ i : Nat, p1 = (i : Int) := ⟨p1.toNat, by omega⟩
  obtain ⟨j, hj⟩ : ∃ j : Nat, p2 = (j : Int) := ⟨p2.toNat, by omega⟩
  subst hi hj
  simp only [Int.toNat_natCast]
  have hij : i ≤ j := by omega
  have hjl : j ≤ p0.length := by omega
  refine meets_enter 33 Try.func87 Try.call87 rfl (by kernel_rfl) (by simp) fun C a w hS => ?_
  have hc : p0.length ≤ c0 := (row_len (hS.st.own _ (List.mem_cons_self ..))).2.1
  refine k_seq (by kernel_rfl) fun K1 hK1 => ?_
  refine k_reg 1 (by kernel_rfl) ?_
  refine r_run 0 1 [0, 1, 2] [] hS rfl (L' := [(0, .slice a0 p0.length c0), (1, .int .i64 i), (2, .int .i64 j)]) (As' := [rowF (rawF 4) 67 a0 c0 p0]) (ob := []) (by kernel_rfl) trivial fun a w hS => ?_
  refine wl_end ?_
  refine hK1 _ _ ?_
  refine k_seq (by kernel_rfl) fun K2 hK2 => ?_
  refine k_reg 6 (by kernel_rfl) ?_
  refine r_run 0 6 [0, 1, 2] [] hS rfl (L' := [(0, .slice a0 p0.length c0), (1, .int .i64 i), (2, .int .i64 j)]) (As' := [rowF (rawF 4) 67 a0 c0 p0]) (ob := [fun _ => 0 ≤ (i : Int) ∧ (i : Int) ≤ (j : Int) ∧ (j : Int) ≤ (p0.length : Int) ∧ (p0.length : Int) ≤ (c0 : Int)]) (by kernel_rfl) ⟨Bx.c ⟨hb0, hb1, hb2, by omega⟩, trivial⟩ fun a w hS => ?_
  refine wl_end ?_
  refine hK2 _ _ ?_
  refine k_seq (by kernel_rfl) fun K3 hK3 => ?_
  refine k_seq (by kernel_rfl) fun K4 hK4 => ?_
  refine k_reg 3 (by kernel_rfl) ?_
  refine r_run 0 3 [0, 1, 2, 16] [] hS rfl (L' := [(0, .slice a0 p0.length c0), (1, .int .i64 i), (2, .int .i64 j), (16, .bool ((i : Int) == (j : Int)))]) (As' := [rowF (rawF 4) 67 a0 c0 p0]) (ob := []) (by kernel_rfl) trivial fun a w hS => ?_
  refine wl_end ?_
  refine hK4 _ _ ?_
  refine k_cond ((i : Int) == (j : Int)) hS.has (by kernel_rfl) (by kernel_rfl) (by kernel_rfl) (fun hq => ?_) (fun hq => ?_)
  · have hij : i = j := by
      have := of_decide_eq_true (p := (i : Int) = (j : Int)) (by simpa using hq)
      omega
    subst hij
    refine k_seq (by kernel_rfl) fun K5 hK5 => ?_
    refine k_reg 2 (by kernel_rfl) ?_
    refine r_run 0 2 [6] [] hS rfl (L' := [(6, .slice a0 p0.length c0)]) (As' := [rowF (rawF 4) 67 a0 c0 p0]) (ob := []) (by kernel_rfl) trivial fun a w hS => ?_
    refine wl_end ?_
    refine hK5 _ _ ?_
    refine k_ret (by kernel_rfl) ?_
    try simp only [Exit.then, Exit.inBlock]
    refine r_ret hS [.tmp 6] [] (xs := [.slice a0 p0.length c0]) (ps := []) [0] [] rfl (by kernel_rfl) (fun hA => trivial) rfl (fun F up => trivial) ?_
    rw [List.take_append_drop]
    exact ⟨a0, c0, rfl, rfl, rfl⟩
  · have hne : i ≠ j := fun e => by
      subst e
      simp at hq
    have hlt : i < j := by omega
    obtain ⟨g, rfl⟩ := row_block (hS.st.own _ (List.mem_cons_self ..)) (by omega)
    refine k_skip (by kernel_rfl) ?_
    refine hK3 _ _ ?_
    refine k_seq (by kernel_rfl) fun K5 hK5 => ?_
    refine k_reg 3 (by kernel_rfl) ?_
    refine r_run 0 3 [0, 1, 2, 7] [] hS rfl (L' := [(0, .slice (some ⟨g, 0, none⟩) p0.length c0), (1, .int .i64 i), (2, .int .i64 j), (7, .int .i64 (p0.length : Int))]) (As' := [rowF (rawF 4) 67 (some ⟨g, 0, none⟩) c0 p0]) (ob := []) (by kernel_rfl) trivial fun a w hS => ?_
    refine wl_end ?_
    refine hK5 _ _ ?_
    refine k_seq (by kernel_rfl) fun K6 hK6 => ?_
    refine k_draw 6 8 [.val (.slice (some ⟨g, 0, none⟩) p0.length c0), .val (.int .i64 i), .val (.slice (slA (some ⟨g, 0, none⟩) 0 c0 ((rawF 4)).sz) i c0), .val (.slice (some ⟨g, 0, none⟩) p0.length c0), .val (.int .i64 j), .val (.slice (slA (some ⟨g, 0, none⟩) j c0 ((rawF 4)).sz) (p0.length - j) (c0 - j))] [] [(0, []), (1, []), (2, []), (3, []), (4, []), (5, [])] [] (ob := [fun _ => (0 : Int) ≤ 0 ∧ (0 : Int) ≤ (i : Int) ∧ (i : Int) ≤ (c0 : Int), fun _ => 0 ≤ (j : Int) ∧ (j : Int) ≤ (p0.length : Int) ∧ (p0.length : Int) ≤ (c0 : Int)]) (by kernel_rfl) (by kernel_rfl) hS (by kernel_rfl) (fun F N0 => by kernel_rfl) (by kernel_rfl) (by kernel_rfl) (by kernel_rfl) (by kernel_rfl) ⟨Bx.c ⟨by omega, by omega, by omega⟩, Bx.c ⟨by omega, by omega, by omega⟩, trivial⟩ ?_ ?_
    · exact trivial
    intro V a w e hS hq
    refine r_bltS 6 rfl 0 (.row (some ⟨g, 0, none⟩) c0 67 ((rawF 4)).sz (i + (p0.length - j)) ((p0.flatMap ((rawF 4)).enc).take (i * ((rawF 4)).sz) ++ (p0.flatMap ((rawF 4)).enc).drop (j * ((rawF 4)).sz))) (d := some 26) (b := .append) (ts := #[25, 25]) (ty := 25) (vs := #[.slice (slA (some ⟨g, 0, none⟩) 0 c0 ((rawF 4)).sz) i c0, .slice (slA (some ⟨g, 0, none⟩) j c0 ((rawF 4)).sz) (p0.length - j) (c0 - j)]) hS (by kernel_rfl) rfl (fun hA => run_cut_row (t := 25) (ty := 25) (inf := Try.t67) (by kernel_rfl) (by kernel_rfl) rfl hA (flat_one p0) hij hjl) rfl (by simp [Asn.fp]) fun a w hS => ?_
    have hn' : p0.length - (i + (p0.length - j)) = j - i := by omega
    have hs0 : slA (some (⟨g, 0, none⟩ : Addr)) (i + (p0.length - j)) c0 ((rawF 4)).sz = some ⟨g, (i + (p0.length - j)) * ((rawF 4)).sz, none⟩ := by
      unfold slA; rw [if_neg (by omega)]; simp only [Option.map_some, addr_add0]
    refine r_run 7 1 [0, 7] [] hS rfl (L' := [(0, .slice (some ⟨g, 0, none⟩) (i + (p0.length - j)) c0), (7, .int .i64 (p0.length : Int))]) (As' := [.row (some ⟨g, 0, none⟩) c0 67 ((rawF 4)).sz (i + (p0.length - j)) ((p0.flatMap ((rawF 4)).enc).take (i * ((rawF 4)).sz) ++ (p0.flatMap ((rawF 4)).enc).drop (j * ((rawF 4)).sz))]) (ob := []) (by kernel_rfl) trivial fun a w hS => ?_
    refine wl_end ?_
    refine hK6 _ _ ?_
    refine k_seq (by kernel_rfl) fun K7 hK7 => ?_
    refine k_reg 6 (by kernel_rfl) ?_
    refine r_run 0 5 [0, 31] [.as 31 (.slice (some ⟨g, (i + (p0.length - j)) * ((rawF 4)).sz, none⟩) (j - i) (c0 - (i + (p0.length - j))))] hS rfl (L' := [(0, .slice (some ⟨g, 0, none⟩) (i + (p0.length - j)) c0), (31, .slice (some ⟨g, (i + (p0.length - j)) * ((rawF 4)).sz, none⟩) (j - i) (c0 - (i + (p0.length - j))))]) (As' := [.row (some ⟨g, 0, none⟩) c0 67 ((rawF 4)).sz (i + (p0.length - j)) ((p0.flatMap ((rawF 4)).enc).take (i * ((rawF 4)).sz) ++ (p0.flatMap ((rawF 4)).enc).drop (j * ((rawF 4)).sz))]) (ob := [fun _ => 0 ≤ ((i + (p0.length - j) : Nat) : Int) ∧ ((i + (p0.length - j) : Nat) : Int) ≤ (p0.length : Int) ∧ (p0.length : Int) ≤ (c0 : Int), fun _ => Value.slice (slA (some ⟨g, 0, none⟩) (i + (p0.length - j)) c0 ((rawF 4)).sz) (p0.length - (i + (p0.length - j))) (c0 - (i + (p0.length - j))) = .slice (some ⟨g, (i + (p0.length - j)) * ((rawF 4)).sz, none⟩) (j - i) (c0 - (i + (p0.length - j)))]) (by kernel_rfl) ⟨Bx.c ⟨by omega, by omega, by omega⟩, Bx.c (by rw [hs0, hn']), trivial⟩ fun a w hS => ?_
    obtain ⟨ds, hd1, hd2, hd3, hd4⟩ := row_full (hS.st.own _ (List.mem_cons_self ..))
    replace hS := hS.same (B := .row (some ⟨g, 0, none⟩) c0 67 ((rawF 4)).sz c0 ds) 0 rfl (fun _ => hd4) rfl (by simp [Asn.fp])
    refine r_bltS 5 rfl 0 (.row (some ⟨g, 0, none⟩) c0 67 ((rawF 4)).sz c0 (spl ds ((i + (p0.length - j)) * ((rawF 4)).sz) (Builtin.zeroCells ((Try.t67.zero).getD undef).cells (j - i)).toList)) (d := none) (b := .clear) (ts := #[25]) (ty := 0) (vs := #[.slice (some ⟨g, (i + (p0.length - j)) * ((rawF 4)).sz, none⟩) (j - i) (c0 - (i + (p0.length - j)))]) hS (by kernel_rfl) rfl (fun hA => run_clear_row (t := 25) (ty := 0) (inf := Try.t67) (by kernel_rfl) (by kernel_rfl) (by kernel_rfl) (by kernel_rfl) (oneAll (by kernel_rfl)) hA (by rw [← Nat.add_mul]; exact Nat.mul_le_mul_right _ (by omega))) rfl (by simp [Asn.fp]) fun a w hS => ?_
    have hcut : (spl ds ((i + (p0.length - j)) * ((rawF 4)).sz) (Builtin.zeroCells ((Try.t67.zero).getD undef).cells (j - i)).toList).take ((i + (p0.length - j)) * ((rawF 4)).sz) = (p0.take i ++ p0.drop j).flatMap ((rawF 4)).enc := by
      have hle : (i + (p0.length - j)) * ((rawF 4)).sz ≤ ds.length := by rw [hd2]; exact Nat.mul_le_mul_right _ hd3
      unfold spl
      rw [List.append_assoc, List.take_left' (by rw [List.length_take]; omega), hd1, List.flatMap_append, flat_take, flat_drop]
    have hlen : (p0.take i ++ p0.drop j).length = i + (p0.length - j) := by simp; omega
    replace hS := hS.same (B := rowF (rawF 4) 67 (some ⟨g, 0, none⟩) c0 (p0.take i ++ p0.drop j)) 0 rfl (fun hA => by
      have := row_cut hA (i + (p0.length - j)) (by omega)
      rw [hcut] at this
      unfold rowF
      rw [hlen]
      exact this) rfl (by simp [Asn.fp])
    refine wl_end ?_
    refine hK7 _ _ ?_
    refine k_seq (by kernel_rfl) fun K8 hK8 => ?_
    refine k_reg 2 (by kernel_rfl) ?_
    refine r_run 0 2 [6] [] hS rfl (L' := [(6, .slice (some ⟨g, 0, none⟩) (i + (p0.length - j)) c0)]) (As' := [rowF (rawF 4) 67 (some ⟨g, 0, none⟩) c0 (p0.take i ++ p0.drop j)]) (ob := []) (by kernel_rfl) trivial fun a w hS => ?_
    refine wl_end ?_
    refine hK8 _ _ ?_
    refine k_ret (by kernel_rfl) ?_
    try simp only [Exit.then, Exit.inBlock]
    refine r_ret hS [.tmp 6] [] (xs := [.slice (some ⟨g, 0, none⟩) (i + (p0.length - j)) c0]) (ps := []) [0] [] rfl (by kernel_rfl) (fun hA => trivial) rfl (fun F up => trivial) ?_
    exact ⟨some ⟨g, 0, none⟩, c0, by rw [hlen]; rfl, rfl, rfl⟩
def slices_Delete_Row (n : Nat) (p1 p2 : Int) (q0 : List Row) : Option (List Row) := delL q0 p1 p2
@[reducible] def slices_Delete_Row_ct : Ct tab := ⟨87, [.one (.own 0), .one (.d (.int .i64)), .one (.d (.int .i64))], [.row 67 (.st 3)], [.one (.own 0)], [(none, .row 67 (.st 3))], List Row, fun y => (y, ()), fun y => y.1, fun _ => rfl, fun n x => slices_Delete_Row n x.1 x.2.1 x.2.2.1⟩
theorem slices_Delete_Row_ok : OkC Try.prog tab slices_Delete_Row_ct := del_ok (t := .st 3) (m := 4) tabOk rfl Try.call87 fun p0 p1 p2 r h => slices_Delete_Row_raw p0 p1 p2 r h

/-!   bursary ideal.turn .remove 1 -/
def ideal_turn_remove_1 (n : Nat) (p0 : Int) (q1_0 : List Bounds) (q1_1 : Int) (q1_2 : Int) (q1_3 : Int) (q1_4 : Int) (q1_5 : Int) (q1_6 : Int) (q1_7 : ByteArray) (q1_8 : Int) (q2 : List Row) : Option (Answer × (List Bounds) × Int × Int × Int × Int × Int × Int × ByteArray × Int × (List Row)) :=
  (slices_Delete_Row n p0 (IntKind.wrap .i64 (p0 + 1)) q2).bind fun y1 =>
  some ((Answer.mk 0 ([] : List Row) 0), q1_0, q1_1, q1_2, q1_3, q1_4, q1_5, q1_6, q1_7, q1_8, y1)
@[reducible] def ideal_turn_remove_1_ct : Ct tab := ⟨86, [.one (.d (.int .i64)), .one (.box 0 0)], [.box [.box 1 0], .box [.d (.sl (.st 0)), .own 2, .d (.int .i64), .d (.int .i64), .d (.int .u16), .d (.int .i64), .d (.int .u16), .d (.int .i64), .d .str, .d (.int .i64)], .row 67 (.st 3)], [.st 5], [(some 0, .box [.box 1 0]), (some 1, .box [.d (.sl (.st 0)), .own 2, .d (.int .i64), .d (.int .i64), .d (.int .u16), .d (.int .i64), .d (.int .u16), .d (.int .i64), .d .str, .d (.int .i64)]), (none, .row 67 (.st 3))], (Answer × (List Bounds) × Int × Int × Int × Int × Int × Int × ByteArray × Int × (List Row)), fun y => (y.1, y.2.1, y.2.2.1, y.2.2.2.1, y.2.2.2.2.1, y.2.2.2.2.2.1, y.2.2.2.2.2.2.1, y.2.2.2.2.2.2.2.1, y.2.2.2.2.2.2.2.2.1, y.2.2.2.2.2.2.2.2.2.1, y.2.2.2.2.2.2.2.2.2.2, ()), fun y => (y.1, y.2.1, y.2.2.1, y.2.2.2.1, y.2.2.2.2.1, y.2.2.2.2.2.1, y.2.2.2.2.2.2.1, y.2.2.2.2.2.2.2.1, y.2.2.2.2.2.2.2.2.1, y.2.2.2.2.2.2.2.2.2.1, y.2.2.2.2.2.2.2.2.2.2.1), fun _ => rfl, fun n x => ideal_turn_remove_1 n x.1 x.2.1 x.2.2.1 x.2.2.2.1 x.2.2.2.2.1 x.2.2.2.2.2.1 x.2.2.2.2.2.2.1 x.2.2.2.2.2.2.2.1 x.2.2.2.2.2.2.2.2.1 x.2.2.2.2.2.2.2.2.2.1 x.2.2.2.2.2.2.2.2.2.2.1⟩
theorem ideal_turn_remove_1_ok : OkC Try.prog tab ideal_turn_remove_1_ct := fn_ok (W := ⟨Try.prog, tab, tyOf, [slices_Delete_Row_ct]⟩) ⟨tabOk, ⟨slices_Delete_Row_ok, trivial⟩⟩ (by kernel_rfl) 16 Try.f86 (.n) Try.func86 Try.call86 rfl (by kernel_rfl) (by kernel_rfl) (by kernel_rfl) fun n x => by kernel_rfl

/-!   bursary ideal.turn .found -/
def ideal_turn_found_f86 (n : Nat) (p1 : Key) (q0_0 : List Bounds) (q0_1 : Int) (q0_2 : Int) (q0_3 : Int) (q0_4 : Int) (q0_5 : Int) (q0_6 : Int) (q0_7 : ByteArray) (q0_8 : Int) (q1 : List Row) : Option (Answer × (List Bounds) × Int × Int × Int × Int × Int × Int × ByteArray × Int × (List Row)) :=
  (row_Find n q1 p1).bind fun y1 =>
  cond (!y1.2)
    (some ((Answer.mk 4 ([] : List Row) 0), q0_0, q0_1, q0_2, q0_3, q0_4, q0_5, q0_6, q0_7, q0_8, q1))
    ((ideal_turn_remove_1 n y1.1 q0_0 q0_1 q0_2 q0_3 q0_4 q0_5 q0_6 q0_7 q0_8 q1).bind fun y2 =>
    some (y2.1, y2.2.1, y2.2.2.1, y2.2.2.2.1, y2.2.2.2.2.1, y2.2.2.2.2.2.1, y2.2.2.2.2.2.2.1, y2.2.2.2.2.2.2.2.1, y2.2.2.2.2.2.2.2.2.1, y2.2.2.2.2.2.2.2.2.2.1, y2.2.2.2.2.2.2.2.2.2.2))
@[reducible] def ideal_turn_found_f86_ct : Ct tab := ⟨80, [.one (.box 0 0), .st 2, .one (.fn 86 [.bx 2])], [.box [.d (.sl (.st 0)), .own 1, .d (.int .i64), .d (.int .i64), .d (.int .u16), .d (.int .i64), .d (.int .u16), .d (.int .i64), .d .str, .d (.int .i64)], .row 67 (.st 3), .box [.box 0 0]], [.st 5], [(some 0, .box [.d (.sl (.st 0)), .own 2, .d (.int .i64), .d (.int .i64), .d (.int .u16), .d (.int .i64), .d (.int .u16), .d (.int .i64), .d .str, .d (.int .i64)]), (some 2, .box [.box 0 0]), (none, .row 67 (.st 3))], (Answer × (List Bounds) × Int × Int × Int × Int × Int × Int × ByteArray × Int × (List Row)), fun y => (y.1, y.2.1, y.2.2.1, y.2.2.2.1, y.2.2.2.2.1, y.2.2.2.2.2.1, y.2.2.2.2.2.2.1, y.2.2.2.2.2.2.2.1, y.2.2.2.2.2.2.2.2.1, y.2.2.2.2.2.2.2.2.2.1, y.2.2.2.2.2.2.2.2.2.2, ()), fun y => (y.1, y.2.1, y.2.2.1, y.2.2.2.1, y.2.2.2.2.1, y.2.2.2.2.2.1, y.2.2.2.2.2.2.1, y.2.2.2.2.2.2.2.1, y.2.2.2.2.2.2.2.2.1, y.2.2.2.2.2.2.2.2.2.1, y.2.2.2.2.2.2.2.2.2.2.1), fun _ => rfl, fun n x => ideal_turn_found_f86 n x.1 x.2.1 x.2.2.1 x.2.2.2.1 x.2.2.2.2.1 x.2.2.2.2.2.1 x.2.2.2.2.2.2.1 x.2.2.2.2.2.2.2.1 x.2.2.2.2.2.2.2.2.1 x.2.2.2.2.2.2.2.2.2.1 x.2.2.2.2.2.2.2.2.2.2.1⟩
theorem ideal_turn_found_f86_ok : OkC Try.prog tab ideal_turn_found_f86_ct := fn_ok (W := ⟨Try.prog, tab, tyOf, [row_Find_ct, ideal_turn_remove_1_ct]⟩) ⟨tabOk, ⟨row_Find_ok, ideal_turn_remove_1_ok, trivial⟩⟩ (by kernel_rfl) 24 Try.f80 (.n) Try.func80 Try.call80 rfl (by kernel_rfl) (by kernel_rfl) (by kernel_rfl) fun n x => by kernel_rfl

/-!   bursary ideal.turn .remove -/
def ideal_turn_remove (n : Nat) (q0_0 : List Bounds) (q0_1 : Int) (q0_2 : Int) (q0_3 : Int) (q0_4 : Int) (q0_5 : Int) (q0_6 : Int) (q0_7 : ByteArray) (q0_8 : Int) (q1 : List Row) : Option (Answer × (List Bounds) × Int × Int × Int × Int × Int × Int × ByteArray × Int × (List Row)) :=
  (ideal_turn_found_f86 n (Key.mk q0_2 q0_3) q0_0 q0_1 q0_2 q0_3 q0_4 q0_5 q0_6 q0_7 q0_8 q1).bind fun y1 =>
  some (y1.1, y1.2.1, y1.2.2.1, y1.2.2.2.1, y1.2.2.2.2.1, y1.2.2.2.2.2.1, y1.2.2.2.2.2.2.1, y1.2.2.2.2.2.2.2.1, y1.2.2.2.2.2.2.2.2.1, y1.2.2.2.2.2.2.2.2.2.1, y1.2.2.2.2.2.2.2.2.2.2)
@[reducible] def ideal_turn_remove_ct : Ct tab := ⟨69, [.one (.box 0 0)], [.box [.d (.sl (.st 0)), .own 1, .d (.int .i64), .d (.int .i64), .d (.int .u16), .d (.int .i64), .d (.int .u16), .d (.int .i64), .d .str, .d (.int .i64)], .row 67 (.st 3)], [.st 5], [(some 0, .box [.d (.sl (.st 0)), .own 1, .d (.int .i64), .d (.int .i64), .d (.int .u16), .d (.int .i64), .d (.int .u16), .d (.int .i64), .d .str, .d (.int .i64)]), (none, .row 67 (.st 3))], (Answer × (List Bounds) × Int × Int × Int × Int × Int × Int × ByteArray × Int × (List Row)), fun y => (y.1, y.2.1, y.2.2.1, y.2.2.2.1, y.2.2.2.2.1, y.2.2.2.2.2.1, y.2.2.2.2.2.2.1, y.2.2.2.2.2.2.2.1, y.2.2.2.2.2.2.2.2.1, y.2.2.2.2.2.2.2.2.2.1, y.2.2.2.2.2.2.2.2.2.2, ()), fun y => (y.1, y.2.1, y.2.2.1, y.2.2.2.1, y.2.2.2.2.1, y.2.2.2.2.2.1, y.2.2.2.2.2.2.1, y.2.2.2.2.2.2.2.1, y.2.2.2.2.2.2.2.2.1, y.2.2.2.2.2.2.2.2.2.1, y.2.2.2.2.2.2.2.2.2.2.1), fun _ => rfl, fun n x => ideal_turn_remove n x.1 x.2.1 x.2.2.1 x.2.2.2.1 x.2.2.2.2.1 x.2.2.2.2.2.1 x.2.2.2.2.2.2.1 x.2.2.2.2.2.2.2.1 x.2.2.2.2.2.2.2.2.1 x.2.2.2.2.2.2.2.2.2.1⟩
theorem ideal_turn_remove_ok : OkC Try.prog tab ideal_turn_remove_ct := fn_ok (W := ⟨Try.prog, tab, tyOf, [ideal_turn_found_f86_ct]⟩) ⟨tabOk, ⟨ideal_turn_found_f86_ok, trivial⟩⟩ (by kernel_rfl) 11 Try.f69 (.n) Try.func69 Try.call69 rfl (by kernel_rfl) (by kernel_rfl) (by kernel_rfl) fun n x => by kernel_rfl

/-!   bursary ideal.turn .note 1 -/
def ideal_turn_note_1 (n : Nat) (p0 : Int) (q1_0 : List Bounds) (q1_1 : Int) (q1_2 : Int) (q1_3 : Int) (q1_4 : Int) (q1_5 : Int) (q1_6 : Int) (q1_7 : ByteArray) (q1_8 : Int) (q2 : List Row) : Option (Answer × (List Bounds) × Int × Int × Int × Int × Int × Int × ByteArray × Int × (List Row)) :=
  (idx q2 p0).bind fun x1 =>
  (idx q2 p0).bind fun x2 =>
  (put q2 p0 (Row.mk x2.key x2.val q1_7)).bind fun l3 =>
  some ((Answer.mk 0 ([] : List Row) 0), q1_0, q1_1, q1_2, q1_3, q1_4, q1_5, q1_6, q1_7, q1_8, l3)
@[reducible] def ideal_turn_note_1_ct : Ct tab := ⟨88, [.one (.d (.int .i64)), .one (.box 0 0)], [.box [.box 1 0], .box [.d (.sl (.st 0)), .own 2, .d (.int .i64), .d (.int .i64), .d (.int .u16), .d (.int .i64), .d (.int .u16), .d (.int .i64), .d .str, .d (.int .i64)], .row 67 (.st 3)], [.st 5], [(some 0, .box [.box 1 0]), (some 1, .box [.d (.sl (.st 0)), .own 2, .d (.int .i64), .d (.int .i64), .d (.int .u16), .d (.int .i64), .d (.int .u16), .d (.int .i64), .d .str, .d (.int .i64)]), (none, .row 67 (.st 3))], (Answer × (List Bounds) × Int × Int × Int × Int × Int × Int × ByteArray × Int × (List Row)), fun y => (y.1, y.2.1, y.2.2.1, y.2.2.2.1, y.2.2.2.2.1, y.2.2.2.2.2.1, y.2.2.2.2.2.2.1, y.2.2.2.2.2.2.2.1, y.2.2.2.2.2.2.2.2.1, y.2.2.2.2.2.2.2.2.2.1, y.2.2.2.2.2.2.2.2.2.2, ()), fun y => (y.1, y.2.1, y.2.2.1, y.2.2.2.1, y.2.2.2.2.1, y.2.2.2.2.2.1, y.2.2.2.2.2.2.1, y.2.2.2.2.2.2.2.1, y.2.2.2.2.2.2.2.2.1, y.2.2.2.2.2.2.2.2.2.1, y.2.2.2.2.2.2.2.2.2.2.1), fun _ => rfl, fun n x => ideal_turn_note_1 n x.1 x.2.1 x.2.2.1 x.2.2.2.1 x.2.2.2.2.1 x.2.2.2.2.2.1 x.2.2.2.2.2.2.1 x.2.2.2.2.2.2.2.1 x.2.2.2.2.2.2.2.2.1 x.2.2.2.2.2.2.2.2.2.1 x.2.2.2.2.2.2.2.2.2.2.1⟩
theorem ideal_turn_note_1_ok : OkC Try.prog tab ideal_turn_note_1_ct := fn_ok (W := ⟨Try.prog, tab, tyOf, []⟩) ⟨tabOk, trivial⟩ (by kernel_rfl) 17 Try.f88 (.n) Try.func88 Try.call88 rfl (by kernel_rfl) (by kernel_rfl) (by kernel_rfl) fun n x => by kernel_rfl

/-!   bursary ideal.turn .found -/
def ideal_turn_found_f88 (n : Nat) (p1 : Key) (q0_0 : List Bounds) (q0_1 : Int) (q0_2 : Int) (q0_3 : Int) (q0_4 : Int) (q0_5 : Int) (q0_6 : Int) (q0_7 : ByteArray) (q0_8 : Int) (q1 : List Row) : Option (Answer × (List Bounds) × Int × Int × Int × Int × Int × Int × ByteArray × Int × (List Row)) :=
  (row_Find n q1 p1).bind fun y1 =>
  cond (!y1.2)
    (some ((Answer.mk 4 ([] : List Row) 0), q0_0, q0_1, q0_2, q0_3, q0_4, q0_5, q0_6, q0_7, q0_8, q1))
    ((ideal_turn_note_1 n y1.1 q0_0 q0_1 q0_2 q0_3 q0_4 q0_5 q0_6 q0_7 q0_8 q1).bind fun y2 =>
    some (y2.1, y2.2.1, y2.2.2.1, y2.2.2.2.1, y2.2.2.2.2.1, y2.2.2.2.2.2.1, y2.2.2.2.2.2.2.1, y2.2.2.2.2.2.2.2.1, y2.2.2.2.2.2.2.2.2.1, y2.2.2.2.2.2.2.2.2.2.1, y2.2.2.2.2.2.2.2.2.2.2))
@[reducible] def ideal_turn_found_f88_ct : Ct tab := ⟨80, [.one (.box 0 0), .st 2, .one (.fn 88 [.bx 2])], [.box [.d (.sl (.st 0)), .own 1, .d (.int .i64), .d (.int .i64), .d (.int .u16), .d (.int .i64), .d (.int .u16), .d (.int .i64), .d .str, .d (.int .i64)], .row 67 (.st 3), .box [.box 0 0]], [.st 5], [(some 0, .box [.d (.sl (.st 0)), .own 2, .d (.int .i64), .d (.int .i64), .d (.int .u16), .d (.int .i64), .d (.int .u16), .d (.int .i64), .d .str, .d (.int .i64)]), (some 2, .box [.box 0 0]), (none, .row 67 (.st 3))], (Answer × (List Bounds) × Int × Int × Int × Int × Int × Int × ByteArray × Int × (List Row)), fun y => (y.1, y.2.1, y.2.2.1, y.2.2.2.1, y.2.2.2.2.1, y.2.2.2.2.2.1, y.2.2.2.2.2.2.1, y.2.2.2.2.2.2.2.1, y.2.2.2.2.2.2.2.2.1, y.2.2.2.2.2.2.2.2.2.1, y.2.2.2.2.2.2.2.2.2.2, ()), fun y => (y.1, y.2.1, y.2.2.1, y.2.2.2.1, y.2.2.2.2.1, y.2.2.2.2.2.1, y.2.2.2.2.2.2.1, y.2.2.2.2.2.2.2.1, y.2.2.2.2.2.2.2.2.1, y.2.2.2.2.2.2.2.2.2.1, y.2.2.2.2.2.2.2.2.2.2.1), fun _ => rfl, fun n x => ideal_turn_found_f88 n x.1 x.2.1 x.2.2.1 x.2.2.2.1 x.2.2.2.2.1 x.2.2.2.2.2.1 x.2.2.2.2.2.2.1 x.2.2.2.2.2.2.2.1 x.2.2.2.2.2.2.2.2.1 x.2.2.2.2.2.2.2.2.2.1 x.2.2.2.2.2.2.2.2.2.2.1⟩
theorem ideal_turn_found_f88_ok : OkC Try.prog tab ideal_turn_found_f88_ct := fn_ok (W := ⟨Try.prog, tab, tyOf, [row_Find_ct, ideal_turn_note_1_ct]⟩) ⟨tabOk, ⟨row_Find_ok, ideal_turn_note_1_ok, trivial⟩⟩ (by kernel_rfl) 24 Try.f80 (.n) Try.func80 Try.call80 rfl (by kernel_rfl) (by kernel_rfl) (by kernel_rfl) fun n x => by kernel_rfl

/-!   bursary ideal.turn .note -/
def ideal_turn_note (n : Nat) (q0_0 : List Bounds) (q0_1 : Int) (q0_2 : Int) (q0_3 : Int) (q0_4 : Int) (q0_5 : Int) (q0_6 : Int) (q0_7 : ByteArray) (q0_8 : Int) (q1 : List Row) : Option (Answer × (List Bounds) × Int × Int × Int × Int × Int × Int × ByteArray × Int × (List Row)) :=
  (ideal_turn_found_f88 n (Key.mk q0_2 q0_3) q0_0 q0_1 q0_2 q0_3 q0_4 q0_5 q0_6 q0_7 q0_8 q1).bind fun y1 =>
  some (y1.1, y1.2.1, y1.2.2.1, y1.2.2.2.1, y1.2.2.2.2.1, y1.2.2.2.2.2.1, y1.2.2.2.2.2.2.1, y1.2.2.2.2.2.2.2.1, y1.2.2.2.2.2.2.2.2.1, y1.2.2.2.2.2.2.2.2.2.1, y1.2.2.2.2.2.2.2.2.2.2)
@[reducible] def ideal_turn_note_ct : Ct tab := ⟨70, [.one (.box 0 0)], [.box [.d (.sl (.st 0)), .own 1, .d (.int .i64), .d (.int .i64), .d (.int .u16), .d (.int .i64), .d (.int .u16), .d (.int .i64), .d .str, .d (.int .i64)], .row 67 (.st 3)], [.st 5], [(some 0, .box [.d (.sl (.st 0)), .own 1, .d (.int .i64), .d (.int .i64), .d (.int .u16), .d (.int .i64), .d (.int .u16), .d (.int .i64), .d .str, .d (.int .i64)]), (none, .row 67 (.st 3))], (Answer × (List Bounds) × Int × Int × Int × Int × Int × Int × ByteArray × Int × (List Row)), fun y => (y.1, y.2.1, y.2.2.1, y.2.2.2.1, y.2.2.2.2.1, y.2.2.2.2.2.1, y.2.2.2.2.2.2.1, y.2.2.2.2.2.2.2.1, y.2.2.2.2.2.2.2.2.1, y.2.2.2.2.2.2.2.2.2.1, y.2.2.2.2.2.2.2.2.2.2, ()), fun y => (y.1, y.2.1, y.2.2.1, y.2.2.2.1, y.2.2.2.2.1, y.2.2.2.2.2.1, y.2.2.2.2.2.2.1, y.2.2.2.2.2.2.2.1, y.2.2.2.2.2.2.2.2.1, y.2.2.2.2.2.2.2.2.2.1, y.2.2.2.2.2.2.2.2.2.2.1), fun _ => rfl, fun n x => ideal_turn_note n x.1 x.2.1 x.2.2.1 x.2.2.2.1 x.2.2.2.2.1 x.2.2.2.2.2.1 x.2.2.2.2.2.2.1 x.2.2.2.2.2.2.2.1 x.2.2.2.2.2.2.2.2.1 x.2.2.2.2.2.2.2.2.2.1⟩
theorem ideal_turn_note_ok : OkC Try.prog tab ideal_turn_note_ct := fn_ok (W := ⟨Try.prog, tab, tyOf, [ideal_turn_found_f88_ct]⟩) ⟨tabOk, ⟨ideal_turn_found_f88_ok, trivial⟩⟩ (by kernel_rfl) 11 Try.f70 (.n) Try.func70 Try.call70 rfl (by kernel_rfl) (by kernel_rfl) (by kernel_rfl) fun n x => by kernel_rfl

/-!   bursary ideal.turn .set 1 -/
def ideal_turn_set_1 (n : Nat) (p0 : Int) (q1_0 : List Bounds) (q1_1 : Int) (q1_2 : Int) (q1_3 : Int) (q1_4 : Int) (q1_5 : Int) (q1_6 : Int) (q1_7 : ByteArray) (q1_8 : Int) (q2 : List Row) : Option (Answer × (List Bounds) × Int × Int × Int × Int × Int × Int × ByteArray × Int × (List Row)) :=
  (idx q2 p0).bind fun x1 =>
  (idx q2 p0).bind fun x2 =>
  (put q2 p0 (Row.mk x2.key q1_6 x2.note)).bind fun l3 =>
  some ((Answer.mk 0 ([] : List Row) 0), q1_0, q1_1, q1_2, q1_3, q1_4, q1_5, q1_6, q1_7, q1_8, l3)
@[reducible] def ideal_turn_set_1_ct : Ct tab := ⟨89, [.one (.d (.int .i64)), .one (.box 0 0)], [.box [.box 1 0], .box [.d (.sl (.st 0)), .own 2, .d (.int .i64), .d (.int .i64), .d (.int .u16), .d (.int .i64), .d (.int .u16), .d (.int .i64), .d .str, .d (.int .i64)], .row 67 (.st 3)], [.st 5], [(some 0, .box [.box 1 0]), (some 1, .box [.d (.sl (.st 0)), .own 2, .d (.int .i64), .d (.int .i64), .d (.int .u16), .d (.int .i64), .d (.int .u16), .d (.int .i64), .d .str, .d (.int .i64)]), (none, .row 67 (.st 3))], (Answer × (List Bounds) × Int × Int × Int × Int × Int × Int × ByteArray × Int × (List Row)), fun y => (y.1, y.2.1, y.2.2.1, y.2.2.2.1, y.2.2.2.2.1, y.2.2.2.2.2.1, y.2.2.2.2.2.2.1, y.2.2.2.2.2.2.2.1, y.2.2.2.2.2.2.2.2.1, y.2.2.2.2.2.2.2.2.2.1, y.2.2.2.2.2.2.2.2.2.2, ()), fun y => (y.1, y.2.1, y.2.2.1, y.2.2.2.1, y.2.2.2.2.1, y.2.2.2.2.2.1, y.2.2.2.2.2.2.1, y.2.2.2.2.2.2.2.1, y.2.2.2.2.2.2.2.2.1, y.2.2.2.2.2.2.2.2.2.1, y.2.2.2.2.2.2.2.2.2.2.1), fun _ => rfl, fun n x => ideal_turn_set_1 n x.1 x.2.1 x.2.2.1 x.2.2.2.1 x.2.2.2.2.1 x.2.2.2.2.2.1 x.2.2.2.2.2.2.1 x.2.2.2.2.2.2.2.1 x.2.2.2.2.2.2.2.2.1 x.2.2.2.2.2.2.2.2.2.1 x.2.2.2.2.2.2.2.2.2.2.1⟩
theorem ideal_turn_set_1_ok : OkC Try.prog tab ideal_turn_set_1_ct := fn_ok (W := ⟨Try.prog, tab, tyOf, []⟩) ⟨tabOk, trivial⟩ (by kernel_rfl) 17 Try.f89 (.n) Try.func89 Try.call89 rfl (by kernel_rfl) (by kernel_rfl) (by kernel_rfl) fun n x => by kernel_rfl

/-!   bursary ideal.turn .found -/
def ideal_turn_found_f89 (n : Nat) (p1 : Key) (q0_0 : List Bounds) (q0_1 : Int) (q0_2 : Int) (q0_3 : Int) (q0_4 : Int) (q0_5 : Int) (q0_6 : Int) (q0_7 : ByteArray) (q0_8 : Int) (q1 : List Row) : Option (Answer × (List Bounds) × Int × Int × Int × Int × Int × Int × ByteArray × Int × (List Row)) :=
  (row_Find n q1 p1).bind fun y1 =>
  cond (!y1.2)
    (some ((Answer.mk 4 ([] : List Row) 0), q0_0, q0_1, q0_2, q0_3, q0_4, q0_5, q0_6, q0_7, q0_8, q1))
    ((ideal_turn_set_1 n y1.1 q0_0 q0_1 q0_2 q0_3 q0_4 q0_5 q0_6 q0_7 q0_8 q1).bind fun y2 =>
    some (y2.1, y2.2.1, y2.2.2.1, y2.2.2.2.1, y2.2.2.2.2.1, y2.2.2.2.2.2.1, y2.2.2.2.2.2.2.1, y2.2.2.2.2.2.2.2.1, y2.2.2.2.2.2.2.2.2.1, y2.2.2.2.2.2.2.2.2.2.1, y2.2.2.2.2.2.2.2.2.2.2))
@[reducible] def ideal_turn_found_f89_ct : Ct tab := ⟨80, [.one (.box 0 0), .st 2, .one (.fn 89 [.bx 2])], [.box [.d (.sl (.st 0)), .own 1, .d (.int .i64), .d (.int .i64), .d (.int .u16), .d (.int .i64), .d (.int .u16), .d (.int .i64), .d .str, .d (.int .i64)], .row 67 (.st 3), .box [.box 0 0]], [.st 5], [(some 0, .box [.d (.sl (.st 0)), .own 2, .d (.int .i64), .d (.int .i64), .d (.int .u16), .d (.int .i64), .d (.int .u16), .d (.int .i64), .d .str, .d (.int .i64)]), (some 2, .box [.box 0 0]), (none, .row 67 (.st 3))], (Answer × (List Bounds) × Int × Int × Int × Int × Int × Int × ByteArray × Int × (List Row)), fun y => (y.1, y.2.1, y.2.2.1, y.2.2.2.1, y.2.2.2.2.1, y.2.2.2.2.2.1, y.2.2.2.2.2.2.1, y.2.2.2.2.2.2.2.1, y.2.2.2.2.2.2.2.2.1, y.2.2.2.2.2.2.2.2.2.1, y.2.2.2.2.2.2.2.2.2.2, ()), fun y => (y.1, y.2.1, y.2.2.1, y.2.2.2.1, y.2.2.2.2.1, y.2.2.2.2.2.1, y.2.2.2.2.2.2.1, y.2.2.2.2.2.2.2.1, y.2.2.2.2.2.2.2.2.1, y.2.2.2.2.2.2.2.2.2.1, y.2.2.2.2.2.2.2.2.2.2.1), fun _ => rfl, fun n x => ideal_turn_found_f89 n x.1 x.2.1 x.2.2.1 x.2.2.2.1 x.2.2.2.2.1 x.2.2.2.2.2.1 x.2.2.2.2.2.2.1 x.2.2.2.2.2.2.2.1 x.2.2.2.2.2.2.2.2.1 x.2.2.2.2.2.2.2.2.2.1 x.2.2.2.2.2.2.2.2.2.2.1⟩
theorem ideal_turn_found_f89_ok : OkC Try.prog tab ideal_turn_found_f89_ct := fn_ok (W := ⟨Try.prog, tab, tyOf, [row_Find_ct, ideal_turn_set_1_ct]⟩) ⟨tabOk, ⟨row_Find_ok, ideal_turn_set_1_ok, trivial⟩⟩ (by kernel_rfl) 24 Try.f80 (.n) Try.func80 Try.call80 rfl (by kernel_rfl) (by kernel_rfl) (by kernel_rfl) fun n x => by kernel_rfl

/-!   bursary ideal.turn .set -/
def ideal_turn_set (n : Nat) (q0_0 : List Bounds) (q0_1 : Int) (q0_2 : Int) (q0_3 : Int) (q0_4 : Int) (q0_5 : Int) (q0_6 : Int) (q0_7 : ByteArray) (q0_8 : Int) (q1 : List Row) : Option (Answer × (List Bounds) × Int × Int × Int × Int × Int × Int × ByteArray × Int × (List Row)) :=
  (ideal_turn_fits n (Key.mk q0_2 q0_3) q0_6 q0_0 q0_1 q0_2 q0_3 q0_4 q0_5 q0_6 q0_7 q0_8 q1).bind fun y1 =>
  cond (!y1.1)
    (some ((Answer.mk 152 ([] : List Row) 0), y1.2.1, y1.2.2.1, y1.2.2.2.1, y1.2.2.2.2.1, y1.2.2.2.2.2.1, y1.2.2.2.2.2.2.1, y1.2.2.2.2.2.2.2.1, y1.2.2.2.2.2.2.2.2.1, y1.2.2.2.2.2.2.2.2.2.1, y1.2.2.2.2.2.2.2.2.2.2))
    ((ideal_turn_found_f89 n (Key.mk y1.2.2.2.1 y1.2.2.2.2.1) y1.2.1 y1.2.2.1 y1.2.2.2.1 y1.2.2.2.2.1 y1.2.2.2.2.2.1 y1.2.2.2.2.2.2.1 y1.2.2.2.2.2.2.2.1 y1.2.2.2.2.2.2.2.2.1 y1.2.2.2.2.2.2.2.2.2.1 y1.2.2.2.2.2.2.2.2.2.2).bind fun y2 =>
    some (y2.1, y2.2.1, y2.2.2.1, y2.2.2.2.1, y2.2.2.2.2.1, y2.2.2.2.2.2.1, y2.2.2.2.2.2.2.1, y2.2.2.2.2.2.2.2.1, y2.2.2.2.2.2.2.2.2.1, y2.2.2.2.2.2.2.2.2.2.1, y2.2.2.2.2.2.2.2.2.2.2))
@[reducible] def ideal_turn_set_ct : Ct tab := ⟨71, [.one (.box 0 0)], [.box [.d (.sl (.st 0)), .own 1, .d (.int .i64), .d (.int .i64), .d (.int .u16), .d (.int .i64), .d (.int .u16), .d (.int .i64), .d .str, .d (.int .i64)], .row 67 (.st 3)], [.st 5], [(some 0, .box [.d (.sl (.st 0)), .own 1, .d (.int .i64), .d (.int .i64), .d (.int .u16), .d (.int .i64), .d (.int .u16), .d (.int .i64), .d .str, .d (.int .i64)]), (none, .row 67 (.st 3))], (Answer × (List Bounds) × Int × Int × Int × Int × Int × Int × ByteArray × Int × (List Row)), fun y => (y.1, y.2.1, y.2.2.1, y.2.2.2.1, y.2.2.2.2.1, y.2.2.2.2.2.1, y.2.2.2.2.2.2.1, y.2.2.2.2.2.2.2.1, y.2.2.2.2.2.2.2.2.1, y.2.2.2.2.2.2.2.2.2.1, y.2.2.2.2.2.2.2.2.2.2, ()), fun y => (y.1, y.2.1, y.2.2.1, y.2.2.2.1, y.2.2.2.2.1, y.2.2.2.2.2.1, y.2.2.2.2.2.2.1, y.2.2.2.2.2.2.2.1, y.2.2.2.2.2.2.2.2.1, y.2.2.2.2.2.2.2.2.2.1, y.2.2.2.2.2.2.2.2.2.2.1), fun _ => rfl, fun n x => ideal_turn_set n x.1 x.2.1 x.2.2.1 x.2.2.2.1 x.2.2.2.2.1 x.2.2.2.2.2.1 x.2.2.2.2.2.2.1 x.2.2.2.2.2.2.2.1 x.2.2.2.2.2.2.2.2.1 x.2.2.2.2.2.2.2.2.2.1⟩
theorem ideal_turn_set_ok : OkC Try.prog tab ideal_turn_set_ct := fn_ok (W := ⟨Try.prog, tab, tyOf, [ideal_turn_fits_ct, ideal_turn_found_f89_ct]⟩) ⟨tabOk, ⟨ideal_turn_fits_ok, ideal_turn_found_f89_ok, trivial⟩⟩ (by kernel_rfl) 25 Try.f71 (.n) Try.func71 Try.call71 rfl (by kernel_rfl) (by kernel_rfl) (by kernel_rfl) fun n x => by kernel_rfl

/-! bursary row.Plus -/
def row_Plus (n : Nat) (p0 : Int) (p1 : Int) : Option (Int × Bool) :=
  jn (fun (b1 : Bool) =>
      cond b1
        (some (0, false))
        (some ((IntKind.wrap .i64 (p0 + p1)), true))) fun k2 =>
  cond (!((decide ((IntKind.wrap .i64 (p0 + p1)) > p0)) == (decide (p1 > 0))))
    (k2 (p1 != 0))
    (k2 false)
@[reducible] def row_Plus_ct : Ct tab := ⟨98, [.one (.d (.int .i64)), .one (.d (.int .i64))], [], [.one (.d (.int .i64)), .one (.d .bool)], [], (Int × Bool), fun y => (y.1, y.2, ()), fun y => (y.1, y.2.1), fun _ => rfl, fun n x => row_Plus n x.1 x.2.1⟩
theorem row_Plus_ok : OkC Try.prog tab row_Plus_ct := fn_ok (W := ⟨Try.prog, tab, tyOf, []⟩) ⟨tabOk, trivial⟩ (by kernel_rfl) 21 Try.f98 (.n) Try.func98 Try.call98 rfl (by kernel_rfl) (by kernel_rfl) (by kernel_rfl) fun n x => by kernel_rfl

/-!   bursary ideal.turn .sum -/
def ideal_turn_sum (n : Nat) (p1 : Int) (p2 : Int) (q0_0 : List Bounds) (q0_1 : Int) (q0_2 : Int) (q0_3 : Int) (q0_4 : Int) (q0_5 : Int) (q0_6 : Int) (q0_7 : ByteArray) (q0_8 : Int) (q1 : List Row) : Option (Int × Bool × (List Bounds) × Int × Int × Int × Int × Int × Int × ByteArray × Int × (List Row)) :=
  (idx q1 p1).bind fun x1 =>
  (idx q1 p1).bind fun x2 =>
  (row_Plus n x2.val p2).bind fun y3 =>
  cond y3.2
    ((idx q1 p1).bind fun x4 =>
    (idx q1 p1).bind fun x5 =>
    (ideal_turn_fits n x5.key y3.1 q0_0 q0_1 q0_2 q0_3 q0_4 q0_5 q0_6 q0_7 q0_8 q1).bind fun y6 =>
    some (y3.1, y6.1, y6.2.1, y6.2.2.1, y6.2.2.2.1, y6.2.2.2.2.1, y6.2.2.2.2.2.1, y6.2.2.2.2.2.2.1, y6.2.2.2.2.2.2.2.1, y6.2.2.2.2.2.2.2.2.1, y6.2.2.2.2.2.2.2.2.2.1, y6.2.2.2.2.2.2.2.2.2.2))
    (some (y3.1, false, q0_0, q0_1, q0_2, q0_3, q0_4, q0_5, q0_6, q0_7, q0_8, q1))
@[reducible] def ideal_turn_sum_ct : Ct tab := ⟨91, [.one (.box 0 0), .one (.d (.int .i64)), .one (.d (.int .i64))], [.box [.d (.sl (.st 0)), .own 1, .d (.int .i64), .d (.int .i64), .d (.int .u16), .d (.int .i64), .d (.int .u16), .d (.int .i64), .d .str, .d (.int .i64)], .row 67 (.st 3)], [.one (.d (.int .i64)), .one (.d .bool)], [(some 0, .box [.d (.sl (.st 0)), .own 1, .d (.int .i64), .d (.int .i64), .d (.int .u16), .d (.int .i64), .d (.int .u16), .d (.int .i64), .d .str, .d (.int .i64)]), (none, .row 67 (.st 3))], (Int × Bool × (List Bounds) × Int × Int × Int × Int × Int × Int × ByteArray × Int × (List Row)), fun y => (y.1, y.2.1, y.2.2.1, y.2.2.2.1, y.2.2.2.2.1, y.2.2.2.2.2.1, y.2.2.2.2.2.2.1, y.2.2.2.2.2.2.2.1, y.2.2.2.2.2.2.2.2.1, y.2.2.2.2.2.2.2.2.2.1, y.2.2.2.2.2.2.2.2.2.2.1, y.2.2.2.2.2.2.2.2.2.2.2, ()), fun y => (y.1, y.2.1, y.2.2.1, y.2.2.2.1, y.2.2.2.2.1, y.2.2.2.2.2.1, y.2.2.2.2.2.2.1, y.2.2.2.2.2.2.2.1, y.2.2.2.2.2.2.2.2.1, y.2.2.2.2.2.2.2.2.2.1, y.2.2.2.2.2.2.2.2.2.2.1, y.2.2.2.2.2.2.2.2.2.2.2.1), fun _ => rfl, fun n x => ideal_turn_sum n x.1 x.2.1 x.2.2.1 x.2.2.2.1 x.2.2.2.2.1 x.2.2.2.2.2.1 x.2.2.2.2.2.2.1 x.2.2.2.2.2.2.2.1 x.2.2.2.2.2.2.2.2.1 x.2.2.2.2.2.2.2.2.2.1 x.2.2.2.2.2.2.2.2.2.2.1 x.2.2.2.2.2.2.2.2.2.2.2.1⟩
theorem ideal_turn_sum_ok : OkC Try.prog tab ideal_turn_sum_ct := fn_ok (W := ⟨Try.prog, tab, tyOf, [row_Plus_ct, ideal_turn_fits_ct]⟩) ⟨tabOk, ⟨row_Plus_ok, ideal_turn_fits_ok, trivial⟩⟩ (by kernel_rfl) 38 Try.f91 (.sq (.n) (.sq (.n) (.sq (.rg [1000000]) (.n)))) Try.func91 Try.call91 rfl (by kernel_rfl) (by kernel_rfl) (by kernel_rfl) fun n x => by kernel_rfl

/-!   bursary ideal.turn .add 1 -/
def ideal_turn_add_1 (n : Nat) (p0 : Int) (q1_0 : List Bounds) (q1_1 : Int) (q1_2 : Int) (q1_3 : Int) (q1_4 : Int) (q1_5 : Int) (q1_6 : Int) (q1_7 : ByteArray) (q1_8 : Int) (q2 : List Row) : Option (Answer × (List Bounds) × Int × Int × Int × Int × Int × Int × ByteArray × Int × (List Row)) :=
  (ideal_turn_sum n p0 q1_6 q1_0 q1_1 q1_2 q1_3 q1_4 q1_5 q1_6 q1_7 q1_8 q2).bind fun y1 =>
  cond (!y1.2.1)
    (some ((Answer.mk 152 ([] : List Row) 0), y1.2.2.1, y1.2.2.2.1, y1.2.2.2.2.1, y1.2.2.2.2.2.1, y1.2.2.2.2.2.2.1, y1.2.2.2.2.2.2.2.1, y1.2.2.2.2.2.2.2.2.1, y1.2.2.2.2.2.2.2.2.2.1, y1.2.2.2.2.2.2.2.2.2.2.1, y1.2.2.2.2.2.2.2.2.2.2.2))
    ((idx y1.2.2.2.2.2.2.2.2.2.2.2 p0).bind fun x2 =>
    (idx y1.2.2.2.2.2.2.2.2.2.2.2 p0).bind fun x3 =>
    (put y1.2.2.2.2.2.2.2.2.2.2.2 p0 (Row.mk x3.key y1.1 x3.note)).bind fun l4 =>
    some ((Answer.mk 0 ([] : List Row) 0), y1.2.2.1, y1.2.2.2.1, y1.2.2.2.2.1, y1.2.2.2.2.2.1, y1.2.2.2.2.2.2.1, y1.2.2.2.2.2.2.2.1, y1.2.2.2.2.2.2.2.2.1, y1.2.2.2.2.2.2.2.2.2.1, y1.2.2.2.2.2.2.2.2.2.2.1, l4))
@[reducible] def ideal_turn_add_1_ct : Ct tab := ⟨90, [.one (.d (.int .i64)), .one (.box 0 0)], [.box [.box 1 0], .box [.d (.sl (.st 0)), .own 2, .d (.int .i64), .d (.int .i64), .d (.int .u16), .d (.int .i64), .d (.int .u16), .d (.int .i64), .d .str, .d (.int .i64)], .row 67 (.st 3)], [.st 5], [(some 0, .box [.box 1 0]), (some 1, .box [.d (.sl (.st 0)), .own 2, .d (.int .i64), .d (.int .i64), .d (.int .u16), .d (.int .i64), .d (.int .u16), .d (.int .i64), .d .str, .d (.int .i64)]), (none, .row 67 (.st 3))], (Answer × (List Bounds) × Int × Int × Int × Int × Int × Int × ByteArray × Int × (List Row)), fun y => (y.1, y.2.1, y.2.2.1, y.2.2.2.1, y.2.2.2.2.1, y.2.2.2.2.2.1, y.2.2.2.2.2.2.1, y.2.2.2.2.2.2.2.1, y.2.2.2.2.2.2.2.2.1, y.2.2.2.2.2.2.2.2.2.1, y.2.2.2.2.2.2.2.2.2.2, ()), fun y => (y.1, y.2.1, y.2.2.1, y.2.2.2.1, y.2.2.2.2.1, y.2.2.2.2.2.1, y.2.2.2.2.2.2.1, y.2.2.2.2.2.2.2.1, y.2.2.2.2.2.2.2.2.1, y.2.2.2.2.2.2.2.2.2.1, y.2.2.2.2.2.2.2.2.2.2.1), fun _ => rfl, fun n x => ideal_turn_add_1 n x.1 x.2.1 x.2.2.1 x.2.2.2.1 x.2.2.2.2.1 x.2.2.2.2.2.1 x.2.2.2.2.2.2.1 x.2.2.2.2.2.2.2.1 x.2.2.2.2.2.2.2.2.1 x.2.2.2.2.2.2.2.2.2.1 x.2.2.2.2.2.2.2.2.2.2.1⟩
theorem ideal_turn_add_1_ok : OkC Try.prog tab ideal_turn_add_1_ct := fn_ok (W := ⟨Try.prog, tab, tyOf, [ideal_turn_sum_ct]⟩) ⟨tabOk, ⟨ideal_turn_sum_ok, trivial⟩⟩ (by kernel_rfl) 29 Try.f90 (.n) Try.func90 Try.call90 rfl (by kernel_rfl) (by kernel_rfl) (by kernel_rfl) fun n x => by kernel_rfl

/-!   bursary ideal.turn .found -/
def ideal_turn_found_f90 (n : Nat) (p1 : Key) (q0_0 : List Bounds) (q0_1 : Int) (q0_2 : Int) (q0_3 : Int) (q0_4 : Int) (q0_5 : Int) (q0_6 : Int) (q0_7 : ByteArray) (q0_8 : Int) (q1 : List Row) : Option (Answer × (List Bounds) × Int × Int × Int × Int × Int × Int × ByteArray × Int × (List Row)) :=
  (row_Find n q1 p1).bind fun y1 =>
  cond (!y1.2)
    (some ((Answer.mk 4 ([] : List Row) 0), q0_0, q0_1, q0_2, q0_3, q0_4, q0_5, q0_6, q0_7, q0_8, q1))
    ((ideal_turn_add_1 n y1.1 q0_0 q0_1 q0_2 q0_3 q0_4 q0_5 q0_6 q0_7 q0_8 q1).bind fun y2 =>
    some (y2.1, y2.2.1, y2.2.2.1, y2.2.2.2.1, y2.2.2.2.2.1, y2.2.2.2.2.2.1, y2.2.2.2.2.2.2.1, y2.2.2.2.2.2.2.2.1, y2.2.2.2.2.2.2.2.2.1, y2.2.2.2.2.2.2.2.2.2.1, y2.2.2.2.2.2.2.2.2.2.2))
@[reducible] def ideal_turn_found_f90_ct : Ct tab := ⟨80, [.one (.box 0 0), .st 2, .one (.fn 90 [.bx 2])], [.box [.d (.sl (.st 0)), .own 1, .d (.int .i64), .d (.int .i64), .d (.int .u16), .d (.int .i64), .d (.int .u16), .d (.int .i64), .d .str, .d (.int .i64)], .row 67 (.st 3), .box [.box 0 0]], [.st 5], [(some 0, .box [.d (.sl (.st 0)), .own 2, .d (.int .i64), .d (.int .i64), .d (.int .u16), .d (.int .i64), .d (.int .u16), .d (.int .i64), .d .str, .d (.int .i64)]), (some 2, .box [.box 0 0]), (none, .row 67 (.st 3))], (Answer × (List Bounds) × Int × Int × Int × Int × Int × Int × ByteArray × Int × (List Row)), fun y => (y.1, y.2.1, y.2.2.1, y.2.2.2.1, y.2.2.2.2.1, y.2.2.2.2.2.1, y.2.2.2.2.2.2.1, y.2.2.2.2.2.2.2.1, y.2.2.2.2.2.2.2.2.1, y.2.2.2.2.2.2.2.2.2.1, y.2.2.2.2.2.2.2.2.2.2, ()), fun y => (y.1, y.2.1, y.2.2.1, y.2.2.2.1, y.2.2.2.2.1, y.2.2.2.2.2.1, y.2.2.2.2.2.2.1, y.2.2.2.2.2.2.2.1, y.2.2.2.2.2.2.2.2.1, y.2.2.2.2.2.2.2.2.2.1, y.2.2.2.2.2.2.2.2.2.2.1), fun _ => rfl, fun n x => ideal_turn_found_f90 n x.1 x.2.1 x.2.2.1 x.2.2.2.1 x.2.2.2.2.1 x.2.2.2.2.2.1 x.2.2.2.2.2.2.1 x.2.2.2.2.2.2.2.1 x.2.2.2.2.2.2.2.2.1 x.2.2.2.2.2.2.2.2.2.1 x.2.2.2.2.2.2.2.2.2.2.1⟩
theorem ideal_turn_found_f90_ok : OkC Try.prog tab ideal_turn_found_f90_ct := fn_ok (W := ⟨Try.prog, tab, tyOf, [row_Find_ct, ideal_turn_add_1_ct]⟩) ⟨tabOk, ⟨row_Find_ok, ideal_turn_add_1_ok, trivial⟩⟩ (by kernel_rfl) 24 Try.f80 (.n) Try.func80 Try.call80 rfl (by kernel_rfl) (by kernel_rfl) (by kernel_rfl) fun n x => by kernel_rfl

/-!   bursary ideal.turn .add -/
def ideal_turn_add (n : Nat) (q0_0 : List Bounds) (q0_1 : Int) (q0_2 : Int) (q0_3 : Int) (q0_4 : Int) (q0_5 : Int) (q0_6 : Int) (q0_7 : ByteArray) (q0_8 : Int) (q1 : List Row) : Option (Answer × (List Bounds) × Int × Int × Int × Int × Int × Int × ByteArray × Int × (List Row)) :=
  (ideal_turn_found_f90 n (Key.mk q0_2 q0_3) q0_0 q0_1 q0_2 q0_3 q0_4 q0_5 q0_6 q0_7 q0_8 q1).bind fun y1 =>
  some (y1.1, y1.2.1, y1.2.2.1, y1.2.2.2.1, y1.2.2.2.2.1, y1.2.2.2.2.2.1, y1.2.2.2.2.2.2.1, y1.2.2.2.2.2.2.2.1, y1.2.2.2.2.2.2.2.2.1, y1.2.2.2.2.2.2.2.2.2.1, y1.2.2.2.2.2.2.2.2.2.2)
@[reducible] def ideal_turn_add_ct : Ct tab := ⟨72, [.one (.box 0 0)], [.box [.d (.sl (.st 0)), .own 1, .d (.int .i64), .d (.int .i64), .d (.int .u16), .d (.int .i64), .d (.int .u16), .d (.int .i64), .d .str, .d (.int .i64)], .row 67 (.st 3)], [.st 5], [(some 0, .box [.d (.sl (.st 0)), .own 1, .d (.int .i64), .d (.int .i64), .d (.int .u16), .d (.int .i64), .d (.int .u16), .d (.int .i64), .d .str, .d (.int .i64)]), (none, .row 67 (.st 3))], (Answer × (List Bounds) × Int × Int × Int × Int × Int × Int × ByteArray × Int × (List Row)), fun y => (y.1, y.2.1, y.2.2.1, y.2.2.2.1, y.2.2.2.2.1, y.2.2.2.2.2.1, y.2.2.2.2.2.2.1, y.2.2.2.2.2.2.2.1, y.2.2.2.2.2.2.2.2.1, y.2.2.2.2.2.2.2.2.2.1, y.2.2.2.2.2.2.2.2.2.2, ()), fun y => (y.1, y.2.1, y.2.2.1, y.2.2.2.1, y.2.2.2.2.1, y.2.2.2.2.2.1, y.2.2.2.2.2.2.1, y.2.2.2.2.2.2.2.1, y.2.2.2.2.2.2.2.2.1, y.2.2.2.2.2.2.2.2.2.1, y.2.2.2.2.2.2.2.2.2.2.1), fun _ => rfl, fun n x => ideal_turn_add n x.1 x.2.1 x.2.2.1 x.2.2.2.1 x.2.2.2.2.1 x.2.2.2.2.2.1 x.2.2.2.2.2.2.1 x.2.2.2.2.2.2.2.1 x.2.2.2.2.2.2.2.2.1 x.2.2.2.2.2.2.2.2.2.1⟩
theorem ideal_turn_add_ok : OkC Try.prog tab ideal_turn_add_ct := fn_ok (W := ⟨Try.prog, tab, tyOf, [ideal_turn_found_f90_ct]⟩) ⟨tabOk, ⟨ideal_turn_found_f90_ok, trivial⟩⟩ (by kernel_rfl) 11 Try.f72 (.n) Try.func72 Try.call72 rfl (by kernel_rfl) (by kernel_rfl) (by kernel_rfl) fun n x => by kernel_rfl

/-!   bursary ideal.turn .move 1 1 -/
def ideal_turn_move_1_1 (n : Nat) (p0 : Int) (q1_0 : List Bounds) (q1_1 : Int) (q1_2 : Int) (q1_3 : Int) (q1_4 : Int) (q1_5 : Int) (q1_6 : Int) (q1_7 : ByteArray) (q1_8 : Int) (q2 : List Row) (q3 : Int) : Option (Answer × (List Bounds) × Int × Int × Int × Int × Int × Int × ByteArray × Int × Int × (List Row)) :=
  (ideal_turn_sum n q3 (IntKind.wrap .i64 (0 - q1_6)) q1_0 q1_1 q1_2 q1_3 q1_4 q1_5 q1_6 q1_7 q1_8 q2).bind fun y1 =>
  (ideal_turn_sum n p0 y1.2.2.2.2.2.2.2.2.1 y1.2.2.1 y1.2.2.2.1 y1.2.2.2.2.1 y1.2.2.2.2.2.1 y1.2.2.2.2.2.2.1 y1.2.2.2.2.2.2.2.1 y1.2.2.2.2.2.2.2.2.1 y1.2.2.2.2.2.2.2.2.2.1 y1.2.2.2.2.2.2.2.2.2.2.1 y1.2.2.2.2.2.2.2.2.2.2.2).bind fun y2 =>
  jn (fun (b3 : Bool) =>
      cond b3
        (some ((Answer.mk 152 ([] : List Row) 0), y2.2.2.1, y2.2.2.2.1, y2.2.2.2.2.1, y2.2.2.2.2.2.1, y2.2.2.2.2.2.2.1, y2.2.2.2.2.2.2.2.1, y2.2.2.2.2.2.2.2.2.1, y2.2.2.2.2.2.2.2.2.2.1, y2.2.2.2.2.2.2.2.2.2.2.1, q3, y2.2.2.2.2.2.2.2.2.2.2.2))
        ((idx y2.2.2.2.2.2.2.2.2.2.2.2 q3).bind fun x5 =>
        (idx y2.2.2.2.2.2.2.2.2.2.2.2 q3).bind fun x6 =>
        (put y2.2.2.2.2.2.2.2.2.2.2.2 q3 (Row.mk x6.key y1.1 x6.note)).bind fun l7 =>
        (idx l7 p0).bind fun x8 =>
        (idx l7 p0).bind fun x9 =>
        (put l7 p0 (Row.mk x9.key y2.1 x9.note)).bind fun l10 =>
        some ((Answer.mk 0 ([] : List Row) 0), y2.2.2.1, y2.2.2.2.1, y2.2.2.2.2.1, y2.2.2.2.2.2.1, y2.2.2.2.2.2.2.1, y2.2.2.2.2.2.2.2.1, y2.2.2.2.2.2.2.2.2.1, y2.2.2.2.2.2.2.2.2.2.1, y2.2.2.2.2.2.2.2.2.2.2.1, q3, l10))) fun k4 =>
  cond (!y1.2.1)
    (k4 true)
    (k4 (!y2.2.1))
@[reducible] def ideal_turn_move_1_1_ct : Ct tab := ⟨93, [.one (.d (.int .i64)), .one (.box 0 0), .one (.box 3 0)], [.box [.box 1 0], .box [.d (.sl (.st 0)), .own 2, .d (.int .i64), .d (.int .i64), .d (.int .u16), .d (.int .i64), .d (.int .u16), .d (.int .i64), .d .str, .d (.int .i64)], .row 67 (.st 3), .box [.d (.int .i64)]], [.st 5], [(some 0, .box [.box 1 0]), (some 1, .box [.d (.sl (.st 0)), .own 3, .d (.int .i64), .d (.int .i64), .d (.int .u16), .d (.int .i64), .d (.int .u16), .d (.int .i64), .d .str, .d (.int .i64)]), (some 3, .box [.d (.int .i64)]), (none, .row 67 (.st 3))], (Answer × (List Bounds) × Int × Int × Int × Int × Int × Int × ByteArray × Int × Int × (List Row)), fun y => (y.1, y.2.1, y.2.2.1, y.2.2.2.1, y.2.2.2.2.1, y.2.2.2.2.2.1, y.2.2.2.2.2.2.1, y.2.2.2.2.2.2.2.1, y.2.2.2.2.2.2.2.2.1, y.2.2.2.2.2.2.2.2.2.1, y.2.2.2.2.2.2.2.2.2.2.1, y.2.2.2.2.2.2.2.2.2.2.2, ()), fun y => (y.1, y.2.1, y.2.2.1, y.2.2.2.1, y.2.2.2.2.1, y.2.2.2.2.2.1, y.2.2.2.2.2.2.1, y.2.2.2.2.2.2.2.1, y.2.2.2.2.2.2.2.2.1, y.2.2.2.2.2.2.2.2.2.1, y.2.2.2.2.2.2.2.2.2.2.1, y.2.2.2.2.2.2.2.2.2.2.2.1), fun _ => rfl, fun n x => ideal_turn_move_1_1 n x.1 x.2.1 x.2.2.1 x.2.2.2.1 x.2.2.2.2.1 x.2.2.2.2.2.1 x.2.2.2.2.2.2.1 x.2.2.2.2.2.2.2.1 x.2.2.2.2.2.2.2.2.1 x.2.2.2.2.2.2.2.2.2.1 x.2.2.2.2.2.2.2.2.2.2.1 x.2.2.2.2.2.2.2.2.2.2.2.1⟩
theorem ideal_turn_move_1_1_ok : OkC Try.prog tab ideal_turn_move_1_1_ct := fn_ok (W := ⟨Try.prog, tab, tyOf, [ideal_turn_sum_ct]⟩) ⟨tabOk, ⟨ideal_turn_sum_ok, trivial⟩⟩ (by kernel_rfl) 56 Try.f93 (.n) Try.func93 Try.call93 rfl (by kernel_rfl) (by kernel_rfl) (by kernel_rfl) fun n x => by kernel_rfl

/-!   bursary ideal.turn .found -/
def ideal_turn_found_f93 (n : Nat) (p1 : Key) (q0_0 : List Bounds) (q0_1 : Int) (q0_2 : Int) (q0_3 : Int) (q0_4 : Int) (q0_5 : Int) (q0_6 : Int) (q0_7 : ByteArray) (q0_8 : Int) (q1 : List Row) (q3 : Int) : Option (Answer × (List Bounds) × Int × Int × Int × Int × Int × Int × ByteArray × Int × Int × (List Row)) :=
  (row_Find n q1 p1).bind fun y1 =>
  cond (!y1.2)
    (some ((Answer.mk 4 ([] : List Row) 0), q0_0, q0_1, q0_2, q0_3, q0_4, q0_5, q0_6, q0_7, q0_8, q3, q1))
    ((ideal_turn_move_1_1 n y1.1 q0_0 q0_1 q0_2 q0_3 q0_4 q0_5 q0_6 q0_7 q0_8 q1 q3).bind fun y2 =>
    some (y2.1, y2.2.1, y2.2.2.1, y2.2.2.2.1, y2.2.2.2.2.1, y2.2.2.2.2.2.1, y2.2.2.2.2.2.2.1, y2.2.2.2.2.2.2.2.1, y2.2.2.2.2.2.2.2.2.1, y2.2.2.2.2.2.2.2.2.2.1, y2.2.2.2.2.2.2.2.2.2.2.1, y2.2.2.2.2.2.2.2.2.2.2.2))
@[reducible] def ideal_turn_found_f93_ct : Ct tab := ⟨80, [.one (.box 0 0), .st 2, .one (.fn 93 [.bx 2, .bx 3])], [.box [.d (.sl (.st 0)), .own 1, .d (.int .i64), .d (.int .i64), .d (.int .u16), .d (.int .i64), .d (.int .u16), .d (.int .i64), .d .str, .d (.int .i64)], .row 67 (.st 3), .box [.box 0 0], .box [.d (.int .i64)]], [.st 5], [(some 0, .box [.d (.sl (.st 0)), .own 3, .d (.int .i64), .d (.int .i64), .d (.int .u16), .d (.int .i64), .d (.int .u16), .d (.int .i64), .d .str, .d (.int .i64)]), (some 2, .box [.box 0 0]), (some 3, .box [.d (.int .i64)]), (none, .row 67 (.st 3))], (Answer × (List Bounds) × Int × Int × Int × Int × Int × Int × ByteArray × Int × Int × (List Row)), fun y => (y.1, y.2.1, y.2.2.1, y.2.2.2.1, y.2.2.2.2.1, y.2.2.2.2.2.1, y.2.2.2.2.2.2.1, y.2.2.2.2.2.2.2.1, y.2.2.2.2.2.2.2.2.1, y.2.2.2.2.2.2.2.2.2.1, y.2.2.2.2.2.2.2.2.2.2.1, y.2.2.2.2.2.2.2.2.2.2.2, ()), fun y => (y.1, y.2.1, y.2.2.1, y.2.2.2.1, y.2.2.2.2.1, y.2.2.2.2.2.1, y.2.2.2.2.2.2.1, y.2.2.2.2.2.2.2.1, y.2.2.2.2.2.2.2.2.1, y.2.2.2.2.2.2.2.2.2.1, y.2.2.2.2.2.2.2.2.2.2.1, y.2.2.2.2.2.2.2.2.2.2.2.1), fun _ => rfl, fun n x => ideal_turn_found_f93 n x.1 x.2.1 x.2.2.1 x.2.2.2.1 x.2.2.2.2.1 x.2.2.2.2.2.1 x.2.2.2.2.2.2.1 x.2.2.2.2.2.2.2.1 x.2.2.2.2.2.2.2.2.1 x.2.2.2.2.2.2.2.2.2.1 x.2.2.2.2.2.2.2.2.2.2.1 x.2.2.2.2.2.2.2.2.2.2.2.1⟩
theorem ideal_turn_found_f93_ok : OkC Try.prog tab ideal_turn_found_f93_ct := fn_ok (W := ⟨Try.prog, tab, tyOf, [row_Find_ct, ideal_turn_move_1_1_ct]⟩) ⟨tabOk, ⟨row_Find_ok, ideal_turn_move_1_1_ok, trivial⟩⟩ (by kernel_rfl) 24 Try.f80 (.n) Try.func80 Try.call80 rfl (by kernel_rfl) (by kernel_rfl) (by kernel_rfl) fun n x => by kernel_rfl

/-!   bursary ideal.turn .move 1 -/
def ideal_turn_move_1 (n : Nat) (p0 : Int) (q1_0 : List Bounds) (q1_1 : Int) (q1_2 : Int) (q1_3 : Int) (q1_4 : Int) (q1_5 : Int) (q1_6 : Int) (q1_7 : ByteArray) (q1_8 : Int) (q2 : List Row) : Option (Answer × (List Bounds) × Int × Int × Int × Int × Int × Int × ByteArray × Int × (List Row)) :=
  (ideal_turn_found_f93 n (Key.mk q1_4 q1_5) q1_0 q1_1 q1_2 q1_3 q1_4 q1_5 q1_6 q1_7 q1_8 q2 p0).bind fun y1 =>
  some (y1.1, y1.2.1, y1.2.2.1, y1.2.2.2.1, y1.2.2.2.2.1, y1.2.2.2.2.2.1, y1.2.2.2.2.2.2.1, y1.2.2.2.2.2.2.2.1, y1.2.2.2.2.2.2.2.2.1, y1.2.2.2.2.2.2.2.2.2.1, y1.2.2.2.2.2.2.2.2.2.2.2)
@[reducible] def ideal_turn_move_1_ct : Ct tab := ⟨92, [.one (.d (.int .i64)), .one (.box 0 0)], [.box [.box 1 0], .box [.d (.sl (.st 0)), .own 2, .d (.int .i64), .d (.int .i64), .d (.int .u16), .d (.int .i64), .d (.int .u16), .d (.int .i64), .d .str, .d (.int .i64)], .row 67 (.st 3)], [.st 5], [(some 0, .box [.box 1 0]), (some 1, .box [.d (.sl (.st 0)), .own 2, .d (.int .i64), .d (.int .i64), .d (.int .u16), .d (.int .i64), .d (.int .u16), .d (.int .i64), .d .str, .d (.int .i64)]), (none, .row 67 (.st 3))], (Answer × (List Bounds) × Int × Int × Int × Int × Int × Int × ByteArray × Int × (List Row)), fun y => (y.1, y.2.1, y.2.2.1, y.2.2.2.1, y.2.2.2.2.1, y.2.2.2.2.2.1, y.2.2.2.2.2.2.1, y.2.2.2.2.2.2.2.1, y.2.2.2.2.2.2.2.2.1, y.2.2.2.2.2.2.2.2.2.1, y.2.2.2.2.2.2.2.2.2.2, ()), fun y => (y.1, y.2.1, y.2.2.1, y.2.2.2.1, y.2.2.2.2.1, y.2.2.2.2.2.1, y.2.2.2.2.2.2.1, y.2.2.2.2.2.2.2.1, y.2.2.2.2.2.2.2.2.1, y.2.2.2.2.2.2.2.2.2.1, y.2.2.2.2.2.2.2.2.2.2.1), fun _ => rfl, fun n x => ideal_turn_move_1 n x.1 x.2.1 x.2.2.1 x.2.2.2.1 x.2.2.2.2.1 x.2.2.2.2.2.1 x.2.2.2.2.2.2.1 x.2.2.2.2.2.2.2.1 x.2.2.2.2.2.2.2.2.1 x.2.2.2.2.2.2.2.2.2.1 x.2.2.2.2.2.2.2.2.2.2.1⟩
theorem ideal_turn_move_1_ok : OkC Try.prog tab ideal_turn_move_1_ct := fn_ok (W := ⟨Try.prog, tab, tyOf, [ideal_turn_found_f93_ct]⟩) ⟨tabOk, ⟨ideal_turn_found_f93_ok, trivial⟩⟩ (by kernel_rfl) 12 Try.f92 (.n) Try.func92 Try.call92 rfl (by kernel_rfl) (by kernel_rfl) (by kernel_rfl) fun n x => by kernel_rfl

/-!   bursary ideal.turn .found -/
def ideal_turn_found_f92 (n : Nat) (p1 : Key) (q0_0 : List Bounds) (q0_1 : Int) (q0_2 : Int) (q0_3 : Int) (q0_4 : Int) (q0_5 : Int) (q0_6 : Int) (q0_7 : ByteArray) (q0_8 : Int) (q1 : List Row) : Option (Answer × (List Bounds) × Int × Int × Int × Int × Int × Int × ByteArray × Int × (List Row)) :=
  (row_Find n q1 p1).bind fun y1 =>
  cond (!y1.2)
    (some ((Answer.mk 4 ([] : List Row) 0), q0_0, q0_1, q0_2, q0_3, q0_4, q0_5, q0_6, q0_7, q0_8, q1))
    ((ideal_turn_move_1 n y1.1 q0_0 q0_1 q0_2 q0_3 q0_4 q0_5 q0_6 q0_7 q0_8 q1).bind fun y2 =>
    some (y2.1, y2.2.1, y2.2.2.1, y2.2.2.2.1, y2.2.2.2.2.1, y2.2.2.2.2.2.1, y2.2.2.2.2.2.2.1, y2.2.2.2.2.2.2.2.1, y2.2.2.2.2.2.2.2.2.1, y2.2.2.2.2.2.2.2.2.2.1, y2.2.2.2.2.2.2.2.2.2.2))
@[reducible] def ideal_turn_found_f92_ct : Ct tab := ⟨80, [.one (.box 0 0), .st 2, .one (.fn 92 [.bx 2])], [.box [.d (.sl (.st 0)), .own 1, .d (.int .i64), .d (.int .i64), .d (.int .u16), .d (.int .i64), .d (.int .u16), .d (.int .i64), .d .str, .d (.int .i64)], .row 67 (.st 3), .box [.box 0 0]], [.st 5], [(some 0, .box [.d (.sl (.st 0)), .own 2, .d (.int .i64), .d (.int .i64), .d (.int .u16), .d (.int .i64), .d (.int .u16), .d (.int .i64), .d .str, .d (.int .i64)]), (some 2, .box [.box 0 0]), (none, .row 67 (.st 3))], (Answer × (List Bounds) × Int × Int × Int × Int × Int × Int × ByteArray × Int × (List Row)), fun y => (y.1, y.2.1, y.2.2.1, y.2.2.2.1, y.2.2.2.2.1, y.2.2.2.2.2.1, y.2.2.2.2.2.2.1, y.2.2.2.2.2.2.2.1, y.2.2.2.2.2.2.2.2.1, y.2.2.2.2.2.2.2.2.2.1, y.2.2.2.2.2.2.2.2.2.2, ()), fun y => (y.1, y.2.1, y.2.2.1, y.2.2.2.1, y.2.2.2.2.1, y.2.2.2.2.2.1, y.2.2.2.2.2.2.1, y.2.2.2.2.2.2.2.1, y.2.2.2.2.2.2.2.2.1, y.2.2.2.2.2.2.2.2.2.1, y.2.2.2.2.2.2.2.2.2.2.1), fun _ => rfl, fun n x => ideal_turn_found_f92 n x.1 x.2.1 x.2.2.1 x.2.2.2.1 x.2.2.2.2.1 x.2.2.2.2.2.1 x.2.2.2.2.2.2.1 x.2.2.2.2.2.2.2.1 x.2.2.2.2.2.2.2.2.1 x.2.2.2.2.2.2.2.2.2.1 x.2.2.2.2.2.2.2.2.2.2.1⟩
theorem ideal_turn_found_f92_ok : OkC Try.prog tab ideal_turn_found_f92_ct := fn_ok (W := ⟨Try.prog, tab, tyOf, [row_Find_ct, ideal_turn_move_1_ct]⟩) ⟨tabOk, ⟨row_Find_ok, ideal_turn_move_1_ok, trivial⟩⟩ (by kernel_rfl) 24 Try.f80 (.n) Try.func80 Try.call80 rfl (by kernel_rfl) (by kernel_rfl) (by kernel_rfl) fun n x => by kernel_rfl

/-!   bursary ideal.turn .move -/
def ideal_turn_move (n : Nat) (q0_0 : List Bounds) (q0_1 : Int) (q0_2 : Int) (q0_3 : Int) (q0_4 : Int) (q0_5 : Int) (q0_6 : Int) (q0_7 : ByteArray) (q0_8 : Int) (q1 : List Row) : Option (Answer × (List Bounds) × Int × Int × Int × Int × Int × Int × ByteArray × Int × (List Row)) :=
  (ideal_turn_found_f92 n (Key.mk q0_2 q0_3) q0_0 q0_1 q0_2 q0_3 q0_4 q0_5 q0_6 q0_7 q0_8 q1).bind fun y1 =>
  some (y1.1, y1.2.1, y1.2.2.1, y1.2.2.2.1, y1.2.2.2.2.1, y1.2.2.2.2.2.1, y1.2.2.2.2.2.2.1, y1.2.2.2.2.2.2.2.1, y1.2.2.2.2.2.2.2.2.1, y1.2.2.2.2.2.2.2.2.2.1, y1.2.2.2.2.2.2.2.2.2.2)
@[reducible] def ideal_turn_move_ct : Ct tab := ⟨73, [.one (.box 0 0)], [.box [.d (.sl (.st 0)), .own 1, .d (.int .i64), .d (.int .i64), .d (.int .u16), .d (.int .i64), .d (.int .u16), .d (.int .i64), .d .str, .d (.int .i64)], .row 67 (.st 3)], [.st 5], [(some 0, .box [.d (.sl (.st 0)), .own 1, .d (.int .i64), .d (.int .i64), .d (.int .u16), .d (.int .i64), .d (.int .u16), .d (.int .i64), .d .str, .d (.int .i64)]), (none, .row 67 (.st 3))], (Answer × (List Bounds) × Int × Int × Int × Int × Int × Int × ByteArray × Int × (List Row)), fun y => (y.1, y.2.1, y.2.2.1, y.2.2.2.1, y.2.2.2.2.1, y.2.2.2.2.2.1, y.2.2.2.2.2.2.1, y.2.2.2.2.2.2.2.1, y.2.2.2.2.2.2.2.2.1, y.2.2.2.2.2.2.2.2.2.1, y.2.2.2.2.2.2.2.2.2.2, ()), fun y => (y.1, y.2.1, y.2.2.1, y.2.2.2.1, y.2.2.2.2.1, y.2.2.2.2.2.1, y.2.2.2.2.2.2.1, y.2.2.2.2.2.2.2.1, y.2.2.2.2.2.2.2.2.1, y.2.2.2.2.2.2.2.2.2.1, y.2.2.2.2.2.2.2.2.2.2.1), fun _ => rfl, fun n x => ideal_turn_move n x.1 x.2.1 x.2.2.1 x.2.2.2.1 x.2.2.2.2.1 x.2.2.2.2.2.1 x.2.2.2.2.2.2.1 x.2.2.2.2.2.2.2.1 x.2.2.2.2.2.2.2.2.1 x.2.2.2.2.2.2.2.2.2.1⟩
theorem ideal_turn_move_ok : OkC Try.prog tab ideal_turn_move_ct := fn_ok (W := ⟨Try.prog, tab, tyOf, [ideal_turn_found_f92_ct]⟩) ⟨tabOk, ⟨ideal_turn_found_f92_ok, trivial⟩⟩ (by kernel_rfl) 11 Try.f73 (.n) Try.func73 Try.call73 rfl (by kernel_rfl) (by kernel_rfl) (by kernel_rfl) fun n x => by kernel_rfl

/-! bursary ideal.does -/
def ideal_does (n : Nat) (p0 : Schema) (p1 : List Row) (p2 : Request) : Option (Answer × (List Row)) :=
  (slices_Clone_Row n p1).bind fun y1 =>
  cond (decide (p2.kind = 1))
    ((ideal_turn_read n p0.tables p2.kind p2.key.table p2.key.id p2.to.table p2.to.id p2.val p2.note p2.n y1).bind fun y2 =>
    some (y2.1, y2.2.2.2.2.2.2.2.2.2.2))
    (cond (decide (p2.kind = 2))
      ((ideal_turn_scan n p0.tables p2.kind p2.key.table p2.key.id p2.to.table p2.to.id p2.val p2.note p2.n y1).bind fun y3 =>
      some (y3.1, y3.2.2.2.2.2.2.2.2.2.2))
      (cond (decide (p2.kind = 3))
        ((ideal_turn_insert n p0.tables p2.kind p2.key.table p2.key.id p2.to.table p2.to.id p2.val p2.note p2.n y1).bind fun y4 =>
        some (y4.1, y4.2.2.2.2.2.2.2.2.2.2))
        (cond (decide (p2.kind = 4))
          ((ideal_turn_remove n p0.tables p2.kind p2.key.table p2.key.id p2.to.table p2.to.id p2.val p2.note p2.n y1).bind fun y5 =>
          some (y5.1, y5.2.2.2.2.2.2.2.2.2.2))
          (cond (decide (p2.kind = 5))
            ((ideal_turn_note n p0.tables p2.kind p2.key.table p2.key.id p2.to.table p2.to.id p2.val p2.note p2.n y1).bind fun y6 =>
            some (y6.1, y6.2.2.2.2.2.2.2.2.2.2))
            (cond (decide (p2.kind = 6))
              ((ideal_turn_set n p0.tables p2.kind p2.key.table p2.key.id p2.to.table p2.to.id p2.val p2.note p2.n y1).bind fun y7 =>
              some (y7.1, y7.2.2.2.2.2.2.2.2.2.2))
              (cond (decide (p2.kind = 7))
                ((ideal_turn_add n p0.tables p2.kind p2.key.table p2.key.id p2.to.table p2.to.id p2.val p2.note p2.n y1).bind fun y8 =>
                some (y8.1, y8.2.2.2.2.2.2.2.2.2.2))
                (cond (decide (p2.kind = 8))
                  ((ideal_turn_move n p0.tables p2.kind p2.key.table p2.key.id p2.to.table p2.to.id p2.val p2.note p2.n y1).bind fun y9 =>
                  some (y9.1, y9.2.2.2.2.2.2.2.2.2.2))
                  (none))))))))
@[reducible] def ideal_does_ct : Ct tab := ⟨52, [.st 1, .one (.d (.sl (.st 3))), .st 4], [], [.one (.own 0), .st 5], [(none, .row 67 (.st 3))], (Answer × (List Row)), fun y => (y.1, y.2, ()), fun y => (y.1, y.2.1), fun _ => rfl, fun n x => ideal_does n x.1 x.2.1 x.2.2.1⟩
theorem ideal_does_ok : OkC Try.prog tab ideal_does_ct := fn_ok (W := ⟨Try.prog, tab, tyOf, [slices_Clone_Row_ct, ideal_turn_read_ct, ideal_turn_scan_ct, ideal_turn_insert_ct, ideal_turn_remove_ct, ideal_turn_note_ct, ideal_turn_set_ct, ideal_turn_add_ct, ideal_turn_move_ct]⟩) ⟨tabOk, ⟨slices_Clone_Row_ok, ideal_turn_read_ok, ideal_turn_scan_ok, ideal_turn_insert_ok, ideal_turn_remove_ok, ideal_turn_note_ok, ideal_turn_set_ok, ideal_turn_add_ok, ideal_turn_move_ok, trivial⟩⟩ (by kernel_rfl) 45 Try.f52 (.n) Try.func52 Try.call52 rfl (by kernel_rfl) (by kernel_rfl) (by kernel_rfl) fun n x => by kernel_rfl

/-! bursary ideal.Step -/
def ideal_Step (n : Nat) (p0 : Serial) (p1 : Request) : Option (Serial × Answer) :=
  (ideal_Check n p0).bind fun y1 =>
  cond (y1 != 0)
    (some (p0, (Answer.mk 251 ([] : List Row) 0)))
    (cond p0.over
      (some (p0, (Answer.mk 252 ([] : List Row) 0)))
      ((ideal_CheckRequest n p0.schema p1).bind fun y2 =>
      cond (y2 != 0)
        (some (p0, (Answer.mk 250 ([] : List Row) 0)))
        (cond (decide (p1.kind > 8))
          ((ideal_step n p0 p1).bind fun y3 =>
          some (y3.1, y3.2))
          ((ideal_does n p0.schema p0.rows p1).bind fun y4 =>
          some ((Serial.mk p0.schema y4.2 p0.begun p0.marks p0.over), y4.1)))))
@[reducible] def ideal_Step_ct : Ct tab := ⟨30, [.st 9, .st 4], [], [.st 9, .st 5], [], (Serial × Answer), fun y => (y.1, y.2, ()), fun y => (y.1, y.2.1), fun _ => rfl, fun n x => ideal_Step n x.1 x.2.1⟩
theorem ideal_Step_ok : OkC Try.prog tab ideal_Step_ct := fn_ok (W := ⟨Try.prog, tab, tyOf, [ideal_Check_ct, ideal_CheckRequest_ct, ideal_step_ct, ideal_does_ct]⟩) ⟨tabOk, ⟨ideal_Check_ok, ideal_CheckRequest_ok, ideal_step_ok, ideal_does_ok, trivial⟩⟩ (by kernel_rfl) 49 Try.f30 (.n) Try.func30 Try.call30 rfl (by kernel_rfl) (by kernel_rfl) (by kernel_rfl) fun n x => by kernel_rfl

end
end Go.Proofs.Ytegnflodgnfffaa
