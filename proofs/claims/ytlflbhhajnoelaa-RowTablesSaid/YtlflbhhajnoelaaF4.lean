/- Functions of the program: plain twins and walks, printed by program. -/
import Derived.Test.YtlflbhhajnoelaaTypes
import Derived.Test.YtlflbhhajnoelaaF3
namespace Go.Proofs.Ytlflbhhajnoelaa
open Go.Bur Go.RowKit
set_option linter.unusedVariables false
set_option linter.unusedSimpArgs false
set_option maxRecDepth 100000
/-! slices.Delete   bursary api.Row bursary api.Row  -/
def slices_Delete_Row (n : Nat) (p0 : List Row) (p1 p2 : Int) : Option (List Row) := if 0 ≤ p1 ∧ p1 ≤ p2 ∧ p2 ≤ (p0.length : Int) then some (p0.take p1.toNat ++ p0.drop p2.toNat) else none
theorem slices_Delete_Row_ok {a0 : Option Addr} {c0 : Nat} (n : Nat) (p0 : List Row) (p1 p2 : Int) (r : List Row) (h : slices_Delete_Row n p0 p1 p2 = some r) :
    Meets Try.prog 45 #[.slice a0 p0.length c0, .int .i64 p1, .int .i64 p2] [rowF flat_Row 38 a0 c0 p0] [] fun v A P => ∃ (a : Option Addr) (c : Nat), v = .slice a r.length c ∧ A = [rowF flat_Row 38 a c r] ∧ P = [] := by
  unfold slices_Delete_Row at h
  split at h
  case isFalse => cases h
  rename_i hb
  obtain ⟨hb0, hb1, hb2⟩ := hb
  obtain rfl := someI h
  obtain ⟨i, hi⟩ : ∃ i : Nat, p1 = (i : Int) := ⟨p1.toNat, by omega⟩
  obtain ⟨j, hj⟩ : ∃ j : Nat, p2 = (j : Int) := ⟨p2.toNat, by omega⟩
  subst hi hj
  simp only [Int.toNat_natCast]
  have hij : i ≤ j := by omega
  have hjl : j ≤ p0.length := by omega
  refine meets_enter 33 Try.func45 Try.call45 rfl (by kernel_rfl) (by simp) fun C a w hS => ?_
  have hc : p0.length ≤ c0 := (row_len (hS.st.own _ (List.mem_cons_self ..))).2.1
  refine k_seq (by kernel_rfl) fun K1 hK1 => ?_
  refine k_reg 1 (by kernel_rfl) ?_
  refine r_run 0 1 [0, 1, 2] [] hS rfl (L' := [(0, .slice a0 p0.length c0), (1, .int .i64 i), (2, .int .i64 j)]) (As' := [rowF flat_Row 38 a0 c0 p0]) (ob := []) (by kernel_rfl) trivial fun a w hS => ?_
  refine wl_end ?_
  refine hK1 _ _ ?_
  refine k_seq (by kernel_rfl) fun K2 hK2 => ?_
  refine k_reg 6 (by kernel_rfl) ?_
  refine r_run 0 6 [0, 1, 2] [] hS rfl (L' := [(0, .slice a0 p0.length c0), (1, .int .i64 i), (2, .int .i64 j)]) (As' := [rowF flat_Row 38 a0 c0 p0]) (ob := [fun _ => 0 ≤ (i : Int) ∧ (i : Int) ≤ (j : Int) ∧ (j : Int) ≤ (p0.length : Int) ∧ (p0.length : Int) ≤ (c0 : Int)]) (by kernel_rfl) ⟨Bx.c ⟨hb0, hb1, hb2, by omega⟩, trivial⟩ fun a w hS => ?_
  refine wl_end ?_
  refine hK2 _ _ ?_
  refine k_seq (by kernel_rfl) fun K3 hK3 => ?_
  refine k_seq (by kernel_rfl) fun K4 hK4 => ?_
  refine k_reg 3 (by kernel_rfl) ?_
  refine r_run 0 3 [0, 1, 2, 16] [] hS rfl (L' := [(0, .slice a0 p0.length c0), (1, .int .i64 i), (2, .int .i64 j), (16, .bool ((i : Int) == (j : Int)))]) (As' := [rowF flat_Row 38 a0 c0 p0]) (ob := []) (by kernel_rfl) trivial fun a w hS => ?_
  refine wl_end ?_
  refine hK4 _ _ ?_
  refine k_cond ((i : Int) == (j : Int)) hS.has (by kernel_rfl) (by kernel_rfl) (by kernel_rfl) (fun hq => ?_) (fun hq => ?_)
  · have hij : i = j := by
      have := of_decide_eq_true (p := (i : Int) = (j : Int)) (by simpa using hq)
      omega
    subst hij
    refine k_seq (by kernel_rfl) fun K5 hK5 => ?_
    refine k_reg 2 (by kernel_rfl) ?_
    refine r_run 0 2 [6] [] hS rfl (L' := [(6, .slice a0 p0.length c0)]) (As' := [rowF flat_Row 38 a0 c0 p0]) (ob := []) (by kernel_rfl) trivial fun a w hS => ?_
    refine wl_end ?_
    refine hK5 _ _ ?_
    refine k_ret (by kernel_rfl) ?_
    try simp only [Exit.then, Exit.inBlock]
    refine r_ret hS [.tmp 6] [] (xs := [.slice a0 p0.length c0]) (ps := []) [0] [] rfl (by kernel_rfl) (fun hA => trivial) rfl (fun F up => trivial) ?_
    rw [List.take_append_drop]
    exact ⟨a0, c0, rfl, rfl, rfl⟩
  · have hne : i ≠ j := fun e => by
      subst e
      simp at hq
    have hlt : i < j := by omega
    obtain ⟨g, rfl⟩ := row_block (hS.st.own _ (List.mem_cons_self ..)) (by omega)
    refine k_skip (by kernel_rfl) ?_
    refine hK3 _ _ ?_
    refine k_seq (by kernel_rfl) fun K5 hK5 => ?_
    refine k_reg 3 (by kernel_rfl) ?_
    refine r_run 0 3 [0, 1, 2, 7] [] hS rfl (L' := [(0, .slice (some ⟨g, 0, none⟩) p0.length c0), (1, .int .i64 i), (2, .int .i64 j), (7, .int .i64 (p0.length : Int))]) (As' := [rowF flat_Row 38 (some ⟨g, 0, none⟩) c0 p0]) (ob := []) (by kernel_rfl) trivial fun a w hS => ?_
    refine wl_end ?_
    refine hK5 _ _ ?_
    refine k_seq (by kernel_rfl) fun K6 hK6 => ?_
    refine k_draw 6 8 [.val (.slice (some ⟨g, 0, none⟩) p0.length c0), .val (.int .i64 i), .val (.slice (slA (some ⟨g, 0, none⟩) 0 c0 (flat_Row).sz) i c0), .val (.slice (some ⟨g, 0, none⟩) p0.length c0), .val (.int .i64 j), .val (.slice (slA (some ⟨g, 0, none⟩) j c0 (flat_Row).sz) (p0.length - j) (c0 - j))] [] [(0, []), (1, []), (2, []), (3, []), (4, []), (5, [])] [] (ob := [fun _ => (0 : Int) ≤ 0 ∧ (0 : Int) ≤ (i : Int) ∧ (i : Int) ≤ (c0 : Int), fun _ => 0 ≤ (j : Int) ∧ (j : Int) ≤ (p0.length : Int) ∧ (p0.length : Int) ≤ (c0 : Int)]) (by kernel_rfl) (by kernel_rfl) hS (by kernel_rfl) (fun F N0 => by kernel_rfl) (by kernel_rfl) (by kernel_rfl) (by kernel_rfl) (by kernel_rfl) ⟨Bx.c ⟨by omega, by omega, by omega⟩, Bx.c ⟨by omega, by omega, by omega⟩, trivial⟩ ?_ ?_
    · exact trivial
    intro V a w e hS hq
    refine r_bltS 6 rfl 0 (.row (some ⟨g, 0, none⟩) c0 38 (flat_Row).sz (i + (p0.length - j)) ((p0.flatMap (flat_Row).enc).take (i * (flat_Row).sz) ++ (p0.flatMap (flat_Row).enc).drop (j * (flat_Row).sz))) (d := some 26) (b := .append) (ts := #[25, 25]) (ty := 25) (vs := #[.slice (slA (some ⟨g, 0, none⟩) 0 c0 (flat_Row).sz) i c0, .slice (slA (some ⟨g, 0, none⟩) j c0 (flat_Row).sz) (p0.length - j) (c0 - j)]) hS (by kernel_rfl) rfl (fun hA => run_cut_row (t := 25) (ty := 25) (inf := Try.t38) (by kernel_rfl) (by kernel_rfl) rfl hA (flat_one p0) hij hjl) rfl (by simp [Asn.fp]) fun a w hS => ?_
    have hn' : p0.length - (i + (p0.length - j)) = j - i := by omega
    have hs0 : slA (some (⟨g, 0, none⟩ : Addr)) (i + (p0.length - j)) c0 (flat_Row).sz = some ⟨g, (i + (p0.length - j)) * (flat_Row).sz, none⟩ := by
      unfold slA; rw [if_neg (by omega)]; simp only [Option.map_some, addr_add0]
    refine r_run 7 1 [0, 7] [] hS rfl (L' := [(0, .slice (some ⟨g, 0, none⟩) (i + (p0.length - j)) c0), (7, .int .i64 (p0.length : Int))]) (As' := [.row (some ⟨g, 0, none⟩) c0 38 (flat_Row).sz (i + (p0.length - j)) ((p0.flatMap (flat_Row).enc).take (i * (flat_Row).sz) ++ (p0.flatMap (flat_Row).enc).drop (j * (flat_Row).sz))]) (ob := []) (by kernel_rfl) trivial fun a w hS => ?_
    refine wl_end ?_
    refine hK6 _ _ ?_
    refine k_seq (by kernel_rfl) fun K7 hK7 => ?_
    refine k_reg 6 (by kernel_rfl) ?_
    refine r_run 0 5 [0, 31] [.as 31 (.slice (some ⟨g, (i + (p0.length - j)) * (flat_Row).sz, none⟩) (j - i) (c0 - (i + (p0.length - j))))] hS rfl (L' := [(0, .slice (some ⟨g, 0, none⟩) (i + (p0.length - j)) c0), (31, .slice (some ⟨g, (i + (p0.length - j)) * (flat_Row).sz, none⟩) (j - i) (c0 - (i + (p0.length - j))))]) (As' := [.row (some ⟨g, 0, none⟩) c0 38 (flat_Row).sz (i + (p0.length - j)) ((p0.flatMap (flat_Row).enc).take (i * (flat_Row).sz) ++ (p0.flatMap (flat_Row).enc).drop (j * (flat_Row).sz))]) (ob := [fun _ => 0 ≤ ((i + (p0.length - j) : Nat) : Int) ∧ ((i + (p0.length - j) : Nat) : Int) ≤ (p0.length : Int) ∧ (p0.length : Int) ≤ (c0 : Int), fun _ => Value.slice (slA (some ⟨g, 0, none⟩) (i + (p0.length - j)) c0 (flat_Row).sz) (p0.length - (i + (p0.length - j))) (c0 - (i + (p0.length - j))) = .slice (some ⟨g, (i + (p0.length - j)) * (flat_Row).sz, none⟩) (j - i) (c0 - (i + (p0.length - j)))]) (by kernel_rfl) ⟨Bx.c ⟨by omega, by omega, by omega⟩, Bx.c (by rw [hs0, hn']), trivial⟩ fun a w hS => ?_
    obtain ⟨ds, hd1, hd2, hd3, hd4⟩ := row_full (hS.st.own _ (List.mem_cons_self ..))
    replace hS := hS.same (B := .row (some ⟨g, 0, none⟩) c0 38 (flat_Row).sz c0 ds) 0 rfl (fun _ => hd4) rfl (by simp [Asn.fp])
    refine r_bltS 5 rfl 0 (.row (some ⟨g, 0, none⟩) c0 38 (flat_Row).sz c0 (spl ds ((i + (p0.length - j)) * (flat_Row).sz) (Builtin.zeroCells ((Try.t38.zero).getD undef).cells (j - i)).toList)) (d := none) (b := .clear) (ts := #[25]) (ty := 0) (vs := #[.slice (some ⟨g, (i + (p0.length - j)) * (flat_Row).sz, none⟩) (j - i) (c0 - (i + (p0.length - j)))]) hS (by kernel_rfl) rfl (fun hA => run_clear_row (t := 25) (ty := 0) (inf := Try.t38) (by kernel_rfl) (by kernel_rfl) (by kernel_rfl) (by kernel_rfl) (oneAll (by kernel_rfl)) hA (by rw [← Nat.add_mul]; exact Nat.mul_le_mul_right _ (by omega))) rfl (by simp [Asn.fp]) fun a w hS => ?_
    have hcut : (spl ds ((i + (p0.length - j)) * (flat_Row).sz) (Builtin.zeroCells ((Try.t38.zero).getD undef).cells (j - i)).toList).take ((i + (p0.length - j)) * (flat_Row).sz) = (p0.take i ++ p0.drop j).flatMap (flat_Row).enc := by
      have hle : (i + (p0.length - j)) * (flat_Row).sz ≤ ds.length := by rw [hd2]; exact Nat.mul_le_mul_right _ hd3
      unfold spl
      rw [List.append_assoc, List.take_left' (by rw [List.length_take]; omega), hd1, List.flatMap_append, flat_take, flat_drop]
    have hlen : (p0.take i ++ p0.drop j).length = i + (p0.length - j) := by simp; omega
    replace hS := hS.same (B := rowF flat_Row 38 (some ⟨g, 0, none⟩) c0 (p0.take i ++ p0.drop j)) 0 rfl (fun hA => by
      have := row_cut hA (i + (p0.length - j)) (by omega)
      rw [hcut] at this
      unfold rowF
      rw [hlen]
      exact this) rfl (by simp [Asn.fp])
    refine wl_end ?_
    refine hK7 _ _ ?_
    refine k_seq (by kernel_rfl) fun K8 hK8 => ?_
    refine k_reg 2 (by kernel_rfl) ?_
    refine r_run 0 2 [6] [] hS rfl (L' := [(6, .slice (some ⟨g, 0, none⟩) (i + (p0.length - j)) c0)]) (As' := [rowF flat_Row 38 (some ⟨g, 0, none⟩) c0 (p0.take i ++ p0.drop j)]) (ob := []) (by kernel_rfl) trivial fun a w hS => ?_
    refine wl_end ?_
    refine hK8 _ _ ?_
    refine k_ret (by kernel_rfl) ?_
    try simp only [Exit.then, Exit.inBlock]
    refine r_ret hS [.tmp 6] [] (xs := [.slice (some ⟨g, 0, none⟩) (i + (p0.length - j)) c0]) (ps := []) [0] [] rfl (by kernel_rfl) (fun hA => trivial) rfl (fun F up => trivial) ?_
    exact ⟨some ⟨g, 0, none⟩, c0, by rw [hlen]; rfl, rfl, rfl⟩


/-! bursary bursaryref05.Same -/
def ref05_Same_l1 (n : Nat) (p0 : (List Row)) (p1 : (List Row)) : Nat → Int → Option Bool
  | 0, _ => none
  | m9 + 1, v8 =>
    cond (decide (v8 < (p0.length : Int)))
      ((idx p0 v8).bind fun x16 =>
      (idx p1 v8).bind fun x17 =>
      cond (!(Row.eqb x16 x17))
        (some false)
        (ref05_Same_l1 n p0 p1 m9 (IntKind.wrap .i64 (v8 + 1))))
      (some true)
def ref05_Same (n : Nat) (p0 : (List Row)) (p1 : (List Row)) : Option Bool :=
  cond ((p0.length : Int) != (p1.length : Int))
    (some false)
    (ref05_Same_l1 n p0 p1 n 0)
theorem ref05_Same_ok {a0 : Option Addr} {c0 : Nat} {a1 : Option Addr} {c1 : Nat} (n : Nat) (p0 : (List Row)) (p1 : (List Row)) (r : Bool)  (h : ref05_Same n p0 p1 = some r) :
    Meets Try.prog 24 #[.slice a0 p0.length c0, .slice a1 p1.length c1] [] [RSf flat_Row a0 c0 p0, RSf flat_Row a1 c1 p1] fun v A P => v = .bool r ∧ A = [] ∧ P = [] := by
  unfold ref05_Same at h
  refine meets_enter 26 Try.func24 Try.call24 rfl (by kernel_rfl) (by simp) fun C a w hS => ?_
  refine k_seq (by kernel_rfl) fun K1 hK1 => ?_
  refine k_reg 1 (by kernel_rfl) ?_
  refine r_run 0 1 [0, 1] [] hS rfl (L' := [(0, .slice a0 p0.length c0), (1, .slice a1 p1.length c1)]) (As' := []) (ob := []) (by kernel_rfl) (trivial) fun a w hS => ?_
  refine wl_end ?_
  refine hK1 _ _ ?_
  refine k_seq (by kernel_rfl) fun K2 hK2 => ?_
  refine k_seq (by kernel_rfl) fun K3 hK3 => ?_
  refine k_reg 5 (by kernel_rfl) ?_
  refine r_run 0 5 [0, 1, 10] [] hS rfl (L' := [(0, .slice a0 p0.length c0), (1, .slice a1 p1.length c1), (10, .bool ((p0.length : Int) != (p1.length : Int)))]) (As' := []) (ob := []) (by kernel_rfl) (trivial) fun a w hS => ?_
  refine wl_end ?_
  refine hK3 _ _ ?_
  refine k_cond ((p0.length : Int) != (p1.length : Int)) hS.has (by kernel_rfl) (by kernel_rfl) (by kernel_rfl) (fun hb4 => ?_) (fun hb4 => ?_)
  · replace h := ctrue hb4 h
    refine k_seq (by kernel_rfl) fun K5 hK5 => ?_
    refine k_reg 1 (by kernel_rfl) ?_
    refine r_run 0 1 [4] [] hS rfl (L' := [(4, .bool false)]) (As' := []) (ob := []) (by kernel_rfl) (trivial) fun a w hS => ?_
    refine wl_end ?_
    refine hK5 _ _ ?_
    refine k_ret (by kernel_rfl) ?_
    obtain rfl := someI h
    try simp only [Exit.then, Exit.inBlock]
    refine r_ret hS [.tmp 4] [] (xs := [.bool false]) (ps := []) [] [] rfl (by kernel_rfl) (fun hA => trivial) rfl (fun F up => trivial) ?_
    exact ⟨rfl, rfl, rfl⟩
  · replace h := cfalse hb4 h
    refine k_skip (by kernel_rfl) ?_
    refine hK2 _ _ ?_
    refine k_seq (by kernel_rfl) fun K6 hK6 => ?_
    refine k_seq (by kernel_rfl) fun K7 hK7 => ?_
    refine k_reg 1 (by kernel_rfl) ?_
    refine r_run 0 1 [0, 1, 5] [] hS rfl (L' := [(0, .slice a0 p0.length c0), (1, .slice a1 p1.length c1), (5, .int .i64 0)]) (As' := []) (ob := []) (by kernel_rfl) (trivial) fun a w hS => ?_
    refine wl_end ?_
    refine hK7 _ _ ?_
    refine k_blk (by kernel_rfl) ?_
    refine k_loop (by kernel_rfl) (fun m9 a w => ∃ (v8 : Int), ref05_Same_l1 n p0 p1 m9 v8 = some r ∧ Sy C 26 a w [(0, .slice a0 p0.length c0), (1, .slice a1 p1.length c1), (5, .int .i64 v8)] [] [RSf flat_Row a0 c0 p0, RSf flat_Row a1 c1 p1]) n ⟨0, h, (hS.got [0, 1, 5] [] [] 0 (by kernel_rfl) (by kernel_rfl) (by kernel_rfl))⟩ ?_
    rintro m9 a w ⟨v8, h, hS⟩ K10 hK10
    cases m9 with
    | zero => exact (noneS h).elim
    | succ m9 =>
      unfold ref05_Same_l1 at h
      refine k_seq (by kernel_rfl) fun K11 hK11 => ?_
      refine k_seq (by kernel_rfl) fun K12 hK12 => ?_
      refine k_reg 4 (by kernel_rfl) ?_
      refine r_run 0 4 [0, 1, 5, 14] [] hS rfl (L' := [(0, .slice a0 p0.length c0), (1, .slice a1 p1.length c1), (5, .int .i64 v8), (14, .bool (decide (v8 < (p0.length : Int))))]) (As' := []) (ob := []) (by kernel_rfl) (trivial) fun a w hS => ?_
      refine wl_end ?_
      refine hK12 _ _ ?_
      refine k_cond (decide (v8 < (p0.length : Int))) hS.has (by kernel_rfl) (by kernel_rfl) (by kernel_rfl) (fun hb13 => ?_) (fun hb13 => ?_)
      · replace h := ctrue hb13 h
        refine k_skip (by kernel_rfl) ?_
        refine hK11 _ _ ?_
        refine k_seq (by kernel_rfl) fun K14 hK14 => ?_
        refine k_blk (by kernel_rfl) ?_
        refine k_seq (by kernel_rfl) fun K15 hK15 => ?_
        obtain ⟨x16, hx16, h⟩ := bindS h
        have ix16 := fidxB (F := flat_Row) (hS.p 0 rfl) hx16
        obtain ⟨x17, hx17, h⟩ := bindS h
        have ix17 := fidxB (F := flat_Row) (hS.p 1 rfl) hx17
        refine k_draw 8 9 [.val (.slice a0 p0.length c0), .val (.int .i64 v8), .val (.pointer (some (Addr.add (baseOf a0) (Int.toNat v8 * 4)))), .val (Value.agg #[.int .i64 x16.key.table, .int .u16 x16.key.id, .int .i64 x16.val, .string x16.note]), .val (.slice a1 p1.length c1), .val (.int .i64 v8), .val (.pointer (some (Addr.add (baseOf a1) (Int.toNat v8 * 4)))), .val (Value.agg #[.int .i64 x17.key.table, .int .u16 x17.key.id, .int .i64 x17.val, .string x17.note])] [] [(0, []), (1, []), (2, []), (3, [.ext [.int .i64 x16.key.table, .int .u16 x16.key.id, .int .i64 x16.val, .string x16.note]]), (4, []), (5, []), (6, []), (7, [.ext [.int .i64 x17.key.table, .int .u16 x17.key.id, .int .i64 x17.val, .string x17.note]])] [] (ob := [fun _ => Inb a0 p0.length v8, Cel (Addr.add (baseOf a0) (Int.toNat v8 * 4)) [.int .i64 x16.key.table, .int .u16 x16.key.id, .int .i64 x16.val, .string x16.note], fun _ => Inb a1 p1.length v8, Cel (Addr.add (baseOf a1) (Int.toNat v8 * 4)) [.int .i64 x17.key.table, .int .u16 x17.key.id, .int .i64 x17.val, .string x17.note]]) (by kernel_rfl) (by kernel_rfl) hS (by kernel_rfl) (fun F N0 => by kernel_rfl) (by kernel_rfl) (by kernel_rfl) (by kernel_rfl) (by kernel_rfl) ⟨Bx.c ix16.1, ix16.2, Bx.c ix17.1, ix17.2, trivial⟩ ?_ ?_
        · exact trivial
        intro V a w e hS hq
        refine r_run 8 1 [0, 1, 5, 25] [.val (.bool (!(Row.eqb x16 x17)))] hS rfl (L' := [(0, .slice a0 p0.length c0), (1, .slice a1 p1.length c1), (5, .int .i64 v8), (25, .bool (!(Row.eqb x16 x17)))]) (As' := []) (ob := [fun w => EqOk Try.prog .neq 38 (Value.agg #[.int .i64 x16.key.table, .int .u16 x16.key.id, .int .i64 x16.val, .string x16.note]) (Value.agg #[.int .i64 x17.key.table, .int .u16 x17.key.id, .int .i64 x17.val, .string x17.note]) (.bool (!(Row.eqb x16 x17))) w]) (by kernel_rfl) (⟨fun w _ => Row_neq x16.key.table x16.key.id x16.val x16.note x17.key.table x17.key.id x17.val x17.note w, trivial⟩) fun a w hS => ?_
        refine wl_end ?_
        refine hK15 _ _ ?_
        refine k_cond (!(Row.eqb x16 x17)) hS.has (by kernel_rfl) (by kernel_rfl) (by kernel_rfl) (fun hb18 => ?_) (fun hb18 => ?_)
        · replace h := ctrue hb18 h
          refine k_seq (by kernel_rfl) fun K19 hK19 => ?_
          refine k_reg 1 (by kernel_rfl) ?_
          refine r_run 0 1 [4] [] hS rfl (L' := [(4, .bool false)]) (As' := []) (ob := []) (by kernel_rfl) (trivial) fun a w hS => ?_
          refine wl_end ?_
          refine hK19 _ _ ?_
          refine k_ret (by kernel_rfl) ?_
          obtain rfl := someI h
          try simp only [Exit.then, Exit.inBlock]
          refine r_ret hS [.tmp 4] [] (xs := [.bool false]) (ps := []) [] [] rfl (by kernel_rfl) (fun hA => trivial) rfl (fun F up => trivial) ?_
          exact ⟨rfl, rfl, rfl⟩
        · replace h := cfalse hb18 h
          refine k_skip (by kernel_rfl) ?_
          refine hK14 _ _ ?_
          refine k_reg 3 (by kernel_rfl) ?_
          refine r_run 0 3 [0, 1, 5] [] hS rfl (L' := [(0, .slice a0 p0.length c0), (1, .slice a1 p1.length c1), (5, .int .i64 (IntKind.wrap .i64 (v8 + 1)))]) (As' := []) (ob := []) (by kernel_rfl) (trivial) fun a w hS => ?_
          refine wl_end ?_
          exact hK10 m9 _ _ (Nat.lt_succ_self _) ⟨(IntKind.wrap .i64 (v8 + 1)), h, (hS.got [0, 1, 5] [] [] 0 (by kernel_rfl) (by kernel_rfl) (by kernel_rfl))⟩
      · replace h := cfalse hb13 h
        refine k_exit 0 (by kernel_rfl) ?_
        refine hK6 _ _ ?_
        refine k_seq (by kernel_rfl) fun K20 hK20 => ?_
        refine k_reg 1 (by kernel_rfl) ?_
        refine r_run 0 1 [4] [] hS rfl (L' := [(4, .bool true)]) (As' := []) (ob := []) (by kernel_rfl) (trivial) fun a w hS => ?_
        refine wl_end ?_
        refine hK20 _ _ ?_
        refine k_ret (by kernel_rfl) ?_
        obtain rfl := someI h
        try simp only [Exit.then, Exit.inBlock]
        refine r_ret hS [.tmp 4] [] (xs := [.bool true]) (ps := []) [] [] rfl (by kernel_rfl) (fun hA => trivial) rfl (fun F up => trivial) ?_
        exact ⟨rfl, rfl, rfl⟩

/-! bursary bursaryref05.Find -/
def ref05_Find_l1 (n : Nat) (p0 : (List Row)) (p1 : Key) : Nat → Int → Option Int
  | 0, _ => none
  | m6 + 1, v5 =>
    cond (decide (v5 < (p0.length : Int)))
      ((idx p0 v5).bind fun x13 =>
      cond (Key.eqb x13.key p1)
        (some v5)
        (ref05_Find_l1 n p0 p1 m6 (IntKind.wrap .i64 (v5 + 1))))
      (some (-1))
def ref05_Find (n : Nat) (p0 : (List Row)) (p1 : Key) : Option Int :=
  ref05_Find_l1 n p0 p1 n 0
theorem ref05_Find_ok {a0 : Option Addr} {c0 : Nat} (n : Nat) (p0 : (List Row)) (p1 : Key) (r : Int)  (h : ref05_Find n p0 p1 = some r) :
    Meets Try.prog 25 #[.slice a0 p0.length c0, Value.agg #[.int .i64 p1.table, .int .u16 p1.id]] [] [RSf flat_Row a0 c0 p0] fun v A P => v = .int .i64 r ∧ A = [] ∧ P = [] := by
  unfold ref05_Find at h
  refine meets_enter 20 Try.func25 Try.call25 rfl (by kernel_rfl) (by simp) fun C a w hS => ?_
  refine k_seq (by kernel_rfl) fun K1 hK1 => ?_
  refine k_reg 2 (by kernel_rfl) ?_
  refine r_run1 0 2 [0, 3] [] hS rfl (L' := fun b2 => [(0, .slice a0 p0.length c0), (3, .pointer (some ⟨b2, 0, none⟩))]) (As' := fun b2 => [.box b2 [.int .i64 p1.table, .int .u16 p1.id]]) (ob := fun b2 => []) (fun b2 => by kernel_rfl) (fun b2 => trivial) fun b2 a w hS => ?_
  refine wl_end ?_
  refine hK1 _ _ ?_
  refine k_seq (by kernel_rfl) fun K3 hK3 => ?_
  refine k_seq (by kernel_rfl) fun K4 hK4 => ?_
  refine k_reg 1 (by kernel_rfl) ?_
  refine r_run 0 1 [0, 3, 5] [] hS rfl (L' := [(0, .slice a0 p0.length c0), (3, .pointer (some ⟨b2, 0, none⟩)), (5, .int .i64 0)]) (As' := [.box b2 [.int .i64 p1.table, .int .u16 p1.id]]) (ob := []) (by kernel_rfl) (trivial) fun a w hS => ?_
  refine wl_end ?_
  refine hK4 _ _ ?_
  refine k_blk (by kernel_rfl) ?_
  refine k_loop (by kernel_rfl) (fun m6 a w => ∃ (v5 : Int), ref05_Find_l1 n p0 p1 m6 v5 = some r ∧ Sy C 20 a w [(0, .slice a0 p0.length c0), (3, .pointer (some ⟨b2, 0, none⟩)), (5, .int .i64 v5)] [.box b2 [.int .i64 p1.table, .int .u16 p1.id]] [RSf flat_Row a0 c0 p0]) n ⟨0, h, (hS.got [0, 3, 5] [0] [] 0 (by kernel_rfl) (by kernel_rfl) (by kernel_rfl))⟩ ?_
  rintro m6 a w ⟨v5, h, hS⟩ K7 hK7
  cases m6 with
  | zero => exact (noneS h).elim
  | succ m6 =>
    unfold ref05_Find_l1 at h
    refine k_seq (by kernel_rfl) fun K8 hK8 => ?_
    refine k_seq (by kernel_rfl) fun K9 hK9 => ?_
    refine k_reg 4 (by kernel_rfl) ?_
    refine r_run 0 4 [0, 3, 5, 9] [] hS rfl (L' := [(0, .slice a0 p0.length c0), (3, .pointer (some ⟨b2, 0, none⟩)), (5, .int .i64 v5), (9, .bool (decide (v5 < (p0.length : Int))))]) (As' := [.box b2 [.int .i64 p1.table, .int .u16 p1.id]]) (ob := []) (by kernel_rfl) (trivial) fun a w hS => ?_
    refine wl_end ?_
    refine hK9 _ _ ?_
    refine k_cond (decide (v5 < (p0.length : Int))) hS.has (by kernel_rfl) (by kernel_rfl) (by kernel_rfl) (fun hb10 => ?_) (fun hb10 => ?_)
    · replace h := ctrue hb10 h
      refine k_skip (by kernel_rfl) ?_
      refine hK8 _ _ ?_
      refine k_seq (by kernel_rfl) fun K11 hK11 => ?_
      refine k_blk (by kernel_rfl) ?_
      refine k_seq (by kernel_rfl) fun K12 hK12 => ?_
      obtain ⟨x13, hx13, h⟩ := bindS h
      have ix13 := fidxB (F := flat_Row) (hS.p 0 rfl) hx13
      refine k_draw 6 7 [.val (.slice a0 p0.length c0), .val (.int .i64 v5), .val (.pointer (some (Addr.add (baseOf a0) (Int.toNat v5 * 4)))), .val (.pointer (some (Addr.add (Addr.add (baseOf a0) (Int.toNat v5 * 4)) 0))), .val (Value.agg #[.int .i64 x13.key.table, .int .u16 x13.key.id]), .val (Value.agg #[.int .i64 p1.table, .int .u16 p1.id])] [] [(0, []), (1, []), (2, []), (3, []), (4, [.ext [.int .i64 x13.key.table, .int .u16 x13.key.id]]), (5, [.own 0 0])] [] (ob := [fun _ => Inb a0 p0.length v5, Cel (Addr.add (Addr.add (baseOf a0) (Int.toNat v5 * 4)) 0) [.int .i64 x13.key.table, .int .u16 x13.key.id], fun _ => (⟨b2, 0, none⟩ : Addr) = (⟨b2, 0, none⟩ : Addr).add 0]) (by kernel_rfl) (by kernel_rfl) hS (by kernel_rfl) (fun F N0 => by kernel_rfl) (by kernel_rfl) (by kernel_rfl) (by kernel_rfl) (by kernel_rfl) ⟨Bx.c ix13.1, (Bx.sub ix13.2 0 2), Bx.c rfl, trivial⟩ ?_ ?_
      · exact trivial
      intro V a w e hS hq
      refine r_run 6 1 [0, 3, 5, 18] [.val (.bool (Key.eqb x13.key p1))] hS rfl (L' := [(0, .slice a0 p0.length c0), (3, .pointer (some ⟨b2, 0, none⟩)), (5, .int .i64 v5), (18, .bool (Key.eqb x13.key p1))]) (As' := [.box b2 [.int .i64 p1.table, .int .u16 p1.id]]) (ob := [fun w => EqOk Try.prog .eql 28 (Value.agg #[.int .i64 x13.key.table, .int .u16 x13.key.id]) (Value.agg #[.int .i64 p1.table, .int .u16 p1.id]) (.bool (Key.eqb x13.key p1)) w]) (by kernel_rfl) (⟨fun w _ => Key_eql x13.key.table x13.key.id p1.table p1.id w, trivial⟩) fun a w hS => ?_
      refine wl_end ?_
      refine hK12 _ _ ?_
      refine k_cond (Key.eqb x13.key p1) hS.has (by kernel_rfl) (by kernel_rfl) (by kernel_rfl) (fun hb14 => ?_) (fun hb14 => ?_)
      · replace h := ctrue hb14 h
        refine k_seq (by kernel_rfl) fun K15 hK15 => ?_
        refine k_reg 2 (by kernel_rfl) ?_
        refine r_run 0 2 [4] [] hS rfl (L' := [(4, .int .i64 v5)]) (As' := [.box b2 [.int .i64 p1.table, .int .u16 p1.id]]) (ob := []) (by kernel_rfl) (trivial) fun a w hS => ?_
        refine wl_end ?_
        refine hK15 _ _ ?_
        refine k_ret (by kernel_rfl) ?_
        obtain rfl := someI h
        try simp only [Exit.then, Exit.inBlock]
        refine r_ret hS [.tmp 4] [] (xs := [.int .i64 v5]) (ps := []) [] [] rfl (by kernel_rfl) (fun hA => trivial) rfl (fun F up => trivial) ?_
        exact ⟨rfl, rfl, rfl⟩
      · replace h := cfalse hb14 h
        refine k_skip (by kernel_rfl) ?_
        refine hK11 _ _ ?_
        refine k_reg 3 (by kernel_rfl) ?_
        refine r_run 0 3 [0, 3, 5] [] hS rfl (L' := [(0, .slice a0 p0.length c0), (3, .pointer (some ⟨b2, 0, none⟩)), (5, .int .i64 (IntKind.wrap .i64 (v5 + 1)))]) (As' := [.box b2 [.int .i64 p1.table, .int .u16 p1.id]]) (ob := []) (by kernel_rfl) (trivial) fun a w hS => ?_
        refine wl_end ?_
        exact hK7 m6 _ _ (Nat.lt_succ_self _) ⟨(IntKind.wrap .i64 (v5 + 1)), h, (hS.got [0, 3, 5] [0] [] 0 (by kernel_rfl) (by kernel_rfl) (by kernel_rfl))⟩
    · replace h := cfalse hb10 h
      refine k_exit 0 (by kernel_rfl) ?_
      refine hK3 _ _ ?_
      refine k_seq (by kernel_rfl) fun K16 hK16 => ?_
      refine k_reg 1 (by kernel_rfl) ?_
      refine r_run 0 1 [4] [] hS rfl (L' := [(4, .int .i64 (-1))]) (As' := [.box b2 [.int .i64 p1.table, .int .u16 p1.id]]) (ob := []) (by kernel_rfl) (trivial) fun a w hS => ?_
      refine wl_end ?_
      refine hK16 _ _ ?_
      refine k_ret (by kernel_rfl) ?_
      obtain rfl := someI h
      try simp only [Exit.then, Exit.inBlock]
      refine r_ret hS [.tmp 4] [] (xs := [.int .i64 (-1)]) (ps := []) [] [] rfl (by kernel_rfl) (fun hA => trivial) rfl (fun F up => trivial) ?_
      exact ⟨rfl, rfl, rfl⟩

/-! bursary bursaryref05.Without -/
def ref05_Without_j1 (n : Nat) (v10 : Int) (k_ref05_Without_l1 : ((List Row) → Int → Option (List Row))) (l19 : (List Row)) : Option (List Row) :=
  k_ref05_Without_l1 l19 (IntKind.wrap .i64 (v10 + 1))
def ref05_Without_l1 (n : Nat) (p0 : (List Row)) (p1 : Key) : Nat → (List Row) → Int → Option (List Row)
  | 0, _, _ => none
  | m11 + 1, l8, v10 =>
    cond (decide (v10 < (p0.length : Int)))
      ((idx p0 v10).bind fun x21 =>
      cond (!(Key.eqb x21.key p1))
        ((idx p0 v10).bind fun x23 =>
        (app 40 l8 ([x23] : List Row)).bind fun l25 =>
        ref05_Without_j1 n v10 (ref05_Without_l1 n p0 p1 m11) l25)
        (ref05_Without_j1 n v10 (ref05_Without_l1 n p0 p1 m11) l8))
      (some l8)
def ref05_Without (n : Nat) (p0 : (List Row)) (p1 : Key) : Option (List Row) :=
  ref05_Without_l1 n p0 p1 n ([] : List Row) 0
theorem ref05_Without_ok {a0 : Option Addr} {c0 : Nat} (n : Nat) (p0 : (List Row)) (p1 : Key) (r : (List Row))  (h : ref05_Without n p0 p1 = some r) :
    Meets Try.prog 27 #[.slice a0 p0.length c0, Value.agg #[.int .i64 p1.table, .int .u16 p1.id]] [] [RSf flat_Row a0 c0 p0] fun v A P => ∃ (a0 : Option Addr) (c0 : Nat), v = .slice a0 r.length c0 ∧ A = [rowF flat_Row 38 a0 c0 r] ∧ P = [] := by
  unfold ref05_Without at h
  refine meets_enter 28 Try.func27 Try.call27 rfl (by kernel_rfl) (by simp) fun C a w hS => ?_
  refine k_seq (by kernel_rfl) fun K1 hK1 => ?_
  refine k_reg 2 (by kernel_rfl) ?_
  refine r_run1 0 2 [0, 3] [] hS rfl (L' := fun b2 => [(0, .slice a0 p0.length c0), (3, .pointer (some ⟨b2, 0, none⟩))]) (As' := fun b2 => [.box b2 [.int .i64 p1.table, .int .u16 p1.id]]) (ob := fun b2 => []) (fun b2 => by kernel_rfl) (fun b2 => trivial) fun b2 a w hS => ?_
  refine wl_end ?_
  refine hK1 _ _ ?_
  refine k_seq (by kernel_rfl) fun K3 hK3 => ?_
  refine k_reg 1 (by kernel_rfl) ?_
  refine r_run 0 1 [0, 3, 5] [] hS rfl (L' := [(0, .slice a0 p0.length c0), (3, .pointer (some ⟨b2, 0, none⟩)), (5, .slice none 0 0)]) (As' := [.box b2 [.int .i64 p1.table, .int .u16 p1.id]]) (ob := []) (by kernel_rfl) (trivial) fun a w hS => ?_
  refine wl_end ?_
  refine hK3 _ _ ?_
  refine k_seq (by kernel_rfl) fun K4 hK4 => ?_
  refine k_seq (by kernel_rfl) fun K5 hK5 => ?_
  refine k_reg 1 (by kernel_rfl) ?_
  refine r_run 0 1 [0, 3, 5, 6] [] hS rfl (L' := [(0, .slice a0 p0.length c0), (3, .pointer (some ⟨b2, 0, none⟩)), (5, .slice none 0 0), (6, .int .i64 0)]) (As' := [.box b2 [.int .i64 p1.table, .int .u16 p1.id]]) (ob := []) (by kernel_rfl) (trivial) fun a w hS => ?_
  refine wl_end ?_
  refine hK5 _ _ ?_
  refine k_blk (by kernel_rfl) ?_
  replace hS := hS.nilrow (e := 38) (sz := 4)
  refine k_loop (by kernel_rfl) (fun m11 a w => ∃ (a6 : Option Addr) (c7 : Nat) (l8 : (List Row)) (v10 : Int), ref05_Without_l1 n p0 p1 m11 l8 v10 = some r ∧ Sy C 28 a w [(0, .slice a0 p0.length c0), (3, .pointer (some ⟨b2, 0, none⟩)), (5, .slice a6 l8.length c7), (6, .int .i64 v10)] [rowF flat_Row 38 a6 c7 l8, .box b2 [.int .i64 p1.table, .int .u16 p1.id]] [RSf flat_Row a0 c0 p0]) n ⟨none, 0, ([] : List Row), 0, h, (hS.got [0, 3, 5, 6] [0, 0] [] 0 (by kernel_rfl) (by kernel_rfl) (by kernel_rfl))⟩ ?_
  rintro m11 a w ⟨a6, c7, l8, v10, h, hS⟩ K12 hK12
  cases m11 with
  | zero => exact (noneS h).elim
  | succ m11 =>
    unfold ref05_Without_l1 at h
    refine k_seq (by kernel_rfl) fun K13 hK13 => ?_
    refine k_seq (by kernel_rfl) fun K14 hK14 => ?_
    refine k_reg 4 (by kernel_rfl) ?_
    refine r_run 0 4 [0, 3, 5, 6, 10] [] hS rfl (L' := [(0, .slice a0 p0.length c0), (3, .pointer (some ⟨b2, 0, none⟩)), (5, .slice a6 l8.length c7), (6, .int .i64 v10), (10, .bool (decide (v10 < (p0.length : Int))))]) (As' := [rowF flat_Row 38 a6 c7 l8, .box b2 [.int .i64 p1.table, .int .u16 p1.id]]) (ob := []) (by kernel_rfl) (trivial) fun a w hS => ?_
    refine wl_end ?_
    refine hK14 _ _ ?_
    refine k_cond (decide (v10 < (p0.length : Int))) hS.has (by kernel_rfl) (by kernel_rfl) (by kernel_rfl) (fun hb15 => ?_) (fun hb15 => ?_)
    · replace h := ctrue hb15 h
      refine k_skip (by kernel_rfl) ?_
      refine hK13 _ _ ?_
      refine k_seq (by kernel_rfl) fun K16 hK16 => ?_
      have JK16 : ∀ (a17 : Option Addr) (c18 : Nat) (l19 : (List Row)) a w, Sy C 28 a w [(0, .slice a0 p0.length c0), (3, .pointer (some ⟨b2, 0, none⟩)), (5, .slice a17 l19.length c18), (6, .int .i64 v10)] [rowF flat_Row 38 a17 c18 l19, .box b2 [.int .i64 p1.table, .int .u16 p1.id]] [RSf flat_Row a0 c0 p0] → ref05_Without_j1 n v10 (ref05_Without_l1 n p0 p1 m11) l19 = some r → K16 a w := by
        intro a17 c18 l19 a w hS h
        unfold ref05_Without_j1 at h
        refine hK16 _ _ ?_
        refine k_reg 3 (by kernel_rfl) ?_
        refine r_run 0 3 [0, 3, 5, 6] [] hS rfl (L' := [(0, .slice a0 p0.length c0), (3, .pointer (some ⟨b2, 0, none⟩)), (5, .slice a17 l19.length c18), (6, .int .i64 (IntKind.wrap .i64 (v10 + 1)))]) (As' := [rowF flat_Row 38 a17 c18 l19, .box b2 [.int .i64 p1.table, .int .u16 p1.id]]) (ob := []) (by kernel_rfl) (trivial) fun a w hS => ?_
        refine wl_end ?_
        exact hK12 m11 _ _ (Nat.lt_succ_self _) ⟨a17, c18, l19, (IntKind.wrap .i64 (v10 + 1)), h, (hS.got [0, 3, 5, 6] [0, 0] [] 0 (by kernel_rfl) (by kernel_rfl) (by kernel_rfl))⟩
      refine k_blk (by kernel_rfl) ?_
      refine k_seq (by kernel_rfl) fun K20 hK20 => ?_
      obtain ⟨x21, hx21, h⟩ := bindS h
      have ix21 := fidxB (F := flat_Row) (hS.p 0 rfl) hx21
      refine k_draw 6 7 [.val (.slice a0 p0.length c0), .val (.int .i64 v10), .val (.pointer (some (Addr.add (baseOf a0) (Int.toNat v10 * 4)))), .val (.pointer (some (Addr.add (Addr.add (baseOf a0) (Int.toNat v10 * 4)) 0))), .val (Value.agg #[.int .i64 x21.key.table, .int .u16 x21.key.id]), .val (Value.agg #[.int .i64 p1.table, .int .u16 p1.id])] [] [(0, []), (1, []), (2, []), (3, []), (4, [.ext [.int .i64 x21.key.table, .int .u16 x21.key.id]]), (5, [.own 1 0])] [] (ob := [fun _ => Inb a0 p0.length v10, Cel (Addr.add (Addr.add (baseOf a0) (Int.toNat v10 * 4)) 0) [.int .i64 x21.key.table, .int .u16 x21.key.id], fun _ => (⟨b2, 0, none⟩ : Addr) = (⟨b2, 0, none⟩ : Addr).add 0]) (by kernel_rfl) (by kernel_rfl) hS (by kernel_rfl) (fun F N0 => by kernel_rfl) (by kernel_rfl) (by kernel_rfl) (by kernel_rfl) (by kernel_rfl) ⟨Bx.c ix21.1, (Bx.sub ix21.2 0 2), Bx.c rfl, trivial⟩ ?_ ?_
      · exact trivial
      intro V a w e hS hq
      refine r_run 6 1 [0, 3, 5, 6, 19] [.val (.bool (!(Key.eqb x21.key p1)))] hS rfl (L' := [(0, .slice a0 p0.length c0), (3, .pointer (some ⟨b2, 0, none⟩)), (5, .slice a6 l8.length c7), (6, .int .i64 v10), (19, .bool (!(Key.eqb x21.key p1)))]) (As' := [rowF flat_Row 38 a6 c7 l8, .box b2 [.int .i64 p1.table, .int .u16 p1.id]]) (ob := [fun w => EqOk Try.prog .neq 28 (Value.agg #[.int .i64 x21.key.table, .int .u16 x21.key.id]) (Value.agg #[.int .i64 p1.table, .int .u16 p1.id]) (.bool (!(Key.eqb x21.key p1))) w]) (by kernel_rfl) (⟨fun w _ => Key_neq x21.key.table x21.key.id p1.table p1.id w, trivial⟩) fun a w hS => ?_
      refine wl_end ?_
      refine hK20 _ _ ?_
      refine k_cond (!(Key.eqb x21.key p1)) hS.has (by kernel_rfl) (by kernel_rfl) (by kernel_rfl) (fun hb22 => ?_) (fun hb22 => ?_)
      · replace h := ctrue hb22 h
        refine k_reg 8 (by kernel_rfl) ?_
        obtain ⟨x23, hx23, h⟩ := bindS h
        have ix23 := fidxB (F := flat_Row) (hS.p 0 rfl) hx23
        refine r_run1 0 6 [0, 3, 6, 20, 25] [.ext [.int .i64 x23.key.table, .int .u16 x23.key.id, .int .i64 x23.val, .string x23.note]] hS rfl (L' := fun b24 => [(0, .slice a0 p0.length c0), (3, .pointer (some ⟨b2, 0, none⟩)), (6, .int .i64 v10), (20, .slice a6 l8.length c7), (25, .slice (some ⟨b24, 0, none⟩) ([x23] : List Row).length 1)]) (As' := fun b24 => [rowF flat_Row 38 (some ⟨b24, 0, none⟩) 1 ([x23] : List Row), rowF flat_Row 38 a6 c7 l8, .box b2 [.int .i64 p1.table, .int .u16 p1.id]]) (ob := fun b24 => [fun _ => Inb a0 p0.length v10, Cel (Addr.add (baseOf a0) (Int.toNat v10 * 4)) [.int .i64 x23.key.table, .int .u16 x23.key.id, .int .i64 x23.val, .string x23.note]]) (fun b24 => by kernel_rfl) (fun b24 => ⟨Bx.c ix23.1, ix23.2, trivial⟩) fun b24 a w hS => ?_
        obtain ⟨l25, hl25, h⟩ := bindS h
        obtain ⟨hl25r, hl25e⟩ := app_some hl25
        refine r_append 6 rfl (d := 26) (t := 25) (A := a6) (c := c7) (k := l8.length) (b := (some ⟨b24, 0, none⟩)) (c2 := 1) (m := ([x23] : List Row).length) (([x23] : List Row).flatMap flat_Row.enc) 1 [0] hS appT_25 (by kernel_rfl) rfl rfl (fun F up le => appB (F := flat_Row) (le 0 rfl _ fun w h => rowRS h)) hl25r fun a26 c27 a w hS => ?_
        replace hS := rowF_app (F := flat_Row) (l := l8) (m := ([x23] : List Row)) hS hl25e
        refine r_run 7 1 [0, 3, 5, 6] [] hS rfl (L' := [(0, .slice a0 p0.length c0), (3, .pointer (some ⟨b2, 0, none⟩)), (5, .slice a26 l25.length c27), (6, .int .i64 v10)]) (As' := [rowF flat_Row 38 a26 c27 l25, rowF flat_Row 38 (some ⟨b24, 0, none⟩) 1 ([x23] : List Row), .box b2 [.int .i64 p1.table, .int .u16 p1.id]]) (ob := []) (by kernel_rfl) (trivial) fun a w hS => ?_
        refine wl_end ?_
        exact JK16 a26 c27 l25 _ _ (hS.got [0, 3, 5, 6] [0, 1] [] 0 (by kernel_rfl) (by kernel_rfl) (by kernel_rfl)) h
      · replace h := cfalse hb22 h
        refine k_skip (by kernel_rfl) ?_
        exact JK16 a6 c7 l8 _ _ (hS.got [0, 3, 5, 6] [0, 0] [] 0 (by kernel_rfl) (by kernel_rfl) (by kernel_rfl)) h
    · replace h := cfalse hb15 h
      refine k_exit 0 (by kernel_rfl) ?_
      refine hK4 _ _ ?_
      refine k_seq (by kernel_rfl) fun K28 hK28 => ?_
      refine k_reg 2 (by kernel_rfl) ?_
      refine r_run 0 2 [4] [] hS rfl (L' := [(4, .slice a6 l8.length c7)]) (As' := [rowF flat_Row 38 a6 c7 l8, .box b2 [.int .i64 p1.table, .int .u16 p1.id]]) (ob := []) (by kernel_rfl) (trivial) fun a w hS => ?_
      refine wl_end ?_
      refine hK28 _ _ ?_
      refine k_ret (by kernel_rfl) ?_
      obtain rfl := someI h
      try simp only [Exit.then, Exit.inBlock]
      refine r_ret hS [.tmp 4] [] (xs := [.slice a6 l8.length c7]) (ps := []) [0] [] rfl (by kernel_rfl) (fun hA => trivial) rfl (fun F up => trivial) ?_
      exact ⟨a6, c7, rfl, rfl, rfl⟩

/-! bursary bursaryref05.With -/
def ref05_With_j1 (n : Nat) (y6 : (List Row)) (v17 : Int) (k_ref05_With_l1 : ((List Row) → Bool → Int → Option (List Row))) (v25 : Bool) (l28 : (List Row)) : Option (List Row) :=
  (idx y6 v17).bind fun x29 =>
  (app 40 l28 ([x29] : List Row)).bind fun l31 =>
  k_ref05_With_l1 l31 v25 (IntKind.wrap .i64 (v17 + 1))
def ref05_With_j2 (n : Nat) (p1 : Row) (y6 : (List Row)) (l14 : (List Row)) (v16 : Bool) (v17 : Int) (k_ref05_With_l1 : ((List Row) → Bool → Int → Option (List Row))) (v36 : Bool) : Option (List Row) :=
  cond v36
    ((app 40 l14 ([p1] : List Row)).bind fun l40 =>
    ref05_With_j1 n y6 v17 (k_ref05_With_l1) true l40)
    (ref05_With_j1 n y6 v17 (k_ref05_With_l1) v16 l14)
def ref05_With_l1 (n : Nat) (p1 : Row) (y6 : (List Row)) : Nat → (List Row) → Bool → Int → Option (List Row)
  | 0, _, _, _ => none
  | m18 + 1, l14, v16, v17 =>
    cond (decide (v17 < (y6.length : Int)))
      (cond (!v16)
        ((idx y6 v17).bind fun x44 =>
        (ref05_Compare n p1.key x44.key).bind fun y45 =>
        ref05_With_j2 n p1 y6 l14 v16 v17 (ref05_With_l1 n p1 y6 m18) (decide (y45 < 0)))
        (ref05_With_j2 n p1 y6 l14 v16 v17 (ref05_With_l1 n p1 y6 m18) false))
      (cond (!v16)
        ((app 40 l14 ([p1] : List Row)).bind fun l50 =>
        some l50)
        (some l14))
def ref05_With (n : Nat) (p0 : (List Row)) (p1 : Row) : Option (List Row) :=
  (ref05_Without n p0 p1.key).bind fun y6 =>
  ref05_With_l1 n p1 y6 n ([] : List Row) false 0
theorem ref05_With_ok {a0 : Option Addr} {c0 : Nat} (n : Nat) (p0 : (List Row)) (p1 : Row) (r : (List Row))  (h : ref05_With n p0 p1 = some r) :
    Meets Try.prog 26 #[.slice a0 p0.length c0, Value.agg #[.int .i64 p1.key.table, .int .u16 p1.key.id, .int .i64 p1.val, .string p1.note]] [] [RSf flat_Row a0 c0 p0] fun v A P => ∃ (a0 : Option Addr) (c0 : Nat), v = .slice a0 r.length c0 ∧ A = [rowF flat_Row 38 a0 c0 r] ∧ P = [] := by
  unfold ref05_With at h
  refine meets_enter 50 Try.func26 Try.call26 rfl (by kernel_rfl) (by simp) fun C a w hS => ?_
  refine k_seq (by kernel_rfl) fun K1 hK1 => ?_
  refine k_reg 2 (by kernel_rfl) ?_
  refine r_run1 0 2 [0, 3] [] hS rfl (L' := fun b2 => [(0, .slice a0 p0.length c0), (3, .pointer (some ⟨b2, 0, none⟩))]) (As' := fun b2 => [.box b2 [.int .i64 p1.key.table, .int .u16 p1.key.id, .int .i64 p1.val, .string p1.note]]) (ob := fun b2 => []) (fun b2 => by kernel_rfl) (fun b2 => trivial) fun b2 a w hS => ?_
  refine wl_end ?_
  refine hK1 _ _ ?_
  refine k_seq (by kernel_rfl) fun K3 hK3 => ?_
  refine k_reg 1 (by kernel_rfl) ?_
  refine r_run 0 1 [0, 3, 5] [] hS rfl (L' := [(0, .slice a0 p0.length c0), (3, .pointer (some ⟨b2, 0, none⟩)), (5, .slice none 0 0)]) (As' := [.box b2 [.int .i64 p1.key.table, .int .u16 p1.key.id, .int .i64 p1.val, .string p1.note]]) (ob := []) (by kernel_rfl) (trivial) fun a w hS => ?_
  refine wl_end ?_
  refine hK3 _ _ ?_
  refine k_seq (by kernel_rfl) fun K4 hK4 => ?_
  refine k_reg 1 (by kernel_rfl) ?_
  refine r_run 0 1 [0, 3, 5, 6] [] hS rfl (L' := [(0, .slice a0 p0.length c0), (3, .pointer (some ⟨b2, 0, none⟩)), (5, .slice none 0 0), (6, .bool false)]) (As' := [.box b2 [.int .i64 p1.key.table, .int .u16 p1.key.id, .int .i64 p1.val, .string p1.note]]) (ob := []) (by kernel_rfl) (trivial) fun a w hS => ?_
  refine wl_end ?_
  refine hK4 _ _ ?_
  refine k_seq (by kernel_rfl) fun K5 hK5 => ?_
  refine k_reg 5 (by kernel_rfl) ?_
  refine r_run 0 3 [3, 5, 6, 9, 11] [.own 0 0] hS rfl (L' := [(3, .pointer (some ⟨b2, 0, none⟩)), (5, .slice none 0 0), (6, .bool false), (9, .slice a0 p0.length c0), (11, Value.agg #[.int .i64 p1.key.table, .int .u16 p1.key.id])]) (As' := [.box b2 [.int .i64 p1.key.table, .int .u16 p1.key.id, .int .i64 p1.val, .string p1.note]]) (ob := [fun _ => (⟨b2, 0, none⟩ : Addr) = (⟨b2, 0, none⟩ : Addr).add 0]) (by kernel_rfl) (⟨Bx.c rfl, trivial⟩) fun a w hS => ?_
  obtain ⟨y6, hy6, h⟩ := bindS h
  refine r_call 3 rfl (d := some 12) (g := 27) (args := #[.slice a0 p0.length c0, Value.agg #[.int .i64 p1.key.table, .int .u16 p1.key.id]]) [] hS (by kernel_rfl) rfl (ref05_Without_ok n p0 p1.key y6 hy6) (fun F up => ⟨up (hS.p 0 rfl), trivial⟩) ?_
  rintro v A P a w ⟨a7, c8, rfl, rfl, rfl⟩ hS
  refine r_run 4 1 [3, 5, 6, 7] [] hS rfl (L' := [(3, .pointer (some ⟨b2, 0, none⟩)), (5, .slice none 0 0), (6, .bool false), (7, .slice a7 y6.length c8)]) (As' := [rowF flat_Row 38 a7 c8 y6, .box b2 [.int .i64 p1.key.table, .int .u16 p1.key.id, .int .i64 p1.val, .string p1.note]]) (ob := []) (by kernel_rfl) (trivial) fun a w hS => ?_
  refine wl_end ?_
  refine hK5 _ _ ?_
  refine k_seq (by kernel_rfl) fun K10 hK10 => ?_
  refine k_seq (by kernel_rfl) fun K11 hK11 => ?_
  refine k_reg 1 (by kernel_rfl) ?_
  refine r_run 0 1 [3, 5, 6, 7, 8] [] hS rfl (L' := [(3, .pointer (some ⟨b2, 0, none⟩)), (5, .slice none 0 0), (6, .bool false), (7, .slice a7 y6.length c8), (8, .int .i64 0)]) (As' := [rowF flat_Row 38 a7 c8 y6, .box b2 [.int .i64 p1.key.table, .int .u16 p1.key.id, .int .i64 p1.val, .string p1.note]]) (ob := []) (by kernel_rfl) (trivial) fun a w hS => ?_
  refine wl_end ?_
  refine hK11 _ _ ?_
  refine k_blk (by kernel_rfl) ?_
  replace hS := hS.nilrow (e := 38) (sz := 4)
  refine k_loop (by kernel_rfl) (fun m18 a w => ∃ (a12 : Option Addr) (c13 : Nat) (l14 : (List Row)) (v16 : Bool) (v17 : Int), ref05_With_l1 n p1 y6 m18 l14 v16 v17 = some r ∧ Sy C 50 a w [(3, .pointer (some ⟨b2, 0, none⟩)), (5, .slice a12 l14.length c13), (6, .bool v16), (7, .slice a7 y6.length c8), (8, .int .i64 v17)] [rowF flat_Row 38 a12 c13 l14, rowF flat_Row 38 a7 c8 y6, .box b2 [.int .i64 p1.key.table, .int .u16 p1.key.id, .int .i64 p1.val, .string p1.note]] [RSf flat_Row a0 c0 p0]) n ⟨none, 0, ([] : List Row), false, 0, h, (hS.got [3, 5, 6, 7, 8] [0, 0, 0] [] 0 (by kernel_rfl) (by kernel_rfl) (by kernel_rfl))⟩ ?_
  rintro m18 a w ⟨a12, c13, l14, v16, v17, h, hS⟩ K19 hK19
  cases m18 with
  | zero => exact (noneS h).elim
  | succ m18 =>
    unfold ref05_With_l1 at h
    refine k_seq (by kernel_rfl) fun K20 hK20 => ?_
    refine k_seq (by kernel_rfl) fun K21 hK21 => ?_
    refine k_reg 4 (by kernel_rfl) ?_
    refine r_run 0 4 [3, 5, 6, 7, 8, 16] [] hS rfl (L' := [(3, .pointer (some ⟨b2, 0, none⟩)), (5, .slice a12 l14.length c13), (6, .bool v16), (7, .slice a7 y6.length c8), (8, .int .i64 v17), (16, .bool (decide (v17 < (y6.length : Int))))]) (As' := [rowF flat_Row 38 a12 c13 l14, rowF flat_Row 38 a7 c8 y6, .box b2 [.int .i64 p1.key.table, .int .u16 p1.key.id, .int .i64 p1.val, .string p1.note]]) (ob := []) (by kernel_rfl) (trivial) fun a w hS => ?_
    refine wl_end ?_
    refine hK21 _ _ ?_
    refine k_cond (decide (v17 < (y6.length : Int))) hS.has (by kernel_rfl) (by kernel_rfl) (by kernel_rfl) (fun hb22 => ?_) (fun hb22 => ?_)
    · replace h := ctrue hb22 h
      refine k_skip (by kernel_rfl) ?_
      refine hK20 _ _ ?_
      refine k_seq (by kernel_rfl) fun K23 hK23 => ?_
      refine k_blk (by kernel_rfl) ?_
      refine k_seq (by kernel_rfl) fun K24 hK24 => ?_
      have JK24 : ∀ (a26 : Option Addr) (c27 : Nat) (v25 : Bool) (l28 : (List Row)) a w, Sy C 50 a w [(3, .pointer (some ⟨b2, 0, none⟩)), (5, .slice a26 l28.length c27), (6, .bool v25), (7, .slice a7 y6.length c8), (8, .int .i64 v17)] [rowF flat_Row 38 a26 c27 l28, rowF flat_Row 38 a7 c8 y6, .box b2 [.int .i64 p1.key.table, .int .u16 p1.key.id, .int .i64 p1.val, .string p1.note]] [RSf flat_Row a0 c0 p0] → ref05_With_j1 n y6 v17 (ref05_With_l1 n p1 y6 m18) v25 l28 = some r → K24 a w := by
        intro a26 c27 v25 l28 a w hS h
        unfold ref05_With_j1 at h
        refine hK24 _ _ ?_
        refine k_reg 8 (by kernel_rfl) ?_
        obtain ⟨x29, hx29, h⟩ := bindS h
        have ix29 := rowInb (F := flat_Row) hS 1 rfl hx29
        refine r_run1 0 6 [3, 6, 7, 8, 36, 41] [.row 1 [.int .i64 x29.key.table, .int .u16 x29.key.id, .int .i64 x29.val, .string x29.note]] hS rfl (L' := fun b30 => [(3, .pointer (some ⟨b2, 0, none⟩)), (6, .bool v25), (7, .slice a7 y6.length c8), (8, .int .i64 v17), (36, .slice a26 l28.length c27), (41, .slice (some ⟨b30, 0, none⟩) ([x29] : List Row).length 1)]) (As' := fun b30 => [rowF flat_Row 38 (some ⟨b30, 0, none⟩) 1 ([x29] : List Row), rowF flat_Row 38 a26 c27 l28, rowF flat_Row 38 a7 c8 y6, .box b2 [.int .i64 p1.key.table, .int .u16 p1.key.id, .int .i64 p1.val, .string p1.note]]) (ob := fun b30 => [fun _ => Inb a7 y6.length v17, fun _ => LoadOk (rowF flat_Row 38 a7 c8 y6) (Addr.add (baseOf a7) (Int.toNat v17 * 4)) [.int .i64 x29.key.table, .int .u16 x29.key.id, .int .i64 x29.val, .string x29.note]]) (fun b30 => by kernel_rfl) (fun b30 => ⟨Bx.c ix29, Bx.c (loadRow hx29), trivial⟩) fun b30 a w hS => ?_
        obtain ⟨l31, hl31, h⟩ := bindS h
        obtain ⟨hl31r, hl31e⟩ := app_some hl31
        refine r_append 6 rfl (d := 42) (t := 25) (A := a26) (c := c27) (k := l28.length) (b := (some ⟨b30, 0, none⟩)) (c2 := 1) (m := ([x29] : List Row).length) (([x29] : List Row).flatMap flat_Row.enc) 1 [0] hS appT_25 (by kernel_rfl) rfl rfl (fun F up le => appB (F := flat_Row) (le 0 rfl _ fun w h => rowRS h)) hl31r fun a32 c33 a w hS => ?_
        replace hS := rowF_app (F := flat_Row) (l := l28) (m := ([x29] : List Row)) hS hl31e
        refine r_run 7 1 [3, 5, 6, 7, 8] [] hS rfl (L' := [(3, .pointer (some ⟨b2, 0, none⟩)), (5, .slice a32 l31.length c33), (6, .bool v25), (7, .slice a7 y6.length c8), (8, .int .i64 v17)]) (As' := [rowF flat_Row 38 a32 c33 l31, rowF flat_Row 38 (some ⟨b30, 0, none⟩) 1 ([x29] : List Row), rowF flat_Row 38 a7 c8 y6, .box b2 [.int .i64 p1.key.table, .int .u16 p1.key.id, .int .i64 p1.val, .string p1.note]]) (ob := []) (by kernel_rfl) (trivial) fun a w hS => ?_
        refine wl_end ?_
        refine hK23 _ _ ?_
        refine k_reg 3 (by kernel_rfl) ?_
        refine r_run 0 3 [3, 5, 6, 7, 8] [] hS rfl (L' := [(3, .pointer (some ⟨b2, 0, none⟩)), (5, .slice a32 l31.length c33), (6, .bool v25), (7, .slice a7 y6.length c8), (8, .int .i64 (IntKind.wrap .i64 (v17 + 1)))]) (As' := [rowF flat_Row 38 a32 c33 l31, rowF flat_Row 38 (some ⟨b30, 0, none⟩) 1 ([x29] : List Row), rowF flat_Row 38 a7 c8 y6, .box b2 [.int .i64 p1.key.table, .int .u16 p1.key.id, .int .i64 p1.val, .string p1.note]]) (ob := []) (by kernel_rfl) (trivial) fun a w hS => ?_
        refine wl_end ?_
        exact hK19 m18 _ _ (Nat.lt_succ_self _) ⟨a32, c33, l31, v25, (IntKind.wrap .i64 (v17 + 1)), h, (hS.got [3, 5, 6, 7, 8] [0, 1, 1] [] 0 (by kernel_rfl) (by kernel_rfl) (by kernel_rfl))⟩
      refine k_seq (by kernel_rfl) fun K34 hK34 => ?_
      refine c_name fun K35 hK35 => ?_
      have JK35 : ∀ (v36 : Bool) a w, Sy C 50 a w [(3, .pointer (some ⟨b2, 0, none⟩)), (5, .slice a12 l14.length c13), (6, .bool v16), (7, .slice a7 y6.length c8), (8, .int .i64 v17), (31, .bool v36)] [rowF flat_Row 38 a12 c13 l14, rowF flat_Row 38 a7 c8 y6, .box b2 [.int .i64 p1.key.table, .int .u16 p1.key.id, .int .i64 p1.val, .string p1.note]] [RSf flat_Row a0 c0 p0] → ref05_With_j2 n p1 y6 l14 v16 v17 (ref05_With_l1 n p1 y6 m18) v36 = some r → K35 a w := by
        intro v36 a w hS h
        unfold ref05_With_j2 at h
        refine hK35 _ _ ?_
        refine hK34 _ _ ?_
        refine k_cond v36 hS.has (by kernel_rfl) (by kernel_rfl) (by kernel_rfl) (fun hb37 => ?_) (fun hb37 => ?_)
        · replace h := ctrue hb37 h
          refine k_seq (by kernel_rfl) fun K38 hK38 => ?_
          refine k_reg 5 (by kernel_rfl) ?_
          refine r_run1 0 3 [3, 7, 8, 32, 34] [.own 2 0] hS rfl (L' := fun b39 => [(3, .pointer (some ⟨b2, 0, none⟩)), (7, .slice a7 y6.length c8), (8, .int .i64 v17), (32, .slice a12 l14.length c13), (34, .slice (some ⟨b39, 0, none⟩) ([p1] : List Row).length 1)]) (As' := fun b39 => [rowF flat_Row 38 (some ⟨b39, 0, none⟩) 1 ([p1] : List Row), rowF flat_Row 38 a12 c13 l14, rowF flat_Row 38 a7 c8 y6, .box b2 [.int .i64 p1.key.table, .int .u16 p1.key.id, .int .i64 p1.val, .string p1.note]]) (ob := fun b39 => [fun _ => (⟨b2, 0, none⟩ : Addr) = (⟨b2, 0, none⟩ : Addr).add 0]) (fun b39 => by kernel_rfl) (fun b39 => ⟨Bx.c rfl, trivial⟩) fun b39 a w hS => ?_
          obtain ⟨l40, hl40, h⟩ := bindS h
          obtain ⟨hl40r, hl40e⟩ := app_some hl40
          refine r_append 3 rfl (d := 35) (t := 25) (A := a12) (c := c13) (k := l14.length) (b := (some ⟨b39, 0, none⟩)) (c2 := 1) (m := ([p1] : List Row).length) (([p1] : List Row).flatMap flat_Row.enc) 1 [0] hS appT_25 (by kernel_rfl) rfl rfl (fun F up le => appB (F := flat_Row) (le 0 rfl _ fun w h => rowRS h)) hl40r fun a41 c42 a w hS => ?_
          replace hS := rowF_app (F := flat_Row) (l := l14) (m := ([p1] : List Row)) hS hl40e
          refine r_run 4 1 [3, 5, 7, 8] [] hS rfl (L' := [(3, .pointer (some ⟨b2, 0, none⟩)), (5, .slice a41 l40.length c42), (7, .slice a7 y6.length c8), (8, .int .i64 v17)]) (As' := [rowF flat_Row 38 a41 c42 l40, rowF flat_Row 38 (some ⟨b39, 0, none⟩) 1 ([p1] : List Row), rowF flat_Row 38 a7 c8 y6, .box b2 [.int .i64 p1.key.table, .int .u16 p1.key.id, .int .i64 p1.val, .string p1.note]]) (ob := []) (by kernel_rfl) (trivial) fun a w hS => ?_
          refine wl_end ?_
          refine hK38 _ _ ?_
          refine k_reg 1 (by kernel_rfl) ?_
          refine r_run 0 1 [3, 5, 6, 7, 8] [] hS rfl (L' := [(3, .pointer (some ⟨b2, 0, none⟩)), (5, .slice a41 l40.length c42), (6, .bool true), (7, .slice a7 y6.length c8), (8, .int .i64 v17)]) (As' := [rowF flat_Row 38 a41 c42 l40, rowF flat_Row 38 (some ⟨b39, 0, none⟩) 1 ([p1] : List Row), rowF flat_Row 38 a7 c8 y6, .box b2 [.int .i64 p1.key.table, .int .u16 p1.key.id, .int .i64 p1.val, .string p1.note]]) (ob := []) (by kernel_rfl) (trivial) fun a w hS => ?_
          refine wl_end ?_
          exact JK24 a41 c42 true l40 _ _ (hS.got [3, 5, 6, 7, 8] [0, 1, 1] [] 0 (by kernel_rfl) (by kernel_rfl) (by kernel_rfl)) h
        · replace h := cfalse hb37 h
          refine k_skip (by kernel_rfl) ?_
          exact JK24 a12 c13 v16 l14 _ _ (hS.got [3, 5, 6, 7, 8] [0, 0, 0] [] 0 (by kernel_rfl) (by kernel_rfl) (by kernel_rfl)) h
      cases hb43 : (!v16)
      · replace h := cfalse hb43 h
        refine k_draw 10 13 [.val (.bool v16), .val (.bool (!v16)), .val (.bool false), .val (undef), .val (undef), .val (undef), .val (undef), .val (undef), .val (undef), .val (undef)] [] [(0, []), (1, []), (2, [.as 21 (.bool false)]), (3, []), (4, []), (5, []), (6, []), (7, []), (8, []), (9, [])] [] (ob := [fun _ => Value.bool (!v16) = .bool false]) (by kernel_rfl) (by kernel_rfl) hS (by kernel_rfl) (fun F N0 => by kernel_rfl) (by kernel_rfl) (by kernel_rfl) (by kernel_rfl) (by kernel_rfl) ⟨Bx.c (by rw [hb43]), trivial⟩ ?_ ?_
        · exact trivial
        intro V a w e hS hq
        refine r_run 10 3 [3, 5, 6, 7, 8, 31] [] hS rfl (L' := [(3, .pointer (some ⟨b2, 0, none⟩)), (5, .slice a12 l14.length c13), (6, .bool v16), (7, .slice a7 y6.length c8), (8, .int .i64 v17), (31, .bool false)]) (As' := [rowF flat_Row 38 a12 c13 l14, rowF flat_Row 38 a7 c8 y6, .box b2 [.int .i64 p1.key.table, .int .u16 p1.key.id, .int .i64 p1.val, .string p1.note]]) (ob := []) (by kernel_rfl) (trivial) fun a w hS => ?_
        refine wl_end ?_
        exact JK35 false _ _ (hS.got [3, 5, 6, 7, 8, 31] [0, 0, 0] [] 0 (by kernel_rfl) (by kernel_rfl) (by kernel_rfl)) h
      · replace h := ctrue hb43 h
        obtain ⟨x44, hx44, h⟩ := bindS h
        have ix44 := rowInb (F := flat_Row) hS 1 rfl hx44
        refine k_draw 10 13 [.val (.bool v16), .val (.bool (!v16)), .val (.bool true), .val (.pointer (some ⟨b2, 0, none⟩)), .val (Value.agg #[.int .i64 p1.key.table, .int .u16 p1.key.id]), .val (.slice a7 y6.length c8), .val (.int .i64 v17), .val (.pointer (some (Addr.add (baseOf a7) (Int.toNat v17 * 4)))), .val (.pointer (some (Addr.add (Addr.add (baseOf a7) (Int.toNat v17 * 4)) 0))), .val (Value.agg #[.int .i64 x44.key.table, .int .u16 x44.key.id])] [] [(0, []), (1, []), (2, [.as 21 (.bool true)]), (3, []), (4, [.own 2 0]), (5, []), (6, []), (7, []), (8, []), (9, [.row 1 [.int .i64 x44.key.table, .int .u16 x44.key.id]])] [] (ob := [fun _ => Value.bool (!v16) = .bool true, fun _ => (⟨b2, 0, none⟩ : Addr) = (⟨b2, 0, none⟩ : Addr).add 0, fun _ => Inb a7 y6.length v17, fun _ => LoadOk (rowF flat_Row 38 a7 c8 y6) (Addr.add (Addr.add (baseOf a7) (Int.toNat v17 * 4)) 0) [.int .i64 x44.key.table, .int .u16 x44.key.id]]) (by kernel_rfl) (by kernel_rfl) hS (by kernel_rfl) (fun F N0 => by kernel_rfl) (by kernel_rfl) (by kernel_rfl) (by kernel_rfl) (by kernel_rfl) ⟨Bx.c (by rw [hb43]), Bx.c rfl, Bx.c ix44, Bx.c (LoadOk.sub (loadRow hx44) 0 2), trivial⟩ ?_ ?_
        · exact trivial
        intro V a w e hS hq
        obtain ⟨y45, hy45, h⟩ := bindS h
        refine r_call 10 rfl (d := some 29) (g := 32) (args := #[Value.agg #[.int .i64 p1.key.table, .int .u16 p1.key.id], Value.agg #[.int .i64 x44.key.table, .int .u16 x44.key.id]]) [] hS (by kernel_rfl) rfl (ref05_Compare_ok n p1.key x44.key y45 hy45) (fun F up => trivial) ?_
        rintro v A P a w ⟨rfl, rfl, rfl⟩ hS
        refine r_run 11 2 [3, 5, 6, 7, 8, 31] [] hS rfl (L' := [(3, .pointer (some ⟨b2, 0, none⟩)), (5, .slice a12 l14.length c13), (6, .bool v16), (7, .slice a7 y6.length c8), (8, .int .i64 v17), (31, .bool (decide (y45 < 0)))]) (As' := [rowF flat_Row 38 a12 c13 l14, rowF flat_Row 38 a7 c8 y6, .box b2 [.int .i64 p1.key.table, .int .u16 p1.key.id, .int .i64 p1.val, .string p1.note]]) (ob := []) (by kernel_rfl) (trivial) fun a w hS => ?_
        refine wl_end ?_
        exact JK35 (decide (y45 < 0)) _ _ (hS.got [3, 5, 6, 7, 8, 31] [0, 0, 0] [] 0 (by kernel_rfl) (by kernel_rfl) (by kernel_rfl)) h
    · replace h := cfalse hb22 h
      refine k_exit 0 (by kernel_rfl) ?_
      refine hK10 _ _ ?_
      refine k_seq (by kernel_rfl) fun K46 hK46 => ?_
      refine k_seq (by kernel_rfl) fun K47 hK47 => ?_
      refine k_reg 2 (by kernel_rfl) ?_
      refine r_run 0 2 [3, 5, 44] [] hS rfl (L' := [(3, .pointer (some ⟨b2, 0, none⟩)), (5, .slice a12 l14.length c13), (44, .bool (!v16))]) (As' := [rowF flat_Row 38 a12 c13 l14, rowF flat_Row 38 a7 c8 y6, .box b2 [.int .i64 p1.key.table, .int .u16 p1.key.id, .int .i64 p1.val, .string p1.note]]) (ob := []) (by kernel_rfl) (trivial) fun a w hS => ?_
      refine wl_end ?_
      refine hK47 _ _ ?_
      refine k_cond (!v16) hS.has (by kernel_rfl) (by kernel_rfl) (by kernel_rfl) (fun hb48 => ?_) (fun hb48 => ?_)
      · replace h := ctrue hb48 h
        refine k_reg 5 (by kernel_rfl) ?_
        refine r_run1 0 3 [45, 47] [.own 2 0] hS rfl (L' := fun b49 => [(45, .slice a12 l14.length c13), (47, .slice (some ⟨b49, 0, none⟩) ([p1] : List Row).length 1)]) (As' := fun b49 => [rowF flat_Row 38 (some ⟨b49, 0, none⟩) 1 ([p1] : List Row), rowF flat_Row 38 a12 c13 l14, rowF flat_Row 38 a7 c8 y6, .box b2 [.int .i64 p1.key.table, .int .u16 p1.key.id, .int .i64 p1.val, .string p1.note]]) (ob := fun b49 => [fun _ => (⟨b2, 0, none⟩ : Addr) = (⟨b2, 0, none⟩ : Addr).add 0]) (fun b49 => by kernel_rfl) (fun b49 => ⟨Bx.c rfl, trivial⟩) fun b49 a w hS => ?_
        obtain ⟨l50, hl50, h⟩ := bindS h
        obtain ⟨hl50r, hl50e⟩ := app_some hl50
        refine r_append 3 rfl (d := 48) (t := 25) (A := a12) (c := c13) (k := l14.length) (b := (some ⟨b49, 0, none⟩)) (c2 := 1) (m := ([p1] : List Row).length) (([p1] : List Row).flatMap flat_Row.enc) 1 [0] hS appT_25 (by kernel_rfl) rfl rfl (fun F up le => appB (F := flat_Row) (le 0 rfl _ fun w h => rowRS h)) hl50r fun a51 c52 a w hS => ?_
        replace hS := rowF_app (F := flat_Row) (l := l14) (m := ([p1] : List Row)) hS hl50e
        refine r_run 4 1 [5] [] hS rfl (L' := [(5, .slice a51 l50.length c52)]) (As' := [rowF flat_Row 38 a51 c52 l50, rowF flat_Row 38 (some ⟨b49, 0, none⟩) 1 ([p1] : List Row), rowF flat_Row 38 a7 c8 y6, .box b2 [.int .i64 p1.key.table, .int .u16 p1.key.id, .int .i64 p1.val, .string p1.note]]) (ob := []) (by kernel_rfl) (trivial) fun a w hS => ?_
        refine wl_end ?_
        refine hK46 _ _ ?_
        refine k_seq (by kernel_rfl) fun K53 hK53 => ?_
        refine k_reg 2 (by kernel_rfl) ?_
        refine r_run 0 2 [4] [] hS rfl (L' := [(4, .slice a51 l50.length c52)]) (As' := [rowF flat_Row 38 a51 c52 l50, rowF flat_Row 38 (some ⟨b49, 0, none⟩) 1 ([p1] : List Row), rowF flat_Row 38 a7 c8 y6, .box b2 [.int .i64 p1.key.table, .int .u16 p1.key.id, .int .i64 p1.val, .string p1.note]]) (ob := []) (by kernel_rfl) (trivial) fun a w hS => ?_
        refine wl_end ?_
        refine hK53 _ _ ?_
        refine k_ret (by kernel_rfl) ?_
        obtain rfl := someI h
        try simp only [Exit.then, Exit.inBlock]
        refine r_ret hS [.tmp 4] [] (xs := [.slice a51 l50.length c52]) (ps := []) [0] [] rfl (by kernel_rfl) (fun hA => trivial) rfl (fun F up => trivial) ?_
        exact ⟨a51, c52, rfl, rfl, rfl⟩
      · replace h := cfalse hb48 h
        refine k_skip (by kernel_rfl) ?_
        refine hK46 _ _ ?_
        refine k_seq (by kernel_rfl) fun K54 hK54 => ?_
        refine k_reg 2 (by kernel_rfl) ?_
        refine r_run 0 2 [4] [] hS rfl (L' := [(4, .slice a12 l14.length c13)]) (As' := [rowF flat_Row 38 a12 c13 l14, rowF flat_Row 38 a7 c8 y6, .box b2 [.int .i64 p1.key.table, .int .u16 p1.key.id, .int .i64 p1.val, .string p1.note]]) (ob := []) (by kernel_rfl) (trivial) fun a w hS => ?_
        refine wl_end ?_
        refine hK54 _ _ ?_
        refine k_ret (by kernel_rfl) ?_
        obtain rfl := someI h
        try simp only [Exit.then, Exit.inBlock]
        refine r_ret hS [.tmp 4] [] (xs := [.slice a12 l14.length c13]) (ps := []) [0] [] rfl (by kernel_rfl) (fun hA => trivial) rfl (fun F up => trivial) ?_
        exact ⟨a12, c13, rfl, rfl, rfl⟩

/-! bursary bursaryref05.Of -/
def ref05_Of_j1 (n : Nat) (v9 : Int) (k_ref05_Of_l1 : ((List Row) → Int → Option (List Row))) (l18 : (List Row)) : Option (List Row) :=
  k_ref05_Of_l1 l18 (IntKind.wrap .i64 (v9 + 1))
def ref05_Of_l1 (n : Nat) (p0 : (List Row)) (p1 : Int) : Nat → (List Row) → Int → Option (List Row)
  | 0, _, _ => none
  | m10 + 1, l7, v9 =>
    cond (decide (v9 < (p0.length : Int)))
      ((idx p0 v9).bind fun x20 =>
      cond (x20.key.table == p1)
        ((idx p0 v9).bind fun x22 =>
        (app 40 l7 ([x22] : List Row)).bind fun l24 =>
        ref05_Of_j1 n v9 (ref05_Of_l1 n p0 p1 m10) l24)
        (ref05_Of_j1 n v9 (ref05_Of_l1 n p0 p1 m10) l7))
      (some l7)
def ref05_Of (n : Nat) (p0 : (List Row)) (p1 : Int) : Option (List Row) :=
  ref05_Of_l1 n p0 p1 n ([] : List Row) 0
theorem ref05_Of_ok {a0 : Option Addr} {c0 : Nat} (n : Nat) (p0 : (List Row)) (p1 : Int) (r : (List Row))  (h : ref05_Of n p0 p1 = some r) :
    Meets Try.prog 29 #[.slice a0 p0.length c0, .int .i64 p1] [] [RSf flat_Row a0 c0 p0] fun v A P => ∃ (a0 : Option Addr) (c0 : Nat), v = .slice a0 r.length c0 ∧ A = [rowF flat_Row 38 a0 c0 r] ∧ P = [] := by
  unfold ref05_Of at h
  refine meets_enter 29 Try.func29 Try.call29 rfl (by kernel_rfl) (by simp) fun C a w hS => ?_
  refine k_seq (by kernel_rfl) fun K1 hK1 => ?_
  refine k_reg 1 (by kernel_rfl) ?_
  refine r_run 0 1 [0, 1] [] hS rfl (L' := [(0, .slice a0 p0.length c0), (1, .int .i64 p1)]) (As' := []) (ob := []) (by kernel_rfl) (trivial) fun a w hS => ?_
  refine wl_end ?_
  refine hK1 _ _ ?_
  refine k_seq (by kernel_rfl) fun K2 hK2 => ?_
  refine k_reg 1 (by kernel_rfl) ?_
  refine r_run 0 1 [0, 1, 5] [] hS rfl (L' := [(0, .slice a0 p0.length c0), (1, .int .i64 p1), (5, .slice none 0 0)]) (As' := []) (ob := []) (by kernel_rfl) (trivial) fun a w hS => ?_
  refine wl_end ?_
  refine hK2 _ _ ?_
  refine k_seq (by kernel_rfl) fun K3 hK3 => ?_
  refine k_seq (by kernel_rfl) fun K4 hK4 => ?_
  refine k_reg 1 (by kernel_rfl) ?_
  refine r_run 0 1 [0, 1, 5, 6] [] hS rfl (L' := [(0, .slice a0 p0.length c0), (1, .int .i64 p1), (5, .slice none 0 0), (6, .int .i64 0)]) (As' := []) (ob := []) (by kernel_rfl) (trivial) fun a w hS => ?_
  refine wl_end ?_
  refine hK4 _ _ ?_
  refine k_blk (by kernel_rfl) ?_
  replace hS := hS.nilrow (e := 38) (sz := 4)
  refine k_loop (by kernel_rfl) (fun m10 a w => ∃ (a5 : Option Addr) (c6 : Nat) (l7 : (List Row)) (v9 : Int), ref05_Of_l1 n p0 p1 m10 l7 v9 = some r ∧ Sy C 29 a w [(0, .slice a0 p0.length c0), (1, .int .i64 p1), (5, .slice a5 l7.length c6), (6, .int .i64 v9)] [rowF flat_Row 38 a5 c6 l7] [RSf flat_Row a0 c0 p0]) n ⟨none, 0, ([] : List Row), 0, h, (hS.got [0, 1, 5, 6] [0] [] 0 (by kernel_rfl) (by kernel_rfl) (by kernel_rfl))⟩ ?_
  rintro m10 a w ⟨a5, c6, l7, v9, h, hS⟩ K11 hK11
  cases m10 with
  | zero => exact (noneS h).elim
  | succ m10 =>
    unfold ref05_Of_l1 at h
    refine k_seq (by kernel_rfl) fun K12 hK12 => ?_
    refine k_seq (by kernel_rfl) fun K13 hK13 => ?_
    refine k_reg 4 (by kernel_rfl) ?_
    refine r_run 0 4 [0, 1, 5, 6, 10] [] hS rfl (L' := [(0, .slice a0 p0.length c0), (1, .int .i64 p1), (5, .slice a5 l7.length c6), (6, .int .i64 v9), (10, .bool (decide (v9 < (p0.length : Int))))]) (As' := [rowF flat_Row 38 a5 c6 l7]) (ob := []) (by kernel_rfl) (trivial) fun a w hS => ?_
    refine wl_end ?_
    refine hK13 _ _ ?_
    refine k_cond (decide (v9 < (p0.length : Int))) hS.has (by kernel_rfl) (by kernel_rfl) (by kernel_rfl) (fun hb14 => ?_) (fun hb14 => ?_)
    · replace h := ctrue hb14 h
      refine k_skip (by kernel_rfl) ?_
      refine hK12 _ _ ?_
      refine k_seq (by kernel_rfl) fun K15 hK15 => ?_
      have JK15 : ∀ (a16 : Option Addr) (c17 : Nat) (l18 : (List Row)) a w, Sy C 29 a w [(0, .slice a0 p0.length c0), (1, .int .i64 p1), (5, .slice a16 l18.length c17), (6, .int .i64 v9)] [rowF flat_Row 38 a16 c17 l18] [RSf flat_Row a0 c0 p0] → ref05_Of_j1 n v9 (ref05_Of_l1 n p0 p1 m10) l18 = some r → K15 a w := by
        intro a16 c17 l18 a w hS h
        unfold ref05_Of_j1 at h
        refine hK15 _ _ ?_
        refine k_reg 3 (by kernel_rfl) ?_
        refine r_run 0 3 [0, 1, 5, 6] [] hS rfl (L' := [(0, .slice a0 p0.length c0), (1, .int .i64 p1), (5, .slice a16 l18.length c17), (6, .int .i64 (IntKind.wrap .i64 (v9 + 1)))]) (As' := [rowF flat_Row 38 a16 c17 l18]) (ob := []) (by kernel_rfl) (trivial) fun a w hS => ?_
        refine wl_end ?_
        exact hK11 m10 _ _ (Nat.lt_succ_self _) ⟨a16, c17, l18, (IntKind.wrap .i64 (v9 + 1)), h, (hS.got [0, 1, 5, 6] [0] [] 0 (by kernel_rfl) (by kernel_rfl) (by kernel_rfl))⟩
      refine k_blk (by kernel_rfl) ?_
      refine k_seq (by kernel_rfl) fun K19 hK19 => ?_
      refine k_reg 8 (by kernel_rfl) ?_
      obtain ⟨x20, hx20, h⟩ := bindS h
      have ix20 := fidxB (F := flat_Row) (hS.p 0 rfl) hx20
      refine r_run 0 8 [0, 1, 5, 6, 20] [.ext [.int .i64 x20.key.table]] hS rfl (L' := [(0, .slice a0 p0.length c0), (1, .int .i64 p1), (5, .slice a5 l7.length c6), (6, .int .i64 v9), (20, .bool (x20.key.table == p1))]) (As' := [rowF flat_Row 38 a5 c6 l7]) (ob := [fun _ => Inb a0 p0.length v9, Cel (Addr.add (Addr.add (Addr.add (baseOf a0) (Int.toNat v9 * 4)) 0) 0) [.int .i64 x20.key.table]]) (by kernel_rfl) (⟨Bx.c ix20.1, (Bx.sub (Bx.sub ix20.2 0 2) 0 1), trivial⟩) fun a w hS => ?_
      refine wl_end ?_
      refine hK19 _ _ ?_
      refine k_cond (x20.key.table == p1) hS.has (by kernel_rfl) (by kernel_rfl) (by kernel_rfl) (fun hb21 => ?_) (fun hb21 => ?_)
      · replace h := ctrue hb21 h
        refine k_reg 8 (by kernel_rfl) ?_
        obtain ⟨x22, hx22, h⟩ := bindS h
        have ix22 := fidxB (F := flat_Row) (hS.p 0 rfl) hx22
        refine r_run1 0 6 [0, 1, 6, 21, 26] [.ext [.int .i64 x22.key.table, .int .u16 x22.key.id, .int .i64 x22.val, .string x22.note]] hS rfl (L' := fun b23 => [(0, .slice a0 p0.length c0), (1, .int .i64 p1), (6, .int .i64 v9), (21, .slice a5 l7.length c6), (26, .slice (some ⟨b23, 0, none⟩) ([x22] : List Row).length 1)]) (As' := fun b23 => [rowF flat_Row 38 (some ⟨b23, 0, none⟩) 1 ([x22] : List Row), rowF flat_Row 38 a5 c6 l7]) (ob := fun b23 => [fun _ => Inb a0 p0.length v9, Cel (Addr.add (baseOf a0) (Int.toNat v9 * 4)) [.int .i64 x22.key.table, .int .u16 x22.key.id, .int .i64 x22.val, .string x22.note]]) (fun b23 => by kernel_rfl) (fun b23 => ⟨Bx.c ix22.1, ix22.2, trivial⟩) fun b23 a w hS => ?_
        obtain ⟨l24, hl24, h⟩ := bindS h
        obtain ⟨hl24r, hl24e⟩ := app_some hl24
        refine r_append 6 rfl (d := 27) (t := 25) (A := a5) (c := c6) (k := l7.length) (b := (some ⟨b23, 0, none⟩)) (c2 := 1) (m := ([x22] : List Row).length) (([x22] : List Row).flatMap flat_Row.enc) 1 [0] hS appT_25 (by kernel_rfl) rfl rfl (fun F up le => appB (F := flat_Row) (le 0 rfl _ fun w h => rowRS h)) hl24r fun a25 c26 a w hS => ?_
        replace hS := rowF_app (F := flat_Row) (l := l7) (m := ([x22] : List Row)) hS hl24e
        refine r_run 7 1 [0, 1, 5, 6] [] hS rfl (L' := [(0, .slice a0 p0.length c0), (1, .int .i64 p1), (5, .slice a25 l24.length c26), (6, .int .i64 v9)]) (As' := [rowF flat_Row 38 a25 c26 l24, rowF flat_Row 38 (some ⟨b23, 0, none⟩) 1 ([x22] : List Row)]) (ob := []) (by kernel_rfl) (trivial) fun a w hS => ?_
        refine wl_end ?_
        exact JK15 a25 c26 l24 _ _ (hS.got [0, 1, 5, 6] [0] [] 0 (by kernel_rfl) (by kernel_rfl) (by kernel_rfl)) h
      · replace h := cfalse hb21 h
        refine k_skip (by kernel_rfl) ?_
        exact JK15 a5 c6 l7 _ _ (hS.got [0, 1, 5, 6] [0] [] 0 (by kernel_rfl) (by kernel_rfl) (by kernel_rfl)) h
    · replace h := cfalse hb14 h
      refine k_exit 0 (by kernel_rfl) ?_
      refine hK3 _ _ ?_
      refine k_seq (by kernel_rfl) fun K27 hK27 => ?_
      refine k_reg 2 (by kernel_rfl) ?_
      refine r_run 0 2 [4] [] hS rfl (L' := [(4, .slice a5 l7.length c6)]) (As' := [rowF flat_Row 38 a5 c6 l7]) (ob := []) (by kernel_rfl) (trivial) fun a w hS => ?_
      refine wl_end ?_
      refine hK27 _ _ ?_
      refine k_ret (by kernel_rfl) ?_
      obtain rfl := someI h
      try simp only [Exit.then, Exit.inBlock]
      refine r_ret hS [.tmp 4] [] (xs := [.slice a5 l7.length c6]) (ps := []) [0] [] rfl (by kernel_rfl) (fun hA => trivial) rfl (fun F up => trivial) ?_
      exact ⟨a5, c6, rfl, rfl, rfl⟩

/-! bursary row.Plus -/
def row_Plus (n : Nat) (p0 : Int) (p1 : Int) : Option (Int × Bool) :=
  cond ((!((decide ((IntKind.wrap .i64 (p0 + p1)) > p0)) == (decide (p1 > 0)))) && (p1 != 0))
    (some (0, false))
    (some ((IntKind.wrap .i64 (p0 + p1)), true))
theorem row_Plus_ok  (n : Nat) (p0 : Int) (p1 : Int) (r : (Int × Bool))  (h : row_Plus n p0 p1 = some r) :
    Meets Try.prog 30 #[.int .i64 p0, .int .i64 p1] [] [] fun v A P => v = .tuple #[.int .i64 r.1, .bool r.2] ∧ A = [] ∧ P = [] := by
  unfold row_Plus at h
  refine meets_enter 21 Try.func30 Try.call30 rfl (by kernel_rfl) (by simp) fun C a w hS => ?_
  refine k_seq (by kernel_rfl) fun K1 hK1 => ?_
  refine k_reg 2 (by kernel_rfl) ?_
  refine r_run 0 2 [0, 1] [] hS rfl (L' := [(0, .int .i64 p0), (1, .int .i64 p1)]) (As' := []) (ob := []) (by kernel_rfl) (trivial) fun a w hS => ?_
  refine wl_end ?_
  refine hK1 _ _ ?_
  refine k_seq (by kernel_rfl) fun K2 hK2 => ?_
  refine k_reg 4 (by kernel_rfl) ?_
  refine r_run 0 4 [0, 1, 6] [] hS rfl (L' := [(0, .int .i64 p0), (1, .int .i64 p1), (6, .int .i64 (IntKind.wrap .i64 (p0 + p1)))]) (As' := []) (ob := []) (by kernel_rfl) (trivial) fun a w hS => ?_
  refine wl_end ?_
  refine hK2 _ _ ?_
  refine k_seq (by kernel_rfl) fun K3 hK3 => ?_
  refine k_seq (by kernel_rfl) fun K4 hK4 => ?_
  refine k_reg 10 (by kernel_rfl) ?_
  refine r_run 0 7 [1, 6, 16] [] hS rfl (L' := [(1, .int .i64 p1), (6, .int .i64 (IntKind.wrap .i64 (p0 + p1))), (16, .bool (!((decide ((IntKind.wrap .i64 (p0 + p1)) > p0)) == (decide (p1 > 0)))))]) (As' := []) (ob := []) (by kernel_rfl) (trivial) fun a w hS => ?_
  refine wl_cut 10 rfl rfl fun K5 hK5 => ?_
  have JK5 : ∀ a w, Sy C 21 a w [(6, .int .i64 (IntKind.wrap .i64 (p0 + p1))), (19, .bool ((!((decide ((IntKind.wrap .i64 (p0 + p1)) > p0)) == (decide (p1 > 0)))) && (p1 != 0)))] [] [] → K5 a w := by
    intro a w hS
    refine hK5 _ _ ?_
    refine wl_end ?_
    refine hK4 _ _ ?_
    refine k_cond ((!((decide ((IntKind.wrap .i64 (p0 + p1)) > p0)) == (decide (p1 > 0)))) && (p1 != 0)) hS.has (by kernel_rfl) (by kernel_rfl) (by kernel_rfl) (fun hb6 => ?_) (fun hb6 => ?_)
    · replace h := ctrue hb6 h
      refine k_seq (by kernel_rfl) fun K7 hK7 => ?_
      refine k_reg 2 (by kernel_rfl) ?_
      refine r_run 0 2 [4, 5] [] hS rfl (L' := [(4, .int .i64 0), (5, .bool false)]) (As' := []) (ob := []) (by kernel_rfl) (trivial) fun a w hS => ?_
      refine wl_end ?_
      refine hK7 _ _ ?_
      refine k_ret (by kernel_rfl) ?_
      obtain rfl := someI h
      try simp only [Exit.then, Exit.inBlock]
      refine r_ret hS [.tmp 4, .tmp 5] [] (xs := [.int .i64 0, .bool false]) (ps := []) [] [] rfl (by kernel_rfl) (fun hA => trivial) rfl (fun F up => trivial) ?_
      exact ⟨rfl, rfl, rfl⟩
    · replace h := cfalse hb6 h
      refine k_skip (by kernel_rfl) ?_
      refine hK3 _ _ ?_
      refine k_seq (by kernel_rfl) fun K8 hK8 => ?_
      refine k_reg 3 (by kernel_rfl) ?_
      refine r_run 0 3 [4, 5] [] hS rfl (L' := [(4, .int .i64 (IntKind.wrap .i64 (p0 + p1))), (5, .bool true)]) (As' := []) (ob := []) (by kernel_rfl) (trivial) fun a w hS => ?_
      refine wl_end ?_
      refine hK8 _ _ ?_
      refine k_ret (by kernel_rfl) ?_
      obtain rfl := someI h
      try simp only [Exit.then, Exit.inBlock]
      refine r_ret hS [.tmp 4, .tmp 5] [] (xs := [.int .i64 (IntKind.wrap .i64 (p0 + p1)), .bool true]) (ps := []) [] [] rfl (by kernel_rfl) (fun hA => trivial) rfl (fun F up => trivial) ?_
      exact ⟨rfl, rfl, rfl⟩
  cases hb9 : (!((decide ((IntKind.wrap .i64 (p0 + p1)) > p0)) == (decide (p1 > 0))))
  · replace hS := hS.env (L' := [(1, .int .i64 p1), (6, .int .i64 (IntKind.wrap .i64 (p0 + p1))), (16, .bool false)]) (by rw [hb9])
    refine r_run 7 3 [6, 19] [] hS rfl (L' := [(6, .int .i64 (IntKind.wrap .i64 (p0 + p1))), (19, .bool false)]) (As' := []) (ob := []) (by kernel_rfl) (trivial) fun a w hS => ?_
    refine wl_end ?_
    replace hS := hS.got [6, 19] [] [] 0 (L' := [(6, .int .i64 (IntKind.wrap .i64 (p0 + p1))), (19, .bool false)]) (Bs := []) (Rs := []) (by kernel_rfl) (by kernel_rfl) (by kernel_rfl)
    exact JK5 _ _ (hS.env (by rw [hb9]; rfl))
  · replace hS := hS.env (L' := [(1, .int .i64 p1), (6, .int .i64 (IntKind.wrap .i64 (p0 + p1))), (16, .bool true)]) (by rw [hb9])
    refine r_run 7 3 [6, 19] [] hS rfl (L' := [(6, .int .i64 (IntKind.wrap .i64 (p0 + p1))), (19, .bool (p1 != 0))]) (As' := []) (ob := []) (by kernel_rfl) (trivial) fun a w hS => ?_
    refine wl_end ?_
    replace hS := hS.got [6, 19] [] [] 0 (L' := [(6, .int .i64 (IntKind.wrap .i64 (p0 + p1))), (19, .bool (p1 != 0))]) (Bs := []) (Rs := []) (by kernel_rfl) (by kernel_rfl) (by kernel_rfl)
    exact JK5 _ _ (hS.env (by rw [hb9]; rfl))

/-! bursary bursaryref05.Plus -/
def ref05_Plus (n : Nat) (p0 : Int) (p1 : Int) : Option (Int × Bool) :=
  cond (((decide (p1 > 0)) && (decide (p0 > (IntKind.wrap .i64 (9223372036854775807 - p1))))) || ((decide (p1 < 0)) && (decide (p0 < (IntKind.wrap .i64 ((IntKind.wrap .i64 ((IntKind.wrap .i64 (0 - 9223372036854775807)) - 1)) - p1))))))
    (some (0, false))
    (some ((IntKind.wrap .i64 (p0 + p1)), true))
theorem ref05_Plus_ok  (n : Nat) (p0 : Int) (p1 : Int) (r : (Int × Bool))  (h : ref05_Plus n p0 p1 = some r) :
    Meets Try.prog 31 #[.int .i64 p0, .int .i64 p1] [] [] fun v A P => v = .tuple #[.int .i64 r.1, .bool r.2] ∧ A = [] ∧ P = [] := by
  unfold ref05_Plus at h
  refine meets_enter 34 Try.func31 Try.call31 rfl (by kernel_rfl) (by simp) fun C a w hS => ?_
  refine k_seq (by kernel_rfl) fun K1 hK1 => ?_
  refine k_reg 2 (by kernel_rfl) ?_
  refine r_run 0 2 [0, 1] [] hS rfl (L' := [(0, .int .i64 p0), (1, .int .i64 p1)]) (As' := []) (ob := []) (by kernel_rfl) (trivial) fun a w hS => ?_
  refine wl_end ?_
  refine hK1 _ _ ?_
  refine k_seq (by kernel_rfl) fun K2 hK2 => ?_
  refine k_reg 1 (by kernel_rfl) ?_
  refine r_run 0 1 [0, 1, 6] [] hS rfl (L' := [(0, .int .i64 p0), (1, .int .i64 p1), (6, .int .i64 9223372036854775807)]) (As' := []) (ob := []) (by kernel_rfl) (trivial) fun a w hS => ?_
  refine wl_end ?_
  refine hK2 _ _ ?_
  refine k_seq (by kernel_rfl) fun K3 hK3 => ?_
  refine k_reg 4 (by kernel_rfl) ?_
  refine r_run 0 4 [0, 1, 6, 7] [] hS rfl (L' := [(0, .int .i64 p0), (1, .int .i64 p1), (6, .int .i64 9223372036854775807), (7, .int .i64 (IntKind.wrap .i64 ((IntKind.wrap .i64 (0 - 9223372036854775807)) - 1)))]) (As' := []) (ob := []) (by kernel_rfl) (trivial) fun a w hS => ?_
  refine wl_end ?_
  refine hK3 _ _ ?_
  refine k_seq (by kernel_rfl) fun K4 hK4 => ?_
  refine k_seq (by kernel_rfl) fun K5 hK5 => ?_
  refine k_reg 20 (by kernel_rfl) ?_
  refine r_run 0 3 [0, 1, 6, 7, 13] [] hS rfl (L' := [(0, .int .i64 p0), (1, .int .i64 p1), (6, .int .i64 9223372036854775807), (7, .int .i64 (IntKind.wrap .i64 ((IntKind.wrap .i64 (0 - 9223372036854775807)) - 1))), (13, .bool (decide (p1 > 0)))]) (As' := []) (ob := []) (by kernel_rfl) (trivial) fun a w hS => ?_
  refine wl_cut 9 rfl rfl fun K6 hK6 => ?_
  have JK6 : ∀ a w, Sy C 34 a w [(0, .int .i64 p0), (1, .int .i64 p1), (7, .int .i64 (IntKind.wrap .i64 ((IntKind.wrap .i64 (0 - 9223372036854775807)) - 1))), (19, .bool ((decide (p1 > 0)) && (decide (p0 > (IntKind.wrap .i64 (9223372036854775807 - p1))))))] [] [] → K6 a w := by
    intro a w hS
    refine hK6 _ _ ?_
    refine r_run 9 1 [0, 1, 7, 20] [] hS rfl (L' := [(0, .int .i64 p0), (1, .int .i64 p1), (7, .int .i64 (IntKind.wrap .i64 ((IntKind.wrap .i64 (0 - 9223372036854775807)) - 1))), (20, .bool ((decide (p1 > 0)) && (decide (p0 > (IntKind.wrap .i64 (9223372036854775807 - p1))))))]) (As' := []) (ob := []) (by kernel_rfl) (trivial) fun a w hS => ?_
    refine wl_cut 20 rfl rfl fun K7 hK7 => ?_
    have JK7 : ∀ a w, Sy C 34 a w [(0, .int .i64 p0), (1, .int .i64 p1), (30, .bool (((decide (p1 > 0)) && (decide (p0 > (IntKind.wrap .i64 (9223372036854775807 - p1))))) || ((decide (p1 < 0)) && (decide (p0 < (IntKind.wrap .i64 ((IntKind.wrap .i64 ((IntKind.wrap .i64 (0 - 9223372036854775807)) - 1)) - p1)))))))] [] [] → K7 a w := by
      intro a w hS
      refine hK7 _ _ ?_
      refine wl_end ?_
      refine hK5 _ _ ?_
      refine k_cond (((decide (p1 > 0)) && (decide (p0 > (IntKind.wrap .i64 (9223372036854775807 - p1))))) || ((decide (p1 < 0)) && (decide (p0 < (IntKind.wrap .i64 ((IntKind.wrap .i64 ((IntKind.wrap .i64 (0 - 9223372036854775807)) - 1)) - p1)))))) hS.has (by kernel_rfl) (by kernel_rfl) (by kernel_rfl) (fun hb8 => ?_) (fun hb8 => ?_)
      · replace h := ctrue hb8 h
        refine k_seq (by kernel_rfl) fun K9 hK9 => ?_
        refine k_reg 2 (by kernel_rfl) ?_
        refine r_run 0 2 [4, 5] [] hS rfl (L' := [(4, .int .i64 0), (5, .bool false)]) (As' := []) (ob := []) (by kernel_rfl) (trivial) fun a w hS => ?_
        refine wl_end ?_
        refine hK9 _ _ ?_
        refine k_ret (by kernel_rfl) ?_
        obtain rfl := someI h
        try simp only [Exit.then, Exit.inBlock]
        refine r_ret hS [.tmp 4, .tmp 5] [] (xs := [.int .i64 0, .bool false]) (ps := []) [] [] rfl (by kernel_rfl) (fun hA => trivial) rfl (fun F up => trivial) ?_
        exact ⟨rfl, rfl, rfl⟩
      · replace h := cfalse hb8 h
        refine k_skip (by kernel_rfl) ?_
        refine hK4 _ _ ?_
        refine k_seq (by kernel_rfl) fun K10 hK10 => ?_
        refine k_reg 5 (by kernel_rfl) ?_
        refine r_run 0 5 [4, 5] [] hS rfl (L' := [(4, .int .i64 (IntKind.wrap .i64 (p0 + p1))), (5, .bool true)]) (As' := []) (ob := []) (by kernel_rfl) (trivial) fun a w hS => ?_
        refine wl_end ?_
        refine hK10 _ _ ?_
        refine k_ret (by kernel_rfl) ?_
        obtain rfl := someI h
        try simp only [Exit.then, Exit.inBlock]
        refine r_ret hS [.tmp 4, .tmp 5] [] (xs := [.int .i64 (IntKind.wrap .i64 (p0 + p1)), .bool true]) (ps := []) [] [] rfl (by kernel_rfl) (fun hA => trivial) rfl (fun F up => trivial) ?_
        exact ⟨rfl, rfl, rfl⟩
    cases hb11 : ((decide (p1 > 0)) && (decide (p0 > (IntKind.wrap .i64 (9223372036854775807 - p1)))))
    · replace hS := hS.env (L' := [(0, .int .i64 p0), (1, .int .i64 p1), (7, .int .i64 (IntKind.wrap .i64 ((IntKind.wrap .i64 (0 - 9223372036854775807)) - 1))), (20, .bool false)]) (by rw [hb11])
      refine r_run 10 3 [0, 1, 7, 20, 23] [] hS rfl (L' := [(0, .int .i64 p0), (1, .int .i64 p1), (7, .int .i64 (IntKind.wrap .i64 ((IntKind.wrap .i64 (0 - 9223372036854775807)) - 1))), (20, .bool false), (23, .bool (decide (p1 < 0)))]) (As' := []) (ob := []) (by kernel_rfl) (trivial) fun a w hS => ?_
      refine wl_cut 19 rfl rfl fun K12 hK12 => ?_
      have JK12 : ∀ a w, Sy C 34 a w [(0, .int .i64 p0), (1, .int .i64 p1), (20, .bool false), (29, .bool ((decide (p1 < 0)) && (decide (p0 < (IntKind.wrap .i64 ((IntKind.wrap .i64 ((IntKind.wrap .i64 (0 - 9223372036854775807)) - 1)) - p1))))))] [] [] → K12 a w := by
        intro a w hS
        refine hK12 _ _ ?_
        refine r_run 19 1 [0, 1, 30] [] hS rfl (L' := [(0, .int .i64 p0), (1, .int .i64 p1), (30, .bool ((decide (p1 < 0)) && (decide (p0 < (IntKind.wrap .i64 ((IntKind.wrap .i64 ((IntKind.wrap .i64 (0 - 9223372036854775807)) - 1)) - p1))))))]) (As' := []) (ob := []) (by kernel_rfl) (trivial) fun a w hS => ?_
        refine wl_end ?_
        replace hS := hS.got [0, 1, 30] [] [] 0 (L' := [(0, .int .i64 p0), (1, .int .i64 p1), (30, .bool ((decide (p1 < 0)) && (decide (p0 < (IntKind.wrap .i64 ((IntKind.wrap .i64 ((IntKind.wrap .i64 (0 - 9223372036854775807)) - 1)) - p1))))))]) (Bs := []) (Rs := []) (by kernel_rfl) (by kernel_rfl) (by kernel_rfl)
        exact JK7 _ _ (hS.env (by rw [hb11]; rfl))
      cases hb13 : (decide (p1 < 0))
      · replace hS := hS.env (L' := [(0, .int .i64 p0), (1, .int .i64 p1), (7, .int .i64 (IntKind.wrap .i64 ((IntKind.wrap .i64 (0 - 9223372036854775807)) - 1))), (20, .bool false), (23, .bool false)]) (by rw [hb13])
        refine r_run 13 6 [0, 1, 20, 29] [] hS rfl (L' := [(0, .int .i64 p0), (1, .int .i64 p1), (20, .bool false), (29, .bool false)]) (As' := []) (ob := []) (by kernel_rfl) (trivial) fun a w hS => ?_
        refine wl_end ?_
        replace hS := hS.got [0, 1, 20, 29] [] [] 0 (L' := [(0, .int .i64 p0), (1, .int .i64 p1), (20, .bool false), (29, .bool false)]) (Bs := []) (Rs := []) (by kernel_rfl) (by kernel_rfl) (by kernel_rfl)
        exact JK12 _ _ (hS.env (by rw [hb13]; rfl))
      · replace hS := hS.env (L' := [(0, .int .i64 p0), (1, .int .i64 p1), (7, .int .i64 (IntKind.wrap .i64 ((IntKind.wrap .i64 (0 - 9223372036854775807)) - 1))), (20, .bool false), (23, .bool true)]) (by rw [hb13])
        refine r_run 13 6 [0, 1, 20, 29] [] hS rfl (L' := [(0, .int .i64 p0), (1, .int .i64 p1), (20, .bool false), (29, .bool (decide (p0 < (IntKind.wrap .i64 ((IntKind.wrap .i64 ((IntKind.wrap .i64 (0 - 9223372036854775807)) - 1)) - p1)))))]) (As' := []) (ob := []) (by kernel_rfl) (trivial) fun a w hS => ?_
        refine wl_end ?_
        replace hS := hS.got [0, 1, 20, 29] [] [] 0 (L' := [(0, .int .i64 p0), (1, .int .i64 p1), (20, .bool false), (29, .bool (decide (p0 < (IntKind.wrap .i64 ((IntKind.wrap .i64 ((IntKind.wrap .i64 (0 - 9223372036854775807)) - 1)) - p1)))))]) (Bs := []) (Rs := []) (by kernel_rfl) (by kernel_rfl) (by kernel_rfl)
        exact JK12 _ _ (hS.env (by rw [hb13]; rfl))
    · replace hS := hS.env (L' := [(0, .int .i64 p0), (1, .int .i64 p1), (7, .int .i64 (IntKind.wrap .i64 ((IntKind.wrap .i64 (0 - 9223372036854775807)) - 1))), (20, .bool true)]) (by rw [hb11])
      refine r_run 10 10 [0, 1, 30] [] hS rfl (L' := [(0, .int .i64 p0), (1, .int .i64 p1), (30, .bool true)]) (As' := []) (ob := []) (by kernel_rfl) (trivial) fun a w hS => ?_
      refine wl_end ?_
      replace hS := hS.got [0, 1, 30] [] [] 0 (L' := [(0, .int .i64 p0), (1, .int .i64 p1), (30, .bool true)]) (Bs := []) (Rs := []) (by kernel_rfl) (by kernel_rfl) (by kernel_rfl)
      exact JK7 _ _ (hS.env (by rw [hb11]; rfl))
  cases hb14 : (decide (p1 > 0))
  · replace hS := hS.env (L' := [(0, .int .i64 p0), (1, .int .i64 p1), (6, .int .i64 9223372036854775807), (7, .int .i64 (IntKind.wrap .i64 ((IntKind.wrap .i64 (0 - 9223372036854775807)) - 1))), (13, .bool false)]) (by rw [hb14])
    refine r_run 3 6 [0, 1, 7, 19] [] hS rfl (L' := [(0, .int .i64 p0), (1, .int .i64 p1), (7, .int .i64 (IntKind.wrap .i64 ((IntKind.wrap .i64 (0 - 9223372036854775807)) - 1))), (19, .bool false)]) (As' := []) (ob := []) (by kernel_rfl) (trivial) fun a w hS => ?_
    refine wl_end ?_
    replace hS := hS.got [0, 1, 7, 19] [] [] 0 (L' := [(0, .int .i64 p0), (1, .int .i64 p1), (7, .int .i64 (IntKind.wrap .i64 ((IntKind.wrap .i64 (0 - 9223372036854775807)) - 1))), (19, .bool false)]) (Bs := []) (Rs := []) (by kernel_rfl) (by kernel_rfl) (by kernel_rfl)
    exact JK6 _ _ (hS.env (by rw [hb14]; rfl))
  · replace hS := hS.env (L' := [(0, .int .i64 p0), (1, .int .i64 p1), (6, .int .i64 9223372036854775807), (7, .int .i64 (IntKind.wrap .i64 ((IntKind.wrap .i64 (0 - 9223372036854775807)) - 1))), (13, .bool true)]) (by rw [hb14])
    refine r_run 3 6 [0, 1, 7, 19] [] hS rfl (L' := [(0, .int .i64 p0), (1, .int .i64 p1), (7, .int .i64 (IntKind.wrap .i64 ((IntKind.wrap .i64 (0 - 9223372036854775807)) - 1))), (19, .bool (decide (p0 > (IntKind.wrap .i64 (9223372036854775807 - p1)))))]) (As' := []) (ob := []) (by kernel_rfl) (trivial) fun a w hS => ?_
    refine wl_end ?_
    replace hS := hS.got [0, 1, 7, 19] [] [] 0 (L' := [(0, .int .i64 p0), (1, .int .i64 p1), (7, .int .i64 (IntKind.wrap .i64 ((IntKind.wrap .i64 (0 - 9223372036854775807)) - 1))), (19, .bool (decide (p0 > (IntKind.wrap .i64 (9223372036854775807 - p1)))))]) (Bs := []) (Rs := []) (by kernel_rfl) (by kernel_rfl) (by kernel_rfl)
    exact JK6 _ _ (hS.env (by rw [hb14]; rfl))

/-! bursary bursarylaw05.RowFinds -/
def law05_RowFinds_l2 (n : Nat) (p1 : (List Row)) (v27 : Int) (x35 : Row) (k_law05_RowFinds_l1 : (Int → Option Bool)) : Nat → Int → Option Bool
  | 0, _ => none
  | m49 + 1, v48 =>
    cond (decide (v48 < (p1.length : Int)))
      ((idx p1 v48).bind fun x56 =>
      (row_Plus n x35.val x56.val).bind fun y59 =>
      (ref05_Plus n x35.val x56.val).bind fun y61 =>
      cond ((y59.1 != y61.1) || (!(y59.2 == y61.2)))
        (some false)
        (law05_RowFinds_l2 n p1 v27 x35 k_law05_RowFinds_l1 m49 (IntKind.wrap .i64 (v48 + 1))))
      (k_law05_RowFinds_l1 (IntKind.wrap .i64 (v27 + 1)))
def law05_RowFinds_j1 (n : Nat) (p1 : (List Row)) (v27 : Int) (x35 : Row) (k_law05_RowFinds_l1 : (Int → Option Bool)) (v44 : Bool) : Option Bool :=
  cond v44
    (some false)
    (law05_RowFinds_l2 n p1 v27 x35 (k_law05_RowFinds_l1) n 0)
def law05_RowFinds_l1 (n : Nat) (p0 : (List Row)) (p1 : (List Row)) (p2 : Key) : Nat → Int → Option Bool
  | 0, _ => none
  | m28 + 1, v27 =>
    cond (decide (v27 < (p0.length : Int)))
      ((idx p0 v27).bind fun x35 =>
      (row_Plus n x35.val (IntKind.wrap .i64 ((IntKind.wrap .i64 p2.id) - 500))).bind fun y38 =>
      (ref05_Plus n x35.val (IntKind.wrap .i64 ((IntKind.wrap .i64 p2.id) - 500))).bind fun y40 =>
      (row_Compare n x35.key p2).bind fun y67 =>
      (ref05_Compare n x35.key p2).bind fun y68 =>
      cond (y67 != y68)
        (law05_RowFinds_j1 n p1 v27 x35 (law05_RowFinds_l1 n p0 p1 p2 m28) true)
        (cond (y38.1 != y40.1)
          (law05_RowFinds_j1 n p1 v27 x35 (law05_RowFinds_l1 n p0 p1 p2 m28) true)
          (law05_RowFinds_j1 n p1 v27 x35 (law05_RowFinds_l1 n p0 p1 p2 m28) (!(y38.2 == y40.2)))))
      (some true)
def law05_RowFinds_j2 (n : Nat) (p0 : (List Row)) (p1 : (List Row)) (p2 : Key) (v22 : Bool) : Option Bool :=
  cond v22
    (some false)
    (law05_RowFinds_l1 n p0 p1 p2 n 0)
def law05_RowFinds_j3 (n : Nat) (p0 : (List Row)) (p1 : (List Row)) (p2 : Key) (v12 : Bool) : Option Bool :=
  cond v12
    (some true)
    ((row_Find n p0 p2).bind fun y16 =>
    (ref05_Find n p0 p2).bind fun y18 =>
    cond (!(y16.2 == (decide (y18 ≥ 0))))
      (law05_RowFinds_j2 n p0 p1 p2 true)
      (cond (y16.1 != (if 0 > y18 then 0 else y18))
        (law05_RowFinds_j2 n p0 p1 p2 true)
        ((row_Of n p0 p2.table).bind fun y74 =>
        (ref05_Of n p0 p2.table).bind fun y78 =>
        (ref05_Same n y74 y78).bind fun y82 =>
        cond (!y82)
          (law05_RowFinds_j2 n p0 p1 p2 true)
          ((row_Same n p0 p1).bind fun y84 =>
          (ref05_Same n p0 p1).bind fun y85 =>
          cond (!(y84 == y85))
            (law05_RowFinds_j2 n p0 p1 p2 true)
            ((row_Same n p0 p0).bind fun y87 =>
            law05_RowFinds_j2 n p0 p1 p2 (!y87))))))
def law05_RowFinds (n : Nat) (p0 : (List Row)) (p1 : (List Row)) (p2 : Key) : Option Bool :=
  (law05_wakes n).bind fun y5 =>
  cond (!y5)
    (some false)
    ((law05_over n (Schema.mk ([] : (List Bounds))) p0).bind fun y10 =>
    cond y10
      (law05_RowFinds_j3 n p0 p1 p2 true)
      ((law05_over n (Schema.mk ([] : (List Bounds))) p1).bind fun y89 =>
      law05_RowFinds_j3 n p0 p1 p2 y89))
theorem law05_RowFinds_ok {a0 : Option Addr} {c0 : Nat} {a1 : Option Addr} {c1 : Nat} (n : Nat) (p0 : (List Row)) (p1 : (List Row)) (p2 : Key) (r : Bool)  (h : law05_RowFinds n p0 p1 p2 = some r) :
    Meets Try.prog 7 #[.slice a0 p0.length c0, .slice a1 p1.length c1, Value.agg #[.int .i64 p2.table, .int .u16 p2.id]] [] [RSf flat_Row a0 c0 p0, RSf flat_Row a1 c1 p1] fun v A P => v = .bool r ∧ A = [] ∧ P = [] := by
  unfold law05_RowFinds at h
  refine meets_enter 155 Try.func7 Try.call7 rfl (by kernel_rfl) (by simp) fun C a w hS => ?_
  refine k_seq (by kernel_rfl) fun K1 hK1 => ?_
  refine k_reg 2 (by kernel_rfl) ?_
  refine r_run1 0 2 [0, 1, 5] [] hS rfl (L' := fun b2 => [(0, .slice a0 p0.length c0), (1, .slice a1 p1.length c1), (5, .pointer (some ⟨b2, 0, none⟩))]) (As' := fun b2 => [.box b2 [.int .i64 p2.table, .int .u16 p2.id]]) (ob := fun b2 => []) (fun b2 => by kernel_rfl) (fun b2 => trivial) fun b2 a w hS => ?_
  refine wl_end ?_
  refine hK1 _ _ ?_
  refine k_seq (by kernel_rfl) fun K3 hK3 => ?_
  refine k_seq (by kernel_rfl) fun K4 hK4 => ?_
  refine k_reg 2 (by kernel_rfl) ?_
  obtain ⟨y5, hy5, h⟩ := bindS h
  refine r_call 0 rfl (d := some 22) (g := 9) (args := #[]) [] hS (by kernel_rfl) rfl (law05_wakes_ok n y5 hy5) (fun F up => trivial) ?_
  rintro v A P a w ⟨rfl, rfl, rfl⟩ hS
  refine r_run 1 1 [0, 1, 5, 23] [] hS rfl (L' := [(0, .slice a0 p0.length c0), (1, .slice a1 p1.length c1), (5, .pointer (some ⟨b2, 0, none⟩)), (23, .bool (!y5))]) (As' := [.box b2 [.int .i64 p2.table, .int .u16 p2.id]]) (ob := []) (by kernel_rfl) (trivial) fun a w hS => ?_
  refine wl_end ?_
  refine hK4 _ _ ?_
  refine k_cond (!y5) hS.has (by kernel_rfl) (by kernel_rfl) (by kernel_rfl) (fun hb6 => ?_) (fun hb6 => ?_)
  · replace h := ctrue hb6 h
    refine k_seq (by kernel_rfl) fun K7 hK7 => ?_
    refine k_reg 1 (by kernel_rfl) ?_
    refine r_run 0 1 [6] [] hS rfl (L' := [(6, .bool false)]) (As' := [.box b2 [.int .i64 p2.table, .int .u16 p2.id]]) (ob := []) (by kernel_rfl) (trivial) fun a w hS => ?_
    refine wl_end ?_
    refine hK7 _ _ ?_
    refine k_ret (by kernel_rfl) ?_
    obtain rfl := someI h
    try simp only [Exit.then, Exit.inBlock]
    refine r_ret hS [.tmp 6] [] (xs := [.bool false]) (ps := []) [] [] rfl (by kernel_rfl) (fun hA => trivial) rfl (fun F up => trivial) ?_
    exact ⟨rfl, rfl, rfl⟩
  · replace h := cfalse hb6 h
    refine k_skip (by kernel_rfl) ?_
    refine hK3 _ _ ?_
    refine k_seq (by kernel_rfl) fun K8 hK8 => ?_
    refine k_seq (by kernel_rfl) fun K9 hK9 => ?_
    refine k_reg 8 (by kernel_rfl) ?_
    refine r_run 0 2 [0, 1, 5, 24, 25] [] hS rfl (L' := [(0, .slice a0 p0.length c0), (1, .slice a1 p1.length c1), (5, .pointer (some ⟨b2, 0, none⟩)), (24, Value.agg #[.slice none 0 0]), (25, .slice a0 p0.length c0)]) (As' := [.box b2 [.int .i64 p2.table, .int .u16 p2.id]]) (ob := []) (by kernel_rfl) (trivial) fun a w hS => ?_
    obtain ⟨y10, hy10, h⟩ := bindS h
    refine r_call 2 rfl (d := some 26) (g := 10) (args := #[Value.agg #[.slice none 0 0], .slice a0 p0.length c0]) [] hS (by kernel_rfl) rfl (law05_over_ok n (Schema.mk ([] : (List Bounds))) p0 y10 hy10) (fun F up => ⟨nilB, up (hS.p 0 rfl), trivial⟩) ?_
    rintro v A P a w ⟨rfl, rfl, rfl⟩ hS
    refine r_run 3 1 [0, 1, 5, 27] [] hS rfl (L' := [(0, .slice a0 p0.length c0), (1, .slice a1 p1.length c1), (5, .pointer (some ⟨b2, 0, none⟩)), (27, .bool y10)]) (As' := [.box b2 [.int .i64 p2.table, .int .u16 p2.id]]) (ob := []) (by kernel_rfl) (trivial) fun a w hS => ?_
    refine wl_cut 8 rfl rfl fun K11 hK11 => ?_
    have JK11 : ∀ (v12 : Bool) a w, Sy C 155 a w [(0, .slice a0 p0.length c0), (1, .slice a1 p1.length c1), (5, .pointer (some ⟨b2, 0, none⟩)), (31, .bool v12)] [.box b2 [.int .i64 p2.table, .int .u16 p2.id]] [RSf flat_Row a0 c0 p0, RSf flat_Row a1 c1 p1] → law05_RowFinds_j3 n p0 p1 p2 v12 = some r → K11 a w := by
      intro v12 a w hS h
      unfold law05_RowFinds_j3 at h
      refine hK11 _ _ ?_
      refine wl_end ?_
      refine hK9 _ _ ?_
      refine k_cond v12 hS.has (by kernel_rfl) (by kernel_rfl) (by kernel_rfl) (fun hb13 => ?_) (fun hb13 => ?_)
      · replace h := ctrue hb13 h
        refine k_seq (by kernel_rfl) fun K14 hK14 => ?_
        refine k_reg 1 (by kernel_rfl) ?_
        refine r_run 0 1 [6] [] hS rfl (L' := [(6, .bool true)]) (As' := [.box b2 [.int .i64 p2.table, .int .u16 p2.id]]) (ob := []) (by kernel_rfl) (trivial) fun a w hS => ?_
        refine wl_end ?_
        refine hK14 _ _ ?_
        refine k_ret (by kernel_rfl) ?_
        obtain rfl := someI h
        try simp only [Exit.then, Exit.inBlock]
        refine r_ret hS [.tmp 6] [] (xs := [.bool true]) (ps := []) [] [] rfl (by kernel_rfl) (fun hA => trivial) rfl (fun F up => trivial) ?_
        exact ⟨rfl, rfl, rfl⟩
      · replace h := cfalse hb13 h
        refine k_skip (by kernel_rfl) ?_
        refine hK8 _ _ ?_
        refine k_seq (by kernel_rfl) fun K15 hK15 => ?_
        refine k_reg 8 (by kernel_rfl) ?_
        refine r_run 0 2 [0, 1, 5, 33, 34] [.own 0 0] hS rfl (L' := [(0, .slice a0 p0.length c0), (1, .slice a1 p1.length c1), (5, .pointer (some ⟨b2, 0, none⟩)), (33, .slice a0 p0.length c0), (34, Value.agg #[.int .i64 p2.table, .int .u16 p2.id])]) (As' := [.box b2 [.int .i64 p2.table, .int .u16 p2.id]]) (ob := [fun _ => (⟨b2, 0, none⟩ : Addr) = (⟨b2, 0, none⟩ : Addr).add 0]) (by kernel_rfl) (⟨Bx.c rfl, trivial⟩) fun a w hS => ?_
        obtain ⟨y16, hy16, h⟩ := bindS h
        refine r_call 2 rfl (d := some 35) (g := 28) (args := #[.slice a0 p0.length c0, Value.agg #[.int .i64 p2.table, .int .u16 p2.id]]) [] hS (by kernel_rfl) rfl (row_Find_ok n p0 p2 y16 hy16) (fun F up => ⟨up (hS.p 0 rfl), trivial⟩) ?_
        rintro v A P a w ⟨rfl, rfl, rfl⟩ hS
        refine r_run 3 5 [0, 1, 5, 7, 8] [] hS rfl (L' := [(0, .slice a0 p0.length c0), (1, .slice a1 p1.length c1), (5, .pointer (some ⟨b2, 0, none⟩)), (7, .int .i64 y16.1), (8, .bool y16.2)]) (As' := [.box b2 [.int .i64 p2.table, .int .u16 p2.id]]) (ob := []) (by kernel_rfl) (trivial) fun a w hS => ?_
        refine wl_end ?_
        refine hK15 _ _ ?_
        refine k_seq (by kernel_rfl) fun K17 hK17 => ?_
        refine k_reg 4 (by kernel_rfl) ?_
        refine r_run 0 2 [0, 1, 5, 7, 8, 38, 39] [.own 0 0] hS rfl (L' := [(0, .slice a0 p0.length c0), (1, .slice a1 p1.length c1), (5, .pointer (some ⟨b2, 0, none⟩)), (7, .int .i64 y16.1), (8, .bool y16.2), (38, .slice a0 p0.length c0), (39, Value.agg #[.int .i64 p2.table, .int .u16 p2.id])]) (As' := [.box b2 [.int .i64 p2.table, .int .u16 p2.id]]) (ob := [fun _ => (⟨b2, 0, none⟩ : Addr) = (⟨b2, 0, none⟩ : Addr).add 0]) (by kernel_rfl) (⟨Bx.c rfl, trivial⟩) fun a w hS => ?_
        obtain ⟨y18, hy18, h⟩ := bindS h
        refine r_call 2 rfl (d := some 40) (g := 25) (args := #[.slice a0 p0.length c0, Value.agg #[.int .i64 p2.table, .int .u16 p2.id]]) [] hS (by kernel_rfl) rfl (ref05_Find_ok n p0 p2 y18 hy18) (fun F up => ⟨up (hS.p 0 rfl), trivial⟩) ?_
        rintro v A P a w ⟨rfl, rfl, rfl⟩ hS
        refine r_run 3 1 [0, 1, 5, 7, 8, 9] [] hS rfl (L' := [(0, .slice a0 p0.length c0), (1, .slice a1 p1.length c1), (5, .pointer (some ⟨b2, 0, none⟩)), (7, .int .i64 y16.1), (8, .bool y16.2), (9, .int .i64 y18)]) (As' := [.box b2 [.int .i64 p2.table, .int .u16 p2.id]]) (ob := []) (by kernel_rfl) (trivial) fun a w hS => ?_
        refine wl_end ?_
        refine hK17 _ _ ?_
        refine k_seq (by kernel_rfl) fun K19 hK19 => ?_
        refine k_seq (by kernel_rfl) fun K20 hK20 => ?_
        refine c_name fun K21 hK21 => ?_
        have JK21 : ∀ (v22 : Bool) a w, Sy C 155 a w [(0, .slice a0 p0.length c0), (1, .slice a1 p1.length c1), (5, .pointer (some ⟨b2, 0, none⟩)), (77, .bool v22)] [.box b2 [.int .i64 p2.table, .int .u16 p2.id]] [RSf flat_Row a0 c0 p0, RSf flat_Row a1 c1 p1] → law05_RowFinds_j2 n p0 p1 p2 v22 = some r → K21 a w := by
          intro v22 a w hS h
          unfold law05_RowFinds_j2 at h
          refine hK21 _ _ ?_
          refine hK20 _ _ ?_
          refine k_cond v22 hS.has (by kernel_rfl) (by kernel_rfl) (by kernel_rfl) (fun hb23 => ?_) (fun hb23 => ?_)
          · replace h := ctrue hb23 h
            refine k_seq (by kernel_rfl) fun K24 hK24 => ?_
            refine k_reg 1 (by kernel_rfl) ?_
            refine r_run 0 1 [6] [] hS rfl (L' := [(6, .bool false)]) (As' := [.box b2 [.int .i64 p2.table, .int .u16 p2.id]]) (ob := []) (by kernel_rfl) (trivial) fun a w hS => ?_
            refine wl_end ?_
            refine hK24 _ _ ?_
            refine k_ret (by kernel_rfl) ?_
            obtain rfl := someI h
            try simp only [Exit.then, Exit.inBlock]
            refine r_ret hS [.tmp 6] [] (xs := [.bool false]) (ps := []) [] [] rfl (by kernel_rfl) (fun hA => trivial) rfl (fun F up => trivial) ?_
            exact ⟨rfl, rfl, rfl⟩
          · replace h := cfalse hb23 h
            refine k_skip (by kernel_rfl) ?_
            refine hK19 _ _ ?_
            refine k_seq (by kernel_rfl) fun K25 hK25 => ?_
            refine k_seq (by kernel_rfl) fun K26 hK26 => ?_
            refine k_reg 3 (by kernel_rfl) ?_
            refine r_run 0 3 [1, 5, 78, 79, 80] [] hS rfl (L' := [(1, .slice a1 p1.length c1), (5, .pointer (some ⟨b2, 0, none⟩)), (78, .slice a0 p0.length c0), (79, .int .i64 (p0.length : Int)), (80, .int .i64 0)]) (As' := [.box b2 [.int .i64 p2.table, .int .u16 p2.id]]) (ob := []) (by kernel_rfl) (trivial) fun a w hS => ?_
            refine wl_end ?_
            refine hK26 _ _ ?_
            refine k_blk (by kernel_rfl) ?_
            refine k_loop (by kernel_rfl) (fun m28 a w => ∃ (v27 : Int), law05_RowFinds_l1 n p0 p1 p2 m28 v27 = some r ∧ Sy C 155 a w [(1, .slice a1 p1.length c1), (5, .pointer (some ⟨b2, 0, none⟩)), (78, .slice a0 p0.length c0), (79, .int .i64 (p0.length : Int)), (80, .int .i64 v27)] [.box b2 [.int .i64 p2.table, .int .u16 p2.id]] [RSf flat_Row a0 c0 p0, RSf flat_Row a1 c1 p1]) n ⟨0, h, (hS.got [1, 5, 78, 79, 80] [0] [] 0 (by kernel_rfl) (by kernel_rfl) (by kernel_rfl))⟩ ?_
            rintro m28 a w ⟨v27, h, hS⟩ K29 hK29
            cases m28 with
            | zero => exact (noneS h).elim
            | succ m28 =>
              unfold law05_RowFinds_l1 at h
              refine k_seq (by kernel_rfl) fun K30 hK30 => ?_
              refine k_reg 1 (by kernel_rfl) ?_
              refine r_run 0 1 [1, 5, 78, 79, 80, 81] [] hS rfl (L' := [(1, .slice a1 p1.length c1), (5, .pointer (some ⟨b2, 0, none⟩)), (78, .slice a0 p0.length c0), (79, .int .i64 (p0.length : Int)), (80, .int .i64 v27), (81, .bool (decide (v27 < (p0.length : Int))))]) (As' := [.box b2 [.int .i64 p2.table, .int .u16 p2.id]]) (ob := []) (by kernel_rfl) (trivial) fun a w hS => ?_
              refine wl_end ?_
              refine hK30 _ _ ?_
              refine k_seq (by kernel_rfl) fun K31 hK31 => ?_
              refine k_cond (decide (v27 < (p0.length : Int))) hS.has (by kernel_rfl) (by kernel_rfl) (by kernel_rfl) (fun hb32 => ?_) (fun hb32 => ?_)
              · replace h := ctrue hb32 h
                refine k_skip (by kernel_rfl) ?_
                refine hK31 _ _ ?_
                refine k_seq (by kernel_rfl) fun K33 hK33 => ?_
                refine k_blk (by kernel_rfl) ?_
                refine k_seq (by kernel_rfl) fun K34 hK34 => ?_
                refine k_reg 4 (by kernel_rfl) ?_
                obtain ⟨x35, hx35, h⟩ := bindS h
                have ix35 := fidxB (F := flat_Row) (hS.p 0 rfl) hx35
                refine r_run1 0 4 [1, 5, 11, 78, 79, 80] [.ext [.int .i64 x35.key.table, .int .u16 x35.key.id, .int .i64 x35.val, .string x35.note], .own 0 0] hS rfl (L' := fun b36 => [(1, .slice a1 p1.length c1), (5, .pointer (some ⟨b2, 0, none⟩)), (11, .pointer (some ⟨b36, 0, none⟩)), (78, .slice a0 p0.length c0), (79, .int .i64 (p0.length : Int)), (80, .int .i64 v27)]) (As' := fun b36 => [.box b36 [.int .i64 x35.key.table, .int .u16 x35.key.id, .int .i64 x35.val, .string x35.note], .box b2 [.int .i64 p2.table, .int .u16 p2.id]]) (ob := fun b36 => [fun _ => Inb a0 p0.length v27, Cel (Addr.add (baseOf a0) (Int.toNat v27 * 4)) [.int .i64 x35.key.table, .int .u16 x35.key.id, .int .i64 x35.val, .string x35.note], fun _ => (⟨b36, 0, none⟩ : Addr) = (⟨b36, 0, none⟩ : Addr).add 0, fun _ => ∀ u ∈ ([.int .i64 x35.key.table, .int .u16 x35.key.id, .int .i64 x35.val, .string x35.note] : List Value), u.oneCell' = true]) (fun b36 => by kernel_rfl) (fun b36 => ⟨Bx.c ix35.1, ix35.2, Bx.c rfl, Bx.c (oneAll rfl), trivial⟩) fun b36 a w hS => ?_
                refine wl_end ?_
                refine hK34 _ _ ?_
                refine k_seq (by kernel_rfl) fun K37 hK37 => ?_
                refine k_reg 12 (by kernel_rfl) ?_
                refine r_run 0 6 [1, 5, 11, 78, 79, 80, 86, 90] [.own 0 2, .own 1 1] hS rfl (L' := [(1, .slice a1 p1.length c1), (5, .pointer (some ⟨b2, 0, none⟩)), (11, .pointer (some ⟨b36, 0, none⟩)), (78, .slice a0 p0.length c0), (79, .int .i64 (p0.length : Int)), (80, .int .i64 v27), (86, .int .i64 x35.val), (90, .int .i64 (IntKind.wrap .i64 ((IntKind.wrap .i64 p2.id) - 500)))]) (As' := [.box b36 [.int .i64 x35.key.table, .int .u16 x35.key.id, .int .i64 x35.val, .string x35.note], .box b2 [.int .i64 p2.table, .int .u16 p2.id]]) (ob := [fun _ => ⟨b36, 2, none⟩ = (⟨b36, 0, none⟩ : Addr).add 2, fun _ => ⟨b2, 1, none⟩ = (⟨b2, 0, none⟩ : Addr).add 1]) (by kernel_rfl) (⟨Bx.c rfl, Bx.c rfl, trivial⟩) fun a w hS => ?_
                obtain ⟨y38, hy38, h⟩ := bindS h
                refine r_call 6 rfl (d := some 91) (g := 30) (args := #[.int .i64 x35.val, .int .i64 (IntKind.wrap .i64 ((IntKind.wrap .i64 p2.id) - 500))]) [] hS (by kernel_rfl) rfl (row_Plus_ok n x35.val (IntKind.wrap .i64 ((IntKind.wrap .i64 p2.id) - 500)) y38 hy38) (fun F up => trivial) ?_
                rintro v A P a w ⟨rfl, rfl, rfl⟩ hS
                refine r_run 7 5 [1, 5, 11, 12, 13, 78, 79, 80] [] hS rfl (L' := [(1, .slice a1 p1.length c1), (5, .pointer (some ⟨b2, 0, none⟩)), (11, .pointer (some ⟨b36, 0, none⟩)), (12, .int .i64 y38.1), (13, .bool y38.2), (78, .slice a0 p0.length c0), (79, .int .i64 (p0.length : Int)), (80, .int .i64 v27)]) (As' := [.box b36 [.int .i64 x35.key.table, .int .u16 x35.key.id, .int .i64 x35.val, .string x35.note], .box b2 [.int .i64 p2.table, .int .u16 p2.id]]) (ob := []) (by kernel_rfl) (trivial) fun a w hS => ?_
                refine wl_end ?_
                refine hK37 _ _ ?_
                refine k_seq (by kernel_rfl) fun K39 hK39 => ?_
                refine k_reg 12 (by kernel_rfl) ?_
                refine r_run 0 6 [1, 5, 11, 12, 13, 78, 79, 80, 96, 100] [.own 0 2, .own 1 1] hS rfl (L' := [(1, .slice a1 p1.length c1), (5, .pointer (some ⟨b2, 0, none⟩)), (11, .pointer (some ⟨b36, 0, none⟩)), (12, .int .i64 y38.1), (13, .bool y38.2), (78, .slice a0 p0.length c0), (79, .int .i64 (p0.length : Int)), (80, .int .i64 v27), (96, .int .i64 x35.val), (100, .int .i64 (IntKind.wrap .i64 ((IntKind.wrap .i64 p2.id) - 500)))]) (As' := [.box b36 [.int .i64 x35.key.table, .int .u16 x35.key.id, .int .i64 x35.val, .string x35.note], .box b2 [.int .i64 p2.table, .int .u16 p2.id]]) (ob := [fun _ => ⟨b36, 2, none⟩ = (⟨b36, 0, none⟩ : Addr).add 2, fun _ => ⟨b2, 1, none⟩ = (⟨b2, 0, none⟩ : Addr).add 1]) (by kernel_rfl) (⟨Bx.c rfl, Bx.c rfl, trivial⟩) fun a w hS => ?_
                obtain ⟨y40, hy40, h⟩ := bindS h
                refine r_call 6 rfl (d := some 101) (g := 31) (args := #[.int .i64 x35.val, .int .i64 (IntKind.wrap .i64 ((IntKind.wrap .i64 p2.id) - 500))]) [] hS (by kernel_rfl) rfl (ref05_Plus_ok n x35.val (IntKind.wrap .i64 ((IntKind.wrap .i64 p2.id) - 500)) y40 hy40) (fun F up => trivial) ?_
                rintro v A P a w ⟨rfl, rfl, rfl⟩ hS
                refine r_run 7 5 [1, 5, 11, 12, 13, 14, 15, 78, 79, 80] [] hS rfl (L' := [(1, .slice a1 p1.length c1), (5, .pointer (some ⟨b2, 0, none⟩)), (11, .pointer (some ⟨b36, 0, none⟩)), (12, .int .i64 y38.1), (13, .bool y38.2), (14, .int .i64 y40.1), (15, .bool y40.2), (78, .slice a0 p0.length c0), (79, .int .i64 (p0.length : Int)), (80, .int .i64 v27)]) (As' := [.box b36 [.int .i64 x35.key.table, .int .u16 x35.key.id, .int .i64 x35.val, .string x35.note], .box b2 [.int .i64 p2.table, .int .u16 p2.id]]) (ob := []) (by kernel_rfl) (trivial) fun a w hS => ?_
                refine wl_end ?_
                refine hK39 _ _ ?_
                refine k_seq (by kernel_rfl) fun K41 hK41 => ?_
                refine k_seq (by kernel_rfl) fun K42 hK42 => ?_
                refine c_name fun K43 hK43 => ?_
                have JK43 : ∀ (v44 : Bool) a w, Sy C 155 a w [(1, .slice a1 p1.length c1), (5, .pointer (some ⟨b2, 0, none⟩)), (11, .pointer (some ⟨b36, 0, none⟩)), (78, .slice a0 p0.length c0), (79, .int .i64 (p0.length : Int)), (80, .int .i64 v27), (122, .bool v44)] [.box b36 [.int .i64 x35.key.table, .int .u16 x35.key.id, .int .i64 x35.val, .string x35.note], .box b2 [.int .i64 p2.table, .int .u16 p2.id]] [RSf flat_Row a0 c0 p0, RSf flat_Row a1 c1 p1] → law05_RowFinds_j1 n p1 v27 x35 (law05_RowFinds_l1 n p0 p1 p2 m28) v44 = some r → K43 a w := by
                  intro v44 a w hS h
                  unfold law05_RowFinds_j1 at h
                  refine hK43 _ _ ?_
                  refine hK42 _ _ ?_
                  refine k_cond v44 hS.has (by kernel_rfl) (by kernel_rfl) (by kernel_rfl) (fun hb45 => ?_) (fun hb45 => ?_)
                  · replace h := ctrue hb45 h
                    refine k_seq (by kernel_rfl) fun K46 hK46 => ?_
                    refine k_reg 1 (by kernel_rfl) ?_
                    refine r_run 0 1 [6] [] hS rfl (L' := [(6, .bool false)]) (As' := [.box b36 [.int .i64 x35.key.table, .int .u16 x35.key.id, .int .i64 x35.val, .string x35.note], .box b2 [.int .i64 p2.table, .int .u16 p2.id]]) (ob := []) (by kernel_rfl) (trivial) fun a w hS => ?_
                    refine wl_end ?_
                    refine hK46 _ _ ?_
                    refine k_ret (by kernel_rfl) ?_
                    obtain rfl := someI h
                    try simp only [Exit.then, Exit.inBlock]
                    refine r_ret hS [.tmp 6] [] (xs := [.bool false]) (ps := []) [] [] rfl (by kernel_rfl) (fun hA => trivial) rfl (fun F up => trivial) ?_
                    exact ⟨rfl, rfl, rfl⟩
                  · replace h := cfalse hb45 h
                    refine k_skip (by kernel_rfl) ?_
                    refine hK41 _ _ ?_
                    refine k_seq (by kernel_rfl) fun K47 hK47 => ?_
                    refine k_reg 3 (by kernel_rfl) ?_
                    refine r_run 0 3 [1, 5, 11, 78, 79, 80, 123, 124, 125] [] hS rfl (L' := [(1, .slice a1 p1.length c1), (5, .pointer (some ⟨b2, 0, none⟩)), (11, .pointer (some ⟨b36, 0, none⟩)), (78, .slice a0 p0.length c0), (79, .int .i64 (p0.length : Int)), (80, .int .i64 v27), (123, .slice a1 p1.length c1), (124, .int .i64 (p1.length : Int)), (125, .int .i64 0)]) (As' := [.box b36 [.int .i64 x35.key.table, .int .u16 x35.key.id, .int .i64 x35.val, .string x35.note], .box b2 [.int .i64 p2.table, .int .u16 p2.id]]) (ob := []) (by kernel_rfl) (trivial) fun a w hS => ?_
                    refine wl_end ?_
                    refine hK47 _ _ ?_
                    refine k_blk (by kernel_rfl) ?_
                    refine k_loop (by kernel_rfl) (fun m49 a w => ∃ (v48 : Int), law05_RowFinds_l2 n p1 v27 x35 (law05_RowFinds_l1 n p0 p1 p2 m28) m49 v48 = some r ∧ Sy C 155 a w [(1, .slice a1 p1.length c1), (5, .pointer (some ⟨b2, 0, none⟩)), (11, .pointer (some ⟨b36, 0, none⟩)), (78, .slice a0 p0.length c0), (79, .int .i64 (p0.length : Int)), (80, .int .i64 v27), (123, .slice a1 p1.length c1), (124, .int .i64 (p1.length : Int)), (125, .int .i64 v48)] [.box b36 [.int .i64 x35.key.table, .int .u16 x35.key.id, .int .i64 x35.val, .string x35.note], .box b2 [.int .i64 p2.table, .int .u16 p2.id]] [RSf flat_Row a0 c0 p0, RSf flat_Row a1 c1 p1]) n ⟨0, h, (hS.got [1, 5, 11, 78, 79, 80, 123, 124, 125] [0, 0] [] 0 (by kernel_rfl) (by kernel_rfl) (by kernel_rfl))⟩ ?_
                    rintro m49 a w ⟨v48, h, hS⟩ K50 hK50
                    cases m49 with
                    | zero => exact (noneS h).elim
                    | succ m49 =>
                      unfold law05_RowFinds_l2 at h
                      refine k_seq (by kernel_rfl) fun K51 hK51 => ?_
                      refine k_reg 1 (by kernel_rfl) ?_
                      refine r_run 0 1 [1, 5, 11, 78, 79, 80, 123, 124, 125, 126] [] hS rfl (L' := [(1, .slice a1 p1.length c1), (5, .pointer (some ⟨b2, 0, none⟩)), (11, .pointer (some ⟨b36, 0, none⟩)), (78, .slice a0 p0.length c0), (79, .int .i64 (p0.length : Int)), (80, .int .i64 v27), (123, .slice a1 p1.length c1), (124, .int .i64 (p1.length : Int)), (125, .int .i64 v48), (126, .bool (decide (v48 < (p1.length : Int))))]) (As' := [.box b36 [.int .i64 x35.key.table, .int .u16 x35.key.id, .int .i64 x35.val, .string x35.note], .box b2 [.int .i64 p2.table, .int .u16 p2.id]]) (ob := []) (by kernel_rfl) (trivial) fun a w hS => ?_
                      refine wl_end ?_
                      refine hK51 _ _ ?_
                      refine k_seq (by kernel_rfl) fun K52 hK52 => ?_
                      refine k_cond (decide (v48 < (p1.length : Int))) hS.has (by kernel_rfl) (by kernel_rfl) (by kernel_rfl) (fun hb53 => ?_) (fun hb53 => ?_)
                      · replace h := ctrue hb53 h
                        refine k_skip (by kernel_rfl) ?_
                        refine hK52 _ _ ?_
                        refine k_seq (by kernel_rfl) fun K54 hK54 => ?_
                        refine k_blk (by kernel_rfl) ?_
                        refine k_seq (by kernel_rfl) fun K55 hK55 => ?_
                        refine k_reg 4 (by kernel_rfl) ?_
                        obtain ⟨x56, hx56, h⟩ := bindS h
                        have ix56 := fidxB (F := flat_Row) (hS.p 1 rfl) hx56
                        refine r_run1 0 4 [1, 5, 11, 17, 78, 79, 80, 123, 124, 125] [.ext [.int .i64 x56.key.table, .int .u16 x56.key.id, .int .i64 x56.val, .string x56.note], .own 0 0] hS rfl (L' := fun b57 => [(1, .slice a1 p1.length c1), (5, .pointer (some ⟨b2, 0, none⟩)), (11, .pointer (some ⟨b36, 0, none⟩)), (17, .pointer (some ⟨b57, 0, none⟩)), (78, .slice a0 p0.length c0), (79, .int .i64 (p0.length : Int)), (80, .int .i64 v27), (123, .slice a1 p1.length c1), (124, .int .i64 (p1.length : Int)), (125, .int .i64 v48)]) (As' := fun b57 => [.box b57 [.int .i64 x56.key.table, .int .u16 x56.key.id, .int .i64 x56.val, .string x56.note], .box b36 [.int .i64 x35.key.table, .int .u16 x35.key.id, .int .i64 x35.val, .string x35.note], .box b2 [.int .i64 p2.table, .int .u16 p2.id]]) (ob := fun b57 => [fun _ => Inb a1 p1.length v48, Cel (Addr.add (baseOf a1) (Int.toNat v48 * 4)) [.int .i64 x56.key.table, .int .u16 x56.key.id, .int .i64 x56.val, .string x56.note], fun _ => (⟨b57, 0, none⟩ : Addr) = (⟨b57, 0, none⟩ : Addr).add 0, fun _ => ∀ u ∈ ([.int .i64 x56.key.table, .int .u16 x56.key.id, .int .i64 x56.val, .string x56.note] : List Value), u.oneCell' = true]) (fun b57 => by kernel_rfl) (fun b57 => ⟨Bx.c ix56.1, ix56.2, Bx.c rfl, Bx.c (oneAll rfl), trivial⟩) fun b57 a w hS => ?_
                        refine wl_end ?_
                        refine hK55 _ _ ?_
                        refine k_seq (by kernel_rfl) fun K58 hK58 => ?_
                        refine k_reg 10 (by kernel_rfl) ?_
                        refine r_run 0 4 [1, 5, 11, 17, 78, 79, 80, 123, 124, 125, 131, 133] [.own 1 2, .own 0 2] hS rfl (L' := [(1, .slice a1 p1.length c1), (5, .pointer (some ⟨b2, 0, none⟩)), (11, .pointer (some ⟨b36, 0, none⟩)), (17, .pointer (some ⟨b57, 0, none⟩)), (78, .slice a0 p0.length c0), (79, .int .i64 (p0.length : Int)), (80, .int .i64 v27), (123, .slice a1 p1.length c1), (124, .int .i64 (p1.length : Int)), (125, .int .i64 v48), (131, .int .i64 x35.val), (133, .int .i64 x56.val)]) (As' := [.box b57 [.int .i64 x56.key.table, .int .u16 x56.key.id, .int .i64 x56.val, .string x56.note], .box b36 [.int .i64 x35.key.table, .int .u16 x35.key.id, .int .i64 x35.val, .string x35.note], .box b2 [.int .i64 p2.table, .int .u16 p2.id]]) (ob := [fun _ => ⟨b36, 2, none⟩ = (⟨b36, 0, none⟩ : Addr).add 2, fun _ => ⟨b57, 2, none⟩ = (⟨b57, 0, none⟩ : Addr).add 2]) (by kernel_rfl) (⟨Bx.c rfl, Bx.c rfl, trivial⟩) fun a w hS => ?_
                        obtain ⟨y59, hy59, h⟩ := bindS h
                        refine r_call 4 rfl (d := some 134) (g := 30) (args := #[.int .i64 x35.val, .int .i64 x56.val]) [] hS (by kernel_rfl) rfl (row_Plus_ok n x35.val x56.val y59 hy59) (fun F up => trivial) ?_
                        rintro v A P a w ⟨rfl, rfl, rfl⟩ hS
                        refine r_run 5 5 [1, 5, 11, 17, 18, 19, 78, 79, 80, 123, 124, 125] [] hS rfl (L' := [(1, .slice a1 p1.length c1), (5, .pointer (some ⟨b2, 0, none⟩)), (11, .pointer (some ⟨b36, 0, none⟩)), (17, .pointer (some ⟨b57, 0, none⟩)), (18, .int .i64 y59.1), (19, .bool y59.2), (78, .slice a0 p0.length c0), (79, .int .i64 (p0.length : Int)), (80, .int .i64 v27), (123, .slice a1 p1.length c1), (124, .int .i64 (p1.length : Int)), (125, .int .i64 v48)]) (As' := [.box b57 [.int .i64 x56.key.table, .int .u16 x56.key.id, .int .i64 x56.val, .string x56.note], .box b36 [.int .i64 x35.key.table, .int .u16 x35.key.id, .int .i64 x35.val, .string x35.note], .box b2 [.int .i64 p2.table, .int .u16 p2.id]]) (ob := []) (by kernel_rfl) (trivial) fun a w hS => ?_
                        refine wl_end ?_
                        refine hK58 _ _ ?_
                        refine k_seq (by kernel_rfl) fun K60 hK60 => ?_
                        refine k_reg 10 (by kernel_rfl) ?_
                        refine r_run 0 4 [1, 5, 11, 18, 19, 78, 79, 80, 123, 124, 125, 139, 141] [.own 1 2, .own 0 2] hS rfl (L' := [(1, .slice a1 p1.length c1), (5, .pointer (some ⟨b2, 0, none⟩)), (11, .pointer (some ⟨b36, 0, none⟩)), (18, .int .i64 y59.1), (19, .bool y59.2), (78, .slice a0 p0.length c0), (79, .int .i64 (p0.length : Int)), (80, .int .i64 v27), (123, .slice a1 p1.length c1), (124, .int .i64 (p1.length : Int)), (125, .int .i64 v48), (139, .int .i64 x35.val), (141, .int .i64 x56.val)]) (As' := [.box b57 [.int .i64 x56.key.table, .int .u16 x56.key.id, .int .i64 x56.val, .string x56.note], .box b36 [.int .i64 x35.key.table, .int .u16 x35.key.id, .int .i64 x35.val, .string x35.note], .box b2 [.int .i64 p2.table, .int .u16 p2.id]]) (ob := [fun _ => ⟨b36, 2, none⟩ = (⟨b36, 0, none⟩ : Addr).add 2, fun _ => ⟨b57, 2, none⟩ = (⟨b57, 0, none⟩ : Addr).add 2]) (by kernel_rfl) (⟨Bx.c rfl, Bx.c rfl, trivial⟩) fun a w hS => ?_
                        obtain ⟨y61, hy61, h⟩ := bindS h
                        refine r_call 4 rfl (d := some 142) (g := 31) (args := #[.int .i64 x35.val, .int .i64 x56.val]) [] hS (by kernel_rfl) rfl (ref05_Plus_ok n x35.val x56.val y61 hy61) (fun F up => trivial) ?_
                        rintro v A P a w ⟨rfl, rfl, rfl⟩ hS
                        refine r_run 5 5 [1, 5, 11, 18, 19, 20, 21, 78, 79, 80, 123, 124, 125] [] hS rfl (L' := [(1, .slice a1 p1.length c1), (5, .pointer (some ⟨b2, 0, none⟩)), (11, .pointer (some ⟨b36, 0, none⟩)), (18, .int .i64 y59.1), (19, .bool y59.2), (20, .int .i64 y61.1), (21, .bool y61.2), (78, .slice a0 p0.length c0), (79, .int .i64 (p0.length : Int)), (80, .int .i64 v27), (123, .slice a1 p1.length c1), (124, .int .i64 (p1.length : Int)), (125, .int .i64 v48)]) (As' := [.box b57 [.int .i64 x56.key.table, .int .u16 x56.key.id, .int .i64 x56.val, .string x56.note], .box b36 [.int .i64 x35.key.table, .int .u16 x35.key.id, .int .i64 x35.val, .string x35.note], .box b2 [.int .i64 p2.table, .int .u16 p2.id]]) (ob := []) (by kernel_rfl) (trivial) fun a w hS => ?_
                        refine wl_end ?_
                        refine hK60 _ _ ?_
                        refine k_seq (by kernel_rfl) fun K62 hK62 => ?_
                        refine k_reg 8 (by kernel_rfl) ?_
                        refine r_run 0 4 [1, 5, 11, 19, 21, 78, 79, 80, 123, 124, 125, 148] [] hS rfl (L' := [(1, .slice a1 p1.length c1), (5, .pointer (some ⟨b2, 0, none⟩)), (11, .pointer (some ⟨b36, 0, none⟩)), (19, .bool y59.2), (21, .bool y61.2), (78, .slice a0 p0.length c0), (79, .int .i64 (p0.length : Int)), (80, .int .i64 v27), (123, .slice a1 p1.length c1), (124, .int .i64 (p1.length : Int)), (125, .int .i64 v48), (148, .bool (y59.1 != y61.1))]) (As' := [.box b57 [.int .i64 x56.key.table, .int .u16 x56.key.id, .int .i64 x56.val, .string x56.note], .box b36 [.int .i64 x35.key.table, .int .u16 x35.key.id, .int .i64 x35.val, .string x35.note], .box b2 [.int .i64 p2.table, .int .u16 p2.id]]) (ob := []) (by kernel_rfl) (trivial) fun a w hS => ?_
                        refine wl_cut 8 rfl rfl fun K63 hK63 => ?_
                        have JK63 : ∀ a w, Sy C 155 a w [(1, .slice a1 p1.length c1), (5, .pointer (some ⟨b2, 0, none⟩)), (11, .pointer (some ⟨b36, 0, none⟩)), (78, .slice a0 p0.length c0), (79, .int .i64 (p0.length : Int)), (80, .int .i64 v27), (123, .slice a1 p1.length c1), (124, .int .i64 (p1.length : Int)), (125, .int .i64 v48), (152, .bool ((y59.1 != y61.1) || (!(y59.2 == y61.2))))] [.box b57 [.int .i64 x56.key.table, .int .u16 x56.key.id, .int .i64 x56.val, .string x56.note], .box b36 [.int .i64 x35.key.table, .int .u16 x35.key.id, .int .i64 x35.val, .string x35.note], .box b2 [.int .i64 p2.table, .int .u16 p2.id]] [RSf flat_Row a0 c0 p0, RSf flat_Row a1 c1 p1] → K63 a w := by
                          intro a w hS
                          refine hK63 _ _ ?_
                          refine wl_end ?_
                          refine hK62 _ _ ?_
                          refine k_cond ((y59.1 != y61.1) || (!(y59.2 == y61.2))) hS.has (by kernel_rfl) (by kernel_rfl) (by kernel_rfl) (fun hb64 => ?_) (fun hb64 => ?_)
                          · replace h := ctrue hb64 h
                            refine k_seq (by kernel_rfl) fun K65 hK65 => ?_
                            refine k_reg 1 (by kernel_rfl) ?_
                            refine r_run 0 1 [6] [] hS rfl (L' := [(6, .bool false)]) (As' := [.box b57 [.int .i64 x56.key.table, .int .u16 x56.key.id, .int .i64 x56.val, .string x56.note], .box b36 [.int .i64 x35.key.table, .int .u16 x35.key.id, .int .i64 x35.val, .string x35.note], .box b2 [.int .i64 p2.table, .int .u16 p2.id]]) (ob := []) (by kernel_rfl) (trivial) fun a w hS => ?_
                            refine wl_end ?_
                            refine hK65 _ _ ?_
                            refine k_ret (by kernel_rfl) ?_
                            obtain rfl := someI h
                            try simp only [Exit.then, Exit.inBlock]
                            refine r_ret hS [.tmp 6] [] (xs := [.bool false]) (ps := []) [] [] rfl (by kernel_rfl) (fun hA => trivial) rfl (fun F up => trivial) ?_
                            exact ⟨rfl, rfl, rfl⟩
                          · replace h := cfalse hb64 h
                            refine k_skip (by kernel_rfl) ?_
                            refine hK54 _ _ ?_
                            refine k_reg 2 (by kernel_rfl) ?_
                            refine r_run 0 2 [1, 5, 11, 78, 79, 80, 123, 124, 125] [] hS rfl (L' := [(1, .slice a1 p1.length c1), (5, .pointer (some ⟨b2, 0, none⟩)), (11, .pointer (some ⟨b36, 0, none⟩)), (78, .slice a0 p0.length c0), (79, .int .i64 (p0.length : Int)), (80, .int .i64 v27), (123, .slice a1 p1.length c1), (124, .int .i64 (p1.length : Int)), (125, .int .i64 (IntKind.wrap .i64 (v48 + 1)))]) (As' := [.box b57 [.int .i64 x56.key.table, .int .u16 x56.key.id, .int .i64 x56.val, .string x56.note], .box b36 [.int .i64 x35.key.table, .int .u16 x35.key.id, .int .i64 x35.val, .string x35.note], .box b2 [.int .i64 p2.table, .int .u16 p2.id]]) (ob := []) (by kernel_rfl) (trivial) fun a w hS => ?_
                            refine wl_end ?_
                            exact hK50 m49 _ _ (Nat.lt_succ_self _) ⟨(IntKind.wrap .i64 (v48 + 1)), h, (hS.got [1, 5, 11, 78, 79, 80, 123, 124, 125] [1, 1] [] 0 (by kernel_rfl) (by kernel_rfl) (by kernel_rfl))⟩
                        cases hb66 : (y59.1 != y61.1)
                        · replace hS := hS.env (L' := [(1, .slice a1 p1.length c1), (5, .pointer (some ⟨b2, 0, none⟩)), (11, .pointer (some ⟨b36, 0, none⟩)), (19, .bool y59.2), (21, .bool y61.2), (78, .slice a0 p0.length c0), (79, .int .i64 (p0.length : Int)), (80, .int .i64 v27), (123, .slice a1 p1.length c1), (124, .int .i64 (p1.length : Int)), (125, .int .i64 v48), (148, .bool false)]) (by rw [hb66])
                          refine r_run 4 4 [1, 5, 11, 78, 79, 80, 123, 124, 125, 152] [] hS rfl (L' := [(1, .slice a1 p1.length c1), (5, .pointer (some ⟨b2, 0, none⟩)), (11, .pointer (some ⟨b36, 0, none⟩)), (78, .slice a0 p0.length c0), (79, .int .i64 (p0.length : Int)), (80, .int .i64 v27), (123, .slice a1 p1.length c1), (124, .int .i64 (p1.length : Int)), (125, .int .i64 v48), (152, .bool (!(y59.2 == y61.2)))]) (As' := [.box b57 [.int .i64 x56.key.table, .int .u16 x56.key.id, .int .i64 x56.val, .string x56.note], .box b36 [.int .i64 x35.key.table, .int .u16 x35.key.id, .int .i64 x35.val, .string x35.note], .box b2 [.int .i64 p2.table, .int .u16 p2.id]]) (ob := []) (by kernel_rfl) (trivial) fun a w hS => ?_
                          refine wl_end ?_
                          replace hS := hS.got [1, 5, 11, 78, 79, 80, 123, 124, 125, 152] [0, 0, 0] [] 0 (L' := [(1, .slice a1 p1.length c1), (5, .pointer (some ⟨b2, 0, none⟩)), (11, .pointer (some ⟨b36, 0, none⟩)), (78, .slice a0 p0.length c0), (79, .int .i64 (p0.length : Int)), (80, .int .i64 v27), (123, .slice a1 p1.length c1), (124, .int .i64 (p1.length : Int)), (125, .int .i64 v48), (152, .bool (!(y59.2 == y61.2)))]) (Bs := [.box b57 [.int .i64 x56.key.table, .int .u16 x56.key.id, .int .i64 x56.val, .string x56.note], .box b36 [.int .i64 x35.key.table, .int .u16 x35.key.id, .int .i64 x35.val, .string x35.note], .box b2 [.int .i64 p2.table, .int .u16 p2.id]]) (Rs := [RSf flat_Row a0 c0 p0, RSf flat_Row a1 c1 p1]) (by kernel_rfl) (by kernel_rfl) (by kernel_rfl)
                          exact JK63 _ _ (hS.env (by rw [hb66]; rfl))
                        · replace hS := hS.env (L' := [(1, .slice a1 p1.length c1), (5, .pointer (some ⟨b2, 0, none⟩)), (11, .pointer (some ⟨b36, 0, none⟩)), (19, .bool y59.2), (21, .bool y61.2), (78, .slice a0 p0.length c0), (79, .int .i64 (p0.length : Int)), (80, .int .i64 v27), (123, .slice a1 p1.length c1), (124, .int .i64 (p1.length : Int)), (125, .int .i64 v48), (148, .bool true)]) (by rw [hb66])
                          refine r_run 4 4 [1, 5, 11, 78, 79, 80, 123, 124, 125, 152] [] hS rfl (L' := [(1, .slice a1 p1.length c1), (5, .pointer (some ⟨b2, 0, none⟩)), (11, .pointer (some ⟨b36, 0, none⟩)), (78, .slice a0 p0.length c0), (79, .int .i64 (p0.length : Int)), (80, .int .i64 v27), (123, .slice a1 p1.length c1), (124, .int .i64 (p1.length : Int)), (125, .int .i64 v48), (152, .bool true)]) (As' := [.box b57 [.int .i64 x56.key.table, .int .u16 x56.key.id, .int .i64 x56.val, .string x56.note], .box b36 [.int .i64 x35.key.table, .int .u16 x35.key.id, .int .i64 x35.val, .string x35.note], .box b2 [.int .i64 p2.table, .int .u16 p2.id]]) (ob := []) (by kernel_rfl) (trivial) fun a w hS => ?_
                          refine wl_end ?_
                          replace hS := hS.got [1, 5, 11, 78, 79, 80, 123, 124, 125, 152] [0, 0, 0] [] 0 (L' := [(1, .slice a1 p1.length c1), (5, .pointer (some ⟨b2, 0, none⟩)), (11, .pointer (some ⟨b36, 0, none⟩)), (78, .slice a0 p0.length c0), (79, .int .i64 (p0.length : Int)), (80, .int .i64 v27), (123, .slice a1 p1.length c1), (124, .int .i64 (p1.length : Int)), (125, .int .i64 v48), (152, .bool true)]) (Bs := [.box b57 [.int .i64 x56.key.table, .int .u16 x56.key.id, .int .i64 x56.val, .string x56.note], .box b36 [.int .i64 x35.key.table, .int .u16 x35.key.id, .int .i64 x35.val, .string x35.note], .box b2 [.int .i64 p2.table, .int .u16 p2.id]]) (Rs := [RSf flat_Row a0 c0 p0, RSf flat_Row a1 c1 p1]) (by kernel_rfl) (by kernel_rfl) (by kernel_rfl)
                          exact JK63 _ _ (hS.env (by rw [hb66]; rfl))
                      · replace h := cfalse hb53 h
                        refine k_exit 2 (by kernel_rfl) ?_
                        refine hK33 _ _ ?_
                        refine k_reg 2 (by kernel_rfl) ?_
                        refine r_run 0 2 [1, 5, 78, 79, 80] [] hS rfl (L' := [(1, .slice a1 p1.length c1), (5, .pointer (some ⟨b2, 0, none⟩)), (78, .slice a0 p0.length c0), (79, .int .i64 (p0.length : Int)), (80, .int .i64 (IntKind.wrap .i64 (v27 + 1)))]) (As' := [.box b36 [.int .i64 x35.key.table, .int .u16 x35.key.id, .int .i64 x35.val, .string x35.note], .box b2 [.int .i64 p2.table, .int .u16 p2.id]]) (ob := []) (by kernel_rfl) (trivial) fun a w hS => ?_
                        refine wl_end ?_
                        exact hK29 m28 _ _ (Nat.lt_succ_self _) ⟨(IntKind.wrap .i64 (v27 + 1)), h, (hS.got [1, 5, 78, 79, 80] [1] [] 0 (by kernel_rfl) (by kernel_rfl) (by kernel_rfl))⟩
                obtain ⟨y67, hy67, h⟩ := bindS h
                obtain ⟨y68, hy68, h⟩ := bindS h
                cases hb69 : (y67 != y68)
                · replace h := cfalse hb69 h
                  cases hb70 : (y38.1 != y40.1)
                  · replace h := cfalse hb70 h
                    refine k_draw 17 19 [.val (.pointer (some ⟨b36, 0, none⟩)), .val (Value.agg #[.int .i64 x35.key.table, .int .u16 x35.key.id]), .val (Value.agg #[.int .i64 p2.table, .int .u16 p2.id]), .val (.int .i64 y67), .val (.pointer (some ⟨b36, 0, none⟩)), .val (Value.agg #[.int .i64 x35.key.table, .int .u16 x35.key.id]), .val (Value.agg #[.int .i64 p2.table, .int .u16 p2.id]), .val (.int .i64 y68), .val (.bool (y67 != y68)), .val (.bool false), .val (.int .i64 y38.1), .val (.int .i64 y40.1), .val (.bool (y38.1 != y40.1)), .val (.bool (y38.1 != y40.1)), .val (.bool false), .val (.bool y38.2), .val (.bool y40.2)] [] [(0, []), (1, [.own 0 0]), (2, [.own 1 0]), (4, []), (5, [.own 0 0]), (6, [.own 1 0]), (8, []), (9, [.as 113 (.bool false)]), (10, []), (11, []), (12, []), (13, []), (14, [.as 118 (.bool false)]), (15, []), (16, [])] [3, 7] (ob := [fun _ => (⟨b36, 0, none⟩ : Addr) = (⟨b36, 0, none⟩ : Addr).add 0, fun _ => (⟨b2, 0, none⟩ : Addr) = (⟨b2, 0, none⟩ : Addr).add 0, fun _ => (⟨b36, 0, none⟩ : Addr) = (⟨b36, 0, none⟩ : Addr).add 0, fun _ => (⟨b2, 0, none⟩ : Addr) = (⟨b2, 0, none⟩ : Addr).add 0, fun _ => Value.bool (y67 != y68) = .bool false, fun _ => Value.bool (y38.1 != y40.1) = .bool false]) (by kernel_rfl) (by kernel_rfl) hS (by kernel_rfl) (fun F N0 => by kernel_rfl) (by kernel_rfl) (by kernel_rfl) (by kernel_rfl) (by kernel_rfl) ⟨Bx.c rfl, Bx.c rfl, Bx.c rfl, Bx.c rfl, Bx.c (by rw [hb69]), Bx.c (by rw [hb70]), trivial⟩ ?_ ?_
                    · refine ⟨?_, ?_, trivial⟩
                      · intro V a w e hS hq
                        exact d_callV (d := 107) [] hS (args := #[Value.agg #[.int .i64 x35.key.table, .int .u16 x35.key.id], Value.agg #[.int .i64 p2.table, .int .u16 p2.id]]) (by kernel_rfl) rfl (row_Compare_ok n x35.key p2 y67 hy67) (fun F up le => trivial) (by rintro v A P ⟨rfl, rfl, rfl⟩; first | rfl | rw [hb69] | rw [hb70])
                      · intro V a w e hS hq
                        exact d_callV (d := 111) [] hS (args := #[Value.agg #[.int .i64 x35.key.table, .int .u16 x35.key.id], Value.agg #[.int .i64 p2.table, .int .u16 p2.id]]) (by kernel_rfl) rfl (ref05_Compare_ok n x35.key p2 y68 hy68) (fun F up le => trivial) (by rintro v A P ⟨rfl, rfl, rfl⟩; first | rfl | rw [hb69] | rw [hb70])
                    intro V a w e hS hq
                    refine r_run 17 2 [1, 5, 11, 78, 79, 80, 122] [] hS rfl (L' := [(1, .slice a1 p1.length c1), (5, .pointer (some ⟨b2, 0, none⟩)), (11, .pointer (some ⟨b36, 0, none⟩)), (78, .slice a0 p0.length c0), (79, .int .i64 (p0.length : Int)), (80, .int .i64 v27), (122, .bool (!(y38.2 == y40.2)))]) (As' := [.box b36 [.int .i64 x35.key.table, .int .u16 x35.key.id, .int .i64 x35.val, .string x35.note], .box b2 [.int .i64 p2.table, .int .u16 p2.id]]) (ob := []) (by kernel_rfl) (trivial) fun a w hS => ?_
                    refine wl_end ?_
                    exact JK43 (!(y38.2 == y40.2)) _ _ (hS.got [1, 5, 11, 78, 79, 80, 122] [0, 0] [] 0 (by kernel_rfl) (by kernel_rfl) (by kernel_rfl)) h
                  · replace h := ctrue hb70 h
                    refine k_draw 17 19 [.val (.pointer (some ⟨b36, 0, none⟩)), .val (Value.agg #[.int .i64 x35.key.table, .int .u16 x35.key.id]), .val (Value.agg #[.int .i64 p2.table, .int .u16 p2.id]), .val (.int .i64 y67), .val (.pointer (some ⟨b36, 0, none⟩)), .val (Value.agg #[.int .i64 x35.key.table, .int .u16 x35.key.id]), .val (Value.agg #[.int .i64 p2.table, .int .u16 p2.id]), .val (.int .i64 y68), .val (.bool (y67 != y68)), .val (.bool false), .val (.int .i64 y38.1), .val (.int .i64 y40.1), .val (.bool (y38.1 != y40.1)), .val (.bool (y38.1 != y40.1)), .val (.bool true), .val (undef), .val (undef)] [] [(0, []), (1, [.own 0 0]), (2, [.own 1 0]), (4, []), (5, [.own 0 0]), (6, [.own 1 0]), (8, []), (9, [.as 113 (.bool false)]), (10, []), (11, []), (12, []), (13, []), (14, [.as 118 (.bool true)]), (15, []), (16, [])] [3, 7] (ob := [fun _ => (⟨b36, 0, none⟩ : Addr) = (⟨b36, 0, none⟩ : Addr).add 0, fun _ => (⟨b2, 0, none⟩ : Addr) = (⟨b2, 0, none⟩ : Addr).add 0, fun _ => (⟨b36, 0, none⟩ : Addr) = (⟨b36, 0, none⟩ : Addr).add 0, fun _ => (⟨b2, 0, none⟩ : Addr) = (⟨b2, 0, none⟩ : Addr).add 0, fun _ => Value.bool (y67 != y68) = .bool false, fun _ => Value.bool (y38.1 != y40.1) = .bool true]) (by kernel_rfl) (by kernel_rfl) hS (by kernel_rfl) (fun F N0 => by kernel_rfl) (by kernel_rfl) (by kernel_rfl) (by kernel_rfl) (by kernel_rfl) ⟨Bx.c rfl, Bx.c rfl, Bx.c rfl, Bx.c rfl, Bx.c (by rw [hb69]), Bx.c (by rw [hb70]), trivial⟩ ?_ ?_
                    · refine ⟨?_, ?_, trivial⟩
                      · intro V a w e hS hq
                        exact d_callV (d := 107) [] hS (args := #[Value.agg #[.int .i64 x35.key.table, .int .u16 x35.key.id], Value.agg #[.int .i64 p2.table, .int .u16 p2.id]]) (by kernel_rfl) rfl (row_Compare_ok n x35.key p2 y67 hy67) (fun F up le => trivial) (by rintro v A P ⟨rfl, rfl, rfl⟩; first | rfl | rw [hb69] | rw [hb70])
                      · intro V a w e hS hq
                        exact d_callV (d := 111) [] hS (args := #[Value.agg #[.int .i64 x35.key.table, .int .u16 x35.key.id], Value.agg #[.int .i64 p2.table, .int .u16 p2.id]]) (by kernel_rfl) rfl (ref05_Compare_ok n x35.key p2 y68 hy68) (fun F up le => trivial) (by rintro v A P ⟨rfl, rfl, rfl⟩; first | rfl | rw [hb69] | rw [hb70])
                    intro V a w e hS hq
                    refine r_run 17 2 [1, 5, 11, 78, 79, 80, 122] [] hS rfl (L' := [(1, .slice a1 p1.length c1), (5, .pointer (some ⟨b2, 0, none⟩)), (11, .pointer (some ⟨b36, 0, none⟩)), (78, .slice a0 p0.length c0), (79, .int .i64 (p0.length : Int)), (80, .int .i64 v27), (122, .bool true)]) (As' := [.box b36 [.int .i64 x35.key.table, .int .u16 x35.key.id, .int .i64 x35.val, .string x35.note], .box b2 [.int .i64 p2.table, .int .u16 p2.id]]) (ob := []) (by kernel_rfl) (trivial) fun a w hS => ?_
                    refine wl_end ?_
                    exact JK43 true _ _ (hS.got [1, 5, 11, 78, 79, 80, 122] [0, 0] [] 0 (by kernel_rfl) (by kernel_rfl) (by kernel_rfl)) h
                · replace h := ctrue hb69 h
                  refine k_draw 17 19 [.val (.pointer (some ⟨b36, 0, none⟩)), .val (Value.agg #[.int .i64 x35.key.table, .int .u16 x35.key.id]), .val (Value.agg #[.int .i64 p2.table, .int .u16 p2.id]), .val (.int .i64 y67), .val (.pointer (some ⟨b36, 0, none⟩)), .val (Value.agg #[.int .i64 x35.key.table, .int .u16 x35.key.id]), .val (Value.agg #[.int .i64 p2.table, .int .u16 p2.id]), .val (.int .i64 y68), .val (.bool (y67 != y68)), .val (.bool true), .val (undef), .val (undef), .val (undef), .val (.bool true), .val (.bool true), .val (undef), .val (undef)] [] [(0, []), (1, [.own 0 0]), (2, [.own 1 0]), (4, []), (5, [.own 0 0]), (6, [.own 1 0]), (8, []), (9, [.as 113 (.bool true)]), (10, []), (11, []), (12, []), (13, []), (14, []), (15, []), (16, [])] [3, 7] (ob := [fun _ => (⟨b36, 0, none⟩ : Addr) = (⟨b36, 0, none⟩ : Addr).add 0, fun _ => (⟨b2, 0, none⟩ : Addr) = (⟨b2, 0, none⟩ : Addr).add 0, fun _ => (⟨b36, 0, none⟩ : Addr) = (⟨b36, 0, none⟩ : Addr).add 0, fun _ => (⟨b2, 0, none⟩ : Addr) = (⟨b2, 0, none⟩ : Addr).add 0, fun _ => Value.bool (y67 != y68) = .bool true]) (by kernel_rfl) (by kernel_rfl) hS (by kernel_rfl) (fun F N0 => by kernel_rfl) (by kernel_rfl) (by kernel_rfl) (by kernel_rfl) (by kernel_rfl) ⟨Bx.c rfl, Bx.c rfl, Bx.c rfl, Bx.c rfl, Bx.c (by rw [hb69]), trivial⟩ ?_ ?_
                  · refine ⟨?_, ?_, trivial⟩
                    · intro V a w e hS hq
                      exact d_callV (d := 107) [] hS (args := #[Value.agg #[.int .i64 x35.key.table, .int .u16 x35.key.id], Value.agg #[.int .i64 p2.table, .int .u16 p2.id]]) (by kernel_rfl) rfl (row_Compare_ok n x35.key p2 y67 hy67) (fun F up le => trivial) (by rintro v A P ⟨rfl, rfl, rfl⟩; first | rfl | rw [hb69])
                    · intro V a w e hS hq
                      exact d_callV (d := 111) [] hS (args := #[Value.agg #[.int .i64 x35.key.table, .int .u16 x35.key.id], Value.agg #[.int .i64 p2.table, .int .u16 p2.id]]) (by kernel_rfl) rfl (ref05_Compare_ok n x35.key p2 y68 hy68) (fun F up le => trivial) (by rintro v A P ⟨rfl, rfl, rfl⟩; first | rfl | rw [hb69])
                  intro V a w e hS hq
                  refine r_run 17 2 [1, 5, 11, 78, 79, 80, 122] [] hS rfl (L' := [(1, .slice a1 p1.length c1), (5, .pointer (some ⟨b2, 0, none⟩)), (11, .pointer (some ⟨b36, 0, none⟩)), (78, .slice a0 p0.length c0), (79, .int .i64 (p0.length : Int)), (80, .int .i64 v27), (122, .bool true)]) (As' := [.box b36 [.int .i64 x35.key.table, .int .u16 x35.key.id, .int .i64 x35.val, .string x35.note], .box b2 [.int .i64 p2.table, .int .u16 p2.id]]) (ob := []) (by kernel_rfl) (trivial) fun a w hS => ?_
                  refine wl_end ?_
                  exact JK43 true _ _ (hS.got [1, 5, 11, 78, 79, 80, 122] [0, 0] [] 0 (by kernel_rfl) (by kernel_rfl) (by kernel_rfl)) h
              · replace h := cfalse hb32 h
                refine k_exit 0 (by kernel_rfl) ?_
                refine hK25 _ _ ?_
                refine k_seq (by kernel_rfl) fun K71 hK71 => ?_
                refine k_reg 1 (by kernel_rfl) ?_
                refine r_run 0 1 [6] [] hS rfl (L' := [(6, .bool true)]) (As' := [.box b2 [.int .i64 p2.table, .int .u16 p2.id]]) (ob := []) (by kernel_rfl) (trivial) fun a w hS => ?_
                refine wl_end ?_
                refine hK71 _ _ ?_
                refine k_ret (by kernel_rfl) ?_
                obtain rfl := someI h
                try simp only [Exit.then, Exit.inBlock]
                refine r_ret hS [.tmp 6] [] (xs := [.bool true]) (ps := []) [] [] rfl (by kernel_rfl) (fun hA => trivial) rfl (fun F up => trivial) ?_
                exact ⟨rfl, rfl, rfl⟩
        cases hb72 : (!(y16.2 == (decide (y18 ≥ 0))))
        · replace h := cfalse hb72 h
          cases hb73 : (y16.1 != (if 0 > y18 then 0 else y18))
          · replace h := cfalse hb73 h
            obtain ⟨y74, hy74, h⟩ := bindS h
            obtain ⟨y78, hy78, h⟩ := bindS h
            obtain ⟨y82, hy82, h⟩ := bindS h
            cases hb83 : (!y82)
            · replace h := cfalse hb83 h
              obtain ⟨y84, hy84, h⟩ := bindS h
              obtain ⟨y85, hy85, h⟩ := bindS h
              cases hb86 : (!(y84 == y85))
              · replace h := cfalse hb86 h
                have hS0 := hS
                refine k_draw 34 37 [.val (.bool y16.2), .val (.int .i64 y18), .val (.bool (decide (y18 ≥ 0))), .val (.bool (!(y16.2 == (decide (y18 ≥ 0))))), .val (.bool false), .val (.int .i64 y16.1), .val (.int .i64 y18), .val (.int .i64 (if 0 > y18 then 0 else y18)), .val (.bool (y16.1 != (if 0 > y18 then 0 else y18))), .val (.bool (y16.1 != (if 0 > y18 then 0 else y18))), .val (.bool false), .val (.slice a0 p0.length c0), .val (.pointer (some ⟨b2, 0, none⟩)), .val (.int .i64 p2.table), .q (fun v A P => ∃ (a75 : Option Addr) (c76 : Nat), v = .slice a75 y74.length c76 ∧ A = [rowF flat_Row 38 a75 c76 y74] ∧ P = []), .val (.slice a0 p0.length c0), .val (.pointer (some ⟨b2, 0, none⟩)), .val (.int .i64 p2.table), .q (fun v A P => ∃ (a79 : Option Addr) (c80 : Nat), v = .slice a79 y78.length c80 ∧ A = [rowF flat_Row 38 a79 c80 y78] ∧ P = []), .val (.bool y82), .val (.bool (!y82)), .val (.bool (!y82)), .val (.bool false), .val (.slice a0 p0.length c0), .val (.slice a1 p1.length c1), .val (.bool y84), .val (.slice a0 p0.length c0), .val (.slice a1 p1.length c1), .val (.bool y85), .val (.bool (!(y84 == y85))), .val (.bool (!(y84 == y85))), .val (.bool false), .val (.slice a0 p0.length c0), .val (.slice a0 p0.length c0)] [] [(0, []), (1, []), (2, []), (3, []), (4, [.as 45 (.bool false)]), (5, []), (6, []), (7, []), (8, []), (9, []), (10, [.as 51 (.bool false)]), (11, []), (12, []), (13, [.own 0 0]), (15, []), (16, []), (17, [.own 0 0]), (20, []), (21, []), (22, [.as 63 (.bool false)]), (23, []), (24, []), (26, []), (27, []), (29, []), (30, []), (31, [.as 72 (.bool false)]), (32, []), (33, [])] [14, 18, 19, 25, 28] (ob := [fun _ => Value.bool (!(y16.2 == (decide (y18 ≥ 0)))) = .bool false, fun _ => Value.bool (y16.1 != (if 0 > y18 then 0 else y18)) = .bool false, fun _ => (⟨b2, 0, none⟩ : Addr) = (⟨b2, 0, none⟩ : Addr).add 0, fun _ => (⟨b2, 0, none⟩ : Addr) = (⟨b2, 0, none⟩ : Addr).add 0, fun _ => Value.bool (!y82) = .bool false, fun _ => Value.bool (!(y84 == y85)) = .bool false]) (by kernel_rfl) (by kernel_rfl) hS (by kernel_rfl) (fun F N0 => by kernel_rfl) (by kernel_rfl) (by kernel_rfl) (by kernel_rfl) (by kernel_rfl) ⟨Bx.c (by rw [hb72]), Bx.c (by rw [hb73]), Bx.c rfl, Bx.c rfl, Bx.c (by rw [hb83]), Bx.c (by rw [hb86]), trivial⟩ ?_ ?_
                · refine ⟨?_, ?_, ?_, ?_, ?_, trivial⟩
                  · intro V a w e hS hq
                    exact d_callQ (d := 55) hS e (args := #[.slice a0 p0.length c0, .int .i64 p2.table]) (by kernel_rfl) (row_Of_ok n p0 p2.table y74 hy74) (fun F up => ⟨up (hS.p 0 rfl), trivial⟩)
                  · intro V a w e hS hq
                    exact d_callQ (d := 59) hS e (args := #[.slice a0 p0.length c0, .int .i64 p2.table]) (by kernel_rfl) (ref05_Of_ok n p0 p2.table y78 hy78) (fun F up => ⟨up (hS.p 0 rfl), trivial⟩)
                  · intro V a w e hS hq
                    obtain ⟨A14, P14, ⟨a75, c76, hv14, rfl, rfl⟩, hst14, hn14⟩ := hq 14 (memN_iff.1 rfl) _ rfl
                    obtain ⟨A18, P18, ⟨a79, c80, hv18, rfl, rfl⟩, hst18, hn18⟩ := hq 18 (memN_iff.1 rfl) _ rfl
                    have hm : Meets Try.prog 24 #[.slice a75 y74.length c76, .slice a79 y78.length c80] _ _ _ := (ref05_Same_ok n y74 y78 y82 hy82)
                    rw [← hv14, ← hv18] at hm
                    exact d_callV (d := 60) [] hS (args := #[V 14, V 18]) (by kernel_rfl) rfl hm (fun F up le => ⟨up (lentB hst14 (k := 0) rfl (fun w h => rowRS h)), up (lentB hst18 (k := 0) rfl (fun w h => rowRS h)), trivial⟩) (by rintro v A P ⟨rfl, rfl, rfl⟩; first | rfl | rw [hb72] | rw [hb73] | rw [hb83] | rw [hb86])
                  · intro V a w e hS hq
                    exact d_callV (d := 66) [] hS (args := #[.slice a0 p0.length c0, .slice a1 p1.length c1]) (by kernel_rfl) rfl (row_Same_ok n p0 p1 y84 hy84) (fun F up le => ⟨up (hS.p 0 rfl), up (hS.p 1 rfl), trivial⟩) (by rintro v A P ⟨rfl, rfl, rfl⟩; first | rfl | rw [hb72] | rw [hb73] | rw [hb83] | rw [hb86])
                  · intro V a w e hS hq
                    exact d_callV (d := 69) [] hS (args := #[.slice a0 p0.length c0, .slice a1 p1.length c1]) (by kernel_rfl) rfl (ref05_Same_ok n p0 p1 y85 hy85) (fun F up le => ⟨up (hS.p 0 rfl), up (hS.p 1 rfl), trivial⟩) (by rintro v A P ⟨rfl, rfl, rfl⟩; first | rfl | rw [hb72] | rw [hb73] | rw [hb83] | rw [hb86])
                intro V a w e hS hq
                obtain ⟨y87, hy87, h⟩ := bindS h
                refine r_call 34 rfl (d := some 75) (g := 21) (args := #[.slice a0 p0.length c0, .slice a0 p0.length c0]) [] hS (by kernel_rfl) rfl (row_Same_ok n p0 p0 y87 hy87) (fun F up => ⟨up (hS.p 0 rfl), up (hS.p 0 rfl), trivial⟩) ?_
                rintro v A P a w ⟨rfl, rfl, rfl⟩ hS
                refine r_run 35 2 [0, 1, 5, 77] [] hS rfl (L' := [(0, .slice a0 p0.length c0), (1, .slice a1 p1.length c1), (5, .pointer (some ⟨b2, 0, none⟩)), (77, .bool (!y87))]) (As' := [.box b2 [.int .i64 p2.table, .int .u16 p2.id]]) (ob := []) (by kernel_rfl) (trivial) fun a w hS => ?_
                refine wl_end ?_
                exact JK21 (!y87) _ _ (hS.got [0, 1, 5, 77] [0] [] 0 (by kernel_rfl) (by kernel_rfl) (by kernel_rfl)) h
              · replace h := ctrue hb86 h
                have hS0 := hS
                refine k_draw 34 37 [.val (.bool y16.2), .val (.int .i64 y18), .val (.bool (decide (y18 ≥ 0))), .val (.bool (!(y16.2 == (decide (y18 ≥ 0))))), .val (.bool false), .val (.int .i64 y16.1), .val (.int .i64 y18), .val (.int .i64 (if 0 > y18 then 0 else y18)), .val (.bool (y16.1 != (if 0 > y18 then 0 else y18))), .val (.bool (y16.1 != (if 0 > y18 then 0 else y18))), .val (.bool false), .val (.slice a0 p0.length c0), .val (.pointer (some ⟨b2, 0, none⟩)), .val (.int .i64 p2.table), .q (fun v A P => ∃ (a75 : Option Addr) (c76 : Nat), v = .slice a75 y74.length c76 ∧ A = [rowF flat_Row 38 a75 c76 y74] ∧ P = []), .val (.slice a0 p0.length c0), .val (.pointer (some ⟨b2, 0, none⟩)), .val (.int .i64 p2.table), .q (fun v A P => ∃ (a79 : Option Addr) (c80 : Nat), v = .slice a79 y78.length c80 ∧ A = [rowF flat_Row 38 a79 c80 y78] ∧ P = []), .val (.bool y82), .val (.bool (!y82)), .val (.bool (!y82)), .val (.bool false), .val (.slice a0 p0.length c0), .val (.slice a1 p1.length c1), .val (.bool y84), .val (.slice a0 p0.length c0), .val (.slice a1 p1.length c1), .val (.bool y85), .val (.bool (!(y84 == y85))), .val (.bool (!(y84 == y85))), .val (.bool true), .val (undef), .val (undef)] [] [(0, []), (1, []), (2, []), (3, []), (4, [.as 45 (.bool false)]), (5, []), (6, []), (7, []), (8, []), (9, []), (10, [.as 51 (.bool false)]), (11, []), (12, []), (13, [.own 0 0]), (15, []), (16, []), (17, [.own 0 0]), (20, []), (21, []), (22, [.as 63 (.bool false)]), (23, []), (24, []), (26, []), (27, []), (29, []), (30, []), (31, [.as 72 (.bool true)]), (32, []), (33, [])] [14, 18, 19, 25, 28] (ob := [fun _ => Value.bool (!(y16.2 == (decide (y18 ≥ 0)))) = .bool false, fun _ => Value.bool (y16.1 != (if 0 > y18 then 0 else y18)) = .bool false, fun _ => (⟨b2, 0, none⟩ : Addr) = (⟨b2, 0, none⟩ : Addr).add 0, fun _ => (⟨b2, 0, none⟩ : Addr) = (⟨b2, 0, none⟩ : Addr).add 0, fun _ => Value.bool (!y82) = .bool false, fun _ => Value.bool (!(y84 == y85)) = .bool true]) (by kernel_rfl) (by kernel_rfl) hS (by kernel_rfl) (fun F N0 => by kernel_rfl) (by kernel_rfl) (by kernel_rfl) (by kernel_rfl) (by kernel_rfl) ⟨Bx.c (by rw [hb72]), Bx.c (by rw [hb73]), Bx.c rfl, Bx.c rfl, Bx.c (by rw [hb83]), Bx.c (by rw [hb86]), trivial⟩ ?_ ?_
                · refine ⟨?_, ?_, ?_, ?_, ?_, trivial⟩
                  · intro V a w e hS hq
                    exact d_callQ (d := 55) hS e (args := #[.slice a0 p0.length c0, .int .i64 p2.table]) (by kernel_rfl) (row_Of_ok n p0 p2.table y74 hy74) (fun F up => ⟨up (hS.p 0 rfl), trivial⟩)
                  · intro V a w e hS hq
                    exact d_callQ (d := 59) hS e (args := #[.slice a0 p0.length c0, .int .i64 p2.table]) (by kernel_rfl) (ref05_Of_ok n p0 p2.table y78 hy78) (fun F up => ⟨up (hS.p 0 rfl), trivial⟩)
                  · intro V a w e hS hq
                    obtain ⟨A14, P14, ⟨a75, c76, hv14, rfl, rfl⟩, hst14, hn14⟩ := hq 14 (memN_iff.1 rfl) _ rfl
                    obtain ⟨A18, P18, ⟨a79, c80, hv18, rfl, rfl⟩, hst18, hn18⟩ := hq 18 (memN_iff.1 rfl) _ rfl
                    have hm : Meets Try.prog 24 #[.slice a75 y74.length c76, .slice a79 y78.length c80] _ _ _ := (ref05_Same_ok n y74 y78 y82 hy82)
                    rw [← hv14, ← hv18] at hm
                    exact d_callV (d := 60) [] hS (args := #[V 14, V 18]) (by kernel_rfl) rfl hm (fun F up le => ⟨up (lentB hst14 (k := 0) rfl (fun w h => rowRS h)), up (lentB hst18 (k := 0) rfl (fun w h => rowRS h)), trivial⟩) (by rintro v A P ⟨rfl, rfl, rfl⟩; first | rfl | rw [hb72] | rw [hb73] | rw [hb83] | rw [hb86])
                  · intro V a w e hS hq
                    exact d_callV (d := 66) [] hS (args := #[.slice a0 p0.length c0, .slice a1 p1.length c1]) (by kernel_rfl) rfl (row_Same_ok n p0 p1 y84 hy84) (fun F up le => ⟨up (hS.p 0 rfl), up (hS.p 1 rfl), trivial⟩) (by rintro v A P ⟨rfl, rfl, rfl⟩; first | rfl | rw [hb72] | rw [hb73] | rw [hb83] | rw [hb86])
                  · intro V a w e hS hq
                    exact d_callV (d := 69) [] hS (args := #[.slice a0 p0.length c0, .slice a1 p1.length c1]) (by kernel_rfl) rfl (ref05_Same_ok n p0 p1 y85 hy85) (fun F up le => ⟨up (hS.p 0 rfl), up (hS.p 1 rfl), trivial⟩) (by rintro v A P ⟨rfl, rfl, rfl⟩; first | rfl | rw [hb72] | rw [hb73] | rw [hb83] | rw [hb86])
                intro V a w e hS hq
                refine r_run 34 3 [0, 1, 5, 77] [] hS rfl (L' := [(0, .slice a0 p0.length c0), (1, .slice a1 p1.length c1), (5, .pointer (some ⟨b2, 0, none⟩)), (77, .bool true)]) (As' := [.box b2 [.int .i64 p2.table, .int .u16 p2.id]]) (ob := []) (by kernel_rfl) (trivial) fun a w hS => ?_
                refine wl_end ?_
                exact JK21 true _ _ (hS.got [0, 1, 5, 77] [0] [] 0 (by kernel_rfl) (by kernel_rfl) (by kernel_rfl)) h
            · replace h := ctrue hb83 h
              have hS0 := hS
              refine k_draw 34 37 [.val (.bool y16.2), .val (.int .i64 y18), .val (.bool (decide (y18 ≥ 0))), .val (.bool (!(y16.2 == (decide (y18 ≥ 0))))), .val (.bool false), .val (.int .i64 y16.1), .val (.int .i64 y18), .val (.int .i64 (if 0 > y18 then 0 else y18)), .val (.bool (y16.1 != (if 0 > y18 then 0 else y18))), .val (.bool (y16.1 != (if 0 > y18 then 0 else y18))), .val (.bool false), .val (.slice a0 p0.length c0), .val (.pointer (some ⟨b2, 0, none⟩)), .val (.int .i64 p2.table), .q (fun v A P => ∃ (a75 : Option Addr) (c76 : Nat), v = .slice a75 y74.length c76 ∧ A = [rowF flat_Row 38 a75 c76 y74] ∧ P = []), .val (.slice a0 p0.length c0), .val (.pointer (some ⟨b2, 0, none⟩)), .val (.int .i64 p2.table), .q (fun v A P => ∃ (a79 : Option Addr) (c80 : Nat), v = .slice a79 y78.length c80 ∧ A = [rowF flat_Row 38 a79 c80 y78] ∧ P = []), .val (.bool y82), .val (.bool (!y82)), .val (.bool (!y82)), .val (.bool true), .val (undef), .val (undef), .val (undef), .val (undef), .val (undef), .val (undef), .val (undef), .val (.bool true), .val (.bool true), .val (undef), .val (undef)] [] [(0, []), (1, []), (2, []), (3, []), (4, [.as 45 (.bool false)]), (5, []), (6, []), (7, []), (8, []), (9, []), (10, [.as 51 (.bool false)]), (11, []), (12, []), (13, [.own 0 0]), (15, []), (16, []), (17, [.own 0 0]), (20, []), (21, []), (22, [.as 63 (.bool true)]), (23, []), (24, []), (25, []), (26, []), (27, []), (28, []), (29, []), (30, []), (31, []), (32, []), (33, [])] [14, 18, 19] (ob := [fun _ => Value.bool (!(y16.2 == (decide (y18 ≥ 0)))) = .bool false, fun _ => Value.bool (y16.1 != (if 0 > y18 then 0 else y18)) = .bool false, fun _ => (⟨b2, 0, none⟩ : Addr) = (⟨b2, 0, none⟩ : Addr).add 0, fun _ => (⟨b2, 0, none⟩ : Addr) = (⟨b2, 0, none⟩ : Addr).add 0, fun _ => Value.bool (!y82) = .bool true]) (by kernel_rfl) (by kernel_rfl) hS (by kernel_rfl) (fun F N0 => by kernel_rfl) (by kernel_rfl) (by kernel_rfl) (by kernel_rfl) (by kernel_rfl) ⟨Bx.c (by rw [hb72]), Bx.c (by rw [hb73]), Bx.c rfl, Bx.c rfl, Bx.c (by rw [hb83]), trivial⟩ ?_ ?_
              · refine ⟨?_, ?_, ?_, trivial⟩
                · intro V a w e hS hq
                  exact d_callQ (d := 55) hS e (args := #[.slice a0 p0.length c0, .int .i64 p2.table]) (by kernel_rfl) (row_Of_ok n p0 p2.table y74 hy74) (fun F up => ⟨up (hS.p 0 rfl), trivial⟩)
                · intro V a w e hS hq
                  exact d_callQ (d := 59) hS e (args := #[.slice a0 p0.length c0, .int .i64 p2.table]) (by kernel_rfl) (ref05_Of_ok n p0 p2.table y78 hy78) (fun F up => ⟨up (hS.p 0 rfl), trivial⟩)
                · intro V a w e hS hq
                  obtain ⟨A14, P14, ⟨a75, c76, hv14, rfl, rfl⟩, hst14, hn14⟩ := hq 14 (memN_iff.1 rfl) _ rfl
                  obtain ⟨A18, P18, ⟨a79, c80, hv18, rfl, rfl⟩, hst18, hn18⟩ := hq 18 (memN_iff.1 rfl) _ rfl
                  have hm : Meets Try.prog 24 #[.slice a75 y74.length c76, .slice a79 y78.length c80] _ _ _ := (ref05_Same_ok n y74 y78 y82 hy82)
                  rw [← hv14, ← hv18] at hm
                  exact d_callV (d := 60) [] hS (args := #[V 14, V 18]) (by kernel_rfl) rfl hm (fun F up le => ⟨up (lentB hst14 (k := 0) rfl (fun w h => rowRS h)), up (lentB hst18 (k := 0) rfl (fun w h => rowRS h)), trivial⟩) (by rintro v A P ⟨rfl, rfl, rfl⟩; first | rfl | rw [hb72] | rw [hb73] | rw [hb83])
              intro V a w e hS hq
              refine r_run 34 3 [0, 1, 5, 77] [] hS rfl (L' := [(0, .slice a0 p0.length c0), (1, .slice a1 p1.length c1), (5, .pointer (some ⟨b2, 0, none⟩)), (77, .bool true)]) (As' := [.box b2 [.int .i64 p2.table, .int .u16 p2.id]]) (ob := []) (by kernel_rfl) (trivial) fun a w hS => ?_
              refine wl_end ?_
              exact JK21 true _ _ (hS.got [0, 1, 5, 77] [0] [] 0 (by kernel_rfl) (by kernel_rfl) (by kernel_rfl)) h
          · replace h := ctrue hb73 h
            refine k_draw 34 37 [.val (.bool y16.2), .val (.int .i64 y18), .val (.bool (decide (y18 ≥ 0))), .val (.bool (!(y16.2 == (decide (y18 ≥ 0))))), .val (.bool false), .val (.int .i64 y16.1), .val (.int .i64 y18), .val (.int .i64 (if 0 > y18 then 0 else y18)), .val (.bool (y16.1 != (if 0 > y18 then 0 else y18))), .val (.bool (y16.1 != (if 0 > y18 then 0 else y18))), .val (.bool true), .val (undef), .val (undef), .val (undef), .val (undef), .val (undef), .val (undef), .val (undef), .val (undef), .val (undef), .val (undef), .val (.bool true), .val (.bool true), .val (undef), .val (undef), .val (undef), .val (undef), .val (undef), .val (undef), .val (undef), .val (.bool true), .val (.bool true), .val (undef), .val (undef)] [] [(0, []), (1, []), (2, []), (3, []), (4, [.as 45 (.bool false)]), (5, []), (6, []), (7, []), (8, []), (9, []), (10, [.as 51 (.bool true)]), (11, []), (12, []), (13, []), (14, []), (15, []), (16, []), (17, []), (18, []), (19, []), (20, []), (21, []), (22, []), (23, []), (24, []), (25, []), (26, []), (27, []), (28, []), (29, []), (30, []), (31, []), (32, []), (33, [])] [] (ob := [fun _ => Value.bool (!(y16.2 == (decide (y18 ≥ 0)))) = .bool false, fun _ => Value.bool (y16.1 != (if 0 > y18 then 0 else y18)) = .bool true]) (by kernel_rfl) (by kernel_rfl) hS (by kernel_rfl) (fun F N0 => by kernel_rfl) (by kernel_rfl) (by kernel_rfl) (by kernel_rfl) (by kernel_rfl) ⟨Bx.c (by rw [hb72]), Bx.c (by rw [hb73]), trivial⟩ ?_ ?_
            · exact trivial
            intro V a w e hS hq
            refine r_run 34 3 [0, 1, 5, 77] [] hS rfl (L' := [(0, .slice a0 p0.length c0), (1, .slice a1 p1.length c1), (5, .pointer (some ⟨b2, 0, none⟩)), (77, .bool true)]) (As' := [.box b2 [.int .i64 p2.table, .int .u16 p2.id]]) (ob := []) (by kernel_rfl) (trivial) fun a w hS => ?_
            refine wl_end ?_
            exact JK21 true _ _ (hS.got [0, 1, 5, 77] [0] [] 0 (by kernel_rfl) (by kernel_rfl) (by kernel_rfl)) h
        · replace h := ctrue hb72 h
          refine k_draw 34 37 [.val (.bool y16.2), .val (.int .i64 y18), .val (.bool (decide (y18 ≥ 0))), .val (.bool (!(y16.2 == (decide (y18 ≥ 0))))), .val (.bool true), .val (undef), .val (undef), .val (undef), .val (undef), .val (.bool true), .val (.bool true), .val (undef), .val (undef), .val (undef), .val (undef), .val (undef), .val (undef), .val (undef), .val (undef), .val (undef), .val (undef), .val (.bool true), .val (.bool true), .val (undef), .val (undef), .val (undef), .val (undef), .val (undef), .val (undef), .val (undef), .val (.bool true), .val (.bool true), .val (undef), .val (undef)] [] [(0, []), (1, []), (2, []), (3, []), (4, [.as 45 (.bool true)]), (5, []), (6, []), (7, []), (8, []), (9, []), (10, []), (11, []), (12, []), (13, []), (14, []), (15, []), (16, []), (17, []), (18, []), (19, []), (20, []), (21, []), (22, []), (23, []), (24, []), (25, []), (26, []), (27, []), (28, []), (29, []), (30, []), (31, []), (32, []), (33, [])] [] (ob := [fun _ => Value.bool (!(y16.2 == (decide (y18 ≥ 0)))) = .bool true]) (by kernel_rfl) (by kernel_rfl) hS (by kernel_rfl) (fun F N0 => by kernel_rfl) (by kernel_rfl) (by kernel_rfl) (by kernel_rfl) (by kernel_rfl) ⟨Bx.c (by rw [hb72]), trivial⟩ ?_ ?_
          · exact trivial
          intro V a w e hS hq
          refine r_run 34 3 [0, 1, 5, 77] [] hS rfl (L' := [(0, .slice a0 p0.length c0), (1, .slice a1 p1.length c1), (5, .pointer (some ⟨b2, 0, none⟩)), (77, .bool true)]) (As' := [.box b2 [.int .i64 p2.table, .int .u16 p2.id]]) (ob := []) (by kernel_rfl) (trivial) fun a w hS => ?_
          refine wl_end ?_
          exact JK21 true _ _ (hS.got [0, 1, 5, 77] [0] [] 0 (by kernel_rfl) (by kernel_rfl) (by kernel_rfl)) h
    cases hb88 : y10
    · replace hS := hS.env (L' := [(0, .slice a0 p0.length c0), (1, .slice a1 p1.length c1), (5, .pointer (some ⟨b2, 0, none⟩)), (27, .bool false)]) (by rw [hb88])
      replace h := cfalse hb88 h
      refine r_run 4 2 [0, 1, 5, 27, 28, 29] [] hS rfl (L' := [(0, .slice a0 p0.length c0), (1, .slice a1 p1.length c1), (5, .pointer (some ⟨b2, 0, none⟩)), (27, .bool false), (28, Value.agg #[.slice none 0 0]), (29, .slice a1 p1.length c1)]) (As' := [.box b2 [.int .i64 p2.table, .int .u16 p2.id]]) (ob := []) (by kernel_rfl) (trivial) fun a w hS => ?_
      obtain ⟨y89, hy89, h⟩ := bindS h
      refine r_call 6 rfl (d := some 30) (g := 10) (args := #[Value.agg #[.slice none 0 0], .slice a1 p1.length c1]) [] hS (by kernel_rfl) rfl (law05_over_ok n (Schema.mk ([] : (List Bounds))) p1 y89 hy89) (fun F up => ⟨nilB, up (hS.p 1 rfl), trivial⟩) ?_
      rintro v A P a w ⟨rfl, rfl, rfl⟩ hS
      refine r_run 7 1 [0, 1, 5, 31] [] hS rfl (L' := [(0, .slice a0 p0.length c0), (1, .slice a1 p1.length c1), (5, .pointer (some ⟨b2, 0, none⟩)), (31, .bool y89)]) (As' := [.box b2 [.int .i64 p2.table, .int .u16 p2.id]]) (ob := []) (by kernel_rfl) (trivial) fun a w hS => ?_
      refine wl_end ?_
      exact JK11 y89 _ _ (hS.got [0, 1, 5, 31] [0] [] 0 (by kernel_rfl) (by kernel_rfl) (by kernel_rfl)) h
    · replace hS := hS.env (L' := [(0, .slice a0 p0.length c0), (1, .slice a1 p1.length c1), (5, .pointer (some ⟨b2, 0, none⟩)), (27, .bool true)]) (by rw [hb88])
      replace h := ctrue hb88 h
      refine r_run 4 4 [0, 1, 5, 31] [] hS rfl (L' := [(0, .slice a0 p0.length c0), (1, .slice a1 p1.length c1), (5, .pointer (some ⟨b2, 0, none⟩)), (31, .bool true)]) (As' := [.box b2 [.int .i64 p2.table, .int .u16 p2.id]]) (ob := []) (by kernel_rfl) (trivial) fun a w hS => ?_
      refine wl_end ?_
      exact JK11 true _ _ (hS.got [0, 1, 5, 31] [0] [] 0 (by kernel_rfl) (by kernel_rfl) (by kernel_rfl)) h

end Go.Proofs.Ytlflbhhajnoelaa
