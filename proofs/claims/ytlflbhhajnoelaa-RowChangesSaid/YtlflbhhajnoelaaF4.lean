/- Functions of the program: plain twins and walks, printed by program. -/
import Derived.Test.YtlflbhhajnoelaaTypes
import Derived.Test.YtlflbhhajnoelaaF3
namespace Go.Proofs.Ytlflbhhajnoelaa
open Go.Bur Go.RowKit
set_option linter.unusedVariables false
set_option linter.unusedSimpArgs false
set_option maxRecDepth 100000
/-! slices.Delete   bursary api.Row bursary api.Row  -/
def slices_Delete_Row (n : Nat) (p0 : List Row) (p1 p2 : Int) : Option (List Row) := if 0 ≤ p1 ∧ p1 ≤ p2 ∧ p2 ≤ (p0.length : Int) then some (p0.take p1.toNat ++ p0.drop p2.toNat) else none
theorem slices_Delete_Row_ok {a0 : Option Addr} {c0 : Nat} (n : Nat) (p0 : List Row) (p1 p2 : Int) (r : List Row) (h : slices_Delete_Row n p0 p1 p2 = some r) :
    Meets Try.prog 45 #[.slice a0 p0.length c0, .int .i64 p1, .int .i64 p2] [rowF flat_Row 38 a0 c0 p0] [] fun v A P => ∃ (a : Option Addr) (c : Nat), v = .slice a r.length c ∧ A = [rowF flat_Row 38 a c r] ∧ P = [] := by
  unfold slices_Delete_Row at h
  split at h
  case isFalse => cases h
  rename_i hb
  obtain ⟨hb0, hb1, hb2⟩ := hb
  obtain rfl := someI h
  obtain ⟨i, hi⟩ : ∃ i : Nat, p1 = (i : Int) := ⟨p1.toNat, by omega⟩
  obtain ⟨j, hj⟩ : ∃ j : Nat, p2 = (j : Int) := ⟨p2.toNat, by omega⟩
  subst hi hj
  simp only [Int.toNat_natCast]
  have hij : i ≤ j := by omega
  have hjl : j ≤ p0.length := by omega
  refine meets_enter 33 Try.func45 Try.call45 rfl (by kernel_rfl) (by simp) fun C a w hS => ?_
  have hc : p0.length ≤ c0 := (row_len (hS.st.own _ (List.mem_cons_self ..))).2.1
  refine k_seq (by kernel_rfl) fun K1 hK1 => ?_
  refine k_reg 1 (by kernel_rfl) ?_
  refine r_run 0 1 [0, 1, 2] [] hS rfl (L' := [(0, .slice a0 p0.length c0), (1, .int .i64 i), (2, .int .i64 j)]) (As' := [rowF flat_Row 38 a0 c0 p0]) (ob := []) (by kernel_rfl) trivial fun a w hS => ?_
  refine wl_end ?_
  refine hK1 _ _ ?_
  refine k_seq (by kernel_rfl) fun K2 hK2 => ?_
  refine k_reg 6 (by kernel_rfl) ?_
  refine r_run 0 6 [0, 1, 2] [] hS rfl (L' := [(0, .slice a0 p0.length c0), (1, .int .i64 i), (2, .int .i64 j)]) (As' := [rowF flat_Row 38 a0 c0 p0]) (ob := [fun _ => 0 ≤ (i : Int) ∧ (i : Int) ≤ (j : Int) ∧ (j : Int) ≤ (p0.length : Int) ∧ (p0.length : Int) ≤ (c0 : Int)]) (by kernel_rfl) ⟨Bx.c ⟨hb0, hb1, hb2, by omega⟩, trivial⟩ fun a w hS => ?_
  refine wl_end ?_
  refine hK2 _ _ ?_
  refine k_seq (by kernel_rfl) fun K3 hK3 => ?_
  refine k_seq (by kernel_rfl) fun K4 hK4 => ?_
  refine k_reg 3 (by kernel_rfl) ?_
  refine r_run 0 3 [0, 1, 2, 16] [] hS rfl (L' := [(0, .slice a0 p0.length c0), (1, .int .i64 i), (2, .int .i64 j), (16, .bool ((i : Int) == (j : Int)))]) (As' := [rowF flat_Row 38 a0 c0 p0]) (ob := []) (by kernel_rfl) trivial fun a w hS => ?_
  refine wl_end ?_
  refine hK4 _ _ ?_
  refine k_cond ((i : Int) == (j : Int)) hS.has (by kernel_rfl) (by kernel_rfl) (by kernel_rfl) (fun hq => ?_) (fun hq => ?_)
  · have hij : i = j := by
      have := of_decide_eq_true (p := (i : Int) = (j : Int)) (by simpa using hq)
      omega
    subst hij
    refine k_seq (by kernel_rfl) fun K5 hK5 => ?_
    refine k_reg 2 (by kernel_rfl) ?_
    refine r_run 0 2 [6] [] hS rfl (L' := [(6, .slice a0 p0.length c0)]) (As' := [rowF flat_Row 38 a0 c0 p0]) (ob := []) (by kernel_rfl) trivial fun a w hS => ?_
    refine wl_end ?_
    refine hK5 _ _ ?_
    refine k_ret (by kernel_rfl) ?_
    try simp only [Exit.then, Exit.inBlock]
    refine r_ret hS [.tmp 6] [] (xs := [.slice a0 p0.length c0]) (ps := []) [0] [] rfl (by kernel_rfl) (fun hA => trivial) rfl (fun F up => trivial) ?_
    rw [List.take_append_drop]
    exact ⟨a0, c0, rfl, rfl, rfl⟩
  · have hne : i ≠ j := fun e => by
      subst e
      simp at hq
    have hlt : i < j := by omega
    obtain ⟨g, rfl⟩ := row_block (hS.st.own _ (List.mem_cons_self ..)) (by omega)
    refine k_skip (by kernel_rfl) ?_
    refine hK3 _ _ ?_
    refine k_seq (by kernel_rfl) fun K5 hK5 => ?_
    refine k_reg 3 (by kernel_rfl) ?_
    refine r_run 0 3 [0, 1, 2, 7] [] hS rfl (L' := [(0, .slice (some ⟨g, 0, none⟩) p0.length c0), (1, .int .i64 i), (2, .int .i64 j), (7, .int .i64 (p0.length : Int))]) (As' := [rowF flat_Row 38 (some ⟨g, 0, none⟩) c0 p0]) (ob := []) (by kernel_rfl) trivial fun a w hS => ?_
    refine wl_end ?_
    refine hK5 _ _ ?_
    refine k_seq (by kernel_rfl) fun K6 hK6 => ?_
    refine k_draw 6 8 [.val (.slice (some ⟨g, 0, none⟩) p0.length c0), .val (.int .i64 i), .val (.slice (slA (some ⟨g, 0, none⟩) 0 c0 (flat_Row).sz) i c0), .val (.slice (some ⟨g, 0, none⟩) p0.length c0), .val (.int .i64 j), .val (.slice (slA (some ⟨g, 0, none⟩) j c0 (flat_Row).sz) (p0.length - j) (c0 - j))] [] [(0, []), (1, []), (2, []), (3, []), (4, []), (5, [])] [] (ob := [fun _ => (0 : Int) ≤ 0 ∧ (0 : Int) ≤ (i : Int) ∧ (i : Int) ≤ (c0 : Int), fun _ => 0 ≤ (j : Int) ∧ (j : Int) ≤ (p0.length : Int) ∧ (p0.length : Int) ≤ (c0 : Int)]) (by kernel_rfl) (by kernel_rfl) hS (by kernel_rfl) (fun F N0 => by kernel_rfl) (by kernel_rfl) (by kernel_rfl) (by kernel_rfl) (by kernel_rfl) ⟨Bx.c ⟨by omega, by omega, by omega⟩, Bx.c ⟨by omega, by omega, by omega⟩, trivial⟩ ?_ ?_
    · exact trivial
    intro V a w e hS hq
    refine r_bltS 6 rfl 0 (.row (some ⟨g, 0, none⟩) c0 38 (flat_Row).sz (i + (p0.length - j)) ((p0.flatMap (flat_Row).enc).take (i * (flat_Row).sz) ++ (p0.flatMap (flat_Row).enc).drop (j * (flat_Row).sz))) (d := some 26) (b := .append) (ts := #[25, 25]) (ty := 25) (vs := #[.slice (slA (some ⟨g, 0, none⟩) 0 c0 (flat_Row).sz) i c0, .slice (slA (some ⟨g, 0, none⟩) j c0 (flat_Row).sz) (p0.length - j) (c0 - j)]) hS (by kernel_rfl) rfl (fun hA => run_cut_row (t := 25) (ty := 25) (inf := Try.t38) (by kernel_rfl) (by kernel_rfl) rfl hA (flat_one p0) hij hjl) rfl (by simp [Asn.fp]) fun a w hS => ?_
    have hn' : p0.length - (i + (p0.length - j)) = j - i := by omega
    have hs0 : slA (some (⟨g, 0, none⟩ : Addr)) (i + (p0.length - j)) c0 (flat_Row).sz = some ⟨g, (i + (p0.length - j)) * (flat_Row).sz, none⟩ := by
      unfold slA; rw [if_neg (by omega)]; simp only [Option.map_some, addr_add0]
    refine r_run 7 1 [0, 7] [] hS rfl (L' := [(0, .slice (some ⟨g, 0, none⟩) (i + (p0.length - j)) c0), (7, .int .i64 (p0.length : Int))]) (As' := [.row (some ⟨g, 0, none⟩) c0 38 (flat_Row).sz (i + (p0.length - j)) ((p0.flatMap (flat_Row).enc).take (i * (flat_Row).sz) ++ (p0.flatMap (flat_Row).enc).drop (j * (flat_Row).sz))]) (ob := []) (by kernel_rfl) trivial fun a w hS => ?_
    refine wl_end ?_
    refine hK6 _ _ ?_
    refine k_seq (by kernel_rfl) fun K7 hK7 => ?_
    refine k_reg 6 (by kernel_rfl) ?_
    refine r_run 0 5 [0, 31] [.as 31 (.slice (some ⟨g, (i + (p0.length - j)) * (flat_Row).sz, none⟩) (j - i) (c0 - (i + (p0.length - j))))] hS rfl (L' := [(0, .slice (some ⟨g, 0, none⟩) (i + (p0.length - j)) c0), (31, .slice (some ⟨g, (i + (p0.length - j)) * (flat_Row).sz, none⟩) (j - i) (c0 - (i + (p0.length - j))))]) (As' := [.row (some ⟨g, 0, none⟩) c0 38 (flat_Row).sz (i + (p0.length - j)) ((p0.flatMap (flat_Row).enc).take (i * (flat_Row).sz) ++ (p0.flatMap (flat_Row).enc).drop (j * (flat_Row).sz))]) (ob := [fun _ => 0 ≤ ((i + (p0.length - j) : Nat) : Int) ∧ ((i + (p0.length - j) : Nat) : Int) ≤ (p0.length : Int) ∧ (p0.length : Int) ≤ (c0 : Int), fun _ => Value.slice (slA (some ⟨g, 0, none⟩) (i + (p0.length - j)) c0 (flat_Row).sz) (p0.length - (i + (p0.length - j))) (c0 - (i + (p0.length - j))) = .slice (some ⟨g, (i + (p0.length - j)) * (flat_Row).sz, none⟩) (j - i) (c0 - (i + (p0.length - j)))]) (by kernel_rfl) ⟨Bx.c ⟨by omega, by omega, by omega⟩, Bx.c (by rw [hs0, hn']), trivial⟩ fun a w hS => ?_
    obtain ⟨ds, hd1, hd2, hd3, hd4⟩ := row_full (hS.st.own _ (List.mem_cons_self ..))
    replace hS := hS.same (B := .row (some ⟨g, 0, none⟩) c0 38 (flat_Row).sz c0 ds) 0 rfl (fun _ => hd4) rfl (by simp [Asn.fp])
    refine r_bltS 5 rfl 0 (.row (some ⟨g, 0, none⟩) c0 38 (flat_Row).sz c0 (spl ds ((i + (p0.length - j)) * (flat_Row).sz) (Builtin.zeroCells ((Try.t38.zero).getD undef).cells (j - i)).toList)) (d := none) (b := .clear) (ts := #[25]) (ty := 0) (vs := #[.slice (some ⟨g, (i + (p0.length - j)) * (flat_Row).sz, none⟩) (j - i) (c0 - (i + (p0.length - j)))]) hS (by kernel_rfl) rfl (fun hA => run_clear_row (t := 25) (ty := 0) (inf := Try.t38) (by kernel_rfl) (by kernel_rfl) (by kernel_rfl) (by kernel_rfl) (oneAll (by kernel_rfl)) hA (by rw [← Nat.add_mul]; exact Nat.mul_le_mul_right _ (by omega))) rfl (by simp [Asn.fp]) fun a w hS => ?_
    have hcut : (spl ds ((i + (p0.length - j)) * (flat_Row).sz) (Builtin.zeroCells ((Try.t38.zero).getD undef).cells (j - i)).toList).take ((i + (p0.length - j)) * (flat_Row).sz) = (p0.take i ++ p0.drop j).flatMap (flat_Row).enc := by
      have hle : (i + (p0.length - j)) * (flat_Row).sz ≤ ds.length := by rw [hd2]; exact Nat.mul_le_mul_right _ hd3
      unfold spl
      rw [List.append_assoc, List.take_left' (by rw [List.length_take]; omega), hd1, List.flatMap_append, flat_take, flat_drop]
    have hlen : (p0.take i ++ p0.drop j).length = i + (p0.length - j) := by simp; omega
    replace hS := hS.same (B := rowF flat_Row 38 (some ⟨g, 0, none⟩) c0 (p0.take i ++ p0.drop j)) 0 rfl (fun hA => by
      have := row_cut hA (i + (p0.length - j)) (by omega)
      rw [hcut] at this
      unfold rowF
      rw [hlen]
      exact this) rfl (by simp [Asn.fp])
    refine wl_end ?_
    refine hK7 _ _ ?_
    refine k_seq (by kernel_rfl) fun K8 hK8 => ?_
    refine k_reg 2 (by kernel_rfl) ?_
    refine r_run 0 2 [6] [] hS rfl (L' := [(6, .slice (some ⟨g, 0, none⟩) (i + (p0.length - j)) c0)]) (As' := [rowF flat_Row 38 (some ⟨g, 0, none⟩) c0 (p0.take i ++ p0.drop j)]) (ob := []) (by kernel_rfl) trivial fun a w hS => ?_
    refine wl_end ?_
    refine hK8 _ _ ?_
    refine k_ret (by kernel_rfl) ?_
    try simp only [Exit.then, Exit.inBlock]
    refine r_ret hS [.tmp 6] [] (xs := [.slice (some ⟨g, 0, none⟩) (i + (p0.length - j)) c0]) (ps := []) [0] [] rfl (by kernel_rfl) (fun hA => trivial) rfl (fun F up => trivial) ?_
    exact ⟨some ⟨g, 0, none⟩, c0, by rw [hlen]; rfl, rfl, rfl⟩


/-! bursary row.Take -/
def row_Take (n : Nat) (p0 : Schema) (p1 : (List Row)) (p2 : Key) : Option ((List Row) × Row × Int) :=
  (row_CheckList n p0 p1).bind fun y30 =>
  cond (y30 != 0)
    (some (([] : List Row), (Row.mk (Key.mk 0 0) 0 ByteArray.empty), y30))
    ((row_CheckKey n p0 p2).bind fun y37 =>
    cond (y37 != 0)
      (some (([] : List Row), (Row.mk (Key.mk 0 0) 0 ByteArray.empty), y37))
      ((row_place n p1 p2).bind fun y43 =>
      cond (!y43.2)
        (some (([] : List Row), (Row.mk (Key.mk 0 0) 0 ByteArray.empty), 4))
        ((slices_Clone_Row n p1).bind fun y50 =>
        (slices_Delete_Row n y50 y43.1 (IntKind.wrap .i64 (y43.1 + 1))).bind fun y54 =>
        (idx p1 y43.1).bind fun x58 =>
        some (y54, x58, 0))))
theorem row_Take_ok {a0_tables : Option Addr} {c0_tables : Nat} {a1 : Option Addr} {c1 : Nat} (n : Nat) (p0 : Schema) (p1 : (List Row)) (p2 : Key) (r : ((List Row) × Row × Int))  (h : row_Take n p0 p1 p2 = some r) :
    Meets Try.prog 23 #[Value.agg #[.slice a0_tables p0.tables.length c0_tables], .slice a1 p1.length c1, Value.agg #[.int .i64 p2.table, .int .u16 p2.id]] [] [RSf flat_Bounds a0_tables c0_tables p0.tables, RSf flat_Row a1 c1 p1] fun v A P => ∃ (a0 : Option Addr) (c0 : Nat), v = .tuple #[.slice a0 r.1.length c0, Value.agg #[.int .i64 r.2.1.key.table, .int .u16 r.2.1.key.id, .int .i64 r.2.1.val, .string r.2.1.note], .int .i64 r.2.2] ∧ A = [rowF flat_Row 38 a0 c0 r.1] ∧ P = [] := by
  unfold row_Take at h
  refine meets_enter 46 Try.func23 Try.call23 rfl (by kernel_rfl) (by simp) fun C a w hS => ?_
  refine k_seq (by kernel_rfl) fun K24 hK24 => ?_
  refine k_reg 5 (by kernel_rfl) ?_
  refine r_run3 0 5 [1, 3, 5, 7] [] hS rfl (L' := fun b25 b26 b27 => [(1, .slice a1 p1.length c1), (3, .pointer (some ⟨b25, 0, none⟩)), (5, .pointer (some ⟨b26, 0, none⟩)), (7, .pointer (some ⟨b27, 0, none⟩))]) (As' := fun b25 b26 b27 => [.box b27 [.int .i64 0, .int .u16 0, .int .i64 0, .string ByteArray.empty], .box b26 [.int .i64 p2.table, .int .u16 p2.id], .box b25 [.slice a0_tables p0.tables.length c0_tables]]) (ob := fun b25 b26 b27 => []) (fun b25 b26 b27 => by kernel_rfl) (fun b25 b26 b27 => trivial) fun b25 b26 b27 a w hS => ?_
  refine wl_end ?_
  refine hK24 _ _ ?_
  refine k_seq (by kernel_rfl) fun K28 hK28 => ?_
  refine k_seq (by kernel_rfl) fun K29 hK29 => ?_
  refine k_reg 4 (by kernel_rfl) ?_
  refine r_run 0 2 [1, 3, 5, 7, 13, 14] [.own 2 0] hS rfl (L' := [(1, .slice a1 p1.length c1), (3, .pointer (some ⟨b25, 0, none⟩)), (5, .pointer (some ⟨b26, 0, none⟩)), (7, .pointer (some ⟨b27, 0, none⟩)), (13, Value.agg #[.slice a0_tables p0.tables.length c0_tables]), (14, .slice a1 p1.length c1)]) (As' := [.box b27 [.int .i64 0, .int .u16 0, .int .i64 0, .string ByteArray.empty], .box b26 [.int .i64 p2.table, .int .u16 p2.id], .box b25 [.slice a0_tables p0.tables.length c0_tables]]) (ob := [fun _ => (⟨b25, 0, none⟩ : Addr) = (⟨b25, 0, none⟩ : Addr).add 0]) (by kernel_rfl) (⟨Bx.c rfl, trivial⟩) fun a w hS => ?_
  obtain ⟨y30, hy30, h⟩ := bindS h
  refine r_call 2 rfl (d := some 15) (g := 13) (args := #[Value.agg #[.slice a0_tables p0.tables.length c0_tables], .slice a1 p1.length c1]) [] hS (by kernel_rfl) rfl (row_CheckList_ok n p0 p1 y30 hy30) (fun F up => ⟨up (hS.p 0 rfl), up (hS.p 1 rfl), trivial⟩) ?_
  rintro v A P a w ⟨rfl, rfl, rfl⟩ hS
  refine r_run 3 1 [1, 3, 5, 7, 9] [] hS rfl (L' := [(1, .slice a1 p1.length c1), (3, .pointer (some ⟨b25, 0, none⟩)), (5, .pointer (some ⟨b26, 0, none⟩)), (7, .pointer (some ⟨b27, 0, none⟩)), (9, .int .i64 y30)]) (As' := [.box b27 [.int .i64 0, .int .u16 0, .int .i64 0, .string ByteArray.empty], .box b26 [.int .i64 p2.table, .int .u16 p2.id], .box b25 [.slice a0_tables p0.tables.length c0_tables]]) (ob := []) (by kernel_rfl) (trivial) fun a w hS => ?_
  refine wl_end ?_
  refine hK29 _ _ ?_
  refine k_seq (by kernel_rfl) fun K31 hK31 => ?_
  refine k_reg 2 (by kernel_rfl) ?_
  refine r_run 0 2 [1, 3, 5, 7, 9, 17] [] hS rfl (L' := [(1, .slice a1 p1.length c1), (3, .pointer (some ⟨b25, 0, none⟩)), (5, .pointer (some ⟨b26, 0, none⟩)), (7, .pointer (some ⟨b27, 0, none⟩)), (9, .int .i64 y30), (17, .bool (y30 != 0))]) (As' := [.box b27 [.int .i64 0, .int .u16 0, .int .i64 0, .string ByteArray.empty], .box b26 [.int .i64 p2.table, .int .u16 p2.id], .box b25 [.slice a0_tables p0.tables.length c0_tables]]) (ob := []) (by kernel_rfl) (trivial) fun a w hS => ?_
  refine wl_end ?_
  refine hK31 _ _ ?_
  refine k_cond (y30 != 0) hS.has (by kernel_rfl) (by kernel_rfl) (by kernel_rfl) (fun hb32 => ?_) (fun hb32 => ?_)
  · replace h := ctrue hb32 h
    refine k_seq (by kernel_rfl) fun K33 hK33 => ?_
    refine k_reg 5 (by kernel_rfl) ?_
    refine r_run 0 5 [6, 7, 8] [.own 0 0] hS rfl (L' := [(6, .slice none 0 0), (7, .pointer (some ⟨b27, 0, none⟩)), (8, .int .i64 y30)]) (As' := [.box b27 [.int .i64 0, .int .u16 0, .int .i64 0, .string ByteArray.empty], .box b26 [.int .i64 p2.table, .int .u16 p2.id], .box b25 [.slice a0_tables p0.tables.length c0_tables]]) (ob := [fun _ => (⟨b27, 0, none⟩ : Addr) = (⟨b27, 0, none⟩ : Addr).add 0, fun _ => ∀ u ∈ ([.int .i64 0, .int .u16 0, .int .i64 0, .string ByteArray.empty] : List Value), u.oneCell' = true]) (by kernel_rfl) (⟨Bx.c rfl, Bx.c (oneAll rfl), trivial⟩) fun a w hS => ?_
    refine wl_end ?_
    refine hK33 _ _ ?_
    refine k_ret (by kernel_rfl) ?_
    replace hS := hS.nilrow (e := 38) (sz := 4)
    obtain rfl := someI h
    try simp only [Exit.then, Exit.inBlock]
    refine r_ret hS [.tmp 6, .cell 7 38, .tmp 8] [[.int .i64 0, .int .u16 0, .int .i64 0, .string ByteArray.empty]] (xs := [.slice none ([] : List Row).length 0, Value.agg #[.int .i64 0, .int .u16 0, .int .i64 0, .string ByteArray.empty], .int .i64 y30]) (ps := [fun w => CellsAt w ⟨b27, 0, none⟩ [.int .i64 0, .int .u16 0, .int .i64 0, .string ByteArray.empty]]) [0] [] rfl (by kernel_rfl) (fun hA => ⟨boxAt hA 1 rfl, trivial⟩) rfl (fun F up => trivial) ?_
    exact ⟨none, 0, rfl, rfl, rfl⟩
  · replace h := cfalse hb32 h
    refine k_skip (by kernel_rfl) ?_
    refine hK28 _ _ ?_
    refine k_seq (by kernel_rfl) fun K35 hK35 => ?_
    refine k_seq (by kernel_rfl) fun K36 hK36 => ?_
    refine k_reg 4 (by kernel_rfl) ?_
    refine r_run 0 2 [1, 5, 7, 20, 21] [.own 2 0, .own 1 0] hS rfl (L' := [(1, .slice a1 p1.length c1), (5, .pointer (some ⟨b26, 0, none⟩)), (7, .pointer (some ⟨b27, 0, none⟩)), (20, Value.agg #[.slice a0_tables p0.tables.length c0_tables]), (21, Value.agg #[.int .i64 p2.table, .int .u16 p2.id])]) (As' := [.box b27 [.int .i64 0, .int .u16 0, .int .i64 0, .string ByteArray.empty], .box b26 [.int .i64 p2.table, .int .u16 p2.id], .box b25 [.slice a0_tables p0.tables.length c0_tables]]) (ob := [fun _ => (⟨b25, 0, none⟩ : Addr) = (⟨b25, 0, none⟩ : Addr).add 0, fun _ => (⟨b26, 0, none⟩ : Addr) = (⟨b26, 0, none⟩ : Addr).add 0]) (by kernel_rfl) (⟨Bx.c rfl, Bx.c rfl, trivial⟩) fun a w hS => ?_
    obtain ⟨y37, hy37, h⟩ := bindS h
    refine r_call 2 rfl (d := some 22) (g := 12) (args := #[Value.agg #[.slice a0_tables p0.tables.length c0_tables], Value.agg #[.int .i64 p2.table, .int .u16 p2.id]]) [] hS (by kernel_rfl) rfl (row_CheckKey_ok n p0 p2 y37 hy37) (fun F up => ⟨up (hS.p 0 rfl), trivial⟩) ?_
    rintro v A P a w ⟨rfl, rfl, rfl⟩ hS
    refine r_run 3 1 [1, 5, 7, 10] [] hS rfl (L' := [(1, .slice a1 p1.length c1), (5, .pointer (some ⟨b26, 0, none⟩)), (7, .pointer (some ⟨b27, 0, none⟩)), (10, .int .i64 y37)]) (As' := [.box b27 [.int .i64 0, .int .u16 0, .int .i64 0, .string ByteArray.empty], .box b26 [.int .i64 p2.table, .int .u16 p2.id], .box b25 [.slice a0_tables p0.tables.length c0_tables]]) (ob := []) (by kernel_rfl) (trivial) fun a w hS => ?_
    refine wl_end ?_
    refine hK36 _ _ ?_
    refine k_seq (by kernel_rfl) fun K38 hK38 => ?_
    refine k_reg 2 (by kernel_rfl) ?_
    refine r_run 0 2 [1, 5, 7, 10, 24] [] hS rfl (L' := [(1, .slice a1 p1.length c1), (5, .pointer (some ⟨b26, 0, none⟩)), (7, .pointer (some ⟨b27, 0, none⟩)), (10, .int .i64 y37), (24, .bool (y37 != 0))]) (As' := [.box b27 [.int .i64 0, .int .u16 0, .int .i64 0, .string ByteArray.empty], .box b26 [.int .i64 p2.table, .int .u16 p2.id], .box b25 [.slice a0_tables p0.tables.length c0_tables]]) (ob := []) (by kernel_rfl) (trivial) fun a w hS => ?_
    refine wl_end ?_
    refine hK38 _ _ ?_
    refine k_cond (y37 != 0) hS.has (by kernel_rfl) (by kernel_rfl) (by kernel_rfl) (fun hb39 => ?_) (fun hb39 => ?_)
    · replace h := ctrue hb39 h
      refine k_seq (by kernel_rfl) fun K40 hK40 => ?_
      refine k_reg 5 (by kernel_rfl) ?_
      refine r_run 0 5 [6, 7, 8] [.own 0 0] hS rfl (L' := [(6, .slice none 0 0), (7, .pointer (some ⟨b27, 0, none⟩)), (8, .int .i64 y37)]) (As' := [.box b27 [.int .i64 0, .int .u16 0, .int .i64 0, .string ByteArray.empty], .box b26 [.int .i64 p2.table, .int .u16 p2.id], .box b25 [.slice a0_tables p0.tables.length c0_tables]]) (ob := [fun _ => (⟨b27, 0, none⟩ : Addr) = (⟨b27, 0, none⟩ : Addr).add 0, fun _ => ∀ u ∈ ([.int .i64 0, .int .u16 0, .int .i64 0, .string ByteArray.empty] : List Value), u.oneCell' = true]) (by kernel_rfl) (⟨Bx.c rfl, Bx.c (oneAll rfl), trivial⟩) fun a w hS => ?_
      refine wl_end ?_
      refine hK40 _ _ ?_
      refine k_ret (by kernel_rfl) ?_
      replace hS := hS.nilrow (e := 38) (sz := 4)
      obtain rfl := someI h
      try simp only [Exit.then, Exit.inBlock]
      refine r_ret hS [.tmp 6, .cell 7 38, .tmp 8] [[.int .i64 0, .int .u16 0, .int .i64 0, .string ByteArray.empty]] (xs := [.slice none ([] : List Row).length 0, Value.agg #[.int .i64 0, .int .u16 0, .int .i64 0, .string ByteArray.empty], .int .i64 y37]) (ps := [fun w => CellsAt w ⟨b27, 0, none⟩ [.int .i64 0, .int .u16 0, .int .i64 0, .string ByteArray.empty]]) [0] [] rfl (by kernel_rfl) (fun hA => ⟨boxAt hA 1 rfl, trivial⟩) rfl (fun F up => trivial) ?_
      exact ⟨none, 0, rfl, rfl, rfl⟩
    · replace h := cfalse hb39 h
      refine k_skip (by kernel_rfl) ?_
      refine hK35 _ _ ?_
      refine k_seq (by kernel_rfl) fun K42 hK42 => ?_
      refine k_reg 8 (by kernel_rfl) ?_
      refine r_run 0 2 [1, 7, 28, 29] [.own 1 0] hS rfl (L' := [(1, .slice a1 p1.length c1), (7, .pointer (some ⟨b27, 0, none⟩)), (28, .slice a1 p1.length c1), (29, Value.agg #[.int .i64 p2.table, .int .u16 p2.id])]) (As' := [.box b27 [.int .i64 0, .int .u16 0, .int .i64 0, .string ByteArray.empty], .box b26 [.int .i64 p2.table, .int .u16 p2.id], .box b25 [.slice a0_tables p0.tables.length c0_tables]]) (ob := [fun _ => (⟨b26, 0, none⟩ : Addr) = (⟨b26, 0, none⟩ : Addr).add 0]) (by kernel_rfl) (⟨Bx.c rfl, trivial⟩) fun a w hS => ?_
      obtain ⟨y43, hy43, h⟩ := bindS h
      refine r_call 2 rfl (d := some 30) (g := 42) (args := #[.slice a1 p1.length c1, Value.agg #[.int .i64 p2.table, .int .u16 p2.id]]) [] hS (by kernel_rfl) rfl (row_place_ok n p1 p2 y43 hy43) (fun F up => ⟨up (hS.p 1 rfl), trivial⟩) ?_
      rintro v A P a w ⟨rfl, rfl, rfl⟩ hS
      refine r_run 3 5 [1, 7, 11, 12] [] hS rfl (L' := [(1, .slice a1 p1.length c1), (7, .pointer (some ⟨b27, 0, none⟩)), (11, .int .i64 y43.1), (12, .bool y43.2)]) (As' := [.box b27 [.int .i64 0, .int .u16 0, .int .i64 0, .string ByteArray.empty], .box b26 [.int .i64 p2.table, .int .u16 p2.id], .box b25 [.slice a0_tables p0.tables.length c0_tables]]) (ob := []) (by kernel_rfl) (trivial) fun a w hS => ?_
      refine wl_end ?_
      refine hK42 _ _ ?_
      refine k_seq (by kernel_rfl) fun K44 hK44 => ?_
      refine k_seq (by kernel_rfl) fun K45 hK45 => ?_
      refine k_reg 2 (by kernel_rfl) ?_
      refine r_run 0 2 [1, 7, 11, 34] [] hS rfl (L' := [(1, .slice a1 p1.length c1), (7, .pointer (some ⟨b27, 0, none⟩)), (11, .int .i64 y43.1), (34, .bool (!y43.2))]) (As' := [.box b27 [.int .i64 0, .int .u16 0, .int .i64 0, .string ByteArray.empty], .box b26 [.int .i64 p2.table, .int .u16 p2.id], .box b25 [.slice a0_tables p0.tables.length c0_tables]]) (ob := []) (by kernel_rfl) (trivial) fun a w hS => ?_
      refine wl_end ?_
      refine hK45 _ _ ?_
      refine k_cond (!y43.2) hS.has (by kernel_rfl) (by kernel_rfl) (by kernel_rfl) (fun hb46 => ?_) (fun hb46 => ?_)
      · replace h := ctrue hb46 h
        refine k_seq (by kernel_rfl) fun K47 hK47 => ?_
        refine k_reg 4 (by kernel_rfl) ?_
        refine r_run 0 4 [6, 7, 8] [.own 0 0] hS rfl (L' := [(6, .slice none 0 0), (7, .pointer (some ⟨b27, 0, none⟩)), (8, .int .i64 4)]) (As' := [.box b27 [.int .i64 0, .int .u16 0, .int .i64 0, .string ByteArray.empty], .box b26 [.int .i64 p2.table, .int .u16 p2.id], .box b25 [.slice a0_tables p0.tables.length c0_tables]]) (ob := [fun _ => (⟨b27, 0, none⟩ : Addr) = (⟨b27, 0, none⟩ : Addr).add 0, fun _ => ∀ u ∈ ([.int .i64 0, .int .u16 0, .int .i64 0, .string ByteArray.empty] : List Value), u.oneCell' = true]) (by kernel_rfl) (⟨Bx.c rfl, Bx.c (oneAll rfl), trivial⟩) fun a w hS => ?_
        refine wl_end ?_
        refine hK47 _ _ ?_
        refine k_ret (by kernel_rfl) ?_
        replace hS := hS.nilrow (e := 38) (sz := 4)
        obtain rfl := someI h
        try simp only [Exit.then, Exit.inBlock]
        refine r_ret hS [.tmp 6, .cell 7 38, .tmp 8] [[.int .i64 0, .int .u16 0, .int .i64 0, .string ByteArray.empty]] (xs := [.slice none ([] : List Row).length 0, Value.agg #[.int .i64 0, .int .u16 0, .int .i64 0, .string ByteArray.empty], .int .i64 4]) (ps := [fun w => CellsAt w ⟨b27, 0, none⟩ [.int .i64 0, .int .u16 0, .int .i64 0, .string ByteArray.empty]]) [0] [] rfl (by kernel_rfl) (fun hA => ⟨boxAt hA 1 rfl, trivial⟩) rfl (fun F up => trivial) ?_
        exact ⟨none, 0, rfl, rfl, rfl⟩
      · replace h := cfalse hb46 h
        refine k_skip (by kernel_rfl) ?_
        refine hK44 _ _ ?_
        refine k_seq (by kernel_rfl) fun K49 hK49 => ?_
        obtain ⟨y50, hy50, h⟩ := bindS h
        obtain ⟨y54, hy54, h⟩ := bindS h
        obtain ⟨x58, hx58, h⟩ := bindS h
        replace hS := hS.got [1, 7, 11, 34] [1, 1, 0] [] 0 (L' := [(1, .slice a1 p1.length c1), (7, .pointer (some ⟨b27, 0, none⟩)), (11, .int .i64 y43.1), (34, .bool (!y43.2))]) (Bs := [.box b26 [.int .i64 p2.table, .int .u16 p2.id], .box b25 [.slice a0_tables p0.tables.length c0_tables], .box b27 [.int .i64 0, .int .u16 0, .int .i64 0, .string ByteArray.empty]]) (Rs := [RSf flat_Bounds a0_tables c0_tables p0.tables, RSf flat_Row a1 c1 p1]) (by kernel_rfl) (by kernel_rfl) (by kernel_rfl)
        have ix58 := fidxB (F := flat_Row) (hS.p 1 rfl) hx58
        refine k_net 13 [.val (.slice a1 p1.length c1), .q (fun V x A p => ∃ (a51 : Option Addr) (c52 : Nat), (x : Value) = .slice a51 y50.length c52 ∧ (A : List Asn) = [rowF flat_Row 38 a51 c52 y50] ∧ (p : List (World → Prop)) = []), .val (.int .i64 y43.1), .val (.int .i64 y43.1), .val (.int .i64 (IntKind.wrap .i64 (y43.1 + 1))), .q (fun V x A p => ∃ (a55 : Option Addr) (c56 : Nat), (x : Value) = .slice a55 y54.length c56 ∧ (A : List Asn) = [rowF flat_Row 38 a55 c56 y54] ∧ (p : List (World → Prop)) = []), .val (.slice a1 p1.length c1), .val (.int .i64 y43.1), .val (.pointer (some (Addr.add (baseOf a1) (Int.toNat y43.1 * 4)))), .val (Value.agg #[.int .i64 x58.key.table, .int .u16 x58.key.id, .int .i64 x58.val, .string x58.note]), .q (fun V x A p => ∃ (a55 : Option Addr) (c56 : Nat), V 5 = .slice a55 y54.length c56 ∧ (x : Value) = .slice a55 y54.length c56 ∧ (A : List Asn) = [] ∧ (p : List (World → Prop)) = []), .q (fun V x A p => (x : Value) = undef ∧ (A : List Asn) = [.box b27 [.int .i64 x58.key.table, .int .u16 x58.key.id, .int .i64 x58.val, .string x58.note]] ∧ (p : List (World → Prop)) = []), .val (.int .i64 0)] [([], []), ([], [13]), ([], []), ([], []), ([], []), ([1], [13]), ([], []), ([], []), ([], []), ([], []), ([], [5, 13]), ([13], [5, 10]), ([], [5, 10, 11])] [.box b26 [.int .i64 p2.table, .int .u16 p2.id], .box b25 [.slice a0_tables p0.tables.length c0_tables]] [.box b27 [.int .i64 0, .int .u16 0, .int .i64 0, .string ByteArray.empty]] [5, 10, 11] [(0, []), (2, []), (3, []), (4, []), (6, []), (7, []), (8, []), (9, [.ext [.int .i64 x58.key.table, .int .u16 x58.key.id, .int .i64 x58.val, .string x58.note]])] [1, 5, 10, 11, 12] (ob := [fun _ => Inb a1 p1.length y43.1, Cel (Addr.add (baseOf a1) (Int.toNat y43.1 * 4)) [.int .i64 x58.key.table, .int .u16 x58.key.id, .int .i64 x58.val, .string x58.note]]) (by kernel_rfl) (by kernel_rfl) hS (by kernel_rfl) (by kernel_rfl) (by kernel_rfl) (by kernel_rfl) ⟨Bx.c ix58.1, ix58.2, trivial⟩ ?_ ?_
        · refine ⟨?_, ?_, ?_, ?_, ?_, trivial⟩
          · intro V I R a w hx hT CA UA PF hC hU hPF hS
            have hT13 : I 13 = ([.box b27 [.int .i64 0, .int .u16 0, .int .i64 0, .string ByteArray.empty]], []) := Eq.mp (by kernel_rfl) (hT 0 _ rfl)
            have hA13 := congrArg Prod.fst hT13
            have hP13 := congrArg Prod.snd hT13
            have hC' : CA = tokA I [] := hC
            obtain rfl : CA = [] := tk0 hC'
            have hU' : UA = tokA I [13] := hU
            obtain rfl : UA = [.box b27 [.int .i64 0, .int .u16 0, .int .i64 0, .string ByteArray.empty]] := tkc hU' hA13 (fun X h => tk0 h)
            have hPF' : PF = tokP I [13] := hPF
            obtain rfl : PF = [] := tpc hPF' hP13 (fun X h => tp0 h)
            replace hS := hS.got [1, 7, 11, 34, 36] [0, 0, 0] [] 0 (L' := [(1, .slice a1 p1.length c1), (7, .pointer (some ⟨b27, 0, none⟩)), (11, .int .i64 y43.1), (34, .bool (!y43.2)), (36, .slice a1 p1.length c1)]) (Bs := [.box b26 [.int .i64 p2.table, .int .u16 p2.id], .box b25 [.slice a0_tables p0.tables.length c0_tables], .box b27 [.int .i64 0, .int .u16 0, .int .i64 0, .string ByteArray.empty]]) (Rs := [RSf flat_Bounds a0_tables c0_tables p0.tables, RSf flat_Row a1 c1 p1]) (by kernel_rfl) (by kernel_rfl) (by kernel_rfl)
            refine r_call 1 rfl (d := some 37) (g := 43) (args := #[.slice a1 p1.length c1]) [] hS (by kernel_rfl) rfl (slices_Clone_Row_ok n p1 y50 hy50) (fun F up => ⟨up (hS.p 1 rfl), trivial⟩) ?_
            rintro v A P a w ⟨a51, c52, rfl, rfl, rfl⟩ hS
            refine wl_end ?_
            exact n_end hS (.slice a51 y50.length c52) [rowF flat_Row 38 a51 c52 y50] [] [0, 0, 0, 0] [] (by kernel_rfl) (by kernel_rfl) (by kernel_rfl) (Eq.mpr (by kernel_rfl) (show (fun (V : Nat → Value) (x : Value) (A : List Asn) (p : List (World → Prop)) => ∃ (a51 : Option Addr) (c52 : Nat), (x : Value) = .slice a51 y50.length c52 ∧ (A : List Asn) = [rowF flat_Row 38 a51 c52 y50] ∧ (p : List (World → Prop)) = []) V (.slice a51 y50.length c52) [rowF flat_Row 38 a51 c52 y50] [] from ⟨a51, c52, rfl, rfl, rfl⟩))
          · intro V I R a w hx hT CA UA PF hC hU hPF hS
            obtain ⟨a51, c52, hv1, hA1, hP1⟩ : ∃ (a51 : Option Addr) (c52 : Nat), (V 1 : Value) = .slice a51 y50.length c52 ∧ ((I 1).1 : List Asn) = [rowF flat_Row 38 a51 c52 y50] ∧ ((I 1).2 : List (World → Prop)) = [] := Eq.mp (by kernel_rfl) (hx 1 (by kernel_rfl) (by kernel_rfl))
            have hT13 : I 13 = ([.box b27 [.int .i64 0, .int .u16 0, .int .i64 0, .string ByteArray.empty]], []) := Eq.mp (by kernel_rfl) (hT 0 _ rfl)
            have hA13 := congrArg Prod.fst hT13
            have hP13 := congrArg Prod.snd hT13
            have hC' : CA = tokA I [1] := hC
            obtain rfl : CA = [rowF flat_Row 38 a51 c52 y50] := tkc hC' hA1 (fun X h => tk0 h)
            have hU' : UA = tokA I [13] := hU
            obtain rfl : UA = [.box b27 [.int .i64 0, .int .u16 0, .int .i64 0, .string ByteArray.empty]] := tkc hU' hA13 (fun X h => tk0 h)
            have hPF' : PF = tokP I [1, 13] := hPF
            obtain rfl : PF = [] := tpc hPF' hP1 (fun X h => tpc h hP13 (fun X h => tp0 h))
            replace hS := hS.got [1, 7, 11, 34, 37, 38, 40] [0, 0, 0, 0] [] 0 (L' := [(1, .slice a1 p1.length c1), (7, .pointer (some ⟨b27, 0, none⟩)), (11, .int .i64 y43.1), (34, .bool (!y43.2)), (37, V 1), (38, .int .i64 y43.1), (40, .int .i64 (IntKind.wrap .i64 (y43.1 + 1)))]) (Bs := [.box b26 [.int .i64 p2.table, .int .u16 p2.id], .box b25 [.slice a0_tables p0.tables.length c0_tables], rowF flat_Row 38 a51 c52 y50, .box b27 [.int .i64 0, .int .u16 0, .int .i64 0, .string ByteArray.empty]]) (Rs := [RSf flat_Bounds a0_tables c0_tables p0.tables, RSf flat_Row a1 c1 p1]) (by kernel_rfl) (by kernel_rfl) (by kernel_rfl)
            rw [hv1] at hS
            refine r_call 5 rfl (d := some 41) (g := 45) (args := #[.slice a51 y50.length c52, .int .i64 y43.1, .int .i64 (IntKind.wrap .i64 (y43.1 + 1))]) [2] hS (by kernel_rfl) rfl (slices_Delete_Row_ok n y50 y43.1 (IntKind.wrap .i64 (y43.1 + 1)) y54 hy54) (fun F up => trivial) ?_
            rintro v A P a w ⟨a55, c56, rfl, rfl, rfl⟩ hS
            refine wl_end ?_
            exact n_end hS (.slice a55 y54.length c56) [rowF flat_Row 38 a55 c56 y54] [] [0, 0, 0, 0] [] (by kernel_rfl) (by kernel_rfl) (by kernel_rfl) (Eq.mpr (by kernel_rfl) (show (fun (V : Nat → Value) (x : Value) (A : List Asn) (p : List (World → Prop)) => ∃ (a55 : Option Addr) (c56 : Nat), (x : Value) = .slice a55 y54.length c56 ∧ (A : List Asn) = [rowF flat_Row 38 a55 c56 y54] ∧ (p : List (World → Prop)) = []) V (.slice a55 y54.length c56) [rowF flat_Row 38 a55 c56 y54] [] from ⟨a55, c56, rfl, rfl, rfl⟩))
          · intro V I R a w hx hT CA UA PF hC hU hPF hS
            obtain ⟨a51, c52, hv1, hA1, hP1⟩ : ∃ (a51 : Option Addr) (c52 : Nat), (V 1 : Value) = .slice a51 y50.length c52 ∧ ((I 1).1 : List Asn) = [rowF flat_Row 38 a51 c52 y50] ∧ ((I 1).2 : List (World → Prop)) = [] := Eq.mp (by kernel_rfl) (hx 1 (by kernel_rfl) (by kernel_rfl))
            obtain ⟨a55, c56, hv5, hA5, hP5⟩ : ∃ (a55 : Option Addr) (c56 : Nat), (V 5 : Value) = .slice a55 y54.length c56 ∧ ((I 5).1 : List Asn) = [rowF flat_Row 38 a55 c56 y54] ∧ ((I 5).2 : List (World → Prop)) = [] := Eq.mp (by kernel_rfl) (hx 5 (by kernel_rfl) (by kernel_rfl))
            have hT13 : I 13 = ([.box b27 [.int .i64 0, .int .u16 0, .int .i64 0, .string ByteArray.empty]], []) := Eq.mp (by kernel_rfl) (hT 0 _ rfl)
            have hA13 := congrArg Prod.fst hT13
            have hP13 := congrArg Prod.snd hT13
            have hC' : CA = tokA I [] := hC
            obtain rfl : CA = [] := tk0 hC'
            have hU' : UA = tokA I [5, 13] := hU
            obtain rfl : UA = [rowF flat_Row 38 a55 c56 y54, .box b27 [.int .i64 0, .int .u16 0, .int .i64 0, .string ByteArray.empty]] := tkc hU' hA5 (fun X h => tkc h hA13 (fun X h => tk0 h))
            have hPF' : PF = tokP I [5, 13] := hPF
            obtain rfl : PF = [] := tpc hPF' hP5 (fun X h => tpc h hP13 (fun X h => tp0 h))
            replace hS := hS.got [1, 7, 11, 34, 36, 38, 39, 40, 41] [0, 0, 0, 0] [] 0 (L' := [(1, .slice a1 p1.length c1), (7, .pointer (some ⟨b27, 0, none⟩)), (11, .int .i64 y43.1), (34, .bool (!y43.2)), (36, .slice a1 p1.length c1), (38, .int .i64 y43.1), (39, .int .i64 y43.1), (40, .int .i64 (IntKind.wrap .i64 (y43.1 + 1))), (41, V 5)]) (Bs := [.box b26 [.int .i64 p2.table, .int .u16 p2.id], .box b25 [.slice a0_tables p0.tables.length c0_tables], rowF flat_Row 38 a55 c56 y54, .box b27 [.int .i64 0, .int .u16 0, .int .i64 0, .string ByteArray.empty]]) (Rs := [RSf flat_Bounds a0_tables c0_tables p0.tables, RSf flat_Row a1 c1 p1]) (by kernel_rfl) (by kernel_rfl) (by kernel_rfl)
            rw [hv5] at hS
            refine r_run 10 1 [6, 7] [] hS rfl (L' := [(6, .slice a55 y54.length c56), (7, .pointer (some ⟨b27, 0, none⟩))]) (As' := [.box b26 [.int .i64 p2.table, .int .u16 p2.id], .box b25 [.slice a0_tables p0.tables.length c0_tables], rowF flat_Row 38 a55 c56 y54, .box b27 [.int .i64 0, .int .u16 0, .int .i64 0, .string ByteArray.empty]]) (ob := []) (by kernel_rfl) (trivial) fun a w hS => ?_
            refine wl_end ?_
            exact n_end hS (.slice a55 y54.length c56) [] [] [0, 0, 0, 0] [] (by kernel_rfl) (by kernel_rfl) (by kernel_rfl) (Eq.mpr (by kernel_rfl) (show (fun (V : Nat → Value) (x : Value) (A : List Asn) (p : List (World → Prop)) => ∃ (a55 : Option Addr) (c56 : Nat), V 5 = .slice a55 y54.length c56 ∧ (x : Value) = .slice a55 y54.length c56 ∧ (A : List Asn) = [] ∧ (p : List (World → Prop)) = []) V (.slice a55 y54.length c56) [] [] from ⟨a55, c56, hv5, rfl, rfl, rfl⟩))
          · intro V I R a w hx hT CA UA PF hC hU hPF hS
            obtain ⟨a51, c52, hv1, hA1, hP1⟩ : ∃ (a51 : Option Addr) (c52 : Nat), (V 1 : Value) = .slice a51 y50.length c52 ∧ ((I 1).1 : List Asn) = [rowF flat_Row 38 a51 c52 y50] ∧ ((I 1).2 : List (World → Prop)) = [] := Eq.mp (by kernel_rfl) (hx 1 (by kernel_rfl) (by kernel_rfl))
            obtain ⟨a55, c56, hv5, hA5, hP5⟩ : ∃ (a55 : Option Addr) (c56 : Nat), (V 5 : Value) = .slice a55 y54.length c56 ∧ ((I 5).1 : List Asn) = [rowF flat_Row 38 a55 c56 y54] ∧ ((I 5).2 : List (World → Prop)) = [] := Eq.mp (by kernel_rfl) (hx 5 (by kernel_rfl) (by kernel_rfl))
            obtain ⟨a55', c56', e10_5, hv10, hA10, hP10⟩ : ∃ (a55 : Option Addr) (c56 : Nat), V 5 = .slice a55 y54.length c56 ∧ (V 10 : Value) = .slice a55 y54.length c56 ∧ ((I 10).1 : List Asn) = [] ∧ ((I 10).2 : List (World → Prop)) = [] := Eq.mp (by kernel_rfl) (hx 10 (by kernel_rfl) (by kernel_rfl))
            cases hv5.symm.trans e10_5
            have hT13 : I 13 = ([.box b27 [.int .i64 0, .int .u16 0, .int .i64 0, .string ByteArray.empty]], []) := Eq.mp (by kernel_rfl) (hT 0 _ rfl)
            have hA13 := congrArg Prod.fst hT13
            have hP13 := congrArg Prod.snd hT13
            have hC' : CA = tokA I [13] := hC
            obtain rfl : CA = [.box b27 [.int .i64 0, .int .u16 0, .int .i64 0, .string ByteArray.empty]] := tkc hC' hA13 (fun X h => tk0 h)
            have hU' : UA = tokA I [5, 10] := hU
            obtain rfl : UA = [rowF flat_Row 38 a55 c56 y54] := tkc hU' hA5 (fun X h => tkc h hA10 (fun X h => tk0 h))
            have hPF' : PF = tokP I [13, 5, 10] := hPF
            obtain rfl : PF = [] := tpc hPF' hP13 (fun X h => tpc h hP5 (fun X h => tpc h hP10 (fun X h => tp0 h)))
            replace hS := hS.got [1, 6, 7, 11, 34, 36, 38, 39, 40, 41, 42, 43, 44, 45] [0, 0, 0, 0] [] 0 (L' := [(1, .slice a1 p1.length c1), (6, V 10), (7, .pointer (some ⟨b27, 0, none⟩)), (11, .int .i64 y43.1), (34, .bool (!y43.2)), (36, .slice a1 p1.length c1), (38, .int .i64 y43.1), (39, .int .i64 y43.1), (40, .int .i64 (IntKind.wrap .i64 (y43.1 + 1))), (41, V 5), (42, .slice a1 p1.length c1), (43, .int .i64 y43.1), (44, .pointer (some (Addr.add (baseOf a1) (Int.toNat y43.1 * 4)))), (45, Value.agg #[.int .i64 x58.key.table, .int .u16 x58.key.id, .int .i64 x58.val, .string x58.note])]) (Bs := [.box b26 [.int .i64 p2.table, .int .u16 p2.id], .box b25 [.slice a0_tables p0.tables.length c0_tables], .box b27 [.int .i64 0, .int .u16 0, .int .i64 0, .string ByteArray.empty], rowF flat_Row 38 a55 c56 y54]) (Rs := [RSf flat_Bounds a0_tables c0_tables p0.tables, RSf flat_Row a1 c1 p1]) (by kernel_rfl) (by kernel_rfl) (by kernel_rfl)
            rw [hv10, hv5] at hS
            refine r_run 11 1 [] [.own 2 0] hS rfl (L' := []) (As' := [.box b26 [.int .i64 p2.table, .int .u16 p2.id], .box b25 [.slice a0_tables p0.tables.length c0_tables], .box b27 [.int .i64 x58.key.table, .int .u16 x58.key.id, .int .i64 x58.val, .string x58.note], rowF flat_Row 38 a55 c56 y54]) (ob := [fun _ => (⟨b27, 0, none⟩ : Addr) = (⟨b27, 0, none⟩ : Addr).add 0, fun _ => ∀ u ∈ ([.int .i64 x58.key.table, .int .u16 x58.key.id, .int .i64 x58.val, .string x58.note] : List Value), u.oneCell' = true]) (by kernel_rfl) (⟨Bx.c rfl, Bx.c (oneAll rfl), trivial⟩) fun a w hS => ?_
            refine wl_end ?_
            exact n_end hS undef [.box b27 [.int .i64 x58.key.table, .int .u16 x58.key.id, .int .i64 x58.val, .string x58.note]] [] [2, 0, 0, 0] [] (by kernel_rfl) (by kernel_rfl) (by kernel_rfl) (Eq.mpr (by kernel_rfl) (show (fun (V : Nat → Value) (x : Value) (A : List Asn) (p : List (World → Prop)) => (x : Value) = undef ∧ (A : List Asn) = [.box b27 [.int .i64 x58.key.table, .int .u16 x58.key.id, .int .i64 x58.val, .string x58.note]] ∧ (p : List (World → Prop)) = []) V undef [.box b27 [.int .i64 x58.key.table, .int .u16 x58.key.id, .int .i64 x58.val, .string x58.note]] [] from ⟨rfl, rfl, rfl⟩))
          · intro V I R a w hx hT CA UA PF hC hU hPF hS
            obtain ⟨a51, c52, hv1, hA1, hP1⟩ : ∃ (a51 : Option Addr) (c52 : Nat), (V 1 : Value) = .slice a51 y50.length c52 ∧ ((I 1).1 : List Asn) = [rowF flat_Row 38 a51 c52 y50] ∧ ((I 1).2 : List (World → Prop)) = [] := Eq.mp (by kernel_rfl) (hx 1 (by kernel_rfl) (by kernel_rfl))
            obtain ⟨a55, c56, hv5, hA5, hP5⟩ : ∃ (a55 : Option Addr) (c56 : Nat), (V 5 : Value) = .slice a55 y54.length c56 ∧ ((I 5).1 : List Asn) = [rowF flat_Row 38 a55 c56 y54] ∧ ((I 5).2 : List (World → Prop)) = [] := Eq.mp (by kernel_rfl) (hx 5 (by kernel_rfl) (by kernel_rfl))
            obtain ⟨a55', c56', e10_5, hv10, hA10, hP10⟩ : ∃ (a55 : Option Addr) (c56 : Nat), V 5 = .slice a55 y54.length c56 ∧ (V 10 : Value) = .slice a55 y54.length c56 ∧ ((I 10).1 : List Asn) = [] ∧ ((I 10).2 : List (World → Prop)) = [] := Eq.mp (by kernel_rfl) (hx 10 (by kernel_rfl) (by kernel_rfl))
            cases hv5.symm.trans e10_5
            obtain ⟨hv11, hA11, hP11⟩ : (V 11 : Value) = undef ∧ ((I 11).1 : List Asn) = [.box b27 [.int .i64 x58.key.table, .int .u16 x58.key.id, .int .i64 x58.val, .string x58.note]] ∧ ((I 11).2 : List (World → Prop)) = [] := Eq.mp (by kernel_rfl) (hx 11 (by kernel_rfl) (by kernel_rfl))
            have hC' : CA = tokA I [] := hC
            obtain rfl : CA = [] := tk0 hC'
            have hU' : UA = tokA I [5, 10, 11] := hU
            obtain rfl : UA = [rowF flat_Row 38 a55 c56 y54, .box b27 [.int .i64 x58.key.table, .int .u16 x58.key.id, .int .i64 x58.val, .string x58.note]] := tkc hU' hA5 (fun X h => tkc h hA10 (fun X h => tkc h hA11 (fun X h => tk0 h)))
            have hPF' : PF = tokP I [5, 10, 11] := hPF
            obtain rfl : PF = [] := tpc hPF' hP5 (fun X h => tpc h hP10 (fun X h => tpc h hP11 (fun X h => tp0 h)))
            replace hS := hS.got [1, 6, 7, 11, 34, 36, 38, 39, 40, 41, 42, 43, 44, 45] [0, 0, 0, 0] [] 0 (L' := [(1, .slice a1 p1.length c1), (6, V 10), (7, .pointer (some ⟨b27, 0, none⟩)), (11, .int .i64 y43.1), (34, .bool (!y43.2)), (36, .slice a1 p1.length c1), (38, .int .i64 y43.1), (39, .int .i64 y43.1), (40, .int .i64 (IntKind.wrap .i64 (y43.1 + 1))), (41, V 5), (42, .slice a1 p1.length c1), (43, .int .i64 y43.1), (44, .pointer (some (Addr.add (baseOf a1) (Int.toNat y43.1 * 4)))), (45, Value.agg #[.int .i64 x58.key.table, .int .u16 x58.key.id, .int .i64 x58.val, .string x58.note])]) (Bs := [.box b26 [.int .i64 p2.table, .int .u16 p2.id], .box b25 [.slice a0_tables p0.tables.length c0_tables], rowF flat_Row 38 a55 c56 y54, .box b27 [.int .i64 x58.key.table, .int .u16 x58.key.id, .int .i64 x58.val, .string x58.note]]) (Rs := [RSf flat_Bounds a0_tables c0_tables p0.tables, RSf flat_Row a1 c1 p1]) (by kernel_rfl) (by kernel_rfl) (by kernel_rfl)
            rw [hv10, hv5] at hS
            refine r_run 12 1 [8] [] hS rfl (L' := [(8, .int .i64 0)]) (As' := [.box b26 [.int .i64 p2.table, .int .u16 p2.id], .box b25 [.slice a0_tables p0.tables.length c0_tables], rowF flat_Row 38 a55 c56 y54, .box b27 [.int .i64 x58.key.table, .int .u16 x58.key.id, .int .i64 x58.val, .string x58.note]]) (ob := []) (by kernel_rfl) (trivial) fun a w hS => ?_
            refine wl_end ?_
            exact n_end hS (.int .i64 0) [] [] [0, 0, 0, 0] [] (by kernel_rfl) (by kernel_rfl) (by kernel_rfl) (Eq.mpr (by kernel_rfl) (show (fun (V : Nat → Value) (x : Value) (A : List Asn) (p : List (World → Prop)) => (x : Value) = .int .i64 0 ∧ (A : List Asn) = [] ∧ (p : List (World → Prop)) = []) V (.int .i64 0) [] [] from ⟨rfl, rfl, rfl⟩))
        intro V I a w hx hT FA FP hF hFP hS
        obtain ⟨a51, c52, hv1, hA1, hP1⟩ : ∃ (a51 : Option Addr) (c52 : Nat), (V 1 : Value) = .slice a51 y50.length c52 ∧ ((I 1).1 : List Asn) = [rowF flat_Row 38 a51 c52 y50] ∧ ((I 1).2 : List (World → Prop)) = [] := Eq.mp (by kernel_rfl) (hx 1 (by kernel_rfl))
        obtain ⟨a55, c56, hv5, hA5, hP5⟩ : ∃ (a55 : Option Addr) (c56 : Nat), (V 5 : Value) = .slice a55 y54.length c56 ∧ ((I 5).1 : List Asn) = [rowF flat_Row 38 a55 c56 y54] ∧ ((I 5).2 : List (World → Prop)) = [] := Eq.mp (by kernel_rfl) (hx 5 (by kernel_rfl))
        obtain ⟨a55', c56', e10_5, hv10, hA10, hP10⟩ : ∃ (a55 : Option Addr) (c56 : Nat), V 5 = .slice a55 y54.length c56 ∧ (V 10 : Value) = .slice a55 y54.length c56 ∧ ((I 10).1 : List Asn) = [] ∧ ((I 10).2 : List (World → Prop)) = [] := Eq.mp (by kernel_rfl) (hx 10 (by kernel_rfl))
        cases hv5.symm.trans e10_5
        obtain ⟨hv11, hA11, hP11⟩ : (V 11 : Value) = undef ∧ ((I 11).1 : List Asn) = [.box b27 [.int .i64 x58.key.table, .int .u16 x58.key.id, .int .i64 x58.val, .string x58.note]] ∧ ((I 11).2 : List (World → Prop)) = [] := Eq.mp (by kernel_rfl) (hx 11 (by kernel_rfl))
        have hF' : FA = tokA I [5, 10, 11] := hF
        obtain rfl : FA = [rowF flat_Row 38 a55 c56 y54, .box b27 [.int .i64 x58.key.table, .int .u16 x58.key.id, .int .i64 x58.val, .string x58.note]] := tkc hF' hA5 (fun X h => tkc h hA10 (fun X h => tkc h hA11 (fun X h => tk0 h)))
        have hFP' : FP = tokP I [5, 10, 11] := hFP
        obtain rfl : FP = [] := tpc hFP' hP5 (fun X h => tpc h hP10 (fun X h => tpc h hP11 (fun X h => tp0 h)))
        replace hS := hS.got [6, 7, 8] [0, 0, 0, 0] [] 0 (L' := [(6, V 10), (7, .pointer (some ⟨b27, 0, none⟩)), (8, .int .i64 0)]) (Bs := [.box b26 [.int .i64 p2.table, .int .u16 p2.id], .box b25 [.slice a0_tables p0.tables.length c0_tables], rowF flat_Row 38 a55 c56 y54, .box b27 [.int .i64 x58.key.table, .int .u16 x58.key.id, .int .i64 x58.val, .string x58.note]]) (Rs := [RSf flat_Bounds a0_tables c0_tables p0.tables, RSf flat_Row a1 c1 p1]) (by kernel_rfl) (by kernel_rfl) (by kernel_rfl)
        rw [hv10] at hS
        refine hK49 _ _ ?_
        refine k_ret (by kernel_rfl) ?_
        obtain rfl := someI h
        try simp only [Exit.then, Exit.inBlock]
        refine r_ret hS [.tmp 6, .cell 7 38, .tmp 8] [[.int .i64 x58.key.table, .int .u16 x58.key.id, .int .i64 x58.val, .string x58.note]] (xs := [.slice a55 y54.length c56, Value.agg #[.int .i64 x58.key.table, .int .u16 x58.key.id, .int .i64 x58.val, .string x58.note], .int .i64 0]) (ps := [fun w => CellsAt w ⟨b27, 0, none⟩ [.int .i64 x58.key.table, .int .u16 x58.key.id, .int .i64 x58.val, .string x58.note]]) [2] [] rfl (by kernel_rfl) (fun hA => ⟨boxAt hA 3 rfl, trivial⟩) rfl (fun F up => trivial) ?_
        exact ⟨a55, c56, rfl, rfl, rfl⟩

/-! bursary bursaryref05.Same -/
def ref05_Same_l1 (n : Nat) (p0 : (List Row)) (p1 : (List Row)) : Nat → Int → Option Bool
  | 0, _ => none
  | m9 + 1, v8 =>
    cond (decide (v8 < (p0.length : Int)))
      ((idx p0 v8).bind fun x16 =>
      (idx p1 v8).bind fun x17 =>
      cond (!(Row.eqb x16 x17))
        (some false)
        (ref05_Same_l1 n p0 p1 m9 (IntKind.wrap .i64 (v8 + 1))))
      (some true)
def ref05_Same (n : Nat) (p0 : (List Row)) (p1 : (List Row)) : Option Bool :=
  cond ((p0.length : Int) != (p1.length : Int))
    (some false)
    (ref05_Same_l1 n p0 p1 n 0)
theorem ref05_Same_ok {a0 : Option Addr} {c0 : Nat} {a1 : Option Addr} {c1 : Nat} (n : Nat) (p0 : (List Row)) (p1 : (List Row)) (r : Bool)  (h : ref05_Same n p0 p1 = some r) :
    Meets Try.prog 24 #[.slice a0 p0.length c0, .slice a1 p1.length c1] [] [RSf flat_Row a0 c0 p0, RSf flat_Row a1 c1 p1] fun v A P => v = .bool r ∧ A = [] ∧ P = [] := by
  unfold ref05_Same at h
  refine meets_enter 26 Try.func24 Try.call24 rfl (by kernel_rfl) (by simp) fun C a w hS => ?_
  refine k_seq (by kernel_rfl) fun K1 hK1 => ?_
  refine k_reg 1 (by kernel_rfl) ?_
  refine r_run 0 1 [0, 1] [] hS rfl (L' := [(0, .slice a0 p0.length c0), (1, .slice a1 p1.length c1)]) (As' := []) (ob := []) (by kernel_rfl) (trivial) fun a w hS => ?_
  refine wl_end ?_
  refine hK1 _ _ ?_
  refine k_seq (by kernel_rfl) fun K2 hK2 => ?_
  refine k_seq (by kernel_rfl) fun K3 hK3 => ?_
  refine k_reg 5 (by kernel_rfl) ?_
  refine r_run 0 5 [0, 1, 10] [] hS rfl (L' := [(0, .slice a0 p0.length c0), (1, .slice a1 p1.length c1), (10, .bool ((p0.length : Int) != (p1.length : Int)))]) (As' := []) (ob := []) (by kernel_rfl) (trivial) fun a w hS => ?_
  refine wl_end ?_
  refine hK3 _ _ ?_
  refine k_cond ((p0.length : Int) != (p1.length : Int)) hS.has (by kernel_rfl) (by kernel_rfl) (by kernel_rfl) (fun hb4 => ?_) (fun hb4 => ?_)
  · replace h := ctrue hb4 h
    refine k_seq (by kernel_rfl) fun K5 hK5 => ?_
    refine k_reg 1 (by kernel_rfl) ?_
    refine r_run 0 1 [4] [] hS rfl (L' := [(4, .bool false)]) (As' := []) (ob := []) (by kernel_rfl) (trivial) fun a w hS => ?_
    refine wl_end ?_
    refine hK5 _ _ ?_
    refine k_ret (by kernel_rfl) ?_
    obtain rfl := someI h
    try simp only [Exit.then, Exit.inBlock]
    refine r_ret hS [.tmp 4] [] (xs := [.bool false]) (ps := []) [] [] rfl (by kernel_rfl) (fun hA => trivial) rfl (fun F up => trivial) ?_
    exact ⟨rfl, rfl, rfl⟩
  · replace h := cfalse hb4 h
    refine k_skip (by kernel_rfl) ?_
    refine hK2 _ _ ?_
    refine k_seq (by kernel_rfl) fun K6 hK6 => ?_
    refine k_seq (by kernel_rfl) fun K7 hK7 => ?_
    refine k_reg 1 (by kernel_rfl) ?_
    refine r_run 0 1 [0, 1, 5] [] hS rfl (L' := [(0, .slice a0 p0.length c0), (1, .slice a1 p1.length c1), (5, .int .i64 0)]) (As' := []) (ob := []) (by kernel_rfl) (trivial) fun a w hS => ?_
    refine wl_end ?_
    refine hK7 _ _ ?_
    refine k_blk (by kernel_rfl) ?_
    refine k_loop (by kernel_rfl) (fun m9 a w => ∃ (v8 : Int), ref05_Same_l1 n p0 p1 m9 v8 = some r ∧ Sy C 26 a w [(0, .slice a0 p0.length c0), (1, .slice a1 p1.length c1), (5, .int .i64 v8)] [] [RSf flat_Row a0 c0 p0, RSf flat_Row a1 c1 p1]) n ⟨0, h, (hS.got [0, 1, 5] [] [] 0 (by kernel_rfl) (by kernel_rfl) (by kernel_rfl))⟩ ?_
    rintro m9 a w ⟨v8, h, hS⟩ K10 hK10
    cases m9 with
    | zero => exact (noneS h).elim
    | succ m9 =>
      unfold ref05_Same_l1 at h
      refine k_seq (by kernel_rfl) fun K11 hK11 => ?_
      refine k_seq (by kernel_rfl) fun K12 hK12 => ?_
      refine k_reg 4 (by kernel_rfl) ?_
      refine r_run 0 4 [0, 1, 5, 14] [] hS rfl (L' := [(0, .slice a0 p0.length c0), (1, .slice a1 p1.length c1), (5, .int .i64 v8), (14, .bool (decide (v8 < (p0.length : Int))))]) (As' := []) (ob := []) (by kernel_rfl) (trivial) fun a w hS => ?_
      refine wl_end ?_
      refine hK12 _ _ ?_
      refine k_cond (decide (v8 < (p0.length : Int))) hS.has (by kernel_rfl) (by kernel_rfl) (by kernel_rfl) (fun hb13 => ?_) (fun hb13 => ?_)
      · replace h := ctrue hb13 h
        refine k_skip (by kernel_rfl) ?_
        refine hK11 _ _ ?_
        refine k_seq (by kernel_rfl) fun K14 hK14 => ?_
        refine k_blk (by kernel_rfl) ?_
        refine k_seq (by kernel_rfl) fun K15 hK15 => ?_
        obtain ⟨x16, hx16, h⟩ := bindS h
        have ix16 := fidxB (F := flat_Row) (hS.p 0 rfl) hx16
        obtain ⟨x17, hx17, h⟩ := bindS h
        have ix17 := fidxB (F := flat_Row) (hS.p 1 rfl) hx17
        refine k_draw 8 9 [.val (.slice a0 p0.length c0), .val (.int .i64 v8), .val (.pointer (some (Addr.add (baseOf a0) (Int.toNat v8 * 4)))), .val (Value.agg #[.int .i64 x16.key.table, .int .u16 x16.key.id, .int .i64 x16.val, .string x16.note]), .val (.slice a1 p1.length c1), .val (.int .i64 v8), .val (.pointer (some (Addr.add (baseOf a1) (Int.toNat v8 * 4)))), .val (Value.agg #[.int .i64 x17.key.table, .int .u16 x17.key.id, .int .i64 x17.val, .string x17.note])] [] [(0, []), (1, []), (2, []), (3, [.ext [.int .i64 x16.key.table, .int .u16 x16.key.id, .int .i64 x16.val, .string x16.note]]), (4, []), (5, []), (6, []), (7, [.ext [.int .i64 x17.key.table, .int .u16 x17.key.id, .int .i64 x17.val, .string x17.note]])] [] (ob := [fun _ => Inb a0 p0.length v8, Cel (Addr.add (baseOf a0) (Int.toNat v8 * 4)) [.int .i64 x16.key.table, .int .u16 x16.key.id, .int .i64 x16.val, .string x16.note], fun _ => Inb a1 p1.length v8, Cel (Addr.add (baseOf a1) (Int.toNat v8 * 4)) [.int .i64 x17.key.table, .int .u16 x17.key.id, .int .i64 x17.val, .string x17.note]]) (by kernel_rfl) (by kernel_rfl) hS (by kernel_rfl) (fun F N0 => by kernel_rfl) (by kernel_rfl) (by kernel_rfl) (by kernel_rfl) (by kernel_rfl) ⟨Bx.c ix16.1, ix16.2, Bx.c ix17.1, ix17.2, trivial⟩ ?_ ?_
        · exact trivial
        intro V a w e hS hq
        refine r_run 8 1 [0, 1, 5, 25] [.val (.bool (!(Row.eqb x16 x17)))] hS rfl (L' := [(0, .slice a0 p0.length c0), (1, .slice a1 p1.length c1), (5, .int .i64 v8), (25, .bool (!(Row.eqb x16 x17)))]) (As' := []) (ob := [fun w => EqOk Try.prog .neq 38 (Value.agg #[.int .i64 x16.key.table, .int .u16 x16.key.id, .int .i64 x16.val, .string x16.note]) (Value.agg #[.int .i64 x17.key.table, .int .u16 x17.key.id, .int .i64 x17.val, .string x17.note]) (.bool (!(Row.eqb x16 x17))) w]) (by kernel_rfl) (⟨fun w _ => Row_neq x16.key.table x16.key.id x16.val x16.note x17.key.table x17.key.id x17.val x17.note w, trivial⟩) fun a w hS => ?_
        refine wl_end ?_
        refine hK15 _ _ ?_
        refine k_cond (!(Row.eqb x16 x17)) hS.has (by kernel_rfl) (by kernel_rfl) (by kernel_rfl) (fun hb18 => ?_) (fun hb18 => ?_)
        · replace h := ctrue hb18 h
          refine k_seq (by kernel_rfl) fun K19 hK19 => ?_
          refine k_reg 1 (by kernel_rfl) ?_
          refine r_run 0 1 [4] [] hS rfl (L' := [(4, .bool false)]) (As' := []) (ob := []) (by kernel_rfl) (trivial) fun a w hS => ?_
          refine wl_end ?_
          refine hK19 _ _ ?_
          refine k_ret (by kernel_rfl) ?_
          obtain rfl := someI h
          try simp only [Exit.then, Exit.inBlock]
          refine r_ret hS [.tmp 4] [] (xs := [.bool false]) (ps := []) [] [] rfl (by kernel_rfl) (fun hA => trivial) rfl (fun F up => trivial) ?_
          exact ⟨rfl, rfl, rfl⟩
        · replace h := cfalse hb18 h
          refine k_skip (by kernel_rfl) ?_
          refine hK14 _ _ ?_
          refine k_reg 3 (by kernel_rfl) ?_
          refine r_run 0 3 [0, 1, 5] [] hS rfl (L' := [(0, .slice a0 p0.length c0), (1, .slice a1 p1.length c1), (5, .int .i64 (IntKind.wrap .i64 (v8 + 1)))]) (As' := []) (ob := []) (by kernel_rfl) (trivial) fun a w hS => ?_
          refine wl_end ?_
          exact hK10 m9 _ _ (Nat.lt_succ_self _) ⟨(IntKind.wrap .i64 (v8 + 1)), h, (hS.got [0, 1, 5] [] [] 0 (by kernel_rfl) (by kernel_rfl) (by kernel_rfl))⟩
      · replace h := cfalse hb13 h
        refine k_exit 0 (by kernel_rfl) ?_
        refine hK6 _ _ ?_
        refine k_seq (by kernel_rfl) fun K20 hK20 => ?_
        refine k_reg 1 (by kernel_rfl) ?_
        refine r_run 0 1 [4] [] hS rfl (L' := [(4, .bool true)]) (As' := []) (ob := []) (by kernel_rfl) (trivial) fun a w hS => ?_
        refine wl_end ?_
        refine hK20 _ _ ?_
        refine k_ret (by kernel_rfl) ?_
        obtain rfl := someI h
        try simp only [Exit.then, Exit.inBlock]
        refine r_ret hS [.tmp 4] [] (xs := [.bool true]) (ps := []) [] [] rfl (by kernel_rfl) (fun hA => trivial) rfl (fun F up => trivial) ?_
        exact ⟨rfl, rfl, rfl⟩

/-! bursary bursaryref05.Find -/
def ref05_Find_l1 (n : Nat) (p0 : (List Row)) (p1 : Key) : Nat → Int → Option Int
  | 0, _ => none
  | m6 + 1, v5 =>
    cond (decide (v5 < (p0.length : Int)))
      ((idx p0 v5).bind fun x13 =>
      cond (Key.eqb x13.key p1)
        (some v5)
        (ref05_Find_l1 n p0 p1 m6 (IntKind.wrap .i64 (v5 + 1))))
      (some (-1))
def ref05_Find (n : Nat) (p0 : (List Row)) (p1 : Key) : Option Int :=
  ref05_Find_l1 n p0 p1 n 0
theorem ref05_Find_ok {a0 : Option Addr} {c0 : Nat} (n : Nat) (p0 : (List Row)) (p1 : Key) (r : Int)  (h : ref05_Find n p0 p1 = some r) :
    Meets Try.prog 25 #[.slice a0 p0.length c0, Value.agg #[.int .i64 p1.table, .int .u16 p1.id]] [] [RSf flat_Row a0 c0 p0] fun v A P => v = .int .i64 r ∧ A = [] ∧ P = [] := by
  unfold ref05_Find at h
  refine meets_enter 20 Try.func25 Try.call25 rfl (by kernel_rfl) (by simp) fun C a w hS => ?_
  refine k_seq (by kernel_rfl) fun K1 hK1 => ?_
  refine k_reg 2 (by kernel_rfl) ?_
  refine r_run1 0 2 [0, 3] [] hS rfl (L' := fun b2 => [(0, .slice a0 p0.length c0), (3, .pointer (some ⟨b2, 0, none⟩))]) (As' := fun b2 => [.box b2 [.int .i64 p1.table, .int .u16 p1.id]]) (ob := fun b2 => []) (fun b2 => by kernel_rfl) (fun b2 => trivial) fun b2 a w hS => ?_
  refine wl_end ?_
  refine hK1 _ _ ?_
  refine k_seq (by kernel_rfl) fun K3 hK3 => ?_
  refine k_seq (by kernel_rfl) fun K4 hK4 => ?_
  refine k_reg 1 (by kernel_rfl) ?_
  refine r_run 0 1 [0, 3, 5] [] hS rfl (L' := [(0, .slice a0 p0.length c0), (3, .pointer (some ⟨b2, 0, none⟩)), (5, .int .i64 0)]) (As' := [.box b2 [.int .i64 p1.table, .int .u16 p1.id]]) (ob := []) (by kernel_rfl) (trivial) fun a w hS => ?_
  refine wl_end ?_
  refine hK4 _ _ ?_
  refine k_blk (by kernel_rfl) ?_
  refine k_loop (by kernel_rfl) (fun m6 a w => ∃ (v5 : Int), ref05_Find_l1 n p0 p1 m6 v5 = some r ∧ Sy C 20 a w [(0, .slice a0 p0.length c0), (3, .pointer (some ⟨b2, 0, none⟩)), (5, .int .i64 v5)] [.box b2 [.int .i64 p1.table, .int .u16 p1.id]] [RSf flat_Row a0 c0 p0]) n ⟨0, h, (hS.got [0, 3, 5] [0] [] 0 (by kernel_rfl) (by kernel_rfl) (by kernel_rfl))⟩ ?_
  rintro m6 a w ⟨v5, h, hS⟩ K7 hK7
  cases m6 with
  | zero => exact (noneS h).elim
  | succ m6 =>
    unfold ref05_Find_l1 at h
    refine k_seq (by kernel_rfl) fun K8 hK8 => ?_
    refine k_seq (by kernel_rfl) fun K9 hK9 => ?_
    refine k_reg 4 (by kernel_rfl) ?_
    refine r_run 0 4 [0, 3, 5, 9] [] hS rfl (L' := [(0, .slice a0 p0.length c0), (3, .pointer (some ⟨b2, 0, none⟩)), (5, .int .i64 v5), (9, .bool (decide (v5 < (p0.length : Int))))]) (As' := [.box b2 [.int .i64 p1.table, .int .u16 p1.id]]) (ob := []) (by kernel_rfl) (trivial) fun a w hS => ?_
    refine wl_end ?_
    refine hK9 _ _ ?_
    refine k_cond (decide (v5 < (p0.length : Int))) hS.has (by kernel_rfl) (by kernel_rfl) (by kernel_rfl) (fun hb10 => ?_) (fun hb10 => ?_)
    · replace h := ctrue hb10 h
      refine k_skip (by kernel_rfl) ?_
      refine hK8 _ _ ?_
      refine k_seq (by kernel_rfl) fun K11 hK11 => ?_
      refine k_blk (by kernel_rfl) ?_
      refine k_seq (by kernel_rfl) fun K12 hK12 => ?_
      obtain ⟨x13, hx13, h⟩ := bindS h
      have ix13 := fidxB (F := flat_Row) (hS.p 0 rfl) hx13
      refine k_draw 6 7 [.val (.slice a0 p0.length c0), .val (.int .i64 v5), .val (.pointer (some (Addr.add (baseOf a0) (Int.toNat v5 * 4)))), .val (.pointer (some (Addr.add (Addr.add (baseOf a0) (Int.toNat v5 * 4)) 0))), .val (Value.agg #[.int .i64 x13.key.table, .int .u16 x13.key.id]), .val (Value.agg #[.int .i64 p1.table, .int .u16 p1.id])] [] [(0, []), (1, []), (2, []), (3, []), (4, [.ext [.int .i64 x13.key.table, .int .u16 x13.key.id]]), (5, [.own 0 0])] [] (ob := [fun _ => Inb a0 p0.length v5, Cel (Addr.add (Addr.add (baseOf a0) (Int.toNat v5 * 4)) 0) [.int .i64 x13.key.table, .int .u16 x13.key.id], fun _ => (⟨b2, 0, none⟩ : Addr) = (⟨b2, 0, none⟩ : Addr).add 0]) (by kernel_rfl) (by kernel_rfl) hS (by kernel_rfl) (fun F N0 => by kernel_rfl) (by kernel_rfl) (by kernel_rfl) (by kernel_rfl) (by kernel_rfl) ⟨Bx.c ix13.1, (Bx.sub ix13.2 0 2), Bx.c rfl, trivial⟩ ?_ ?_
      · exact trivial
      intro V a w e hS hq
      refine r_run 6 1 [0, 3, 5, 18] [.val (.bool (Key.eqb x13.key p1))] hS rfl (L' := [(0, .slice a0 p0.length c0), (3, .pointer (some ⟨b2, 0, none⟩)), (5, .int .i64 v5), (18, .bool (Key.eqb x13.key p1))]) (As' := [.box b2 [.int .i64 p1.table, .int .u16 p1.id]]) (ob := [fun w => EqOk Try.prog .eql 28 (Value.agg #[.int .i64 x13.key.table, .int .u16 x13.key.id]) (Value.agg #[.int .i64 p1.table, .int .u16 p1.id]) (.bool (Key.eqb x13.key p1)) w]) (by kernel_rfl) (⟨fun w _ => Key_eql x13.key.table x13.key.id p1.table p1.id w, trivial⟩) fun a w hS => ?_
      refine wl_end ?_
      refine hK12 _ _ ?_
      refine k_cond (Key.eqb x13.key p1) hS.has (by kernel_rfl) (by kernel_rfl) (by kernel_rfl) (fun hb14 => ?_) (fun hb14 => ?_)
      · replace h := ctrue hb14 h
        refine k_seq (by kernel_rfl) fun K15 hK15 => ?_
        refine k_reg 2 (by kernel_rfl) ?_
        refine r_run 0 2 [4] [] hS rfl (L' := [(4, .int .i64 v5)]) (As' := [.box b2 [.int .i64 p1.table, .int .u16 p1.id]]) (ob := []) (by kernel_rfl) (trivial) fun a w hS => ?_
        refine wl_end ?_
        refine hK15 _ _ ?_
        refine k_ret (by kernel_rfl) ?_
        obtain rfl := someI h
        try simp only [Exit.then, Exit.inBlock]
        refine r_ret hS [.tmp 4] [] (xs := [.int .i64 v5]) (ps := []) [] [] rfl (by kernel_rfl) (fun hA => trivial) rfl (fun F up => trivial) ?_
        exact ⟨rfl, rfl, rfl⟩
      · replace h := cfalse hb14 h
        refine k_skip (by kernel_rfl) ?_
        refine hK11 _ _ ?_
        refine k_reg 3 (by kernel_rfl) ?_
        refine r_run 0 3 [0, 3, 5] [] hS rfl (L' := [(0, .slice a0 p0.length c0), (3, .pointer (some ⟨b2, 0, none⟩)), (5, .int .i64 (IntKind.wrap .i64 (v5 + 1)))]) (As' := [.box b2 [.int .i64 p1.table, .int .u16 p1.id]]) (ob := []) (by kernel_rfl) (trivial) fun a w hS => ?_
        refine wl_end ?_
        exact hK7 m6 _ _ (Nat.lt_succ_self _) ⟨(IntKind.wrap .i64 (v5 + 1)), h, (hS.got [0, 3, 5] [0] [] 0 (by kernel_rfl) (by kernel_rfl) (by kernel_rfl))⟩
    · replace h := cfalse hb10 h
      refine k_exit 0 (by kernel_rfl) ?_
      refine hK3 _ _ ?_
      refine k_seq (by kernel_rfl) fun K16 hK16 => ?_
      refine k_reg 1 (by kernel_rfl) ?_
      refine r_run 0 1 [4] [] hS rfl (L' := [(4, .int .i64 (-1))]) (As' := [.box b2 [.int .i64 p1.table, .int .u16 p1.id]]) (ob := []) (by kernel_rfl) (trivial) fun a w hS => ?_
      refine wl_end ?_
      refine hK16 _ _ ?_
      refine k_ret (by kernel_rfl) ?_
      obtain rfl := someI h
      try simp only [Exit.then, Exit.inBlock]
      refine r_ret hS [.tmp 4] [] (xs := [.int .i64 (-1)]) (ps := []) [] [] rfl (by kernel_rfl) (fun hA => trivial) rfl (fun F up => trivial) ?_
      exact ⟨rfl, rfl, rfl⟩

/-! bursary bursaryref05.Without -/
def ref05_Without_j1 (n : Nat) (v10 : Int) (k_ref05_Without_l1 : ((List Row) → Int → Option (List Row))) (l19 : (List Row)) : Option (List Row) :=
  k_ref05_Without_l1 l19 (IntKind.wrap .i64 (v10 + 1))
def ref05_Without_l1 (n : Nat) (p0 : (List Row)) (p1 : Key) : Nat → (List Row) → Int → Option (List Row)
  | 0, _, _ => none
  | m11 + 1, l8, v10 =>
    cond (decide (v10 < (p0.length : Int)))
      ((idx p0 v10).bind fun x21 =>
      cond (!(Key.eqb x21.key p1))
        ((idx p0 v10).bind fun x23 =>
        (app 40 l8 ([x23] : List Row)).bind fun l25 =>
        ref05_Without_j1 n v10 (ref05_Without_l1 n p0 p1 m11) l25)
        (ref05_Without_j1 n v10 (ref05_Without_l1 n p0 p1 m11) l8))
      (some l8)
def ref05_Without (n : Nat) (p0 : (List Row)) (p1 : Key) : Option (List Row) :=
  ref05_Without_l1 n p0 p1 n ([] : List Row) 0
theorem ref05_Without_ok {a0 : Option Addr} {c0 : Nat} (n : Nat) (p0 : (List Row)) (p1 : Key) (r : (List Row))  (h : ref05_Without n p0 p1 = some r) :
    Meets Try.prog 27 #[.slice a0 p0.length c0, Value.agg #[.int .i64 p1.table, .int .u16 p1.id]] [] [RSf flat_Row a0 c0 p0] fun v A P => ∃ (a0 : Option Addr) (c0 : Nat), v = .slice a0 r.length c0 ∧ A = [rowF flat_Row 38 a0 c0 r] ∧ P = [] := by
  unfold ref05_Without at h
  refine meets_enter 28 Try.func27 Try.call27 rfl (by kernel_rfl) (by simp) fun C a w hS => ?_
  refine k_seq (by kernel_rfl) fun K1 hK1 => ?_
  refine k_reg 2 (by kernel_rfl) ?_
  refine r_run1 0 2 [0, 3] [] hS rfl (L' := fun b2 => [(0, .slice a0 p0.length c0), (3, .pointer (some ⟨b2, 0, none⟩))]) (As' := fun b2 => [.box b2 [.int .i64 p1.table, .int .u16 p1.id]]) (ob := fun b2 => []) (fun b2 => by kernel_rfl) (fun b2 => trivial) fun b2 a w hS => ?_
  refine wl_end ?_
  refine hK1 _ _ ?_
  refine k_seq (by kernel_rfl) fun K3 hK3 => ?_
  refine k_reg 1 (by kernel_rfl) ?_
  refine r_run 0 1 [0, 3, 5] [] hS rfl (L' := [(0, .slice a0 p0.length c0), (3, .pointer (some ⟨b2, 0, none⟩)), (5, .slice none 0 0)]) (As' := [.box b2 [.int .i64 p1.table, .int .u16 p1.id]]) (ob := []) (by kernel_rfl) (trivial) fun a w hS => ?_
  refine wl_end ?_
  refine hK3 _ _ ?_
  refine k_seq (by kernel_rfl) fun K4 hK4 => ?_
  refine k_seq (by kernel_rfl) fun K5 hK5 => ?_
  refine k_reg 1 (by kernel_rfl) ?_
  refine r_run 0 1 [0, 3, 5, 6] [] hS rfl (L' := [(0, .slice a0 p0.length c0), (3, .pointer (some ⟨b2, 0, none⟩)), (5, .slice none 0 0), (6, .int .i64 0)]) (As' := [.box b2 [.int .i64 p1.table, .int .u16 p1.id]]) (ob := []) (by kernel_rfl) (trivial) fun a w hS => ?_
  refine wl_end ?_
  refine hK5 _ _ ?_
  refine k_blk (by kernel_rfl) ?_
  replace hS := hS.nilrow (e := 38) (sz := 4)
  refine k_loop (by kernel_rfl) (fun m11 a w => ∃ (a6 : Option Addr) (c7 : Nat) (l8 : (List Row)) (v10 : Int), ref05_Without_l1 n p0 p1 m11 l8 v10 = some r ∧ Sy C 28 a w [(0, .slice a0 p0.length c0), (3, .pointer (some ⟨b2, 0, none⟩)), (5, .slice a6 l8.length c7), (6, .int .i64 v10)] [rowF flat_Row 38 a6 c7 l8, .box b2 [.int .i64 p1.table, .int .u16 p1.id]] [RSf flat_Row a0 c0 p0]) n ⟨none, 0, ([] : List Row), 0, h, (hS.got [0, 3, 5, 6] [0, 0] [] 0 (by kernel_rfl) (by kernel_rfl) (by kernel_rfl))⟩ ?_
  rintro m11 a w ⟨a6, c7, l8, v10, h, hS⟩ K12 hK12
  cases m11 with
  | zero => exact (noneS h).elim
  | succ m11 =>
    unfold ref05_Without_l1 at h
    refine k_seq (by kernel_rfl) fun K13 hK13 => ?_
    refine k_seq (by kernel_rfl) fun K14 hK14 => ?_
    refine k_reg 4 (by kernel_rfl) ?_
    refine r_run 0 4 [0, 3, 5, 6, 10] [] hS rfl (L' := [(0, .slice a0 p0.length c0), (3, .pointer (some ⟨b2, 0, none⟩)), (5, .slice a6 l8.length c7), (6, .int .i64 v10), (10, .bool (decide (v10 < (p0.length : Int))))]) (As' := [rowF flat_Row 38 a6 c7 l8, .box b2 [.int .i64 p1.table, .int .u16 p1.id]]) (ob := []) (by kernel_rfl) (trivial) fun a w hS => ?_
    refine wl_end ?_
    refine hK14 _ _ ?_
    refine k_cond (decide (v10 < (p0.length : Int))) hS.has (by kernel_rfl) (by kernel_rfl) (by kernel_rfl) (fun hb15 => ?_) (fun hb15 => ?_)
    · replace h := ctrue hb15 h
      refine k_skip (by kernel_rfl) ?_
      refine hK13 _ _ ?_
      refine k_seq (by kernel_rfl) fun K16 hK16 => ?_
      have JK16 : ∀ (a17 : Option Addr) (c18 : Nat) (l19 : (List Row)) a w, Sy C 28 a w [(0, .slice a0 p0.length c0), (3, .pointer (some ⟨b2, 0, none⟩)), (5, .slice a17 l19.length c18), (6, .int .i64 v10)] [rowF flat_Row 38 a17 c18 l19, .box b2 [.int .i64 p1.table, .int .u16 p1.id]] [RSf flat_Row a0 c0 p0] → ref05_Without_j1 n v10 (ref05_Without_l1 n p0 p1 m11) l19 = some r → K16 a w := by
        intro a17 c18 l19 a w hS h
        unfold ref05_Without_j1 at h
        refine hK16 _ _ ?_
        refine k_reg 3 (by kernel_rfl) ?_
        refine r_run 0 3 [0, 3, 5, 6] [] hS rfl (L' := [(0, .slice a0 p0.length c0), (3, .pointer (some ⟨b2, 0, none⟩)), (5, .slice a17 l19.length c18), (6, .int .i64 (IntKind.wrap .i64 (v10 + 1)))]) (As' := [rowF flat_Row 38 a17 c18 l19, .box b2 [.int .i64 p1.table, .int .u16 p1.id]]) (ob := []) (by kernel_rfl) (trivial) fun a w hS => ?_
        refine wl_end ?_
        exact hK12 m11 _ _ (Nat.lt_succ_self _) ⟨a17, c18, l19, (IntKind.wrap .i64 (v10 + 1)), h, (hS.got [0, 3, 5, 6] [0, 0] [] 0 (by kernel_rfl) (by kernel_rfl) (by kernel_rfl))⟩
      refine k_blk (by kernel_rfl) ?_
      refine k_seq (by kernel_rfl) fun K20 hK20 => ?_
      obtain ⟨x21, hx21, h⟩ := bindS h
      have ix21 := fidxB (F := flat_Row) (hS.p 0 rfl) hx21
      refine k_draw 6 7 [.val (.slice a0 p0.length c0), .val (.int .i64 v10), .val (.pointer (some (Addr.add (baseOf a0) (Int.toNat v10 * 4)))), .val (.pointer (some (Addr.add (Addr.add (baseOf a0) (Int.toNat v10 * 4)) 0))), .val (Value.agg #[.int .i64 x21.key.table, .int .u16 x21.key.id]), .val (Value.agg #[.int .i64 p1.table, .int .u16 p1.id])] [] [(0, []), (1, []), (2, []), (3, []), (4, [.ext [.int .i64 x21.key.table, .int .u16 x21.key.id]]), (5, [.own 1 0])] [] (ob := [fun _ => Inb a0 p0.length v10, Cel (Addr.add (Addr.add (baseOf a0) (Int.toNat v10 * 4)) 0) [.int .i64 x21.key.table, .int .u16 x21.key.id], fun _ => (⟨b2, 0, none⟩ : Addr) = (⟨b2, 0, none⟩ : Addr).add 0]) (by kernel_rfl) (by kernel_rfl) hS (by kernel_rfl) (fun F N0 => by kernel_rfl) (by kernel_rfl) (by kernel_rfl) (by kernel_rfl) (by kernel_rfl) ⟨Bx.c ix21.1, (Bx.sub ix21.2 0 2), Bx.c rfl, trivial⟩ ?_ ?_
      · exact trivial
      intro V a w e hS hq
      refine r_run 6 1 [0, 3, 5, 6, 19] [.val (.bool (!(Key.eqb x21.key p1)))] hS rfl (L' := [(0, .slice a0 p0.length c0), (3, .pointer (some ⟨b2, 0, none⟩)), (5, .slice a6 l8.length c7), (6, .int .i64 v10), (19, .bool (!(Key.eqb x21.key p1)))]) (As' := [rowF flat_Row 38 a6 c7 l8, .box b2 [.int .i64 p1.table, .int .u16 p1.id]]) (ob := [fun w => EqOk Try.prog .neq 28 (Value.agg #[.int .i64 x21.key.table, .int .u16 x21.key.id]) (Value.agg #[.int .i64 p1.table, .int .u16 p1.id]) (.bool (!(Key.eqb x21.key p1))) w]) (by kernel_rfl) (⟨fun w _ => Key_neq x21.key.table x21.key.id p1.table p1.id w, trivial⟩) fun a w hS => ?_
      refine wl_end ?_
      refine hK20 _ _ ?_
      refine k_cond (!(Key.eqb x21.key p1)) hS.has (by kernel_rfl) (by kernel_rfl) (by kernel_rfl) (fun hb22 => ?_) (fun hb22 => ?_)
      · replace h := ctrue hb22 h
        refine k_reg 8 (by kernel_rfl) ?_
        obtain ⟨x23, hx23, h⟩ := bindS h
        have ix23 := fidxB (F := flat_Row) (hS.p 0 rfl) hx23
        refine r_run1 0 6 [0, 3, 6, 20, 25] [.ext [.int .i64 x23.key.table, .int .u16 x23.key.id, .int .i64 x23.val, .string x23.note]] hS rfl (L' := fun b24 => [(0, .slice a0 p0.length c0), (3, .pointer (some ⟨b2, 0, none⟩)), (6, .int .i64 v10), (20, .slice a6 l8.length c7), (25, .slice (some ⟨b24, 0, none⟩) ([x23] : List Row).length 1)]) (As' := fun b24 => [rowF flat_Row 38 (some ⟨b24, 0, none⟩) 1 ([x23] : List Row), rowF flat_Row 38 a6 c7 l8, .box b2 [.int .i64 p1.table, .int .u16 p1.id]]) (ob := fun b24 => [fun _ => Inb a0 p0.length v10, Cel (Addr.add (baseOf a0) (Int.toNat v10 * 4)) [.int .i64 x23.key.table, .int .u16 x23.key.id, .int .i64 x23.val, .string x23.note]]) (fun b24 => by kernel_rfl) (fun b24 => ⟨Bx.c ix23.1, ix23.2, trivial⟩) fun b24 a w hS => ?_
        obtain ⟨l25, hl25, h⟩ := bindS h
        obtain ⟨hl25r, hl25e⟩ := app_some hl25
        refine r_append 6 rfl (d := 26) (t := 25) (A := a6) (c := c7) (k := l8.length) (b := (some ⟨b24, 0, none⟩)) (c2 := 1) (m := ([x23] : List Row).length) (([x23] : List Row).flatMap flat_Row.enc) 1 [0] hS appT_25 (by kernel_rfl) rfl rfl (fun F up le => appB (F := flat_Row) (le 0 rfl _ fun w h => rowRS h)) hl25r fun a26 c27 a w hS => ?_
        replace hS := rowF_app (F := flat_Row) (l := l8) (m := ([x23] : List Row)) hS hl25e
        refine r_run 7 1 [0, 3, 5, 6] [] hS rfl (L' := [(0, .slice a0 p0.length c0), (3, .pointer (some ⟨b2, 0, none⟩)), (5, .slice a26 l25.length c27), (6, .int .i64 v10)]) (As' := [rowF flat_Row 38 a26 c27 l25, rowF flat_Row 38 (some ⟨b24, 0, none⟩) 1 ([x23] : List Row), .box b2 [.int .i64 p1.table, .int .u16 p1.id]]) (ob := []) (by kernel_rfl) (trivial) fun a w hS => ?_
        refine wl_end ?_
        exact JK16 a26 c27 l25 _ _ (hS.got [0, 3, 5, 6] [0, 1] [] 0 (by kernel_rfl) (by kernel_rfl) (by kernel_rfl)) h
      · replace h := cfalse hb22 h
        refine k_skip (by kernel_rfl) ?_
        exact JK16 a6 c7 l8 _ _ (hS.got [0, 3, 5, 6] [0, 0] [] 0 (by kernel_rfl) (by kernel_rfl) (by kernel_rfl)) h
    · replace h := cfalse hb15 h
      refine k_exit 0 (by kernel_rfl) ?_
      refine hK4 _ _ ?_
      refine k_seq (by kernel_rfl) fun K28 hK28 => ?_
      refine k_reg 2 (by kernel_rfl) ?_
      refine r_run 0 2 [4] [] hS rfl (L' := [(4, .slice a6 l8.length c7)]) (As' := [rowF flat_Row 38 a6 c7 l8, .box b2 [.int .i64 p1.table, .int .u16 p1.id]]) (ob := []) (by kernel_rfl) (trivial) fun a w hS => ?_
      refine wl_end ?_
      refine hK28 _ _ ?_
      refine k_ret (by kernel_rfl) ?_
      obtain rfl := someI h
      try simp only [Exit.then, Exit.inBlock]
      refine r_ret hS [.tmp 4] [] (xs := [.slice a6 l8.length c7]) (ps := []) [0] [] rfl (by kernel_rfl) (fun hA => trivial) rfl (fun F up => trivial) ?_
      exact ⟨a6, c7, rfl, rfl, rfl⟩

/-! bursary bursaryref05.With -/
def ref05_With_j1 (n : Nat) (y6 : (List Row)) (v17 : Int) (k_ref05_With_l1 : ((List Row) → Bool → Int → Option (List Row))) (v25 : Bool) (l28 : (List Row)) : Option (List Row) :=
  (idx y6 v17).bind fun x29 =>
  (app 40 l28 ([x29] : List Row)).bind fun l31 =>
  k_ref05_With_l1 l31 v25 (IntKind.wrap .i64 (v17 + 1))
def ref05_With_j2 (n : Nat) (p1 : Row) (y6 : (List Row)) (l14 : (List Row)) (v16 : Bool) (v17 : Int) (k_ref05_With_l1 : ((List Row) → Bool → Int → Option (List Row))) (v36 : Bool) : Option (List Row) :=
  cond v36
    ((app 40 l14 ([p1] : List Row)).bind fun l40 =>
    ref05_With_j1 n y6 v17 (k_ref05_With_l1) true l40)
    (ref05_With_j1 n y6 v17 (k_ref05_With_l1) v16 l14)
def ref05_With_l1 (n : Nat) (p1 : Row) (y6 : (List Row)) : Nat → (List Row) → Bool → Int → Option (List Row)
  | 0, _, _, _ => none
  | m18 + 1, l14, v16, v17 =>
    cond (decide (v17 < (y6.length : Int)))
      (cond (!v16)
        ((idx y6 v17).bind fun x44 =>
        (ref05_Compare n p1.key x44.key).bind fun y45 =>
        ref05_With_j2 n p1 y6 l14 v16 v17 (ref05_With_l1 n p1 y6 m18) (decide (y45 < 0)))
        (ref05_With_j2 n p1 y6 l14 v16 v17 (ref05_With_l1 n p1 y6 m18) false))
      (cond (!v16)
        ((app 40 l14 ([p1] : List Row)).bind fun l50 =>
        some l50)
        (some l14))
def ref05_With (n : Nat) (p0 : (List Row)) (p1 : Row) : Option (List Row) :=
  (ref05_Without n p0 p1.key).bind fun y6 =>
  ref05_With_l1 n p1 y6 n ([] : List Row) false 0
theorem ref05_With_ok {a0 : Option Addr} {c0 : Nat} (n : Nat) (p0 : (List Row)) (p1 : Row) (r : (List Row))  (h : ref05_With n p0 p1 = some r) :
    Meets Try.prog 26 #[.slice a0 p0.length c0, Value.agg #[.int .i64 p1.key.table, .int .u16 p1.key.id, .int .i64 p1.val, .string p1.note]] [] [RSf flat_Row a0 c0 p0] fun v A P => ∃ (a0 : Option Addr) (c0 : Nat), v = .slice a0 r.length c0 ∧ A = [rowF flat_Row 38 a0 c0 r] ∧ P = [] := by
  unfold ref05_With at h
  refine meets_enter 50 Try.func26 Try.call26 rfl (by kernel_rfl) (by simp) fun C a w hS => ?_
  refine k_seq (by kernel_rfl) fun K1 hK1 => ?_
  refine k_reg 2 (by kernel_rfl) ?_
  refine r_run1 0 2 [0, 3] [] hS rfl (L' := fun b2 => [(0, .slice a0 p0.length c0), (3, .pointer (some ⟨b2, 0, none⟩))]) (As' := fun b2 => [.box b2 [.int .i64 p1.key.table, .int .u16 p1.key.id, .int .i64 p1.val, .string p1.note]]) (ob := fun b2 => []) (fun b2 => by kernel_rfl) (fun b2 => trivial) fun b2 a w hS => ?_
  refine wl_end ?_
  refine hK1 _ _ ?_
  refine k_seq (by kernel_rfl) fun K3 hK3 => ?_
  refine k_reg 1 (by kernel_rfl) ?_
  refine r_run 0 1 [0, 3, 5] [] hS rfl (L' := [(0, .slice a0 p0.length c0), (3, .pointer (some ⟨b2, 0, none⟩)), (5, .slice none 0 0)]) (As' := [.box b2 [.int .i64 p1.key.table, .int .u16 p1.key.id, .int .i64 p1.val, .string p1.note]]) (ob := []) (by kernel_rfl) (trivial) fun a w hS => ?_
  refine wl_end ?_
  refine hK3 _ _ ?_
  refine k_seq (by kernel_rfl) fun K4 hK4 => ?_
  refine k_reg 1 (by kernel_rfl) ?_
  refine r_run 0 1 [0, 3, 5, 6] [] hS rfl (L' := [(0, .slice a0 p0.length c0), (3, .pointer (some ⟨b2, 0, none⟩)), (5, .slice none 0 0), (6, .bool false)]) (As' := [.box b2 [.int .i64 p1.key.table, .int .u16 p1.key.id, .int .i64 p1.val, .string p1.note]]) (ob := []) (by kernel_rfl) (trivial) fun a w hS => ?_
  refine wl_end ?_
  refine hK4 _ _ ?_
  refine k_seq (by kernel_rfl) fun K5 hK5 => ?_
  refine k_reg 5 (by kernel_rfl) ?_
  refine r_run 0 3 [3, 5, 6, 9, 11] [.own 0 0] hS rfl (L' := [(3, .pointer (some ⟨b2, 0, none⟩)), (5, .slice none 0 0), (6, .bool false), (9, .slice a0 p0.length c0), (11, Value.agg #[.int .i64 p1.key.table, .int .u16 p1.key.id])]) (As' := [.box b2 [.int .i64 p1.key.table, .int .u16 p1.key.id, .int .i64 p1.val, .string p1.note]]) (ob := [fun _ => (⟨b2, 0, none⟩ : Addr) = (⟨b2, 0, none⟩ : Addr).add 0]) (by kernel_rfl) (⟨Bx.c rfl, trivial⟩) fun a w hS => ?_
  obtain ⟨y6, hy6, h⟩ := bindS h
  refine r_call 3 rfl (d := some 12) (g := 27) (args := #[.slice a0 p0.length c0, Value.agg #[.int .i64 p1.key.table, .int .u16 p1.key.id]]) [] hS (by kernel_rfl) rfl (ref05_Without_ok n p0 p1.key y6 hy6) (fun F up => ⟨up (hS.p 0 rfl), trivial⟩) ?_
  rintro v A P a w ⟨a7, c8, rfl, rfl, rfl⟩ hS
  refine r_run 4 1 [3, 5, 6, 7] [] hS rfl (L' := [(3, .pointer (some ⟨b2, 0, none⟩)), (5, .slice none 0 0), (6, .bool false), (7, .slice a7 y6.length c8)]) (As' := [rowF flat_Row 38 a7 c8 y6, .box b2 [.int .i64 p1.key.table, .int .u16 p1.key.id, .int .i64 p1.val, .string p1.note]]) (ob := []) (by kernel_rfl) (trivial) fun a w hS => ?_
  refine wl_end ?_
  refine hK5 _ _ ?_
  refine k_seq (by kernel_rfl) fun K10 hK10 => ?_
  refine k_seq (by kernel_rfl) fun K11 hK11 => ?_
  refine k_reg 1 (by kernel_rfl) ?_
  refine r_run 0 1 [3, 5, 6, 7, 8] [] hS rfl (L' := [(3, .pointer (some ⟨b2, 0, none⟩)), (5, .slice none 0 0), (6, .bool false), (7, .slice a7 y6.length c8), (8, .int .i64 0)]) (As' := [rowF flat_Row 38 a7 c8 y6, .box b2 [.int .i64 p1.key.table, .int .u16 p1.key.id, .int .i64 p1.val, .string p1.note]]) (ob := []) (by kernel_rfl) (trivial) fun a w hS => ?_
  refine wl_end ?_
  refine hK11 _ _ ?_
  refine k_blk (by kernel_rfl) ?_
  replace hS := hS.nilrow (e := 38) (sz := 4)
  refine k_loop (by kernel_rfl) (fun m18 a w => ∃ (a12 : Option Addr) (c13 : Nat) (l14 : (List Row)) (v16 : Bool) (v17 : Int), ref05_With_l1 n p1 y6 m18 l14 v16 v17 = some r ∧ Sy C 50 a w [(3, .pointer (some ⟨b2, 0, none⟩)), (5, .slice a12 l14.length c13), (6, .bool v16), (7, .slice a7 y6.length c8), (8, .int .i64 v17)] [rowF flat_Row 38 a12 c13 l14, rowF flat_Row 38 a7 c8 y6, .box b2 [.int .i64 p1.key.table, .int .u16 p1.key.id, .int .i64 p1.val, .string p1.note]] [RSf flat_Row a0 c0 p0]) n ⟨none, 0, ([] : List Row), false, 0, h, (hS.got [3, 5, 6, 7, 8] [0, 0, 0] [] 0 (by kernel_rfl) (by kernel_rfl) (by kernel_rfl))⟩ ?_
  rintro m18 a w ⟨a12, c13, l14, v16, v17, h, hS⟩ K19 hK19
  cases m18 with
  | zero => exact (noneS h).elim
  | succ m18 =>
    unfold ref05_With_l1 at h
    refine k_seq (by kernel_rfl) fun K20 hK20 => ?_
    refine k_seq (by kernel_rfl) fun K21 hK21 => ?_
    refine k_reg 4 (by kernel_rfl) ?_
    refine r_run 0 4 [3, 5, 6, 7, 8, 16] [] hS rfl (L' := [(3, .pointer (some ⟨b2, 0, none⟩)), (5, .slice a12 l14.length c13), (6, .bool v16), (7, .slice a7 y6.length c8), (8, .int .i64 v17), (16, .bool (decide (v17 < (y6.length : Int))))]) (As' := [rowF flat_Row 38 a12 c13 l14, rowF flat_Row 38 a7 c8 y6, .box b2 [.int .i64 p1.key.table, .int .u16 p1.key.id, .int .i64 p1.val, .string p1.note]]) (ob := []) (by kernel_rfl) (trivial) fun a w hS => ?_
    refine wl_end ?_
    refine hK21 _ _ ?_
    refine k_cond (decide (v17 < (y6.length : Int))) hS.has (by kernel_rfl) (by kernel_rfl) (by kernel_rfl) (fun hb22 => ?_) (fun hb22 => ?_)
    · replace h := ctrue hb22 h
      refine k_skip (by kernel_rfl) ?_
      refine hK20 _ _ ?_
      refine k_seq (by kernel_rfl) fun K23 hK23 => ?_
      refine k_blk (by kernel_rfl) ?_
      refine k_seq (by kernel_rfl) fun K24 hK24 => ?_
      have JK24 : ∀ (a26 : Option Addr) (c27 : Nat) (v25 : Bool) (l28 : (List Row)) a w, Sy C 50 a w [(3, .pointer (some ⟨b2, 0, none⟩)), (5, .slice a26 l28.length c27), (6, .bool v25), (7, .slice a7 y6.length c8), (8, .int .i64 v17)] [rowF flat_Row 38 a26 c27 l28, rowF flat_Row 38 a7 c8 y6, .box b2 [.int .i64 p1.key.table, .int .u16 p1.key.id, .int .i64 p1.val, .string p1.note]] [RSf flat_Row a0 c0 p0] → ref05_With_j1 n y6 v17 (ref05_With_l1 n p1 y6 m18) v25 l28 = some r → K24 a w := by
        intro a26 c27 v25 l28 a w hS h
        unfold ref05_With_j1 at h
        refine hK24 _ _ ?_
        refine k_reg 8 (by kernel_rfl) ?_
        obtain ⟨x29, hx29, h⟩ := bindS h
        have ix29 := rowInb (F := flat_Row) hS 1 rfl hx29
        refine r_run1 0 6 [3, 6, 7, 8, 36, 41] [.row 1 [.int .i64 x29.key.table, .int .u16 x29.key.id, .int .i64 x29.val, .string x29.note]] hS rfl (L' := fun b30 => [(3, .pointer (some ⟨b2, 0, none⟩)), (6, .bool v25), (7, .slice a7 y6.length c8), (8, .int .i64 v17), (36, .slice a26 l28.length c27), (41, .slice (some ⟨b30, 0, none⟩) ([x29] : List Row).length 1)]) (As' := fun b30 => [rowF flat_Row 38 (some ⟨b30, 0, none⟩) 1 ([x29] : List Row), rowF flat_Row 38 a26 c27 l28, rowF flat_Row 38 a7 c8 y6, .box b2 [.int .i64 p1.key.table, .int .u16 p1.key.id, .int .i64 p1.val, .string p1.note]]) (ob := fun b30 => [fun _ => Inb a7 y6.length v17, fun _ => LoadOk (rowF flat_Row 38 a7 c8 y6) (Addr.add (baseOf a7) (Int.toNat v17 * 4)) [.int .i64 x29.key.table, .int .u16 x29.key.id, .int .i64 x29.val, .string x29.note]]) (fun b30 => by kernel_rfl) (fun b30 => ⟨Bx.c ix29, Bx.c (loadRow hx29), trivial⟩) fun b30 a w hS => ?_
        obtain ⟨l31, hl31, h⟩ := bindS h
        obtain ⟨hl31r, hl31e⟩ := app_some hl31
        refine r_append 6 rfl (d := 42) (t := 25) (A := a26) (c := c27) (k := l28.length) (b := (some ⟨b30, 0, none⟩)) (c2 := 1) (m := ([x29] : List Row).length) (([x29] : List Row).flatMap flat_Row.enc) 1 [0] hS appT_25 (by kernel_rfl) rfl rfl (fun F up le => appB (F := flat_Row) (le 0 rfl _ fun w h => rowRS h)) hl31r fun a32 c33 a w hS => ?_
        replace hS := rowF_app (F := flat_Row) (l := l28) (m := ([x29] : List Row)) hS hl31e
        refine r_run 7 1 [3, 5, 6, 7, 8] [] hS rfl (L' := [(3, .pointer (some ⟨b2, 0, none⟩)), (5, .slice a32 l31.length c33), (6, .bool v25), (7, .slice a7 y6.length c8), (8, .int .i64 v17)]) (As' := [rowF flat_Row 38 a32 c33 l31, rowF flat_Row 38 (some ⟨b30, 0, none⟩) 1 ([x29] : List Row), rowF flat_Row 38 a7 c8 y6, .box b2 [.int .i64 p1.key.table, .int .u16 p1.key.id, .int .i64 p1.val, .string p1.note]]) (ob := []) (by kernel_rfl) (trivial) fun a w hS => ?_
        refine wl_end ?_
        refine hK23 _ _ ?_
        refine k_reg 3 (by kernel_rfl) ?_
        refine r_run 0 3 [3, 5, 6, 7, 8] [] hS rfl (L' := [(3, .pointer (some ⟨b2, 0, none⟩)), (5, .slice a32 l31.length c33), (6, .bool v25), (7, .slice a7 y6.length c8), (8, .int .i64 (IntKind.wrap .i64 (v17 + 1)))]) (As' := [rowF flat_Row 38 a32 c33 l31, rowF flat_Row 38 (some ⟨b30, 0, none⟩) 1 ([x29] : List Row), rowF flat_Row 38 a7 c8 y6, .box b2 [.int .i64 p1.key.table, .int .u16 p1.key.id, .int .i64 p1.val, .string p1.note]]) (ob := []) (by kernel_rfl) (trivial) fun a w hS => ?_
        refine wl_end ?_
        exact hK19 m18 _ _ (Nat.lt_succ_self _) ⟨a32, c33, l31, v25, (IntKind.wrap .i64 (v17 + 1)), h, (hS.got [3, 5, 6, 7, 8] [0, 1, 1] [] 0 (by kernel_rfl) (by kernel_rfl) (by kernel_rfl))⟩
      refine k_seq (by kernel_rfl) fun K34 hK34 => ?_
      refine c_name fun K35 hK35 => ?_
      have JK35 : ∀ (v36 : Bool) a w, Sy C 50 a w [(3, .pointer (some ⟨b2, 0, none⟩)), (5, .slice a12 l14.length c13), (6, .bool v16), (7, .slice a7 y6.length c8), (8, .int .i64 v17), (31, .bool v36)] [rowF flat_Row 38 a12 c13 l14, rowF flat_Row 38 a7 c8 y6, .box b2 [.int .i64 p1.key.table, .int .u16 p1.key.id, .int .i64 p1.val, .string p1.note]] [RSf flat_Row a0 c0 p0] → ref05_With_j2 n p1 y6 l14 v16 v17 (ref05_With_l1 n p1 y6 m18) v36 = some r → K35 a w := by
        intro v36 a w hS h
        unfold ref05_With_j2 at h
        refine hK35 _ _ ?_
        refine hK34 _ _ ?_
        refine k_cond v36 hS.has (by kernel_rfl) (by kernel_rfl) (by kernel_rfl) (fun hb37 => ?_) (fun hb37 => ?_)
        · replace h := ctrue hb37 h
          refine k_seq (by kernel_rfl) fun K38 hK38 => ?_
          refine k_reg 5 (by kernel_rfl) ?_
          refine r_run1 0 3 [3, 7, 8, 32, 34] [.own 2 0] hS rfl (L' := fun b39 => [(3, .pointer (some ⟨b2, 0, none⟩)), (7, .slice a7 y6.length c8), (8, .int .i64 v17), (32, .slice a12 l14.length c13), (34, .slice (some ⟨b39, 0, none⟩) ([p1] : List Row).length 1)]) (As' := fun b39 => [rowF flat_Row 38 (some ⟨b39, 0, none⟩) 1 ([p1] : List Row), rowF flat_Row 38 a12 c13 l14, rowF flat_Row 38 a7 c8 y6, .box b2 [.int .i64 p1.key.table, .int .u16 p1.key.id, .int .i64 p1.val, .string p1.note]]) (ob := fun b39 => [fun _ => (⟨b2, 0, none⟩ : Addr) = (⟨b2, 0, none⟩ : Addr).add 0]) (fun b39 => by kernel_rfl) (fun b39 => ⟨Bx.c rfl, trivial⟩) fun b39 a w hS => ?_
          obtain ⟨l40, hl40, h⟩ := bindS h
          obtain ⟨hl40r, hl40e⟩ := app_some hl40
          refine r_append 3 rfl (d := 35) (t := 25) (A := a12) (c := c13) (k := l14.length) (b := (some ⟨b39, 0, none⟩)) (c2 := 1) (m := ([p1] : List Row).length) (([p1] : List Row).flatMap flat_Row.enc) 1 [0] hS appT_25 (by kernel_rfl) rfl rfl (fun F up le => appB (F := flat_Row) (le 0 rfl _ fun w h => rowRS h)) hl40r fun a41 c42 a w hS => ?_
          replace hS := rowF_app (F := flat_Row) (l := l14) (m := ([p1] : List Row)) hS hl40e
          refine r_run 4 1 [3, 5, 7, 8] [] hS rfl (L' := [(3, .pointer (some ⟨b2, 0, none⟩)), (5, .slice a41 l40.length c42), (7, .slice a7 y6.length c8), (8, .int .i64 v17)]) (As' := [rowF flat_Row 38 a41 c42 l40, rowF flat_Row 38 (some ⟨b39, 0, none⟩) 1 ([p1] : List Row), rowF flat_Row 38 a7 c8 y6, .box b2 [.int .i64 p1.key.table, .int .u16 p1.key.id, .int .i64 p1.val, .string p1.note]]) (ob := []) (by kernel_rfl) (trivial) fun a w hS => ?_
          refine wl_end ?_
          refine hK38 _ _ ?_
          refine k_reg 1 (by kernel_rfl) ?_
          refine r_run 0 1 [3, 5, 6, 7, 8] [] hS rfl (L' := [(3, .pointer (some ⟨b2, 0, none⟩)), (5, .slice a41 l40.length c42), (6, .bool true), (7, .slice a7 y6.length c8), (8, .int .i64 v17)]) (As' := [rowF flat_Row 38 a41 c42 l40, rowF flat_Row 38 (some ⟨b39, 0, none⟩) 1 ([p1] : List Row), rowF flat_Row 38 a7 c8 y6, .box b2 [.int .i64 p1.key.table, .int .u16 p1.key.id, .int .i64 p1.val, .string p1.note]]) (ob := []) (by kernel_rfl) (trivial) fun a w hS => ?_
          refine wl_end ?_
          exact JK24 a41 c42 true l40 _ _ (hS.got [3, 5, 6, 7, 8] [0, 1, 1] [] 0 (by kernel_rfl) (by kernel_rfl) (by kernel_rfl)) h
        · replace h := cfalse hb37 h
          refine k_skip (by kernel_rfl) ?_
          exact JK24 a12 c13 v16 l14 _ _ (hS.got [3, 5, 6, 7, 8] [0, 0, 0] [] 0 (by kernel_rfl) (by kernel_rfl) (by kernel_rfl)) h
      cases hb43 : (!v16)
      · replace h := cfalse hb43 h
        refine k_draw 10 13 [.val (.bool v16), .val (.bool (!v16)), .val (.bool false), .val (undef), .val (undef), .val (undef), .val (undef), .val (undef), .val (undef), .val (undef)] [] [(0, []), (1, []), (2, [.as 21 (.bool false)]), (3, []), (4, []), (5, []), (6, []), (7, []), (8, []), (9, [])] [] (ob := [fun _ => Value.bool (!v16) = .bool false]) (by kernel_rfl) (by kernel_rfl) hS (by kernel_rfl) (fun F N0 => by kernel_rfl) (by kernel_rfl) (by kernel_rfl) (by kernel_rfl) (by kernel_rfl) ⟨Bx.c (by rw [hb43]), trivial⟩ ?_ ?_
        · exact trivial
        intro V a w e hS hq
        refine r_run 10 3 [3, 5, 6, 7, 8, 31] [] hS rfl (L' := [(3, .pointer (some ⟨b2, 0, none⟩)), (5, .slice a12 l14.length c13), (6, .bool v16), (7, .slice a7 y6.length c8), (8, .int .i64 v17), (31, .bool false)]) (As' := [rowF flat_Row 38 a12 c13 l14, rowF flat_Row 38 a7 c8 y6, .box b2 [.int .i64 p1.key.table, .int .u16 p1.key.id, .int .i64 p1.val, .string p1.note]]) (ob := []) (by kernel_rfl) (trivial) fun a w hS => ?_
        refine wl_end ?_
        exact JK35 false _ _ (hS.got [3, 5, 6, 7, 8, 31] [0, 0, 0] [] 0 (by kernel_rfl) (by kernel_rfl) (by kernel_rfl)) h
      · replace h := ctrue hb43 h
        obtain ⟨x44, hx44, h⟩ := bindS h
        have ix44 := rowInb (F := flat_Row) hS 1 rfl hx44
        refine k_draw 10 13 [.val (.bool v16), .val (.bool (!v16)), .val (.bool true), .val (.pointer (some ⟨b2, 0, none⟩)), .val (Value.agg #[.int .i64 p1.key.table, .int .u16 p1.key.id]), .val (.slice a7 y6.length c8), .val (.int .i64 v17), .val (.pointer (some (Addr.add (baseOf a7) (Int.toNat v17 * 4)))), .val (.pointer (some (Addr.add (Addr.add (baseOf a7) (Int.toNat v17 * 4)) 0))), .val (Value.agg #[.int .i64 x44.key.table, .int .u16 x44.key.id])] [] [(0, []), (1, []), (2, [.as 21 (.bool true)]), (3, []), (4, [.own 2 0]), (5, []), (6, []), (7, []), (8, []), (9, [.row 1 [.int .i64 x44.key.table, .int .u16 x44.key.id]])] [] (ob := [fun _ => Value.bool (!v16) = .bool true, fun _ => (⟨b2, 0, none⟩ : Addr) = (⟨b2, 0, none⟩ : Addr).add 0, fun _ => Inb a7 y6.length v17, fun _ => LoadOk (rowF flat_Row 38 a7 c8 y6) (Addr.add (Addr.add (baseOf a7) (Int.toNat v17 * 4)) 0) [.int .i64 x44.key.table, .int .u16 x44.key.id]]) (by kernel_rfl) (by kernel_rfl) hS (by kernel_rfl) (fun F N0 => by kernel_rfl) (by kernel_rfl) (by kernel_rfl) (by kernel_rfl) (by kernel_rfl) ⟨Bx.c (by rw [hb43]), Bx.c rfl, Bx.c ix44, Bx.c (LoadOk.sub (loadRow hx44) 0 2), trivial⟩ ?_ ?_
        · exact trivial
        intro V a w e hS hq
        obtain ⟨y45, hy45, h⟩ := bindS h
        refine r_call 10 rfl (d := some 29) (g := 32) (args := #[Value.agg #[.int .i64 p1.key.table, .int .u16 p1.key.id], Value.agg #[.int .i64 x44.key.table, .int .u16 x44.key.id]]) [] hS (by kernel_rfl) rfl (ref05_Compare_ok n p1.key x44.key y45 hy45) (fun F up => trivial) ?_
        rintro v A P a w ⟨rfl, rfl, rfl⟩ hS
        refine r_run 11 2 [3, 5, 6, 7, 8, 31] [] hS rfl (L' := [(3, .pointer (some ⟨b2, 0, none⟩)), (5, .slice a12 l14.length c13), (6, .bool v16), (7, .slice a7 y6.length c8), (8, .int .i64 v17), (31, .bool (decide (y45 < 0)))]) (As' := [rowF flat_Row 38 a12 c13 l14, rowF flat_Row 38 a7 c8 y6, .box b2 [.int .i64 p1.key.table, .int .u16 p1.key.id, .int .i64 p1.val, .string p1.note]]) (ob := []) (by kernel_rfl) (trivial) fun a w hS => ?_
        refine wl_end ?_
        exact JK35 (decide (y45 < 0)) _ _ (hS.got [3, 5, 6, 7, 8, 31] [0, 0, 0] [] 0 (by kernel_rfl) (by kernel_rfl) (by kernel_rfl)) h
    · replace h := cfalse hb22 h
      refine k_exit 0 (by kernel_rfl) ?_
      refine hK10 _ _ ?_
      refine k_seq (by kernel_rfl) fun K46 hK46 => ?_
      refine k_seq (by kernel_rfl) fun K47 hK47 => ?_
      refine k_reg 2 (by kernel_rfl) ?_
      refine r_run 0 2 [3, 5, 44] [] hS rfl (L' := [(3, .pointer (some ⟨b2, 0, none⟩)), (5, .slice a12 l14.length c13), (44, .bool (!v16))]) (As' := [rowF flat_Row 38 a12 c13 l14, rowF flat_Row 38 a7 c8 y6, .box b2 [.int .i64 p1.key.table, .int .u16 p1.key.id, .int .i64 p1.val, .string p1.note]]) (ob := []) (by kernel_rfl) (trivial) fun a w hS => ?_
      refine wl_end ?_
      refine hK47 _ _ ?_
      refine k_cond (!v16) hS.has (by kernel_rfl) (by kernel_rfl) (by kernel_rfl) (fun hb48 => ?_) (fun hb48 => ?_)
      · replace h := ctrue hb48 h
        refine k_reg 5 (by kernel_rfl) ?_
        refine r_run1 0 3 [45, 47] [.own 2 0] hS rfl (L' := fun b49 => [(45, .slice a12 l14.length c13), (47, .slice (some ⟨b49, 0, none⟩) ([p1] : List Row).length 1)]) (As' := fun b49 => [rowF flat_Row 38 (some ⟨b49, 0, none⟩) 1 ([p1] : List Row), rowF flat_Row 38 a12 c13 l14, rowF flat_Row 38 a7 c8 y6, .box b2 [.int .i64 p1.key.table, .int .u16 p1.key.id, .int .i64 p1.val, .string p1.note]]) (ob := fun b49 => [fun _ => (⟨b2, 0, none⟩ : Addr) = (⟨b2, 0, none⟩ : Addr).add 0]) (fun b49 => by kernel_rfl) (fun b49 => ⟨Bx.c rfl, trivial⟩) fun b49 a w hS => ?_
        obtain ⟨l50, hl50, h⟩ := bindS h
        obtain ⟨hl50r, hl50e⟩ := app_some hl50
        refine r_append 3 rfl (d := 48) (t := 25) (A := a12) (c := c13) (k := l14.length) (b := (some ⟨b49, 0, none⟩)) (c2 := 1) (m := ([p1] : List Row).length) (([p1] : List Row).flatMap flat_Row.enc) 1 [0] hS appT_25 (by kernel_rfl) rfl rfl (fun F up le => appB (F := flat_Row) (le 0 rfl _ fun w h => rowRS h)) hl50r fun a51 c52 a w hS => ?_
        replace hS := rowF_app (F := flat_Row) (l := l14) (m := ([p1] : List Row)) hS hl50e
        refine r_run 4 1 [5] [] hS rfl (L' := [(5, .slice a51 l50.length c52)]) (As' := [rowF flat_Row 38 a51 c52 l50, rowF flat_Row 38 (some ⟨b49, 0, none⟩) 1 ([p1] : List Row), rowF flat_Row 38 a7 c8 y6, .box b2 [.int .i64 p1.key.table, .int .u16 p1.key.id, .int .i64 p1.val, .string p1.note]]) (ob := []) (by kernel_rfl) (trivial) fun a w hS => ?_
        refine wl_end ?_
        refine hK46 _ _ ?_
        refine k_seq (by kernel_rfl) fun K53 hK53 => ?_
        refine k_reg 2 (by kernel_rfl) ?_
        refine r_run 0 2 [4] [] hS rfl (L' := [(4, .slice a51 l50.length c52)]) (As' := [rowF flat_Row 38 a51 c52 l50, rowF flat_Row 38 (some ⟨b49, 0, none⟩) 1 ([p1] : List Row), rowF flat_Row 38 a7 c8 y6, .box b2 [.int .i64 p1.key.table, .int .u16 p1.key.id, .int .i64 p1.val, .string p1.note]]) (ob := []) (by kernel_rfl) (trivial) fun a w hS => ?_
        refine wl_end ?_
        refine hK53 _ _ ?_
        refine k_ret (by kernel_rfl) ?_
        obtain rfl := someI h
        try simp only [Exit.then, Exit.inBlock]
        refine r_ret hS [.tmp 4] [] (xs := [.slice a51 l50.length c52]) (ps := []) [0] [] rfl (by kernel_rfl) (fun hA => trivial) rfl (fun F up => trivial) ?_
        exact ⟨a51, c52, rfl, rfl, rfl⟩
      · replace h := cfalse hb48 h
        refine k_skip (by kernel_rfl) ?_
        refine hK46 _ _ ?_
        refine k_seq (by kernel_rfl) fun K54 hK54 => ?_
        refine k_reg 2 (by kernel_rfl) ?_
        refine r_run 0 2 [4] [] hS rfl (L' := [(4, .slice a12 l14.length c13)]) (As' := [rowF flat_Row 38 a12 c13 l14, rowF flat_Row 38 a7 c8 y6, .box b2 [.int .i64 p1.key.table, .int .u16 p1.key.id, .int .i64 p1.val, .string p1.note]]) (ob := []) (by kernel_rfl) (trivial) fun a w hS => ?_
        refine wl_end ?_
        refine hK54 _ _ ?_
        refine k_ret (by kernel_rfl) ?_
        obtain rfl := someI h
        try simp only [Exit.then, Exit.inBlock]
        refine r_ret hS [.tmp 4] [] (xs := [.slice a12 l14.length c13]) (ps := []) [0] [] rfl (by kernel_rfl) (fun hA => trivial) rfl (fun F up => trivial) ?_
        exact ⟨a12, c13, rfl, rfl, rfl⟩

end Go.Proofs.Ytlflbhhajnoelaa
