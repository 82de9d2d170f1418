/- Functions of the program: plain twins and their contracts, printed by program. -/
import Derived.Test.YtjgcapbmhcmcfaaTypes
import Derived.Test.YtjgcapbmhcmcfaaF1
namespace Go.Proofs.Ytjgcapbmhcmcfaa
open Go Go.Bur Go.RowKit
set_option linter.unusedVariables false
set_option linter.unusedSimpArgs false
set_option maxRecDepth 100000
noncomputable section
/-! bursary page.Put 1 -/
def page_Put_1 (n : Nat) (p0 : Row) (p1 : Row) : Option Bool :=
  (row_Compare n p0.key p1.key).bind fun y1 =>
  some (decide (y1 > 0))
@[reducible] def page_Put_1_ct : Ct tab := ⟨64, [.st 1, .one (.ro (.st 1))], [], [.one (.d .bool)], [], Bool, fun y => (y, ()), fun y => y.1, fun _ => rfl, fun n x => page_Put_1 n x.1 x.2.1⟩
theorem page_Put_1_ok : OkC Try.prog tab page_Put_1_ct := fn_ok (W := ⟨Try.prog, tab, tyOf, [row_Compare_ct]⟩) ⟨tabOk, ⟨row_Compare_ok, trivial⟩⟩ (by kernel_rfl) 10 Try.f64 (.n) Try.func64 Try.call64 rfl (by kernel_rfl) (by kernel_rfl) (by kernel_rfl) fun n x => by kernel_rfl

/-! slices.IndexFunc   bursary api.Row bursary api.Row  -/
def slices_IndexFunc_Row_f64_l1 (n : Nat) : Nat → (List Row) × Row × Int × Int × Unit → Option Int := loopF fun r1 ⟨v1, v2, v3, v4, _⟩ =>
    cond (decide (v4 < v3))
      ((idx v1 v4).bind fun x5 =>
      (page_Put_1 n x5 v2).bind fun y6 =>
      cond y6
        (some v4)
        (r1 (v1, v2, v3, (IntKind.wrap .i64 (v4 + 1)), ())))
      (some (-1))
def slices_IndexFunc_Row_f64 (n : Nat) (p0 : List Row) (p1 : Row) : Option Int :=
  slices_IndexFunc_Row_f64_l1 n n (p0, p1, (p0.length : Int), 0, ())
@[reducible] def slices_IndexFunc_Row_f64_ct : Ct tab := ⟨66, [.one (.d (.sl (.st 1))), .one (.fn 64 [.ro (.st 1)])], [], [.one (.d (.int .i64))], [], Int, fun y => (y, ()), fun y => y.1, fun _ => rfl, fun n x => slices_IndexFunc_Row_f64 n x.1 x.2.1⟩
theorem slices_IndexFunc_Row_f64_ok : OkC Try.prog tab slices_IndexFunc_Row_f64_ct := fn_ok (W := ⟨Try.prog, tab, tyOf, [page_Put_1_ct]⟩) ⟨tabOk, ⟨page_Put_1_ok, trivial⟩⟩ (by kernel_rfl) 19 Try.f66 (.sq (.n) (.sq (.sq (.n) (.bk none (.lp ⟨[(0, .one (.d (.sl (.st 1)))), (1, .one (.fn 64 [.ro (.st 1)])), (7, .one (.d (.int .i64))), (8, .one (.d (.int .i64)))], [], []⟩ (.n)))) (.n))) Try.func66 Try.call66 rfl (by kernel_rfl) (by kernel_rfl) (by kernel_rfl) fun n x => by kernel_rfl

theorem slices_Insert_Row_raw {a0 : Option Addr} {c0 : Nat} {a2 : Option Addr} {c2 : Nat} (p0 : List (Raw 4)) (p1 : Int) (p2 : List (Raw 4)) (r : List (Raw 4)) (h : insL 40 p0 p1 p2 = some r) :
    Meets Try.prog 67 #[.slice a0 p0.length c0, .int .i64 p1, .slice a2 p2.length c2] [rowF (rawF 4) 49 a0 c0 p0, rowF (rawF 4) 49 a2 c2 p2] [] fun v A P => ∃ (a : Option Addr) (c : Nat), v = .slice a r.length c ∧ A = [rowF (rawF 4) 49 a c r] ∧ P = [] := by
  unfold insL at h
  split at h
  case isFalse => cases h
  rename_i hb
  obtain ⟨hb0, hb1⟩ := hb
  obtain ⟨i, hi⟩ : ∃ i : Nat, p1 = (i : Int) := ⟨p1.toNat, by omega⟩
  subst hi
  simp only [Int.toNat_natCast] at h
  have hil : i ≤ p0.length := by omega
  split at h
  case h_2 => cases h
  rename_i hroom
  have hr := someI h
  have hrl : r.length = p0.length + p2.length := by rw [← hr]; simp; omega
  have hbytes : (p0.length + p2.length) * 40 ≤ 140737488355328 := Nat.le_of_ble_eq_true hroom
  have hsm : p0.length + p2.length < 9223372036854775808 := by omega
  refine meets_enter 95 Try.func67 Try.call67 rfl (by kernel_rfl) (by simp) fun C a w hS => ?_
  have hc : p0.length ≤ c0 := (row_len (hS.st.own _ (List.mem_cons_self ..))).2.1
  refine k_seq (by kernel_rfl) fun K1 hK1 => ?_
  refine k_reg 1 (by kernel_rfl) ?_
  refine r_run 0 1 [0, 1, 2] [] hS rfl (L' := [(0, .slice a0 p0.length c0), (1, .int .i64 i), (2, .slice a2 p2.length c2)]) (As' := [rowF (rawF 4) 49 a0 c0 p0, rowF (rawF 4) 49 a2 c2 p2]) (ob := []) (by kernel_rfl) trivial fun a w hS => ?_
  refine wl_end ?_
  refine hK1 _ _ ?_
  refine k_seq (by kernel_rfl) fun K2 hK2 => ?_
  refine k_reg 3 (by kernel_rfl) ?_
  refine r_run 0 3 [0, 1, 2] [] hS rfl (L' := [(0, .slice a0 p0.length c0), (1, .int .i64 i), (2, .slice a2 p2.length c2)]) (As' := [rowF (rawF 4) 49 a0 c0 p0, rowF (rawF 4) 49 a2 c2 p2]) (ob := [fun _ => 0 ≤ (i : Int) ∧ (i : Int) ≤ (p0.length : Int) ∧ (p0.length : Int) ≤ (c0 : Int)]) (by kernel_rfl) ⟨Bx.c ⟨hb0, hb1, by omega⟩, trivial⟩ fun a w hS => ?_
  refine wl_end ?_
  refine hK2 _ _ ?_
  refine k_seq (by kernel_rfl) fun K3 hK3 => ?_
  refine k_reg 3 (by kernel_rfl) ?_
  refine r_run 0 3 [0, 1, 2, 7] [] hS rfl (L' := [(0, .slice a0 p0.length c0), (1, .int .i64 i), (2, .slice a2 p2.length c2), (7, .int .i64 (p2.length : Int))]) (As' := [rowF (rawF 4) 49 a0 c0 p0, rowF (rawF 4) 49 a2 c2 p2]) (ob := []) (by kernel_rfl) trivial fun a w hS => ?_
  refine wl_end ?_
  refine hK3 _ _ ?_
  refine k_seq (by kernel_rfl) fun K4 hK4 => ?_
  refine k_seq (by kernel_rfl) fun K5 hK5 => ?_
  refine k_reg 2 (by kernel_rfl) ?_
  refine r_run 0 2 [0, 1, 2, 7, 16] [] hS rfl (L' := [(0, .slice a0 p0.length c0), (1, .int .i64 i), (2, .slice a2 p2.length c2), (7, .int .i64 (p2.length : Int)), (16, .bool ((p2.length : Int) == 0))]) (As' := [rowF (rawF 4) 49 a0 c0 p0, rowF (rawF 4) 49 a2 c2 p2]) (ob := []) (by kernel_rfl) trivial fun a w hS => ?_
  refine wl_end ?_
  refine hK5 _ _ ?_
  refine k_cond ((p2.length : Int) == 0) hS.has (by kernel_rfl) (by kernel_rfl) (by kernel_rfl) (fun hq => ?_) (fun hq => ?_)
  · have hp : p2 = [] := List.eq_nil_of_length_eq_zero (by simpa using hq)
    subst hp
    have hr' : p0 = r := by rw [← hr]; simp
    subst hr'
    refine k_seq (by kernel_rfl) fun K6 hK6 => ?_
    refine k_reg 2 (by kernel_rfl) ?_
    refine r_run 0 2 [6] [] hS rfl (L' := [(6, .slice a0 p0.length c0)]) (As' := [rowF (rawF 4) 49 a0 c0 p0, rowF (rawF 4) 49 a2 c2 ([] : List (Raw 4))]) (ob := []) (by kernel_rfl) trivial fun a w hS => ?_
    refine wl_end ?_
    refine hK6 _ _ ?_
    refine k_ret (by kernel_rfl) ?_
    try simp only [Exit.then, Exit.inBlock]
    refine r_ret hS [.tmp 6] [] (xs := [.slice a0 p0.length c0]) (ps := []) [0] [] rfl (by kernel_rfl) (fun hA => trivial) rfl (fun F up => trivial) ?_
    exact ⟨a0, c0, rfl, rfl, rfl⟩
  have hm : 0 < p2.length := by
    rcases Nat.eq_zero_or_pos p2.length with h0 | h0
    · rw [h0] at hq; simp at hq
    · exact h0
  obtain ⟨g3, rfl⟩ := row_block (hS.st.own (rowF (rawF 4) 49 a2 c2 p2) (by simp)) (by omega)
  refine k_skip (by kernel_rfl) ?_
  refine hK4 _ _ ?_
  refine k_seq (by kernel_rfl) fun K7 hK7 => ?_
  refine k_reg 3 (by kernel_rfl) ?_
  refine r_run 0 3 [0, 1, 2, 7, 8] [] hS rfl (L' := [(0, .slice a0 p0.length c0), (1, .int .i64 i), (2, .slice (some ⟨g3, 0, none⟩) p2.length c2), (7, .int .i64 (p2.length : Int)), (8, .int .i64 (p0.length : Int))]) (As' := [rowF (rawF 4) 49 a0 c0 p0, rowF (rawF 4) 49 (some ⟨g3, 0, none⟩) c2 p2]) (ob := []) (by kernel_rfl) trivial fun a w hS => ?_
  refine wl_end ?_
  refine hK7 _ _ ?_
  refine k_seq (by kernel_rfl) fun K8 hK8 => ?_
  refine k_seq (by kernel_rfl) fun K9 hK9 => ?_
  refine k_reg 3 (by kernel_rfl) ?_
  refine r_run 0 3 [0, 1, 2, 7, 8, 22] [] hS rfl (L' := [(0, .slice a0 p0.length c0), (1, .int .i64 i), (2, .slice (some ⟨g3, 0, none⟩) p2.length c2), (7, .int .i64 (p2.length : Int)), (8, .int .i64 (p0.length : Int)), (22, .bool ((i : Int) == (p0.length : Int)))]) (As' := [rowF (rawF 4) 49 a0 c0 p0, rowF (rawF 4) 49 (some ⟨g3, 0, none⟩) c2 p2]) (ob := []) (by kernel_rfl) trivial fun a w hS => ?_
  refine wl_end ?_
  refine hK9 _ _ ?_
  refine k_cond ((i : Int) == (p0.length : Int)) hS.has (by kernel_rfl) (by kernel_rfl) (by kernel_rfl) (fun hq2 => ?_) (fun hq2 => ?_)
  · have hin : i = p0.length := by
      have := of_decide_eq_true (p := (i : Int) = (p0.length : Int)) (by simpa using hq2)
      omega
    have hr' : r = p0 ++ p2 := by rw [← hr, hin]; simp
    refine k_seq (by kernel_rfl) fun K6 hK6 => ?_
    refine k_reg 4 (by kernel_rfl) ?_
    refine r_run 0 2 [23, 24] [] hS rfl (L' := [(23, .slice a0 p0.length c0), (24, .slice (some ⟨g3, 0, none⟩) p2.length c2)]) (As' := [rowF (rawF 4) 49 a0 c0 p0, rowF (rawF 4) 49 (some ⟨g3, 0, none⟩) c2 p2]) (ob := []) (by kernel_rfl) trivial fun a w hS => ?_
    refine r_append 2 rfl (d := 25) (t := 22) (A := a0) (c := c0) (k := p0.length) (b := some ⟨g3, 0, none⟩) (c2 := c2) (m := p2.length) (p2.flatMap ((rawF 4)).enc) 0 [0] hS (appChk_sound (by kernel_rfl)) (by kernel_rfl) rfl rfl (fun F up le => appB (F := (rawF 4)) (le 0 rfl _ fun w h => rowRS h)) hroom fun a5 c5 a w hS => ?_
    replace hS := rowF_app (F := (rawF 4)) (l := p0) (m := p2) hS hr'
    refine r_run 3 1 [6] [] hS rfl (L' := [(6, .slice a5 r.length c5)]) (As' := [rowF (rawF 4) 49 a5 c5 r, rowF (rawF 4) 49 (some ⟨g3, 0, none⟩) c2 p2]) (ob := []) (by kernel_rfl) trivial fun a w hS => ?_
    refine wl_end ?_
    refine hK6 _ _ ?_
    refine k_ret (by kernel_rfl) ?_
    try simp only [Exit.then, Exit.inBlock]
    refine r_ret hS [.tmp 6] [] (xs := [.slice a5 r.length c5]) (ps := []) [0] [] rfl (by kernel_rfl) (fun hA => trivial) rfl (fun F up => trivial) ?_
    exact ⟨a5, c5, rfl, rfl, rfl⟩
  have hin : i < p0.length := by
    rcases Nat.lt_or_ge i p0.length with h0 | h0
    · exact h0
    · have : i = p0.length := by omega
      rw [this] at hq2; simp at hq2
  obtain ⟨g, rfl⟩ := row_block (hS.st.own (rowF (rawF 4) 49 a0 c0 p0) (by simp)) (by omega)
  have hw : IntKind.wrap .i64 ((p0.length : Int) + (p2.length : Int)) = ((p0.length + p2.length : Nat) : Int) := by rw [IntKind.wrap_i64]; omega
  have hw2 : IntKind.wrap .i64 ((i : Int) + (p2.length : Int)) = ((i + p2.length : Nat) : Int) := by rw [IntKind.wrap_i64]; omega
  have hsz : 0 < ((rawF 4)).sz := by decide
  have hX : (p0.take i).flatMap ((rawF 4)).enc = (p0.flatMap ((rawF 4)).enc).take (i * ((rawF 4)).sz) := flat_take p0 i
  have hY : (p0.drop i).flatMap ((rawF 4)).enc = (p0.flatMap ((rawF 4)).enc).drop (i * ((rawF 4)).sz) := flat_drop p0 i
  have lX : ((p0.take i).flatMap ((rawF 4)).enc).length = i * ((rawF 4)).sz := by rw [flat_len, List.length_take, Nat.min_eq_left hil]
  have lY : ((p0.drop i).flatMap ((rawF 4)).enc).length = (p0.length - i) * ((rawF 4)).sz := by rw [flat_len, List.length_drop]
  have lV : (p2.flatMap ((rawF 4)).enc).length = p2.length * ((rawF 4)).sz := flat_len p2
  have hXY : (p0.take i).flatMap ((rawF 4)).enc ++ (p0.drop i).flatMap ((rawF 4)).enc = p0.flatMap ((rawF 4)).enc := by rw [← List.flatMap_append, List.take_append_drop]
  have hre : r.flatMap ((rawF 4)).enc = (p0.take i).flatMap ((rawF 4)).enc ++ p2.flatMap ((rawF 4)).enc ++ (p0.drop i).flatMap ((rawF 4)).enc := by rw [← hr, List.flatMap_append, List.flatMap_append]
  have hV1 : ∀ v ∈ p2.flatMap ((rawF 4)).enc, v.oneCell' = true := flat_one p2
  have hY1 : ∀ v ∈ (p0.drop i).flatMap ((rawF 4)).enc, v.oneCell' = true := flat_one _
  refine k_skip (by kernel_rfl) ?_
  refine hK8 _ _ ?_
  refine k_seq (by kernel_rfl) fun K10 hK10 => ?_
  refine k_seq (by kernel_rfl) fun K11 hK11 => ?_
  refine k_reg 6 (by kernel_rfl) ?_
  refine r_run 0 6 [0, 1, 2, 7, 8, 31] [.as 28 (.int .i64 ((p0.length + p2.length : Nat) : Int))] hS rfl (L' := [(0, .slice (some ⟨g, 0, none⟩) p0.length c0), (1, .int .i64 i), (2, .slice (some ⟨g3, 0, none⟩) p2.length c2), (7, .int .i64 (p2.length : Int)), (8, .int .i64 (p0.length : Int)), (31, .bool (decide (((p0.length + p2.length : Nat) : Int) > (c0 : Int))))]) (As' := [rowF (rawF 4) 49 (some ⟨g, 0, none⟩) c0 p0, rowF (rawF 4) 49 (some ⟨g3, 0, none⟩) c2 p2]) (ob := [fun _ => Value.int .i64 (IntKind.wrap .i64 ((p0.length : Int) + (p2.length : Int))) = .int .i64 ((p0.length + p2.length : Nat) : Int)]) (by kernel_rfl) ⟨Bx.c (by rw [hw]), trivial⟩ fun a w hS => ?_
  refine wl_end ?_
  refine hK11 _ _ ?_
  refine k_cond (decide (((p0.length + p2.length : Nat) : Int) > (c0 : Int))) hS.has (by kernel_rfl) (by kernel_rfl) (by kernel_rfl) (fun hq3 => ?_) (fun hq3 => ?_)
  · have hgt : c0 < p0.length + p2.length := by have := of_decide_eq_true hq3; omega
    have hk : p0.length + p2.length - i + i = p0.length + p2.length := by omega
    have hw3 : IntKind.wrap .i64 (((p0.length + p2.length : Nat) : Int) - (i : Int)) = ((p0.length + p2.length - i : Nat) : Int) := by rw [IntKind.wrap_i64]; omega
    refine k_seq (by kernel_rfl) fun K12 hK12 => ?_
    refine k_reg 10 (by kernel_rfl) ?_
    refine r_run 0 8 [0, 1, 2, 7, 8, 34, 39] [.as 34 (.slice (some ⟨g, 0, none⟩) i c0), .as 37 (.int .i64 ((p0.length + p2.length : Nat) : Int)), .as 39 (.int .i64 ((p0.length + p2.length - i : Nat) : Int))] hS rfl (L' := [(0, .slice (some ⟨g, 0, none⟩) p0.length c0), (1, .int .i64 i), (2, .slice (some ⟨g3, 0, none⟩) p2.length c2), (7, .int .i64 (p2.length : Int)), (8, .int .i64 (p0.length : Int)), (34, .slice (some ⟨g, 0, none⟩) i c0), (39, .int .i64 ((p0.length + p2.length - i : Nat) : Int))]) (As' := [rowF (rawF 4) 49 (some ⟨g, 0, none⟩) c0 p0, rowF (rawF 4) 49 (some ⟨g3, 0, none⟩) c2 p2]) (ob := [fun _ => (0 : Int) ≤ 0 ∧ (0 : Int) ≤ (i : Int) ∧ (i : Int) ≤ (c0 : Int), fun _ => Value.slice (slA (some ⟨g, 0, none⟩) 0 c0 ((rawF 4)).sz) i c0 = .slice (some ⟨g, 0, none⟩) i c0, fun _ => Value.int .i64 (IntKind.wrap .i64 ((p0.length : Int) + (p2.length : Int))) = .int .i64 ((p0.length + p2.length : Nat) : Int), fun _ => Value.int .i64 (IntKind.wrap .i64 (((p0.length + p2.length : Nat) : Int) - (i : Int))) = .int .i64 ((p0.length + p2.length - i : Nat) : Int)]) (by kernel_rfl) ⟨Bx.c ⟨by omega, by omega, by omega⟩, Bx.c (by rw [slA_zero]), Bx.c (by rw [hw]), Bx.c (by rw [hw3]), trivial⟩ fun a w hS => ?_
    obtain ⟨w', g2, c5, hrun, hc5, ⟨T, hT, hrow⟩, hext, hg2, hg2'⟩ := run_zeros_row (P := Try.prog) (sz := ((rawF 4)).sz) (t := 22) (tn := 3) (ty := 22) (i := i) (k := p0.length + p2.length - i) (bytes := 40) (inf := Try.t49) (z := (Try.t49.zero).getD undef) (kq := .i64) (kn := .i64) (by kernel_rfl) (by kernel_rfl) (by kernel_rfl) (by kernel_rfl) rfl (by kernel_rfl) (by kernel_rfl) hsz (by decide) (hS.st.own (rowF (rawF 4) 49 (some ⟨g, 0, none⟩) c0 p0) (by simp)) hil (by omega) (by omega) (by rw [show i + (p0.length + p2.length - i) = p0.length + p2.length from by omega]; exact hroom)
    have hik : i + (p0.length + p2.length - i) = p0.length + p2.length := by omega
    rw [hik] at hrun hc5 hT
    refine r_bltN 8 rfl (d := some 40) (b := .append) (ts := #[22, 3]) (ty := 22) (vs := #[.slice (some ⟨g, 0, none⟩) i c0, .int .i64 ((p0.length + p2.length - i : Nat) : Int)]) hS (by kernel_rfl) _ hrun hrow hext (fun x hx => by simp [Asn.fp] at hx; subst hx; exact ⟨hg2, hg2'⟩) (by simp [Asn.fp]) fun a hS => ?_
    rw [← hX] at hS
    generalize hZ : (Builtin.zeroCells ((Try.t49.zero).getD undef).cells (p0.length + p2.length - i)).toList = Z at hS
    have lZ : Z.length = (p2.flatMap ((rawF 4)).enc).length + ((p0.drop i).flatMap ((rawF 4)).enc).length := by
      rw [← hZ, zeros_len, lV, lY, ← Nat.add_mul, show ((Try.t49.zero).getD undef).cells.size = ((rawF 4)).sz from by kernel_rfl]
      congr 1; omega
    refine r_run 9 1 [0, 1, 2, 7, 9] [] hS rfl (L' := [(0, .slice (some ⟨g, 0, none⟩) p0.length c0), (1, .int .i64 i), (2, .slice (some ⟨g3, 0, none⟩) p2.length c2), (7, .int .i64 (p2.length : Int)), (9, .slice (some ⟨g2, 0, none⟩) (p0.length + p2.length) c5)]) (As' := [.row (some ⟨g2, 0, none⟩) c5 49 ((rawF 4)).sz c5 ((p0.take i).flatMap ((rawF 4)).enc ++ Z ++ T), rowF (rawF 4) 49 (some ⟨g, 0, none⟩) c0 p0, rowF (rawF 4) 49 (some ⟨g3, 0, none⟩) c2 p2]) (ob := []) (by kernel_rfl) trivial fun a w hS => ?_
    refine wl_end ?_
    refine hK12 _ _ ?_
    refine k_seq (by kernel_rfl) fun K13 hK13 => ?_
    refine k_reg 5 (by kernel_rfl) ?_
    have hs1 : slA (some (⟨g2, 0, none⟩ : Addr)) i c5 ((rawF 4)).sz = some ⟨g2, i * ((rawF 4)).sz, none⟩ := by
      unfold slA; rw [if_neg (by omega)]; simp only [Option.map_some, addr_add0]
    refine r_run 0 4 [0, 1, 7, 9, 43, 44] [.as 43 (.slice (some ⟨g2, i * ((rawF 4)).sz, none⟩) (p0.length + p2.length - i) (c5 - i))] hS rfl (L' := [(0, .slice (some ⟨g, 0, none⟩) p0.length c0), (1, .int .i64 i), (7, .int .i64 (p2.length : Int)), (9, .slice (some ⟨g2, 0, none⟩) (p0.length + p2.length) c5), (43, .slice (some ⟨g2, i * ((rawF 4)).sz, none⟩) (p0.length + p2.length - i) (c5 - i)), (44, .slice (some ⟨g3, 0, none⟩) p2.length c2)]) (As' := [.row (some ⟨g2, 0, none⟩) c5 49 ((rawF 4)).sz c5 ((p0.take i).flatMap ((rawF 4)).enc ++ Z ++ T), rowF (rawF 4) 49 (some ⟨g, 0, none⟩) c0 p0, rowF (rawF 4) 49 (some ⟨g3, 0, none⟩) c2 p2]) (ob := [fun _ => 0 ≤ (i : Int) ∧ (i : Int) ≤ ((p0.length + p2.length : Nat) : Int) ∧ ((p0.length + p2.length : Nat) : Int) ≤ (c5 : Int), fun _ => Value.slice (slA (some ⟨g2, 0, none⟩) i c5 ((rawF 4)).sz) (p0.length + p2.length - i) (c5 - i) = .slice (some ⟨g2, i * ((rawF 4)).sz, none⟩) (p0.length + p2.length - i) (c5 - i)]) (by kernel_rfl) ⟨Bx.c ⟨by omega, by omega, by omega⟩, Bx.c (by rw [hs1]), trivial⟩ fun a w hS => ?_
    have hsrc := row_cellsAt (hS.st.own (rowF (rawF 4) 49 (some ⟨g3, 0, none⟩) c2 p2) (by simp)) 0 (p2.flatMap ((rawF 4)).enc).length
    rw [List.drop_zero, List.take_length] at hsrc
    have hfit1 : i * ((rawF 4)).sz + (p2.flatMap ((rawF 4)).enc).length ≤ c5 * ((rawF 4)).sz := by rw [lV, ← Nat.add_mul]; exact Nat.mul_le_mul_right _ (by omega)
    have hmin1 : Nat.min p2.length (p0.length + p2.length - i) = p2.length := Nat.min_eq_left (by omega)
    refine r_bltS 4 rfl 0 (.row (some ⟨g2, 0, none⟩) c5 49 ((rawF 4)).sz c5 (spl ((p0.take i).flatMap ((rawF 4)).enc ++ Z ++ T) (i * ((rawF 4)).sz) (p2.flatMap ((rawF 4)).enc))) (d := some 45) (b := .copy) (ts := #[22, 22]) (ty := 3) (vs := #[.slice (some ⟨g2, i * ((rawF 4)).sz, none⟩) (p0.length + p2.length - i) (c5 - i), .slice (some ⟨g3, 0, none⟩) p2.length c2]) hS (by kernel_rfl) rfl (fun hA => run_copyR (dT := 22) (sT := 22) (ty := 3) (inf := Try.t49) (by kernel_rfl) (by kernel_rfl) rfl hA (by rw [hmin1, lV]) hsrc hfit1 hV1) rfl (by simp [Asn.fp]) fun a w hS => ?_
    refine wl_end ?_
    refine hK13 _ _ ?_
    refine k_seq (by kernel_rfl) fun K14 hK14 => ?_
    have hs2 : slA (some (⟨g2, 0, none⟩ : Addr)) (i + p2.length) c5 ((rawF 4)).sz = some ⟨g2, (i + p2.length) * ((rawF 4)).sz, none⟩ := by
      unfold slA; rw [if_neg (by omega)]; simp only [Option.map_some, addr_add0]
    have hs3 : slA (some (⟨g, 0, none⟩ : Addr)) i c0 ((rawF 4)).sz = some ⟨g, i * ((rawF 4)).sz, none⟩ := by
      unfold slA; rw [if_neg (by omega)]; simp only [Option.map_some, addr_add0]
    refine k_draw 8 9 [.val (.slice (some ⟨g2, 0, none⟩) (p0.length + p2.length) c5), .val (.int .i64 i), .val (.int .i64 (p2.length : Int)), .val (.int .i64 ((i + p2.length : Nat) : Int)), .val (.slice (some ⟨g2, (i + p2.length) * ((rawF 4)).sz, none⟩) (p0.length + p2.length - (i + p2.length)) (c5 - (i + p2.length))), .val (.slice (some ⟨g, 0, none⟩) p0.length c0), .val (.int .i64 i), .val (.slice (some ⟨g, i * ((rawF 4)).sz, none⟩) (p0.length - i) (c0 - i))] [] [(0, []), (1, []), (2, []), (3, [.as 49 (.int .i64 ((i + p2.length : Nat) : Int))]), (4, [.as 50 (.slice (some ⟨g2, (i + p2.length) * ((rawF 4)).sz, none⟩) (p0.length + p2.length - (i + p2.length)) (c5 - (i + p2.length)))]), (5, []), (6, []), (7, [.as 53 (.slice (some ⟨g, i * ((rawF 4)).sz, none⟩) (p0.length - i) (c0 - i))])] [] (ob := [fun _ => Value.int .i64 (IntKind.wrap .i64 ((i : Int) + (p2.length : Int))) = .int .i64 ((i + p2.length : Nat) : Int), fun _ => 0 ≤ ((i + p2.length : Nat) : Int) ∧ ((i + p2.length : Nat) : Int) ≤ ((p0.length + p2.length : Nat) : Int) ∧ ((p0.length + p2.length : Nat) : Int) ≤ (c5 : Int), fun _ => Value.slice (slA (some ⟨g2, 0, none⟩) (i + p2.length) c5 ((rawF 4)).sz) (p0.length + p2.length - (i + p2.length)) (c5 - (i + p2.length)) = .slice (some ⟨g2, (i + p2.length) * ((rawF 4)).sz, none⟩) (p0.length + p2.length - (i + p2.length)) (c5 - (i + p2.length)), fun _ => 0 ≤ (i : Int) ∧ (i : Int) ≤ (p0.length : Int) ∧ (p0.length : Int) ≤ (c0 : Int), fun _ => Value.slice (slA (some ⟨g, 0, none⟩) i c0 ((rawF 4)).sz) (p0.length - i) (c0 - i) = .slice (some ⟨g, i * ((rawF 4)).sz, none⟩) (p0.length - i) (c0 - i)]) (by kernel_rfl) (by kernel_rfl) hS (by kernel_rfl) (fun F N0 => by kernel_rfl) (by kernel_rfl) (by kernel_rfl) (by kernel_rfl) (by kernel_rfl) ⟨Bx.c (by rw [hw2]), Bx.c ⟨by omega, by omega, by omega⟩, Bx.c (by rw [hs2]), Bx.c ⟨by omega, by omega, by omega⟩, Bx.c (by rw [hs3]), trivial⟩ ?_ ?_
    · exact trivial
    intro V a w e hS hq
    have hsrc := row_cellsAt (hS.st.own (rowF (rawF 4) 49 (some ⟨g, 0, none⟩) c0 p0) (by simp [List.set])) (i * ((rawF 4)).sz) ((p0.drop i).flatMap ((rawF 4)).enc).length
    rw [← hY, List.take_length] at hsrc
    have hmin2 : Nat.min (p0.length - i) (p0.length + p2.length - (i + p2.length)) = p0.length - i := Nat.min_eq_left (by omega)
    have hfit2 : (i + p2.length) * ((rawF 4)).sz + ((p0.drop i).flatMap ((rawF 4)).enc).length ≤ c5 * ((rawF 4)).sz := by rw [lY, ← Nat.add_mul]; exact Nat.mul_le_mul_right _ (by omega)
    refine r_bltS 8 rfl 0 (.row (some ⟨g2, 0, none⟩) c5 49 ((rawF 4)).sz c5 (spl (spl ((p0.take i).flatMap ((rawF 4)).enc ++ Z ++ T) (i * ((rawF 4)).sz) (p2.flatMap ((rawF 4)).enc)) ((i + p2.length) * ((rawF 4)).sz) ((p0.drop i).flatMap ((rawF 4)).enc))) (d := some 54) (b := .copy) (ts := #[22, 22]) (ty := 3) (vs := #[.slice (some ⟨g2, (i + p2.length) * ((rawF 4)).sz, none⟩) (p0.length + p2.length - (i + p2.length)) (c5 - (i + p2.length)), .slice (some ⟨g, i * ((rawF 4)).sz, none⟩) (p0.length - i) (c0 - i)]) hS (by kernel_rfl) rfl (fun hA => run_copyR (dT := 22) (sT := 22) (ty := 3) (inf := Try.t49) (by kernel_rfl) (by kernel_rfl) rfl hA (by rw [hmin2, lY]) hsrc hfit2 hY1) rfl (by simp [Asn.fp]) fun a w hS => ?_
    have hfin : (spl (spl ((p0.take i).flatMap ((rawF 4)).enc ++ Z ++ T) (i * ((rawF 4)).sz) (p2.flatMap ((rawF 4)).enc)) ((i + p2.length) * ((rawF 4)).sz) ((p0.drop i).flatMap ((rawF 4)).enc)).take ((p0.length + p2.length) * ((rawF 4)).sz) = r.flatMap ((rawF 4)).enc := by
      have := cells_new ((p0.take i).flatMap ((rawF 4)).enc) ((p0.drop i).flatMap ((rawF 4)).enc) (p2.flatMap ((rawF 4)).enc) Z T lZ
      rw [lX, lV, ← Nat.add_mul] at this
      rw [this, hre, List.take_left' (by rw [List.length_append, List.length_append, lX, lV, lY, ← Nat.add_mul, ← Nat.add_mul]; congr 1; omega)]
    replace hS := hS.same (B := rowF (rawF 4) 49 (some ⟨g2, 0, none⟩) c5 r) 0 rfl (fun hA => row_app_form hA hrl hc5 hfin) rfl (by simp [Asn.fp])
    refine wl_end ?_
    refine hK14 _ _ ?_
    refine k_seq (by kernel_rfl) fun K15 hK15 => ?_
    refine k_reg 2 (by kernel_rfl) ?_
    refine r_run 0 2 [6] [] hS rfl (L' := [(6, .slice (some ⟨g2, 0, none⟩) (p0.length + p2.length) c5)]) (As' := [rowF (rawF 4) 49 (some ⟨g2, 0, none⟩) c5 r, rowF (rawF 4) 49 (some ⟨g, 0, none⟩) c0 p0, rowF (rawF 4) 49 (some ⟨g3, 0, none⟩) c2 p2]) (ob := []) (by kernel_rfl) trivial fun a w hS => ?_
    refine wl_end ?_
    refine hK15 _ _ ?_
    refine k_ret (by kernel_rfl) ?_
    try simp only [Exit.then, Exit.inBlock]
    refine r_ret hS [.tmp 6] [] (xs := [.slice (some ⟨g2, 0, none⟩) (p0.length + p2.length) c5]) (ps := []) [0] [] rfl (by kernel_rfl) (fun hA => trivial) rfl (fun F up => trivial) ?_
    exact ⟨some ⟨g2, 0, none⟩, c5, by rw [hrl]; rfl, rfl, rfl⟩
  have hle : p0.length + p2.length ≤ c0 := by have := of_decide_eq_false hq3; omega
  refine k_skip (by kernel_rfl) ?_
  refine hK10 _ _ ?_
  refine k_seq (by kernel_rfl) fun K12 hK12 => ?_
  refine k_reg 6 (by kernel_rfl) ?_
  refine r_run 0 6 [0, 1, 2, 7] [.as 59 (.int .i64 ((p0.length + p2.length : Nat) : Int)), .as 60 (.slice (some ⟨g, 0, none⟩) (p0.length + p2.length) c0)] hS rfl (L' := [(0, .slice (some ⟨g, 0, none⟩) (p0.length + p2.length) c0), (1, .int .i64 i), (2, .slice (some ⟨g3, 0, none⟩) p2.length c2), (7, .int .i64 (p2.length : Int))]) (As' := [rowF (rawF 4) 49 (some ⟨g, 0, none⟩) c0 p0, rowF (rawF 4) 49 (some ⟨g3, 0, none⟩) c2 p2]) (ob := [fun _ => Value.int .i64 (IntKind.wrap .i64 ((p0.length : Int) + (p2.length : Int))) = .int .i64 ((p0.length + p2.length : Nat) : Int), fun _ => (0 : Int) ≤ 0 ∧ (0 : Int) ≤ ((p0.length + p2.length : Nat) : Int) ∧ ((p0.length + p2.length : Nat) : Int) ≤ (c0 : Int), fun _ => Value.slice (slA (some ⟨g, 0, none⟩) 0 c0 ((rawF 4)).sz) (p0.length + p2.length) c0 = .slice (some ⟨g, 0, none⟩) (p0.length + p2.length) c0]) (by kernel_rfl) ⟨Bx.c (by rw [hw]), Bx.c ⟨by omega, by omega, by omega⟩, Bx.c (by rw [slA_zero]), trivial⟩ fun a w hS => ?_
  obtain ⟨ds, hd1, hd2, hd3, hd4⟩ := row_full (hS.st.own (rowF (rawF 4) 49 (some ⟨g, 0, none⟩) c0 p0) (by simp))
  replace hS := hS.same (B := .row (some ⟨g, 0, none⟩) c0 49 ((rawF 4)).sz c0 ds) 0 rfl (fun _ => hd4) rfl (by simp [Asn.fp])
  refine wl_end ?_
  refine hK12 _ _ ?_
  refine k_seq (by kernel_rfl) fun K13 hK13 => ?_
  refine k_seq (by kernel_rfl) fun K14 hK14 => ?_
  refine k_reg 8 (by kernel_rfl) ?_
  have hs2 : slA (some (⟨g, 0, none⟩ : Addr)) (i + p2.length) c0 ((rawF 4)).sz = some ⟨g, (i + p2.length) * ((rawF 4)).sz, none⟩ := by
    unfold slA; rw [if_neg (by omega)]; simp only [Option.map_some, addr_add0]
  have hs3 : slA (some (⟨g, 0, none⟩ : Addr)) i c0 ((rawF 4)).sz = some ⟨g, i * ((rawF 4)).sz, none⟩ := by
    unfold slA; rw [if_neg (by omega)]; simp only [Option.map_some, addr_add0]
  refine r_run 0 6 [0, 1, 2, 7, 61, 66] [.as 65 (.int .i64 ((i + p2.length : Nat) : Int)), .as 66 (.slice (some ⟨g, (i + p2.length) * ((rawF 4)).sz, none⟩) (p0.length + p2.length - (i + p2.length)) (c0 - (i + p2.length)))] hS rfl (L' := [(0, .slice (some ⟨g, 0, none⟩) (p0.length + p2.length) c0), (1, .int .i64 i), (2, .slice (some ⟨g3, 0, none⟩) p2.length c2), (7, .int .i64 (p2.length : Int)), (61, .slice (some ⟨g3, 0, none⟩) p2.length c2), (66, .slice (some ⟨g, (i + p2.length) * ((rawF 4)).sz, none⟩) (p0.length + p2.length - (i + p2.length)) (c0 - (i + p2.length)))]) (As' := [.row (some ⟨g, 0, none⟩) c0 49 ((rawF 4)).sz c0 ds, rowF (rawF 4) 49 (some ⟨g3, 0, none⟩) c2 p2]) (ob := [fun _ => Value.int .i64 (IntKind.wrap .i64 ((i : Int) + (p2.length : Int))) = .int .i64 ((i + p2.length : Nat) : Int), fun _ => 0 ≤ ((i + p2.length : Nat) : Int) ∧ ((i + p2.length : Nat) : Int) ≤ ((p0.length + p2.length : Nat) : Int) ∧ ((p0.length + p2.length : Nat) : Int) ≤ (c0 : Int), fun _ => Value.slice (slA (some ⟨g, 0, none⟩) (i + p2.length) c0 ((rawF 4)).sz) (p0.length + p2.length - (i + p2.length)) (c0 - (i + p2.length)) = .slice (some ⟨g, (i + p2.length) * ((rawF 4)).sz, none⟩) (p0.length + p2.length - (i + p2.length)) (c0 - (i + p2.length))]) (by kernel_rfl) ⟨Bx.c (by rw [hw2]), Bx.c ⟨by omega, by omega, by omega⟩, Bx.c (by rw [hs2]), trivial⟩ fun a w hS => ?_
  have hne : g3 ≠ g := by
    have := (List.nodup_append.1 hS.st.nd).2.1
    simp [fps, Asn.fp] at this
    exact fun e => this e.symm
  have hA0 := row_shape (hS.st.own (.row (some ⟨g, 0, none⟩) c0 49 ((rawF 4)).sz c0 ds) (by simp))
  have hA1 := row_shape (hS.st.own (rowF (rawF 4) 49 (some ⟨g3, 0, none⟩) c2 p2) (by simp))
  have hcsz : c0 * ((rawF 4)).sz ≠ 0 := Nat.mul_ne_zero (by omega) (by omega)
  have hov : (callFunc 86 #[.slice (some ⟨g3, 0, none⟩) p2.length c2, .slice (some ⟨g, (i + p2.length) * ((rawF 4)).sz, none⟩) (p0.length + p2.length - (i + p2.length)) (c0 - (i + p2.length))]).run Try.prog w = .ok (.value (.bool false)) w := by
    rw [run_callFunc_extern Try.func86 (by kernel_rfl) (by kernel_rfl) (by kernel_rfl) (e := Extern.SlicesOverlaps.overlaps #[22, 22] #[4]) (by kernel_rfl),
      Lib.run_overlaps_apart w 22 4 49 (by kernel_rfl) ((rawF 4)).sz (fun w => by simp [sizeOf, run_info (show Try.prog.info? 49 = some Try.t49 from by kernel_rfl)]; kernel_rfl) ⟨g3, 0, none⟩ ⟨g, (i + p2.length) * ((rawF 4)).sz, none⟩ p2.length c2 _ _ hne _ _ _ _ hA1.1 hA0.1 hcsz (hA1.2 _) (hA1.2 _)]
    rfl
  refine r_ext 6 rfl (d := some 67) (g := 86) (args := #[.slice (some ⟨g3, 0, none⟩) p2.length c2, .slice (some ⟨g, (i + p2.length) * ((rawF 4)).sz, none⟩) (p0.length + p2.length - (i + p2.length)) (c0 - (i + p2.length))]) hS (by kernel_rfl) hov fun a hS => ?_
  refine r_run 7 1 [0, 1, 2, 7, 68] [] hS rfl (L' := [(0, .slice (some ⟨g, 0, none⟩) (p0.length + p2.length) c0), (1, .int .i64 i), (2, .slice (some ⟨g3, 0, none⟩) p2.length c2), (7, .int .i64 (p2.length : Int)), (68, .bool true)]) (As' := [.row (some ⟨g, 0, none⟩) c0 49 ((rawF 4)).sz c0 ds, rowF (rawF 4) 49 (some ⟨g3, 0, none⟩) c2 p2]) (ob := []) (by kernel_rfl) trivial fun a w hS => ?_
  refine wl_end ?_
  refine hK14 _ _ ?_
  refine k_cond true hS.has (by kernel_rfl) (by kernel_rfl) (by kernel_rfl) (fun _ => ?_) (fun hx => by cases hx)
  refine k_seq (by kernel_rfl) fun K15 hK15 => ?_
  obtain ⟨Z, hZ⟩ : ∃ Z, ds = (p0.take i).flatMap ((rawF 4)).enc ++ (p0.drop i).flatMap ((rawF 4)).enc ++ Z := ⟨ds.drop (p0.length * ((rawF 4)).sz), by rw [hXY]; conv => lhs; rw [← List.take_append_drop (p0.length * ((rawF 4)).sz) ds, hd1]⟩
  have lds : ds.length = c0 * ((rawF 4)).sz := hd2
  have lZ : (p2.flatMap ((rawF 4)).enc).length ≤ ((p0.drop i).flatMap ((rawF 4)).enc).length + Z.length := by
    have h1 := lds
    rw [hZ, List.length_append, List.length_append, lX, lY] at h1
    rw [lV, lY]
    have h2 := Nat.mul_le_mul_right ((rawF 4)).sz hle
    rw [Nat.add_mul] at h2
    have h3 : i * ((rawF 4)).sz + (p0.length - i) * ((rawF 4)).sz = p0.length * ((rawF 4)).sz := by rw [← Nat.add_mul]; congr 1; omega
    omega
  refine k_draw 8 9 [.val (.slice (some ⟨g, 0, none⟩) (p0.length + p2.length) c0), .val (.int .i64 i), .val (.int .i64 (p2.length : Int)), .val (.int .i64 ((i + p2.length : Nat) : Int)), .val (.slice (some ⟨g, (i + p2.length) * ((rawF 4)).sz, none⟩) (p0.length + p2.length - (i + p2.length)) (c0 - (i + p2.length))), .val (.slice (some ⟨g, 0, none⟩) (p0.length + p2.length) c0), .val (.int .i64 i), .val (.slice (some ⟨g, i * ((rawF 4)).sz, none⟩) (p0.length + p2.length - i) (c0 - i))] [] [(0, []), (1, []), (2, []), (3, [.as 72 (.int .i64 ((i + p2.length : Nat) : Int))]), (4, [.as 73 (.slice (some ⟨g, (i + p2.length) * ((rawF 4)).sz, none⟩) (p0.length + p2.length - (i + p2.length)) (c0 - (i + p2.length)))]), (5, []), (6, []), (7, [.as 76 (.slice (some ⟨g, i * ((rawF 4)).sz, none⟩) (p0.length + p2.length - i) (c0 - i))])] [] (ob := [fun _ => Value.int .i64 (IntKind.wrap .i64 ((i : Int) + (p2.length : Int))) = .int .i64 ((i + p2.length : Nat) : Int), fun _ => 0 ≤ ((i + p2.length : Nat) : Int) ∧ ((i + p2.length : Nat) : Int) ≤ ((p0.length + p2.length : Nat) : Int) ∧ ((p0.length + p2.length : Nat) : Int) ≤ (c0 : Int), fun _ => Value.slice (slA (some ⟨g, 0, none⟩) (i + p2.length) c0 ((rawF 4)).sz) (p0.length + p2.length - (i + p2.length)) (c0 - (i + p2.length)) = .slice (some ⟨g, (i + p2.length) * ((rawF 4)).sz, none⟩) (p0.length + p2.length - (i + p2.length)) (c0 - (i + p2.length)), fun _ => 0 ≤ (i : Int) ∧ (i : Int) ≤ ((p0.length + p2.length : Nat) : Int) ∧ ((p0.length + p2.length : Nat) : Int) ≤ (c0 : Int), fun _ => Value.slice (slA (some ⟨g, 0, none⟩) i c0 ((rawF 4)).sz) (p0.length + p2.length - i) (c0 - i) = .slice (some ⟨g, i * ((rawF 4)).sz, none⟩) (p0.length + p2.length - i) (c0 - i)]) (by kernel_rfl) (by kernel_rfl) hS (by kernel_rfl) (fun F N0 => by kernel_rfl) (by kernel_rfl) (by kernel_rfl) (by kernel_rfl) (by kernel_rfl) ⟨Bx.c (by rw [hw2]), Bx.c ⟨by omega, by omega, by omega⟩, Bx.c (by rw [hs2]), Bx.c ⟨by omega, by omega, by omega⟩, Bx.c (by rw [hs3]), trivial⟩ ?_ ?_
  · exact trivial
  intro V a w e hS hq
  have hsrc := row_cellsAt (hS.st.own (.row (some ⟨g, 0, none⟩) c0 49 ((rawF 4)).sz c0 ds) (by simp)) (i * ((rawF 4)).sz) ((p0.drop i).flatMap ((rawF 4)).enc).length
  have hdsd : (ds.drop (i * ((rawF 4)).sz)).take ((p0.drop i).flatMap ((rawF 4)).enc).length = (p0.drop i).flatMap ((rawF 4)).enc := by
    rw [hZ, List.append_assoc, ← lX, List.drop_left, List.take_left]
  rw [hdsd] at hsrc
  have hmin2 : Nat.min (p0.length + p2.length - i) (p0.length + p2.length - (i + p2.length)) = p0.length - i := by
    rw [show p0.length + p2.length - (i + p2.length) = p0.length - i from by omega]; exact Nat.min_eq_right (by omega)
  have hfit2 : (i + p2.length) * ((rawF 4)).sz + ((p0.drop i).flatMap ((rawF 4)).enc).length ≤ c0 * ((rawF 4)).sz := by rw [lY, ← Nat.add_mul]; exact Nat.mul_le_mul_right _ (by omega)
  refine r_bltS 8 rfl 0 (.row (some ⟨g, 0, none⟩) c0 49 ((rawF 4)).sz c0 (spl ds ((i + p2.length) * ((rawF 4)).sz) ((p0.drop i).flatMap ((rawF 4)).enc))) (d := some 77) (b := .copy) (ts := #[22, 22]) (ty := 3) (vs := #[.slice (some ⟨g, (i + p2.length) * ((rawF 4)).sz, none⟩) (p0.length + p2.length - (i + p2.length)) (c0 - (i + p2.length)), .slice (some ⟨g, i * ((rawF 4)).sz, none⟩) (p0.length + p2.length - i) (c0 - i)]) hS (by kernel_rfl) rfl (fun hA => run_copyR (dT := 22) (sT := 22) (ty := 3) (inf := Try.t49) (by kernel_rfl) (by kernel_rfl) rfl hA (by rw [hmin2, lY]) hsrc hfit2 hY1) rfl (by simp [Asn.fp]) fun a w hS => ?_
  refine wl_end ?_
  refine hK15 _ _ ?_
  refine k_seq (by kernel_rfl) fun K16 hK16 => ?_
  refine k_reg 5 (by kernel_rfl) ?_
  refine r_run 0 4 [0, 80, 81] [.as 80 (.slice (some ⟨g, i * ((rawF 4)).sz, none⟩) (p0.length + p2.length - i) (c0 - i))] hS rfl (L' := [(0, .slice (some ⟨g, 0, none⟩) (p0.length + p2.length) c0), (80, .slice (some ⟨g, i * ((rawF 4)).sz, none⟩) (p0.length + p2.length - i) (c0 - i)), (81, .slice (some ⟨g3, 0, none⟩) p2.length c2)]) (As' := [.row (some ⟨g, 0, none⟩) c0 49 ((rawF 4)).sz c0 (spl ds ((i + p2.length) * ((rawF 4)).sz) ((p0.drop i).flatMap ((rawF 4)).enc)), rowF (rawF 4) 49 (some ⟨g3, 0, none⟩) c2 p2]) (ob := [fun _ => 0 ≤ (i : Int) ∧ (i : Int) ≤ ((p0.length + p2.length : Nat) : Int) ∧ ((p0.length + p2.length : Nat) : Int) ≤ (c0 : Int), fun _ => Value.slice (slA (some ⟨g, 0, none⟩) i c0 ((rawF 4)).sz) (p0.length + p2.length - i) (c0 - i) = .slice (some ⟨g, i * ((rawF 4)).sz, none⟩) (p0.length + p2.length - i) (c0 - i)]) (by kernel_rfl) ⟨Bx.c ⟨by omega, by omega, by omega⟩, Bx.c (by rw [hs3]), trivial⟩ fun a w hS => ?_
  have hsrc := row_cellsAt (hS.st.own (rowF (rawF 4) 49 (some ⟨g3, 0, none⟩) c2 p2) (by simp)) 0 (p2.flatMap ((rawF 4)).enc).length
  rw [List.drop_zero, List.take_length] at hsrc
  have hfit1 : i * ((rawF 4)).sz + (p2.flatMap ((rawF 4)).enc).length ≤ c0 * ((rawF 4)).sz := by rw [lV, ← Nat.add_mul]; exact Nat.mul_le_mul_right _ (by omega)
  have hmin1 : Nat.min p2.length (p0.length + p2.length - i) = p2.length := Nat.min_eq_left (by omega)
  refine r_bltS 4 rfl 0 (.row (some ⟨g, 0, none⟩) c0 49 ((rawF 4)).sz c0 (spl (spl ds ((i + p2.length) * ((rawF 4)).sz) ((p0.drop i).flatMap ((rawF 4)).enc)) (i * ((rawF 4)).sz) (p2.flatMap ((rawF 4)).enc))) (d := some 82) (b := .copy) (ts := #[22, 22]) (ty := 3) (vs := #[.slice (some ⟨g, i * ((rawF 4)).sz, none⟩) (p0.length + p2.length - i) (c0 - i), .slice (some ⟨g3, 0, none⟩) p2.length c2]) hS (by kernel_rfl) rfl (fun hA => run_copyR (dT := 22) (sT := 22) (ty := 3) (inf := Try.t49) (by kernel_rfl) (by kernel_rfl) rfl hA (by rw [hmin1, lV]) hsrc hfit1 hV1) rfl (by simp [Asn.fp]) fun a w hS => ?_
  have hfin : (spl (spl ds ((i + p2.length) * ((rawF 4)).sz) ((p0.drop i).flatMap ((rawF 4)).enc)) (i * ((rawF 4)).sz) (p2.flatMap ((rawF 4)).enc)).take ((p0.length + p2.length) * ((rawF 4)).sz) = r.flatMap ((rawF 4)).enc := by
    have := cells_ins ((p0.take i).flatMap ((rawF 4)).enc) ((p0.drop i).flatMap ((rawF 4)).enc) (p2.flatMap ((rawF 4)).enc) Z lZ
    rw [lX, lV, ← Nat.add_mul, ← hZ] at this
    rw [this, hre, List.take_left' (by rw [List.length_append, List.length_append, lX, lV, lY, ← Nat.add_mul, ← Nat.add_mul]; congr 1; omega)]
  replace hS := hS.same (B := rowF (rawF 4) 49 (some ⟨g, 0, none⟩) c0 r) 0 rfl (fun hA => row_app_form hA hrl hle hfin) rfl (by simp [Asn.fp])
  refine wl_end ?_
  refine hK16 _ _ ?_
  refine k_seq (by kernel_rfl) fun K17 hK17 => ?_
  refine k_reg 2 (by kernel_rfl) ?_
  refine r_run 0 2 [6] [] hS rfl (L' := [(6, .slice (some ⟨g, 0, none⟩) (p0.length + p2.length) c0)]) (As' := [rowF (rawF 4) 49 (some ⟨g, 0, none⟩) c0 r, rowF (rawF 4) 49 (some ⟨g3, 0, none⟩) c2 p2]) (ob := []) (by kernel_rfl) trivial fun a w hS => ?_
  refine wl_end ?_
  refine hK17 _ _ ?_
  refine k_ret (by kernel_rfl) ?_
  try simp only [Exit.then, Exit.inBlock]
  refine r_ret hS [.tmp 6] [] (xs := [.slice (some ⟨g, 0, none⟩) (p0.length + p2.length) c0]) (ps := []) [0] [] rfl (by kernel_rfl) (fun hA => trivial) rfl (fun F up => trivial) ?_
  exact ⟨some ⟨g, 0, none⟩, c0, by rw [hrl]; rfl, rfl, rfl⟩
def slices_Insert_Row (n : Nat) (p1 : Int) (q0 q1 : List Row) : Option (List Row) := insL 40 q0 p1 q1
@[reducible] def slices_Insert_Row_ct : Ct tab := ⟨67, [.one (.own 0), .one (.d (.int .i64)), .one (.own 1)], [.row 49 (.st 1), .row 49 (.st 1)], [.one (.own 0)], [(none, .row 49 (.st 1))], List Row, fun y => (y, ()), fun y => y.1, fun _ => rfl, fun n x => slices_Insert_Row n x.1 x.2.1 x.2.2.1⟩
theorem slices_Insert_Row_ok : OkC Try.prog tab slices_Insert_Row_ct := ins_ok (t := .st 1) (m := 4) (bytes := 40) tabOk rfl Try.call67 fun p0 p1 p2 r h => slices_Insert_Row_raw p0 p1 p2 r h

/-! bursary page.Put -/
def page_Put_j1 (n : Nat) : Content × (List Row) × Unit → Option (Content × Int) := fun ⟨v5, v6, _⟩ =>
    (page_leaf n v6).bind fun y7 =>
    (page_one n y7).bind fun y8 =>
    some (y8.1, y8.2)
def page_Put_j2 (n : Nat) (j1 : Content × (List Row) × Unit → Option (Content × Int)) : Int × Row × Content × (List Row) × Unit → Option (Content × Int) := fun ⟨v13, v14, v15, v16, _⟩ =>
    (slices_Insert_Row n v13 v16 ([v14] : List Row)).bind fun y17 =>
    j1 (v15, y17, ())
def page_Put (n : Nat) (p0 : Content) (p1 : Row) : Option (Content × Int) :=
  (page_asked n 1 ([p0] : List Content)).bind fun y1 =>
  cond (y1 != 0)
    (some ((Content.mk 0 ([] : List Row) ([] : List Kid)), y1))
    ((codec_CheckRow n p1).bind fun y2 =>
    cond (y2 != 0)
      (some ((Content.mk 0 ([] : List Row) ([] : List Kid)), y2))
      ((slices_Clone_Row n p0.rows).bind fun y3 =>
      (row_Find n y3 p1.key).bind fun y4 =>
      jn (page_Put_j1 n) fun j1 =>
      cond y4.2
        ((idx y3 y4.1).bind fun x9 =>
        (put y3 y4.1 p1).bind fun l10 =>
        j1 ((Content.mk 0 ([] : List Row) ([] : List Kid)), l10, ()))
        ((page_full n p0).bind fun y11 =>
        cond y11
          (some ((Content.mk 0 ([] : List Row) ([] : List Kid)), 6))
          ((slices_IndexFunc_Row_f64 n y3 p1).bind fun y12 =>
          jn (page_Put_j2 n j1) fun j2 =>
          cond (decide (y12 < 0))
            (j2 ((y3.length : Int), p1, (Content.mk 0 ([] : List Row) ([] : List Kid)), y3, ()))
            (j2 (y12, p1, (Content.mk 0 ([] : List Row) ([] : List Kid)), y3, ()))))))
@[reducible] def page_Put_ct : Ct tab := ⟨31, [.st 3, .st 1], [], [.st 3, .one (.d (.int .i64))], [], (Content × Int), fun y => (y.1, y.2, ()), fun y => (y.1, y.2.1), fun _ => rfl, fun n x => page_Put n x.1 x.2.1⟩
theorem page_Put_ok : OkC Try.prog tab page_Put_ct := fn_ok (W := ⟨Try.prog, tab, tyOf, [page_asked_ct, codec_CheckRow_ct, slices_Clone_Row_ct, row_Find_ct, page_leaf_ct, page_one_ct, page_full_ct, slices_IndexFunc_Row_f64_ct, slices_Insert_Row_ct]⟩) ⟨tabOk, ⟨page_asked_ok, codec_CheckRow_ok, slices_Clone_Row_ok, row_Find_ok, page_leaf_ok, page_one_ok, page_full_ok, slices_IndexFunc_Row_f64_ok, slices_Insert_Row_ok, trivial⟩⟩ (by kernel_rfl) 63 Try.f31 (.sq (.n) (.sq (.n) (.sq (.n) (.sq (.n) (.sq (.n) (.sq (.bk none (.sq (.n) (.cd (some ⟨[(4, .one (.box 0 0)), (8, .one (.own 1))], [.bst 3, .row 49 (.st 1)], []⟩) (.n) (.sq (.n) (.cd none (.n) (.sq (.n) (.sq (.sq (.n) (.sq (.n) (.cd (some ⟨[(3, .one (.box 0 0)), (4, .one (.box 1 0)), (8, .one (.own 2)), (9, .one (.d (.int .i64)))], [.bst 1, .bst 3, .row 49 (.st 1)], []⟩) (.n) (.n)))) (.n)))))))) (.n))))))) Try.func31 Try.call31 rfl (by kernel_rfl) (by kernel_rfl) (by kernel_rfl) fun n x => by kernel_rfl

theorem slices_Delete_Row_raw {a0 : Option Addr} {c0 : Nat} (p0 : List (Raw 4)) (p1 p2 : Int) (r : List (Raw 4)) (h : delL p0 p1 p2 = some r) :
    Meets Try.prog 68 #[.slice a0 p0.length c0, .int .i64 p1, .int .i64 p2] [rowF (rawF 4) 49 a0 c0 p0] [] fun v A P => ∃ (a : Option Addr) (c : Nat), v = .slice a r.length c ∧ A = [rowF (rawF 4) 49 a c r] ∧ P = [] := by
  unfold delL at h
  split at h
  case isFalse => cases h
  rename_i hb
  obtain ⟨hb0, hb1, hb2⟩ := hb
  obtain rfl := someI h
  obtain ⟨i, hi⟩ : ∃ i : Nat, p1 = (i : Int) := ⟨p1.toNat, by omega⟩
  obtain ⟨j, hj⟩ : ∃ j : Nat, p2 = (j : Int) := ⟨p2.toNat, by omega⟩
  subst hi hj
  simp only [Int.toNat_natCast]
  have hij : i ≤ j := by omega
  have hjl : j ≤ p0.length := by omega
  refine meets_enter 33 Try.func68 Try.call68 rfl (by kernel_rfl) (by simp) fun C a w hS => ?_
  have hc : p0.length ≤ c0 := (row_len (hS.st.own _ (List.mem_cons_self ..))).2.1
  refine k_seq (by kernel_rfl) fun K1 hK1 => ?_
  refine k_reg 1 (by kernel_rfl) ?_
  refine r_run 0 1 [0, 1, 2] [] hS rfl (L' := [(0, .slice a0 p0.length c0), (1, .int .i64 i), (2, .int .i64 j)]) (As' := [rowF (rawF 4) 49 a0 c0 p0]) (ob := []) (by kernel_rfl) trivial fun a w hS => ?_
  refine wl_end ?_
  refine hK1 _ _ ?_
  refine k_seq (by kernel_rfl) fun K2 hK2 => ?_
  refine k_reg 6 (by kernel_rfl) ?_
  refine r_run 0 6 [0, 1, 2] [] hS rfl (L' := [(0, .slice a0 p0.length c0), (1, .int .i64 i), (2, .int .i64 j)]) (As' := [rowF (rawF 4) 49 a0 c0 p0]) (ob := [fun _ => 0 ≤ (i : Int) ∧ (i : Int) ≤ (j : Int) ∧ (j : Int) ≤ (p0.length : Int) ∧ (p0.length : Int) ≤ (c0 : Int)]) (by kernel_rfl) ⟨Bx.c ⟨hb0, hb1, hb2, by omega⟩, trivial⟩ fun a w hS => ?_
  refine wl_end ?_
  refine hK2 _ _ ?_
  refine k_seq (by kernel_rfl) fun K3 hK3 => ?_
  refine k_seq (by kernel_rfl) fun K4 hK4 => ?_
  refine k_reg 3 (by kernel_rfl) ?_
  refine r_run 0 3 [0, 1, 2, 16] [] hS rfl (L' := [(0, .slice a0 p0.length c0), (1, .int .i64 i), (2, .int .i64 j), (16, .bool ((i : Int) == (j : Int)))]) (As' := [rowF (rawF 4) 49 a0 c0 p0]) (ob := []) (by kernel_rfl) trivial fun a w hS => ?_
  refine wl_end ?_
  refine hK4 _ _ ?_
  refine k_cond ((i : Int) == (j : Int)) hS.has (by kernel_rfl) (by kernel_rfl) (by kernel_rfl) (fun hq => ?_) (fun hq => ?_)
  · have hij : i = j := by
      have := of_decide_eq_true (p := (i : Int) = (j : Int)) (by simpa using hq)
      omega
    subst hij
    refine k_seq (by kernel_rfl) fun K5 hK5 => ?_
    refine k_reg 2 (by kernel_rfl) ?_
    refine r_run 0 2 [6] [] hS rfl (L' := [(6, .slice a0 p0.length c0)]) (As' := [rowF (rawF 4) 49 a0 c0 p0]) (ob := []) (by kernel_rfl) trivial fun a w hS => ?_
    refine wl_end ?_
    refine hK5 _ _ ?_
    refine k_ret (by kernel_rfl) ?_
    try simp only [Exit.then, Exit.inBlock]
    refine r_ret hS [.tmp 6] [] (xs := [.slice a0 p0.length c0]) (ps := []) [0] [] rfl (by kernel_rfl) (fun hA => trivial) rfl (fun F up => trivial) ?_
    rw [List.take_append_drop]
    exact ⟨a0, c0, rfl, rfl, rfl⟩
  · have hne : i ≠ j := fun e => by
      subst e
      simp at hq
    have hlt : i < j := by omega
    obtain ⟨g, rfl⟩ := row_block (hS.st.own _ (List.mem_cons_self ..)) (by omega)
    refine k_skip (by kernel_rfl) ?_
    refine hK3 _ _ ?_
    refine k_seq (by kernel_rfl) fun K5 hK5 => ?_
    refine k_reg 3 (by kernel_rfl) ?_
    refine r_run 0 3 [0, 1, 2, 7] [] hS rfl (L' := [(0, .slice (some ⟨g, 0, none⟩) p0.length c0), (1, .int .i64 i), (2, .int .i64 j), (7, .int .i64 (p0.length : Int))]) (As' := [rowF (rawF 4) 49 (some ⟨g, 0, none⟩) c0 p0]) (ob := []) (by kernel_rfl) trivial fun a w hS => ?_
    refine wl_end ?_
    refine hK5 _ _ ?_
    refine k_seq (by kernel_rfl) fun K6 hK6 => ?_
    refine k_draw 6 8 [.val (.slice (some ⟨g, 0, none⟩) p0.length c0), .val (.int .i64 i), .val (.slice (slA (some ⟨g, 0, none⟩) 0 c0 ((rawF 4)).sz) i c0), .val (.slice (some ⟨g, 0, none⟩) p0.length c0), .val (.int .i64 j), .val (.slice (slA (some ⟨g, 0, none⟩) j c0 ((rawF 4)).sz) (p0.length - j) (c0 - j))] [] [(0, []), (1, []), (2, []), (3, []), (4, []), (5, [])] [] (ob := [fun _ => (0 : Int) ≤ 0 ∧ (0 : Int) ≤ (i : Int) ∧ (i : Int) ≤ (c0 : Int), fun _ => 0 ≤ (j : Int) ∧ (j : Int) ≤ (p0.length : Int) ∧ (p0.length : Int) ≤ (c0 : Int)]) (by kernel_rfl) (by kernel_rfl) hS (by kernel_rfl) (fun F N0 => by kernel_rfl) (by kernel_rfl) (by kernel_rfl) (by kernel_rfl) (by kernel_rfl) ⟨Bx.c ⟨by omega, by omega, by omega⟩, Bx.c ⟨by omega, by omega, by omega⟩, trivial⟩ ?_ ?_
    · exact trivial
    intro V a w e hS hq
    refine r_bltS 6 rfl 0 (.row (some ⟨g, 0, none⟩) c0 49 ((rawF 4)).sz (i + (p0.length - j)) ((p0.flatMap ((rawF 4)).enc).take (i * ((rawF 4)).sz) ++ (p0.flatMap ((rawF 4)).enc).drop (j * ((rawF 4)).sz))) (d := some 26) (b := .append) (ts := #[22, 22]) (ty := 22) (vs := #[.slice (slA (some ⟨g, 0, none⟩) 0 c0 ((rawF 4)).sz) i c0, .slice (slA (some ⟨g, 0, none⟩) j c0 ((rawF 4)).sz) (p0.length - j) (c0 - j)]) hS (by kernel_rfl) rfl (fun hA => run_cut_row (t := 22) (ty := 22) (inf := Try.t49) (by kernel_rfl) (by kernel_rfl) rfl hA (flat_one p0) hij hjl) rfl (by simp [Asn.fp]) fun a w hS => ?_
    have hn' : p0.length - (i + (p0.length - j)) = j - i := by omega
    have hs0 : slA (some (⟨g, 0, none⟩ : Addr)) (i + (p0.length - j)) c0 ((rawF 4)).sz = some ⟨g, (i + (p0.length - j)) * ((rawF 4)).sz, none⟩ := by
      unfold slA; rw [if_neg (by omega)]; simp only [Option.map_some, addr_add0]
    refine r_run 7 1 [0, 7] [] hS rfl (L' := [(0, .slice (some ⟨g, 0, none⟩) (i + (p0.length - j)) c0), (7, .int .i64 (p0.length : Int))]) (As' := [.row (some ⟨g, 0, none⟩) c0 49 ((rawF 4)).sz (i + (p0.length - j)) ((p0.flatMap ((rawF 4)).enc).take (i * ((rawF 4)).sz) ++ (p0.flatMap ((rawF 4)).enc).drop (j * ((rawF 4)).sz))]) (ob := []) (by kernel_rfl) trivial fun a w hS => ?_
    refine wl_end ?_
    refine hK6 _ _ ?_
    refine k_seq (by kernel_rfl) fun K7 hK7 => ?_
    refine k_reg 6 (by kernel_rfl) ?_
    refine r_run 0 5 [0, 31] [.as 31 (.slice (some ⟨g, (i + (p0.length - j)) * ((rawF 4)).sz, none⟩) (j - i) (c0 - (i + (p0.length - j))))] hS rfl (L' := [(0, .slice (some ⟨g, 0, none⟩) (i + (p0.length - j)) c0), (31, .slice (some ⟨g, (i + (p0.length - j)) * ((rawF 4)).sz, none⟩) (j - i) (c0 - (i + (p0.length - j))))]) (As' := [.row (some ⟨g, 0, none⟩) c0 49 ((rawF 4)).sz (i + (p0.length - j)) ((p0.flatMap ((rawF 4)).enc).take (i * ((rawF 4)).sz) ++ (p0.flatMap ((rawF 4)).enc).drop (j * ((rawF 4)).sz))]) (ob := [fun _ => 0 ≤ ((i + (p0.length - j) : Nat) : Int) ∧ ((i + (p0.length - j) : Nat) : Int) ≤ (p0.length : Int) ∧ (p0.length : Int) ≤ (c0 : Int), fun _ => Value.slice (slA (some ⟨g, 0, none⟩) (i + (p0.length - j)) c0 ((rawF 4)).sz) (p0.length - (i + (p0.length - j))) (c0 - (i + (p0.length - j))) = .slice (some ⟨g, (i + (p0.length - j)) * ((rawF 4)).sz, none⟩) (j - i) (c0 - (i + (p0.length - j)))]) (by kernel_rfl) ⟨Bx.c ⟨by omega, by omega, by omega⟩, Bx.c (by rw [hs0, hn']), trivial⟩ fun a w hS => ?_
    obtain ⟨ds, hd1, hd2, hd3, hd4⟩ := row_full (hS.st.own _ (List.mem_cons_self ..))
    replace hS := hS.same (B := .row (some ⟨g, 0, none⟩) c0 49 ((rawF 4)).sz c0 ds) 0 rfl (fun _ => hd4) rfl (by simp [Asn.fp])
    refine r_bltS 5 rfl 0 (.row (some ⟨g, 0, none⟩) c0 49 ((rawF 4)).sz c0 (spl ds ((i + (p0.length - j)) * ((rawF 4)).sz) (Builtin.zeroCells ((Try.t49.zero).getD undef).cells (j - i)).toList)) (d := none) (b := .clear) (ts := #[22]) (ty := 0) (vs := #[.slice (some ⟨g, (i + (p0.length - j)) * ((rawF 4)).sz, none⟩) (j - i) (c0 - (i + (p0.length - j)))]) hS (by kernel_rfl) rfl (fun hA => run_clear_row (t := 22) (ty := 0) (inf := Try.t49) (by kernel_rfl) (by kernel_rfl) (by kernel_rfl) (by kernel_rfl) (oneAll (by kernel_rfl)) hA (by rw [← Nat.add_mul]; exact Nat.mul_le_mul_right _ (by omega))) rfl (by simp [Asn.fp]) fun a w hS => ?_
    have hcut : (spl ds ((i + (p0.length - j)) * ((rawF 4)).sz) (Builtin.zeroCells ((Try.t49.zero).getD undef).cells (j - i)).toList).take ((i + (p0.length - j)) * ((rawF 4)).sz) = (p0.take i ++ p0.drop j).flatMap ((rawF 4)).enc := by
      have hle : (i + (p0.length - j)) * ((rawF 4)).sz ≤ ds.length := by rw [hd2]; exact Nat.mul_le_mul_right _ hd3
      unfold spl
      rw [List.append_assoc, List.take_left' (by rw [List.length_take]; omega), hd1, List.flatMap_append, flat_take, flat_drop]
    have hlen : (p0.take i ++ p0.drop j).length = i + (p0.length - j) := by simp; omega
    replace hS := hS.same (B := rowF (rawF 4) 49 (some ⟨g, 0, none⟩) c0 (p0.take i ++ p0.drop j)) 0 rfl (fun hA => by
      have := row_cut hA (i + (p0.length - j)) (by omega)
      rw [hcut] at this
      unfold rowF
      rw [hlen]
      exact this) rfl (by simp [Asn.fp])
    refine wl_end ?_
    refine hK7 _ _ ?_
    refine k_seq (by kernel_rfl) fun K8 hK8 => ?_
    refine k_reg 2 (by kernel_rfl) ?_
    refine r_run 0 2 [6] [] hS rfl (L' := [(6, .slice (some ⟨g, 0, none⟩) (i + (p0.length - j)) c0)]) (As' := [rowF (rawF 4) 49 (some ⟨g, 0, none⟩) c0 (p0.take i ++ p0.drop j)]) (ob := []) (by kernel_rfl) trivial fun a w hS => ?_
    refine wl_end ?_
    refine hK8 _ _ ?_
    refine k_ret (by kernel_rfl) ?_
    try simp only [Exit.then, Exit.inBlock]
    refine r_ret hS [.tmp 6] [] (xs := [.slice (some ⟨g, 0, none⟩) (i + (p0.length - j)) c0]) (ps := []) [0] [] rfl (by kernel_rfl) (fun hA => trivial) rfl (fun F up => trivial) ?_
    exact ⟨some ⟨g, 0, none⟩, c0, by rw [hlen]; rfl, rfl, rfl⟩
def slices_Delete_Row (n : Nat) (p1 p2 : Int) (q0 : List Row) : Option (List Row) := delL q0 p1 p2
@[reducible] def slices_Delete_Row_ct : Ct tab := ⟨68, [.one (.own 0), .one (.d (.int .i64)), .one (.d (.int .i64))], [.row 49 (.st 1)], [.one (.own 0)], [(none, .row 49 (.st 1))], List Row, fun y => (y, ()), fun y => y.1, fun _ => rfl, fun n x => slices_Delete_Row n x.1 x.2.1 x.2.2.1⟩
theorem slices_Delete_Row_ok : OkC Try.prog tab slices_Delete_Row_ct := del_ok (t := .st 1) (m := 4) tabOk rfl Try.call68 fun p0 p1 p2 r h => slices_Delete_Row_raw p0 p1 p2 r h

/-! bursary page.Take -/
def page_Take (n : Nat) (p0 : Content) (p1 : Key) : Option (Content × Row × Int) :=
  (page_Get n p0 p1).bind fun y1 =>
  cond (y1.2 != 0)
    (some ((Content.mk 0 ([] : List Row) ([] : List Kid)), (Row.mk (Key.mk 0 0) 0 ByteArray.empty), y1.2))
    ((row_Find n p0.rows p1).bind fun y2 =>
    (slices_Clone_Row n p0.rows).bind fun y3 =>
    (slices_Delete_Row n y2.1 (IntKind.wrap .i64 (y2.1 + 1)) y3).bind fun y4 =>
    (page_leaf n y4).bind fun y5 =>
    some (y5, y1.1, 0))
@[reducible] def page_Take_ct : Ct tab := ⟨32, [.st 3, .st 0], [], [.st 3, .st 1, .one (.d (.int .i64))], [], (Content × Row × Int), fun y => (y.1, y.2.1, y.2.2, ()), fun y => (y.1, y.2.1, y.2.2.1), fun _ => rfl, fun n x => page_Take n x.1 x.2.1⟩
theorem page_Take_ok : OkC Try.prog tab page_Take_ct := fn_ok (W := ⟨Try.prog, tab, tyOf, [page_Get_ct, row_Find_ct, slices_Clone_Row_ct, slices_Delete_Row_ct, page_leaf_ct]⟩) ⟨tabOk, ⟨page_Get_ok, row_Find_ok, slices_Clone_Row_ok, slices_Delete_Row_ok, page_leaf_ok, trivial⟩⟩ (by kernel_rfl) 38 Try.f32 (.n) Try.func32 Try.call32 rfl (by kernel_rfl) (by kernel_rfl) (by kernel_rfl) fun n x => by kernel_rfl

/-! bursary bursaryref05.Find -/
def ref05_Find_l1 (n : Nat) : Nat → (List Row) × Int × Key × Unit → Option Int := loopF fun r1 ⟨v1, v2, v3, _⟩ =>
    cond (decide (v2 < (v1.length : Int)))
      ((idx v1 v2).bind fun x4 =>
      cond (Key.eqb x4.key v3)
        (some v2)
        (r1 (v1, (IntKind.wrap .i64 (v2 + 1)), v3, ())))
      (some (-1))
def ref05_Find (n : Nat) (p0 : List Row) (p1 : Key) : Option Int :=
  ref05_Find_l1 n n (p0, 0, p1, ())
@[reducible] def ref05_Find_ct : Ct tab := ⟨35, [.one (.d (.sl (.st 1))), .st 0], [], [.one (.d (.int .i64))], [], Int, fun y => (y, ()), fun y => y.1, fun _ => rfl, fun n x => ref05_Find n x.1 x.2.1⟩
theorem ref05_Find_ok : OkC Try.prog tab ref05_Find_ct := fn_ok (W := ⟨Try.prog, tab, tyOf, []⟩) ⟨tabOk, trivial⟩ (by kernel_rfl) 20 Try.f35 (.sq (.n) (.sq (.sq (.n) (.bk none (.lp ⟨[(0, .one (.d (.sl (.st 1)))), (3, .one (.box 0 0)), (5, .one (.d (.int .i64)))], [.bst 0], []⟩ (.n)))) (.n))) Try.func35 Try.call35 rfl (by kernel_rfl) (by kernel_rfl) (by kernel_rfl) fun n x => by kernel_rfl

/-! bursary bursaryref05.Without -/
def ref05_Without_j2 (n : Nat) (r1 : (List Row) × Int × Key × (List Row) × Unit → Option ((List Row))) : (List Row) × Int × Key × (List Row) × Unit → Option ((List Row)) := fun ⟨v6, v7, v8, v9, _⟩ =>
    r1 (v6, (IntKind.wrap .i64 (v7 + 1)), v8, v9, ())
def ref05_Without_l1 (n : Nat) : Nat → (List Row) × Int × Key × (List Row) × Unit → Option ((List Row)) := loopF fun r1 ⟨v1, v2, v3, v4, _⟩ =>
    cond (decide (v2 < (v1.length : Int)))
      ((idx v1 v2).bind fun x5 =>
      jn (ref05_Without_j2 n r1) fun j2 =>
      cond (!(Key.eqb x5.key v3))
        ((idx v1 v2).bind fun x10 =>
        (app 40 v4 ([x10] : List Row)).bind fun l11 =>
        j2 (v1, v2, v3, l11, ()))
        (j2 (v1, v2, v3, v4, ())))
      (some v4)
def ref05_Without (n : Nat) (p0 : List Row) (p1 : Key) : Option ((List Row)) :=
  ref05_Without_l1 n n (p0, 0, p1, ([] : List Row), ())
@[reducible] def ref05_Without_ct : Ct tab := ⟨37, [.one (.d (.sl (.st 1))), .st 0], [], [.one (.own 0)], [(none, .row 49 (.st 1))], ((List Row)), fun y => (y, ()), fun y => y.1, fun _ => rfl, fun n x => ref05_Without n x.1 x.2.1⟩
theorem ref05_Without_ok : OkC Try.prog tab ref05_Without_ct := fn_ok (W := ⟨Try.prog, tab, tyOf, []⟩) ⟨tabOk, trivial⟩ (by kernel_rfl) 28 Try.f37 (.sq (.n) (.sq (.n) (.sq (.sq (.n) (.bk none (.lp ⟨[(0, .one (.d (.sl (.st 1)))), (3, .one (.box 0 0)), (5, .one (.own 1)), (6, .one (.d (.int .i64)))], [.bst 0, .row 49 (.st 1)], []⟩ (.sq (.n) (.sq (.bk none (.sq (.n) (.cd (some ⟨[(0, .one (.d (.sl (.st 1)))), (3, .one (.box 0 0)), (5, .one (.own 1)), (6, .one (.d (.int .i64)))], [.bst 0, .row 49 (.st 1)], []⟩) (.n) (.n)))) (.n)))))) (.n)))) Try.func37 Try.call37 rfl (by kernel_rfl) (by kernel_rfl) (by kernel_rfl) fun n x => by kernel_rfl

/-! bursary bursaryref05.With -/
def ref05_With_j2 (n : Nat) (r1 : Bool × Int × Row × (List Row) × (List Row) × Unit → Option ((List Row))) : Bool × Int × Row × (List Row) × (List Row) × Unit → Option ((List Row)) := fun ⟨v9, v10, v11, v12, v13, _⟩ =>
    (idx v13 v10).bind fun x14 =>
    (idx v13 v10).bind fun x15 =>
    (app 40 v12 ([x15] : List Row)).bind fun l16 =>
    r1 (v9, (IntKind.wrap .i64 (v10 + 1)), v11, l16, v13, ())
def ref05_With_j3 (n : Nat) : (List Row) × Unit → Option ((List Row)) := fun ⟨v21, _⟩ =>
    some v21
def ref05_With_l1 (n : Nat) : Nat → Bool × Int × Row × (List Row) × (List Row) × Unit → Option ((List Row)) := loopF fun r1 ⟨v2, v3, v4, v5, v6, _⟩ =>
    cond (decide (v3 < (v6.length : Int)))
      (jn (fun (b7 : Bool) =>
          jn (ref05_With_j2 n r1) fun j2 =>
          cond b7
            ((app 40 v5 ([v4] : List Row)).bind fun l17 =>
            j2 (true, v3, v4, l17, v6, ()))
            (j2 (v2, v3, v4, v5, v6, ()))) fun k8 =>
      cond (!v2)
        ((idx v6 v3).bind fun x18 =>
        (idx v6 v3).bind fun x19 =>
        (ref05_Compare n v4.key x19.key).bind fun y20 =>
        k8 (decide (y20 < 0)))
        (k8 false))
      (jn (ref05_With_j3 n) fun j3 =>
      cond (!v2)
        ((app 40 v5 ([v4] : List Row)).bind fun l22 =>
        j3 (l22, ()))
        (j3 (v5, ())))
def ref05_With (n : Nat) (p0 : List Row) (p1 : Row) : Option ((List Row)) :=
  (ref05_Without n p0 p1.key).bind fun y1 =>
  ref05_With_l1 n n (false, 0, p1, ([] : List Row), y1, ())
@[reducible] def ref05_With_ct : Ct tab := ⟨70, [.one (.d (.sl (.st 1))), .st 1], [], [.one (.own 0)], [(none, .row 49 (.st 1))], ((List Row)), fun y => (y, ()), fun y => y.1, fun _ => rfl, fun n x => ref05_With n x.1 x.2.1⟩
theorem ref05_With_ok : OkC Try.prog tab ref05_With_ct := fn_ok (W := ⟨Try.prog, tab, tyOf, [ref05_Without_ct, ref05_Compare_ct]⟩) ⟨tabOk, ⟨ref05_Without_ok, ref05_Compare_ok, trivial⟩⟩ (by kernel_rfl) 50 Try.f70 (.sq (.n) (.sq (.n) (.sq (.n) (.sq (.n) (.sq (.sq (.n) (.bk none (.lp ⟨[(3, .one (.box 0 0)), (5, .one (.own 1)), (6, .one (.d .bool)), (7, .one (.own 2)), (8, .one (.d (.int .i64)))], [.bst 1, .row 49 (.st 1), .row 49 (.st 1)], []⟩ (.sq (.n) (.sq (.bk none (.sq (.sq (.n) (.cd (some ⟨[(3, .one (.box 0 0)), (5, .one (.own 1)), (6, .one (.d .bool)), (7, .one (.own 2)), (8, .one (.d (.int .i64)))], [.bst 1, .row 49 (.st 1), .row 49 (.st 1)], []⟩) (.n) (.n))) (.n))) (.n)))))) (.sq (.sq (.n) (.cd (some ⟨[(5, .one (.own 0))], [.row 49 (.st 1)], []⟩) (.n) (.n))) (.n))))))) Try.func70 Try.call70 rfl (by kernel_rfl) (by kernel_rfl) (by kernel_rfl) fun n x => by kernel_rfl

/-! bursary bursaryref11.Leaf -/
def ref11_Leaf (n : Nat) (p0 : List Row) : Option Content :=
  some (Content.mk 1 p0 ([] : List Kid))
@[reducible] def ref11_Leaf_ct : Ct tab := ⟨36, [.one (.d (.sl (.st 1)))], [], [.st 3], [], Content, fun y => (y, ()), fun y => y.1, fun _ => rfl, fun n x => ref11_Leaf n x.1⟩
theorem ref11_Leaf_ok : OkC Try.prog tab ref11_Leaf_ct := fn_ok (W := ⟨Try.prog, tab, tyOf, []⟩) ⟨tabOk, trivial⟩ (by kernel_rfl) 5 Try.f36 (.n) Try.func36 Try.call36 rfl (by kernel_rfl) (by kernel_rfl) (by kernel_rfl) fun n x => by kernel_rfl

/-! bursary bursaryref11.Put -/
def ref11_Put (n : Nat) (p0 : Content) (p1 : Row) : Option (Content × Int) :=
  (ref05_Find n p0.rows p1.key).bind fun y1 =>
  jn (fun (b2 : Bool) =>
      cond b2
        (some ((Content.mk 0 ([] : List Row) ([] : List Kid)), 6))
        ((ref05_With n p0.rows p1).bind fun y4 =>
        (ref11_Leaf n y4).bind fun y5 =>
        some (y5, 0))) fun k3 =>
  cond (decide (y1 < 0))
    (k3 ((p0.rows.length : Int) == 4))
    (k3 false)
@[reducible] def ref11_Put_ct : Ct tab := ⟨34, [.st 3, .st 1], [], [.st 3, .one (.d (.int .i64))], [], (Content × Int), fun y => (y.1, y.2, ()), fun y => (y.1, y.2.1), fun _ => rfl, fun n x => ref11_Put n x.1 x.2.1⟩
theorem ref11_Put_ok : OkC Try.prog tab ref11_Put_ct := fn_ok (W := ⟨Try.prog, tab, tyOf, [ref05_Find_ct, ref05_With_ct, ref11_Leaf_ct]⟩) ⟨tabOk, ⟨ref05_Find_ok, ref05_With_ok, ref11_Leaf_ok, trivial⟩⟩ (by kernel_rfl) 24 Try.f34 (.n) Try.func34 Try.call34 rfl (by kernel_rfl) (by kernel_rfl) (by kernel_rfl) fun n x => by kernel_rfl

/-! bursary bursarylaw11.PageLeaves -/
def law11_PageLeaves_j3 (n : Nat) : Int × Int × Content × Row × Row × Content × Row × Unit → Option Bool := fun ⟨v42, v43, v44, v45, v46, v47, v48, _⟩ =>
    (ref05_Find n v44.rows v45.key).bind fun y49 =>
    cond (decide (y49 < 0))
      (jn (fun (b50 : Bool) =>
          jn (fun (b52 : Bool) =>
              jn (fun (b54 : Bool) =>
                  jn (fun (b56 : Bool) =>
                      some b56) fun k57 =>
                  cond b54
                    (k57 (v43 == 4))
                    (k57 false)) fun k55 =>
              cond b52
                (k55 (Row.eqb v48 (Row.mk (Key.mk 0 0) 0 ByteArray.empty)))
                (k55 false)) fun k53 =>
          cond b50
            ((law11_none n ([v47] : List Content)).bind fun y58 =>
            k53 y58)
            (k53 false)) fun k51 =>
      cond (Row.eqb v46 (Row.mk (Key.mk 0 0) 0 ByteArray.empty))
        (k51 (v42 == 4))
        (k51 false))
      (cond (v42 == 0)
        ((idx v44.rows y49).bind fun x59 =>
        cond (Row.eqb v46 x59)
          (cond (v43 == 0)
            (cond (Row.eqb v48 v46)
              ((ref05_Without n v44.rows v45.key).bind fun y60 =>
              (ref11_Leaf n y60).bind fun y61 =>
              (law11_same n v47 y61).bind fun y62 =>
              some y62)
              (some false))
            (cond false
              ((ref05_Without n v44.rows v45.key).bind fun y63 =>
              (ref11_Leaf n y63).bind fun y64 =>
              (law11_same n v47 y64).bind fun y65 =>
              some y65)
              (some false)))
          (cond false
            (cond (Row.eqb v48 v46)
              ((ref05_Without n v44.rows v45.key).bind fun y66 =>
              (ref11_Leaf n y66).bind fun y67 =>
              (law11_same n v47 y67).bind fun y68 =>
              some y68)
              (some false))
            (cond false
              ((ref05_Without n v44.rows v45.key).bind fun y69 =>
              (ref11_Leaf n y69).bind fun y70 =>
              (law11_same n v47 y70).bind fun y71 =>
              some y71)
              (some false))))
        (cond false
          (cond (v43 == 0)
            (cond (Row.eqb v48 v46)
              ((ref05_Without n v44.rows v45.key).bind fun y72 =>
              (ref11_Leaf n y72).bind fun y73 =>
              (law11_same n v47 y73).bind fun y74 =>
              some y74)
              (some false))
            (cond false
              ((ref05_Without n v44.rows v45.key).bind fun y75 =>
              (ref11_Leaf n y75).bind fun y76 =>
              (law11_same n v47 y76).bind fun y77 =>
              some y77)
              (some false)))
          (cond false
            (cond (Row.eqb v48 v46)
              ((ref05_Without n v44.rows v45.key).bind fun y78 =>
              (ref11_Leaf n y78).bind fun y79 =>
              (law11_same n v47 y79).bind fun y80 =>
              some y80)
              (some false))
            (cond false
              ((ref05_Without n v44.rows v45.key).bind fun y81 =>
              (ref11_Leaf n y81).bind fun y82 =>
              (law11_same n v47 y82).bind fun y83 =>
              some y83)
              (some false)))))
def law11_PageLeaves_j2 (n : Nat) : Int × Int × Int × Int × Content × Row × Row × Content × Content × Row × Unit → Option Bool := fun ⟨v20, v21, v22, v23, v24, v25, v26, v27, v28, v29, _⟩ =>
    cond (v23 != 0)
      (jn (fun (b30 : Bool) =>
          jn (fun (b32 : Bool) =>
              jn (fun (b34 : Bool) =>
                  jn (fun (b36 : Bool) =>
                      jn (fun (b38 : Bool) =>
                          some b38) fun k39 =>
                      cond b36
                        (k39 (v22 == v23))
                        (k39 false)) fun k37 =>
                  cond b34
                    (k37 (Row.eqb v29 (Row.mk (Key.mk 0 0) 0 ByteArray.empty)))
                    (k37 false)) fun k35 =>
              cond b32
                (k35 (v21 == v23))
                (k35 false)) fun k33 =>
          cond b30
            ((law11_none n ([v27, v28] : List Content)).bind fun y40 =>
            k33 y40)
            (k33 false)) fun k31 =>
      cond (Row.eqb v26 (Row.mk (Key.mk 0 0) 0 ByteArray.empty))
        (k31 (v20 == v23))
        (k31 false))
      ((ref06_RightRow n v25).bind fun y41 =>
      jn (law11_PageLeaves_j3 n) fun j3 =>
      cond (!y41)
        ((law11_none n ([v27] : List Content)).bind fun y84 =>
        jn (fun (b85 : Bool) =>
            cond b85
              (some false)
              (j3 (v20, v22, v24, v25, v26, v28, v29, ()))) fun k86 =>
        cond (!y84)
          (k86 true)
          (k86 (v21 != 151)))
        ((ref11_Put n v24 v25).bind fun y87 =>
        jn (fun (b88 : Bool) =>
            cond b88
              (some false)
              (j3 (v20, v22, v24, v25, v26, v28, v29, ()))) fun k89 =>
        cond (v21 != y87.2)
          (k89 true)
          ((law11_same n v27 y87.1).bind fun y90 =>
          k89 (!y90))))
def law11_PageLeaves_j4 (n : Nat) (j2 : Int × Int × Int × Int × Content × Row × Row × Content × Content × Row × Unit → Option Bool) : Int × Int × Int × Int × Content × Row × Row × Content × Content × Row × Unit → Option Bool := fun ⟨v91, v92, v93, v94, v95, v96, v97, v98, v99, v100, _⟩ =>
    j2 (v91, v92, v93, v94, v95, v96, v97, v98, v99, v100, ())
def law11_PageLeaves_j1 (n : Nat) : Bool × Int × Bool × Bool × Content × Row × Unit → Option Bool := fun ⟨v6, v7, v8, v9, v10, v11, _⟩ =>
    (page_Size n v10).bind fun y12 =>
    jn (fun (b13 : Bool) =>
        jn (fun (b15 : Bool) =>
            cond b15
              (some false)
              ((page_Get n v10 v11.key).bind fun y17 =>
              (page_Put n v10 v11).bind fun y18 =>
              (page_Take n v10 v11.key).bind fun y19 =>
              jn (law11_PageLeaves_j2 n) fun j2 =>
              cond (!v6)
                (j2 (y17.2, y18.2, y19.2.2, 160, v10, v11, y17.1, y18.1, y19.1, y19.2.1, ()))
                (jn (law11_PageLeaves_j4 n j2) fun j4 =>
                cond (v10.kind != 1)
                  (j4 (y17.2, y18.2, y19.2.2, 211, v10, v11, y17.1, y18.1, y19.1, y19.2.1, ()))
                  (j4 (y17.2, y18.2, y19.2.2, 0, v10, v11, y17.1, y18.1, y19.1, y19.2.1, ()))))) fun k16 =>
        cond b13
          (k16 true)
          ((page_Small n v10).bind fun y101 =>
          k16 (!(y101 == v9)))) fun k14 =>
    cond (y12 != v7)
      (k14 true)
      ((page_Full n v10).bind fun y102 =>
      k14 (!(y102 == v8)))
def law11_PageLeaves (n : Nat) (p0 : Content) (p1 : Row) : Option Bool :=
  (law11_wakes n).bind fun y1 =>
  cond (!y1)
    (some false)
    ((law11_over n ([p0] : List Content)).bind fun y2 =>
    jn (fun (b3 : Bool) =>
        cond b3
          (some true)
          ((ref06_Right n p0).bind fun y5 =>
          jn (law11_PageLeaves_j1 n) fun j1 =>
          cond y5
            ((ref11_Size n p0).bind fun y103 =>
            (ref11_Full n p0).bind fun y104 =>
            jn (fun (b105 : Bool) =>
                j1 (y5, y103, y104, b105, p0, p1, ())) fun k106 =>
            cond (p0.kind != 0)
              (k106 (decide (y103 ≤ 2)))
              (k106 false))
            (j1 (y5, 0, false, false, p0, p1, ())))) fun k4 =>
    cond y2
      (k4 true)
      (k4 (decide ((p1.note.size : Int) > 100))))
@[reducible] def law11_PageLeaves_ct : Ct tab := ⟨6, [.st 3, .st 1], [], [.one (.d .bool)], [], Bool, fun y => (y, ()), fun y => y.1, fun _ => rfl, fun n x => law11_PageLeaves n x.1 x.2.1⟩
theorem law11_PageLeaves_ok : OkC Try.prog tab law11_PageLeaves_ct := fn_ok (W := ⟨Try.prog, tab, tyOf, [law11_wakes_ct, law11_over_ct, ref06_Right_ct, page_Size_ct, page_Get_ct, page_Put_ct, page_Take_ct, law11_none_ct, ref06_RightRow_ct, ref05_Find_ct, ref05_Without_ct, ref11_Leaf_ct, law11_same_ct, ref11_Put_ct, page_Small_ct, page_Full_ct, ref11_Size_ct, ref11_Full_ct]⟩) ⟨tabOk, ⟨law11_wakes_ok, law11_over_ok, ref06_Right_ok, page_Size_ok, page_Get_ok, page_Put_ok, page_Take_ok, law11_none_ok, ref06_RightRow_ok, ref05_Find_ok, ref05_Without_ok, ref11_Leaf_ok, law11_same_ok, ref11_Put_ok, page_Small_ok, page_Full_ok, ref11_Size_ok, ref11_Full_ok, trivial⟩⟩ (by kernel_rfl) 204 Try.f6 (.sq (.n) (.sq (.n) (.sq (.n) (.sq (.n) (.sq (.n) (.sq (.sq (.n) (.cd (some ⟨[(2, .one (.box 0 0)), (3, .one (.box 1 0)), (5, .one (.d .bool)), (6, .one (.d (.int .i64))), (7, .one (.d .bool)), (8, .one (.d .bool))], [.bst 3, .bst 1], []⟩) (.n) (.n))) (.sq (.n) (.sq (.n) (.sq (.n) (.sq (.n) (.sq (.n) (.sq (.bk none (.sq (.n) (.cd (some ⟨[(2, .one (.box 0 0)), (3, .one (.box 1 0)), (9, .one (.box 2 0)), (10, .one (.d (.int .i64))), (11, .one (.box 3 0)), (12, .one (.d (.int .i64))), (13, .one (.box 4 0)), (14, .one (.box 5 0)), (15, .one (.d (.int .i64))), (16, .one (.d (.int .i64)))], [.bst 3, .bst 1, .bst 1, .bst 3, .bst 3, .bst 1], []⟩) (.n) (.sq (.n) (.cd (some ⟨[(2, .one (.box 0 0)), (3, .one (.box 1 0)), (9, .one (.box 2 0)), (10, .one (.d (.int .i64))), (11, .one (.box 3 0)), (12, .one (.d (.int .i64))), (13, .one (.box 4 0)), (14, .one (.box 5 0)), (15, .one (.d (.int .i64))), (16, .one (.d (.int .i64)))], [.bst 3, .bst 1, .bst 1, .bst 3, .bst 3, .bst 1], []⟩) (.n) (.n)))))) (.sq (.n) (.sq (.sq (.n) (.cd (some ⟨[(2, .one (.box 0 0)), (3, .one (.box 1 0)), (9, .one (.box 2 0)), (10, .one (.d (.int .i64))), (13, .one (.box 3 0)), (14, .one (.box 4 0)), (15, .one (.d (.int .i64)))], [.bst 3, .bst 1, .bst 1, .bst 3, .bst 1], []⟩) (.n) (.n))) (.sq (.n) (.sq (.n) (.sq (.rg [1000000]) (.n)))))))))))))))))) Try.func6 Try.call6 rfl (by kernel_rfl) (by kernel_rfl) (by kernel_rfl) fun n x => by kernel_rfl

end
end Go.Proofs.Ytjgcapbmhcmcfaa
