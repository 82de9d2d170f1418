/- Functions of the program: plain twins and their contracts, printed by program. -/
import Derived.Test.YtjgcapbmhcmcfaaTypes
import Derived.Test.YtjgcapbmhcmcfaaF0
namespace Go.Proofs.Ytjgcapbmhcmcfaa
open Go Go.Bur Go.RowKit
set_option linter.unusedVariables false
set_option linter.unusedSimpArgs false
set_option maxRecDepth 100000
noncomputable section
/-! slices.Equal   bursary api.Row bursary api.Row  -/
def slices_Equal_Row_l1 (n : Nat) : Nat → (List Row) × (List Row) × Int × Int × Unit → Option Bool := loopF fun r1 ⟨v1, v2, v3, v4, _⟩ =>
    cond (decide (v4 < v3))
      ((idx v1 v4).bind fun x5 =>
      (idx v2 v4).bind fun x6 =>
      cond (!(Row.eqb x5 x6))
        (some false)
        (r1 (v1, v2, v3, (IntKind.wrap .i64 (v4 + 1)), ())))
      (some true)
def slices_Equal_Row (n : Nat) (p0 : List Row) (p1 : List Row) : Option Bool :=
  cond ((p0.length : Int) != (p1.length : Int))
    (some false)
    (slices_Equal_Row_l1 n n (p0, p1, (p0.length : Int), 0, ()))
@[reducible] def slices_Equal_Row_ct : Ct tab := ⟨26, [.one (.d (.sl (.st 1))), .one (.d (.sl (.st 1)))], [], [.one (.d .bool)], [], Bool, fun y => (y, ()), fun y => y.1, fun _ => rfl, fun n x => slices_Equal_Row n x.1 x.2.1⟩
theorem slices_Equal_Row_ok : OkC Try.prog tab slices_Equal_Row_ct := fn_ok (W := ⟨Try.prog, tab, tyOf, []⟩) ⟨tabOk, trivial⟩ (by kernel_rfl) 26 Try.f26 (.sq (.n) (.sq (.n) (.sq (.sq (.n) (.bk none (.lp ⟨[(0, .one (.d (.sl (.st 1)))), (1, .one (.d (.sl (.st 1)))), (12, .one (.d (.int .i64))), (13, .one (.d (.int .i64)))], [], []⟩ (.n)))) (.n)))) Try.func26 Try.call26 rfl (by kernel_rfl) (by kernel_rfl) (by kernel_rfl) fun n x => by kernel_rfl

/-! bursary codec.Same -/
def codec_Same (n : Nat) (p0 : Content) (p1 : Content) : Option Bool :=
  jn (fun (b1 : Bool) =>
      jn (fun (b3 : Bool) =>
          some b3) fun k4 =>
      cond b1
        ((slices_Equal_Kid n p0.kids p1.kids).bind fun y5 =>
        k4 y5)
        (k4 false)) fun k2 =>
  cond (p0.kind == p1.kind)
    ((slices_Equal_Row n p0.rows p1.rows).bind fun y6 =>
    k2 y6)
    (k2 false)
@[reducible] def codec_Same_ct : Ct tab := ⟨13, [.st 3, .st 3], [], [.one (.d .bool)], [], Bool, fun y => (y, ()), fun y => y.1, fun _ => rfl, fun n x => codec_Same n x.1 x.2.1⟩
theorem codec_Same_ok : OkC Try.prog tab codec_Same_ct := fn_ok (W := ⟨Try.prog, tab, tyOf, [slices_Equal_Kid_ct, slices_Equal_Row_ct]⟩) ⟨tabOk, ⟨slices_Equal_Kid_ok, slices_Equal_Row_ok, trivial⟩⟩ (by kernel_rfl) 24 Try.f13 (.n) Try.func13 Try.call13 rfl (by kernel_rfl) (by kernel_rfl) (by kernel_rfl) fun n x => by kernel_rfl

/-! bursary bursarylaw11.PageBack -/
def law11_PageBack (n : Nat) (p0 : Content) : Option Bool :=
  (law11_wakes n).bind fun y1 =>
  cond (!y1)
    (some false)
    ((law11_over n ([p0] : List Content)).bind fun y2 =>
    cond y2
      (some true)
      ((page_Split n p0).bind fun y3 =>
      cond (y3.2.2.2 != 0)
        ((page_Full n p0).bind fun y4 =>
        some (!y4))
        ((page_Join n y3.1 y3.2.1 y3.2.2.1).bind fun y5 =>
        jn (fun (b6 : Bool) =>
            jn (fun (b8 : Bool) =>
                jn (fun (b10 : Bool) =>
                    jn (fun (b12 : Bool) =>
                        jn (fun (b14 : Bool) =>
                            some b14) fun k15 =>
                        cond b12
                          ((page_Small n y3.2.1).bind fun y16 =>
                          k15 y16)
                          (k15 false)) fun k13 =>
                    cond b10
                      ((page_Small n y3.1).bind fun y17 =>
                      k13 y17)
                      (k13 false)) fun k11 =>
                cond b8
                  ((page_Size n y3.2.1).bind fun y18 =>
                  k11 (y18 == 2))
                  (k11 false)) fun k9 =>
            cond b6
              ((page_Size n y3.1).bind fun y19 =>
              k9 (y19 == 2))
              (k9 false)) fun k7 =>
        cond (y5.2 == 0)
          ((codec_Same n y5.1 p0).bind fun y20 =>
          k7 y20)
          (k7 false))))
@[reducible] def law11_PageBack_ct : Ct tab := ⟨3, [.st 3], [], [.one (.d .bool)], [], Bool, fun y => (y, ()), fun y => y.1, fun _ => rfl, fun n x => law11_PageBack n x.1⟩
theorem law11_PageBack_ok : OkC Try.prog tab law11_PageBack_ct := fn_ok (W := ⟨Try.prog, tab, tyOf, [law11_wakes_ct, law11_over_ct, page_Split_ct, page_Full_ct, page_Join_ct, page_Small_ct, page_Size_ct, codec_Same_ct]⟩) ⟨tabOk, ⟨law11_wakes_ok, law11_over_ok, page_Split_ok, page_Full_ok, page_Join_ok, page_Small_ok, page_Size_ok, codec_Same_ok, trivial⟩⟩ (by kernel_rfl) 58 Try.f3 (.n) Try.func3 Try.call3 rfl (by kernel_rfl) (by kernel_rfl) (by kernel_rfl) fun n x => by kernel_rfl

/-! bursary page.Level 1 -/
def page_Level_1 (n : Nat) (p0 : Int) : Option (Content × Content × Key × Int) :=
  some ((Content.mk 0 ([] : List Row) ([] : List Kid)), (Content.mk 0 ([] : List Row) ([] : List Kid)), (Key.mk 0 0), p0)
@[reducible] def page_Level_1_ct : Ct tab := ⟨51, [.one (.d (.int .i64))], [], [.st 3, .st 3, .st 0, .one (.d (.int .i64))], [], (Content × Content × Key × Int), fun y => (y.1, y.2.1, y.2.2.1, y.2.2.2, ()), fun y => (y.1, y.2.1, y.2.2.1, y.2.2.2.1), fun _ => rfl, fun n x => page_Level_1 n x.1⟩
theorem page_Level_1_ok : OkC Try.prog tab page_Level_1_ct := fn_ok (W := ⟨Try.prog, tab, tyOf, []⟩) ⟨tabOk, trivial⟩ (by kernel_rfl) 10 Try.f51 (.n) Try.func51 Try.call51 rfl (by kernel_rfl) (by kernel_rfl) (by kernel_rfl) fun n x => by kernel_rfl

/-! bursary page.rises -/
def page_rises_l2 (n : Nat) : Nat → (List Kid) × Int × Int × Content × (List (Int × Bool)) × Unit → Option Bool := loopF fun r2 ⟨v6, v7, v8, v9, v10, _⟩ =>
    cond (decide (v8 < v7))
      ((idx v6 v8).bind fun x11 =>
      (mlook .i64 false v10 x11.page).bind fun w12 =>
      jn (fun (b13 : Bool) =>
          cond b13
            (some false)
            ((mput .i64 v10 x11.page true).bind fun l15 =>
            r2 (v6, v7, (IntKind.wrap .i64 (v8 + 1)), v9, l15, ()))) fun k14 =>
      cond w12
        (k14 true)
        (jn (fun (b16 : Bool) =>
            k14 b16) fun k17 =>
        cond (decide (v8 > 0))
          ((idx v9.kids (IntKind.wrap .i64 (v8 - 1))).bind fun x18 =>
          (row_Compare n x18.least x11.least).bind fun y19 =>
          k17 (decide (y19 ≥ 0)))
          (k17 false)))
      (some true)
def page_rises_l1 (n : Nat) : Nat → Int × Content × Unit → Option Bool := loopF fun r1 ⟨v1, v2, _⟩ =>
    cond (decide (v1 < (v2.rows.length : Int)))
      ((idx v2.rows (IntKind.wrap .i64 (v1 - 1))).bind fun x3 =>
      (idx v2.rows v1).bind fun x4 =>
      (row_Compare n x3.key x4.key).bind fun y5 =>
      cond (decide (y5 ≥ 0))
        (some false)
        (r1 ((IntKind.wrap .i64 (v1 + 1)), v2, ())))
      (page_rises_l2 n n (v2.kids, (v2.kids.length : Int), 0, v2, ([] : List (Int × Bool)), ()))
def page_rises (n : Nat) (p0 : Content) : Option Bool :=
  page_rises_l1 n n (1, p0, ())
@[reducible] def page_rises_ct : Ct tab := ⟨53, [.st 3], [], [.one (.d .bool)], [], Bool, fun y => (y, ()), fun y => y.1, fun _ => rfl, fun n x => page_rises n x.1⟩
theorem page_rises_ok : OkC Try.prog tab page_rises_ct := fn_ok (W := ⟨Try.prog, tab, tyOf, [row_Compare_ct]⟩) ⟨tabOk, ⟨row_Compare_ok, trivial⟩⟩ (by kernel_rfl) 63 Try.f53 (.sq (.n) (.sq (.sq (.n) (.bk none (.lp ⟨[(1, .one (.box 0 0)), (3, .one (.d (.int .i64)))], [.bst 3], []⟩ (.n)))) (.sq (.n) (.sq (.sq (.n) (.bk none (.lp ⟨[(1, .one (.box 0 0)), (4, .one (.map 1)), (31, .one (.d (.sl (.st 2)))), (32, .one (.d (.int .i64))), (33, .one (.d (.int .i64)))], [.bst 3, .map .i64 3 4 .bool], []⟩ (.n)))) (.n))))) Try.func53 Try.call53 rfl (by kernel_rfl) (by kernel_rfl) (by kernel_rfl) fun n x => by kernel_rfl

/-! bursary page.Level -/
def page_Level_j2 (n : Nat) : Key × Content × Content × Key × Content × Content × Content × Unit → Option (Content × Content × Key × Int) := fun ⟨v18, v19, v20, v21, v22, v23, v24, _⟩ =>
    (page_comes n ([v23, v24] : List Content)).bind fun y25 =>
    jn (fun (b26 : Bool) =>
        cond b26
          ((page_Level_1 n 2).bind fun y28 =>
          some (y28.1, y28.2.1, y28.2.2.1, y28.2.2.2))
          (some (v23, v24, v18, 0))) fun k27 =>
    cond (y25 != 0)
      (k27 true)
      ((page_rises n v22).bind fun y29 =>
      k27 (!y29))
def page_Level_j1 (n : Nat) : Int × Content × Content × Key × Content × Content × Key × Unit → Option (Content × Content × Key × Int) := fun ⟨v10, v11, v12, v13, v14, v15, v16, _⟩ =>
    (page_joined n v11 v12 v13).bind fun y17 =>
    jn (page_Level_j2 n) fun j2 =>
    cond (v11.kind == 1)
      ((page_cut_Row n y17.rows v10).bind fun y30 =>
      cond ((y30.2.length : Int) == 0)
        ((page_Level_1 n 2).bind fun y31 =>
        some (y31.1, y31.2.1, y31.2.2.1, y31.2.2.2))
        ((page_leaf n y30.1).bind fun y32 =>
        (page_leaf n y30.2).bind fun y33 =>
        (idx y30.2 0).bind fun x34 =>
        j2 (x34.key, v14, v15, v16, y17, y32, y33, ())))
      ((page_cut_Kid n y17.kids v10).bind fun y35 =>
      (page_first n (Key.mk 0 0) y35.2).bind fun y36 =>
      (page_inner n y35.1).bind fun y37 =>
      (page_inner n y36.2).bind fun y38 =>
      j2 (y36.1, v14, v15, v16, y17, y37, y38, ()))
def page_Level (n : Nat) (p0 : Content) (p1 : Content) (p2 : Key) : Option (Content × Content × Key × Int) :=
  (page_asked n 0 ([p0, p1] : List Content)).bind fun y1 =>
  cond (y1 != 0)
    ((page_Level_1 n y1).bind fun y2 =>
    some (y2.1, y2.2.1, y2.2.2.1, y2.2.2.2))
    ((page_alike n p0 p1).bind fun y3 =>
    jn (fun (b4 : Bool) =>
        cond b4
          ((page_Level_1 n 2).bind fun y6 =>
          some (y6.1, y6.2.1, y6.2.2.1, y6.2.2.2))
          ((page_size n p0).bind fun y7 =>
          (page_size n p0).bind fun y8 =>
          (page_size n p1).bind fun y9 =>
          jn (page_Level_j1 n) fun j1 =>
          cond (decide (y8 > y9))
            ((page_size n p0).bind fun y39 =>
            j1 ((IntKind.wrap .i64 (y39 - 1)), p0, p1, p2, (Content.mk 0 ([] : List Row) ([] : List Kid)), (Content.mk 0 ([] : List Row) ([] : List Kid)), (Key.mk 0 0), ()))
            (j1 ((IntKind.wrap .i64 (y7 + 1)), p0, p1, p2, (Content.mk 0 ([] : List Row) ([] : List Kid)), (Content.mk 0 ([] : List Row) ([] : List Kid)), (Key.mk 0 0), ())))) fun k5 =>
    cond (!y3)
      (k5 true)
      ((page_size n p0).bind fun y40 =>
      (page_size n p1).bind fun y41 =>
      k5 (y40 == y41)))
@[reducible] def page_Level_ct : Ct tab := ⟨16, [.st 3, .st 3, .st 0], [], [.st 3, .st 3, .st 0, .one (.d (.int .i64))], [], (Content × Content × Key × Int), fun y => (y.1, y.2.1, y.2.2.1, y.2.2.2, ()), fun y => (y.1, y.2.1, y.2.2.1, y.2.2.2.1), fun _ => rfl, fun n x => page_Level n x.1 x.2.1 x.2.2.1⟩
theorem page_Level_ok : OkC Try.prog tab page_Level_ct := fn_ok (W := ⟨Try.prog, tab, tyOf, [page_asked_ct, page_Level_1_ct, page_alike_ct, page_size_ct, page_joined_ct, page_comes_ct, page_rises_ct, page_cut_Row_ct, page_leaf_ct, page_cut_Kid_ct, page_first_ct, page_inner_ct]⟩) ⟨tabOk, ⟨page_asked_ok, page_Level_1_ok, page_alike_ok, page_size_ok, page_joined_ok, page_comes_ok, page_rises_ok, page_cut_Row_ok, page_leaf_ok, page_cut_Kid_ok, page_first_ok, page_inner_ok, trivial⟩⟩ (by kernel_rfl) 127 Try.f16 (.sq (.n) (.sq (.n) (.sq (.n) (.sq (.n) (.sq (.n) (.sq (.sq (.n) (.cd (some ⟨[(3, .one (.box 0 0)), (4, .one (.box 1 0)), (5, .one (.box 2 0)), (6, .one (.box 3 0)), (7, .one (.box 4 0)), (8, .one (.box 5 0)), (10, .one (.fn 51 [])), (12, .one (.d (.int .i64)))], [.bst 3, .bst 3, .bst 0, .bst 3, .bst 3, .bst 0], []⟩) (.n) (.n))) (.sq (.n) (.sq (.n) (.sq (.sq (.n) (.cd (some ⟨[(5, .one (.box 0 0)), (6, .one (.box 1 0)), (7, .one (.box 2 0)), (8, .one (.box 3 0)), (10, .one (.fn 51 [])), (13, .one (.box 4 0)), (14, .one (.box 5 0)), (15, .one (.box 6 0))], [.bst 0, .bst 3, .bst 3, .bst 0, .bst 3, .bst 3, .bst 3], []⟩) (.sq (.n) (.sq (.n) (.rg [74, 75]))) (.n))) (.n)))))))))) Try.func16 Try.call16 rfl (by kernel_rfl) (by kernel_rfl) (by kernel_rfl) fun n x => by kernel_rfl

/-! bursary bursaryref06.table -/
def ref06_table (n : Nat) (p0 : Int) : Option Bool :=
  jn (fun (b1 : Bool) =>
      some b1) fun k2 =>
  cond (decide (p0 ≥ 0))
    (k2 (decide (p0 < 3)))
    (k2 false)
@[reducible] def ref06_table_ct : Ct tab := ⟨69, [.one (.d (.int .i64))], [], [.one (.d .bool)], [], Bool, fun y => (y, ()), fun y => y.1, fun _ => rfl, fun n x => ref06_table n x.1⟩
theorem ref06_table_ok : OkC Try.prog tab ref06_table_ct := fn_ok (W := ⟨Try.prog, tab, tyOf, []⟩) ⟨tabOk, trivial⟩ (by kernel_rfl) 9 Try.f69 (.n) Try.func69 Try.call69 rfl (by kernel_rfl) (by kernel_rfl) (by kernel_rfl) fun n x => by kernel_rfl

/-! bursary bursaryref06.RightRow -/
def ref06_RightRow (n : Nat) (p0 : Row) : Option Bool :=
  (ref06_table n p0.key.table).bind fun y1 =>
  jn (fun (b2 : Bool) =>
      some b2) fun k3 =>
  cond y1
    (k3 (decide ((p0.note.size : Int) ≤ 8)))
    (k3 false)
@[reducible] def ref06_RightRow_ct : Ct tab := ⟨33, [.st 1], [], [.one (.d .bool)], [], Bool, fun y => (y, ()), fun y => y.1, fun _ => rfl, fun n x => ref06_RightRow n x.1⟩
theorem ref06_RightRow_ok : OkC Try.prog tab ref06_RightRow_ct := fn_ok (W := ⟨Try.prog, tab, tyOf, [ref06_table_ct]⟩) ⟨tabOk, ⟨ref06_table_ok, trivial⟩⟩ (by kernel_rfl) 13 Try.f33 (.n) Try.func33 Try.call33 rfl (by kernel_rfl) (by kernel_rfl) (by kernel_rfl) fun n x => by kernel_rfl

/-! bursary bursaryref06.order -/
def ref06_order (n : Nat) (p0 : Key) : Option Int :=
  some (IntKind.wrap .i64 ((IntKind.wrap .i64 (p0.table * 65536)) + (IntKind.wrap .i64 p0.id)))
@[reducible] def ref06_order_ct : Ct tab := ⟨73, [.st 0], [], [.one (.d (.int .i64))], [], Int, fun y => (y, ()), fun y => y.1, fun _ => rfl, fun n x => ref06_order n x.1⟩
theorem ref06_order_ok : OkC Try.prog tab ref06_order_ct := fn_ok (W := ⟨Try.prog, tab, tyOf, []⟩) ⟨tabOk, trivial⟩ (by kernel_rfl) 10 Try.f73 (.n) Try.func73 Try.call73 rfl (by kernel_rfl) (by kernel_rfl) (by kernel_rfl) fun n x => by kernel_rfl

/-! bursary bursaryref06.rows -/
def ref06_rows_l1 (n : Nat) : Nat → (List Row) × (List Row) × Int × Int × Unit → Option Bool := loopF fun r1 ⟨v1, v2, v3, v4, _⟩ =>
    cond (decide (v4 < v3))
      ((idx v2 v4).bind fun x5 =>
      (ref06_RightRow n x5).bind fun y6 =>
      jn (fun (b7 : Bool) =>
          cond b7
            (some false)
            (r1 (v1, v2, v3, (IntKind.wrap .i64 (v4 + 1)), ()))) fun k8 =>
      cond (!y6)
        (k8 true)
        (jn (fun (b9 : Bool) =>
            k8 b9) fun k10 =>
        cond (decide (v4 > 0))
          ((idx v1 (IntKind.wrap .i64 (v4 - 1))).bind fun x11 =>
          (ref06_order n x11.key).bind fun y12 =>
          (ref06_order n x5.key).bind fun y13 =>
          k10 (decide (y12 ≥ y13)))
          (k10 false)))
      (some (decide ((v1.length : Int) ≤ 4)))
def ref06_rows (n : Nat) (p0 : List Row) : Option Bool :=
  ref06_rows_l1 n n (p0, p0, (p0.length : Int), 0, ())
@[reducible] def ref06_rows_ct : Ct tab := ⟨54, [.one (.d (.sl (.st 1)))], [], [.one (.d .bool)], [], Bool, fun y => (y, ()), fun y => y.1, fun _ => rfl, fun n x => ref06_rows n x.1⟩
theorem ref06_rows_ok : OkC Try.prog tab ref06_rows_ct := fn_ok (W := ⟨Try.prog, tab, tyOf, [ref06_RightRow_ct, ref06_order_ct]⟩) ⟨tabOk, ⟨ref06_RightRow_ok, ref06_order_ok, trivial⟩⟩ (by kernel_rfl) 36 Try.f54 (.sq (.n) (.sq (.sq (.n) (.bk none (.lp ⟨[(0, .one (.d (.sl (.st 1)))), (5, .one (.d (.sl (.st 1)))), (6, .one (.d (.int .i64))), (7, .one (.d (.int .i64)))], [], []⟩ (.n)))) (.n))) Try.func54 Try.call54 rfl (by kernel_rfl) (by kernel_rfl) (by kernel_rfl) fun n x => by kernel_rfl

/-! bursary bursaryref06.kids -/
def ref06_kids_l2 (n : Nat) (r1 : (List Kid) × (List Kid) × Int × Int × Unit → Option Bool) : Nat → (List Kid) × (List Kid) × Int × Int × (List Kid) × Int × Int × Kid × Unit → Option Bool := loopF fun r2 ⟨v15, v16, v17, v18, v19, v20, v21, v22, _⟩ =>
    cond (decide (v21 < v20))
      ((idx v19 v21).bind fun x23 =>
      cond (x23.page == v22.page)
        (some false)
        (r2 (v15, v16, v17, v18, v19, v20, (IntKind.wrap .i64 (v21 + 1)), v22, ())))
      (r1 (v15, v16, v17, (IntKind.wrap .i64 (v18 + 1)), ()))
def ref06_kids_l1 (n : Nat) : Nat → (List Kid) × (List Kid) × Int × Int × Unit → Option Bool := loopF fun r1 ⟨v1, v2, v3, v4, _⟩ =>
    cond (decide (v4 < v3))
      ((idx v2 v4).bind fun x5 =>
      jn (fun (b6 : Bool) =>
          jn (fun (b8 : Bool) =>
              jn (fun (b10 : Bool) =>
                  jn (fun (b12 : Bool) =>
                      cond b12
                        (some false)
                        ((sub v1 0 v4).bind fun l14 =>
                        ref06_kids_l2 n r1 n (v1, v2, v3, v4, l14, (l14.length : Int), 0, x5, ()))) fun k13 =>
                  cond b10
                    (k13 true)
                    (jn (fun (b24 : Bool) =>
                        k13 b24) fun k25 =>
                    cond (decide (v4 > 0))
                      ((idx v1 (IntKind.wrap .i64 (v4 - 1))).bind fun x26 =>
                      (ref06_order n x26.least).bind fun y27 =>
                      (ref06_order n x5.least).bind fun y28 =>
                      k25 (decide (y27 ≥ y28)))
                      (k25 false))) fun k11 =>
              cond b8
                (k11 true)
                (jn (fun (b29 : Bool) =>
                    k11 b29) fun k30 =>
                cond (v4 == 0)
                  (k30 (!(Key.eqb x5.least (Key.mk 0 0))))
                  (k30 false))) fun k9 =>
          cond b6
            (k9 true)
            ((ref06_table n x5.least.table).bind fun y31 =>
            k9 (!y31))) fun k7 =>
      cond (decide (x5.page < 1))
        (k7 true)
        (k7 (decide (x5.page ≥ 64))))
      (jn (fun (b32 : Bool) =>
          some b32) fun k33 =>
      cond (decide ((v1.length : Int) ≥ 2))
        (k33 (decide ((v1.length : Int) ≤ 4)))
        (k33 false))
def ref06_kids (n : Nat) (p0 : List Kid) : Option Bool :=
  ref06_kids_l1 n n (p0, p0, (p0.length : Int), 0, ())
@[reducible] def ref06_kids_ct : Ct tab := ⟨55, [.one (.d (.sl (.st 2)))], [], [.one (.d .bool)], [], Bool, fun y => (y, ()), fun y => y.1, fun _ => rfl, fun n x => ref06_kids n x.1⟩
theorem ref06_kids_ok : OkC Try.prog tab ref06_kids_ct := fn_ok (W := ⟨Try.prog, tab, tyOf, [ref06_order_ct, ref06_table_ct]⟩) ⟨tabOk, ⟨ref06_order_ok, ref06_table_ok, trivial⟩⟩ (by kernel_rfl) 79 Try.f55 (.sq (.n) (.sq (.sq (.n) (.bk none (.lp ⟨[(0, .one (.d (.sl (.st 2)))), (7, .one (.d (.sl (.st 2)))), (8, .one (.d (.int .i64))), (9, .one (.d (.int .i64)))], [], []⟩ (.sq (.n) (.sq (.n) (.sq (.bk none (.sq (.n) (.sq (.n) (.sq (.n) (.bk none (.lp ⟨[(0, .one (.d (.sl (.st 2)))), (4, .one (.box 0 0)), (7, .one (.d (.sl (.st 2)))), (8, .one (.d (.int .i64))), (9, .one (.d (.int .i64))), (58, .one (.d (.sl (.st 2)))), (59, .one (.d (.int .i64))), (60, .one (.d (.int .i64)))], [.bst 2], []⟩ (.n))))))) (.n))))))) (.n))) Try.func55 Try.call55 rfl (by kernel_rfl) (by kernel_rfl) (by kernel_rfl) fun n x => by kernel_rfl

/-! bursary bursaryref06.Right -/
def ref06_Right (n : Nat) (p0 : Content) : Option Bool :=
  cond (p0.kind == 0)
    (jn (fun (b1 : Bool) =>
        some b1) fun k2 =>
    cond ((p0.rows.length : Int) == 0)
      (k2 ((p0.kids.length : Int) == 0))
      (k2 false))
    (cond (p0.kind == 1)
      (jn (fun (b3 : Bool) =>
          some b3) fun k4 =>
      cond ((p0.kids.length : Int) == 0)
        ((ref06_rows n p0.rows).bind fun y5 =>
        k4 y5)
        (k4 false))
      (cond (p0.kind == 2)
        (jn (fun (b6 : Bool) =>
            some b6) fun k7 =>
        cond ((p0.rows.length : Int) == 0)
          ((ref06_kids n p0.kids).bind fun y8 =>
          k7 y8)
          (k7 false))
        (some false)))
@[reducible] def ref06_Right_ct : Ct tab := ⟨17, [.st 3], [], [.one (.d .bool)], [], Bool, fun y => (y, ()), fun y => y.1, fun _ => rfl, fun n x => ref06_Right n x.1⟩
theorem ref06_Right_ok : OkC Try.prog tab ref06_Right_ct := fn_ok (W := ⟨Try.prog, tab, tyOf, [ref06_rows_ct, ref06_kids_ct]⟩) ⟨tabOk, ⟨ref06_rows_ok, ref06_kids_ok, trivial⟩⟩ (by kernel_rfl) 39 Try.f17 (.n) Try.func17 Try.call17 rfl (by kernel_rfl) (by kernel_rfl) (by kernel_rfl) fun n x => by kernel_rfl

/-! bursary bursaryref06.Same -/
def ref06_Same_l2 (n : Nat) : Nat → Int × Int × Content × Content × Unit → Option Bool := loopF fun r2 ⟨v11, v12, v13, v14, _⟩ =>
    cond (decide (v12 < v11))
      ((idx v13.kids v12).bind fun x15 =>
      (idx v14.kids v12).bind fun x16 =>
      cond (!(Kid.eqb x15 x16))
        (some false)
        (r2 (v11, (IntKind.wrap .i64 (v12 + 1)), v13, v14, ())))
      (some true)
def ref06_Same_l1 (n : Nat) : Nat → Int × Int × Content × Content × Unit → Option Bool := loopF fun r1 ⟨v5, v6, v7, v8, _⟩ =>
    cond (decide (v6 < v5))
      ((idx v7.rows v6).bind fun x9 =>
      (idx v8.rows v6).bind fun x10 =>
      cond (!(Row.eqb x9 x10))
        (some false)
        (r1 (v5, (IntKind.wrap .i64 (v6 + 1)), v7, v8, ())))
      (ref06_Same_l2 n n ((v7.kids.length : Int), 0, v7, v8, ()))
def ref06_Same (n : Nat) (p0 : Content) (p1 : Content) : Option Bool :=
  jn (fun (b1 : Bool) =>
      jn (fun (b3 : Bool) =>
          cond b3
            (some false)
            (ref06_Same_l1 n n ((p0.rows.length : Int), 0, p0, p1, ()))) fun k4 =>
      cond b1
        (k4 true)
        (k4 ((p0.kids.length : Int) != (p1.kids.length : Int)))) fun k2 =>
  cond (p0.kind != p1.kind)
    (k2 true)
    (k2 ((p0.rows.length : Int) != (p1.rows.length : Int)))
@[reducible] def ref06_Same_ct : Ct tab := ⟨56, [.st 3, .st 3], [], [.one (.d .bool)], [], Bool, fun y => (y, ()), fun y => y.1, fun _ => rfl, fun n x => ref06_Same n x.1 x.2.1⟩
theorem ref06_Same_ok : OkC Try.prog tab ref06_Same_ct := fn_ok (W := ⟨Try.prog, tab, tyOf, []⟩) ⟨tabOk, trivial⟩ (by kernel_rfl) 66 Try.f56 (.sq (.n) (.sq (.n) (.sq (.sq (.n) (.bk none (.lp ⟨[(2, .one (.box 0 0)), (3, .one (.box 1 0)), (32, .one (.d (.int .i64))), (33, .one (.d (.int .i64)))], [.bst 3, .bst 3], []⟩ (.n)))) (.sq (.sq (.n) (.bk none (.lp ⟨[(2, .one (.box 0 0)), (3, .one (.box 1 0)), (50, .one (.d (.int .i64))), (51, .one (.d (.int .i64)))], [.bst 3, .bst 3], []⟩ (.n)))) (.n))))) Try.func56 Try.call56 rfl (by kernel_rfl) (by kernel_rfl) (by kernel_rfl) fun n x => by kernel_rfl

/-! bursary bursarylaw11.same -/
def law11_same (n : Nat) (p0 : Content) (p1 : Content) : Option Bool :=
  (ref06_Same n p0 p1).bind fun y1 =>
  some y1
@[reducible] def law11_same_ct : Ct tab := ⟨21, [.st 3, .st 3], [], [.one (.d .bool)], [], Bool, fun y => (y, ()), fun y => y.1, fun _ => rfl, fun n x => law11_same n x.1 x.2.1⟩
theorem law11_same_ok : OkC Try.prog tab law11_same_ct := fn_ok (W := ⟨Try.prog, tab, tyOf, [ref06_Same_ct]⟩) ⟨tabOk, ⟨ref06_Same_ok, trivial⟩⟩ (by kernel_rfl) 8 Try.f21 (.n) Try.func21 Try.call21 rfl (by kernel_rfl) (by kernel_rfl) (by kernel_rfl) fun n x => by kernel_rfl

/-! bursary bursarylaw11.none -/
def law11_none_l1 (n : Nat) : Nat → (List Content) × Int × Int × Unit → Option Bool := loopF fun r1 ⟨v1, v2, v3, _⟩ =>
    cond (decide (v3 < v2))
      ((idx v1 v3).bind fun x4 =>
      (law11_same n x4 (Content.mk 0 ([] : List Row) ([] : List Kid))).bind fun y5 =>
      cond (!y5)
        (some false)
        (r1 (v1, v2, (IntKind.wrap .i64 (v3 + 1)), ())))
      (some true)
def law11_none (n : Nat) (p0 : List Content) : Option Bool :=
  law11_none_l1 n n (p0, (p0.length : Int), 0, ())
@[reducible] def law11_none_ct : Ct tab := ⟨18, [.one (.d (.sl (.st 3)))], [], [.one (.d .bool)], [], Bool, fun y => (y, ()), fun y => y.1, fun _ => rfl, fun n x => law11_none n x.1⟩
theorem law11_none_ok : OkC Try.prog tab law11_none_ct := fn_ok (W := ⟨Try.prog, tab, tyOf, [law11_same_ct]⟩) ⟨tabOk, ⟨law11_same_ok, trivial⟩⟩ (by kernel_rfl) 16 Try.f18 (.sq (.n) (.sq (.sq (.n) (.bk none (.lp ⟨[(5, .one (.d (.sl (.st 3)))), (6, .one (.d (.int .i64))), (7, .one (.d (.int .i64)))], [], []⟩ (.n)))) (.n))) Try.func18 Try.call18 rfl (by kernel_rfl) (by kernel_rfl) (by kernel_rfl) fun n x => by kernel_rfl

/-! bursary bursaryref11.Size -/
def ref11_Size (n : Nat) (p0 : Content) : Option Int :=
  some (IntKind.wrap .i64 ((p0.rows.length : Int) + (p0.kids.length : Int)))
@[reducible] def ref11_Size_ct : Ct tab := ⟨23, [.st 3], [], [.one (.d (.int .i64))], [], Int, fun y => (y, ()), fun y => y.1, fun _ => rfl, fun n x => ref11_Size n x.1⟩
theorem ref11_Size_ok : OkC Try.prog tab ref11_Size_ct := fn_ok (W := ⟨Try.prog, tab, tyOf, []⟩) ⟨tabOk, trivial⟩ (by kernel_rfl) 10 Try.f23 (.n) Try.func23 Try.call23 rfl (by kernel_rfl) (by kernel_rfl) (by kernel_rfl) fun n x => by kernel_rfl

/-! bursary bursaryref11.Full -/
def ref11_Full (n : Nat) (p0 : Content) : Option Bool :=
  jn (fun (b1 : Bool) =>
      some b1) fun k2 =>
  cond (p0.kind != 0)
    ((ref11_Size n p0).bind fun y3 =>
    k2 (y3 == 4))
    (k2 false)
@[reducible] def ref11_Full_ct : Ct tab := ⟨19, [.st 3], [], [.one (.d .bool)], [], Bool, fun y => (y, ()), fun y => y.1, fun _ => rfl, fun n x => ref11_Full n x.1⟩
theorem ref11_Full_ok : OkC Try.prog tab ref11_Full_ct := fn_ok (W := ⟨Try.prog, tab, tyOf, [ref11_Size_ct]⟩) ⟨tabOk, ⟨ref11_Size_ok, trivial⟩⟩ (by kernel_rfl) 11 Try.f19 (.n) Try.func19 Try.call19 rfl (by kernel_rfl) (by kernel_rfl) (by kernel_rfl) fun n x => by kernel_rfl

/-! bursary bursaryref11.Cut -/
def ref11_Cut_j2 (n : Nat) (r1 : Int × Int × Content × Content × Content × Key × Int × Int × (List Row) × (List Kid) × (List Row) × (List Kid) × Unit → Option (Content × Content × Key)) : Int × Int × Content × Content × Content × Key × Int × Int × (List Row) × (List Kid) × (List Row) × (List Kid) × Unit → Option (Content × Content × Key) := fun ⟨v13, v14, v15, v16, v17, v18, v19, v20, v21, v22, v23, v24, _⟩ =>
    r1 (v13, (IntKind.wrap .i64 (v14 + 1)), v15, v16, v17, v18, v19, v20, v21, v22, v23, v24, ())
def ref11_Cut_j4 (n : Nat) (r3 : Int × Int × Content × Content × Content × Key × Int × Int × (List Row) × (List Kid) × (List Row) × (List Kid) × Unit → Option (Content × Content × Key)) : Int × Int × Content × Content × Content × Key × Int × Int × (List Row) × (List Kid) × (List Row) × (List Kid) × Unit → Option (Content × Content × Key) := fun ⟨v41, v42, v43, v44, v45, v46, v47, v48, v49, v50, v51, v52, _⟩ =>
    r3 (v41, (IntKind.wrap .i64 (v42 + 1)), v43, v44, v45, v46, v47, v48, v49, v50, v51, v52, ())
def ref11_Cut_j6 (n : Nat) : Content × Content × Key × Int × Int × Key × (List Row) × (List Kid) × (List Row) × (List Kid) × Unit → Option (Content × Content × Key) := fun ⟨v67, v68, v69, v70, v71, v72, v73, v74, v75, v76, _⟩ =>
    some ((Content.mk v70 v73 v74), (Content.mk v71 v75 v76), v72)
def ref11_Cut_j5 (n : Nat) : Content × Content × Key × Int × Int × Key × (List Row) × (List Kid) × (List Row) × (List Kid) × Unit → Option (Content × Content × Key) := fun ⟨v57, v58, v59, v60, v61, v62, v63, v64, v65, v66, _⟩ =>
    jn (ref11_Cut_j6 n) fun j6 =>
    cond (decide ((v66.length : Int) > 0))
      ((idx v66 0).bind fun x77 =>
      (idx v66 0).bind fun x78 =>
      (idx v66 0).bind fun x79 =>
      (idx v66 0).bind fun x80 =>
      (put v66 0 (Kid.mk (Key.mk 0 0) x80.page)).bind fun l81 =>
      j6 (v57, v58, v59, v60, v61, x78.least, v63, v64, v65, l81, ()))
      (j6 (v57, v58, v59, v60, v61, v62, v63, v64, v65, v66, ()))
def ref11_Cut_l3 (n : Nat) : Nat → Int × Int × Content × Content × Content × Key × Int × Int × (List Row) × (List Kid) × (List Row) × (List Kid) × Unit → Option (Content × Content × Key) := loopF fun r3 ⟨v29, v30, v31, v32, v33, v34, v35, v36, v37, v38, v39, v40, _⟩ =>
    cond (decide (v30 < (v31.kids.length : Int)))
      (jn (ref11_Cut_j4 n r3) fun j4 =>
      cond (decide (v30 < v29))
        ((idx v31.kids v30).bind fun x53 =>
        (app 24 v38 ([x53] : List Kid)).bind fun l54 =>
        j4 (v29, v30, v31, v32, v33, v34, v35, v36, v37, l54, v39, v40, ()))
        ((idx v31.kids v30).bind fun x55 =>
        (app 24 v40 ([x55] : List Kid)).bind fun l56 =>
        j4 (v29, v30, v31, v32, v33, v34, v35, v36, v37, v38, v39, l56, ())))
      (jn (ref11_Cut_j5 n) fun j5 =>
      cond (decide ((v39.length : Int) > 0))
        ((idx v39 0).bind fun x82 =>
        (idx v39 0).bind fun x83 =>
        j5 (v32, v33, v34, v35, v36, x83.key, v37, v38, v39, v40, ()))
        (j5 (v32, v33, v34, v35, v36, (Key.mk 0 0), v37, v38, v39, v40, ())))
def ref11_Cut_l1 (n : Nat) : Nat → Int × Int × Content × Content × Content × Key × Int × Int × (List Row) × (List Kid) × (List Row) × (List Kid) × Unit → Option (Content × Content × Key) := loopF fun r1 ⟨v1, v2, v3, v4, v5, v6, v7, v8, v9, v10, v11, v12, _⟩ =>
    cond (decide (v2 < (v3.rows.length : Int)))
      (jn (ref11_Cut_j2 n r1) fun j2 =>
      cond (decide (v2 < v1))
        ((idx v3.rows v2).bind fun x25 =>
        (app 40 v9 ([x25] : List Row)).bind fun l26 =>
        j2 (v1, v2, v3, v4, v5, v6, v7, v8, l26, v10, v11, v12, ()))
        ((idx v3.rows v2).bind fun x27 =>
        (app 40 v11 ([x27] : List Row)).bind fun l28 =>
        j2 (v1, v2, v3, v4, v5, v6, v7, v8, v9, v10, l28, v12, ())))
      (ref11_Cut_l3 n n (v1, 0, v3, v4, v5, v6, v7, v8, v9, v10, v11, v12, ()))
def ref11_Cut (n : Nat) (p0 : Content) (p1 : Int) : Option (Content × Content × Key) :=
  ref11_Cut_l1 n n (p1, 0, p0, (Content.mk 0 ([] : List Row) ([] : List Kid)), (Content.mk 0 ([] : List Row) ([] : List Kid)), (Key.mk 0 0), p0.kind, p0.kind, ([] : List Row), ([] : List Kid), ([] : List Row), ([] : List Kid), ())
@[reducible] def ref11_Cut_ct : Ct tab := ⟨20, [.st 3, .one (.d (.int .i64))], [], [.st 3, .st 3, .st 0], [], (Content × Content × Key), fun y => (y.1, y.2.1, y.2.2, ()), fun y => (y.1, y.2.1, y.2.2.1), fun _ => rfl, fun n x => ref11_Cut n x.1 x.2.1⟩
theorem ref11_Cut_ok : OkC Try.prog tab ref11_Cut_ct := fn_ok (W := ⟨Try.prog, tab, tyOf, []⟩) ⟨tabOk, trivial⟩ (by kernel_rfl) 104 Try.f20 (.sq (.n) (.sq (.n) (.sq (.n) (.sq (.n) (.sq (.sq (.n) (.bk none (.lp ⟨[(1, .one (.d (.int .i64))), (2, .one (.box 0 0)), (4, .one (.box 1 0)), (5, .one (.box 2 0)), (6, .one (.box 3 0)), (7, .one (.box 4 0)), (8, .one (.box 5 0)), (9, .one (.d (.int .i64)))], [.bst 3, .bst 3, .bst 3, .bst 0, .box [.d (.int .i64), .own 6, .own 7], .box [.d (.int .i64), .own 8, .own 9], .row 49 (.st 1), .row 54 (.st 2), .row 49 (.st 1), .row 54 (.st 2)], []⟩ (.sq (.n) (.sq (.bk none (.sq (.n) (.cd (some ⟨[(1, .one (.d (.int .i64))), (2, .one (.box 0 0)), (4, .one (.box 1 0)), (5, .one (.box 2 0)), (6, .one (.box 3 0)), (7, .one (.box 4 0)), (8, .one (.box 5 0)), (9, .one (.d (.int .i64)))], [.bst 3, .bst 3, .bst 3, .bst 0, .box [.d (.int .i64), .own 6, .own 7], .box [.d (.int .i64), .own 8, .own 9], .row 49 (.st 1), .row 54 (.st 2), .row 49 (.st 1), .row 54 (.st 2)], []⟩) (.n) (.n)))) (.n)))))) (.sq (.sq (.n) (.bk none (.lp ⟨[(1, .one (.d (.int .i64))), (2, .one (.box 0 0)), (4, .one (.box 1 0)), (5, .one (.box 2 0)), (6, .one (.box 3 0)), (7, .one (.box 4 0)), (8, .one (.box 5 0)), (10, .one (.d (.int .i64)))], [.bst 3, .bst 3, .bst 3, .bst 0, .box [.d (.int .i64), .own 6, .own 7], .box [.d (.int .i64), .own 8, .own 9], .row 49 (.st 1), .row 54 (.st 2), .row 49 (.st 1), .row 54 (.st 2)], []⟩ (.sq (.n) (.sq (.bk none (.sq (.n) (.cd (some ⟨[(1, .one (.d (.int .i64))), (2, .one (.box 0 0)), (4, .one (.box 1 0)), (5, .one (.box 2 0)), (6, .one (.box 3 0)), (7, .one (.box 4 0)), (8, .one (.box 5 0)), (10, .one (.d (.int .i64)))], [.bst 3, .bst 3, .bst 3, .bst 0, .box [.d (.int .i64), .own 6, .own 7], .box [.d (.int .i64), .own 8, .own 9], .row 49 (.st 1), .row 54 (.st 2), .row 49 (.st 1), .row 54 (.st 2)], []⟩) (.n) (.n)))) (.n)))))) (.sq (.n) (.sq (.sq (.n) (.cd (some ⟨[(4, .one (.box 0 0)), (5, .one (.box 1 0)), (6, .one (.box 2 0)), (7, .one (.box 3 0)), (8, .one (.box 4 0)), (11, .one (.box 5 0))], [.bst 3, .bst 3, .bst 0, .box [.d (.int .i64), .own 6, .own 7], .box [.d (.int .i64), .own 8, .own 9], .bst 0, .row 49 (.st 1), .row 54 (.st 2), .row 49 (.st 1), .row 54 (.st 2)], []⟩) (.n) (.n))) (.sq (.sq (.n) (.cd (some ⟨[(4, .one (.box 0 0)), (5, .one (.box 1 0)), (6, .one (.box 2 0)), (7, .one (.box 3 0)), (8, .one (.box 4 0)), (11, .one (.box 5 0))], [.bst 3, .bst 3, .bst 0, .box [.d (.int .i64), .own 6, .own 7], .box [.d (.int .i64), .own 8, .own 9], .bst 0, .row 49 (.st 1), .row 54 (.st 2), .row 49 (.st 1), .row 54 (.st 2)], []⟩) (.n) (.n))) (.n)))))))))) Try.func20 Try.call20 rfl (by kernel_rfl) (by kernel_rfl) (by kernel_rfl) fun n x => by kernel_rfl

/-! bursary bursaryref11.Both -/
def ref11_Both_j2 (n : Nat) (r1 : Int × Content × Key × Content × Int × (List Row) × (List Kid) × Unit → Option Content) : Int × Content × Key × Content × Int × Kid × (List Row) × (List Kid) × Unit → Option Content := fun ⟨v12, v13, v14, v15, v16, v17, v18, v19, _⟩ =>
    (app 24 v19 ([v17] : List Kid)).bind fun l20 =>
    r1 ((IntKind.wrap .i64 (v12 + 1)), v13, v14, v15, v16, v18, l20, ())
def ref11_Both_l1 (n : Nat) : Nat → Int × Content × Key × Content × Int × (List Row) × (List Kid) × Unit → Option Content := loopF fun r1 ⟨v4, v5, v6, v7, v8, v9, v10, _⟩ =>
    cond (decide (v4 < (v5.kids.length : Int)))
      ((idx v5.kids v4).bind fun x11 =>
      jn (ref11_Both_j2 n r1) fun j2 =>
      cond (v4 == 0)
        (j2 (v4, v5, v6, v7, v8, (Kid.mk v6 x11.page), v9, v10, ()))
        (j2 (v4, v5, v6, v7, v8, x11, v9, v10, ())))
      (some (Content.mk v8 v9 v10))
def ref11_Both (n : Nat) (p0 : Content) (p1 : Content) (p2 : Key) : Option Content :=
  (app 40 ([] : List Row) p0.rows).bind fun l1 =>
  (app 40 l1 p1.rows).bind fun l2 =>
  (app 24 ([] : List Kid) p0.kids).bind fun l3 =>
  ref11_Both_l1 n n (0, p1, p2, (Content.mk 0 ([] : List Row) ([] : List Kid)), p0.kind, l2, l3, ())
@[reducible] def ref11_Both_ct : Ct tab := ⟨22, [.st 3, .st 3, .st 0], [], [.st 3], [], Content, fun y => (y, ()), fun y => y.1, fun _ => rfl, fun n x => ref11_Both n x.1 x.2.1 x.2.2.1⟩
theorem ref11_Both_ok : OkC Try.prog tab ref11_Both_ct := fn_ok (W := ⟨Try.prog, tab, tyOf, []⟩) ⟨tabOk, trivial⟩ (by kernel_rfl) 51 Try.f22 (.sq (.n) (.sq (.n) (.sq (.n) (.sq (.n) (.sq (.sq (.n) (.bk none (.lp ⟨[(4, .one (.box 0 0)), (5, .one (.box 1 0)), (6, .one (.box 2 0)), (7, .one (.box 3 0)), (8, .one (.d (.int .i64)))], [.bst 3, .bst 0, .bst 3, .box [.d (.int .i64), .own 4, .own 5], .row 49 (.st 1), .row 54 (.st 2)], []⟩ (.sq (.n) (.sq (.bk none (.sq (.n) (.sq (.sq (.n) (.cd (some ⟨[(4, .one (.box 0 0)), (5, .one (.box 1 0)), (6, .one (.box 2 0)), (7, .one (.box 3 0)), (8, .one (.d (.int .i64))), (9, .one (.box 4 0))], [.bst 3, .bst 0, .bst 3, .box [.d (.int .i64), .own 5, .own 6], .bst 2, .row 49 (.st 1), .row 54 (.st 2)], []⟩) (.n) (.n))) (.n)))) (.n)))))) (.n)))))) Try.func22 Try.call22 rfl (by kernel_rfl) (by kernel_rfl) (by kernel_rfl) fun n x => by kernel_rfl

/-! bursary bursaryref05.Compare -/
def ref05_Compare (n : Nat) (p0 : Key) (p1 : Key) : Option Int :=
  cond (Key.eqb p0 p1)
    (some 0)
    (jn (fun (b1 : Bool) =>
        cond b1
          (some (-1))
          (some 1)) fun k2 =>
    cond (decide (p0.table < p1.table))
      (k2 true)
      (jn (fun (b3 : Bool) =>
          k2 b3) fun k4 =>
      cond (p0.table == p1.table)
        (k4 (decide (p0.id < p1.id)))
        (k4 false)))
@[reducible] def ref05_Compare_ct : Ct tab := ⟨74, [.st 0, .st 0], [], [.one (.d (.int .i64))], [], Int, fun y => (y, ()), fun y => y.1, fun _ => rfl, fun n x => ref05_Compare n x.1 x.2.1⟩
theorem ref05_Compare_ok : OkC Try.prog tab ref05_Compare_ct := fn_ok (W := ⟨Try.prog, tab, tyOf, []⟩) ⟨tabOk, trivial⟩ (by kernel_rfl) 27 Try.f74 (.n) Try.func74 Try.call74 rfl (by kernel_rfl) (by kernel_rfl) (by kernel_rfl) fun n x => by kernel_rfl

/-! bursary bursaryref11.Rises -/
def ref11_Rises_l3 (n : Nat) (r2 : Int × Content × Unit → Option Bool) : Nat → Int × Int × Content × Unit → Option Bool := loopF fun r3 ⟨v11, v12, v13, _⟩ =>
    cond (decide (v12 < v11))
      ((idx v13.kids v12).bind fun x14 =>
      (idx v13.kids v11).bind fun x15 =>
      cond (x14.page == x15.page)
        (some false)
        (r3 (v11, (IntKind.wrap .i64 (v12 + 1)), v13, ())))
      (r2 ((IntKind.wrap .i64 (v11 + 1)), v13, ()))
def ref11_Rises_l2 (n : Nat) : Nat → Int × Content × Unit → Option Bool := loopF fun r2 ⟨v6, v7, _⟩ =>
    cond (decide (v6 < (v7.kids.length : Int)))
      ((idx v7.kids (IntKind.wrap .i64 (v6 - 1))).bind fun x8 =>
      (idx v7.kids v6).bind fun x9 =>
      (ref05_Compare n x8.least x9.least).bind fun y10 =>
      cond (decide (y10 ≥ 0))
        (some false)
        (ref11_Rises_l3 n r2 n (v6, 0, v7, ())))
      (some true)
def ref11_Rises_l1 (n : Nat) : Nat → Int × Content × Unit → Option Bool := loopF fun r1 ⟨v1, v2, _⟩ =>
    cond (decide (v1 < (v2.rows.length : Int)))
      ((idx v2.rows (IntKind.wrap .i64 (v1 - 1))).bind fun x3 =>
      (idx v2.rows v1).bind fun x4 =>
      (ref05_Compare n x3.key x4.key).bind fun y5 =>
      cond (decide (y5 ≥ 0))
        (some false)
        (r1 ((IntKind.wrap .i64 (v1 + 1)), v2, ())))
      (ref11_Rises_l2 n n (1, v2, ()))
def ref11_Rises (n : Nat) (p0 : Content) : Option Bool :=
  ref11_Rises_l1 n n (1, p0, ())
@[reducible] def ref11_Rises_ct : Ct tab := ⟨57, [.st 3], [], [.one (.d .bool)], [], Bool, fun y => (y, ()), fun y => y.1, fun _ => rfl, fun n x => ref11_Rises n x.1⟩
theorem ref11_Rises_ok : OkC Try.prog tab ref11_Rises_ct := fn_ok (W := ⟨Try.prog, tab, tyOf, [ref05_Compare_ct]⟩) ⟨tabOk, ⟨ref05_Compare_ok, trivial⟩⟩ (by kernel_rfl) 68 Try.f57 (.sq (.n) (.sq (.sq (.n) (.bk none (.lp ⟨[(1, .one (.box 0 0)), (3, .one (.d (.int .i64)))], [.bst 3], []⟩ (.n)))) (.sq (.sq (.n) (.bk none (.lp ⟨[(1, .one (.box 0 0)), (4, .one (.d (.int .i64)))], [.bst 3], []⟩ (.sq (.n) (.sq (.bk none (.sq (.n) (.sq (.n) (.bk none (.lp ⟨[(1, .one (.box 0 0)), (4, .one (.d (.int .i64))), (5, .one (.d (.int .i64)))], [.bst 3], []⟩ (.n)))))) (.n)))))) (.n)))) Try.func57 Try.call57 rfl (by kernel_rfl) (by kernel_rfl) (by kernel_rfl) fun n x => by kernel_rfl

/-! bursary bursaryref11.Level -/
def ref11_Level_j1 (n : Nat) : Int × Content × Content × Key × Content × Content × Key × Unit → Option (Content × Content × Key × Bool) := fun ⟨v8, v9, v10, v11, v12, v13, v14, _⟩ =>
    (ref11_Both n v9 v10 v11).bind fun y15 =>
    (ref11_Cut n y15 v8).bind fun y16 =>
    (ref11_Size n y16.2.1).bind fun y17 =>
    jn (fun (b18 : Bool) =>
        jn (fun (b20 : Bool) =>
            jn (fun (b22 : Bool) =>
                cond b22
                  (some ((Content.mk 0 ([] : List Row) ([] : List Kid)), (Content.mk 0 ([] : List Row) ([] : List Kid)), (Key.mk 0 0), false))
                  (some (y16.1, y16.2.1, y16.2.2, true))) fun k23 =>
            cond b20
              (k23 true)
              ((ref06_Right n y16.2.1).bind fun y24 =>
              k23 (!y24))) fun k21 =>
        cond b18
          (k21 true)
          ((ref06_Right n y16.1).bind fun y25 =>
          k21 (!y25))) fun k19 =>
    cond (y17 == 0)
      (k19 true)
      ((ref11_Rises n y15).bind fun y26 =>
      k19 (!y26))
def ref11_Level (n : Nat) (p0 : Content) (p1 : Content) (p2 : Key) : Option (Content × Content × Key × Bool) :=
  jn (fun (b1 : Bool) =>
      jn (fun (b3 : Bool) =>
          cond b3
            (some ((Content.mk 0 ([] : List Row) ([] : List Kid)), (Content.mk 0 ([] : List Row) ([] : List Kid)), (Key.mk 0 0), false))
            ((ref11_Size n p0).bind fun y5 =>
            (ref11_Size n p0).bind fun y6 =>
            (ref11_Size n p1).bind fun y7 =>
            jn (ref11_Level_j1 n) fun j1 =>
            cond (decide (y6 > y7))
              ((ref11_Size n p0).bind fun y27 =>
              j1 ((IntKind.wrap .i64 (y27 - 1)), p0, p1, p2, (Content.mk 0 ([] : List Row) ([] : List Kid)), (Content.mk 0 ([] : List Row) ([] : List Kid)), (Key.mk 0 0), ()))
              (j1 ((IntKind.wrap .i64 (y5 + 1)), p0, p1, p2, (Content.mk 0 ([] : List Row) ([] : List Kid)), (Content.mk 0 ([] : List Row) ([] : List Kid)), (Key.mk 0 0), ())))) fun k4 =>
      cond b1
        (k4 true)
        ((ref11_Size n p0).bind fun y28 =>
        (ref11_Size n p1).bind fun y29 =>
        k4 (y28 == y29))) fun k2 =>
  cond (p0.kind != p1.kind)
    (k2 true)
    (k2 (p0.kind == 0))
@[reducible] def ref11_Level_ct : Ct tab := ⟨24, [.st 3, .st 3, .st 0], [], [.st 3, .st 3, .st 0, .one (.d .bool)], [], (Content × Content × Key × Bool), fun y => (y.1, y.2.1, y.2.2.1, y.2.2.2, ()), fun y => (y.1, y.2.1, y.2.2.1, y.2.2.2.1), fun _ => rfl, fun n x => ref11_Level n x.1 x.2.1 x.2.2.1⟩
theorem ref11_Level_ok : OkC Try.prog tab ref11_Level_ct := fn_ok (W := ⟨Try.prog, tab, tyOf, [ref11_Size_ct, ref11_Both_ct, ref11_Cut_ct, ref06_Right_ct, ref11_Rises_ct]⟩) ⟨tabOk, ⟨ref11_Size_ok, ref11_Both_ok, ref11_Cut_ok, ref06_Right_ok, ref11_Rises_ok, trivial⟩⟩ (by kernel_rfl) 81 Try.f24 (.sq (.n) (.sq (.n) (.sq (.n) (.sq (.sq (.n) (.cd (some ⟨[(3, .one (.box 0 0)), (4, .one (.box 1 0)), (5, .one (.box 2 0)), (6, .one (.box 3 0)), (7, .one (.box 4 0)), (8, .one (.box 5 0)), (10, .one (.d (.int .i64)))], [.bst 3, .bst 3, .bst 0, .bst 3, .bst 3, .bst 0], []⟩) (.n) (.n))) (.n))))) Try.func24 Try.call24 rfl (by kernel_rfl) (by kernel_rfl) (by kernel_rfl) fun n x => by kernel_rfl

/-! bursary bursarylaw11.PageParts -/
def law11_PageParts_j2 (n : Nat) : Int × Content × Content × Key × Content × Content × Key × Unit → Option Bool := fun ⟨v39, v40, v41, v42, v43, v44, v45, _⟩ =>
    (ref11_Level n v40 v41 v42).bind fun y46 =>
    cond (!y46.2.2.2)
      ((law11_none n ([v43, v44] : List Content)).bind fun y47 =>
      jn (fun (b48 : Bool) =>
          jn (fun (b50 : Bool) =>
              some b50) fun k51 =>
          cond b48
            (k51 (v39 == 2))
            (k51 false)) fun k49 =>
      cond y47
        (k49 (Key.eqb v45 (Key.mk 0 0)))
        (k49 false))
      (jn (fun (b52 : Bool) =>
          jn (fun (b54 : Bool) =>
              jn (fun (b56 : Bool) =>
                  some b56) fun k57 =>
              cond b54
                (k57 (Key.eqb v45 y46.2.2.1))
                (k57 false)) fun k55 =>
          cond b52
            ((law11_same n v44 y46.2.1).bind fun y58 =>
            k55 y58)
            (k55 false)) fun k53 =>
      cond (v39 == 0)
        ((law11_same n v43 y46.1).bind fun y59 =>
        k53 y59)
        (k53 false))
def law11_PageParts_j3 (n : Nat) (j2 : Int × Content × Content × Key × Content × Content × Key × Unit → Option Bool) : Int × Content × Content × Key × Content × Content × Key × Unit → Option Bool := fun ⟨v64, v65, v66, v67, v68, v69, v70, _⟩ =>
    j2 (v64, v65, v66, v67, v68, v69, v70, ())
def law11_PageParts_j4 (n : Nat) (j3 : Int × Content × Content × Key × Content × Content × Key × Unit → Option Bool) : Int × Content × Content × Key × Content × Content × Key × Unit → Option Bool := fun ⟨v75, v76, v77, v78, v79, v80, v81, _⟩ =>
    j3 (v75, v76, v77, v78, v79, v80, v81, ())
def law11_PageParts_j1 (n : Nat) : Int × Int × Content × Content × Key × Content × Content × Content × Key × Unit → Option Bool := fun ⟨v19, v20, v21, v22, v23, v24, v25, v26, v27, _⟩ =>
    (ref06_Right n v22).bind fun y28 =>
    cond (!y28)
      ((law11_none n ([v24, v25, v26] : List Content)).bind fun y29 =>
      jn (fun (b30 : Bool) =>
          jn (fun (b32 : Bool) =>
              jn (fun (b34 : Bool) =>
                  some b34) fun k35 =>
              cond b32
                (k35 (v20 == 160))
                (k35 false)) fun k33 =>
          cond b30
            (k33 (v19 == 160))
            (k33 false)) fun k31 =>
      cond y29
        (k31 (Key.eqb v27 (Key.mk 0 0)))
        (k31 false))
      ((ref11_Both n v21 v22 v23).bind fun y36 =>
      jn (fun (b37 : Bool) =>
          jn (law11_PageParts_j2 n) fun j2 =>
          cond b37
            ((law11_none n ([v24] : List Content)).bind fun y60 =>
            jn (fun (b61 : Bool) =>
                cond b61
                  (some false)
                  (j2 (v20, v21, v22, v23, v25, v26, v27, ()))) fun k62 =>
            cond (!y60)
              (k62 true)
              (k62 (v19 != 2)))
            ((ref11_Size n y36).bind fun y63 =>
            jn (law11_PageParts_j3 n j2) fun j3 =>
            cond (decide (y63 > 4))
              ((law11_none n ([v24] : List Content)).bind fun y71 =>
              jn (fun (b72 : Bool) =>
                  cond b72
                    (some false)
                    (j3 (v20, v21, v22, v23, v25, v26, v27, ()))) fun k73 =>
              cond (!y71)
                (k73 true)
                (k73 (v19 != 6)))
              ((ref06_Right n y36).bind fun y74 =>
              jn (law11_PageParts_j4 n j3) fun j4 =>
              cond (!y74)
                ((law11_none n ([v24] : List Content)).bind fun y82 =>
                jn (fun (b83 : Bool) =>
                    cond b83
                      (some false)
                      (j4 (v20, v21, v22, v23, v25, v26, v27, ()))) fun k84 =>
                cond (!y82)
                  (k84 true)
                  (k84 (v19 != 2)))
                (jn (fun (b85 : Bool) =>
                    cond b85
                      (some false)
                      (j4 (v20, v21, v22, v23, v25, v26, v27, ()))) fun k86 =>
                cond (v19 != 0)
                  (k86 true)
                  ((law11_same n v24 y36).bind fun y87 =>
                  k86 (!y87)))))) fun k38 =>
      cond (v21.kind != v22.kind)
        (k38 true)
        (k38 (v21.kind == 0)))
def law11_PageParts (n : Nat) (p0 : Content) (p1 : Content) (p2 : Key) : Option Bool :=
  (law11_wakes n).bind fun y1 =>
  cond (!y1)
    (some false)
    ((law11_over n ([p0, p1] : List Content)).bind fun y2 =>
    cond y2
      (some true)
      ((page_Split n p0).bind fun y3 =>
      (page_Join n p0 p1 p2).bind fun y4 =>
      (page_Level n p0 p1 p2).bind fun y5 =>
      (ref06_Right n p0).bind fun y6 =>
      cond (!y6)
        ((law11_none n ([y3.1, y3.2.1, y4.1, y5.1, y5.2.1] : List Content)).bind fun y7 =>
        jn (fun (b8 : Bool) =>
            jn (fun (b10 : Bool) =>
                jn (fun (b12 : Bool) =>
                    jn (fun (b14 : Bool) =>
                        jn (fun (b16 : Bool) =>
                            some b16) fun k17 =>
                        cond b14
                          (k17 (y5.2.2.2 == 160))
                          (k17 false)) fun k15 =>
                    cond b12
                      (k15 (y4.2 == 160))
                      (k15 false)) fun k13 =>
                cond b10
                  (k13 (y3.2.2.2 == 160))
                  (k13 false)) fun k11 =>
            cond b8
              (k11 (Key.eqb y5.2.2.1 (Key.mk 0 0)))
              (k11 false)) fun k9 =>
        cond y7
          (k9 (Key.eqb y3.2.2.1 (Key.mk 0 0)))
          (k9 false))
        ((ref11_Full n p0).bind fun y18 =>
        jn (law11_PageParts_j1 n) fun j1 =>
        cond (!y18)
          ((law11_none n ([y3.1, y3.2.1] : List Content)).bind fun y88 =>
          jn (fun (b89 : Bool) =>
              jn (fun (b91 : Bool) =>
                  cond b91
                    (some false)
                    (j1 (y4.2, y5.2.2.2, p0, p1, p2, y4.1, y5.1, y5.2.1, y5.2.2.1, ()))) fun k92 =>
              cond b89
                (k92 true)
                (k92 (y3.2.2.2 != 2))) fun k90 =>
          cond (!y88)
            (k90 true)
            (k90 (!(Key.eqb y3.2.2.1 (Key.mk 0 0)))))
          ((ref11_Cut n p0 2).bind fun y93 =>
          jn (fun (b94 : Bool) =>
              jn (fun (b96 : Bool) =>
                  jn (fun (b98 : Bool) =>
                      cond b98
                        (some false)
                        (j1 (y4.2, y5.2.2.2, p0, p1, p2, y4.1, y5.1, y5.2.1, y5.2.2.1, ()))) fun k99 =>
                  cond b96
                    (k99 true)
                    (k99 (!(Key.eqb y3.2.2.1 y93.2.2)))) fun k97 =>
              cond b94
                (k97 true)
                ((law11_same n y3.2.1 y93.2.1).bind fun y100 =>
                k97 (!y100))) fun k95 =>
          cond (y3.2.2.2 != 0)
            (k95 true)
            ((law11_same n y3.1 y93.1).bind fun y101 =>
            k95 (!y101))))))
@[reducible] def law11_PageParts_ct : Ct tab := ⟨4, [.st 3, .st 3, .st 0], [], [.one (.d .bool)], [], Bool, fun y => (y, ()), fun y => y.1, fun _ => rfl, fun n x => law11_PageParts n x.1 x.2.1 x.2.2.1⟩
theorem law11_PageParts_ok : OkC Try.prog tab law11_PageParts_ct := fn_ok (W := ⟨Try.prog, tab, tyOf, [law11_wakes_ct, law11_over_ct, page_Split_ct, page_Join_ct, page_Level_ct, ref06_Right_ct, law11_none_ct, ref11_Full_ct, ref11_Both_ct, ref11_Level_ct, law11_same_ct, ref11_Size_ct, ref11_Cut_ct]⟩) ⟨tabOk, ⟨law11_wakes_ok, law11_over_ok, page_Split_ok, page_Join_ok, page_Level_ok, ref06_Right_ok, law11_none_ok, ref11_Full_ok, ref11_Both_ok, ref11_Level_ok, law11_same_ok, ref11_Size_ok, ref11_Cut_ok, trivial⟩⟩ (by kernel_rfl) 246 Try.f4 (.sq (.n) (.sq (.n) (.sq (.n) (.sq (.n) (.sq (.n) (.sq (.n) (.sq (.n) (.sq (.sq (.n) (.cd (some ⟨[(3, .one (.box 0 0)), (4, .one (.box 1 0)), (5, .one (.box 2 0)), (11, .one (.box 3 0)), (12, .one (.d (.int .i64))), (13, .one (.box 4 0)), (14, .one (.box 5 0)), (15, .one (.box 6 0)), (16, .one (.d (.int .i64)))], [.bst 3, .bst 3, .bst 0, .bst 3, .bst 3, .bst 3, .bst 0], []⟩) (.n) (.n))) (.sq (.n) (.sq (.n) (.sq (.bk none (.sq (.n) (.cd (some ⟨[(3, .one (.box 0 0)), (4, .one (.box 1 0)), (5, .one (.box 2 0)), (13, .one (.box 3 0)), (14, .one (.box 4 0)), (15, .one (.box 5 0)), (16, .one (.d (.int .i64)))], [.bst 3, .bst 3, .bst 0, .bst 3, .bst 3, .bst 0], []⟩) (.n) (.sq (.n) (.cd (some ⟨[(3, .one (.box 0 0)), (4, .one (.box 1 0)), (5, .one (.box 2 0)), (13, .one (.box 3 0)), (14, .one (.box 4 0)), (15, .one (.box 5 0)), (16, .one (.d (.int .i64)))], [.bst 3, .bst 3, .bst 0, .bst 3, .bst 3, .bst 0], []⟩) (.n) (.sq (.n) (.cd (some ⟨[(3, .one (.box 0 0)), (4, .one (.box 1 0)), (5, .one (.box 2 0)), (13, .one (.box 3 0)), (14, .one (.box 4 0)), (15, .one (.box 5 0)), (16, .one (.d (.int .i64)))], [.bst 3, .bst 3, .bst 0, .bst 3, .bst 3, .bst 0], []⟩) (.n) (.n)))))))) (.n)))))))))))) Try.func4 Try.call4 rfl (by kernel_rfl) (by kernel_rfl) (by kernel_rfl) fun n x => by kernel_rfl

/-! bursary bursarylaw11.PageLevels 1 -/
def law11_PageLevels_1_l2 (n : Nat) (r1 : (List Content) × Int × Int × (List Int) × Unit → Option ((List Int))) : Nat → (List Content) × Int × Int × (List Kid) × Int × Int × (List Int) × Unit → Option ((List Int)) := loopF fun r2 ⟨v6, v7, v8, v9, v10, v11, v12, _⟩ =>
    cond (decide (v11 < v10))
      ((idx v9 v11).bind fun x13 =>
      (app 8 v12 ([x13.page] : List Int)).bind fun l14 =>
      r2 (v6, v7, v8, v9, v10, (IntKind.wrap .i64 (v11 + 1)), l14, ()))
      (r1 (v6, v7, (IntKind.wrap .i64 (v8 + 1)), v12, ()))
def law11_PageLevels_1_l1 (n : Nat) : Nat → (List Content) × Int × Int × (List Int) × Unit → Option ((List Int)) := loopF fun r1 ⟨v1, v2, v3, v4, _⟩ =>
    cond (decide (v3 < v2))
      ((idx v1 v3).bind fun x5 =>
      law11_PageLevels_1_l2 n r1 n (v1, v2, v3, x5.kids, (x5.kids.length : Int), 0, v4, ()))
      (some v4)
def law11_PageLevels_1 (n : Nat) (p0 : List Content) : Option ((List Int)) :=
  law11_PageLevels_1_l1 n n (p0, (p0.length : Int), 0, ([] : List Int), ())
@[reducible] def law11_PageLevels_1_ct : Ct tab := ⟨28, [.one (.d (.sl (.st 3)))], [], [.one (.own 0)], [(none, .row 3 (.int .i64))], ((List Int)), fun y => (y, ()), fun y => y.1, fun _ => rfl, fun n x => law11_PageLevels_1 n x.1⟩
theorem law11_PageLevels_1_ok : OkC Try.prog tab law11_PageLevels_1_ct := fn_ok (W := ⟨Try.prog, tab, tyOf, []⟩) ⟨tabOk, trivial⟩ (by kernel_rfl) 29 Try.f28 (.sq (.n) (.sq (.n) (.sq (.sq (.n) (.bk none (.lp ⟨[(3, .one (.own 0)), (8, .one (.d (.sl (.st 3)))), (9, .one (.d (.int .i64))), (10, .one (.d (.int .i64)))], [.row 3 (.int .i64)], []⟩ (.sq (.n) (.sq (.n) (.sq (.bk none (.sq (.n) (.sq (.n) (.bk none (.lp ⟨[(3, .one (.own 0)), (8, .one (.d (.sl (.st 3)))), (9, .one (.d (.int .i64))), (10, .one (.d (.int .i64))), (15, .one (.d (.sl (.st 2)))), (16, .one (.d (.int .i64))), (17, .one (.d (.int .i64)))], [.row 3 (.int .i64)], []⟩ (.n)))))) (.n))))))) (.n)))) Try.func28 Try.call28 rfl (by kernel_rfl) (by kernel_rfl) (by kernel_rfl) fun n x => by kernel_rfl

/-! slices.Equal   int int  -/
def slices_Equal_int_l1 (n : Nat) : Nat → (List Int) × (List Int) × Int × Int × Unit → Option Bool := loopF fun r1 ⟨v1, v2, v3, v4, _⟩ =>
    cond (decide (v4 < v3))
      ((idx v1 v4).bind fun x5 =>
      (idx v2 v4).bind fun x6 =>
      cond (x5 != x6)
        (some false)
        (r1 (v1, v2, v3, (IntKind.wrap .i64 (v4 + 1)), ())))
      (some true)
def slices_Equal_int (n : Nat) (p0 : List Int) (p1 : List Int) : Option Bool :=
  cond ((p0.length : Int) != (p1.length : Int))
    (some false)
    (slices_Equal_int_l1 n n (p0, p1, (p0.length : Int), 0, ()))
@[reducible] def slices_Equal_int_ct : Ct tab := ⟨29, [.one (.d (.sl (.int .i64))), .one (.d (.sl (.int .i64)))], [], [.one (.d .bool)], [], Bool, fun y => (y, ()), fun y => y.1, fun _ => rfl, fun n x => slices_Equal_int n x.1 x.2.1⟩
theorem slices_Equal_int_ok : OkC Try.prog tab slices_Equal_int_ct := fn_ok (W := ⟨Try.prog, tab, tyOf, []⟩) ⟨tabOk, trivial⟩ (by kernel_rfl) 26 Try.f29 (.sq (.n) (.sq (.n) (.sq (.sq (.n) (.bk none (.lp ⟨[(0, .one (.d (.sl (.int .i64)))), (1, .one (.d (.sl (.int .i64)))), (12, .one (.d (.int .i64))), (13, .one (.d (.int .i64)))], [], []⟩ (.n)))) (.n)))) Try.func29 Try.call29 rfl (by kernel_rfl) (by kernel_rfl) (by kernel_rfl) fun n x => by kernel_rfl

/-! bursary bursarylaw11.PageLevels -/
def law11_PageLevels (n : Nat) (p0 : Content) (p1 : Content) (p2 : Key) : Option Bool :=
  (law11_wakes n).bind fun y1 =>
  cond (!y1)
    (some false)
    ((law11_over n ([p0, p1] : List Content)).bind fun y2 =>
    cond y2
      (some true)
      ((page_Join n p0 p1 p2).bind fun y3 =>
      jn (fun (b4 : Bool) =>
          cond b4
            (some false)
            ((page_Level n p0 p1 p2).bind fun y6 =>
            cond (y6.2.2.2 != 0)
              ((page_Size n y6.1).bind fun y7 =>
              (page_Size n y6.2.1).bind fun y8 =>
              some ((IntKind.wrap .i64 (y7 + y8)) == 0))
              ((page_Size n y6.1).bind fun y9 =>
              (page_Size n y6.2.1).bind fun y10 =>
              (page_Size n p0).bind fun y11 =>
              (page_Size n p1).bind fun y12 =>
              (page_Size n y6.1).bind fun y13 =>
              (page_Size n y6.2.1).bind fun y14 =>
              (page_Size n p0).bind fun y15 =>
              (page_Size n p1).bind fun y16 =>
              jn (fun (b17 : Bool) =>
                  jn (fun (b19 : Bool) =>
                      jn (fun (b21 : Bool) =>
                          cond b21
                            (some false)
                            (cond (p0.kind == 1)
                              ((slices_Concat_Row n ([y6.1.rows, y6.2.1.rows] : List (List Row))).bind fun y23 =>
                              (slices_Concat_Row n ([p0.rows, p1.rows] : List (List Row))).bind fun y24 =>
                              (slices_Equal_Row n y23 y24).bind fun y25 =>
                              jn (fun (b26 : Bool) =>
                                  some b26) fun k27 =>
                              cond y25
                                ((idx y6.2.1.rows 0).bind fun x28 =>
                                k27 (Key.eqb x28.key y6.2.2.1))
                                (k27 false))
                              ((law11_PageLevels_1 n ([y6.1, y6.2.1] : List Content)).bind fun y29 =>
                              (law11_PageLevels_1 n ([p0, p1] : List Content)).bind fun y30 =>
                              (slices_Equal_int n y29 y30).bind fun y31 =>
                              some y31))) fun k22 =>
                      cond b19
                        (k22 true)
                        ((codec_Check n y6.2.1).bind fun y32 =>
                        k22 (y32 != 0))) fun k20 =>
                  cond b17
                    (k20 true)
                    ((codec_Check n y6.1).bind fun y33 =>
                    k20 (y33 != 0))) fun k18 =>
              cond ((IntKind.wrap .i64 (y13 + y14)) != (IntKind.wrap .i64 (y15 + y16)))
                (k18 true)
                (jn (fun (b34 : Bool) =>
                    k18 b34) fun k35 =>
                cond (decide ((IntKind.wrap .i64 ((IntKind.wrap .i64 (y9 - y10)) * (IntKind.wrap .i64 (y9 - y10)))) ≥ (IntKind.wrap .i64 ((IntKind.wrap .i64 (y11 - y12)) * (IntKind.wrap .i64 (y11 - y12))))))
                  (k35 ((IntKind.wrap .i64 ((IntKind.wrap .i64 (y11 - y12)) * (IntKind.wrap .i64 (y11 - y12)))) != 1))
                  (k35 false))))) fun k5 =>
      cond (y3.2 == 0)
        ((page_Size n y3.1).bind fun y36 =>
        (page_Size n p0).bind fun y37 =>
        (page_Size n p1).bind fun y38 =>
        k5 (y36 != (IntKind.wrap .i64 (y37 + y38))))
        (k5 false)))
@[reducible] def law11_PageLevels_ct : Ct tab := ⟨5, [.st 3, .st 3, .st 0], [], [.one (.d .bool)], [], Bool, fun y => (y, ()), fun y => y.1, fun _ => rfl, fun n x => law11_PageLevels n x.1 x.2.1 x.2.2.1⟩
theorem law11_PageLevels_ok : OkC Try.prog tab law11_PageLevels_ct := fn_ok (W := ⟨Try.prog, tab, tyOf, [law11_wakes_ct, law11_over_ct, page_Join_ct, page_Level_ct, page_Size_ct, slices_Concat_Row_ct, slices_Equal_Row_ct, law11_PageLevels_1_ct, slices_Equal_int_ct, codec_Check_ct]⟩) ⟨tabOk, ⟨law11_wakes_ok, law11_over_ok, page_Join_ok, page_Level_ok, page_Size_ok, slices_Concat_Row_ok, slices_Equal_Row_ok, law11_PageLevels_1_ok, slices_Equal_int_ok, codec_Check_ok, trivial⟩⟩ (by kernel_rfl) 140 Try.f5 (.n) Try.func5 Try.call5 rfl (by kernel_rfl) (by kernel_rfl) (by kernel_rfl) fun n x => by kernel_rfl

/-! bursary row.Find 1 -/
def row_Find_1 (n : Nat) (p0 : Row) (p1 : Key) : Option Bool :=
  some (Key.eqb p0.key p1)
@[reducible] def row_Find_1_ct : Ct tab := ⟨82, [.st 1, .one (.ro (.st 0))], [], [.one (.d .bool)], [], Bool, fun y => (y, ()), fun y => y.1, fun _ => rfl, fun n x => row_Find_1 n x.1 x.2.1⟩
theorem row_Find_1_ok : OkC Try.prog tab row_Find_1_ct := fn_ok (W := ⟨Try.prog, tab, tyOf, []⟩) ⟨tabOk, trivial⟩ (by kernel_rfl) 8 Try.f82 (.n) Try.func82 Try.call82 rfl (by kernel_rfl) (by kernel_rfl) (by kernel_rfl) fun n x => by kernel_rfl

/-! slices.IndexFunc   bursary api.Row bursary api.Row  -/
def slices_IndexFunc_Row_f82_l1 (n : Nat) : Nat → (List Row) × Key × Int × Int × Unit → Option Int := loopF fun r1 ⟨v1, v2, v3, v4, _⟩ =>
    cond (decide (v4 < v3))
      ((idx v1 v4).bind fun x5 =>
      (row_Find_1 n x5 v2).bind fun y6 =>
      cond y6
        (some v4)
        (r1 (v1, v2, v3, (IntKind.wrap .i64 (v4 + 1)), ())))
      (some (-1))
def slices_IndexFunc_Row_f82 (n : Nat) (p0 : List Row) (p1 : Key) : Option Int :=
  slices_IndexFunc_Row_f82_l1 n n (p0, p1, (p0.length : Int), 0, ())
@[reducible] def slices_IndexFunc_Row_f82_ct : Ct tab := ⟨66, [.one (.d (.sl (.st 1))), .one (.fn 82 [.ro (.st 0)])], [], [.one (.d (.int .i64))], [], Int, fun y => (y, ()), fun y => y.1, fun _ => rfl, fun n x => slices_IndexFunc_Row_f82 n x.1 x.2.1⟩
theorem slices_IndexFunc_Row_f82_ok : OkC Try.prog tab slices_IndexFunc_Row_f82_ct := fn_ok (W := ⟨Try.prog, tab, tyOf, [row_Find_1_ct]⟩) ⟨tabOk, ⟨row_Find_1_ok, trivial⟩⟩ (by kernel_rfl) 19 Try.f66 (.sq (.n) (.sq (.sq (.n) (.bk none (.lp ⟨[(0, .one (.d (.sl (.st 1)))), (1, .one (.fn 82 [.ro (.st 0)])), (7, .one (.d (.int .i64))), (8, .one (.d (.int .i64)))], [], []⟩ (.n)))) (.n))) Try.func66 Try.call66 rfl (by kernel_rfl) (by kernel_rfl) (by kernel_rfl) fun n x => by kernel_rfl

/-! bursary row.Find -/
def row_Find (n : Nat) (p0 : List Row) (p1 : Key) : Option (Int × Bool) :=
  (slices_IndexFunc_Row_f82 n p0 p1).bind fun y1 =>
  some ((if 0 > y1 then 0 else y1), (decide (y1 ≥ 0)))
@[reducible] def row_Find_ct : Ct tab := ⟨61, [.one (.d (.sl (.st 1))), .st 0], [], [.one (.d (.int .i64)), .one (.d .bool)], [], (Int × Bool), fun y => (y.1, y.2, ()), fun y => (y.1, y.2.1), fun _ => rfl, fun n x => row_Find n x.1 x.2.1⟩
theorem row_Find_ok : OkC Try.prog tab row_Find_ct := fn_ok (W := ⟨Try.prog, tab, tyOf, [slices_IndexFunc_Row_f82_ct]⟩) ⟨tabOk, ⟨slices_IndexFunc_Row_f82_ok, trivial⟩⟩ (by kernel_rfl) 14 Try.f61 (.n) Try.func61 Try.call61 rfl (by kernel_rfl) (by kernel_rfl) (by kernel_rfl) fun n x => by kernel_rfl

/-! bursary page.Get -/
def page_Get (n : Nat) (p0 : Content) (p1 : Key) : Option (Row × Int) :=
  (page_asked n 1 ([p0] : List Content)).bind fun y1 =>
  cond (y1 != 0)
    (some ((Row.mk (Key.mk 0 0) 0 ByteArray.empty), y1))
    ((row_Find n p0.rows p1).bind fun y2 =>
    cond (!y2.2)
      (some ((Row.mk (Key.mk 0 0) 0 ByteArray.empty), 4))
      ((idx p0.rows y2.1).bind fun x3 =>
      some (x3, 0)))
@[reducible] def page_Get_ct : Ct tab := ⟨30, [.st 3, .st 0], [], [.st 1, .one (.d (.int .i64))], [], (Row × Int), fun y => (y.1, y.2, ()), fun y => (y.1, y.2.1), fun _ => rfl, fun n x => page_Get n x.1 x.2.1⟩
theorem page_Get_ok : OkC Try.prog tab page_Get_ct := fn_ok (W := ⟨Try.prog, tab, tyOf, [page_asked_ct, row_Find_ct]⟩) ⟨tabOk, ⟨page_asked_ok, row_Find_ok, trivial⟩⟩ (by kernel_rfl) 31 Try.f30 (.n) Try.func30 Try.call30 rfl (by kernel_rfl) (by kernel_rfl) (by kernel_rfl) fun n x => by kernel_rfl

end
end Go.Proofs.Ytjgcapbmhcmcfaa
