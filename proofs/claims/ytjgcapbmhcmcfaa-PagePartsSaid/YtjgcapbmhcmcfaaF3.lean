/- Functions of the program: plain twins and their contracts, printed by program. -/
import Derived.Test.YtjgcapbmhcmcfaaTypes
import Derived.Test.YtjgcapbmhcmcfaaF2
namespace Go.Proofs.Ytjgcapbmhcmcfaa
open Go Go.Bur Go.RowKit
set_option linter.unusedVariables false
set_option linter.unusedSimpArgs false
set_option maxRecDepth 100000
noncomputable section
/-! bursary bursarylaw11.PageHolds -/
def law11_PageHolds_j1 (n : Nat) : Int × Content × Row × Key × Row × Unit → Option Bool := fun ⟨v7, v8, v9, v10, v11, _⟩ =>
    (page_Take n v8 v9.key).bind fun y12 =>
    cond (y12.2.2 != 0)
      ((page_Size n y12.1).bind fun y13 =>
      jn (fun (b14 : Bool) =>
          some b14) fun k15 =>
      cond (y13 == 0)
        (k15 (Row.eqb y12.2.1 (Row.mk (Key.mk 0 0) 0 ByteArray.empty)))
        (k15 false))
      ((page_Get n y12.1 v9.key).bind fun y16 =>
      (page_Get n y12.1 v10).bind fun y17 =>
      (page_Put n y12.1 y12.2.1).bind fun y18 =>
      jn (fun (b19 : Bool) =>
          jn (fun (b21 : Bool) =>
              jn (fun (b23 : Bool) =>
                  some b23) fun k24 =>
              cond b21
                ((codec_Same n y18.1 v8).bind fun y25 =>
                k24 y25)
                (k24 false)) fun k22 =>
          cond b19
            (k22 (y18.2 == 0))
            (k22 false)) fun k20 =>
      cond (y16.2 == 4)
        (jn (fun (b26 : Bool) =>
            k20 b26) fun k27 =>
        cond (Key.eqb v10 v9.key)
          (k27 true)
          (jn (fun (b28 : Bool) =>
              k27 b28) fun k29 =>
          cond (y17.2 == v7)
            (k29 (Row.eqb y17.1 v11))
            (k29 false)))
        (k20 false))
def law11_PageHolds (n : Nat) (p0 : Content) (p1 : Row) (p2 : Key) : Option Bool :=
  (law11_wakes n).bind fun y1 =>
  cond (!y1)
    (some false)
    ((law11_over n ([p0] : List Content)).bind fun y2 =>
    jn (fun (b3 : Bool) =>
        cond b3
          (some true)
          ((page_Get n p0 p2).bind fun y5 =>
          (page_Put n p0 p1).bind fun y6 =>
          jn (law11_PageHolds_j1 n) fun j1 =>
          cond (y6.2 == 0)
            ((page_Get n y6.1 p1.key).bind fun y30 =>
            (page_Get n y6.1 p2).bind fun y31 =>
            (codec_Check n y6.1).bind fun y32 =>
            jn (fun (b33 : Bool) =>
                jn (fun (b35 : Bool) =>
                    jn (fun (b37 : Bool) =>
                        cond b37
                          (some false)
                          (j1 (y5.2, p0, p1, p2, y5.1, ()))) fun k38 =>
                    cond b35
                      (k38 true)
                      (jn (fun (b39 : Bool) =>
                          k38 b39) fun k40 =>
                      cond (!(Key.eqb p2 p1.key))
                        (jn (fun (b41 : Bool) =>
                            k40 b41) fun k42 =>
                        cond (y31.2 != y5.2)
                          (k42 true)
                          (k42 (!(Row.eqb y31.1 y5.1))))
                        (k40 false))) fun k36 =>
                cond b33
                  (k36 true)
                  (k36 (!(Row.eqb y30.1 p1)))) fun k34 =>
            cond (y32 != 0)
              (k34 true)
              (k34 (y30.2 != 0)))
            (j1 (y5.2, p0, p1, p2, y5.1, ())))) fun k4 =>
    cond y2
      (k4 true)
      (k4 (decide ((p1.note.size : Int) > 100))))
@[reducible] def law11_PageHolds_ct : Ct tab := ⟨7, [.st 3, .st 1, .st 0], [], [.one (.d .bool)], [], Bool, fun y => (y, ()), fun y => y.1, fun _ => rfl, fun n x => law11_PageHolds n x.1 x.2.1 x.2.2.1⟩
theorem law11_PageHolds_ok : OkC Try.prog tab law11_PageHolds_ct := fn_ok (W := ⟨Try.prog, tab, tyOf, [law11_wakes_ct, law11_over_ct, page_Get_ct, page_Put_ct, page_Take_ct, page_Size_ct, codec_Same_ct, codec_Check_ct]⟩) ⟨tabOk, ⟨law11_wakes_ok, law11_over_ok, page_Get_ok, page_Put_ok, page_Take_ok, page_Size_ok, codec_Same_ok, codec_Check_ok, trivial⟩⟩ (by kernel_rfl) 154 Try.f7 (.sq (.n) (.sq (.n) (.sq (.n) (.sq (.n) (.sq (.sq (.n) (.sq (.n) (.cd (some ⟨[(3, .one (.box 0 0)), (4, .one (.box 1 0)), (5, .one (.box 2 0)), (7, .one (.box 3 0)), (8, .one (.d (.int .i64)))], [.bst 3, .bst 1, .bst 0, .bst 1], []⟩) (.n) (.n)))) (.n)))))) Try.func7 Try.call7 rfl (by kernel_rfl) (by kernel_rfl) (by kernel_rfl) fun n x => by kernel_rfl

/-! slices.Reverse   bursary api.Row bursary api.Row  -/
def slices_Reverse_Row_l1 (n : Nat) : Nat → Int × Int × (List Row) × Unit → Option ((List Row)) := loopF fun r1 ⟨v1, v2, v3, _⟩ =>
    cond (decide (v1 < v2))
      ((idx v3 v2).bind fun x4 =>
      (idx v3 v2).bind fun x5 =>
      (idx v3 v1).bind fun x6 =>
      (idx v3 v1).bind fun x7 =>
      (idx v3 v1).bind fun x8 =>
      (put v3 v1 x5).bind fun l9 =>
      (idx l9 v2).bind fun x10 =>
      (put l9 v2 x7).bind fun l11 =>
      r1 ((IntKind.wrap .i64 (v1 + 1)), (IntKind.wrap .i64 (v2 - 1)), l11, ()))
      (some v3)
def slices_Reverse_Row (n : Nat) (q0 : List Row) : Option ((List Row)) :=
  slices_Reverse_Row_l1 n n (0, (IntKind.wrap .i64 ((q0.length : Int) - 1)), q0, ())
@[reducible] def slices_Reverse_Row_ct : Ct tab := ⟨92, [.one (.own 0)], [.row 49 (.st 1)], [], [(some 0, .row 49 (.st 1))], ((List Row)), fun y => (y, ()), fun y => y.1, fun _ => rfl, fun n x => slices_Reverse_Row n x.1⟩
theorem slices_Reverse_Row_ok : OkC Try.prog tab slices_Reverse_Row_ct := fn_ok (W := ⟨Try.prog, tab, tyOf, []⟩) ⟨tabOk, trivial⟩ (by kernel_rfl) 28 Try.f92 (.sq (.n) (.bk none (.lp ⟨[(0, .one (.own 0)), (2, .one (.d (.int .i64))), (3, .one (.d (.int .i64)))], [.row 49 (.st 1)], [(0, 0)]⟩ (.n)))) Try.func92 Try.call92 rfl (by kernel_rfl) (by kernel_rfl) (by kernel_rfl) fun n x => by kernel_rfl

end
end Go.Proofs.Ytjgcapbmhcmcfaa
