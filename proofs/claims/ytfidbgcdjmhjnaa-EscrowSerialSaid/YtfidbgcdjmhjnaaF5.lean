/- Functions of the program: plain twins and their contracts, printed by program. -/
import Derived.Test.YtfidbgcdjmhjnaaTypes
import Derived.Test.YtfidbgcdjmhjnaaF4
namespace Go.Proofs.Ytfidbgcdjmhjnaa
open Go Go.Bur Go.RowKit
set_option linter.unusedVariables false
set_option linter.unusedSimpArgs false
set_option maxRecDepth 100000
noncomputable section
/-!   bursary bursarylaw10.book .holds -/
def law10_book_holds (n : Nat) (p0 : law10_book) : Option Bool :=
  (law10_key n).bind fun y1 =>
  (escrow_Find n p0.e y1).bind fun y2 =>
  cond (!y2.2)
    ((escrow_Check n p0.e).bind fun y3 =>
    jn (fun (b4 : Bool) =>
        jn (fun (b6 : Bool) =>
            some b6) fun k7 =>
        cond b4
          ((law10_book_now n p0).bind fun y8 =>
          k7 (y8 == p0.value))
          (k7 false)) fun k5 =>
    cond (y3 == 0)
      (k5 ((p0.e.rows.length : Int) == 0))
      (k5 false))
    ((escrow_Ends n y2.1).bind fun y9 =>
    jn (fun (b10 : Bool) =>
        jn (fun (b12 : Bool) =>
            jn (fun (b14 : Bool) =>
                jn (fun (b16 : Bool) =>
                    jn (fun (b18 : Bool) =>
                        some b18) fun k19 =>
                    cond b16
                      (k19 (decide (y9.2.2.1 ≤ p0.bounds.max)))
                      (k19 false)) fun k17 =>
                cond b14
                  (k17 (decide (y9.1 ≥ p0.bounds.min)))
                  (k17 false)) fun k15 =>
            cond b12
              ((law10_book_now n p0).bind fun y20 =>
              k15 (y9.2.1 == y20))
              (k15 false)) fun k13 =>
        cond b10
          (k13 (y2.1.value == p0.value))
          (k13 false)) fun k11 =>
    cond (y9.2.2.2 == 0)
      ((escrow_Check n p0.e).bind fun y21 =>
      k11 (y21 == 0))
      (k11 false))
/-! bursary bursarylaw10.EscrowBounds -/
/-! bursary bursarylaw10.EscrowTurns -/
/-! slices.Reverse   bursary api.Pending bursary api.Pending  -/
/-! slices.Reverse   bursary api.Share bursary api.Share  -/
/-! bursary bursarylaw10.EscrowAdmits -/
/-! bursary bursarylaw10.EscrowTells -/
end
end Go.Proofs.Ytfidbgcdjmhjnaa
