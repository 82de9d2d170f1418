/- Escrows: sums of many numbers, ends, which may be. -/
import Derived.Test.YtfidbgcdjmhjnaaRowP
namespace Go.Proofs.Ytfidbgcdjmhjnaa
open Go.Bur
set_option linter.unusedSimpArgs false
set_option linter.unusedVariables false
set_option maxRecDepth 100000

/-! ### Conditions told in parts -/
theorem jn_and {R : Type} {f : Bool → R} {b x : Bool} : jn f (fun k => cond b (k x) (k false)) = f (b && x) := by cases b <;> rfl
theorem jn_or {R : Type} {f : Bool → R} {b x : Bool} : jn f (fun k => cond b (k true) (k x)) = f (b || x) := by cases b <;> rfl
theorem jn_id {R : Type} {f : Bool → R} {x : Bool} : jn f (fun k => k x) = f x := rfl
theorem sum_run {R : Type} {fin : Int → Option R} : ∀ (l : List Int) (i : Nat) (z : Int), runL (fun _ x z => .inr (z + x)) fin l i z = fin (z + l.sum)
  | [], _, z => by simp [runL]
  | x :: t, i, z => by simp only [runL]; rw [sum_run t]; simp [List.sum_cons]; congr 1; omega
theorem map_run {α β R : Type} {f : α → β} {fin : List β → Option R} : ∀ (l : List α) (i : Nat) (s : List β), runL (fun _ x s => .inr (s ++ [f x])) fin l i s = fin (s ++ l.map f)
  | [], _, s => by simp [runL]
  | x :: t, i, s => by simp only [runL]; rw [map_run t]; simp

/-! ### Numbers of 128 bits, and numbers of two digits -/
abbrev I64 (x : Int) : Prop := -9223372036854775808 ≤ x ∧ x ≤ 9223372036854775807
def wideOf (z : Int) : escrow_wide := ⟨z / 18446744073709551616, z % 18446744073709551616⟩
def bigOf (z : Int) : ref10_Big := ⟨z / 4294967296, z % 4294967296⟩
def fits (z : Int) : Bool := decide (-9223372036854775808 ≤ z ∧ z ≤ 9223372036854775807)
theorem shr63 {x : Int} (h : I64 x) : shrP .i64 x 63 = some (x / 18446744073709551616) := by
  unfold shrP
  rw [if_pos (by decide)]
  congr 1
  show x.fdiv 9223372036854775808 = _
  rw [Int.fdiv_eq_ediv_of_nonneg _ (by decide)]
  omega
theorem shr32 (x : Int) : shrP .i64 x 32 = some (x / 4294967296) := by
  unfold shrP
  rw [if_pos (by decide)]
  congr 1
  show x.fdiv 4294967296 = _
  rw [Int.fdiv_eq_ediv_of_nonneg _ (by decide)]
theorem mask32 (x : Int) : andV .i64 x 4294967295 = x % 4294967296 := by
  unfold andV
  show IntKind.wrap .i64 (((BitVec.ofInt 64 x &&& BitVec.ofInt 64 4294967295).toNat : Nat) : Int) = _
  have h1 : (BitVec.ofInt 64 4294967295).toNat = 2 ^ 32 - 1 := by decide
  rw [BitVec.toNat_and, h1, Nat.and_two_pow_sub_one_eq_mod, BitVec.toNat_ofInt, IntKind.wrap_i64]
  have h2 : ((x % ((2 ^ 64 : Nat) : Int)).toNat : Int) = x % 18446744073709551616 := by
    rw [Int.toNat_of_nonneg (by omega)]; rfl
  rw [Int.natCast_emod, h2]
  omega
theorem eof_eq (n : Nat) {x : Int} (h : I64 x) : escrow_of n x = some (wideOf x) := by
  unfold escrow_of
  rw [shr63 h]
  simp only [Option.bind_some, IntKind.wrap_u64]
  rfl
theorem add_low (a b : Int) : add64L (a % 18446744073709551616) (b % 18446744073709551616) = (a + b) % 18446744073709551616 := by
  unfold add64L
  rw [Int.natCast_emod, Int.natCast_add, Int.toNat_of_nonneg (by omega), Int.toNat_of_nonneg (by omega)]
  omega
theorem add_car (a b : Int) : add64C (a % 18446744073709551616) (b % 18446744073709551616) = (a % 18446744073709551616 + b % 18446744073709551616) / 18446744073709551616 := by
  unfold add64C
  rw [Int.natCast_ediv, Int.natCast_add, Int.toNat_of_nonneg (by omega), Int.toNat_of_nonneg (by omega)]
  rfl
theorem wide_add {z x : Int} (hz : -9223372036854775808000000 ≤ z ∧ z ≤ 9223372036854775808000000) (hx : I64 x) :
    escrow_wide.mk (IntKind.wrap .i64 ((IntKind.wrap .i64 ((wideOf z).high + (wideOf x).high)) + (IntKind.wrap .i64 (add64C (wideOf z).low (wideOf x).low)))) (add64L (wideOf z).low (wideOf x).low) = wideOf (z + x) := by
  unfold wideOf
  simp only
  rw [add_low, add_car, IntKind.wrap_i64, IntKind.wrap_i64, IntKind.wrap_i64]
  congr 1
  omega
theorem esum_eq (n : Nat) (hn : 1003 ≤ n) (l : List Int) (hl : l.length ≤ 100) (h : ∀ x ∈ l, I64 x) : escrow_sum n l = some (wideOf l.sum) := by
  unfold escrow_sum
  show escrow_sum_l1 n n (l, (l.length : Int), ((0 : Nat) : Int), escrow_wide.mk 0 0, wideOf 0, ()) = _
  unfold escrow_sum_l1
  refine (run_loopI l (fun (i : Nat) (z : Int) => (l, (l.length : Int), (i : Int), escrow_wide.mk 0 0, wideOf z, ())) (fun _ x z => .inr (z + x)) (fun z => some (wideOf z)) (fun i z => i ≤ 100 ∧ -(9223372036854775808 * (i : Int)) ≤ z ∧ z ≤ 9223372036854775808 * (i : Int)) (fun i z x z' hx hz hs => ?_) (fun r i z x hx hi hz => ?_) (fun r z _ => ?_) n 0 0 (Nat.zero_le _) (by omega) (by omega)).trans ?_
  · simp only [Sum.inr.injEq] at hs
    have hi := (List.getElem?_eq_some_iff.1 hx).1
    have := h x (List.mem_of_getElem? hx)
    subst hs
    refine ⟨by omega, ?_, ?_⟩ <;> rw [show ((i + 1 : Nat) : Int) = (i : Int) + 1 from by omega] <;> omega
  · simp only [lt_dec hi, cond_true, idx_nat, hx, Option.bind_some, eof_eq n (h x (List.mem_of_getElem? hx)), wrap_succ (show i < 4611686018427387904 by omega)]
    rw [wide_add (by omega) (h x (List.mem_of_getElem? hx))]
  · simp only [ge_dec (Nat.lt_irrefl _), cond_false]
  · rw [List.drop_zero, sum_run, Int.zero_add]
theorem small_eq (n : Nat) (z : Int) (hz : -9223372036854775808000000 ≤ z ∧ z ≤ 9223372036854775808000000) : escrow_wide_small n (wideOf z) = some (IntKind.wrap .i64 (z % 18446744073709551616), fits z) := by
  unfold escrow_wide_small
  have h1 : I64 (IntKind.wrap .i64 (wideOf z).low) := by rw [IntKind.wrap_i64]; unfold I64; omega
  rw [eof_eq n h1]
  simp only [Option.bind_some]
  have h2 : escrow_wide.eqb (wideOf (IntKind.wrap .i64 (wideOf z).low)) (wideOf z) = fits z := by
    unfold escrow_wide.eqb fits wideOf
    simp only
    rw [IntKind.wrap_i64]
    by_cases hf : -9223372036854775808 ≤ z ∧ z ≤ 9223372036854775807
    · rw [decide_eq_true hf]
      simp only [Bool.and_eq_true, beq_iff_eq, Bool.and_true]
      omega
    · rw [decide_eq_false hf]
      simp only [Bool.and_eq_false_iff, beq_eq_false_iff_ne, Bool.and_true]
      omega
  rw [h2]
  rfl
theorem fits_val {z : Int} (h : fits z = true) : IntKind.wrap .i64 (z % 18446744073709551616) = z := by
  have := of_decide_eq_true h
  rw [IntKind.wrap_i64]; omega
/-! ### The document's numbers -/
theorem bof_eq (n : Nat) (x : Int) : ref10_Of n x = some (bigOf x) := by
  unfold ref10_Of
  rw [shr32, mask32]; rfl
theorem bplus_eq (n : Nat) {a b : Int} (ha : -9223372036854775808000000 ≤ a ∧ a ≤ 9223372036854775808000000) (hb : -9223372036854775808000000 ≤ b ∧ b ≤ 9223372036854775808000000) : ref10_Plus n (bigOf a) (bigOf b) = some (bigOf (a + b)) := by
  unfold ref10_Plus
  rw [shr32, mask32]
  simp only [Option.bind_some]
  unfold bigOf
  simp only
  rw [IntKind.wrap_i64, IntKind.wrap_i64, IntKind.wrap_i64]
  congr 2
  · omega
  · omega
theorem rsmall_eq (n : Nat) (z : Int) (hz : -9223372036854775808000000 ≤ z ∧ z ≤ 9223372036854775808000000) : ref10_Small n (bigOf z) = some (if fits z then z else 0, fits z) := by
  unfold ref10_Small fits
  rw [jn_or]
  have e : (decide ((bigOf z).h < -2147483648) || decide ((bigOf z).h ≥ 2147483648)) = !decide (-9223372036854775808 ≤ z ∧ z ≤ 9223372036854775807) := by
    unfold bigOf
    simp only
    by_cases hf : -9223372036854775808 ≤ z ∧ z ≤ 9223372036854775807
    · rw [decide_eq_true hf, decide_eq_false (by omega), decide_eq_false (by omega)]; rfl
    · rw [decide_eq_false hf]
      by_cases h2 : z / 4294967296 < -2147483648
      · rw [decide_eq_true h2]; rfl
      · rw [decide_eq_false h2, decide_eq_true (by omega)]; rfl
  rw [e]
  by_cases hf : -9223372036854775808 ≤ z ∧ z ≤ 9223372036854775807
  · rw [decide_eq_true hf]
    simp only [Bool.not_true, cond_false]
    have h1 : shlP .i64 (bigOf z).h 32 = some (z / 4294967296 * 4294967296) := by
      unfold shlP
      rw [if_pos (by decide)]
      congr 1
      show IntKind.wrap .i64 (z / 4294967296 * 4294967296) = _
      rw [IntKind.wrap_i64]; omega
    rw [h1]
    simp only [Option.bind_some, if_true]
    unfold bigOf
    simp only
    rw [IntKind.wrap_i64, show (z / 4294967296 * 4294967296 + z % 4294967296) = z from by omega]
    congr 2
    omega
  · rw [decide_eq_false hf]; rfl
/-! ### Ends -/
def PendIn (p : Pending) : Prop := I64 p.value ∧ ∀ s ∈ p.shares, I64 s.lo ∧ I64 s.sum ∧ I64 s.hi
def lowZ (p : Pending) : Int := p.value + (p.shares.map (·.lo)).sum
def midZ (p : Pending) : Int := p.value + (p.shares.map (·.sum)).sum
def highZ (p : Pending) : Int := p.value + (p.shares.map (·.hi)).sum
theorem sum_rng : ∀ (l : List Int), (∀ x ∈ l, I64 x) → -(9223372036854775808 * (l.length : Int)) ≤ l.sum ∧ l.sum ≤ 9223372036854775808 * (l.length : Int)
  | [], _ => by simp
  | x :: t, h => by
    have h1 := h x (List.mem_cons_self ..)
    have h2 := sum_rng t fun y hy => h y (List.mem_cons_of_mem _ hy)
    rw [List.sum_cons, List.length_cons, show ((t.length + 1 : Nat) : Int) = (t.length : Int) + 1 from by omega]
    omega
theorem endZ_rng {v : Int} {l : List Int} (hv : I64 v) (hl : l.length ≤ 99) (h : ∀ x ∈ l, I64 x) : -9223372036854775808000000 ≤ v + l.sum ∧ v + l.sum ≤ 9223372036854775808000000 := by
  have := sum_rng l h
  omega
section
variable {n : Nat} {p : Pending}
theorem low_rng (hp : PendIn p) (hl : p.shares.length ≤ 99) : -9223372036854775808000000 ≤ lowZ p ∧ lowZ p ≤ 9223372036854775808000000 := endZ_rng hp.1 (by simpa using hl) fun x hx => by
  obtain ⟨s, hs, rfl⟩ := List.mem_map.1 hx; exact (hp.2 s hs).1
theorem high_rng (hp : PendIn p) (hl : p.shares.length ≤ 99) : -9223372036854775808000000 ≤ highZ p ∧ highZ p ≤ 9223372036854775808000000 := endZ_rng hp.1 (by simpa using hl) fun x hx => by
  obtain ⟨s, hs, rfl⟩ := List.mem_map.1 hx; exact (hp.2 s hs).2.2
theorem it_low (hn : 1003 ≤ n) (hl : p.shares.length ≤ 99) (f : HL tabT [.int .i64] → HL tabT [.sl (.int .i64)] → Option (Nat × HL tabT [.sl (.int .i64)])) (hf : ∀ (y : Int) (l : List Int), l.length ≤ 100 → f (y, ()) (l, ()) = some (0, (l ++ [y], ()))) (v : Int) :
    escrow_shares_1_fyd0_c1_48 n p () f 0 ([v], ()) = some (f, 0, (v :: p.shares.map (·.lo), ())) := by
  unfold escrow_shares_1_fyd0_c1_48
  show escrow_shares_1_fyd0_c1_48_l1 n n ((), p.shares, (p.shares.length : Int), ((0 : Nat) : Int), f, 0, ([v], ()), ()) = _
  unfold escrow_shares_1_fyd0_c1_48_l1
  refine (run_loopI p.shares (fun (i : Nat) (l : List Int) => ((), p.shares, (p.shares.length : Int), (i : Int), f, 0, (l, ()), ())) (fun _ x l => .inr (l ++ [x.lo])) (fun l => some (f, 0, (l, ()))) (fun i l => l.length = i + 1) (fun i l x l' hx hl' hs => ?_) (fun r i l x hx hi hl' => ?_) (fun r l _ => ?_) n 0 [v] (Nat.zero_le _) (by omega) rfl).trans ?_
  · simp only [Sum.inr.injEq] at hs; subst hs; simp [hl']
  · simp only [lt_dec hi, cond_true, idx_nat, hx, Option.bind_some, escrow_least, callY, hf _ l (by omega), wrap_succ (show i < 4611686018427387904 by omega)]
    rfl
  · simp only [ge_dec (Nat.lt_irrefl _), cond_false]
  · rw [List.drop_zero, map_run]; rfl
theorem it_high (hn : 1003 ≤ n) (hl : p.shares.length ≤ 99) (f : HL tabT [.int .i64] → HL tabT [.sl (.int .i64)] → Option (Nat × HL tabT [.sl (.int .i64)])) (hf : ∀ (y : Int) (l : List Int), l.length ≤ 100 → f (y, ()) (l, ()) = some (0, (l ++ [y], ()))) (v : Int) :
    escrow_shares_1_fyd0_c1_51 n p () f 0 ([v], ()) = some (f, 0, (v :: p.shares.map (·.hi), ())) := by
  unfold escrow_shares_1_fyd0_c1_51
  show escrow_shares_1_fyd0_c1_51_l1 n n ((), p.shares, (p.shares.length : Int), ((0 : Nat) : Int), f, 0, ([v], ()), ()) = _
  unfold escrow_shares_1_fyd0_c1_51_l1
  refine (run_loopI p.shares (fun (i : Nat) (l : List Int) => ((), p.shares, (p.shares.length : Int), (i : Int), f, 0, (l, ()), ())) (fun _ x l => .inr (l ++ [x.hi])) (fun l => some (f, 0, (l, ()))) (fun i l => l.length = i + 1) (fun i l x l' hx hl' hs => ?_) (fun r i l x hx hi hl' => ?_) (fun r l _ => ?_) n 0 [v] (Nat.zero_le _) (by omega) rfl).trans ?_
  · simp only [Sum.inr.injEq] at hs; subst hs; simp [hl']
  · simp only [lt_dec hi, cond_true, idx_nat, hx, Option.bind_some, escrow_most, callY, hf _ l (by omega), wrap_succ (show i < 4611686018427387904 by omega)]
    rfl
  · simp only [ge_dec (Nat.lt_irrefl _), cond_false]
  · rw [List.drop_zero, map_run]; rfl
theorem app_one (y : Int) (l : List Int) (h : l.length ≤ 100) : ((app 8 l ([y] : List Int)).bind fun l4 => some ((0 : Nat), (l4, ()))) = some (0, (l ++ [y], ())) := by
  rw [app_lt (by simp; omega) (by omega)]; rfl
theorem end_low (hn : 1003 ≤ n) (hp : PendIn p) (hl : p.shares.length ≤ 98) : escrow_end_f48 n p = some (wideOf (lowZ p)) := by
  unfold escrow_end_f48 escrow_shares_f48
  simp only [Option.bind_some]
  rw [it_low hn (by omega) _ (fun y l h => app_one y l h)]
  simp only [Option.bind_some, sel]
  rw [esum_eq n hn _ (by simp; omega) (fun x hx => by
    rcases List.mem_cons.1 hx with rfl | hx
    · exact hp.1
    · obtain ⟨s, hs, rfl⟩ := List.mem_map.1 hx; exact (hp.2 s hs).1)]
  simp only [Option.bind_some, List.sum_cons]
  rfl
theorem end_high (hn : 1003 ≤ n) (hp : PendIn p) (hl : p.shares.length ≤ 98) : escrow_end_f51 n p = some (wideOf (highZ p)) := by
  unfold escrow_end_f51 escrow_shares_f51
  simp only [Option.bind_some]
  rw [it_high hn (by omega) _ (fun y l h => app_one y l h)]
  simp only [Option.bind_some, sel]
  rw [esum_eq n hn _ (by simp; omega) (fun x hx => by
    rcases List.mem_cons.1 hx with rfl | hx
    · exact hp.1
    · obtain ⟨s, hs, rfl⟩ := List.mem_map.1 hx; exact (hp.2 s hs).2.2)]
  simp only [Option.bind_some, List.sum_cons]
  rfl
theorem ends_eq (hn : 1003 ≤ n) (hp : PendIn p) (hl : p.shares.length ≤ 98) : ref10_ends n p = some (bigOf (lowZ p), bigOf (midZ p), bigOf (highZ p)) := by
  unfold ref10_ends
  simp only [bof_eq, Option.bind_some]
  show ref10_ends_l1 n n (p.shares, (p.shares.length : Int), ((0 : Nat) : Int), ref10_Big.mk 0 0, ref10_Big.mk 0 0, ref10_Big.mk 0 0, bigOf p.value, bigOf p.value, bigOf p.value, ()) = _
  unfold ref10_ends_l1
  refine (run_loopI p.shares (fun (i : Nat) (z : Int × Int × Int) => (p.shares, (p.shares.length : Int), (i : Int), ref10_Big.mk 0 0, ref10_Big.mk 0 0, ref10_Big.mk 0 0, bigOf z.1, bigOf z.2.1, bigOf z.2.2, ())) (fun _ x z => .inr (z.1 + x.lo, z.2.1 + x.sum, z.2.2 + x.hi)) (fun z => some (bigOf z.1, bigOf z.2.1, bigOf z.2.2))
    (fun i z => i ≤ 98 ∧ (-(9223372036854775808 * (i + 1 : Int)) ≤ z.1 ∧ z.1 ≤ 9223372036854775808 * (i + 1 : Int)) ∧ (-(9223372036854775808 * (i + 1 : Int)) ≤ z.2.1 ∧ z.2.1 ≤ 9223372036854775808 * (i + 1 : Int)) ∧ (-(9223372036854775808 * (i + 1 : Int)) ≤ z.2.2 ∧ z.2.2 ≤ 9223372036854775808 * (i + 1 : Int))) (fun i z x z' hx hz hs => ?_) (fun r i z x hx hi hz => ?_) (fun r z _ => ?_) n 0 (p.value, p.value, p.value) (Nat.zero_le _) (by omega) (by have := hp.1; simp only; omega)).trans ?_
  · simp only [Sum.inr.injEq] at hs
    have hi := (List.getElem?_eq_some_iff.1 hx).1
    have := hp.2 x (List.mem_of_getElem? hx)
    subst hs
    simp only
    rw [show ((i + 1 : Nat) : Int) = (i : Int) + 1 from by omega]
    omega
  · have hxx := hp.2 x (List.mem_of_getElem? hx)
    simp only [lt_dec hi, cond_true, idx_nat, hx, Option.bind_some, bof_eq, wrap_succ (show i < 4611686018427387904 by omega)]
    rw [bplus_eq n (by omega) (by omega), bplus_eq n (by omega) (by omega), bplus_eq n (by omega) (by omega)]
    rfl
  · simp only [ge_dec (Nat.lt_irrefl _), cond_false]
  · have key : ∀ (l : List Share) (i : Nat) (z : Int × Int × Int), runL (fun (_ : Nat) (x : Share) (z : Int × Int × Int) => (.inr (z.1 + x.lo, z.2.1 + x.sum, z.2.2 + x.hi) : Option (ref10_Big × ref10_Big × ref10_Big) ⊕ (Int × Int × Int))) (fun z => some (bigOf z.1, bigOf z.2.1, bigOf z.2.2)) l i z = some (bigOf (z.1 + (l.map (·.lo)).sum), bigOf (z.2.1 + (l.map (·.sum)).sum), bigOf (z.2.2 + (l.map (·.hi)).sum)) := by
      intro l
      induction l with
      | nil => intro i z; simp [runL]
      | cons x t ih =>
        intro i z
        simp only [runL, ih, List.map_cons, List.sum_cons]
        rw [Int.add_assoc, Int.add_assoc, Int.add_assoc]
    rw [List.drop_zero, key]
    rfl
end
end Go.Proofs.Ytfidbgcdjmhjnaa
