/- Regions that draw their order, in general: each operation takes things of one's own and leaves some; whatever order. -/
import Derived.Test.YtfidbgcdjmhjnaaOwn
namespace Go.Bur
open Go.RowKit
set_option linter.unusedVariables false
set_option linter.unusedSimpArgs false

section
variable {P : Program} {ops : Array Oper} {Q : Exit → Act → World → Prop}

/-- The bare induction over all orders. -/
theorem c_region_abs {c : Code} {a : Act} {w : World} (ops : Array Oper) (J : (Nat → Bool) → Act → World → Prop) (hm : P.follows .mixedOrders = true) (hc : c = .region (regI c) ops true)
    (hb : ((List.range ops.size).all fun i => (predsOf ops i).all fun j => Nat.blt j i) = true)
    (h0 : J (fun _ => false) a { w with drawn := w.drawn + 1 })
    (step : ∀ S i a w, J S a w → i < ops.size → S i = false → (∀ j ∈ predsOf ops i, S j = true) → (∀ k, S k = true → k < ops.size ∧ ∀ j ∈ predsOf ops k, S j = true) → wpOp P ops Q i (fun a' w' => J (fun k => if k = i then true else S k) a' w') a w)
    (fin : ∀ S a w, J S a w → (∀ k, k < ops.size → S k = true) → Q .normal a w) : c.wp P Q a w := by
  rw [hc]
  have hback : ∀ i, i < ops.size → ∀ j ∈ predsOf ops i, j < i := fun i hi j hj => by
    have := List.all_eq_true.1 (List.all_eq_true.1 hb i (List.mem_range.2 hi)) j hj
    exact Nat.blt_eq ▸ this
  have main : ∀ fuel (listed : Array Bool) a w, listed.size = ops.size → listed.toList.count false = fuel → J (fun k => listed.getD k false) a w → (∀ k, listed.getD k false = true → k < ops.size ∧ ∀ j ∈ predsOf ops k, listed.getD j false = true) → wpAny P .any ops Q fuel listed a w := by
    intro fuel
    induction fuel with
    | zero =>
      intro listed a w hs hcnt hJ _
      have hall : ∀ k, k < ops.size → listed.getD k false = true := fun k hk => by
        have hlt : k < listed.size := by omega
        have hno := List.count_eq_zero.1 hcnt
        cases hlk : listed[k] with
        | true => simp [hlt, hlk]
        | false => exact absurd (by rw [← hlk]; simp) hno
      refine ⟨?_, fin _ a w hJ hall⟩
      rw [List.eq_nil_iff_forall_not_mem]
      intro j hj
      obtain ⟨h1, o, ho, _⟩ := mem_ready.1 hj
      have hlt := (Array.getElem?_eq_some_iff.1 ho).1
      have := hall j hlt
      have hls : j < listed.size := by omega
      simp [hls] at h1 this
      rw [h1] at this; cases this
    | succ fuel ih =>
      intro listed a w hs hcnt hJ hclo
      refine ⟨fun hr => ?_, fun i hi => ?_⟩
      · exfalso
        have hex : ∃ j, j < ops.size ∧ listed.getD j false = false := by
          have : 0 < listed.toList.count false := by omega
          obtain ⟨k, hk, hkf⟩ := List.getElem_of_mem (List.count_pos_iff.1 this)
          refine ⟨k, by simpa [hs] using hk, ?_⟩
          have hlt : k < listed.size := by simpa using hk
          simp [hlt]; simpa using hkf
        obtain ⟨j, hj, hjf⟩ := hex
        have : ∀ k, k < ops.size → listed.getD k false = false → False := by
          intro k
          induction k using Nat.strongRecOn with
          | _ k ihk =>
            intro hk hkf
            obtain ⟨o, ho⟩ : ∃ o, ops[k]? = some o := ⟨_, Array.getElem?_eq_getElem hk⟩
            have hlk : k < listed.size := by omega
            have hkr : k ∈ Region.ready .any ops listed := by
              rw [mem_ready]
              refine ⟨by simp [hlk] at hkf ⊢; exact hkf, o, ho, fun e he hbd => ?_⟩
              have hlt := hback k hk e.on (by
                unfold predsOf
                rw [ho]
                exact List.mem_map.2 ⟨e, List.mem_filter.2 ⟨by simpa using he, hbd⟩, rfl⟩)
              cases hle : listed.getD e.on false
              · exact (ihk e.on hlt (by omega) hle).elim
              · rfl
            rw [hr] at hkr; cases hkr
        exact this j hj hjf
      · obtain ⟨hun, o, ho, hall⟩ := mem_ready.1 hi
        have his : i < ops.size := (Array.getElem?_eq_some_iff.1 ho).1
        have hil : i < listed.size := by omega
        have hun' : listed.getD i false = false := by simp [hil] at hun ⊢; exact hun
        have hpr : ∀ j ∈ predsOf ops i, listed.getD j false = true := fun j hj => by
          unfold predsOf at hj
          rw [ho] at hj
          obtain ⟨e, he, hon⟩ := List.mem_map.1 hj
          obtain ⟨he1, he2⟩ := List.mem_filter.1 he
          have h1 := hall e (by simpa using he1) he2
          rw [hon] at h1
          exact h1
        have hset : (fun k => (listed.setIfInBounds i true).getD k false) = fun k => if k = i then true else listed.getD k false := by
          funext k
          by_cases e : i = k
          · subst e; simp [hil]
          · have e' : ¬ k = i := fun h => e h.symm
            simp [e, e']
        refine wpOp_mono (fun a2 w2 hJ2 => ih _ a2 w2 (by simpa using hs) ?_ (by rw [hset]; exact hJ2) fun k hk => ?_) (step _ i a w hJ his hun' hpr hclo)
        · have hif : listed.toList[i]'(by simpa using hil) = false := by simpa [hil] using hun'
          have hcs := List.count_set (l := listed.toList) (a := true) (b := false) (i := i) (by simpa using hil)
          rw [hif] at hcs
          rw [Array.toList_setIfInBounds, hcs]
          have e1 : (false == false) = true := rfl
          have e2 : (true == false) = false := rfl
          simp only [e1, e2, if_true]
          rw [if_neg (by simp)]
          omega
        · have hk' : (if k = i then true else listed.getD k false) = true := by rw [← congrFun hset k]; exact hk
          have hmono : ∀ j, listed.getD j false = true → (listed.setIfInBounds i true).getD j false = true := fun j hj => by
            have := congrFun hset j
            rw [show (listed.setIfInBounds i true).getD j false = _ from this]
            split
            · rfl
            · exact hj
          by_cases e : k = i
          · subst e; exact ⟨his, fun j hj => hmono j (hpr j hj)⟩
          · rw [if_neg e] at hk'
            obtain ⟨h1, h2⟩ := hclo k hk'
            exact ⟨h1, fun j hj => hmono j (h2 j hj)⟩
  refine wp_region_any hm (main _ _ a _ (by simp) (by simp) ?_ fun k hk => ?_)
  · have : (fun k => (Array.replicate ops.size false).getD k false) = fun _ => false := by
      funext k
      by_cases h : k < ops.size <;> simp [h]
    rw [this]; exact h0
  · exfalso
    by_cases h : k < ops.size <;> simp [h] at hk

/-- What one operation does, told as a walk of that one operation. -/
theorem Oper.wp_then {o : Oper} {a : Act} {w : World} {K : Act → World → Prop} (hK : ∀ a' w', K a' w' → a'.defers = []) (h : o.wp P a w K (Exit.then K Q)) : o.wp P a w (fun a' w' => (∃ v, a' = a.put o.dst v) ∧ K a' w') Q := by
  unfold Oper.wp at *
  generalize (execOp a.eval o).run P w = r at *
  have lo : LetsOut (Exit.then K Q) → LetsOut Q := fun ⟨a, w, h⟩ => ⟨a, w, h⟩
  cases r with
  | ok x w' =>
    cases x with
    | value v => exact ⟨⟨v, rfl⟩, h⟩
    | skip => exact ⟨⟨undef, rfl⟩, h⟩
    | defer d =>
      exfalso
      have := hK _ _ h
      cases ho : o.dst <;> simp [ho, Act.put] at this
    | enter f args =>
      refine Calls.mono h fun e w'' he => ?_
      cases e with
      | returned v => exact ⟨⟨v, rfl⟩, he⟩
      | panicked c => exact he
      | outgrown => exact lo he
    | row r args => exact Rows.mono h fun v w'' he => ⟨⟨v, rfl⟩, he⟩
    | _ => exact h
  | halt x w' => cases x <;> first | exact h | exact h.elim
theorem wpOp_of_list {i : Nat} {a : Act} {w : World} {K : Act → World → Prop} (hi : i < ops.size) (hK : ∀ a' w', K a' w' → a'.defers = []) (h : wpList P ops (Exit.then K Q) (sg ops i (i + 1)) a w) : wpOp P ops Q i (fun a' w' => (∃ v, a' = a.put (dstOf ops i) v) ∧ K a' w') a w := by
  obtain ⟨o, ho⟩ : ∃ o, ops[i]? = some o := ⟨_, Array.getElem?_eq_getElem hi⟩
  rw [sg_at ho (by simp [Nat.blt_eq])] at h
  have hsg : sg ops (i + 1) (i + 1) = [] := by simp [sg]
  rw [hsg] at h
  unfold wpList at h
  unfold wpOp
  have hd : dstOf ops i = o.dst := by simp [dstOf, ho]
  rw [ho, hd]
  simp only
  have lo : LetsOut (Exit.then K Q) → LetsOut Q := fun ⟨a, w, h⟩ => ⟨a, w, h⟩
  split
  · rename_i hw
    rw [if_pos hw] at h
    exact h.imp (Oper.wp_then hK) fun h => ⟨h.1, lo h.2⟩
  · rename_i hw
    rw [if_neg hw] at h
    exact ⟨⟨undef, rfl⟩, h⟩
end

/-! ### Tokens: what each operation takes and leaves -/
inductive NS where
  | val (v : Value)
  | q (X : (Nat → Value) → Value → List Asn → List (World → Prop) → Prop)
def NS.ds : NS → DS
  | .val v => .val v
  | .q _ => .q fun _ _ _ => True
def NS.X : NS → (Nat → Value) → Value → List Asn → List (World → Prop) → Prop
  | .val v => fun _ x A p => x = v ∧ A = [] ∧ p = []
  | .q X => X
def specX (D : List NS) (i : Nat) : (Nat → Value) → Value → List Asn → List (World → Prop) → Prop := match D[i]? with
  | some x => x.X
  | none => fun _ _ _ _ => False
def maskV (ops : Array Oper) (j : Nat) (V : Nat → Value) : Nat → Value := fun k => match memN (predsOf ops j) k with
  | true => V k
  | false => undef
def netC (cs : List (List Nat × List Nat)) (i : Nat) : List Nat := match cs[i]? with
  | some x => x.1
  | none => []
def netU (cs : List (List Nat × List Nat)) (i : Nat) : List Nat := match cs[i]? with
  | some x => x.2
  | none => []
abbrev Tok := Nat → List Asn × List (World → Prop)
def tokA (I : Tok) (l : List Nat) : List Asn := l.flatMap fun t => (I t).1
def tokP (I : Tok) (l : List Nat) : List (World → Prop) := l.flatMap fun t => (I t).2
def ndN : List Nat → Bool
  | [] => true
  | x :: r => match memN r x with
    | true => false
    | false => ndN r
theorem ndN_iff : ∀ {l : List Nat}, ndN l = true → l.Nodup
  | [], _ => List.nodup_nil
  | x :: r, h => by
    simp only [ndN] at h
    split at h
    · cases h
    · rename_i hm
      refine List.nodup_cons.2 ⟨fun hx => ?_, ndN_iff h⟩
      rw [memN_iff.2 hx] at hm; cases hm
def netOk (ops : Array Oper) (n m : Nat) (cs : List (List Nat × List Nat)) (fl : List Nat) : Bool :=
  ((List.range ops.size).all fun i => (predsOf ops i).all fun j => Nat.blt j i) &&
  ((List.range ops.size).all fun i => match dstOf ops i with
    | some d => Nat.blt d n && (List.range ops.size).all fun k => match dstOf ops k with
      | some e => match Nat.beq d e with
        | true => Nat.beq i k
        | false => true
      | none => true
    | none => true) &&
  ((List.range ops.size).all fun i => ndN (netC cs i ++ netU cs i) &&
    ((netC cs i ++ netU cs i).all fun t => Nat.blt t (ops.size + m) && match Nat.blt t ops.size with
      | true => memN (anc ops i (predsOf ops i)) t
      | false => true) &&
    ((netC cs i).all fun t => (List.range ops.size).all fun k => match memN (netC cs k) t with
      | true => Nat.beq k i
      | false => true) &&
    ((netU cs i).all fun t => (List.range ops.size).all fun k => match memN (netC cs k) t with
      | true => memN (anc ops k (predsOf ops k)) i
      | false => true)) &&
  (ndN fl && fl.all fun t => Nat.blt t (ops.size + m) && (List.range ops.size).all fun k => match memN (netC cs k) t with
    | true => false
    | false => true)

section
variable {P : Program} {ops : Array Oper} {Q : Exit → Act → World → Prop} {C : Cx} {n : Nat} {a : Act} {w : World} {L : Env} {As : List Asn} {Ps : List (World → Prop)}

/-- What one operation must come to. -/
def NetPost (ops : Array Oper) (n : Nat) (D : List NS) (i : Nat) (V : Nat → Value) (R F : List Nat) (w0 : World) (As UA : List Asn) (a' : Act) (w' : World) : Prop :=
  ∃ A' P', specX D i (maskV ops i V) (slotV ops a' i) A' P' ∧ Sy ⟨R, F, w0⟩ n a' w' [] (A' ++ (As ++ UA)) P'
def StepN (P : Program) (ops : Array Oper) (Q : Exit → Act → World → Prop) (n : Nat) (D : List NS) (cs : List (List Nat × List Nat)) (T0 : List Asn) (L : Env) (As : List Asn) (Ps : List (World → Prop)) (i : Nat) : Prop :=
  ∀ (V : Nat → Value) (I : Tok) (R : List Nat) a w, (∀ t, memN (netC cs i ++ (netU cs i ++ predsOf ops i)) t = true → Nat.blt t ops.size = true → specX D t (maskV ops t V) (V t) (I t).1 (I t).2) →
    (∀ t A, T0[t]? = some A → I (ops.size + t) = ([A], [])) → ∀ CA UA PF, CA = tokA I (netC cs i) → UA = tokA I (netU cs i) → PF = tokP I (netC cs i ++ netU cs i) →
    Sy ⟨R, fps (As ++ (CA ++ UA)), w⟩ n a w (envD ops (D.map NS.ds) V (predsOf ops i) ++ extAt ops ops.size i L) (As ++ (CA ++ UA)) (PF ++ Ps) →
    wpList P ops (Exit.then (NetPost ops n D i V R (fps (As ++ (CA ++ UA))) w As UA) Q) (sg ops i (i + 1)) a w

theorem n_end {D : List NS} {i : Nat} {V : Nat → Value} {R F : List Nat} {w0 : World} {UA Bs : List Asn} {Qs : List (World → Prop)} (hS : Sy ⟨R, F, w0⟩ n a w L Bs Qs) (v : Value) (A' : List Asn) (P' : List (World → Prop)) (pk qs : List Nat)
    (hv : (match dstOf ops i with | some d => (match hasK L d with | true => some (lk L d) | false => none) | none => some undef) = some v)
    (hp : (match pickA pk Bs with | some (p, _) => some p | none => none) = some (A' ++ (As ++ UA))) (hq : pickP Qs qs = some P')
    (hX : specX D i (maskV ops i V) v A' P') : Exit.then (NetPost ops n D i V R F w0 As UA) Q .normal a w := by
  refine ⟨A', P', ?_, ?_⟩
  · have : slotV ops a i = v := by
      unfold slotV
      cases hd : dstOf ops i with
      | none => rw [hd] at hv; exact someI' hv
      | some d =>
        rw [hd] at hv
        simp only at hv ⊢
        split at hv
        · rename_i hk
          obtain rfl := someI' hv
          exact hS.has.get d hk
        · cases hv
    rw [this]; exact hX
  · split at hp
    · rename_i p r hpk
      obtain rfl := someI' hp
      have h1 := (hS.perm (pickA_perm hpk)).sub (pickP_mem hq)
      exact ⟨⟨h1.has.size, h1.has.defers, fun t ht => by simp [hasK] at ht⟩, h1.st, h1.keep, h1.old⟩
    · cases hp

def liveB (ops : Array Oper) (cs : List (List Nat × List Nat)) (S : Nat → Bool) (t : Nat) : Bool :=
  (match Nat.blt t ops.size with | true => S t | false => true) && (List.range ops.size).all fun k => !(S k && memN (netC cs k) t)
theorem liveB_iff {cs : List (List Nat × List Nat)} {S : Nat → Bool} {t : Nat} : liveB ops cs S t = true ↔ (t < ops.size → S t = true) ∧ ∀ k, k < ops.size → S k = true → t ∉ netC cs k := by
  unfold liveB
  rw [Bool.and_eq_true]
  refine and_congr ?_ ?_
  · cases hb : Nat.blt t ops.size with
    | true =>
      have : t < ops.size := Nat.blt_eq ▸ hb
      simp [this]
    | false =>
      have : ¬ t < ops.size := fun h => by rw [show Nat.blt t ops.size = true from Nat.blt_eq ▸ h] at hb; cases hb
      simp [this]
  · rw [List.all_eq_true]
    constructor
    · intro h k hk hs hm
      have := h k (List.mem_range.2 hk)
      rw [hs, memN_iff.2 hm] at this; cases this
    · intro h k hk
      cases hs : S k with
      | false => rfl
      | true =>
        cases hm : memN (netC cs k) t with
        | false => rfl
        | true => exact absurd (memN_iff.1 hm) (h k (List.mem_range.1 hk) hs)
def liveL (ops : Array Oper) (m : Nat) (cs : List (List Nat × List Nat)) (S : Nat → Bool) : List Nat := (List.range (ops.size + m)).filter (liveB ops cs S)
theorem mem_live {m : Nat} {cs : List (List Nat × List Nat)} {S : Nat → Bool} {t : Nat} : t ∈ liveL ops m cs S ↔ t < ops.size + m ∧ (t < ops.size → S t = true) ∧ ∀ k, k < ops.size → S k = true → t ∉ netC cs k := by
  unfold liveL
  rw [List.mem_filter, List.mem_range, liveB_iff]
theorem tokA_append (I : Tok) (l m : List Nat) : tokA I (l ++ m) = tokA I l ++ tokA I m := by simp [tokA]
theorem tokA_perm {I : Tok} {l m : List Nat} (h : l.Perm m) : (tokA I l).Perm (tokA I m) := h.flatMap_right _
theorem tokA_congr {I I' : Tok} : ∀ {l : List Nat}, (∀ t ∈ l, I t = I' t) → tokA I l = tokA I' l
  | [], _ => rfl
  | t :: l, h => by
    show (I t).1 ++ tokA I l = (I' t).1 ++ tokA I' l
    rw [h t (List.mem_cons_self ..), tokA_congr fun s hs => h s (List.mem_cons_of_mem _ hs)]
theorem mem_tokP {I : Tok} {l : List Nat} {q : World → Prop} : q ∈ tokP I l ↔ ∃ t ∈ l, q ∈ (I t).2 := by simp [tokP, List.mem_flatMap]
theorem range_toks {α : Type} : ∀ (l : List α), ((List.range l.length).flatMap fun i => (l[i]?).toList) = l
  | [] => rfl
  | x :: l => by
    rw [List.length_cons, List.range_succ_eq_map, List.flatMap_cons, List.flatMap_map]
    have := range_toks l
    simpa using this
theorem split_perm {l Z : List Nat} (hl : l.Nodup) (hz : Z.Nodup) (hs : ∀ t ∈ Z, t ∈ l) : l.Perm (Z ++ l.filter fun t => !memN Z t) := by
  refine (List.perm_ext_iff_of_nodup hl ?_).2 fun t => ?_
  · refine List.nodup_append.2 ⟨hz, hl.filter _, fun x hx y hy e => ?_⟩
    subst e
    have := (List.mem_filter.1 hy).2
    rw [memN_iff.2 hx] at this; cases this
  · rw [List.mem_append, List.mem_filter]
    constructor
    · intro h
      by_cases hm : t ∈ Z
      · exact .inl hm
      · refine .inr ⟨h, ?_⟩
        cases hb : memN Z t
        · rfl
        · exact absurd (memN_iff.1 hb) hm
    · rintro (h | h)
      · exact hs t h
      · exact h.1

structure NetJ (ops : Array Oper) (n : Nat) (C : Cx) (D : List NS) (cs : List (List Nat × List Nat)) (T0 As : List Asn) (L : Env) (Ps : List (World → Prop)) (S : Nat → Bool) (a : Act) (w : World) (I : Tok) : Prop where
  asz : a.tmps.size = n
  dfr : a.defers = []
  old : ∀ s, hasK L s = true → (∀ k, k < ops.size → dstOf ops k = some s → S k = false) → a.tmps.getD s undef = lk L s
  spec : ∀ j, j < ops.size → S j = true → specX D j (maskV ops j (slotV ops a)) (slotV ops a j) (I j).1 (I j).2
  tok : ∀ t A, T0[t]? = some A → I (ops.size + t) = ([A], [])
  st : St C.R w (As ++ tokA I (liveL ops T0.length cs S)) (tokP I ((List.range ops.size).filter S) ++ Ps)
  keep : Keep C.F C.w0 w
  fp : ∀ b ∈ fps (As ++ tokA I (liveL ops T0.length cs S)), b ∈ C.F ∨ C.w0.heap.size ≤ b

theorem perm_ins {α : Type} (A : List α) (B X Y : List α) : (A ++ (B ++ X) ++ Y).Perm (B ++ (A ++ (X ++ Y))) := by
  have h : (A ++ B).Perm (B ++ A) := List.perm_append_comm
  have := h.append_right (X ++ Y)
  simpa [List.append_assoc] using this

/-- One operation's step of the invariant. -/
theorem netJ_step {D : List NS} {cs : List (List Nat × List Nat)} {T0 fl : List Asn} {S : Nat → Bool} {I : Tok} {i : Nat} (hi : i < ops.size) (hSi : S i = false)
    (hpr : ∀ j ∈ predsOf ops i, S j = true) (hclo : ∀ k, S k = true → k < ops.size ∧ ∀ j ∈ predsOf ops k, S j = true)
    (hdist : ∀ i k d, i < ops.size → k < ops.size → dstOf ops i = some d → dstOf ops k = some d → i = k)
    (hnd : (netC cs i ++ netU cs i).Nodup) (hin : ∀ t ∈ netC cs i ++ netU cs i, t ∈ liveL ops T0.length cs S) (hself : ∀ k, k < ops.size → i ∈ netC cs k → k ≠ i ∧ S k = false)
    (hJ : NetJ ops n C D cs T0 As L Ps S a w I) {R : List Nat} {a' : Act} {w' : World} {v : Value}
    (hR : R = C.R ++ fps (tokA I ((liveL ops T0.length cs S).filter fun t => !memN (netC cs i ++ netU cs i) t)))
    (ha : a' = a.put (dstOf ops i) v) (hp : NetPost ops n D i (slotV ops a) R (fps (As ++ (tokA I (netC cs i) ++ tokA I (netU cs i)))) w As (tokA I (netU cs i)) a' w') :
    ∃ I', NetJ ops n C D cs T0 As L Ps (fun k => if k = i then true else S k) a' w' I' := by
  obtain ⟨A', P', hX, hSy⟩ := hp
  subst hR
  generalize hrest : ((liveL ops T0.length cs S).filter fun t => !memN (netC cs i ++ netU cs i) t) = rest at hSy
  have hlnd : (liveL ops T0.length cs S).Nodup := List.nodup_range.filter _
  have hsplit : (liveL ops T0.length cs S).Perm ((netC cs i ++ netU cs i) ++ rest) := hrest ▸ split_perm hlnd hnd hin
  have hpm : (As ++ tokA I (liveL ops T0.length cs S)).Perm ((As ++ (tokA I (netC cs i) ++ tokA I (netU cs i))) ++ ([] ++ tokA I rest)) := by
    have := (tokA_perm (I := I) hsplit).append_left As
    rw [tokA_append, tokA_append] at this
    simpa [List.append_assoc] using this
  have hb := (hJ.st.perm hpm).back hSy.st hSy.keep hSy.old
  have hst := hb.2 rfl
  have hne : ∀ j, j < ops.size → j ≠ i → slotV ops a' j = slotV ops a j := fun j hj hji => by
    unfold slotV
    cases hdj : dstOf ops j with
    | none => rfl
    | some d' =>
      subst ha
      cases hdi : dstOf ops i with
      | none => rfl
      | some d =>
        have : d ≠ d' := fun e => hji (hdist j i d' hj hi hdj (e ▸ hdi))
        simp [Act.put, this]
  have hSne : ∀ j, S j = true → j ≠ i := fun j hj e => by rw [e, hSi] at hj; cases hj
  have hmask : ∀ j, (∀ k ∈ predsOf ops j, S k = true) → maskV ops j (slotV ops a') = maskV ops j (slotV ops a) := fun j hj => by
    funext k
    unfold maskV
    cases hm : memN (predsOf ops j) k with
    | false => rfl
    | true =>
      have hk := hj k (memN_iff.1 hm)
      exact hne k (hclo k hk).1 (hSne k hk)
  let I' : Tok := fun t => if t = i then (A', P') else I t
  have hI' : ∀ t, t ≠ i → I' t = I t := fun t h => if_neg h
  have hIi : I' i = (A', P') := if_pos rfl
  have hmemU : ∀ t ∈ netU cs i, t ≠ i := fun t ht e => by
    have h1 := (mem_live.1 (hin t (List.mem_append_right _ ht))).2.1
    rw [e] at h1
    rw [h1 hi] at hSi; cases hSi
  have hmemR : ∀ t ∈ rest, t ≠ i := fun t ht e => by
    rw [← hrest] at ht
    have h1 := (mem_live.1 (List.mem_filter.1 ht).1).2.1
    rw [e] at h1
    rw [h1 hi] at hSi; cases hSi
  have hlive' : (liveL ops T0.length cs fun k => if k = i then true else S k).Perm (i :: (netU cs i ++ rest)) := by
    refine (List.perm_ext_iff_of_nodup (List.nodup_range.filter _) ?_).2 fun t => ?_
    · have h1 := hsplit.nodup_iff.1 hlnd
      rw [List.append_assoc] at h1
      have h2 := (List.nodup_append.1 h1).2.1
      refine List.nodup_cons.2 ⟨fun hm => ?_, h2⟩
      rcases List.mem_append.1 hm with hm | hm
      · exact hmemU i hm rfl
      · exact hmemR i hm rfl
    · show t ∈ liveL ops T0.length cs (fun k => if k = i then true else S k) ↔ _
      rw [mem_live, List.mem_cons, List.mem_append]
      constructor
      · rintro ⟨h1, h2, h3⟩
        by_cases e : t = i
        · exact .inl e
        · refine .inr ?_
          have hl : t ∈ liveL ops T0.length cs S := mem_live.2 ⟨h1, fun h => by have := h2 h; rwa [if_neg e] at this, fun k hk hs => h3 k hk (by split <;> first | rfl | exact hs)⟩
          have hnc : t ∉ netC cs i := h3 i hi (if_pos rfl)
          by_cases hu : t ∈ netU cs i
          · exact .inl hu
          · refine .inr ?_
            rw [← hrest]
            refine List.mem_filter.2 ⟨hl, ?_⟩
            cases hm : memN (netC cs i ++ netU cs i) t
            · rfl
            · rcases List.mem_append.1 (memN_iff.1 hm) with h | h
              · exact absurd h hnc
              · exact absurd h hu
      · have lift : ∀ t, t ∈ liveL ops T0.length cs S → t ∉ netC cs i → t < ops.size + T0.length ∧ (t < ops.size → (if t = i then true else S t) = true) ∧ ∀ k, k < ops.size → (if k = i then true else S k) = true → t ∉ netC cs k := fun t ht hnc => by
          obtain ⟨h1, h2, h3⟩ := mem_live.1 ht
          refine ⟨h1, fun h => by split <;> first | rfl | exact h2 h, fun k hk hs => ?_⟩
          by_cases e : k = i
          · rw [e]; exact hnc
          · rw [if_neg e] at hs; exact h3 k hk hs
        rintro (rfl | h | h)
        · refine ⟨by omega, fun _ => if_pos rfl, fun k hk hs hm => ?_⟩
          obtain ⟨h1, h2⟩ := hself k hk hm
          rw [if_neg h1, h2] at hs; cases hs
        · exact lift t (hin t (List.mem_append_right _ h)) fun hc => (List.nodup_append.1 hnd).2.2 t hc t h rfl
        · rw [← hrest] at h
          obtain ⟨h1, h2⟩ := List.mem_filter.1 h
          refine lift t h1 fun hc => ?_
          rw [memN_iff.2 (List.mem_append_left _ hc)] at h2; cases h2
  have htA : (tokA I' (liveL ops T0.length cs fun k => if k = i then true else S k)).Perm (A' ++ (tokA I (netU cs i) ++ tokA I rest)) := by
    have := tokA_perm (I := I') hlive'
    have e : tokA I' (i :: (netU cs i ++ rest)) = A' ++ (tokA I (netU cs i) ++ tokA I rest) := by
      show (I' i).1 ++ tokA I' (netU cs i ++ rest) = _
      rw [hIi, tokA_append, tokA_congr (I := I') (I' := I) fun t ht => hI' t (hmemU t ht), tokA_congr (I := I') (I' := I) fun t ht => hI' t (hmemR t ht)]
    rwa [e] at this
  have hpm2 : ((A' ++ (As ++ tokA I (netU cs i))) ++ ([] ++ tokA I rest)).Perm (As ++ tokA I' (liveL ops T0.length cs fun k => if k = i then true else S k)) := by
    have h1 := (htA.symm).append_left As
    exact (perm_ins A' As (tokA I (netU cs i)) (tokA I rest)).trans h1
  refine ⟨I', hSy.has.size, hSy.has.defers, fun s hs hno => ?_, fun j hj hSj => ?_, fun t A hA => ?_, ?_, ?_, ?_⟩
  · have h1 := hJ.old s hs fun k hk hkd => by
      have := hno k hk hkd
      split at this
      · cases this
      · exact this
    rw [← h1, ha]
    cases hdi : dstOf ops i with
    | none => rfl
    | some d =>
      have : d ≠ s := fun e => by
        have := hno i hi (e ▸ hdi)
        rw [if_pos rfl] at this; cases this
      simp [Act.put, this]
  · by_cases e : j = i
    · subst e
      rw [hIi, hmask j hpr]; exact hX
    · rw [if_neg e] at hSj
      rw [hI' j e, hne j hj e, hmask j (hclo j hSj).2]
      exact hJ.spec j hj hSj
  · rw [hI' _ (by omega)]; exact hJ.tok t A hA
  · have h1 := hst.perm hpm2
    refine St.sub (Bs := []) (by rw [List.append_nil]; exact h1) fun q hq => ?_
    rcases List.mem_append.1 hq with hq | hq
    · obtain ⟨t, ht, hq⟩ := mem_tokP.1 hq
      obtain ⟨ht1, ht2⟩ := List.mem_filter.1 ht
      by_cases e : t = i
      · rw [e, hIi] at hq; exact List.mem_append_left _ hq
      · rw [hI' t e] at hq
        have ht2 : S t = true := by simpa [e] using ht2
        exact List.mem_append_right _ (List.mem_append_left _ (mem_tokP.2 ⟨t, List.mem_filter.2 ⟨ht1, ht2⟩, hq⟩))
    · exact List.mem_append_right _ (List.mem_append_right _ hq)
  · refine hJ.keep.step hSy.keep fun x hx => hJ.fp x ?_
    rw [(fps_perm hpm).mem_iff, fps_append]
    exact List.mem_append_left _ hx
  · intro b hb
    rw [← (fps_perm hpm2).mem_iff, fps_append, List.mem_append] at hb
    rcases hb with hb | hb
    · rcases hSy.old b hb with h | h
      · exact hJ.fp b (by rw [(fps_perm hpm).mem_iff, fps_append]; exact List.mem_append_left _ h)
      · exact .inr (Nat.le_trans hJ.keep.size h)
    · exact hJ.fp b (by rw [(fps_perm hpm).mem_iff, fps_append]; exact List.mem_append_right _ hb)

theorem AllB_of {F : List Nat} {w : World} : ∀ {l : List (World → Prop)}, (∀ p ∈ l, Bx F w p) → AllB F w l
  | [], _ => trivial
  | p :: r, h => ⟨h p (List.mem_cons_self ..), AllB_of fun q hq => h q (List.mem_cons_of_mem _ hq)⟩
theorem AllP_of {w : World} : ∀ {l : List (World → Prop)}, (∀ p ∈ l, p w) → AllP w l
  | [], _ => trivial
  | p :: r, h => ⟨h p (List.mem_cons_self ..), AllP_of fun q hq => h q (List.mem_cons_of_mem _ hq)⟩
theorem ds_at {D : List NS} {j : Nat} {v : Value} (h : (D.map NS.ds)[j]? = some (.val v)) : D[j]? = some (.val v) := by
  rw [List.getElem?_map] at h
  cases hd : D[j]? with
  | none => rw [hd] at h; cases h
  | some x =>
    rw [hd] at h
    cases x with
    | val u =>
      simp only [Option.map_some, NS.ds, Option.some.injEq, DS.val.injEq] at h
      rw [h]
    | q X => simp only [Option.map_some, NS.ds, Option.some.injEq] at h; cases h

/-- A region that draws its order; each operation takes things of one's own and leaves some. -/
theorem r_net {c : Code} (ops : Array Oper) (D : List NS) (cs : List (List Nat × List Nat)) (T0 : List Asn) (fl : List Nat) (pl : List (Nat × List Hint)) (cl : List Nat) {ob : List (World → Prop)} (hm : P.follows .mixedOrders = true)
    (hc : c = .region (regI c) ops true) (hS : Sy C n a w L (As ++ T0) Ps) (hok : netOk ops n T0.length cs fl = true)
    (hv : drawB P n ops ops.size L As (D.map NS.ds) pl = some (pl.map (fun x => valD (D.map NS.ds) x.1), ob)) (hvD : (match Nat.beq (D.map NS.ds).length ops.size with | true => pl.all fun x => isV (D.map NS.ds) x.1 | false => false) = true)
    (hpl : ((List.range ops.size).all fun i => match memN cl i with | true => true | false => pl.any fun x => Nat.beq x.1 i && (match netC cs i with | [] => true | _ => false)) = true)
    (ho : AllB (C.fr (As ++ T0)) w ob)
    (steps : AllI (StepN P ops Q n D cs T0 L As Ps) cl)
    (fin : ∀ (V : Nat → Value) (I : Tok) a' w', (∀ t, Nat.blt t ops.size = true → specX D t (maskV ops t V) (V t) (I t).1 (I t).2) → (∀ t A, T0[t]? = some A → I (ops.size + t) = ([A], [])) → ∀ FA FP, FA = tokA I fl → FP = tokP I fl →
      Sy C n a' w' (envD ops (D.map NS.ds) V (List.range ops.size) ++ extOut ops ops.size L) (As ++ FA) (FP ++ Ps) → Q .normal a' w') : c.wp P Q a w := by
  simp only [netOk, Bool.and_eq_true] at hok
  obtain ⟨⟨⟨hk1, hk2⟩, hk3⟩, hk4⟩ := hok
  have hback : ∀ i, i < ops.size → ∀ j ∈ predsOf ops i, j < i := fun i hi j hj => Nat.blt_eq ▸ List.all_eq_true.1 (List.all_eq_true.1 hk1 i (List.mem_range.2 hi)) j hj
  have hdst : ∀ i d, i < ops.size → dstOf ops i = some d → d < n ∧ ∀ k, k < ops.size → dstOf ops k = some d → i = k := fun i d hi hd => by
    have h1 := List.all_eq_true.1 hk2 i (List.mem_range.2 hi)
    rw [hd] at h1
    simp only [Bool.and_eq_true] at h1
    refine ⟨Nat.blt_eq ▸ h1.1, fun k hk hkd => ?_⟩
    have h2 := List.all_eq_true.1 h1.2 k (List.mem_range.2 hk)
    rw [hkd] at h2
    simp only [show Nat.beq d d = true from Nat.beq_eq ▸ rfl] at h2
    exact Nat.eq_of_beq_eq_true h2
  have hlen : (D.map NS.ds).length = ops.size := by
    split at hvD
    · rename_i h; exact Nat.eq_of_beq_eq_true h
    · cases hvD
  have hall : ∀ x ∈ pl, isV (D.map NS.ds) x.1 = true := by
    split at hvD
    · exact fun x hx => List.all_eq_true.1 hvD x hx
    · cases hvD
  have hcsi : ∀ i, i < ops.size → (netC cs i ++ netU cs i).Nodup ∧ (∀ t ∈ netC cs i ++ netU cs i, t < ops.size + T0.length ∧ (t < ops.size → t ∈ anc ops i (predsOf ops i))) ∧ (∀ t ∈ netC cs i, ∀ k, k < ops.size → t ∈ netC cs k → k = i) ∧ (∀ t ∈ netU cs i, ∀ k, k < ops.size → t ∈ netC cs k → i ∈ anc ops k (predsOf ops k)) := fun i hi => by
    have h1 := List.all_eq_true.1 hk3 i (List.mem_range.2 hi)
    simp only [Bool.and_eq_true] at h1
    obtain ⟨⟨⟨h1, h2⟩, h3⟩, h4⟩ := h1
    refine ⟨ndN_iff h1, fun t ht => ?_, fun t ht k hk hkt => ?_, fun t ht k hk hkt => ?_⟩
    · have := List.all_eq_true.1 h2 t ht
      rw [Bool.and_eq_true] at this
      refine ⟨Nat.blt_eq ▸ this.1, fun hlt => ?_⟩
      have h5 := this.2
      rw [show Nat.blt t ops.size = true from Nat.blt_eq ▸ hlt] at h5
      exact memN_iff.1 h5
    · have := List.all_eq_true.1 (List.all_eq_true.1 h3 t ht) k (List.mem_range.2 hk)
      rw [memN_iff.2 hkt] at this
      exact Nat.eq_of_beq_eq_true this
    · have := List.all_eq_true.1 (List.all_eq_true.1 h4 t ht) k (List.mem_range.2 hk)
      rw [memN_iff.2 hkt] at this
      exact memN_iff.1 this
  -- the invariant: the state, and the facts that the pure operations lean on
  refine c_region_abs ops (fun S a w => ∃ I, NetJ ops n C D cs T0 As L (ob ++ Ps) S a w I) hm hc hk1 ?_ ?_ ?_
  · -- ahead
    have h0 : liveL ops T0.length cs (fun _ => false) = (List.range T0.length).map (ops.size + ·) := by
      unfold liveL
      rw [List.range_add, List.filter_append]
      have e1 : (List.range ops.size).filter (liveB ops cs fun _ => false) = [] := by
        rw [List.filter_eq_nil_iff]
        intro t ht hb
        have := (liveB_iff.1 hb).1 (List.mem_range.1 ht)
        cases this
      have e2 : ((List.range T0.length).map (ops.size + ·)).filter (liveB ops cs fun _ => false) = (List.range T0.length).map (ops.size + ·) := by
        rw [List.filter_eq_self]
        intro t ht
        obtain ⟨k, _, rfl⟩ := List.mem_map.1 ht
        exact liveB_iff.2 ⟨fun h => by omega, fun _ _ h => by cases h⟩
      rw [e1, e2, List.nil_append]
    have hA0 : tokA (fun t => if t < ops.size then ([], []) else ((T0[t - ops.size]?).toList, [])) (liveL ops T0.length cs fun _ => false) = T0 := by
      rw [h0]
      unfold tokA
      rw [List.flatMap_map]
      refine Eq.trans ?_ (range_toks T0)
      congr 1
      funext t
      show (if ops.size + t < ops.size then (([], []) : List Asn × List (World → Prop)) else ((T0[ops.size + t - ops.size]?).toList, [])).1 = _
      rw [if_neg (by omega), show ops.size + t - ops.size = t from by omega]
    have he : Ext w { w with drawn := w.drawn + 1 } := Ext.drew w
    refine ⟨fun t => if t < ops.size then ([], []) else ((T0[t - ops.size]?).toList, []), hS.has.size, hS.has.defers, fun s hs _ => hS.has.get s hs, (fun j _ h => by cases h), fun t A hA => ?_, ?_, hS.keep.step (Keep.ofExt (F := []) he) (by simp), ?_⟩
    · simp [hA]
    · rw [hA0]
      have hf : (List.range ops.size).filter (fun _ => false) = [] := by simp
      rw [hf]
      have h1 := hS.st.ext he
      refine ⟨h1.own, h1.lt, h1.nd, fun p hp => ?_⟩
      simp only [tokP, List.flatMap_nil, List.nil_append, List.mem_append] at hp
      rcases hp with hp | hp
      · exact (AllB.mem ho p hp).step (Keep.ofExt (F := []) he) (by simp) fun x hx => .inl hx
      · exact h1.per p hp
    · rw [hA0]; exact hS.old
  · -- one operation
    rintro S i a1 w1 ⟨I, hJ⟩ hi hSi hpr hclo
    obtain ⟨hnd, hin0, hc1, hu1⟩ := hcsi i hi
    have hanc : ∀ k, (∀ j ∈ predsOf ops k, S j = true) → ∀ t ∈ anc ops k (predsOf ops k), S t = true := fun k hk t ht => anc_all (T := fun t => S t = true) (fun k h j hj => (hclo k h).2 j hj) k _ hk t ht
    have hin : ∀ t ∈ netC cs i ++ netU cs i, t ∈ liveL ops T0.length cs S := fun t ht => by
      obtain ⟨h1, h2⟩ := hin0 t ht
      refine mem_live.2 ⟨h1, fun hlt => hanc i hpr t (h2 hlt), fun k hk hs hkt => ?_⟩
      rcases List.mem_append.1 ht with h | h
      · rw [hc1 t h k hk hkt, hSi] at hs; cases hs
      · have := hanc k (hclo k hs).2 i (hu1 t h k hk hkt)
        rw [hSi] at this; cases this
    have hself : ∀ k, k < ops.size → i ∈ netC cs k → k ≠ i ∧ S k = false := fun k hk hik => by
      have h1 := (hcsi k hk).2.1 i (List.mem_append_left _ hik)
      have h2 := h1.2 hi
      refine ⟨fun e => ?_, ?_⟩
      · rw [e] at h2
        have := hanc i hpr i h2
        rw [hSi] at this; cases this
      · cases hs : S k
        · rfl
        · have := hanc k (hclo k hs).2 i h2
          rw [hSi] at this; cases this
    -- the state that it sees
    have hlnd : (liveL ops T0.length cs S).Nodup := List.nodup_range.filter _
    have hsplit := split_perm hlnd hnd hin
    have hpm : (As ++ tokA I (liveL ops T0.length cs S)).Perm ((As ++ (tokA I (netC cs i) ++ tokA I (netU cs i))) ++ ([] ++ tokA I ((liveL ops T0.length cs S).filter fun t => !memN (netC cs i ++ netU cs i) t))) := by
      have := (tokA_perm (I := I) hsplit).append_left As
      rw [tokA_append, tokA_append] at this
      simpa [List.append_assoc] using this
    have hfr : ∀ x ∈ C.R ++ fps (tokA I ((liveL ops T0.length cs S).filter fun t => !memN (netC cs i ++ netU cs i) t)) ++ fps (As ++ (tokA I (netC cs i) ++ tokA I (netU cs i))), x ∈ C.R ++ fps (As ++ tokA I (liveL ops T0.length cs S)) ∨ w1.heap.size ≤ x := fun x hx => .inl (by
      have h1 := (fps_perm hpm).mem_iff (a := x)
      rw [List.mem_append, h1, fps_append (_ ++ _), List.nil_append, List.mem_append]
      rw [List.mem_append, List.mem_append] at hx
      rcases hx with (hx | hx) | hx
      · exact .inl hx
      · exact .inr (.inr hx)
      · exact .inr (.inl hx))
    have hlend := (hJ.st.perm hpm).lend (Pg := tokP I (netC cs i ++ netU cs i) ++ Ps) fun p hp => by
      refine (hJ.st.per p ?_).weak hfr
      rcases List.mem_append.1 hp with hp | hp
      · obtain ⟨t, ht, hq⟩ := mem_tokP.1 hp
        obtain ⟨h1, h2⟩ := hin0 t ht
        by_cases hlt : t < ops.size
        · exact List.mem_append_left _ (mem_tokP.2 ⟨t, List.mem_filter.2 ⟨List.mem_range.2 hlt, hanc i hpr t (h2 hlt)⟩, hq⟩)
        · obtain ⟨A, hA⟩ : ∃ A, T0[t - ops.size]? = some A := ⟨_, List.getElem?_eq_getElem (by omega)⟩
          have := hJ.tok _ A hA
          rw [show ops.size + (t - ops.size) = t from by omega] at this
          rw [this] at hq
          cases hq
      · exact List.mem_append_right _ (List.mem_append_right _ hp)
    have hspec : ∀ t, memN (netC cs i ++ (netU cs i ++ predsOf ops i)) t = true → Nat.blt t ops.size = true → specX D t (maskV ops t (slotV ops a1)) (slotV ops a1 t) (I t).1 (I t).2 := fun t ht hlt => by
      have hlt : t < ops.size := Nat.blt_eq ▸ hlt
      refine hJ.spec t hlt ?_
      have ht := memN_iff.1 ht
      rw [← List.append_assoc] at ht
      rcases List.mem_append.1 ht with h | h
      · exact hanc i hpr t ((hin0 t h).2 hlt)
      · exact hpr t h
    have hhas : Has a1 n (envOf ops (slotV ops a1) (predsOf ops i) ++ extAt ops ops.size i L) := by
      refine ⟨hJ.asz, hJ.dfr, fun t ht => ?_⟩
      rw [hasK_append] at ht
      rw [lk_append]
      split
      · rename_i h1; exact envOf_get hJ.asz _ t h1
      · rename_i h1
        rw [Bool.or_eq_true] at ht
        obtain ⟨h2, h3, h4⟩ := lk_filter (fun s => keepsTill ops ops.size i s) L t (ht.resolve_left h1)
        unfold extAt
        rw [h4]
        refine hJ.old t h3 fun k hk hkd => ?_
        have h5 := List.all_eq_true.1 h2 k (List.mem_range.2 hk)
        rw [hkd] at h5
        simp only [show Nat.beq t t = true from Nat.beq_eq ▸ rfl] at h5
        cases hlk : S k
        · rfl
        · have := (hclo k hlk).2 i (memN_iff.1 h5)
          rw [hSi] at this; cases this
    have hvals : ∀ j ∈ predsOf ops i, ∀ v, (D.map NS.ds)[j]? = some (.val v) → slotV ops a1 j = v := fun j hj v hDv => by
      have h1 := hJ.spec j (Nat.lt_trans (hback i hi j hj) hi) (hpr j hj)
      unfold specX at h1
      rw [ds_at hDv] at h1
      exact h1.1
    have hA := envD_has (F := []) (N0 := 0) (D := D.map NS.ds) hhas hvals
    have hsy : Sy ⟨C.R ++ fps (tokA I ((liveL ops T0.length cs S).filter fun t => !memN (netC cs i ++ netU cs i) t)), fps (As ++ (tokA I (netC cs i) ++ tokA I (netU cs i))), w1⟩ n a1 w1 (envD ops (D.map NS.ds) (slotV ops a1) (predsOf ops i) ++ extAt ops ops.size i L) (As ++ (tokA I (netC cs i) ++ tokA I (netU cs i))) (tokP I (netC cs i ++ netU cs i) ++ Ps) :=
      ⟨hA, hlend, Keep.refl _ _, fun b hb => .inl hb⟩
    have hgo : wpOp P ops Q i (fun a' w' => (∃ v, a' = a1.put (dstOf ops i) v) ∧ NetPost ops n D i (slotV ops a1) (C.R ++ fps (tokA I ((liveL ops T0.length cs S).filter fun t => !memN (netC cs i ++ netU cs i) t))) (fps (As ++ (tokA I (netC cs i) ++ tokA I (netU cs i)))) w1 As (tokA I (netU cs i)) a' w') a1 w1 := by
      have hcov := List.all_eq_true.1 hpl i (List.mem_range.2 hi)
      cases hmem : memN cl i with
      | true =>
        refine wpOp_of_list hi (fun a' w' h => ?_) (allI_mem steps i (memN_iff.1 hmem) (slotV ops a1) I _ a1 w1 hspec (fun t A h => hJ.tok t A h) _ _ _ rfl rfl rfl hsy)
        obtain ⟨_, _, _, h⟩ := h
        exact h.has.defers
      | false =>
        rw [hmem] at hcov
        simp only [List.any_eq_true, Bool.and_eq_true] at hcov
        obtain ⟨⟨i', hs⟩, hx, hxi, hnk⟩ := hcov
        obtain rfl := Nat.eq_of_beq_eq_true hxi
        have hCn : netC cs i' = [] := by
          cases hb : netC cs i' with
          | nil => rfl
          | cons _ _ => rw [hb] at hnk; cases hnk
        obtain ⟨k, hk⟩ := List.getElem?_of_mem hx
        have hob : AllP w1 ob := AllP_of fun p hp => (hJ.st.per p (List.mem_append_right _ (List.mem_append_left _ hp))).here
        obtain ⟨o, d, v, hoi, hd, hvk, hnq, hcase⟩ := drawB_at hv hob k i' hs hk
        have hDv : (D.map NS.ds)[i']? = some (.val v) := by
          rw [List.getElem?_map, hk] at hvk
          simp only [Option.map_some, Option.some.injEq] at hvk
          rw [← hvk]
          exact isV_val (hall _ hx)
        have hdd : dstOf ops i' = some d := by simp [dstOf, hoi, hd]
        have hdn := (hdst i' d hi hdd).1
        have e1 := envD_noq (ops := ops) (D := D.map NS.ds) (V := slotV ops a1) (V' := fun _ => undef) (predsOf ops i') fun j hj => ⟨hnq j hj, by rw [hlen]; exact Nat.lt_trans (hback i' hi j hj) hi⟩
        have hA2 := hA
        rw [e1] at hA2
        have hend : ∀ a2, a2 = a1.put (some d) v → (∃ v, a2 = a1.put (dstOf ops i') v) ∧ NetPost ops n D i' (slotV ops a1) (C.R ++ fps (tokA I ((liveL ops T0.length cs S).filter fun t => !memN (netC cs i' ++ netU cs i') t))) (fps (As ++ (tokA I (netC cs i') ++ tokA I (netU cs i')))) w1 As (tokA I (netU cs i')) a2 w1 := fun a2 ha2 => by
          subst ha2
          refine ⟨⟨v, by rw [hdd]⟩, [], [], ?_, ?_⟩
          · unfold specX
            rw [ds_at hDv]
            refine ⟨?_, rfl, rfl⟩
            unfold slotV
            rw [hdd]
            have : d < a1.tmps.size := by rw [hJ.asz]; exact hdn
            simp [Act.put, this]
          · have h2 := hsy.put hdn v
            rw [hCn] at h2 ⊢
            have h3 := h2.st
            refine ⟨⟨h2.has.size, h2.has.defers, fun t ht => by simp [hasK] at ht⟩, St.sub (Bs := []) (by simpa [tokA] using h3) (by simp), h2.keep, ?_⟩
            have h4 := h2.old
            simpa [tokA] using h4
        unfold wpOp
        rw [hoi]
        simp only
        rcases hcase with ⟨hg, rfl⟩ | ⟨hg, hsel, hkn, ps, hval, hps⟩
        · simp only [gwant_sound hA2 hg, Bool.false_eq_true, if_false]
          exact hend _ (by rw [hd])
        · simp only [gwant_sound hA2 hg, if_true]
          have hrun := valA_sound (a := a1) hval hsel hps (fun A hA => hJ.st.own A (List.mem_append_left _ hA)) fun x hx => hA2.eval (List.all_eq_true.1 hkn x (Array.mem_toList_iff.2 hx))
          refine .inl ?_
          simp only [Oper.wp, hrun, Oper.upon]
          exact hend _ (by rw [hd])
    refine wpOp_mono ?_ hgo
    rintro a2 w2 ⟨⟨v, hv2⟩, hpost⟩
    exact netJ_step (fl := []) hi hSi hpr hclo (fun i k d hi hk h1 h2 => (hdst i d hi h1).2 k hk h2) hnd hin hself hJ rfl hv2 hpost
  · -- behind
    rintro S a1 w1 ⟨I, hJ⟩ hSall
    obtain ⟨hf1, hf2⟩ := hk4
    have hflnd := ndN_iff hf1
    have hfin : ∀ t ∈ fl, t ∈ liveL ops T0.length cs S := fun t ht => by
      have h1 := List.all_eq_true.1 hf2 t ht
      rw [Bool.and_eq_true] at h1
      refine mem_live.2 ⟨Nat.blt_eq ▸ h1.1, fun h => hSall t h, fun k hk _ hkt => ?_⟩
      have := List.all_eq_true.1 h1.2 k (List.mem_range.2 hk)
      rw [memN_iff.2 hkt] at this; cases this
    have hsplit := split_perm (List.nodup_range.filter _) hflnd hfin
    have hpm : (As ++ tokA I (liveL ops T0.length cs S)).Perm ((As ++ tokA I fl) ++ tokA I ((liveL ops T0.length cs S).filter fun t => !memN fl t)) := by
      have := (tokA_perm (I := I) hsplit).append_left As
      rw [tokA_append, ← List.append_assoc] at this
      exact this
    have hst := (hJ.st.perm hpm).sub (Qs := tokP I fl ++ Ps) fun q hq => by
      rcases List.mem_append.1 hq with hq | hq
      · obtain ⟨t, ht, hq⟩ := mem_tokP.1 hq
        have h1 := List.all_eq_true.1 hf2 t ht
        rw [Bool.and_eq_true] at h1
        have h1 : t < ops.size + T0.length := Nat.blt_eq ▸ h1.1
        by_cases hlt : t < ops.size
        · exact List.mem_append_left _ (mem_tokP.2 ⟨t, List.mem_filter.2 ⟨List.mem_range.2 hlt, hSall t hlt⟩, hq⟩)
        · obtain ⟨A, hA⟩ : ∃ A, T0[t - ops.size]? = some A := ⟨_, List.getElem?_eq_getElem (by omega)⟩
          have := hJ.tok _ A hA
          rw [show ops.size + (t - ops.size) = t from by omega] at this
          rw [this] at hq
          cases hq
      · exact List.mem_append_right _ (List.mem_append_right _ hq)
    have hhas : Has a1 n (envOf ops (slotV ops a1) (List.range ops.size) ++ extOut ops ops.size L) := by
      refine ⟨hJ.asz, hJ.dfr, fun t ht => ?_⟩
      rw [hasK_append] at ht
      rw [lk_append]
      split
      · rename_i h1; exact envOf_get hJ.asz _ t h1
      · rename_i h1
        rw [Bool.or_eq_true] at ht
        obtain ⟨h2, h3, h4⟩ := lk_filter (fun s => keepsOut ops ops.size s) L t (ht.resolve_left h1)
        unfold extOut
        rw [h4]
        refine hJ.old t h3 fun k hk hkd => ?_
        have h5 := List.all_eq_true.1 h2 k (List.mem_range.2 hk)
        rw [hkd] at h5
        simp only [show Nat.beq t t = true from Nat.beq_eq ▸ rfl] at h5
        cases h5
    have hA := envD_has (F := []) (N0 := 0) (D := D.map NS.ds) hhas fun j hj v hDv => by
      have hj' := List.mem_range.1 hj
      have h1 := hJ.spec j hj' (hSall j hj')
      unfold specX at h1
      rw [ds_at hDv] at h1
      exact h1.1
    refine fin (slotV ops a1) I a1 w1 (fun t ht => hJ.spec t (Nat.blt_eq ▸ ht) (hSall t (Nat.blt_eq ▸ ht))) (fun t A h => hJ.tok t A h) _ _ rfl rfl ⟨hA, hst, hJ.keep, fun b hb => hJ.fp b ?_⟩
    rw [(fps_perm hpm).mem_iff, fps_append]
    exact List.mem_append_left _ hb
theorem k_net {c : Code} (j : Nat) (D : List NS) (cs : List (List Nat × List Nat)) (As T0 : List Asn) (fl : List Nat) (pl : List (Nat × List Hint)) (cl : List Nat) {ob : List (World → Prop)} (hm : P.follows .mixedOrders = true)
    (hc : drawJ c = some j) (hS : Sy C n a w L (As ++ T0) Ps) (hok : netOk (regO c) n T0.length cs fl = true)
    (hv : drawB P n (regO c) j L As (D.map NS.ds) pl = some (pl.map (fun x => valD (D.map NS.ds) x.1), ob)) (hvD : (match Nat.beq (D.map NS.ds).length j with | true => pl.all fun x => isV (D.map NS.ds) x.1 | false => false) = true)
    (hpl : ((List.range j).all fun i => match memN cl i with | true => true | false => pl.any fun x => Nat.beq x.1 i && (match netC cs i with | [] => true | _ => false)) = true)
    (ho : AllB (C.fr (As ++ T0)) w ob)
    (steps : AllI (StepN P (regO c) Q n D cs T0 L As Ps) cl)
    (fin : ∀ (V : Nat → Value) (I : Tok) a' w', (∀ t, Nat.blt t (regO c).size = true → specX D t (maskV (regO c) t V) (V t) (I t).1 (I t).2) → (∀ t A, T0[t]? = some A → I ((regO c).size + t) = ([A], [])) → ∀ FA FP, FA = tokA I fl → FP = tokP I fl →
      Sy C n a' w' (envD (regO c) (D.map NS.ds) V (List.range j) ++ extOut (regO c) j L) (As ++ FA) (FP ++ Ps) → Q .normal a' w') : c.wp P Q a w := by
  have hc' : c = .region (regI c) (regO c) true ∧ (regO c).size = j := by
    cases c with
    | region id o d =>
      cases d with
      | true => exact ⟨rfl, someI' hc⟩
      | false => cases hc
    | _ => cases hc
  obtain ⟨h1, rfl⟩ := hc'
  exact r_net (regO c) D cs T0 fl pl cl hm h1 hS hok hv hvD hpl ho steps fin
theorem tk0 {I : Tok} {C : List Asn} (h : C = tokA I []) : C = [] := h
theorem tk1 {I : Tok} {C : List Asn} {i : Nat} {A : List Asn} (h : C = tokA I [i]) (h1 : (I i).1 = A) : C = A := by simp [h, tokA, h1]
theorem tkc {I : Tok} {C : List Asn} {i : Nat} {r : List Nat} {A B : List Asn} (h : C = tokA I (i :: r)) (h1 : (I i).1 = A) (h2 : ∀ X, X = tokA I r → X = B) : C = A ++ B := by
  rw [h]
  show (I i).1 ++ tokA I r = _
  rw [h1, h2 _ rfl]
theorem tp0 {I : Tok} {C : List (World → Prop)} (h : C = tokP I []) : C = [] := h
theorem tpc {I : Tok} {C : List (World → Prop)} {i : Nat} {r : List Nat} {A B : List (World → Prop)} (h : C = tokP I (i :: r)) (h1 : (I i).2 = A) (h2 : ∀ X, X = tokP I r → X = B) : C = A ++ B := by
  rw [h]
  show (I i).2 ++ tokP I r = _
  rw [h1, h2 _ rfl]
end
end Go.Bur
