import Derived.Test.YtlcmdgpjiendmaaGreatMp
namespace Go.Bur
open Go.RowKit
set_option linter.unusedVariables false
set_option linter.unusedSimpArgs false
open Classical in
noncomputable def pickK {R : Type} (l : List Int) (a : Option R) (f : Int → List Int → Option R) : Option R := match l with
  | [] => a
  | x :: r => if (∀ y ∈ x :: r, f y ((x :: r).filter fun z => !decide (z = y)) = f x ((x :: r).filter fun z => !decide (z = x))) then f x ((x :: r).filter fun z => !decide (z = x)) else none
theorem pickK_some {R : Type} {l : List Int} {a : Option R} {f : Int → List Int → Option R} {r : R} (h : pickK l a f = some r) : (l = [] → a = some r) ∧ ∀ y ∈ l, f y (l.filter fun z => !decide (z = y)) = some r := by
  cases l with
  | nil => exact ⟨fun _ => h, by simp⟩
  | cons x t =>
    simp only [pickK] at h
    split at h
    · rename_i hh
      exact ⟨nofun, fun y hy => (hh y hy).trans h⟩
    · cases h
section
variable {P : Program} {S : Tab} {R : Type}
def opLenM (P : Program) (S : Tab) (ev : Ev S.τ) (it : Nat → Option (Item S.τ)) : Op → Option (Int × List Nat)
  | .call c => match c.callee, c.args.toList, c.argTypes.toList with
    | .builtin .len, [x], [t] => match mapChk P t, ev x with
      | some (q, kt, et), some (.v (.one (.map j))) => match it j with
        | some (.map q2 kt2 et2 .bool l) => match ikB q q2, Nat.beq kt kt2, Nat.beq et et2 with
          | true, true, true => some (((mkeys (l : List (Int × Bool))).length : Int), [j])
          | _, _, _ => none
        | _ => none
      | _, _ => none
    | _, _, _ => none
  | _ => none
theorem opLenM_sound {o : Oper} {ev : Ev S.τ} {it : Nat → Option (Item S.τ)} {nx : Nat} {z : Int} {us : List Nat} (h : opLenM P S ev it o.op = some (z, us)) : LocSem P S o ev it nx ⟨dint .i64 z, [], [], us, 0⟩ := by
  obtain ⟨dst, op, type, pos, after, guard⟩ := o
  simp only at h
  unfold opLenM at h
  split at h
  · rename_i c
    obtain ⟨callee, ⟨args⟩, ⟨tys⟩⟩ := c
    split at h
    · rename_i x t h1 h2 h3
      simp only at h1 h2 h3
      subst h1 h2 h3
      split at h
      · rename_i q kt et j hc hx
        split at h
        · rename_i q2 kt2 et2 l hj
          split at h
          · rename_i e1 e2 e3
            obtain rfl := ikB_eq e1
            obtain rfl := Nat.eq_of_beq_eq_true e2
            obtain rfl := Nat.eq_of_beq_eq_true e3
            simp only [Option.some.injEq, Prod.mk.injEq] at h
            obtain ⟨rfl, rfl⟩ := h
            refine loc_read [j] fun a w F ρ Ps Au us hev hus hit hAu hh hps => ?_
            obtain ⟨A, rfl, _, hrel⟩ := use1 hus hit hj hAu
            obtain ⟨g, hg, rfl⟩ := map_open hrel
            obtain ⟨g', hg', hmv⟩ := hev _ _ hx
            rw [hg] at hg'
            obtain rfl := someI' hg'
            have hr := map_len (mapChk_ok hc) (hh _ (List.mem_singleton_self _)) type
            exact ⟨_, [], by simp [execOp, resolve, invoke, builtin, hmv, hr], by simp, rfl⟩
          · cases h
        · cases h
      · cases h
    · cases h
  · cases h
def opDel (P : Program) (S : Tab) (ev : Ev S.τ) (it : Nat → Option (Item S.τ)) (o : Op) (k : Out S.τ → Option R) : Option R := match o with
  | .call c => match c.callee, c.args.toList, c.argTypes.toList with
    | .builtin .delete, [m, x], [t, kt'] => match mapChk P t, ev m, asInt1 (ev x) with
      | some (q, kt, et), some (.v (.one (.map j))), some (q', i) => match it j with
        | some (.map q2 kt2 et2 .bool l) => match ikB q q', ikB q q2, Nat.beq kt kt2, Nat.beq et et2, Nat.beq kt kt' with
          | true, true, true, true, true => (mdel q (l : List (Int × Bool)) i).bind fun l' => k ⟨.tup [], [j], [(j, .map q kt et .bool l')], [], 0⟩
          | _, _, _, _, _ => none
        | _ => none
      | _, _, _ => none
    | _, _, _ => none
  | _ => none
theorem opDel_sound {o : Oper} {ev : Ev S.τ} {it : Nat → Option (Item S.τ)} {nx : Nat} {k : Out S.τ → Option R} {r : R} (h : opDel P S ev it o.op k = some r) : ∃ out, k out = some r ∧ LocSem P S o ev it nx out := by
  obtain ⟨dst, op, type, pos, after, guard⟩ := o
  simp only at h
  unfold opDel at h
  split at h
  · rename_i c
    obtain ⟨callee, ⟨args⟩, ⟨tys⟩⟩ := c
    split at h
    · rename_i m x t kt' h1 h2 h3
      simp only at h1 h2 h3
      subst h1 h2 h3
      split at h
      · rename_i q kt et j q' i hc hm hx
        split at h
        · rename_i q2 kt2 et2 l hj
          split at h
          · rename_i e1 e2 e3 e4 e5
            obtain rfl := ikB_eq e1
            obtain rfl := ikB_eq e2
            obtain rfl := Nat.eq_of_beq_eq_true e3
            obtain rfl := Nat.eq_of_beq_eq_true e4
            obtain rfl := Nat.eq_of_beq_eq_true e5
            obtain ⟨l', hl, h⟩ := bindS h
            refine ⟨_, h, ?_⟩
            intro a w R ρ Ps At Au tk us hd hev htk hus hit hAt hAu hst hn K Q hK
            have e0 : us = [] := List.map_eq_nil_iff.1 hus
            subst e0
            have e0 := All2.nil_left hAu
            subst e0
            obtain ⟨A, rfl, hrel⟩ := take1 htk (fun x hx => hit x (by simpa using hx)) hj hAt
            obtain ⟨g, hg, rfl⟩ := map_open hrel
            obtain ⟨g', hg', hmv⟩ := hev _ _ hm
            rw [hg] at hg'
            obtain rfl := someI' hg'
            have hxv := asInt1_rel hev hx
            obtain ⟨w', hrun, hh, hkeep⟩ := map_del (mapChk_ok hc) (hst.own (mapA P kt et q false (fun v => .lit (.bool v)) g.b l) (List.mem_append_left _ (List.mem_singleton_self _))) hl type
            unfold wpX
            have hr : (execOp a.eval (⟨dst, .call ⟨.builtin .delete, ⟨[m, x]⟩, ⟨[t, kt]⟩⟩, type, pos, after, guard⟩ : Oper)).run P w = .ok (.value (.tuple #[])) w' := by simp [execOp, resolve, invoke, builtin, hmv, hxv, hrun, Result.andThen]
            rw [hr]
            have hst' := hst
            rw [List.append_nil] at hst'
            refine hK _ w' ρ Ps [mapA P kt et q false (fun v => .lit (.bool v)) g.b l'] (Grow.refl _ _ _) (fun p hp => hp) ⟨[], rfl, trivial⟩ ⟨⟨g, false, Value.bool, _, hg, rfl, rfl⟩, trivial⟩ ?_ (by simpa [fps, Asn.fp] using hkeep) (fun b hb => .inl hb)
            rw [List.append_nil]
            exact St.set (B := mapA P kt et q false (fun v => .lit (.bool v)) g.b l') hst' (by simpa [Asn.fp] using hkeep) hh (fun c hc => .inl hc) (by simp [Asn.fp])
          · cases h
        · cases h
      · cases h
    · cases h
  · cases h
def opRange (P : Program) (S : Tab) (ev : Ev S.τ) (it : Nat → Option (Item S.τ)) (nx : Nat) (o : Op) (k : Out S.τ → Option R) : Option R := match o with
  | .range t x => match mapChk P t, ev x with
    | some (q, kt, et), some (.v (.one (.map j))) => match it j with
      | some (.map q2 kt2 et2 .bool l) => match ikB q q2, Nat.beq kt kt2, Nat.beq et et2 with
        | true, true, true => k ⟨.v (.one (.box nx 0)), [j], [(nx, .mit j q kt et .bool l (mkeys (l : List (Int × Bool))) none), (j, .gst)], [], 1⟩
        | _, _, _ => none
      | _ => none
    | _, _ => none
  | _ => none
abbrev nilA : Asn := .any [] (fun _ => True)
theorem nilA_holds (w : World) : nilA.holds w := fun _ _ => trivial
theorem opRange_sound {o : Oper} {ev : Ev S.τ} {it : Nat → Option (Item S.τ)} {nx : Nat} {k : Out S.τ → Option R} {r : R} (h : opRange P S ev it nx o.op k = some r) : ∃ out, k out = some r ∧ LocSem P S o ev it nx out := by
  obtain ⟨dst, op, type, pos, after, guard⟩ := o
  simp only at h
  unfold opRange at h
  split at h
  · rename_i t x
    split at h
    · rename_i q kt et j hc hx
      split at h
      · rename_i q2 kt2 et2 l hj
        split at h
        · rename_i e1 e2 e3
          obtain rfl := ikB_eq e1
          obtain rfl := Nat.eq_of_beq_eq_true e2
          obtain rfl := Nat.eq_of_beq_eq_true e3
          refine ⟨_, h, ?_⟩
          intro a w R ρ Ps At Au tk us hd hev htk hus hit hAt hAu hst hn K Q hK
          have e0 : us = [] := List.map_eq_nil_iff.1 hus
          subst e0
          have e0 := All2.nil_left hAu
          subst e0
          obtain ⟨A, rfl, hrel⟩ := take1 htk (fun x hx => hit x (by simpa using hx)) hj hAt
          obtain ⟨g, hg, rfl⟩ := map_open hrel
          obtain ⟨g', hg', hmv⟩ := hev _ _ hx
          rw [hg] at hg'
          obtain rfl := someI' hg'
          rw [List.append_nil] at hst
          obtain ⟨w', hrun, hh, hkeep, hsz⟩ := iter_begin (mapChk_ok hc) (hst.own _ (List.mem_singleton_self _))
          have hgr : Grow ρ (ghost ρ nx ⟨none, 0, 0, w.heap.size, noJ, noS⟩) nx 1 := ghost_grow (hn nx (Nat.le_refl _) (Nat.lt_succ_self nx))
          unfold wpX
          have hr : (execOp a.eval (⟨dst, .range t x, type, pos, after, guard⟩ : Oper)).run P w = .ok (.value (.pointer (some ⟨w.heap.size, 0, none⟩))) w' := by simp [execOp, hmv, hrun]
          rw [hr]
          have hlt : g.b < w.heap.size := hst.lt g.b (by simp [fps, Asn.fp])
          refine hK _ w' (ghost ρ nx ⟨none, 0, 0, w.heap.size, noJ, noS⟩) Ps [iterA P kt et q false Value.bool (fun v => .lit (.bool v)) g.b w.heap.size l (mkeys l) none, nilA] hgr (fun p hp => hp) ⟨_, ghost_at, rfl⟩ ⟨⟨_, g, false, Value.bool, _, none, ghost_at, hgr.keep _ _ hg, rfl, rfl, rfl, nofun⟩, ⟨g, hgr.keep _ _ hg, rfl⟩, trivial⟩ ?_ (hkeep.weak (fun x hx => by simp at hx)) ?_
          · rw [List.append_nil]
            have hst1 : St R w' [iterA P kt et q false Value.bool (fun v => .lit (.bool v)) g.b w.heap.size l (mkeys l) none] Ps := by
              refine St.set (B := iterA P kt et q false Value.bool (fun v => .lit (.bool v)) g.b w.heap.size l (mkeys l) none) hst (hkeep.weak (fun x hx => by simp at hx)) hh (fun c hc => ?_) (by simp [Asn.fp]; omega)
              simp only [Asn.fp, List.mem_cons, List.not_mem_nil, or_false] at hc ⊢
              rcases hc with rfl | rfl
              · exact .inl rfl
              · exact .inr ⟨Nat.le_refl _, by omega⟩
            exact (St.re (Bs := [iterA P kt et q false Value.bool (fun v => .lit (.bool v)) g.b w.heap.size l (mkeys l) none]) (Cs := [iterA P kt et q false Value.bool (fun v => .lit (.bool v)) g.b w.heap.size l (mkeys l) none, nilA]) (As := []) hst1 (fun C hC => by
              simp only [List.mem_cons, List.not_mem_nil, or_false] at hC
              rcases hC with rfl | rfl
              · exact hh
              · exact nilA_holds _) (by simp [fps, Asn.fp]))
          · intro b hb
            simp [fps, Asn.fp] at hb ⊢
            rcases hb with rfl | rfl
            · exact .inl rfl
            · exact .inr (Nat.le_refl _)
        · cases h
      · cases h
    · cases h
  · cases h
theorem mit_open {ρ : Rho} {Ps : List (World → Prop)} {i j : Nat} {q : IntKind} {kt et : TypeId} {m : List (Int × Bool)} {l : List Int} {c : Option Int} {A : Asn} (h : RelItem S ρ Ps P (i, .mit j q kt et .bool m l c) A) :
    ∃ g gm c', ρ i = some g ∧ ρ j = some gm ∧ g.s = noS ∧ A = iterA P kt et q false Value.bool (fun v => .lit (.bool v)) gm.b g.b m l c' ∧ ∀ x, c = some x → c' = some x := by
  obtain ⟨g, gm, z, E, L, c', h1, h2, h3, h4, h5, h6⟩ := h
  simp only [mapZ, Option.some.injEq, Prod.mk.injEq] at h4
  obtain ⟨rfl, rfl, rfl⟩ := h4
  exact ⟨g, gm, c', h1, h2, h3, h5, h6⟩
def opEntry (P : Program) (S : Tab) (ev : Ev S.τ) (it : Nat → Option (Item S.τ)) (o : Op) (k : Out S.τ → Option R) : Option R := match o with
  | .entry x => match ev x with
    | some (.v (.one (.box i 0))) => match it i with
      | some (.mit _ q _ _ .bool m _ (some c)) => k ⟨.tup [.one (.d (.int q) c), .one (.d .bool (mget false (m : List (Int × Bool)) c))], [], [], [i], 0⟩
      | _ => none
    | _ => none
  | _ => none
theorem opEntry_sound {o : Oper} {ev : Ev S.τ} {it : Nat → Option (Item S.τ)} {nx : Nat} {k : Out S.τ → Option R} {r : R} (h : opEntry P S ev it o.op k = some r) : ∃ out, k out = some r ∧ LocSem P S o ev it nx out := by
  obtain ⟨dst, op, type, pos, after, guard⟩ := o
  simp only at h
  unfold opEntry at h
  split at h
  · rename_i x
    split at h
    · rename_i i hx
      split at h
      · rename_i j q kt et m l c hi
        refine ⟨_, h, loc_read [i] fun a w F ρ Ps Au us hev hus hit hAu hh hps => ?_⟩
        obtain ⟨A, rfl, _, hrel⟩ := use1 hus hit hi hAu
        obtain ⟨g, gm, c', hg, hgm, hgs, rfl, hc⟩ := mit_open hrel
        obtain rfl := hc c rfl
        obtain ⟨g', hg', hxv⟩ := hev _ _ hx
        rw [hg] at hg'
        obtain rfl := someI' hg'
        have hr := iter_entry (hh _ (List.mem_singleton_self _))
        rw [Gh.bo, hgs] at hxv
        exact ⟨.tuple #[.int q c, .bool (mget false m c)], [], by simp [execOp, hxv, noS, hr], by simp, [.int q c, .bool (mget false m c)], rfl, rfl, rfl, trivial⟩
      · cases h
    · cases h
  · cases h
def LocSemO (P : Program) (S : Tab) (o : Oper) (ev : Ev S.τ) (it : Nat → Option (Item S.τ)) (nx : Nat) (take use : List Nat) (nn : Nat) (O : AV S.τ → List (Nat × Item S.τ) → Prop) : Prop :=
  ∀ (a : Act) (w : World) (R : List Nat) (ρ : Rho) (Ps : List (World → Prop)) (At Au : List Asn) (tk us : List (Nat × Item S.τ)), a.defers = [] → EvRel S ρ Ps ev a →
    tk.map (·.1) = take → us.map (·.1) = use → (∀ x ∈ tk ++ us, it x.1 = some x.2) → All2 (RelItem S ρ Ps P) tk At → All2 (RelItem S ρ Ps P) us Au → St R w (At ++ Au) Ps →
    (∀ k, nx ≤ k → k < nx + nn → ρ k = none) → ∀ (K : Act → World → Prop) (Q : Exit → Act → World → Prop),
    (∀ vv put v w' ρ' Ps' Ap, O vv put → Grow ρ ρ' nx nn → (∀ p ∈ Ps, p ∈ Ps') → RelAV S ρ' Ps' vv v → All2 (RelItem S ρ' Ps' P) put Ap → St R w' (Ap ++ Au) Ps' → Keep (fps At) w w' → (∀ b ∈ fps Ap, b ∈ fps At ∨ w.heap.size ≤ b) → K (a.put o.dst v) w') →
    wpX P o a w K Q
theorem LocSem.toO {o : Oper} {ev : Ev S.τ} {it : Nat → Option (Item S.τ)} {nx : Nat} {out : Out S.τ} (h : LocSem P S o ev it nx out) : LocSemO P S o ev it nx out.take out.use out.nn fun v p => v = out.v ∧ p = out.put := by
  intro a w R ρ Ps At Au tk us h1 h2 h3 h4 h5 h6 h7 h8 h9 K Q hK
  exact h a w R ρ Ps At Au tk us h1 h2 h3 h4 h5 h6 h7 h8 h9 K Q fun v w' ρ' Ps' Ap => hK out.v out.put v w' ρ' Ps' Ap ⟨rfl, rfl⟩
def nextOf (S : Tab) (ev : Ev S.τ) (it : Nat → Option (Item S.τ)) : Op → Option (Nat × Nat × IntKind × TypeId × TypeId × List (Int × Bool) × List Int)
  | .next x false => match ev x with
    | some (.v (.one (.box i 0))) => match it i with
      | some (.mit j q kt et .bool m l _) => match it j with
        | some .gst => some (i, j, q, kt, et, m, l)
        | _ => none
      | _ => none
    | _ => none
  | _ => none
def isNext : Op → Bool
  | .next _ false => true
  | _ => false
def mapK (P : Program) (q : IntKind) (kt et : TypeId) : Bool := match P.underlying kt, P.underlying et with
  | some (.int q'), some .bool => ikB q q'
  | _, _ => false
theorem mapK_ok {q : IntKind} {kt et : TypeId} (h : mapK P q kt et = true) : P.underlying kt = some (.int q) ∧ P.underlying et = some .bool := by
  unfold mapK at h
  split at h
  · rename_i q' h1 h2
    obtain rfl := ikB_eq h
    exact ⟨h1, h2⟩
  · cases h
theorem next_sound {o : Oper} {ev : Ev S.τ} {it : Nat → Option (Item S.τ)} {nx : Nat} {i j : Nat} {q : IntKind} {kt et : TypeId} {m : List (Int × Bool)} {l : List Int} (h : nextOf S ev it o.op = some (i, j, q, kt, et, m, l)) (hk : mapK P q kt et = true) :
    LocSemO P S o ev it nx [i, j] [] 0 fun v p => (l = [] ∧ v = .tup [.one (.lit false)] ∧ p = [(j, .map q kt et .bool m)]) ∨
      ∃ x ∈ l, v = .tup [.one (.lit true), .one (.d (.int q) x), .one (.d .bool (mget false m x))] ∧ p = [(i, .mit j q kt et .bool m (l.filter fun z => !decide (z = x)) (some x)), (j, .gst)] := by
  obtain ⟨dst, op, type, pos, after, guard⟩ := o
  simp only at h
  unfold nextOf at h
  split at h
  · rename_i x
    split at h
    · rename_i i' hx
      split at h
      · rename_i j' q' kt' et' m' l' c hi
        split at h
        · rename_i hj
          simp only [Option.some.injEq, Prod.mk.injEq] at h
          obtain ⟨rfl, rfl, rfl, rfl, rfl, rfl, rfl⟩ := h
          intro a w R ρ Ps At Au tk us hd hev htk hus hit hAt hAu hst hn K Q hK
          have e0 : us = [] := List.map_eq_nil_iff.1 hus
          subst e0
          have e0 := All2.nil_left hAu
          subst e0
          match tk, htk, hAt, hit with
          | [(i1, y1), (j1, y2)], htk, hAt, hit =>
            simp only [List.map_cons, List.map_nil, List.cons.injEq, and_true] at htk
            obtain ⟨rfl, rfl⟩ := htk
            have h1 := hit (i1, y1) (by simp)
            rw [hi] at h1
            obtain rfl := someI' h1
            have h2 := hit (j1, y2) (by simp)
            rw [hj] at h2
            obtain rfl := someI' h2
            obtain ⟨A, At', rfl, hA, hr1⟩ := All2.cons_left hAt
            obtain ⟨B, At'', rfl, hB, hr2⟩ := All2.cons_left hr1
            have e0 := All2.nil_left hr2
            subst e0
            obtain ⟨g, gm, c', hg, hgm, hgs, rfl, hc⟩ := mit_open hA
            obtain ⟨gm', hgm', rfl⟩ := hB
            rw [hgm] at hgm'
            obtain rfl := someI' hgm'
            obtain ⟨g', hg', hxv⟩ := hev _ _ hx
            rw [hg] at hg'
            obtain rfl := someI' hg'
            rw [Gh.bo, hgs] at hxv
            obtain ⟨k1, k2⟩ := mapK_ok hk
            rw [List.append_nil] at hst
            have hown := hst.own _ (List.mem_cons_self ..)
            have hne : gm.b ≠ g.b := (iterA_is hown).ne
            unfold wpX
            rcases iter_next k1 (bool_inv k2) hown type with ⟨hl, hrun⟩ | ⟨z, hz, w', hrun, hh, hkeep⟩
            · have hr : (execOp a.eval (⟨dst, .next x false, type, pos, after, guard⟩ : Oper)).run P w = .ok (.value (.tuple #[.bool false])) w := by simp [execOp, hxv, noS, hrun]
              rw [hr]
              refine hK _ _ _ w ρ Ps [mapA P kt' et' q' false (fun v => .lit (.bool v)) gm.b m'] (.inl ⟨hl, rfl, rfl⟩) (Grow.refl _ _ _) (fun p hp => hp) ⟨_, rfl, rfl, trivial⟩ ⟨⟨gm, false, Value.bool, _, hgm, rfl, rfl⟩, trivial⟩ ?_ (Keep.refl _ _) ?_
              · rw [List.append_nil]
                have h3 := St.set (A := iterA P kt' et' q' false Value.bool (fun v => .lit (.bool v)) gm.b g.b m' l' c') (B := mapA P kt' et' q' false (fun v => .lit (.bool v)) gm.b m') hst (Keep.refl _ _) (iter_drop hown) (fun c hc => .inl (by simp [Asn.fp] at hc ⊢; exact .inl hc)) (by simp [Asn.fp])
                exact (St.sub (As := [mapA P kt' et' q' false (fun v => .lit (.bool v)) gm.b m']) (Bs := [nilA]) h3 fun _ h => h)
              · intro b hb
                simp [fps, Asn.fp] at hb ⊢
                exact .inl (.inl hb)
            · have hr : (execOp a.eval (⟨dst, .next x false, type, pos, after, guard⟩ : Oper)).run P w = .ok (.value (.tuple #[.bool true, .int q' z, .bool (mget false m' z)])) w' := by simp [execOp, hxv, noS, hrun]
              rw [hr]
              refine hK _ _ _ w' ρ Ps [iterA P kt' et' q' false Value.bool (fun v => .lit (.bool v)) gm.b g.b m' (l'.filter fun y => !decide (y = z)) (some z), nilA] (.inr ⟨z, hz, rfl, rfl⟩) (Grow.refl _ _ _) (fun p hp => hp) ⟨_, rfl, rfl, rfl, rfl, trivial⟩ ⟨⟨g, gm, false, Value.bool, _, some z, hg, hgm, hgs, rfl, rfl, fun _ h => h⟩, ⟨gm, hgm, rfl⟩, trivial⟩ ?_ (hkeep.weak (fun x hx => by simpa [fps, Asn.fp] using hx)) (fun b hb => .inl hb)
              rw [List.append_nil]
              exact St.set (A := iterA P kt' et' q' false Value.bool (fun v => .lit (.bool v)) gm.b g.b m' l' c') (B := iterA P kt' et' q' false Value.bool (fun v => .lit (.bool v)) gm.b g.b m' (l'.filter fun y => !decide (y = z)) (some z)) hst (by simpa [Asn.fp] using hkeep) hh (fun c hc => .inl hc) (by simpa [Asn.fp] using hne)
        · cases h
      · cases h
    · cases h
  · cases h
end
end Go.Bur
