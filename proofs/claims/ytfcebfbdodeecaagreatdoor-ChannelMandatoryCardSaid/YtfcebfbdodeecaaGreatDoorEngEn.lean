/-
  Regions whose order is drawn: what is looked up of them.
  Conditions: none; plain theorems.
-/
import Derived.Test.YtfcebfbdodeecaaGreatDoorEngEm
import Derived.MapKept
namespace Go.Eng
open Go Go.RowKit
set_option linter.unusedVariables false
set_option linter.unusedSimpArgs false
theorem isEmpty_arr {α : Type} {a : Array α} (h : a.toList.isEmpty = true) : a = #[] := by
  apply Array.ext'
  exact List.isEmpty_iff.1 h
theorem eq1_sound {x y : Value} (h : eq1 x y = true) : x = y := by
  unfold eq1 at h
  split at h <;> first | rfl | (cases h; done) | skip
  · rw [eq_of_beq h]
  · rw [Bool.and_eq_true] at h
    rw [of_decide_eq_true h.1, of_decide_eq_true h.2]
  · rw [(MapKept.bytes_beq _ _).1 h]
  · rw [Bool.and_eq_true] at h
    rw [Nat.eq_of_beq_eq_true h.1, Nat.eq_of_beq_eq_true h.2]
  · rw [Bool.and_eq_true] at h
    rw [Nat.eq_of_beq_eq_true h.1, Nat.eq_of_beq_eq_true h.2]
  · simp only [Bool.and_eq_true] at h
    obtain ⟨⟨⟨h1, h2⟩, h3⟩, h4⟩ := h
    rw [Nat.eq_of_beq_eq_true h1, Nat.eq_of_beq_eq_true h2, Nat.eq_of_beq_eq_true h3, Nat.eq_of_beq_eq_true h4]
  · rw [Nat.eq_of_beq_eq_true h]
  · simp only [Bool.and_eq_true] at h
    obtain ⟨⟨⟨⟨h1, h2⟩, h3⟩, h4⟩, h5⟩ := h
    rw [Nat.eq_of_beq_eq_true h1, isEmpty_arr h2, isEmpty_arr h3, isEmpty_arr h4, isEmpty_arr h5]
theorem eqL_sound : ∀ {x y : List Value}, eqL x y = true → x = y
  | [], [], _ => rfl
  | x :: xs, y :: ys, h => by
    have h : (eq1 x y && eqL xs ys) = true := h
    rw [Bool.and_eq_true] at h
    rw [eq1_sound h.1, eqL_sound h.2]
  | [], _ :: _, h => by cases h
  | _ :: _, [], h => by cases h
theorem eqV_sound {x y : Value} (h : eqV x y = true) : x = y := by
  unfold eqV at h
  split at h
  · rw [Array.ext' (eqL_sound h)]
  · rw [Array.ext' (eqL_sound h)]
  · exact eq1_sound h
theorem binds_eq (e : Edge) : bindsB e = Region.binds .any e := by
  unfold bindsB Region.binds
  cases e.ground <;> rfl
/-- What must come before. -/
inductive Pre (all : Array Oper) : Nat → Nat → Prop
  | one (i : Nat) (o : Oper) (e : Edge) (hi : all[i]? = some o) (he : e ∈ o.after.toList) (hb : bindsB e = true) : Pre all i e.on
  | more (i : Nat) (o : Oper) (e : Edge) (j : Nat) (hi : all[i]? = some o) (he : e ∈ o.after.toList) (hb : bindsB e = true) (h : Pre all e.on j) : Pre all i j
/-- Closed under what comes before. -/
def Down (all : Array Oper) (D : Array Bool) : Prop := ∀ i o, D.getD i false = true → all[i]? = some o → ∀ e ∈ o.after.toList, bindsB e = true → D.getD e.on false = true
theorem pre_in {all : Array Oper} {D : Array Bool} (hD : Down all D) {i j : Nat} (h : Pre all i j) : (∀ o, all[i]? = some o → ∀ e ∈ o.after.toList, bindsB e = true → D.getD e.on false = true) → D.getD j false = true := by
  induction h with
  | one i o e hi he hb => exact fun h => h o hi e he hb
  | more i o e j hi he hb h ih => exact fun h1 => ih fun o' ho' e' he' hb' => hD e.on o' (h1 o hi e he hb) ho' e' he' hb'
theorem mask_sound {all : Array Oper} {rs : List DR} (hrs : ∀ k R, rs[k]? = some R → ∀ j, R.m.testBit j = true → Pre all k j) {i : Nat} {o : Oper} (hi : all[i]? = some o) : ∀ {l : List Edge}, (∀ e ∈ l, e ∈ o.after.toList) → ∀ {j : Nat}, (maskE rs l).testBit j = true → Pre all i j
  | [], _, j, h => by
    rw [show maskE rs [] = 0 from rfl, Nat.zero_testBit] at h
    cases h
  | e :: l, hl, j, h => by
    have h : (cond (bindsB e) ((2 ^ e.on ||| (match rs[e.on]? with | some R => R.m | none => 0)) ||| maskE rs l) (maskE rs l)).testBit j = true := h
    have ih := fun h => mask_sound hrs hi (l := l) (fun e he => hl e (.tail _ he)) (j := j) h
    cases hb : bindsB e with
    | false =>
      rw [hb] at h
      exact ih h
    | true =>
      rw [hb, cond_true, Nat.testBit_or, Nat.testBit_or, Bool.or_eq_true, Bool.or_eq_true] at h
      rcases h with (h | h) | h
      · rw [Nat.testBit_two_pow] at h
        obtain rfl : e.on = j := of_decide_eq_true h
        exact .one i o e hi (hl e (.head _)) hb
      · cases hr : rs[e.on]? with
        | none =>
          rw [hr] at h
          dsimp only at h
          rw [Nat.zero_testBit] at h
          cases h
        | some R =>
          rw [hr] at h
          exact .more i o e j hi (hl e (.head _)) hb (hrs _ R hr j h)
      · exact ih h
/-- The masked frame holds what it should. -/
theorem maskT_sound {all : List Oper} {a : Fr} {rs : List DR} {m : Nat} (ham : a.m ≤ 512) : ∀ {l : List Nat} {t : Tr Value}, maskT all a rs m l = some t →
    (∀ s, s ∈ l → s < a.m ∧ ((dstIx s all 0 = none ∧ slot ⟨a.m, t⟩ s = slot a s) ∨ ∃ j R, dstIx s all 0 = some j ∧ m.testBit j = true ∧ rs[j]? = some R ∧ slot ⟨a.m, t⟩ s = R.v)) ∧ ∀ s, s ∉ l → slot ⟨a.m, t⟩ s = undef
  | [], t, h => by
    obtain rfl := Option.some.inj h
    refine ⟨fun s hs => (by cases hs), fun s _ => ?_⟩
    unfold slot
    dsimp only
    rw [get_nil]
    cases Nat.blt s a.m <;> rfl
  | s0 :: l, t, h => by
    unfold maskT at h
    cases ht : maskT all a rs m l with
    | none => rw [ht] at h; cases h
    | some t0 =>
      rw [ht] at h
      dsimp only at h
      obtain ⟨ih1, ih2⟩ := maskT_sound ham ht
      cases hb : Nat.blt s0 a.m with
      | false => rw [hb] at h; cases h
      | true =>
        rw [hb, cond_true] at h
        have hs0 : s0 < a.m := Nat.le_of_ble_eq_true hb
        have key : ∀ u, t = t0.set fd s0 u → slot ⟨a.m, t⟩ s0 = u ∧ ∀ s, s ≠ s0 → slot ⟨a.m, t⟩ s = slot ⟨a.m, t0⟩ s := by
          rintro u rfl
          refine ⟨?_, fun s hs => ?_⟩
          · unfold slot
            dsimp only
            rw [hb, cond_true, get_set_eq]
          · unfold slot
            dsimp only
            cases hb2 : Nat.blt s a.m with
            | false => rfl
            | true =>
              have : s < a.m := Nat.le_of_ble_eq_true hb2
              rw [cond_true, cond_true, get_set_ne _ _ _ _ _ (by show s0 < 2 ^ 9; omega) (by show s < 2 ^ 9; omega) (Ne.symm hs)]
        obtain ⟨u, hu, hv⟩ : ∃ u, t = t0.set fd s0 u ∧ ((dstIx s0 all 0 = none ∧ u = slot a s0) ∨ ∃ j R, dstIx s0 all 0 = some j ∧ m.testBit j = true ∧ rs[j]? = some R ∧ u = R.v) := by
          cases hd : dstIx s0 all 0 with
          | none =>
            rw [hd] at h
            exact ⟨_, (Option.some.inj h).symm, .inl ⟨rfl, rfl⟩⟩
          | some j =>
            rw [hd] at h
            dsimp only at h
            cases hm : m.testBit j with
            | false => rw [hm] at h; cases h
            | true =>
              rw [hm, cond_true] at h
              cases hr : rs[j]? with
              | none => rw [hr] at h; cases h
              | some R =>
                rw [hr] at h
                exact ⟨_, (Option.some.inj h).symm, .inr ⟨j, R, rfl, hm, hr, rfl⟩⟩
        obtain ⟨k1, k2⟩ := key u hu
        refine ⟨fun s hs => ?_, fun s hs => ?_⟩
        · by_cases e : s = s0
          · subst e
            refine ⟨hs0, ?_⟩
            rw [k1]
            exact hv
          · rw [k2 s e]
            rcases List.mem_cons.1 hs with hs | hs
            · exact absurd hs e
            · exact ih1 s hs
        · rw [k2 s (fun e => hs (e ▸ .head _))]
          exact ih2 s fun h => hs (.tail _ h)
theorem dstIx_some {s : Nat} : ∀ {l : List Oper} {k j : Nat}, dstIx s l k = some j → ∃ i o, j = k + i ∧ l[i]? = some o ∧ o.dst = some s
  | [], k, j, h => by cases h
  | o :: l, k, j, h => by
    unfold dstIx at h
    have step : dstIx s l (k + 1) = some j → ∃ i o', j = k + i ∧ (o :: l)[i]? = some o' ∧ o'.dst = some s := fun h => by
      obtain ⟨i, o', rfl, h2, h3⟩ := dstIx_some h
      exact ⟨i + 1, o', by omega, by simpa using h2, h3⟩
    cases hd : o.dst with
    | none => rw [hd] at h; exact step h
    | some d =>
      rw [hd] at h
      dsimp only at h
      cases hb : Nat.beq d s with
      | false => rw [hb] at h; exact step h
      | true =>
        rw [hb, cond_true] at h
        obtain rfl := Option.some.inj h
        obtain rfl := Nat.eq_of_beq_eq_true hb
        exact ⟨0, o, rfl, rfl, hd⟩
end Go.Eng
