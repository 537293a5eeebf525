/-
  Our machine's calls, and the given model's.
  Conditions: none; plain theorems.
-/
import Derived.Test.YtfcebfbdodeecaaGreatDoorEngEk
namespace Go.Eng
open Go Go.RowKit
set_option linter.unusedVariables false
set_option linter.unusedSimpArgs false
section
variable {P : Program} {N : Nat → Prop} {r : Rn} {H H' : AH} {w : World} {a : Fr} {c : Act}
/-- A result as the model reads it. -/
def res1 (tmps : Array Value) : ResultVar → Sem Value
  | .tmp t => pure (tmps.getD t undef)
  | .cell a t => do loadVar t (← asAddr (tmps.getD a undef))
theorem resA_sound (hI : Inv P N r H w) (hF : FrR r a c) : ∀ {rs : List ResultVar} {vs : List Value}, resA P a H rs = some vs → ∃ vs', (rs.mapM (res1 c.tmps)).run P w = .ok vs' w ∧ LR r vs vs'
  | [], vs, h => by
    obtain rfl := Option.some.inj h
    exact ⟨[], rfl, .nil⟩
  | .tmp t :: rs, vs, h => by
    unfold resA at h
    cases hv : ev a (.tmp t) with
    | none => rw [hv] at h; cases h
    | some v =>
      rw [hv] at h
      cases hr : resA P a H rs with
      | none => rw [hr] at h; cases h
      | some us =>
        rw [hr] at h
        obtain rfl := Option.some.inj h
        obtain ⟨us', g1, g2⟩ := resA_sound hI hF hr
        refine ⟨c.tmps.getD t undef :: us', ?_, .cons _ _ _ _ (ev_sound hF hv) g2⟩
        rw [List.mapM_cons]
        simp only [res1, g1, Sem.run_bind, Sem.run_pure, Result.andThen]
  | .cell x t :: rs, vs, h => by
    unfold resA at h
    cases hv : ev a (.tmp x) with
    | none => rw [hv] at h; cases h
    | some v =>
      rw [hv] at h
      cases v <;> try (cases h; done)
      case pointer q =>
        cases q with
        | none => cases h
        | some p0 =>
          cases hr : resA P a H rs with
          | none => rw [hr] at h; cases h
          | some us =>
            rw [hr] at h
            dsimp only at h
            obtain ⟨i, off, p, rfl, hp, he⟩ := ptr_inv hF hv
            cases hl : loadV P H t ⟨i, off, none⟩ with
            | none => rw [hl] at h; cases h
            | some u =>
              rw [hl] at h
              obtain rfl := Option.some.inj h
              obtain ⟨u', l1, l2⟩ := loadV_sound hI hp hl
              obtain ⟨us', g1, g2⟩ := resA_sound hI hF hr
              refine ⟨u' :: us', ?_, .cons _ _ _ _ l2 g2⟩
              have he : c.tmps.getD x undef = .pointer (some ⟨p.b, p.o + off, none⟩) := he
              rw [List.mapM_cons]
              simp only [res1, he, asAddr, Sem.run_bind, Sem.run_pure, Result.andThen, l1, g1]
theorem results_sound (hI : Inv P N r H w) (hF : FrR r a c) {fn : Func} {v : Value} (h : finA P fn a H = .ok v H') : H' = H ∧ ∃ v', (results fn c.tmps).run P w = .ok v' w ∧ VR r v v' := by
  unfold finA at h
  cases hr : resA P a H fn.results.toList with
  | none => rw [hr] at h; cases h
  | some vs =>
    rw [hr] at h
    obtain ⟨vs', g1, g2⟩ := resA_sound hI hF hr
    have hm : (fn.results.mapM (res1 c.tmps)).run P w = .ok vs'.toArray w := by
      rw [← Array.toArray_toList (xs := fn.results), List.mapM_toArray]
      simp [g1]
    have he : (results fn c.tmps).run P w = .ok (if h : vs'.toArray.size = 1 then vs'.toArray[0] else .tuple vs'.toArray) w := by
      have e : results fn c.tmps = (do
        let vs ← fn.results.mapM (res1 c.tmps)
        pure (if h : vs.size = 1 then vs[0] else .tuple vs)) := by
        unfold results
        congr 2
      rw [e]
      simp only [Sem.run_bind, hm, Result.andThen, Sem.run_pure]
    have hlen := g2.length
    rcases vs with _ | ⟨u, _ | ⟨u2, us⟩⟩
    · cases g2
      cases h
      exact ⟨rfl, _, he, .tuple _ _ .nil⟩
    · obtain ⟨u', rfl, hu⟩ := one_inv g2
      cases h
      exact ⟨rfl, _, he, hu⟩
    · cases h
      refine ⟨rfl, _, he, ?_⟩
      rw [dif_neg (by rw [List.size_toArray, ← hlen]; simp)]
      exact .tuple _ _ g2
theorem initT_get : ∀ (args : List Value) (i : Nat) (t : Tr Value) (s : Nat), i + args.length ≤ 512 → s < 512 → (initT args i t).get fd s = if i ≤ s ∧ s < i + args.length then args[s - i]? else t.get fd s
  | [], i, t, s, h, hs => by
    rw [if_neg (by rw [List.length_nil]; omega)]
    rfl
  | v :: vs, i, t, s, h, hs => by
    show (initT vs (i + 1) (t.set fd i v)).get fd s = _
    rw [List.length_cons] at h ⊢
    rw [initT_get vs (i + 1) (t.set fd i v) s (by omega) hs]
    by_cases h1 : i + 1 ≤ s ∧ s < i + 1 + vs.length
    · rw [if_pos h1, if_pos (by omega), show s - i = (s - (i + 1)) + 1 by omega, List.getElem?_cons_succ]
    · rw [if_neg h1]
      by_cases h2 : i = s
      · subst h2
        rw [if_pos (by omega), Nat.sub_self, List.getElem?_cons_zero]
        exact get_set_eq _ _ _ _
      · rw [if_neg (by omega)]
        exact get_set_ne _ _ _ _ _ (by show i < 2 ^ 9; omega) (by show s < 2 ^ 9; omega) h2
theorem initF_sound {args args' : List Value} {n : Nat} (hl : LR r args args') (hm : (initF args n).m ≤ 512) : AF r (initF args n) { tmps := args'.toArray ++ Array.replicate (n - args'.toArray.size) undef, defers := [] } := by
  have hlen := hl.length
  have hmx : (initF args n).m = args.length + (n - args.length) := by
    show cond (Nat.ble args.length n) n args.length = _
    cases hb : Nat.ble args.length n with
    | true =>
      have := Nat.le_of_ble_eq_true hb
      show n = _
      omega
    | false =>
      have : ¬ args.length ≤ n := fun h => by rw [Nat.ble_eq_true_of_le h] at hb; cases hb
      show args.length = _
      omega
  refine ⟨⟨?_, hm, fun s hs => ?_⟩, rfl⟩
  · rw [hmx, hlen]
    simp
  · have e1 : slot (initF args n) s = (if s < args.length then args[s]? else none).getD undef := by
      unfold slot
      rw [show Nat.blt s (initF args n).m = true from Nat.ble_eq_true_of_le hs, cond_true]
      rw [show (initF args n).t.get fd s = (initT args 0 .nil).get fd s from rfl, initT_get args 0 .nil s (by omega) (by omega)]
      rw [get_nil]
      by_cases h : s < args.length
      · rw [if_pos (by omega), if_pos h, Nat.sub_zero]
        cases args[s]? <;> rfl
      · rw [if_neg (by omega), if_neg h]
        rfl
    rw [e1]
    by_cases h : s < args.length
    · rw [if_pos h]
      have hx : args[s]? = some args[s] := List.getElem?_eq_getElem h
      obtain ⟨v', h1, h2⟩ := hl.get s _ hx
      rw [hx]
      have : (args'.toArray ++ Array.replicate (n - args'.toArray.size) undef).getD s undef = v' := by
        rw [Array.getD_eq_getD_getElem?, Array.getElem?_append_left (by simp; omega)]
        simp [h1]
      rw [this]
      exact h2
    · rw [if_neg h]
      have : (args'.toArray ++ Array.replicate (n - args'.toArray.size) undef).getD s undef = undef := by
        rw [Array.getD_eq_getD_getElem?, Array.getElem?_append_right (by simp; omega), Array.getElem?_replicate]
        split <;> rfl
      rw [this]
      exact undef_VR
/-- What is told of the calls into the library. -/
def XS (P : Program) (X : FuncId → List Value → Option Value) : Prop := ∀ g fn args v, P.funcs[g]? = some fn → fn.body = none → X g args = some v → args.all plain = true ∧ plain v = true ∧ ∀ w, (callFunc g args.toArray).run P w = .ok (.value v) w
theorem callA_sound {X : FuncId → List Value → Option Value} (hm : P.follows .mixedOrders = true) (hX : XS P X) (hN : ∀ (g : FuncId) (fn : Func), P.funcs[g]? = some fn → fn.body.isSome = true → fn.name ≠ "runtime.NumGoroutine") (n : Nat) : ∀ d, KS P (callA P X n d)
  | 0 => fun N r H w g args args' v H' hI hl h => by cases h
  | d + 1 => fun N r H w g args args' v H' hI hl h o c next Q hn => by
    have ih := callA_sound hm hX hN n d
    have h : (match P.funcs[g]? with
      | some fn => match fn.body with
        | some c => match (cond (Nat.ble (initF args fn.ntmps).m 512) (execA P (callA P X n d) n none c (initF args fn.ntmps) H) (.bad [])) with
          | .normal a H => finA P fn a H
          | .ret a H => finA P fn a H
          | .bad l => .bad l
          | _ => .bad []
        | none => match X g args with
          | some v => .ok v H
          | none => .bad [fn.name]
      | none => .bad []) = CR.ok v H' := h
    cases hf : P.funcs[g]? with
    | none => rw [hf] at h; cases h
    | some fn =>
      rw [hf] at h
      dsimp only at h
      cases hb : fn.body with
      | none =>
        rw [hb] at h
        dsimp only at h
        cases hx : X g args with
        | none => rw [hx] at h; cases h
        | some u =>
          rw [hx] at h
          cases h
          obtain ⟨x1, x2, x3⟩ := hX g fn args v hf hb hx
          obtain rfl := plains_eq hl x1
          rw [x3 w]
          exact hn r v w (Rn.le_refl _) (plain_refl x2) hI (Bel.refl _ _)
      | some code =>
        rw [hb] at h
        dsimp only at h
        cases hm2 : Nat.ble (initF args fn.ntmps).m 512 with
        | false => rw [hm2] at h; cases h
        | true =>
          rw [hm2, cond_true] at h
          have hm2 := Nat.le_of_ble_eq_true hm2
          have hrun : (callFunc g args'.toArray).run P w = .ok (.enter g args'.toArray) w := by
            have := hN g fn hf (by rw [hb]; rfl)
            simp [callFunc, hf, hb, this, Sem.run_bind, Result.andThen]
          rw [hrun, Oper.upon_enter]
          refine calls_of_wp hf hb ?_
          have hfin : ∀ {a1 : Fr} {H1 : AH} {c1 : Act} {w1 : World}, finA P fn a1 H1 = .ok v H' → Rel P N r w a1 H1 c1 w1 → c1.defers = [] ∧ ∃ v', (results fn c1.tmps).run P w1 = .ok v' w1 ∧ next (c.put o.dst v') w1 := by
            intro a1 H1 c1 w1 hfa ⟨s, g1, g2, g3, g4⟩
            obtain ⟨rfl, v', k1, k2⟩ := results_sound g3 g2.1 hfa
            exact ⟨g2.2, v', k1, hn s v' w1 g1 k2 g3 g4⟩
          have hes := (exec_sound hm ih n).wp code (initF args fn.ntmps) H N r w _ (by
            cases hx : execA P (callA P X n d) n none code (initF args fn.ntmps) H <;> rw [hx] at h <;> first | rfl | (cases h; done)) hI (initF_sound hl hm2)
          refine wp_mono hes fun e c1 w1 h1 => ?_
          cases hx : execA P (callA P X n d) n none code (initF args fn.ntmps) H <;> rw [hx] at h h1 <;> cases e <;> first | exact h1.elim | (cases h; done) | exact hfin h h1
/-- WHAT OUR MACHINE TELLS OF A CALL. -/
theorem calls_sound {X : FuncId → List Value → Option Value} (hm : P.follows .mixedOrders = true) (hX : XS P X) (hN : ∀ (g : FuncId) (fn : Func), P.funcs[g]? = some fn → fn.body.isSome = true → fn.name ≠ "runtime.NumGoroutine") {n d : Nat} {g : FuncId} {fn : Func} {args : List Value} {v : Value} (hf : P.funcs[g]? = some fn) (hb : fn.body.isSome = true) (hp : args.all plain = true) (hv : plain v = true) (w : World)
    (h : callA P X n d g args ⟨.nil, 0⟩ = .ok v H') : Calls P g args.toArray w fun e w' => e = .returned v ∧ Below w.heap.size w w' := by
  have hI : Inv P (fun k => k < w.heap.size) (fun _ => none) ⟨.nil, 0⟩ w := by
    refine ⟨fun i o hi ho => ?_, fun i j oi oj pi pj hi hj ho => ?_, fun i hi _ => rfl, Nat.zero_le _, fun k hk => hk⟩
    · rw [obj_nil] at ho
      cases ho
    · rw [obj_nil] at ho
      cases ho
  have hl : LR (fun _ => none) args args := by
    clear h
    induction args with
    | nil => exact .nil
    | cons x xs ih =>
      rw [List.all_cons, Bool.and_eq_true] at hp
      exact .cons _ _ _ _ (plain_refl hp.1) (ih hp.2)
  have hrun : (callFunc g args.toArray).run P w = .ok (.enter g args.toArray) w := by
    have hb' := hb
    have := hN g fn hf hb
    cases hbc : fn.body with
    | none => rw [hbc] at hb; cases hb
    | some code => simp [callFunc, hf, hbc, this, Sem.run_bind, Result.andThen]
  have := callA_sound hm hX hN n d _ _ _ w g args args v H' hI hl h { dst := some 0, op := .move (.const undef), type := 0, pos := "", after := #[], guard := none } { tmps := #[undef], defers := [] }
    (fun c w' => c.tmps = #[v] ∧ Below w.heap.size w w') (fun _ _ _ => False) (fun s v' w' h1 h2 h3 h4 => by
      obtain rfl := plain_eq hv h2
      exact ⟨rfl, h4.os, h4.tape, h4.output, h4.size, h4.block⟩)
  rw [hrun, Oper.upon_enter] at this
  refine Calls.mono this fun e w' he => ?_
  cases e with
  | returned u =>
    obtain ⟨h1, h2⟩ := he
    have h1 : (#[u] : Array Value) = #[v] := h1
    have : u = v := by simpa using h1
    exact ⟨by rw [this], h2⟩
  | panicked ch => exact he.elim
  | outgrown =>
    obtain ⟨_, _, h⟩ := he
    exact h.elim
end
end Go.Eng
