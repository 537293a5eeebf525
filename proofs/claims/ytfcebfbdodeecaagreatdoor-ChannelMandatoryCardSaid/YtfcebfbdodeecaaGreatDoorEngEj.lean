/-
  Our machine's regions (in listed order) and its calls, and the given model's.
  Conditions: none; plain theorems.
-/
import Derived.Test.YtfcebfbdodeecaaGreatDoorEngEi
import Derived.Tactics
namespace Go.Eng
open Go Go.RowKit
set_option linter.unusedVariables false
set_option linter.unusedSimpArgs false
/-- A call's slots, and nothing deferred. -/
def AF (r : Rn) (a : Fr) (c : Act) : Prop := FrR r a c ∧ c.defers = []
theorem AF.mono {r s : Rn} (hle : r.le s) {a : Fr} {c : Act} (h : AF r a c) : AF s a c := ⟨h.1.mono hle, h.2⟩
theorem AF.put {r : Rn} {a : Fr} {c : Act} (h : AF r a c) (d : Option Nat) {v v' : Value} (hv : VR r v v') : AF r (putD a d v) (c.put d v') :=
  ⟨putD_sound h.1 d hv, by cases d <;> exact h.2⟩
/-- What a call of our machine's tells is what the model's call does. -/
def KS (P : Program) (K : CallF) : Prop := ∀ (N : Nat → Prop) (r : Rn) (H : AH) (w : World) (g : FuncId) (args args' : List Value) (v : Value) (H' : AH), Inv P N r H w → LR r args args' → K g args H = .ok v H' →
  ∀ (o : Oper) (c : Act) (next : Act → World → Prop) (Q : Exit → Act → World → Prop), (∀ s v' w', Rn.le r s → VR s v v' → Inv P N s H' w' → Bel N w w' → next (c.put o.dst v') w') → o.upon P c next Q ((callFunc g args'.toArray).run P w)
section
variable {P : Program} {N : Nat → Prop} {r : Rn} {H H' : AH} {w : World} {a : Fr} {c : Act} {o : Oper} {v : Value} {K : CallF}
theorem callO_sound (hK : KS P K) (hI : Inv P N r H w) (hF : FrR r a c) {cl : Call} {f : Operand} (ho : o.op = .call cl) (hc : cl.callee = .value f) (h : callO K a cl H = .ok v H') (c0 : Act) {next : Act → World → Prop} {Q : Exit → Act → World → Prop}
    (hn : ∀ s v' w', Rn.le r s → VR s v v' → Inv P N s H' w' → Bel N w w' → next (c0.put o.dst v') w') : o.upon P c0 next Q ((execOp c.eval o).run P w) := by
  unfold callO at h
  rw [hc] at h
  dsimp only at h
  cases hf : ev a f with
  | none => rw [hf] at h; cases h
  | some u =>
    rw [hf] at h
    cases u <;> try (cases h; done)
    case func fn fs cs =>
      cases fn <;> try (cases h; done)
      case func g =>
        cases hx : evs a cl.args.toList with
        | none => rw [hx] at h; cases h
        | some vs =>
          rw [hx] at h
          dsimp only at h
          obtain ⟨vs', e1, e2⟩ := args_sound hF hx
          have hfv := ev_sound hF hf
          obtain ⟨b, hb⟩ : ∃ b, c.eval f = b := ⟨_, rfl⟩
          rw [hb] at hfv
          cases hfv with
          | func _ _ _ f' c' hf' hc' =>
            have := hK N r H w g _ _ v H' hI (LR.append (LR.append hf' e2) hc') h o c0 next Q hn
            have he : (execOp c.eval o).run P w = (callFunc g (f'.toList ++ vs' ++ c'.toList).toArray).run P w := by
              have ea : (f'.toList ++ vs' ++ c'.toList).toArray = f' ++ vs'.toArray ++ c' := by
                apply Array.ext'
                simp
              rw [ea]
              unfold execOp
              rw [ho]
              simp [resolve, hc, hb, Deferred.ofValue, invoke, e1, Sem.run_bind]
            rw [he]
            exact this
theorem stepO_sound (hK : KS P K) (hI : Inv P N r H w) (hF : FrR r a c) (h : stepO P K a o H = .ok v H') (c0 : Act) {next : Act → World → Prop} {Q : Exit → Act → World → Prop}
    (hn : ∀ s v' w', Rn.le r s → VR s v v' → Inv P N s H' w' → Bel N w w' → next (c0.put o.dst v') w') : o.upon P c0 next Q ((execOp c.eval o).run P w) := by
  unfold stepO at h
  cases hc : isCallF o.op with
  | some cl =>
    rw [hc] at h
    unfold isCallF at hc
    cases ho : o.op <;> rw [ho] at hc <;> try (cases hc; done)
    case call cl' =>
      dsimp only at hc
      cases hcc : cl'.callee <;> rw [hcc] at hc <;> try (cases hc; done)
      case value f =>
        obtain rfl := Option.some.inj hc
        exact callO_sound hK hI hF ho hcc h c0 hn
  | none =>
    rw [hc] at h
    dsimp only at h
    cases hop : opA P a o H with
    | none => rw [hop] at h; cases h
    | some x =>
      obtain ⟨u, H2⟩ := x
      rw [hop] at h
      have h : CR.ok u H2 = CR.ok v H' := h
      cases h
      obtain ⟨s, v', w', nx, h1, h2, h3, h4, h5, h6⟩ := op_sound hI hF hop
      rw [h2]
      rcases h3 with rfl | ⟨rfl, rfl⟩
      · exact hn s v' w' h1 h4 h5 h6
      · exact hn s undef w' h1 h4 h5 h6
theorem yield_sound (hF : FrR r a c) (ops : Array Oper) (j : Nat) : yielded ops c.tmps j = yieldA ops.toList a j := by
  unfold yielded yieldA
  rw [Array.getElem?_toList]
  cases hj : ops[j]? with
  | none => rfl
  | some o =>
    dsimp only [Option.bind_some]
    cases hd : o.dst with
    | none => rfl
    | some d =>
      dsimp only [Option.bind_some]
      have hs := hF.slot d
      have e : c.tmps.getD d undef = (c.tmps[d]?).getD undef := by simp [Array.getD_eq_getD_getElem?]
      rw [e] at hs
      cases ht : c.tmps[d]? with
      | none =>
        rw [ht] at hs
        have hs : VR r (Go.Eng.slot a d) undef := hs
        generalize Go.Eng.slot a d = u at hs
        cases hs
        rfl
      | some x =>
        rw [ht] at hs
        have hs : VR r (Go.Eng.slot a d) x := hs
        generalize Go.Eng.slot a d = u at hs
        cases hs <;> rfl
theorem want_sound (hF : FrR r a c) (ops : Array Oper) (o : Oper) : Region.wanted o (yielded ops c.tmps) = wantA ops.toList a o := by
  unfold Region.wanted wantA
  cases hg : o.guard with
  | none => rfl
  | some q =>
    obtain ⟨j, want⟩ := q
    dsimp only
    rw [yield_sound hF]
    cases yieldA ops.toList a j with
    | none => rfl
    | some b => rfl
theorem opsA_sound (hK : KS P K) {ops : Array Oper} {Q : Exit → Act → World → Prop} {a' : Fr} : ∀ {l : List Oper} {r : Rn} {a : Fr} {H : AH} {c : Act} {w : World}, Inv P N r H w → AF r a c → opsA P K ops.toList l a H = .ok a' H' →
    (∀ s c' w', Rn.le r s → AF s a' c' → Inv P N s H' w' → Bel N w w' → Q .normal c' w') → wpList P ops Q l c w
  | [], r, a, H, c, w, hI, hF, h, hq => by
    have h : OpsR.ok a H = OpsR.ok a' H' := h
    cases h
    exact hq r c w (Rn.le_refl _) hF hI (Bel.refl _ _)
  | o :: l, r, a, H, c, w, hI, hF, h, hq => by
    have h : cond (wantA ops.toList a o) (match stepO P K a o H with
      | .ok v H' => opsA P K ops.toList l (putD a o.dst v) H'
      | .bad l => .bad (o.pos :: l)) (opsA P K ops.toList l (putD a o.dst undef) H) = .ok a' H' := h
    unfold wpList
    rw [want_sound hF.1]
    cases hw : wantA ops.toList a o with
    | false =>
      rw [hw, cond_false] at h
      rw [if_neg (by simp)]
      exact opsA_sound hK hI (hF.put o.dst undef_VR) h hq
    | true =>
      rw [hw, cond_true] at h
      rw [if_pos rfl]
      cases hst : stepO P K a o H with
      | bad l' => rw [hst] at h; cases h
      | ok v H2 =>
        rw [hst] at h
        exact .inl (stepO_sound hK hI hF.1 hst c fun s v' w' h1 h2 h3 h4 =>
          opsA_sound hK h3 ((hF.mono h1).put o.dst h2) h fun s2 c2 w2 g1 g2 g3 g4 => hq s2 c2 w2 (Rn.le_trans h1 g1) g2 g3 (h4.trans g4))
end
end Go.Eng
