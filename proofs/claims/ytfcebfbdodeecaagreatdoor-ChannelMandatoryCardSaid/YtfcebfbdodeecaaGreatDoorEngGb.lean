/-
  Runs of our machine joined with steps of the given model: where they meet.
  Conditions: none; plain theorems.
-/
import Derived.Test.YtfcebfbdodeecaaGreatDoorEngGa
namespace Go.Eng
open Go Go.RowKit
set_option linter.unusedVariables false
set_option linter.unusedSimpArgs false
section
noncomputable def opsOf (c : Code) : Array Oper := match c with | .region _ ops _ => ops | _ => #[]
/-- What is seen of a run that ends as it should. -/
noncomputable def viewN (S I : List Nat) (X : ExR) : Option (Nat × List Value × List (Option AObj)) := match X with
  | .normal a H => some (seen S I a H)
  | _ => none
noncomputable def viewO (S I : List Nat) (X : OpsR) : Option (Nat × List Value × List (Option AObj)) := match X with
  | .ok a H => some (seen S I a H)
  | _ => none
section
variable {P : Program} {K : CallF} {N : Nat → Prop} {r : Rn} {H H1 : AH} {a a1 : Fr} {c : Act} {w : World} {Q : Exit → Act → World → Prop} {ops : Array Oper} {m : Nat}
theorem viewN_some {S I : List Nat} {X : ExR} {v : Nat × List Value × List (Option AObj)} (h : viewN S I X = some v) : ∃ a H, X = .normal a H ∧ seen S I a H = v := by
  cases X <;> try (cases h; done)
  case normal a H => exact ⟨a, H, rfl, Option.some.inj h⟩
/-- A slot's value by another name. -/
theorem AF.name {t : Nat} {v v' : Value} (h : AF r a c) (hs : slot a t = v) (e : v = v') : AF r (putD a (some t) v') c := by
  refine ⟨⟨by rw [putD_m]; exact h.1.1, by rw [putD_m]; exact h.1.2.1, fun s hs2 => ?_⟩, h.2⟩
  rw [putD_m] at hs2
  rw [slot_put h.1.2.1 hs2]
  have := h.1.2.2 s hs2
  by_cases e2 : t = s
  · subst e2
    rw [if_pos rfl, ← e, ← hs]
    exact this
  · rw [if_neg e2]
    exact this
/-- A part of a region. -/
theorem part_sound (hK : KS P K) {l2 : List Oper} {a1 : Fr} {H1 : AH} : ∀ {l1 : List Oper} {r : Rn} {a : Fr} {H : AH} {c : Act} {w : World}, Inv P N r H w → AF r a c → opsA P K ops.toList l1 a H = .ok a1 H1 →
    (∀ s c' w', Rn.le r s → AF s a1 c' → Inv P N s H1 w' → Bel N w w' → wpList P ops Q l2 c' w') → wpList P ops Q (l1 ++ l2) c w
  | [], r, a, H, c, w, hI, hF, h, hq => by
    have h : OpsR.ok a H = OpsR.ok a1 H1 := h
    cases h
    exact hq r c w (Rn.le_refl _) hF hI (Bel.refl _ _)
  | o :: l, r, a, H, c, w, hI, hF, h, hq => by
    have h : cond (wantA ops.toList a o) (match stepO P K a o H with
      | .ok v H' => opsA P K ops.toList l (putD a o.dst v) H'
      | .bad l => .bad (o.pos :: l)) (opsA P K ops.toList l (putD a o.dst undef) H) = .ok a1 H1 := h
    show wpList P ops Q (o :: (l ++ l2)) c w
    unfold wpList
    rw [want_sound hF.1]
    cases hw : wantA ops.toList a o with
    | false =>
      rw [hw, cond_false] at h
      rw [if_neg (by simp)]
      exact part_sound hK hI (hF.put o.dst undef_VR) h hq
    | true =>
      rw [hw, cond_true] at h
      rw [if_pos rfl]
      cases hst : stepO P K a o H with
      | bad l' => rw [hst] at h; cases h
      | ok v H2 =>
        rw [hst] at h
        exact .inl (stepO_sound hK hI hF.1 hst c fun s v' w' h1 h2 h3 h4 =>
          part_sound hK h3 ((hF.mono h1).put o.dst h2) h fun s2 c2 w2 g1 g2 g3 g4 => hq s2 c2 w2 (Rn.le_trans h1 g1) g2 g3 (h4.trans g4))
noncomputable def okO1 (X : OpsR) : Bool := match X with | .ok _ _ => true | _ => false
noncomputable def fO (X : OpsR) : Fr := match X with | .ok a _ => a | _ => ⟨0, .nil⟩
noncomputable def hO (X : OpsR) : AH := match X with | .ok _ H => H | _ => ⟨.nil, 0⟩
theorem okO1_eq {X : OpsR} (h : okO1 X = true) : X = .ok (fO X) (hO X) := by
  cases X <;> first | rfl | cases h
/-- A part of a region, by the fast machine. -/
theorem part_fast (hK : KS P K) {l1 l2 : List Oper} (h : okO1 (opsB P K ops.toList l1 a H) = true) (hI : Inv P N r H w) (hF : AF r a c)
    (hq : ∀ s c' w', Rn.le r s → AF s (fO (opsB P K ops.toList l1 a H)) c' → Inv P N s (hO (opsB P K ops.toList l1 a H)) w' → Bel N w w' → wpList P ops Q l2 c' w') : wpList P ops Q (l1 ++ l2) c w := by
  have e := okO1_eq h
  rw [opsB_eq] at e hq
  exact part_sound hK hI hF e hq
/-- An operation that is stepped in the model. -/
theorem step_value {o : Oper} {l : List Oper} {v : Value} {w' : World} (hg : o.guard = none) (h : (execOp c.eval o).run P w = .ok (.value v) w') (hn : wpList P ops Q l (c.put o.dst v) w') : wpList P ops Q (o :: l) c w := by
  refine wpList_plain hg fun K hK => ?_
  unfold Oper.wp
  rw [h]
  exact hK _ _ hn
/-- A run to a short state. -/
theorem wp_short {n : Nat} (hS : ExS P K n) {y : Code} {C' : Cn} {I : List Nat} (hv : viewN (C'.live.map Prod.fst) I (execB P K n none y a H) = some (C'.view m I)) (hok : C'.okB I = true)
    (hI : Inv P N r H w) (hF : AF r a c) (hq : ∀ s x' c' w', Inv P N s C'.h w' → AF s (C'.fr m x') c' → (∀ p, r (2 ^ hd) = some p → s (2 ^ hd) = some p) → Bel N w w' → Q .normal c' w') : y.wp P Q c w := by
  obtain ⟨a1, H1, e, hs⟩ := viewN_some hv
  rw [execB_eq] at e
  refine wp_mono (hS.wp y _ _ N r w c (by rw [e]; rfl) hI hF) fun e' c' w' h => ?_
  rw [e] at h
  cases e' <;> first | exact h.elim | skip
  obtain ⟨s, g1, g2, g3, g4⟩ := h
  obtain ⟨s', x', k1, k2, k3⟩ := canon C' g3 g2 hok hs
  exact hq s' x' c' w' k1 k2 (fun p hp => by rw [k3]; exact g1 _ _ hp) g4
/-- A run to the function's end. -/
noncomputable def retB (P : Program) (fn : Func) (X : ExR) : Bool := match X with
  | .ret a H => (match finA P fn a H with | .ok (.bool b) _ => b | _ => false)
  | _ => false
theorem wp_retq {n : Nat} (hS : ExS P K n) {y : Code} {fn : Func} (hex : retB P fn (execB P K n none y a H) = true) (hI : Inv P N r H w) (hF : AF r a c) {R : Ending → World → Prop} (hR : ∀ w', Bel N w w' → R (.returned (.bool true)) w')
    (hq : ∀ c' w', bodyPost P fn R .ret c' w' → Q .ret c' w') : y.wp P Q c w := by
  rw [execB_eq] at hex
  have hg : good (execA P K n none y a H) = true := by
    cases hx : execA P K n none y a H <;> rw [hx] at hex <;> first | rfl | (cases hex; done)
  refine wp_mono (hS.wp y a H N r w c hg hI hF) fun e c1 w1 h1 => ?_
  cases hx : execA P K n none y a H <;> rw [hx] at hex h1 <;> cases e <;> first | exact h1.elim | (cases hex; done) | skip
  case ret.ret a1 H1 =>
    refine hq c1 w1 ?_
    obtain ⟨s, g1, g2, g3, g4⟩ := h1
    have hex : (match finA P fn a1 H1 with | .ok (.bool b) _ => b | _ => false) = true := hex
    cases hx : finA P fn a1 H1 with
    | bad l => rw [hx] at hex; cases hex
    | ok v H2 =>
      rw [hx] at hex
      cases v <;> try (cases hex; done)
      case bool b =>
        obtain rfl : b = true := hex
        obtain ⟨rfl, v', k1, k2⟩ := results_sound g3 g2.1 hx
        have : v' = .bool true := plain_eq rfl k2
        subst this
        exact ⟨g2.2, _, k1, hR w1 g4⟩
/-! Two operations over what is foreign. -/
theorem run_indexAddr {o : Oper} {t e : TypeId} {x ix : Operand} {k : IntKind} {size b off len cap j : Nat} (ho : o.op = .indexAddr t x ix) (hu : P.underlying t = some (.slice e)) (hs : sizeT P e = some size)
    (he : c.eval x = .slice (some ⟨b, off, none⟩) len cap) (hi : c.eval ix = .int k (j : Int)) (hj : j < len) : (execOp c.eval o).run P w = .ok (.value (.pointer (some ⟨b, off + j * size, none⟩))) w := by
  unfold execOp
  rw [ho]
  have h0 : (0 : Int) ≤ (j : Int) := Int.natCast_nonneg j
  have h1 : (j : Int) < (len : Int) := by omega
  simp [he, hi, Instr.indexAt, asIntOf, run_underlying hu, run_size hs, hj, Addr.add_lit, Sem.run_bind]
theorem run_load1 {o : Oper} {t : TypeId} {x : Operand} {b off : Nat} {v : Value} (ho : o.op = .load t x) (ht : isAggT P t = some false) (he : c.eval x = .pointer (some ⟨b, off, none⟩)) (hc : w.cell? ⟨b, off, none⟩ = some v) : (execOp c.eval o).run P w = .ok (.value v) w := by
  unfold execOp
  rw [ho]
  have h2 : (loadVar t ⟨b, off, none⟩).run P w = .ok v w := by
    have hl3 : (load ⟨b, off, none⟩).run P w = .ok v w := by
      unfold load Sem.run
      rw [hc]
      rfl
    simp [loadVar, run_isAgg ht, hl3, hc, Sem.run_bind]
  simp [he, Instr.loadAt, Instr.sureAddr, h2, Sem.run_bind]
theorem eval_bool {t : Nat} {b : Bool} (h : AF r a c) (hs : slot a t = .bool b) : c.eval (.tmp t) = .bool b := by
  have := h.1.slot t
  rw [hs] at this
  show c.tmps.getD t undef = _
  generalize c.tmps.getD t undef = u at this
  cases this
  rfl
theorem eval_int {t : Nat} {k : IntKind} {n : Int} (h : AF r a c) (hs : slot a t = .int k n) : c.eval (.tmp t) = .int k n := by
  have := h.1.slot t
  rw [hs] at this
  show c.tmps.getD t undef = _
  generalize c.tmps.getD t undef = u at this
  cases this
  rfl
theorem eval_slice {t i l x : Nat} {p : Pl} (h : AF r a c) (hs : slot a t = .slice (some ⟨i, 0, none⟩) l x) (hp : r i = some p) : c.eval (.tmp t) = .slice (some ⟨p.b, p.o, none⟩) l (x + p.x) := by
  have := h.1.slot t
  rw [hs] at this
  show c.tmps.getD t undef = _
  generalize c.tmps.getD t undef = u at this
  cases this with
  | sl _ _ _ _ q hq =>
    obtain rfl := Option.some.inj (hq.symm.trans hp)
    rw [Nat.add_zero]
theorem eval_ptr {t i o : Nat} {p : Pl} (h : AF r a c) (hs : slot a t = .pointer (some ⟨i, o, none⟩)) (hp : r i = some p) : c.eval (.tmp t) = .pointer (some ⟨p.b, p.o + o, none⟩) := by
  have := h.1.slot t
  rw [hs] at this
  show c.tmps.getD t undef = _
  generalize c.tmps.getD t undef = u at this
  cases this with
  | ptr _ _ q hq =>
    obtain rfl := Option.some.inj (hq.symm.trans hp)
    rfl
theorem Bel.cell {W w : World} (h : Bel (fun k => k < W.heap.size) W w) {a : Addr} {v : Value} (hc : W.cell? a = some v) : w.cell? a = some v := by
  have hb := World.block_lt_of_cell? W _ hc
  have := h.block a.block hb
  unfold World.cell? at hc ⊢
  rw [this]
  exact hc
/-! Codes one behind the other. -/
noncomputable def runL (P : Program) (K : CallF) (n : Nat) (l : List Code) : Fr → AH → ExR := List.rec (motive := fun _ => Fr → AH → ExR) (fun a H => .normal a H) (fun c _ ih a H => exThen ih (execB P K n none c a H)) l
def seqL (l : List Code) (y : Code) : Code := l.foldr Code.seq y
theorem wp_runs {n : Nat} (hS : ExS P K n) {y : Code} {a1 : Fr} {H1 : AH} : ∀ {l : List Code} {r : Rn} {a : Fr} {H : AH} {c : Act} {w : World}, runL P K n l a H = .normal a1 H1 → Inv P N r H w → AF r a c →
    (∀ s c' w', Rn.le r s → AF s a1 c' → Inv P N s H1 w' → Bel N w w' → y.wp P Q c' w') → (seqL l y).wp P Q c w
  | [], r, a, H, c, w, h, hI, hF, hy => by
    cases h
    exact hy r c w (Rn.le_refl _) hF hI (Bel.refl _ _)
  | x :: l, r, a, H, c, w, h, hI, hF, hy => by
    have h : exThen (runL P K n l) (execB P K n none x a H) = .normal a1 H1 := h
    rw [execB_eq] at h
    cases hx : execA P K n none x a H <;> rw [hx] at h <;> try (cases h; done)
    case normal a2 H2 =>
      have h : runL P K n l a2 H2 = .normal a1 H1 := h
      refine wp_seq (wp_mono (hS.wp x a H N r w c (by rw [hx]; rfl) hI hF) fun e c' w' q => ?_)
      rw [hx] at q
      cases e <;> first | exact q.elim | skip
      obtain ⟨s, g1, g2, g3, g4⟩ := q
      exact wp_runs hS h g3 g2 fun s' c2 w2 k1 k2 k3 k4 => hy s' c2 w2 (Rn.le_trans g1 k1) k2 k3 (g4.trans k4)
theorem wp_shorts {n : Nat} (hS : ExS P K n) {l : List Code} {y : Code} {C' : Cn} {I : List Nat} (hv : viewN (C'.live.map Prod.fst) I (runL P K n l a H) = some (C'.view m I)) (hok : C'.okB I = true)
    (hI : Inv P N r H w) (hF : AF r a c) (hq : ∀ s x' c' w', Inv P N s C'.h w' → AF s (C'.fr m x') c' → (∀ p, r (2 ^ hd) = some p → s (2 ^ hd) = some p) → Bel N w w' → y.wp P Q c' w') : (seqL l y).wp P Q c w := by
  obtain ⟨a1, H1, e, hs⟩ := viewN_some hv
  refine wp_runs hS e hI hF fun s c' w' g1 g2 g3 g4 => ?_
  obtain ⟨s', x', k1, k2, k3⟩ := canon C' g3 g2 hok hs
  exact hq s' x' c' w' k1 k2 (fun p hp => by rw [k3]; exact g1 _ _ hp) g4
end
end
end Go.Eng
