/-
  Our machine's codes, and the given model's.
  Conditions: none; plain theorems.
-/
import Derived.Test.YtfcebfbdodeecaaGreatDoorEngEs
import Derived.LoopN
import Derived.ScopeJumps
namespace Go.Eng
open Go Go.RowKit
set_option linter.unusedVariables false
set_option linter.unusedSimpArgs false
def Rel (P : Program) (N : Nat → Prop) (r : Rn) (w0 : World) (a : Fr) (H : AH) (c : Act) (w : World) : Prop := ∃ s, Rn.le r s ∧ AF s a c ∧ Inv P N s H w ∧ Bel N w0 w
/-- Where a run of ours ends, the model's does. -/
def QR (P : Program) (N : Nat → Prop) (r : Rn) (w0 : World) : ExR → Exit → Act → World → Prop
  | .normal a H, .normal, c, w => Rel P N r w0 a H c w
  | .exit i a H, .exit j, c, w => i = j ∧ Rel P N r w0 a H c w
  | .goto l a H, .goto m, c, w => l = m ∧ Rel P N r w0 a H c w
  | .ret a H, .ret, c, w => Rel P N r w0 a H c w
  | _, _, _, _ => False
def InL (P : Program) (b : Code) (Q : Exit → Act → World → Prop) (a : Act) (w : World) : Prop :=
  ∀ (f : Frame) (k : List Item) (cs : List Frame), ∃ e a' w', Q e a' w' ∧ Arrives P (lone (f.at a (.code b :: .inLoop b :: k)) cs w) f k cs e a' w'
def InS (P : Program) (b : Code) (Q : Exit → Act → World → Prop) (rest : Code) (a : Act) (w : World) : Prop :=
  ∀ (f : Frame) (k : List Item) (cs : List Frame), ∃ e a' w', Q e a' w' ∧ Arrives P (lone (f.at a (.code rest :: .inScope b :: k)) cs w) f k cs e a' w'
section
variable {P : Program} {N : Nat → Prop} {r : Rn} {w w0 w1 : World} {Q : Exit → Act → World → Prop} {act : Act}
theorem Rel.mono {s : Rn} (h1 : Rn.le r s) (h2 : Bel N w0 w1) {a : Fr} {H : AH} {c : Act} {w : World} (h : Rel P N s w1 a H c w) : Rel P N r w0 a H c w := by
  obtain ⟨q, g1, g2, g3, g4⟩ := h
  exact ⟨q, Rn.le_trans h1 g1, g2, g3, h2.trans g4⟩
theorem QR.mono {s : Rn} (h1 : Rn.le r s) (h2 : Bel N w0 w1) {res : ExR} {e : Exit} {c : Act} {w : World} (h : QR P N s w1 res e c w) : QR P N r w0 res e c w := by
  cases res <;> cases e <;> first | exact h.elim | exact Rel.mono h1 h2 h | exact ⟨h.1, Rel.mono h1 h2 h.2⟩
theorem wp_loop_in {b : Code} (h : InL P b Q act w) : (Code.loop b).wp P Q act w := by
  intro f k cs
  obtain ⟨e, a', w', hq, harr⟩ := h f k cs
  exact ⟨e, a', w', hq, .of_steps (.one step_loop) harr⟩
theorem inL_round {b : Code} (h : b.wp P (Exit.then (InL P b Q) Q) act w) : InL P b Q act w := by
  intro f k cs
  obtain ⟨e, a₁, w₁, hq, harr⟩ := h f (.inLoop b :: k) cs
  cases e with
  | normal =>
    obtain ⟨e₂, a₂, w₂, hq₂, harr₂⟩ := hq f k cs
    exact ⟨e₂, a₂, w₂, hq₂, .of_steps (Steps.trans harr (.one step_inLoop)) harr₂⟩
  | exit id => exact ⟨_, a₁, w₁, hq, .pass (x := .inLoop b) rfl (fun _ _ => .inl (by simp)) harr⟩
  | goto l => exact ⟨_, a₁, w₁, hq, .pass (x := .inLoop b) rfl (fun _ _ => .inl (by simp)) harr⟩
  | ret => exact ⟨_, a₁, w₁, hq, .pass (x := .inLoop b) rfl (fun _ _ => .inl (by simp)) harr⟩
  | panic ch => exact ⟨_, a₁, w₁, hq, .pass (x := .inLoop b) rfl (fun _ _ => .inl (by simp)) harr⟩
  | outgrown => exact ⟨_, a₁, w₁, hq, .pass (x := .inLoop b) rfl (fun _ _ => .inl (by simp)) harr⟩
theorem wp_scope_in {b : Code} (h : InS P b Q b act w) : (Code.scope b).wp P Q act w := by
  intro f k cs
  obtain ⟨e, a', w', hq, harr⟩ := h f k cs
  exact ⟨e, a', w', hq, .of_steps (.one step_scope) harr⟩
/-- In a scope: by a goto to a label that it knows, on from there. -/
def Sc (P : Program) (b : Code) (Q : Exit → Act → World → Prop) : Exit → Act → World → Prop
  | .goto l, a, w => ∃ rest, findLabel b l = some rest ∧ InS P b Q rest a w
  | e, a, w => Q e a w
theorem inS_step {b rest : Code} (h : rest.wp P (Sc P b Q) act w) : InS P b Q rest act w := by
  intro f k cs
  obtain ⟨e, a', w', hq, harr⟩ := h f (.inScope b :: k) cs
  cases e with
  | normal => exact ⟨.normal, a', w', hq, Steps.trans harr (.one step_inScope)⟩
  | exit id => exact ⟨.exit id, a', w', hq, fun k' hk => harr k' (by simp [exitTo, hk])⟩
  | goto l =>
    obtain ⟨rest, hf, hin⟩ := hq
    obtain ⟨e₂, a₂, w₂, hq₂, harr₂⟩ := hin f k cs
    have hg : gotoIn l (.inScope b :: k) = some (.code rest :: .inScope b :: k) := by simp [gotoIn, hf]
    exact ⟨e₂, a₂, w₂, hq₂, .of_steps (harr _ hg) harr₂⟩
  | ret => exact ⟨_, a', w', hq, harr⟩
  | panic ch => exact ⟨_, a', w', hq, harr⟩
  | outgrown => exact ⟨_, a', w', hq, harr⟩
def good : ExR → Bool
  | .bad _ => false
  | _ => true
theorem then_good {x : ExR} {f : Fr → AH → ExR} (h : good (x.then f) = true) : good x = true := by
  cases x <;> first | rfl | exact h
/-- The second part goes on where the first ended. -/
theorem QR.then {x : ExR} {f : Fr → AH → ExR} {K : Act → World → Prop} (hK : ∀ a H, x = .normal a H → ∀ c w1, Rel P N r w0 a H c w1 → K c w1) {e : Exit} {c : Act} {w : World} (h : QR P N r w0 x e c w) :
    Exit.then K (QR P N r w0 (x.then f)) e c w := by
  cases x <;> cases e <;> first | exact h.elim | exact hK _ _ rfl _ _ h | exact h
variable {K : CallF}
structure ExS (P : Program) (K : CallF) (n : Nat) : Prop where
  wp : ∀ (c : Code) (a : Fr) (H : AH) (N : Nat → Prop) (r : Rn) (w : World) (act : Act), good (execA P K n none c a H) = true → Inv P N r H w → AF r a act → c.wp P (QR P N r w (execA P K n none c a H)) act w
  loop : ∀ (b : Code) (a : Fr) (H : AH) (N : Nat → Prop) (r : Rn) (w : World) (act : Act), good (execA P K n none (.loop b) a H) = true → Inv P N r H w → AF r a act → InL P b (QR P N r w (execA P K n none (.loop b) a H)) act w
  scope : ∀ (b c : Code) (a : Fr) (H : AH) (N : Nat → Prop) (r : Rn) (w : World) (act : Act), good (execA P K n (some b) c a H) = true → Inv P N r H w → AF r a act → InS P b (QR P N r w (execA P K n (some b) c a H)) c act w
theorem Rel.self {a : Fr} {H : AH} (hI : Inv P N r H w) (hF : AF r a act) : Rel P N r w a H act w := ⟨r, Rn.le_refl _, hF, hI, Bel.refl _ _⟩
theorem exec_sound (hm : P.follows .mixedOrders = true) (hK : KS P K) : ∀ n, ExS P K n
  | 0 => ⟨fun c a H N r w act h => (by cases h), fun b a H N r w act h => (by cases h), fun b c a H N r w act h => (by cases h)⟩
  | n + 1 => by
    have ih := exec_sound hm hK n
    have hloop : ∀ (b : Code) (a : Fr) (H : AH) (N : Nat → Prop) (r : Rn) (w : World) (act : Act), good (execA P K (n + 1) none (.loop b) a H) = true → Inv P N r H w → AF r a act → InL P b (QR P N r w (execA P K (n + 1) none (.loop b) a H)) act w := by
      intro b a H N r w act hg hI hF
      have e : execA P K (n + 1) none (.loop b) a H = (execA P K n none b a H).then (execA P K n none (.loop b)) := rfl
      rw [e] at hg ⊢
      refine inL_round (wp_mono (ih.wp b a H N r w act (then_good hg) hI hF) fun e c w' h => QR.then ?_ h)
      intro a1 H1 hx c1 w1 ⟨s, g1, g2, g3, g4⟩
      rw [hx] at hg ⊢
      have hg : good (execA P K n none (.loop b) a1 H1) = true := hg
      have := ih.loop b a1 H1 N s w1 c1 hg g3 g2
      intro f k cs
      obtain ⟨e, a', w', hq, harr⟩ := this f k cs
      exact ⟨e, a', w', QR.mono g1 g4 hq, harr⟩
    refine ⟨fun c a H N r w act hg hI hF => ?_, hloop, fun b c a H N r w act hg hI hF => ?_⟩
    · cases c with
      | skip => exact wp_skip (Rel.self hI hF)
      | label l => exact wp_label (Rel.self hI hF)
      | seq x y =>
        have e : execA P K (n + 1) none (.seq x y) a H = (execA P K n none x a H).then (execA P K n none y) := rfl
        rw [e] at hg ⊢
        refine wp_seq (wp_mono (ih.wp x a H N r w act (then_good hg) hI hF) fun e c w' h => QR.then ?_ h)
        intro a1 H1 hx c1 w1 ⟨s, g1, g2, g3, g4⟩
        rw [hx] at hg ⊢
        have hg : good (execA P K n none y a1 H1) = true := hg
        exact wp_mono (ih.wp y a1 H1 N s w1 c1 hg g3 g2) fun e c w' h => QR.mono g1 g4 h
      | cond x p q =>
        have e : execA P K (n + 1) none (.cond x p q) a H = (match ev a x with
          | some (.bool t) => execA P K n none (cond t p q) a H
          | _ => .bad []) := rfl
        rw [e] at hg ⊢
        cases hx : ev a x with
        | none => rw [hx] at hg; cases hg
        | some u =>
          rw [hx] at hg
          cases u <;> try (cases hg; done)
          case bool t =>
            have hv : act.eval x = .bool t := plain_eq rfl (ev_sound hF.1 hx)
            refine wp_cond hv ?_
            have := ih.wp (cond t p q) a H N r w act hg hI hF
            cases t <;> exact this
      | block i b =>
        have e : execA P K (n + 1) none (.block i b) a H = (match execA P K n none b a H with
          | .exit j a H => cond (Nat.beq j i) (.normal a H) (.exit j a H)
          | r => r) := rfl
        rw [e] at hg ⊢
        have hg1 : good (execA P K n none b a H) = true := by
          cases hx : execA P K n none b a H <;> rw [hx] at hg <;> first | rfl | exact hg
        refine wp_block (wp_mono (ih.wp b a H N r w act hg1 hI hF) fun e c w' h => ?_)
        cases hx : execA P K n none b a H <;> rw [hx] at h <;> cases e <;> first | exact h.elim | exact h | skip
        case exit.exit j a1 H1 j' =>
          obtain ⟨rfl, h⟩ := h
          show if j = i then _ else _
          dsimp only
          cases hb : Nat.beq j i with
          | true => rw [if_pos (Nat.eq_of_beq_eq_true hb)]; exact h
          | false =>
            rw [if_neg (fun e => by rw [e] at hb; simp at hb)]
            exact ⟨rfl, h⟩
      | loop b => exact wp_loop_in (hloop b a H N r w act hg hI hF)
      | scope b =>
        have e : execA P K (n + 1) none (.scope b) a H = execA P K n (some b) b a H := rfl
        rw [e] at hg ⊢
        exact wp_scope_in (ih.scope b b a H N r w act hg hI hF)
      | exit i => exact wp_exit ⟨rfl, Rel.self hI hF⟩
      | goto l => exact wp_goto ⟨rfl, Rel.self hI hF⟩
      | ret => exact wp_ret (Rel.self hI hF)
      | region id ops draw =>
        have e : execA P K (n + 1) none (.region id ops draw) a H = (match cond draw (drawD P K ops a H) (opsA P K ops.toList ops.toList a H) with
          | .ok a H => .normal a H
          | .bad l => .bad l) := rfl
        rw [e] at hg ⊢
        cases draw with
        | true =>
          rw [cond_true] at hg ⊢
          cases hx : drawD P K ops a H with
          | bad l => rw [hx] at hg; cases hg
          | ok a1 H1 => exact drawD_sound hm hK hI hF hx fun s c' w' g1 g2 g3 g4 => ⟨s, g1, g2, g3, g4⟩
        | false =>
          rw [cond_false] at hg ⊢
          cases hx : opsA P K ops.toList ops.toList a H with
          | bad l => rw [hx] at hg; cases hg
          | ok a1 H1 => exact wp_region_list (opsA_sound hK hI hF hx fun s c' w' g1 g2 g3 g4 => ⟨s, g1, g2, g3, g4⟩)
      | _ => cases hg
    · have e : execA P K (n + 1) (some b) c a H = (match execA P K n none c a H with
        | .goto l a H => match findLabel b l with
          | some rest => execA P K n (some b) rest a H
          | none => .bad []
        | r => r) := rfl
      rw [e] at hg ⊢
      have hg1 : good (execA P K n none c a H) = true := by
        cases hx : execA P K n none c a H <;> rw [hx] at hg <;> first | rfl | exact hg
      refine inS_step (wp_mono (ih.wp c a H N r w act hg1 hI hF) fun e c1 w1 h => ?_)
      cases hx : execA P K n none c a H <;> rw [hx] at h <;> cases e <;> first | exact h.elim | exact h | skip
      case goto.goto l a1 H1 l' =>
        obtain ⟨rfl, s, g1, g2, g3, g4⟩ := h
        rw [hx] at hg
        dsimp only at hg ⊢
        cases hf : findLabel b l with
        | none => rw [hf] at hg; cases hg
        | some rest =>
          rw [hf] at hg
          refine ⟨rest, hf, ?_⟩
          have := ih.scope b rest a1 H1 N s w1 c1 hg g3 g2
          intro f k cs
          obtain ⟨e, a', w', hq, harr⟩ := this f k cs
          exact ⟨e, a', w', QR.mono g1 g4 hq, harr⟩
end
end Go.Eng
