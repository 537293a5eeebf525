/- Whatever comes, a move that is over stays over; behind a switch it never aborts; the source is never safe again behind a switch. No conditions. -/
import Derived.Test.YtladmbjfnkmlnaaPGpx5
import Derived.Test.YtladmbjfnkmlnaaShiftB
namespace Go.Proofs.Ytladmbjfnkmlnaa.Pure
open Go.RowKit Go.Proofs.Ytladmbjfnkmlnaa.PGp Go.Proofs.YtladmbjfnkmlnaaW.PrintWords Go.Proofs.YtladmbjfnkmlnaaW.PrintLast

/-- What a step says of the way till there. -/
def Way (p : Int) (s a : Bool) : Prop :=
  (0 ≤ p ∧ p ≤ 4 ∧ s = false ∧ a = false) ∨ (5 ≤ p ∧ p ≤ 7 ∧ s = true ∧ a = false) ∨ (8 ≤ p ∧ p ≤ 9 ∧ s = false ∧ a = true)

theorem way_round (l : List Int) (p : Int) (s a : Bool) (i : Int) (h : Way p s a) (h0 : 0 ≤ i) (h1 : i < (l.length : Int)) (k : Nat) :
    ∃ q s' a', Way q s' a' ∧ ∃ j, j ≤ 5 ∧ 0 < j ∧ carrefourlaw18_ShiftWays.j1 (k + 30) l p s a i true = carrefourlaw18_ShiftWays.l1 (k + 30 - j) l q s' a' (wrap64 (i + 1)) := by
  have he := rest_range (rd l i) 1 9 (by omega) (by omega) (by omega) (by omega)
  simp only [carrefourlaw18_ShiftWays.j1]
  rw [if_pos h0, if_pos h1]
  generalize wrap64 (1 + wrap64 (Int.tmod (IntKind.u64.wrap (rd l i)) 9)) = e at he
  have step : ∀ {p e : Int} {r : Int × Int}, shift_Next.f 20 p e = some r → shift_Next.f (k + 29) p e = some r := fun hn => next_at hn _ (by omega)
  have again : ∀ {p r : Int}, shift_Again.f 20 p = some r → shift_Again.f (k + 25) p = some r := fun hn => again_at hn _ (by omega)
  have hp : p = 0 ∨ p = 1 ∨ p = 2 ∨ p = 3 ∨ p = 4 ∨ p = 5 ∨ p = 6 ∨ p = 7 ∨ p = 8 ∨ p = 9 := by
    rcases h with h | h | h <;> omega
  have hs : s = decide (5 ≤ p ∧ p ≤ 7) ∧ a = decide (8 ≤ p) := by
    rcases h with ⟨_, _, rfl, rfl⟩ | ⟨_, _, rfl, rfl⟩ | ⟨_, _, rfl, rfl⟩ <;> constructor <;> symm <;> simp <;> omega
  obtain ⟨rfl, rfl⟩ := hs
  clear h
  rcases hp with rfl | rfl | rfl | rfl | rfl | rfl | rfl | rfl | rfl | rfl <;>
  rcases nine e (by omega) (by omega) with rfl | rfl | rfl | rfl | rfl | rfl | rfl | rfl | rfl <;>
  (rw [step rfl]
   exact ⟨_, _, _, by first | exact .inl ⟨by decide, by decide, rfl, rfl⟩ | exact .inr (.inl ⟨by decide, by decide, rfl, rfl⟩) | exact .inr (.inr ⟨by decide, by decide, rfl, rfl⟩), 5, by decide, by decide, rfl⟩)

theorem ways_end (l : List Int) (p : Int) (s a : Bool) (i : Int) (k : Nat) (hk : 30 ≤ k) : carrefourlaw18_ShiftWays.j1 k l p s a i false = some true := by
  obtain ⟨k, rfl⟩ : ∃ m, k = m + 1 := ⟨k - 1, by omega⟩
  simp only [carrefourlaw18_ShiftWays.j1]
  rw [if_neg (by decide), told_at k (by omega)]
  rfl

theorem ways_loop (l : List Int) (hl : l.length ≤ 9223372036854775807) (d : Nat) : ∀ (k : Nat) (p : Int) (s a : Bool) (i : Int), Way p s a → 0 ≤ i → i ≤ l.length → (l.length : Int) - i = d → 40 + 6 * d ≤ k →
    carrefourlaw18_ShiftWays.l1 k l p s a i = some true := by
  induction d with
  | zero =>
    intro k p s a i h h0 h1 hd hk
    obtain ⟨k, rfl⟩ : ∃ m, k = m + 1 := ⟨k - 1, by omega⟩
    simp only [carrefourlaw18_ShiftWays.l1]
    rw [if_neg (by omega)]
    exact ways_end l p s a i k (by omega)
  | succ d ih =>
    intro k p s a i h h0 h1 hd hk
    obtain ⟨k, rfl⟩ : ∃ m, k = m + 31 := ⟨k - 31, by omega⟩
    have hlt : i < (l.length : Int) := by omega
    simp only [carrefourlaw18_ShiftWays.l1]
    rw [if_pos hlt]
    by_cases h100 : i < 100
    · rw [decide_eq_true h100]
      obtain ⟨q, s', a', hw, j, hj, _, hr⟩ := way_round l p s a i h h0 hlt k
      rw [hr, wrap_up h0 hlt hl]
      exact ih _ q s' a' (i + 1) hw (by omega) (by omega) (by omega) (by omega)
    · rw [decide_eq_false h100]
      exact ways_end l p s a i _ (by omega)

theorem ShiftWays : carrefourlaw18_ShiftWays.Pure := by
  intro l hl _ _
  refine ⟨40 + 6 * l.length, ?_⟩
  unfold carrefourlaw18_ShiftWays.f
  exact ways_loop l (by simpa [maxLen] using hl) l.length _ 0 false false 0 (.inl ⟨by decide, by decide, rfl, rfl⟩) (by omega) (by omega) (by omega) (by omega)

end Go.Proofs.Ytladmbjfnkmlnaa.Pure
