/- With the right answers each move ends, whatever came before. No conditions. -/
import Derived.Test.YtladmbjfnkmlnaaPGpx6
import Derived.Test.YtladmbjfnkmlnaaShiftB
namespace Go.Proofs.Ytladmbjfnkmlnaa.Pure
open Go.RowKit Go.Proofs.Ytladmbjfnkmlnaa.PGp Go.Proofs.YtladmbjfnkmlnaaW.PrintWords Go.Proofs.YtladmbjfnkmlnaaW.PrintLast

theorem ends_at (p : Int) (h : 1 ≤ p) (h' : p < 10) (k : Nat) (hk : 80 ≤ k) : carrefourlaw18_ShiftEnds.j1 k p = some true := by
  refine at_rounds (g := fun k => carrefourlaw18_ShiftEnds.j1 k p) (fun k => ?_) hk ?_
  · have := carrefourlaw18_ShiftEnds.mono_l k
    exact this.1 p
  · rcases nine p h h' with rfl | rfl | rfl | rfl | rfl | rfl | rfl | rfl | rfl <;> kernel_rfl

theorem next_in (p e : Int) (h : 1 ≤ p) (h' : p < 10) (g : 1 ≤ e) (g' : e < 10) : ∃ q a, shift_Next.f 20 p e = some (q, a) ∧ 1 ≤ q ∧ q < 10 := by
  rcases nine p h h' with rfl | rfl | rfl | rfl | rfl | rfl | rfl | rfl | rfl <;>
  rcases nine e g g' with rfl | rfl | rfl | rfl | rfl | rfl | rfl | rfl | rfl <;>
  exact ⟨_, _, rfl, by decide, by decide⟩

theorem ends_loop (l : List Int) (hl : l.length ≤ 9223372036854775807) (d : Nat) : ∀ (k : Nat) (p i : Int), 1 ≤ p → p < 10 → 0 ≤ i → i ≤ l.length → (l.length : Int) - i = d → 82 + d ≤ k →
    carrefourlaw18_ShiftEnds.l2 k l p i = some true := by
  induction d with
  | zero =>
    intro k p i h h' h0 h1 hd hk
    obtain ⟨k, rfl⟩ : ∃ m, k = m + 1 := ⟨k - 1, by omega⟩
    simp only [carrefourlaw18_ShiftEnds.l2]
    rw [if_neg (by omega)]
    exact ends_at p h h' k (by omega)
  | succ d ih =>
    intro k p i h h' h0 h1 hd hk
    obtain ⟨k, rfl⟩ : ∃ m, k = m + 1 := ⟨k - 1, by omega⟩
    have hlt : i < (l.length : Int) := by omega
    simp only [carrefourlaw18_ShiftEnds.l2]
    rw [if_pos hlt]
    by_cases h60 : i < 60
    · rw [if_pos h60, if_pos h0]
      have he := rest_range (rd l i) 2 8 (by omega) (by omega) (by omega) (by omega)
      generalize wrap64 (2 + wrap64 (Int.tmod (IntKind.u64.wrap (rd l i)) 8)) = e at he
      obtain ⟨q, a, hn, hq, hq'⟩ := next_in p e h h' (by omega) (by omega)
      rw [next_at hn k (by omega)]
      simp only [Option.bind_some]
      rw [wrap_up h0 hlt hl]
      exact ih k q (i + 1) hq hq' (by omega) (by omega) (by omega) (by omega)
    · rw [if_neg h60]
      exact ends_at p h h' k (by omega)

theorem ShiftEnds : carrefourlaw18_ShiftEnds.Pure := by
  intro l hl _ _
  refine ⟨82 + l.length, ?_⟩
  have hn : shift_Next.f (82 + l.length) 0 1 = some (1, 1) := next_at rfl _ (by omega)
  unfold carrefourlaw18_ShiftEnds.f
  rw [hn]
  simp only [Option.bind_some]
  exact ends_loop l (by simpa [maxLen] using hl) l.length _ 1 0 (by omega) (by omega) (by omega) (by omega) (by omega) (by omega)

end Go.Proofs.Ytladmbjfnkmlnaa.Pure
