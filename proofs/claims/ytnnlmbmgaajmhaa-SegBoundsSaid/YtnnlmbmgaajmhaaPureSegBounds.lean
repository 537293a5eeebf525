/- A record has one byte at least, and twenty thousand at most: for all numbers near the bounds. No conditions. -/
import Derived.Test.YtnnlmbmgaajmhaaPGhx1
import Derived.Test.YtnnlmbmgaajmhaaSgC
namespace Go.Proofs.Ytnnlmbmgaajmhaa.Pure
open Go.RowKit Go.Proofs.Ytnnlmbmgaajmhaa.PGh Go.Proofs.YtnnlmbmgaajmhaaW.PrintWords Go.Proofs.YtnnlmbmgaajmhaaW.PrintLast Go.Proofs.YtnnlmbmgaajmhaaH Go.Proofs.Ytnnlmbmgaajmhaa.Sg
theorem told_f : carrefourlaw11_told.f = some true := rfl
theorem near_ok (k n : Nat) (R : List Int) (hr : R.length = n + 6) (hn : n < 1000000) : carrefourlaw11_SegBounds.j1 (k + 1) (n : Int) R 0 true = some true := by
  simp only [carrefourlaw11_SegBounds.j1]
  rw [told_f, hr, w64 _ (by omega) (by omega)]
  simp
theorem near (x : Int) (h0 : 0 ≤ x) (h1 : x ≤ 30000) : carrefourlaw11_SegBounds.j0 2 x = some true := by
  obtain ⟨n, rfl⟩ := Int.eq_ofNat_of_zero_le h0
  simp only [carrefourlaw11_SegBounds.j0]
  rw [if_pos h0, if_pos (by omega), Int.toNat_natCast]
  have hl : (List.replicate n (0 : Int)).length = n := List.length_replicate
  have ho : Oct (List.replicate n (0 : Int)) := fun y hy => by
    have := (List.mem_replicate.mp hy).2
    omega
  unfold seg_Record.f
  rw [hl]
  by_cases c : n < 1 ∨ 20000 < n
  · rw [if_pos c]
    simp only [Option.bind_some]
    have j : ∀ b, b = false → carrefourlaw11_SegBounds.j1 1 (n : Int) [] 1 b = some true := fun b hb => by
      subst hb
      simp only [carrefourlaw11_SegBounds.j1]
      rw [told_f]
      rfl
    by_cases c2 : (n : Int) ≥ 1
    · rw [if_pos c2, j _ (decide_eq_false (by omega))]
    · rw [if_neg c2, j _ rfl]
  · have hr : (recP (List.replicate n (0 : Int))).length = n + 6 := by rw [rec_len, hl]
    rw [if_neg c, if_pos ho]
    generalize recP (List.replicate n (0 : Int)) = R at hr ⊢
    simp only [Option.bind_some]
    have h1 : (n : Int) ≥ 1 := by omega
    have h2 : (n : Int) ≤ 20000 := by omega
    rw [if_pos h1, decide_eq_true h2]
    exact near_ok 0 n R hr (by omega)
theorem SegBounds : carrefourlaw11_SegBounds.Pure := by
  intro a0 a1 _
  refine ⟨2, ?_⟩
  unfold carrefourlaw11_SegBounds.f
  by_cases h : a1 = true
  · obtain ⟨m, hm, hml⟩ := place a0 3 (by omega) (by omega)
    have hm : wrap64 (Int.tmod (IntKind.u64.wrap a0) 3) = (m : Int) := hm
    rw [if_pos h, hm]
    exact near _ (by omega) (by omega)
  · obtain ⟨m, hm, hml⟩ := place a0 5 (by omega) (by omega)
    have hm : wrap64 (Int.tmod (IntKind.u64.wrap a0) 5) = (m : Int) := hm
    rw [if_neg h, hm, w64 _ (by omega) (by omega)]
    exact near _ (by omega) (by omega)
end Go.Proofs.Ytnnlmbmgaajmhaa.Pure
