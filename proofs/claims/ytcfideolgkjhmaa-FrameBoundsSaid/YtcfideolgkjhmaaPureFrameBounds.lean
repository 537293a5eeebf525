/- So many bytes, such channels, and no more: for all numbers. No conditions. -/
import Derived.Test.YtcfideolgkjhmaaPGqx5
import Derived.Test.YtcfideolgkjhmaaFrB
namespace Go.Proofs.Ytcfideolgkjhmaa.Pure
open Go.RowKit Go.Proofs.Ytcfideolgkjhmaa.PGq Go.Proofs.YtcfideolgkjhmaaW.PrintWords Go.Proofs.YtcfideolgkjhmaaW.PrintLast Go.Proofs.Ytcfideolgkjhmaa.FrB

theorem rest_of (x n : Int) (h0 : 0 < n) (h : n ≤ 10) : 0 ≤ wrap64 (Int.tmod (IntKind.u64.wrap x) n) ∧ wrap64 (Int.tmod (IntKind.u64.wrap x) n) < n := by
  have hx : 0 ≤ IntKind.u64.wrap x := Int.emod_nonneg _ (by decide)
  rw [Int.tmod_eq_emod_of_nonneg hx]
  have a := Int.emod_nonneg (IntKind.u64.wrap x) (by omega : n ≠ 0)
  have b := Int.emod_lt_of_pos (IntKind.u64.wrap x) h0
  unfold wrap64
  omega

theorem way (k : Nat) (x7 t c : Int) (l : List Int) (h7 : x7 = l.length) (h7' : x7 ≤ 5000) (hc : 0 ≤ c) (ht : 1 ≤ t ∧ t ≤ 9) (b : Bool)
    (hb : b = decide (x7 ≤ 4096 ∧ c ≤ 65535 ∧ t ≤ 3)) (h8 : x7 > 0) : carrefourlaw4_FrameBounds.j0 (k + 22) x7 t b t c l = some true := by
  have e1 : mayB t c l = b := by
    rw [hb]
    unfold mayB kin
    rw [← Bool.decide_and]
    exact decide_eq_decide.mpr (by omega)
  have e2 : mayB t 0 [] = decide (t ≤ 3 ∨ t = 8) := by
    unfold mayB kin
    rw [← Bool.decide_and]
    refine decide_eq_decide.mpr ?_
    simp
    omega
  simp only [carrefourlaw4_FrameBounds.j0]
  rw [put_tells, told_may, may_tells, may_tells, e1, e2]
  simp only [Option.bind_some, if_true]
  cases b
  · simp only [Bool.false_eq_true, if_false, Int.one_ne_zero]
    by_cases h3 : t ≤ 3
    · simp [h3]
    · by_cases h8 : t = 8 <;> simp [h3, h8]
  · have L := bytes_len t c l
    have w : wrap64 (x7 + 8) = x7 + 8 := by
      unfold wrap64
      omega
    simp only [if_true]
    rw [if_pos (by omega)]
    by_cases h3 : t ≤ 3
    · simp [h3]
    · by_cases h8 : t = 8 <;> simp [h3, h8]

theorem FrameBounds : carrefourlaw4_FrameBounds.Pure := by
  intro a0 a1 a2 h0 h1 h2
  refine ⟨30, ?_⟩
  unfold carrefourlaw4_FrameBounds.f
  have r0 := rest_of a0 5 (by omega) (by omega)
  have r1 := rest_of a1 4 (by omega) (by omega)
  have r2 := rest_of a2 9 (by omega) (by omega)
  generalize wrap64 (Int.tmod (IntKind.u64.wrap a0) 5) = x at r0 ⊢
  generalize wrap64 (Int.tmod (IntKind.u64.wrap a1) 4) = y at r1 ⊢
  generalize wrap64 (Int.tmod (IntKind.u64.wrap a2) 9) = z at r2 ⊢
  have w0 : wrap64 (4094 + x) = 4094 + x := by
    unfold wrap64
    omega
  have w1 : wrap64 (65534 + y) = 65534 + y := by
    unfold wrap64
    omega
  have w2 : wrap64 (1 + z) = 1 + z := by
    unfold wrap64
    omega
  rw [w0, w1, w2, if_pos (by omega), if_pos (by omega)]
  simp only [Option.bind_some]
  have L : (List.replicate (4094 + x).toNat (0 : Int)).length = (4094 + x).toNat := List.length_replicate
  have go := fun b hb => way 8 (4094 + x) (1 + z) (65534 + y) (List.replicate (4094 + x).toNat (0 : Int)) (by omega) (by omega) (by omega) (by omega) b hb (by omega)
  by_cases c0 : 4094 + x ≤ 4096
  · rw [if_pos c0]
    by_cases c1 : 65534 + y ≤ 65535
    · rw [if_pos c1]
      exact go _ (decide_eq_decide.mpr (by omega))
    · rw [if_neg c1]
      exact go _ (decide_eq_false (by omega)).symm
  · rw [if_neg c0]
    exact go _ (decide_eq_false (by omega)).symm

end Go.Proofs.Ytcfideolgkjhmaa.Pure
