/-
  The plain law of the beat: in whole numbers.
  Conditions: none.
-/
import Derived.Test.YtbkamlkmimfomaaPj
namespace Go.Proofs.Ytbkamlkmimfomaa
open Go.RowKit Go.Proofs.YtbkamlkmimfomaaFl Go.Proofs.YtbkamlkmimfomaaG Go.Proofs.YtbkamlkmimfomaaIv
set_option linter.unusedVariables false
set_option linter.unusedSimpArgs false

def z4 (s0 s1 s2 s3 : Int) (j : Nat) : Int × Int := (if j = 0 then s0 else if j = 1 then s1 else if j = 2 then s2 else s3, 0)
theorem beatF_is (a0 a1 a2 a3 : Int) (k : Nat) : IC (beatF a0 a1 a2 a3 k) (zpart (z4 (sz a0) (sz a1) (sz a2) (sz a3)) (-1 * (k : Nat)) 3) := by
  have hb : ∀ n, (sz n).natAbs ≤ 1073741824 := fun n => by have := sz_range n; omega
  refine ic_part (B := 1073741824) (by decide) (fun j hj => ?_) (fun j hj => ?_) _ 3 (by decide)
  · refine ⟨?_, by show Int.natAbs 0 ≤ _; decide⟩
    show Int.natAbs (if j = 0 then sz a0 else if j = 1 then sz a1 else if j = 2 then sz a2 else sz a3) ≤ _
    repeat' split
    all_goals exact hb _
  · refine ⟨?_, io_of iv_zero⟩
    show IO (rd (if j = 0 then floatOfInt .f64 (sz a0) else if j = 1 then floatOfInt .f64 (sz a1) else if j = 2 then floatOfInt .f64 (sz a2) else floatOfInt .f64 (sz a3))) (if j = 0 then sz a0 else if j = 1 then sz a1 else if j = 2 then sz a2 else sz a3)
    repeat' split
    all_goals exact io_of (iv_of_int _ (by have := hb a0; have := hb a1; have := hb a2; have := hb a3; omega))
theorem zp1 (s0 s1 s2 s3 : Int) : zpart (z4 s0 s1 s2 s3) (-1 * ((1 : Nat) : Int)) 3 = (s0 - s2, s3 - s1) := by
  simp [zpart, z4, zadd, zspin]
  omega
theorem zp2 (s0 s1 s2 s3 : Int) : zpart (z4 s0 s1 s2 s3) (-1 * ((2 : Nat) : Int)) 3 = (s0 - s1 + s2 - s3, 0) := by
  simp [zpart, z4, zadd, zspin]
  omega
theorem zp3 (s0 s1 s2 s3 : Int) : zpart (z4 s0 s1 s2 s3) (-1 * ((3 : Nat) : Int)) 3 = (s0 - s2, s1 - s3) := by
  simp [zpart, z4, zadd, zspin]
  omega
theorem io_norm {c : C} {z : Int × Int} (h : IC c z) (h1 : (z.1 * z.1).natAbs < 4503599627370496) (h2 : (z.2 * z.2).natAbs < 4503599627370496) : IO (normC c) (z.1 * z.1 + z.2 * z.2) := by
  unfold normC
  exact io_add (io_mul h.1 h.1 (by omega)) (io_mul h.2 h.2 (by omega)) (by omega)
theorem gtO_io {a b : Option Nat} {i j : Int} (ha : IO a i) (hb : IO b j) : gtO a b = decide (j < i) := by
  obtain ⟨x, rfl, hx⟩ := ha
  obtain ⟨y, rfl, hy⟩ := hb
  exact gt_iv hx hy
theorem best_io {a b : C} {y z : Int × Int} (ha : IC a y) (hb : IC b z) (h1 : (y.1 * y.1).natAbs < 4503599627370496) (h2 : (y.2 * y.2).natAbs < 4503599627370496) (h3 : (z.1 * z.1).natAbs < 4503599627370496) (h4 : (z.2 * z.2).natAbs < 4503599627370496) : IC (best2 a b) (if y.1 * y.1 + y.2 * y.2 < z.1 * z.1 + z.2 * z.2 then z else y) := by
  unfold best2
  rw [gtO_io (io_norm hb h3 h4) (io_norm ha h1 h2)]
  by_cases h : y.1 * y.1 + y.2 * y.2 < z.1 * z.1 + z.2 * z.2
  · rw [if_pos (decide_eq_true h), if_pos h]
    exact hb
  · rw [if_neg (by rw [decide_eq_false h]; decide), if_neg h]
    exact ha
theorem sz_of {n : Int} (h0 : 0 ≤ n) (h1 : n < 1000000) : sz n = n := if_neg (by omega)
theorem beat_two (x y : Int) (hx : 0 ≤ x ∧ x < 1000000) (hy : 0 ≤ y ∧ y < 1000000) : IC (beatC x y x y) (2 * x - 2 * y, 0) ∧ beatB x y x y = decide (x < y) := by
  have f1 := beatF_is x y x y 1
  have f2 := beatF_is x y x y 2
  have f3 := beatF_is x y x y 3
  rw [zp1, sz_of hx.1 hx.2, sz_of hy.1 hy.2, Int.sub_self, Int.sub_self] at f1
  rw [zp2, sz_of hx.1 hx.2, sz_of hy.1 hy.2] at f2
  rw [zp3, sz_of hx.1 hx.2, sz_of hy.1 hy.2, Int.sub_self, Int.sub_self] at f3
  obtain ⟨d, hd⟩ : ∃ d, x - y + x - y = d := ⟨_, rfl⟩
  rw [hd] at f2
  have hdd : (d * d).natAbs < 4503599627370496 := by
    rw [Int.natAbs_mul]
    have h : d.natAbs ≤ 2000000 := by omega
    exact Nat.lt_of_le_of_lt (Nat.mul_le_mul h h) (by decide)
  have h0 : 0 ≤ d * d := by
    rcases Int.le_total 0 d with h | h
    · exact Int.mul_nonneg h h
    · exact Int.mul_nonneg_of_nonpos_of_nonpos h h
  have hzz : ((0 : Int) * 0).natAbs < 4503599627370496 := by decide
  have b12 := best_io f1 f2 hzz hzz hdd hzz
  have e12 : (if (0 : Int) * 0 + 0 * 0 < d * d + 0 * 0 then ((d, 0) : Int × Int) else (0, 0)) = (d, 0) := by
    split
    · rfl
    · have hz : d * d = 0 := by omega
      rcases Int.mul_eq_zero.1 hz with h | h <;> rw [h]
  have b12' : IC (best2 (beatF x y x y 1) (beatF x y x y 2)) (d, 0) := e12 ▸ b12
  have b := best_io b12' f3 hdd hzz hzz hzz
  have hC : IC (beatC x y x y) (d, 0) := by
    have e : (if d * d + 0 * 0 < (0 : Int) * 0 + 0 * 0 then ((0, 0) : Int × Int) else (d, 0)) = (d, 0) := if_neg (by omega)
    exact e ▸ b
  refine ⟨by rw [show 2 * x - 2 * y = d by omega]; exact hC, ?_⟩
  unfold beatB
  rw [sz_of hx.1 hx.2, sz_of hy.1 hy.2, gtO_io (io_norm hC hdd hzz) ⟨0, rfl, iv_zero⟩]
  by_cases h : x < y
  · rw [decide_eq_true h, Bool.true_and]
    apply decide_eq_true
    have hne : d * d ≠ 0 := fun h2 => by rcases Int.mul_eq_zero.1 h2 with h | h <;> omega
    show 0 < d * d + 0 * 0
    omega
  · rw [decide_eq_false h, Bool.false_and]
theorem beat_same (x : Int) (hx : 0 ≤ x ∧ x < 1000000) : IC (beatC x x x x) (0, 0) ∧ beatB x x x x = false := by
  have h := beat_two x x hx hx
  rw [show 2 * x - 2 * x = 0 by omega, decide_eq_false (by omega)] at h
  exact h
end Go.Proofs.Ytbkamlkmimfomaa
