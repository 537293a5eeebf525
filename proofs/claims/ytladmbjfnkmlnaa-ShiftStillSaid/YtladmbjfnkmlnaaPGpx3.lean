-- Written by gprint.py, this session's own program, out of Lean's print of the translation: functions with the same answers, and proofs that the Go code comes to them. Lean checks it all.
import Derived.Test.YtladmbjfnkmlnaaPGpx0
import Derived.Test.YtladmbjfnkmlnaaPGpx2
namespace Go.Proofs.Ytladmbjfnkmlnaa.PGp
open Go.RowKit Go.Proofs.YtladmbjfnkmlnaaW.PrintWords Go.Proofs.YtladmbjfnkmlnaaW.PrintLast Go.Proofs.YtladmbjfnkmlnaaW.PrintMore Go.Proofs.YtladmbjfnkmlnaaG
attribute [local go_sem] max2_int min2_int max_two min_two max_three min_three max_four min_four   -- for this text's walks alone
set_option linter.unusedVariables false
set_option linter.unusedSimpArgs false

/-! ### carrefourref18_Next: function 9 -/
mutual
def carrefourref18_Next.j0 : Nat → Int → Int → Int → Bool → Option (Int × Int)
  | 0, _, _, _, _ => none
  | k + 1, x0, x1, x6, x9 => if x9 = true then ((carrefourref18_Again.f k 1).bind fun t107 => (some (1, t107))) else (if x0 = 1 then (carrefourref18_Next.j1 k x0 x1 x6 (x1 == 2)) else (carrefourref18_Next.j1 k x0 x1 x6 false))
def carrefourref18_Next.j1 : Nat → Int → Int → Int → Bool → Option (Int × Int)
  | 0, _, _, _, _ => none
  | k + 1, x0, x1, x6, x16 => if x16 = true then ((carrefourref18_Again.f k 2).bind fun t108 => (some (2, t108))) else (if x0 = 2 then (carrefourref18_Next.j2 k x0 x1 x6 (x1 == 3)) else (carrefourref18_Next.j2 k x0 x1 x6 false))
def carrefourref18_Next.j2 : Nat → Int → Int → Int → Bool → Option (Int × Int)
  | 0, _, _, _, _ => none
  | k + 1, x0, x1, x6, x23 => if x23 = true then ((carrefourref18_Again.f k 3).bind fun t109 => (some (3, t109))) else (if x0 = 3 then (carrefourref18_Next.j3 k x0 x1 x6 (x1 == 4)) else (carrefourref18_Next.j3 k x0 x1 x6 false))
def carrefourref18_Next.j3 : Nat → Int → Int → Int → Bool → Option (Int × Int)
  | 0, _, _, _, _ => none
  | k + 1, x0, x1, x6, x30 => if x30 = true then ((carrefourref18_Again.f k 4).bind fun t110 => (some (4, t110))) else (if x0 = 4 then (carrefourref18_Next.j4 k x0 x1 x6 (x1 == 5)) else (carrefourref18_Next.j4 k x0 x1 x6 false))
def carrefourref18_Next.j4 : Nat → Int → Int → Int → Bool → Option (Int × Int)
  | 0, _, _, _, _ => none
  | k + 1, x0, x1, x6, x37 => if x37 = true then ((carrefourref18_Again.f k 5).bind fun t111 => (some (5, t111))) else (if x0 = 5 then (carrefourref18_Next.j5 k x0 x1 x6 (x1 == 6)) else (if x0 = 6 then (carrefourref18_Next.j5 k x0 x1 x6 (x1 == 6)) else (carrefourref18_Next.j5 k x0 x1 x6 false)))
def carrefourref18_Next.j5 : Nat → Int → Int → Int → Bool → Option (Int × Int)
  | 0, _, _, _, _ => none
  | k + 1, x0, x1, x6, x44 => if x44 = true then (some (7, 0)) else (if x0 = 8 then (carrefourref18_Next.j6 k x0 x1 x6 (x1 == 7)) else (carrefourref18_Next.j6 k x0 x1 x6 false))
def carrefourref18_Next.j6 : Nat → Int → Int → Int → Bool → Option (Int × Int)
  | 0, _, _, _, _ => none
  | k + 1, x0, x1, x6, x55 => if x55 = true then (some (9, 0)) else (if x1 = 9 then (if x0 = 1 then (carrefourref18_Next.j7 k x0 x1 x6 true) else (if x0 = 2 then (carrefourref18_Next.j7 k x0 x1 x6 true) else (carrefourref18_Next.j7 k x0 x1 x6 (x0 == 3)))) else (carrefourref18_Next.j7 k x0 x1 x6 false))
def carrefourref18_Next.j7 : Nat → Int → Int → Int → Bool → Option (Int × Int)
  | 0, _, _, _, _ => none
  | k + 1, x0, x1, x6, x62 => if x62 = true then ((carrefourref18_Again.f k 8).bind fun t112 => (some (8, t112))) else (if x1 = 9 then (if x0 = 4 then (carrefourref18_Next.j8 k x0 x1 x6 true) else (if x0 = 6 then (carrefourref18_Next.j8 k x0 x1 x6 true) else (carrefourref18_Next.j8 k x0 x1 x6 (x0 == 8)))) else (carrefourref18_Next.j8 k x0 x1 x6 false))
def carrefourref18_Next.j8 : Nat → Int → Int → Int → Bool → Option (Int × Int)
  | 0, _, _, _, _ => none
  | k + 1, x0, x1, x6, x77 => if x77 = true then ((carrefourref18_Again.f k x6).bind fun t113 => (some (x6, t113))) else (if x1 = 9 then (carrefourref18_Next.j9 k x0 x1 x6 (x0 == 5)) else (if x1 = 8 then (carrefourref18_Next.j9 k x0 x1 x6 (x0 == 5)) else (carrefourref18_Next.j9 k x0 x1 x6 false)))
def carrefourref18_Next.j9 : Nat → Int → Int → Int → Bool → Option (Int × Int)
  | 0, _, _, _, _ => none
  | k + 1, x0, x1, x6, x92 => if x92 = true then ((carrefourref18_Again.f k 6).bind fun t114 => (some (6, t114))) else (if x1 = 8 then (carrefourref18_Next.j10 k x0 x1 x6 (x0 == 6)) else (carrefourref18_Next.j10 k x0 x1 x6 false))
def carrefourref18_Next.j10 : Nat → Int → Int → Int → Bool → Option (Int × Int)
  | 0, _, _, _, _ => none
  | k + 1, x0, x1, x6, x103 => if x103 = true then ((carrefourref18_Again.f k x6).bind fun t115 => (some (x6, t115))) else (if x1 = 8 then (if x0 ≥ 1 then (if x0 ≤ 4 then ((carrefourref18_Again.f k 8).bind fun t116 => (some (8, t116))) else (if x0 = 8 then ((carrefourref18_Again.f k 8).bind fun t117 => (some (8, t117))) else (some (x0, 0)))) else (if x0 = 8 then ((carrefourref18_Again.f k 8).bind fun t118 => (some (8, t118))) else (some (x0, 0)))) else (some (x0, 0)))
end
def carrefourref18_Next.f (k : Nat) (a0 : Int) (a1 : Int) : Option (Int × Int) := if a0 = 0 then (carrefourref18_Next.j0 k a0 a1 a0 (a1 == 1)) else (carrefourref18_Next.j0 k a0 a1 a0 false)
theorem carrefourref18_Next.mono_l : ∀ k, (∀ y0 y1 y2 y3, LeO (carrefourref18_Next.j0 k y0 y1 y2 y3) (carrefourref18_Next.j0 (k + 1) y0 y1 y2 y3)) ∧ (∀ y0 y1 y2 y3, LeO (carrefourref18_Next.j1 k y0 y1 y2 y3) (carrefourref18_Next.j1 (k + 1) y0 y1 y2 y3)) ∧ (∀ y0 y1 y2 y3, LeO (carrefourref18_Next.j2 k y0 y1 y2 y3) (carrefourref18_Next.j2 (k + 1) y0 y1 y2 y3)) ∧ (∀ y0 y1 y2 y3, LeO (carrefourref18_Next.j3 k y0 y1 y2 y3) (carrefourref18_Next.j3 (k + 1) y0 y1 y2 y3)) ∧ (∀ y0 y1 y2 y3, LeO (carrefourref18_Next.j4 k y0 y1 y2 y3) (carrefourref18_Next.j4 (k + 1) y0 y1 y2 y3)) ∧ (∀ y0 y1 y2 y3, LeO (carrefourref18_Next.j5 k y0 y1 y2 y3) (carrefourref18_Next.j5 (k + 1) y0 y1 y2 y3)) ∧ (∀ y0 y1 y2 y3, LeO (carrefourref18_Next.j6 k y0 y1 y2 y3) (carrefourref18_Next.j6 (k + 1) y0 y1 y2 y3)) ∧ (∀ y0 y1 y2 y3, LeO (carrefourref18_Next.j7 k y0 y1 y2 y3) (carrefourref18_Next.j7 (k + 1) y0 y1 y2 y3)) ∧ (∀ y0 y1 y2 y3, LeO (carrefourref18_Next.j8 k y0 y1 y2 y3) (carrefourref18_Next.j8 (k + 1) y0 y1 y2 y3)) ∧ (∀ y0 y1 y2 y3, LeO (carrefourref18_Next.j9 k y0 y1 y2 y3) (carrefourref18_Next.j9 (k + 1) y0 y1 y2 y3)) ∧ (∀ y0 y1 y2 y3, LeO (carrefourref18_Next.j10 k y0 y1 y2 y3) (carrefourref18_Next.j10 (k + 1) y0 y1 y2 y3))
  | 0 => ⟨fun _ _ _ _ r h => by simp [carrefourref18_Next.j0] at h, fun _ _ _ _ r h => by simp [carrefourref18_Next.j1] at h, fun _ _ _ _ r h => by simp [carrefourref18_Next.j2] at h, fun _ _ _ _ r h => by simp [carrefourref18_Next.j3] at h, fun _ _ _ _ r h => by simp [carrefourref18_Next.j4] at h, fun _ _ _ _ r h => by simp [carrefourref18_Next.j5] at h, fun _ _ _ _ r h => by simp [carrefourref18_Next.j6] at h, fun _ _ _ _ r h => by simp [carrefourref18_Next.j7] at h, fun _ _ _ _ r h => by simp [carrefourref18_Next.j8] at h, fun _ _ _ _ r h => by simp [carrefourref18_Next.j9] at h, fun _ _ _ _ r h => by simp [carrefourref18_Next.j10] at h⟩
  | k + 1 => by
    obtain ⟨ih0, ih1, ih2, ih3, ih4, ih5, ih6, ih7, ih8, ih9, ih10⟩ := carrefourref18_Next.mono_l k
    refine ⟨?_, ?_, ?_, ?_, ?_, ?_, ?_, ?_, ?_, ?_, ?_⟩
    · intro y0 y1 y2 y3
      unfold carrefourref18_Next.j0
      repeat' first
      | (with_reducible exact ih0 _ _ _ _)
      | (with_reducible exact ih1 _ _ _ _)
      | (with_reducible exact ih2 _ _ _ _)
      | (with_reducible exact ih3 _ _ _ _)
      | (with_reducible exact ih4 _ _ _ _)
      | (with_reducible exact ih5 _ _ _ _)
      | (with_reducible exact ih6 _ _ _ _)
      | (with_reducible exact ih7 _ _ _ _)
      | (with_reducible exact ih8 _ _ _ _)
      | (with_reducible exact ih9 _ _ _ _)
      | (with_reducible exact ih10 _ _ _ _)
      | (with_reducible exact carrefourref18_Again.mono _ _)
      | (with_reducible exact LeO.refl _)
      | (with_reducible exact LeO.none _)
      | (with_reducible refine LeO.ite ?_ ?_)
      | (with_reducible refine LeO.bind ?_ (fun _ => ?_))
      | exact ih0 _ _ _ _
      | exact ih1 _ _ _ _
      | exact ih2 _ _ _ _
      | exact ih3 _ _ _ _
      | exact ih4 _ _ _ _
      | exact ih5 _ _ _ _
      | exact ih6 _ _ _ _
      | exact ih7 _ _ _ _
      | exact ih8 _ _ _ _
      | exact ih9 _ _ _ _
      | exact ih10 _ _ _ _
      | exact carrefourref18_Again.mono _ _
      | exact LeO.none _
      | refine LeO.ite ?_ ?_
      | refine LeO.bind ?_ (fun _ => ?_)
    · intro y0 y1 y2 y3
      unfold carrefourref18_Next.j1
      repeat' first
      | (with_reducible exact ih0 _ _ _ _)
      | (with_reducible exact ih1 _ _ _ _)
      | (with_reducible exact ih2 _ _ _ _)
      | (with_reducible exact ih3 _ _ _ _)
      | (with_reducible exact ih4 _ _ _ _)
      | (with_reducible exact ih5 _ _ _ _)
      | (with_reducible exact ih6 _ _ _ _)
      | (with_reducible exact ih7 _ _ _ _)
      | (with_reducible exact ih8 _ _ _ _)
      | (with_reducible exact ih9 _ _ _ _)
      | (with_reducible exact ih10 _ _ _ _)
      | (with_reducible exact carrefourref18_Again.mono _ _)
      | (with_reducible exact LeO.refl _)
      | (with_reducible exact LeO.none _)
      | (with_reducible refine LeO.ite ?_ ?_)
      | (with_reducible refine LeO.bind ?_ (fun _ => ?_))
      | exact ih0 _ _ _ _
      | exact ih1 _ _ _ _
      | exact ih2 _ _ _ _
      | exact ih3 _ _ _ _
      | exact ih4 _ _ _ _
      | exact ih5 _ _ _ _
      | exact ih6 _ _ _ _
      | exact ih7 _ _ _ _
      | exact ih8 _ _ _ _
      | exact ih9 _ _ _ _
      | exact ih10 _ _ _ _
      | exact carrefourref18_Again.mono _ _
      | exact LeO.none _
      | refine LeO.ite ?_ ?_
      | refine LeO.bind ?_ (fun _ => ?_)
    · intro y0 y1 y2 y3
      unfold carrefourref18_Next.j2
      repeat' first
      | (with_reducible exact ih0 _ _ _ _)
      | (with_reducible exact ih1 _ _ _ _)
      | (with_reducible exact ih2 _ _ _ _)
      | (with_reducible exact ih3 _ _ _ _)
      | (with_reducible exact ih4 _ _ _ _)
      | (with_reducible exact ih5 _ _ _ _)
      | (with_reducible exact ih6 _ _ _ _)
      | (with_reducible exact ih7 _ _ _ _)
      | (with_reducible exact ih8 _ _ _ _)
      | (with_reducible exact ih9 _ _ _ _)
      | (with_reducible exact ih10 _ _ _ _)
      | (with_reducible exact carrefourref18_Again.mono _ _)
      | (with_reducible exact LeO.refl _)
      | (with_reducible exact LeO.none _)
      | (with_reducible refine LeO.ite ?_ ?_)
      | (with_reducible refine LeO.bind ?_ (fun _ => ?_))
      | exact ih0 _ _ _ _
      | exact ih1 _ _ _ _
      | exact ih2 _ _ _ _
      | exact ih3 _ _ _ _
      | exact ih4 _ _ _ _
      | exact ih5 _ _ _ _
      | exact ih6 _ _ _ _
      | exact ih7 _ _ _ _
      | exact ih8 _ _ _ _
      | exact ih9 _ _ _ _
      | exact ih10 _ _ _ _
      | exact carrefourref18_Again.mono _ _
      | exact LeO.none _
      | refine LeO.ite ?_ ?_
      | refine LeO.bind ?_ (fun _ => ?_)
    · intro y0 y1 y2 y3
      unfold carrefourref18_Next.j3
      repeat' first
      | (with_reducible exact ih0 _ _ _ _)
      | (with_reducible exact ih1 _ _ _ _)
      | (with_reducible exact ih2 _ _ _ _)
      | (with_reducible exact ih3 _ _ _ _)
      | (with_reducible exact ih4 _ _ _ _)
      | (with_reducible exact ih5 _ _ _ _)
      | (with_reducible exact ih6 _ _ _ _)
      | (with_reducible exact ih7 _ _ _ _)
      | (with_reducible exact ih8 _ _ _ _)
      | (with_reducible exact ih9 _ _ _ _)
      | (with_reducible exact ih10 _ _ _ _)
      | (with_reducible exact carrefourref18_Again.mono _ _)
      | (with_reducible exact LeO.refl _)
      | (with_reducible exact LeO.none _)
      | (with_reducible refine LeO.ite ?_ ?_)
      | (with_reducible refine LeO.bind ?_ (fun _ => ?_))
      | exact ih0 _ _ _ _
      | exact ih1 _ _ _ _
      | exact ih2 _ _ _ _
      | exact ih3 _ _ _ _
      | exact ih4 _ _ _ _
      | exact ih5 _ _ _ _
      | exact ih6 _ _ _ _
      | exact ih7 _ _ _ _
      | exact ih8 _ _ _ _
      | exact ih9 _ _ _ _
      | exact ih10 _ _ _ _
      | exact carrefourref18_Again.mono _ _
      | exact LeO.none _
      | refine LeO.ite ?_ ?_
      | refine LeO.bind ?_ (fun _ => ?_)
    · intro y0 y1 y2 y3
      unfold carrefourref18_Next.j4
      repeat' first
      | (with_reducible exact ih0 _ _ _ _)
      | (with_reducible exact ih1 _ _ _ _)
      | (with_reducible exact ih2 _ _ _ _)
      | (with_reducible exact ih3 _ _ _ _)
      | (with_reducible exact ih4 _ _ _ _)
      | (with_reducible exact ih5 _ _ _ _)
      | (with_reducible exact ih6 _ _ _ _)
      | (with_reducible exact ih7 _ _ _ _)
      | (with_reducible exact ih8 _ _ _ _)
      | (with_reducible exact ih9 _ _ _ _)
      | (with_reducible exact ih10 _ _ _ _)
      | (with_reducible exact carrefourref18_Again.mono _ _)
      | (with_reducible exact LeO.refl _)
      | (with_reducible exact LeO.none _)
      | (with_reducible refine LeO.ite ?_ ?_)
      | (with_reducible refine LeO.bind ?_ (fun _ => ?_))
      | exact ih0 _ _ _ _
      | exact ih1 _ _ _ _
      | exact ih2 _ _ _ _
      | exact ih3 _ _ _ _
      | exact ih4 _ _ _ _
      | exact ih5 _ _ _ _
      | exact ih6 _ _ _ _
      | exact ih7 _ _ _ _
      | exact ih8 _ _ _ _
      | exact ih9 _ _ _ _
      | exact ih10 _ _ _ _
      | exact carrefourref18_Again.mono _ _
      | exact LeO.none _
      | refine LeO.ite ?_ ?_
      | refine LeO.bind ?_ (fun _ => ?_)
    · intro y0 y1 y2 y3
      unfold carrefourref18_Next.j5
      repeat' first
      | (with_reducible exact ih0 _ _ _ _)
      | (with_reducible exact ih1 _ _ _ _)
      | (with_reducible exact ih2 _ _ _ _)
      | (with_reducible exact ih3 _ _ _ _)
      | (with_reducible exact ih4 _ _ _ _)
      | (with_reducible exact ih5 _ _ _ _)
      | (with_reducible exact ih6 _ _ _ _)
      | (with_reducible exact ih7 _ _ _ _)
      | (with_reducible exact ih8 _ _ _ _)
      | (with_reducible exact ih9 _ _ _ _)
      | (with_reducible exact ih10 _ _ _ _)
      | (with_reducible exact carrefourref18_Again.mono _ _)
      | (with_reducible exact LeO.refl _)
      | (with_reducible exact LeO.none _)
      | (with_reducible refine LeO.ite ?_ ?_)
      | (with_reducible refine LeO.bind ?_ (fun _ => ?_))
      | exact ih0 _ _ _ _
      | exact ih1 _ _ _ _
      | exact ih2 _ _ _ _
      | exact ih3 _ _ _ _
      | exact ih4 _ _ _ _
      | exact ih5 _ _ _ _
      | exact ih6 _ _ _ _
      | exact ih7 _ _ _ _
      | exact ih8 _ _ _ _
      | exact ih9 _ _ _ _
      | exact ih10 _ _ _ _
      | exact carrefourref18_Again.mono _ _
      | exact LeO.none _
      | refine LeO.ite ?_ ?_
      | refine LeO.bind ?_ (fun _ => ?_)
    · intro y0 y1 y2 y3
      unfold carrefourref18_Next.j6
      repeat' first
      | (with_reducible exact ih0 _ _ _ _)
      | (with_reducible exact ih1 _ _ _ _)
      | (with_reducible exact ih2 _ _ _ _)
      | (with_reducible exact ih3 _ _ _ _)
      | (with_reducible exact ih4 _ _ _ _)
      | (with_reducible exact ih5 _ _ _ _)
      | (with_reducible exact ih6 _ _ _ _)
      | (with_reducible exact ih7 _ _ _ _)
      | (with_reducible exact ih8 _ _ _ _)
      | (with_reducible exact ih9 _ _ _ _)
      | (with_reducible exact ih10 _ _ _ _)
      | (with_reducible exact carrefourref18_Again.mono _ _)
      | (with_reducible exact LeO.refl _)
      | (with_reducible exact LeO.none _)
      | (with_reducible refine LeO.ite ?_ ?_)
      | (with_reducible refine LeO.bind ?_ (fun _ => ?_))
      | exact ih0 _ _ _ _
      | exact ih1 _ _ _ _
      | exact ih2 _ _ _ _
      | exact ih3 _ _ _ _
      | exact ih4 _ _ _ _
      | exact ih5 _ _ _ _
      | exact ih6 _ _ _ _
      | exact ih7 _ _ _ _
      | exact ih8 _ _ _ _
      | exact ih9 _ _ _ _
      | exact ih10 _ _ _ _
      | exact carrefourref18_Again.mono _ _
      | exact LeO.none _
      | refine LeO.ite ?_ ?_
      | refine LeO.bind ?_ (fun _ => ?_)
    · intro y0 y1 y2 y3
      unfold carrefourref18_Next.j7
      repeat' first
      | (with_reducible exact ih0 _ _ _ _)
      | (with_reducible exact ih1 _ _ _ _)
      | (with_reducible exact ih2 _ _ _ _)
      | (with_reducible exact ih3 _ _ _ _)
      | (with_reducible exact ih4 _ _ _ _)
      | (with_reducible exact ih5 _ _ _ _)
      | (with_reducible exact ih6 _ _ _ _)
      | (with_reducible exact ih7 _ _ _ _)
      | (with_reducible exact ih8 _ _ _ _)
      | (with_reducible exact ih9 _ _ _ _)
      | (with_reducible exact ih10 _ _ _ _)
      | (with_reducible exact carrefourref18_Again.mono _ _)
      | (with_reducible exact LeO.refl _)
      | (with_reducible exact LeO.none _)
      | (with_reducible refine LeO.ite ?_ ?_)
      | (with_reducible refine LeO.bind ?_ (fun _ => ?_))
      | exact ih0 _ _ _ _
      | exact ih1 _ _ _ _
      | exact ih2 _ _ _ _
      | exact ih3 _ _ _ _
      | exact ih4 _ _ _ _
      | exact ih5 _ _ _ _
      | exact ih6 _ _ _ _
      | exact ih7 _ _ _ _
      | exact ih8 _ _ _ _
      | exact ih9 _ _ _ _
      | exact ih10 _ _ _ _
      | exact carrefourref18_Again.mono _ _
      | exact LeO.none _
      | refine LeO.ite ?_ ?_
      | refine LeO.bind ?_ (fun _ => ?_)
    · intro y0 y1 y2 y3
      unfold carrefourref18_Next.j8
      repeat' first
      | (with_reducible exact ih0 _ _ _ _)
      | (with_reducible exact ih1 _ _ _ _)
      | (with_reducible exact ih2 _ _ _ _)
      | (with_reducible exact ih3 _ _ _ _)
      | (with_reducible exact ih4 _ _ _ _)
      | (with_reducible exact ih5 _ _ _ _)
      | (with_reducible exact ih6 _ _ _ _)
      | (with_reducible exact ih7 _ _ _ _)
      | (with_reducible exact ih8 _ _ _ _)
      | (with_reducible exact ih9 _ _ _ _)
      | (with_reducible exact ih10 _ _ _ _)
      | (with_reducible exact carrefourref18_Again.mono _ _)
      | (with_reducible exact LeO.refl _)
      | (with_reducible exact LeO.none _)
      | (with_reducible refine LeO.ite ?_ ?_)
      | (with_reducible refine LeO.bind ?_ (fun _ => ?_))
      | exact ih0 _ _ _ _
      | exact ih1 _ _ _ _
      | exact ih2 _ _ _ _
      | exact ih3 _ _ _ _
      | exact ih4 _ _ _ _
      | exact ih5 _ _ _ _
      | exact ih6 _ _ _ _
      | exact ih7 _ _ _ _
      | exact ih8 _ _ _ _
      | exact ih9 _ _ _ _
      | exact ih10 _ _ _ _
      | exact carrefourref18_Again.mono _ _
      | exact LeO.none _
      | refine LeO.ite ?_ ?_
      | refine LeO.bind ?_ (fun _ => ?_)
    · intro y0 y1 y2 y3
      unfold carrefourref18_Next.j9
      repeat' first
      | (with_reducible exact ih0 _ _ _ _)
      | (with_reducible exact ih1 _ _ _ _)
      | (with_reducible exact ih2 _ _ _ _)
      | (with_reducible exact ih3 _ _ _ _)
      | (with_reducible exact ih4 _ _ _ _)
      | (with_reducible exact ih5 _ _ _ _)
      | (with_reducible exact ih6 _ _ _ _)
      | (with_reducible exact ih7 _ _ _ _)
      | (with_reducible exact ih8 _ _ _ _)
      | (with_reducible exact ih9 _ _ _ _)
      | (with_reducible exact ih10 _ _ _ _)
      | (with_reducible exact carrefourref18_Again.mono _ _)
      | (with_reducible exact LeO.refl _)
      | (with_reducible exact LeO.none _)
      | (with_reducible refine LeO.ite ?_ ?_)
      | (with_reducible refine LeO.bind ?_ (fun _ => ?_))
      | exact ih0 _ _ _ _
      | exact ih1 _ _ _ _
      | exact ih2 _ _ _ _
      | exact ih3 _ _ _ _
      | exact ih4 _ _ _ _
      | exact ih5 _ _ _ _
      | exact ih6 _ _ _ _
      | exact ih7 _ _ _ _
      | exact ih8 _ _ _ _
      | exact ih9 _ _ _ _
      | exact ih10 _ _ _ _
      | exact carrefourref18_Again.mono _ _
      | exact LeO.none _
      | refine LeO.ite ?_ ?_
      | refine LeO.bind ?_ (fun _ => ?_)
    · intro y0 y1 y2 y3
      unfold carrefourref18_Next.j10
      repeat' first
      | (with_reducible exact ih0 _ _ _ _)
      | (with_reducible exact ih1 _ _ _ _)
      | (with_reducible exact ih2 _ _ _ _)
      | (with_reducible exact ih3 _ _ _ _)
      | (with_reducible exact ih4 _ _ _ _)
      | (with_reducible exact ih5 _ _ _ _)
      | (with_reducible exact ih6 _ _ _ _)
      | (with_reducible exact ih7 _ _ _ _)
      | (with_reducible exact ih8 _ _ _ _)
      | (with_reducible exact ih9 _ _ _ _)
      | (with_reducible exact ih10 _ _ _ _)
      | (with_reducible exact carrefourref18_Again.mono _ _)
      | (with_reducible exact LeO.refl _)
      | (with_reducible exact LeO.none _)
      | (with_reducible refine LeO.ite ?_ ?_)
      | (with_reducible refine LeO.bind ?_ (fun _ => ?_))
      | exact ih0 _ _ _ _
      | exact ih1 _ _ _ _
      | exact ih2 _ _ _ _
      | exact ih3 _ _ _ _
      | exact ih4 _ _ _ _
      | exact ih5 _ _ _ _
      | exact ih6 _ _ _ _
      | exact ih7 _ _ _ _
      | exact ih8 _ _ _ _
      | exact ih9 _ _ _ _
      | exact ih10 _ _ _ _
      | exact carrefourref18_Again.mono _ _
      | exact LeO.none _
      | refine LeO.ite ?_ ?_
      | refine LeO.bind ?_ (fun _ => ?_)
theorem carrefourref18_Next.mono : ∀ a0 a1 k, LeO (carrefourref18_Next.f k a0 a1) (carrefourref18_Next.f (k + 1) a0 a1) := by
  intro a0 a1 k
  obtain ⟨ih0, ih1, ih2, ih3, ih4, ih5, ih6, ih7, ih8, ih9, ih10⟩ := carrefourref18_Next.mono_l k
  unfold carrefourref18_Next.f
  repeat' first
      | (with_reducible exact ih0 _ _ _ _)
      | (with_reducible exact ih1 _ _ _ _)
      | (with_reducible exact ih2 _ _ _ _)
      | (with_reducible exact ih3 _ _ _ _)
      | (with_reducible exact ih4 _ _ _ _)
      | (with_reducible exact ih5 _ _ _ _)
      | (with_reducible exact ih6 _ _ _ _)
      | (with_reducible exact ih7 _ _ _ _)
      | (with_reducible exact ih8 _ _ _ _)
      | (with_reducible exact ih9 _ _ _ _)
      | (with_reducible exact ih10 _ _ _ _)
      | (with_reducible exact carrefourref18_Again.mono _ _)
      | (with_reducible exact LeO.refl _)
      | (with_reducible exact LeO.none _)
      | (with_reducible refine LeO.ite ?_ ?_)
      | (with_reducible refine LeO.bind ?_ (fun _ => ?_))
      | exact ih0 _ _ _ _
      | exact ih1 _ _ _ _
      | exact ih2 _ _ _ _
      | exact ih3 _ _ _ _
      | exact ih4 _ _ _ _
      | exact ih5 _ _ _ _
      | exact ih6 _ _ _ _
      | exact ih7 _ _ _ _
      | exact ih8 _ _ _ _
      | exact ih9 _ _ _ _
      | exact ih10 _ _ _ _
      | exact carrefourref18_Again.mono _ _
      | exact LeO.none _
      | refine LeO.ite ?_ ?_
      | refine LeO.bind ?_ (fun _ => ?_)
set_option maxHeartbeats 8000000 in
set_option maxRecDepth 100000 in
theorem carrefourref18_Next.calls (k : Nat) (a0 : Int) (a1 : Int) (r1 : Int) (r2 : Int) (w : World) (h : carrefourref18_Next.f k a0 a1 = some (r1, r2)) :
    Calls Try.prog 9 #[.int .i64 a0, .int .i64 a1] w fun e w' => e = .returned (.tuple #[.int .i64 r1, .int .i64 r2]) ∧ Drawn0 w w' := by
  have H : (if a0 = 0 then (carrefourref18_Next.j0 k a0 a1 a0 (a1 == 1)) else (carrefourref18_Next.j0 k a0 a1 a0 false)) = some (r1, r2) := h
  clear h
  have HC3 := Aside0.mk H
  clear H
  go_enter Try.func9, Try.ntmps9
  go_upto_region 3 with (fail)
  go_cut [9] (fun v9 wc => ∃ (kq : Nat) (x9_2 : Bool), v9 = .bool x9_2 ∧ Aside0 (carrefourref18_Next.j0 kq a0 a1 a0 x9_2 = some (r1, r2)) ∧ Aside0 (kq ≤ k) ∧ Drawn0 w wc)
  case first =>
    have H := HC3.out
    clear HC3
    by_cases c4 : a0 = 0
    · rw [if_pos c4] at H
      have c4b0 : (a0 == 0) = true := beq_iff_eq.mpr c4
      have c4b1 : (a0 != 0) = false := bne_eq_false_iff_eq.mpr c4
      clear c4
      (first | rw [c4b0] | (simp only [i64_w, i32_w]; rw [c4b0]) | skip)
      have H' := Aside0.mk H
      clear H
      go_wp2
      go_meet
      case rel => exact ⟨_, ((a1 == 1)), (by first | rfl | (simp; done) | (simp [*]; done)), H', ⟨by first | omega | exact Nat.le_refl _⟩, by repeat (first | exact Drawn0.refl _ | apply Drawn0.step)⟩
    · rw [if_neg c4] at H
      have c4b0 : (a0 == 0) = false := beq_eq_false_iff_ne.mpr c4
      have c4b1 : (a0 != 0) = true := bne_iff_ne.mpr c4
      (first | rw [c4b0] | (simp only [i64_w, i32_w]; rw [c4b0]) | skip)
      have H' := Aside0.mk H
      clear H
      go_wp2
      go_meet
      case rel => exact ⟨_, (false), (by first | rfl | (simp; done) | (simp [*]; done)), H', ⟨by first | omega | exact Nat.le_refl _⟩, by repeat (first | exact Drawn0.refl _ | apply Drawn0.step)⟩
  case rest =>
    clear HC3
    try clear p2
    try clear c4
    try clear c4b0
    try clear c4b1
    obtain ⟨kq, x9_2, rfl, HA, HJ2, ⟨mc2, rfl⟩⟩ := hcut
    cases kq with
    | zero => exact absurd HA.out (by simp [carrefourref18_Next.j0])
    | succ kj2 =>
      have H := HA.out
      clear HA
      simp only [carrefourref18_Next.j0] at H
      by_cases c5 : x9_2 = true
      · subst c5
        have H1 : ((carrefourref18_Again.f kj2 1).bind fun t107 => (some (1, t107))) = some (r1, r2) := by rw [if_pos rfl] at H; exact H
        clear H
        have H := H1
        clear H1
        replace H := Option.bind_eq_some_iff.mp H
        obtain ⟨t107, A60, H⟩ := H
        replace H : (some (1, t107)) = some (r1, r2) := H
        have A6 := Aside0.mk A60
        clear A60
        simp only [Option.some.injEq, Prod.mk.injEq] at H
        obtain ⟨rfl, rfl⟩ := H
        go_wp2_with (first | ((with_reducible refine gate_callee (f := 14) rfl ?_); refine goesL_ (some 127) rfl rfl Try.func14 (by kernel_rfl) rfl #[.int .i64 1] rfl (by (try simp only [List.map_toArray, List.map_cons, List.map_nil]); first | done | rfl | (simp only [List.length_drop, List.length_take]; rfl)) ?_; (with_reducible refine (carrefourref18_Again.calls kj2 1 t107 _ A6.out).mono ?_); rintro e w' ⟨rfl, ⟨nd, rfl⟩⟩; refine ⟨_, rfl, ?_⟩))
        go_ret2
        exact ⟨by first | rfl | (simp; done) | (simp [*]; done), by repeat (first | exact Drawn0.refl _ | apply Drawn0.step)⟩
      · replace c5 := Bool.eq_false_iff.mpr c5
        subst c5
        have H1 : (if a0 = 1 then (carrefourref18_Next.j1 kj2 a0 a1 a0 (a1 == 2)) else (carrefourref18_Next.j1 kj2 a0 a1 a0 false)) = some (r1, r2) := by rw [if_neg (show ¬ (false = true) by decide)] at H; exact H
        clear H
        have H := H1
        clear H1
        have HC7 := Aside0.mk H
        clear H
        go_upto_region 5 with (fail)
        go_cut [16] (fun v16 wc => ∃ (kq : Nat) (x16_6 : Bool), v16 = .bool x16_6 ∧ Aside0 (carrefourref18_Next.j1 kq a0 a1 a0 x16_6 = some (r1, r2)) ∧ Aside0 (kq ≤ kj2) ∧ Drawn0 w wc)
        case first =>
          have H := HC7.out
          clear HC7
          by_cases c8 : a0 = 1
          · rw [if_pos c8] at H
            have c8b0 : (a0 == 1) = true := beq_iff_eq.mpr c8
            have c8b1 : (a0 != 1) = false := bne_eq_false_iff_eq.mpr c8
            clear c8
            (first | rw [c8b0] | (simp only [i64_w, i32_w]; rw [c8b0]) | skip)
            have H' := Aside0.mk H
            clear H
            go_wp2
            go_meet
            case rel => exact ⟨_, ((a1 == 2)), (by first | rfl | (simp; done) | (simp [*]; done)), H', ⟨by have := HJ2.out; first | omega | exact Nat.le_refl _⟩, by repeat (first | exact Drawn0.refl _ | apply Drawn0.step)⟩
          · rw [if_neg c8] at H
            have c8b0 : (a0 == 1) = false := beq_eq_false_iff_ne.mpr c8
            have c8b1 : (a0 != 1) = true := bne_iff_ne.mpr c8
            (first | rw [c8b0] | (simp only [i64_w, i32_w]; rw [c8b0]) | skip)
            have H' := Aside0.mk H
            clear H
            go_wp2
            go_meet
            case rel => exact ⟨_, (false), (by first | rfl | (simp; done) | (simp [*]; done)), H', ⟨by have := HJ2.out; first | omega | exact Nat.le_refl _⟩, by repeat (first | exact Drawn0.refl _ | apply Drawn0.step)⟩
        case rest =>
          clear HC7
          try clear c1
          try clear c2
          try clear p2
          try clear c4
          try clear c4b0
          try clear c4b1
          try clear c5
          try clear c8
          try clear c8b0
          try clear c8b1
          try clear p2
          obtain ⟨kq, x16_6, rfl, HA, HJ6, ⟨mc6, rfl⟩⟩ := hcut
          cases kq with
          | zero => exact absurd HA.out (by simp [carrefourref18_Next.j1])
          | succ kj6 =>
            have H := HA.out
            clear HA
            simp only [carrefourref18_Next.j1] at H
            by_cases c9 : x16_6 = true
            · subst c9
              have H1 : ((carrefourref18_Again.f kj6 2).bind fun t108 => (some (2, t108))) = some (r1, r2) := by rw [if_pos rfl] at H; exact H
              clear H
              have H := H1
              clear H1
              replace H := Option.bind_eq_some_iff.mp H
              obtain ⟨t108, A100, H⟩ := H
              replace H : (some (2, t108)) = some (r1, r2) := H
              have A10 := Aside0.mk A100
              clear A100
              simp only [Option.some.injEq, Prod.mk.injEq] at H
              obtain ⟨rfl, rfl⟩ := H
              go_wp2_with (first | ((with_reducible refine gate_callee (f := 14) rfl ?_); refine goesL_ (some 127) rfl rfl Try.func14 (by kernel_rfl) rfl #[.int .i64 2] rfl (by (try simp only [List.map_toArray, List.map_cons, List.map_nil]); first | done | rfl | (simp only [List.length_drop, List.length_take]; rfl)) ?_; (with_reducible refine (carrefourref18_Again.calls kj6 2 t108 _ A10.out).mono ?_); rintro e w' ⟨rfl, ⟨nd, rfl⟩⟩; refine ⟨_, rfl, ?_⟩))
              go_ret2
              exact ⟨by first | rfl | (simp; done) | (simp [*]; done), by repeat (first | exact Drawn0.refl _ | apply Drawn0.step)⟩
            · replace c9 := Bool.eq_false_iff.mpr c9
              subst c9
              have H1 : (if a0 = 2 then (carrefourref18_Next.j2 kj6 a0 a1 a0 (a1 == 3)) else (carrefourref18_Next.j2 kj6 a0 a1 a0 false)) = some (r1, r2) := by rw [if_neg (show ¬ (false = true) by decide)] at H; exact H
              clear H
              have H := H1
              clear H1
              have HC11 := Aside0.mk H
              clear H
              go_upto_region 7 with (fail)
              go_cut [23] (fun v23 wc => ∃ (kq : Nat) (x23_10 : Bool), v23 = .bool x23_10 ∧ Aside0 (carrefourref18_Next.j2 kq a0 a1 a0 x23_10 = some (r1, r2)) ∧ Aside0 (kq ≤ kj6) ∧ Drawn0 w wc)
              case first =>
                have H := HC11.out
                clear HC11
                by_cases c12 : a0 = 2
                · rw [if_pos c12] at H
                  have c12b0 : (a0 == 2) = true := beq_iff_eq.mpr c12
                  have c12b1 : (a0 != 2) = false := bne_eq_false_iff_eq.mpr c12
                  clear c12
                  (first | rw [c12b0] | (simp only [i64_w, i32_w]; rw [c12b0]) | skip)
                  have H' := Aside0.mk H
                  clear H
                  go_wp2
                  go_meet
                  case rel => exact ⟨_, ((a1 == 3)), (by first | rfl | (simp; done) | (simp [*]; done)), H', ⟨by have := HJ2.out; have := HJ6.out; first | omega | exact Nat.le_refl _⟩, by repeat (first | exact Drawn0.refl _ | apply Drawn0.step)⟩
                · rw [if_neg c12] at H
                  have c12b0 : (a0 == 2) = false := beq_eq_false_iff_ne.mpr c12
                  have c12b1 : (a0 != 2) = true := bne_iff_ne.mpr c12
                  (first | rw [c12b0] | (simp only [i64_w, i32_w]; rw [c12b0]) | skip)
                  have H' := Aside0.mk H
                  clear H
                  go_wp2
                  go_meet
                  case rel => exact ⟨_, (false), (by first | rfl | (simp; done) | (simp [*]; done)), H', ⟨by have := HJ2.out; have := HJ6.out; first | omega | exact Nat.le_refl _⟩, by repeat (first | exact Drawn0.refl _ | apply Drawn0.step)⟩
              case rest =>
                clear HC11
                try clear c1
                try clear c2
                try clear p2
                try clear c4
                try clear c4b0
                try clear c4b1
                try clear c5
                try clear c6
                try clear c8
                try clear c8b0
                try clear c8b1
                try clear c9
                try clear c12
                try clear c12b0
                try clear c12b1
                try clear p2
                obtain ⟨kq, x23_10, rfl, HA, HJ10, ⟨mc10, rfl⟩⟩ := hcut
                cases kq with
                | zero => exact absurd HA.out (by simp [carrefourref18_Next.j2])
                | succ kj10 =>
                  have H := HA.out
                  clear HA
                  simp only [carrefourref18_Next.j2] at H
                  by_cases c13 : x23_10 = true
                  · subst c13
                    have H1 : ((carrefourref18_Again.f kj10 3).bind fun t109 => (some (3, t109))) = some (r1, r2) := by rw [if_pos rfl] at H; exact H
                    clear H
                    have H := H1
                    clear H1
                    replace H := Option.bind_eq_some_iff.mp H
                    obtain ⟨t109, A140, H⟩ := H
                    replace H : (some (3, t109)) = some (r1, r2) := H
                    have A14 := Aside0.mk A140
                    clear A140
                    simp only [Option.some.injEq, Prod.mk.injEq] at H
                    obtain ⟨rfl, rfl⟩ := H
                    go_wp2_with (first | ((with_reducible refine gate_callee (f := 14) rfl ?_); refine goesL_ (some 127) rfl rfl Try.func14 (by kernel_rfl) rfl #[.int .i64 3] rfl (by (try simp only [List.map_toArray, List.map_cons, List.map_nil]); first | done | rfl | (simp only [List.length_drop, List.length_take]; rfl)) ?_; (with_reducible refine (carrefourref18_Again.calls kj10 3 t109 _ A14.out).mono ?_); rintro e w' ⟨rfl, ⟨nd, rfl⟩⟩; refine ⟨_, rfl, ?_⟩))
                    go_ret2
                    exact ⟨by first | rfl | (simp; done) | (simp [*]; done), by repeat (first | exact Drawn0.refl _ | apply Drawn0.step)⟩
                  · replace c13 := Bool.eq_false_iff.mpr c13
                    subst c13
                    have H1 : (if a0 = 3 then (carrefourref18_Next.j3 kj10 a0 a1 a0 (a1 == 4)) else (carrefourref18_Next.j3 kj10 a0 a1 a0 false)) = some (r1, r2) := by rw [if_neg (show ¬ (false = true) by decide)] at H; exact H
                    clear H
                    have H := H1
                    clear H1
                    have HC15 := Aside0.mk H
                    clear H
                    go_upto_region 9 with (fail)
                    go_cut [30] (fun v30 wc => ∃ (kq : Nat) (x30_14 : Bool), v30 = .bool x30_14 ∧ Aside0 (carrefourref18_Next.j3 kq a0 a1 a0 x30_14 = some (r1, r2)) ∧ Aside0 (kq ≤ kj10) ∧ Drawn0 w wc)
                    case first =>
                      have H := HC15.out
                      clear HC15
                      by_cases c16 : a0 = 3
                      · rw [if_pos c16] at H
                        have c16b0 : (a0 == 3) = true := beq_iff_eq.mpr c16
                        have c16b1 : (a0 != 3) = false := bne_eq_false_iff_eq.mpr c16
                        clear c16
                        (first | rw [c16b0] | (simp only [i64_w, i32_w]; rw [c16b0]) | skip)
                        have H' := Aside0.mk H
                        clear H
                        go_wp2
                        go_meet
                        case rel => exact ⟨_, ((a1 == 4)), (by first | rfl | (simp; done) | (simp [*]; done)), H', ⟨by have := HJ2.out; have := HJ6.out; have := HJ10.out; first | omega | exact Nat.le_refl _⟩, by repeat (first | exact Drawn0.refl _ | apply Drawn0.step)⟩
                      · rw [if_neg c16] at H
                        have c16b0 : (a0 == 3) = false := beq_eq_false_iff_ne.mpr c16
                        have c16b1 : (a0 != 3) = true := bne_iff_ne.mpr c16
                        (first | rw [c16b0] | (simp only [i64_w, i32_w]; rw [c16b0]) | skip)
                        have H' := Aside0.mk H
                        clear H
                        go_wp2
                        go_meet
                        case rel => exact ⟨_, (false), (by first | rfl | (simp; done) | (simp [*]; done)), H', ⟨by have := HJ2.out; have := HJ6.out; have := HJ10.out; first | omega | exact Nat.le_refl _⟩, by repeat (first | exact Drawn0.refl _ | apply Drawn0.step)⟩
                    case rest =>
                      clear HC15
                      try clear c1
                      try clear c2
                      try clear p2
                      try clear c4
                      try clear c4b0
                      try clear c4b1
                      try clear c5
                      try clear c6
                      try clear c8
                      try clear c8b0
                      try clear c8b1
                      try clear c9
                      try clear c10
                      try clear c12
                      try clear c12b0
                      try clear c12b1
                      try clear c13
                      try clear c14
                      try clear c16
                      try clear c16b0
                      try clear c16b1
                      try clear p2
                      obtain ⟨kq, x30_14, rfl, HA, HJ14, ⟨mc14, rfl⟩⟩ := hcut
                      cases kq with
                      | zero => exact absurd HA.out (by simp [carrefourref18_Next.j3])
                      | succ kj14 =>
                        have H := HA.out
                        clear HA
                        simp only [carrefourref18_Next.j3] at H
                        by_cases c17 : x30_14 = true
                        · subst c17
                          have H1 : ((carrefourref18_Again.f kj14 4).bind fun t110 => (some (4, t110))) = some (r1, r2) := by rw [if_pos rfl] at H; exact H
                          clear H
                          have H := H1
                          clear H1
                          replace H := Option.bind_eq_some_iff.mp H
                          obtain ⟨t110, A180, H⟩ := H
                          replace H : (some (4, t110)) = some (r1, r2) := H
                          have A18 := Aside0.mk A180
                          clear A180
                          simp only [Option.some.injEq, Prod.mk.injEq] at H
                          obtain ⟨rfl, rfl⟩ := H
                          go_wp2_with (first | ((with_reducible refine gate_callee (f := 14) rfl ?_); refine goesL_ (some 127) rfl rfl Try.func14 (by kernel_rfl) rfl #[.int .i64 4] rfl (by (try simp only [List.map_toArray, List.map_cons, List.map_nil]); first | done | rfl | (simp only [List.length_drop, List.length_take]; rfl)) ?_; (with_reducible refine (carrefourref18_Again.calls kj14 4 t110 _ A18.out).mono ?_); rintro e w' ⟨rfl, ⟨nd, rfl⟩⟩; refine ⟨_, rfl, ?_⟩))
                          go_ret2
                          exact ⟨by first | rfl | (simp; done) | (simp [*]; done), by repeat (first | exact Drawn0.refl _ | apply Drawn0.step)⟩
                        · replace c17 := Bool.eq_false_iff.mpr c17
                          subst c17
                          have H1 : (if a0 = 4 then (carrefourref18_Next.j4 kj14 a0 a1 a0 (a1 == 5)) else (carrefourref18_Next.j4 kj14 a0 a1 a0 false)) = some (r1, r2) := by rw [if_neg (show ¬ (false = true) by decide)] at H; exact H
                          clear H
                          have H := H1
                          clear H1
                          have HC19 := Aside0.mk H
                          clear H
                          go_upto_region 11 with (fail)
                          go_cut [37] (fun v37 wc => ∃ (kq : Nat) (x37_18 : Bool), v37 = .bool x37_18 ∧ Aside0 (carrefourref18_Next.j4 kq a0 a1 a0 x37_18 = some (r1, r2)) ∧ Aside0 (kq ≤ kj14) ∧ Drawn0 w wc)
                          case first =>
                            have H := HC19.out
                            clear HC19
                            by_cases c20 : a0 = 4
                            · rw [if_pos c20] at H
                              have c20b0 : (a0 == 4) = true := beq_iff_eq.mpr c20
                              have c20b1 : (a0 != 4) = false := bne_eq_false_iff_eq.mpr c20
                              clear c20
                              (first | rw [c20b0] | (simp only [i64_w, i32_w]; rw [c20b0]) | skip)
                              have H' := Aside0.mk H
                              clear H
                              go_wp2
                              go_meet
                              case rel => exact ⟨_, ((a1 == 5)), (by first | rfl | (simp; done) | (simp [*]; done)), H', ⟨by have := HJ2.out; have := HJ6.out; have := HJ10.out; have := HJ14.out; first | omega | exact Nat.le_refl _⟩, by repeat (first | exact Drawn0.refl _ | apply Drawn0.step)⟩
                            · rw [if_neg c20] at H
                              have c20b0 : (a0 == 4) = false := beq_eq_false_iff_ne.mpr c20
                              have c20b1 : (a0 != 4) = true := bne_iff_ne.mpr c20
                              (first | rw [c20b0] | (simp only [i64_w, i32_w]; rw [c20b0]) | skip)
                              have H' := Aside0.mk H
                              clear H
                              go_wp2
                              go_meet
                              case rel => exact ⟨_, (false), (by first | rfl | (simp; done) | (simp [*]; done)), H', ⟨by have := HJ2.out; have := HJ6.out; have := HJ10.out; have := HJ14.out; first | omega | exact Nat.le_refl _⟩, by repeat (first | exact Drawn0.refl _ | apply Drawn0.step)⟩
                          case rest =>
                            clear HC19
                            try clear c1
                            try clear c2
                            try clear p2
                            try clear c4
                            try clear c4b0
                            try clear c4b1
                            try clear c5
                            try clear c6
                            try clear c8
                            try clear c8b0
                            try clear c8b1
                            try clear c9
                            try clear c10
                            try clear c12
                            try clear c12b0
                            try clear c12b1
                            try clear c13
                            try clear c14
                            try clear c16
                            try clear c16b0
                            try clear c16b1
                            try clear c17
                            try clear c20
                            try clear c20b0
                            try clear c20b1
                            try clear p2
                            obtain ⟨kq, x37_18, rfl, HA, HJ18, ⟨mc18, rfl⟩⟩ := hcut
                            cases kq with
                            | zero => exact absurd HA.out (by simp [carrefourref18_Next.j4])
                            | succ kj18 =>
                              have H := HA.out
                              clear HA
                              simp only [carrefourref18_Next.j4] at H
                              by_cases c21 : x37_18 = true
                              · subst c21
                                have H1 : ((carrefourref18_Again.f kj18 5).bind fun t111 => (some (5, t111))) = some (r1, r2) := by rw [if_pos rfl] at H; exact H
                                clear H
                                have H := H1
                                clear H1
                                replace H := Option.bind_eq_some_iff.mp H
                                obtain ⟨t111, A220, H⟩ := H
                                replace H : (some (5, t111)) = some (r1, r2) := H
                                have A22 := Aside0.mk A220
                                clear A220
                                simp only [Option.some.injEq, Prod.mk.injEq] at H
                                obtain ⟨rfl, rfl⟩ := H
                                go_wp2_with (first | ((with_reducible refine gate_callee (f := 14) rfl ?_); refine goesL_ (some 127) rfl rfl Try.func14 (by kernel_rfl) rfl #[.int .i64 5] rfl (by (try simp only [List.map_toArray, List.map_cons, List.map_nil]); first | done | rfl | (simp only [List.length_drop, List.length_take]; rfl)) ?_; (with_reducible refine (carrefourref18_Again.calls kj18 5 t111 _ A22.out).mono ?_); rintro e w' ⟨rfl, ⟨nd, rfl⟩⟩; refine ⟨_, rfl, ?_⟩))
                                go_ret2
                                exact ⟨by first | rfl | (simp; done) | (simp [*]; done), by repeat (first | exact Drawn0.refl _ | apply Drawn0.step)⟩
                              · replace c21 := Bool.eq_false_iff.mpr c21
                                subst c21
                                have H1 : (if a0 = 5 then (carrefourref18_Next.j5 kj18 a0 a1 a0 (a1 == 6)) else (if a0 = 6 then (carrefourref18_Next.j5 kj18 a0 a1 a0 (a1 == 6)) else (carrefourref18_Next.j5 kj18 a0 a1 a0 false))) = some (r1, r2) := by rw [if_neg (show ¬ (false = true) by decide)] at H; exact H
                                clear H
                                have H := H1
                                clear H1
                                have HC23 := Aside0.mk H
                                clear H
                                go_upto_region 13 with (fail)
                                go_cut [44] (fun v44 wc => ∃ (kq : Nat) (x44_22 : Bool), v44 = .bool x44_22 ∧ Aside0 (carrefourref18_Next.j5 kq a0 a1 a0 x44_22 = some (r1, r2)) ∧ Aside0 (kq ≤ kj18) ∧ Drawn0 w wc)
                                case first =>
                                  have H := HC23.out
                                  clear HC23
                                  by_cases c24 : a0 = 5
                                  · rw [if_pos c24] at H
                                    have c24b0 : (a0 == 5) = true := beq_iff_eq.mpr c24
                                    have c24b1 : (a0 != 5) = false := bne_eq_false_iff_eq.mpr c24
                                    clear c24
                                    (first | rw [c24b0] | (simp only [i64_w, i32_w]; rw [c24b0]) | skip)
                                    have H' := Aside0.mk H
                                    clear H
                                    go_wp2
                                    go_meet
                                    case rel => exact ⟨_, ((a1 == 6)), (by first | rfl | (simp; done) | (simp [*]; done)), H', ⟨by have := HJ2.out; have := HJ6.out; have := HJ10.out; have := HJ14.out; have := HJ18.out; first | omega | exact Nat.le_refl _⟩, by repeat (first | exact Drawn0.refl _ | apply Drawn0.step)⟩
                                  · rw [if_neg c24] at H
                                    have c24b0 : (a0 == 5) = false := beq_eq_false_iff_ne.mpr c24
                                    have c24b1 : (a0 != 5) = true := bne_iff_ne.mpr c24
                                    (first | rw [c24b0] | (simp only [i64_w, i32_w]; rw [c24b0]) | skip)
                                    by_cases c25 : a0 = 6
                                    · rw [if_pos c25] at H
                                      have c25b0 : (a0 == 6) = true := beq_iff_eq.mpr c25
                                      have c25b1 : (a0 != 6) = false := bne_eq_false_iff_eq.mpr c25
                                      clear c25
                                      have H' := Aside0.mk H
                                      clear H
                                      go_wp2
                                      go_meet
                                      case rel => exact ⟨_, ((a1 == 6)), (by first | rfl | (simp; done) | (simp [*]; done)), H', ⟨by have := HJ2.out; have := HJ6.out; have := HJ10.out; have := HJ14.out; have := HJ18.out; first | omega | exact Nat.le_refl _⟩, by repeat (first | exact Drawn0.refl _ | apply Drawn0.step)⟩
                                    · rw [if_neg c25] at H
                                      have c25b0 : (a0 == 6) = false := beq_eq_false_iff_ne.mpr c25
                                      have c25b1 : (a0 != 6) = true := bne_iff_ne.mpr c25
                                      have H' := Aside0.mk H
                                      clear H
                                      go_wp2
                                      go_meet
                                      case rel => exact ⟨_, (false), (by first | rfl | (simp; done) | (simp [*]; done)), H', ⟨by have := HJ2.out; have := HJ6.out; have := HJ10.out; have := HJ14.out; have := HJ18.out; first | omega | exact Nat.le_refl _⟩, by repeat (first | exact Drawn0.refl _ | apply Drawn0.step)⟩
                                case rest =>
                                  clear HC23
                                  try clear c1
                                  try clear c2
                                  try clear p2
                                  try clear c4
                                  try clear c4b0
                                  try clear c4b1
                                  try clear c5
                                  try clear c6
                                  try clear c8
                                  try clear c8b0
                                  try clear c8b1
                                  try clear c9
                                  try clear c10
                                  try clear c12
                                  try clear c12b0
                                  try clear c12b1
                                  try clear c13
                                  try clear c14
                                  try clear c16
                                  try clear c16b0
                                  try clear c16b1
                                  try clear c17
                                  try clear c18
                                  try clear c20
                                  try clear c20b0
                                  try clear c20b1
                                  try clear c21
                                  try clear c24
                                  try clear c24b0
                                  try clear c24b1
                                  try clear c25
                                  try clear c25b0
                                  try clear c25b1
                                  try clear p2
                                  obtain ⟨kq, x44_22, rfl, HA, HJ22, ⟨mc22, rfl⟩⟩ := hcut
                                  cases kq with
                                  | zero => exact absurd HA.out (by simp [carrefourref18_Next.j5])
                                  | succ kj22 =>
                                    have H := HA.out
                                    clear HA
                                    simp only [carrefourref18_Next.j5] at H
                                    by_cases c26 : x44_22 = true
                                    · subst c26
                                      have H1 : (some (7, 0)) = some (r1, r2) := by rw [if_pos rfl] at H; exact H
                                      clear H
                                      have H := H1
                                      clear H1
                                      simp only [Option.some.injEq, Prod.mk.injEq] at H
                                      obtain ⟨rfl, rfl⟩ := H
                                      go_wp2
                                      go_ret2
                                      exact ⟨by first | rfl | (simp; done) | (simp [*]; done), by repeat (first | exact Drawn0.refl _ | apply Drawn0.step)⟩
                                    · replace c26 := Bool.eq_false_iff.mpr c26
                                      subst c26
                                      have H1 : (if a0 = 8 then (carrefourref18_Next.j6 kj22 a0 a1 a0 (a1 == 7)) else (carrefourref18_Next.j6 kj22 a0 a1 a0 false)) = some (r1, r2) := by rw [if_neg (show ¬ (false = true) by decide)] at H; exact H
                                      clear H
                                      have H := H1
                                      clear H1
                                      have HC27 := Aside0.mk H
                                      clear H
                                      go_upto_region 15 with (fail)
                                      go_cut [55] (fun v55 wc => ∃ (kq : Nat) (x55_26 : Bool), v55 = .bool x55_26 ∧ Aside0 (carrefourref18_Next.j6 kq a0 a1 a0 x55_26 = some (r1, r2)) ∧ Aside0 (kq ≤ kj22) ∧ Drawn0 w wc)
                                      case first =>
                                        have H := HC27.out
                                        clear HC27
                                        by_cases c28 : a0 = 8
                                        · rw [if_pos c28] at H
                                          have c28b0 : (a0 == 8) = true := beq_iff_eq.mpr c28
                                          have c28b1 : (a0 != 8) = false := bne_eq_false_iff_eq.mpr c28
                                          clear c28
                                          (first | rw [c28b0] | (simp only [i64_w, i32_w]; rw [c28b0]) | skip)
                                          have H' := Aside0.mk H
                                          clear H
                                          go_wp2
                                          go_meet
                                          case rel => exact ⟨_, ((a1 == 7)), (by first | rfl | (simp; done) | (simp [*]; done)), H', ⟨by have := HJ2.out; have := HJ6.out; have := HJ10.out; have := HJ14.out; have := HJ18.out; have := HJ22.out; first | omega | exact Nat.le_refl _⟩, by repeat (first | exact Drawn0.refl _ | apply Drawn0.step)⟩
                                        · rw [if_neg c28] at H
                                          have c28b0 : (a0 == 8) = false := beq_eq_false_iff_ne.mpr c28
                                          have c28b1 : (a0 != 8) = true := bne_iff_ne.mpr c28
                                          (first | rw [c28b0] | (simp only [i64_w, i32_w]; rw [c28b0]) | skip)
                                          have H' := Aside0.mk H
                                          clear H
                                          go_wp2
                                          go_meet
                                          case rel => exact ⟨_, (false), (by first | rfl | (simp; done) | (simp [*]; done)), H', ⟨by have := HJ2.out; have := HJ6.out; have := HJ10.out; have := HJ14.out; have := HJ18.out; have := HJ22.out; first | omega | exact Nat.le_refl _⟩, by repeat (first | exact Drawn0.refl _ | apply Drawn0.step)⟩
                                      case rest =>
                                        clear HC27
                                        try clear c1
                                        try clear c2
                                        try clear p2
                                        try clear c4
                                        try clear c4b0
                                        try clear c4b1
                                        try clear c5
                                        try clear c6
                                        try clear c8
                                        try clear c8b0
                                        try clear c8b1
                                        try clear c9
                                        try clear c10
                                        try clear c12
                                        try clear c12b0
                                        try clear c12b1
                                        try clear c13
                                        try clear c14
                                        try clear c16
                                        try clear c16b0
                                        try clear c16b1
                                        try clear c17
                                        try clear c18
                                        try clear c20
                                        try clear c20b0
                                        try clear c20b1
                                        try clear c21
                                        try clear c22
                                        try clear c24
                                        try clear c24b0
                                        try clear c24b1
                                        try clear c25
                                        try clear c25b0
                                        try clear c25b1
                                        try clear c26
                                        try clear c28
                                        try clear c28b0
                                        try clear c28b1
                                        try clear p2
                                        obtain ⟨kq, x55_26, rfl, HA, HJ26, ⟨mc26, rfl⟩⟩ := hcut
                                        cases kq with
                                        | zero => exact absurd HA.out (by simp [carrefourref18_Next.j6])
                                        | succ kj26 =>
                                          have H := HA.out
                                          clear HA
                                          simp only [carrefourref18_Next.j6] at H
                                          by_cases c29 : x55_26 = true
                                          · subst c29
                                            have H1 : (some (9, 0)) = some (r1, r2) := by rw [if_pos rfl] at H; exact H
                                            clear H
                                            have H := H1
                                            clear H1
                                            simp only [Option.some.injEq, Prod.mk.injEq] at H
                                            obtain ⟨rfl, rfl⟩ := H
                                            go_wp2
                                            go_ret2
                                            exact ⟨by first | rfl | (simp; done) | (simp [*]; done), by repeat (first | exact Drawn0.refl _ | apply Drawn0.step)⟩
                                          · replace c29 := Bool.eq_false_iff.mpr c29
                                            subst c29
                                            have H1 : (if a1 = 9 then (if a0 = 1 then (carrefourref18_Next.j7 kj26 a0 a1 a0 true) else (if a0 = 2 then (carrefourref18_Next.j7 kj26 a0 a1 a0 true) else (carrefourref18_Next.j7 kj26 a0 a1 a0 (a0 == 3)))) else (carrefourref18_Next.j7 kj26 a0 a1 a0 false)) = some (r1, r2) := by rw [if_neg (show ¬ (false = true) by decide)] at H; exact H
                                            clear H
                                            have H := H1
                                            clear H1
                                            have HC30 := Aside0.mk H
                                            clear H
                                            go_upto_region 17 with (fail)
                                            go_cut [62] (fun v62 wc => ∃ (kq : Nat) (x62_29 : Bool), v62 = .bool x62_29 ∧ Aside0 (carrefourref18_Next.j7 kq a0 a1 a0 x62_29 = some (r1, r2)) ∧ Aside0 (kq ≤ kj26) ∧ Drawn0 w wc)
                                            case first =>
                                              have H := HC30.out
                                              clear HC30
                                              by_cases c31 : a1 = 9
                                              · rw [if_pos c31] at H
                                                have c31b0 : (a1 == 9) = true := beq_iff_eq.mpr c31
                                                have c31b1 : (a1 != 9) = false := bne_eq_false_iff_eq.mpr c31
                                                clear c31
                                                (first | rw [c31b0] | (simp only [i64_w, i32_w]; rw [c31b0]) | skip)
                                                by_cases c32 : a0 = 1
                                                · rw [if_pos c32] at H
                                                  have c32b0 : (a0 == 1) = true := beq_iff_eq.mpr c32
                                                  have c32b1 : (a0 != 1) = false := bne_eq_false_iff_eq.mpr c32
                                                  clear c32
                                                  have H' := Aside0.mk H
                                                  clear H
                                                  go_wp2
                                                  go_meet
                                                  case rel => exact ⟨_, (true), (by first | rfl | (simp; done) | (simp [*]; done)), H', ⟨by have := HJ2.out; have := HJ6.out; have := HJ10.out; have := HJ14.out; have := HJ18.out; have := HJ22.out; have := HJ26.out; first | omega | exact Nat.le_refl _⟩, by repeat (first | exact Drawn0.refl _ | apply Drawn0.step)⟩
                                                · rw [if_neg c32] at H
                                                  have c32b0 : (a0 == 1) = false := beq_eq_false_iff_ne.mpr c32
                                                  have c32b1 : (a0 != 1) = true := bne_iff_ne.mpr c32
                                                  by_cases c33 : a0 = 2
                                                  · rw [if_pos c33] at H
                                                    have c33b0 : (a0 == 2) = true := beq_iff_eq.mpr c33
                                                    have c33b1 : (a0 != 2) = false := bne_eq_false_iff_eq.mpr c33
                                                    clear c33
                                                    have H' := Aside0.mk H
                                                    clear H
                                                    go_wp2
                                                    go_meet
                                                    case rel => exact ⟨_, (true), (by first | rfl | (simp; done) | (simp [*]; done)), H', ⟨by have := HJ2.out; have := HJ6.out; have := HJ10.out; have := HJ14.out; have := HJ18.out; have := HJ22.out; have := HJ26.out; first | omega | exact Nat.le_refl _⟩, by repeat (first | exact Drawn0.refl _ | apply Drawn0.step)⟩
                                                  · rw [if_neg c33] at H
                                                    have c33b0 : (a0 == 2) = false := beq_eq_false_iff_ne.mpr c33
                                                    have c33b1 : (a0 != 2) = true := bne_iff_ne.mpr c33
                                                    have H' := Aside0.mk H
                                                    clear H
                                                    go_wp2
                                                    go_meet
                                                    case rel => exact ⟨_, ((a0 == 3)), (by first | rfl | (simp; done) | (simp [*]; done)), H', ⟨by have := HJ2.out; have := HJ6.out; have := HJ10.out; have := HJ14.out; have := HJ18.out; have := HJ22.out; have := HJ26.out; first | omega | exact Nat.le_refl _⟩, by repeat (first | exact Drawn0.refl _ | apply Drawn0.step)⟩
                                              · rw [if_neg c31] at H
                                                have c31b0 : (a1 == 9) = false := beq_eq_false_iff_ne.mpr c31
                                                have c31b1 : (a1 != 9) = true := bne_iff_ne.mpr c31
                                                (first | rw [c31b0] | (simp only [i64_w, i32_w]; rw [c31b0]) | skip)
                                                have H' := Aside0.mk H
                                                clear H
                                                go_wp2
                                                go_meet
                                                case rel => exact ⟨_, (false), (by first | rfl | (simp; done) | (simp [*]; done)), H', ⟨by have := HJ2.out; have := HJ6.out; have := HJ10.out; have := HJ14.out; have := HJ18.out; have := HJ22.out; have := HJ26.out; first | omega | exact Nat.le_refl _⟩, by repeat (first | exact Drawn0.refl _ | apply Drawn0.step)⟩
                                            case rest =>
                                              clear HC30
                                              try clear c1
                                              try clear c2
                                              try clear p2
                                              try clear c3
                                              try clear c4
                                              try clear c4b0
                                              try clear c4b1
                                              try clear c5
                                              try clear c6
                                              try clear c8
                                              try clear c8b0
                                              try clear c8b1
                                              try clear c9
                                              try clear c10
                                              try clear c12
                                              try clear c12b0
                                              try clear c12b1
                                              try clear c13
                                              try clear c14
                                              try clear c16
                                              try clear c16b0
                                              try clear c16b1
                                              try clear c17
                                              try clear c18
                                              try clear c20
                                              try clear c20b0
                                              try clear c20b1
                                              try clear c21
                                              try clear c22
                                              try clear c24
                                              try clear c24b0
                                              try clear c24b1
                                              try clear c25
                                              try clear c25b0
                                              try clear c25b1
                                              try clear c26
                                              try clear c28
                                              try clear c28b0
                                              try clear c28b1
                                              try clear c29
                                              try clear c31
                                              try clear c31b0
                                              try clear c31b1
                                              try clear c32
                                              try clear c32b0
                                              try clear c32b1
                                              try clear c33
                                              try clear c33b0
                                              try clear c33b1
                                              try clear p2
                                              obtain ⟨kq, x62_29, rfl, HA, HJ29, ⟨mc29, rfl⟩⟩ := hcut
                                              cases kq with
                                              | zero => exact absurd HA.out (by simp [carrefourref18_Next.j7])
                                              | succ kj29 =>
                                                have H := HA.out
                                                clear HA
                                                simp only [carrefourref18_Next.j7] at H
                                                by_cases c34 : x62_29 = true
                                                · subst c34
                                                  have H1 : ((carrefourref18_Again.f kj29 8).bind fun t112 => (some (8, t112))) = some (r1, r2) := by rw [if_pos rfl] at H; exact H
                                                  clear H
                                                  have H := H1
                                                  clear H1
                                                  replace H := Option.bind_eq_some_iff.mp H
                                                  obtain ⟨t112, A350, H⟩ := H
                                                  replace H : (some (8, t112)) = some (r1, r2) := H
                                                  have A35 := Aside0.mk A350
                                                  clear A350
                                                  simp only [Option.some.injEq, Prod.mk.injEq] at H
                                                  obtain ⟨rfl, rfl⟩ := H
                                                  go_wp2_with (first | ((with_reducible refine gate_callee (f := 14) rfl ?_); refine goesL_ (some 127) rfl rfl Try.func14 (by kernel_rfl) rfl #[.int .i64 8] rfl (by (try simp only [List.map_toArray, List.map_cons, List.map_nil]); first | done | rfl | (simp only [List.length_drop, List.length_take]; rfl)) ?_; (with_reducible refine (carrefourref18_Again.calls kj29 8 t112 _ A35.out).mono ?_); rintro e w' ⟨rfl, ⟨nd, rfl⟩⟩; refine ⟨_, rfl, ?_⟩))
                                                  go_ret2
                                                  exact ⟨by first | rfl | (simp; done) | (simp [*]; done), by repeat (first | exact Drawn0.refl _ | apply Drawn0.step)⟩
                                                · replace c34 := Bool.eq_false_iff.mpr c34
                                                  subst c34
                                                  have H1 : (if a1 = 9 then (if a0 = 4 then (carrefourref18_Next.j8 kj29 a0 a1 a0 true) else (if a0 = 6 then (carrefourref18_Next.j8 kj29 a0 a1 a0 true) else (carrefourref18_Next.j8 kj29 a0 a1 a0 (a0 == 8)))) else (carrefourref18_Next.j8 kj29 a0 a1 a0 false)) = some (r1, r2) := by rw [if_neg (show ¬ (false = true) by decide)] at H; exact H
                                                  clear H
                                                  have H := H1
                                                  clear H1
                                                  have HC36 := Aside0.mk H
                                                  clear H
                                                  go_upto_region 19 with (fail)
                                                  go_cut [77] (fun v77 wc => ∃ (kq : Nat) (x77_35 : Bool), v77 = .bool x77_35 ∧ Aside0 (carrefourref18_Next.j8 kq a0 a1 a0 x77_35 = some (r1, r2)) ∧ Aside0 (kq ≤ kj29) ∧ Drawn0 w wc)
                                                  case first =>
                                                    have H := HC36.out
                                                    clear HC36
                                                    by_cases c37 : a1 = 9
                                                    · rw [if_pos c37] at H
                                                      have c37b0 : (a1 == 9) = true := beq_iff_eq.mpr c37
                                                      have c37b1 : (a1 != 9) = false := bne_eq_false_iff_eq.mpr c37
                                                      clear c37
                                                      (first | rw [c37b0] | (simp only [i64_w, i32_w]; rw [c37b0]) | skip)
                                                      by_cases c38 : a0 = 4
                                                      · rw [if_pos c38] at H
                                                        have c38b0 : (a0 == 4) = true := beq_iff_eq.mpr c38
                                                        have c38b1 : (a0 != 4) = false := bne_eq_false_iff_eq.mpr c38
                                                        clear c38
                                                        have H' := Aside0.mk H
                                                        clear H
                                                        go_wp2
                                                        go_meet
                                                        case rel => exact ⟨_, (true), (by first | rfl | (simp; done) | (simp [*]; done)), H', ⟨by have := HJ2.out; have := HJ6.out; have := HJ10.out; have := HJ14.out; have := HJ18.out; have := HJ22.out; have := HJ26.out; have := HJ29.out; first | omega | exact Nat.le_refl _⟩, by repeat (first | exact Drawn0.refl _ | apply Drawn0.step)⟩
                                                      · rw [if_neg c38] at H
                                                        have c38b0 : (a0 == 4) = false := beq_eq_false_iff_ne.mpr c38
                                                        have c38b1 : (a0 != 4) = true := bne_iff_ne.mpr c38
                                                        by_cases c39 : a0 = 6
                                                        · rw [if_pos c39] at H
                                                          have c39b0 : (a0 == 6) = true := beq_iff_eq.mpr c39
                                                          have c39b1 : (a0 != 6) = false := bne_eq_false_iff_eq.mpr c39
                                                          clear c39
                                                          have H' := Aside0.mk H
                                                          clear H
                                                          go_wp2
                                                          go_meet
                                                          case rel => exact ⟨_, (true), (by first | rfl | (simp; done) | (simp [*]; done)), H', ⟨by have := HJ2.out; have := HJ6.out; have := HJ10.out; have := HJ14.out; have := HJ18.out; have := HJ22.out; have := HJ26.out; have := HJ29.out; first | omega | exact Nat.le_refl _⟩, by repeat (first | exact Drawn0.refl _ | apply Drawn0.step)⟩
                                                        · rw [if_neg c39] at H
                                                          have c39b0 : (a0 == 6) = false := beq_eq_false_iff_ne.mpr c39
                                                          have c39b1 : (a0 != 6) = true := bne_iff_ne.mpr c39
                                                          have H' := Aside0.mk H
                                                          clear H
                                                          go_wp2
                                                          go_meet
                                                          case rel => exact ⟨_, ((a0 == 8)), (by first | rfl | (simp; done) | (simp [*]; done)), H', ⟨by have := HJ2.out; have := HJ6.out; have := HJ10.out; have := HJ14.out; have := HJ18.out; have := HJ22.out; have := HJ26.out; have := HJ29.out; first | omega | exact Nat.le_refl _⟩, by repeat (first | exact Drawn0.refl _ | apply Drawn0.step)⟩
                                                    · rw [if_neg c37] at H
                                                      have c37b0 : (a1 == 9) = false := beq_eq_false_iff_ne.mpr c37
                                                      have c37b1 : (a1 != 9) = true := bne_iff_ne.mpr c37
                                                      (first | rw [c37b0] | (simp only [i64_w, i32_w]; rw [c37b0]) | skip)
                                                      have H' := Aside0.mk H
                                                      clear H
                                                      go_wp2
                                                      go_meet
                                                      case rel => exact ⟨_, (false), (by first | rfl | (simp; done) | (simp [*]; done)), H', ⟨by have := HJ2.out; have := HJ6.out; have := HJ10.out; have := HJ14.out; have := HJ18.out; have := HJ22.out; have := HJ26.out; have := HJ29.out; first | omega | exact Nat.le_refl _⟩, by repeat (first | exact Drawn0.refl _ | apply Drawn0.step)⟩
                                                  case rest =>
                                                    clear HC36
                                                    try clear c1
                                                    try clear c2
                                                    try clear p2
                                                    try clear c3
                                                    try clear c4
                                                    try clear c4b0
                                                    try clear c4b1
                                                    try clear c5
                                                    try clear c6
                                                    try clear c8
                                                    try clear c8b0
                                                    try clear c8b1
                                                    try clear c9
                                                    try clear c10
                                                    try clear c12
                                                    try clear c12b0
                                                    try clear c12b1
                                                    try clear c13
                                                    try clear c14
                                                    try clear c16
                                                    try clear c16b0
                                                    try clear c16b1
                                                    try clear c17
                                                    try clear c18
                                                    try clear c20
                                                    try clear c20b0
                                                    try clear c20b1
                                                    try clear c21
                                                    try clear c22
                                                    try clear c24
                                                    try clear c24b0
                                                    try clear c24b1
                                                    try clear c25
                                                    try clear c25b0
                                                    try clear c25b1
                                                    try clear c26
                                                    try clear c28
                                                    try clear c28b0
                                                    try clear c28b1
                                                    try clear c29
                                                    try clear c31
                                                    try clear c31b0
                                                    try clear c31b1
                                                    try clear c32
                                                    try clear c32b0
                                                    try clear c32b1
                                                    try clear c33
                                                    try clear c33b0
                                                    try clear c33b1
                                                    try clear c34
                                                    try clear c37
                                                    try clear c37b0
                                                    try clear c37b1
                                                    try clear c38
                                                    try clear c38b0
                                                    try clear c38b1
                                                    try clear c39
                                                    try clear c39b0
                                                    try clear c39b1
                                                    try clear p2
                                                    obtain ⟨kq, x77_35, rfl, HA, HJ35, ⟨mc35, rfl⟩⟩ := hcut
                                                    cases kq with
                                                    | zero => exact absurd HA.out (by simp [carrefourref18_Next.j8])
                                                    | succ kj35 =>
                                                      have H := HA.out
                                                      clear HA
                                                      simp only [carrefourref18_Next.j8] at H
                                                      by_cases c40 : x77_35 = true
                                                      · subst c40
                                                        have H1 : ((carrefourref18_Again.f kj35 a0).bind fun t113 => (some (a0, t113))) = some (r1, r2) := by rw [if_pos rfl] at H; exact H
                                                        clear H
                                                        have H := H1
                                                        clear H1
                                                        replace H := Option.bind_eq_some_iff.mp H
                                                        obtain ⟨t113, A410, H⟩ := H
                                                        replace H : (some (a0, t113)) = some (r1, r2) := H
                                                        have A41 := Aside0.mk A410
                                                        clear A410
                                                        simp only [Option.some.injEq, Prod.mk.injEq] at H
                                                        obtain ⟨rfl, rfl⟩ := H
                                                        go_wp2_with (first | ((with_reducible refine gate_callee (f := 14) rfl ?_); refine goesL_ (some 127) rfl rfl Try.func14 (by kernel_rfl) rfl #[.int .i64 a0] rfl (by (try simp only [List.map_toArray, List.map_cons, List.map_nil]); first | done | rfl | (simp only [List.length_drop, List.length_take]; rfl)) ?_; (with_reducible refine (carrefourref18_Again.calls kj35 a0 t113 _ A41.out).mono ?_); rintro e w' ⟨rfl, ⟨nd, rfl⟩⟩; refine ⟨_, rfl, ?_⟩))
                                                        go_ret2
                                                        exact ⟨by first | rfl | (simp; done) | (simp [*]; done), by repeat (first | exact Drawn0.refl _ | apply Drawn0.step)⟩
                                                      · replace c40 := Bool.eq_false_iff.mpr c40
                                                        subst c40
                                                        have H1 : (if a1 = 9 then (carrefourref18_Next.j9 kj35 a0 a1 a0 (a0 == 5)) else (if a1 = 8 then (carrefourref18_Next.j9 kj35 a0 a1 a0 (a0 == 5)) else (carrefourref18_Next.j9 kj35 a0 a1 a0 false))) = some (r1, r2) := by rw [if_neg (show ¬ (false = true) by decide)] at H; exact H
                                                        clear H
                                                        have H := H1
                                                        clear H1
                                                        have HC42 := Aside0.mk H
                                                        clear H
                                                        go_upto_region 20 with (fail)
                                                        go_cut [92] (fun v92 wc => ∃ (kq : Nat) (x92_41 : Bool), v92 = .bool x92_41 ∧ Aside0 (carrefourref18_Next.j9 kq a0 a1 a0 x92_41 = some (r1, r2)) ∧ Aside0 (kq ≤ kj35) ∧ Drawn0 w wc)
                                                        case first =>
                                                          have H := HC42.out
                                                          clear HC42
                                                          by_cases c43 : a1 = 9
                                                          · rw [if_pos c43] at H
                                                            have c43b0 : (a1 == 9) = true := beq_iff_eq.mpr c43
                                                            have c43b1 : (a1 != 9) = false := bne_eq_false_iff_eq.mpr c43
                                                            clear c43
                                                            (first | rw [c43b0] | (simp only [i64_w, i32_w]; rw [c43b0]) | skip)
                                                            have H' := Aside0.mk H
                                                            clear H
                                                            go_wp2
                                                            go_meet
                                                            case rel => exact ⟨_, ((a0 == 5)), (by first | rfl | (simp; done) | (simp [*]; done)), H', ⟨by have := HJ2.out; have := HJ6.out; have := HJ10.out; have := HJ14.out; have := HJ18.out; have := HJ22.out; have := HJ26.out; have := HJ29.out; have := HJ35.out; first | omega | exact Nat.le_refl _⟩, by repeat (first | exact Drawn0.refl _ | apply Drawn0.step)⟩
                                                          · rw [if_neg c43] at H
                                                            have c43b0 : (a1 == 9) = false := beq_eq_false_iff_ne.mpr c43
                                                            have c43b1 : (a1 != 9) = true := bne_iff_ne.mpr c43
                                                            (first | rw [c43b0] | (simp only [i64_w, i32_w]; rw [c43b0]) | skip)
                                                            by_cases c44 : a1 = 8
                                                            · rw [if_pos c44] at H
                                                              have c44b0 : (a1 == 8) = true := beq_iff_eq.mpr c44
                                                              have c44b1 : (a1 != 8) = false := bne_eq_false_iff_eq.mpr c44
                                                              clear c44
                                                              have H' := Aside0.mk H
                                                              clear H
                                                              go_wp2
                                                              go_meet
                                                              case rel => exact ⟨_, ((a0 == 5)), (by first | rfl | (simp; done) | (simp [*]; done)), H', ⟨by have := HJ2.out; have := HJ6.out; have := HJ10.out; have := HJ14.out; have := HJ18.out; have := HJ22.out; have := HJ26.out; have := HJ29.out; have := HJ35.out; first | omega | exact Nat.le_refl _⟩, by repeat (first | exact Drawn0.refl _ | apply Drawn0.step)⟩
                                                            · rw [if_neg c44] at H
                                                              have c44b0 : (a1 == 8) = false := beq_eq_false_iff_ne.mpr c44
                                                              have c44b1 : (a1 != 8) = true := bne_iff_ne.mpr c44
                                                              have H' := Aside0.mk H
                                                              clear H
                                                              go_wp2
                                                              go_meet
                                                              case rel => exact ⟨_, (false), (by first | rfl | (simp; done) | (simp [*]; done)), H', ⟨by have := HJ2.out; have := HJ6.out; have := HJ10.out; have := HJ14.out; have := HJ18.out; have := HJ22.out; have := HJ26.out; have := HJ29.out; have := HJ35.out; first | omega | exact Nat.le_refl _⟩, by repeat (first | exact Drawn0.refl _ | apply Drawn0.step)⟩
                                                        case rest =>
                                                          clear HC42
                                                          try clear c1
                                                          try clear c2
                                                          try clear p2
                                                          try clear c3
                                                          try clear c4
                                                          try clear c4b0
                                                          try clear c4b1
                                                          try clear c5
                                                          try clear c6
                                                          try clear c8
                                                          try clear c8b0
                                                          try clear c8b1
                                                          try clear c9
                                                          try clear c10
                                                          try clear c12
                                                          try clear c12b0
                                                          try clear c12b1
                                                          try clear c13
                                                          try clear c14
                                                          try clear c16
                                                          try clear c16b0
                                                          try clear c16b1
                                                          try clear c17
                                                          try clear c18
                                                          try clear c20
                                                          try clear c20b0
                                                          try clear c20b1
                                                          try clear c21
                                                          try clear c22
                                                          try clear c24
                                                          try clear c24b0
                                                          try clear c24b1
                                                          try clear c25
                                                          try clear c25b0
                                                          try clear c25b1
                                                          try clear c26
                                                          try clear c28
                                                          try clear c28b0
                                                          try clear c28b1
                                                          try clear c29
                                                          try clear c31
                                                          try clear c31b0
                                                          try clear c31b1
                                                          try clear c32
                                                          try clear c32b0
                                                          try clear c32b1
                                                          try clear c33
                                                          try clear c33b0
                                                          try clear c33b1
                                                          try clear c34
                                                          try clear c35
                                                          try clear c37
                                                          try clear c37b0
                                                          try clear c37b1
                                                          try clear c38
                                                          try clear c38b0
                                                          try clear c38b1
                                                          try clear c39
                                                          try clear c39b0
                                                          try clear c39b1
                                                          try clear c40
                                                          try clear c43
                                                          try clear c43b0
                                                          try clear c43b1
                                                          try clear c44
                                                          try clear c44b0
                                                          try clear c44b1
                                                          try clear p2
                                                          obtain ⟨kq, x92_41, rfl, HA, HJ41, ⟨mc41, rfl⟩⟩ := hcut
                                                          cases kq with
                                                          | zero => exact absurd HA.out (by simp [carrefourref18_Next.j9])
                                                          | succ kj41 =>
                                                            have H := HA.out
                                                            clear HA
                                                            simp only [carrefourref18_Next.j9] at H
                                                            by_cases c45 : x92_41 = true
                                                            · subst c45
                                                              have H1 : ((carrefourref18_Again.f kj41 6).bind fun t114 => (some (6, t114))) = some (r1, r2) := by rw [if_pos rfl] at H; exact H
                                                              clear H
                                                              have H := H1
                                                              clear H1
                                                              replace H := Option.bind_eq_some_iff.mp H
                                                              obtain ⟨t114, A460, H⟩ := H
                                                              replace H : (some (6, t114)) = some (r1, r2) := H
                                                              have A46 := Aside0.mk A460
                                                              clear A460
                                                              simp only [Option.some.injEq, Prod.mk.injEq] at H
                                                              obtain ⟨rfl, rfl⟩ := H
                                                              go_wp2_with (first | ((with_reducible refine gate_callee (f := 14) rfl ?_); refine goesL_ (some 127) rfl rfl Try.func14 (by kernel_rfl) rfl #[.int .i64 6] rfl (by (try simp only [List.map_toArray, List.map_cons, List.map_nil]); first | done | rfl | (simp only [List.length_drop, List.length_take]; rfl)) ?_; (with_reducible refine (carrefourref18_Again.calls kj41 6 t114 _ A46.out).mono ?_); rintro e w' ⟨rfl, ⟨nd, rfl⟩⟩; refine ⟨_, rfl, ?_⟩))
                                                              go_ret2
                                                              exact ⟨by first | rfl | (simp; done) | (simp [*]; done), by repeat (first | exact Drawn0.refl _ | apply Drawn0.step)⟩
                                                            · replace c45 := Bool.eq_false_iff.mpr c45
                                                              subst c45
                                                              have H1 : (if a1 = 8 then (carrefourref18_Next.j10 kj41 a0 a1 a0 (a0 == 6)) else (carrefourref18_Next.j10 kj41 a0 a1 a0 false)) = some (r1, r2) := by rw [if_neg (show ¬ (false = true) by decide)] at H; exact H
                                                              clear H
                                                              have H := H1
                                                              clear H1
                                                              have HC47 := Aside0.mk H
                                                              clear H
                                                              go_upto_region 22 with (fail)
                                                              go_cut [103] (fun v103 wc => ∃ (kq : Nat) (x103_46 : Bool), v103 = .bool x103_46 ∧ Aside0 (carrefourref18_Next.j10 kq a0 a1 a0 x103_46 = some (r1, r2)) ∧ Aside0 (kq ≤ kj41) ∧ Drawn0 w wc)
                                                              case first =>
                                                                have H := HC47.out
                                                                clear HC47
                                                                by_cases c48 : a1 = 8
                                                                · rw [if_pos c48] at H
                                                                  have c48b0 : (a1 == 8) = true := beq_iff_eq.mpr c48
                                                                  have c48b1 : (a1 != 8) = false := bne_eq_false_iff_eq.mpr c48
                                                                  clear c48
                                                                  (first | rw [c48b0] | (simp only [i64_w, i32_w]; rw [c48b0]) | skip)
                                                                  have H' := Aside0.mk H
                                                                  clear H
                                                                  go_wp2
                                                                  go_meet
                                                                  case rel => exact ⟨_, ((a0 == 6)), (by first | rfl | (simp; done) | (simp [*]; done)), H', ⟨by have := HJ2.out; have := HJ6.out; have := HJ10.out; have := HJ14.out; have := HJ18.out; have := HJ22.out; have := HJ26.out; have := HJ29.out; have := HJ35.out; have := HJ41.out; first | omega | exact Nat.le_refl _⟩, by repeat (first | exact Drawn0.refl _ | apply Drawn0.step)⟩
                                                                · rw [if_neg c48] at H
                                                                  have c48b0 : (a1 == 8) = false := beq_eq_false_iff_ne.mpr c48
                                                                  have c48b1 : (a1 != 8) = true := bne_iff_ne.mpr c48
                                                                  (first | rw [c48b0] | (simp only [i64_w, i32_w]; rw [c48b0]) | skip)
                                                                  have H' := Aside0.mk H
                                                                  clear H
                                                                  go_wp2
                                                                  go_meet
                                                                  case rel => exact ⟨_, (false), (by first | rfl | (simp; done) | (simp [*]; done)), H', ⟨by have := HJ2.out; have := HJ6.out; have := HJ10.out; have := HJ14.out; have := HJ18.out; have := HJ22.out; have := HJ26.out; have := HJ29.out; have := HJ35.out; have := HJ41.out; first | omega | exact Nat.le_refl _⟩, by repeat (first | exact Drawn0.refl _ | apply Drawn0.step)⟩
                                                              case rest =>
                                                                clear HC47
                                                                try clear c1
                                                                try clear c2
                                                                try clear p2
                                                                try clear c3
                                                                try clear c4
                                                                try clear c4b0
                                                                try clear c4b1
                                                                try clear c5
                                                                try clear c6
                                                                try clear c8
                                                                try clear c8b0
                                                                try clear c8b1
                                                                try clear c9
                                                                try clear c10
                                                                try clear c12
                                                                try clear c12b0
                                                                try clear c12b1
                                                                try clear c13
                                                                try clear c14
                                                                try clear c16
                                                                try clear c16b0
                                                                try clear c16b1
                                                                try clear c17
                                                                try clear c18
                                                                try clear c20
                                                                try clear c20b0
                                                                try clear c20b1
                                                                try clear c21
                                                                try clear c22
                                                                try clear c24
                                                                try clear c24b0
                                                                try clear c24b1
                                                                try clear c25
                                                                try clear c25b0
                                                                try clear c25b1
                                                                try clear c26
                                                                try clear c28
                                                                try clear c28b0
                                                                try clear c28b1
                                                                try clear c29
                                                                try clear c31
                                                                try clear c31b0
                                                                try clear c31b1
                                                                try clear c32
                                                                try clear c32b0
                                                                try clear c32b1
                                                                try clear c33
                                                                try clear c33b0
                                                                try clear c33b1
                                                                try clear c34
                                                                try clear c35
                                                                try clear c37
                                                                try clear c37b0
                                                                try clear c37b1
                                                                try clear c38
                                                                try clear c38b0
                                                                try clear c38b1
                                                                try clear c39
                                                                try clear c39b0
                                                                try clear c39b1
                                                                try clear c40
                                                                try clear c41
                                                                try clear c43
                                                                try clear c43b0
                                                                try clear c43b1
                                                                try clear c44
                                                                try clear c44b0
                                                                try clear c44b1
                                                                try clear c45
                                                                try clear c48
                                                                try clear c48b0
                                                                try clear c48b1
                                                                try clear p2
                                                                obtain ⟨kq, x103_46, rfl, HA, HJ46, ⟨mc46, rfl⟩⟩ := hcut
                                                                cases kq with
                                                                | zero => exact absurd HA.out (by simp [carrefourref18_Next.j10])
                                                                | succ kj46 =>
                                                                  have H := HA.out
                                                                  clear HA
                                                                  simp only [carrefourref18_Next.j10] at H
                                                                  by_cases c49 : x103_46 = true
                                                                  · subst c49
                                                                    have H1 : ((carrefourref18_Again.f kj46 a0).bind fun t115 => (some (a0, t115))) = some (r1, r2) := by rw [if_pos rfl] at H; exact H
                                                                    clear H
                                                                    have H := H1
                                                                    clear H1
                                                                    replace H := Option.bind_eq_some_iff.mp H
                                                                    obtain ⟨t115, A500, H⟩ := H
                                                                    replace H : (some (a0, t115)) = some (r1, r2) := H
                                                                    have A50 := Aside0.mk A500
                                                                    clear A500
                                                                    simp only [Option.some.injEq, Prod.mk.injEq] at H
                                                                    obtain ⟨rfl, rfl⟩ := H
                                                                    go_wp2_with (first | ((with_reducible refine gate_callee (f := 14) rfl ?_); refine goesL_ (some 127) rfl rfl Try.func14 (by kernel_rfl) rfl #[.int .i64 a0] rfl (by (try simp only [List.map_toArray, List.map_cons, List.map_nil]); first | done | rfl | (simp only [List.length_drop, List.length_take]; rfl)) ?_; (with_reducible refine (carrefourref18_Again.calls kj46 a0 t115 _ A50.out).mono ?_); rintro e w' ⟨rfl, ⟨nd, rfl⟩⟩; refine ⟨_, rfl, ?_⟩))
                                                                    go_ret2
                                                                    exact ⟨by first | rfl | (simp; done) | (simp [*]; done), by repeat (first | exact Drawn0.refl _ | apply Drawn0.step)⟩
                                                                  · replace c49 := Bool.eq_false_iff.mpr c49
                                                                    subst c49
                                                                    have H1 : (if a1 = 8 then (if a0 ≥ 1 then (if a0 ≤ 4 then ((carrefourref18_Again.f kj46 8).bind fun t116 => (some (8, t116))) else (if a0 = 8 then ((carrefourref18_Again.f kj46 8).bind fun t117 => (some (8, t117))) else (some (a0, 0)))) else (if a0 = 8 then ((carrefourref18_Again.f kj46 8).bind fun t118 => (some (8, t118))) else (some (a0, 0)))) else (some (a0, 0))) = some (r1, r2) := by rw [if_neg (show ¬ (false = true) by decide)] at H; exact H
                                                                    clear H
                                                                    have H := H1
                                                                    clear H1
                                                                    by_cases c51 : a1 = 8
                                                                    · rw [if_pos c51] at H
                                                                      have c51b0 : (a1 == 8) = true := beq_iff_eq.mpr c51
                                                                      have c51b1 : (a1 != 8) = false := bne_eq_false_iff_eq.mpr c51
                                                                      clear c51
                                                                      by_cases c52 : a0 ≥ 1
                                                                      · rw [if_pos c52] at H
                                                                        have c52b0 : decide (1 ≤ a0) = true := decide_eq_true c52
                                                                        clear c52
                                                                        by_cases c53 : a0 ≤ 4
                                                                        · rw [if_pos c53] at H
                                                                          have c53b0 : decide (a0 ≤ 4) = true := decide_eq_true c53
                                                                          clear c53
                                                                          replace H := Option.bind_eq_some_iff.mp H
                                                                          obtain ⟨t116, A540, H⟩ := H
                                                                          replace H : (some (8, t116)) = some (r1, r2) := H
                                                                          have A54 := Aside0.mk A540
                                                                          clear A540
                                                                          simp only [Option.some.injEq, Prod.mk.injEq] at H
                                                                          obtain ⟨rfl, rfl⟩ := H
                                                                          go_wp2_with (first | ((with_reducible refine gate_callee (f := 14) rfl ?_); refine goesL_ (some 127) rfl rfl Try.func14 (by kernel_rfl) rfl #[.int .i64 8] rfl (by (try simp only [List.map_toArray, List.map_cons, List.map_nil]); first | done | rfl | (simp only [List.length_drop, List.length_take]; rfl)) ?_; (with_reducible refine (carrefourref18_Again.calls kj46 8 t116 _ A54.out).mono ?_); rintro e w' ⟨rfl, ⟨nd, rfl⟩⟩; refine ⟨_, rfl, ?_⟩))
                                                                          go_ret2
                                                                          exact ⟨by first | rfl | (simp; done) | (simp [*]; done), by repeat (first | exact Drawn0.refl _ | apply Drawn0.step)⟩
                                                                        · rw [if_neg c53] at H
                                                                          have c53b0 : decide (a0 ≤ 4) = false := decide_eq_false c53
                                                                          clear c53
                                                                          by_cases c55 : a0 = 8
                                                                          · rw [if_pos c55] at H
                                                                            have c55b0 : (a0 == 8) = true := beq_iff_eq.mpr c55
                                                                            have c55b1 : (a0 != 8) = false := bne_eq_false_iff_eq.mpr c55
                                                                            clear c55
                                                                            replace H := Option.bind_eq_some_iff.mp H
                                                                            obtain ⟨t117, A560, H⟩ := H
                                                                            replace H : (some (8, t117)) = some (r1, r2) := H
                                                                            have A56 := Aside0.mk A560
                                                                            clear A560
                                                                            simp only [Option.some.injEq, Prod.mk.injEq] at H
                                                                            obtain ⟨rfl, rfl⟩ := H
                                                                            go_wp2_with (first | ((with_reducible refine gate_callee (f := 14) rfl ?_); refine goesL_ (some 127) rfl rfl Try.func14 (by kernel_rfl) rfl #[.int .i64 8] rfl (by (try simp only [List.map_toArray, List.map_cons, List.map_nil]); first | done | rfl | (simp only [List.length_drop, List.length_take]; rfl)) ?_; (with_reducible refine (carrefourref18_Again.calls kj46 8 t117 _ A56.out).mono ?_); rintro e w' ⟨rfl, ⟨nd, rfl⟩⟩; refine ⟨_, rfl, ?_⟩))
                                                                            go_ret2
                                                                            exact ⟨by first | rfl | (simp; done) | (simp [*]; done), by repeat (first | exact Drawn0.refl _ | apply Drawn0.step)⟩
                                                                          · rw [if_neg c55] at H
                                                                            have c55b0 : (a0 == 8) = false := beq_eq_false_iff_ne.mpr c55
                                                                            have c55b1 : (a0 != 8) = true := bne_iff_ne.mpr c55
                                                                            simp only [Option.some.injEq, Prod.mk.injEq] at H
                                                                            obtain ⟨rfl, rfl⟩ := H
                                                                            go_wp2
                                                                            go_ret2
                                                                            exact ⟨by first | rfl | (simp; done) | (simp [*]; done), by repeat (first | exact Drawn0.refl _ | apply Drawn0.step)⟩
                                                                      · rw [if_neg c52] at H
                                                                        have c52b0 : decide (1 ≤ a0) = false := decide_eq_false c52
                                                                        clear c52
                                                                        by_cases c57 : a0 = 8
                                                                        · rw [if_pos c57] at H
                                                                          have c57b0 : (a0 == 8) = true := beq_iff_eq.mpr c57
                                                                          have c57b1 : (a0 != 8) = false := bne_eq_false_iff_eq.mpr c57
                                                                          clear c57
                                                                          replace H := Option.bind_eq_some_iff.mp H
                                                                          obtain ⟨t118, A580, H⟩ := H
                                                                          replace H : (some (8, t118)) = some (r1, r2) := H
                                                                          have A58 := Aside0.mk A580
                                                                          clear A580
                                                                          simp only [Option.some.injEq, Prod.mk.injEq] at H
                                                                          obtain ⟨rfl, rfl⟩ := H
                                                                          go_wp2_with (first | ((with_reducible refine gate_callee (f := 14) rfl ?_); refine goesL_ (some 127) rfl rfl Try.func14 (by kernel_rfl) rfl #[.int .i64 8] rfl (by (try simp only [List.map_toArray, List.map_cons, List.map_nil]); first | done | rfl | (simp only [List.length_drop, List.length_take]; rfl)) ?_; (with_reducible refine (carrefourref18_Again.calls kj46 8 t118 _ A58.out).mono ?_); rintro e w' ⟨rfl, ⟨nd, rfl⟩⟩; refine ⟨_, rfl, ?_⟩))
                                                                          go_ret2
                                                                          exact ⟨by first | rfl | (simp; done) | (simp [*]; done), by repeat (first | exact Drawn0.refl _ | apply Drawn0.step)⟩
                                                                        · rw [if_neg c57] at H
                                                                          have c57b0 : (a0 == 8) = false := beq_eq_false_iff_ne.mpr c57
                                                                          have c57b1 : (a0 != 8) = true := bne_iff_ne.mpr c57
                                                                          simp only [Option.some.injEq, Prod.mk.injEq] at H
                                                                          obtain ⟨rfl, rfl⟩ := H
                                                                          go_wp2
                                                                          go_ret2
                                                                          exact ⟨by first | rfl | (simp; done) | (simp [*]; done), by repeat (first | exact Drawn0.refl _ | apply Drawn0.step)⟩
                                                                    · rw [if_neg c51] at H
                                                                      have c51b0 : (a1 == 8) = false := beq_eq_false_iff_ne.mpr c51
                                                                      have c51b1 : (a1 != 8) = true := bne_iff_ne.mpr c51
                                                                      simp only [Option.some.injEq, Prod.mk.injEq] at H
                                                                      obtain ⟨rfl, rfl⟩ := H
                                                                      go_wp2
                                                                      go_ret2
                                                                      exact ⟨by first | rfl | (simp; done) | (simp [*]; done), by repeat (first | exact Drawn0.refl _ | apply Drawn0.step)⟩

end Go.Proofs.Ytladmbjfnkmlnaa.PGp
