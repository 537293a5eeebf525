-- Written by gprint.py, this session's own program, out of Lean's print of the translation: functions with the same answers, and proofs that the Go code comes to them. Lean checks it all.
import Derived.Test.YtladmbjfnkmlnaaPGpx0
import Derived.Test.YtladmbjfnkmlnaaPGpx2
import Derived.Test.YtladmbjfnkmlnaaPGpx4
namespace Go.Proofs.Ytladmbjfnkmlnaa.PGp
open Go.RowKit Go.Proofs.YtladmbjfnkmlnaaW.PrintWords Go.Proofs.YtladmbjfnkmlnaaW.PrintLast Go.Proofs.YtladmbjfnkmlnaaW.PrintMore Go.Proofs.YtladmbjfnkmlnaaG
attribute [local go_sem] max2_int min2_int max_two min_two max_three min_three max_four min_four   -- for this text's walks alone
set_option linter.unusedVariables false
set_option linter.unusedSimpArgs false

/-! ### carrefourlaw18_ShiftWays: function 4 -/
mutual
def carrefourlaw18_ShiftWays.l1 : Nat → List Int → Int → Bool → Bool → Int → Option (Bool)
  | 0, _, _, _, _, _ => none
  | k + 1, x0, x3, x4, x5, x6 => if x6 < (x0.length : Int) then (carrefourlaw18_ShiftWays.j1 k x0 x3 x4 x5 x6 (decide (x6 < 100))) else (carrefourlaw18_ShiftWays.j1 k x0 x3 x4 x5 x6 false)
def carrefourlaw18_ShiftWays.j1 : Nat → List Int → Int → Bool → Bool → Int → Bool → Option (Bool)
  | 0, _, _, _, _, _, _ => none
  | k + 1, x0, x3, x4, x5, x6, x16 => if x16 = true then (if 0 ≤ x6 then (if x6 < (x0.length : Int) then ((shift_Next.f k x3 (wrap64 (1 + (wrap64 (Int.tmod (IntKind.u64.wrap (rd x0 x6)) 9))))).bind fun bt145 => ((shift_May.f bt145.1).bind fun t147 => (if t147 = true then ((shift_Over.f x3).bind fun t148 => (if t148 = true then (if bt145.1 = x3 then (carrefourlaw18_ShiftWays.j2 k x0 x4 x5 x6 bt145.1 bt145.2 (bt145.2 != 0)) else (carrefourlaw18_ShiftWays.j2 k x0 x4 x5 x6 bt145.1 bt145.2 true)) else (carrefourlaw18_ShiftWays.j2 k x0 x4 x5 x6 bt145.1 bt145.2 false))) else (carrefourlaw18_ShiftWays.j2 k x0 x4 x5 x6 bt145.1 bt145.2 true)))) else (none)) else (none)) else ((carrefourlaw18_told.f k).bind fun t143 => (some t143))
def carrefourlaw18_ShiftWays.j2 : Nat → List Int → Bool → Bool → Int → Int → Int → Bool → Option (Bool)
  | 0, _, _, _, _, _, _, _ => none
  | k + 1, x0, x4, x5, x6, x7, x8, x47 => if x47 = true then (some false) else (if x4 = true then (carrefourlaw18_ShiftWays.j3 k x0 true x5 x6 x7 x8) else (carrefourlaw18_ShiftWays.j3 k x0 (x7 == 5) x5 x6 x7 x8))
def carrefourlaw18_ShiftWays.j3 : Nat → List Int → Bool → Bool → Int → Int → Int → Option (Bool)
  | 0, _, _, _, _, _, _ => none
  | k + 1, x0, x4, x5, x6, x7, x8 => if x5 = true then (carrefourlaw18_ShiftWays.j4 k x0 x4 true x6 x7 x8) else (carrefourlaw18_ShiftWays.j4 k x0 x4 (x7 == 8) x6 x7 x8)
def carrefourlaw18_ShiftWays.j4 : Nat → List Int → Bool → Bool → Int → Int → Int → Option (Bool)
  | 0, _, _, _, _, _, _ => none
  | k + 1, x0, x4, x5, x6, x7, x8 => if x4 = true then (if x5 = true then (carrefourlaw18_ShiftWays.j5 k x0 x4 x5 x6 x7 x8 true) else ((shift_Safe.f x7).bind fun t149 => (if t149 = true then (carrefourlaw18_ShiftWays.j5 k x0 x4 x5 x6 x7 x8 true) else (if x7 = 7 then (if x7 = 9 then (carrefourlaw18_ShiftWays.j5 k x0 x4 x5 x6 x7 x8 (!x5)) else (carrefourlaw18_ShiftWays.j5 k x0 x4 x5 x6 x7 x8 false)) else (if x7 = 9 then (carrefourlaw18_ShiftWays.j5 k x0 x4 x5 x6 x7 x8 (!x5)) else (carrefourlaw18_ShiftWays.j5 k x0 x4 x5 x6 x7 x8 false)))))) else (if x7 = 7 then (carrefourlaw18_ShiftWays.j5 k x0 x4 x5 x6 x7 x8 true) else (if x7 = 9 then (carrefourlaw18_ShiftWays.j5 k x0 x4 x5 x6 x7 x8 (!x5)) else (carrefourlaw18_ShiftWays.j5 k x0 x4 x5 x6 x7 x8 false)))
def carrefourlaw18_ShiftWays.j5 : Nat → List Int → Bool → Bool → Int → Int → Int → Bool → Option (Bool)
  | 0, _, _, _, _, _, _, _ => none
  | k + 1, x0, x4, x5, x6, x7, x8, x84 => if x84 = true then (some false) else (if x8 = 0 then (carrefourlaw18_ShiftWays.l1 k x0 x7 x4 x5 (wrap64 (x6 + 1))) else ((shift_Again.f k x7).bind fun t150 => (if x8 = t150 then (carrefourlaw18_ShiftWays.l1 k x0 x7 x4 x5 (wrap64 (x6 + 1))) else (some false))))
end
def carrefourlaw18_ShiftWays.f (k : Nat) (l0 : List Int) : Option (Bool) := carrefourlaw18_ShiftWays.l1 k l0 0 false false 0
theorem carrefourlaw18_ShiftWays.mono_l : ∀ k, (∀ y0 y1 y2 y3 y4, LeO (carrefourlaw18_ShiftWays.l1 k y0 y1 y2 y3 y4) (carrefourlaw18_ShiftWays.l1 (k + 1) y0 y1 y2 y3 y4)) ∧ (∀ y0 y1 y2 y3 y4 y5, LeO (carrefourlaw18_ShiftWays.j1 k y0 y1 y2 y3 y4 y5) (carrefourlaw18_ShiftWays.j1 (k + 1) y0 y1 y2 y3 y4 y5)) ∧ (∀ y0 y1 y2 y3 y4 y5 y6, LeO (carrefourlaw18_ShiftWays.j2 k y0 y1 y2 y3 y4 y5 y6) (carrefourlaw18_ShiftWays.j2 (k + 1) y0 y1 y2 y3 y4 y5 y6)) ∧ (∀ y0 y1 y2 y3 y4 y5, LeO (carrefourlaw18_ShiftWays.j3 k y0 y1 y2 y3 y4 y5) (carrefourlaw18_ShiftWays.j3 (k + 1) y0 y1 y2 y3 y4 y5)) ∧ (∀ y0 y1 y2 y3 y4 y5, LeO (carrefourlaw18_ShiftWays.j4 k y0 y1 y2 y3 y4 y5) (carrefourlaw18_ShiftWays.j4 (k + 1) y0 y1 y2 y3 y4 y5)) ∧ (∀ y0 y1 y2 y3 y4 y5 y6, LeO (carrefourlaw18_ShiftWays.j5 k y0 y1 y2 y3 y4 y5 y6) (carrefourlaw18_ShiftWays.j5 (k + 1) y0 y1 y2 y3 y4 y5 y6))
  | 0 => ⟨fun _ _ _ _ _ r h => by simp [carrefourlaw18_ShiftWays.l1] at h, fun _ _ _ _ _ _ r h => by simp [carrefourlaw18_ShiftWays.j1] at h, fun _ _ _ _ _ _ _ r h => by simp [carrefourlaw18_ShiftWays.j2] at h, fun _ _ _ _ _ _ r h => by simp [carrefourlaw18_ShiftWays.j3] at h, fun _ _ _ _ _ _ r h => by simp [carrefourlaw18_ShiftWays.j4] at h, fun _ _ _ _ _ _ _ r h => by simp [carrefourlaw18_ShiftWays.j5] at h⟩
  | k + 1 => by
    obtain ⟨ih0, ih1, ih2, ih3, ih4, ih5⟩ := carrefourlaw18_ShiftWays.mono_l k
    refine ⟨?_, ?_, ?_, ?_, ?_, ?_⟩
    · intro y0 y1 y2 y3 y4
      unfold carrefourlaw18_ShiftWays.l1
      repeat' first
      | (with_reducible exact ih0 _ _ _ _ _)
      | (with_reducible exact ih1 _ _ _ _ _ _)
      | (with_reducible exact ih2 _ _ _ _ _ _ _)
      | (with_reducible exact ih3 _ _ _ _ _ _)
      | (with_reducible exact ih4 _ _ _ _ _ _)
      | (with_reducible exact ih5 _ _ _ _ _ _ _)
      | (with_reducible exact carrefourlaw18_told.mono _)
      | (with_reducible exact shift_Again.mono _ _)
      | (with_reducible exact shift_Next.mono _ _ _)
      | (with_reducible exact LeO.refl _)
      | (with_reducible exact LeO.none _)
      | (with_reducible refine LeO.ite ?_ ?_)
      | (with_reducible refine LeO.bind ?_ (fun _ => ?_))
      | exact ih0 _ _ _ _ _
      | exact ih1 _ _ _ _ _ _
      | exact ih2 _ _ _ _ _ _ _
      | exact ih3 _ _ _ _ _ _
      | exact ih4 _ _ _ _ _ _
      | exact ih5 _ _ _ _ _ _ _
      | exact carrefourlaw18_told.mono _
      | exact shift_Again.mono _ _
      | exact shift_Next.mono _ _ _
      | exact LeO.none _
      | refine LeO.ite ?_ ?_
      | refine LeO.bind ?_ (fun _ => ?_)
    · intro y0 y1 y2 y3 y4 y5
      unfold carrefourlaw18_ShiftWays.j1
      repeat' first
      | (with_reducible exact ih0 _ _ _ _ _)
      | (with_reducible exact ih1 _ _ _ _ _ _)
      | (with_reducible exact ih2 _ _ _ _ _ _ _)
      | (with_reducible exact ih3 _ _ _ _ _ _)
      | (with_reducible exact ih4 _ _ _ _ _ _)
      | (with_reducible exact ih5 _ _ _ _ _ _ _)
      | (with_reducible exact carrefourlaw18_told.mono _)
      | (with_reducible exact shift_Again.mono _ _)
      | (with_reducible exact shift_Next.mono _ _ _)
      | (with_reducible exact LeO.refl _)
      | (with_reducible exact LeO.none _)
      | (with_reducible refine LeO.ite ?_ ?_)
      | (with_reducible refine LeO.bind ?_ (fun _ => ?_))
      | exact ih0 _ _ _ _ _
      | exact ih1 _ _ _ _ _ _
      | exact ih2 _ _ _ _ _ _ _
      | exact ih3 _ _ _ _ _ _
      | exact ih4 _ _ _ _ _ _
      | exact ih5 _ _ _ _ _ _ _
      | exact carrefourlaw18_told.mono _
      | exact shift_Again.mono _ _
      | exact shift_Next.mono _ _ _
      | exact LeO.none _
      | refine LeO.ite ?_ ?_
      | refine LeO.bind ?_ (fun _ => ?_)
    · intro y0 y1 y2 y3 y4 y5 y6
      unfold carrefourlaw18_ShiftWays.j2
      repeat' first
      | (with_reducible exact ih0 _ _ _ _ _)
      | (with_reducible exact ih1 _ _ _ _ _ _)
      | (with_reducible exact ih2 _ _ _ _ _ _ _)
      | (with_reducible exact ih3 _ _ _ _ _ _)
      | (with_reducible exact ih4 _ _ _ _ _ _)
      | (with_reducible exact ih5 _ _ _ _ _ _ _)
      | (with_reducible exact carrefourlaw18_told.mono _)
      | (with_reducible exact shift_Again.mono _ _)
      | (with_reducible exact shift_Next.mono _ _ _)
      | (with_reducible exact LeO.refl _)
      | (with_reducible exact LeO.none _)
      | (with_reducible refine LeO.ite ?_ ?_)
      | (with_reducible refine LeO.bind ?_ (fun _ => ?_))
      | exact ih0 _ _ _ _ _
      | exact ih1 _ _ _ _ _ _
      | exact ih2 _ _ _ _ _ _ _
      | exact ih3 _ _ _ _ _ _
      | exact ih4 _ _ _ _ _ _
      | exact ih5 _ _ _ _ _ _ _
      | exact carrefourlaw18_told.mono _
      | exact shift_Again.mono _ _
      | exact shift_Next.mono _ _ _
      | exact LeO.none _
      | refine LeO.ite ?_ ?_
      | refine LeO.bind ?_ (fun _ => ?_)
    · intro y0 y1 y2 y3 y4 y5
      unfold carrefourlaw18_ShiftWays.j3
      repeat' first
      | (with_reducible exact ih0 _ _ _ _ _)
      | (with_reducible exact ih1 _ _ _ _ _ _)
      | (with_reducible exact ih2 _ _ _ _ _ _ _)
      | (with_reducible exact ih3 _ _ _ _ _ _)
      | (with_reducible exact ih4 _ _ _ _ _ _)
      | (with_reducible exact ih5 _ _ _ _ _ _ _)
      | (with_reducible exact carrefourlaw18_told.mono _)
      | (with_reducible exact shift_Again.mono _ _)
      | (with_reducible exact shift_Next.mono _ _ _)
      | (with_reducible exact LeO.refl _)
      | (with_reducible exact LeO.none _)
      | (with_reducible refine LeO.ite ?_ ?_)
      | (with_reducible refine LeO.bind ?_ (fun _ => ?_))
      | exact ih0 _ _ _ _ _
      | exact ih1 _ _ _ _ _ _
      | exact ih2 _ _ _ _ _ _ _
      | exact ih3 _ _ _ _ _ _
      | exact ih4 _ _ _ _ _ _
      | exact ih5 _ _ _ _ _ _ _
      | exact carrefourlaw18_told.mono _
      | exact shift_Again.mono _ _
      | exact shift_Next.mono _ _ _
      | exact LeO.none _
      | refine LeO.ite ?_ ?_
      | refine LeO.bind ?_ (fun _ => ?_)
    · intro y0 y1 y2 y3 y4 y5
      unfold carrefourlaw18_ShiftWays.j4
      repeat' first
      | (with_reducible exact ih0 _ _ _ _ _)
      | (with_reducible exact ih1 _ _ _ _ _ _)
      | (with_reducible exact ih2 _ _ _ _ _ _ _)
      | (with_reducible exact ih3 _ _ _ _ _ _)
      | (with_reducible exact ih4 _ _ _ _ _ _)
      | (with_reducible exact ih5 _ _ _ _ _ _ _)
      | (with_reducible exact carrefourlaw18_told.mono _)
      | (with_reducible exact shift_Again.mono _ _)
      | (with_reducible exact shift_Next.mono _ _ _)
      | (with_reducible exact LeO.refl _)
      | (with_reducible exact LeO.none _)
      | (with_reducible refine LeO.ite ?_ ?_)
      | (with_reducible refine LeO.bind ?_ (fun _ => ?_))
      | exact ih0 _ _ _ _ _
      | exact ih1 _ _ _ _ _ _
      | exact ih2 _ _ _ _ _ _ _
      | exact ih3 _ _ _ _ _ _
      | exact ih4 _ _ _ _ _ _
      | exact ih5 _ _ _ _ _ _ _
      | exact carrefourlaw18_told.mono _
      | exact shift_Again.mono _ _
      | exact shift_Next.mono _ _ _
      | exact LeO.none _
      | refine LeO.ite ?_ ?_
      | refine LeO.bind ?_ (fun _ => ?_)
    · intro y0 y1 y2 y3 y4 y5 y6
      unfold carrefourlaw18_ShiftWays.j5
      repeat' first
      | (with_reducible exact ih0 _ _ _ _ _)
      | (with_reducible exact ih1 _ _ _ _ _ _)
      | (with_reducible exact ih2 _ _ _ _ _ _ _)
      | (with_reducible exact ih3 _ _ _ _ _ _)
      | (with_reducible exact ih4 _ _ _ _ _ _)
      | (with_reducible exact ih5 _ _ _ _ _ _ _)
      | (with_reducible exact carrefourlaw18_told.mono _)
      | (with_reducible exact shift_Again.mono _ _)
      | (with_reducible exact shift_Next.mono _ _ _)
      | (with_reducible exact LeO.refl _)
      | (with_reducible exact LeO.none _)
      | (with_reducible refine LeO.ite ?_ ?_)
      | (with_reducible refine LeO.bind ?_ (fun _ => ?_))
      | exact ih0 _ _ _ _ _
      | exact ih1 _ _ _ _ _ _
      | exact ih2 _ _ _ _ _ _ _
      | exact ih3 _ _ _ _ _ _
      | exact ih4 _ _ _ _ _ _
      | exact ih5 _ _ _ _ _ _ _
      | exact carrefourlaw18_told.mono _
      | exact shift_Again.mono _ _
      | exact shift_Next.mono _ _ _
      | exact LeO.none _
      | refine LeO.ite ?_ ?_
      | refine LeO.bind ?_ (fun _ => ?_)
theorem carrefourlaw18_ShiftWays.mono : ∀ a0 k, LeO (carrefourlaw18_ShiftWays.f k a0) (carrefourlaw18_ShiftWays.f (k + 1) a0) := by
  intro a0 k
  obtain ⟨ih0, ih1, ih2, ih3, ih4, ih5⟩ := carrefourlaw18_ShiftWays.mono_l k
  unfold carrefourlaw18_ShiftWays.f
  repeat' first
      | (with_reducible exact ih0 _ _ _ _ _)
      | (with_reducible exact ih1 _ _ _ _ _ _)
      | (with_reducible exact ih2 _ _ _ _ _ _ _)
      | (with_reducible exact ih3 _ _ _ _ _ _)
      | (with_reducible exact ih4 _ _ _ _ _ _)
      | (with_reducible exact ih5 _ _ _ _ _ _ _)
      | (with_reducible exact carrefourlaw18_told.mono _)
      | (with_reducible exact shift_Again.mono _ _)
      | (with_reducible exact shift_Next.mono _ _ _)
      | (with_reducible exact LeO.refl _)
      | (with_reducible exact LeO.none _)
      | (with_reducible refine LeO.ite ?_ ?_)
      | (with_reducible refine LeO.bind ?_ (fun _ => ?_))
      | exact ih0 _ _ _ _ _
      | exact ih1 _ _ _ _ _ _
      | exact ih2 _ _ _ _ _ _ _
      | exact ih3 _ _ _ _ _ _
      | exact ih4 _ _ _ _ _ _
      | exact ih5 _ _ _ _ _ _ _
      | exact carrefourlaw18_told.mono _
      | exact shift_Again.mono _ _
      | exact shift_Next.mono _ _ _
      | exact LeO.none _
      | refine LeO.ite ?_ ?_
      | refine LeO.bind ?_ (fun _ => ?_)
set_option maxHeartbeats 8000000 in
set_option maxRecDepth 100000 in
theorem carrefourlaw18_ShiftWays.calls (k : Nat) (A0 : Option Addr) (c0 : Nat) (l0 : List Int) (r : Bool) (w : World) (hr0 : Kd.C (Kd.int .i64) w A0 l0.length l0) (hc0 : l0.length ≤ c0) (h : carrefourlaw18_ShiftWays.f k l0 = some r) :
    Calls Try.prog 4 #[.slice A0 l0.length c0] w fun e w' => e = .returned (.bool r) ∧ Drawn0 w w' := by
  have HR0 := Aside0.mk hr0
  have HC0 := Aside0.mk hc0
  clear hr0 hc0
  have H : (carrefourlaw18_ShiftWays.l1 k l0 0 false false 0) = some r := h
  clear h
  have H' := Aside0.mk H
  clear H
  go_enter Try.func4, Try.ntmps4
  go_wp2
  go_loopg [3, 4, 5, 6] k (fun kq v3 v4 v5 v6 w' => ∃ (x3_1 : Int) (x4_1 : Bool) (x5_1 : Bool) (x6_1 : Int), v3 = .int .i64 x3_1 ∧ v4 = .bool x4_1 ∧ v5 = .bool x5_1 ∧ v6 = .int .i64 x6_1 ∧ Aside0 (carrefourlaw18_ShiftWays.l1 kq l0 x3_1 x4_1 x5_1 x6_1 = some r) ∧ Aside0 (kq ≤ k) ∧ Drawn0 w w')
  case atStart => exact ⟨(0), (false), (false), (0), (by first | rfl | (simp; done) | (simp [*]; done)), (by first | rfl | (simp; done) | (simp [*]; done)), (by first | rfl | (simp; done) | (simp [*]; done)), (by first | rfl | (simp; done) | (simp [*]; done)), H', ⟨Nat.le_refl _⟩, by repeat (first | exact Drawn0.refl _ | apply Drawn0.step)⟩
  case round =>
    clear H'
    obtain ⟨x3_1, x4_1, x5_1, x6_1, rfl, rfl, rfl, rfl, HA, HK1, ⟨m1, rfl⟩⟩ := hrel
    cases gk with
    | zero => exact absurd HA.out (by simp [carrefourlaw18_ShiftWays.l1])
    | succ k1 =>
      have H := HA.out
      clear HA
      simp only [carrefourlaw18_ShiftWays.l1] at H
      have HC2 := Aside0.mk H
      clear H
      go_upto_region 4 with (fail)
      go_cut [16] (fun v16 wc => ∃ (kq : Nat) (x16_1 : Bool), v16 = .bool x16_1 ∧ Aside0 (carrefourlaw18_ShiftWays.j1 kq l0 x3_1 x4_1 x5_1 x6_1 x16_1 = some r) ∧ Aside0 (kq ≤ k1) ∧ Drawn0 w wc)
      case first =>
        have H := HC2.out
        clear HC2
        by_cases c3 : x6_1 < (l0.length : Int)
        · rw [if_pos c3] at H
          have c3b0 : decide (x6_1 < (l0.length : Int)) = true := decide_eq_true c3
          clear c3
          (first | rw [c3b0] | (simp only [i64_w, i32_w]; rw [c3b0]) | skip)
          have H' := Aside0.mk H
          clear H
          go_wp2
          go_meet
          case rel => exact ⟨_, (decide (x6_1 < 100)), (by first | rfl | (simp; done) | (simp [*]; done)), H', ⟨by have := HK1.out; first | omega | exact Nat.le_refl _⟩, by repeat (first | exact Drawn0.refl _ | apply Drawn0.step)⟩
        · rw [if_neg c3] at H
          have c3b0 : decide (x6_1 < (l0.length : Int)) = false := decide_eq_false c3
          clear c3
          (first | rw [c3b0] | (simp only [i64_w, i32_w]; rw [c3b0]) | skip)
          have H' := Aside0.mk H
          clear H
          go_wp2
          go_meet
          case rel => exact ⟨_, (false), (by first | rfl | (simp; done) | (simp [*]; done)), H', ⟨by have := HK1.out; first | omega | exact Nat.le_refl _⟩, by repeat (first | exact Drawn0.refl _ | apply Drawn0.step)⟩
      case rest =>
        clear HC2
        try clear p2
        try clear c3
        try clear c3b0
        obtain ⟨kq, x16_1, rfl, HA, HJ1, ⟨mc1, rfl⟩⟩ := hcut
        cases kq with
        | zero => exact absurd HA.out (by simp [carrefourlaw18_ShiftWays.j1])
        | succ kj1 =>
          have H := HA.out
          clear HA
          simp only [carrefourlaw18_ShiftWays.j1] at H
          by_cases c4 : x16_1 = true
          · subst c4
            have H1 : (if 0 ≤ x6_1 then (if x6_1 < (l0.length : Int) then ((shift_Next.f kj1 x3_1 (wrap64 (1 + (wrap64 (Int.tmod (IntKind.u64.wrap (rd l0 x6_1)) 9))))).bind fun bt145 => ((shift_May.f bt145.1).bind fun t147 => (if t147 = true then ((shift_Over.f x3_1).bind fun t148 => (if t148 = true then (if bt145.1 = x3_1 then (carrefourlaw18_ShiftWays.j2 kj1 l0 x4_1 x5_1 x6_1 bt145.1 bt145.2 (bt145.2 != 0)) else (carrefourlaw18_ShiftWays.j2 kj1 l0 x4_1 x5_1 x6_1 bt145.1 bt145.2 true)) else (carrefourlaw18_ShiftWays.j2 kj1 l0 x4_1 x5_1 x6_1 bt145.1 bt145.2 false))) else (carrefourlaw18_ShiftWays.j2 kj1 l0 x4_1 x5_1 x6_1 bt145.1 bt145.2 true)))) else (none)) else (none)) = some r := by rw [if_pos rfl] at H; exact H
            clear H
            have H := H1
            clear H1
            by_cases c5 : 0 ≤ x6_1
            · rw [if_pos c5] at H
              have c5b0 : decide (0 ≤ x6_1) = true := decide_eq_true c5
              clear c5
              by_cases c6 : x6_1 < (l0.length : Int)
              · rw [if_pos c6] at H
                have c6b0 : decide (x6_1 < (l0.length : Int)) = true := decide_eq_true c6
                clear c6
                replace H := Option.bind_eq_some_iff.mp H
                obtain ⟨⟨t145, t146⟩, A70, H⟩ := H
                replace H : ((shift_May.f t145).bind fun t147 => (if t147 = true then ((shift_Over.f x3_1).bind fun t148 => (if t148 = true then (if t145 = x3_1 then (carrefourlaw18_ShiftWays.j2 kj1 l0 x4_1 x5_1 x6_1 t145 t146 (t146 != 0)) else (carrefourlaw18_ShiftWays.j2 kj1 l0 x4_1 x5_1 x6_1 t145 t146 true)) else (carrefourlaw18_ShiftWays.j2 kj1 l0 x4_1 x5_1 x6_1 t145 t146 false))) else (carrefourlaw18_ShiftWays.j2 kj1 l0 x4_1 x5_1 x6_1 t145 t146 true))) = some r := H
                have A7 := Aside0.mk A70
                clear A70
                have HC8 := Aside0.mk H
                clear H
                have p144 : 0 ≤ (x6_1 : Int) := of_decide_eq_true (by first | (with_reducible assumption) | assumption)
                have q144 : x6_1 < (l0.length : Int) := of_decide_eq_true (by first | (with_reducible assumption) | assumption)
                obtain ⟨ad144, e144, hx144_0⟩ := Kd.at_int HR0.out x6_1 p144 q144
                cases e144
                replace p144 := eq_true p144
                replace q144 := eq_true q144
                go_upto_region 7 with (first | ((with_reducible refine gate_callee (f := 8) rfl ?_); refine goesL_ (some 29) rfl rfl Try.func8 (by kernel_rfl) rfl #[.int .i64 x3_1, .int .i64 (wrap64 (1 + (wrap64 (Int.tmod (IntKind.u64.wrap (rd l0 x6_1)) 9))))] rfl (by (try simp only [List.map_toArray, List.map_cons, List.map_nil]); first | done | rfl | (simp only [List.length_drop, List.length_take]; rfl)) ?_; (with_reducible refine (shift_Next.calls kj1 x3_1 (wrap64 (1 + (wrap64 (Int.tmod (IntKind.u64.wrap (rd l0 x6_1)) 9)))) t145 t146 _ A7.out).mono ?_); rintro e w' ⟨rfl, ⟨nd, rfl⟩⟩; refine ⟨_, rfl, ?_⟩))
                (try simp only [Act.put, List.setIfInBounds_toArray, List.set_cons_zero, List.set_cons_succ])
                go_cut [47] (fun v47 wc => ∃ (kq : Nat) (x47_7 : Bool), v47 = .bool x47_7 ∧ Aside0 (carrefourlaw18_ShiftWays.j2 kq l0 x4_1 x5_1 x6_1 t145 t146 x47_7 = some r) ∧ Aside0 (kq ≤ kj1) ∧ Drawn0 w wc)
                case first =>
                  have H := HC8.out
                  clear HC8
                  replace H := Option.bind_eq_some_iff.mp H
                  obtain ⟨t147, A90, H⟩ := H
                  replace H : (if t147 = true then ((shift_Over.f x3_1).bind fun t148 => (if t148 = true then (if t145 = x3_1 then (carrefourlaw18_ShiftWays.j2 kj1 l0 x4_1 x5_1 x6_1 t145 t146 (t146 != 0)) else (carrefourlaw18_ShiftWays.j2 kj1 l0 x4_1 x5_1 x6_1 t145 t146 true)) else (carrefourlaw18_ShiftWays.j2 kj1 l0 x4_1 x5_1 x6_1 t145 t146 false))) else (carrefourlaw18_ShiftWays.j2 kj1 l0 x4_1 x5_1 x6_1 t145 t146 true)) = some r := H
                  have A9 := Aside0.mk A90
                  clear A90
                  by_cases c10 : t147 = true
                  · subst c10
                    have H1 : ((shift_Over.f x3_1).bind fun t148 => (if t148 = true then (if t145 = x3_1 then (carrefourlaw18_ShiftWays.j2 kj1 l0 x4_1 x5_1 x6_1 t145 t146 (t146 != 0)) else (carrefourlaw18_ShiftWays.j2 kj1 l0 x4_1 x5_1 x6_1 t145 t146 true)) else (carrefourlaw18_ShiftWays.j2 kj1 l0 x4_1 x5_1 x6_1 t145 t146 false))) = some r := by rw [if_pos rfl] at H; exact H
                    clear H
                    have H := H1
                    clear H1
                    replace H := Option.bind_eq_some_iff.mp H
                    obtain ⟨t148, A110, H⟩ := H
                    replace H : (if t148 = true then (if t145 = x3_1 then (carrefourlaw18_ShiftWays.j2 kj1 l0 x4_1 x5_1 x6_1 t145 t146 (t146 != 0)) else (carrefourlaw18_ShiftWays.j2 kj1 l0 x4_1 x5_1 x6_1 t145 t146 true)) else (carrefourlaw18_ShiftWays.j2 kj1 l0 x4_1 x5_1 x6_1 t145 t146 false)) = some r := H
                    have A11 := Aside0.mk A110
                    clear A110
                    by_cases c12 : t148 = true
                    · subst c12
                      have H1 : (if t145 = x3_1 then (carrefourlaw18_ShiftWays.j2 kj1 l0 x4_1 x5_1 x6_1 t145 t146 (t146 != 0)) else (carrefourlaw18_ShiftWays.j2 kj1 l0 x4_1 x5_1 x6_1 t145 t146 true)) = some r := by rw [if_pos rfl] at H; exact H
                      clear H
                      have H := H1
                      clear H1
                      by_cases c13 : t145 = x3_1
                      · rw [if_pos c13] at H
                        have c13b0 : (t145 == x3_1) = true := beq_iff_eq.mpr c13
                        have c13b1 : (t145 != x3_1) = false := bne_eq_false_iff_eq.mpr c13
                        clear c13
                        (first | rw [c13b0] | (simp only [i64_w, i32_w]; rw [c13b0]) | skip)
                        have H' := Aside0.mk H
                        clear H
                        go_wp2_with (first | ((with_reducible refine gate_callee (f := 11) rfl ?_); refine goesL_ (some 33) rfl rfl Try.func11 (by kernel_rfl) rfl #[.int .i64 t145] rfl (by (try simp only [List.map_toArray, List.map_cons, List.map_nil]); first | done | rfl | (simp only [List.length_drop, List.length_take]; rfl)) ?_; (with_reducible refine (shift_May.calls t145 true _ A9.out).mono ?_); rintro e w' ⟨rfl, ⟨nd, rfl⟩⟩; refine ⟨_, rfl, ?_⟩) | (go_at_call 15; (with_reducible refine (shift_Over.calls x3_1 true _ A11.out).mono ?_); rintro e w' ⟨rfl, ⟨nd, rfl⟩⟩))
                        go_meet
                        case rel => exact ⟨_, ((t146 != 0)), (by first | rfl | (simp; done) | (simp [*]; done)), H', ⟨by have := HK1.out; have := HJ1.out; first | omega | exact Nat.le_refl _⟩, by repeat (first | exact Drawn0.refl _ | apply Drawn0.step)⟩
                      · rw [if_neg c13] at H
                        have c13b0 : (t145 == x3_1) = false := beq_eq_false_iff_ne.mpr c13
                        have c13b1 : (t145 != x3_1) = true := bne_iff_ne.mpr c13
                        (first | rw [c13b0] | (simp only [i64_w, i32_w]; rw [c13b0]) | skip)
                        have H' := Aside0.mk H
                        clear H
                        go_wp2_with (first | ((with_reducible refine gate_callee (f := 11) rfl ?_); refine goesL_ (some 33) rfl rfl Try.func11 (by kernel_rfl) rfl #[.int .i64 t145] rfl (by (try simp only [List.map_toArray, List.map_cons, List.map_nil]); first | done | rfl | (simp only [List.length_drop, List.length_take]; rfl)) ?_; (with_reducible refine (shift_May.calls t145 true _ A9.out).mono ?_); rintro e w' ⟨rfl, ⟨nd, rfl⟩⟩; refine ⟨_, rfl, ?_⟩) | (go_at_call 15; (with_reducible refine (shift_Over.calls x3_1 true _ A11.out).mono ?_); rintro e w' ⟨rfl, ⟨nd, rfl⟩⟩))
                        go_meet
                        case rel => exact ⟨_, (true), (by first | rfl | (simp; done) | (simp [*]; done)), H', ⟨by have := HK1.out; have := HJ1.out; first | omega | exact Nat.le_refl _⟩, by repeat (first | exact Drawn0.refl _ | apply Drawn0.step)⟩
                    · replace c12 := Bool.eq_false_iff.mpr c12
                      subst c12
                      have H1 : (carrefourlaw18_ShiftWays.j2 kj1 l0 x4_1 x5_1 x6_1 t145 t146 false) = some r := by rw [if_neg (show ¬ (false = true) by decide)] at H; exact H
                      clear H
                      have H := H1
                      clear H1
                      have H' := Aside0.mk H
                      clear H
                      go_wp2_with (first | ((with_reducible refine gate_callee (f := 11) rfl ?_); refine goesL_ (some 33) rfl rfl Try.func11 (by kernel_rfl) rfl #[.int .i64 t145] rfl (by (try simp only [List.map_toArray, List.map_cons, List.map_nil]); first | done | rfl | (simp only [List.length_drop, List.length_take]; rfl)) ?_; (with_reducible refine (shift_May.calls t145 true _ A9.out).mono ?_); rintro e w' ⟨rfl, ⟨nd, rfl⟩⟩; refine ⟨_, rfl, ?_⟩) | (go_at_call 15; (with_reducible refine (shift_Over.calls x3_1 false _ A11.out).mono ?_); rintro e w' ⟨rfl, ⟨nd, rfl⟩⟩))
                      go_meet
                      case rel => exact ⟨_, (false), (by first | rfl | (simp; done) | (simp [*]; done)), H', ⟨by have := HK1.out; have := HJ1.out; first | omega | exact Nat.le_refl _⟩, by repeat (first | exact Drawn0.refl _ | apply Drawn0.step)⟩
                  · replace c10 := Bool.eq_false_iff.mpr c10
                    subst c10
                    have H1 : (carrefourlaw18_ShiftWays.j2 kj1 l0 x4_1 x5_1 x6_1 t145 t146 true) = some r := by rw [if_neg (show ¬ (false = true) by decide)] at H; exact H
                    clear H
                    have H := H1
                    clear H1
                    have H' := Aside0.mk H
                    clear H
                    go_wp2_with (first | ((with_reducible refine gate_callee (f := 11) rfl ?_); refine goesL_ (some 33) rfl rfl Try.func11 (by kernel_rfl) rfl #[.int .i64 t145] rfl (by (try simp only [List.map_toArray, List.map_cons, List.map_nil]); first | done | rfl | (simp only [List.length_drop, List.length_take]; rfl)) ?_; (with_reducible refine (shift_May.calls t145 false _ A9.out).mono ?_); rintro e w' ⟨rfl, ⟨nd, rfl⟩⟩; refine ⟨_, rfl, ?_⟩))
                    go_meet
                    case rel => exact ⟨_, (true), (by first | rfl | (simp; done) | (simp [*]; done)), H', ⟨by have := HK1.out; have := HJ1.out; first | omega | exact Nat.le_refl _⟩, by repeat (first | exact Drawn0.refl _ | apply Drawn0.step)⟩
                case rest =>
                  clear HC8
                  try clear c1
                  try clear p1
                  try clear q1
                  try clear hx1
                  try clear p2
                  try clear c3
                  try clear c3b0
                  try clear c4
                  try clear c5
                  try clear c5b0
                  try clear c6
                  try clear c6b0
                  try clear p6
                  try clear c8
                  try clear c10
                  try clear c11
                  try clear c12
                  try clear c13
                  try clear c13b0
                  try clear c13b1
                  try clear hx144_0
                  try clear p144
                  try clear p2
                  try clear q144
                  obtain ⟨kq, x47_7, rfl, HA, HJ7, ⟨mc7, rfl⟩⟩ := hcut
                  cases kq with
                  | zero => exact absurd HA.out (by simp [carrefourlaw18_ShiftWays.j2])
                  | succ kj7 =>
                    have H := HA.out
                    clear HA
                    simp only [carrefourlaw18_ShiftWays.j2] at H
                    by_cases c14 : x47_7 = true
                    · subst c14
                      have H1 : (some false) = some r := by rw [if_pos rfl] at H; exact H
                      clear H
                      have H := H1
                      clear H1
                      obtain rfl := Option.some.inj H
                      go_wp2
                      go_ret
                      exact ⟨by first | rfl | (simp; done) | (simp [*]; done), by repeat (first | exact Drawn0.refl _ | apply Drawn0.step)⟩
                    · replace c14 := Bool.eq_false_iff.mpr c14
                      subst c14
                      have H1 : (if x4_1 = true then (carrefourlaw18_ShiftWays.j3 kj7 l0 true x5_1 x6_1 t145 t146) else (carrefourlaw18_ShiftWays.j3 kj7 l0 (t145 == 5) x5_1 x6_1 t145 t146)) = some r := by rw [if_neg (show ¬ (false = true) by decide)] at H; exact H
                      clear H
                      have H := H1
                      clear H1
                      have HC15 := Aside0.mk H
                      clear H
                      go_upto_region 9 with (fail)
                      go_cut [4] (fun v4 wc => ∃ (kq : Nat) (x4_14 : Bool), v4 = .bool x4_14 ∧ Aside0 (carrefourlaw18_ShiftWays.j3 kq l0 x4_14 x5_1 x6_1 t145 t146 = some r) ∧ Aside0 (kq ≤ kj7) ∧ Drawn0 w wc)
                      case first =>
                        have H := HC15.out
                        clear HC15
                        by_cases c16 : x4_1 = true
                        · subst c16
                          have H1 : (carrefourlaw18_ShiftWays.j3 kj7 l0 true x5_1 x6_1 t145 t146) = some r := by rw [if_pos rfl] at H; exact H
                          clear H
                          have H := H1
                          clear H1
                          have H' := Aside0.mk H
                          clear H
                          go_wp2
                          go_meet
                          case rel => exact ⟨_, (true), (by first | rfl | (simp; done) | (simp [*]; done)), H', ⟨by have := HK1.out; have := HJ1.out; have := HJ7.out; first | omega | exact Nat.le_refl _⟩, by repeat (first | exact Drawn0.refl _ | apply Drawn0.step)⟩
                        · replace c16 := Bool.eq_false_iff.mpr c16
                          subst c16
                          have H1 : (carrefourlaw18_ShiftWays.j3 kj7 l0 (t145 == 5) x5_1 x6_1 t145 t146) = some r := by rw [if_neg (show ¬ (false = true) by decide)] at H; exact H
                          clear H
                          have H := H1
                          clear H1
                          have H' := Aside0.mk H
                          clear H
                          go_wp2
                          go_meet
                          case rel => exact ⟨_, ((t145 == 5)), (by first | rfl | (simp; done) | (simp [*]; done)), H', ⟨by have := HK1.out; have := HJ1.out; have := HJ7.out; first | omega | exact Nat.le_refl _⟩, by repeat (first | exact Drawn0.refl _ | apply Drawn0.step)⟩
                      case rest =>
                        clear HC15
                        try clear c1
                        try clear p1
                        try clear q1
                        try clear hx1
                        try clear p2
                        try clear c3
                        try clear c3b0
                        try clear c4
                        try clear c5
                        try clear c5b0
                        try clear c6
                        try clear c6b0
                        try clear p6
                        try clear c7
                        try clear c8
                        try clear c10
                        try clear c11
                        try clear c12
                        try clear c13
                        try clear c13b0
                        try clear c13b1
                        try clear c14
                        try clear p14
                        try clear q14
                        try clear hx14
                        try clear c16
                        try clear hx144_0
                        try clear p1
                        try clear p144
                        try clear p2
                        try clear p6
                        try clear q1
                        try clear q144
                        obtain ⟨kq, x4_14, rfl, HA, HJ14, ⟨mc14, rfl⟩⟩ := hcut
                        cases kq with
                        | zero => exact absurd HA.out (by simp [carrefourlaw18_ShiftWays.j3])
                        | succ kj14 =>
                          have H := HA.out
                          clear HA
                          simp only [carrefourlaw18_ShiftWays.j3] at H
                          have HC17 := Aside0.mk H
                          clear H
                          go_upto_region 10 with (fail)
                          go_cut [5] (fun v5 wc => ∃ (kq : Nat) (x5_16 : Bool), v5 = .bool x5_16 ∧ Aside0 (carrefourlaw18_ShiftWays.j4 kq l0 x4_14 x5_16 x6_1 t145 t146 = some r) ∧ Aside0 (kq ≤ kj14) ∧ Drawn0 w wc)
                          case first =>
                            have H := HC17.out
                            clear HC17
                            by_cases c18 : x5_1 = true
                            · subst c18
                              have H1 : (carrefourlaw18_ShiftWays.j4 kj14 l0 x4_14 true x6_1 t145 t146) = some r := by rw [if_pos rfl] at H; exact H
                              clear H
                              have H := H1
                              clear H1
                              have H' := Aside0.mk H
                              clear H
                              go_wp2
                              go_meet
                              case rel => exact ⟨_, (true), (by first | rfl | (simp; done) | (simp [*]; done)), H', ⟨by have := HK1.out; have := HJ1.out; have := HJ7.out; have := HJ14.out; first | omega | exact Nat.le_refl _⟩, by repeat (first | exact Drawn0.refl _ | apply Drawn0.step)⟩
                            · replace c18 := Bool.eq_false_iff.mpr c18
                              subst c18
                              have H1 : (carrefourlaw18_ShiftWays.j4 kj14 l0 x4_14 (t145 == 8) x6_1 t145 t146) = some r := by rw [if_neg (show ¬ (false = true) by decide)] at H; exact H
                              clear H
                              have H := H1
                              clear H1
                              have H' := Aside0.mk H
                              clear H
                              go_wp2
                              go_meet
                              case rel => exact ⟨_, ((t145 == 8)), (by first | rfl | (simp; done) | (simp [*]; done)), H', ⟨by have := HK1.out; have := HJ1.out; have := HJ7.out; have := HJ14.out; first | omega | exact Nat.le_refl _⟩, by repeat (first | exact Drawn0.refl _ | apply Drawn0.step)⟩
                          case rest =>
                            clear HC17
                            try clear c1
                            try clear p1
                            try clear q1
                            try clear hx1
                            try clear p2
                            try clear c3
                            try clear c3b0
                            try clear c4
                            try clear c5
                            try clear c5b0
                            try clear c6
                            try clear c6b0
                            try clear p6
                            try clear c7
                            try clear c8
                            try clear c10
                            try clear c11
                            try clear c12
                            try clear c13
                            try clear c13b0
                            try clear c13b1
                            try clear c14
                            try clear p14
                            try clear q14
                            try clear hx14
                            try clear c16
                            try clear c18
                            try clear hx144_0
                            try clear p1
                            try clear p14
                            try clear p144
                            try clear p2
                            try clear p6
                            try clear q1
                            try clear q14
                            try clear q144
                            obtain ⟨kq, x5_16, rfl, HA, HJ16, ⟨mc16, rfl⟩⟩ := hcut
                            cases kq with
                            | zero => exact absurd HA.out (by simp [carrefourlaw18_ShiftWays.j4])
                            | succ kj16 =>
                              have H := HA.out
                              clear HA
                              simp only [carrefourlaw18_ShiftWays.j4] at H
                              have HC19 := Aside0.mk H
                              clear H
                              go_upto_region 11 with (fail)
                              go_cut [84] (fun v84 wc => ∃ (kq : Nat) (x84_18 : Bool), v84 = .bool x84_18 ∧ Aside0 (carrefourlaw18_ShiftWays.j5 kq l0 x4_14 x5_16 x6_1 t145 t146 x84_18 = some r) ∧ Aside0 (kq ≤ kj16) ∧ Drawn0 w wc)
                              case first =>
                                have H := HC19.out
                                clear HC19
                                by_cases c20 : x4_14 = true
                                · subst c20
                                  have H1 : (if x5_16 = true then (carrefourlaw18_ShiftWays.j5 kj16 l0 true x5_16 x6_1 t145 t146 true) else ((shift_Safe.f t145).bind fun t149 => (if t149 = true then (carrefourlaw18_ShiftWays.j5 kj16 l0 true x5_16 x6_1 t145 t146 true) else (if t145 = 7 then (if t145 = 9 then (carrefourlaw18_ShiftWays.j5 kj16 l0 true x5_16 x6_1 t145 t146 (!x5_16)) else (carrefourlaw18_ShiftWays.j5 kj16 l0 true x5_16 x6_1 t145 t146 false)) else (if t145 = 9 then (carrefourlaw18_ShiftWays.j5 kj16 l0 true x5_16 x6_1 t145 t146 (!x5_16)) else (carrefourlaw18_ShiftWays.j5 kj16 l0 true x5_16 x6_1 t145 t146 false)))))) = some r := by rw [if_pos rfl] at H; exact H
                                  clear H
                                  have H := H1
                                  clear H1
                                  by_cases c21 : x5_16 = true
                                  · subst c21
                                    have H1 : (carrefourlaw18_ShiftWays.j5 kj16 l0 true true x6_1 t145 t146 true) = some r := by rw [if_pos rfl] at H; exact H
                                    clear H
                                    have H := H1
                                    clear H1
                                    have H' := Aside0.mk H
                                    clear H
                                    go_wp2
                                    go_meet
                                    case rel => exact ⟨_, (true), (by first | rfl | (simp; done) | (simp [*]; done)), H', ⟨by have := HK1.out; have := HJ1.out; have := HJ7.out; have := HJ14.out; have := HJ16.out; first | omega | exact Nat.le_refl _⟩, by repeat (first | exact Drawn0.refl _ | apply Drawn0.step)⟩
                                  · replace c21 := Bool.eq_false_iff.mpr c21
                                    subst c21
                                    have H1 : ((shift_Safe.f t145).bind fun t149 => (if t149 = true then (carrefourlaw18_ShiftWays.j5 kj16 l0 true false x6_1 t145 t146 true) else (if t145 = 7 then (if t145 = 9 then (carrefourlaw18_ShiftWays.j5 kj16 l0 true false x6_1 t145 t146 (!false)) else (carrefourlaw18_ShiftWays.j5 kj16 l0 true false x6_1 t145 t146 false)) else (if t145 = 9 then (carrefourlaw18_ShiftWays.j5 kj16 l0 true false x6_1 t145 t146 (!false)) else (carrefourlaw18_ShiftWays.j5 kj16 l0 true false x6_1 t145 t146 false))))) = some r := by rw [if_neg (show ¬ (false = true) by decide)] at H; exact H
                                    clear H
                                    have H := H1
                                    clear H1
                                    replace H := Option.bind_eq_some_iff.mp H
                                    obtain ⟨t149, A220, H⟩ := H
                                    replace H : (if t149 = true then (carrefourlaw18_ShiftWays.j5 kj16 l0 true false x6_1 t145 t146 true) else (if t145 = 7 then (if t145 = 9 then (carrefourlaw18_ShiftWays.j5 kj16 l0 true false x6_1 t145 t146 (!false)) else (carrefourlaw18_ShiftWays.j5 kj16 l0 true false x6_1 t145 t146 false)) else (if t145 = 9 then (carrefourlaw18_ShiftWays.j5 kj16 l0 true false x6_1 t145 t146 (!false)) else (carrefourlaw18_ShiftWays.j5 kj16 l0 true false x6_1 t145 t146 false)))) = some r := H
                                    have A22 := Aside0.mk A220
                                    clear A220
                                    by_cases c23 : t149 = true
                                    · subst c23
                                      have H1 : (carrefourlaw18_ShiftWays.j5 kj16 l0 true false x6_1 t145 t146 true) = some r := by rw [if_pos rfl] at H; exact H
                                      clear H
                                      have H := H1
                                      clear H1
                                      have H' := Aside0.mk H
                                      clear H
                                      go_wp2_with (first | (go_at_call 17; (with_reducible refine (shift_Safe.calls t145 true _ A22.out).mono ?_); rintro e w' ⟨rfl, ⟨nd, rfl⟩⟩))
                                      go_meet
                                      case rel => exact ⟨_, (true), (by first | rfl | (simp; done) | (simp [*]; done)), H', ⟨by have := HK1.out; have := HJ1.out; have := HJ7.out; have := HJ14.out; have := HJ16.out; first | omega | exact Nat.le_refl _⟩, by repeat (first | exact Drawn0.refl _ | apply Drawn0.step)⟩
                                    · replace c23 := Bool.eq_false_iff.mpr c23
                                      subst c23
                                      have H1 : (if t145 = 7 then (if t145 = 9 then (carrefourlaw18_ShiftWays.j5 kj16 l0 true false x6_1 t145 t146 (!false)) else (carrefourlaw18_ShiftWays.j5 kj16 l0 true false x6_1 t145 t146 false)) else (if t145 = 9 then (carrefourlaw18_ShiftWays.j5 kj16 l0 true false x6_1 t145 t146 (!false)) else (carrefourlaw18_ShiftWays.j5 kj16 l0 true false x6_1 t145 t146 false))) = some r := by rw [if_neg (show ¬ (false = true) by decide)] at H; exact H
                                      clear H
                                      have H := H1
                                      clear H1
                                      by_cases c24 : t145 = 7
                                      · rw [if_pos c24] at H
                                        have c24b0 : (t145 == 7) = true := beq_iff_eq.mpr c24
                                        have c24b1 : (t145 != 7) = false := bne_eq_false_iff_eq.mpr c24
                                        clear c24
                                        (first | rw [c24b0] | (simp only [i64_w, i32_w]; rw [c24b0]) | skip)
                                        by_cases c25 : t145 = 9
                                        · rw [if_pos c25] at H
                                          have c25b0 : (t145 == 9) = true := beq_iff_eq.mpr c25
                                          have c25b1 : (t145 != 9) = false := bne_eq_false_iff_eq.mpr c25
                                          clear c25
                                          have H' := Aside0.mk H
                                          clear H
                                          go_wp2_with (first | (go_at_call 17; (with_reducible refine (shift_Safe.calls t145 false _ A22.out).mono ?_); rintro e w' ⟨rfl, ⟨nd, rfl⟩⟩))
                                          go_meet
                                          case rel => exact ⟨_, (!false), (by first | rfl | (simp; done) | (simp [*]; done)), H', ⟨by have := HK1.out; have := HJ1.out; have := HJ7.out; have := HJ14.out; have := HJ16.out; first | omega | exact Nat.le_refl _⟩, by repeat (first | exact Drawn0.refl _ | apply Drawn0.step)⟩
                                        · rw [if_neg c25] at H
                                          have c25b0 : (t145 == 9) = false := beq_eq_false_iff_ne.mpr c25
                                          have c25b1 : (t145 != 9) = true := bne_iff_ne.mpr c25
                                          have H' := Aside0.mk H
                                          clear H
                                          go_wp2_with (first | (go_at_call 17; (with_reducible refine (shift_Safe.calls t145 false _ A22.out).mono ?_); rintro e w' ⟨rfl, ⟨nd, rfl⟩⟩))
                                          go_meet
                                          case rel => exact ⟨_, (false), (by first | rfl | (simp; done) | (simp [*]; done)), H', ⟨by have := HK1.out; have := HJ1.out; have := HJ7.out; have := HJ14.out; have := HJ16.out; first | omega | exact Nat.le_refl _⟩, by repeat (first | exact Drawn0.refl _ | apply Drawn0.step)⟩
                                      · rw [if_neg c24] at H
                                        have c24b0 : (t145 == 7) = false := beq_eq_false_iff_ne.mpr c24
                                        have c24b1 : (t145 != 7) = true := bne_iff_ne.mpr c24
                                        (first | rw [c24b0] | (simp only [i64_w, i32_w]; rw [c24b0]) | skip)
                                        by_cases c26 : t145 = 9
                                        · rw [if_pos c26] at H
                                          have c26b0 : (t145 == 9) = true := beq_iff_eq.mpr c26
                                          have c26b1 : (t145 != 9) = false := bne_eq_false_iff_eq.mpr c26
                                          clear c26
                                          have H' := Aside0.mk H
                                          clear H
                                          go_wp2_with (first | (go_at_call 17; (with_reducible refine (shift_Safe.calls t145 false _ A22.out).mono ?_); rintro e w' ⟨rfl, ⟨nd, rfl⟩⟩))
                                          go_meet
                                          case rel => exact ⟨_, (!false), (by first | rfl | (simp; done) | (simp [*]; done)), H', ⟨by have := HK1.out; have := HJ1.out; have := HJ7.out; have := HJ14.out; have := HJ16.out; first | omega | exact Nat.le_refl _⟩, by repeat (first | exact Drawn0.refl _ | apply Drawn0.step)⟩
                                        · rw [if_neg c26] at H
                                          have c26b0 : (t145 == 9) = false := beq_eq_false_iff_ne.mpr c26
                                          have c26b1 : (t145 != 9) = true := bne_iff_ne.mpr c26
                                          have H' := Aside0.mk H
                                          clear H
                                          go_wp2_with (first | (go_at_call 17; (with_reducible refine (shift_Safe.calls t145 false _ A22.out).mono ?_); rintro e w' ⟨rfl, ⟨nd, rfl⟩⟩))
                                          go_meet
                                          case rel => exact ⟨_, (false), (by first | rfl | (simp; done) | (simp [*]; done)), H', ⟨by have := HK1.out; have := HJ1.out; have := HJ7.out; have := HJ14.out; have := HJ16.out; first | omega | exact Nat.le_refl _⟩, by repeat (first | exact Drawn0.refl _ | apply Drawn0.step)⟩
                                · replace c20 := Bool.eq_false_iff.mpr c20
                                  subst c20
                                  have H1 : (if t145 = 7 then (carrefourlaw18_ShiftWays.j5 kj16 l0 false x5_16 x6_1 t145 t146 true) else (if t145 = 9 then (carrefourlaw18_ShiftWays.j5 kj16 l0 false x5_16 x6_1 t145 t146 (!x5_16)) else (carrefourlaw18_ShiftWays.j5 kj16 l0 false x5_16 x6_1 t145 t146 false))) = some r := by rw [if_neg (show ¬ (false = true) by decide)] at H; exact H
                                  clear H
                                  have H := H1
                                  clear H1
                                  by_cases c27 : t145 = 7
                                  · rw [if_pos c27] at H
                                    have c27b0 : (t145 == 7) = true := beq_iff_eq.mpr c27
                                    have c27b1 : (t145 != 7) = false := bne_eq_false_iff_eq.mpr c27
                                    clear c27
                                    have H' := Aside0.mk H
                                    clear H
                                    go_wp2
                                    go_meet
                                    case rel => exact ⟨_, (true), (by first | rfl | (simp; done) | (simp [*]; done)), H', ⟨by have := HK1.out; have := HJ1.out; have := HJ7.out; have := HJ14.out; have := HJ16.out; first | omega | exact Nat.le_refl _⟩, by repeat (first | exact Drawn0.refl _ | apply Drawn0.step)⟩
                                  · rw [if_neg c27] at H
                                    have c27b0 : (t145 == 7) = false := beq_eq_false_iff_ne.mpr c27
                                    have c27b1 : (t145 != 7) = true := bne_iff_ne.mpr c27
                                    by_cases c28 : t145 = 9
                                    · rw [if_pos c28] at H
                                      have c28b0 : (t145 == 9) = true := beq_iff_eq.mpr c28
                                      have c28b1 : (t145 != 9) = false := bne_eq_false_iff_eq.mpr c28
                                      clear c28
                                      have H' := Aside0.mk H
                                      clear H
                                      go_wp2
                                      go_meet
                                      case rel => exact ⟨_, (!x5_16), (by first | rfl | (simp; done) | (simp [*]; done)), H', ⟨by have := HK1.out; have := HJ1.out; have := HJ7.out; have := HJ14.out; have := HJ16.out; first | omega | exact Nat.le_refl _⟩, by repeat (first | exact Drawn0.refl _ | apply Drawn0.step)⟩
                                    · rw [if_neg c28] at H
                                      have c28b0 : (t145 == 9) = false := beq_eq_false_iff_ne.mpr c28
                                      have c28b1 : (t145 != 9) = true := bne_iff_ne.mpr c28
                                      have H' := Aside0.mk H
                                      clear H
                                      go_wp2
                                      go_meet
                                      case rel => exact ⟨_, (false), (by first | rfl | (simp; done) | (simp [*]; done)), H', ⟨by have := HK1.out; have := HJ1.out; have := HJ7.out; have := HJ14.out; have := HJ16.out; first | omega | exact Nat.le_refl _⟩, by repeat (first | exact Drawn0.refl _ | apply Drawn0.step)⟩
                              case rest =>
                                clear HC19
                                try clear c1
                                try clear p1
                                try clear q1
                                try clear hx1
                                try clear c2
                                try clear p2
                                try clear c3
                                try clear c3b0
                                try clear c4
                                try clear c5
                                try clear c5b0
                                try clear c6
                                try clear c6b0
                                try clear p6
                                try clear c7
                                try clear c8
                                try clear c10
                                try clear c11
                                try clear c12
                                try clear c13
                                try clear c13b0
                                try clear c13b1
                                try clear c14
                                try clear p14
                                try clear q14
                                try clear hx14
                                try clear c16
                                try clear c18
                                try clear c20
                                try clear c21
                                try clear c23
                                try clear c24
                                try clear c24b0
                                try clear c24b1
                                try clear c25
                                try clear c25b0
                                try clear c25b1
                                try clear c26
                                try clear c26b0
                                try clear c26b1
                                try clear c27
                                try clear c27b0
                                try clear c27b1
                                try clear c28
                                try clear c28b0
                                try clear c28b1
                                try clear hx144_0
                                try clear p1
                                try clear p14
                                try clear p144
                                try clear p2
                                try clear p6
                                try clear q1
                                try clear q14
                                try clear q144
                                obtain ⟨kq, x84_18, rfl, HA, HJ18, ⟨mc18, rfl⟩⟩ := hcut
                                cases kq with
                                | zero => exact absurd HA.out (by simp [carrefourlaw18_ShiftWays.j5])
                                | succ kj18 =>
                                  have H := HA.out
                                  clear HA
                                  simp only [carrefourlaw18_ShiftWays.j5] at H
                                  by_cases c29 : x84_18 = true
                                  · subst c29
                                    have H1 : (some false) = some r := by rw [if_pos rfl] at H; exact H
                                    clear H
                                    have H := H1
                                    clear H1
                                    obtain rfl := Option.some.inj H
                                    go_wp2
                                    go_ret
                                    exact ⟨by first | rfl | (simp; done) | (simp [*]; done), by repeat (first | exact Drawn0.refl _ | apply Drawn0.step)⟩
                                  · replace c29 := Bool.eq_false_iff.mpr c29
                                    subst c29
                                    have H1 : (if t146 = 0 then (carrefourlaw18_ShiftWays.l1 kj18 l0 t145 x4_14 x5_16 (wrap64 (x6_1 + 1))) else ((shift_Again.f kj18 t145).bind fun t150 => (if t146 = t150 then (carrefourlaw18_ShiftWays.l1 kj18 l0 t145 x4_14 x5_16 (wrap64 (x6_1 + 1))) else (some false)))) = some r := by rw [if_neg (show ¬ (false = true) by decide)] at H; exact H
                                    clear H
                                    have H := H1
                                    clear H1
                                    by_cases c30 : t146 = 0
                                    · rw [if_pos c30] at H
                                      have c30b0 : (t146 == 0) = true := beq_iff_eq.mpr c30
                                      have c30b1 : (t146 != 0) = false := bne_eq_false_iff_eq.mpr c30
                                      clear c30
                                      have H' := Aside0.mk H
                                      clear H
                                      go_wp2
                                      go_roundg kj18
                                      case measure => have := HK1.out; have := HJ1.out; have := HJ7.out; have := HJ14.out; have := HJ16.out; have := HJ18.out; omega
                                      case rel => exact ⟨(t145), (x4_14), (x5_16), (wrap64 (x6_1 + 1)), (by first | rfl | (simp; done) | (simp [*]; done)), (by first | rfl | (simp; done) | (simp [*]; done)), (by first | rfl | (simp; done) | (simp [*]; done)), (by first | rfl | (simp; done) | (simp [*]; done)), H', ⟨by have := HK1.out; have := HJ1.out; have := HJ7.out; have := HJ14.out; have := HJ16.out; have := HJ18.out; omega⟩, by repeat (first | exact Drawn0.refl _ | apply Drawn0.step)⟩
                                    · rw [if_neg c30] at H
                                      have c30b0 : (t146 == 0) = false := beq_eq_false_iff_ne.mpr c30
                                      have c30b1 : (t146 != 0) = true := bne_iff_ne.mpr c30
                                      replace H := Option.bind_eq_some_iff.mp H
                                      obtain ⟨t150, A310, H⟩ := H
                                      replace H : (if t146 = t150 then (carrefourlaw18_ShiftWays.l1 kj18 l0 t145 x4_14 x5_16 (wrap64 (x6_1 + 1))) else (some false)) = some r := H
                                      have A31 := Aside0.mk A310
                                      clear A310
                                      by_cases c32 : t146 = t150
                                      · rw [if_pos c32] at H
                                        have c32b0 : (t146 == t150) = true := beq_iff_eq.mpr c32
                                        have c32b1 : (t146 != t150) = false := bne_eq_false_iff_eq.mpr c32
                                        clear c32
                                        have H' := Aside0.mk H
                                        clear H
                                        go_wp2_with (first | (go_at_call 13; (with_reducible refine (shift_Again.calls kj18 t145 t150 _ A31.out).mono ?_); rintro e w' ⟨rfl, ⟨nd, rfl⟩⟩))
                                        go_roundg kj18
                                        case measure => have := HK1.out; have := HJ1.out; have := HJ7.out; have := HJ14.out; have := HJ16.out; have := HJ18.out; omega
                                        case rel => exact ⟨(t145), (x4_14), (x5_16), (wrap64 (x6_1 + 1)), (by first | rfl | (simp; done) | (simp [*]; done)), (by first | rfl | (simp; done) | (simp [*]; done)), (by first | rfl | (simp; done) | (simp [*]; done)), (by first | rfl | (simp; done) | (simp [*]; done)), H', ⟨by have := HK1.out; have := HJ1.out; have := HJ7.out; have := HJ14.out; have := HJ16.out; have := HJ18.out; omega⟩, by repeat (first | exact Drawn0.refl _ | apply Drawn0.step)⟩
                                      · rw [if_neg c32] at H
                                        have c32b0 : (t146 == t150) = false := beq_eq_false_iff_ne.mpr c32
                                        have c32b1 : (t146 != t150) = true := bne_iff_ne.mpr c32
                                        obtain rfl := Option.some.inj H
                                        go_wp2_with (first | (go_at_call 13; (with_reducible refine (shift_Again.calls kj18 t145 t150 _ A31.out).mono ?_); rintro e w' ⟨rfl, ⟨nd, rfl⟩⟩))
                                        go_ret
                                        exact ⟨by first | rfl | (simp; done) | (simp [*]; done), by repeat (first | exact Drawn0.refl _ | apply Drawn0.step)⟩
              · rw [if_neg c6] at H
                exact absurd H (by simp)
            · rw [if_neg c5] at H
              exact absurd H (by simp)
          · replace c4 := Bool.eq_false_iff.mpr c4
            subst c4
            have H1 : ((carrefourlaw18_told.f kj1).bind fun t143 => (some t143)) = some r := by rw [if_neg (show ¬ (false = true) by decide)] at H; exact H
            clear H
            have H := H1
            clear H1
            replace H := Option.bind_eq_some_iff.mp H
            obtain ⟨t143, A330, H⟩ := H
            replace H : (some t143) = some r := H
            have A33 := Aside0.mk A330
            clear A330
            obtain rfl := Option.some.inj H
            go_wp2_with (first | ((with_reducible refine gate_callee (f := 10) rfl ?_); refine goesL_ (some 94) rfl rfl Try.func10 (by kernel_rfl) rfl #[] rfl (by (try simp only [List.map_toArray, List.map_cons, List.map_nil]); first | done | rfl | (simp only [List.length_drop, List.length_take]; rfl)) ?_; (with_reducible refine (carrefourlaw18_told.calls kj1  t143 _ A33.out).mono ?_); rintro e w' ⟨rfl, ⟨nd, rfl⟩⟩; refine ⟨_, rfl, ?_⟩))
            go_ret
            exact ⟨by first | rfl | (simp; done) | (simp [*]; done), by repeat (first | exact Drawn0.refl _ | apply Drawn0.step)⟩

/-- THE ONE PURE STATEMENT of carrefourlaw18_ShiftWays: yours. -/
def carrefourlaw18_ShiftWays.Pure : Prop := ∀ (l0 : List Int), l0.length ≤ maxLen → l0.length * 8 ≤ 140737488351232 → (∀ x ∈ l0, (Lit.int .i64 x).wf = true) → ∃ k, carrefourlaw18_ShiftWays.f k l0 = some true
theorem carrefourlaw18_ShiftWays.walk (P : carrefourlaw18_ShiftWays.Pure) (a0 : Option Addr) (len0 cap0 : Nat) (z0 : List Int) (w : World) (w0 : (a0 = none ∧ len0 = 0 ∧ cap0 = 0 ∧ z0 = []) ∨ ∃ x, a0 = some x ∧ len0 ≤ cap0 ∧ cap0 ≤ maxLen ∧ z0.length = cap0 ∧ (∀ i, i < z0.length → w.cell? (x.add i) = some (.int .i64 (z0.getD i 0))) ∧ ∀ n ∈ z0, (Lit.int .i64 n).wf = true) (y0 : len0 * 8 ≤ 140737488351232) :
    Calls Try.prog 4 #[.slice a0 len0 cap0] w fun e w' => e = .returned (.bool true) ∧ Below w.heap.size w w' := by
  obtain ⟨l0, rfl, hr0, hm0, hw0, hc0⟩ := ReadsInt.ofRowC w0
  obtain ⟨k, h⟩ := P l0 hm0 y0 hw0
  refine (carrefourlaw18_ShiftWays.calls k _ _ l0 true w (Kd.C_of_reads (d := (0 : Int)) (h1 := fun _ => rfl) hr0) hc0 h).mono ?_
  rintro e w' ⟨rfl, hd⟩
  exact ⟨rfl, hd.below⟩

end Go.Proofs.Ytladmbjfnkmlnaa.PGp
