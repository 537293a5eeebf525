-- Written by gprint.py, this session's own program, out of Lean's print of the translation: functions with the same answers, and proofs that the Go code comes to them. Lean checks it all.
import Derived.Test.YtladmbjfnkmlnaaPGpx0
import Derived.Test.YtladmbjfnkmlnaaPGpx1
namespace Go.Proofs.Ytladmbjfnkmlnaa.PGp
open Go.RowKit Go.Proofs.YtladmbjfnkmlnaaW.PrintWords Go.Proofs.YtladmbjfnkmlnaaW.PrintLast Go.Proofs.YtladmbjfnkmlnaaW.PrintMore Go.Proofs.YtladmbjfnkmlnaaG
attribute [local go_sem] max2_int min2_int max_two min_two max_three min_three max_four min_four   -- for this text's walks alone
set_option linter.unusedVariables false
set_option linter.unusedSimpArgs false

attribute [local go_sem high] eqA33
/-! ### shift_late: function 19 -/
def shift_late.j0 : Nat → Int → Int → Bool → Option (Int × Int)
  | 0, _, _, _ => none
  | k + 1, x0, x4, x5 => if x5 = true then (some (8, 6)) else (if x4 = 4 then (some (x0, 4)) else (if x4 = 5 then (some (6, 5)) else (if x4 = 6 then (some (6, 5)) else (some (x0, 0)))))
def shift_late.f (k : Nat) (a0 : Int) : Option (Int × Int) := if a0 = 1 then (shift_late.j0 k a0 a0 (a0 == 1)) else (if a0 = 2 then (shift_late.j0 k a0 a0 (a0 == 2)) else (if a0 = 3 then (shift_late.j0 k a0 a0 (a0 == 3)) else (shift_late.j0 k a0 a0 (a0 == 8))))
theorem shift_late.mono_l : ∀ k, (∀ y0 y1 y2, LeO (shift_late.j0 k y0 y1 y2) (shift_late.j0 (k + 1) y0 y1 y2))
  | 0 => fun _ _ _ r h => by simp [shift_late.j0] at h
  | k + 1 => by
    have ih0 := shift_late.mono_l k
    · intro y0 y1 y2
      unfold shift_late.j0
      repeat' first
      | (with_reducible exact ih0 _ _ _)
      | (with_reducible exact LeO.refl _)
      | (with_reducible exact LeO.none _)
      | (with_reducible refine LeO.ite ?_ ?_)
      | (with_reducible refine LeO.bind ?_ (fun _ => ?_))
      | exact ih0 _ _ _
      | exact LeO.none _
      | refine LeO.ite ?_ ?_
      | refine LeO.bind ?_ (fun _ => ?_)
theorem shift_late.mono : ∀ a0 k, LeO (shift_late.f k a0) (shift_late.f (k + 1) a0) := by
  intro a0 k
  have ih0 := shift_late.mono_l k
  unfold shift_late.f
  repeat' first
      | (with_reducible exact ih0 _ _ _)
      | (with_reducible exact LeO.refl _)
      | (with_reducible exact LeO.none _)
      | (with_reducible refine LeO.ite ?_ ?_)
      | (with_reducible refine LeO.bind ?_ (fun _ => ?_))
      | exact ih0 _ _ _
      | exact LeO.none _
      | refine LeO.ite ?_ ?_
      | refine LeO.bind ?_ (fun _ => ?_)
set_option maxHeartbeats 8000000 in
set_option maxRecDepth 100000 in
theorem shift_late.calls (k : Nat) (a0 : Int) (r1 : Int) (r2 : Int) (w : World) (h : shift_late.f k a0 = some (r1, r2)) :
    Calls Try.prog 19 #[.int .i64 a0] w fun e w' => e = .returned (.tuple #[.int .i64 r1, .int .i64 r2]) ∧ Drawn0 w w' := by
  have H : (if a0 = 1 then (shift_late.j0 k a0 a0 (a0 == 1)) else (if a0 = 2 then (shift_late.j0 k a0 a0 (a0 == 2)) else (if a0 = 3 then (shift_late.j0 k a0 a0 (a0 == 3)) else (shift_late.j0 k a0 a0 (a0 == 8))))) = some (r1, r2) := h
  clear h
  have HC2 := Aside0.mk H
  clear H
  go_enter Try.func19, Try.ntmps19
  go_upto_if 5 with (fail)
  go_cut [5] (fun v5 wc => ∃ (kq : Nat) (x5_1 : Bool), v5 = .bool x5_1 ∧ Aside0 (shift_late.j0 kq a0 a0 x5_1 = some (r1, r2)) ∧ Aside0 (kq ≤ k) ∧ Drawn0 w wc)
  case first =>
    have H := HC2.out
    clear HC2
    by_cases c3 : a0 = 1
    · rw [if_pos c3] at H
      have c3b0 : (a0 == 1) = true := beq_iff_eq.mpr c3
      have c3b1 : (a0 != 1) = false := bne_eq_false_iff_eq.mpr c3
      clear c3
      (first | rw [c3b0] | (simp only [i64_w, i32_w]; rw [c3b0]) | skip)
      have H' := Aside0.mk H
      clear H
      go_wp2
      go_meet
      case rel => exact ⟨_, ((a0 == 1)), (by first | rfl | (simp; done) | (simp [*]; done)), H', ⟨by first | omega | exact Nat.le_refl _⟩, by repeat (first | exact Drawn0.refl _ | apply Drawn0.step)⟩
    · rw [if_neg c3] at H
      have c3b0 : (a0 == 1) = false := beq_eq_false_iff_ne.mpr c3
      have c3b1 : (a0 != 1) = true := bne_iff_ne.mpr c3
      (first | rw [c3b0] | (simp only [i64_w, i32_w]; rw [c3b0]) | skip)
      by_cases c4 : a0 = 2
      · rw [if_pos c4] at H
        have c4b0 : (a0 == 2) = true := beq_iff_eq.mpr c4
        have c4b1 : (a0 != 2) = false := bne_eq_false_iff_eq.mpr c4
        clear c4
        have H' := Aside0.mk H
        clear H
        go_wp2
        go_meet
        case rel => exact ⟨_, ((a0 == 2)), (by first | rfl | (simp; done) | (simp [*]; done)), H', ⟨by first | omega | exact Nat.le_refl _⟩, by repeat (first | exact Drawn0.refl _ | apply Drawn0.step)⟩
      · rw [if_neg c4] at H
        have c4b0 : (a0 == 2) = false := beq_eq_false_iff_ne.mpr c4
        have c4b1 : (a0 != 2) = true := bne_iff_ne.mpr c4
        by_cases c5 : a0 = 3
        · rw [if_pos c5] at H
          have c5b0 : (a0 == 3) = true := beq_iff_eq.mpr c5
          have c5b1 : (a0 != 3) = false := bne_eq_false_iff_eq.mpr c5
          clear c5
          have H' := Aside0.mk H
          clear H
          go_wp2
          go_meet
          case rel => exact ⟨_, ((a0 == 3)), (by first | rfl | (simp; done) | (simp [*]; done)), H', ⟨by first | omega | exact Nat.le_refl _⟩, by repeat (first | exact Drawn0.refl _ | apply Drawn0.step)⟩
        · rw [if_neg c5] at H
          have c5b0 : (a0 == 3) = false := beq_eq_false_iff_ne.mpr c5
          have c5b1 : (a0 != 3) = true := bne_iff_ne.mpr c5
          have H' := Aside0.mk H
          clear H
          go_wp2
          go_meet
          case rel => exact ⟨_, ((a0 == 8)), (by first | rfl | (simp; done) | (simp [*]; done)), H', ⟨by first | omega | exact Nat.le_refl _⟩, by repeat (first | exact Drawn0.refl _ | apply Drawn0.step)⟩
  case rest =>
    clear HC2
    try clear c1
    try clear p2
    try clear c3
    try clear c3b0
    try clear c3b1
    try clear c4
    try clear c4b0
    try clear c4b1
    try clear c5
    try clear c5b0
    try clear c5b1
    obtain ⟨kq, x5_1, rfl, HA, HJ1, ⟨mc1, rfl⟩⟩ := hcut
    cases kq with
    | zero => exact absurd HA.out (by simp [shift_late.j0])
    | succ kj1 =>
      have H := HA.out
      clear HA
      simp only [shift_late.j0] at H
      by_cases c6 : x5_1 = true
      · subst c6
        have H1 : (some (8, 6)) = some (r1, r2) := by rw [if_pos rfl] at H; exact H
        clear H
        have H := H1
        clear H1
        simp only [Option.some.injEq, Prod.mk.injEq] at H
        obtain ⟨rfl, rfl⟩ := H
        go_wp2
        go_ret2
        exact ⟨by first | rfl | (simp; done) | (simp [*]; done), by repeat (first | exact Drawn0.refl _ | apply Drawn0.step)⟩
      · replace c6 := Bool.eq_false_iff.mpr c6
        subst c6
        have H1 : (if a0 = 4 then (some (a0, 4)) else (if a0 = 5 then (some (6, 5)) else (if a0 = 6 then (some (6, 5)) else (some (a0, 0))))) = some (r1, r2) := by rw [if_neg (show ¬ (false = true) by decide)] at H; exact H
        clear H
        have H := H1
        clear H1
        by_cases c7 : a0 = 4
        · rw [if_pos c7] at H
          have c7b0 : (a0 == 4) = true := beq_iff_eq.mpr c7
          have c7b1 : (a0 != 4) = false := bne_eq_false_iff_eq.mpr c7
          clear c7
          simp only [Option.some.injEq, Prod.mk.injEq] at H
          obtain ⟨rfl, rfl⟩ := H
          go_wp2
          go_ret2
          exact ⟨by first | rfl | (simp; done) | (simp [*]; done), by repeat (first | exact Drawn0.refl _ | apply Drawn0.step)⟩
        · rw [if_neg c7] at H
          have c7b0 : (a0 == 4) = false := beq_eq_false_iff_ne.mpr c7
          have c7b1 : (a0 != 4) = true := bne_iff_ne.mpr c7
          by_cases c8 : a0 = 5
          · rw [if_pos c8] at H
            have c8b0 : (a0 == 5) = true := beq_iff_eq.mpr c8
            have c8b1 : (a0 != 5) = false := bne_eq_false_iff_eq.mpr c8
            clear c8
            simp only [Option.some.injEq, Prod.mk.injEq] at H
            obtain ⟨rfl, rfl⟩ := H
            go_wp2
            go_ret2
            exact ⟨by first | rfl | (simp; done) | (simp [*]; done), by repeat (first | exact Drawn0.refl _ | apply Drawn0.step)⟩
          · rw [if_neg c8] at H
            have c8b0 : (a0 == 5) = false := beq_eq_false_iff_ne.mpr c8
            have c8b1 : (a0 != 5) = true := bne_iff_ne.mpr c8
            by_cases c9 : a0 = 6
            · rw [if_pos c9] at H
              have c9b0 : (a0 == 6) = true := beq_iff_eq.mpr c9
              have c9b1 : (a0 != 6) = false := bne_eq_false_iff_eq.mpr c9
              clear c9
              simp only [Option.some.injEq, Prod.mk.injEq] at H
              obtain ⟨rfl, rfl⟩ := H
              go_wp2
              go_ret2
              exact ⟨by first | rfl | (simp; done) | (simp [*]; done), by repeat (first | exact Drawn0.refl _ | apply Drawn0.step)⟩
            · rw [if_neg c9] at H
              have c9b0 : (a0 == 6) = false := beq_eq_false_iff_ne.mpr c9
              have c9b1 : (a0 != 6) = true := bne_iff_ne.mpr c9
              simp only [Option.some.injEq, Prod.mk.injEq] at H
              obtain ⟨rfl, rfl⟩ := H
              go_wp2
              go_ret2
              exact ⟨by first | rfl | (simp; done) | (simp [*]; done), by repeat (first | exact Drawn0.refl _ | apply Drawn0.step)⟩

/-! ### shift_anew: function 20 -/
def shift_anew.f (k : Nat) (a0 : Int) : Option (Int × Int) := if a0 = 4 then (some (8, 6)) else ((shift_late.f k a0).bind fun bt101 => (some (bt101.1, bt101.2)))
theorem shift_anew.mono : ∀ a0 k, LeO (shift_anew.f k a0) (shift_anew.f (k + 1) a0) := by
  intro a0 k
  unfold shift_anew.f
  repeat' first
      | (with_reducible exact shift_late.mono _ _)
      | (with_reducible exact LeO.refl _)
      | (with_reducible exact LeO.none _)
      | (with_reducible refine LeO.ite ?_ ?_)
      | (with_reducible refine LeO.bind ?_ (fun _ => ?_))
      | exact shift_late.mono _ _
      | exact LeO.none _
      | refine LeO.ite ?_ ?_
      | refine LeO.bind ?_ (fun _ => ?_)
set_option maxHeartbeats 8000000 in
set_option maxRecDepth 100000 in
theorem shift_anew.calls (k : Nat) (a0 : Int) (r1 : Int) (r2 : Int) (w : World) (h : shift_anew.f k a0 = some (r1, r2)) :
    Calls Try.prog 20 #[.int .i64 a0] w fun e w' => e = .returned (.tuple #[.int .i64 r1, .int .i64 r2]) ∧ Drawn0 w w' := by
  have H : (if a0 = 4 then (some (8, 6)) else ((shift_late.f k a0).bind fun bt101 => (some (bt101.1, bt101.2)))) = some (r1, r2) := h
  clear h
  by_cases c2 : a0 = 4
  · rw [if_pos c2] at H
    have c2b0 : (a0 == 4) = true := beq_iff_eq.mpr c2
    have c2b1 : (a0 != 4) = false := bne_eq_false_iff_eq.mpr c2
    clear c2
    simp only [Option.some.injEq, Prod.mk.injEq] at H
    obtain ⟨rfl, rfl⟩ := H
    go_enter Try.func20, Try.ntmps20
    go_wp2
    go_ret2
    exact ⟨by first | rfl | (simp; done) | (simp [*]; done), by repeat (first | exact Drawn0.refl _ | apply Drawn0.step)⟩
  · rw [if_neg c2] at H
    have c2b0 : (a0 == 4) = false := beq_eq_false_iff_ne.mpr c2
    have c2b1 : (a0 != 4) = true := bne_iff_ne.mpr c2
    replace H := Option.bind_eq_some_iff.mp H
    obtain ⟨⟨t101, t102⟩, A30, H⟩ := H
    replace H : (some (t101, t102)) = some (r1, r2) := H
    have A3 := Aside0.mk A30
    clear A30
    simp only [Option.some.injEq, Prod.mk.injEq] at H
    obtain ⟨rfl, rfl⟩ := H
    go_enter Try.func20, Try.ntmps20
    go_wp2_with (first | ((with_reducible refine gate_callee (f := 19) rfl ?_); refine goesL_ (some 7) rfl rfl Try.func19 (by kernel_rfl) rfl #[.int .i64 a0] rfl (by (try simp only [List.map_toArray, List.map_cons, List.map_nil]); first | done | rfl | (simp only [List.length_drop, List.length_take]; rfl)) ?_; (with_reducible refine (shift_late.calls k a0 t101 t102 _ A3.out).mono ?_); rintro e w' ⟨rfl, ⟨nd, rfl⟩⟩; refine ⟨_, rfl, ?_⟩))
    go_ret2
    exact ⟨by first | rfl | (simp; done) | (simp [*]; done), by repeat (first | exact Drawn0.refl _ | apply Drawn0.step)⟩

/-! ### shift_Next: function 8 -/
def shift_Next.j0 : Nat → Int → Int → Bool → Option (Int × Int)
  | 0, _, _, _ => none
  | k + 1, x0, x1, x28 => if x28 = true then (some (7, 0)) else (if (x0 == 8 && (x1 == 7)) = true then (some (9, 0)) else (some (x0, 0)))
def shift_Next.f (k : Nat) (a0 : Int) (a1 : Int) : Option (Int × Int) := if a1 = 9 then ((shift_late.f k a0).bind fun bt103 => (some (bt103.1, bt103.2))) else (if a1 = 8 then ((shift_anew.f k a0).bind fun bt105 => (some (bt105.1, bt105.2))) else (if (a0 == 0 && (a1 == 1)) = true then (some (1, 1)) else (if (a0 == 1 && (a1 == 2)) = true then (some (2, 2)) else (if (a0 == 2 && (a1 == 3)) = true then (some (3, 3)) else (if (a0 == 3 && (a1 == 4)) = true then (some (4, 4)) else (if (a0 == 4 && (a1 == 5)) = true then (some (5, 5)) else (if (a0 == 5 && (a1 == 6)) = true then (shift_Next.j0 k a0 a1 (a0 == 5 && (a1 == 6))) else (shift_Next.j0 k a0 a1 (a0 == 6 && (a1 == 6))))))))))
theorem shift_Next.mono_l : ∀ k, (∀ y0 y1 y2, LeO (shift_Next.j0 k y0 y1 y2) (shift_Next.j0 (k + 1) y0 y1 y2))
  | 0 => fun _ _ _ r h => by simp [shift_Next.j0] at h
  | k + 1 => by
    have ih0 := shift_Next.mono_l k
    · intro y0 y1 y2
      unfold shift_Next.j0
      repeat' first
      | (with_reducible exact ih0 _ _ _)
      | (with_reducible exact shift_anew.mono _ _)
      | (with_reducible exact shift_late.mono _ _)
      | (with_reducible exact LeO.refl _)
      | (with_reducible exact LeO.none _)
      | (with_reducible refine LeO.ite ?_ ?_)
      | (with_reducible refine LeO.bind ?_ (fun _ => ?_))
      | exact ih0 _ _ _
      | exact shift_anew.mono _ _
      | exact shift_late.mono _ _
      | exact LeO.none _
      | refine LeO.ite ?_ ?_
      | refine LeO.bind ?_ (fun _ => ?_)
theorem shift_Next.mono : ∀ a0 a1 k, LeO (shift_Next.f k a0 a1) (shift_Next.f (k + 1) a0 a1) := by
  intro a0 a1 k
  have ih0 := shift_Next.mono_l k
  unfold shift_Next.f
  repeat' first
      | (with_reducible exact ih0 _ _ _)
      | (with_reducible exact shift_anew.mono _ _)
      | (with_reducible exact shift_late.mono _ _)
      | (with_reducible exact LeO.refl _)
      | (with_reducible exact LeO.none _)
      | (with_reducible refine LeO.ite ?_ ?_)
      | (with_reducible refine LeO.bind ?_ (fun _ => ?_))
      | exact ih0 _ _ _
      | exact shift_anew.mono _ _
      | exact shift_late.mono _ _
      | exact LeO.none _
      | refine LeO.ite ?_ ?_
      | refine LeO.bind ?_ (fun _ => ?_)
set_option maxHeartbeats 8000000 in
set_option maxRecDepth 100000 in
theorem shift_Next.calls (k : Nat) (a0 : Int) (a1 : Int) (r1 : Int) (r2 : Int) (w : World) (h : shift_Next.f k a0 a1 = some (r1, r2)) :
    Calls Try.prog 8 #[.int .i64 a0, .int .i64 a1] w fun e w' => e = .returned (.tuple #[.int .i64 r1, .int .i64 r2]) ∧ Drawn0 w w' := by
  have hu33 := Try.underlying33
  have H : (if a1 = 9 then ((shift_late.f k a0).bind fun bt103 => (some (bt103.1, bt103.2))) else (if a1 = 8 then ((shift_anew.f k a0).bind fun bt105 => (some (bt105.1, bt105.2))) else (if (a0 == 0 && (a1 == 1)) = true then (some (1, 1)) else (if (a0 == 1 && (a1 == 2)) = true then (some (2, 2)) else (if (a0 == 2 && (a1 == 3)) = true then (some (3, 3)) else (if (a0 == 3 && (a1 == 4)) = true then (some (4, 4)) else (if (a0 == 4 && (a1 == 5)) = true then (some (5, 5)) else (if (a0 == 5 && (a1 == 6)) = true then (shift_Next.j0 k a0 a1 (a0 == 5 && (a1 == 6))) else (shift_Next.j0 k a0 a1 (a0 == 6 && (a1 == 6))))))))))) = some (r1, r2) := h
  clear h
  have HC3 := Aside0.mk H
  clear H
  go_enter Try.func8, Try.ntmps8
  try go_wp2
  refine wp_scope_g ?_
  intro G_ SB_
  have H := HC3.out
  clear HC3
  by_cases c4 : a1 = 9
  · rw [if_pos c4] at H
    have c4b0 : (a1 == 9) = true := beq_iff_eq.mpr c4
    have c4b1 : (a1 != 9) = false := bne_eq_false_iff_eq.mpr c4
    clear c4
    have HC5 := Aside0.mk H
    clear H
    try go_wp2
    refine wp_goto ?_
    refine at_label SB_ (l := 0) (by rfl) ?_
    have H := HC5.out
    clear HC5
    replace H := Option.bind_eq_some_iff.mp H
    obtain ⟨⟨t103, t104⟩, A60, H⟩ := H
    replace H : (some (t103, t104)) = some (r1, r2) := H
    have A6 := Aside0.mk A60
    clear A60
    simp only [Option.some.injEq, Prod.mk.injEq] at H
    obtain ⟨rfl, rfl⟩ := H
    go_wp2_with (first | ((with_reducible refine gate_callee (f := 19) rfl ?_); refine goesL_ (some 38) rfl rfl Try.func19 (by kernel_rfl) rfl #[.int .i64 a0] rfl (by (try simp only [List.map_toArray, List.map_cons, List.map_nil]); first | done | rfl | (simp only [List.length_drop, List.length_take]; rfl)) ?_; (with_reducible refine (shift_late.calls k a0 t103 t104 _ A6.out).mono ?_); rintro e w' ⟨rfl, ⟨nd, rfl⟩⟩; refine ⟨_, rfl, ?_⟩))
    (try rw [scoped_ret])
    go_ret2
    exact ⟨by first | rfl | (simp; done) | (simp [*]; done), by repeat (first | exact Drawn0.refl _ | apply Drawn0.step)⟩
  · rw [if_neg c4] at H
    have c4b0 : (a1 == 9) = false := beq_eq_false_iff_ne.mpr c4
    have c4b1 : (a1 != 9) = true := bne_iff_ne.mpr c4
    by_cases c7 : a1 = 8
    · rw [if_pos c7] at H
      have c7b0 : (a1 == 8) = true := beq_iff_eq.mpr c7
      have c7b1 : (a1 != 8) = false := bne_eq_false_iff_eq.mpr c7
      clear c7
      have HC8 := Aside0.mk H
      clear H
      try go_wp2
      refine wp_goto ?_
      refine at_label SB_ (l := 1) (by rfl) ?_
      have H := HC8.out
      clear HC8
      replace H := Option.bind_eq_some_iff.mp H
      obtain ⟨⟨t105, t106⟩, A90, H⟩ := H
      replace H : (some (t105, t106)) = some (r1, r2) := H
      have A9 := Aside0.mk A90
      clear A90
      simp only [Option.some.injEq, Prod.mk.injEq] at H
      obtain ⟨rfl, rfl⟩ := H
      go_wp2_with (first | ((with_reducible refine gate_callee (f := 20) rfl ?_); refine goesL_ (some 42) rfl rfl Try.func20 (by kernel_rfl) rfl #[.int .i64 a0] rfl (by (try simp only [List.map_toArray, List.map_cons, List.map_nil]); first | done | rfl | (simp only [List.length_drop, List.length_take]; rfl)) ?_; (with_reducible refine (shift_anew.calls k a0 t105 t106 _ A9.out).mono ?_); rintro e w' ⟨rfl, ⟨nd, rfl⟩⟩; refine ⟨_, rfl, ?_⟩))
      (try rw [scoped_ret])
      go_ret2
      exact ⟨by first | rfl | (simp; done) | (simp [*]; done), by repeat (first | exact Drawn0.refl _ | apply Drawn0.step)⟩
    · rw [if_neg c7] at H
      have c7b0 : (a1 == 8) = false := beq_eq_false_iff_ne.mpr c7
      have c7b1 : (a1 != 8) = true := bne_iff_ne.mpr c7
      by_cases c10 : (a0 == 0 && (a1 == 1)) = true
      · rw [if_pos c10] at H
        have c10b0 : (a0 == 0 && (a1 == 1)) = true := c10
        (try (have c10b1 : decide (a0 = 0 && (a1 == 1)) = true := by simpa using c10))
        (try (have c10b2 : (a0 == 0 && (a1 == 1)) = true := by simpa using c10))
        clear c10
        simp only [Option.some.injEq, Prod.mk.injEq] at H
        obtain ⟨rfl, rfl⟩ := H
        go_wp2
        (try rw [scoped_ret])
        go_ret2
        exact ⟨by first | rfl | (simp; done) | (simp [*]; done), by repeat (first | exact Drawn0.refl _ | apply Drawn0.step)⟩
      · rw [if_neg c10] at H
        have c10b0 : (a0 == 0 && (a1 == 1)) = false := by simpa using c10
        (try (have c10b1 : decide (a0 = 0 && (a1 == 1)) = false := by simpa using c10))
        (try (have c10b2 : (a0 == 0 && (a1 == 1)) = false := by simpa using c10))
        (try (have c10b3 : ¬ (a0 = 0 && (a1 == 1)) := by simpa using c10))
        clear c10
        by_cases c11 : (a0 == 1 && (a1 == 2)) = true
        · rw [if_pos c11] at H
          have c11b0 : (a0 == 1 && (a1 == 2)) = true := c11
          (try (have c11b1 : decide (a0 = 1 && (a1 == 2)) = true := by simpa using c11))
          (try (have c11b2 : (a0 == 1 && (a1 == 2)) = true := by simpa using c11))
          clear c11
          simp only [Option.some.injEq, Prod.mk.injEq] at H
          obtain ⟨rfl, rfl⟩ := H
          go_wp2
          (try rw [scoped_ret])
          go_ret2
          exact ⟨by first | rfl | (simp; done) | (simp [*]; done), by repeat (first | exact Drawn0.refl _ | apply Drawn0.step)⟩
        · rw [if_neg c11] at H
          have c11b0 : (a0 == 1 && (a1 == 2)) = false := by simpa using c11
          (try (have c11b1 : decide (a0 = 1 && (a1 == 2)) = false := by simpa using c11))
          (try (have c11b2 : (a0 == 1 && (a1 == 2)) = false := by simpa using c11))
          (try (have c11b3 : ¬ (a0 = 1 && (a1 == 2)) := by simpa using c11))
          clear c11
          by_cases c12 : (a0 == 2 && (a1 == 3)) = true
          · rw [if_pos c12] at H
            have c12b0 : (a0 == 2 && (a1 == 3)) = true := c12
            (try (have c12b1 : decide (a0 = 2 && (a1 == 3)) = true := by simpa using c12))
            (try (have c12b2 : (a0 == 2 && (a1 == 3)) = true := by simpa using c12))
            clear c12
            simp only [Option.some.injEq, Prod.mk.injEq] at H
            obtain ⟨rfl, rfl⟩ := H
            go_wp2
            (try rw [scoped_ret])
            go_ret2
            exact ⟨by first | rfl | (simp; done) | (simp [*]; done), by repeat (first | exact Drawn0.refl _ | apply Drawn0.step)⟩
          · rw [if_neg c12] at H
            have c12b0 : (a0 == 2 && (a1 == 3)) = false := by simpa using c12
            (try (have c12b1 : decide (a0 = 2 && (a1 == 3)) = false := by simpa using c12))
            (try (have c12b2 : (a0 == 2 && (a1 == 3)) = false := by simpa using c12))
            (try (have c12b3 : ¬ (a0 = 2 && (a1 == 3)) := by simpa using c12))
            clear c12
            by_cases c13 : (a0 == 3 && (a1 == 4)) = true
            · rw [if_pos c13] at H
              have c13b0 : (a0 == 3 && (a1 == 4)) = true := c13
              (try (have c13b1 : decide (a0 = 3 && (a1 == 4)) = true := by simpa using c13))
              (try (have c13b2 : (a0 == 3 && (a1 == 4)) = true := by simpa using c13))
              clear c13
              simp only [Option.some.injEq, Prod.mk.injEq] at H
              obtain ⟨rfl, rfl⟩ := H
              go_wp2
              (try rw [scoped_ret])
              go_ret2
              exact ⟨by first | rfl | (simp; done) | (simp [*]; done), by repeat (first | exact Drawn0.refl _ | apply Drawn0.step)⟩
            · rw [if_neg c13] at H
              have c13b0 : (a0 == 3 && (a1 == 4)) = false := by simpa using c13
              (try (have c13b1 : decide (a0 = 3 && (a1 == 4)) = false := by simpa using c13))
              (try (have c13b2 : (a0 == 3 && (a1 == 4)) = false := by simpa using c13))
              (try (have c13b3 : ¬ (a0 = 3 && (a1 == 4)) := by simpa using c13))
              clear c13
              by_cases c14 : (a0 == 4 && (a1 == 5)) = true
              · rw [if_pos c14] at H
                have c14b0 : (a0 == 4 && (a1 == 5)) = true := c14
                (try (have c14b1 : decide (a0 = 4 && (a1 == 5)) = true := by simpa using c14))
                (try (have c14b2 : (a0 == 4 && (a1 == 5)) = true := by simpa using c14))
                clear c14
                simp only [Option.some.injEq, Prod.mk.injEq] at H
                obtain ⟨rfl, rfl⟩ := H
                go_wp2
                (try rw [scoped_ret])
                go_ret2
                exact ⟨by first | rfl | (simp; done) | (simp [*]; done), by repeat (first | exact Drawn0.refl _ | apply Drawn0.step)⟩
              · rw [if_neg c14] at H
                have c14b0 : (a0 == 4 && (a1 == 5)) = false := by simpa using c14
                (try (have c14b1 : decide (a0 = 4 && (a1 == 5)) = false := by simpa using c14))
                (try (have c14b2 : (a0 == 4 && (a1 == 5)) = false := by simpa using c14))
                (try (have c14b3 : ¬ (a0 = 4 && (a1 == 5)) := by simpa using c14))
                clear c14
                have HC15 := Aside0.mk H
                clear H
                go_upto_if 28 with (fail)
                go_cut [28] (fun v28 wc => ∃ (kq : Nat) (x28_14 : Bool), v28 = .bool x28_14 ∧ Aside0 (shift_Next.j0 kq a0 a1 x28_14 = some (r1, r2)) ∧ Aside0 (kq ≤ k) ∧ Drawn0 w wc)
                case first =>
                  have H := HC15.out
                  clear HC15
                  by_cases c16 : (a0 == 5 && (a1 == 6)) = true
                  · rw [if_pos c16] at H
                    have c16b0 : (a0 == 5 && (a1 == 6)) = true := c16
                    (try (have c16b1 : decide (a0 = 5 && (a1 == 6)) = true := by simpa using c16))
                    (try (have c16b2 : (a0 == 5 && (a1 == 6)) = true := by simpa using c16))
                    clear c16
                    (first | rw [c16b0] | (simp only [i64_w, i32_w]; rw [c16b0]) | skip)
                    have H' := Aside0.mk H
                    clear H
                    go_wp2
                    go_meet
                    case rel => exact ⟨_, ((a0 == 5 && (a1 == 6))), (by first | rfl | (simp; done) | (simp [*]; done)), H', ⟨by first | omega | exact Nat.le_refl _⟩, by repeat (first | exact Drawn0.refl _ | apply Drawn0.step)⟩
                  · rw [if_neg c16] at H
                    have c16b0 : (a0 == 5 && (a1 == 6)) = false := by simpa using c16
                    (try (have c16b1 : decide (a0 = 5 && (a1 == 6)) = false := by simpa using c16))
                    (try (have c16b2 : (a0 == 5 && (a1 == 6)) = false := by simpa using c16))
                    (try (have c16b3 : ¬ (a0 = 5 && (a1 == 6)) := by simpa using c16))
                    clear c16
                    (first | rw [c16b0] | (simp only [i64_w, i32_w]; rw [c16b0]) | skip)
                    have H' := Aside0.mk H
                    clear H
                    go_wp2
                    go_meet
                    case rel => exact ⟨_, ((a0 == 6 && (a1 == 6))), (by first | rfl | (simp; done) | (simp [*]; done)), H', ⟨by first | omega | exact Nat.le_refl _⟩, by repeat (first | exact Drawn0.refl _ | apply Drawn0.step)⟩
                case rest =>
                  clear HC15
                  try clear c1
                  try clear c2
                  try clear p2
                  try clear c4
                  try clear c4b0
                  try clear c4b1
                  try clear c7
                  try clear c7b0
                  try clear c7b1
                  try clear c8
                  try clear c10
                  try clear c10b0
                  try clear c10b1
                  try clear c10b2
                  try clear c11
                  try clear c11b0
                  try clear c11b1
                  try clear c11b2
                  try clear c12
                  try clear c12b0
                  try clear c12b1
                  try clear c12b2
                  try clear c13
                  try clear c13b0
                  try clear c13b1
                  try clear c13b2
                  try clear c14
                  try clear c14b0
                  try clear c14b1
                  try clear c14b2
                  try clear c16
                  try clear c16b0
                  try clear c16b1
                  try clear c16b2
                  obtain ⟨kq, x28_14, rfl, HA, HJ14, ⟨mc14, rfl⟩⟩ := hcut
                  cases kq with
                  | zero => exact absurd HA.out (by simp [shift_Next.j0])
                  | succ kj14 =>
                    have H := HA.out
                    clear HA
                    simp only [shift_Next.j0] at H
                    by_cases c17 : x28_14 = true
                    · subst c17
                      have H1 : (some (7, 0)) = some (r1, r2) := by rw [if_pos rfl] at H; exact H
                      clear H
                      have H := H1
                      clear H1
                      simp only [Option.some.injEq, Prod.mk.injEq] at H
                      obtain ⟨rfl, rfl⟩ := H
                      go_wp2
                      (try rw [scoped_ret])
                      go_ret2
                      exact ⟨by first | rfl | (simp; done) | (simp [*]; done), by repeat (first | exact Drawn0.refl _ | apply Drawn0.step)⟩
                    · replace c17 := Bool.eq_false_iff.mpr c17
                      subst c17
                      have H1 : (if (a0 == 8 && (a1 == 7)) = true then (some (9, 0)) else (some (a0, 0))) = some (r1, r2) := by rw [if_neg (show ¬ (false = true) by decide)] at H; exact H
                      clear H
                      have H := H1
                      clear H1
                      by_cases c18 : (a0 == 8 && (a1 == 7)) = true
                      · rw [if_pos c18] at H
                        have c18b0 : (a0 == 8 && (a1 == 7)) = true := c18
                        (try (have c18b1 : decide (a0 = 8 && (a1 == 7)) = true := by simpa using c18))
                        (try (have c18b2 : (a0 == 8 && (a1 == 7)) = true := by simpa using c18))
                        clear c18
                        simp only [Option.some.injEq, Prod.mk.injEq] at H
                        obtain ⟨rfl, rfl⟩ := H
                        go_wp2
                        (try rw [scoped_ret])
                        go_ret2
                        exact ⟨by first | rfl | (simp; done) | (simp [*]; done), by repeat (first | exact Drawn0.refl _ | apply Drawn0.step)⟩
                      · rw [if_neg c18] at H
                        have c18b0 : (a0 == 8 && (a1 == 7)) = false := by simpa using c18
                        (try (have c18b1 : decide (a0 = 8 && (a1 == 7)) = false := by simpa using c18))
                        (try (have c18b2 : (a0 == 8 && (a1 == 7)) = false := by simpa using c18))
                        (try (have c18b3 : ¬ (a0 = 8 && (a1 == 7)) := by simpa using c18))
                        clear c18
                        simp only [Option.some.injEq, Prod.mk.injEq] at H
                        obtain ⟨rfl, rfl⟩ := H
                        go_wp2
                        (try rw [scoped_ret])
                        go_ret2
                        exact ⟨by first | rfl | (simp; done) | (simp [*]; done), by repeat (first | exact Drawn0.refl _ | apply Drawn0.step)⟩

/-! ### carrefourref18_Again: function 14 -/
def carrefourref18_Again.j0 : Nat → Int → Bool → Option (Int)
  | 0, _, _ => none
  | k + 1, x3, x12 => if x12 = true then (some 5) else (if x3 = 8 then (some 6) else (some 0))
def carrefourref18_Again.f (k : Nat) (a0 : Int) : Option (Int) := if a0 = 1 then (some 1) else (if a0 = 2 then (some 2) else (if a0 = 3 then (some 3) else (if a0 = 4 then (some 4) else (if a0 = 5 then (carrefourref18_Again.j0 k a0 (a0 == 5)) else (carrefourref18_Again.j0 k a0 (a0 == 6))))))
theorem carrefourref18_Again.mono_l : ∀ k, (∀ y0 y1, LeO (carrefourref18_Again.j0 k y0 y1) (carrefourref18_Again.j0 (k + 1) y0 y1))
  | 0 => fun _ _ r h => by simp [carrefourref18_Again.j0] at h
  | k + 1 => by
    have ih0 := carrefourref18_Again.mono_l k
    · intro y0 y1
      unfold carrefourref18_Again.j0
      repeat' first
      | (with_reducible exact ih0 _ _)
      | (with_reducible exact LeO.refl _)
      | (with_reducible exact LeO.none _)
      | (with_reducible refine LeO.ite ?_ ?_)
      | (with_reducible refine LeO.bind ?_ (fun _ => ?_))
      | exact ih0 _ _
      | exact LeO.none _
      | refine LeO.ite ?_ ?_
      | refine LeO.bind ?_ (fun _ => ?_)
theorem carrefourref18_Again.mono : ∀ a0 k, LeO (carrefourref18_Again.f k a0) (carrefourref18_Again.f (k + 1) a0) := by
  intro a0 k
  have ih0 := carrefourref18_Again.mono_l k
  unfold carrefourref18_Again.f
  repeat' first
      | (with_reducible exact ih0 _ _)
      | (with_reducible exact LeO.refl _)
      | (with_reducible exact LeO.none _)
      | (with_reducible refine LeO.ite ?_ ?_)
      | (with_reducible refine LeO.bind ?_ (fun _ => ?_))
      | exact ih0 _ _
      | exact LeO.none _
      | refine LeO.ite ?_ ?_
      | refine LeO.bind ?_ (fun _ => ?_)
set_option maxHeartbeats 8000000 in
set_option maxRecDepth 100000 in
theorem carrefourref18_Again.calls (k : Nat) (a0 : Int) (r : Int) (w : World) (h : carrefourref18_Again.f k a0 = some r) :
    Calls Try.prog 14 #[.int .i64 a0] w fun e w' => e = .returned (.int .i64 r) ∧ Drawn0 w w' := by
  have H : (if a0 = 1 then (some 1) else (if a0 = 2 then (some 2) else (if a0 = 3 then (some 3) else (if a0 = 4 then (some 4) else (if a0 = 5 then (carrefourref18_Again.j0 k a0 (a0 == 5)) else (carrefourref18_Again.j0 k a0 (a0 == 6))))))) = some r := h
  clear h
  by_cases c2 : a0 = 1
  · rw [if_pos c2] at H
    have c2b0 : (a0 == 1) = true := beq_iff_eq.mpr c2
    have c2b1 : (a0 != 1) = false := bne_eq_false_iff_eq.mpr c2
    clear c2
    obtain rfl := Option.some.inj H
    go_enter Try.func14, Try.ntmps14
    go_wp2
    go_ret
    exact ⟨by first | rfl | (simp; done) | (simp [*]; done), by repeat (first | exact Drawn0.refl _ | apply Drawn0.step)⟩
  · rw [if_neg c2] at H
    have c2b0 : (a0 == 1) = false := beq_eq_false_iff_ne.mpr c2
    have c2b1 : (a0 != 1) = true := bne_iff_ne.mpr c2
    by_cases c3 : a0 = 2
    · rw [if_pos c3] at H
      have c3b0 : (a0 == 2) = true := beq_iff_eq.mpr c3
      have c3b1 : (a0 != 2) = false := bne_eq_false_iff_eq.mpr c3
      clear c3
      obtain rfl := Option.some.inj H
      go_enter Try.func14, Try.ntmps14
      go_wp2
      go_ret
      exact ⟨by first | rfl | (simp; done) | (simp [*]; done), by repeat (first | exact Drawn0.refl _ | apply Drawn0.step)⟩
    · rw [if_neg c3] at H
      have c3b0 : (a0 == 2) = false := beq_eq_false_iff_ne.mpr c3
      have c3b1 : (a0 != 2) = true := bne_iff_ne.mpr c3
      by_cases c4 : a0 = 3
      · rw [if_pos c4] at H
        have c4b0 : (a0 == 3) = true := beq_iff_eq.mpr c4
        have c4b1 : (a0 != 3) = false := bne_eq_false_iff_eq.mpr c4
        clear c4
        obtain rfl := Option.some.inj H
        go_enter Try.func14, Try.ntmps14
        go_wp2
        go_ret
        exact ⟨by first | rfl | (simp; done) | (simp [*]; done), by repeat (first | exact Drawn0.refl _ | apply Drawn0.step)⟩
      · rw [if_neg c4] at H
        have c4b0 : (a0 == 3) = false := beq_eq_false_iff_ne.mpr c4
        have c4b1 : (a0 != 3) = true := bne_iff_ne.mpr c4
        by_cases c5 : a0 = 4
        · rw [if_pos c5] at H
          have c5b0 : (a0 == 4) = true := beq_iff_eq.mpr c5
          have c5b1 : (a0 != 4) = false := bne_eq_false_iff_eq.mpr c5
          clear c5
          obtain rfl := Option.some.inj H
          go_enter Try.func14, Try.ntmps14
          go_wp2
          go_ret
          exact ⟨by first | rfl | (simp; done) | (simp [*]; done), by repeat (first | exact Drawn0.refl _ | apply Drawn0.step)⟩
        · rw [if_neg c5] at H
          have c5b0 : (a0 == 4) = false := beq_eq_false_iff_ne.mpr c5
          have c5b1 : (a0 != 4) = true := bne_iff_ne.mpr c5
          have HC6 := Aside0.mk H
          clear H
          go_enter Try.func14, Try.ntmps14
          go_upto_if 12 with (fail)
          go_cut [12] (fun v12 wc => ∃ (kq : Nat) (x12_5 : Bool), v12 = .bool x12_5 ∧ Aside0 (carrefourref18_Again.j0 kq a0 x12_5 = some r) ∧ Aside0 (kq ≤ k) ∧ Drawn0 w wc)
          case first =>
            have H := HC6.out
            clear HC6
            by_cases c7 : a0 = 5
            · rw [if_pos c7] at H
              have c7b0 : (a0 == 5) = true := beq_iff_eq.mpr c7
              have c7b1 : (a0 != 5) = false := bne_eq_false_iff_eq.mpr c7
              clear c7
              (first | rw [c7b0] | (simp only [i64_w, i32_w]; rw [c7b0]) | skip)
              have H' := Aside0.mk H
              clear H
              go_wp2
              go_meet
              case rel => exact ⟨_, ((a0 == 5)), (by first | rfl | (simp; done) | (simp [*]; done)), H', ⟨by first | omega | exact Nat.le_refl _⟩, by repeat (first | exact Drawn0.refl _ | apply Drawn0.step)⟩
            · rw [if_neg c7] at H
              have c7b0 : (a0 == 5) = false := beq_eq_false_iff_ne.mpr c7
              have c7b1 : (a0 != 5) = true := bne_iff_ne.mpr c7
              (first | rw [c7b0] | (simp only [i64_w, i32_w]; rw [c7b0]) | skip)
              have H' := Aside0.mk H
              clear H
              go_wp2
              go_meet
              case rel => exact ⟨_, ((a0 == 6)), (by first | rfl | (simp; done) | (simp [*]; done)), H', ⟨by first | omega | exact Nat.le_refl _⟩, by repeat (first | exact Drawn0.refl _ | apply Drawn0.step)⟩
          case rest =>
            clear HC6
            try clear c1
            try clear c2
            try clear c2b0
            try clear c2b1
            try clear p2
            try clear c3
            try clear c3b0
            try clear c3b1
            try clear c4
            try clear c4b0
            try clear c4b1
            try clear c5
            try clear c5b0
            try clear c5b1
            try clear c7
            try clear c7b0
            try clear c7b1
            obtain ⟨kq, x12_5, rfl, HA, HJ5, ⟨mc5, rfl⟩⟩ := hcut
            cases kq with
            | zero => exact absurd HA.out (by simp [carrefourref18_Again.j0])
            | succ kj5 =>
              have H := HA.out
              clear HA
              simp only [carrefourref18_Again.j0] at H
              by_cases c8 : x12_5 = true
              · subst c8
                have H1 : (some 5) = some r := by rw [if_pos rfl] at H; exact H
                clear H
                have H := H1
                clear H1
                obtain rfl := Option.some.inj H
                go_wp2
                go_ret
                exact ⟨by first | rfl | (simp; done) | (simp [*]; done), by repeat (first | exact Drawn0.refl _ | apply Drawn0.step)⟩
              · replace c8 := Bool.eq_false_iff.mpr c8
                subst c8
                have H1 : (if a0 = 8 then (some 6) else (some 0)) = some r := by rw [if_neg (show ¬ (false = true) by decide)] at H; exact H
                clear H
                have H := H1
                clear H1
                by_cases c9 : a0 = 8
                · rw [if_pos c9] at H
                  have c9b0 : (a0 == 8) = true := beq_iff_eq.mpr c9
                  have c9b1 : (a0 != 8) = false := bne_eq_false_iff_eq.mpr c9
                  clear c9
                  obtain rfl := Option.some.inj H
                  go_wp2
                  go_ret
                  exact ⟨by first | rfl | (simp; done) | (simp [*]; done), by repeat (first | exact Drawn0.refl _ | apply Drawn0.step)⟩
                · rw [if_neg c9] at H
                  have c9b0 : (a0 == 8) = false := beq_eq_false_iff_ne.mpr c9
                  have c9b1 : (a0 != 8) = true := bne_iff_ne.mpr c9
                  obtain rfl := Option.some.inj H
                  go_wp2
                  go_ret
                  exact ⟨by first | rfl | (simp; done) | (simp [*]; done), by repeat (first | exact Drawn0.refl _ | apply Drawn0.step)⟩

end Go.Proofs.Ytladmbjfnkmlnaa.PGp
