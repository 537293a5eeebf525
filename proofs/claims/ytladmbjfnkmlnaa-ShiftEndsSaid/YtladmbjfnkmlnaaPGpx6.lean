-- Written by gprint.py, this session's own program, out of Lean's print of the translation: functions with the same answers, and proofs that the Go code comes to them. Lean checks it all.
import Derived.Test.YtladmbjfnkmlnaaPGpx0
import Derived.Test.YtladmbjfnkmlnaaPGpx2
import Derived.Test.YtladmbjfnkmlnaaPGpx4
namespace Go.Proofs.Ytladmbjfnkmlnaa.PGp
open Go.RowKit Go.Proofs.YtladmbjfnkmlnaaW.PrintWords Go.Proofs.YtladmbjfnkmlnaaW.PrintLast Go.Proofs.YtladmbjfnkmlnaaW.PrintMore Go.Proofs.YtladmbjfnkmlnaaG
attribute [local go_sem] max2_int min2_int max_two min_two max_three min_three max_four min_four   -- for this text's walks alone
set_option linter.unusedVariables false
set_option linter.unusedSimpArgs false

/-! ### carrefourlaw18_ShiftEnds: function 5 -/
mutual
def carrefourlaw18_ShiftEnds.j1 : Nat → Int → Option (Bool)
  | 0, _ => none
  | k + 1, x3 => carrefourlaw18_ShiftEnds.l3 k x3 0
def carrefourlaw18_ShiftEnds.l3 : Nat → Int → Int → Option (Bool)
  | 0, _, _ => none
  | k + 1, x3, x6 => if x6 < 10 then ((shift_Over.f x3).bind fun t156 => (carrefourlaw18_ShiftEnds.j3 k x3 x6 (!t156))) else (carrefourlaw18_ShiftEnds.j3 k x3 x6 false)
def carrefourlaw18_ShiftEnds.j3 : Nat → Int → Int → Bool → Option (Bool)
  | 0, _, _, _ => none
  | k + 1, x3, x6, x41 => if x41 = true then (if x3 = 1 then ((shift_Next.f k x3 2).bind fun bt159 => (carrefourlaw18_ShiftEnds.l3 k bt159.1 (wrap64 (x6 + 1)))) else (if x3 = 2 then ((shift_Next.f k x3 3).bind fun bt161 => (carrefourlaw18_ShiftEnds.l3 k bt161.1 (wrap64 (x6 + 1)))) else (if x3 = 3 then ((shift_Next.f k x3 4).bind fun bt163 => (carrefourlaw18_ShiftEnds.l3 k bt163.1 (wrap64 (x6 + 1)))) else (if x3 = 4 then ((shift_Next.f k x3 5).bind fun bt165 => (carrefourlaw18_ShiftEnds.l3 k bt165.1 (wrap64 (x6 + 1)))) else (if x3 = 5 then (carrefourlaw18_ShiftEnds.j4 k x3 x6 9 x3 (x3 == 5)) else (carrefourlaw18_ShiftEnds.j4 k x3 x6 9 x3 (x3 == 6))))))) else ((carrefourlaw18_told.f k).bind fun t157 => (if t157 = true then ((shift_Over.f x3).bind fun t158 => (some t158)) else (some false)))
def carrefourlaw18_ShiftEnds.j4 : Nat → Int → Int → Int → Int → Bool → Option (Bool)
  | 0, _, _, _, _, _ => none
  | k + 1, x3, x6, x7, x44, x53 => if x53 = true then ((shift_Next.f k x3 6).bind fun bt167 => (carrefourlaw18_ShiftEnds.l3 k bt167.1 (wrap64 (x6 + 1)))) else (if x44 = 8 then ((shift_Next.f k x3 7).bind fun bt169 => (carrefourlaw18_ShiftEnds.l3 k bt169.1 (wrap64 (x6 + 1)))) else ((shift_Next.f k x3 x7).bind fun bt171 => (carrefourlaw18_ShiftEnds.l3 k bt171.1 (wrap64 (x6 + 1)))))
def carrefourlaw18_ShiftEnds.l2 : Nat → List Int → Int → Int → Option (Bool)
  | 0, _, _, _ => none
  | k + 1, x0, x3, x5 => if x5 < (x0.length : Int) then (if x5 < 60 then (if 0 ≤ x5 then ((shift_Next.f k x3 (wrap64 (2 + (wrap64 (Int.tmod (IntKind.u64.wrap (rd x0 x5)) 8))))).bind fun bt154 => (carrefourlaw18_ShiftEnds.l2 k x0 bt154.1 (wrap64 (x5 + 1)))) else (none)) else (carrefourlaw18_ShiftEnds.j1 k x3)) else (carrefourlaw18_ShiftEnds.j1 k x3)
end
def carrefourlaw18_ShiftEnds.f (k : Nat) (l0 : List Int) : Option (Bool) := (shift_Next.f k 0 1).bind fun bt151 => (carrefourlaw18_ShiftEnds.l2 k l0 bt151.1 0)
theorem carrefourlaw18_ShiftEnds.mono_l : ∀ k, (∀ y0, LeO (carrefourlaw18_ShiftEnds.j1 k y0) (carrefourlaw18_ShiftEnds.j1 (k + 1) y0)) ∧ (∀ y0 y1, LeO (carrefourlaw18_ShiftEnds.l3 k y0 y1) (carrefourlaw18_ShiftEnds.l3 (k + 1) y0 y1)) ∧ (∀ y0 y1 y2, LeO (carrefourlaw18_ShiftEnds.j3 k y0 y1 y2) (carrefourlaw18_ShiftEnds.j3 (k + 1) y0 y1 y2)) ∧ (∀ y0 y1 y2 y3 y4, LeO (carrefourlaw18_ShiftEnds.j4 k y0 y1 y2 y3 y4) (carrefourlaw18_ShiftEnds.j4 (k + 1) y0 y1 y2 y3 y4)) ∧ (∀ y0 y1 y2, LeO (carrefourlaw18_ShiftEnds.l2 k y0 y1 y2) (carrefourlaw18_ShiftEnds.l2 (k + 1) y0 y1 y2))
  | 0 => ⟨fun _ r h => by simp [carrefourlaw18_ShiftEnds.j1] at h, fun _ _ r h => by simp [carrefourlaw18_ShiftEnds.l3] at h, fun _ _ _ r h => by simp [carrefourlaw18_ShiftEnds.j3] at h, fun _ _ _ _ _ r h => by simp [carrefourlaw18_ShiftEnds.j4] at h, fun _ _ _ r h => by simp [carrefourlaw18_ShiftEnds.l2] at h⟩
  | k + 1 => by
    obtain ⟨ih0, ih1, ih2, ih3, ih4⟩ := carrefourlaw18_ShiftEnds.mono_l k
    refine ⟨?_, ?_, ?_, ?_, ?_⟩
    · intro y0
      unfold carrefourlaw18_ShiftEnds.j1
      repeat' first
      | (with_reducible exact ih0 _)
      | (with_reducible exact ih1 _ _)
      | (with_reducible exact ih2 _ _ _)
      | (with_reducible exact ih3 _ _ _ _ _)
      | (with_reducible exact ih4 _ _ _)
      | (with_reducible exact carrefourlaw18_told.mono _)
      | (with_reducible exact shift_Next.mono _ _ _)
      | (with_reducible exact LeO.refl _)
      | (with_reducible exact LeO.none _)
      | (with_reducible refine LeO.ite ?_ ?_)
      | (with_reducible refine LeO.bind ?_ (fun _ => ?_))
      | exact ih0 _
      | exact ih1 _ _
      | exact ih2 _ _ _
      | exact ih3 _ _ _ _ _
      | exact ih4 _ _ _
      | exact carrefourlaw18_told.mono _
      | exact shift_Next.mono _ _ _
      | exact LeO.none _
      | refine LeO.ite ?_ ?_
      | refine LeO.bind ?_ (fun _ => ?_)
    · intro y0 y1
      unfold carrefourlaw18_ShiftEnds.l3
      repeat' first
      | (with_reducible exact ih0 _)
      | (with_reducible exact ih1 _ _)
      | (with_reducible exact ih2 _ _ _)
      | (with_reducible exact ih3 _ _ _ _ _)
      | (with_reducible exact ih4 _ _ _)
      | (with_reducible exact carrefourlaw18_told.mono _)
      | (with_reducible exact shift_Next.mono _ _ _)
      | (with_reducible exact LeO.refl _)
      | (with_reducible exact LeO.none _)
      | (with_reducible refine LeO.ite ?_ ?_)
      | (with_reducible refine LeO.bind ?_ (fun _ => ?_))
      | exact ih0 _
      | exact ih1 _ _
      | exact ih2 _ _ _
      | exact ih3 _ _ _ _ _
      | exact ih4 _ _ _
      | exact carrefourlaw18_told.mono _
      | exact shift_Next.mono _ _ _
      | exact LeO.none _
      | refine LeO.ite ?_ ?_
      | refine LeO.bind ?_ (fun _ => ?_)
    · intro y0 y1 y2
      unfold carrefourlaw18_ShiftEnds.j3
      repeat' first
      | (with_reducible exact ih0 _)
      | (with_reducible exact ih1 _ _)
      | (with_reducible exact ih2 _ _ _)
      | (with_reducible exact ih3 _ _ _ _ _)
      | (with_reducible exact ih4 _ _ _)
      | (with_reducible exact carrefourlaw18_told.mono _)
      | (with_reducible exact shift_Next.mono _ _ _)
      | (with_reducible exact LeO.refl _)
      | (with_reducible exact LeO.none _)
      | (with_reducible refine LeO.ite ?_ ?_)
      | (with_reducible refine LeO.bind ?_ (fun _ => ?_))
      | exact ih0 _
      | exact ih1 _ _
      | exact ih2 _ _ _
      | exact ih3 _ _ _ _ _
      | exact ih4 _ _ _
      | exact carrefourlaw18_told.mono _
      | exact shift_Next.mono _ _ _
      | exact LeO.none _
      | refine LeO.ite ?_ ?_
      | refine LeO.bind ?_ (fun _ => ?_)
    · intro y0 y1 y2 y3 y4
      unfold carrefourlaw18_ShiftEnds.j4
      repeat' first
      | (with_reducible exact ih0 _)
      | (with_reducible exact ih1 _ _)
      | (with_reducible exact ih2 _ _ _)
      | (with_reducible exact ih3 _ _ _ _ _)
      | (with_reducible exact ih4 _ _ _)
      | (with_reducible exact carrefourlaw18_told.mono _)
      | (with_reducible exact shift_Next.mono _ _ _)
      | (with_reducible exact LeO.refl _)
      | (with_reducible exact LeO.none _)
      | (with_reducible refine LeO.ite ?_ ?_)
      | (with_reducible refine LeO.bind ?_ (fun _ => ?_))
      | exact ih0 _
      | exact ih1 _ _
      | exact ih2 _ _ _
      | exact ih3 _ _ _ _ _
      | exact ih4 _ _ _
      | exact carrefourlaw18_told.mono _
      | exact shift_Next.mono _ _ _
      | exact LeO.none _
      | refine LeO.ite ?_ ?_
      | refine LeO.bind ?_ (fun _ => ?_)
    · intro y0 y1 y2
      unfold carrefourlaw18_ShiftEnds.l2
      repeat' first
      | (with_reducible exact ih0 _)
      | (with_reducible exact ih1 _ _)
      | (with_reducible exact ih2 _ _ _)
      | (with_reducible exact ih3 _ _ _ _ _)
      | (with_reducible exact ih4 _ _ _)
      | (with_reducible exact carrefourlaw18_told.mono _)
      | (with_reducible exact shift_Next.mono _ _ _)
      | (with_reducible exact LeO.refl _)
      | (with_reducible exact LeO.none _)
      | (with_reducible refine LeO.ite ?_ ?_)
      | (with_reducible refine LeO.bind ?_ (fun _ => ?_))
      | exact ih0 _
      | exact ih1 _ _
      | exact ih2 _ _ _
      | exact ih3 _ _ _ _ _
      | exact ih4 _ _ _
      | exact carrefourlaw18_told.mono _
      | exact shift_Next.mono _ _ _
      | exact LeO.none _
      | refine LeO.ite ?_ ?_
      | refine LeO.bind ?_ (fun _ => ?_)
theorem carrefourlaw18_ShiftEnds.mono : ∀ a0 k, LeO (carrefourlaw18_ShiftEnds.f k a0) (carrefourlaw18_ShiftEnds.f (k + 1) a0) := by
  intro a0 k
  obtain ⟨ih0, ih1, ih2, ih3, ih4⟩ := carrefourlaw18_ShiftEnds.mono_l k
  unfold carrefourlaw18_ShiftEnds.f
  repeat' first
      | (with_reducible exact ih0 _)
      | (with_reducible exact ih1 _ _)
      | (with_reducible exact ih2 _ _ _)
      | (with_reducible exact ih3 _ _ _ _ _)
      | (with_reducible exact ih4 _ _ _)
      | (with_reducible exact carrefourlaw18_told.mono _)
      | (with_reducible exact shift_Next.mono _ _ _)
      | (with_reducible exact LeO.refl _)
      | (with_reducible exact LeO.none _)
      | (with_reducible refine LeO.ite ?_ ?_)
      | (with_reducible refine LeO.bind ?_ (fun _ => ?_))
      | exact ih0 _
      | exact ih1 _ _
      | exact ih2 _ _ _
      | exact ih3 _ _ _ _ _
      | exact ih4 _ _ _
      | exact carrefourlaw18_told.mono _
      | exact shift_Next.mono _ _ _
      | exact LeO.none _
      | refine LeO.ite ?_ ?_
      | refine LeO.bind ?_ (fun _ => ?_)
set_option maxHeartbeats 8000000 in
set_option maxRecDepth 100000 in
theorem carrefourlaw18_ShiftEnds.calls (k : Nat) (A0 : Option Addr) (c0 : Nat) (l0 : List Int) (r : Bool) (w : World) (hr0 : Kd.C (Kd.int .i64) w A0 l0.length l0) (hc0 : l0.length ≤ c0) (h : carrefourlaw18_ShiftEnds.f k l0 = some r) :
    Calls Try.prog 5 #[.slice A0 l0.length c0] w fun e w' => e = .returned (.bool r) ∧ Drawn0 w w' := by
  have HR0 := Aside0.mk hr0
  have HC0 := Aside0.mk hc0
  clear hr0 hc0
  have H : ((shift_Next.f k 0 1).bind fun bt151 => (carrefourlaw18_ShiftEnds.l2 k l0 bt151.1 0)) = some r := h
  clear h
  replace H := Option.bind_eq_some_iff.mp H
  obtain ⟨⟨t151, t152⟩, A20, H⟩ := H
  replace H : (carrefourlaw18_ShiftEnds.l2 k l0 t151 0) = some r := H
  have A2 := Aside0.mk A20
  clear A20
  have HC3 := Aside0.mk H
  clear H
  go_enter Try.func5, Try.ntmps5
  go_upto_block 0 with (first | ((with_reducible refine gate_callee (f := 8) rfl ?_); refine goesL_ (some 9) rfl rfl Try.func8 (by kernel_rfl) rfl #[.int .i64 0, .int .i64 1] rfl (by (try simp only [List.map_toArray, List.map_cons, List.map_nil]); first | done | rfl | (simp only [List.length_drop, List.length_take]; rfl)) ?_; (with_reducible refine (shift_Next.calls k 0 1 t151 t152 _ A2.out).mono ?_); rintro e w' ⟨rfl, ⟨nd, rfl⟩⟩; refine ⟨_, rfl, ?_⟩))
  (try simp only [Act.put, List.setIfInBounds_toArray, List.set_cons_zero, List.set_cons_succ])
  go_cut [3] (fun v3 wc => ∃ (kq : Nat) (x3_2 : Int), v3 = .int .i64 x3_2 ∧ Aside0 (carrefourlaw18_ShiftEnds.j1 kq x3_2 = some r) ∧ Aside0 (kq ≤ k) ∧ Drawn0 w wc)
  case first =>
    have H := HC3.out
    clear HC3
    have H' := Aside0.mk H
    clear H
    go_wp2
    go_loopg [3, 5] k (fun kq v3 v5 w' => ∃ (x3_1 : Int) (x5_1 : Int), v3 = .int .i64 x3_1 ∧ v5 = .int .i64 x5_1 ∧ Aside0 (carrefourlaw18_ShiftEnds.l2 kq l0 x3_1 x5_1 = some r) ∧ Aside0 (kq ≤ k) ∧ Drawn0 w w')
    case atStart => exact ⟨(t151), (0), (by first | rfl | (simp; done) | (simp [*]; done)), (by first | rfl | (simp; done) | (simp [*]; done)), H', ⟨Nat.le_refl _⟩, by repeat (first | exact Drawn0.refl _ | apply Drawn0.step)⟩
    case round =>
      clear H'
      try clear p2
      obtain ⟨x3_1, x5_1, rfl, rfl, HA, HK1, ⟨m1, rfl⟩⟩ := hrel
      cases gk with
      | zero => exact absurd HA.out (by simp [carrefourlaw18_ShiftEnds.l2])
      | succ k1 =>
        have H := HA.out
        clear HA
        simp only [carrefourlaw18_ShiftEnds.l2] at H
        by_cases c4 : x5_1 < (l0.length : Int)
        · rw [if_pos c4] at H
          have c4b0 : decide (x5_1 < (l0.length : Int)) = true := decide_eq_true c4
          clear c4
          (first | rw [c4b0] | (simp only [i64_w, i32_w]; rw [c4b0]) | skip)
          by_cases c5 : x5_1 < 60
          · rw [if_pos c5] at H
            have c5b0 : decide (x5_1 < 60) = true := decide_eq_true c5
            clear c5
            by_cases c6 : 0 ≤ x5_1
            · rw [if_pos c6] at H
              have c6b0 : decide (0 ≤ x5_1) = true := decide_eq_true c6
              clear c6
              replace H := Option.bind_eq_some_iff.mp H
              obtain ⟨⟨t154, t155⟩, A70, H⟩ := H
              replace H : (carrefourlaw18_ShiftEnds.l2 k1 l0 t154 (wrap64 (x5_1 + 1))) = some r := H
              have A7 := Aside0.mk A70
              clear A70
              have H' := Aside0.mk H
              clear H
              have p153 : 0 ≤ (x5_1 : Int) := of_decide_eq_true (by first | (with_reducible assumption) | assumption)
              have q153 : x5_1 < (l0.length : Int) := of_decide_eq_true (by first | (with_reducible assumption) | assumption)
              obtain ⟨ad153, e153, hx153_0⟩ := Kd.at_int HR0.out x5_1 p153 q153
              cases e153
              replace p153 := eq_true p153
              replace q153 := eq_true q153
              go_wp2_with (first | ((with_reducible refine gate_callee (f := 8) rfl ?_); refine goesL_ (some 32) rfl rfl Try.func8 (by kernel_rfl) rfl #[.int .i64 x3_1, .int .i64 (wrap64 (2 + (wrap64 (Int.tmod (IntKind.u64.wrap (rd l0 x5_1)) 8))))] rfl (by (try simp only [List.map_toArray, List.map_cons, List.map_nil]); first | done | rfl | (simp only [List.length_drop, List.length_take]; rfl)) ?_; (with_reducible refine (shift_Next.calls k1 x3_1 (wrap64 (2 + (wrap64 (Int.tmod (IntKind.u64.wrap (rd l0 x5_1)) 8)))) t154 t155 _ A7.out).mono ?_); rintro e w' ⟨rfl, ⟨nd, rfl⟩⟩; refine ⟨_, rfl, ?_⟩))
              go_roundg k1
              case measure => have := HK1.out; omega
              case rel => exact ⟨(t154), (wrap64 (x5_1 + 1)), (by first | rfl | (simp; done) | (simp [*]; done)), (by first | rfl | (simp; done) | (simp [*]; done)), H', ⟨by have := HK1.out; omega⟩, by repeat (first | exact Drawn0.refl _ | apply Drawn0.step)⟩
            · rw [if_neg c6] at H
              exact absurd H (by simp)
          · rw [if_neg c5] at H
            have c5b0 : decide (x5_1 < 60) = false := decide_eq_false c5
            clear c5
            have H' := Aside0.mk H
            clear H
            go_wp2
            go_meet
            case rel => exact ⟨_, (x3_1), (by first | rfl | (simp; done) | (simp [*]; done)), H', ⟨by have := HK1.out; first | omega | exact Nat.le_refl _⟩, by repeat (first | exact Drawn0.refl _ | apply Drawn0.step)⟩
        · rw [if_neg c4] at H
          have c4b0 : decide (x5_1 < (l0.length : Int)) = false := decide_eq_false c4
          clear c4
          (first | rw [c4b0] | (simp only [i64_w, i32_w]; rw [c4b0]) | skip)
          have H' := Aside0.mk H
          clear H
          go_wp2
          go_meet
          case rel => exact ⟨_, (x3_1), (by first | rfl | (simp; done) | (simp [*]; done)), H', ⟨by have := HK1.out; first | omega | exact Nat.le_refl _⟩, by repeat (first | exact Drawn0.refl _ | apply Drawn0.step)⟩
  case rest =>
    clear HC3
    try clear p1
    try clear q1
    try clear hx1
    try clear p2
    try clear c4
    try clear c4b0
    try clear c5
    try clear c5b0
    try clear c6
    try clear c6b0
    try clear p6
    try clear hx153_0
    try clear p153
    try clear p2
    try clear q153
    obtain ⟨kq, x3_2, rfl, HA, HJ2, ⟨mc2, rfl⟩⟩ := hcut
    cases kq with
    | zero => exact absurd HA.out (by simp [carrefourlaw18_ShiftEnds.j1])
    | succ kj2 =>
      have H := HA.out
      clear HA
      simp only [carrefourlaw18_ShiftEnds.j1] at H
      have H' := Aside0.mk H
      clear H
      go_wp2
      go_loopg [3, 6] kj2 (fun kq v3 v6 w' => ∃ (x3_2 : Int) (x6_2 : Int), v3 = .int .i64 x3_2 ∧ v6 = .int .i64 x6_2 ∧ Aside0 (carrefourlaw18_ShiftEnds.l3 kq x3_2 x6_2 = some r) ∧ Aside0 (kq ≤ kj2) ∧ Drawn0 w w')
      case atStart => exact ⟨(x3_2), (0), (by first | rfl | (simp; done) | (simp [*]; done)), (by first | rfl | (simp; done) | (simp [*]; done)), H', ⟨Nat.le_refl _⟩, by repeat (first | exact Drawn0.refl _ | apply Drawn0.step)⟩
      case round =>
        clear H'
        try clear p1
        try clear q1
        try clear hx1
        try clear c2
        try clear p2
        try clear c4
        try clear c4b0
        try clear c5
        try clear c5b0
        try clear c6
        try clear c6b0
        try clear p6
        try clear hx153_0
        try clear p1
        try clear p153
        try clear p2
        try clear p6
        try clear q1
        try clear q153
        obtain ⟨x3_2, x6_2, rfl, rfl, HA, HK2, ⟨m2, rfl⟩⟩ := hrel
        cases gk with
        | zero => exact absurd HA.out (by simp [carrefourlaw18_ShiftEnds.l3])
        | succ k2 =>
          have H := HA.out
          clear HA
          simp only [carrefourlaw18_ShiftEnds.l3] at H
          have HC8 := Aside0.mk H
          clear H
          go_upto_region 7 with (fail)
          go_cut [41] (fun v41 wc => ∃ (kq : Nat) (x41_7 : Bool), v41 = .bool x41_7 ∧ Aside0 (carrefourlaw18_ShiftEnds.j3 kq x3_2 x6_2 x41_7 = some r) ∧ Aside0 (kq ≤ k2) ∧ Drawn0 w wc)
          case first =>
            have H := HC8.out
            clear HC8
            by_cases c9 : x6_2 < 10
            · rw [if_pos c9] at H
              have c9b0 : decide (x6_2 < 10) = true := decide_eq_true c9
              clear c9
              (first | rw [c9b0] | (simp only [i64_w, i32_w]; rw [c9b0]) | skip)
              replace H := Option.bind_eq_some_iff.mp H
              obtain ⟨t156, A100, H⟩ := H
              replace H : (carrefourlaw18_ShiftEnds.j3 k2 x3_2 x6_2 (!t156)) = some r := H
              have A10 := Aside0.mk A100
              clear A100
              have H' := Aside0.mk H
              clear H
              go_wp2_with (first | (go_at_call 15; (with_reducible refine (shift_Over.calls x3_2 t156 _ A10.out).mono ?_); rintro e w' ⟨rfl, ⟨nd, rfl⟩⟩))
              go_meet
              case rel => exact ⟨_, (!t156), (by first | rfl | (simp; done) | (simp [*]; done)), H', ⟨by have := HJ2.out; have := HK2.out; first | omega | exact Nat.le_refl _⟩, by repeat (first | exact Drawn0.refl _ | apply Drawn0.step)⟩
            · rw [if_neg c9] at H
              have c9b0 : decide (x6_2 < 10) = false := decide_eq_false c9
              clear c9
              (first | rw [c9b0] | (simp only [i64_w, i32_w]; rw [c9b0]) | skip)
              have H' := Aside0.mk H
              clear H
              go_wp2
              go_meet
              case rel => exact ⟨_, (false), (by first | rfl | (simp; done) | (simp [*]; done)), H', ⟨by have := HJ2.out; have := HK2.out; first | omega | exact Nat.le_refl _⟩, by repeat (first | exact Drawn0.refl _ | apply Drawn0.step)⟩
          case rest =>
            clear HC8
            try clear p1
            try clear q1
            try clear hx1
            try clear c2
            try clear p2
            try clear c4
            try clear c4b0
            try clear c5
            try clear c5b0
            try clear c6
            try clear c6b0
            try clear p6
            try clear c8
            try clear c9
            try clear c9b0
            try clear hx153_0
            try clear p1
            try clear p153
            try clear p2
            try clear p6
            try clear q1
            try clear q153
            obtain ⟨kq, x41_7, rfl, HA, HJ7, ⟨mc7, rfl⟩⟩ := hcut
            cases kq with
            | zero => exact absurd HA.out (by simp [carrefourlaw18_ShiftEnds.j3])
            | succ kj7 =>
              have H := HA.out
              clear HA
              simp only [carrefourlaw18_ShiftEnds.j3] at H
              by_cases c11 : x41_7 = true
              · subst c11
                have H1 : (if x3_2 = 1 then ((shift_Next.f kj7 x3_2 2).bind fun bt159 => (carrefourlaw18_ShiftEnds.l3 kj7 bt159.1 (wrap64 (x6_2 + 1)))) else (if x3_2 = 2 then ((shift_Next.f kj7 x3_2 3).bind fun bt161 => (carrefourlaw18_ShiftEnds.l3 kj7 bt161.1 (wrap64 (x6_2 + 1)))) else (if x3_2 = 3 then ((shift_Next.f kj7 x3_2 4).bind fun bt163 => (carrefourlaw18_ShiftEnds.l3 kj7 bt163.1 (wrap64 (x6_2 + 1)))) else (if x3_2 = 4 then ((shift_Next.f kj7 x3_2 5).bind fun bt165 => (carrefourlaw18_ShiftEnds.l3 kj7 bt165.1 (wrap64 (x6_2 + 1)))) else (if x3_2 = 5 then (carrefourlaw18_ShiftEnds.j4 kj7 x3_2 x6_2 9 x3_2 (x3_2 == 5)) else (carrefourlaw18_ShiftEnds.j4 kj7 x3_2 x6_2 9 x3_2 (x3_2 == 6))))))) = some r := by rw [if_pos rfl] at H; exact H
                clear H
                have H := H1
                clear H1
                by_cases c12 : x3_2 = 1
                · rw [if_pos c12] at H
                  have c12b0 : (x3_2 == 1) = true := beq_iff_eq.mpr c12
                  have c12b1 : (x3_2 != 1) = false := bne_eq_false_iff_eq.mpr c12
                  clear c12
                  replace H := Option.bind_eq_some_iff.mp H
                  obtain ⟨⟨t159, t160⟩, A130, H⟩ := H
                  replace H : (carrefourlaw18_ShiftEnds.l3 kj7 t159 (wrap64 (x6_2 + 1))) = some r := H
                  have A13 := Aside0.mk A130
                  clear A130
                  have H' := Aside0.mk H
                  clear H
                  go_wp2_with (first | ((with_reducible refine gate_callee (f := 8) rfl ?_); refine goesL_ (some 61) rfl rfl Try.func8 (by kernel_rfl) rfl #[.int .i64 x3_2, .int .i64 2] rfl (by (try simp only [List.map_toArray, List.map_cons, List.map_nil]); first | done | rfl | (simp only [List.length_drop, List.length_take]; rfl)) ?_; (with_reducible refine (shift_Next.calls kj7 x3_2 2 t159 t160 _ A13.out).mono ?_); rintro e w' ⟨rfl, ⟨nd, rfl⟩⟩; refine ⟨_, rfl, ?_⟩))
                  go_roundg kj7
                  case measure => have := HJ2.out; have := HK2.out; have := HJ7.out; omega
                  case rel => exact ⟨(t159), (wrap64 (x6_2 + 1)), (by first | rfl | (simp; done) | (simp [*]; done)), (by first | rfl | (simp; done) | (simp [*]; done)), H', ⟨by have := HJ2.out; have := HK2.out; have := HJ7.out; omega⟩, by repeat (first | exact Drawn0.refl _ | apply Drawn0.step)⟩
                · rw [if_neg c12] at H
                  have c12b0 : (x3_2 == 1) = false := beq_eq_false_iff_ne.mpr c12
                  have c12b1 : (x3_2 != 1) = true := bne_iff_ne.mpr c12
                  by_cases c14 : x3_2 = 2
                  · rw [if_pos c14] at H
                    have c14b0 : (x3_2 == 2) = true := beq_iff_eq.mpr c14
                    have c14b1 : (x3_2 != 2) = false := bne_eq_false_iff_eq.mpr c14
                    clear c14
                    replace H := Option.bind_eq_some_iff.mp H
                    obtain ⟨⟨t161, t162⟩, A150, H⟩ := H
                    replace H : (carrefourlaw18_ShiftEnds.l3 kj7 t161 (wrap64 (x6_2 + 1))) = some r := H
                    have A15 := Aside0.mk A150
                    clear A150
                    have H' := Aside0.mk H
                    clear H
                    go_wp2_with (first | ((with_reducible refine gate_callee (f := 8) rfl ?_); refine goesL_ (some 61) rfl rfl Try.func8 (by kernel_rfl) rfl #[.int .i64 x3_2, .int .i64 3] rfl (by (try simp only [List.map_toArray, List.map_cons, List.map_nil]); first | done | rfl | (simp only [List.length_drop, List.length_take]; rfl)) ?_; (with_reducible refine (shift_Next.calls kj7 x3_2 3 t161 t162 _ A15.out).mono ?_); rintro e w' ⟨rfl, ⟨nd, rfl⟩⟩; refine ⟨_, rfl, ?_⟩))
                    go_roundg kj7
                    case measure => have := HJ2.out; have := HK2.out; have := HJ7.out; omega
                    case rel => exact ⟨(t161), (wrap64 (x6_2 + 1)), (by first | rfl | (simp; done) | (simp [*]; done)), (by first | rfl | (simp; done) | (simp [*]; done)), H', ⟨by have := HJ2.out; have := HK2.out; have := HJ7.out; omega⟩, by repeat (first | exact Drawn0.refl _ | apply Drawn0.step)⟩
                  · rw [if_neg c14] at H
                    have c14b0 : (x3_2 == 2) = false := beq_eq_false_iff_ne.mpr c14
                    have c14b1 : (x3_2 != 2) = true := bne_iff_ne.mpr c14
                    by_cases c16 : x3_2 = 3
                    · rw [if_pos c16] at H
                      have c16b0 : (x3_2 == 3) = true := beq_iff_eq.mpr c16
                      have c16b1 : (x3_2 != 3) = false := bne_eq_false_iff_eq.mpr c16
                      clear c16
                      replace H := Option.bind_eq_some_iff.mp H
                      obtain ⟨⟨t163, t164⟩, A170, H⟩ := H
                      replace H : (carrefourlaw18_ShiftEnds.l3 kj7 t163 (wrap64 (x6_2 + 1))) = some r := H
                      have A17 := Aside0.mk A170
                      clear A170
                      have H' := Aside0.mk H
                      clear H
                      go_wp2_with (first | ((with_reducible refine gate_callee (f := 8) rfl ?_); refine goesL_ (some 61) rfl rfl Try.func8 (by kernel_rfl) rfl #[.int .i64 x3_2, .int .i64 4] rfl (by (try simp only [List.map_toArray, List.map_cons, List.map_nil]); first | done | rfl | (simp only [List.length_drop, List.length_take]; rfl)) ?_; (with_reducible refine (shift_Next.calls kj7 x3_2 4 t163 t164 _ A17.out).mono ?_); rintro e w' ⟨rfl, ⟨nd, rfl⟩⟩; refine ⟨_, rfl, ?_⟩))
                      go_roundg kj7
                      case measure => have := HJ2.out; have := HK2.out; have := HJ7.out; omega
                      case rel => exact ⟨(t163), (wrap64 (x6_2 + 1)), (by first | rfl | (simp; done) | (simp [*]; done)), (by first | rfl | (simp; done) | (simp [*]; done)), H', ⟨by have := HJ2.out; have := HK2.out; have := HJ7.out; omega⟩, by repeat (first | exact Drawn0.refl _ | apply Drawn0.step)⟩
                    · rw [if_neg c16] at H
                      have c16b0 : (x3_2 == 3) = false := beq_eq_false_iff_ne.mpr c16
                      have c16b1 : (x3_2 != 3) = true := bne_iff_ne.mpr c16
                      by_cases c18 : x3_2 = 4
                      · rw [if_pos c18] at H
                        have c18b0 : (x3_2 == 4) = true := beq_iff_eq.mpr c18
                        have c18b1 : (x3_2 != 4) = false := bne_eq_false_iff_eq.mpr c18
                        clear c18
                        replace H := Option.bind_eq_some_iff.mp H
                        obtain ⟨⟨t165, t166⟩, A190, H⟩ := H
                        replace H : (carrefourlaw18_ShiftEnds.l3 kj7 t165 (wrap64 (x6_2 + 1))) = some r := H
                        have A19 := Aside0.mk A190
                        clear A190
                        have H' := Aside0.mk H
                        clear H
                        go_wp2_with (first | ((with_reducible refine gate_callee (f := 8) rfl ?_); refine goesL_ (some 61) rfl rfl Try.func8 (by kernel_rfl) rfl #[.int .i64 x3_2, .int .i64 5] rfl (by (try simp only [List.map_toArray, List.map_cons, List.map_nil]); first | done | rfl | (simp only [List.length_drop, List.length_take]; rfl)) ?_; (with_reducible refine (shift_Next.calls kj7 x3_2 5 t165 t166 _ A19.out).mono ?_); rintro e w' ⟨rfl, ⟨nd, rfl⟩⟩; refine ⟨_, rfl, ?_⟩))
                        go_roundg kj7
                        case measure => have := HJ2.out; have := HK2.out; have := HJ7.out; omega
                        case rel => exact ⟨(t165), (wrap64 (x6_2 + 1)), (by first | rfl | (simp; done) | (simp [*]; done)), (by first | rfl | (simp; done) | (simp [*]; done)), H', ⟨by have := HJ2.out; have := HK2.out; have := HJ7.out; omega⟩, by repeat (first | exact Drawn0.refl _ | apply Drawn0.step)⟩
                      · rw [if_neg c18] at H
                        have c18b0 : (x3_2 == 4) = false := beq_eq_false_iff_ne.mpr c18
                        have c18b1 : (x3_2 != 4) = true := bne_iff_ne.mpr c18
                        have HC20 := Aside0.mk H
                        clear H
                        go_upto_if 53 with (fail)
                        go_cut [53] (fun v53 wc => ∃ (kq : Nat) (x53_19 : Bool), v53 = .bool x53_19 ∧ Aside0 (carrefourlaw18_ShiftEnds.j4 kq x3_2 x6_2 9 x3_2 x53_19 = some r) ∧ Aside0 (kq ≤ kj7) ∧ Drawn0 w wc)
                        case first =>
                          have H := HC20.out
                          clear HC20
                          by_cases c21 : x3_2 = 5
                          · rw [if_pos c21] at H
                            have c21b0 : (x3_2 == 5) = true := beq_iff_eq.mpr c21
                            have c21b1 : (x3_2 != 5) = false := bne_eq_false_iff_eq.mpr c21
                            clear c21
                            (first | rw [c21b0] | (simp only [i64_w, i32_w]; rw [c21b0]) | skip)
                            have H' := Aside0.mk H
                            clear H
                            go_wp2
                            go_meet
                            case rel => exact ⟨_, ((x3_2 == 5)), (by first | rfl | (simp; done) | (simp [*]; done)), H', ⟨by have := HJ2.out; have := HK2.out; have := HJ7.out; first | omega | exact Nat.le_refl _⟩, by repeat (first | exact Drawn0.refl _ | apply Drawn0.step)⟩
                          · rw [if_neg c21] at H
                            have c21b0 : (x3_2 == 5) = false := beq_eq_false_iff_ne.mpr c21
                            have c21b1 : (x3_2 != 5) = true := bne_iff_ne.mpr c21
                            (first | rw [c21b0] | (simp only [i64_w, i32_w]; rw [c21b0]) | skip)
                            have H' := Aside0.mk H
                            clear H
                            go_wp2
                            go_meet
                            case rel => exact ⟨_, ((x3_2 == 6)), (by first | rfl | (simp; done) | (simp [*]; done)), H', ⟨by have := HJ2.out; have := HK2.out; have := HJ7.out; first | omega | exact Nat.le_refl _⟩, by repeat (first | exact Drawn0.refl _ | apply Drawn0.step)⟩
                        case rest =>
                          clear HC20
                          try clear c1
                          try clear p1
                          try clear q1
                          try clear hx1
                          try clear c2
                          try clear p2
                          try clear c4
                          try clear c4b0
                          try clear c5
                          try clear c5b0
                          try clear c6
                          try clear c6b0
                          try clear p6
                          try clear c7
                          try clear c8
                          try clear c9
                          try clear c9b0
                          try clear c11
                          try clear c12
                          try clear c12b0
                          try clear c12b1
                          try clear c14
                          try clear c14b0
                          try clear c14b1
                          try clear p15
                          try clear q15
                          try clear hx15
                          try clear c16
                          try clear c16b0
                          try clear c16b1
                          try clear c18
                          try clear c18b0
                          try clear c18b1
                          try clear c21
                          try clear c21b0
                          try clear c21b1
                          try clear hx153_0
                          try clear p1
                          try clear p153
                          try clear p2
                          try clear p6
                          try clear q1
                          try clear q153
                          obtain ⟨kq, x53_19, rfl, HA, HJ19, ⟨mc19, rfl⟩⟩ := hcut
                          cases kq with
                          | zero => exact absurd HA.out (by simp [carrefourlaw18_ShiftEnds.j4])
                          | succ kj19 =>
                            have H := HA.out
                            clear HA
                            simp only [carrefourlaw18_ShiftEnds.j4] at H
                            by_cases c22 : x53_19 = true
                            · subst c22
                              have H1 : ((shift_Next.f kj19 x3_2 6).bind fun bt167 => (carrefourlaw18_ShiftEnds.l3 kj19 bt167.1 (wrap64 (x6_2 + 1)))) = some r := by rw [if_pos rfl] at H; exact H
                              clear H
                              have H := H1
                              clear H1
                              replace H := Option.bind_eq_some_iff.mp H
                              obtain ⟨⟨t167, t168⟩, A230, H⟩ := H
                              replace H : (carrefourlaw18_ShiftEnds.l3 kj19 t167 (wrap64 (x6_2 + 1))) = some r := H
                              have A23 := Aside0.mk A230
                              clear A230
                              have H' := Aside0.mk H
                              clear H
                              go_wp2_with (first | ((with_reducible refine gate_callee (f := 8) rfl ?_); refine goesL_ (some 61) rfl rfl Try.func8 (by kernel_rfl) rfl #[.int .i64 x3_2, .int .i64 6] rfl (by (try simp only [List.map_toArray, List.map_cons, List.map_nil]); first | done | rfl | (simp only [List.length_drop, List.length_take]; rfl)) ?_; (with_reducible refine (shift_Next.calls kj19 x3_2 6 t167 t168 _ A23.out).mono ?_); rintro e w' ⟨rfl, ⟨nd, rfl⟩⟩; refine ⟨_, rfl, ?_⟩))
                              go_roundg kj19
                              case measure => have := HJ2.out; have := HK2.out; have := HJ7.out; have := HJ19.out; omega
                              case rel => exact ⟨(t167), (wrap64 (x6_2 + 1)), (by first | rfl | (simp; done) | (simp [*]; done)), (by first | rfl | (simp; done) | (simp [*]; done)), H', ⟨by have := HJ2.out; have := HK2.out; have := HJ7.out; have := HJ19.out; omega⟩, by repeat (first | exact Drawn0.refl _ | apply Drawn0.step)⟩
                            · replace c22 := Bool.eq_false_iff.mpr c22
                              subst c22
                              have H1 : (if x3_2 = 8 then ((shift_Next.f kj19 x3_2 7).bind fun bt169 => (carrefourlaw18_ShiftEnds.l3 kj19 bt169.1 (wrap64 (x6_2 + 1)))) else ((shift_Next.f kj19 x3_2 9).bind fun bt171 => (carrefourlaw18_ShiftEnds.l3 kj19 bt171.1 (wrap64 (x6_2 + 1))))) = some r := by rw [if_neg (show ¬ (false = true) by decide)] at H; exact H
                              clear H
                              have H := H1
                              clear H1
                              by_cases c24 : x3_2 = 8
                              · rw [if_pos c24] at H
                                have c24b0 : (x3_2 == 8) = true := beq_iff_eq.mpr c24
                                have c24b1 : (x3_2 != 8) = false := bne_eq_false_iff_eq.mpr c24
                                clear c24
                                replace H := Option.bind_eq_some_iff.mp H
                                obtain ⟨⟨t169, t170⟩, A250, H⟩ := H
                                replace H : (carrefourlaw18_ShiftEnds.l3 kj19 t169 (wrap64 (x6_2 + 1))) = some r := H
                                have A25 := Aside0.mk A250
                                clear A250
                                have H' := Aside0.mk H
                                clear H
                                go_wp2_with (first | ((with_reducible refine gate_callee (f := 8) rfl ?_); refine goesL_ (some 61) rfl rfl Try.func8 (by kernel_rfl) rfl #[.int .i64 x3_2, .int .i64 7] rfl (by (try simp only [List.map_toArray, List.map_cons, List.map_nil]); first | done | rfl | (simp only [List.length_drop, List.length_take]; rfl)) ?_; (with_reducible refine (shift_Next.calls kj19 x3_2 7 t169 t170 _ A25.out).mono ?_); rintro e w' ⟨rfl, ⟨nd, rfl⟩⟩; refine ⟨_, rfl, ?_⟩))
                                go_roundg kj19
                                case measure => have := HJ2.out; have := HK2.out; have := HJ7.out; have := HJ19.out; omega
                                case rel => exact ⟨(t169), (wrap64 (x6_2 + 1)), (by first | rfl | (simp; done) | (simp [*]; done)), (by first | rfl | (simp; done) | (simp [*]; done)), H', ⟨by have := HJ2.out; have := HK2.out; have := HJ7.out; have := HJ19.out; omega⟩, by repeat (first | exact Drawn0.refl _ | apply Drawn0.step)⟩
                              · rw [if_neg c24] at H
                                have c24b0 : (x3_2 == 8) = false := beq_eq_false_iff_ne.mpr c24
                                have c24b1 : (x3_2 != 8) = true := bne_iff_ne.mpr c24
                                replace H := Option.bind_eq_some_iff.mp H
                                obtain ⟨⟨t171, t172⟩, A260, H⟩ := H
                                replace H : (carrefourlaw18_ShiftEnds.l3 kj19 t171 (wrap64 (x6_2 + 1))) = some r := H
                                have A26 := Aside0.mk A260
                                clear A260
                                have H' := Aside0.mk H
                                clear H
                                go_wp2_with (first | ((with_reducible refine gate_callee (f := 8) rfl ?_); refine goesL_ (some 61) rfl rfl Try.func8 (by kernel_rfl) rfl #[.int .i64 x3_2, .int .i64 9] rfl (by (try simp only [List.map_toArray, List.map_cons, List.map_nil]); first | done | rfl | (simp only [List.length_drop, List.length_take]; rfl)) ?_; (with_reducible refine (shift_Next.calls kj19 x3_2 9 t171 t172 _ A26.out).mono ?_); rintro e w' ⟨rfl, ⟨nd, rfl⟩⟩; refine ⟨_, rfl, ?_⟩))
                                go_roundg kj19
                                case measure => have := HJ2.out; have := HK2.out; have := HJ7.out; have := HJ19.out; omega
                                case rel => exact ⟨(t171), (wrap64 (x6_2 + 1)), (by first | rfl | (simp; done) | (simp [*]; done)), (by first | rfl | (simp; done) | (simp [*]; done)), H', ⟨by have := HJ2.out; have := HK2.out; have := HJ7.out; have := HJ19.out; omega⟩, by repeat (first | exact Drawn0.refl _ | apply Drawn0.step)⟩
              · replace c11 := Bool.eq_false_iff.mpr c11
                subst c11
                have H1 : ((carrefourlaw18_told.f kj7).bind fun t157 => (if t157 = true then ((shift_Over.f x3_2).bind fun t158 => (some t158)) else (some false))) = some r := by rw [if_neg (show ¬ (false = true) by decide)] at H; exact H
                clear H
                have H := H1
                clear H1
                replace H := Option.bind_eq_some_iff.mp H
                obtain ⟨t157, A270, H⟩ := H
                replace H : (if t157 = true then ((shift_Over.f x3_2).bind fun t158 => (some t158)) else (some false)) = some r := H
                have A27 := Aside0.mk A270
                clear A270
                by_cases c28 : t157 = true
                · subst c28
                  have H1 : ((shift_Over.f x3_2).bind fun t158 => (some t158)) = some r := by rw [if_pos rfl] at H; exact H
                  clear H
                  have H := H1
                  clear H1
                  replace H := Option.bind_eq_some_iff.mp H
                  obtain ⟨t158, A290, H⟩ := H
                  replace H : (some t158) = some r := H
                  have A29 := Aside0.mk A290
                  clear A290
                  obtain rfl := Option.some.inj H
                  go_wp2_with (first | ((with_reducible refine gate_callee (f := 10) rfl ?_); refine goesL_ (some 64) rfl rfl Try.func10 (by kernel_rfl) rfl #[] rfl (by (try simp only [List.map_toArray, List.map_cons, List.map_nil]); first | done | rfl | (simp only [List.length_drop, List.length_take]; rfl)) ?_; (with_reducible refine (carrefourlaw18_told.calls kj7  true _ A27.out).mono ?_); rintro e w' ⟨rfl, ⟨nd, rfl⟩⟩; refine ⟨_, rfl, ?_⟩) | (go_at_call 15; (with_reducible refine (shift_Over.calls x3_2 t158 _ A29.out).mono ?_); rintro e w' ⟨rfl, ⟨nd, rfl⟩⟩))
                  go_ret
                  exact ⟨by first | rfl | (simp; done) | (simp [*]; done), by repeat (first | exact Drawn0.refl _ | apply Drawn0.step)⟩
                · replace c28 := Bool.eq_false_iff.mpr c28
                  subst c28
                  have H1 : (some false) = some r := by rw [if_neg (show ¬ (false = true) by decide)] at H; exact H
                  clear H
                  have H := H1
                  clear H1
                  obtain rfl := Option.some.inj H
                  go_wp2_with (first | ((with_reducible refine gate_callee (f := 10) rfl ?_); refine goesL_ (some 64) rfl rfl Try.func10 (by kernel_rfl) rfl #[] rfl (by (try simp only [List.map_toArray, List.map_cons, List.map_nil]); first | done | rfl | (simp only [List.length_drop, List.length_take]; rfl)) ?_; (with_reducible refine (carrefourlaw18_told.calls kj7  false _ A27.out).mono ?_); rintro e w' ⟨rfl, ⟨nd, rfl⟩⟩; refine ⟨_, rfl, ?_⟩))
                  go_ret
                  exact ⟨by first | rfl | (simp; done) | (simp [*]; done), by repeat (first | exact Drawn0.refl _ | apply Drawn0.step)⟩

/-- THE ONE PURE STATEMENT of carrefourlaw18_ShiftEnds: yours. -/
def carrefourlaw18_ShiftEnds.Pure : Prop := ∀ (l0 : List Int), l0.length ≤ maxLen → l0.length * 8 ≤ 140737488351232 → (∀ x ∈ l0, (Lit.int .i64 x).wf = true) → ∃ k, carrefourlaw18_ShiftEnds.f k l0 = some true
theorem carrefourlaw18_ShiftEnds.walk (P : carrefourlaw18_ShiftEnds.Pure) (a0 : Option Addr) (len0 cap0 : Nat) (z0 : List Int) (w : World) (w0 : (a0 = none ∧ len0 = 0 ∧ cap0 = 0 ∧ z0 = []) ∨ ∃ x, a0 = some x ∧ len0 ≤ cap0 ∧ cap0 ≤ maxLen ∧ z0.length = cap0 ∧ (∀ i, i < z0.length → w.cell? (x.add i) = some (.int .i64 (z0.getD i 0))) ∧ ∀ n ∈ z0, (Lit.int .i64 n).wf = true) (y0 : len0 * 8 ≤ 140737488351232) :
    Calls Try.prog 5 #[.slice a0 len0 cap0] w fun e w' => e = .returned (.bool true) ∧ Below w.heap.size w w' := by
  obtain ⟨l0, rfl, hr0, hm0, hw0, hc0⟩ := ReadsInt.ofRowC w0
  obtain ⟨k, h⟩ := P l0 hm0 y0 hw0
  refine (carrefourlaw18_ShiftEnds.calls k _ _ l0 true w (Kd.C_of_reads (d := (0 : Int)) (h1 := fun _ => rfl) hr0) hc0 h).mono ?_
  rintro e w' ⟨rfl, hd⟩
  exact ⟨rfl, hd.below⟩

end Go.Proofs.Ytladmbjfnkmlnaa.PGp
