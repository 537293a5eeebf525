-- Written by gprint.py, this session's own program, out of Lean's print of the translation: functions with the same answers, and proofs that the Go code comes to them. Lean checks it all.
import Derived.Test.YtcfideolgkjhmaaPGqx0
import Derived.Test.YtcfideolgkjhmaaPGqx1
import Derived.Test.YtcfideolgkjhmaaPGqx3
import Derived.Test.YtcfideolgkjhmaaPGqx6
namespace Go.Proofs.Ytcfideolgkjhmaa.PGq
open Go.RowKit Go.Proofs.YtcfideolgkjhmaaW.PrintWords Go.Proofs.YtcfideolgkjhmaaW.PrintLast Go.Proofs.YtcfideolgkjhmaaW.PrintMore Go.Proofs.YtcfideolgkjhmaaG
attribute [local go_sem] max2_int min2_int max_two min_two max_three min_three max_four min_four   -- for this text's walks alone
set_option linter.unusedVariables false
set_option linter.unusedSimpArgs false

/-! ### carrefourlaw4_FrameRows: function 7 -/
mutual
def carrefourlaw4_FrameRows.l3 : Nat → List (S24) → Int → List Int → List Int → Int → Option (Bool)
  | 0, _, _, _, _, _ => none
  | k + 1, x0, x1, x5, x6, x7 => if x7 < (x0.length : Int) then (if 0 ≤ x7 then (if (((rd_T24 x0 x7).f2).length : Int) > 300 then ((carrefourlaw4_told.f k).bind fun t299 => (some t299)) else ((frame_Put.f k ((rd_T24 x0 x7).f0) ((rd_T24 x0 x7).f1) ((rd_T24 x0 x7).f2)).bind fun bt301 => (if bt301.2 = 0 then (if x5.length + bt301.1.length < 140737488355328 then ((some (x5 ++ bt301.1 : List Int)).bind fun y305 => (if x6.length < 17592186044416 then (carrefourlaw4_FrameRows.l3 k x0 x1 y305 (x6 ++ [(y305.length : Int)]) (wrap64 (x7 + 1))) else (none))) else (none)) else ((carrefourlaw4_told.f k).bind fun t311 => (some t311))))) else (none)) else (if (IntKind.u64.wrap (wrap64 ((x5.length : Int) + 1))) = 0 then (none) else (if 0 ≤ (wrap64 (Int.tmod (IntKind.u64.wrap (x1)) (IntKind.u64.wrap (wrap64 ((x5.length : Int) + 1))))) then (if (wrap64 (Int.tmod (IntKind.u64.wrap (x1)) (IntKind.u64.wrap (wrap64 ((x5.length : Int) + 1))))) ≤ (x5.length : Int) then ((frame_All.f k (x5.take ((wrap64 (Int.tmod (IntKind.u64.wrap (x1)) (IntKind.u64.wrap (wrap64 ((x5.length : Int) + 1))))) : Int).toNat)).bind fun bt316 => (carrefourlaw4_FrameRows.l4 k x0 x6 (wrap64 (Int.tmod (IntKind.u64.wrap (x1)) (IntKind.u64.wrap (wrap64 ((x5.length : Int) + 1))))) bt316.1 bt316.2.1 bt316.2.2 0 0)) else (none)) else (none)))
def carrefourlaw4_FrameRows.l4 : Nat → List (S24) → List Int → Int → List (S24) → Int → Int → Int → Int → Option (Bool)
  | 0, _, _, _, _, _, _, _, _ => none
  | k + 1, x0, x6, x10, x11, x12, x13, x14, x15 => if x14 < (x0.length : Int) then (if 0 ≤ x14 then (if x14 < (x6.length : Int) then (carrefourlaw4_FrameRows.j2 k x0 x6 x10 x11 x12 x13 x14 x15 (decide ((rd x6 x14) ≤ x10))) else (none)) else (none)) else (carrefourlaw4_FrameRows.j2 k x0 x6 x10 x11 x12 x13 x14 x15 false)
def carrefourlaw4_FrameRows.j2 : Nat → List (S24) → List Int → Int → List (S24) → Int → Int → Int → Int → Bool → Option (Bool)
  | 0, _, _, _, _, _, _, _, _, _ => none
  | k + 1, x0, x6, x10, x11, x12, x13, x14, x15, x81 => if x81 = true then (if 0 ≤ x14 then (if x14 < (x6.length : Int) then (carrefourlaw4_FrameRows.l4 k x0 x6 x10 x11 x12 x13 (wrap64 (x14 + 1)) (rd x6 x14)) else (none)) else (none)) else (if (x11.length : Int) = x14 then (if x12 = x15 then (if x13 = 0 then (if x15 = x10 then (carrefourlaw4_FrameRows.j3 k x0 x11 x14 false) else (carrefourlaw4_FrameRows.j3 k x0 x11 x14 true)) else (if x15 = x10 then (carrefourlaw4_FrameRows.j3 k x0 x11 x14 true) else (carrefourlaw4_FrameRows.j3 k x0 x11 x14 (x13 != 3)))) else (carrefourlaw4_FrameRows.j3 k x0 x11 x14 true)) else (carrefourlaw4_FrameRows.j3 k x0 x11 x14 true))
def carrefourlaw4_FrameRows.j3 : Nat → List (S24) → List (S24) → Int → Bool → Option (Bool)
  | 0, _, _, _, _ => none
  | k + 1, x0, x11, x14, x112 => if x112 = true then (some false) else (carrefourlaw4_FrameRows.l5 k x0 x11 x14 0)
def carrefourlaw4_FrameRows.l5 : Nat → List (S24) → List (S24) → Int → Int → Option (Bool)
  | 0, _, _, _, _ => none
  | k + 1, x0, x11, x14, x16 => if x16 < x14 then (if 0 ≤ x16 then (if x16 < (x11.length : Int) then (if x16 < (x0.length : Int) then ((frame_Same.f ((rd_T24 x11 x16).f0) ((rd_T24 x11 x16).f1) ((rd_T24 x11 x16).f2) ((rd_T24 x0 x16).f0) ((rd_T24 x0 x16).f1) ((rd_T24 x0 x16).f2)).bind fun t325 => (if t325 = true then (carrefourlaw4_FrameRows.l5 k x0 x11 x14 (wrap64 (x16 + 1))) else (some false))) else (none)) else (none)) else (none)) else ((carrefourlaw4_told.f k).bind fun t326 => (some t326))
end
def carrefourlaw4_FrameRows.f (k : Nat) (l0 : List (S24)) (a1 : Int) : Option (Bool) := if (l0.length : Int) > 10 then ((carrefourlaw4_told.f k).bind fun t297 => (some t297)) else (carrefourlaw4_FrameRows.l3 k l0 a1 ([] : List Int) ([] : List Int) 0)
theorem carrefourlaw4_FrameRows.mono_l : ∀ k, (∀ y0 y1 y2 y3 y4, LeO (carrefourlaw4_FrameRows.l3 k y0 y1 y2 y3 y4) (carrefourlaw4_FrameRows.l3 (k + 1) y0 y1 y2 y3 y4)) ∧ (∀ y0 y1 y2 y3 y4 y5 y6 y7, LeO (carrefourlaw4_FrameRows.l4 k y0 y1 y2 y3 y4 y5 y6 y7) (carrefourlaw4_FrameRows.l4 (k + 1) y0 y1 y2 y3 y4 y5 y6 y7)) ∧ (∀ y0 y1 y2 y3 y4 y5 y6 y7 y8, LeO (carrefourlaw4_FrameRows.j2 k y0 y1 y2 y3 y4 y5 y6 y7 y8) (carrefourlaw4_FrameRows.j2 (k + 1) y0 y1 y2 y3 y4 y5 y6 y7 y8)) ∧ (∀ y0 y1 y2 y3, LeO (carrefourlaw4_FrameRows.j3 k y0 y1 y2 y3) (carrefourlaw4_FrameRows.j3 (k + 1) y0 y1 y2 y3)) ∧ (∀ y0 y1 y2 y3, LeO (carrefourlaw4_FrameRows.l5 k y0 y1 y2 y3) (carrefourlaw4_FrameRows.l5 (k + 1) y0 y1 y2 y3))
  | 0 => ⟨fun _ _ _ _ _ r h => by simp [carrefourlaw4_FrameRows.l3] at h, fun _ _ _ _ _ _ _ _ r h => by simp [carrefourlaw4_FrameRows.l4] at h, fun _ _ _ _ _ _ _ _ _ r h => by simp [carrefourlaw4_FrameRows.j2] at h, fun _ _ _ _ r h => by simp [carrefourlaw4_FrameRows.j3] at h, fun _ _ _ _ r h => by simp [carrefourlaw4_FrameRows.l5] at h⟩
  | k + 1 => by
    obtain ⟨ih0, ih1, ih2, ih3, ih4⟩ := carrefourlaw4_FrameRows.mono_l k
    refine ⟨?_, ?_, ?_, ?_, ?_⟩
    · intro y0 y1 y2 y3 y4
      unfold carrefourlaw4_FrameRows.l3
      repeat' first
      | (with_reducible exact ih0 _ _ _ _ _)
      | (with_reducible exact ih1 _ _ _ _ _ _ _ _)
      | (with_reducible exact ih2 _ _ _ _ _ _ _ _ _)
      | (with_reducible exact ih3 _ _ _ _)
      | (with_reducible exact ih4 _ _ _ _)
      | (with_reducible exact carrefourlaw4_told.mono _)
      | (with_reducible exact frame_All.mono _ _)
      | (with_reducible exact frame_Put.mono _ _ _ _)
      | (with_reducible exact LeO.refl _)
      | (with_reducible exact LeO.none _)
      | (with_reducible refine LeO.ite ?_ ?_)
      | (with_reducible refine LeO.bind ?_ (fun _ => ?_))
      | exact ih0 _ _ _ _ _
      | exact ih1 _ _ _ _ _ _ _ _
      | exact ih2 _ _ _ _ _ _ _ _ _
      | exact ih3 _ _ _ _
      | exact ih4 _ _ _ _
      | exact carrefourlaw4_told.mono _
      | exact frame_All.mono _ _
      | exact frame_Put.mono _ _ _ _
      | exact LeO.none _
      | refine LeO.ite ?_ ?_
      | refine LeO.bind ?_ (fun _ => ?_)
    · intro y0 y1 y2 y3 y4 y5 y6 y7
      unfold carrefourlaw4_FrameRows.l4
      repeat' first
      | (with_reducible exact ih0 _ _ _ _ _)
      | (with_reducible exact ih1 _ _ _ _ _ _ _ _)
      | (with_reducible exact ih2 _ _ _ _ _ _ _ _ _)
      | (with_reducible exact ih3 _ _ _ _)
      | (with_reducible exact ih4 _ _ _ _)
      | (with_reducible exact carrefourlaw4_told.mono _)
      | (with_reducible exact frame_All.mono _ _)
      | (with_reducible exact frame_Put.mono _ _ _ _)
      | (with_reducible exact LeO.refl _)
      | (with_reducible exact LeO.none _)
      | (with_reducible refine LeO.ite ?_ ?_)
      | (with_reducible refine LeO.bind ?_ (fun _ => ?_))
      | exact ih0 _ _ _ _ _
      | exact ih1 _ _ _ _ _ _ _ _
      | exact ih2 _ _ _ _ _ _ _ _ _
      | exact ih3 _ _ _ _
      | exact ih4 _ _ _ _
      | exact carrefourlaw4_told.mono _
      | exact frame_All.mono _ _
      | exact frame_Put.mono _ _ _ _
      | exact LeO.none _
      | refine LeO.ite ?_ ?_
      | refine LeO.bind ?_ (fun _ => ?_)
    · intro y0 y1 y2 y3 y4 y5 y6 y7 y8
      unfold carrefourlaw4_FrameRows.j2
      repeat' first
      | (with_reducible exact ih0 _ _ _ _ _)
      | (with_reducible exact ih1 _ _ _ _ _ _ _ _)
      | (with_reducible exact ih2 _ _ _ _ _ _ _ _ _)
      | (with_reducible exact ih3 _ _ _ _)
      | (with_reducible exact ih4 _ _ _ _)
      | (with_reducible exact carrefourlaw4_told.mono _)
      | (with_reducible exact frame_All.mono _ _)
      | (with_reducible exact frame_Put.mono _ _ _ _)
      | (with_reducible exact LeO.refl _)
      | (with_reducible exact LeO.none _)
      | (with_reducible refine LeO.ite ?_ ?_)
      | (with_reducible refine LeO.bind ?_ (fun _ => ?_))
      | exact ih0 _ _ _ _ _
      | exact ih1 _ _ _ _ _ _ _ _
      | exact ih2 _ _ _ _ _ _ _ _ _
      | exact ih3 _ _ _ _
      | exact ih4 _ _ _ _
      | exact carrefourlaw4_told.mono _
      | exact frame_All.mono _ _
      | exact frame_Put.mono _ _ _ _
      | exact LeO.none _
      | refine LeO.ite ?_ ?_
      | refine LeO.bind ?_ (fun _ => ?_)
    · intro y0 y1 y2 y3
      unfold carrefourlaw4_FrameRows.j3
      repeat' first
      | (with_reducible exact ih0 _ _ _ _ _)
      | (with_reducible exact ih1 _ _ _ _ _ _ _ _)
      | (with_reducible exact ih2 _ _ _ _ _ _ _ _ _)
      | (with_reducible exact ih3 _ _ _ _)
      | (with_reducible exact ih4 _ _ _ _)
      | (with_reducible exact carrefourlaw4_told.mono _)
      | (with_reducible exact frame_All.mono _ _)
      | (with_reducible exact frame_Put.mono _ _ _ _)
      | (with_reducible exact LeO.refl _)
      | (with_reducible exact LeO.none _)
      | (with_reducible refine LeO.ite ?_ ?_)
      | (with_reducible refine LeO.bind ?_ (fun _ => ?_))
      | exact ih0 _ _ _ _ _
      | exact ih1 _ _ _ _ _ _ _ _
      | exact ih2 _ _ _ _ _ _ _ _ _
      | exact ih3 _ _ _ _
      | exact ih4 _ _ _ _
      | exact carrefourlaw4_told.mono _
      | exact frame_All.mono _ _
      | exact frame_Put.mono _ _ _ _
      | exact LeO.none _
      | refine LeO.ite ?_ ?_
      | refine LeO.bind ?_ (fun _ => ?_)
    · intro y0 y1 y2 y3
      unfold carrefourlaw4_FrameRows.l5
      repeat' first
      | (with_reducible exact ih0 _ _ _ _ _)
      | (with_reducible exact ih1 _ _ _ _ _ _ _ _)
      | (with_reducible exact ih2 _ _ _ _ _ _ _ _ _)
      | (with_reducible exact ih3 _ _ _ _)
      | (with_reducible exact ih4 _ _ _ _)
      | (with_reducible exact carrefourlaw4_told.mono _)
      | (with_reducible exact frame_All.mono _ _)
      | (with_reducible exact frame_Put.mono _ _ _ _)
      | (with_reducible exact LeO.refl _)
      | (with_reducible exact LeO.none _)
      | (with_reducible refine LeO.ite ?_ ?_)
      | (with_reducible refine LeO.bind ?_ (fun _ => ?_))
      | exact ih0 _ _ _ _ _
      | exact ih1 _ _ _ _ _ _ _ _
      | exact ih2 _ _ _ _ _ _ _ _ _
      | exact ih3 _ _ _ _
      | exact ih4 _ _ _ _
      | exact carrefourlaw4_told.mono _
      | exact frame_All.mono _ _
      | exact frame_Put.mono _ _ _ _
      | exact LeO.none _
      | refine LeO.ite ?_ ?_
      | refine LeO.bind ?_ (fun _ => ?_)
theorem carrefourlaw4_FrameRows.mono : ∀ a0 a1 k, LeO (carrefourlaw4_FrameRows.f k a0 a1) (carrefourlaw4_FrameRows.f (k + 1) a0 a1) := by
  intro a0 a1 k
  obtain ⟨ih0, ih1, ih2, ih3, ih4⟩ := carrefourlaw4_FrameRows.mono_l k
  unfold carrefourlaw4_FrameRows.f
  repeat' first
      | (with_reducible exact ih0 _ _ _ _ _)
      | (with_reducible exact ih1 _ _ _ _ _ _ _ _)
      | (with_reducible exact ih2 _ _ _ _ _ _ _ _ _)
      | (with_reducible exact ih3 _ _ _ _)
      | (with_reducible exact ih4 _ _ _ _)
      | (with_reducible exact carrefourlaw4_told.mono _)
      | (with_reducible exact frame_All.mono _ _)
      | (with_reducible exact frame_Put.mono _ _ _ _)
      | (with_reducible exact LeO.refl _)
      | (with_reducible exact LeO.none _)
      | (with_reducible refine LeO.ite ?_ ?_)
      | (with_reducible refine LeO.bind ?_ (fun _ => ?_))
      | exact ih0 _ _ _ _ _
      | exact ih1 _ _ _ _ _ _ _ _
      | exact ih2 _ _ _ _ _ _ _ _ _
      | exact ih3 _ _ _ _
      | exact ih4 _ _ _ _
      | exact carrefourlaw4_told.mono _
      | exact frame_All.mono _ _
      | exact frame_Put.mono _ _ _ _
      | exact LeO.none _
      | refine LeO.ite ?_ ?_
      | refine LeO.bind ?_ (fun _ => ?_)
def carrefourlaw4_FrameRows.T26 : Bool × List (List Nat × List Nat) := (true, [([], []), ([], []), ([0, 1], [0, 1]), ([2], [2]), ([], []), ([], []), ([4, 5], [4, 5]), ([6], [6]), ([3, 7], [3, 7]), ([8], [8])])
def carrefourlaw4_FrameRows.B26 : List Nat := [0, 0, 3, 7, 0, 0, 48, 112, 255, 511]
theorem carrefourlaw4_FrameRows.tab26 : rtab .any (opsOf Try.f7 26) = carrefourlaw4_FrameRows.T26 := by kernel_rfl
theorem carrefourlaw4_FrameRows.bits26 : waitsOk carrefourlaw4_FrameRows.T26.2 carrefourlaw4_FrameRows.B26 = true := by kernel_rfl
set_option maxHeartbeats 8000000 in
set_option maxRecDepth 100000 in
theorem carrefourlaw4_FrameRows.calls (k : Nat) (A0 : Option Addr) (c0 : Nat) (l0 : List (S24)) (a1 : Int) (r : Bool) (w : World) (hr0 : Kd.C k24 w A0 l0.length l0) (hc0 : l0.length ≤ c0) (hrt : r = true) (h : carrefourlaw4_FrameRows.f k l0 a1 = some r) :
    Calls Try.prog 7 #[.slice A0 l0.length c0, .int .i64 a1] w fun e w' => e = .returned (.bool r) ∧ Below w.heap.size w w' := by
  have hu24 := Try.underlying24
  have HRT := Aside0.mk hrt
  clear hrt
  have HR0 := Aside0.mk hr0
  have HC0 := Aside0.mk hc0
  clear hr0 hc0
  have HB := Aside0.mk (Below.refl w.heap.size w)
  have H : (if (l0.length : Int) > 10 then ((carrefourlaw4_told.f k).bind fun t297 => (some t297)) else (carrefourlaw4_FrameRows.l3 k l0 a1 ([] : List Int) ([] : List Int) 0)) = some r := h
  clear h
  by_cases c3 : (l0.length : Int) > 10
  ·rw [if_pos c3] at H
   have c3b0 : decide (10 < (l0.length : Int)) = true := decide_eq_true c3
   have c3b1 : decide (10 < l0.length) = true := decide_eq_true (by omega)
   clear c3
   replace H := Option.bind_eq_some_iff.mp H
   obtain ⟨t297, A40, H⟩ := H
   replace H : (some t297) = some r := H
   have A4 := Aside0.mk A40
   clear A40
   clear HRT
   obtain rfl := Option.some.inj H
   go_enter Try.func7, Try.ntmps7
   go_wp2_with (first | ((with_reducible refine gate_callee (f := 9) rfl ?_); refine goesL_ (some 20) rfl rfl Try.func9 (by kernel_rfl) rfl #[] rfl (by (try simp only [List.map_toArray, List.map_cons, List.map_nil]); first | done | rfl | (simp only [List.length_drop, List.length_take]; rfl)) ?_; (with_reducible refine (carrefourlaw4_told.calls k  t297 _ A4.out).mono ?_); rintro e w5 ⟨rfl, hb⟩; refine ⟨_, rfl, ?_⟩; have n0_ := Aside0.mk (below_step (by repeat (first | (with_reducible first | exact HB.out | apply below_alloc | apply pw_below_drewN | apply below_drew1) | exact HB.out)) hb); clear HB; have HB := n0_; clear n0_; (try clear hb); (try clear hb2); (try clear hk); (try clear hi)))
   go_ret
   exact ⟨by first | rfl | (simp [errW_none, errW_some] <;> rfl) | (simp [*, errW_none, errW_some] <;> rfl), by repeat (first | (with_reducible first | exact HB.out | apply below_alloc | apply pw_below_drewN | apply below_drew1) | exact HB.out)⟩
  ·rw [if_neg c3] at H
   have c3b0 : decide (10 < (l0.length : Int)) = false := decide_eq_false c3
   have c3b1 : decide (10 < l0.length) = false := decide_eq_false (by omega)
   clear c3
   have H' := Aside0.mk H
   clear H
   go_enter Try.func7, Try.ntmps7
   go_wp2
   go_loopg [5, 6, 7] k (fun kq v5 v6 v7 w' => ∃ (x5_1 : List Int) (x6_1 : List Int) (x7_1 : Int), v7 = .int .i64 x7_1 ∧ Aside0 (carrefourlaw4_FrameRows.l3 kq l0 a1 x5_1 x6_1 x7_1 = some r) ∧ Aside0 (kq ≤ k) ∧ Aside0 (Kd.R (Kd.int .u8) 5 w' w.heap.size (fun _ => True) v5 x5_1) ∧ Aside0 (Kd.R (Kd.int .i64) 3 w' w.heap.size (fun _ => True) v6 x6_1) ∧ Aside0 (Below w.heap.size w w'))
   case atStart => exact ⟨(([] : List Int)), (([] : List Int)), (0), (by first | rfl | (simp; done) | (simp [*]; done)), H', ⟨Nat.le_refl _⟩, ⟨by first | exact Kd.R_nil _ _ _ _ _ | exact Kd.N_nil _ _ _ _ _ | exact Kd.V_nil _ _ _ _ _ | exact Kd.Q_nil _ _ _ _ _ | exact Kd.S_nil _ _ _ _ _⟩, ⟨by first | exact Kd.R_nil _ _ _ _ _ | exact Kd.N_nil _ _ _ _ _ | exact Kd.V_nil _ _ _ _ _ | exact Kd.Q_nil _ _ _ _ _ | exact Kd.S_nil _ _ _ _ _⟩, ⟨by repeat (first | (with_reducible first | exact HB.out | apply below_alloc | apply pw_below_drewN | apply below_drew1) | exact HB.out)⟩⟩
   case round =>
    clear H'
    try clear p2
    try clear c3
    try clear c3b0
    try clear c3b1
    obtain ⟨x5_1, x6_1, x7_1, rfl, HA, HK1, HO_5, HO_6, HB⟩ := hrel
    cases gk with
    | zero => exact absurd HA.out (by simp [carrefourlaw4_FrameRows.l3])
    | succ k1 =>
     have H := HA.out
     clear HA
     simp only [carrefourlaw4_FrameRows.l3] at H
     by_cases c6 : x7_1 < (l0.length : Int)
     ·rw [if_pos c6] at H
      have c6b0 : decide (x7_1 < (l0.length : Int)) = true := decide_eq_true c6
      clear c6
      by_cases c7 : 0 ≤ x7_1
      ·rw [if_pos c7] at H
       have c7b0 : decide (0 ≤ x7_1) = true := decide_eq_true c7
       clear c7
       by_cases c8 : (((rd_T24 l0 x7_1).f2).length : Int) > 300
       ·rw [if_pos c8] at H
        have c8b0 : decide (300 < (((rd_T24 l0 x7_1).f2).length : Int)) = true := decide_eq_true c8
        have c8b1 : decide (300 < ((rd_T24 l0 x7_1).f2).length) = true := decide_eq_true (by omega)
        clear c8
        replace H := Option.bind_eq_some_iff.mp H
        obtain ⟨t299, A90, H⟩ := H
        replace H : (some t299) = some r := H
        have A9 := Aside0.mk A90
        clear A90
        clear HRT
        obtain rfl := Option.some.inj H
        have p298 : 0 ≤ (x7_1 : Int) := of_decide_eq_true (by first | (with_reducible assumption) | assumption)
        have q298 : x7_1 < (l0.length : Int) := of_decide_eq_true (by first | (with_reducible assumption) | assumption)
        obtain ⟨ad298, A298_2, c298_2, e298, hx298_0, hx298_1, hx298_2, hl298_2, hi298_2⟩ := at_T24 HR0.out x7_1 p298 q298
        cases e298
        replace hx298_0 := (HB.out.cell (World.block_lt_of_cell? w _ hx298_0)).trans hx298_0
        replace hx298_1 := (HB.out.cell (World.block_lt_of_cell? w _ hx298_1)).trans hx298_1
        replace hx298_2 := (HB.out.cell (World.block_lt_of_cell? w _ hx298_2)).trans hx298_2
        have HR298_2 := Aside0.mk hi298_2
        have HC298_2 := Aside0.mk hl298_2
        clear hi298_2 hl298_2
        replace p298 := eq_true p298
        replace q298 := eq_true q298
        go_wp2_with (first | ((with_reducible refine gate_callee (f := 9) rfl ?_); refine goesL_ (some 34) rfl rfl Try.func9 (by kernel_rfl) rfl #[] rfl (by (try simp only [List.map_toArray, List.map_cons, List.map_nil]); first | done | rfl | (simp only [List.length_drop, List.length_take]; rfl)) ?_; (with_reducible refine (carrefourlaw4_told.calls k1  t299 _ A9.out).mono ?_); rintro e w10 ⟨rfl, hb⟩; refine ⟨_, rfl, ?_⟩; have n0_ := Aside0.mk (Kd.R_below (by (with_reducible repeat (first | apply Kd.R_alloc | apply Kd.R_drewN | apply Kd.R_drew)); exact HO_5.out) hb); have n1_ := Aside0.mk (Kd.R_below (by (with_reducible repeat (first | apply Kd.R_alloc | apply Kd.R_drewN | apply Kd.R_drew)); exact HO_6.out) hb); have n2_ := Aside0.mk (below_step (by repeat (first | (with_reducible first | exact HB.out | apply below_alloc | apply pw_below_drewN | apply below_drew1) | exact HB.out)) hb); clear HO_5; clear HO_6; clear HB; have HO_5 := n0_; have HO_6 := n1_; have HB := n2_; clear n0_ n1_ n2_; (try clear hb); (try clear hb2); (try clear hk); (try clear hi)))
        go_ret
        exact ⟨by first | rfl | (simp [errW_none, errW_some] <;> rfl) | (simp [*, errW_none, errW_some] <;> rfl), by repeat (first | (with_reducible first | exact HB.out | apply below_alloc | apply pw_below_drewN | apply below_drew1) | exact HB.out)⟩
       ·rw [if_neg c8] at H
        have c8b0 : decide (300 < (((rd_T24 l0 x7_1).f2).length : Int)) = false := decide_eq_false c8
        have c8b1 : decide (300 < ((rd_T24 l0 x7_1).f2).length) = false := decide_eq_false (by omega)
        clear c8
        replace H := Option.bind_eq_some_iff.mp H
        obtain ⟨⟨t301, t304⟩, A110, H⟩ := H
        replace H : (if t304 = 0 then (if x5_1.length + t301.length < 140737488355328 then ((some (x5_1 ++ t301 : List Int)).bind fun y305 => (if x6_1.length < 17592186044416 then (carrefourlaw4_FrameRows.l3 k1 l0 a1 y305 (x6_1 ++ [(y305.length : Int)]) (wrap64 (x7_1 + 1))) else (none))) else (none)) else ((carrefourlaw4_told.f k1).bind fun t311 => (some t311))) = some r := H
        have A11 := Aside0.mk A110
        clear A110
        by_cases c12 : t304 = 0
        ·rw [if_pos c12] at H
         have c12b0 : (t304 == 0) = true := beq_iff_eq.mpr c12
         have c12b1 : (t304 != 0) = false := bne_eq_false_iff_eq.mpr c12
         clear c12
         by_cases c13 : x5_1.length + t301.length < 140737488355328
         ·rw [if_pos c13] at H
          have LMc13 := Aside0.mk c13
          clear c13
          obtain ⟨y305, hy305⟩ : ∃ y_ : List Int, y_ = (x5_1 ++ t301) := ⟨_, rfl⟩
          replace H : (if x6_1.length < 17592186044416 then (carrefourlaw4_FrameRows.l3 k1 l0 a1 y305 (x6_1 ++ [(y305.length : Int)]) (wrap64 (x7_1 + 1))) else (none)) = some r := by first | (rw [hy305]; with_reducible exact H) | (have H2_ := (Option.bind_some _ _).symm.trans H; rw [hy305]; with_reducible exact H2_) | (have H2_ := (Option.bind_some _ _).symm.trans H; with_reducible exact H2_) | with_reducible exact H | (rw [hy305]; exact H) | exact H
          have Ny305 := Aside0.mk hy305
          clear hy305
          by_cases c14 : x6_1.length < 17592186044416
          ·rw [if_pos c14] at H
           have LMc14 := Aside0.mk c14
           clear c14
           obtain ⟨y308, hy308⟩ : ∃ y_ : List Int, y_ = (x6_1 ++ [(y305.length : Int)]) := ⟨_, rfl⟩
           replace H : (carrefourlaw4_FrameRows.l3 k1 l0 a1 y305 y308 (wrap64 (x7_1 + 1))) = some r := by first | (rw [hy308]; with_reducible exact H) | (have H2_ := (Option.bind_some _ _).symm.trans H; rw [hy308]; with_reducible exact H2_) | (have H2_ := (Option.bind_some _ _).symm.trans H; with_reducible exact H2_) | with_reducible exact H | (rw [hy308]; exact H) | exact H
           have Ny308 := Aside0.mk hy308
           clear hy308
           have H' := Aside0.mk H
           clear H
           have p298 : 0 ≤ (x7_1 : Int) := of_decide_eq_true (by first | (with_reducible assumption) | assumption)
           have q298 : x7_1 < (l0.length : Int) := of_decide_eq_true (by first | (with_reducible assumption) | assumption)
           obtain ⟨ad298, A298_2, c298_2, e298, hx298_0, hx298_1, hx298_2, hl298_2, hi298_2⟩ := at_T24 HR0.out x7_1 p298 q298
           cases e298
           replace hx298_0 := (HB.out.cell (World.block_lt_of_cell? w _ hx298_0)).trans hx298_0
           replace hx298_1 := (HB.out.cell (World.block_lt_of_cell? w _ hx298_1)).trans hx298_1
           replace hx298_2 := (HB.out.cell (World.block_lt_of_cell? w _ hx298_2)).trans hx298_2
           have HR298_2 := Aside0.mk hi298_2
           have HC298_2 := Aside0.mk hl298_2
           clear hi298_2 hl298_2
           replace p298 := eq_true p298
           replace q298 := eq_true q298
           have p300 : 0 ≤ (x7_1 : Int) := of_decide_eq_true (by first | (with_reducible assumption) | assumption)
           have q300 : x7_1 < (l0.length : Int) := of_decide_eq_true (by first | (with_reducible assumption) | assumption)
           obtain ⟨ad300, A300_2, c300_2, e300, hx300_0, hx300_1, hx300_2, hl300_2, hi300_2⟩ := at_T24 HR0.out x7_1 p300 q300
           obtain rfl : ad298 = ad300 := (by injection e300)
           replace hx300_0 := (HB.out.cell (World.block_lt_of_cell? w _ hx300_0)).trans hx300_0
           replace hx300_1 := (HB.out.cell (World.block_lt_of_cell? w _ hx300_1)).trans hx300_1
           replace hx300_2 := (HB.out.cell (World.block_lt_of_cell? w _ hx300_2)).trans hx300_2
           have HR300_2 := Aside0.mk hi300_2
           have HC300_2 := Aside0.mk hl300_2
           clear hi300_2 hl300_2
           replace p300 := eq_true p300
           replace q300 := eq_true q300
           have ea_ := Option.some.inj (hx298_2.symm.trans hx300_2)
           injection ea_ with ea_ en_ ec_
           subst ea_
           subst ec_
           clear en_
           go_wp2_with (first | ((with_reducible refine gate_callee (f := 8) rfl ?_); refine goesL_ (some 40) rfl rfl Try.func8 (by kernel_rfl) rfl #[.agg #[.int .i64 ((rd_T24 l0 x7_1).f0), .int .i64 ((rd_T24 l0 x7_1).f1), .slice A298_2 ((rd_T24 l0 x7_1).f2).length c298_2]] rfl (by (try simp only [List.map_toArray, List.map_cons, List.map_nil]); first | done | rfl | (simp only [List.length_drop, List.length_take]; rfl)) ?_; (with_reducible refine (frame_Put.calls k1 ((rd_T24 l0 x7_1).f0) ((rd_T24 l0 x7_1).f1) _ _ ((rd_T24 l0 x7_1).f2) t301 t304 _ ?side1 ?side2 A11.out).mono ?_); (case side1 => repeat (first | exact (Kd.C_below HR300_2.out HB.out) | (with_reducible refine Kd.C_alloc ?_ _) | (with_reducible refine Kd.C_drewN ?_ _) | (with_reducible refine Kd.C_drew ?_))); (case side2 => exact HC300_2.out); rintro e w15 ⟨v302, rfl, ho0, hb⟩; refine ⟨_, rfl, ?_⟩; have n0_ := Aside0.mk (Kd.R_elder' (by (with_reducible repeat (first | apply Kd.R_alloc | apply Kd.R_drewN | apply Kd.R_drew)); exact HO_5.out) (Kd.R_base ho0) hb); have n1_ := Aside0.mk (Kd.R_below (by (with_reducible repeat (first | apply Kd.R_alloc | apply Kd.R_drewN | apply Kd.R_drew)); exact HO_6.out) hb); have n2_ := Aside0.mk (Kd.R_lower (Kd.R_new' ho0 (Kd.R_lt (by (with_reducible repeat (first | apply Kd.R_alloc | apply Kd.R_drewN | apply Kd.R_drew)); exact HO_5.out))) (below_size (by repeat (first | (with_reducible first | exact HB.out | apply below_alloc | apply pw_below_drewN | apply below_drew1) | exact HB.out)))); have n3_ := Aside0.mk (below_step (by repeat (first | (with_reducible first | exact HB.out | apply below_alloc | apply pw_below_drewN | apply below_drew1) | exact HB.out)) hb); clear HO_5; clear HO_6; clear HB; have HO_5 := n0_; have HO_6 := n1_; have HO303 := n2_; have HB := n3_; clear n0_ n1_ n2_ n3_; (try clear hb); (try clear hb2); (try clear hk); (try clear hi); (try clear ho0); obtain ⟨Ao17, co17, eo17⟩ := Kd.R_slice HO303.out; subst eo17) | ((with_reducible refine gate_builtin (b := .append) (xs := #[.tmp 46, .tmp 47]) rfl ?_); at_builtin; refine Kd.R_append_rows (Kd.int .u8) (w0 := w) w.heap.size rfl (.tmp 46) (.tmp 47) 22 5 (.int .u8 0) 1 rfl Try.underlying22 info5 rfl (by decide) (by omega) u5 x5_1 t301 _ _ _ (fun k_ => some k_ ≠ (.slice Ao17 t301.length co17 : Value).ownBlock) (fun _ => False) rfl rfl ?aO ?aR (fun _ _ h => h) (fun _ h => h.elim) ?aF ?aB ?aS ?aL ?_; (case aR => repeat (first | exact (Kd.R_reads' HO303.out).2.2 | (with_reducible refine Kd.C_alloc ?_ _) | (with_reducible refine Kd.C_drewN ?_ _) | (with_reducible refine Kd.C_drew ?_))); (case aB => exact (by repeat (first | (with_reducible first | exact HB.out | apply below_alloc | apply pw_below_drewN | apply below_drew1) | exact HB.out))); (case aF => exact (fun k_ hk => Kd.fresh' (Kd.R_lt (by (with_reducible repeat (first | apply Kd.R_alloc | apply Kd.R_drewN | apply Kd.R_drew)); exact HO303.out)) k_ hk)); (case aO => exact (by (with_reducible repeat (first | apply Kd.R_alloc | apply Kd.R_drewN | apply Kd.R_drew)); exact Kd.R_mono HO_5.out (fun _ hk => hk.2))); (case aS => exact (below_size (by repeat (first | (with_reducible first | exact HB.out | apply below_alloc | apply pw_below_drewN | apply below_drew1) | exact HB.out)))); (case aL => have := LMc13.out; omega); intro v306 w16 ho hb hg hat; rw [← Ny305.out] at ho; have n0_ := Aside0.mk (Kd.R_over' (by (with_reducible repeat (first | apply Kd.R_alloc | apply Kd.R_drewN | apply Kd.R_drew)); exact HO_6.out) (Kd.R_typed (by (with_reducible repeat (first | apply Kd.R_alloc | apply Kd.R_drewN | apply Kd.R_drew)); exact HO_5.out)) (by decide) hg); have n1_ := Aside0.mk (Kd.R_after (ok := (fun _ => True)) (by (with_reducible repeat (first | apply Kd.R_alloc | apply Kd.R_drewN | apply Kd.R_drew)); exact HO303.out) hg hat); have n2_ := Aside0.mk (hb); have n3_ := Aside0.mk (ho); clear HO_6; clear HO303; clear HB; clear HO_5; have HO_6 := n0_; have HO303 := n1_; have HB := n2_; have HO307 := n3_; clear n0_ n1_ n2_ n3_; clear ho hb hg hat; obtain ⟨Ao18, co18, eo18⟩ := Kd.R_slice HO307.out; subst eo18) | ((with_reducible refine gate_builtin (b := .append) (xs := #[.tmp 49, .tmp 52]) rfl ?_); at_builtin; refine Kd.R_append (Kd.int .i64) (w0 := w) w.heap.size rfl (.tmp 49) (.tmp 52) 43 3 (.int .i64 0) 8 rfl Try.underlying43 info3 rfl (by decide) (by omega) u6 x6_1 (y305.length : Int) [.int .i64 (y305.length : Int)] (fun _ => True) (fun _ => False) rfl rfl ?aP (fun _ hk => hk.elim) ?aF ?aO ?aB ?aS ?aL ?_; (case aP => exact rfl); (case aB => exact (by repeat (first | (with_reducible first | exact HB.out | apply below_alloc | apply pw_below_drewN | apply below_drew1) | exact HB.out))); (case aF => exact (fun _ _ => trivial)); (case aO => exact (by (with_reducible repeat (first | apply Kd.R_alloc | apply Kd.R_drewN | apply Kd.R_drew)); exact HO_6.out)); (case aS => exact (below_size (by repeat (first | (with_reducible first | exact HB.out | apply below_alloc | apply pw_below_drewN | apply below_drew1) | exact HB.out)))); (case aL => have := LMc14.out; omega); intro v309 w19 ho hb hg hat; rw [← Ny308.out] at ho; have n0_ := Aside0.mk (Kd.R_over' (by (with_reducible repeat (first | apply Kd.R_alloc | apply Kd.R_drewN | apply Kd.R_drew)); exact HO303.out) (Kd.R_typed (by (with_reducible repeat (first | apply Kd.R_alloc | apply Kd.R_drewN | apply Kd.R_drew)); exact HO_6.out)) (by decide) hg); have n1_ := Aside0.mk (Kd.R_over' (by (with_reducible repeat (first | apply Kd.R_alloc | apply Kd.R_drewN | apply Kd.R_drew)); exact HO307.out) (Kd.R_typed (by (with_reducible repeat (first | apply Kd.R_alloc | apply Kd.R_drewN | apply Kd.R_drew)); exact HO_6.out)) (by decide) hg); have n2_ := Aside0.mk (hb); have n3_ := Aside0.mk (ho); clear HO303; clear HO307; clear HB; clear HO_6; have HO303 := n0_; have HO307 := n1_; have HB := n2_; have HO310 := n3_; clear n0_ n1_ n2_ n3_; clear ho hb hg hat))
           go_roundg k1
           case measure => have := HK1.out; omega
           case rel => exact ⟨(y305), (y308), (wrap64 (x7_1 + 1)), (by first | rfl | (simp; done) | (simp [*]; done)), H', ⟨by have := HK1.out; omega⟩, ⟨by (with_reducible repeat (first | apply Kd.R_alloc | apply Kd.R_drewN | apply Kd.R_drew)); exact Kd.R_mono HO307.out (fun _ hk => trivial)⟩, ⟨by (with_reducible repeat (first | apply Kd.R_alloc | apply Kd.R_drewN | apply Kd.R_drew)); exact HO310.out⟩, ⟨by repeat (first | (with_reducible first | exact HB.out | apply below_alloc | apply pw_below_drewN | apply below_drew1) | exact HB.out)⟩⟩
          ·rw [if_neg c14] at H
           exact absurd H (by simp)
         ·rw [if_neg c13] at H
          exact absurd H (by simp)
        ·rw [if_neg c12] at H
         have c12b0 : (t304 == 0) = false := beq_eq_false_iff_ne.mpr c12
         have c12b1 : (t304 != 0) = true := bne_iff_ne.mpr c12
         replace H := Option.bind_eq_some_iff.mp H
         obtain ⟨t311, A200, H⟩ := H
         replace H : (some t311) = some r := H
         have A20 := Aside0.mk A200
         clear A200
         clear HRT
         obtain rfl := Option.some.inj H
         have p298 : 0 ≤ (x7_1 : Int) := of_decide_eq_true (by first | (with_reducible assumption) | assumption)
         have q298 : x7_1 < (l0.length : Int) := of_decide_eq_true (by first | (with_reducible assumption) | assumption)
         obtain ⟨ad298, A298_2, c298_2, e298, hx298_0, hx298_1, hx298_2, hl298_2, hi298_2⟩ := at_T24 HR0.out x7_1 p298 q298
         cases e298
         replace hx298_0 := (HB.out.cell (World.block_lt_of_cell? w _ hx298_0)).trans hx298_0
         replace hx298_1 := (HB.out.cell (World.block_lt_of_cell? w _ hx298_1)).trans hx298_1
         replace hx298_2 := (HB.out.cell (World.block_lt_of_cell? w _ hx298_2)).trans hx298_2
         have HR298_2 := Aside0.mk hi298_2
         have HC298_2 := Aside0.mk hl298_2
         clear hi298_2 hl298_2
         replace p298 := eq_true p298
         replace q298 := eq_true q298
         have p300 : 0 ≤ (x7_1 : Int) := of_decide_eq_true (by first | (with_reducible assumption) | assumption)
         have q300 : x7_1 < (l0.length : Int) := of_decide_eq_true (by first | (with_reducible assumption) | assumption)
         obtain ⟨ad300, A300_2, c300_2, e300, hx300_0, hx300_1, hx300_2, hl300_2, hi300_2⟩ := at_T24 HR0.out x7_1 p300 q300
         obtain rfl : ad298 = ad300 := (by injection e300)
         replace hx300_0 := (HB.out.cell (World.block_lt_of_cell? w _ hx300_0)).trans hx300_0
         replace hx300_1 := (HB.out.cell (World.block_lt_of_cell? w _ hx300_1)).trans hx300_1
         replace hx300_2 := (HB.out.cell (World.block_lt_of_cell? w _ hx300_2)).trans hx300_2
         have HR300_2 := Aside0.mk hi300_2
         have HC300_2 := Aside0.mk hl300_2
         clear hi300_2 hl300_2
         replace p300 := eq_true p300
         replace q300 := eq_true q300
         have ea_ := Option.some.inj (hx298_2.symm.trans hx300_2)
         injection ea_ with ea_ en_ ec_
         subst ea_
         subst ec_
         clear en_
         go_wp2_with (first | ((with_reducible refine gate_callee (f := 8) rfl ?_); refine goesL_ (some 40) rfl rfl Try.func8 (by kernel_rfl) rfl #[.agg #[.int .i64 ((rd_T24 l0 x7_1).f0), .int .i64 ((rd_T24 l0 x7_1).f1), .slice A298_2 ((rd_T24 l0 x7_1).f2).length c298_2]] rfl (by (try simp only [List.map_toArray, List.map_cons, List.map_nil]); first | done | rfl | (simp only [List.length_drop, List.length_take]; rfl)) ?_; (with_reducible refine (frame_Put.calls k1 ((rd_T24 l0 x7_1).f0) ((rd_T24 l0 x7_1).f1) _ _ ((rd_T24 l0 x7_1).f2) t301 t304 _ ?side1 ?side2 A11.out).mono ?_); (case side1 => repeat (first | exact (Kd.C_below HR300_2.out HB.out) | (with_reducible refine Kd.C_alloc ?_ _) | (with_reducible refine Kd.C_drewN ?_ _) | (with_reducible refine Kd.C_drew ?_))); (case side2 => exact HC300_2.out); rintro e w21 ⟨v302, rfl, ho0, hb⟩; refine ⟨_, rfl, ?_⟩; have n0_ := Aside0.mk (Kd.R_elder' (by (with_reducible repeat (first | apply Kd.R_alloc | apply Kd.R_drewN | apply Kd.R_drew)); exact HO_5.out) (Kd.R_base ho0) hb); have n1_ := Aside0.mk (Kd.R_below (by (with_reducible repeat (first | apply Kd.R_alloc | apply Kd.R_drewN | apply Kd.R_drew)); exact HO_6.out) hb); have n2_ := Aside0.mk (Kd.R_lower (Kd.R_new' ho0 (Kd.R_lt (by (with_reducible repeat (first | apply Kd.R_alloc | apply Kd.R_drewN | apply Kd.R_drew)); exact HO_5.out))) (below_size (by repeat (first | (with_reducible first | exact HB.out | apply below_alloc | apply pw_below_drewN | apply below_drew1) | exact HB.out)))); have n3_ := Aside0.mk (below_step (by repeat (first | (with_reducible first | exact HB.out | apply below_alloc | apply pw_below_drewN | apply below_drew1) | exact HB.out)) hb); clear HO_5; clear HO_6; clear HB; have HO_5 := n0_; have HO_6 := n1_; have HO303 := n2_; have HB := n3_; clear n0_ n1_ n2_ n3_; (try clear hb); (try clear hb2); (try clear hk); (try clear hi); (try clear ho0)) | ((with_reducible refine gate_callee (f := 9) rfl ?_); refine goesL_ (some 45) rfl rfl Try.func9 (by kernel_rfl) rfl #[] rfl (by (try simp only [List.map_toArray, List.map_cons, List.map_nil]); first | done | rfl | (simp only [List.length_drop, List.length_take]; rfl)) ?_; (with_reducible refine (carrefourlaw4_told.calls k1  t311 _ A20.out).mono ?_); rintro e w22 ⟨rfl, hb⟩; refine ⟨_, rfl, ?_⟩; have n0_ := Aside0.mk (Kd.R_below (by (with_reducible repeat (first | apply Kd.R_alloc | apply Kd.R_drewN | apply Kd.R_drew)); exact HO_5.out) hb); have n1_ := Aside0.mk (Kd.R_below (by (with_reducible repeat (first | apply Kd.R_alloc | apply Kd.R_drewN | apply Kd.R_drew)); exact HO_6.out) hb); have n2_ := Aside0.mk (Kd.R_below (by (with_reducible repeat (first | apply Kd.R_alloc | apply Kd.R_drewN | apply Kd.R_drew)); exact HO303.out) hb); have n3_ := Aside0.mk (below_step (by repeat (first | (with_reducible first | exact HB.out | apply below_alloc | apply pw_below_drewN | apply below_drew1) | exact HB.out)) hb); clear HO_5; clear HO_6; clear HO303; clear HB; have HO_5 := n0_; have HO_6 := n1_; have HO303 := n2_; have HB := n3_; clear n0_ n1_ n2_ n3_; (try clear hb); (try clear hb2); (try clear hk); (try clear hi)))
         go_ret
         exact ⟨by first | rfl | (simp [errW_none, errW_some] <;> rfl) | (simp [*, errW_none, errW_some] <;> rfl), by repeat (first | (with_reducible first | exact HB.out | apply below_alloc | apply pw_below_drewN | apply below_drew1) | exact HB.out)⟩
      ·rw [if_neg c7] at H
       exact absurd H (by simp)
     ·rw [if_neg c6] at H
      have c6b0 : decide (x7_1 < (l0.length : Int)) = false := decide_eq_false c6
      clear c6
      by_cases c23 : (IntKind.u64.wrap (wrap64 ((x5_1.length : Int) + 1))) = 0
      ·rw [if_pos c23] at H
       exact absurd H (by simp)
      ·rw [if_neg c23] at H
       have c23b0 : ((IntKind.u64.wrap (wrap64 ((x5_1.length : Int) + 1))) == 0) = false := beq_eq_false_iff_ne.mpr c23
       have c23b1 : ((IntKind.u64.wrap (wrap64 ((x5_1.length : Int) + 1))) != 0) = true := bne_iff_ne.mpr c23
       obtain ⟨ji24, hji24⟩ : ∃ j_ : Int, (wrap64 (Int.tmod (IntKind.u64.wrap (a1)) (IntKind.u64.wrap (wrap64 ((x5_1.length : Int) + 1))))) = j_ := ⟨_, rfl⟩
       replace H : (if 0 ≤ (ji24) then (if (ji24) ≤ (x5_1.length : Int) then ((frame_All.f k1 (x5_1.take ((ji24) : Int).toNat)).bind fun bt316 => (carrefourlaw4_FrameRows.l4 k1 l0 x6_1 ji24 bt316.1 bt316.2.1 bt316.2.2 0 0)) else (none)) else (none)) = some r := by first | (rw [hji24] at H; exact H) | (simp only [hji24] at H ⊢; exact H)
       have hji24w : (IntKind.i64.wrap (Int.tmod (IntKind.u64.wrap (a1)) (IntKind.u64.wrap (wrap64 ((x5_1.length : Int) + 1))))) = ji24 := (i64_w _).trans hji24
       by_cases c25 : 0 ≤ (ji24)
       ·rw [if_pos c25] at H
        have c25b0 := eq_true c25
        have c25b1 : decide (0 ≤ (ji24)) = true := decide_eq_true c25
        clear c25
        by_cases c26 : (ji24) ≤ (x5_1.length : Int)
        ·rw [if_pos c26] at H
         have c26b0 := eq_true c26
         have c26b1 : decide ((ji24) ≤ (x5_1.length : Int)) = true := decide_eq_true c26
         clear c26
         obtain ⟨y312, hy312⟩ : ∃ y_ : List Int, y_ = (x5_1.take ((ji24) : Int).toNat) := ⟨_, rfl⟩
         replace H : ((frame_All.f k1 y312).bind fun bt316 => (carrefourlaw4_FrameRows.l4 k1 l0 x6_1 ji24 bt316.1 bt316.2.1 bt316.2.2 0 0)) = some r := by first | (rw [hy312]; with_reducible exact H) | (have H2_ := (Option.bind_some _ _).symm.trans H; rw [hy312]; with_reducible exact H2_) | (have H2_ := (Option.bind_some _ _).symm.trans H; with_reducible exact H2_) | with_reducible exact H | (rw [hy312]; exact H) | exact H
         have Ny312 := Aside0.mk hy312
         clear hy312
         replace H := Option.bind_eq_some_iff.mp H
         obtain ⟨⟨t316, t317, t318⟩, A270, H⟩ := H
         replace H : (carrefourlaw4_FrameRows.l4 k1 l0 x6_1 ji24 t316 t317 t318 0 0) = some r := H
         have A27 := Aside0.mk A270
         clear A270
         have H' := Aside0.mk H
         clear H
         obtain ⟨Ao28, co28, eo28⟩ := Kd.R_slice HO_5.out
         subst eo28
         have q29 : ((ji24) : Int) ≤ ((x5_1.length : Int) : Int) := of_decide_eq_true (by first | (with_reducible assumption) | assumption)
         obtain ⟨i029, hi029, _, hsz29, _⟩ := info_parts info5
         have hroom29 : x5_1.length ≤ co28 := (Kd.R_reads' HO_5.out).2.1
         have hC29 : Kd.C (Kd.int .u8) _ Ao28 x5_1.length x5_1 := (Kd.R_reads' HO_5.out).2.2
         have hcut29 := cut_to (P := Try.prog) 22 5 .i64 Try.underlying22 hi029 Ao28 x5_1.length co28 (ji24) (of_decide_eq_true (by first | (with_reducible assumption) | assumption)) q29 hroom29
         have hr29 := Kd.C_take (m := ((ji24) : Int).toNat) hC29 (by omega)
         have hy29 : y312.length = ((ji24) : Int).toNat := (by rw [Ny312.out, List.length_take]; omega)
         rw [← Ny312.out] at hr29
         rw [← hy29] at hcut29
         have HR315 := Aside0.mk hr29
         have HC315 := Aside0.mk (show y312.length ≤ co28 from by omega)
         clear hr29 hC29 hroom29 hi029 hsz29
         have KY29 := Aside0.mk hy29
         clear hy29
         have KL29 := Aside0.mk (show ((ji24) : Int).toNat ≤ x5_1.length from by omega)
         replace q29 := eq_true q29
         go_wp2_with (first | ((with_reducible refine gate_callee (f := 12) rfl ?_); refine goesL_ (some 66) rfl rfl Try.func12 (by kernel_rfl) rfl #[.slice Ao28 y312.length co28] rfl (by (try simp only [List.map_toArray, List.map_cons, List.map_nil]); first | done | rfl | (simp only [List.length_drop, List.length_take]; rfl)) ?_; (with_reducible refine (frame_All.calls k1 _ _ y312 t316 t317 t318 _ ?side1 ?side2 A27.out).mono ?_); (case side1 => repeat (first | exact (by repeat (first | (with_reducible exact HR315.out) | (with_reducible refine Kd.C_alloc ?_ _) | (with_reducible refine Kd.C_drewN ?_ _) | (with_reducible refine Kd.C_drew ?_) | exact HR315.out)) | (with_reducible refine Kd.C_alloc ?_ _) | (with_reducible refine Kd.C_drewN ?_ _) | (with_reducible refine Kd.C_drew ?_))); (case side2 => exact HC315.out); rintro e w30 ⟨v319, rfl, ho0, hb⟩; refine ⟨_, rfl, ?_⟩; have n0_ := Aside0.mk (Kd.R_below (by (with_reducible repeat (first | apply Kd.R_alloc | apply Kd.R_drewN | apply Kd.R_drew)); exact HO_5.out) hb); have n1_ := Aside0.mk (Kd.R_below (by (with_reducible repeat (first | apply Kd.R_alloc | apply Kd.R_drewN | apply Kd.R_drew)); exact HO_6.out) hb); have n2_ := Aside0.mk (Kd.S_lower (Kd.S_new' ho0 (Kd.R_lt (by (with_reducible repeat (first | apply Kd.R_alloc | apply Kd.R_drewN | apply Kd.R_drew)); exact HO_5.out))) (below_size (by repeat (first | (with_reducible first | exact HB.out | apply below_alloc | apply pw_below_drewN | apply below_drew1) | exact HB.out)))); have n3_ := Aside0.mk (Kd.C_below (by repeat (first | (with_reducible exact HR315.out) | (with_reducible refine Kd.C_alloc ?_ _) | (with_reducible refine Kd.C_drewN ?_ _) | (with_reducible refine Kd.C_drew ?_) | exact HR315.out)) hb); have n4_ := Aside0.mk (below_step (by repeat (first | (with_reducible first | exact HB.out | apply below_alloc | apply pw_below_drewN | apply below_drew1) | exact HB.out)) hb); clear HO_5; clear HO_6; clear HR315; clear HB; have HO_5 := n0_; have HO_6 := n1_; have HO320 := n2_; have HR315 := n3_; have HB := n4_; clear n0_ n1_ n2_ n3_ n4_; (try clear hb); (try clear hb2); (try clear hk); (try clear hi); (try clear ho0)))
         go_loopg [14, 15] k1 (fun kq v14 v15 w' => ∃ (x14_2 : Int) (x15_2 : Int), v14 = .int .i64 x14_2 ∧ v15 = .int .i64 x15_2 ∧ Aside0 (carrefourlaw4_FrameRows.l4 kq l0 x6_1 ji24 t316 t317 t318 x14_2 x15_2 = some r) ∧ Aside0 (kq ≤ k1) ∧ Aside0 (Kd.R (Kd.int .i64) 3 w' w.heap.size (fun _ => True) u6 x6_1) ∧ Aside0 (Kd.S k24 24 w' w.heap.size (fun _ => True) v319 t316) ∧ Aside0 (Below w.heap.size w w'))
         case atStart => exact ⟨(0), (0), (by first | rfl | (simp; done) | (simp [*]; done)), (by first | rfl | (simp; done) | (simp [*]; done)), H', ⟨Nat.le_refl _⟩, ⟨by (with_reducible repeat (first | apply Kd.R_alloc | apply Kd.R_drewN | apply Kd.R_drew)); exact HO_6.out⟩, ⟨by (with_reducible repeat (first | apply Kd.S_alloc | apply Kd.S_drewN | apply Kd.S_drew)); exact Kd.S_mono HO320.out (fun _ hk => trivial)⟩, ⟨by repeat (first | (with_reducible first | exact HB.out | apply below_alloc | apply pw_below_drewN | apply below_drew1) | exact HB.out)⟩⟩
         case round =>
          clear H'
          try clear c1
          try clear c2
          try clear p2
          try clear q2
          try clear hx2
          try clear c3
          try clear c3b0
          try clear c3b1
          try clear p3
          try clear q3
          try clear hx3
          try clear c6
          try clear c6b0
          try clear p6
          try clear c7
          try clear c7b0
          try clear c8
          try clear c8b0
          try clear c8b1
          try clear c9
          try clear c12
          try clear c12b0
          try clear c12b1
          try clear c13
          try clear c14
          try clear c23
          try clear c23b0
          try clear c23b1
          try clear c25
          try clear c25b0
          try clear c25b1
          try clear c26
          try clear c26b0
          try clear c26b1
          try clear c29
          try clear p29
          try clear q29
          try clear hx29
          try clear c30
          try clear p30
          try clear q30
          try clear hx30
          try clear hx298_0
          try clear hx298_1
          try clear hx298_2
          try clear hx300_0
          try clear hx300_1
          try clear hx300_2
          try clear p2
          try clear p298
          try clear p300
          try clear q29
          try clear q298
          try clear q300
          obtain ⟨x14_2, x15_2, rfl, rfl, HA, HK2, HO_6, HO_11, HB⟩ := hrel
          cases gk with
          | zero => exact absurd HA.out (by simp [carrefourlaw4_FrameRows.l4])
          | succ k2 =>
           have H := HA.out
           clear HA
           simp only [carrefourlaw4_FrameRows.l4] at H
           have HC31 := Aside0.mk H
           clear H
           go_upto_region 18 with (fail)
           go_cut [81] (fun v81 wc => ∃ (kq : Nat) (x81_30 : Bool), v81 = .bool x81_30 ∧ Aside0 (carrefourlaw4_FrameRows.j2 kq l0 x6_1 ji24 t316 t317 t318 x14_2 x15_2 x81_30 = some r) ∧ Aside0 (kq ≤ k2) ∧ Aside0 (Kd.R (Kd.int .i64) 3 wc w.heap.size (fun _ => True) u6 x6_1) ∧ Aside0 (Kd.S k24 24 wc w.heap.size (fun _ => True) v319 t316) ∧ Aside0 (Below w.heap.size w wc))
           case first =>
            have H := HC31.out
            clear HC31
            by_cases c32 : x14_2 < (l0.length : Int)
            ·rw [if_pos c32] at H
             have c32b0 : decide (x14_2 < (l0.length : Int)) = true := decide_eq_true c32
             clear c32
             (first | rw [c32b0] | (simp only [i64_w, i32_w]; rw [c32b0]) | skip)
             by_cases c33 : 0 ≤ x14_2
             ·rw [if_pos c33] at H
              have c33b0 : decide (0 ≤ x14_2) = true := decide_eq_true c33
              clear c33
              by_cases c34 : x14_2 < (x6_1.length : Int)
              ·rw [if_pos c34] at H
               have c34b0 : decide (x14_2 < (x6_1.length : Int)) = true := decide_eq_true c34
               clear c34
               have H' := Aside0.mk H
               clear H
               obtain ⟨Ao35, co35, eo35⟩ := Kd.R_slice HO_6.out
               subst eo35
               have p321 : 0 ≤ (x14_2 : Int) := of_decide_eq_true (by first | (with_reducible assumption) | assumption)
               have q321 : x14_2 < (x6_1.length : Int) := of_decide_eq_true (by first | (with_reducible assumption) | assumption)
               obtain ⟨ad321, e321, hx321_0⟩ := Kd.at_int (Kd.R_reads' HO_6.out).2.2 x14_2 p321 q321
               cases e321
               replace p321 := eq_true p321
               replace q321 := eq_true q321
               go_wp2
               go_meet
               case rel => exact ⟨_, (decide ((rd x6_1 x14_2) ≤ ji24)), (by first | rfl | (simp; done) | (simp only [← hji24] <;> (first | rfl | simp)) | (simp [*]; done)), H', ⟨by have := HK1.out; have := HK2.out; first | omega | exact Nat.le_refl _⟩, ⟨by (with_reducible repeat (first | apply Kd.R_alloc | apply Kd.R_drewN | apply Kd.R_drew)); exact HO_6.out⟩, ⟨by (with_reducible repeat (first | apply Kd.S_alloc | apply Kd.S_drewN | apply Kd.S_drew)); exact HO_11.out⟩, ⟨by repeat (first | (with_reducible first | exact HB.out | apply below_alloc | apply pw_below_drewN | apply below_drew1) | exact HB.out)⟩⟩
              ·rw [if_neg c34] at H
               exact absurd H (by simp)
             ·rw [if_neg c33] at H
              exact absurd H (by simp)
            ·rw [if_neg c32] at H
             have c32b0 : decide (x14_2 < (l0.length : Int)) = false := decide_eq_false c32
             clear c32
             (first | rw [c32b0] | (simp only [i64_w, i32_w]; rw [c32b0]) | skip)
             have H' := Aside0.mk H
             clear H
             go_wp2
             go_meet
             case rel => exact ⟨_, (false), (by first | rfl | (simp; done) | (simp [*]; done)), H', ⟨by have := HK1.out; have := HK2.out; first | omega | exact Nat.le_refl _⟩, ⟨by (with_reducible repeat (first | apply Kd.R_alloc | apply Kd.R_drewN | apply Kd.R_drew)); exact HO_6.out⟩, ⟨by (with_reducible repeat (first | apply Kd.S_alloc | apply Kd.S_drewN | apply Kd.S_drew)); exact HO_11.out⟩, ⟨by repeat (first | (with_reducible first | exact HB.out | apply below_alloc | apply pw_below_drewN | apply below_drew1) | exact HB.out)⟩⟩
           case rest =>
            clear HC31
            try clear c1
            try clear c2
            try clear p2
            try clear q2
            try clear hx2
            try clear c3
            try clear c3b0
            try clear c3b1
            try clear p3
            try clear q3
            try clear hx3
            try clear c6
            try clear c6b0
            try clear p6
            try clear c7
            try clear c7b0
            try clear c8
            try clear c8b0
            try clear c8b1
            try clear c9
            try clear c12
            try clear c12b0
            try clear c12b1
            try clear c13
            try clear c14
            try clear c23
            try clear c23b0
            try clear c23b1
            try clear c25
            try clear c25b0
            try clear c25b1
            try clear c26
            try clear c26b0
            try clear c26b1
            try clear c29
            try clear p29
            try clear q29
            try clear hx29
            try clear c30
            try clear p30
            try clear q30
            try clear hx30
            try clear c32
            try clear c32b0
            try clear p32
            try clear q32
            try clear hx32
            try clear c33
            try clear c33b0
            try clear c34
            try clear c34b0
            try clear hx298_0
            try clear hx298_1
            try clear hx298_2
            try clear hx300_0
            try clear hx300_1
            try clear hx300_2
            try clear hx321_0
            try clear p2
            try clear p29
            try clear p298
            try clear p3
            try clear p30
            try clear p300
            try clear p321
            try clear p6
            try clear q2
            try clear q29
            try clear q298
            try clear q3
            try clear q30
            try clear q300
            try clear q321
            obtain ⟨kq, x81_30, rfl, HA, HJ30, HO_6, HO_11, HB⟩ := hcut
            cases kq with
            | zero => exact absurd HA.out (by simp [carrefourlaw4_FrameRows.j2])
            | succ kj30 =>
             have H := HA.out
             clear HA
             simp only [carrefourlaw4_FrameRows.j2] at H
             by_cases c36 : x81_30 = true
             ·subst c36
              have H1 : (if 0 ≤ x14_2 then (if x14_2 < (x6_1.length : Int) then (carrefourlaw4_FrameRows.l4 kj30 l0 x6_1 ji24 t316 t317 t318 (wrap64 (x14_2 + 1)) (rd x6_1 x14_2)) else (none)) else (none)) = some r := by rw [if_pos rfl] at H; exact H
              clear H
              have H := H1
              clear H1
              by_cases c37 : 0 ≤ x14_2
              ·rw [if_pos c37] at H
               have c37b0 : decide (0 ≤ x14_2) = true := decide_eq_true c37
               clear c37
               by_cases c38 : x14_2 < (x6_1.length : Int)
               ·rw [if_pos c38] at H
                have c38b0 : decide (x14_2 < (x6_1.length : Int)) = true := decide_eq_true c38
                clear c38
                have H' := Aside0.mk H
                clear H
                obtain ⟨Ao39, co39, eo39⟩ := Kd.R_slice HO_6.out
                subst eo39
                have p322 : 0 ≤ (x14_2 : Int) := of_decide_eq_true (by first | (with_reducible assumption) | assumption)
                have q322 : x14_2 < (x6_1.length : Int) := of_decide_eq_true (by first | (with_reducible assumption) | assumption)
                obtain ⟨ad322, e322, hx322_0⟩ := Kd.at_int (Kd.R_reads' HO_6.out).2.2 x14_2 p322 q322
                cases e322
                replace p322 := eq_true p322
                replace q322 := eq_true q322
                go_wp2
                go_roundg kj30
                case measure => have := HK1.out; have := HK2.out; have := HJ30.out; omega
                case rel => exact ⟨(wrap64 (x14_2 + 1)), (rd x6_1 x14_2), (by first | rfl | (simp; done) | (simp [*]; done)), (by first | rfl | (simp; done) | (simp [*]; done)), H', ⟨by have := HK1.out; have := HK2.out; have := HJ30.out; omega⟩, ⟨by (with_reducible repeat (first | apply Kd.R_alloc | apply Kd.R_drewN | apply Kd.R_drew)); exact HO_6.out⟩, ⟨by (with_reducible repeat (first | apply Kd.S_alloc | apply Kd.S_drewN | apply Kd.S_drew)); exact HO_11.out⟩, ⟨by repeat (first | (with_reducible first | exact HB.out | apply below_alloc | apply pw_below_drewN | apply below_drew1) | exact HB.out)⟩⟩
               ·rw [if_neg c38] at H
                exact absurd H (by simp)
              ·rw [if_neg c37] at H
               exact absurd H (by simp)
             ·replace c36 := Bool.eq_false_iff.mpr c36
              subst c36
              have H1 : (if (t316.length : Int) = x14_2 then (if t317 = x15_2 then (if t318 = 0 then (if x15_2 = ji24 then (carrefourlaw4_FrameRows.j3 kj30 l0 t316 x14_2 false) else (carrefourlaw4_FrameRows.j3 kj30 l0 t316 x14_2 true)) else (if x15_2 = ji24 then (carrefourlaw4_FrameRows.j3 kj30 l0 t316 x14_2 true) else (carrefourlaw4_FrameRows.j3 kj30 l0 t316 x14_2 (t318 != 3)))) else (carrefourlaw4_FrameRows.j3 kj30 l0 t316 x14_2 true)) else (carrefourlaw4_FrameRows.j3 kj30 l0 t316 x14_2 true)) = some r := by rw [if_neg (show ¬ (false = true) by decide)] at H; exact H
              clear H
              have H := H1
              clear H1
              have HC40 := Aside0.mk H
              clear H
              go_upto_region 21 with (fail)
              go_cut [112] (fun v112 wc => ∃ (kq : Nat) (x112_39 : Bool), v112 = .bool x112_39 ∧ Aside0 (carrefourlaw4_FrameRows.j3 kq l0 t316 x14_2 x112_39 = some r) ∧ Aside0 (kq ≤ kj30) ∧ Aside0 (Kd.S k24 24 wc w.heap.size (fun _ => True) v319 t316) ∧ Aside0 (Below w.heap.size w wc))
              case first =>
               have H := HC40.out
               clear HC40
               by_cases c41 : (t316.length : Int) = x14_2
               ·rw [if_pos c41] at H
                have c41b0 : ((t316.length : Int) == x14_2) = true := beq_iff_eq.mpr c41
                have c41b1 : ((t316.length : Int) != x14_2) = false := bne_eq_false_iff_eq.mpr c41
                clear c41
                (first | rw [c41b0] | (simp only [i64_w, i32_w]; rw [c41b0]) | skip)
                by_cases c42 : t317 = x15_2
                ·rw [if_pos c42] at H
                 have c42b0 : (t317 == x15_2) = true := beq_iff_eq.mpr c42
                 have c42b1 : (t317 != x15_2) = false := bne_eq_false_iff_eq.mpr c42
                 clear c42
                 by_cases c43 : t318 = 0
                 ·rw [if_pos c43] at H
                  have c43b0 : (t318 == 0) = true := beq_iff_eq.mpr c43
                  have c43b1 : (t318 != 0) = false := bne_eq_false_iff_eq.mpr c43
                  clear c43
                  by_cases c44 : x15_2 = ji24
                  ·rw [if_pos c44] at H
                   have c44b0 : (x15_2 == ji24) = true := beq_iff_eq.mpr c44
                   have c44b1 : (x15_2 != ji24) = false := bne_eq_false_iff_eq.mpr c44
                   clear c44
                   have H' := Aside0.mk H
                   clear H
                   obtain ⟨Ao45, co45, eo45⟩ := Kd.S_slice HO_11.out
                   subst eo45
                   go_wp2
                   go_meet
                   case rel => exact ⟨_, (false), (by first | rfl | (simp; done) | (simp [*]; done)), H', ⟨by have := HK1.out; have := HK2.out; have := HJ30.out; first | omega | exact Nat.le_refl _⟩, ⟨by (with_reducible repeat (first | apply Kd.S_alloc | apply Kd.S_drewN | apply Kd.S_drew)); exact HO_11.out⟩, ⟨by repeat (first | (with_reducible first | exact HB.out | apply below_alloc | apply pw_below_drewN | apply below_drew1) | exact HB.out)⟩⟩
                  ·rw [if_neg c44] at H
                   have c44b0 : (x15_2 == ji24) = false := beq_eq_false_iff_ne.mpr c44
                   have c44b1 : (x15_2 != ji24) = true := bne_iff_ne.mpr c44
                   have H' := Aside0.mk H
                   clear H
                   obtain ⟨Ao46, co46, eo46⟩ := Kd.S_slice HO_11.out
                   subst eo46
                   go_wp2
                   go_meet
                   case rel => exact ⟨_, (true), (by first | rfl | (simp; done) | (simp [*]; done)), H', ⟨by have := HK1.out; have := HK2.out; have := HJ30.out; first | omega | exact Nat.le_refl _⟩, ⟨by (with_reducible repeat (first | apply Kd.S_alloc | apply Kd.S_drewN | apply Kd.S_drew)); exact HO_11.out⟩, ⟨by repeat (first | (with_reducible first | exact HB.out | apply below_alloc | apply pw_below_drewN | apply below_drew1) | exact HB.out)⟩⟩
                 ·rw [if_neg c43] at H
                  have c43b0 : (t318 == 0) = false := beq_eq_false_iff_ne.mpr c43
                  have c43b1 : (t318 != 0) = true := bne_iff_ne.mpr c43
                  by_cases c47 : x15_2 = ji24
                  ·rw [if_pos c47] at H
                   have c47b0 : (x15_2 == ji24) = true := beq_iff_eq.mpr c47
                   have c47b1 : (x15_2 != ji24) = false := bne_eq_false_iff_eq.mpr c47
                   clear c47
                   have H' := Aside0.mk H
                   clear H
                   obtain ⟨Ao48, co48, eo48⟩ := Kd.S_slice HO_11.out
                   subst eo48
                   go_wp2
                   go_meet
                   case rel => exact ⟨_, (true), (by first | rfl | (simp; done) | (simp [*]; done)), H', ⟨by have := HK1.out; have := HK2.out; have := HJ30.out; first | omega | exact Nat.le_refl _⟩, ⟨by (with_reducible repeat (first | apply Kd.S_alloc | apply Kd.S_drewN | apply Kd.S_drew)); exact HO_11.out⟩, ⟨by repeat (first | (with_reducible first | exact HB.out | apply below_alloc | apply pw_below_drewN | apply below_drew1) | exact HB.out)⟩⟩
                  ·rw [if_neg c47] at H
                   have c47b0 : (x15_2 == ji24) = false := beq_eq_false_iff_ne.mpr c47
                   have c47b1 : (x15_2 != ji24) = true := bne_iff_ne.mpr c47
                   have H' := Aside0.mk H
                   clear H
                   obtain ⟨Ao49, co49, eo49⟩ := Kd.S_slice HO_11.out
                   subst eo49
                   go_wp2
                   go_meet
                   case rel => exact ⟨_, ((t318 != 3)), (by first | rfl | (simp; done) | (simp [*]; done)), H', ⟨by have := HK1.out; have := HK2.out; have := HJ30.out; first | omega | exact Nat.le_refl _⟩, ⟨by (with_reducible repeat (first | apply Kd.S_alloc | apply Kd.S_drewN | apply Kd.S_drew)); exact HO_11.out⟩, ⟨by repeat (first | (with_reducible first | exact HB.out | apply below_alloc | apply pw_below_drewN | apply below_drew1) | exact HB.out)⟩⟩
                ·rw [if_neg c42] at H
                 have c42b0 : (t317 == x15_2) = false := beq_eq_false_iff_ne.mpr c42
                 have c42b1 : (t317 != x15_2) = true := bne_iff_ne.mpr c42
                 have H' := Aside0.mk H
                 clear H
                 obtain ⟨Ao50, co50, eo50⟩ := Kd.S_slice HO_11.out
                 subst eo50
                 go_wp2
                 go_meet
                 case rel => exact ⟨_, (true), (by first | rfl | (simp; done) | (simp [*]; done)), H', ⟨by have := HK1.out; have := HK2.out; have := HJ30.out; first | omega | exact Nat.le_refl _⟩, ⟨by (with_reducible repeat (first | apply Kd.S_alloc | apply Kd.S_drewN | apply Kd.S_drew)); exact HO_11.out⟩, ⟨by repeat (first | (with_reducible first | exact HB.out | apply below_alloc | apply pw_below_drewN | apply below_drew1) | exact HB.out)⟩⟩
               ·rw [if_neg c41] at H
                have c41b0 : ((t316.length : Int) == x14_2) = false := beq_eq_false_iff_ne.mpr c41
                have c41b1 : ((t316.length : Int) != x14_2) = true := bne_iff_ne.mpr c41
                (first | rw [c41b0] | (simp only [i64_w, i32_w]; rw [c41b0]) | skip)
                have H' := Aside0.mk H
                clear H
                obtain ⟨Ao51, co51, eo51⟩ := Kd.S_slice HO_11.out
                subst eo51
                go_wp2
                go_meet
                case rel => exact ⟨_, (true), (by first | rfl | (simp; done) | (simp [*]; done)), H', ⟨by have := HK1.out; have := HK2.out; have := HJ30.out; first | omega | exact Nat.le_refl _⟩, ⟨by (with_reducible repeat (first | apply Kd.S_alloc | apply Kd.S_drewN | apply Kd.S_drew)); exact HO_11.out⟩, ⟨by repeat (first | (with_reducible first | exact HB.out | apply below_alloc | apply pw_below_drewN | apply below_drew1) | exact HB.out)⟩⟩
              case rest =>
               clear HC40
               try clear c1
               try clear c2
               try clear p2
               try clear q2
               try clear hx2
               try clear c3
               try clear c3b0
               try clear c3b1
               try clear p3
               try clear q3
               try clear hx3
               try clear c4
               try clear c6
               try clear c6b0
               try clear p6
               try clear c7
               try clear c7b0
               try clear c8
               try clear c8b0
               try clear c8b1
               try clear c9
               try clear c12
               try clear c12b0
               try clear c12b1
               try clear c13
               try clear c14
               try clear c23
               try clear c23b0
               try clear c23b1
               try clear c25
               try clear c25b0
               try clear c25b1
               try clear c26
               try clear c26b0
               try clear c26b1
               try clear c29
               try clear p29
               try clear q29
               try clear hx29
               try clear c30
               try clear p30
               try clear q30
               try clear hx30
               try clear c32
               try clear c32b0
               try clear p32
               try clear q32
               try clear hx32
               try clear c33
               try clear c33b0
               try clear c34
               try clear c34b0
               try clear c36
               try clear c37
               try clear c37b0
               try clear c38
               try clear c38b0
               try clear c41
               try clear c41b0
               try clear c41b1
               try clear c42
               try clear c42b0
               try clear c42b1
               try clear c43
               try clear c43b0
               try clear c43b1
               try clear c44
               try clear c44b0
               try clear c44b1
               try clear c47
               try clear c47b0
               try clear c47b1
               try clear hx298_0
               try clear hx298_1
               try clear hx298_2
               try clear hx300_0
               try clear hx300_1
               try clear hx300_2
               try clear hx321_0
               try clear hx322_0
               try clear p2
               try clear p29
               try clear p298
               try clear p3
               try clear p30
               try clear p300
               try clear p32
               try clear p321
               try clear p322
               try clear p6
               try clear q2
               try clear q29
               try clear q298
               try clear q3
               try clear q30
               try clear q300
               try clear q32
               try clear q321
               try clear q322
               obtain ⟨kq, x112_39, rfl, HA, HJ39, HO_11, HB⟩ := hcut
               cases kq with
               | zero => exact absurd HA.out (by simp [carrefourlaw4_FrameRows.j3])
               | succ kj39 =>
                have H := HA.out
                clear HA
                simp only [carrefourlaw4_FrameRows.j3] at H
                by_cases c52 : x112_39 = true
                ·subst c52
                 have H1 : (some false) = some r := by rw [if_pos rfl] at H; exact H
                 clear H
                 have H := H1
                 clear H1
                 rw [HRT.out] at H
                 exact absurd H (by (repeat' split) <;> simp [Option.bind_eq_some_iff])
                ·replace c52 := Bool.eq_false_iff.mpr c52
                 subst c52
                 have H1 : (carrefourlaw4_FrameRows.l5 kj39 l0 t316 x14_2 0) = some r := by rw [if_neg (show ¬ (false = true) by decide)] at H; exact H
                 clear H
                 have H := H1
                 clear H1
                 have H' := Aside0.mk H
                 clear H
                 go_wp2
                 go_loopg [16] kj39 (fun kq v16 w' => ∃ (x16_5 : Int), v16 = .int .i64 x16_5 ∧ Aside0 (carrefourlaw4_FrameRows.l5 kq l0 t316 x14_2 x16_5 = some r) ∧ Aside0 (kq ≤ kj39) ∧ Aside0 (Kd.S k24 24 w' w.heap.size (fun _ => True) v319 t316) ∧ Aside0 (Below w.heap.size w w'))
                 case atStart => exact ⟨(0), (by first | rfl | (simp; done) | (simp [*]; done)), H', ⟨Nat.le_refl _⟩, ⟨by (with_reducible repeat (first | apply Kd.S_alloc | apply Kd.S_drewN | apply Kd.S_drew)); exact HO_11.out⟩, ⟨by repeat (first | (with_reducible first | exact HB.out | apply below_alloc | apply pw_below_drewN | apply below_drew1) | exact HB.out)⟩⟩
                 case round =>
                  clear H'
                  try clear c1
                  try clear c2
                  try clear p2
                  try clear q2
                  try clear hx2
                  try clear c3
                  try clear c3b0
                  try clear c3b1
                  try clear p3
                  try clear q3
                  try clear hx3
                  try clear c4
                  try clear c5
                  try clear c6
                  try clear c6b0
                  try clear p6
                  try clear c7
                  try clear c7b0
                  try clear c8
                  try clear c8b0
                  try clear c8b1
                  try clear c9
                  try clear c12
                  try clear c12b0
                  try clear c12b1
                  try clear c13
                  try clear c14
                  try clear c23
                  try clear c23b0
                  try clear c23b1
                  try clear c25
                  try clear c25b0
                  try clear c25b1
                  try clear c26
                  try clear c26b0
                  try clear c26b1
                  try clear c29
                  try clear p29
                  try clear q29
                  try clear hx29
                  try clear c30
                  try clear p30
                  try clear q30
                  try clear hx30
                  try clear c32
                  try clear c32b0
                  try clear p32
                  try clear q32
                  try clear hx32
                  try clear c33
                  try clear c33b0
                  try clear c34
                  try clear c34b0
                  try clear c36
                  try clear c37
                  try clear c37b0
                  try clear c38
                  try clear c38b0
                  try clear c41
                  try clear c41b0
                  try clear c41b1
                  try clear c42
                  try clear c42b0
                  try clear c42b1
                  try clear c43
                  try clear c43b0
                  try clear c43b1
                  try clear c44
                  try clear c44b0
                  try clear c44b1
                  try clear c47
                  try clear c47b0
                  try clear c47b1
                  try clear c52
                  try clear hx298_0
                  try clear hx298_1
                  try clear hx298_2
                  try clear hx300_0
                  try clear hx300_1
                  try clear hx300_2
                  try clear hx321_0
                  try clear hx322_0
                  try clear p2
                  try clear p29
                  try clear p298
                  try clear p3
                  try clear p30
                  try clear p300
                  try clear p32
                  try clear p321
                  try clear p322
                  try clear p6
                  try clear q2
                  try clear q29
                  try clear q298
                  try clear q3
                  try clear q30
                  try clear q300
                  try clear q32
                  try clear q321
                  try clear q322
                  obtain ⟨x16_5, rfl, HA, HK5, HO_11, HB⟩ := hrel
                  cases gk with
                  | zero => exact absurd HA.out (by simp [carrefourlaw4_FrameRows.l5])
                  | succ k5 =>
                   have H := HA.out
                   clear HA
                   simp only [carrefourlaw4_FrameRows.l5] at H
                   by_cases c53 : x16_5 < x14_2
                   ·rw [if_pos c53] at H
                    have c53b0 : decide (x16_5 < x14_2) = true := decide_eq_true c53
                    clear c53
                    by_cases c54 : 0 ≤ x16_5
                    ·rw [if_pos c54] at H
                     have c54b0 : decide (0 ≤ x16_5) = true := decide_eq_true c54
                     clear c54
                     by_cases c55 : x16_5 < (t316.length : Int)
                     ·rw [if_pos c55] at H
                      have c55b0 : decide (x16_5 < (t316.length : Int)) = true := decide_eq_true c55
                      clear c55
                      by_cases c56 : x16_5 < (l0.length : Int)
                      ·rw [if_pos c56] at H
                       have c56b0 : decide (x16_5 < (l0.length : Int)) = true := decide_eq_true c56
                       clear c56
                       replace H := Option.bind_eq_some_iff.mp H
                       obtain ⟨t325, A570, H⟩ := H
                       replace H : (if t325 = true then (carrefourlaw4_FrameRows.l5 k5 l0 t316 x14_2 (wrap64 (x16_5 + 1))) else (some false)) = some r := H
                       have A57 := Aside0.mk A570
                       clear A570
                       by_cases c58 : t325 = true
                       ·subst c58
                        have H1 : (carrefourlaw4_FrameRows.l5 k5 l0 t316 x14_2 (wrap64 (x16_5 + 1))) = some r := by rw [if_pos rfl] at H; exact H
                        clear H
                        have H := H1
                        clear H1
                        have H' := Aside0.mk H
                        clear H
                        try go_wp2
                        have n0_ := Aside0.mk (Kd.S_drew HO_11.out)
                        have n1_ := Aside0.mk (below_drew1 HB.out)
                        clear HO_11
                        clear HB
                        have HO_11 := n0_
                        have HB := n1_
                        clear n0_ n1_
                        obtain ⟨Ao60, co60, eo60⟩ := Kd.S_slice HO_11.out
                        (first | subst eo60 | (injection eo60 with f1_ f2_ f3_; have f4_ := f1_.symm; have f5_ := f3_.symm; clear f1_ f2_ f3_; subst f4_; subst f5_))
                        have p323 : 0 ≤ (x16_5 : Int) := of_decide_eq_true (by first | (with_reducible assumption) | assumption)
                        have q323 : x16_5 < (t316.length : Int) := of_decide_eq_true (by first | (with_reducible assumption) | assumption)
                        obtain ⟨ad323, A323_2, c323_2, e323, hx323_0, hx323_1, hx323_2, hl323_2, hi323_2⟩ := at_T24 (Kd.S_reads' HO_11.out).2.2 x16_5 p323 q323
                        cases e323
                        obtain ⟨ce323, hce323, hMe323, hcc323⟩ := Kd.S_get HO_11.out z24 x16_5 p323 (by first | exact q323 | exact of_decide_eq_true (by first | (with_reducible assumption) | assumption) | (have e_ := (Kd.S_reads' HO_11.out).1; omega))
                        obtain ⟨ve323_2, rfl, ge323_2⟩ := k24_openM hMe323
                        have hv323_2 := hcc323 2 _ rfl
                        rw [add_field _ _ 2 (by omega)] at hv323_2
                        replace hv323_2 := Option.some.inj (hv323_2.symm.trans hx323_2)
                        rw [hv323_2] at ge323_2
                        have HL323_2 := Aside0.mk (show Kd.R (Kd.int .u8) 5 _ _ _ _ ((rd_T24 t316 x16_5).f2) from ge323_2)
                        clear hv323_2 ge323_2
                        clear hcc323 hce323
                        have HR323_2 := Aside0.mk hi323_2
                        have HC323_2 := Aside0.mk hl323_2
                        clear hi323_2 hl323_2
                        replace p323 := eq_true p323
                        replace q323 := eq_true q323
                        have p324 : 0 ≤ (x16_5 : Int) := of_decide_eq_true (by first | (with_reducible assumption) | assumption)
                        have q324 : x16_5 < (l0.length : Int) := of_decide_eq_true (by first | (with_reducible assumption) | assumption)
                        obtain ⟨ad324, A324_2, c324_2, e324, hx324_0, hx324_1, hx324_2, hl324_2, hi324_2⟩ := at_T24 HR0.out x16_5 p324 q324
                        have hw324_2 := hx324_2
                        have hw324_1 := hx324_1
                        have hw324_0 := hx324_0
                        cases e324
                        replace hx324_0 := (HB.out.cell (World.block_lt_of_cell? w _ hx324_0)).trans hx324_0
                        replace hx324_1 := (HB.out.cell (World.block_lt_of_cell? w _ hx324_1)).trans hx324_1
                        replace hx324_2 := (HB.out.cell (World.block_lt_of_cell? w _ hx324_2)).trans hx324_2
                        have HR324_2 := Aside0.mk hi324_2
                        have HC324_2 := Aside0.mk hl324_2
                        clear hi324_2 hl324_2
                        replace p324 := eq_true p324
                        replace q324 := eq_true q324
                        refine start_ (n := 10) (S := fun w' => w'.cell? (ad323.add ((x16_5).toNat * 3)) = some (.int .i64 ((rd_T24 t316 x16_5).f0)) ∧ w'.cell? ⟨(ad323.add ((x16_5).toNat * 3)).block, (ad323.add ((x16_5).toNat * 3)).off + 1, none⟩ = some (.int .i64 ((rd_T24 t316 x16_5).f1)) ∧ w'.cell? ⟨(ad323.add ((x16_5).toNat * 3)).block, (ad323.add ((x16_5).toNat * 3)).off + 2, none⟩ = some (.slice A323_2 ((rd_T24 t316 x16_5).f2).length c323_2) ∧ w'.cell? (ad324.add ((x16_5).toNat * 3)) = some (.int .i64 ((rd_T24 l0 x16_5).f0)) ∧ w'.cell? ⟨(ad324.add ((x16_5).toNat * 3)).block, (ad324.add ((x16_5).toNat * 3)).off + 1, none⟩ = some (.int .i64 ((rd_T24 l0 x16_5).f1)) ∧ w'.cell? ⟨(ad324.add ((x16_5).toNat * 3)).block, (ad324.add ((x16_5).toNat * 3)).off + 2, none⟩ = some (.slice A324_2 ((rd_T24 l0 x16_5).f2).length c324_2)) (ds := []) #[false, false, false, false, false, false, false, false, false, false] (by kernel_rfl) rfl rfl ⟨hx323_0, hx323_1, hx323_2, ((HB.out.cell (World.block_lt_of_cell? w _ hw324_0)).trans hw324_0), ((HB.out.cell (World.block_lt_of_cell? w _ hw324_1)).trans hw324_1), ((HB.out.cell (World.block_lt_of_cell? w _ hw324_2)).trans hw324_2)⟩ (fun hHeld => ?_); refine with_tabW carrefourlaw4_FrameRows.tab26 carrefourlaw4_FrameRows.bits26 (fun HT_ HW_ => ?_)
                        generalize wr.drew = w59 at HO_11 HB HL323_2 HR323_2 HR324_2 hx323_0 hx323_1 hx323_2 hx324_0 hx324_1 hx324_2 hHeld ⊢
                        refine pure_ (i := 0) (N := some 118) (v := ?_) (a' := ?_) #[true, false, false, false, false, false, false, false, false, false] rfl rfl (any_of HT_.out (by kernel_rfl)) (fun _ _ _ h => h) (Or.inl ⟨by rfl, ?_⟩) ?_ ?_
                        rotate_left
                        ·intro w'
                         go_simp
                         with_reducible rfl
                        rotate_left
                        ·simp only [Act.put, List.setIfInBounds_toArray, List.set_cons_zero, List.set_cons_succ, i64_w, i32_w]
                         rfl
                        refine pure_ (i := 1) (N := some 119) (v := ?_) (a' := ?_) #[true, true, false, false, false, false, false, false, false, false] rfl rfl (any_of HT_.out (by kernel_rfl)) (fun _ _ _ h => h) (Or.inl ⟨by rfl, ?_⟩) ?_ ?_
                        rotate_left
                        ·intro w'
                         go_simp
                         with_reducible rfl
                        rotate_left
                        ·simp only [Act.put, List.setIfInBounds_toArray, List.set_cons_zero, List.set_cons_succ, i64_w, i32_w]
                         rfl
                        refine pure_ (i := 2) (N := some 120) (v := ?_) (a' := ?_) #[true, true, true, false, false, false, false, false, false, false] rfl rfl (any_of HT_.out (by kernel_rfl)) (fun _ _ _ h => h) (Or.inl ⟨by rfl, ?_⟩) ?_ ?_
                        rotate_left
                        ·intro w'
                         go_simp
                         with_reducible rfl
                        rotate_left
                        ·simp only [Act.put, List.setIfInBounds_toArray, List.set_cons_zero, List.set_cons_succ, i64_w, i32_w]
                         rfl
                        refine pure_ (i := 4) (N := some 122) (v := ?_) (a' := ?_) #[true, true, true, false, true, false, false, false, false, false] rfl rfl (any_of HT_.out (by kernel_rfl)) (fun _ _ _ h => h) (Or.inl ⟨by rfl, ?_⟩) ?_ ?_
                        rotate_left
                        ·intro w'
                         go_simp
                         with_reducible rfl
                        rotate_left
                        ·simp only [Act.put, List.setIfInBounds_toArray, List.set_cons_zero, List.set_cons_succ, i64_w, i32_w]
                         rfl
                        refine pure_ (i := 5) (N := some 123) (v := ?_) (a' := ?_) #[true, true, true, false, true, true, false, false, false, false] rfl rfl (any_of HT_.out (by kernel_rfl)) (fun _ _ _ h => h) (Or.inl ⟨by rfl, ?_⟩) ?_ ?_
                        rotate_left
                        ·intro w'
                         go_simp
                         with_reducible rfl
                        rotate_left
                        ·simp only [Act.put, List.setIfInBounds_toArray, List.set_cons_zero, List.set_cons_succ, i64_w, i32_w]
                         rfl
                        refine pure_ (i := 6) (N := some 124) (v := ?_) (a' := ?_) #[true, true, true, false, true, true, true, false, false, false] rfl rfl (any_of HT_.out (by kernel_rfl)) (fun _ _ _ h => h) (Or.inl ⟨by rfl, ?_⟩) ?_ ?_
                        rotate_left
                        ·intro w'
                         go_simp
                         with_reducible rfl
                        rotate_left
                        ·simp only [Act.put, List.setIfInBounds_toArray, List.set_cons_zero, List.set_cons_succ, i64_w, i32_w]
                         rfl
                        refine take_ (i := 3) (N := some 121) (v := ?_) (a' := ?_) #[true, true, true, true, true, true, true, false, false, false] rfl rfl (take_ofW HT_.out HW_.out (by kernel_rfl)) (fun _ _ _ h => h) (Or.inl ⟨by rfl, ?_⟩) hHeld ?_ ?_
                        rotate_left
                        ·rintro w' ⟨s0, s1, s2, s3, s4, s5⟩
                         go_simp
                         with_reducible rfl
                        rotate_left
                        ·simp only [Act.put, List.setIfInBounds_toArray, List.set_cons_zero, List.set_cons_succ, i64_w, i32_w]
                         rfl
                        refine take_ (i := 7) (N := some 125) (v := ?_) (a' := ?_) #[true, true, true, true, true, true, true, true, false, false] rfl rfl (take_ofW HT_.out HW_.out (by kernel_rfl)) (fun _ _ _ h => h) (Or.inl ⟨by rfl, ?_⟩) hHeld ?_ ?_
                        rotate_left
                        ·rintro w' ⟨s0, s1, s2, s3, s4, s5⟩
                         go_simp
                         with_reducible rfl
                        rotate_left
                        ·simp only [Act.put, List.setIfInBounds_toArray, List.set_cons_zero, List.set_cons_succ, i64_w, i32_w]
                         rfl
                        refine one_ (i := 8) (N := some 126) #[true, true, true, true, true, true, true, true, true, false] rfl rfl (one_of HT_.out (by kernel_rfl)) (by decide) (fun K hK => ?_)
                        refine goes_ Try.func18 (by kernel_rfl) rfl #[.agg #[.int .i64 ((rd_T24 t316 x16_5).f0), .int .i64 ((rd_T24 t316 x16_5).f1), .slice A323_2 ((rd_T24 t316 x16_5).f2).length c323_2], .agg #[.int .i64 ((rd_T24 l0 x16_5).f0), .int .i64 ((rd_T24 l0 x16_5).f1), .slice A324_2 ((rd_T24 l0 x16_5).f2).length c324_2]] (by rfl) rfl rfl (by (try simp only [List.map_toArray, List.map_cons, List.map_nil]); first | done | rfl | (simp only [List.length_drop, List.length_take]; rfl)) ?_
                        with_reducible refine (frame_Same.calls ((rd_T24 t316 x16_5).f0) ((rd_T24 t316 x16_5).f1) _ _ ((rd_T24 t316 x16_5).f2) ((rd_T24 l0 x16_5).f0) ((rd_T24 l0 x16_5).f1) _ _ ((rd_T24 l0 x16_5).f2) true _ ?side1 ?side2 ?side3 ?side4 A57.out).mono ?_
                        (case side1 => repeat (first | exact (by repeat (first | (with_reducible exact HR323_2.out) | (with_reducible refine Kd.C_alloc ?_ _) | (with_reducible refine Kd.C_drewN ?_ _) | (with_reducible refine Kd.C_drew ?_) | exact HR323_2.out)) | (with_reducible refine Kd.C_alloc ?_ _) | (with_reducible refine Kd.C_drewN ?_ _) | (with_reducible refine Kd.C_drew ?_)))
                        (case side2 => exact HC323_2.out)
                        (case side3 => repeat (first | exact (Kd.C_below HR324_2.out HB.out) | (with_reducible refine Kd.C_alloc ?_ _) | (with_reducible refine Kd.C_drewN ?_ _) | (with_reducible refine Kd.C_drew ?_)))
                        (case side4 => exact HC324_2.out)
                        rintro e w61 ⟨rfl, hb⟩
                        have HS0_ := (hb.cell (World.block_lt_of_cell? _ _ (hHeld.1))).trans (hHeld.1)
                        have HS1_ := (hb.cell (World.block_lt_of_cell? _ _ (hHeld.2.1))).trans (hHeld.2.1)
                        have HS2_ := (hb.cell (World.block_lt_of_cell? _ _ (hHeld.2.2.1))).trans (hHeld.2.2.1)
                        refine ⟨_, rfl, ?_⟩
                        have n0_ := Aside0.mk (Kd.S_below (by (with_reducible repeat (first | apply Kd.S_alloc | apply Kd.S_drewN | apply Kd.S_drew)); exact HO_11.out) hb)
                        have n1_ := Aside0.mk (Kd.R_below (by (with_reducible repeat (first | apply Kd.R_alloc | apply Kd.R_drewN | apply Kd.R_drew)); exact HL323_2.out) hb)
                        have n2_ := Aside0.mk (Kd.C_below (by repeat (first | (with_reducible exact HR323_2.out) | (with_reducible refine Kd.C_alloc ?_ _) | (with_reducible refine Kd.C_drewN ?_ _) | (with_reducible refine Kd.C_drew ?_) | exact HR323_2.out)) hb)
                        have n3_ := Aside0.mk (below_step (by repeat (first | (with_reducible first | exact HB.out | apply below_alloc | apply pw_below_drewN | apply below_drew1) | exact HB.out)) hb)
                        clear HO_11
                        clear HL323_2
                        clear HR323_2
                        clear HB
                        have HO_11 := n0_
                        have HL323_2 := n1_
                        have HR323_2 := n2_
                        have HB := n3_
                        clear n0_ n1_ n2_ n3_
                        (try clear hb)
                        (try clear hb2)
                        (try clear hk)
                        (try clear hi)
                        refine hK.out _ _ ⟨HS0_, HS1_, HS2_, ((HB.out.cell (World.block_lt_of_cell? w _ hw324_0)).trans hw324_0), ((HB.out.cell (World.block_lt_of_cell? w _ hw324_1)).trans hw324_1), ((HB.out.cell (World.block_lt_of_cell? w _ hw324_2)).trans hw324_2)⟩ (fun hHeld => ?_)
                        clear hK K
                        refine norm_ (a' := ?_) ?_ ?_
                        rotate_left
                        ·show Act.put _ (some 126) _ = _
                         simp only [Act.put, List.setIfInBounds_toArray, List.set_cons_zero, List.set_cons_succ, i64_w, i32_w]
                         rfl
                        refine pure_ (i := 9) (N := some 127) (v := ?_) (a' := ?_) #[true, true, true, true, true, true, true, true, true, true] rfl rfl (any_of HT_.out (by kernel_rfl)) (fun _ _ _ h => h) (Or.inl ⟨by rfl, ?_⟩) ?_ ?_
                        rotate_left
                        ·intro w'
                         go_simp
                         with_reducible rfl
                        rotate_left
                        ·simp only [Act.put, List.setIfInBounds_toArray, List.set_cons_zero, List.set_cons_succ, i64_w, i32_w]
                         rfl
                        refine done_ (done_of HT_.out (by kernel_rfl)) ?_
                        try go_wp2
                        go_roundg k5
                        case measure => have := HK1.out; have := HK2.out; have := HJ30.out; have := HJ39.out; have := HK5.out; omega
                        case rel => exact ⟨(wrap64 (x16_5 + 1)), (by first | rfl | (simp; done) | (simp [*]; done)), H', ⟨by have := HK1.out; have := HK2.out; have := HJ30.out; have := HJ39.out; have := HK5.out; omega⟩, ⟨by (with_reducible repeat (first | apply Kd.S_alloc | apply Kd.S_drewN | apply Kd.S_drew)); exact HO_11.out⟩, ⟨by repeat (first | (with_reducible first | exact HB.out | apply below_alloc | apply pw_below_drewN | apply below_drew1) | exact HB.out)⟩⟩
                       ·replace c58 := Bool.eq_false_iff.mpr c58
                        subst c58
                        have H1 : (some false) = some r := by rw [if_neg (show ¬ (false = true) by decide)] at H; exact H
                        clear H
                        have H := H1
                        clear H1
                        rw [HRT.out] at H
                        exact absurd H (by (repeat' split) <;> simp [Option.bind_eq_some_iff])
                      ·rw [if_neg c56] at H
                       exact absurd H (by simp)
                     ·rw [if_neg c55] at H
                      exact absurd H (by simp)
                    ·rw [if_neg c54] at H
                     exact absurd H (by simp)
                   ·rw [if_neg c53] at H
                    have c53b0 : decide (x16_5 < x14_2) = false := decide_eq_false c53
                    clear c53
                    replace H := Option.bind_eq_some_iff.mp H
                    obtain ⟨t326, A620, H⟩ := H
                    replace H : (some t326) = some r := H
                    have A62 := Aside0.mk A620
                    clear A620
                    clear HRT
                    obtain rfl := Option.some.inj H
                    go_wp2_with (first | ((with_reducible refine gate_callee (f := 9) rfl ?_); refine goesL_ (some 128) rfl rfl Try.func9 (by kernel_rfl) rfl #[] rfl (by (try simp only [List.map_toArray, List.map_cons, List.map_nil]); first | done | rfl | (simp only [List.length_drop, List.length_take]; rfl)) ?_; (with_reducible refine (carrefourlaw4_told.calls k5  t326 _ A62.out).mono ?_); rintro e w63 ⟨rfl, hb⟩; refine ⟨_, rfl, ?_⟩; have n0_ := Aside0.mk (Kd.S_below (by (with_reducible repeat (first | apply Kd.S_alloc | apply Kd.S_drewN | apply Kd.S_drew)); exact HO_11.out) hb); have n1_ := Aside0.mk (below_step (by repeat (first | (with_reducible first | exact HB.out | apply below_alloc | apply pw_below_drewN | apply below_drew1) | exact HB.out)) hb); clear HO_11; clear HB; have HO_11 := n0_; have HB := n1_; clear n0_ n1_; (try clear hb); (try clear hb2); (try clear hk); (try clear hi)))
                    go_ret
                    exact ⟨by first | rfl | (simp [errW_none, errW_some] <;> rfl) | (simp only [← hji24]; first | rfl | (simp [errW_none, errW_some] <;> rfl)) | (simp [*, errW_none, errW_some] <;> rfl), by repeat (first | (with_reducible first | exact HB.out | apply below_alloc | apply pw_below_drewN | apply below_drew1) | exact HB.out)⟩
        ·rw [if_neg c26] at H
         exact absurd H (by simp)
       ·rw [if_neg c25] at H
        exact absurd H (by simp)
def carrefourlaw4_FrameRows.Pure : Prop := ∀ (l0 : List (S24)) (a1 : Int), (l0.length * 40 ≤ 140737488351232 ∧ ∀ y0_ ∈ l0, ((Lit.int .i64 y0_.f0).wf = true ∧ (Lit.int .i64 y0_.f1).wf = true ∧ (y0_.f2.length * 1 ≤ 140737488351232 ∧ ∀ y1_ ∈ y0_.f2, (Lit.int .u8 y1_).wf = true))) → (Lit.int .i64 a1).wf = true → ∃ k, carrefourlaw4_FrameRows.f k l0 a1 = some true

end Go.Proofs.Ytcfideolgkjhmaa.PGq
