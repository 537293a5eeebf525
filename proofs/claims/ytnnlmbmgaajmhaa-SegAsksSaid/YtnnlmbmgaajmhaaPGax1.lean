-- Written by gprint.py, this session's own program, out of Lean's print of the translation: functions with the same answers, and proofs that the Go code comes to them. Lean checks it all.
import Derived.Test.YtnnlmbmgaajmhaaPGax0
namespace Go.Proofs.Ytnnlmbmgaajmhaa.PGa
open Go.RowKit Go.Proofs.YtnnlmbmgaajmhaaW.PrintWords Go.Proofs.YtnnlmbmgaajmhaaW.PrintLast Go.Proofs.YtnnlmbmgaajmhaaW.PrintMore Go.Proofs.YtnnlmbmgaajmhaaG
attribute [local go_sem] max2_int min2_int max_two min_two max_three min_three max_four min_four   -- for this text's walks alone
set_option linter.unusedVariables false
set_option linter.unusedSimpArgs false

/-! ### seg_Sum: function 17 -/
def seg_Sum.l1 : Nat → Int → Int → List Int → Int → Int → Option (Int)
  | 0, _, _, _, _, _ => none
  | k + 1, x3, x4, x7, x8, x9 => if x9 < x8 then (if 0 ≤ x9 then (if x9 < (x7.length : Int) then (seg_Sum.l1 k (((((((31 * x3) % 4294967296) + ((rd x7 x9) % 4294967296)) % 4294967296) + 1) % 4294967296) % 65521) (((x4 + (((((((31 * x3) % 4294967296) + ((rd x7 x9) % 4294967296)) % 4294967296) + 1) % 4294967296) % 65521)) % 4294967296) % 65521) x7 x8 (wrap64 (x9 + 1))) else (none)) else (none)) else (some ((((x4 * 65536) % 4294967296) + x3) % 4294967296))
def seg_Sum.f (k : Nat) (l0 : List Int) : Option (Int) := seg_Sum.l1 k 1 0 l0 (l0.length : Int) 0
theorem seg_Sum.mono_l : ∀ k, (∀ y0 y1 y2 y3 y4, LeO (seg_Sum.l1 k y0 y1 y2 y3 y4) (seg_Sum.l1 (k + 1) y0 y1 y2 y3 y4))
  | 0 => fun _ _ _ _ _ r h => by simp [seg_Sum.l1] at h
  | k + 1 => by
    have ih0 := seg_Sum.mono_l k
    · intro y0 y1 y2 y3 y4
      unfold seg_Sum.l1
      repeat' first
      | (with_reducible exact ih0 _ _ _ _ _)
      | (with_reducible exact LeO.refl _)
      | (with_reducible exact LeO.none _)
      | (with_reducible refine LeO.ite ?_ ?_)
      | (with_reducible refine LeO.bind ?_ (fun _ => ?_))
      | exact ih0 _ _ _ _ _
      | exact LeO.none _
      | refine LeO.ite ?_ ?_
      | refine LeO.bind ?_ (fun _ => ?_)
theorem seg_Sum.mono : ∀ a0 k, LeO (seg_Sum.f k a0) (seg_Sum.f (k + 1) a0) := by
  intro a0 k
  have ih0 := seg_Sum.mono_l k
  unfold seg_Sum.f
  repeat' first
      | (with_reducible exact ih0 _ _ _ _ _)
      | (with_reducible exact LeO.refl _)
      | (with_reducible exact LeO.none _)
      | (with_reducible refine LeO.ite ?_ ?_)
      | (with_reducible refine LeO.bind ?_ (fun _ => ?_))
      | exact ih0 _ _ _ _ _
      | exact LeO.none _
      | refine LeO.ite ?_ ?_
      | refine LeO.bind ?_ (fun _ => ?_)
set_option maxHeartbeats 8000000 in
set_option maxRecDepth 100000 in
theorem seg_Sum.calls (k : Nat) (A0 : Option Addr) (c0 : Nat) (l0 : List Int) (r : Int) (w : World) (hr0 : Kd.C (Kd.int .u8) w A0 l0.length l0) (hc0 : l0.length ≤ c0) (h : seg_Sum.f k l0 = some r) :
    Calls Try.prog 17 #[.slice A0 l0.length c0] w fun e w' => e = .returned (.int .u32 r) ∧ Drawn0 w w' := by
  have HR0 := Aside0.mk hr0
  have HC0 := Aside0.mk hc0
  clear hr0 hc0
  have H : (seg_Sum.l1 k 1 0 l0 (l0.length : Int) 0) = some r := h
  clear h
  have H' := Aside0.mk H
  clear H
  go_enter Try.func17, Try.ntmps17
  go_wp2
  go_loopg [3, 4, 9] k (fun kq v3 v4 v9 w' => ∃ (x3_1 : Int) (x4_1 : Int) (x9_1 : Int), v3 = .int .u32 x3_1 ∧ v4 = .int .u32 x4_1 ∧ v9 = .int .i64 x9_1 ∧ Aside0 (seg_Sum.l1 kq x3_1 x4_1 l0 (l0.length : Int) x9_1 = some r) ∧ Aside0 (kq ≤ k) ∧ Drawn0 w w')
  case atStart => exact ⟨(1), (0), (0), (by first | rfl | (simp; done) | (simp [*]; done)), (by first | rfl | (simp; done) | (simp [*]; done)), (by first | rfl | (simp; done) | (simp [*]; done)), H', ⟨Nat.le_refl _⟩, by repeat (first | exact Drawn0.refl _ | apply Drawn0.step)⟩
  case round =>
   clear H'
   try clear c1
   obtain ⟨x3_1, x4_1, x9_1, rfl, rfl, rfl, HA, HK1, ⟨m1, rfl⟩⟩ := hrel
   cases gk with
   | zero => exact absurd HA.out (by simp [seg_Sum.l1])
   | succ k1 =>
    have H := HA.out
    clear HA
    simp only [seg_Sum.l1] at H
    by_cases c2 : x9_1 < (l0.length : Int)
    ·rw [if_pos c2] at H
     have c2b0 : decide (x9_1 < (l0.length : Int)) = true := decide_eq_true c2
     clear c2
     by_cases c3 : 0 ≤ x9_1
     ·rw [if_pos c3] at H
      have c3b0 : decide (0 ≤ x9_1) = true := decide_eq_true c3
      clear c3
      by_cases c4 : x9_1 < (l0.length : Int)
      ·rw [if_pos c4] at H
       have c4b0 : decide (x9_1 < (l0.length : Int)) = true := decide_eq_true c4
       clear c4
       have H' := Aside0.mk H
       clear H
       have p101 : 0 ≤ (x9_1 : Int) := of_decide_eq_true (by first | (with_reducible assumption) | assumption)
       have q101 : x9_1 < (l0.length : Int) := of_decide_eq_true (by first | (with_reducible assumption) | assumption)
       obtain ⟨ad101, e101, hx101_0⟩ := Kd.at_int HR0.out x9_1 p101 q101
       cases e101
       replace p101 := eq_true p101
       replace q101 := eq_true q101
       go_wp2
       go_roundg k1
       case measure => have := HK1.out; omega
       case rel => exact ⟨(((((((31 * x3_1) % 4294967296) + ((rd l0 x9_1) % 4294967296)) % 4294967296) + 1) % 4294967296) % 65521), (((x4_1 + (((((((31 * x3_1) % 4294967296) + ((rd l0 x9_1) % 4294967296)) % 4294967296) + 1) % 4294967296) % 65521)) % 4294967296) % 65521), (wrap64 (x9_1 + 1)), (by first | rfl | (simp; done) | (simp [*]; done)), (by first | rfl | (simp; done) | (simp [*]; done)), (by first | rfl | (simp; done) | (simp [*]; done)), H', ⟨by have := HK1.out; omega⟩, by repeat (first | exact Drawn0.refl _ | apply Drawn0.step)⟩
      ·rw [if_neg c4] at H
       exact absurd H (by simp)
     ·rw [if_neg c3] at H
      exact absurd H (by simp)
    ·rw [if_neg c2] at H
     have c2b0 : decide (x9_1 < (l0.length : Int)) = false := decide_eq_false c2
     clear c2
     obtain rfl := Option.some.inj H
     go_wp2
     go_ret
     exact ⟨by first | rfl | (simp; done) | (simp [*]; done), by repeat (first | exact Drawn0.refl _ | apply Drawn0.step)⟩

/-! ### seg_Record: function 11 -/
def seg_Record.j0 : Nat → List Int → Int → Bool → Option (List Int × Int)
  | 0, _, _, _ => none
  | k + 1, x0, x4, x13 => if x13 = true then (some (([] : List Int), 1)) else ((seg_Sum.f k x0).bind fun t102 => ((some (([(x4 / 256) % 256, (x4) % 256, (t102 / 16777216) % 256, (t102 / 65536) % 256, (t102 / 256) % 256, (t102) % 256] : List Int) : List Int)).bind fun y103 => (if y103.length + x0.length < 140737488355328 then (some ((y103 ++ x0), 0)) else (none))))
def seg_Record.f (k : Nat) (l0 : List Int) : Option (List Int × Int) := if (l0.length : Int) < 1 then (seg_Record.j0 k l0 (l0.length : Int) true) else (seg_Record.j0 k l0 (l0.length : Int) (decide ((l0.length : Int) > 20000)))
theorem seg_Record.mono_l : ∀ k, (∀ y0 y1 y2, LeO (seg_Record.j0 k y0 y1 y2) (seg_Record.j0 (k + 1) y0 y1 y2))
  | 0 => fun _ _ _ r h => by simp [seg_Record.j0] at h
  | k + 1 => by
    have ih0 := seg_Record.mono_l k
    · intro y0 y1 y2
      unfold seg_Record.j0
      repeat' first
      | (with_reducible exact ih0 _ _ _)
      | (with_reducible exact seg_Sum.mono _ _)
      | (with_reducible exact LeO.refl _)
      | (with_reducible exact LeO.none _)
      | (with_reducible refine LeO.ite ?_ ?_)
      | (with_reducible refine LeO.bind ?_ (fun _ => ?_))
      | exact ih0 _ _ _
      | exact seg_Sum.mono _ _
      | exact LeO.none _
      | refine LeO.ite ?_ ?_
      | refine LeO.bind ?_ (fun _ => ?_)
theorem seg_Record.mono : ∀ a0 k, LeO (seg_Record.f k a0) (seg_Record.f (k + 1) a0) := by
  intro a0 k
  have ih0 := seg_Record.mono_l k
  unfold seg_Record.f
  repeat' first
      | (with_reducible exact ih0 _ _ _)
      | (with_reducible exact seg_Sum.mono _ _)
      | (with_reducible exact LeO.refl _)
      | (with_reducible exact LeO.none _)
      | (with_reducible refine LeO.ite ?_ ?_)
      | (with_reducible refine LeO.bind ?_ (fun _ => ?_))
      | exact ih0 _ _ _
      | exact seg_Sum.mono _ _
      | exact LeO.none _
      | refine LeO.ite ?_ ?_
      | refine LeO.bind ?_ (fun _ => ?_)
set_option maxHeartbeats 8000000 in
set_option maxRecDepth 100000 in
theorem seg_Record.calls (k : Nat) (A0 : Option Addr) (c0 : Nat) (l0 : List Int) (r1 : List Int) (r2 : Int) (w : World) (hr0 : Kd.C (Kd.int .u8) w A0 l0.length l0) (hc0 : l0.length ≤ c0) (h : seg_Record.f k l0 = some (r1, r2)) :
    Calls Try.prog 11 #[.slice A0 l0.length c0] w fun e w' => ∃ v0_ : Value, e = .returned (.tuple #[v0_, .int .i64 r2]) ∧ Kd.R (Kd.int .u8) 5 w' w.heap.size (fun _ => True) v0_ r1 ∧ Below w.heap.size w w' := by
  have HR0 := Aside0.mk hr0
  have HC0 := Aside0.mk hc0
  clear hr0 hc0
  have HB := Aside0.mk (Below.refl w.heap.size w)
  have H : (if (l0.length : Int) < 1 then (seg_Record.j0 k l0 (l0.length : Int) true) else (seg_Record.j0 k l0 (l0.length : Int) (decide ((l0.length : Int) > 20000)))) = some (r1, r2) := h
  clear h
  have HC2 := Aside0.mk H
  clear H
  go_enter Try.func11, Try.ntmps11
  go_upto_region 2 with (fail)
  go_cut [13] (fun v13 wc => ∃ (kq : Nat) (x13_1 : Bool), v13 = .bool x13_1 ∧ Aside0 (seg_Record.j0 kq l0 (l0.length : Int) x13_1 = some (r1, r2)) ∧ Aside0 (kq ≤ k) ∧ Aside0 (Below w.heap.size w wc))
  case first =>
   have H := HC2.out
   clear HC2
   by_cases c3 : (l0.length : Int) < 1
   ·rw [if_pos c3] at H
    have c3b0 : decide ((l0.length : Int) < 1) = true := decide_eq_true c3
    have c3b1 : decide (l0.length < 1) = true := decide_eq_true (by omega)
    clear c3
    (first | rw [c3b0] | (simp only [i64_w, i32_w]; rw [c3b0]) | skip)
    have H' := Aside0.mk H
    clear H
    go_wp2
    go_meet
    case rel => exact ⟨_, (true), (by first | rfl | (simp; done) | (simp [*]; done)), H', ⟨by first | omega | exact Nat.le_refl _⟩, ⟨by repeat (first | (with_reducible first | exact HB.out | apply below_alloc | apply pw_below_drewN | apply below_drew1) | exact HB.out)⟩⟩
   ·rw [if_neg c3] at H
    have c3b0 : decide ((l0.length : Int) < 1) = false := decide_eq_false c3
    have c3b1 : decide (l0.length < 1) = false := decide_eq_false (by omega)
    clear c3
    (first | rw [c3b0] | (simp only [i64_w, i32_w]; rw [c3b0]) | skip)
    have H' := Aside0.mk H
    clear H
    go_wp2
    go_meet
    case rel => exact ⟨_, (decide ((l0.length : Int) > 20000)), (by first | rfl | (simp; done) | (simp [*]; done)), H', ⟨by first | omega | exact Nat.le_refl _⟩, ⟨by repeat (first | (with_reducible first | exact HB.out | apply below_alloc | apply pw_below_drewN | apply below_drew1) | exact HB.out)⟩⟩
  case rest =>
   clear HC2
   try clear c1
   try clear p2
   try clear c3
   try clear c3b0
   try clear c3b1
   obtain ⟨kq, x13_1, rfl, HA, HJ1, HB⟩ := hcut
   cases kq with
   | zero => exact absurd HA.out (by simp [seg_Record.j0])
   | succ kj1 =>
    have H := HA.out
    clear HA
    simp only [seg_Record.j0] at H
    by_cases c4 : x13_1 = true
    ·subst c4
     have H1 : (some (([] : List Int), 1)) = some (r1, r2) := by rw [if_pos rfl] at H; exact H
     clear H
     have H := H1
     clear H1
     simp only [Option.some.injEq, Prod.mk.injEq] at H
     obtain ⟨rfl, rfl⟩ := H
     go_wp2
     go_ret2
     exact ⟨_, by first | rfl | (simp [errW_none, errW_some] <;> rfl) | (simp [*, errW_none, errW_some] <;> rfl), by first | exact Kd.R_nil _ _ _ _ _ | exact Kd.N_nil _ _ _ _ _ | exact Kd.V_nil _ _ _ _ _ | exact Kd.Q_nil _ _ _ _ _ | exact Kd.S_nil _ _ _ _ _, by repeat (first | (with_reducible first | exact HB.out | apply below_alloc | apply pw_below_drewN | apply below_drew1) | exact HB.out)⟩
    ·replace c4 := Bool.eq_false_iff.mpr c4
     subst c4
     have H1 : ((seg_Sum.f kj1 l0).bind fun t102 => ((some (([((l0.length : Int) / 256) % 256, ((l0.length : Int)) % 256, (t102 / 16777216) % 256, (t102 / 65536) % 256, (t102 / 256) % 256, (t102) % 256] : List Int) : List Int)).bind fun y103 => (if y103.length + l0.length < 140737488355328 then (some ((y103 ++ l0), 0)) else (none)))) = some (r1, r2) := by rw [if_neg (show ¬ (false = true) by decide)] at H; exact H
     clear H
     have H := H1
     clear H1
     replace H := Option.bind_eq_some_iff.mp H
     obtain ⟨t102, A50, H⟩ := H
     replace H : ((some (([((l0.length : Int) / 256) % 256, ((l0.length : Int)) % 256, (t102 / 16777216) % 256, (t102 / 65536) % 256, (t102 / 256) % 256, (t102) % 256] : List Int) : List Int)).bind fun y103 => (if y103.length + l0.length < 140737488355328 then (some ((y103 ++ l0), 0)) else (none))) = some (r1, r2) := H
     have A5 := Aside0.mk A50
     clear A50
     obtain ⟨y103, hy103⟩ : ∃ y_ : List Int, y_ = (([((l0.length : Int) / 256) % 256, ((l0.length : Int)) % 256, (t102 / 16777216) % 256, (t102 / 65536) % 256, (t102 / 256) % 256, (t102) % 256] : List Int)) := ⟨_, rfl⟩
     replace H : (if y103.length + l0.length < 140737488355328 then (some ((y103 ++ l0), 0)) else (none)) = some (r1, r2) := by first | (rw [hy103]; with_reducible exact H) | (have H2_ := (Option.bind_some _ _).symm.trans H; rw [hy103]; with_reducible exact H2_) | (have H2_ := (Option.bind_some _ _).symm.trans H; with_reducible exact H2_) | with_reducible exact H | (rw [hy103]; exact H) | exact H
     have Ny103 := Aside0.mk hy103
     clear hy103
     by_cases c6 : y103.length + l0.length < 140737488355328
     ·rw [if_pos c6] at H
      have LMc6 := Aside0.mk c6
      clear c6
      obtain ⟨y106, hy106⟩ : ∃ y_ : List Int, y_ = (y103 ++ l0) := ⟨_, rfl⟩
      replace H : (some (y106, 0)) = some (r1, r2) := by first | (rw [hy106]; with_reducible exact H) | (have H2_ := (Option.bind_some _ _).symm.trans H; rw [hy106]; with_reducible exact H2_) | (have H2_ := (Option.bind_some _ _).symm.trans H; with_reducible exact H2_) | with_reducible exact H | (rw [hy106]; exact H) | exact H
      have Ny106 := Aside0.mk hy106
      clear hy106
      simp only [Option.some.injEq, Prod.mk.injEq] at H
      obtain ⟨rfl, rfl⟩ := H
      go_wp2_with (first | ((with_reducible refine gate_callee (f := 17) rfl ?_); refine goesL_ (some 15) rfl rfl Try.func17 (by kernel_rfl) rfl #[.slice A0 l0.length c0] rfl (by (try simp only [List.map_toArray, List.map_cons, List.map_nil]); first | done | rfl | (simp only [List.length_drop, List.length_take]; rfl)) ?_; (with_reducible refine (seg_Sum.calls kj1 _ _ l0 t102 _ ?side1 ?side2 A5.out).mono ?_); (case side1 => repeat (first | exact (Kd.C_below HR0.out HB.out) | (with_reducible refine Kd.C_alloc ?_ _) | (with_reducible refine Kd.C_drewN ?_ _) | (with_reducible refine Kd.C_drew ?_))); (case side2 => exact HC0.out); rintro e w' ⟨rfl, ⟨nd, rfl⟩⟩; refine ⟨_, rfl, ?_⟩) | ((with_reducible refine gate_dst (N := 32) rfl ?_); refine Kd.R_lit (Kd.int .u8) _ 5 ?hg (N := 32) ?hd (xs := ([((l0.length : Int) / 256) % 256, ((l0.length : Int)) % 256, (t102 / 16777216) % 256, (t102 / 65536) % 256, (t102 / 256) % 256, (t102) % 256] : List Int)) (inner := [.int .u8 (((l0.length : Int) / 256) % 256), .int .u8 (((l0.length : Int)) % 256), .int .u8 ((t102 / 16777216) % 256), .int .u8 ((t102 / 65536) % 256), .int .u8 ((t102 / 256) % 256), .int .u8 ((t102) % 256)]) (ok := fun _ => True) (okp := fun _ => True) ?hr ?hp (fun _ hk => hk) trivial (Below.refl _ _) (Nat.le_refl _) (by simp) ?_; (case hd => rfl); (case hg => rfl); (case hr => first | (go_simp; done) | (go_simp; rfl)); (case hp => exact (Reps.one (show Kd.M (Kd.int .u8) _ _ _ (((l0.length : Int) / 256) % 256) [.int .u8 (((l0.length : Int) / 256) % 256)] from rfl) (Reps.one (show Kd.M (Kd.int .u8) _ _ _ (((l0.length : Int)) % 256) [.int .u8 (((l0.length : Int)) % 256)] from rfl) (Reps.one (show Kd.M (Kd.int .u8) _ _ _ ((t102 / 16777216) % 256) [.int .u8 ((t102 / 16777216) % 256)] from rfl) (Reps.one (show Kd.M (Kd.int .u8) _ _ _ ((t102 / 65536) % 256) [.int .u8 ((t102 / 65536) % 256)] from rfl) (Reps.one (show Kd.M (Kd.int .u8) _ _ _ ((t102 / 256) % 256) [.int .u8 ((t102 / 256) % 256)] from rfl) (Reps.one (show Kd.M (Kd.int .u8) _ _ _ ((t102) % 256) [.int .u8 ((t102) % 256)] from rfl) (Reps.none _ _)))))))); intro v104 w7 ho8 hb hg_ hnew_; clear hg_ hnew_; (first | rw [← Ny103.out] at ho8 | (simp only [Int.reduceToNat] at ho8; rw [← Ny103.out] at ho8)); have n0_ := Aside0.mk (Kd.R_lower ho8 (below_size (by repeat (first | (with_reducible first | exact HB.out | apply below_alloc | apply pw_below_drewN | apply below_drew1) | exact HB.out)))); have n1_ := Aside0.mk (below_step (by repeat (first | (with_reducible first | exact HB.out | apply below_alloc | apply pw_below_drewN | apply below_drew1) | exact HB.out)) hb); clear HB; have HO105 := n0_; have HB := n1_; clear n0_ n1_; clear hb ho8) | ((with_reducible refine gate_builtin (b := .append) (xs := #[.tmp 32, .tmp 33]) rfl ?_); at_builtin; refine Kd.R_append_rows (Kd.int .u8) (w0 := w) w.heap.size rfl (.tmp 32) (.tmp 33) 22 5 (.int .u8 0) 1 rfl Try.underlying22 info5 rfl (by decide) (by omega) v104 y103 l0 _ _ _ (fun _ => True) (fun _ => False) rfl rfl ?aO ?aR (fun _ _ h => h) (fun _ h => h.elim) ?aF ?aB ?aS ?aL ?_; (case aR => repeat (first | exact (Kd.C_below HR0.out HB.out) | (with_reducible refine Kd.C_alloc ?_ _) | (with_reducible refine Kd.C_drewN ?_ _) | (with_reducible refine Kd.C_drew ?_))); (case aB => exact (by repeat (first | (with_reducible first | exact HB.out | apply below_alloc | apply pw_below_drewN | apply below_drew1) | exact HB.out))); (case aF => exact (fun _ _ => trivial)); (case aO => exact (by (with_reducible repeat (first | apply Kd.R_alloc | apply Kd.R_drewN | apply Kd.R_drew)); exact HO105.out)); (case aS => exact (below_size (by repeat (first | (with_reducible first | exact HB.out | apply below_alloc | apply pw_below_drewN | apply below_drew1) | exact HB.out)))); (case aL => have := LMc6.out; omega); intro v107 w9 ho hb hg hat; rw [← Ny106.out] at ho; have n0_ := Aside0.mk (hb); have n1_ := Aside0.mk (ho); clear HB; clear HO105; have HB := n0_; have HO108 := n1_; clear n0_ n1_; clear ho hb hg hat))
      go_ret2
      exact ⟨_, by first | rfl | (simp [errW_none, errW_some] <;> rfl) | (simp [*, errW_none, errW_some] <;> rfl), by (with_reducible repeat (first | apply Kd.R_alloc | apply Kd.R_drewN | apply Kd.R_drew)); exact HO108.out, by repeat (first | (with_reducible first | exact HB.out | apply below_alloc | apply pw_below_drewN | apply below_drew1) | exact HB.out)⟩
     ·rw [if_neg c6] at H
      exact absurd H (by simp)

/-! ### bytes_Equal: function 32 -/
def bytes_Equal.f (l0 : List Int) (l1 : List Int) : Option (Bool) := some ((strOfNums l0).toList == (strOfNums l1).toList)
set_option maxHeartbeats 8000000 in
set_option maxRecDepth 100000 in
theorem bytes_Equal.calls (A0 : Option Addr) (c0 : Nat) (l0 : List Int) (A1 : Option Addr) (c1 : Nat) (l1 : List Int) (r : Bool) (w : World) (hr0 : Kd.C (Kd.int .u8) w A0 l0.length l0) (hc0 : l0.length ≤ c0) (hr1 : Kd.C (Kd.int .u8) w A1 l1.length l1) (hc1 : l1.length ≤ c1) (h : bytes_Equal.f l0 l1 = some r) :
    Calls Try.prog 32 #[.slice A0 l0.length c0, .slice A1 l1.length c1] w fun e w' => e = .returned (.bool r) ∧ Drawn0 w w' := by
  have HR0 := Aside0.mk hr0
  have HC0 := Aside0.mk hc0
  clear hr0 hc0
  have HR1 := Aside0.mk hr1
  have HC1 := Aside0.mk hc1
  clear hr1 hc1
  have H : (some ((strOfNums l0).toList == (strOfNums l1).toList)) = some r := h
  clear h
  obtain rfl := Option.some.inj H
  have hcv3 := Kd.C_string (P := Try.prog) (A := A0) (c := c0) Try.underlying22 Try.underlying5 Try.underlying9 HR0.out
  have hcv4 := Kd.C_string (P := Try.prog) (A := A1) (c := c1) Try.underlying22 Try.underlying5 Try.underlying9 HR1.out
  go_enter Try.func32, Try.ntmps32
  go_wp2
  go_ret
  exact ⟨by first | rfl | (simp; done) | (simp [*]; done), by repeat (first | exact Drawn0.refl _ | apply Drawn0.step)⟩

/-! ### bytes_Clone: function 33 -/
def bytes_Clone.f (l0 : List Int) : Option (List Int) := (some (([] : List Int) : List Int)).bind fun y109 => (if y109.length + l0.length < 140737488355328 then (some (y109 ++ l0)) else (none))
set_option maxHeartbeats 8000000 in
set_option maxRecDepth 100000 in
theorem bytes_Clone.calls (A0 : Option Addr) (c0 : Nat) (l0 : List Int) (r : List Int) (w : World) (hr0 : Kd.C (Kd.int .u8) w A0 l0.length l0) (hc0 : l0.length ≤ c0) (h : bytes_Clone.f l0 = some r) :
    Calls Try.prog 33 #[.slice A0 l0.length c0] w fun e w' => ∃ v0_ : Value, e = .returned (v0_) ∧ Kd.R (Kd.int .u8) 5 w' w.heap.size (fun _ => True) v0_ r ∧ Below w.heap.size w w' := by
  by_cases hnil : A0 = none
  · subst hnil
    have hl : l0 = [] := by
      rcases Nat.eq_zero_or_pos l0.length with h0 | h0
      · exact List.eq_nil_of_length_eq_zero h0
      · obtain ⟨ad, e, _⟩ := hr0.2.2 h0
        cases e
    subst hl
    have hr : r = [] := by simpa [bytes_Clone.f] using h.symm
    subst hr
    clear h hr0
    have hq := fun (W : World) => Go.run_eql_slice_nil (P := Try.prog) W 22 5 none 0 c0 Try.underlying22
    go_enter Try.func33, Try.ntmps33
    go_wp2
    go_ret
    exact ⟨_, rfl, Kd.R_nil _ _ _ _ _, Below.refl _ _⟩
  have hq := fun (W : World) => Go.run_eql_slice_nil (P := Try.prog) W 22 5 A0 l0.length c0 Try.underlying22
  have hnone : A0.isNone = false := by cases A0 <;> simp_all
  simp only [hnone] at hq
  clear hnone hnil
  have HR0 := Aside0.mk hr0
  have HC0 := Aside0.mk hc0
  clear hr0 hc0
  have HB := Aside0.mk (Below.refl w.heap.size w)
  have H : ((some (([] : List Int) : List Int)).bind fun y109 => (if y109.length + l0.length < 140737488355328 then (some (y109 ++ l0)) else (none))) = some r := h
  clear h
  obtain ⟨y109, hy109⟩ : ∃ y_ : List Int, y_ = (([] : List Int)) := ⟨_, rfl⟩
  replace H : (if y109.length + l0.length < 140737488355328 then (some (y109 ++ l0)) else (none)) = some r := by first | (rw [hy109]; with_reducible exact H) | (have H2_ := (Option.bind_some _ _).symm.trans H; rw [hy109]; with_reducible exact H2_) | (have H2_ := (Option.bind_some _ _).symm.trans H; with_reducible exact H2_) | with_reducible exact H | (rw [hy109]; exact H) | exact H
  have Ny109 := Aside0.mk hy109
  clear hy109
  by_cases c2 : y109.length + l0.length < 140737488355328
  ·rw [if_pos c2] at H
   have LMc2 := Aside0.mk c2
   clear c2
   obtain ⟨y112, hy112⟩ : ∃ y_ : List Int, y_ = (y109 ++ l0) := ⟨_, rfl⟩
   replace H : (some y112) = some r := by first | (rw [hy112]; with_reducible exact H) | (have H2_ := (Option.bind_some _ _).symm.trans H; rw [hy112]; with_reducible exact H2_) | (have H2_ := (Option.bind_some _ _).symm.trans H; with_reducible exact H2_) | with_reducible exact H | (rw [hy112]; exact H) | exact H
   have Ny112 := Aside0.mk hy112
   clear hy112
   obtain rfl := Option.some.inj H
   go_enter Try.func33, Try.ntmps33
   go_wp2_with (first | ((with_reducible refine gate_dst (N := 5) rfl ?_); refine Kd.R_lit (Kd.int .u8) _ 5 ?hg (N := 5) ?hd (xs := ([] : List Int)) (inner := []) (ok := fun _ => True) (okp := fun _ => True) ?hr ?hp (fun _ hk => hk) trivial (Below.refl _ _) (Nat.le_refl _) (by simp) ?_; (case hd => rfl); (case hg => rfl); (case hr => first | (go_simp; done) | (go_simp; rfl)); (case hp => exact (Reps.none _ _)); intro v110 w3 ho4 hb hg_ hnew_; clear hg_ hnew_; (first | rw [← Ny109.out] at ho4 | (simp only [Int.reduceToNat] at ho4; rw [← Ny109.out] at ho4)); have n0_ := Aside0.mk (Kd.R_lower ho4 (below_size (by repeat (first | (with_reducible first | exact HB.out | apply below_alloc | apply pw_below_drewN | apply below_drew1) | exact HB.out)))); have n1_ := Aside0.mk (below_step (by repeat (first | (with_reducible first | exact HB.out | apply below_alloc | apply pw_below_drewN | apply below_drew1) | exact HB.out)) hb); clear HB; have HO111 := n0_; have HB := n1_; clear n0_ n1_; clear hb ho4) | ((with_reducible refine gate_builtin (b := .append) (xs := #[.tmp 5, .tmp 6]) rfl ?_); at_builtin; refine Kd.R_append_rows (Kd.int .u8) (w0 := w) w.heap.size rfl (.tmp 5) (.tmp 6) 22 5 (.int .u8 0) 1 rfl Try.underlying22 info5 rfl (by decide) (by omega) v110 y109 l0 _ _ _ (fun _ => True) (fun _ => False) rfl rfl ?aO ?aR (fun _ _ h => h) (fun _ h => h.elim) ?aF ?aB ?aS ?aL ?_; (case aR => repeat (first | exact (Kd.C_below HR0.out HB.out) | (with_reducible refine Kd.C_alloc ?_ _) | (with_reducible refine Kd.C_drewN ?_ _) | (with_reducible refine Kd.C_drew ?_))); (case aB => exact (by repeat (first | (with_reducible first | exact HB.out | apply below_alloc | apply pw_below_drewN | apply below_drew1) | exact HB.out))); (case aF => exact (fun _ _ => trivial)); (case aO => exact (by (with_reducible repeat (first | apply Kd.R_alloc | apply Kd.R_drewN | apply Kd.R_drew)); exact HO111.out)); (case aS => exact (below_size (by repeat (first | (with_reducible first | exact HB.out | apply below_alloc | apply pw_below_drewN | apply below_drew1) | exact HB.out)))); (case aL => have := LMc2.out; omega); intro v113 w5 ho hb hg hat; rw [← Ny112.out] at ho; have n0_ := Aside0.mk (hb); have n1_ := Aside0.mk (ho); clear HB; clear HO111; have HB := n0_; have HO114 := n1_; clear n0_ n1_; clear ho hb hg hat))
   go_ret
   exact ⟨_, by first | rfl | (simp [errW_none, errW_some] <;> rfl) | (simp [*, errW_none, errW_some] <;> rfl), by (with_reducible repeat (first | apply Kd.R_alloc | apply Kd.R_drewN | apply Kd.R_drew)); exact HO114.out, by repeat (first | (with_reducible first | exact HB.out | apply below_alloc | apply pw_below_drewN | apply below_drew1) | exact HB.out)⟩
  ·rw [if_neg c2] at H
   exact absurd H (by simp)

/-! ### seg_Read: function 14 -/
mutual
def seg_Read.l500 : Nat → List Int → List (List Int) → Int → Option ((List (List Int)) × Int)
  | 0, _, _, _ => none
  | k + 1, x0, x4, x5 => if (wrap64 ((x0.length : Int) - x5)) < 6 then (some (x4, x5)) else (if 0 ≤ x5 then (if x5 < (x0.length : Int) then (if 0 ≤ (wrap64 (x5 + 1)) then (if (wrap64 (x5 + 1)) < (x0.length : Int) then (if (Go.bits .or .i64 (wrap64 ((wrap64 (rd x0 x5)) * 256)) (wrap64 (rd x0 (wrap64 (x5 + 1))))) < 1 then (seg_Read.j1 k x0 x4 x5 (Go.bits .or .i64 (wrap64 ((wrap64 (rd x0 x5)) * 256)) (wrap64 (rd x0 (wrap64 (x5 + 1))))) true) else (if (Go.bits .or .i64 (wrap64 ((wrap64 (rd x0 x5)) * 256)) (wrap64 (rd x0 (wrap64 (x5 + 1))))) > 20000 then (seg_Read.j1 k x0 x4 x5 (Go.bits .or .i64 (wrap64 ((wrap64 (rd x0 x5)) * 256)) (wrap64 (rd x0 (wrap64 (x5 + 1))))) true) else (seg_Read.j1 k x0 x4 x5 (Go.bits .or .i64 (wrap64 ((wrap64 (rd x0 x5)) * 256)) (wrap64 (rd x0 (wrap64 (x5 + 1))))) (decide ((wrap64 ((wrap64 ((x0.length : Int) - x5)) - 6)) < (Go.bits .or .i64 (wrap64 ((wrap64 (rd x0 x5)) * 256)) (wrap64 (rd x0 (wrap64 (x5 + 1)))))))))) else (none)) else (none)) else (none)) else (none))
def seg_Read.j1 : Nat → List Int → List (List Int) → Int → Int → Bool → Option ((List (List Int)) × Int)
  | 0, _, _, _, _, _ => none
  | k + 1, x0, x4, x5, x6, x43 => if x43 = true then (some (x4, x5)) else (if 0 ≤ (wrap64 (x5 + 6)) then (if (wrap64 (x5 + 6)) ≤ (wrap64 ((wrap64 (x5 + 6)) + x6)) then (if (wrap64 ((wrap64 (x5 + 6)) + x6)) ≤ (x0.length : Int) then ((seg_Record.f k ((x0.take ((wrap64 ((wrap64 (x5 + 6)) + x6)) : Int).toNat).drop ((wrap64 (x5 + 6)) : Int).toNat)).bind fun bt118 => (if 0 ≤ x5 then (if x5 ≤ (wrap64 ((wrap64 (x5 + 6)) + x6)) then ((bytes_Equal.f bt118.1 ((x0.take ((wrap64 ((wrap64 (x5 + 6)) + x6)) : Int).toNat).drop (x5 : Int).toNat)).bind fun t123 => (if t123 = true then ((bytes_Clone.f ((x0.take ((wrap64 ((wrap64 (x5 + 6)) + x6)) : Int).toNat).drop ((wrap64 (x5 + 6)) : Int).toNat)).bind fun t125 => (if x4.length < 5864062014805 then (seg_Read.l500 k x0 (x4 ++ [t125]) (wrap64 ((wrap64 (x5 + 6)) + x6))) else (none))) else (some (x4, x5)))) else (none)) else (none))) else (none)) else (none)) else (none))
end
def seg_Read.f (k : Nat) (l0 : List Int) : Option ((List (List Int)) × Int) := seg_Read.l500 k l0 ([] : List (List Int)) 0
theorem seg_Read.mono_l : ∀ k, (∀ y0 y1 y2, LeO (seg_Read.l500 k y0 y1 y2) (seg_Read.l500 (k + 1) y0 y1 y2)) ∧ (∀ y0 y1 y2 y3 y4, LeO (seg_Read.j1 k y0 y1 y2 y3 y4) (seg_Read.j1 (k + 1) y0 y1 y2 y3 y4))
  | 0 => ⟨fun _ _ _ r h => by simp [seg_Read.l500] at h, fun _ _ _ _ _ r h => by simp [seg_Read.j1] at h⟩
  | k + 1 => by
    obtain ⟨ih0, ih1⟩ := seg_Read.mono_l k
    refine ⟨?_, ?_⟩
    · intro y0 y1 y2
      unfold seg_Read.l500
      repeat' first
      | (with_reducible exact ih0 _ _ _)
      | (with_reducible exact ih1 _ _ _ _ _)
      | (with_reducible exact seg_Record.mono _ _)
      | (with_reducible exact LeO.refl _)
      | (with_reducible exact LeO.none _)
      | (with_reducible refine LeO.ite ?_ ?_)
      | (with_reducible refine LeO.bind ?_ (fun _ => ?_))
      | exact ih0 _ _ _
      | exact ih1 _ _ _ _ _
      | exact seg_Record.mono _ _
      | exact LeO.none _
      | refine LeO.ite ?_ ?_
      | refine LeO.bind ?_ (fun _ => ?_)
    · intro y0 y1 y2 y3 y4
      unfold seg_Read.j1
      repeat' first
      | (with_reducible exact ih0 _ _ _)
      | (with_reducible exact ih1 _ _ _ _ _)
      | (with_reducible exact seg_Record.mono _ _)
      | (with_reducible exact LeO.refl _)
      | (with_reducible exact LeO.none _)
      | (with_reducible refine LeO.ite ?_ ?_)
      | (with_reducible refine LeO.bind ?_ (fun _ => ?_))
      | exact ih0 _ _ _
      | exact ih1 _ _ _ _ _
      | exact seg_Record.mono _ _
      | exact LeO.none _
      | refine LeO.ite ?_ ?_
      | refine LeO.bind ?_ (fun _ => ?_)
theorem seg_Read.mono : ∀ a0 k, LeO (seg_Read.f k a0) (seg_Read.f (k + 1) a0) := by
  intro a0 k
  obtain ⟨ih0, ih1⟩ := seg_Read.mono_l k
  unfold seg_Read.f
  repeat' first
      | (with_reducible exact ih0 _ _ _)
      | (with_reducible exact ih1 _ _ _ _ _)
      | (with_reducible exact seg_Record.mono _ _)
      | (with_reducible exact LeO.refl _)
      | (with_reducible exact LeO.none _)
      | (with_reducible refine LeO.ite ?_ ?_)
      | (with_reducible refine LeO.bind ?_ (fun _ => ?_))
      | exact ih0 _ _ _
      | exact ih1 _ _ _ _ _
      | exact seg_Record.mono _ _
      | exact LeO.none _
      | refine LeO.ite ?_ ?_
      | refine LeO.bind ?_ (fun _ => ?_)
set_option maxHeartbeats 8000000 in
set_option maxRecDepth 100000 in
theorem seg_Read.calls (k : Nat) (A0 : Option Addr) (c0 : Nat) (l0 : List Int) (r1 : List (List Int)) (r2 : Int) (w : World) (hr0 : Kd.C (Kd.int .u8) w A0 l0.length l0) (hc0 : l0.length ≤ c0) (h : seg_Read.f k l0 = some (r1, r2)) :
    Calls Try.prog 14 #[.slice A0 l0.length c0] w fun e w' => ∃ v0_ : Value, e = .returned (.tuple #[v0_, .int .i64 r2]) ∧ Kd.S (Kd.slice 5 (Kd.int .u8)) 22 w' w.heap.size (fun _ => True) v0_ r1 ∧ Below w.heap.size w w' := by
  have HR0 := Aside0.mk hr0
  have HC0 := Aside0.mk hc0
  clear hr0 hc0
  have HB := Aside0.mk (Below.refl w.heap.size w)
  have H : (seg_Read.l500 k l0 ([] : List (List Int)) 0) = some (r1, r2) := h
  clear h
  have HC2 := Aside0.mk H
  clear H
  go_enter Try.func14, Try.ntmps14
  (try go_wp2)
  repeat (go_quiet (fail); try go_wp2)
  refine wp_scope_g ?_
  intro G_ SB_
  have H := HC2.out
  clear HC2
  have H' := Aside0.mk H
  clear H
  go_wp2
  repeat (go_quiet (fail); try go_wp2)
  refine wp_label ?_
  go_step
  go_step
  (try simp only [Act.put, List.setIfInBounds_toArray, List.set_cons_zero, List.set_cons_succ])
  refine rest_loop SB_ 0 (by rfl) [false, false, true, true, true, true, true, true, true, true, true, true, true, true, true, true, true, true, true, true, true, true, true, true, true, true, true, true, true, true, true, true, true, true, true, true, true, true, true, true, true, true, true, true, true, true, true, true, true, true, true, true, true, true, true, true, true, true, true, true, true, true, true, true, true, true, true, true, true, true, true, true, true, true, true, true, true, true, true, true, true, true, true, true, true, true] ?hm k (fun kq us_ w' => ∃ (z4 : Value) (z5 : Value), us_.getD 2 undef = z4 ∧ us_.getD 3 undef = z5 ∧ (fun kq v4 v5 w' => ∃ (x4_1 : List (List Int)) (x5_1 : Int), v5 = .int .i64 x5_1 ∧ Aside0 (seg_Read.l500 kq l0 x4_1 x5_1 = some (r1, r2)) ∧ Aside0 (kq ≤ k) ∧ Aside0 (Kd.S (Kd.slice 5 (Kd.int .u8)) 22 w' w.heap.size (fun _ => True) v4 x4_1) ∧ Aside0 (Below w.heap.size w w')) kq z4 z5 w') ?atStart ?round
  case hm => rfl
  case atStart => exact ⟨_, _, rfl, rfl, ⟨(([] : List (List Int))), (0), (by first | rfl | (simp; done) | (simp [*]; done)), H', ⟨Nat.le_refl _⟩, ⟨by first | exact Kd.S_nil _ _ _ _ _ | exact Kd.N_nil _ _ _ _ _ | exact Kd.V_nil _ _ _ _ _ | exact Kd.Q_nil _ _ _ _ _ | exact Kd.R_nil _ _ _ _ _⟩, ⟨by repeat (first | (with_reducible first | exact HB.out | apply below_alloc | apply pw_below_drewN | apply below_drew1) | exact HB.out)⟩⟩⟩
  case round =>
   intro u2 u3 u4 u5 u6 u7 u8 u9 u10 u11 u12 u13 u14 u15 u16 u17 u18 u19 u20 u21 u22 u23 u24 u25 u26 u27 u28 u29 u30 u31 u32 u33 u34 u35 u36 u37 u38 u39 u40 u41 u42 u43 u44 u45 u46 u47 u48 u49 u50 u51 u52 u53 u54 u55 u56 u57 u58 u59 u60 u61 u62 u63 u64 u65 u66 u67 u68 u69 u70 u71 u72 u73 u74 u75 u76 u77 u78 u79 u80 u81 u82 u83 u84 u85 gk wr hrel IH500
   dsimp only [fillM]
   obtain ⟨z4, z5, e4, e5, hrel⟩ := hrel
   have e4 : u4 = z4 := e4
   subst e4
   have e5 : u5 = z5 := e5
   subst e5
   clear H'
   try clear c1
   try clear p2
   obtain ⟨x4_1, x5_1, rfl, HA, HK1, HO_4, HB⟩ := hrel
   cases gk with
   | zero => exact absurd HA.out (by simp [seg_Read.l500])
   | succ k1 =>
    have H := HA.out
    clear HA
    simp only [seg_Read.l500] at H
    by_cases c3 : (wrap64 ((l0.length : Int) - x5_1)) < 6
    ·rw [if_pos c3] at H
     have c3b0 : decide ((wrap64 ((l0.length : Int) - x5_1)) < 6) = true := decide_eq_true c3
     clear c3
     simp only [Option.some.injEq, Prod.mk.injEq] at H
     obtain ⟨rfl, rfl⟩ := H
     go_wp2
     repeat (go_quiet (fail); try go_wp2)
     (try rw [scoped_ret])
     go_ret2
     exact ⟨_, by first | rfl | (simp [errW_none, errW_some] <;> rfl) | (simp [*, errW_none, errW_some] <;> rfl), by (with_reducible repeat (first | apply Kd.S_alloc | apply Kd.S_drewN | apply Kd.S_drew)); exact HO_4.out, by repeat (first | (with_reducible first | exact HB.out | apply below_alloc | apply pw_below_drewN | apply below_drew1) | exact HB.out)⟩
    ·rw [if_neg c3] at H
     have c3b0 : decide ((wrap64 ((l0.length : Int) - x5_1)) < 6) = false := decide_eq_false c3
     clear c3
     by_cases c4 : 0 ≤ x5_1
     ·rw [if_pos c4] at H
      have c4b0 : decide (0 ≤ x5_1) = true := decide_eq_true c4
      clear c4
      by_cases c5 : x5_1 < (l0.length : Int)
      ·rw [if_pos c5] at H
       have c5b0 : decide (x5_1 < (l0.length : Int)) = true := decide_eq_true c5
       clear c5
       obtain ⟨ji6, hji6⟩ : ∃ j_ : Int, (wrap64 (x5_1 + 1)) = j_ := ⟨_, rfl⟩
       replace H : (if 0 ≤ (ji6) then (if (ji6) < (l0.length : Int) then (if (Go.bits .or .i64 (wrap64 ((wrap64 (rd l0 x5_1)) * 256)) (wrap64 (rd l0 (ji6)))) < 1 then (seg_Read.j1 k1 l0 x4_1 x5_1 (Go.bits .or .i64 (wrap64 ((wrap64 (rd l0 x5_1)) * 256)) (wrap64 (rd l0 (ji6)))) true) else (if (Go.bits .or .i64 (wrap64 ((wrap64 (rd l0 x5_1)) * 256)) (wrap64 (rd l0 (ji6)))) > 20000 then (seg_Read.j1 k1 l0 x4_1 x5_1 (Go.bits .or .i64 (wrap64 ((wrap64 (rd l0 x5_1)) * 256)) (wrap64 (rd l0 (ji6)))) true) else (seg_Read.j1 k1 l0 x4_1 x5_1 (Go.bits .or .i64 (wrap64 ((wrap64 (rd l0 x5_1)) * 256)) (wrap64 (rd l0 (ji6)))) (decide ((wrap64 ((wrap64 ((l0.length : Int) - x5_1)) - 6)) < (Go.bits .or .i64 (wrap64 ((wrap64 (rd l0 x5_1)) * 256)) (wrap64 (rd l0 (ji6))))))))) else (none)) else (none)) = some (r1, r2) := by first | (rw [hji6] at H; exact H) | (simp only [hji6] at H ⊢; exact H)
       have hji6w : (IntKind.i64.wrap (x5_1 + 1)) = ji6 := (i64_w _).trans hji6
       by_cases c7 : 0 ≤ (ji6)
       ·rw [if_pos c7] at H
        have c7b0 : decide (0 ≤ (ji6)) = true := decide_eq_true c7
        clear c7
        by_cases c8 : (ji6) < (l0.length : Int)
        ·rw [if_pos c8] at H
         have c8b0 : decide ((ji6) < (l0.length : Int)) = true := decide_eq_true c8
         clear c8
         have HC9 := Aside0.mk H
         clear H
         have p115 : 0 ≤ (x5_1 : Int) := of_decide_eq_true (by first | (with_reducible assumption) | assumption)
         have q115 : x5_1 < (l0.length : Int) := of_decide_eq_true (by first | (with_reducible assumption) | assumption)
         obtain ⟨ad115, e115, hx115_0⟩ := Kd.at_int HR0.out x5_1 p115 q115
         cases e115
         replace hx115_0 := (HB.out.cell (World.block_lt_of_cell? w _ hx115_0)).trans hx115_0
         replace p115 := eq_true p115
         replace q115 := eq_true q115
         have p116 : 0 ≤ ((ji6) : Int) := of_decide_eq_true (by first | (with_reducible assumption) | assumption)
         have q116 : (ji6) < (l0.length : Int) := of_decide_eq_true (by first | (with_reducible assumption) | assumption)
         obtain ⟨ad116, e116, hx116_0⟩ := Kd.at_int HR0.out (ji6) p116 q116
         obtain rfl : ad115 = ad116 := (by injection e116)
         replace hx116_0 := (HB.out.cell (World.block_lt_of_cell? w _ hx116_0)).trans hx116_0
         replace p116 := eq_true p116
         replace q116 := eq_true q116
         go_upto_region 6 with (fail)
         repeat (go_quiet (fail); go_upto_region 6 with (fail))
         go_cut [43] (fun v43 wc => ∃ (kq : Nat) (x43_8 : Bool), v43 = .bool x43_8 ∧ Aside0 (seg_Read.j1 kq l0 x4_1 x5_1 (Go.bits .or .i64 (wrap64 ((wrap64 (rd l0 x5_1)) * 256)) (wrap64 (rd l0 (ji6)))) x43_8 = some (r1, r2)) ∧ Aside0 (kq ≤ k1) ∧ Aside0 (Kd.S (Kd.slice 5 (Kd.int .u8)) 22 wc w.heap.size (fun _ => True) u4 x4_1) ∧ Aside0 (Below w.heap.size w wc))
         case first =>
          have H := HC9.out
          clear HC9
          by_cases c10 : (Go.bits .or .i64 (wrap64 ((wrap64 (rd l0 x5_1)) * 256)) (wrap64 (rd l0 (ji6)))) < 1
          ·rw [if_pos c10] at H
           have c10b0 : decide ((Go.bits .or .i64 (wrap64 ((wrap64 (rd l0 x5_1)) * 256)) (wrap64 (rd l0 (ji6)))) < 1) = true := decide_eq_true c10
           clear c10
           (first | rw [c10b0] | (simp only [i64_w, i32_w]; rw [c10b0]) | skip)
           have H' := Aside0.mk H
           clear H
           go_wp2
           repeat (go_quiet (fail); try go_wp2)
           go_meet
           case rel => exact ⟨_, (true), (by first | rfl | (simp; done) | (simp [*]; done)), H', ⟨by have := HK1.out; first | omega | exact Nat.le_refl _⟩, ⟨by (with_reducible repeat (first | apply Kd.S_alloc | apply Kd.S_drewN | apply Kd.S_drew)); exact HO_4.out⟩, ⟨by repeat (first | (with_reducible first | exact HB.out | apply below_alloc | apply pw_below_drewN | apply below_drew1) | exact HB.out)⟩⟩
          ·rw [if_neg c10] at H
           have c10b0 : decide ((Go.bits .or .i64 (wrap64 ((wrap64 (rd l0 x5_1)) * 256)) (wrap64 (rd l0 (ji6)))) < 1) = false := decide_eq_false c10
           clear c10
           (first | rw [c10b0] | (simp only [i64_w, i32_w]; rw [c10b0]) | skip)
           by_cases c11 : (Go.bits .or .i64 (wrap64 ((wrap64 (rd l0 x5_1)) * 256)) (wrap64 (rd l0 (ji6)))) > 20000
           ·rw [if_pos c11] at H
            have c11b0 : decide (20000 < (Go.bits .or .i64 (wrap64 ((wrap64 (rd l0 x5_1)) * 256)) (wrap64 (rd l0 (ji6))))) = true := decide_eq_true c11
            clear c11
            have H' := Aside0.mk H
            clear H
            go_wp2
            repeat (go_quiet (fail); try go_wp2)
            go_meet
            case rel => exact ⟨_, (true), (by first | rfl | (simp; done) | (simp [*]; done)), H', ⟨by have := HK1.out; first | omega | exact Nat.le_refl _⟩, ⟨by (with_reducible repeat (first | apply Kd.S_alloc | apply Kd.S_drewN | apply Kd.S_drew)); exact HO_4.out⟩, ⟨by repeat (first | (with_reducible first | exact HB.out | apply below_alloc | apply pw_below_drewN | apply below_drew1) | exact HB.out)⟩⟩
           ·rw [if_neg c11] at H
            have c11b0 : decide (20000 < (Go.bits .or .i64 (wrap64 ((wrap64 (rd l0 x5_1)) * 256)) (wrap64 (rd l0 (ji6))))) = false := decide_eq_false c11
            clear c11
            have H' := Aside0.mk H
            clear H
            go_wp2
            repeat (go_quiet (fail); try go_wp2)
            go_meet
            case rel => exact ⟨_, (decide ((wrap64 ((wrap64 ((l0.length : Int) - x5_1)) - 6)) < (Go.bits .or .i64 (wrap64 ((wrap64 (rd l0 x5_1)) * 256)) (wrap64 (rd l0 (ji6)))))), (by first | rfl | (simp; done) | (simp only [← hji6] <;> (first | rfl | simp)) | (simp [*]; done)), H', ⟨by have := HK1.out; first | omega | exact Nat.le_refl _⟩, ⟨by (with_reducible repeat (first | apply Kd.S_alloc | apply Kd.S_drewN | apply Kd.S_drew)); exact HO_4.out⟩, ⟨by repeat (first | (with_reducible first | exact HB.out | apply below_alloc | apply pw_below_drewN | apply below_drew1) | exact HB.out)⟩⟩
         case rest =>
          clear HC9
          try clear c1
          try clear p1
          try clear q1
          try clear hx1
          try clear p2
          try clear c3
          try clear c3b0
          try clear c4
          try clear c4b0
          try clear c5
          try clear c5b0
          try clear p6
          try clear c7
          try clear c7b0
          try clear c8
          try clear c8b0
          try clear c10
          try clear c10b0
          try clear c11
          try clear c11b0
          try clear p11
          try clear q11
          try clear hx11
          try clear hx115_0
          try clear hx116_0
          try clear p115
          try clear p116
          try clear p2
          try clear q115
          try clear q116
          obtain ⟨kq, x43_8, rfl, HA, HJ8, HO_4, HB⟩ := hcut
          cases kq with
          | zero => exact absurd HA.out (by simp [seg_Read.j1])
          | succ kj8 =>
           have H := HA.out
           clear HA
           simp only [seg_Read.j1] at H
           by_cases c12 : x43_8 = true
           ·subst c12
            have H1 : (some (x4_1, x5_1)) = some (r1, r2) := by rw [if_pos rfl] at H; exact H
            clear H
            have H := H1
            clear H1
            simp only [Option.some.injEq, Prod.mk.injEq] at H
            obtain ⟨rfl, rfl⟩ := H
            go_wp2
            repeat (go_quiet (fail); try go_wp2)
            (try rw [scoped_ret])
            go_ret2
            exact ⟨_, by first | rfl | (simp [errW_none, errW_some] <;> rfl) | (simp only [← hji6]; first | rfl | (simp [errW_none, errW_some] <;> rfl)) | (simp [*, errW_none, errW_some] <;> rfl), by (with_reducible repeat (first | apply Kd.S_alloc | apply Kd.S_drewN | apply Kd.S_drew)); exact HO_4.out, by repeat (first | (with_reducible first | exact HB.out | apply below_alloc | apply pw_below_drewN | apply below_drew1) | exact HB.out)⟩
           ·replace c12 := Bool.eq_false_iff.mpr c12
            subst c12
            have H1 : (if 0 ≤ (wrap64 (x5_1 + 6)) then (if (wrap64 (x5_1 + 6)) ≤ (wrap64 ((wrap64 (x5_1 + 6)) + (Go.bits .or .i64 (wrap64 ((wrap64 (rd l0 x5_1)) * 256)) (wrap64 (rd l0 (ji6)))))) then (if (wrap64 ((wrap64 (x5_1 + 6)) + (Go.bits .or .i64 (wrap64 ((wrap64 (rd l0 x5_1)) * 256)) (wrap64 (rd l0 (ji6)))))) ≤ (l0.length : Int) then ((seg_Record.f kj8 ((l0.take ((wrap64 ((wrap64 (x5_1 + 6)) + (Go.bits .or .i64 (wrap64 ((wrap64 (rd l0 x5_1)) * 256)) (wrap64 (rd l0 (ji6)))))) : Int).toNat).drop ((wrap64 (x5_1 + 6)) : Int).toNat)).bind fun bt118 => (if 0 ≤ x5_1 then (if x5_1 ≤ (wrap64 ((wrap64 (x5_1 + 6)) + (Go.bits .or .i64 (wrap64 ((wrap64 (rd l0 x5_1)) * 256)) (wrap64 (rd l0 (ji6)))))) then ((bytes_Equal.f bt118.1 ((l0.take ((wrap64 ((wrap64 (x5_1 + 6)) + (Go.bits .or .i64 (wrap64 ((wrap64 (rd l0 x5_1)) * 256)) (wrap64 (rd l0 (ji6)))))) : Int).toNat).drop (x5_1 : Int).toNat)).bind fun t123 => (if t123 = true then ((bytes_Clone.f ((l0.take ((wrap64 ((wrap64 (x5_1 + 6)) + (Go.bits .or .i64 (wrap64 ((wrap64 (rd l0 x5_1)) * 256)) (wrap64 (rd l0 (ji6)))))) : Int).toNat).drop ((wrap64 (x5_1 + 6)) : Int).toNat)).bind fun t125 => (if x4_1.length < 5864062014805 then (seg_Read.l500 kj8 l0 (x4_1 ++ [t125]) (wrap64 ((wrap64 (x5_1 + 6)) + (Go.bits .or .i64 (wrap64 ((wrap64 (rd l0 x5_1)) * 256)) (wrap64 (rd l0 (ji6))))))) else (none))) else (some (x4_1, x5_1)))) else (none)) else (none))) else (none)) else (none)) else (none)) = some (r1, r2) := by rw [if_neg (show ¬ (false = true) by decide)] at H; exact H
            clear H
            have H := H1
            clear H1
            obtain ⟨ji13, hji13⟩ : ∃ j_ : Int, (wrap64 (x5_1 + 6)) = j_ := ⟨_, rfl⟩
            replace H : (if 0 ≤ (ji13) then (if (ji13) ≤ (wrap64 ((ji13) + (Go.bits .or .i64 (wrap64 ((wrap64 (rd l0 x5_1)) * 256)) (wrap64 (rd l0 (ji6)))))) then (if (wrap64 ((ji13) + (Go.bits .or .i64 (wrap64 ((wrap64 (rd l0 x5_1)) * 256)) (wrap64 (rd l0 (ji6)))))) ≤ (l0.length : Int) then ((seg_Record.f kj8 ((l0.take ((wrap64 ((ji13) + (Go.bits .or .i64 (wrap64 ((wrap64 (rd l0 x5_1)) * 256)) (wrap64 (rd l0 (ji6)))))) : Int).toNat).drop ((ji13) : Int).toNat)).bind fun bt118 => (if 0 ≤ x5_1 then (if x5_1 ≤ (wrap64 ((ji13) + (Go.bits .or .i64 (wrap64 ((wrap64 (rd l0 x5_1)) * 256)) (wrap64 (rd l0 (ji6)))))) then ((bytes_Equal.f bt118.1 ((l0.take ((wrap64 ((ji13) + (Go.bits .or .i64 (wrap64 ((wrap64 (rd l0 x5_1)) * 256)) (wrap64 (rd l0 (ji6)))))) : Int).toNat).drop (x5_1 : Int).toNat)).bind fun t123 => (if t123 = true then ((bytes_Clone.f ((l0.take ((wrap64 ((ji13) + (Go.bits .or .i64 (wrap64 ((wrap64 (rd l0 x5_1)) * 256)) (wrap64 (rd l0 (ji6)))))) : Int).toNat).drop ((ji13) : Int).toNat)).bind fun t125 => (if x4_1.length < 5864062014805 then (seg_Read.l500 kj8 l0 (x4_1 ++ [t125]) (wrap64 ((ji13) + (Go.bits .or .i64 (wrap64 ((wrap64 (rd l0 x5_1)) * 256)) (wrap64 (rd l0 (ji6))))))) else (none))) else (some (x4_1, x5_1)))) else (none)) else (none))) else (none)) else (none)) else (none)) = some (r1, r2) := by first | (rw [hji13] at H; exact H) | (simp only [hji13] at H ⊢; exact H)
            have hji13w : (IntKind.i64.wrap (x5_1 + 6)) = ji13 := (i64_w _).trans hji13
            by_cases c14 : 0 ≤ (ji13)
            ·rw [if_pos c14] at H
             have c14b0 := eq_true c14
             have c14b1 : decide (0 ≤ (ji13)) = true := decide_eq_true c14
             clear c14
             by_cases c15 : (ji13) ≤ (wrap64 ((ji13) + (Go.bits .or .i64 (wrap64 ((wrap64 (rd l0 x5_1)) * 256)) (wrap64 (rd l0 (ji6))))))
             ·rw [if_pos c15] at H
              have c15b0 := eq_true c15
              have c15b1 : decide ((ji13) ≤ (wrap64 ((ji13) + (Go.bits .or .i64 (wrap64 ((wrap64 (rd l0 x5_1)) * 256)) (wrap64 (rd l0 (ji6))))))) = true := decide_eq_true c15
              by_cases c16 : (wrap64 ((ji13) + (Go.bits .or .i64 (wrap64 ((wrap64 (rd l0 x5_1)) * 256)) (wrap64 (rd l0 (ji6)))))) ≤ (l0.length : Int)
              ·rw [if_pos c16] at H
               have c16b0 := eq_true c16
               have c16b1 : decide ((wrap64 ((ji13) + (Go.bits .or .i64 (wrap64 ((wrap64 (rd l0 x5_1)) * 256)) (wrap64 (rd l0 (ji6)))))) ≤ (l0.length : Int)) = true := decide_eq_true c16
               replace H := Option.bind_eq_some_iff.mp H
               obtain ⟨⟨t118, t119⟩, A170, H⟩ := H
               replace H : (if 0 ≤ x5_1 then (if x5_1 ≤ (wrap64 ((ji13) + (Go.bits .or .i64 (wrap64 ((wrap64 (rd l0 x5_1)) * 256)) (wrap64 (rd l0 (ji6)))))) then ((bytes_Equal.f t118 ((l0.take ((wrap64 ((ji13) + (Go.bits .or .i64 (wrap64 ((wrap64 (rd l0 x5_1)) * 256)) (wrap64 (rd l0 (ji6)))))) : Int).toNat).drop (x5_1 : Int).toNat)).bind fun t123 => (if t123 = true then ((bytes_Clone.f ((l0.take ((wrap64 ((ji13) + (Go.bits .or .i64 (wrap64 ((wrap64 (rd l0 x5_1)) * 256)) (wrap64 (rd l0 (ji6)))))) : Int).toNat).drop ((ji13) : Int).toNat)).bind fun t125 => (if x4_1.length < 5864062014805 then (seg_Read.l500 kj8 l0 (x4_1 ++ [t125]) (wrap64 ((ji13) + (Go.bits .or .i64 (wrap64 ((wrap64 (rd l0 x5_1)) * 256)) (wrap64 (rd l0 (ji6))))))) else (none))) else (some (x4_1, x5_1)))) else (none)) else (none)) = some (r1, r2) := H
               have A17 := Aside0.mk A170
               clear A170
               by_cases c18 : 0 ≤ x5_1
               ·rw [if_pos c18] at H
                have c18b0 := eq_true c18
                have c18b1 : decide (0 ≤ x5_1) = true := decide_eq_true c18
                clear c18
                by_cases c19 : x5_1 ≤ (wrap64 ((ji13) + (Go.bits .or .i64 (wrap64 ((wrap64 (rd l0 x5_1)) * 256)) (wrap64 (rd l0 (ji6))))))
                ·rw [if_pos c19] at H
                 have c19b0 := eq_true c19
                 have c19b1 : decide (x5_1 ≤ (wrap64 ((ji13) + (Go.bits .or .i64 (wrap64 ((wrap64 (rd l0 x5_1)) * 256)) (wrap64 (rd l0 (ji6))))))) = true := decide_eq_true c19
                 have c20b0 := eq_true (of_decide_eq_true (by first | (with_reducible assumption) | assumption) : (wrap64 ((ji13) + (Go.bits .or .i64 (wrap64 ((wrap64 (rd l0 x5_1)) * 256)) (wrap64 (rd l0 (ji6)))))) ≤ (l0.length : Int))
                 replace H := Option.bind_eq_some_iff.mp H
                 obtain ⟨t123, A210, H⟩ := H
                 replace H : (if t123 = true then ((bytes_Clone.f ((l0.take ((wrap64 ((ji13) + (Go.bits .or .i64 (wrap64 ((wrap64 (rd l0 x5_1)) * 256)) (wrap64 (rd l0 (ji6)))))) : Int).toNat).drop ((ji13) : Int).toNat)).bind fun t125 => (if x4_1.length < 5864062014805 then (seg_Read.l500 kj8 l0 (x4_1 ++ [t125]) (wrap64 ((ji13) + (Go.bits .or .i64 (wrap64 ((wrap64 (rd l0 x5_1)) * 256)) (wrap64 (rd l0 (ji6))))))) else (none))) else (some (x4_1, x5_1))) = some (r1, r2) := H
                 have A21 := Aside0.mk A210
                 clear A210
                 by_cases c22 : t123 = true
                 ·subst c22
                  have H1 : ((bytes_Clone.f ((l0.take ((wrap64 ((ji13) + (Go.bits .or .i64 (wrap64 ((wrap64 (rd l0 x5_1)) * 256)) (wrap64 (rd l0 (ji6)))))) : Int).toNat).drop ((ji13) : Int).toNat)).bind fun t125 => (if x4_1.length < 5864062014805 then (seg_Read.l500 kj8 l0 (x4_1 ++ [t125]) (wrap64 ((ji13) + (Go.bits .or .i64 (wrap64 ((wrap64 (rd l0 x5_1)) * 256)) (wrap64 (rd l0 (ji6))))))) else (none))) = some (r1, r2) := by rw [if_pos rfl] at H; exact H
                  clear H
                  have H := H1
                  clear H1
                  have c23b0 := eq_true (of_decide_eq_true (by first | (with_reducible assumption) | assumption) : 0 ≤ (ji13))
                  have c24b0 := eq_true (of_decide_eq_true (by first | (with_reducible assumption) | assumption) : (ji13) ≤ (wrap64 ((ji13) + (Go.bits .or .i64 (wrap64 ((wrap64 (rd l0 x5_1)) * 256)) (wrap64 (rd l0 (ji6)))))))
                  have c25b0 := eq_true (of_decide_eq_true (by first | (with_reducible assumption) | assumption) : (wrap64 ((ji13) + (Go.bits .or .i64 (wrap64 ((wrap64 (rd l0 x5_1)) * 256)) (wrap64 (rd l0 (ji6)))))) ≤ (l0.length : Int))
                  replace H := Option.bind_eq_some_iff.mp H
                  obtain ⟨t125, A260, H⟩ := H
                  replace H : (if x4_1.length < 5864062014805 then (seg_Read.l500 kj8 l0 (x4_1 ++ [t125]) (wrap64 ((ji13) + (Go.bits .or .i64 (wrap64 ((wrap64 (rd l0 x5_1)) * 256)) (wrap64 (rd l0 (ji6))))))) else (none)) = some (r1, r2) := H
                  have A26 := Aside0.mk A260
                  clear A260
                  by_cases c27 : x4_1.length < 5864062014805
                  ·rw [if_pos c27] at H
                   have LMc27 := Aside0.mk c27
                   clear c27
                   obtain ⟨y128, hy128⟩ : ∃ y_ : List (List Int), y_ = (x4_1 ++ [t125]) := ⟨_, rfl⟩
                   replace H : (seg_Read.l500 kj8 l0 y128 (wrap64 ((ji13) + (Go.bits .or .i64 (wrap64 ((wrap64 (rd l0 x5_1)) * 256)) (wrap64 (rd l0 (ji6))))))) = some (r1, r2) := by first | (rw [hy128]; with_reducible exact H) | (have H2_ := (Option.bind_some _ _).symm.trans H; rw [hy128]; with_reducible exact H2_) | (have H2_ := (Option.bind_some _ _).symm.trans H; with_reducible exact H2_) | with_reducible exact H | (rw [hy128]; exact H) | exact H
                   have Ny128 := Aside0.mk hy128
                   clear hy128
                   have H' := Aside0.mk H
                   clear H
                   obtain ⟨i028, hi028, _, hsz28, _⟩ := info_parts info5
                   obtain ⟨A28, hcut28, hA28, hC28⟩ := print_mid_of (P := Try.prog) (Value.int .u8) 0 22 5 .i64 .i64 Try.underlying22 hi028 hsz28 (some ad115) c0 l0 (ji13) (wrap64 ((ji13) + (Go.bits .or .i64 (wrap64 ((wrap64 (rd l0 x5_1)) * 256)) (wrap64 (rd l0 (ji6)))))) (of_decide_eq_true (by first | (with_reducible assumption) | assumption)) (by first | omega | exact of_decide_eq_true (by first | (with_reducible assumption) | assumption)) (of_decide_eq_true (by first | (with_reducible assumption) | assumption)) HC0.out
                   obtain ⟨n28_, hn28_⟩ : ∃ n_ : Nat, (∀ W : World, (Instr.slice _ _ _ _ none).run Try.prog W = .ok (.slice A28 n_ _) W) ∧ n_ = _ := ⟨_, hcut28, rfl⟩
                   clear hcut28
                   obtain ⟨hcut28, hm28_⟩ := hn28_
                   have HN28_ := Aside0.mk hm28_
                   clear hm28_
                   have HR117 := Aside0.mk (Kd.C_of_reads (h1 := fun _ => rfl) (hA28 _ (Kd.reads_of_C HR0.out)))
                   have HC117 := Aside0.mk hC28
                   clear hA28 hC28 hi028 hsz28
                   go_wp2_with (first | (go_at_call 11; (try rw [HN28_.out]); (try rw [HN30_.out]); (try rw [HN32_.out]); (with_reducible refine (seg_Record.calls kj8 _ _ ((l0.take ((wrap64 ((ji13) + (Go.bits .or .i64 (wrap64 ((wrap64 (rd l0 x5_1)) * 256)) (wrap64 (rd l0 (ji6)))))) : Int).toNat).drop ((ji13) : Int).toNat) t118 t119 _ ?side1 ?side2 A17.out).mono ?_); (case side1 => repeat (first | exact (Kd.C_below HR117.out HB.out) | (with_reducible refine Kd.C_alloc ?_ _) | (with_reducible refine Kd.C_drewN ?_ _) | (with_reducible refine Kd.C_drew ?_))); (case side2 => exact HC117.out); rintro e w29 ⟨v120, rfl, ho0, hb⟩; have n0_ := Aside0.mk (Kd.S_elder' (by (with_reducible repeat (first | apply Kd.S_alloc | apply Kd.S_drewN | apply Kd.S_drew)); exact HO_4.out) (Kd.R_base ho0) hb); have n1_ := Aside0.mk (Kd.R_lower ho0 (below_size (by repeat (first | (with_reducible first | exact HB.out | apply below_alloc | apply pw_below_drewN | apply below_drew1) | exact HB.out)))); have n2_ := Aside0.mk (below_step (by repeat (first | (with_reducible first | exact HB.out | apply below_alloc | apply pw_below_drewN | apply below_drew1) | exact HB.out)) hb); clear HO_4; clear HB; have HO_4 := n0_; have HO121 := n1_; have HB := n2_; clear n0_ n1_ n2_; (try clear hb); (try clear hb2); (try clear hk); (try clear hi); (try clear ho0); obtain ⟨i030, hi030, _, hsz30, _⟩ := info_parts info5; (try clear hcut28); obtain ⟨A30, hcut30, hA30, hC30⟩ := print_mid_of (P := Try.prog) (Value.int .u8) 0 22 5 .i64 .i64 Try.underlying22 hi030 hsz30 (some ad115) c0 l0 x5_1 (wrap64 ((ji13) + (Go.bits .or .i64 (wrap64 ((wrap64 (rd l0 x5_1)) * 256)) (wrap64 (rd l0 (ji6)))))) (of_decide_eq_true (by first | (with_reducible assumption) | assumption)) (by first | omega | exact of_decide_eq_true (by first | (with_reducible assumption) | assumption)) (of_decide_eq_true (by first | (with_reducible assumption) | assumption)) HC0.out; obtain ⟨n30_, hn30_⟩ : ∃ n_ : Nat, (∀ W : World, (Instr.slice _ _ _ _ none).run Try.prog W = .ok (.slice A30 n_ _) W) ∧ n_ = _ := ⟨_, hcut30, rfl⟩; clear hcut30; obtain ⟨hcut30, hm30_⟩ := hn30_; have HN30_ := Aside0.mk hm30_; clear hm30_; have HR122 := Aside0.mk (Kd.C_of_reads (h1 := fun _ => rfl) (hA30 _ (Kd.reads_of_C HR0.out))); have HC122 := Aside0.mk hC30; clear hA30 hC30 hi030 hsz30; obtain ⟨Ao31, co31, eo31⟩ := Kd.R_slice HO121.out; subst eo31) | (go_at_call 32; (try rw [HN28_.out]); (try rw [HN30_.out]); (try rw [HN32_.out]); (with_reducible refine (bytes_Equal.calls _ _ t118 _ _ ((l0.take ((wrap64 ((ji13) + (Go.bits .or .i64 (wrap64 ((wrap64 (rd l0 x5_1)) * 256)) (wrap64 (rd l0 (ji6)))))) : Int).toNat).drop (x5_1 : Int).toNat) true _ ?side1 ?side2 ?side3 ?side4 A21.out).mono ?_); (case side1 => repeat (first | exact (Kd.R_reads' HO121.out).2.2 | (with_reducible refine Kd.C_alloc ?_ _) | (with_reducible refine Kd.C_drewN ?_ _) | (with_reducible refine Kd.C_drew ?_))); (case side2 => exact (Kd.R_reads' HO121.out).2.1); (case side3 => repeat (first | exact (Kd.C_below HR122.out HB.out) | (with_reducible refine Kd.C_alloc ?_ _) | (with_reducible refine Kd.C_drewN ?_ _) | (with_reducible refine Kd.C_drew ?_))); (case side4 => exact HC122.out); rintro e w' ⟨rfl, ⟨nd, rfl⟩⟩; (try first | exact ⟨rfl, _, World.drewN_drewN _ _ _⟩ | exact ⟨rfl, _, Eq.trans (World.drewN_drewN _ _ _) (congrArg (World.drewN _) (Nat.add_assoc _ _ _))⟩); obtain ⟨i032, hi032, _, hsz32, _⟩ := info_parts info5; (try clear hcut28); (try clear hcut30); obtain ⟨A32, hcut32, hA32, hC32⟩ := print_mid_of (P := Try.prog) (Value.int .u8) 0 22 5 .i64 .i64 Try.underlying22 hi032 hsz32 (some ad115) c0 l0 (ji13) (wrap64 ((ji13) + (Go.bits .or .i64 (wrap64 ((wrap64 (rd l0 x5_1)) * 256)) (wrap64 (rd l0 (ji6)))))) (of_decide_eq_true (by first | (with_reducible assumption) | assumption)) (by first | omega | exact of_decide_eq_true (by first | (with_reducible assumption) | assumption)) (of_decide_eq_true (by first | (with_reducible assumption) | assumption)) HC0.out; obtain ⟨n32_, hn32_⟩ : ∃ n_ : Nat, (∀ W : World, (Instr.slice _ _ _ _ none).run Try.prog W = .ok (.slice A32 n_ _) W) ∧ n_ = _ := ⟨_, hcut32, rfl⟩; clear hcut32; obtain ⟨hcut32, hm32_⟩ := hn32_; have HN32_ := Aside0.mk hm32_; clear hm32_; have HR124 := Aside0.mk (Kd.C_of_reads (h1 := fun _ => rfl) (hA32 _ (Kd.reads_of_C HR0.out))); have HC124 := Aside0.mk hC32; clear hA32 hC32 hi032 hsz32) | (go_at_call 33; (try rw [HN28_.out]); (try rw [HN30_.out]); (try rw [HN32_.out]); (with_reducible refine (bytes_Clone.calls _ _ ((l0.take ((wrap64 ((ji13) + (Go.bits .or .i64 (wrap64 ((wrap64 (rd l0 x5_1)) * 256)) (wrap64 (rd l0 (ji6)))))) : Int).toNat).drop ((ji13) : Int).toNat) t125 _ ?side1 ?side2 A26.out).mono ?_); (case side1 => repeat (first | exact (Kd.C_below HR124.out (by repeat (first | (with_reducible first | exact HB.out | apply below_alloc | apply pw_below_drewN | apply below_drew1) | exact HB.out))) | (with_reducible refine Kd.C_alloc ?_ _) | (with_reducible refine Kd.C_drewN ?_ _) | (with_reducible refine Kd.C_drew ?_))); (case side2 => exact HC124.out); rintro e w33 ⟨v126, rfl, ho0, hb⟩; have n0_ := Aside0.mk (Kd.S_elder' (by (with_reducible repeat (first | apply Kd.S_alloc | apply Kd.S_drewN | apply Kd.S_drew)); exact HO_4.out) (Kd.R_base ho0) hb); have n1_ := Aside0.mk (Kd.R_elder' (by (with_reducible repeat (first | apply Kd.R_alloc | apply Kd.R_drewN | apply Kd.R_drew)); exact HO121.out) (Kd.R_base ho0) hb); have n2_ := Aside0.mk (Kd.R_lower (Kd.R_new' ho0 (Kd.R_lt (by (with_reducible repeat (first | apply Kd.R_alloc | apply Kd.R_drewN | apply Kd.R_drew)); exact HO121.out))) (below_size (by repeat (first | (with_reducible first | exact HB.out | apply below_alloc | apply pw_below_drewN | apply below_drew1) | exact HB.out)))); have n3_ := Aside0.mk (below_step (by repeat (first | (with_reducible first | exact HB.out | apply below_alloc | apply pw_below_drewN | apply below_drew1) | exact HB.out)) hb); clear HO_4; clear HO121; clear HB; have HO_4 := n0_; have HO121 := n1_; have HO127 := n2_; have HB := n3_; clear n0_ n1_ n2_ n3_; (try clear hb); (try clear hb2); (try clear hk); (try clear hi); (try clear ho0); obtain ⟨Ao35, co35, eo35⟩ := Kd.R_slice HO127.out; subst eo35) | ((with_reducible refine gate_builtin (b := .append) (xs := #[.tmp 70, .tmp 80]) rfl ?_); (try (refine gate_guard (by rfl) ?_; dsimp only)); at_builtin; refine Kd.S_append (Kd.slice 5 (Kd.int .u8)) (w0 := w) w.heap.size rfl (.tmp 70) (.tmp 80) 23 22 (.slice none 0 0) 24 rfl Try.underlying23 info22 rfl (by decide) (by omega) u4 x4_1 t125 [.slice Ao35 t125.length co35] (fun k_ => some k_ ≠ (.slice Ao31 t118.length co31 : Value).ownBlock) (fun k_ => some k_ = (.slice Ao35 t125.length co35 : Value).ownBlock) rfl rfl ?aP (fun k_ hk_ => ((Kd.R_mono (ok' := fun k_ => ((fun k_ => some k_ ≠ (.slice Ao31 t118.length co31 : Value).ownBlock)) k_ ∧ some k_ ≠ (u4 : Value).ownBlock) (Kd.R_apart' (HO127.out) (Kd.S_typed HO_4.out) (by decide)) (fun k_ hk => ⟨hk.1.2, hk.2⟩))).1 k_ hk_.symm) ?aF ?aO ?aB ?aS ?aL ?_; (case aP => exact Kd.M_row (Kd.R_mono (Kd.R_tight rfl (Kd.R_mono (ok' := fun k_ => ((fun k_ => some k_ ≠ (.slice Ao31 t118.length co31 : Value).ownBlock)) k_ ∧ some k_ ≠ (u4 : Value).ownBlock) (Kd.R_apart' (HO127.out) (Kd.S_typed HO_4.out) (by decide)) (fun k_ hk => ⟨hk.1.2, hk.2⟩))) (fun _ h_ => h_))); (case aB => exact (by repeat (first | (with_reducible first | exact HB.out | apply below_alloc | apply pw_below_drewN | apply below_drew1) | exact HB.out))); (case aF => exact (fun k_ hk => Kd.fresh' (Kd.R_lt (by (with_reducible repeat (first | apply Kd.R_alloc | apply Kd.R_drewN | apply Kd.R_drew)); exact HO121.out)) k_ hk)); (case aO => exact (by (with_reducible repeat (first | apply Kd.S_alloc | apply Kd.S_drewN | apply Kd.S_drew)); exact Kd.S_mono HO_4.out (fun k_ hk => ⟨hk.1.2, fun e_ => hk.2 e_⟩))); (case aS => exact (below_size (by repeat (first | (with_reducible first | exact HB.out | apply below_alloc | apply pw_below_drewN | apply below_drew1) | exact HB.out)))); (case aL => have := LMc27.out; omega); intro v129 w34 ho hb hg hat; rw [← Ny128.out] at ho; have n0_ := Aside0.mk (Kd.R_over' (by (with_reducible repeat (first | apply Kd.R_alloc | apply Kd.R_drewN | apply Kd.R_drew)); exact HO121.out) (Kd.S_typed (by (with_reducible repeat (first | apply Kd.S_alloc | apply Kd.S_drewN | apply Kd.S_drew)); exact HO_4.out)) (by decide) hg); have n1_ := Aside0.mk (hb); have n2_ := Aside0.mk (ho); clear HO121; clear HB; clear HO_4; clear HO127; have HO121 := n0_; have HB := n1_; have HO130 := n2_; clear n0_ n1_ n2_; clear ho hb hg hat))
                   repeat (go_quiet (first | (go_at_call 11; (try rw [HN28_.out]); (try rw [HN30_.out]); (try rw [HN32_.out]); (with_reducible refine (seg_Record.calls kj8 _ _ ((l0.take ((wrap64 ((ji13) + (Go.bits .or .i64 (wrap64 ((wrap64 (rd l0 x5_1)) * 256)) (wrap64 (rd l0 (ji6)))))) : Int).toNat).drop ((ji13) : Int).toNat) t118 t119 _ ?side1 ?side2 A17.out).mono ?_); (case side1 => repeat (first | exact (Kd.C_below HR117.out HB.out) | (with_reducible refine Kd.C_alloc ?_ _) | (with_reducible refine Kd.C_drewN ?_ _) | (with_reducible refine Kd.C_drew ?_))); (case side2 => exact HC117.out); rintro e w29 ⟨v120, rfl, ho0, hb⟩; have n0_ := Aside0.mk (Kd.S_elder' (by (with_reducible repeat (first | apply Kd.S_alloc | apply Kd.S_drewN | apply Kd.S_drew)); exact HO_4.out) (Kd.R_base ho0) hb); have n1_ := Aside0.mk (Kd.R_lower ho0 (below_size (by repeat (first | (with_reducible first | exact HB.out | apply below_alloc | apply pw_below_drewN | apply below_drew1) | exact HB.out)))); have n2_ := Aside0.mk (below_step (by repeat (first | (with_reducible first | exact HB.out | apply below_alloc | apply pw_below_drewN | apply below_drew1) | exact HB.out)) hb); clear HO_4; clear HB; have HO_4 := n0_; have HO121 := n1_; have HB := n2_; clear n0_ n1_ n2_; (try clear hb); (try clear hb2); (try clear hk); (try clear hi); (try clear ho0); obtain ⟨i030, hi030, _, hsz30, _⟩ := info_parts info5; (try clear hcut28); obtain ⟨A30, hcut30, hA30, hC30⟩ := print_mid_of (P := Try.prog) (Value.int .u8) 0 22 5 .i64 .i64 Try.underlying22 hi030 hsz30 (some ad115) c0 l0 x5_1 (wrap64 ((ji13) + (Go.bits .or .i64 (wrap64 ((wrap64 (rd l0 x5_1)) * 256)) (wrap64 (rd l0 (ji6)))))) (of_decide_eq_true (by first | (with_reducible assumption) | assumption)) (by first | omega | exact of_decide_eq_true (by first | (with_reducible assumption) | assumption)) (of_decide_eq_true (by first | (with_reducible assumption) | assumption)) HC0.out; obtain ⟨n30_, hn30_⟩ : ∃ n_ : Nat, (∀ W : World, (Instr.slice _ _ _ _ none).run Try.prog W = .ok (.slice A30 n_ _) W) ∧ n_ = _ := ⟨_, hcut30, rfl⟩; clear hcut30; obtain ⟨hcut30, hm30_⟩ := hn30_; have HN30_ := Aside0.mk hm30_; clear hm30_; have HR122 := Aside0.mk (Kd.C_of_reads (h1 := fun _ => rfl) (hA30 _ (Kd.reads_of_C HR0.out))); have HC122 := Aside0.mk hC30; clear hA30 hC30 hi030 hsz30; obtain ⟨Ao31, co31, eo31⟩ := Kd.R_slice HO121.out; subst eo31) | (go_at_call 32; (try rw [HN28_.out]); (try rw [HN30_.out]); (try rw [HN32_.out]); (with_reducible refine (bytes_Equal.calls _ _ t118 _ _ ((l0.take ((wrap64 ((ji13) + (Go.bits .or .i64 (wrap64 ((wrap64 (rd l0 x5_1)) * 256)) (wrap64 (rd l0 (ji6)))))) : Int).toNat).drop (x5_1 : Int).toNat) true _ ?side1 ?side2 ?side3 ?side4 A21.out).mono ?_); (case side1 => repeat (first | exact (Kd.R_reads' HO121.out).2.2 | (with_reducible refine Kd.C_alloc ?_ _) | (with_reducible refine Kd.C_drewN ?_ _) | (with_reducible refine Kd.C_drew ?_))); (case side2 => exact (Kd.R_reads' HO121.out).2.1); (case side3 => repeat (first | exact (Kd.C_below HR122.out HB.out) | (with_reducible refine Kd.C_alloc ?_ _) | (with_reducible refine Kd.C_drewN ?_ _) | (with_reducible refine Kd.C_drew ?_))); (case side4 => exact HC122.out); rintro e w' ⟨rfl, ⟨nd, rfl⟩⟩; (try first | exact ⟨rfl, _, World.drewN_drewN _ _ _⟩ | exact ⟨rfl, _, Eq.trans (World.drewN_drewN _ _ _) (congrArg (World.drewN _) (Nat.add_assoc _ _ _))⟩); obtain ⟨i032, hi032, _, hsz32, _⟩ := info_parts info5; (try clear hcut28); (try clear hcut30); obtain ⟨A32, hcut32, hA32, hC32⟩ := print_mid_of (P := Try.prog) (Value.int .u8) 0 22 5 .i64 .i64 Try.underlying22 hi032 hsz32 (some ad115) c0 l0 (ji13) (wrap64 ((ji13) + (Go.bits .or .i64 (wrap64 ((wrap64 (rd l0 x5_1)) * 256)) (wrap64 (rd l0 (ji6)))))) (of_decide_eq_true (by first | (with_reducible assumption) | assumption)) (by first | omega | exact of_decide_eq_true (by first | (with_reducible assumption) | assumption)) (of_decide_eq_true (by first | (with_reducible assumption) | assumption)) HC0.out; obtain ⟨n32_, hn32_⟩ : ∃ n_ : Nat, (∀ W : World, (Instr.slice _ _ _ _ none).run Try.prog W = .ok (.slice A32 n_ _) W) ∧ n_ = _ := ⟨_, hcut32, rfl⟩; clear hcut32; obtain ⟨hcut32, hm32_⟩ := hn32_; have HN32_ := Aside0.mk hm32_; clear hm32_; have HR124 := Aside0.mk (Kd.C_of_reads (h1 := fun _ => rfl) (hA32 _ (Kd.reads_of_C HR0.out))); have HC124 := Aside0.mk hC32; clear hA32 hC32 hi032 hsz32) | (go_at_call 33; (try rw [HN28_.out]); (try rw [HN30_.out]); (try rw [HN32_.out]); (with_reducible refine (bytes_Clone.calls _ _ ((l0.take ((wrap64 ((ji13) + (Go.bits .or .i64 (wrap64 ((wrap64 (rd l0 x5_1)) * 256)) (wrap64 (rd l0 (ji6)))))) : Int).toNat).drop ((ji13) : Int).toNat) t125 _ ?side1 ?side2 A26.out).mono ?_); (case side1 => repeat (first | exact (Kd.C_below HR124.out (by repeat (first | (with_reducible first | exact HB.out | apply below_alloc | apply pw_below_drewN | apply below_drew1) | exact HB.out))) | (with_reducible refine Kd.C_alloc ?_ _) | (with_reducible refine Kd.C_drewN ?_ _) | (with_reducible refine Kd.C_drew ?_))); (case side2 => exact HC124.out); rintro e w33 ⟨v126, rfl, ho0, hb⟩; have n0_ := Aside0.mk (Kd.S_elder' (by (with_reducible repeat (first | apply Kd.S_alloc | apply Kd.S_drewN | apply Kd.S_drew)); exact HO_4.out) (Kd.R_base ho0) hb); have n1_ := Aside0.mk (Kd.R_elder' (by (with_reducible repeat (first | apply Kd.R_alloc | apply Kd.R_drewN | apply Kd.R_drew)); exact HO121.out) (Kd.R_base ho0) hb); have n2_ := Aside0.mk (Kd.R_lower (Kd.R_new' ho0 (Kd.R_lt (by (with_reducible repeat (first | apply Kd.R_alloc | apply Kd.R_drewN | apply Kd.R_drew)); exact HO121.out))) (below_size (by repeat (first | (with_reducible first | exact HB.out | apply below_alloc | apply pw_below_drewN | apply below_drew1) | exact HB.out)))); have n3_ := Aside0.mk (below_step (by repeat (first | (with_reducible first | exact HB.out | apply below_alloc | apply pw_below_drewN | apply below_drew1) | exact HB.out)) hb); clear HO_4; clear HO121; clear HB; have HO_4 := n0_; have HO121 := n1_; have HO127 := n2_; have HB := n3_; clear n0_ n1_ n2_ n3_; (try clear hb); (try clear hb2); (try clear hk); (try clear hi); (try clear ho0); obtain ⟨Ao35, co35, eo35⟩ := Kd.R_slice HO127.out; subst eo35) | ((with_reducible refine gate_builtin (b := .append) (xs := #[.tmp 70, .tmp 80]) rfl ?_); (try (refine gate_guard (by rfl) ?_; dsimp only)); at_builtin; refine Kd.S_append (Kd.slice 5 (Kd.int .u8)) (w0 := w) w.heap.size rfl (.tmp 70) (.tmp 80) 23 22 (.slice none 0 0) 24 rfl Try.underlying23 info22 rfl (by decide) (by omega) u4 x4_1 t125 [.slice Ao35 t125.length co35] (fun k_ => some k_ ≠ (.slice Ao31 t118.length co31 : Value).ownBlock) (fun k_ => some k_ = (.slice Ao35 t125.length co35 : Value).ownBlock) rfl rfl ?aP (fun k_ hk_ => ((Kd.R_mono (ok' := fun k_ => ((fun k_ => some k_ ≠ (.slice Ao31 t118.length co31 : Value).ownBlock)) k_ ∧ some k_ ≠ (u4 : Value).ownBlock) (Kd.R_apart' (HO127.out) (Kd.S_typed HO_4.out) (by decide)) (fun k_ hk => ⟨hk.1.2, hk.2⟩))).1 k_ hk_.symm) ?aF ?aO ?aB ?aS ?aL ?_; (case aP => exact Kd.M_row (Kd.R_mono (Kd.R_tight rfl (Kd.R_mono (ok' := fun k_ => ((fun k_ => some k_ ≠ (.slice Ao31 t118.length co31 : Value).ownBlock)) k_ ∧ some k_ ≠ (u4 : Value).ownBlock) (Kd.R_apart' (HO127.out) (Kd.S_typed HO_4.out) (by decide)) (fun k_ hk => ⟨hk.1.2, hk.2⟩))) (fun _ h_ => h_))); (case aB => exact (by repeat (first | (with_reducible first | exact HB.out | apply below_alloc | apply pw_below_drewN | apply below_drew1) | exact HB.out))); (case aF => exact (fun k_ hk => Kd.fresh' (Kd.R_lt (by (with_reducible repeat (first | apply Kd.R_alloc | apply Kd.R_drewN | apply Kd.R_drew)); exact HO121.out)) k_ hk)); (case aO => exact (by (with_reducible repeat (first | apply Kd.S_alloc | apply Kd.S_drewN | apply Kd.S_drew)); exact Kd.S_mono HO_4.out (fun k_ hk => ⟨hk.1.2, fun e_ => hk.2 e_⟩))); (case aS => exact (below_size (by repeat (first | (with_reducible first | exact HB.out | apply below_alloc | apply pw_below_drewN | apply below_drew1) | exact HB.out)))); (case aL => have := LMc27.out; omega); intro v129 w34 ho hb hg hat; rw [← Ny128.out] at ho; have n0_ := Aside0.mk (Kd.R_over' (by (with_reducible repeat (first | apply Kd.R_alloc | apply Kd.R_drewN | apply Kd.R_drew)); exact HO121.out) (Kd.S_typed (by (with_reducible repeat (first | apply Kd.S_alloc | apply Kd.S_drewN | apply Kd.S_drew)); exact HO_4.out)) (by decide) hg); have n1_ := Aside0.mk (hb); have n2_ := Aside0.mk (ho); clear HO121; clear HB; clear HO_4; clear HO127; have HO121 := n0_; have HB := n1_; have HO130 := n2_; clear n0_ n1_ n2_; clear ho hb hg hat)); try go_wp2_with (first | (go_at_call 11; (try rw [HN28_.out]); (try rw [HN30_.out]); (try rw [HN32_.out]); (with_reducible refine (seg_Record.calls kj8 _ _ ((l0.take ((wrap64 ((ji13) + (Go.bits .or .i64 (wrap64 ((wrap64 (rd l0 x5_1)) * 256)) (wrap64 (rd l0 (ji6)))))) : Int).toNat).drop ((ji13) : Int).toNat) t118 t119 _ ?side1 ?side2 A17.out).mono ?_); (case side1 => repeat (first | exact (Kd.C_below HR117.out HB.out) | (with_reducible refine Kd.C_alloc ?_ _) | (with_reducible refine Kd.C_drewN ?_ _) | (with_reducible refine Kd.C_drew ?_))); (case side2 => exact HC117.out); rintro e w29 ⟨v120, rfl, ho0, hb⟩; have n0_ := Aside0.mk (Kd.S_elder' (by (with_reducible repeat (first | apply Kd.S_alloc | apply Kd.S_drewN | apply Kd.S_drew)); exact HO_4.out) (Kd.R_base ho0) hb); have n1_ := Aside0.mk (Kd.R_lower ho0 (below_size (by repeat (first | (with_reducible first | exact HB.out | apply below_alloc | apply pw_below_drewN | apply below_drew1) | exact HB.out)))); have n2_ := Aside0.mk (below_step (by repeat (first | (with_reducible first | exact HB.out | apply below_alloc | apply pw_below_drewN | apply below_drew1) | exact HB.out)) hb); clear HO_4; clear HB; have HO_4 := n0_; have HO121 := n1_; have HB := n2_; clear n0_ n1_ n2_; (try clear hb); (try clear hb2); (try clear hk); (try clear hi); (try clear ho0); obtain ⟨i030, hi030, _, hsz30, _⟩ := info_parts info5; (try clear hcut28); (try clear hcut32); obtain ⟨A30, hcut30, hA30, hC30⟩ := print_mid_of (P := Try.prog) (Value.int .u8) 0 22 5 .i64 .i64 Try.underlying22 hi030 hsz30 (some ad115) c0 l0 x5_1 (wrap64 ((ji13) + (Go.bits .or .i64 (wrap64 ((wrap64 (rd l0 x5_1)) * 256)) (wrap64 (rd l0 (ji6)))))) (of_decide_eq_true (by first | (with_reducible assumption) | assumption)) (by first | omega | exact of_decide_eq_true (by first | (with_reducible assumption) | assumption)) (of_decide_eq_true (by first | (with_reducible assumption) | assumption)) HC0.out; obtain ⟨n30_, hn30_⟩ : ∃ n_ : Nat, (∀ W : World, (Instr.slice _ _ _ _ none).run Try.prog W = .ok (.slice A30 n_ _) W) ∧ n_ = _ := ⟨_, hcut30, rfl⟩; clear hcut30; obtain ⟨hcut30, hm30_⟩ := hn30_; have HN30_ := Aside0.mk hm30_; clear hm30_; have HR122 := Aside0.mk (Kd.C_of_reads (h1 := fun _ => rfl) (hA30 _ (Kd.reads_of_C HR0.out))); have HC122 := Aside0.mk hC30; clear hA30 hC30 hi030 hsz30; obtain ⟨Ao31, co31, eo31⟩ := Kd.R_slice HO121.out; subst eo31) | (go_at_call 32; (try rw [HN28_.out]); (try rw [HN30_.out]); (try rw [HN32_.out]); (with_reducible refine (bytes_Equal.calls _ _ t118 _ _ ((l0.take ((wrap64 ((ji13) + (Go.bits .or .i64 (wrap64 ((wrap64 (rd l0 x5_1)) * 256)) (wrap64 (rd l0 (ji6)))))) : Int).toNat).drop (x5_1 : Int).toNat) true _ ?side1 ?side2 ?side3 ?side4 A21.out).mono ?_); (case side1 => repeat (first | exact (Kd.R_reads' HO121.out).2.2 | (with_reducible refine Kd.C_alloc ?_ _) | (with_reducible refine Kd.C_drewN ?_ _) | (with_reducible refine Kd.C_drew ?_))); (case side2 => exact (Kd.R_reads' HO121.out).2.1); (case side3 => repeat (first | exact (Kd.C_below HR122.out HB.out) | (with_reducible refine Kd.C_alloc ?_ _) | (with_reducible refine Kd.C_drewN ?_ _) | (with_reducible refine Kd.C_drew ?_))); (case side4 => exact HC122.out); rintro e w' ⟨rfl, ⟨nd, rfl⟩⟩; (try first | exact ⟨rfl, _, World.drewN_drewN _ _ _⟩ | exact ⟨rfl, _, Eq.trans (World.drewN_drewN _ _ _) (congrArg (World.drewN _) (Nat.add_assoc _ _ _))⟩); obtain ⟨i032, hi032, _, hsz32, _⟩ := info_parts info5; (try clear hcut28); (try clear hcut30); (try clear hcut30); obtain ⟨A32, hcut32, hA32, hC32⟩ := print_mid_of (P := Try.prog) (Value.int .u8) 0 22 5 .i64 .i64 Try.underlying22 hi032 hsz32 (some ad115) c0 l0 (ji13) (wrap64 ((ji13) + (Go.bits .or .i64 (wrap64 ((wrap64 (rd l0 x5_1)) * 256)) (wrap64 (rd l0 (ji6)))))) (of_decide_eq_true (by first | (with_reducible assumption) | assumption)) (by first | omega | exact of_decide_eq_true (by first | (with_reducible assumption) | assumption)) (of_decide_eq_true (by first | (with_reducible assumption) | assumption)) HC0.out; obtain ⟨n32_, hn32_⟩ : ∃ n_ : Nat, (∀ W : World, (Instr.slice _ _ _ _ none).run Try.prog W = .ok (.slice A32 n_ _) W) ∧ n_ = _ := ⟨_, hcut32, rfl⟩; clear hcut32; obtain ⟨hcut32, hm32_⟩ := hn32_; have HN32_ := Aside0.mk hm32_; clear hm32_; have HR124 := Aside0.mk (Kd.C_of_reads (h1 := fun _ => rfl) (hA32 _ (Kd.reads_of_C HR0.out))); have HC124 := Aside0.mk hC32; clear hA32 hC32 hi032 hsz32) | (go_at_call 33; (try rw [HN28_.out]); (try rw [HN30_.out]); (try rw [HN32_.out]); (with_reducible refine (bytes_Clone.calls _ _ ((l0.take ((wrap64 ((ji13) + (Go.bits .or .i64 (wrap64 ((wrap64 (rd l0 x5_1)) * 256)) (wrap64 (rd l0 (ji6)))))) : Int).toNat).drop ((ji13) : Int).toNat) t125 _ ?side1 ?side2 A26.out).mono ?_); (case side1 => repeat (first | exact (Kd.C_below HR124.out (by repeat (first | (with_reducible first | exact HB.out | apply below_alloc | apply pw_below_drewN | apply below_drew1) | exact HB.out))) | (with_reducible refine Kd.C_alloc ?_ _) | (with_reducible refine Kd.C_drewN ?_ _) | (with_reducible refine Kd.C_drew ?_))); (case side2 => exact HC124.out); rintro e w33 ⟨v126, rfl, ho0, hb⟩; have n0_ := Aside0.mk (Kd.S_elder' (by (with_reducible repeat (first | apply Kd.S_alloc | apply Kd.S_drewN | apply Kd.S_drew)); exact HO_4.out) (Kd.R_base ho0) hb); have n1_ := Aside0.mk (Kd.R_elder' (by (with_reducible repeat (first | apply Kd.R_alloc | apply Kd.R_drewN | apply Kd.R_drew)); exact HO121.out) (Kd.R_base ho0) hb); have n2_ := Aside0.mk (Kd.R_lower (Kd.R_new' ho0 (Kd.R_lt (by (with_reducible repeat (first | apply Kd.R_alloc | apply Kd.R_drewN | apply Kd.R_drew)); exact HO121.out))) (below_size (by repeat (first | (with_reducible first | exact HB.out | apply below_alloc | apply pw_below_drewN | apply below_drew1) | exact HB.out)))); have n3_ := Aside0.mk (below_step (by repeat (first | (with_reducible first | exact HB.out | apply below_alloc | apply pw_below_drewN | apply below_drew1) | exact HB.out)) hb); clear HO_4; clear HO121; clear HB; have HO_4 := n0_; have HO121 := n1_; have HO127 := n2_; have HB := n3_; clear n0_ n1_ n2_ n3_; (try clear hb); (try clear hb2); (try clear hk); (try clear hi); (try clear ho0); obtain ⟨Ao35, co35, eo35⟩ := Kd.R_slice HO127.out; subst eo35) | ((with_reducible refine gate_builtin (b := .append) (xs := #[.tmp 70, .tmp 80]) rfl ?_); (try (refine gate_guard (by rfl) ?_; dsimp only)); at_builtin; refine Kd.S_append (Kd.slice 5 (Kd.int .u8)) (w0 := w) w.heap.size rfl (.tmp 70) (.tmp 80) 23 22 (.slice none 0 0) 24 rfl Try.underlying23 info22 rfl (by decide) (by omega) u4 x4_1 t125 [.slice Ao35 t125.length co35] (fun k_ => some k_ ≠ (.slice Ao31 t118.length co31 : Value).ownBlock) (fun k_ => some k_ = (.slice Ao35 t125.length co35 : Value).ownBlock) rfl rfl ?aP (fun k_ hk_ => ((Kd.R_mono (ok' := fun k_ => ((fun k_ => some k_ ≠ (.slice Ao31 t118.length co31 : Value).ownBlock)) k_ ∧ some k_ ≠ (u4 : Value).ownBlock) (Kd.R_apart' (HO127.out) (Kd.S_typed HO_4.out) (by decide)) (fun k_ hk => ⟨hk.1.2, hk.2⟩))).1 k_ hk_.symm) ?aF ?aO ?aB ?aS ?aL ?_; (case aP => exact Kd.M_row (Kd.R_mono (Kd.R_tight rfl (Kd.R_mono (ok' := fun k_ => ((fun k_ => some k_ ≠ (.slice Ao31 t118.length co31 : Value).ownBlock)) k_ ∧ some k_ ≠ (u4 : Value).ownBlock) (Kd.R_apart' (HO127.out) (Kd.S_typed HO_4.out) (by decide)) (fun k_ hk => ⟨hk.1.2, hk.2⟩))) (fun _ h_ => h_))); (case aB => exact (by repeat (first | (with_reducible first | exact HB.out | apply below_alloc | apply pw_below_drewN | apply below_drew1) | exact HB.out))); (case aF => exact (fun k_ hk => Kd.fresh' (Kd.R_lt (by (with_reducible repeat (first | apply Kd.R_alloc | apply Kd.R_drewN | apply Kd.R_drew)); exact HO121.out)) k_ hk)); (case aO => exact (by (with_reducible repeat (first | apply Kd.S_alloc | apply Kd.S_drewN | apply Kd.S_drew)); exact Kd.S_mono HO_4.out (fun k_ hk => ⟨hk.1.2, fun e_ => hk.2 e_⟩))); (case aS => exact (below_size (by repeat (first | (with_reducible first | exact HB.out | apply below_alloc | apply pw_below_drewN | apply below_drew1) | exact HB.out)))); (case aL => have := LMc27.out; omega); intro v129 w34 ho hb hg hat; rw [← Ny128.out] at ho; have n0_ := Aside0.mk (Kd.R_over' (by (with_reducible repeat (first | apply Kd.R_alloc | apply Kd.R_drewN | apply Kd.R_drew)); exact HO121.out) (Kd.S_typed (by (with_reducible repeat (first | apply Kd.S_alloc | apply Kd.S_drewN | apply Kd.S_drew)); exact HO_4.out)) (by decide) hg); have n1_ := Aside0.mk (hb); have n2_ := Aside0.mk (ho); clear HO121; clear HB; clear HO_4; clear HO127; have HO121 := n0_; have HB := n1_; have HO130 := n2_; clear n0_ n1_ n2_; clear ho hb hg hat)))
                   refine wp_goto ?_
                   change G_ 0 _ _
                   refine IH500.out kj8 _ _ ?measure rfl ?rel
                   case measure => have := HK1.out; have := HJ8.out; omega
                   case rel => exact ⟨_, _, rfl, rfl, ⟨(y128), (wrap64 ((ji13) + (Go.bits .or .i64 (wrap64 ((wrap64 (rd l0 x5_1)) * 256)) (wrap64 (rd l0 (ji6)))))), (by first | rfl | (simp; done) | (simp only [← hji6, ← hji13] <;> (first | rfl | simp)) | (simp [*]; done)), H', ⟨by have := HK1.out; have := HJ8.out; omega⟩, ⟨by (with_reducible repeat (first | apply Kd.S_alloc | apply Kd.S_drewN | apply Kd.S_drew)); exact Kd.S_mono HO130.out (fun _ hk => trivial)⟩, ⟨by repeat (first | (with_reducible first | exact HB.out | apply below_alloc | apply pw_below_drewN | apply below_drew1) | exact HB.out)⟩⟩⟩
                  ·rw [if_neg c27] at H
                   exact absurd H (by simp)
                 ·replace c22 := Bool.eq_false_iff.mpr c22
                  subst c22
                  have H1 : (some (x4_1, x5_1)) = some (r1, r2) := by rw [if_neg (show ¬ (false = true) by decide)] at H; exact H
                  clear H
                  have H := H1
                  clear H1
                  simp only [Option.some.injEq, Prod.mk.injEq] at H
                  obtain ⟨rfl, rfl⟩ := H
                  obtain ⟨i036, hi036, _, hsz36, _⟩ := info_parts info5
                  obtain ⟨A36, hcut36, hA36, hC36⟩ := print_mid_of (P := Try.prog) (Value.int .u8) 0 22 5 .i64 .i64 Try.underlying22 hi036 hsz36 (some ad115) c0 l0 (ji13) (wrap64 ((ji13) + (Go.bits .or .i64 (wrap64 ((wrap64 (rd l0 x5_1)) * 256)) (wrap64 (rd l0 (ji6)))))) (of_decide_eq_true (by first | (with_reducible assumption) | assumption)) (by first | omega | exact of_decide_eq_true (by first | (with_reducible assumption) | assumption)) (of_decide_eq_true (by first | (with_reducible assumption) | assumption)) HC0.out
                  obtain ⟨n36_, hn36_⟩ : ∃ n_ : Nat, (∀ W : World, (Instr.slice _ _ _ _ none).run Try.prog W = .ok (.slice A36 n_ _) W) ∧ n_ = _ := ⟨_, hcut36, rfl⟩
                  clear hcut36
                  obtain ⟨hcut36, hm36_⟩ := hn36_
                  have HN36_ := Aside0.mk hm36_
                  clear hm36_
                  have HR117 := Aside0.mk (Kd.C_of_reads (h1 := fun _ => rfl) (hA36 _ (Kd.reads_of_C HR0.out)))
                  have HC117 := Aside0.mk hC36
                  clear hA36 hC36 hi036 hsz36
                  go_wp2_with (first | (go_at_call 11; (try rw [HN28_.out]); (try rw [HN36_.out]); (try rw [HN38_.out]); (with_reducible refine (seg_Record.calls kj8 _ _ ((l0.take ((wrap64 ((ji13) + (Go.bits .or .i64 (wrap64 ((wrap64 (rd l0 x5_1)) * 256)) (wrap64 (rd l0 (ji6)))))) : Int).toNat).drop ((ji13) : Int).toNat) t118 t119 _ ?side1 ?side2 A17.out).mono ?_); (case side1 => repeat (first | exact (Kd.C_below HR117.out HB.out) | (with_reducible refine Kd.C_alloc ?_ _) | (with_reducible refine Kd.C_drewN ?_ _) | (with_reducible refine Kd.C_drew ?_))); (case side2 => exact HC117.out); rintro e w37 ⟨v120, rfl, ho0, hb⟩; have n0_ := Aside0.mk (Kd.S_elder' (by (with_reducible repeat (first | apply Kd.S_alloc | apply Kd.S_drewN | apply Kd.S_drew)); exact HO_4.out) (Kd.R_base ho0) hb); have n1_ := Aside0.mk (Kd.R_lower ho0 (below_size (by repeat (first | (with_reducible first | exact HB.out | apply below_alloc | apply pw_below_drewN | apply below_drew1) | exact HB.out)))); have n2_ := Aside0.mk (below_step (by repeat (first | (with_reducible first | exact HB.out | apply below_alloc | apply pw_below_drewN | apply below_drew1) | exact HB.out)) hb); clear HO_4; clear HB; have HO_4 := n0_; have HO121 := n1_; have HB := n2_; clear n0_ n1_ n2_; (try clear hb); (try clear hb2); (try clear hk); (try clear hi); (try clear ho0); obtain ⟨i038, hi038, _, hsz38, _⟩ := info_parts info5; (try clear hcut28); (try clear hcut36); obtain ⟨A38, hcut38, hA38, hC38⟩ := print_mid_of (P := Try.prog) (Value.int .u8) 0 22 5 .i64 .i64 Try.underlying22 hi038 hsz38 (some ad115) c0 l0 x5_1 (wrap64 ((ji13) + (Go.bits .or .i64 (wrap64 ((wrap64 (rd l0 x5_1)) * 256)) (wrap64 (rd l0 (ji6)))))) (of_decide_eq_true (by first | (with_reducible assumption) | assumption)) (by first | omega | exact of_decide_eq_true (by first | (with_reducible assumption) | assumption)) (of_decide_eq_true (by first | (with_reducible assumption) | assumption)) HC0.out; obtain ⟨n38_, hn38_⟩ : ∃ n_ : Nat, (∀ W : World, (Instr.slice _ _ _ _ none).run Try.prog W = .ok (.slice A38 n_ _) W) ∧ n_ = _ := ⟨_, hcut38, rfl⟩; clear hcut38; obtain ⟨hcut38, hm38_⟩ := hn38_; have HN38_ := Aside0.mk hm38_; clear hm38_; have HR122 := Aside0.mk (Kd.C_of_reads (h1 := fun _ => rfl) (hA38 _ (Kd.reads_of_C HR0.out))); have HC122 := Aside0.mk hC38; clear hA38 hC38 hi038 hsz38; obtain ⟨Ao39, co39, eo39⟩ := Kd.R_slice HO121.out; subst eo39) | (go_at_call 32; (try rw [HN28_.out]); (try rw [HN36_.out]); (try rw [HN38_.out]); (with_reducible refine (bytes_Equal.calls _ _ t118 _ _ ((l0.take ((wrap64 ((ji13) + (Go.bits .or .i64 (wrap64 ((wrap64 (rd l0 x5_1)) * 256)) (wrap64 (rd l0 (ji6)))))) : Int).toNat).drop (x5_1 : Int).toNat) false _ ?side1 ?side2 ?side3 ?side4 A21.out).mono ?_); (case side1 => repeat (first | exact (Kd.R_reads' HO121.out).2.2 | (with_reducible refine Kd.C_alloc ?_ _) | (with_reducible refine Kd.C_drewN ?_ _) | (with_reducible refine Kd.C_drew ?_))); (case side2 => exact (Kd.R_reads' HO121.out).2.1); (case side3 => repeat (first | exact (Kd.C_below HR122.out HB.out) | (with_reducible refine Kd.C_alloc ?_ _) | (with_reducible refine Kd.C_drewN ?_ _) | (with_reducible refine Kd.C_drew ?_))); (case side4 => exact HC122.out); rintro e w' ⟨rfl, ⟨nd, rfl⟩⟩; (try first | exact ⟨rfl, _, World.drewN_drewN _ _ _⟩ | exact ⟨rfl, _, Eq.trans (World.drewN_drewN _ _ _) (congrArg (World.drewN _) (Nat.add_assoc _ _ _))⟩)))
                  repeat (go_quiet (first | (go_at_call 11; (try rw [HN28_.out]); (try rw [HN36_.out]); (try rw [HN38_.out]); (with_reducible refine (seg_Record.calls kj8 _ _ ((l0.take ((wrap64 ((ji13) + (Go.bits .or .i64 (wrap64 ((wrap64 (rd l0 x5_1)) * 256)) (wrap64 (rd l0 (ji6)))))) : Int).toNat).drop ((ji13) : Int).toNat) t118 t119 _ ?side1 ?side2 A17.out).mono ?_); (case side1 => repeat (first | exact (Kd.C_below HR117.out HB.out) | (with_reducible refine Kd.C_alloc ?_ _) | (with_reducible refine Kd.C_drewN ?_ _) | (with_reducible refine Kd.C_drew ?_))); (case side2 => exact HC117.out); rintro e w37 ⟨v120, rfl, ho0, hb⟩; have n0_ := Aside0.mk (Kd.S_elder' (by (with_reducible repeat (first | apply Kd.S_alloc | apply Kd.S_drewN | apply Kd.S_drew)); exact HO_4.out) (Kd.R_base ho0) hb); have n1_ := Aside0.mk (Kd.R_lower ho0 (below_size (by repeat (first | (with_reducible first | exact HB.out | apply below_alloc | apply pw_below_drewN | apply below_drew1) | exact HB.out)))); have n2_ := Aside0.mk (below_step (by repeat (first | (with_reducible first | exact HB.out | apply below_alloc | apply pw_below_drewN | apply below_drew1) | exact HB.out)) hb); clear HO_4; clear HB; have HO_4 := n0_; have HO121 := n1_; have HB := n2_; clear n0_ n1_ n2_; (try clear hb); (try clear hb2); (try clear hk); (try clear hi); (try clear ho0); obtain ⟨i038, hi038, _, hsz38, _⟩ := info_parts info5; (try clear hcut28); (try clear hcut36); obtain ⟨A38, hcut38, hA38, hC38⟩ := print_mid_of (P := Try.prog) (Value.int .u8) 0 22 5 .i64 .i64 Try.underlying22 hi038 hsz38 (some ad115) c0 l0 x5_1 (wrap64 ((ji13) + (Go.bits .or .i64 (wrap64 ((wrap64 (rd l0 x5_1)) * 256)) (wrap64 (rd l0 (ji6)))))) (of_decide_eq_true (by first | (with_reducible assumption) | assumption)) (by first | omega | exact of_decide_eq_true (by first | (with_reducible assumption) | assumption)) (of_decide_eq_true (by first | (with_reducible assumption) | assumption)) HC0.out; obtain ⟨n38_, hn38_⟩ : ∃ n_ : Nat, (∀ W : World, (Instr.slice _ _ _ _ none).run Try.prog W = .ok (.slice A38 n_ _) W) ∧ n_ = _ := ⟨_, hcut38, rfl⟩; clear hcut38; obtain ⟨hcut38, hm38_⟩ := hn38_; have HN38_ := Aside0.mk hm38_; clear hm38_; have HR122 := Aside0.mk (Kd.C_of_reads (h1 := fun _ => rfl) (hA38 _ (Kd.reads_of_C HR0.out))); have HC122 := Aside0.mk hC38; clear hA38 hC38 hi038 hsz38; obtain ⟨Ao39, co39, eo39⟩ := Kd.R_slice HO121.out; subst eo39) | (go_at_call 32; (try rw [HN28_.out]); (try rw [HN36_.out]); (try rw [HN38_.out]); (with_reducible refine (bytes_Equal.calls _ _ t118 _ _ ((l0.take ((wrap64 ((ji13) + (Go.bits .or .i64 (wrap64 ((wrap64 (rd l0 x5_1)) * 256)) (wrap64 (rd l0 (ji6)))))) : Int).toNat).drop (x5_1 : Int).toNat) false _ ?side1 ?side2 ?side3 ?side4 A21.out).mono ?_); (case side1 => repeat (first | exact (Kd.R_reads' HO121.out).2.2 | (with_reducible refine Kd.C_alloc ?_ _) | (with_reducible refine Kd.C_drewN ?_ _) | (with_reducible refine Kd.C_drew ?_))); (case side2 => exact (Kd.R_reads' HO121.out).2.1); (case side3 => repeat (first | exact (Kd.C_below HR122.out HB.out) | (with_reducible refine Kd.C_alloc ?_ _) | (with_reducible refine Kd.C_drewN ?_ _) | (with_reducible refine Kd.C_drew ?_))); (case side4 => exact HC122.out); rintro e w' ⟨rfl, ⟨nd, rfl⟩⟩; (try first | exact ⟨rfl, _, World.drewN_drewN _ _ _⟩ | exact ⟨rfl, _, Eq.trans (World.drewN_drewN _ _ _) (congrArg (World.drewN _) (Nat.add_assoc _ _ _))⟩))); try go_wp2_with (first | (go_at_call 11; (try rw [HN28_.out]); (try rw [HN36_.out]); (try rw [HN38_.out]); (with_reducible refine (seg_Record.calls kj8 _ _ ((l0.take ((wrap64 ((ji13) + (Go.bits .or .i64 (wrap64 ((wrap64 (rd l0 x5_1)) * 256)) (wrap64 (rd l0 (ji6)))))) : Int).toNat).drop ((ji13) : Int).toNat) t118 t119 _ ?side1 ?side2 A17.out).mono ?_); (case side1 => repeat (first | exact (Kd.C_below HR117.out HB.out) | (with_reducible refine Kd.C_alloc ?_ _) | (with_reducible refine Kd.C_drewN ?_ _) | (with_reducible refine Kd.C_drew ?_))); (case side2 => exact HC117.out); rintro e w37 ⟨v120, rfl, ho0, hb⟩; have n0_ := Aside0.mk (Kd.S_elder' (by (with_reducible repeat (first | apply Kd.S_alloc | apply Kd.S_drewN | apply Kd.S_drew)); exact HO_4.out) (Kd.R_base ho0) hb); have n1_ := Aside0.mk (Kd.R_lower ho0 (below_size (by repeat (first | (with_reducible first | exact HB.out | apply below_alloc | apply pw_below_drewN | apply below_drew1) | exact HB.out)))); have n2_ := Aside0.mk (below_step (by repeat (first | (with_reducible first | exact HB.out | apply below_alloc | apply pw_below_drewN | apply below_drew1) | exact HB.out)) hb); clear HO_4; clear HB; have HO_4 := n0_; have HO121 := n1_; have HB := n2_; clear n0_ n1_ n2_; (try clear hb); (try clear hb2); (try clear hk); (try clear hi); (try clear ho0); obtain ⟨i038, hi038, _, hsz38, _⟩ := info_parts info5; (try clear hcut28); (try clear hcut36); obtain ⟨A38, hcut38, hA38, hC38⟩ := print_mid_of (P := Try.prog) (Value.int .u8) 0 22 5 .i64 .i64 Try.underlying22 hi038 hsz38 (some ad115) c0 l0 x5_1 (wrap64 ((ji13) + (Go.bits .or .i64 (wrap64 ((wrap64 (rd l0 x5_1)) * 256)) (wrap64 (rd l0 (ji6)))))) (of_decide_eq_true (by first | (with_reducible assumption) | assumption)) (by first | omega | exact of_decide_eq_true (by first | (with_reducible assumption) | assumption)) (of_decide_eq_true (by first | (with_reducible assumption) | assumption)) HC0.out; obtain ⟨n38_, hn38_⟩ : ∃ n_ : Nat, (∀ W : World, (Instr.slice _ _ _ _ none).run Try.prog W = .ok (.slice A38 n_ _) W) ∧ n_ = _ := ⟨_, hcut38, rfl⟩; clear hcut38; obtain ⟨hcut38, hm38_⟩ := hn38_; have HN38_ := Aside0.mk hm38_; clear hm38_; have HR122 := Aside0.mk (Kd.C_of_reads (h1 := fun _ => rfl) (hA38 _ (Kd.reads_of_C HR0.out))); have HC122 := Aside0.mk hC38; clear hA38 hC38 hi038 hsz38; obtain ⟨Ao39, co39, eo39⟩ := Kd.R_slice HO121.out; subst eo39) | (go_at_call 32; (try rw [HN28_.out]); (try rw [HN36_.out]); (try rw [HN38_.out]); (with_reducible refine (bytes_Equal.calls _ _ t118 _ _ ((l0.take ((wrap64 ((ji13) + (Go.bits .or .i64 (wrap64 ((wrap64 (rd l0 x5_1)) * 256)) (wrap64 (rd l0 (ji6)))))) : Int).toNat).drop (x5_1 : Int).toNat) false _ ?side1 ?side2 ?side3 ?side4 A21.out).mono ?_); (case side1 => repeat (first | exact (Kd.R_reads' HO121.out).2.2 | (with_reducible refine Kd.C_alloc ?_ _) | (with_reducible refine Kd.C_drewN ?_ _) | (with_reducible refine Kd.C_drew ?_))); (case side2 => exact (Kd.R_reads' HO121.out).2.1); (case side3 => repeat (first | exact (Kd.C_below HR122.out HB.out) | (with_reducible refine Kd.C_alloc ?_ _) | (with_reducible refine Kd.C_drewN ?_ _) | (with_reducible refine Kd.C_drew ?_))); (case side4 => exact HC122.out); rintro e w' ⟨rfl, ⟨nd, rfl⟩⟩; (try first | exact ⟨rfl, _, World.drewN_drewN _ _ _⟩ | exact ⟨rfl, _, Eq.trans (World.drewN_drewN _ _ _) (congrArg (World.drewN _) (Nat.add_assoc _ _ _))⟩))))
                  (try rw [scoped_ret])
                  go_ret2
                  exact ⟨_, by first | rfl | (simp [errW_none, errW_some] <;> rfl) | (simp only [← hji6, ← hji13]; first | rfl | (simp [errW_none, errW_some] <;> rfl)) | (simp [*, errW_none, errW_some] <;> rfl), by (with_reducible repeat (first | apply Kd.S_alloc | apply Kd.S_drewN | apply Kd.S_drew)); exact Kd.S_mono HO_4.out (fun _ hk => trivial), by repeat (first | (with_reducible first | exact HB.out | apply below_alloc | apply pw_below_drewN | apply below_drew1) | exact HB.out)⟩
                ·rw [if_neg c19] at H
                 exact absurd H (by simp)
               ·rw [if_neg c18] at H
                exact absurd H (by simp)
              ·rw [if_neg c16] at H
               exact absurd H (by simp)
             ·rw [if_neg c15] at H
              exact absurd H (by simp)
            ·rw [if_neg c14] at H
             exact absurd H (by simp)
        ·rw [if_neg c8] at H
         exact absurd H (by simp)
       ·rw [if_neg c7] at H
        exact absurd H (by simp)
      ·rw [if_neg c5] at H
       exact absurd H (by simp)
     ·rw [if_neg c4] at H
      exact absurd H (by simp)

-- NOT PRINTED: function 16 (seg_Open)

-- NOT PRINTED: function 20 (seg_Log_Bytes)

-- NOT PRINTED: function 21 (seg_Log_Waits)

-- NOT PRINTED: function 22 (seg_Log_Sync)

-- NOT PRINTED: function 23 (seg_Log_Put)

-- NOT PRINTED: function 38 (slices_Grow_byte_byte)

-- NOT PRINTED: function 37 (slices_Concat_byte_byte)

-- NOT PRINTED: function 24 (seg_Log_Crash)

-- NOT PRINTED: function 10 (carrefourlaw11_told)

-- NOT PRINTED: function 5 (carrefourlaw11_SegSums)

-- NOT PRINTED: function 7 (carrefourlaw11_SegBounds)

-- NOT PRINTED: function 6 (carrefourlaw11_SegRows)

end Go.Proofs.Ytnnlmbmgaajmhaa.PGa
