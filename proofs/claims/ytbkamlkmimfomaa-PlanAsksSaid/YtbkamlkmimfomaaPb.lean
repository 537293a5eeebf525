/-
  The program's Beat: its contract.
  Conditions: none.
-/
import Derived.Test.YtbkamlkmimfomaaW5
import Derived.Test.YtbkamlkmimfomaaPGax1
import Derived.LoopN
import Derived.BigQuiet
namespace Go.Proofs.Ytbkamlkmimfomaa
open Go.RowKit Go.Proofs.YtbkamlkmimfomaaW.PrintWords Go.Proofs.YtbkamlkmimfomaaW.PrintLast Go.Proofs.YtbkamlkmimfomaaFl Go.Proofs.YtbkamlkmimfomaaG
set_option linter.unusedVariables false
set_option linter.unusedSimpArgs false

/-- A walk halts here. -/
structure Hid2 (p : Prop) : Prop where
  out : p
theorem halt_here {p : Prop} (h : Hid2 p) : p := h.out
theorem wp_gen {P : Program} {c : Code} {a : Act} {W : World} {Q : Exit → Act → World → Prop} (R : World → Prop) (hR : R W) (h : ∀ W, R W → c.wp P Q a W) : c.wp P Q a W := h W hR
theorem calls_gen {P : Program} {f : FuncId} {args : Array Value} {W : World} {Q : Ending → World → Prop} (R : World → Prop) (hR : R W) (h : ∀ W, R W → Calls P f args W Q) : Calls P f args W Q := h W hR
theorem thn5 {w W w' : World} (h : Below w.heap.size w W) (hb : Below W.heap.size W w') : Below w.heap.size w w' := h.trans (hb.mono h.size)
/-- A load as it counts. -/
def sz (n : Int) : Int := if n < 0 ∨ 1073741824 < n then 0 else n
theorem sz_is (n : Int) : PGa.plan_size.f 5 n = some (sz n) := by
  unfold PGa.plan_size.f sz
  by_cases h : n < 0
  · rw [if_pos h, if_pos (.inl h)]
    rfl
  · rw [if_neg h]
    by_cases h2 : n > 1073741824
    · rw [decide_eq_true h2, if_pos (.inr h2)]
      rfl
    · rw [decide_eq_false h2, if_neg (fun e => e.elim h (fun e => h2 e))]
      rfl
theorem Size_is (n : Int) (w : World) : Calls Try.prog 23 #[.int .i64 n] w fun e w' => e = .returned (.int .i64 (sz n)) ∧ ∃ k, w' = w.drewN k :=
  (PGa.plan_size.calls 5 n (sz n) w (sz_is n)).mono fun e w' ⟨a, ⟨k, b⟩⟩ => ⟨a, k, b⟩
/-- Which is greater, NaNs alike. -/
def gtO (a b : Option Nat) : Bool := match a, b with
  | some x, some y => FloatKind.f64.format.order x y == some .gt
  | _, _ => false
theorem order_nan {x y : Nat} (h : rd x = none ∨ rd y = none) : FloatKind.f64.format.order x y = none := by
  have hr : FloatKind.f64.format = Ieee.double := rfl
  rcases h with h | h
  · obtain ⟨s, t, e⟩ := nan_left h
    unfold Ieee.Format.order
    rw [hr, e]
    cases Ieee.double.read y <;> rfl
  · obtain ⟨s, t, e⟩ := nan_left h
    unfold Ieee.Format.order
    rw [hr, e]
    cases Ieee.double.read x <;> rfl
theorem gt_rd (x y : Nat) : (FloatKind.f64.format.order x y == some .gt) = gtO (rd x) (rd y) := by
  cases hx : rd x with
  | none => rw [order_nan (.inl hx)]; rfl
  | some a =>
    obtain rfl := rd_some hx
    cases hy : rd y with
    | none => rw [order_nan (.inr hy)]; rfl
    | some b =>
      obtain rfl := rd_some hy
      rfl
def normC (c : C) : Option Nat := lift .add (lift .mul c.1 c.1) (lift .mul c.2 c.2)
/-- The first of the greatest norms. -/
def best2 (a b : C) : C := if gtO (normC b) (normC a) = true then b else a
def xs4 (b0 b1 b2 b3 : Nat) (j : Nat) : Nat × Nat := (if j = 0 then b0 else if j = 1 then b1 else if j = 2 then b2 else b3, 0)
def beatX (a0 a1 a2 a3 : Int) : Nat → Nat × Nat := xs4 (floatOfInt .f64 (sz a0)) (floatOfInt .f64 (sz a1)) (floatOfInt .f64 (sz a2)) (floatOfInt .f64 (sz a3))
def beatF (a0 a1 a2 a3 : Int) (k : Nat) : C := part (fun j => crd (beatX a0 a1 a2 a3 j)) (-1 * (k : Nat)) 3
def beatC (a0 a1 a2 a3 : Int) : C := best2 (best2 (beatF a0 a1 a2 a3 1) (beatF a0 a1 a2 a3 2)) (beatF a0 a1 a2 a3 3)
def beatB (a0 a1 a2 a3 : Int) : Bool := decide (sz a2 < sz a3) && gtO (normC (beatC a0 a1 a2 a3)) (some 0)
@[go_sem] theorem ix28_0 (a b c d : Value) (w : World) : (Instr.index 28 (.agg #[a, b, c, d]) (.int .i64 0)).run Try.prog w = .ok a w := by
  simp [Instr.index, asIntOf, run_underlying Try.underlying28, part, go_sem]
@[go_sem] theorem ix28_1 (a b c d : Value) (w : World) : (Instr.index 28 (.agg #[a, b, c, d]) (.int .i64 1)).run Try.prog w = .ok b w := by
  simp [Instr.index, asIntOf, run_underlying Try.underlying28, part, go_sem]
@[go_sem] theorem ix28_2 (a b c d : Value) (w : World) : (Instr.index 28 (.agg #[a, b, c, d]) (.int .i64 2)).run Try.prog w = .ok c w := by
  simp [Instr.index, asIntOf, run_underlying Try.underlying28, part, go_sem]
@[go_sem] theorem ix28_3 (a b c d : Value) (w : World) : (Instr.index 28 (.agg #[a, b, c, d]) (.int .i64 3)).run Try.prog w = .ok d w := by
  simp [Instr.index, asIntOf, run_underlying Try.underlying28, part, go_sem]
theorem Four_at (b0 b1 b2 b3 : Nat) (w : World) : Calls Try.prog 24 #[.agg #[.complex .f64 b0 0, .complex .f64 b1 0, .complex .f64 b2 0, .complex .f64 b3 0]] w fun e w' => ∃ o : Nat → Nat × Nat, e = .returned (.agg #[.complex .f64 (o 0).1 (o 0).2, .complex .f64 (o 1).1 (o 1).2, .complex .f64 (o 2).1 (o 2).2, .complex .f64 (o 3).1 (o 3).2]) ∧
        (∀ k, k < 4 → crd (o k) = part (fun j => crd (xs4 b0 b1 b2 b3 j)) (-1 * (k : Nat)) 3) ∧ Below w.heap.size w w' := Four_is (xs4 b0 b1 b2 b3) w
theorem Norm_at (a b : Nat) (w : World) : Calls Try.prog 25 #[.complex .f64 a b] w fun e w' => ∃ r k, e = .returned (.float .f64 r) ∧ w' = w.drewN k ∧ rd r = normC (crd (a, b)) := norm_is a b w
theorem rd_zero : rd 0 = some 0 := by kernel_rfl
/-- Which sum is told. -/
theorem pick_t {x y : Nat} {a b : C} (hx : rd x = normC b) (hy : rd y = normC a) (h : (FloatKind.f64.format.order x y == some .gt) = true) : best2 a b = b := by
  rw [gt_rd, hx, hy] at h
  exact if_pos h
theorem pick_f {x y : Nat} {a b : C} (hx : rd x = normC b) (hy : rd y = normC a) (h : (FloatKind.f64.format.order x y == some .gt) = false) : best2 a b = a := by
  rw [gt_rd, hx, hy] at h
  unfold best2
  rw [h]
  rfl
set_option maxHeartbeats 8000000 in
theorem Beat_is (a0 a1 a2 a3 : Int) (w : World) : Calls Try.prog 8 #[.agg #[.int .i64 a0, .int .i64 a1, .int .i64 a2, .int .i64 a3]] w fun e w' => ∃ r i, e = .returned (.tuple #[.complex .f64 r i, .bool (beatB a0 a1 a2 a3)]) ∧ crd (r, i) = beatC a0 a1 a2 a3 ∧ Below w.heap.size w w' := by
  go_enter Try.func8, Try.ntmps8
  go_wp2
  refine wp_loop_rounds 5 ?_
  rw [rounds_succ]
  go_wp2_with (go_at_call 23; refine (Size_is _ _).mono ?_; rintro e w1 ⟨rfl, n1_, rfl⟩)
  rw [rounds_succ]
  go_wp2_with (go_at_call 23; refine (Size_is _ _).mono ?_; rintro e w1 ⟨rfl, n2_, rfl⟩)
  rw [rounds_succ]
  go_wp2_with (go_at_call 23; refine (Size_is _ _).mono ?_; rintro e w1 ⟨rfl, n3_, rfl⟩)
  rw [rounds_succ]
  go_wp2_with (go_at_call 23; refine (Size_is _ _).mono ?_; rintro e w1 ⟨rfl, n4_, rfl⟩)
  rw [rounds_succ]
  go_wp2_with (go_at_call 24; refine halt_here ?_)
  refine Hid2.mk ?_
  refine calls_gen (fun W => Below w.heap.size w W ∧ W.heap[w.heap.size]? = some (.cells #[.int .i64 a0, .int .i64 a1, .int .i64 a2, .int .i64 a3] 28 (0, 0))) ⟨?_, ?_⟩ (fun W hW => ?_)
  · repeat (first | exact Below.refl _ _ | refine below_set ?_ (Nat.le_succ _) | refine pw_below_drewN ?_ _ | refine below_alloc ?_ _)
  · refine (Below.block (show Below (w.alloc (.cells #[.int .i64 a0, .int .i64 a1, .int .i64 a2, .int .i64 a3] 28)).heap.size (w.alloc (.cells #[.int .i64 a0, .int .i64 a1, .int .i64 a2, .int .i64 a3] 28)) _ from ?_) w.heap.size ?_).trans (blk_new w _)
    · repeat (first | exact Below.refl _ _ | refine below_set ?_ (Nat.le_of_eq (World.size_alloc _ _)) | refine pw_below_drewN ?_ _ | refine below_alloc (w := w.alloc _) ?_ _)
    · rw [World.size_alloc]
      exact Nat.lt_succ_self _
  have HBW := Aside0.mk hW.1
  have HX := Aside0.mk hW.2
  clear hW
  refine (Four_at _ _ _ _ W).mono ?_
  rintro e w5 ⟨o, rfl, ho, hb⟩
  have HO := Aside0.mk ho
  have HX5 := Aside0.mk (blk_below HX.out hb)
  have HB5 := Aside0.mk (thn5 HBW.out hb)
  clear hb ho
  have hx2 : ∀ O, (w5.alloc O).cell? ⟨w.heap.size, 2, none⟩ = some (.int .i64 a2) := fun O => (blk_cell (blk_alloc HX5.out O) 2).trans rfl
  have hx3 : ∀ O, (w5.alloc O).cell? ⟨w.heap.size, 3, none⟩ = some (.int .i64 a3) := fun O => (blk_cell (blk_alloc HX5.out O) 3).trans rfl
  have HW5 := Aside0.mk HB5.out.size
  have e2 : crd (o 2) = beatF a0 a1 a2 a3 2 := HO.out 2 (by decide)
  have e1 : crd (o 1) = beatF a0 a1 a2 a3 1 := HO.out 1 (by decide)
  have e3 : crd (o 3) = beatF a0 a1 a2 a3 3 := HO.out 3 (by decide)
  have E1 := Aside0.mk e1
  have E2 := Aside0.mk e2
  have E3 := Aside0.mk e3
  clear e1 e2 e3
  rcases Bool.eq_false_or_eq_true (gtO (normC (crd (o 2))) (normC (crd (o 1)))) with g1 | g1
  · have G1 := Aside0.mk g1
    have F1 : Aside0 (best2 (crd (o 1)) (crd (o 2)) = crd (o 2)) := ⟨by unfold best2; rw [g1]; rfl⟩
    clear g1
    rcases Bool.eq_false_or_eq_true (gtO (normC (crd (o 3))) (normC (crd (o 2)))) with g2 | g2
    · have G2 := Aside0.mk g2
      have F2 : Aside0 (best2 (crd (o 2)) (crd (o 3)) = crd (o 3)) := ⟨by unfold best2; rw [g2]; rfl⟩
      clear g2
      have FB : Aside0 (crd ((o 3).1, (o 3).2) = beatC a0 a1 a2 a3) := ⟨by unfold beatC; rw [← E1.out, ← E2.out, ← E3.out, F1.out, F2.out]⟩
      obtain ⟨ZB, hZ⟩ : ∃ ZB, gtO (normC (crd ((o 3).1, (o 3).2))) (some 0) = ZB := ⟨_, rfl⟩
      have HZ := Aside0.mk hZ
      clear hZ
      by_cases hg : sz a2 < sz a3
      · have HBB : Aside0 (beatB a0 a1 a2 a3 = ZB) := ⟨by unfold beatB; rw [decide_eq_true hg, ← FB.out, HZ.out]; rfl⟩
        go_wp2
        refine wp_loop_rounds 3 ?_
        rw [rounds_succ]
        go_wp2_with (first
          | (go_at_call 25; with_reducible refine (Norm_at (o 2).1 (o 2).2 _).mono ?_; rintro e w6 ⟨ra, ka, rfl, rfl, hra⟩; have HRA := Aside0.mk hra; clear hra)
          | (go_at_call 25; with_reducible refine (Norm_at (o 1).1 (o 1).2 _).mono ?_; rintro e w6 ⟨rb, kb, rfl, rfl, hrb⟩; have hh : (FloatKind.f64.format.order ra rb == some .gt) = true := (gt_rd ra rb).trans (by rw [HRA.out, hrb]; exact G1.out); clear hrb))
        rw [rounds_succ]
        go_wp2_with (first
          | (go_at_call 25; with_reducible refine (Norm_at (o 3).1 (o 3).2 _).mono ?_; rintro e w6 ⟨rc, kc, rfl, rfl, hrc⟩; have HRC := Aside0.mk hrc; clear hrc)
          | (go_at_call 25; with_reducible refine (Norm_at (o 2).1 (o 2).2 _).mono ?_; rintro e w6 ⟨rd_, kd, rfl, rfl, hrd⟩; have hh2 : (FloatKind.f64.format.order rc rd_ == some .gt) = true := (gt_rd rc rd_).trans (by rw [HRC.out, hrd]; exact G2.out); clear hrd))
        rw [rounds_succ]
        go_wp2
        go_region_held3 (fun w' => w'.cell? ⟨w.heap.size, 2, none⟩ = some (.int .i64 a2) ∧ w'.cell? ⟨w.heap.size, 3, none⟩ = some (.int .i64 a3) ∧ Below w.heap.size w w') (exact ⟨hx2 _, hx3 _, by repeat (first | exact HB5.out | refine pw_below_drewN ?_ _ | refine below_drew1 ?_ | refine below_alloc ?_ _)⟩) (first
          | (go_at_call 23; refine (Size_is _ _).mono ?_; rintro e w7 ⟨rfl, k7, rfl⟩)
          | (go_at_call 25; refine (Norm_at (o 3).1 (o 3).2 _).mono ?_; rintro e w8 ⟨re, ke, rfl, rfl, hre⟩; have hz : (FloatKind.f64.format.order re 0 == some .gt) = ZB := (gt_rd re 0).trans (by rw [hre, rd_zero]; exact HZ.out); clear hre))
        all_goals
          go_wp2
          go_ret2
          exact ⟨_, _, by rw [HBB.out]; rfl, FB.out, by repeat (first | assumption | exact HB5.out | refine pw_below_drewN ?_ _ | refine below_drew1 ?_ | refine below_alloc ?_ _)⟩
      · have HBB : Aside0 (beatB a0 a1 a2 a3 = false) := ⟨by unfold beatB; rw [decide_eq_false hg, ← FB.out, HZ.out]; rfl⟩
        have hgd : decide (sz a2 < sz a3) = false := decide_eq_false hg
        clear hg
        go_wp2
        refine wp_loop_rounds 3 ?_
        rw [rounds_succ]
        go_wp2_with (first
          | (go_at_call 25; with_reducible refine (Norm_at (o 2).1 (o 2).2 _).mono ?_; rintro e w6 ⟨ra, ka, rfl, rfl, hra⟩; have HRA := Aside0.mk hra; clear hra)
          | (go_at_call 25; with_reducible refine (Norm_at (o 1).1 (o 1).2 _).mono ?_; rintro e w6 ⟨rb, kb, rfl, rfl, hrb⟩; have hh : (FloatKind.f64.format.order ra rb == some .gt) = true := (gt_rd ra rb).trans (by rw [HRA.out, hrb]; exact G1.out); clear hrb))
        rw [rounds_succ]
        go_wp2_with (first
          | (go_at_call 25; with_reducible refine (Norm_at (o 3).1 (o 3).2 _).mono ?_; rintro e w6 ⟨rc, kc, rfl, rfl, hrc⟩; have HRC := Aside0.mk hrc; clear hrc)
          | (go_at_call 25; with_reducible refine (Norm_at (o 2).1 (o 2).2 _).mono ?_; rintro e w6 ⟨rd_, kd, rfl, rfl, hrd⟩; have hh2 : (FloatKind.f64.format.order rc rd_ == some .gt) = true := (gt_rd rc rd_).trans (by rw [HRC.out, hrd]; exact G2.out); clear hrd))
        rw [rounds_succ]
        go_wp2
        refine wp_gen (fun W => W.cell? ⟨w.heap.size, 2, none⟩ = some (.int .i64 a2) ∧ W.cell? ⟨w.heap.size, 3, none⟩ = some (.int .i64 a3) ∧ Below w.heap.size w W) ⟨hx2 _, hx3 _, by repeat (first | exact HB5.out | refine pw_below_drewN ?_ _ | refine below_alloc ?_ _)⟩ (fun W hW => ?_)
        obtain ⟨hy2, hy3, hyb⟩ := hW
        have HYB := Aside0.mk hyb
        clear hyb
        go_quiet (first | (go_at_call 23; refine (Size_is _ _).mono ?_; rintro e w2_ ⟨rfl, n_, rfl⟩; exact ⟨rfl, _, World.drewN_drewN _ _ _⟩))
        go_wp2
        go_ret2
        exact ⟨_, _, by rw [HBB.out]; rfl, FB.out, by repeat (first | exact HYB.out | refine pw_below_drewN ?_ _)⟩
    · have G2 := Aside0.mk g2
      have F2 : Aside0 (best2 (crd (o 2)) (crd (o 3)) = crd (o 2)) := ⟨by unfold best2; rw [g2]; rfl⟩
      clear g2
      have FB : Aside0 (crd ((o 2).1, (o 2).2) = beatC a0 a1 a2 a3) := ⟨by unfold beatC; rw [← E1.out, ← E2.out, ← E3.out, F1.out, F2.out]⟩
      obtain ⟨ZB, hZ⟩ : ∃ ZB, gtO (normC (crd ((o 2).1, (o 2).2))) (some 0) = ZB := ⟨_, rfl⟩
      have HZ := Aside0.mk hZ
      clear hZ
      by_cases hg : sz a2 < sz a3
      · have HBB : Aside0 (beatB a0 a1 a2 a3 = ZB) := ⟨by unfold beatB; rw [decide_eq_true hg, ← FB.out, HZ.out]; rfl⟩
        go_wp2
        refine wp_loop_rounds 3 ?_
        rw [rounds_succ]
        go_wp2_with (first
          | (go_at_call 25; with_reducible refine (Norm_at (o 2).1 (o 2).2 _).mono ?_; rintro e w6 ⟨ra, ka, rfl, rfl, hra⟩; have HRA := Aside0.mk hra; clear hra)
          | (go_at_call 25; with_reducible refine (Norm_at (o 1).1 (o 1).2 _).mono ?_; rintro e w6 ⟨rb, kb, rfl, rfl, hrb⟩; have hh : (FloatKind.f64.format.order ra rb == some .gt) = true := (gt_rd ra rb).trans (by rw [HRA.out, hrb]; exact G1.out); clear hrb))
        rw [rounds_succ]
        go_wp2_with (first
          | (go_at_call 25; with_reducible refine (Norm_at (o 3).1 (o 3).2 _).mono ?_; rintro e w6 ⟨rc, kc, rfl, rfl, hrc⟩; have HRC := Aside0.mk hrc; clear hrc)
          | (go_at_call 25; with_reducible refine (Norm_at (o 2).1 (o 2).2 _).mono ?_; rintro e w6 ⟨rd_, kd, rfl, rfl, hrd⟩; have hh2 : (FloatKind.f64.format.order rc rd_ == some .gt) = false := (gt_rd rc rd_).trans (by rw [HRC.out, hrd]; exact G2.out); clear hrd))
        rw [rounds_succ]
        go_wp2
        go_region_held3 (fun w' => w'.cell? ⟨w.heap.size, 2, none⟩ = some (.int .i64 a2) ∧ w'.cell? ⟨w.heap.size, 3, none⟩ = some (.int .i64 a3) ∧ Below w.heap.size w w') (exact ⟨hx2 _, hx3 _, by repeat (first | exact HB5.out | refine pw_below_drewN ?_ _ | refine below_drew1 ?_ | refine below_alloc ?_ _)⟩) (first
          | (go_at_call 23; refine (Size_is _ _).mono ?_; rintro e w7 ⟨rfl, k7, rfl⟩)
          | (go_at_call 25; refine (Norm_at (o 2).1 (o 2).2 _).mono ?_; rintro e w8 ⟨re, ke, rfl, rfl, hre⟩; have hz : (FloatKind.f64.format.order re 0 == some .gt) = ZB := (gt_rd re 0).trans (by rw [hre, rd_zero]; exact HZ.out); clear hre))
        all_goals
          go_wp2
          go_ret2
          exact ⟨_, _, by rw [HBB.out]; rfl, FB.out, by repeat (first | assumption | exact HB5.out | refine pw_below_drewN ?_ _ | refine below_drew1 ?_ | refine below_alloc ?_ _)⟩
      · have HBB : Aside0 (beatB a0 a1 a2 a3 = false) := ⟨by unfold beatB; rw [decide_eq_false hg, ← FB.out, HZ.out]; rfl⟩
        have hgd : decide (sz a2 < sz a3) = false := decide_eq_false hg
        clear hg
        go_wp2
        refine wp_loop_rounds 3 ?_
        rw [rounds_succ]
        go_wp2_with (first
          | (go_at_call 25; with_reducible refine (Norm_at (o 2).1 (o 2).2 _).mono ?_; rintro e w6 ⟨ra, ka, rfl, rfl, hra⟩; have HRA := Aside0.mk hra; clear hra)
          | (go_at_call 25; with_reducible refine (Norm_at (o 1).1 (o 1).2 _).mono ?_; rintro e w6 ⟨rb, kb, rfl, rfl, hrb⟩; have hh : (FloatKind.f64.format.order ra rb == some .gt) = true := (gt_rd ra rb).trans (by rw [HRA.out, hrb]; exact G1.out); clear hrb))
        rw [rounds_succ]
        go_wp2_with (first
          | (go_at_call 25; with_reducible refine (Norm_at (o 3).1 (o 3).2 _).mono ?_; rintro e w6 ⟨rc, kc, rfl, rfl, hrc⟩; have HRC := Aside0.mk hrc; clear hrc)
          | (go_at_call 25; with_reducible refine (Norm_at (o 2).1 (o 2).2 _).mono ?_; rintro e w6 ⟨rd_, kd, rfl, rfl, hrd⟩; have hh2 : (FloatKind.f64.format.order rc rd_ == some .gt) = false := (gt_rd rc rd_).trans (by rw [HRC.out, hrd]; exact G2.out); clear hrd))
        rw [rounds_succ]
        go_wp2
        refine wp_gen (fun W => W.cell? ⟨w.heap.size, 2, none⟩ = some (.int .i64 a2) ∧ W.cell? ⟨w.heap.size, 3, none⟩ = some (.int .i64 a3) ∧ Below w.heap.size w W) ⟨hx2 _, hx3 _, by repeat (first | exact HB5.out | refine pw_below_drewN ?_ _ | refine below_alloc ?_ _)⟩ (fun W hW => ?_)
        obtain ⟨hy2, hy3, hyb⟩ := hW
        have HYB := Aside0.mk hyb
        clear hyb
        go_quiet (first | (go_at_call 23; refine (Size_is _ _).mono ?_; rintro e w2_ ⟨rfl, n_, rfl⟩; exact ⟨rfl, _, World.drewN_drewN _ _ _⟩))
        go_wp2
        go_ret2
        exact ⟨_, _, by rw [HBB.out]; rfl, FB.out, by repeat (first | exact HYB.out | refine pw_below_drewN ?_ _)⟩
  · have G1 := Aside0.mk g1
    have F1 : Aside0 (best2 (crd (o 1)) (crd (o 2)) = crd (o 1)) := ⟨by unfold best2; rw [g1]; rfl⟩
    clear g1
    rcases Bool.eq_false_or_eq_true (gtO (normC (crd (o 3))) (normC (crd (o 1)))) with g2 | g2
    · have G2 := Aside0.mk g2
      have F2 : Aside0 (best2 (crd (o 1)) (crd (o 3)) = crd (o 3)) := ⟨by unfold best2; rw [g2]; rfl⟩
      clear g2
      have FB : Aside0 (crd ((o 3).1, (o 3).2) = beatC a0 a1 a2 a3) := ⟨by unfold beatC; rw [← E1.out, ← E2.out, ← E3.out, F1.out, F2.out]⟩
      obtain ⟨ZB, hZ⟩ : ∃ ZB, gtO (normC (crd ((o 3).1, (o 3).2))) (some 0) = ZB := ⟨_, rfl⟩
      have HZ := Aside0.mk hZ
      clear hZ
      by_cases hg : sz a2 < sz a3
      · have HBB : Aside0 (beatB a0 a1 a2 a3 = ZB) := ⟨by unfold beatB; rw [decide_eq_true hg, ← FB.out, HZ.out]; rfl⟩
        go_wp2
        refine wp_loop_rounds 3 ?_
        rw [rounds_succ]
        go_wp2_with (first
          | (go_at_call 25; with_reducible refine (Norm_at (o 2).1 (o 2).2 _).mono ?_; rintro e w6 ⟨ra, ka, rfl, rfl, hra⟩; have HRA := Aside0.mk hra; clear hra)
          | (go_at_call 25; with_reducible refine (Norm_at (o 1).1 (o 1).2 _).mono ?_; rintro e w6 ⟨rb, kb, rfl, rfl, hrb⟩; have hh : (FloatKind.f64.format.order ra rb == some .gt) = false := (gt_rd ra rb).trans (by rw [HRA.out, hrb]; exact G1.out); clear hrb))
        rw [rounds_succ]
        go_wp2_with (first
          | (go_at_call 25; with_reducible refine (Norm_at (o 3).1 (o 3).2 _).mono ?_; rintro e w6 ⟨rc, kc, rfl, rfl, hrc⟩; have HRC := Aside0.mk hrc; clear hrc)
          | (go_at_call 25; with_reducible refine (Norm_at (o 1).1 (o 1).2 _).mono ?_; rintro e w6 ⟨rd_, kd, rfl, rfl, hrd⟩; have hh2 : (FloatKind.f64.format.order rc rd_ == some .gt) = true := (gt_rd rc rd_).trans (by rw [HRC.out, hrd]; exact G2.out); clear hrd))
        rw [rounds_succ]
        go_wp2
        go_region_held3 (fun w' => w'.cell? ⟨w.heap.size, 2, none⟩ = some (.int .i64 a2) ∧ w'.cell? ⟨w.heap.size, 3, none⟩ = some (.int .i64 a3) ∧ Below w.heap.size w w') (exact ⟨hx2 _, hx3 _, by repeat (first | exact HB5.out | refine pw_below_drewN ?_ _ | refine below_drew1 ?_ | refine below_alloc ?_ _)⟩) (first
          | (go_at_call 23; refine (Size_is _ _).mono ?_; rintro e w7 ⟨rfl, k7, rfl⟩)
          | (go_at_call 25; refine (Norm_at (o 3).1 (o 3).2 _).mono ?_; rintro e w8 ⟨re, ke, rfl, rfl, hre⟩; have hz : (FloatKind.f64.format.order re 0 == some .gt) = ZB := (gt_rd re 0).trans (by rw [hre, rd_zero]; exact HZ.out); clear hre))
        all_goals
          go_wp2
          go_ret2
          exact ⟨_, _, by rw [HBB.out]; rfl, FB.out, by repeat (first | assumption | exact HB5.out | refine pw_below_drewN ?_ _ | refine below_drew1 ?_ | refine below_alloc ?_ _)⟩
      · have HBB : Aside0 (beatB a0 a1 a2 a3 = false) := ⟨by unfold beatB; rw [decide_eq_false hg, ← FB.out, HZ.out]; rfl⟩
        have hgd : decide (sz a2 < sz a3) = false := decide_eq_false hg
        clear hg
        go_wp2
        refine wp_loop_rounds 3 ?_
        rw [rounds_succ]
        go_wp2_with (first
          | (go_at_call 25; with_reducible refine (Norm_at (o 2).1 (o 2).2 _).mono ?_; rintro e w6 ⟨ra, ka, rfl, rfl, hra⟩; have HRA := Aside0.mk hra; clear hra)
          | (go_at_call 25; with_reducible refine (Norm_at (o 1).1 (o 1).2 _).mono ?_; rintro e w6 ⟨rb, kb, rfl, rfl, hrb⟩; have hh : (FloatKind.f64.format.order ra rb == some .gt) = false := (gt_rd ra rb).trans (by rw [HRA.out, hrb]; exact G1.out); clear hrb))
        rw [rounds_succ]
        go_wp2_with (first
          | (go_at_call 25; with_reducible refine (Norm_at (o 3).1 (o 3).2 _).mono ?_; rintro e w6 ⟨rc, kc, rfl, rfl, hrc⟩; have HRC := Aside0.mk hrc; clear hrc)
          | (go_at_call 25; with_reducible refine (Norm_at (o 1).1 (o 1).2 _).mono ?_; rintro e w6 ⟨rd_, kd, rfl, rfl, hrd⟩; have hh2 : (FloatKind.f64.format.order rc rd_ == some .gt) = true := (gt_rd rc rd_).trans (by rw [HRC.out, hrd]; exact G2.out); clear hrd))
        rw [rounds_succ]
        go_wp2
        refine wp_gen (fun W => W.cell? ⟨w.heap.size, 2, none⟩ = some (.int .i64 a2) ∧ W.cell? ⟨w.heap.size, 3, none⟩ = some (.int .i64 a3) ∧ Below w.heap.size w W) ⟨hx2 _, hx3 _, by repeat (first | exact HB5.out | refine pw_below_drewN ?_ _ | refine below_alloc ?_ _)⟩ (fun W hW => ?_)
        obtain ⟨hy2, hy3, hyb⟩ := hW
        have HYB := Aside0.mk hyb
        clear hyb
        go_quiet (first | (go_at_call 23; refine (Size_is _ _).mono ?_; rintro e w2_ ⟨rfl, n_, rfl⟩; exact ⟨rfl, _, World.drewN_drewN _ _ _⟩))
        go_wp2
        go_ret2
        exact ⟨_, _, by rw [HBB.out]; rfl, FB.out, by repeat (first | exact HYB.out | refine pw_below_drewN ?_ _)⟩
    · have G2 := Aside0.mk g2
      have F2 : Aside0 (best2 (crd (o 1)) (crd (o 3)) = crd (o 1)) := ⟨by unfold best2; rw [g2]; rfl⟩
      clear g2
      have FB : Aside0 (crd ((o 1).1, (o 1).2) = beatC a0 a1 a2 a3) := ⟨by unfold beatC; rw [← E1.out, ← E2.out, ← E3.out, F1.out, F2.out]⟩
      obtain ⟨ZB, hZ⟩ : ∃ ZB, gtO (normC (crd ((o 1).1, (o 1).2))) (some 0) = ZB := ⟨_, rfl⟩
      have HZ := Aside0.mk hZ
      clear hZ
      by_cases hg : sz a2 < sz a3
      · have HBB : Aside0 (beatB a0 a1 a2 a3 = ZB) := ⟨by unfold beatB; rw [decide_eq_true hg, ← FB.out, HZ.out]; rfl⟩
        go_wp2
        refine wp_loop_rounds 3 ?_
        rw [rounds_succ]
        go_wp2_with (first
          | (go_at_call 25; with_reducible refine (Norm_at (o 2).1 (o 2).2 _).mono ?_; rintro e w6 ⟨ra, ka, rfl, rfl, hra⟩; have HRA := Aside0.mk hra; clear hra)
          | (go_at_call 25; with_reducible refine (Norm_at (o 1).1 (o 1).2 _).mono ?_; rintro e w6 ⟨rb, kb, rfl, rfl, hrb⟩; have hh : (FloatKind.f64.format.order ra rb == some .gt) = false := (gt_rd ra rb).trans (by rw [HRA.out, hrb]; exact G1.out); clear hrb))
        rw [rounds_succ]
        go_wp2_with (first
          | (go_at_call 25; with_reducible refine (Norm_at (o 3).1 (o 3).2 _).mono ?_; rintro e w6 ⟨rc, kc, rfl, rfl, hrc⟩; have HRC := Aside0.mk hrc; clear hrc)
          | (go_at_call 25; with_reducible refine (Norm_at (o 1).1 (o 1).2 _).mono ?_; rintro e w6 ⟨rd_, kd, rfl, rfl, hrd⟩; have hh2 : (FloatKind.f64.format.order rc rd_ == some .gt) = false := (gt_rd rc rd_).trans (by rw [HRC.out, hrd]; exact G2.out); clear hrd))
        rw [rounds_succ]
        go_wp2
        go_region_held3 (fun w' => w'.cell? ⟨w.heap.size, 2, none⟩ = some (.int .i64 a2) ∧ w'.cell? ⟨w.heap.size, 3, none⟩ = some (.int .i64 a3) ∧ Below w.heap.size w w') (exact ⟨hx2 _, hx3 _, by repeat (first | exact HB5.out | refine pw_below_drewN ?_ _ | refine below_drew1 ?_ | refine below_alloc ?_ _)⟩) (first
          | (go_at_call 23; refine (Size_is _ _).mono ?_; rintro e w7 ⟨rfl, k7, rfl⟩)
          | (go_at_call 25; refine (Norm_at (o 1).1 (o 1).2 _).mono ?_; rintro e w8 ⟨re, ke, rfl, rfl, hre⟩; have hz : (FloatKind.f64.format.order re 0 == some .gt) = ZB := (gt_rd re 0).trans (by rw [hre, rd_zero]; exact HZ.out); clear hre))
        all_goals
          go_wp2
          go_ret2
          exact ⟨_, _, by rw [HBB.out]; rfl, FB.out, by repeat (first | assumption | exact HB5.out | refine pw_below_drewN ?_ _ | refine below_drew1 ?_ | refine below_alloc ?_ _)⟩
      · have HBB : Aside0 (beatB a0 a1 a2 a3 = false) := ⟨by unfold beatB; rw [decide_eq_false hg, ← FB.out, HZ.out]; rfl⟩
        have hgd : decide (sz a2 < sz a3) = false := decide_eq_false hg
        clear hg
        go_wp2
        refine wp_loop_rounds 3 ?_
        rw [rounds_succ]
        go_wp2_with (first
          | (go_at_call 25; with_reducible refine (Norm_at (o 2).1 (o 2).2 _).mono ?_; rintro e w6 ⟨ra, ka, rfl, rfl, hra⟩; have HRA := Aside0.mk hra; clear hra)
          | (go_at_call 25; with_reducible refine (Norm_at (o 1).1 (o 1).2 _).mono ?_; rintro e w6 ⟨rb, kb, rfl, rfl, hrb⟩; have hh : (FloatKind.f64.format.order ra rb == some .gt) = false := (gt_rd ra rb).trans (by rw [HRA.out, hrb]; exact G1.out); clear hrb))
        rw [rounds_succ]
        go_wp2_with (first
          | (go_at_call 25; with_reducible refine (Norm_at (o 3).1 (o 3).2 _).mono ?_; rintro e w6 ⟨rc, kc, rfl, rfl, hrc⟩; have HRC := Aside0.mk hrc; clear hrc)
          | (go_at_call 25; with_reducible refine (Norm_at (o 1).1 (o 1).2 _).mono ?_; rintro e w6 ⟨rd_, kd, rfl, rfl, hrd⟩; have hh2 : (FloatKind.f64.format.order rc rd_ == some .gt) = false := (gt_rd rc rd_).trans (by rw [HRC.out, hrd]; exact G2.out); clear hrd))
        rw [rounds_succ]
        go_wp2
        refine wp_gen (fun W => W.cell? ⟨w.heap.size, 2, none⟩ = some (.int .i64 a2) ∧ W.cell? ⟨w.heap.size, 3, none⟩ = some (.int .i64 a3) ∧ Below w.heap.size w W) ⟨hx2 _, hx3 _, by repeat (first | exact HB5.out | refine pw_below_drewN ?_ _ | refine below_alloc ?_ _)⟩ (fun W hW => ?_)
        obtain ⟨hy2, hy3, hyb⟩ := hW
        have HYB := Aside0.mk hyb
        clear hyb
        go_quiet (first | (go_at_call 23; refine (Size_is _ _).mono ?_; rintro e w2_ ⟨rfl, n_, rfl⟩; exact ⟨rfl, _, World.drewN_drewN _ _ _⟩))
        go_wp2
        go_ret2
        exact ⟨_, _, by rw [HBB.out]; rfl, FB.out, by repeat (first | exact HYB.out | refine pw_below_drewN ?_ _)⟩
end Go.Proofs.Ytbkamlkmimfomaa
