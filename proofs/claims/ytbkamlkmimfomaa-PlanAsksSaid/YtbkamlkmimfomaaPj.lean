/-
  What the document says of a few: told.
  Conditions: none.
-/
import Derived.Test.YtbkamlkmimfomaaPi
namespace Go.Proofs.Ytbkamlkmimfomaa
open Go.RowKit Go.Proofs.YtbkamlkmimfomaaW.PrintWords Go.Proofs.YtbkamlkmimfomaaW.PrintLast Go.Proofs.YtbkamlkmimfomaaFl Go.Proofs.YtbkamlkmimfomaaG Go.Proofs.YtbkamlkmimfomaaIv Go.Proofs.Ytbkamlkmimfomaa.PGa
set_option linter.unusedVariables false
set_option linter.unusedSimpArgs false

theorem tb2 : (beatC 0 0 0 8).2 = some 4620693217682128896 := by kernel_rfl
theorem tb1 : (beatC 0 0 0 8).1 = some 0 := by kernel_rfl
theorem tb3 : beatB 0 0 0 8 = true := by kernel_rfl
theorem tb4 : beatB 8 8 8 8 = false := by kernel_rfl
abbrev tA : List S46 := [⟨1, 0⟩, ⟨1073741824, 1⟩]
theorem tm1 : mayT 1 tA [0, 1] = true := by decide +kernel
theorem tm2 : leanZ [3, 5] tA = (3, 5) := by decide +kernel
theorem tm3 : hotP 1 tA [0, 1] [3, 5] = 1 := by decide +kernel
theorem tm4 : coldP 1 tA [0, 1] [3, 5] 2 = 0 := by decide +kernel
theorem tm5 : hotP 1 tA [0, 1] [] = 0 := by decide +kernel
theorem tm6 : hotP 0 [] [] [] = -1 := by decide +kernel
theorem tm7 : coldP 1 tA [0, 1] [] 0 = -1 := by decide +kernel
theorem iv_3 : IV 4613937818241073152 3 := by
  have h := iv_of_int 3 (by decide)
  have e : floatOfInt .f64 3 = 4613937818241073152 := by kernel_rfl
  rw [e] at h
  exact h
theorem iv_5 : IV 4617315517961601024 5 := by
  have h := iv_of_int 5 (by decide)
  have e : floatOfInt .f64 5 = 4617315517961601024 := by kernel_rfl
  rw [e] at h
  exact h

theorem lit_C (W : World) : Kd.C (Kd.int .i64) (W.alloc (.cells #[.int .i64 3, .int .i64 5] 3)) (some ⟨W.heap.size, 0, none⟩) 2 [3, 5] := by
  have h : Kd.R (Kd.int .i64) 3 (W.alloc (.cells #[.int .i64 3, .int .i64 5] 3)) W.heap.size (fun _ => True) (.slice (some ⟨W.heap.size, 0, none⟩) 2 2) [3, 5] := ⟨fun _ _ => trivial, OwnRow.lit W W.heap.size (ps := [3, 5]) (inner := [.int .i64 3, .int .i64 5]) (Reps.snoc (ps := [3]) (cs := [.int .i64 3]) (Reps.snoc (ps := []) (cs := []) (Reps.none _ _) rfl rfl) rfl rfl) (Nat.le_refl _) (by decide)⟩
  obtain ⟨A, c, e, -, hC⟩ := Kd.R_reads h
  injection e with e1 e2 e3
  rw [e1]
  exact hC

section
variable (A1 : Option Addr) (c1 : Nat) (A2 : Option Addr) (c2 : Nat) (A3 : Option Addr) (c3 : Nat) (w : World) (h1 : Kd.C k46 w A1 2 tA) (k1 : 2 ≤ c1) (h2 : Kd.C (Kd.int .i64) w A2 2 [0, 1]) (k2 : 2 ≤ c2) (h3 : Kd.C (Kd.int .i64) w A3 2 [3, 5]) (k3 : 2 ≤ c3)
include h1 k1 h2 k2
theorem Hot_n : Calls Try.prog 13 #[.agg #[.int .i64 1, .slice A1 2 c1, .slice A2 2 c2], .slice none 0 0] w fun e w' => e = .returned (.int .i64 0) ∧ Below w.heap.size w w' := by
  have h := Hot_is 1 A1 c1 tA A2 c2 [0, 1] none 0 [] w h1 k1 h2 k2 (Kd.C_nil _ _) (Nat.le_refl _)
  rw [tm5] at h
  exact h
theorem Cold_n : Calls Try.prog 15 #[.agg #[.int .i64 1, .slice A1 2 c1, .slice A2 2 c2], .slice none 0 0, .int .i64 0] w fun e w' => e = .returned (.int .i64 (-1)) ∧ Below w.heap.size w w' := by
  have h := Cold_is 1 A1 c1 tA A2 c2 [0, 1] none 0 [] 0 w h1 k1 h2 k2 (Kd.C_nil _ _) (Nat.le_refl _)
  rw [tm7] at h
  exact h
include h3 k3
theorem Lean_t : Calls Try.prog 11 #[.agg #[.int .i64 1, .slice A1 2 c1, .slice A2 2 c2], .slice A3 2 c3] w fun e w' => ∃ r i, e = .returned (.complex .f64 r i) ∧ ((FloatKind.f64.format.order r 4613937818241073152 == some .eq) = true ∧ (FloatKind.f64.format.order i 4617315517961601024 == some .eq) = true) ∧ Below w.heap.size w w' := by
  have h := Lean_is 1 A1 c1 tA A2 c2 [0, 1] A3 c3 [3, 5] w h1 k1 h2 k2 h3 k3
  refine h.mono ?_
  rintro e w' ⟨r, i, rfl, hc, hb⟩
  have hi := (leanC_is (loads := [3, 5]) tm1).1
  rw [tm2, ← hc] at hi
  exact ⟨r, i, rfl, ⟨eq_iv (io_rd hi.1) iv_3, eq_iv (io_rd hi.2) iv_5⟩, hb⟩
theorem Hot_t : Calls Try.prog 13 #[.agg #[.int .i64 1, .slice A1 2 c1, .slice A2 2 c2], .slice A3 2 c3] w fun e w' => e = .returned (.int .i64 1) ∧ Below w.heap.size w w' := by
  have h := Hot_is 1 A1 c1 tA A2 c2 [0, 1] A3 c3 [3, 5] w h1 k1 h2 k2 h3 k3
  rw [tm3] at h
  exact h
theorem Cold_t : Calls Try.prog 15 #[.agg #[.int .i64 1, .slice A1 2 c1, .slice A2 2 c2], .slice A3 2 c3, .int .i64 2] w fun e w' => e = .returned (.int .i64 0) ∧ Below w.heap.size w w' := by
  have h := Cold_is 1 A1 c1 tA A2 c2 [0, 1] A3 c3 [3, 5] 2 w h1 k1 h2 k2 h3 k3
  rw [tm4] at h
  exact h
end
theorem Hot_z (w : World) : Calls Try.prog 13 #[.agg #[.int .i64 0, .slice none 0 0, .slice none 0 0], .slice none 0 0] w fun e w' => e = .returned (.int .i64 (-1)) ∧ Below w.heap.size w w' := by
  have h := Hot_is 0 none 0 [] none 0 [] none 0 [] w (Kd.C_nil _ _) (Nat.le_refl _) (Kd.C_nil _ _) (Nat.le_refl _) (Kd.C_nil _ _) (Nat.le_refl _)
  rw [tm6] at h
  exact h
set_option maxHeartbeats 8000000 in
set_option maxRecDepth 100000 in
theorem told_is (w : World) : Calls Try.prog 7 #[] w fun e w' => e = .returned (.bool true) ∧ Below w.heap.size w w' := by
  have hu := Try.underlying25
  have hu46 := Try.underlying46
  go_enter Try.func7, Try.ntmps7
  go_wp2_with (first
    | ((with_reducible refine gate_dst (N := 8) rfl ?_); refine Kd.R_lit k46 _ 46 ?hg (N := 8) ?hd (xs := tA) (inner := [.int .u32 1, .int .i64 0, .int .u32 1073741824, .int .i64 1]) (ok := fun _ => True) (okp := fun _ => True) ?hr ?hp (fun _ hk => hk) trivial (Below.refl _ _) (Nat.le_refl _) (by simp) ?_; (case hd => rfl); (case hg => rfl); (case hr => first | (go_simp; done) | (go_simp; rfl)); (case hp => exact Reps.snoc (ps := [⟨1, 0⟩]) (cs := [.int .u32 1, .int .i64 0]) (Reps.snoc (ps := []) (cs := []) (Reps.none _ _) (k46_mkM _ _ _ ⟨1, 0⟩) rfl) (k46_mkM _ _ _ ⟨1073741824, 1⟩) rfl); intro v1 w1 ho hb hg_ hnew_; clear hg_ hnew_; obtain ⟨A1, c1, rfl, hc1, hC1⟩ := Kd.R_reads ho; have HC1 := Aside0.mk hC1; have HK1 := Aside0.mk (show 2 ≤ c1 from hc1); have HB1 := Aside0.mk hb; clear ho hb hc1 hC1)
    | ((with_reducible refine gate_dst (N := 9) rfl ?_); refine Kd.R_lit (Kd.int .i64) _ 3 ?hg (N := 9) ?hd (xs := [0, 1]) (inner := [.int .i64 0, .int .i64 1]) (ok := fun _ => True) (okp := fun _ => True) ?hr ?hp (fun _ hk => hk) trivial (Below.refl _ _) (Nat.le_refl _) (by simp) ?_; (case hd => rfl); (case hg => rfl); (case hr => first | (go_simp; done) | (go_simp; rfl)); (case hp => exact Reps.snoc (ps := [0]) (cs := [.int .i64 0]) (Reps.snoc (ps := []) (cs := []) (Reps.none _ _) rfl rfl) rfl rfl); intro v2 w2 ho hb hg_ hnew_; clear hg_ hnew_; obtain ⟨A2, c2, rfl, hc2, hC2⟩ := Kd.R_reads ho; have HC2 := Aside0.mk hC2; have HK2 := Aside0.mk (show 2 ≤ c2 from hc2); have HB2 := Aside0.mk (thn5 HB1.out hb); have HC1b := Aside0.mk (Kd.C_below HC1.out hb); clear ho hb hc2 hC2)
    | ((with_reducible refine gate_dst (N := 1) rfl ?_); refine box_event ?hg (N := 1) ?hd (cs := #[.int .i64 0, .slice none 0 0, .slice none 0 0]) (t := 25) ?hr ?_; (case hd => rfl); (case hg => rfl); (case hr => first | (go_simp; done) | (go_simp; rfl)); intro g1 hg w3 hbox hb; have HB3 := Aside0.mk (thn5 HB2.out hb); have HX3 := Aside0.mk hbox; have HG1 : Aside0 (w2.heap.size ≤ g1 ∧ w.heap.size ≤ g1) := ⟨by rw [hg]; exact ⟨Nat.le_refl _, HB2.out.size⟩⟩; have HB32 := Aside0.mk hb; have z0 : w3.cell? ⟨g1, 0, none⟩ = some (.int .i64 0) := (blk_cell hbox 0).trans rfl; have z1 : w3.cell? ⟨g1, 1, none⟩ = some (.slice none 0 0) := (blk_cell hbox 1).trans rfl; have z2 : w3.cell? ⟨g1, 2, none⟩ = some (.slice none 0 0) := (blk_cell hbox 2).trans rfl; have f0 := blk_frozen hbox 0; have f1 := blk_frozen hbox 1; have f2 := blk_frozen hbox 2; clear hb hbox hg)
    | (go_at_call 8; refine halt_here ?_))
  refine Hid2.mk ?_
  refine calls_gen (fun W => W.heap[g1]? = some (.cells #[.int .i64 1, .slice A1 2 c1, .slice A2 2 c2] 25 (0, 0)) ∧ Below w.heap.size w W ∧ Kd.C k46 W A1 2 tA ∧ Kd.C (Kd.int .i64) W A2 2 [0, 1]) ?gen0 ?gen1
  case gen0 =>
    have hb : Below w2.heap.size w2 (((w3.setCell ⟨g1, 0, none⟩ (Value.int .i64 1)).setCell ⟨g1, 1, none⟩ (Value.slice A1 2 c1)).setCell ⟨g1, 2, none⟩ (Value.slice A2 2 c2)) := below_set (below_set (below_set HB32.out HG1.out.1) HG1.out.1) HG1.out.1
    exact ⟨blk_put (blk_put (blk_put HX3.out 0 _ rfl) 1 _ rfl) 2 _ rfl, thn5 HB2.out hb, Kd.C_below HC1b.out hb, Kd.C_below HC2.out hb⟩
  case gen1 =>
  intro W hW
  have BKW := Aside0.mk hW.1
  have HBW := Aside0.mk hW.2.1
  have HCW := Aside0.mk hW.2.2.1
  have HDW := Aside0.mk hW.2.2.2
  clear hW HX3 HB3 HB32 HG1 HB1 HB2 HC1 HC1b HC2 z0 z1 z2 f0 f1 f2
  have h0 : W.cell? ⟨g1, 0, none⟩ = some (.int .i64 1) := (blk_cell BKW.out 0).trans rfl
  have h1 : W.cell? ⟨g1, 1, none⟩ = some (.slice A1 2 c1) := (blk_cell BKW.out 1).trans rfl
  have h2 : W.cell? ⟨g1, 2, none⟩ = some (.slice A2 2 c2) := (blk_cell BKW.out 2).trans rfl
  have HH := Aside0.mk (fun (w' : World) (hb : Below W.heap.size W w') => cells3 h0 h1 h2 hb)
  clear h0 h1 h2
  refine (Beat_is 0 0 0 8 W).mono ?_
  rintro e wa ⟨ra, ia, rfl, hc, hb⟩
  have e1 : rd ra = some 0 := (congrArg Prod.fst hc).trans tb1
  have e2 : rd ia = some 4620693217682128896 := (congrArg Prod.snd hc).trans tb2
  obtain rfl := rd_some e1
  obtain rfl := rd_some e2
  rw [tb3]
  have HBa := Aside0.mk hb
  clear hc e1 e2 hb
  have o1 : (FloatKind.f64.format.order 0 0 == some .eq) = true := by kernel_rfl
  have o2 : (FloatKind.f64.format.order 4620693217682128896 4620693217682128896 == some .eq) = true := by kernel_rfl
  go_wp2_with (first
    | (go_at_call 8; with_reducible refine (Beat_is 8 8 8 8 _).mono ?_; rintro e wb ⟨rb, ib, rfl, -, hb⟩; rw [tb4]; have HBb := Aside0.mk (thn5 HBa.out hb); clear hb; obtain ⟨y0, y1, y2⟩ := HH.out wb HBb.out)
    | ((with_reducible refine gate_dst (N := 22) rfl ?_); refine Kd.R_lit (Kd.int .i64) _ 3 ?hg (N := 22) ?hd (xs := [3, 5]) (inner := [.int .i64 3, .int .i64 5]) (ok := fun _ => True) (okp := fun _ => True) ?hr ?hp (fun _ hk => hk) trivial (Below.refl _ _) (Nat.le_refl _) (by simp) ?_; (case hd => rfl); (case hg => rfl); (case hr => first | (go_simp; done) | (go_simp; rfl)); (case hp => exact Reps.snoc (ps := [3]) (cs := [.int .i64 3]) (Reps.snoc (ps := []) (cs := []) (Reps.none _ _) rfl rfl) rfl rfl); intro v_ wc ho hb hg_ hnew_; clear hg_ hnew_; obtain ⟨A3, c3, rfl, hc_, hC_⟩ := Kd.R_reads ho; have HC3 := Aside0.mk (show Kd.C (Kd.int .i64) wc A3 2 [3, 5] from hC_); have HK3 := Aside0.mk (show 2 ≤ c3 from hc_); have HBc := Aside0.mk (thn5 HBb.out hb); clear ho hb hc_ hC_ y0 y1 y2; obtain ⟨y0, y1, y2⟩ := HH.out wc HBc.out)
    | (go_at_call 11; with_reducible refine (Lean_t A1 c1 A2 c2 A3 c3 _ (Kd.C_below HCW.out HBc.out) HK1.out (Kd.C_below HDW.out HBc.out) HK2.out HC3.out HK3.out).mono ?_; rintro e wd ⟨rl, il, rfl, ⟨l1, l2⟩, hb⟩; have HBd := Aside0.mk (thn5 HBc.out hb); clear hb y0 y1 y2; obtain ⟨y0, y1, y2⟩ := HH.out wd HBd.out)
    | (go_at_call 13; with_reducible refine (Hot_t A1 c1 A2 c2 _ _ _ (Kd.C_alloc (Kd.C_below HCW.out HBd.out) _) HK1.out (Kd.C_alloc (Kd.C_below HDW.out HBd.out) _) HK2.out (lit_C _) (Nat.le_refl _)).mono ?_; rintro e wf ⟨rfl, hb⟩; have HBf := Aside0.mk (thn5 (below_alloc HBd.out _) hb); clear hb y0 y1 y2; obtain ⟨y0, y1, y2⟩ := HH.out wf HBf.out)
    | (go_at_call 15; with_reducible refine (Cold_t A1 c1 A2 c2 _ _ _ (Kd.C_alloc (Kd.C_below HCW.out HBf.out) _) HK1.out (Kd.C_alloc (Kd.C_below HDW.out HBf.out) _) HK2.out (lit_C _) (Nat.le_refl _)).mono ?_; rintro e wh ⟨rfl, hb⟩; have HBh := Aside0.mk (thn5 (below_alloc HBf.out _) hb); clear hb y0 y1 y2; obtain ⟨y0, y1, y2⟩ := HH.out wh HBh.out)
    | (go_at_call 13; with_reducible refine (Hot_n A1 c1 A2 c2 _ (Kd.C_below HCW.out HBh.out) HK1.out (Kd.C_below HDW.out HBh.out) HK2.out).mono ?_; rintro e wi ⟨rfl, hb⟩; have HBi := Aside0.mk (thn5 HBh.out hb); clear hb y0 y1 y2; obtain ⟨y0, y1, y2⟩ := HH.out wi HBi.out)
    | (go_at_call 13; with_reducible refine (Hot_z _).mono ?_; rintro e wj ⟨rfl, hb⟩; have HBj := Aside0.mk (thn5 HBi.out hb); clear hb y0 y1 y2; obtain ⟨y0, y1, y2⟩ := HH.out wj HBj.out)
    | (go_at_call 15; with_reducible refine (Cold_n A1 c1 A2 c2 _ (Kd.C_below HCW.out HBj.out) HK1.out (Kd.C_below HDW.out HBj.out) HK2.out).mono ?_; rintro e wk ⟨rfl, hb⟩; have HBk := Aside0.mk (thn5 HBj.out hb); clear hb y0 y1 y2; obtain ⟨y0, y1, y2⟩ := HH.out wk HBk.out))
  go_ret
  exact ⟨rfl, thn5 HBW.out HBk.out⟩
end Go.Proofs.Ytbkamlkmimfomaa
