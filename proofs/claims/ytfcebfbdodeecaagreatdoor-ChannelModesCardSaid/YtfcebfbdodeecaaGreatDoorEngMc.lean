/-
  ChannelModes: for every row of numbers the law's call returns true.
  Conditions: none.
-/
import Derived.Test.YtfcebfbdodeecaaGreatDoorEngMb
namespace Go.Eng
open Go Go.Lib Go.RowKit
set_option linter.unusedVariables false
set_option maxRecDepth 20000
section
noncomputable def opsOf (c : Code) : Array Oper := match c with | .region _ ops _ => ops | _ => #[]
noncomputable def o9 : Array Oper := opsOf q3h
theorem q3h_eq : q3h = .region 9 o9 false := by kernel_rfl
noncomputable def l9a : List Oper := o9.toList.take 4
noncomputable def l9b : List Oper := (o9.toList.drop 4).take 3
noncomputable def l9c : List Oper := o9.toList.drop 7
theorem o9_cut : o9.toList = l9a ++ (l9b ++ (l9c ++ [])) := by kernel_rfl
theorem q3k_eq : q3k = .cond (.tmp 31) .skip (.exit 0) := by kernel_rfl
variable (j : Nat) (cf tx : Bool) (l c : Nat) (x : Nat → Value) (b b' : Bool)
noncomputable def h1 : OpsR := opsB p16 K17 o9.toList l9a ((mC (j : Int) cf tx l c).fr 111 x) (mC (j : Int) cf tx l c).h
noncomputable def h2 : OpsR := opsB p16 K17 o9.toList l9b (putD (fO (h1 j cf tx l c x)) (some 27) (.bool b)) (hO (h1 j cf tx l c x))
noncomputable def h3 : OpsR := opsB p16 K17 o9.toList l9c (putD (fO (h2 j cf tx l c x true)) (some 30) (.bool b)) (hO (h2 j cf tx l c x true))
noncomputable def h4 : OpsR := opsB p16 K17 o9.toList l9c (fO (h2 j cf tx l c x false)) (hO (h2 j cf tx l c x false))
theorem h1_ok : okO1 (h1 j cf tx l c x) = true := by kernel_rfl
theorem h1_27 : slot (fO (h1 j cf tx l c x)) 27 = .bool (decide ((j : Int) < (l : Int))) := by kernel_rfl
theorem h2t_ok : okO1 (h2 j cf tx l c x true) = true := by kernel_rfl
theorem h2f_ok : okO1 (h2 j cf tx l c x false) = true := by kernel_rfl
theorem h2_30 : slot (fO (h2 j cf tx l c x true)) 30 = .bool (decide ((j : Int) < 20)) := by kernel_rfl
theorem h3t_ok : okO1 (h3 j cf tx l c x true) = true := by kernel_rfl
theorem h3f_ok : okO1 (h3 j cf tx l c x false) = true := by kernel_rfl
theorem h4_ok : okO1 (h4 j cf tx l c x) = true := by kernel_rfl
theorem h3t_seen : seen [0, 3, 6, 7, 8, 31] [0, 1] (fO (h3 j cf tx l c x true)) (hO (h3 j cf tx l c x true)) = (mP (j : Int) cf tx true l c).view 111 [0, 1] := by kernel_rfl
theorem h3f_seen : seen [0, 3, 6, 7, 8, 31] [0, 1] (fO (h3 j cf tx l c x false)) (hO (h3 j cf tx l c x false)) = (mP (j : Int) cf tx false l c).view 111 [0, 1] := by kernel_rfl
theorem h4_seen : seen [0, 3, 6, 7, 8, 31] [0, 1] (fO (h4 j cf tx l c x)) (hO (h4 j cf tx l c x)) = (mP (j : Int) cf tx false l c).view 111 [0, 1] := by kernel_rfl
variable {j cf tx l c x}
variable {N : Nat → Prop} {r : Rn} {a : Act} {w : World} {Q : Exit → Act → World → Prop}
theorem head (hI : Inv p16 N r (mC (j : Int) cf tx l c).h w) (hF : AF r ((mC (j : Int) cf tx l c).fr 111 x) a)
    (hq : ∀ s x' c' w', Inv p16 N s (mP (j : Int) cf tx (decide ((j : Int) < (l : Int)) && decide ((j : Int) < 20)) l c).h w' → AF s ((mP (j : Int) cf tx (decide ((j : Int) < (l : Int)) && decide ((j : Int) < 20)) l c).fr 111 x') c' → (∀ p, r (2 ^ hd) = some p → s (2 ^ hd) = some p) → Bel N w w' → Q .normal c' w') : q3h.wp p16 Q a w := by
  rw [q3h_eq]
  refine wp_region_list ?_
  rw [o9_cut]
  refine part_fast kS (h1_ok j cf tx l c x) hI hF fun s1 c1 w1 g1 f1 i1 e1 => ?_
  cases hb : decide ((j : Int) < (l : Int)) with
  | true =>
    have f1' := f1.name (h1_27 j cf tx l c x) (congrArg Value.bool hb)
    refine part_fast kS (h2t_ok j cf tx l c x) i1 f1' fun s2 c2 w2 g2 f2 i2 e2 => ?_
    cases hc : decide ((j : Int) < 20) with
    | true =>
      have f2' := f2.name (h2_30 j cf tx l c x) (congrArg Value.bool hc)
      refine part_fast kS (h3t_ok j cf tx l c x) i2 f2' fun s3 c3 w3 g3 f3 i3 e3 => ?_
      obtain ⟨s, y, k1, k2, k3⟩ := canon (mP (j : Int) cf tx true l c) i3 f3 (mP_ok _ _ _ _ _ _) (h3t_seen j cf tx l c x)
      rw [hb, hc] at hq
      exact hq s y c3 w3 k1 k2 (fun p hp => by rw [k3]; exact g3 _ _ (g2 _ _ (g1 _ _ hp))) (e1.trans (e2.trans e3))
    | false =>
      have f2' := f2.name (h2_30 j cf tx l c x) (congrArg Value.bool hc)
      refine part_fast kS (h3f_ok j cf tx l c x) i2 f2' fun s3 c3 w3 g3 f3 i3 e3 => ?_
      obtain ⟨s, y, k1, k2, k3⟩ := canon (mP (j : Int) cf tx false l c) i3 f3 (mP_ok _ _ _ _ _ _) (h3f_seen j cf tx l c x)
      rw [hb, hc] at hq
      exact hq s y c3 w3 k1 k2 (fun p hp => by rw [k3]; exact g3 _ _ (g2 _ _ (g1 _ _ hp))) (e1.trans (e2.trans e3))
  | false =>
    have f1' := f1.name (h1_27 j cf tx l c x) (congrArg Value.bool hb)
    refine part_fast kS (h2f_ok j cf tx l c x) i1 f1' fun s2 c2 w2 g2 f2 i2 e2 => ?_
    refine part_fast kS (h4_ok j cf tx l c x) i2 f2 fun s3 c3 w3 g3 f3 i3 e3 => ?_
    obtain ⟨s, y, k1, k2, k3⟩ := canon (mP (j : Int) cf tx false l c) i3 f3 (mP_ok _ _ _ _ _ _) (h4_seen j cf tx l c x)
    rw [hb] at hq
    exact hq s y c3 w3 k1 k2 (fun p hp => by rw [k3]; exact g3 _ _ (g2 _ _ (g1 _ _ hp))) (e1.trans (e2.trans e3))
/-! The number is read. -/
noncomputable def o11 : Array Oper := opsOf q3n
theorem q3n_eq : q3n = .region 11 o11 false := by kernel_rfl
noncomputable def l11a : List Oper := o11.toList.take 2
noncomputable def o36 : Oper := (o11.toList.drop 2).headD default
noncomputable def o37 : Oper := (o11.toList.drop 3).headD default
noncomputable def l11b : List Oper := o11.toList.drop 4
theorem o11_cut : o11.toList = l11a ++ (o36 :: o37 :: (l11b ++ [])) := by kernel_rfl
theorem o36_op : o36.op = .indexAddr 22 (.tmp 34) (.tmp 35) := by kernel_rfl
theorem o37_op : o37.op = .load 3 (.tmp 36) := by kernel_rfl
theorem o36_guard : o36.guard = none := by kernel_rfl
theorem o37_guard : o37.guard = none := by kernel_rfl
theorem u22 : p16.underlying 22 = some (.slice 3) := by kernel_rfl
theorem z3 : sizeT p16 3 = some 1 := by kernel_rfl
theorem a3 : isAggT p16 3 = some false := by kernel_rfl
variable (j cf tx l c x)
noncomputable def r1 : OpsR := opsB p16 K17 o11.toList l11a ((mP (j : Int) cf tx true l c).fr 111 x) (mP (j : Int) cf tx true l c).h
noncomputable def a36 : Fr := putD (fO (r1 j cf tx l c x)) o36.dst (.pointer (some ⟨1048576, j, none⟩))
noncomputable def a37 (n : Int) : Fr := putD (a36 j cf tx l c x) o37.dst (.int .i64 n)
noncomputable def r2 (n : Int) : OpsR := opsB p16 K17 o11.toList l11b (a37 j cf tx l c x n) (hO (r1 j cf tx l c x))
noncomputable def e9 (n : Int) : Int := IntKind.i64.wrap ((IntKind.u64.wrap n).tmod 4)
theorem r1_ok : okO1 (r1 j cf tx l c x) = true := by kernel_rfl
theorem r1_34 : slot (fO (r1 j cf tx l c x)) 34 = .slice (some ⟨1048576, 0, none⟩) l c := by kernel_rfl
theorem r1_35 : slot (fO (r1 j cf tx l c x)) 35 = .int .i64 (j : Int) := by kernel_rfl
theorem a36_36 : slot (a36 j cf tx l c x) 36 = .pointer (some ⟨1048576, j, none⟩) := by kernel_rfl
theorem r2_ok (n : Int) : okO1 (r2 j cf tx l c x n) = true := by kernel_rfl
theorem r2_seen (n : Int) : seen [0, 3, 6, 7, 8, 9] [0, 1] (fO (r2 j cf tx l c x n)) (hO (r2 j cf tx l c x n)) = (mD (j : Int) cf tx (e9 n) l c).view 111 [0, 1] := by kernel_rfl
theorem e9_some (n : Int) : e9 n = 0 ∨ e9 n = 1 ∨ e9 n = 2 ∨ e9 n = 3 := by
  have h1 : IntKind.u64.wrap n = n % 18446744073709551616 := by simp [IntKind.wrap, IntKind.signed, IntKind.bits]
  have h2 : (IntKind.u64.wrap n).tmod 4 = (n % 18446744073709551616) % 4 := by
    rw [h1, Int.tmod_eq_emod_of_nonneg (Int.emod_nonneg _ (by decide))]
  unfold e9
  rw [h2, IntKind.wrap_i64]
  omega
variable {j cf tx l c x}
theorem reads {p : Pl} {n : Int} (hp : r (2 ^ hd) = some p) (hj : j < l) (hc : w.cell? ⟨p.b, p.o + j, none⟩ = some (.int .i64 n)) (hN : ∀ w', Bel N w w' → w'.cell? ⟨p.b, p.o + j, none⟩ = some (.int .i64 n))
    (hI : Inv p16 N r (mP (j : Int) cf tx true l c).h w) (hF : AF r ((mP (j : Int) cf tx true l c).fr 111 x) a)
    (hq : ∀ s x' c' w', Inv p16 N s (mD (j : Int) cf tx (e9 n) l c).h w' → AF s ((mD (j : Int) cf tx (e9 n) l c).fr 111 x') c' → s (2 ^ hd) = some p → Bel N w w' → Q .normal c' w') : q3n.wp p16 Q a w := by
  rw [q3n_eq]
  refine wp_region_list ?_
  rw [o11_cut]
  refine part_fast kS (r1_ok j cf tx l c x) hI hF fun s1 c1 w1 g1 f1 i1 e1 => ?_
  have hp1 : s1 1048576 = some p := g1 _ _ hp
  have v34 := eval_slice f1 (r1_34 j cf tx l c x) hp1
  have v35 := eval_int f1 (r1_35 j cf tx l c x)
  refine step_value o36_guard (run_indexAddr o36_op u22 z3 v34 v35 hj) ?_
  rw [Nat.mul_one]
  have f2 : AF s1 (a36 j cf tx l c x) _ := f1.put o36.dst (.ptr 1048576 j p hp1)
  have v36 := eval_ptr f2 (a36_36 j cf tx l c x) hp1
  refine step_value o37_guard (run_load1 o37_op a3 v36 (hN w1 e1)) ?_
  have f3 : AF s1 (a37 j cf tx l c x n) _ := f2.put o37.dst (.int .i64 n)
  refine part_fast kS (r2_ok j cf tx l c x n) i1 f3 fun s2 c2 w2 g2 f4 i2 e2 => ?_
  obtain ⟨s, y, k1, k2, k3⟩ := canon (mD (j : Int) cf tx (e9 n) l c) i2 f4 (mD_ok _ _ _ _ _ _) (r2_seen j cf tx l c x n)
  exact hq s y c2 w2 k1 k2 (by rw [k3]; exact g2 _ _ hp1) (e1.trans e2)
/-! On to the next. -/
variable (j cf tx l c x)
theorem next_run : viewN [0, 3, 6, 7, 8] [0, 1] (execB p16 K17 1000000 none q3m ((mC (j : Int) cf tx l c).fr 111 x) (mC (j : Int) cf tx l c).h) = some ((mC (IntKind.i64.wrap ((j : Int) + 1)) cf tx l c).view 111 [0, 1]) := by kernel_rfl
theorem last_run : endsB p16 Go.Proofs.Tryz.f3 (execB p16 K17 1000000 none q3g ((mP (j : Int) cf tx false l c).fr 111 x) (mP (j : Int) cf tx false l c).h) = true := by kernel_rfl
theorem mC_ok1 (i : Int) : (mC i cf tx l c).okB [0, 1] = true := by kernel_rfl
theorem mC_ok6 (i : Int) : (mC i cf tx l c).okB [0, 6] = true := by kernel_rfl
variable {j cf tx l c x}
end
end Go.Eng
