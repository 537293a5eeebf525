/-
  ChannelMandatory: for every text and every two bools the law's call returns true.
  Conditions: none.
-/
import Derived.Test.YtfcebfbdodeecaaGreatDoorEngNk0
import Derived.Test.YtfcebfbdodeecaaGreatDoorEngNk1
import Derived.Test.YtfcebfbdodeecaaGreatDoorEngNk2
import Derived.Test.YtfcebfbdodeecaaGreatDoorEngNk3
import Derived.Test.YtfcebfbdodeecaaGreatDoorEngNk4
namespace Go.Eng
open Go Go.Lib Go.RowKit
set_option linter.unusedVariables false
set_option maxRecDepth 20000
theorem nt (n : Nat) (h0 : 1 ≤ n) (hn : n < 41) (fl : Bool) : endsB p16 Go.Proofs.Tryz.f4 (nR n true fl) = true := by
  match n, h0, hn with
  | 1, _, _ => exact nt_1 fl
  | 2, _, _ => exact nt_2 fl
  | 3, _, _ => exact nt_3 fl
  | 4, _, _ => exact nt_4 fl
  | 5, _, _ => exact nt_5 fl
  | 6, _, _ => exact nt_6 fl
  | 7, _, _ => exact nt_7 fl
  | 8, _, _ => exact nt_8 fl
  | 9, _, _ => exact nt_9 fl
  | 10, _, _ => exact nt_10 fl
  | 11, _, _ => exact nt_11 fl
  | 12, _, _ => exact nt_12 fl
  | 13, _, _ => exact nt_13 fl
  | 14, _, _ => exact nt_14 fl
  | 15, _, _ => exact nt_15 fl
  | 16, _, _ => exact nt_16 fl
  | 17, _, _ => exact nt_17 fl
  | 18, _, _ => exact nt_18 fl
  | 19, _, _ => exact nt_19 fl
  | 20, _, _ => exact nt_20 fl
  | 21, _, _ => exact nt_21 fl
  | 22, _, _ => exact nt_22 fl
  | 23, _, _ => exact nt_23 fl
  | 24, _, _ => exact nt_24 fl
  | 25, _, _ => exact nt_25 fl
  | 26, _, _ => exact nt_26 fl
  | 27, _, _ => exact nt_27 fl
  | 28, _, _ => exact nt_28 fl
  | 29, _, _ => exact nt_29 fl
  | 30, _, _ => exact nt_30 fl
  | 31, _, _ => exact nt_31 fl
  | 32, _, _ => exact nt_32 fl
  | 33, _, _ => exact nt_33 fl
  | 34, _, _ => exact nt_34 fl
  | 35, _, _ => exact nt_35 fl
  | 36, _, _ => exact nt_36 fl
  | 37, _, _ => exact nt_37 fl
  | 38, _, _ => exact nt_38 fl
  | 39, _, _ => exact nt_39 fl
  | 40, _, _ => exact nt_40 fl
  | 0, h, _ => omega
  | n + 41, _, h => omega
theorem nf_true (n : Nat) (h0 : 1 ≤ n) (hn : n < 41) : endsB p16 Go.Proofs.Tryz.f4 (nR n false true) = true := by
  match n, h0, hn with
  | 1, _, _ => exact nf_1_true
  | 2, _, _ => exact nf_2_true
  | 3, _, _ => exact nf_3_true
  | 4, _, _ => exact nf_4_true
  | 5, _, _ => exact nf_5_true
  | 6, _, _ => exact nf_6_true
  | 7, _, _ => exact nf_7_true
  | 8, _, _ => exact nf_8_true
  | 9, _, _ => exact nf_9_true
  | 10, _, _ => exact nf_10_true
  | 11, _, _ => exact nf_11_true
  | 12, _, _ => exact nf_12_true
  | 13, _, _ => exact nf_13_true
  | 14, _, _ => exact nf_14_true
  | 15, _, _ => exact nf_15_true
  | 16, _, _ => exact nf_16_true
  | 17, _, _ => exact nf_17_true
  | 18, _, _ => exact nf_18_true
  | 19, _, _ => exact nf_19_true
  | 20, _, _ => exact nf_20_true
  | 21, _, _ => exact nf_21_true
  | 22, _, _ => exact nf_22_true
  | 23, _, _ => exact nf_23_true
  | 24, _, _ => exact nf_24_true
  | 25, _, _ => exact nf_25_true
  | 26, _, _ => exact nf_26_true
  | 27, _, _ => exact nf_27_true
  | 28, _, _ => exact nf_28_true
  | 29, _, _ => exact nf_29_true
  | 30, _, _ => exact nf_30_true
  | 31, _, _ => exact nf_31_true
  | 32, _, _ => exact nf_32_true
  | 33, _, _ => exact nf_33_true
  | 34, _, _ => exact nf_34_true
  | 35, _, _ => exact nf_35_true
  | 36, _, _ => exact nf_36_true
  | 37, _, _ => exact nf_37_true
  | 38, _, _ => exact nf_38_true
  | 39, _, _ => exact nf_39_true
  | 40, _, _ => exact nf_40_true
  | 0, h, _ => omega
  | n + 41, _, h => omega
theorem nf_false (n : Nat) (h0 : 1 ≤ n) (hn : n < 41) : endsB p16 Go.Proofs.Tryz.f4 (nR n false false) = true := by
  match n, h0, hn with
  | 1, _, _ => exact nf_1_false
  | 2, _, _ => exact nf_2_false
  | 3, _, _ => exact nf_3_false
  | 4, _, _ => exact nf_4_false
  | 5, _, _ => exact nf_5_false
  | 6, _, _ => exact nf_6_false
  | 7, _, _ => exact nf_7_false
  | 8, _, _ => exact nf_8_false
  | 9, _, _ => exact nf_9_false
  | 10, _, _ => exact nf_10_false
  | 11, _, _ => exact nf_11_false
  | 12, _, _ => exact nf_12_false
  | 13, _, _ => exact nf_13_false
  | 14, _, _ => exact nf_14_false
  | 15, _, _ => exact nf_15_false
  | 16, _, _ => exact nf_16_false
  | 17, _, _ => exact nf_17_false
  | 18, _, _ => exact nf_18_false
  | 19, _, _ => exact nf_19_false
  | 20, _, _ => exact nf_20_false
  | 21, _, _ => exact nf_21_false
  | 22, _, _ => exact nf_22_false
  | 23, _, _ => exact nf_23_false
  | 24, _, _ => exact nf_24_false
  | 25, _, _ => exact nf_25_false
  | 26, _, _ => exact nf_26_false
  | 27, _, _ => exact nf_27_false
  | 28, _, _ => exact nf_28_false
  | 29, _, _ => exact nf_29_false
  | 30, _, _ => exact nf_30_false
  | 31, _, _ => exact nf_31_false
  | 32, _, _ => exact nf_32_false
  | 33, _, _ => exact nf_33_false
  | 34, _, _ => exact nf_34_false
  | 35, _, _ => exact nf_35_false
  | 36, _, _ => exact nf_36_false
  | 37, _, _ => exact nf_37_false
  | 38, _, _ => exact nf_38_false
  | 39, _, _ => exact nf_39_false
  | 40, _, _ => exact nf_40_false
  | 0, h, _ => omega
  | n + 41, _, h => omega
theorem nall (n : Nat) (hn : n < 41) (th fl : Bool) : endsB p16 Go.Proofs.Tryz.f4 (nR n th fl) = true := by
  by_cases h : n = 0
  · subst h
    exact nx0 th fl
  · have h0 : 1 ≤ n := by omega
    cases th with
    | true => exact nt n h0 hn fl
    | false =>
      cases fl with
      | true => exact nf_true n h0 hn
      | false => exact nf_false n h0 hn
theorem mandatory (s : ByteArray) (th fl : Bool) (W : World) : Calls p16 4 #[.string s, .bool th, .bool fl] W fun e w' => e = .returned (.bool true) ∧ Below W.heap.size W w' := by
  refine calls_of_wp Go.Proofs.Tryz.func4 q4_eq ?_
  have hI : Inv p16 (fun k => k < W.heap.size) (fun i => if i = 2 ^ hd then some ⟨0, 0, encL s.data.toList⟩ else none) ⟨.nil, 0⟩ W := by
    refine ⟨fun i o hi ho => ?_, fun i j oi oj pi pj hi hj ho => ?_, fun i hi h2 => if_neg (Nat.ne_of_lt h2), Nat.zero_le _, fun k hk => hk⟩
    · rw [obj_nil] at ho
      cases ho
    · rw [obj_nil] at ho
      cases ho
  have hv : VR (fun i => if i = 2 ^ hd then some (⟨0, 0, encL s.data.toList⟩ : Pl) else none) (.iface s.size .nilFunc) (.string s) := by
    have h := VR.sym (r := fun i => if i = 2 ^ hd then some (⟨0, 0, encL s.data.toList⟩ : Pl) else none) s.size ⟨0, 0, encL s.data.toList⟩ (if_pos rfl) (by rw [dec_enc])
    rw [dec_enc] at h
    exact h
  have hF : AF (fun i => if i = 2 ^ hd then some (⟨0, 0, encL s.data.toList⟩ : Pl) else none) (n0 s.size th fl) _ := initF_sound (args := [.iface s.size .nilFunc, .bool th, .bool fl]) (args' := [.string s, .bool th, .bool fl]) (n := 100) (.cons _ _ _ _ hv (.cons _ _ _ _ (.bool th) (.cons _ _ _ _ (.bool fl) .nil))) (show (100 : Nat) ≤ 512 by decide)
  by_cases hn : s.size < 41
  · exact wp_fin (eS 1000000) (nall s.size hn th fl) hI hF fun w' h => ⟨rfl, bel_below h⟩
  · obtain ⟨d, hd'⟩ : ∃ d, s.size = d + 41 := ⟨s.size - 41, by omega⟩
    rw [hd'] at hF
    rw [q4_cut]
    refine wp_cut (eS 1000000) (nx1_ok d th fl) hI hF fun s1 c1 w1 g1 f1 i1 e1 => ?_
    refine wp_seq (wp_seq (wp_region_list ?_))
    rw [o1n_cut]
    refine part_fast kS (nx2_ok d th fl) i1 f1 fun s2 c2 w2 g2 f2 i2 e2 => ?_
    have f2' := f2.name (nx2_18 d th fl) (congrArg Value.bool (decide_eq_true (by show (40 : Int) < ((d + 41 : Nat) : Int); omega)))
    refine part_fast kS (nx3_ok d th fl) i2 f2' fun s3 c3 w3 g3 f3 i3 e3 => ?_
    show q4c.wp p16 _ c3 w3
    exact wp_retq (eS 1000000) (nx4_ret d th fl) i3 f3 (R := fun e w' => e = .returned (.bool true) ∧ Below W.heap.size W w') (fun w' h => ⟨rfl, bel_below (e1.trans (e2.trans (e3.trans h)))⟩) fun c' w' h => h
end Go.Eng
