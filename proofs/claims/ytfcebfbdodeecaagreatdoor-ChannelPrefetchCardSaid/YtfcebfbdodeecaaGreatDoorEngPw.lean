/-
  ChannelPrefetch: for every two numbers the law's call returns true.
  Conditions: none.
-/
import Derived.Test.YtfcebfbdodeecaaGreatDoorEngPd
import Derived.Test.YtfcebfbdodeecaaGreatDoorEngPf
import Derived.Test.YtfcebfbdodeecaaGreatDoorEngPs
import Derived.Test.YtfcebfbdodeecaaGreatDoorEngPt
import Derived.Test.YtfcebfbdodeecaaGreatDoorEngPy
import Derived.Test.YtfcebfbdodeecaaGreatDoorEngPz
namespace Go.Eng
open Go Go.Lib Go.RowKit
set_option linter.unusedVariables false
set_option maxRecDepth 20000
section
/-! the runs, together -/
theorem ps1 (j : Nat) (hj : j < 20) (d : Nat) (K : Int) (x : Nat → Value) : viewO [5, 6, 7, 14, 15, 16] [0, 1, 2, 3, 17, 18] (b2 (Int.ofNat (j + 1)) (Int.ofNat (d + (j + 1))) K j x) = some ((pE (Int.ofNat (j + 1)) (Int.ofNat (d + (j + 1))) K (j + 1) 0 (okM (Int.ofNat (j + 1)))).view 157 [0, 1, 2, 3, 17, 18]) := by
  match j, hj with
  | 0, _ => exact ps1_0 d K x
  | 1, _ => exact ps1_1 d K x
  | 2, _ => exact ps1_2 d K x
  | 3, _ => exact ps1_3 d K x
  | 4, _ => exact ps1_4 d K x
  | 5, _ => exact ps1_5 d K x
  | 6, _ => exact ps1_6 d K x
  | 7, _ => exact ps1_7 d K x
  | 8, _ => exact ps1_8 d K x
  | 9, _ => exact ps1_9 d K x
  | 10, _ => exact ps1_10 d K x
  | 11, _ => exact ps1_11 d K x
  | 12, _ => exact ps1_12 d K x
  | 13, _ => exact ps1_13 d K x
  | 14, _ => exact ps1_14 d K x
  | 15, _ => exact ps1_15 d K x
  | 16, _ => exact ps1_16 d K x
  | 17, _ => exact ps1_17 d K x
  | 18, _ => exact ps1_18 d K x
  | 19, _ => exact ps1_19 d K x
  | n + 20, h => omega
theorem ps2 (j : Nat) (hj : j < 20) (d : Nat) (K : Int) (x : Nat → Value) : viewN [5, 6, 7, 14] [0, 1, 2, 3, 4] (b5 (Int.ofNat (j + 1)) (Int.ofNat (d + (j + 1))) K (j + 1) 0 (okM (Int.ofNat (j + 1))) x true) = some ((pB (Int.ofNat (j + 1)) (Int.ofNat (d + (j + 1))) K (j + 1)).view 157 [0, 1, 2, 3, 4]) := by
  match j, hj with
  | 0, _ => exact ps2_0 d K x
  | 1, _ => exact ps2_1 d K x
  | 2, _ => exact ps2_2 d K x
  | 3, _ => exact ps2_3 d K x
  | 4, _ => exact ps2_4 d K x
  | 5, _ => exact ps2_5 d K x
  | 6, _ => exact ps2_6 d K x
  | 7, _ => exact ps2_7 d K x
  | 8, _ => exact ps2_8 d K x
  | 9, _ => exact ps2_9 d K x
  | 10, _ => exact ps2_10 d K x
  | 11, _ => exact ps2_11 d K x
  | 12, _ => exact ps2_12 d K x
  | 13, _ => exact ps2_13 d K x
  | 14, _ => exact ps2_14 d K x
  | 15, _ => exact ps2_15 d K x
  | 16, _ => exact ps2_16 d K x
  | 17, _ => exact ps2_17 d K x
  | 18, _ => exact ps2_18 d K x
  | 19, _ => exact ps2_19 d K x
  | n + 20, h => omega
theorem pf1 (t : Nat) (h0 : 1 ≤ t) (ht : t < 21) (d : Nat) (K : Int) (x : Nat → Value) : viewO [5, 6, 7, 14, 15, 16] [0, 1, 2, 3, 4, 16] (b2 (Int.ofNat (d + (t + 1))) (Int.ofNat t) K t x) = some ((pE (Int.ofNat (d + (t + 1))) (Int.ofNat t) K t 4 noM).view 157 [0, 1, 2, 3, 4, 16]) := by
  match t, h0, ht with
  | 1, _, _ => exact pf1_1 d K x
  | 2, _, _ => exact pf1_2 d K x
  | 3, _, _ => exact pf1_3 d K x
  | 4, _, _ => exact pf1_4 d K x
  | 5, _, _ => exact pf1_5 d K x
  | 6, _, _ => exact pf1_6 d K x
  | 7, _, _ => exact pf1_7 d K x
  | 8, _, _ => exact pf1_8 d K x
  | 9, _, _ => exact pf1_9 d K x
  | 10, _, _ => exact pf1_10 d K x
  | 11, _, _ => exact pf1_11 d K x
  | 12, _, _ => exact pf1_12 d K x
  | 13, _, _ => exact pf1_13 d K x
  | 14, _, _ => exact pf1_14 d K x
  | 15, _, _ => exact pf1_15 d K x
  | 16, _, _ => exact pf1_16 d K x
  | 17, _, _ => exact pf1_17 d K x
  | 18, _, _ => exact pf1_18 d K x
  | 19, _, _ => exact pf1_19 d K x
  | 20, _, _ => exact pf1_20 d K x
  | 0, h, _ => omega
  | n + 21, _, h => omega
theorem pf2 (t : Nat) (h0 : 1 ≤ t) (ht : t < 21) (d : Nat) (K : Int) (x : Nat → Value) : viewN [5, 6, 7, 14] [0, 1, 2, 3, 4] (b5 (Int.ofNat (d + (t + 1))) (Int.ofNat t) K t 4 noM x false) = some ((pB (Int.ofNat (d + (t + 1))) (Int.ofNat t) K t).view 157 [0, 1, 2, 3, 4]) := by
  match t, h0, ht with
  | 1, _, _ => exact pf2_1 d K x
  | 2, _, _ => exact pf2_2 d K x
  | 3, _, _ => exact pf2_3 d K x
  | 4, _, _ => exact pf2_4 d K x
  | 5, _, _ => exact pf2_5 d K x
  | 6, _, _ => exact pf2_6 d K x
  | 7, _, _ => exact pf2_7 d K x
  | 8, _, _ => exact pf2_8 d K x
  | 9, _, _ => exact pf2_9 d K x
  | 10, _, _ => exact pf2_10 d K x
  | 11, _, _ => exact pf2_11 d K x
  | 12, _, _ => exact pf2_12 d K x
  | 13, _, _ => exact pf2_13 d K x
  | 14, _, _ => exact pf2_14 d K x
  | 15, _, _ => exact pf2_15 d K x
  | 16, _, _ => exact pf2_16 d K x
  | 17, _, _ => exact pf2_17 d K x
  | 18, _, _ => exact pf2_18 d K x
  | 19, _, _ => exact pf2_19 d K x
  | 20, _, _ => exact pf2_20 d K x
  | 0, h, _ => omega
  | n + 21, _, h => omega
theorem pz (t : Nat) (h0 : 1 ≤ t) (ht : t < 21) (d : Nat) (K : Int) (x : Nat → Value) : endsB p16 Go.Proofs.Tryz.f7 (zR (Int.ofNat (d + t)) K t x) = true := by
  match t, h0, ht with
  | 1, _, _ => exact pz_1 d K x
  | 2, _, _ => exact pz_2 d K x
  | 3, _, _ => exact pz_3 d K x
  | 4, _, _ => exact pz_4 d K x
  | 5, _, _ => exact pz_5 d K x
  | 6, _, _ => exact pz_6 d K x
  | 7, _, _ => exact pz_7 d K x
  | 8, _, _ => exact pz_8 d K x
  | 9, _, _ => exact pz_9 d K x
  | 10, _, _ => exact pz_10 d K x
  | 11, _, _ => exact pz_11 d K x
  | 12, _, _ => exact pz_12 d K x
  | 13, _, _ => exact pz_13 d K x
  | 14, _, _ => exact pz_14 d K x
  | 15, _, _ => exact pz_15 d K x
  | 16, _, _ => exact pz_16 d K x
  | 17, _, _ => exact pz_17 d K x
  | 18, _, _ => exact pz_18 d K x
  | 19, _, _ => exact pz_19 d K x
  | 20, _, _ => exact pz_20 d K x
  | 0, h, _ => omega
  | n + 21, _, h => omega
theorem pb (t : Nat) (h0 : 1 ≤ t) (ht : t < 21) (K : Int) (x : Nat → Value) : viewN [5, 6, 7] [0, 9, 28, 1] (px2 (Int.ofNat t) K x) = some ((pS (Int.ofNat t) K).view 157 [0, 9, 28, 1]) := by
  match t, h0, ht with
  | 1, _, _ => exact pb_1 K x
  | 2, _, _ => exact pb_2 K x
  | 3, _, _ => exact pb_3 K x
  | 4, _, _ => exact pb_4 K x
  | 5, _, _ => exact pb_5 K x
  | 6, _, _ => exact pb_6 K x
  | 7, _, _ => exact pb_7 K x
  | 8, _, _ => exact pb_8 K x
  | 9, _, _ => exact pb_9 K x
  | 10, _, _ => exact pb_10 K x
  | 11, _, _ => exact pb_11 K x
  | 12, _, _ => exact pb_12 K x
  | 13, _, _ => exact pb_13 K x
  | 14, _, _ => exact pb_14 K x
  | 15, _, _ => exact pb_15 K x
  | 16, _, _ => exact pb_16 K x
  | 17, _, _ => exact pb_17 K x
  | 18, _, _ => exact pb_18 K x
  | 19, _, _ => exact pb_19 K x
  | 20, _, _ => exact pb_20 K x
  | 0, h, _ => omega
  | n + 21, _, h => omega
/-! and the numbers they speak of are in bounds -/
theorem openO_len (t : Nat) : (openO (t + 1)).length = 1 := rfl
theorem tagsL_ok (n : Nat) : ∀ t, (tagsL t).all (okW n) = true
  | 0 => rfl
  | t + 1 => by
    show (tagsL t ++ [Value.int .u64 (Int.ofNat (t + 1))]).all (okW n) = true
    rw [List.all_append, tagsL_ok n t]
    rfl
theorem pB_ok (i M K : Int) (t : Nat) : (pB i M K (t + 1)).okB [0, 1, 2, 3, 4] = true := by
  have h := tagsL_ok 5 (t + 1)
  show (true && true && true && true && (true && (true && (true && (true && ((tagsL (t + 1)).all (okW 5) && true))))) && true) = true
  rw [h]
  rfl
theorem pE_ok (i M K : Int) (t : Nat) (e : Int) (g : List Value) (hg : g.all (okW 6) = true) (a b c d p q : Nat) (hn : onceB [a, b, c, d, p, q] = true) : (pE i M K (t + 1) e g).okB [a, b, c, d, p, q] = true := by
  have h := tagsL_ok 6 (t + 1)
  show (true && true && true && true && (true && (true && (true && (true && ((tagsL (t + 1)).all (okW 6) && (g.all (okW 6) && true)))))) && onceB [a, b, c, d, p, q]) = true
  rw [h, hg, hn]
  rfl
/-! another look at the same state -/
theorem refr {r : Rn} {a : Fr} {c : Act} {C : Cn} {m : Nat} (hF : AF r a c) (hl : (a.m, C.live.map fun e => slotB a e.1) = (m, C.live.map Prod.snd)) : ∃ x, AF r (C.fr m x) c := by
  have h1 : a.m = m := congrArg Prod.fst hl
  have h2 : (C.live.map fun e => slotB a e.1) = C.live.map Prod.snd := congrArg Prod.snd hl
  have hlive : ∀ e ∈ C.live, slot a e.1 = e.2 := by
    intro e he
    obtain ⟨i, hi, hie⟩ := List.getElem_of_mem he
    have h3 := congrArg (fun l => l[i]?) h2
    have h4 : C.live[i]? = some e := by rw [List.getElem?_eq_getElem hi, hie]
    simp only [List.getElem?_map, h4, Option.map_some] at h3
    rw [← slotB_eq]
    exact Option.some.inj h3
  subst h1
  refine ⟨slot a, ⟨⟨hF.1.1, hF.1.2.1, fun t ht => ?_⟩, hF.2⟩⟩
  have ht : t < a.m := ht
  have e : ∀ y, slot (C.fr a.m y) t = pickL C.live y t := fun y => by
    unfold slot
    show cond (Nat.blt t a.m) (match (frT (pickL C.live y) a.m).get fd t with | some v => v | none => undef) undef = _
    have hm := hF.1.2.1
    rw [show Nat.blt t a.m = true from Nat.ble_eq_true_of_le ht, cond_true, frT_get _ a.m t hm (by omega), if_pos ht]
  rw [e]
  rcases pickL_some (l := C.live) (x := slot a) (s := t) rfl with ⟨q, q1, q2, q3⟩ | q
  · rw [← q3, ← hlive q q1, q2]
    exact hF.1.2.2 t ht
  · rw [← q]
    exact hF.1.2.2 t ht
end
end Go.Eng
