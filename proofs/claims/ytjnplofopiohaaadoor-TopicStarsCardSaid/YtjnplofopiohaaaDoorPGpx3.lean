-- Written by gprint.py, this session's own program, out of Lean's print of the translation: functions with the same answers, and proofs that the Go code comes to them. Lean checks it all.
import Derived.Test.YtjnplofopiohaaaDoorPGpx0
import Derived.Test.YtjnplofopiohaaaDoorPGpx1
import Derived.Test.YtjnplofopiohaaaDoorPGpx2
namespace Go.Proofs.YtjnplofopiohaaaDoor.PGp
open Go.RowKit Go.Proofs.YtjnplofopiohaaaDoorW.PrintWords Go.Proofs.YtjnplofopiohaaaDoorW.PrintLast Go.Proofs.YtjnplofopiohaaaDoorW.PrintMore Go.Proofs.YtjnplofopiohaaaDoorG Go.Proofs.YtjnplofopiohaaaDoorH
attribute [local go_sem] max2_int min2_int max_two min_two max_three min_three max_four min_four   -- for this text's walks alone
set_option linter.unusedVariables false
set_option linter.unusedSimpArgs false

/-! ### carrefourlaw7_told: function 8 -/
def carrefourlaw7_told.f (k : Nat)  : Option (Bool) := (topic_Words.f (⟨#[97, 46, 46, 98]⟩ : ByteArray)).bind fun t128 => (if (t128.length : Int) = 3 then (if 1 < (t128.length : Int) then (if (rdOf ByteArray.empty t128 1).toList = ([] : List UInt8) then ((topic_Words.f (⟨#[]⟩ : ByteArray)).bind fun t132 => (if (t132.length : Int) = 0 then ((topic_Match.f k (⟨#[97, 46, 35, 46, 98]⟩ : ByteArray) (⟨#[97, 46, 98]⟩ : ByteArray)).bind fun t135 => (if t135 = true then ((topic_Match.f k (⟨#[35]⟩ : ByteArray) (⟨#[]⟩ : ByteArray)).bind fun t136 => (if t136 = true then ((topic_Match.f k (⟨#[42, 46, 98]⟩ : ByteArray) (⟨#[120, 46, 98]⟩ : ByteArray)).bind fun t137 => (if t137 = true then ((topic_Match.f k (⟨#[42]⟩ : ByteArray) (⟨#[]⟩ : ByteArray)).bind fun t138 => (if t138 = true then (some false) else ((topic_Match.f k (⟨#[97, 46, 42]⟩ : ByteArray) (⟨#[97, 46, 98, 46, 99]⟩ : ByteArray)).bind fun t139 => (if t139 = true then (some false) else ((topic_May.f k (⟨#[97, 46, 42, 46, 35]⟩ : ByteArray)).bind fun t140 => (if t140 = true then ((topic_May.f k (⟨#[97, 42]⟩ : ByteArray)).bind fun t141 => (some (!t141))) else (some false))))))) else (some false))) else (some false))) else (some false))) else (some false))) else (some false)) else (none)) else (some false))
theorem carrefourlaw7_told.mono : ∀ k, LeO (carrefourlaw7_told.f k ) (carrefourlaw7_told.f (k + 1) ) := by
  intro  k
  unfold carrefourlaw7_told.f
  repeat' first
      | (with_reducible exact topic_Match.mono _ _ _)
      | (with_reducible exact topic_May.mono _ _)
      | (with_reducible exact LeO.refl _)
      | (with_reducible exact LeO.none _)
      | (with_reducible refine LeO.ite ?_ ?_)
      | (with_reducible refine LeO.bind ?_ (fun _ => ?_))
      | exact topic_Match.mono _ _ _
      | exact topic_May.mono _ _
      | exact LeO.none _
      | refine LeO.ite ?_ ?_
      | refine LeO.bind ?_ (fun _ => ?_)
set_option maxHeartbeats 8000000 in
set_option maxRecDepth 100000 in
theorem carrefourlaw7_told.calls_true (k : Nat)  (r : Bool) (w : World) (hgl : Gl w) (hrt : r = true) (h : carrefourlaw7_told.f k  = some r) :
    Calls Tryd.prog 8 #[] w fun e w' => e = .returned (.bool r) ∧ Below w.heap.size w w' := by
  have HRT := Aside0.mk hrt
  clear hrt
  have HGL := Aside0.mk hgl
  clear hgl
  have HB := Aside0.mk (Below.refl w.heap.size w)
  have H : ((topic_Words.f (⟨#[97, 46, 46, 98]⟩ : ByteArray)).bind fun t128 => (if (t128.length : Int) = 3 then (if 1 < (t128.length : Int) then (if (rdOf ByteArray.empty t128 1).toList = ([] : List UInt8) then ((topic_Words.f (⟨#[]⟩ : ByteArray)).bind fun t132 => (if (t132.length : Int) = 0 then ((topic_Match.f k (⟨#[97, 46, 35, 46, 98]⟩ : ByteArray) (⟨#[97, 46, 98]⟩ : ByteArray)).bind fun t135 => (if t135 = true then ((topic_Match.f k (⟨#[35]⟩ : ByteArray) (⟨#[]⟩ : ByteArray)).bind fun t136 => (if t136 = true then ((topic_Match.f k (⟨#[42, 46, 98]⟩ : ByteArray) (⟨#[120, 46, 98]⟩ : ByteArray)).bind fun t137 => (if t137 = true then ((topic_Match.f k (⟨#[42]⟩ : ByteArray) (⟨#[]⟩ : ByteArray)).bind fun t138 => (if t138 = true then (some false) else ((topic_Match.f k (⟨#[97, 46, 42]⟩ : ByteArray) (⟨#[97, 46, 98, 46, 99]⟩ : ByteArray)).bind fun t139 => (if t139 = true then (some false) else ((topic_May.f k (⟨#[97, 46, 42, 46, 35]⟩ : ByteArray)).bind fun t140 => (if t140 = true then ((topic_May.f k (⟨#[97, 42]⟩ : ByteArray)).bind fun t141 => (some (!t141))) else (some false))))))) else (some false))) else (some false))) else (some false))) else (some false))) else (some false)) else (none)) else (some false))) = some r := h
  clear h
  replace H := Option.bind_eq_some_iff.mp H
  obtain ⟨t128, A10, H⟩ := H
  replace H : (if (t128.length : Int) = 3 then (if 1 < (t128.length : Int) then (if (rdOf ByteArray.empty t128 1).toList = ([] : List UInt8) then ((topic_Words.f (⟨#[]⟩ : ByteArray)).bind fun t132 => (if (t132.length : Int) = 0 then ((topic_Match.f k (⟨#[97, 46, 35, 46, 98]⟩ : ByteArray) (⟨#[97, 46, 98]⟩ : ByteArray)).bind fun t135 => (if t135 = true then ((topic_Match.f k (⟨#[35]⟩ : ByteArray) (⟨#[]⟩ : ByteArray)).bind fun t136 => (if t136 = true then ((topic_Match.f k (⟨#[42, 46, 98]⟩ : ByteArray) (⟨#[120, 46, 98]⟩ : ByteArray)).bind fun t137 => (if t137 = true then ((topic_Match.f k (⟨#[42]⟩ : ByteArray) (⟨#[]⟩ : ByteArray)).bind fun t138 => (if t138 = true then (some false) else ((topic_Match.f k (⟨#[97, 46, 42]⟩ : ByteArray) (⟨#[97, 46, 98, 46, 99]⟩ : ByteArray)).bind fun t139 => (if t139 = true then (some false) else ((topic_May.f k (⟨#[97, 46, 42, 46, 35]⟩ : ByteArray)).bind fun t140 => (if t140 = true then ((topic_May.f k (⟨#[97, 42]⟩ : ByteArray)).bind fun t141 => (some (!t141))) else (some false))))))) else (some false))) else (some false))) else (some false))) else (some false))) else (some false)) else (none)) else (some false)) = some r := H
  have A1 := Aside0.mk A10
  clear A10
  by_cases c2 : (t128.length : Int) = 3
  ·rw [if_pos c2] at H
   have c2b0 : ((t128.length : Int) == 3) = true := beq_iff_eq.mpr c2
   have c2b1 : ((t128.length : Int) != 3) = false := bne_eq_false_iff_eq.mpr c2
   clear c2
   by_cases c3 : 1 < (t128.length : Int)
   ·rw [if_pos c3] at H
    have c3b0 : decide (1 < (t128.length : Int)) = true := decide_eq_true c3
    have c3b1 : decide (1 < t128.length) = true := decide_eq_true (by omega)
    clear c3
    by_cases c4 : (rdOf ByteArray.empty t128 1).toList = ([] : List UInt8)
    ·rw [if_pos c4] at H
     have c4b0 : ((rdOf ByteArray.empty t128 1).toList == ([] : List UInt8)) = true := beq_iff_eq.mpr c4
     have c4b1 : ((rdOf ByteArray.empty t128 1).toList != ([] : List UInt8)) = false := bne_eq_false_iff_eq.mpr c4
     clear c4
     replace H := Option.bind_eq_some_iff.mp H
     obtain ⟨t132, A50, H⟩ := H
     replace H : (if (t132.length : Int) = 0 then ((topic_Match.f k (⟨#[97, 46, 35, 46, 98]⟩ : ByteArray) (⟨#[97, 46, 98]⟩ : ByteArray)).bind fun t135 => (if t135 = true then ((topic_Match.f k (⟨#[35]⟩ : ByteArray) (⟨#[]⟩ : ByteArray)).bind fun t136 => (if t136 = true then ((topic_Match.f k (⟨#[42, 46, 98]⟩ : ByteArray) (⟨#[120, 46, 98]⟩ : ByteArray)).bind fun t137 => (if t137 = true then ((topic_Match.f k (⟨#[42]⟩ : ByteArray) (⟨#[]⟩ : ByteArray)).bind fun t138 => (if t138 = true then (some false) else ((topic_Match.f k (⟨#[97, 46, 42]⟩ : ByteArray) (⟨#[97, 46, 98, 46, 99]⟩ : ByteArray)).bind fun t139 => (if t139 = true then (some false) else ((topic_May.f k (⟨#[97, 46, 42, 46, 35]⟩ : ByteArray)).bind fun t140 => (if t140 = true then ((topic_May.f k (⟨#[97, 42]⟩ : ByteArray)).bind fun t141 => (some (!t141))) else (some false))))))) else (some false))) else (some false))) else (some false))) else (some false)) = some r := H
     have A5 := Aside0.mk A50
     clear A50
     by_cases c6 : (t132.length : Int) = 0
     ·rw [if_pos c6] at H
      have c6b0 : ((t132.length : Int) == 0) = true := beq_iff_eq.mpr c6
      have c6b1 : ((t132.length : Int) != 0) = false := bne_eq_false_iff_eq.mpr c6
      clear c6
      replace H := Option.bind_eq_some_iff.mp H
      obtain ⟨t135, A70, H⟩ := H
      replace H : (if t135 = true then ((topic_Match.f k (⟨#[35]⟩ : ByteArray) (⟨#[]⟩ : ByteArray)).bind fun t136 => (if t136 = true then ((topic_Match.f k (⟨#[42, 46, 98]⟩ : ByteArray) (⟨#[120, 46, 98]⟩ : ByteArray)).bind fun t137 => (if t137 = true then ((topic_Match.f k (⟨#[42]⟩ : ByteArray) (⟨#[]⟩ : ByteArray)).bind fun t138 => (if t138 = true then (some false) else ((topic_Match.f k (⟨#[97, 46, 42]⟩ : ByteArray) (⟨#[97, 46, 98, 46, 99]⟩ : ByteArray)).bind fun t139 => (if t139 = true then (some false) else ((topic_May.f k (⟨#[97, 46, 42, 46, 35]⟩ : ByteArray)).bind fun t140 => (if t140 = true then ((topic_May.f k (⟨#[97, 42]⟩ : ByteArray)).bind fun t141 => (some (!t141))) else (some false))))))) else (some false))) else (some false))) else (some false)) = some r := H
      have A7 := Aside0.mk A70
      clear A70
      by_cases c8 : t135 = true
      ·subst c8
       have H1 : ((topic_Match.f k (⟨#[35]⟩ : ByteArray) (⟨#[]⟩ : ByteArray)).bind fun t136 => (if t136 = true then ((topic_Match.f k (⟨#[42, 46, 98]⟩ : ByteArray) (⟨#[120, 46, 98]⟩ : ByteArray)).bind fun t137 => (if t137 = true then ((topic_Match.f k (⟨#[42]⟩ : ByteArray) (⟨#[]⟩ : ByteArray)).bind fun t138 => (if t138 = true then (some false) else ((topic_Match.f k (⟨#[97, 46, 42]⟩ : ByteArray) (⟨#[97, 46, 98, 46, 99]⟩ : ByteArray)).bind fun t139 => (if t139 = true then (some false) else ((topic_May.f k (⟨#[97, 46, 42, 46, 35]⟩ : ByteArray)).bind fun t140 => (if t140 = true then ((topic_May.f k (⟨#[97, 42]⟩ : ByteArray)).bind fun t141 => (some (!t141))) else (some false))))))) else (some false))) else (some false))) = some r := by rw [if_pos rfl] at H; exact H
       clear H
       have H := H1
       clear H1
       replace H := Option.bind_eq_some_iff.mp H
       obtain ⟨t136, A90, H⟩ := H
       replace H : (if t136 = true then ((topic_Match.f k (⟨#[42, 46, 98]⟩ : ByteArray) (⟨#[120, 46, 98]⟩ : ByteArray)).bind fun t137 => (if t137 = true then ((topic_Match.f k (⟨#[42]⟩ : ByteArray) (⟨#[]⟩ : ByteArray)).bind fun t138 => (if t138 = true then (some false) else ((topic_Match.f k (⟨#[97, 46, 42]⟩ : ByteArray) (⟨#[97, 46, 98, 46, 99]⟩ : ByteArray)).bind fun t139 => (if t139 = true then (some false) else ((topic_May.f k (⟨#[97, 46, 42, 46, 35]⟩ : ByteArray)).bind fun t140 => (if t140 = true then ((topic_May.f k (⟨#[97, 42]⟩ : ByteArray)).bind fun t141 => (some (!t141))) else (some false))))))) else (some false))) else (some false)) = some r := H
       have A9 := Aside0.mk A90
       clear A90
       by_cases c10 : t136 = true
       ·subst c10
        have H1 : ((topic_Match.f k (⟨#[42, 46, 98]⟩ : ByteArray) (⟨#[120, 46, 98]⟩ : ByteArray)).bind fun t137 => (if t137 = true then ((topic_Match.f k (⟨#[42]⟩ : ByteArray) (⟨#[]⟩ : ByteArray)).bind fun t138 => (if t138 = true then (some false) else ((topic_Match.f k (⟨#[97, 46, 42]⟩ : ByteArray) (⟨#[97, 46, 98, 46, 99]⟩ : ByteArray)).bind fun t139 => (if t139 = true then (some false) else ((topic_May.f k (⟨#[97, 46, 42, 46, 35]⟩ : ByteArray)).bind fun t140 => (if t140 = true then ((topic_May.f k (⟨#[97, 42]⟩ : ByteArray)).bind fun t141 => (some (!t141))) else (some false))))))) else (some false))) = some r := by rw [if_pos rfl] at H; exact H
        clear H
        have H := H1
        clear H1
        replace H := Option.bind_eq_some_iff.mp H
        obtain ⟨t137, A110, H⟩ := H
        replace H : (if t137 = true then ((topic_Match.f k (⟨#[42]⟩ : ByteArray) (⟨#[]⟩ : ByteArray)).bind fun t138 => (if t138 = true then (some false) else ((topic_Match.f k (⟨#[97, 46, 42]⟩ : ByteArray) (⟨#[97, 46, 98, 46, 99]⟩ : ByteArray)).bind fun t139 => (if t139 = true then (some false) else ((topic_May.f k (⟨#[97, 46, 42, 46, 35]⟩ : ByteArray)).bind fun t140 => (if t140 = true then ((topic_May.f k (⟨#[97, 42]⟩ : ByteArray)).bind fun t141 => (some (!t141))) else (some false))))))) else (some false)) = some r := H
        have A11 := Aside0.mk A110
        clear A110
        by_cases c12 : t137 = true
        ·subst c12
         have H1 : ((topic_Match.f k (⟨#[42]⟩ : ByteArray) (⟨#[]⟩ : ByteArray)).bind fun t138 => (if t138 = true then (some false) else ((topic_Match.f k (⟨#[97, 46, 42]⟩ : ByteArray) (⟨#[97, 46, 98, 46, 99]⟩ : ByteArray)).bind fun t139 => (if t139 = true then (some false) else ((topic_May.f k (⟨#[97, 46, 42, 46, 35]⟩ : ByteArray)).bind fun t140 => (if t140 = true then ((topic_May.f k (⟨#[97, 42]⟩ : ByteArray)).bind fun t141 => (some (!t141))) else (some false))))))) = some r := by rw [if_pos rfl] at H; exact H
         clear H
         have H := H1
         clear H1
         replace H := Option.bind_eq_some_iff.mp H
         obtain ⟨t138, A130, H⟩ := H
         replace H : (if t138 = true then (some false) else ((topic_Match.f k (⟨#[97, 46, 42]⟩ : ByteArray) (⟨#[97, 46, 98, 46, 99]⟩ : ByteArray)).bind fun t139 => (if t139 = true then (some false) else ((topic_May.f k (⟨#[97, 46, 42, 46, 35]⟩ : ByteArray)).bind fun t140 => (if t140 = true then ((topic_May.f k (⟨#[97, 42]⟩ : ByteArray)).bind fun t141 => (some (!t141))) else (some false)))))) = some r := H
         have A13 := Aside0.mk A130
         clear A130
         by_cases c14 : t138 = true
         ·subst c14
          have H1 : (some false) = some r := by rw [if_pos rfl] at H; exact H
          clear H
          have H := H1
          clear H1
          rw [HRT.out] at H
          exact absurd H (by (repeat' split) <;> simp [Option.bind_eq_some_iff])
         ·replace c14 := Bool.eq_false_iff.mpr c14
          subst c14
          have H1 : ((topic_Match.f k (⟨#[97, 46, 42]⟩ : ByteArray) (⟨#[97, 46, 98, 46, 99]⟩ : ByteArray)).bind fun t139 => (if t139 = true then (some false) else ((topic_May.f k (⟨#[97, 46, 42, 46, 35]⟩ : ByteArray)).bind fun t140 => (if t140 = true then ((topic_May.f k (⟨#[97, 42]⟩ : ByteArray)).bind fun t141 => (some (!t141))) else (some false))))) = some r := by rw [if_neg (show ¬ (false = true) by decide)] at H; exact H
          clear H
          have H := H1
          clear H1
          replace H := Option.bind_eq_some_iff.mp H
          obtain ⟨t139, A150, H⟩ := H
          replace H : (if t139 = true then (some false) else ((topic_May.f k (⟨#[97, 46, 42, 46, 35]⟩ : ByteArray)).bind fun t140 => (if t140 = true then ((topic_May.f k (⟨#[97, 42]⟩ : ByteArray)).bind fun t141 => (some (!t141))) else (some false)))) = some r := H
          have A15 := Aside0.mk A150
          clear A150
          by_cases c16 : t139 = true
          ·subst c16
           have H1 : (some false) = some r := by rw [if_pos rfl] at H; exact H
           clear H
           have H := H1
           clear H1
           rw [HRT.out] at H
           exact absurd H (by (repeat' split) <;> simp [Option.bind_eq_some_iff])
          ·replace c16 := Bool.eq_false_iff.mpr c16
           subst c16
           have H1 : ((topic_May.f k (⟨#[97, 46, 42, 46, 35]⟩ : ByteArray)).bind fun t140 => (if t140 = true then ((topic_May.f k (⟨#[97, 42]⟩ : ByteArray)).bind fun t141 => (some (!t141))) else (some false))) = some r := by rw [if_neg (show ¬ (false = true) by decide)] at H; exact H
           clear H
           have H := H1
           clear H1
           replace H := Option.bind_eq_some_iff.mp H
           obtain ⟨t140, A170, H⟩ := H
           replace H : (if t140 = true then ((topic_May.f k (⟨#[97, 42]⟩ : ByteArray)).bind fun t141 => (some (!t141))) else (some false)) = some r := H
           have A17 := Aside0.mk A170
           clear A170
           by_cases c18 : t140 = true
           ·subst c18
            have H1 : ((topic_May.f k (⟨#[97, 42]⟩ : ByteArray)).bind fun t141 => (some (!t141))) = some r := by rw [if_pos rfl] at H; exact H
            clear H
            have H := H1
            clear H1
            replace H := Option.bind_eq_some_iff.mp H
            obtain ⟨t141, A190, H⟩ := H
            replace H : (some (!t141)) = some r := H
            have A19 := Aside0.mk A190
            clear A190
            clear HRT
            obtain rfl := Option.some.inj H
            go_enter Tryd.func8, Tryd.ntmps8
            go_wp2_with (first | ((with_reducible refine gate_callee (f := 9) rfl ?_); refine goesL_ (some 2) rfl rfl Tryd.func9 (by kernel_rfl) rfl #[.string (⟨#[97, 46, 46, 98]⟩ : ByteArray)] rfl (by (try simp only [List.map_toArray, List.map_cons, List.map_nil]); first | done | rfl | (simp only [List.length_drop, List.length_take]; rfl)) ?_; (with_reducible refine (topic_Words.calls (⟨#[97, 46, 46, 98]⟩ : ByteArray) t128 _ ?side1 A1.out).mono ?_); (case side1 => exact Gl.below HGL.out (by repeat (first | (with_reducible first | exact HB.out | apply below_alloc | apply pw_below_drewN | apply below_drew1) | exact HB.out))); rintro e w20 ⟨v129, rfl, ho0, hb⟩; refine ⟨_, rfl, ?_⟩; have n0_ := Aside0.mk (Kd.R_lower ho0 (below_size (by repeat (first | (with_reducible first | exact HB.out | apply below_alloc | apply pw_below_drewN | apply below_drew1) | exact HB.out)))); have n1_ := Aside0.mk (below_step (by repeat (first | (with_reducible first | exact HB.out | apply below_alloc | apply pw_below_drewN | apply below_drew1) | exact HB.out)) hb); clear HB; have HO130 := n0_; have HB := n1_; clear n0_ n1_; (try clear hb); (try clear hb2); (try clear hk); (try clear hi); (try clear ho0); obtain ⟨Ao21, co21, eo21⟩ := Kd.R_slice HO130.out; subst eo21; have p131 : 0 ≤ (1 : Int) := (by omega); have q131 : 1 < (t128.length : Int) := of_decide_eq_true (by first | (with_reducible assumption) | assumption); obtain ⟨ad131, e131, hx131_0⟩ := Kd.at_string (Kd.R_reads' HO130.out).2.2 1 p131 q131; cases e131; (try simp only [show (1 : Int).toNat = 1 from rfl, Nat.reduceMul, Nat.reduceEqDiff, Go.Addr.add, ↓reduceIte] at hx131_0); have qi131 : (1 < t128.length) = True := eq_true (by omega); (try rw [show ((1 : Int)).toNat = 1 from rfl] at hx131_0); replace p131 := eq_true p131; replace q131 := eq_true q131) | ((with_reducible refine gate_dst (N := 13) rfl ?_); (try (refine gate_guard (by rfl) ?_; dsimp only)); (try (refine gate_guard (by rfl) ?_; dsimp only)); (with_reducible refine gate_callee (f := 9) rfl ?_); refine goesL_ (some 13) rfl rfl Tryd.func9 (by kernel_rfl) rfl #[.string (⟨#[]⟩ : ByteArray)] rfl (by (try simp only [List.map_toArray, List.map_cons, List.map_nil]); first | done | rfl | (simp only [List.length_drop, List.length_take]; rfl)) ?_; (with_reducible refine (topic_Words.calls (⟨#[]⟩ : ByteArray) t132 _ ?side1 A5.out).mono ?_); (case side1 => exact Gl.below HGL.out (by repeat (first | (with_reducible first | exact HB.out | apply below_alloc | apply pw_below_drewN | apply below_drew1) | exact HB.out))); rintro e w22 ⟨v133, rfl, ho0, hb⟩; refine ⟨_, rfl, ?_⟩; have n0_ := Aside0.mk (Kd.R_elder' (by (with_reducible repeat (first | apply Kd.R_alloc | apply Kd.R_drewN | apply Kd.R_drew)); exact HO130.out) (Kd.R_base ho0) hb); have n1_ := Aside0.mk (Kd.R_lower (Kd.R_new' ho0 (Kd.R_lt (by (with_reducible repeat (first | apply Kd.R_alloc | apply Kd.R_drewN | apply Kd.R_drew)); exact HO130.out))) (below_size (by repeat (first | (with_reducible first | exact HB.out | apply below_alloc | apply pw_below_drewN | apply below_drew1) | exact HB.out)))); have n2_ := Aside0.mk (below_step (by repeat (first | (with_reducible first | exact HB.out | apply below_alloc | apply pw_below_drewN | apply below_drew1) | exact HB.out)) hb); clear HO130; clear HB; have HO130 := n0_; have HO134 := n1_; have HB := n2_; clear n0_ n1_ n2_; (try clear hb); (try clear hb2); (try clear hk); (try clear hi); (try clear ho0); obtain ⟨Ao23, co23, eo23⟩ := Kd.R_slice HO134.out; subst eo23) | ((with_reducible refine gate_dst (N := 18) rfl ?_); (try (refine gate_guard (by rfl) ?_; dsimp only)); (try (refine gate_guard (by rfl) ?_; dsimp only)); (with_reducible refine gate_callee (f := 13) rfl ?_); refine goesL_ (some 18) rfl rfl Tryd.func13 (by kernel_rfl) rfl #[.string (⟨#[97, 46, 35, 46, 98]⟩ : ByteArray), .string (⟨#[97, 46, 98]⟩ : ByteArray)] rfl (by (try simp only [List.map_toArray, List.map_cons, List.map_nil]); first | done | rfl | (simp only [List.length_drop, List.length_take]; rfl)) ?_; (with_reducible refine (topic_Match.calls k (⟨#[97, 46, 35, 46, 98]⟩ : ByteArray) (⟨#[97, 46, 98]⟩ : ByteArray) true _ ?side1 A7.out).mono ?_); (case side1 => exact Gl.below HGL.out (by repeat (first | (with_reducible first | exact HB.out | apply below_alloc | apply pw_below_drewN | apply below_drew1) | exact HB.out))); rintro e w24 ⟨rfl, hb⟩; refine ⟨_, rfl, ?_⟩; have n0_ := Aside0.mk (Kd.R_below (by (with_reducible repeat (first | apply Kd.R_alloc | apply Kd.R_drewN | apply Kd.R_drew)); exact HO130.out) hb); have n1_ := Aside0.mk (Kd.R_below (by (with_reducible repeat (first | apply Kd.R_alloc | apply Kd.R_drewN | apply Kd.R_drew)); exact HO134.out) hb); have n2_ := Aside0.mk (below_step (by repeat (first | (with_reducible first | exact HB.out | apply below_alloc | apply pw_below_drewN | apply below_drew1) | exact HB.out)) hb); clear HO130; clear HO134; clear HB; have HO130 := n0_; have HO134 := n1_; have HB := n2_; clear n0_ n1_ n2_; (try clear hb); (try clear hb2); (try clear hk); (try clear hi)) | ((with_reducible refine gate_dst (N := 21) rfl ?_); (try (refine gate_guard (by rfl) ?_; dsimp only)); (try (refine gate_guard (by rfl) ?_; dsimp only)); (with_reducible refine gate_callee (f := 13) rfl ?_); refine goesL_ (some 21) rfl rfl Tryd.func13 (by kernel_rfl) rfl #[.string (⟨#[35]⟩ : ByteArray), .string (⟨#[]⟩ : ByteArray)] rfl (by (try simp only [List.map_toArray, List.map_cons, List.map_nil]); first | done | rfl | (simp only [List.length_drop, List.length_take]; rfl)) ?_; (with_reducible refine (topic_Match.calls k (⟨#[35]⟩ : ByteArray) (⟨#[]⟩ : ByteArray) true _ ?side1 A9.out).mono ?_); (case side1 => exact Gl.below HGL.out (by repeat (first | (with_reducible first | exact HB.out | apply below_alloc | apply pw_below_drewN | apply below_drew1) | exact HB.out))); rintro e w25 ⟨rfl, hb⟩; refine ⟨_, rfl, ?_⟩; have n0_ := Aside0.mk (Kd.R_below (by (with_reducible repeat (first | apply Kd.R_alloc | apply Kd.R_drewN | apply Kd.R_drew)); exact HO130.out) hb); have n1_ := Aside0.mk (Kd.R_below (by (with_reducible repeat (first | apply Kd.R_alloc | apply Kd.R_drewN | apply Kd.R_drew)); exact HO134.out) hb); have n2_ := Aside0.mk (below_step (by repeat (first | (with_reducible first | exact HB.out | apply below_alloc | apply pw_below_drewN | apply below_drew1) | exact HB.out)) hb); clear HO130; clear HO134; clear HB; have HO130 := n0_; have HO134 := n1_; have HB := n2_; clear n0_ n1_ n2_; (try clear hb); (try clear hb2); (try clear hk); (try clear hi)) | ((with_reducible refine gate_dst (N := 24) rfl ?_); (try (refine gate_guard (by rfl) ?_; dsimp only)); (try (refine gate_guard (by rfl) ?_; dsimp only)); (with_reducible refine gate_callee (f := 13) rfl ?_); refine goesL_ (some 24) rfl rfl Tryd.func13 (by kernel_rfl) rfl #[.string (⟨#[42, 46, 98]⟩ : ByteArray), .string (⟨#[120, 46, 98]⟩ : ByteArray)] rfl (by (try simp only [List.map_toArray, List.map_cons, List.map_nil]); first | done | rfl | (simp only [List.length_drop, List.length_take]; rfl)) ?_; (with_reducible refine (topic_Match.calls k (⟨#[42, 46, 98]⟩ : ByteArray) (⟨#[120, 46, 98]⟩ : ByteArray) true _ ?side1 A11.out).mono ?_); (case side1 => exact Gl.below HGL.out (by repeat (first | (with_reducible first | exact HB.out | apply below_alloc | apply pw_below_drewN | apply below_drew1) | exact HB.out))); rintro e w26 ⟨rfl, hb⟩; refine ⟨_, rfl, ?_⟩; have n0_ := Aside0.mk (Kd.R_below (by (with_reducible repeat (first | apply Kd.R_alloc | apply Kd.R_drewN | apply Kd.R_drew)); exact HO130.out) hb); have n1_ := Aside0.mk (Kd.R_below (by (with_reducible repeat (first | apply Kd.R_alloc | apply Kd.R_drewN | apply Kd.R_drew)); exact HO134.out) hb); have n2_ := Aside0.mk (below_step (by repeat (first | (with_reducible first | exact HB.out | apply below_alloc | apply pw_below_drewN | apply below_drew1) | exact HB.out)) hb); clear HO130; clear HO134; clear HB; have HO130 := n0_; have HO134 := n1_; have HB := n2_; clear n0_ n1_ n2_; (try clear hb); (try clear hb2); (try clear hk); (try clear hi)) | ((with_reducible refine gate_dst (N := 27) rfl ?_); (try (refine gate_guard (by rfl) ?_; dsimp only)); (try (refine gate_guard (by rfl) ?_; dsimp only)); (with_reducible refine gate_callee (f := 13) rfl ?_); refine goesL_ (some 27) rfl rfl Tryd.func13 (by kernel_rfl) rfl #[.string (⟨#[42]⟩ : ByteArray), .string (⟨#[]⟩ : ByteArray)] rfl (by (try simp only [List.map_toArray, List.map_cons, List.map_nil]); first | done | rfl | (simp only [List.length_drop, List.length_take]; rfl)) ?_; (with_reducible refine (topic_Match.calls k (⟨#[42]⟩ : ByteArray) (⟨#[]⟩ : ByteArray) false _ ?side1 A13.out).mono ?_); (case side1 => exact Gl.below HGL.out (by repeat (first | (with_reducible first | exact HB.out | apply below_alloc | apply pw_below_drewN | apply below_drew1) | exact HB.out))); rintro e w27 ⟨rfl, hb⟩; refine ⟨_, rfl, ?_⟩; have n0_ := Aside0.mk (Kd.R_below (by (with_reducible repeat (first | apply Kd.R_alloc | apply Kd.R_drewN | apply Kd.R_drew)); exact HO130.out) hb); have n1_ := Aside0.mk (Kd.R_below (by (with_reducible repeat (first | apply Kd.R_alloc | apply Kd.R_drewN | apply Kd.R_drew)); exact HO134.out) hb); have n2_ := Aside0.mk (below_step (by repeat (first | (with_reducible first | exact HB.out | apply below_alloc | apply pw_below_drewN | apply below_drew1) | exact HB.out)) hb); clear HO130; clear HO134; clear HB; have HO130 := n0_; have HO134 := n1_; have HB := n2_; clear n0_ n1_ n2_; (try clear hb); (try clear hb2); (try clear hk); (try clear hi)) | ((with_reducible refine gate_dst (N := 31) rfl ?_); (try (refine gate_guard (by rfl) ?_; dsimp only)); (try (refine gate_guard (by rfl) ?_; dsimp only)); (with_reducible refine gate_callee (f := 13) rfl ?_); refine goesL_ (some 31) rfl rfl Tryd.func13 (by kernel_rfl) rfl #[.string (⟨#[97, 46, 42]⟩ : ByteArray), .string (⟨#[97, 46, 98, 46, 99]⟩ : ByteArray)] rfl (by (try simp only [List.map_toArray, List.map_cons, List.map_nil]); first | done | rfl | (simp only [List.length_drop, List.length_take]; rfl)) ?_; (with_reducible refine (topic_Match.calls k (⟨#[97, 46, 42]⟩ : ByteArray) (⟨#[97, 46, 98, 46, 99]⟩ : ByteArray) false _ ?side1 A15.out).mono ?_); (case side1 => exact Gl.below HGL.out (by repeat (first | (with_reducible first | exact HB.out | apply below_alloc | apply pw_below_drewN | apply below_drew1) | exact HB.out))); rintro e w28 ⟨rfl, hb⟩; refine ⟨_, rfl, ?_⟩; have n0_ := Aside0.mk (Kd.R_below (by (with_reducible repeat (first | apply Kd.R_alloc | apply Kd.R_drewN | apply Kd.R_drew)); exact HO130.out) hb); have n1_ := Aside0.mk (Kd.R_below (by (with_reducible repeat (first | apply Kd.R_alloc | apply Kd.R_drewN | apply Kd.R_drew)); exact HO134.out) hb); have n2_ := Aside0.mk (below_step (by repeat (first | (with_reducible first | exact HB.out | apply below_alloc | apply pw_below_drewN | apply below_drew1) | exact HB.out)) hb); clear HO130; clear HO134; clear HB; have HO130 := n0_; have HO134 := n1_; have HB := n2_; clear n0_ n1_ n2_; (try clear hb); (try clear hb2); (try clear hk); (try clear hi)) | ((with_reducible refine gate_dst (N := 35) rfl ?_); (try (refine gate_guard (by rfl) ?_; dsimp only)); (try (refine gate_guard (by rfl) ?_; dsimp only)); (with_reducible refine gate_callee (f := 11) rfl ?_); refine goesL_ (some 35) rfl rfl Tryd.func11 (by kernel_rfl) rfl #[.string (⟨#[97, 46, 42, 46, 35]⟩ : ByteArray)] rfl (by (try simp only [List.map_toArray, List.map_cons, List.map_nil]); first | done | rfl | (simp only [List.length_drop, List.length_take]; rfl)) ?_; (with_reducible refine (topic_May.calls k (⟨#[97, 46, 42, 46, 35]⟩ : ByteArray) true _ ?side1 A17.out).mono ?_); (case side1 => exact Gl.below HGL.out (by repeat (first | (with_reducible first | exact HB.out | apply below_alloc | apply pw_below_drewN | apply below_drew1) | exact HB.out))); rintro e w29 ⟨rfl, hb⟩; refine ⟨_, rfl, ?_⟩; have n0_ := Aside0.mk (Kd.R_below (by (with_reducible repeat (first | apply Kd.R_alloc | apply Kd.R_drewN | apply Kd.R_drew)); exact HO130.out) hb); have n1_ := Aside0.mk (Kd.R_below (by (with_reducible repeat (first | apply Kd.R_alloc | apply Kd.R_drewN | apply Kd.R_drew)); exact HO134.out) hb); have n2_ := Aside0.mk (below_step (by repeat (first | (with_reducible first | exact HB.out | apply below_alloc | apply pw_below_drewN | apply below_drew1) | exact HB.out)) hb); clear HO130; clear HO134; clear HB; have HO130 := n0_; have HO134 := n1_; have HB := n2_; clear n0_ n1_ n2_; (try clear hb); (try clear hb2); (try clear hk); (try clear hi)) | ((with_reducible refine gate_dst (N := 38) rfl ?_); (try (refine gate_guard (by rfl) ?_; dsimp only)); (try (refine gate_guard (by rfl) ?_; dsimp only)); (with_reducible refine gate_callee (f := 11) rfl ?_); refine goesL_ (some 38) rfl rfl Tryd.func11 (by kernel_rfl) rfl #[.string (⟨#[97, 42]⟩ : ByteArray)] rfl (by (try simp only [List.map_toArray, List.map_cons, List.map_nil]); first | done | rfl | (simp only [List.length_drop, List.length_take]; rfl)) ?_; (with_reducible refine (topic_May.calls k (⟨#[97, 42]⟩ : ByteArray) t141 _ ?side1 A19.out).mono ?_); (case side1 => exact Gl.below HGL.out (by repeat (first | (with_reducible first | exact HB.out | apply below_alloc | apply pw_below_drewN | apply below_drew1) | exact HB.out))); rintro e w30 ⟨rfl, hb⟩; refine ⟨_, rfl, ?_⟩; have n0_ := Aside0.mk (Kd.R_below (by (with_reducible repeat (first | apply Kd.R_alloc | apply Kd.R_drewN | apply Kd.R_drew)); exact HO130.out) hb); have n1_ := Aside0.mk (Kd.R_below (by (with_reducible repeat (first | apply Kd.R_alloc | apply Kd.R_drewN | apply Kd.R_drew)); exact HO134.out) hb); have n2_ := Aside0.mk (below_step (by repeat (first | (with_reducible first | exact HB.out | apply below_alloc | apply pw_below_drewN | apply below_drew1) | exact HB.out)) hb); clear HO130; clear HO134; clear HB; have HO130 := n0_; have HO134 := n1_; have HB := n2_; clear n0_ n1_ n2_; (try clear hb); (try clear hb2); (try clear hk); (try clear hi)))
            go_ret
            exact ⟨by first | rfl | (simp [errW_none, errW_some] <;> rfl) | (simp [*, errW_none, errW_some] <;> rfl), by repeat (first | (with_reducible first | exact HB.out | apply below_alloc | apply pw_below_drewN | apply below_drew1) | exact HB.out)⟩
           ·replace c18 := Bool.eq_false_iff.mpr c18
            subst c18
            have H1 : (some false) = some r := by rw [if_neg (show ¬ (false = true) by decide)] at H; exact H
            clear H
            have H := H1
            clear H1
            rw [HRT.out] at H
            exact absurd H (by (repeat' split) <;> simp [Option.bind_eq_some_iff])
        ·replace c12 := Bool.eq_false_iff.mpr c12
         subst c12
         have H1 : (some false) = some r := by rw [if_neg (show ¬ (false = true) by decide)] at H; exact H
         clear H
         have H := H1
         clear H1
         rw [HRT.out] at H
         exact absurd H (by (repeat' split) <;> simp [Option.bind_eq_some_iff])
       ·replace c10 := Bool.eq_false_iff.mpr c10
        subst c10
        have H1 : (some false) = some r := by rw [if_neg (show ¬ (false = true) by decide)] at H; exact H
        clear H
        have H := H1
        clear H1
        rw [HRT.out] at H
        exact absurd H (by (repeat' split) <;> simp [Option.bind_eq_some_iff])
      ·replace c8 := Bool.eq_false_iff.mpr c8
       subst c8
       have H1 : (some false) = some r := by rw [if_neg (show ¬ (false = true) by decide)] at H; exact H
       clear H
       have H := H1
       clear H1
       rw [HRT.out] at H
       exact absurd H (by (repeat' split) <;> simp [Option.bind_eq_some_iff])
     ·rw [if_neg c6] at H
      have c6b0 : ((t132.length : Int) == 0) = false := beq_eq_false_iff_ne.mpr c6
      have c6b1 : ((t132.length : Int) != 0) = true := bne_iff_ne.mpr c6
      have c6b2 : ¬ (t132 = []) := fun h_ => c6 (by rw [h_]; rfl)
      rw [HRT.out] at H
      exact absurd H (by (repeat' split) <;> simp [Option.bind_eq_some_iff])
    ·rw [if_neg c4] at H
     have c4b0 : ((rdOf ByteArray.empty t128 1).toList == ([] : List UInt8)) = false := beq_eq_false_iff_ne.mpr c4
     have c4b1 : ((rdOf ByteArray.empty t128 1).toList != ([] : List UInt8)) = true := bne_iff_ne.mpr c4
     rw [HRT.out] at H
     exact absurd H (by (repeat' split) <;> simp [Option.bind_eq_some_iff])
   ·rw [if_neg c3] at H
    exact absurd H (by simp)
  ·rw [if_neg c2] at H
   have c2b0 : ((t128.length : Int) == 3) = false := beq_eq_false_iff_ne.mpr c2
   have c2b1 : ((t128.length : Int) != 3) = true := bne_iff_ne.mpr c2
   rw [HRT.out] at H
   exact absurd H (by (repeat' split) <;> simp [Option.bind_eq_some_iff])
theorem carrefourlaw7_told.true_ : carrefourlaw7_told.f 200 = some true := by kernel_rfl
theorem carrefourlaw7_told.calls (k : Nat) (r : Bool) (w : World) (hgl : Gl w) (h : carrefourlaw7_told.f k = some r) :
    Calls Tryd.prog 8 #[] w fun e w' => e = .returned (.bool r) ∧ Below w.heap.size w w' := by
  have h1 := at_rounds (g := fun k => carrefourlaw7_told.f k) (fun k => carrefourlaw7_told.mono k) (Nat.le_max_left k 200) h
  have h2 := at_rounds (g := fun k => carrefourlaw7_told.f k) (fun k => carrefourlaw7_told.mono k) (Nat.le_max_right k 200) carrefourlaw7_told.true_
  obtain rfl : r = true := Option.some.inj (h1.symm.trans h2)
  exact carrefourlaw7_told.calls_true k true w hgl rfl h

/-! ### carrefourlaw7_join: function 15 -/
def carrefourlaw7_join.l1 : Nat → List ByteArray → ByteArray → Int → Option (ByteArray)
  | 0, _, _, _ => none
  | k + 1, x0, x3, x4 => if x4 < (x0.length : Int) then (if x4 > 0 then (if x3.size + 1 ≤ 9223372036854775807 then (if 0 ≤ x4 then (if (x3 ++ (⟨#[46]⟩ : ByteArray)).size + (rdOf ByteArray.empty x0 x4).size ≤ 9223372036854775807 then (carrefourlaw7_join.l1 k x0 ((x3 ++ (⟨#[46]⟩ : ByteArray)) ++ (rdOf ByteArray.empty x0 x4)) (wrap64 (x4 + 1))) else (none)) else (none)) else (none)) else (if 0 ≤ x4 then (if x3.size + (rdOf ByteArray.empty x0 x4).size ≤ 9223372036854775807 then (carrefourlaw7_join.l1 k x0 (x3 ++ (rdOf ByteArray.empty x0 x4)) (wrap64 (x4 + 1))) else (none)) else (none))) else (some x3)
def carrefourlaw7_join.f (k : Nat) (l0 : List ByteArray) : Option (ByteArray) := carrefourlaw7_join.l1 k l0 (⟨#[]⟩ : ByteArray) 0
theorem carrefourlaw7_join.mono_l : ∀ k, (∀ y0 y1 y2, LeO (carrefourlaw7_join.l1 k y0 y1 y2) (carrefourlaw7_join.l1 (k + 1) y0 y1 y2))
  | 0 => fun _ _ _ r h => by simp [carrefourlaw7_join.l1] at h
  | k + 1 => by
    have ih0 := carrefourlaw7_join.mono_l k
    · intro y0 y1 y2
      unfold carrefourlaw7_join.l1
      repeat' first
      | (with_reducible exact ih0 _ _ _)
      | (with_reducible exact LeO.refl _)
      | (with_reducible exact LeO.none _)
      | (with_reducible refine LeO.ite ?_ ?_)
      | (with_reducible refine LeO.bind ?_ (fun _ => ?_))
      | exact ih0 _ _ _
      | exact LeO.none _
      | refine LeO.ite ?_ ?_
      | refine LeO.bind ?_ (fun _ => ?_)
theorem carrefourlaw7_join.mono : ∀ a0 k, LeO (carrefourlaw7_join.f k a0) (carrefourlaw7_join.f (k + 1) a0) := by
  intro a0 k
  have ih0 := carrefourlaw7_join.mono_l k
  unfold carrefourlaw7_join.f
  repeat' first
      | (with_reducible exact ih0 _ _ _)
      | (with_reducible exact LeO.refl _)
      | (with_reducible exact LeO.none _)
      | (with_reducible refine LeO.ite ?_ ?_)
      | (with_reducible refine LeO.bind ?_ (fun _ => ?_))
      | exact ih0 _ _ _
      | exact LeO.none _
      | refine LeO.ite ?_ ?_
      | refine LeO.bind ?_ (fun _ => ?_)
set_option maxHeartbeats 8000000 in
set_option maxRecDepth 100000 in
theorem carrefourlaw7_join.calls (k : Nat) (A0 : Option Addr) (c0 : Nat) (l0 : List ByteArray) (r : ByteArray) (w : World) (hr0 : Kd.C Kd.string w A0 l0.length l0) (hc0 : l0.length ≤ c0) (h : carrefourlaw7_join.f k l0 = some r) :
    Calls Tryd.prog 15 #[.slice A0 l0.length c0] w fun e w' => e = .returned (.string r) ∧ Drawn0 w w' := by
  have HR0 := Aside0.mk hr0
  have HC0 := Aside0.mk hc0
  clear hr0 hc0
  have H : (carrefourlaw7_join.l1 k l0 (⟨#[]⟩ : ByteArray) 0) = some r := h
  clear h
  have H' := Aside0.mk H
  clear H
  go_enter Tryd.func15, Tryd.ntmps15
  go_wp2
  go_loopg [3, 4] k (fun kq v3 v4 w' => ∃ (x3_1 : ByteArray) (x4_1 : Int), v3 = .string x3_1 ∧ v4 = .int .i64 x4_1 ∧ Aside0 (carrefourlaw7_join.l1 kq l0 x3_1 x4_1 = some r) ∧ Aside0 (kq ≤ k) ∧ Drawn0 w w')
  case atStart => exact ⟨((⟨#[]⟩ : ByteArray)), (0), (by first | rfl | (simp; done) | (simp [*]; done)), (by first | rfl | (simp; done) | (simp [*]; done)), H', ⟨Nat.le_refl _⟩, by repeat (first | exact Drawn0.refl _ | apply Drawn0.step)⟩
  case round =>
   clear H'
   try clear c1
   obtain ⟨x3_1, x4_1, rfl, rfl, HA, HK1, ⟨m1, rfl⟩⟩ := hrel
   cases gk with
   | zero => exact absurd HA.out (by simp [carrefourlaw7_join.l1])
   | succ k1 =>
    have H := HA.out
    clear HA
    simp only [carrefourlaw7_join.l1] at H
    by_cases c2 : x4_1 < (l0.length : Int)
    ·rw [if_pos c2] at H
     have c2b0 : decide (x4_1 < (l0.length : Int)) = true := decide_eq_true c2
     clear c2
     by_cases c3 : x4_1 > 0
     ·rw [if_pos c3] at H
      have c3b0 : decide (0 < x4_1) = true := decide_eq_true c3
      clear c3
      by_cases c4 : x3_1.size + 1 ≤ 9223372036854775807
      ·rw [if_pos c4] at H
       have c4b0 := eq_true c4
       have c4b1 : decide (x3_1.size + 1 ≤ 9223372036854775807) = true := decide_eq_true c4
       try have c4b2 : (9223372036854775807 < x3_1.size + 1) = False := eq_false (Nat.not_lt.2 c4)
       by_cases c5 : 0 ≤ x4_1
       ·rw [if_pos c5] at H
        have c5b0 : decide (0 ≤ x4_1) = true := decide_eq_true c5
        clear c5
        by_cases c6 : (x3_1 ++ (⟨#[46]⟩ : ByteArray)).size + (rdOf ByteArray.empty l0 x4_1).size ≤ 9223372036854775807
        ·rw [if_pos c6] at H
         have c6b0 := eq_true c6
         have c6b1 : decide ((x3_1 ++ (⟨#[46]⟩ : ByteArray)).size + (rdOf ByteArray.empty l0 x4_1).size ≤ 9223372036854775807) = true := decide_eq_true c6
         try have c6b2 : (9223372036854775807 < (x3_1 ++ (⟨#[46]⟩ : ByteArray)).size + (rdOf ByteArray.empty l0 x4_1).size) = False := eq_false (Nat.not_lt.2 c6)
         try have c6b3 := c6b2
         try simp only [ByteArray.size_append] at c6b3
         have H' := Aside0.mk H
         clear H
         have p142 : 0 ≤ (x4_1 : Int) := of_decide_eq_true (by first | (with_reducible assumption) | assumption)
         have q142 : x4_1 < (l0.length : Int) := of_decide_eq_true (by first | (with_reducible assumption) | assumption)
         obtain ⟨ad142, e142, hx142_0⟩ := Kd.at_string HR0.out x4_1 p142 q142
         cases e142
         replace p142 := eq_true p142
         replace q142 := eq_true q142
         go_wp2
         go_roundg k1
         case measure => have := HK1.out; omega
         case rel => exact ⟨((x3_1 ++ (⟨#[46]⟩ : ByteArray)) ++ (rdOf ByteArray.empty l0 x4_1)), (wrap64 (x4_1 + 1)), (by first | rfl | (simp; done) | (simp [*]; done)), (by first | rfl | (simp; done) | (simp [*]; done)), H', ⟨by have := HK1.out; omega⟩, by repeat (first | exact Drawn0.refl _ | apply Drawn0.step)⟩
        ·rw [if_neg c6] at H
         exact absurd H (by simp)
       ·rw [if_neg c5] at H
        exact absurd H (by simp)
      ·rw [if_neg c4] at H
       exact absurd H (by simp)
     ·rw [if_neg c3] at H
      have c3b0 : decide (0 < x4_1) = false := decide_eq_false c3
      clear c3
      by_cases c7 : 0 ≤ x4_1
      ·rw [if_pos c7] at H
       have c7b0 : decide (0 ≤ x4_1) = true := decide_eq_true c7
       clear c7
       by_cases c8 : x3_1.size + (rdOf ByteArray.empty l0 x4_1).size ≤ 9223372036854775807
       ·rw [if_pos c8] at H
        have c8b0 := eq_true c8
        have c8b1 : decide (x3_1.size + (rdOf ByteArray.empty l0 x4_1).size ≤ 9223372036854775807) = true := decide_eq_true c8
        try have c8b2 : (9223372036854775807 < x3_1.size + (rdOf ByteArray.empty l0 x4_1).size) = False := eq_false (Nat.not_lt.2 c8)
        have H' := Aside0.mk H
        clear H
        have p143 : 0 ≤ (x4_1 : Int) := of_decide_eq_true (by first | (with_reducible assumption) | assumption)
        have q143 : x4_1 < (l0.length : Int) := of_decide_eq_true (by first | (with_reducible assumption) | assumption)
        obtain ⟨ad143, e143, hx143_0⟩ := Kd.at_string HR0.out x4_1 p143 q143
        cases e143
        replace p143 := eq_true p143
        replace q143 := eq_true q143
        go_wp2
        go_roundg k1
        case measure => have := HK1.out; omega
        case rel => exact ⟨(x3_1 ++ (rdOf ByteArray.empty l0 x4_1)), (wrap64 (x4_1 + 1)), (by first | rfl | (simp; done) | (simp [*]; done)), (by first | rfl | (simp; done) | (simp [*]; done)), H', ⟨by have := HK1.out; omega⟩, by repeat (first | exact Drawn0.refl _ | apply Drawn0.step)⟩
       ·rw [if_neg c8] at H
        exact absurd H (by simp)
      ·rw [if_neg c7] at H
       exact absurd H (by simp)
    ·rw [if_neg c2] at H
     have c2b0 : decide (x4_1 < (l0.length : Int)) = false := decide_eq_false c2
     clear c2
     obtain rfl := Option.some.inj H
     go_wp2
     go_ret
     exact ⟨by first | rfl | (simp; done) | (simp [*]; done), by repeat (first | exact Drawn0.refl _ | apply Drawn0.step)⟩

/-! ### carrefourlaw7_TopicStars: function 5 -/
mutual
def carrefourlaw7_TopicStars.l2 : Nat → Int → Int → Int → List ByteArray → List ByteArray → Int → Option (Bool)
  | 0, _, _, _, _, _, _ => none
  | k + 1, x2, x7, x8, x9, x10, x12 => if x12 < x7 then (if x9.length < 8796093022208 then ((some (x9 ++ [(⟨#[42]⟩ : ByteArray)] : List ByteArray)).bind fun y144 => (if (IntKind.u64.wrap (x7)) = 0 then (none) else (if x12 = (wrap64 (Int.tmod (IntKind.u64.wrap (x2)) (IntKind.u64.wrap (x7)))) then (if x10.length < 8796093022208 then ((some (x10 ++ [(⟨#[35]⟩ : ByteArray)] : List ByteArray)).bind fun y147 => (if y147.length < 8796093022208 then (carrefourlaw7_TopicStars.l2 k x2 x7 x8 y144 (y147 ++ [(⟨#[42]⟩ : ByteArray)]) (wrap64 (x12 + 1))) else (none))) else (none)) else (if x10.length < 8796093022208 then (carrefourlaw7_TopicStars.l2 k x2 x7 x8 y144 (x10 ++ [(⟨#[42]⟩ : ByteArray)]) (wrap64 (x12 + 1))) else (none))))) else (none)) else (carrefourlaw7_TopicStars.l3 k x7 x8 x9 x10 ([] : List ByteArray) 0)
def carrefourlaw7_TopicStars.l3 : Nat → Int → Int → List ByteArray → List ByteArray → List ByteArray → Int → Option (Bool)
  | 0, _, _, _, _, _, _ => none
  | k + 1, x7, x8, x9, x10, x11, x13 => if x13 < x8 then (if x11.length < 8796093022208 then (carrefourlaw7_TopicStars.l3 k x7 x8 x9 x10 (x11 ++ [(⟨#[119]⟩ : ByteArray)]) (wrap64 (x13 + 1))) else (none)) else ((carrefourlaw7_told.f k).bind fun t159 => (if t159 = true then ((carrefourlaw7_join.f k x9).bind fun t160 => ((carrefourlaw7_join.f k x11).bind fun t161 => ((topic_Match.f k t160 t161).bind fun t162 => (if t162 = true then (if x7 = x8 then ((carrefourlaw7_join.f k x10).bind fun t163 => ((carrefourlaw7_join.f k x11).bind fun t164 => ((topic_Match.f k t163 t164).bind fun t165 => (if t165 = true then (some (decide (x8 ≥ x7))) else (some (!(decide (x8 ≥ x7)))))))) else (some false)) else (if x7 = x8 then (some false) else ((carrefourlaw7_join.f k x10).bind fun t166 => ((carrefourlaw7_join.f k x11).bind fun t167 => ((topic_Match.f k t166 t167).bind fun t168 => (if t168 = true then (some (decide (x8 ≥ x7))) else (some (!(decide (x8 ≥ x7))))))))))))) else (some false)))
end
def carrefourlaw7_TopicStars.f (k : Nat) (a0 : Int) (a1 : Int) (a2 : Int) : Option (Bool) := carrefourlaw7_TopicStars.l2 k a2 (wrap64 (1 + (wrap64 (Int.tmod (IntKind.u64.wrap (a0)) 9)))) (wrap64 (Int.tmod (IntKind.u64.wrap (a1)) 9)) ([] : List ByteArray) ([] : List ByteArray) 0
theorem carrefourlaw7_TopicStars.mono_l : ∀ k, (∀ y0 y1 y2 y3 y4 y5, LeO (carrefourlaw7_TopicStars.l2 k y0 y1 y2 y3 y4 y5) (carrefourlaw7_TopicStars.l2 (k + 1) y0 y1 y2 y3 y4 y5)) ∧ (∀ y0 y1 y2 y3 y4 y5, LeO (carrefourlaw7_TopicStars.l3 k y0 y1 y2 y3 y4 y5) (carrefourlaw7_TopicStars.l3 (k + 1) y0 y1 y2 y3 y4 y5))
  | 0 => ⟨fun _ _ _ _ _ _ r h => by simp [carrefourlaw7_TopicStars.l2] at h, fun _ _ _ _ _ _ r h => by simp [carrefourlaw7_TopicStars.l3] at h⟩
  | k + 1 => by
    obtain ⟨ih0, ih1⟩ := carrefourlaw7_TopicStars.mono_l k
    refine ⟨?_, ?_⟩
    · intro y0 y1 y2 y3 y4 y5
      unfold carrefourlaw7_TopicStars.l2
      repeat' first
      | (with_reducible exact ih0 _ _ _ _ _ _)
      | (with_reducible exact ih1 _ _ _ _ _ _)
      | (with_reducible exact carrefourlaw7_join.mono _ _)
      | (with_reducible exact carrefourlaw7_told.mono _)
      | (with_reducible exact topic_Match.mono _ _ _)
      | (with_reducible exact LeO.refl _)
      | (with_reducible exact LeO.none _)
      | (with_reducible refine LeO.ite ?_ ?_)
      | (with_reducible refine LeO.bind ?_ (fun _ => ?_))
      | exact ih0 _ _ _ _ _ _
      | exact ih1 _ _ _ _ _ _
      | exact carrefourlaw7_join.mono _ _
      | exact carrefourlaw7_told.mono _
      | exact topic_Match.mono _ _ _
      | exact LeO.none _
      | refine LeO.ite ?_ ?_
      | refine LeO.bind ?_ (fun _ => ?_)
    · intro y0 y1 y2 y3 y4 y5
      unfold carrefourlaw7_TopicStars.l3
      repeat' first
      | (with_reducible exact ih0 _ _ _ _ _ _)
      | (with_reducible exact ih1 _ _ _ _ _ _)
      | (with_reducible exact carrefourlaw7_join.mono _ _)
      | (with_reducible exact carrefourlaw7_told.mono _)
      | (with_reducible exact topic_Match.mono _ _ _)
      | (with_reducible exact LeO.refl _)
      | (with_reducible exact LeO.none _)
      | (with_reducible refine LeO.ite ?_ ?_)
      | (with_reducible refine LeO.bind ?_ (fun _ => ?_))
      | exact ih0 _ _ _ _ _ _
      | exact ih1 _ _ _ _ _ _
      | exact carrefourlaw7_join.mono _ _
      | exact carrefourlaw7_told.mono _
      | exact topic_Match.mono _ _ _
      | exact LeO.none _
      | refine LeO.ite ?_ ?_
      | refine LeO.bind ?_ (fun _ => ?_)
theorem carrefourlaw7_TopicStars.mono : ∀ a0 a1 a2 k, LeO (carrefourlaw7_TopicStars.f k a0 a1 a2) (carrefourlaw7_TopicStars.f (k + 1) a0 a1 a2) := by
  intro a0 a1 a2 k
  obtain ⟨ih0, ih1⟩ := carrefourlaw7_TopicStars.mono_l k
  unfold carrefourlaw7_TopicStars.f
  repeat' first
      | (with_reducible exact ih0 _ _ _ _ _ _)
      | (with_reducible exact ih1 _ _ _ _ _ _)
      | (with_reducible exact carrefourlaw7_join.mono _ _)
      | (with_reducible exact carrefourlaw7_told.mono _)
      | (with_reducible exact topic_Match.mono _ _ _)
      | (with_reducible exact LeO.refl _)
      | (with_reducible exact LeO.none _)
      | (with_reducible refine LeO.ite ?_ ?_)
      | (with_reducible refine LeO.bind ?_ (fun _ => ?_))
      | exact ih0 _ _ _ _ _ _
      | exact ih1 _ _ _ _ _ _
      | exact carrefourlaw7_join.mono _ _
      | exact carrefourlaw7_told.mono _
      | exact topic_Match.mono _ _ _
      | exact LeO.none _
      | refine LeO.ite ?_ ?_
      | refine LeO.bind ?_ (fun _ => ?_)
set_option maxHeartbeats 8000000 in
set_option maxRecDepth 100000 in
theorem carrefourlaw7_TopicStars.calls (k : Nat) (a0 : Int) (a1 : Int) (a2 : Int) (r : Bool) (w : World) (hgl : Gl w) (hrt : r = true) (h : carrefourlaw7_TopicStars.f k a0 a1 a2 = some r) :
    Calls Tryd.prog 5 #[.int .i64 a0, .int .i64 a1, .int .i64 a2] w fun e w' => e = .returned (.bool r) ∧ Below w.heap.size w w' := by
  have HRT := Aside0.mk hrt
  clear hrt
  have HGL := Aside0.mk hgl
  clear hgl
  have HB := Aside0.mk (Below.refl w.heap.size w)
  have H : (carrefourlaw7_TopicStars.l2 k a2 (wrap64 (1 + (wrap64 (Int.tmod (IntKind.u64.wrap (a0)) 9)))) (wrap64 (Int.tmod (IntKind.u64.wrap (a1)) 9)) ([] : List ByteArray) ([] : List ByteArray) 0) = some r := h
  clear h
  have H' := Aside0.mk H
  clear H
  go_enter Tryd.func5, Tryd.ntmps5
  go_wp2
  go_loopg [9, 10, 12] k (fun kq v9 v10 v12 w' => ∃ (x9_1 : List ByteArray) (x10_1 : List ByteArray) (x12_1 : Int), v12 = .int .i64 x12_1 ∧ Aside0 (carrefourlaw7_TopicStars.l2 kq a2 (wrap64 (1 + (wrap64 (Int.tmod (IntKind.u64.wrap (a0)) 9)))) (wrap64 (Int.tmod (IntKind.u64.wrap (a1)) 9)) x9_1 x10_1 x12_1 = some r) ∧ Aside0 (kq ≤ k) ∧ Aside0 (Kd.R Kd.string 9 w' w.heap.size (fun k_ => some k_ ≠ (v10 : Value).ownBlock) v9 x9_1) ∧ Aside0 (Kd.R Kd.string 9 w' w.heap.size (fun k_ => some k_ ≠ (v9 : Value).ownBlock) v10 x10_1) ∧ Aside0 (Below w.heap.size w w'))
  case atStart => exact ⟨(([] : List ByteArray)), (([] : List ByteArray)), (0), (by first | rfl | (simp; done) | (simp [*]; done)), H', ⟨Nat.le_refl _⟩, ⟨by first | exact Kd.R_nil _ _ _ _ _ | exact Kd.N_nil _ _ _ _ _ | exact Kd.V_nil _ _ _ _ _ | exact Kd.Q_nil _ _ _ _ _ | exact Kd.S_nil _ _ _ _ _⟩, ⟨by first | exact Kd.R_nil _ _ _ _ _ | exact Kd.N_nil _ _ _ _ _ | exact Kd.V_nil _ _ _ _ _ | exact Kd.Q_nil _ _ _ _ _ | exact Kd.S_nil _ _ _ _ _⟩, ⟨by repeat (first | (with_reducible first | exact HB.out | apply below_alloc | apply pw_below_drewN | apply below_drew1) | exact HB.out)⟩⟩
  case round =>
   clear H'
   try clear p2
   obtain ⟨x9_1, x10_1, x12_1, rfl, HA, HK1, HO_9, HO_10, HB⟩ := hrel
   cases gk with
   | zero => exact absurd HA.out (by simp [carrefourlaw7_TopicStars.l2])
   | succ k1 =>
    have H := HA.out
    clear HA
    simp only [carrefourlaw7_TopicStars.l2] at H
    by_cases c4 : x12_1 < (wrap64 (1 + (wrap64 (Int.tmod (IntKind.u64.wrap (a0)) 9))))
    ·rw [if_pos c4] at H
     have c4b0 : decide (x12_1 < (wrap64 (1 + (wrap64 (Int.tmod (IntKind.u64.wrap (a0)) 9))))) = true := decide_eq_true c4
     clear c4
     by_cases c5 : x9_1.length < 8796093022208
     ·rw [if_pos c5] at H
      have LMc5 := Aside0.mk c5
      clear c5
      obtain ⟨y144, hy144⟩ : ∃ y_ : List ByteArray, y_ = (x9_1 ++ [(⟨#[42]⟩ : ByteArray)]) := ⟨_, rfl⟩
      replace H : (if (IntKind.u64.wrap ((wrap64 (1 + (wrap64 (Int.tmod (IntKind.u64.wrap (a0)) 9)))))) = 0 then (none) else (if x12_1 = (wrap64 (Int.tmod (IntKind.u64.wrap (a2)) (IntKind.u64.wrap ((wrap64 (1 + (wrap64 (Int.tmod (IntKind.u64.wrap (a0)) 9)))))))) then (if x10_1.length < 8796093022208 then ((some (x10_1 ++ [(⟨#[35]⟩ : ByteArray)] : List ByteArray)).bind fun y147 => (if y147.length < 8796093022208 then (carrefourlaw7_TopicStars.l2 k1 a2 (wrap64 (1 + (wrap64 (Int.tmod (IntKind.u64.wrap (a0)) 9)))) (wrap64 (Int.tmod (IntKind.u64.wrap (a1)) 9)) y144 (y147 ++ [(⟨#[42]⟩ : ByteArray)]) (wrap64 (x12_1 + 1))) else (none))) else (none)) else (if x10_1.length < 8796093022208 then (carrefourlaw7_TopicStars.l2 k1 a2 (wrap64 (1 + (wrap64 (Int.tmod (IntKind.u64.wrap (a0)) 9)))) (wrap64 (Int.tmod (IntKind.u64.wrap (a1)) 9)) y144 (x10_1 ++ [(⟨#[42]⟩ : ByteArray)]) (wrap64 (x12_1 + 1))) else (none)))) = some r := by first | (rw [hy144]; with_reducible exact H) | (have H2_ := (Option.bind_some _ _).symm.trans H; rw [hy144]; with_reducible exact H2_) | (have H2_ := (Option.bind_some _ _).symm.trans H; with_reducible exact H2_) | with_reducible exact H | (rw [hy144]; exact H) | exact H
      have Ny144 := Aside0.mk hy144
      clear hy144
      by_cases c6 : (IntKind.u64.wrap ((wrap64 (1 + (wrap64 (Int.tmod (IntKind.u64.wrap (a0)) 9)))))) = 0
      ·rw [if_pos c6] at H
       exact absurd H (by simp)
      ·rw [if_neg c6] at H
       have c6b0 : ((IntKind.u64.wrap ((wrap64 (1 + (wrap64 (Int.tmod (IntKind.u64.wrap (a0)) 9)))))) == 0) = false := beq_eq_false_iff_ne.mpr c6
       have c6b1 : ((IntKind.u64.wrap ((wrap64 (1 + (wrap64 (Int.tmod (IntKind.u64.wrap (a0)) 9)))))) != 0) = true := bne_iff_ne.mpr c6
       by_cases c7 : x12_1 = (wrap64 (Int.tmod (IntKind.u64.wrap (a2)) (IntKind.u64.wrap ((wrap64 (1 + (wrap64 (Int.tmod (IntKind.u64.wrap (a0)) 9))))))))
       ·rw [if_pos c7] at H
        have c7b0 : (x12_1 == (wrap64 (Int.tmod (IntKind.u64.wrap (a2)) (IntKind.u64.wrap ((wrap64 (1 + (wrap64 (Int.tmod (IntKind.u64.wrap (a0)) 9))))))))) = true := beq_iff_eq.mpr c7
        have c7b1 : (x12_1 != (wrap64 (Int.tmod (IntKind.u64.wrap (a2)) (IntKind.u64.wrap ((wrap64 (1 + (wrap64 (Int.tmod (IntKind.u64.wrap (a0)) 9))))))))) = false := bne_eq_false_iff_eq.mpr c7
        clear c7
        by_cases c8 : x10_1.length < 8796093022208
        ·rw [if_pos c8] at H
         have LMc8 := Aside0.mk c8
         clear c8
         obtain ⟨y147, hy147⟩ : ∃ y_ : List ByteArray, y_ = (x10_1 ++ [(⟨#[35]⟩ : ByteArray)]) := ⟨_, rfl⟩
         replace H : (if y147.length < 8796093022208 then (carrefourlaw7_TopicStars.l2 k1 a2 (wrap64 (1 + (wrap64 (Int.tmod (IntKind.u64.wrap (a0)) 9)))) (wrap64 (Int.tmod (IntKind.u64.wrap (a1)) 9)) y144 (y147 ++ [(⟨#[42]⟩ : ByteArray)]) (wrap64 (x12_1 + 1))) else (none)) = some r := by first | (rw [hy147]; with_reducible exact H) | (have H2_ := (Option.bind_some _ _).symm.trans H; rw [hy147]; with_reducible exact H2_) | (have H2_ := (Option.bind_some _ _).symm.trans H; with_reducible exact H2_) | with_reducible exact H | (rw [hy147]; exact H) | exact H
         have Ny147 := Aside0.mk hy147
         clear hy147
         by_cases c9 : y147.length < 8796093022208
         ·rw [if_pos c9] at H
          have LMc9 := Aside0.mk c9
          clear c9
          obtain ⟨y150, hy150⟩ : ∃ y_ : List ByteArray, y_ = (y147 ++ [(⟨#[42]⟩ : ByteArray)]) := ⟨_, rfl⟩
          replace H : (carrefourlaw7_TopicStars.l2 k1 a2 (wrap64 (1 + (wrap64 (Int.tmod (IntKind.u64.wrap (a0)) 9)))) (wrap64 (Int.tmod (IntKind.u64.wrap (a1)) 9)) y144 y150 (wrap64 (x12_1 + 1))) = some r := by first | (rw [hy150]; with_reducible exact H) | (have H2_ := (Option.bind_some _ _).symm.trans H; rw [hy150]; with_reducible exact H2_) | (have H2_ := (Option.bind_some _ _).symm.trans H; with_reducible exact H2_) | with_reducible exact H | (rw [hy150]; exact H) | exact H
          have Ny150 := Aside0.mk hy150
          clear hy150
          have H' := Aside0.mk H
          clear H
          go_wp2_with (first | ((with_reducible refine gate_builtin (b := .append) (xs := #[.tmp 28, .tmp 29]) rfl ?_); at_builtin; refine Kd.R_append Kd.string (w0 := w) w.heap.size rfl (.tmp 28) (.tmp 29) 23 9 (.string ⟨#[]⟩) 16 rfl Tryd.underlying23 info9 rfl (by decide) (by omega) u9 x9_1 (⟨#[42]⟩ : ByteArray) [.string (⟨#[42]⟩ : ByteArray)] (fun k_ => some k_ ≠ (u10 : Value).ownBlock) (fun _ => False) rfl rfl ?aP (fun _ hk => hk.elim) ?aF ?aO ?aB ?aS ?aL ?_; (case aP => exact rfl); (case aB => exact (by repeat (first | (with_reducible first | exact HB.out | apply below_alloc | apply pw_below_drewN | apply below_drew1) | exact HB.out))); (case aF => exact (fun k_ hk => Kd.fresh' (Kd.R_lt (by (with_reducible repeat (first | apply Kd.R_alloc | apply Kd.R_drewN | apply Kd.R_drew)); exact HO_10.out)) k_ hk)); (case aO => exact (by (with_reducible repeat (first | apply Kd.R_alloc | apply Kd.R_drewN | apply Kd.R_drew)); exact HO_9.out)); (case aS => exact (below_size (by repeat (first | (with_reducible first | exact HB.out | apply below_alloc | apply pw_below_drewN | apply below_drew1) | exact HB.out)))); (case aL => have := LMc5.out; omega); intro v145 w10 ho hb hg hat; rw [← Ny144.out] at ho; have n0_ := Aside0.mk (Kd.R_after (ok := (fun _ => True)) (by (with_reducible repeat (first | apply Kd.R_alloc | apply Kd.R_drewN | apply Kd.R_drew)); exact Kd.R_mono HO_10.out (fun _ hk => ⟨trivial, hk⟩)) hg hat); have n1_ := Aside0.mk (hb); have n2_ := Aside0.mk (ho); clear HO_10; clear HB; clear HO_9; have HO_10 := n0_; have HB := n1_; have HO146 := n2_; clear n0_ n1_ n2_; clear ho hb hg hat) | ((with_reducible refine gate_builtin (b := .append) (xs := #[.tmp 39, .tmp 40]) rfl ?_); at_builtin; refine Kd.R_append Kd.string (w0 := w) w.heap.size rfl (.tmp 39) (.tmp 40) 23 9 (.string ⟨#[]⟩) 16 rfl Tryd.underlying23 info9 rfl (by decide) (by omega) u10 x10_1 (⟨#[35]⟩ : ByteArray) [.string (⟨#[35]⟩ : ByteArray)] (fun k_ => some k_ ≠ (v145 : Value).ownBlock) (fun _ => False) rfl rfl ?aP (fun _ hk => hk.elim) ?aF ?aO ?aB ?aS ?aL ?_; (case aP => exact rfl); (case aB => exact (by repeat (first | (with_reducible first | exact HB.out | apply below_alloc | apply pw_below_drewN | apply below_drew1) | exact HB.out))); (case aF => exact (fun k_ hk => Kd.fresh' (Kd.R_lt (by (with_reducible repeat (first | apply Kd.R_alloc | apply Kd.R_drewN | apply Kd.R_drew)); exact HO146.out)) k_ hk)); (case aO => exact (by (with_reducible repeat (first | apply Kd.R_alloc | apply Kd.R_drewN | apply Kd.R_drew)); exact Kd.R_mono HO_10.out (fun _ hk => hk.2))); (case aS => exact (below_size (by repeat (first | (with_reducible first | exact HB.out | apply below_alloc | apply pw_below_drewN | apply below_drew1) | exact HB.out)))); (case aL => have := LMc8.out; omega); intro v148 w11 ho hb hg hat; rw [← Ny147.out] at ho; have n0_ := Aside0.mk (Kd.R_after (ok := (fun _ => True)) (by (with_reducible repeat (first | apply Kd.R_alloc | apply Kd.R_drewN | apply Kd.R_drew)); exact Kd.R_mono HO146.out (fun _ hk => ⟨trivial, hk⟩)) hg hat); have n1_ := Aside0.mk (hb); have n2_ := Aside0.mk (ho); clear HO146; clear HB; clear HO_10; have HO146 := n0_; have HB := n1_; have HO149 := n2_; clear n0_ n1_ n2_; clear ho hb hg hat) | ((with_reducible refine gate_builtin (b := .append) (xs := #[.tmp 42, .tmp 43]) rfl ?_); at_builtin; refine Kd.R_append Kd.string (w0 := w) w.heap.size rfl (.tmp 42) (.tmp 43) 23 9 (.string ⟨#[]⟩) 16 rfl Tryd.underlying23 info9 rfl (by decide) (by omega) v148 y147 (⟨#[42]⟩ : ByteArray) [.string (⟨#[42]⟩ : ByteArray)] (fun k_ => some k_ ≠ (v145 : Value).ownBlock) (fun _ => False) rfl rfl ?aP (fun _ hk => hk.elim) ?aF ?aO ?aB ?aS ?aL ?_; (case aP => exact rfl); (case aB => exact (by repeat (first | (with_reducible first | exact HB.out | apply below_alloc | apply pw_below_drewN | apply below_drew1) | exact HB.out))); (case aF => exact (fun k_ hk => Kd.fresh' (Kd.R_lt (by (with_reducible repeat (first | apply Kd.R_alloc | apply Kd.R_drewN | apply Kd.R_drew)); exact HO146.out)) k_ hk)); (case aO => exact (by (with_reducible repeat (first | apply Kd.R_alloc | apply Kd.R_drewN | apply Kd.R_drew)); exact HO149.out)); (case aS => exact (below_size (by repeat (first | (with_reducible first | exact HB.out | apply below_alloc | apply pw_below_drewN | apply below_drew1) | exact HB.out)))); (case aL => have := LMc9.out; omega); intro v151 w12 ho hb hg hat; rw [← Ny150.out] at ho; have n0_ := Aside0.mk (Kd.R_after (ok := (fun _ => True)) (by (with_reducible repeat (first | apply Kd.R_alloc | apply Kd.R_drewN | apply Kd.R_drew)); exact HO146.out) hg hat); have n1_ := Aside0.mk (hb); have n2_ := Aside0.mk (ho); clear HO146; clear HB; clear HO149; have HO146 := n0_; have HB := n1_; have HO152 := n2_; clear n0_ n1_ n2_; clear ho hb hg hat))
          go_roundg k1
          case measure => have := HK1.out; omega
          case rel => exact ⟨(y144), (y150), (wrap64 (x12_1 + 1)), (by first | rfl | (simp; done) | (simp [*]; done)), H', ⟨by have := HK1.out; omega⟩, ⟨by (with_reducible repeat (first | apply Kd.R_alloc | apply Kd.R_drewN | apply Kd.R_drew)); exact Kd.R_mono HO146.out (fun _ hk => hk.2)⟩, ⟨by (with_reducible repeat (first | apply Kd.R_alloc | apply Kd.R_drewN | apply Kd.R_drew)); exact HO152.out⟩, ⟨by repeat (first | (with_reducible first | exact HB.out | apply below_alloc | apply pw_below_drewN | apply below_drew1) | exact HB.out)⟩⟩
         ·rw [if_neg c9] at H
          exact absurd H (by simp)
        ·rw [if_neg c8] at H
         exact absurd H (by simp)
       ·rw [if_neg c7] at H
        have c7b0 : (x12_1 == (wrap64 (Int.tmod (IntKind.u64.wrap (a2)) (IntKind.u64.wrap ((wrap64 (1 + (wrap64 (Int.tmod (IntKind.u64.wrap (a0)) 9))))))))) = false := beq_eq_false_iff_ne.mpr c7
        have c7b1 : (x12_1 != (wrap64 (Int.tmod (IntKind.u64.wrap (a2)) (IntKind.u64.wrap ((wrap64 (1 + (wrap64 (Int.tmod (IntKind.u64.wrap (a0)) 9))))))))) = true := bne_iff_ne.mpr c7
        by_cases c13 : x10_1.length < 8796093022208
        ·rw [if_pos c13] at H
         have LMc13 := Aside0.mk c13
         clear c13
         obtain ⟨y153, hy153⟩ : ∃ y_ : List ByteArray, y_ = (x10_1 ++ [(⟨#[42]⟩ : ByteArray)]) := ⟨_, rfl⟩
         replace H : (carrefourlaw7_TopicStars.l2 k1 a2 (wrap64 (1 + (wrap64 (Int.tmod (IntKind.u64.wrap (a0)) 9)))) (wrap64 (Int.tmod (IntKind.u64.wrap (a1)) 9)) y144 y153 (wrap64 (x12_1 + 1))) = some r := by first | (rw [hy153]; with_reducible exact H) | (have H2_ := (Option.bind_some _ _).symm.trans H; rw [hy153]; with_reducible exact H2_) | (have H2_ := (Option.bind_some _ _).symm.trans H; with_reducible exact H2_) | with_reducible exact H | (rw [hy153]; exact H) | exact H
         have Ny153 := Aside0.mk hy153
         clear hy153
         have H' := Aside0.mk H
         clear H
         go_wp2_with (first | ((with_reducible refine gate_builtin (b := .append) (xs := #[.tmp 28, .tmp 29]) rfl ?_); at_builtin; refine Kd.R_append Kd.string (w0 := w) w.heap.size rfl (.tmp 28) (.tmp 29) 23 9 (.string ⟨#[]⟩) 16 rfl Tryd.underlying23 info9 rfl (by decide) (by omega) u9 x9_1 (⟨#[42]⟩ : ByteArray) [.string (⟨#[42]⟩ : ByteArray)] (fun k_ => some k_ ≠ (u10 : Value).ownBlock) (fun _ => False) rfl rfl ?aP (fun _ hk => hk.elim) ?aF ?aO ?aB ?aS ?aL ?_; (case aP => exact rfl); (case aB => exact (by repeat (first | (with_reducible first | exact HB.out | apply below_alloc | apply pw_below_drewN | apply below_drew1) | exact HB.out))); (case aF => exact (fun k_ hk => Kd.fresh' (Kd.R_lt (by (with_reducible repeat (first | apply Kd.R_alloc | apply Kd.R_drewN | apply Kd.R_drew)); exact HO_10.out)) k_ hk)); (case aO => exact (by (with_reducible repeat (first | apply Kd.R_alloc | apply Kd.R_drewN | apply Kd.R_drew)); exact HO_9.out)); (case aS => exact (below_size (by repeat (first | (with_reducible first | exact HB.out | apply below_alloc | apply pw_below_drewN | apply below_drew1) | exact HB.out)))); (case aL => have := LMc5.out; omega); intro v145 w14 ho hb hg hat; rw [← Ny144.out] at ho; have n0_ := Aside0.mk (Kd.R_after (ok := (fun _ => True)) (by (with_reducible repeat (first | apply Kd.R_alloc | apply Kd.R_drewN | apply Kd.R_drew)); exact Kd.R_mono HO_10.out (fun _ hk => ⟨trivial, hk⟩)) hg hat); have n1_ := Aside0.mk (hb); have n2_ := Aside0.mk (ho); clear HO_10; clear HB; clear HO_9; have HO_10 := n0_; have HB := n1_; have HO146 := n2_; clear n0_ n1_ n2_; clear ho hb hg hat) | ((with_reducible refine gate_builtin (b := .append) (xs := #[.tmp 42, .tmp 43]) rfl ?_); at_builtin; refine Kd.R_append Kd.string (w0 := w) w.heap.size rfl (.tmp 42) (.tmp 43) 23 9 (.string ⟨#[]⟩) 16 rfl Tryd.underlying23 info9 rfl (by decide) (by omega) u10 x10_1 (⟨#[42]⟩ : ByteArray) [.string (⟨#[42]⟩ : ByteArray)] (fun k_ => some k_ ≠ (v145 : Value).ownBlock) (fun _ => False) rfl rfl ?aP (fun _ hk => hk.elim) ?aF ?aO ?aB ?aS ?aL ?_; (case aP => exact rfl); (case aB => exact (by repeat (first | (with_reducible first | exact HB.out | apply below_alloc | apply pw_below_drewN | apply below_drew1) | exact HB.out))); (case aF => exact (fun k_ hk => Kd.fresh' (Kd.R_lt (by (with_reducible repeat (first | apply Kd.R_alloc | apply Kd.R_drewN | apply Kd.R_drew)); exact HO146.out)) k_ hk)); (case aO => exact (by (with_reducible repeat (first | apply Kd.R_alloc | apply Kd.R_drewN | apply Kd.R_drew)); exact Kd.R_mono HO_10.out (fun _ hk => hk.2))); (case aS => exact (below_size (by repeat (first | (with_reducible first | exact HB.out | apply below_alloc | apply pw_below_drewN | apply below_drew1) | exact HB.out)))); (case aL => have := LMc13.out; omega); intro v154 w15 ho hb hg hat; rw [← Ny153.out] at ho; have n0_ := Aside0.mk (Kd.R_after (ok := (fun _ => True)) (by (with_reducible repeat (first | apply Kd.R_alloc | apply Kd.R_drewN | apply Kd.R_drew)); exact Kd.R_mono HO146.out (fun _ hk => ⟨trivial, hk⟩)) hg hat); have n1_ := Aside0.mk (hb); have n2_ := Aside0.mk (ho); clear HO146; clear HB; clear HO_10; have HO146 := n0_; have HB := n1_; have HO155 := n2_; clear n0_ n1_ n2_; clear ho hb hg hat))
         go_roundg k1
         case measure => have := HK1.out; omega
         case rel => exact ⟨(y144), (y153), (wrap64 (x12_1 + 1)), (by first | rfl | (simp; done) | (simp [*]; done)), H', ⟨by have := HK1.out; omega⟩, ⟨by (with_reducible repeat (first | apply Kd.R_alloc | apply Kd.R_drewN | apply Kd.R_drew)); exact Kd.R_mono HO146.out (fun _ hk => hk.2)⟩, ⟨by (with_reducible repeat (first | apply Kd.R_alloc | apply Kd.R_drewN | apply Kd.R_drew)); exact HO155.out⟩, ⟨by repeat (first | (with_reducible first | exact HB.out | apply below_alloc | apply pw_below_drewN | apply below_drew1) | exact HB.out)⟩⟩
        ·rw [if_neg c13] at H
         exact absurd H (by simp)
     ·rw [if_neg c5] at H
      exact absurd H (by simp)
    ·rw [if_neg c4] at H
     have c4b0 : decide (x12_1 < (wrap64 (1 + (wrap64 (Int.tmod (IntKind.u64.wrap (a0)) 9))))) = false := decide_eq_false c4
     clear c4
     have H' := Aside0.mk H
     clear H
     go_wp2
     go_loopg [11, 13] k1 (fun kq v11 v13 w' => ∃ (x11_2 : List ByteArray) (x13_2 : Int), v13 = .int .i64 x13_2 ∧ Aside0 (carrefourlaw7_TopicStars.l3 kq (wrap64 (1 + (wrap64 (Int.tmod (IntKind.u64.wrap (a0)) 9)))) (wrap64 (Int.tmod (IntKind.u64.wrap (a1)) 9)) x9_1 x10_1 x11_2 x13_2 = some r) ∧ Aside0 (kq ≤ k1) ∧ Aside0 (Kd.R Kd.string 9 w' w.heap.size (fun k_ => some k_ ≠ (u10 : Value).ownBlock ∧ some k_ ≠ (v11 : Value).ownBlock) u9 x9_1) ∧ Aside0 (Kd.R Kd.string 9 w' w.heap.size (fun k_ => some k_ ≠ (u9 : Value).ownBlock ∧ some k_ ≠ (v11 : Value).ownBlock) u10 x10_1) ∧ Aside0 (Kd.R Kd.string 9 w' w.heap.size (fun k_ => some k_ ≠ (u9 : Value).ownBlock ∧ some k_ ≠ (u10 : Value).ownBlock) v11 x11_2) ∧ Aside0 (Below w.heap.size w w'))
     case atStart => exact ⟨(([] : List ByteArray)), (0), (by first | rfl | (simp; done) | (simp [*]; done)), H', ⟨Nat.le_refl _⟩, ⟨by (with_reducible repeat (first | apply Kd.R_alloc | apply Kd.R_drewN | apply Kd.R_drew)); exact Kd.R_mono HO_9.out (fun _ hk => ⟨hk, (by simp [Value.ownBlock])⟩)⟩, ⟨by (with_reducible repeat (first | apply Kd.R_alloc | apply Kd.R_drewN | apply Kd.R_drew)); exact Kd.R_mono HO_10.out (fun _ hk => ⟨hk, (by simp [Value.ownBlock])⟩)⟩, ⟨by first | exact Kd.R_nil _ _ _ _ _ | exact Kd.N_nil _ _ _ _ _ | exact Kd.V_nil _ _ _ _ _ | exact Kd.Q_nil _ _ _ _ _ | exact Kd.S_nil _ _ _ _ _⟩, ⟨by repeat (first | (with_reducible first | exact HB.out | apply below_alloc | apply pw_below_drewN | apply below_drew1) | exact HB.out)⟩⟩
     case round =>
      clear H'
      try clear c1
      try clear p2
      try clear c4
      try clear c4b0
      try clear c5
      try clear c6
      try clear c6b0
      try clear c6b1
      try clear p6
      try clear c7
      try clear c7b0
      try clear c7b1
      try clear c8
      try clear c9
      try clear c13
      try clear p2
      obtain ⟨x11_2, x13_2, rfl, HA, HK2, HO_9, HO_10, HO_11, HB⟩ := hrel
      cases gk with
      | zero => exact absurd HA.out (by simp [carrefourlaw7_TopicStars.l3])
      | succ k2 =>
       have H := HA.out
       clear HA
       simp only [carrefourlaw7_TopicStars.l3] at H
       by_cases c16 : x13_2 < (wrap64 (Int.tmod (IntKind.u64.wrap (a1)) 9))
       ·rw [if_pos c16] at H
        have c16b0 : decide (x13_2 < (wrap64 (Int.tmod (IntKind.u64.wrap (a1)) 9))) = true := decide_eq_true c16
        clear c16
        by_cases c17 : x11_2.length < 8796093022208
        ·rw [if_pos c17] at H
         have LMc17 := Aside0.mk c17
         clear c17
         obtain ⟨y156, hy156⟩ : ∃ y_ : List ByteArray, y_ = (x11_2 ++ [(⟨#[119]⟩ : ByteArray)]) := ⟨_, rfl⟩
         replace H : (carrefourlaw7_TopicStars.l3 k2 (wrap64 (1 + (wrap64 (Int.tmod (IntKind.u64.wrap (a0)) 9)))) (wrap64 (Int.tmod (IntKind.u64.wrap (a1)) 9)) x9_1 x10_1 y156 (wrap64 (x13_2 + 1))) = some r := by first | (rw [hy156]; with_reducible exact H) | (have H2_ := (Option.bind_some _ _).symm.trans H; rw [hy156]; with_reducible exact H2_) | (have H2_ := (Option.bind_some _ _).symm.trans H; with_reducible exact H2_) | with_reducible exact H | (rw [hy156]; exact H) | exact H
         have Ny156 := Aside0.mk hy156
         clear hy156
         have H' := Aside0.mk H
         clear H
         go_wp2_with (first | ((with_reducible refine gate_builtin (b := .append) (xs := #[.tmp 50, .tmp 51]) rfl ?_); at_builtin; refine Kd.R_append Kd.string (w0 := w) w.heap.size rfl (.tmp 50) (.tmp 51) 23 9 (.string ⟨#[]⟩) 16 rfl Tryd.underlying23 info9 rfl (by decide) (by omega) u11 x11_2 (⟨#[119]⟩ : ByteArray) [.string (⟨#[119]⟩ : ByteArray)] (fun k_ => some k_ ≠ (u9 : Value).ownBlock ∧ some k_ ≠ (u10 : Value).ownBlock) (fun _ => False) rfl rfl ?aP (fun _ hk => hk.elim) ?aF ?aO ?aB ?aS ?aL ?_; (case aP => exact rfl); (case aB => exact (by repeat (first | (with_reducible first | exact HB.out | apply below_alloc | apply pw_below_drewN | apply below_drew1) | exact HB.out))); (case aF => exact (fun k_ hk => ⟨Kd.fresh' (Kd.R_lt (by (with_reducible repeat (first | apply Kd.R_alloc | apply Kd.R_drewN | apply Kd.R_drew)); exact HO_9.out)) k_ hk, Kd.fresh' (Kd.R_lt (by (with_reducible repeat (first | apply Kd.R_alloc | apply Kd.R_drewN | apply Kd.R_drew)); exact HO_10.out)) k_ hk⟩)); (case aO => exact (by (with_reducible repeat (first | apply Kd.R_alloc | apply Kd.R_drewN | apply Kd.R_drew)); exact HO_11.out)); (case aS => exact (below_size (by repeat (first | (with_reducible first | exact HB.out | apply below_alloc | apply pw_below_drewN | apply below_drew1) | exact HB.out)))); (case aL => have := LMc17.out; omega); intro v157 w18 ho hb hg hat; rw [← Ny156.out] at ho; have n0_ := Aside0.mk (Kd.R_after (ok := (fun k_ => some k_ ≠ (u10 : Value).ownBlock)) (by (with_reducible repeat (first | apply Kd.R_alloc | apply Kd.R_drewN | apply Kd.R_drew)); exact HO_9.out) hg hat); have n1_ := Aside0.mk (Kd.R_after (ok := (fun k_ => some k_ ≠ (u9 : Value).ownBlock)) (by (with_reducible repeat (first | apply Kd.R_alloc | apply Kd.R_drewN | apply Kd.R_drew)); exact HO_10.out) hg hat); have n2_ := Aside0.mk (hb); have n3_ := Aside0.mk (ho); clear HO_9; clear HO_10; clear HB; clear HO_11; have HO_9 := n0_; have HO_10 := n1_; have HB := n2_; have HO158 := n3_; clear n0_ n1_ n2_ n3_; clear ho hb hg hat))
         go_roundg k2
         case measure => have := HK1.out; have := HK2.out; omega
         case rel => exact ⟨(y156), (wrap64 (x13_2 + 1)), (by first | rfl | (simp; done) | (simp [*]; done)), H', ⟨by have := HK1.out; have := HK2.out; omega⟩, ⟨by (with_reducible repeat (first | apply Kd.R_alloc | apply Kd.R_drewN | apply Kd.R_drew)); exact HO_9.out⟩, ⟨by (with_reducible repeat (first | apply Kd.R_alloc | apply Kd.R_drewN | apply Kd.R_drew)); exact HO_10.out⟩, ⟨by (with_reducible repeat (first | apply Kd.R_alloc | apply Kd.R_drewN | apply Kd.R_drew)); exact HO158.out⟩, ⟨by repeat (first | (with_reducible first | exact HB.out | apply below_alloc | apply pw_below_drewN | apply below_drew1) | exact HB.out)⟩⟩
        ·rw [if_neg c17] at H
         exact absurd H (by simp)
       ·rw [if_neg c16] at H
        have c16b0 : decide (x13_2 < (wrap64 (Int.tmod (IntKind.u64.wrap (a1)) 9))) = false := decide_eq_false c16
        clear c16
        replace H := Option.bind_eq_some_iff.mp H
        obtain ⟨t159, A190, H⟩ := H
        replace H : (if t159 = true then ((carrefourlaw7_join.f k2 x9_1).bind fun t160 => ((carrefourlaw7_join.f k2 x11_2).bind fun t161 => ((topic_Match.f k2 t160 t161).bind fun t162 => (if t162 = true then (if (wrap64 (1 + (wrap64 (Int.tmod (IntKind.u64.wrap (a0)) 9)))) = (wrap64 (Int.tmod (IntKind.u64.wrap (a1)) 9)) then ((carrefourlaw7_join.f k2 x10_1).bind fun t163 => ((carrefourlaw7_join.f k2 x11_2).bind fun t164 => ((topic_Match.f k2 t163 t164).bind fun t165 => (if t165 = true then (some (decide ((wrap64 (Int.tmod (IntKind.u64.wrap (a1)) 9)) ≥ (wrap64 (1 + (wrap64 (Int.tmod (IntKind.u64.wrap (a0)) 9))))))) else (some (!(decide ((wrap64 (Int.tmod (IntKind.u64.wrap (a1)) 9)) ≥ (wrap64 (1 + (wrap64 (Int.tmod (IntKind.u64.wrap (a0)) 9)))))))))))) else (some false)) else (if (wrap64 (1 + (wrap64 (Int.tmod (IntKind.u64.wrap (a0)) 9)))) = (wrap64 (Int.tmod (IntKind.u64.wrap (a1)) 9)) then (some false) else ((carrefourlaw7_join.f k2 x10_1).bind fun t166 => ((carrefourlaw7_join.f k2 x11_2).bind fun t167 => ((topic_Match.f k2 t166 t167).bind fun t168 => (if t168 = true then (some (decide ((wrap64 (Int.tmod (IntKind.u64.wrap (a1)) 9)) ≥ (wrap64 (1 + (wrap64 (Int.tmod (IntKind.u64.wrap (a0)) 9))))))) else (some (!(decide ((wrap64 (Int.tmod (IntKind.u64.wrap (a1)) 9)) ≥ (wrap64 (1 + (wrap64 (Int.tmod (IntKind.u64.wrap (a0)) 9))))))))))))))))) else (some false)) = some r := H
        have A19 := Aside0.mk A190
        clear A190
        by_cases c20 : t159 = true
        ·subst c20
         have H1 : ((carrefourlaw7_join.f k2 x9_1).bind fun t160 => ((carrefourlaw7_join.f k2 x11_2).bind fun t161 => ((topic_Match.f k2 t160 t161).bind fun t162 => (if t162 = true then (if (wrap64 (1 + (wrap64 (Int.tmod (IntKind.u64.wrap (a0)) 9)))) = (wrap64 (Int.tmod (IntKind.u64.wrap (a1)) 9)) then ((carrefourlaw7_join.f k2 x10_1).bind fun t163 => ((carrefourlaw7_join.f k2 x11_2).bind fun t164 => ((topic_Match.f k2 t163 t164).bind fun t165 => (if t165 = true then (some (decide ((wrap64 (Int.tmod (IntKind.u64.wrap (a1)) 9)) ≥ (wrap64 (1 + (wrap64 (Int.tmod (IntKind.u64.wrap (a0)) 9))))))) else (some (!(decide ((wrap64 (Int.tmod (IntKind.u64.wrap (a1)) 9)) ≥ (wrap64 (1 + (wrap64 (Int.tmod (IntKind.u64.wrap (a0)) 9)))))))))))) else (some false)) else (if (wrap64 (1 + (wrap64 (Int.tmod (IntKind.u64.wrap (a0)) 9)))) = (wrap64 (Int.tmod (IntKind.u64.wrap (a1)) 9)) then (some false) else ((carrefourlaw7_join.f k2 x10_1).bind fun t166 => ((carrefourlaw7_join.f k2 x11_2).bind fun t167 => ((topic_Match.f k2 t166 t167).bind fun t168 => (if t168 = true then (some (decide ((wrap64 (Int.tmod (IntKind.u64.wrap (a1)) 9)) ≥ (wrap64 (1 + (wrap64 (Int.tmod (IntKind.u64.wrap (a0)) 9))))))) else (some (!(decide ((wrap64 (Int.tmod (IntKind.u64.wrap (a1)) 9)) ≥ (wrap64 (1 + (wrap64 (Int.tmod (IntKind.u64.wrap (a0)) 9))))))))))))))))) = some r := by rw [if_pos rfl] at H; exact H
         clear H
         have H := H1
         clear H1
         replace H := Option.bind_eq_some_iff.mp H
         obtain ⟨t160, A210, H⟩ := H
         replace H : ((carrefourlaw7_join.f k2 x11_2).bind fun t161 => ((topic_Match.f k2 t160 t161).bind fun t162 => (if t162 = true then (if (wrap64 (1 + (wrap64 (Int.tmod (IntKind.u64.wrap (a0)) 9)))) = (wrap64 (Int.tmod (IntKind.u64.wrap (a1)) 9)) then ((carrefourlaw7_join.f k2 x10_1).bind fun t163 => ((carrefourlaw7_join.f k2 x11_2).bind fun t164 => ((topic_Match.f k2 t163 t164).bind fun t165 => (if t165 = true then (some (decide ((wrap64 (Int.tmod (IntKind.u64.wrap (a1)) 9)) ≥ (wrap64 (1 + (wrap64 (Int.tmod (IntKind.u64.wrap (a0)) 9))))))) else (some (!(decide ((wrap64 (Int.tmod (IntKind.u64.wrap (a1)) 9)) ≥ (wrap64 (1 + (wrap64 (Int.tmod (IntKind.u64.wrap (a0)) 9)))))))))))) else (some false)) else (if (wrap64 (1 + (wrap64 (Int.tmod (IntKind.u64.wrap (a0)) 9)))) = (wrap64 (Int.tmod (IntKind.u64.wrap (a1)) 9)) then (some false) else ((carrefourlaw7_join.f k2 x10_1).bind fun t166 => ((carrefourlaw7_join.f k2 x11_2).bind fun t167 => ((topic_Match.f k2 t166 t167).bind fun t168 => (if t168 = true then (some (decide ((wrap64 (Int.tmod (IntKind.u64.wrap (a1)) 9)) ≥ (wrap64 (1 + (wrap64 (Int.tmod (IntKind.u64.wrap (a0)) 9))))))) else (some (!(decide ((wrap64 (Int.tmod (IntKind.u64.wrap (a1)) 9)) ≥ (wrap64 (1 + (wrap64 (Int.tmod (IntKind.u64.wrap (a0)) 9)))))))))))))))) = some r := H
         have A21 := Aside0.mk A210
         clear A210
         replace H := Option.bind_eq_some_iff.mp H
         obtain ⟨t161, A220, H⟩ := H
         replace H : ((topic_Match.f k2 t160 t161).bind fun t162 => (if t162 = true then (if (wrap64 (1 + (wrap64 (Int.tmod (IntKind.u64.wrap (a0)) 9)))) = (wrap64 (Int.tmod (IntKind.u64.wrap (a1)) 9)) then ((carrefourlaw7_join.f k2 x10_1).bind fun t163 => ((carrefourlaw7_join.f k2 x11_2).bind fun t164 => ((topic_Match.f k2 t163 t164).bind fun t165 => (if t165 = true then (some (decide ((wrap64 (Int.tmod (IntKind.u64.wrap (a1)) 9)) ≥ (wrap64 (1 + (wrap64 (Int.tmod (IntKind.u64.wrap (a0)) 9))))))) else (some (!(decide ((wrap64 (Int.tmod (IntKind.u64.wrap (a1)) 9)) ≥ (wrap64 (1 + (wrap64 (Int.tmod (IntKind.u64.wrap (a0)) 9)))))))))))) else (some false)) else (if (wrap64 (1 + (wrap64 (Int.tmod (IntKind.u64.wrap (a0)) 9)))) = (wrap64 (Int.tmod (IntKind.u64.wrap (a1)) 9)) then (some false) else ((carrefourlaw7_join.f k2 x10_1).bind fun t166 => ((carrefourlaw7_join.f k2 x11_2).bind fun t167 => ((topic_Match.f k2 t166 t167).bind fun t168 => (if t168 = true then (some (decide ((wrap64 (Int.tmod (IntKind.u64.wrap (a1)) 9)) ≥ (wrap64 (1 + (wrap64 (Int.tmod (IntKind.u64.wrap (a0)) 9))))))) else (some (!(decide ((wrap64 (Int.tmod (IntKind.u64.wrap (a1)) 9)) ≥ (wrap64 (1 + (wrap64 (Int.tmod (IntKind.u64.wrap (a0)) 9))))))))))))))) = some r := H
         have A22 := Aside0.mk A220
         clear A220
         replace H := Option.bind_eq_some_iff.mp H
         obtain ⟨t162, A230, H⟩ := H
         replace H : (if t162 = true then (if (wrap64 (1 + (wrap64 (Int.tmod (IntKind.u64.wrap (a0)) 9)))) = (wrap64 (Int.tmod (IntKind.u64.wrap (a1)) 9)) then ((carrefourlaw7_join.f k2 x10_1).bind fun t163 => ((carrefourlaw7_join.f k2 x11_2).bind fun t164 => ((topic_Match.f k2 t163 t164).bind fun t165 => (if t165 = true then (some (decide ((wrap64 (Int.tmod (IntKind.u64.wrap (a1)) 9)) ≥ (wrap64 (1 + (wrap64 (Int.tmod (IntKind.u64.wrap (a0)) 9))))))) else (some (!(decide ((wrap64 (Int.tmod (IntKind.u64.wrap (a1)) 9)) ≥ (wrap64 (1 + (wrap64 (Int.tmod (IntKind.u64.wrap (a0)) 9)))))))))))) else (some false)) else (if (wrap64 (1 + (wrap64 (Int.tmod (IntKind.u64.wrap (a0)) 9)))) = (wrap64 (Int.tmod (IntKind.u64.wrap (a1)) 9)) then (some false) else ((carrefourlaw7_join.f k2 x10_1).bind fun t166 => ((carrefourlaw7_join.f k2 x11_2).bind fun t167 => ((topic_Match.f k2 t166 t167).bind fun t168 => (if t168 = true then (some (decide ((wrap64 (Int.tmod (IntKind.u64.wrap (a1)) 9)) ≥ (wrap64 (1 + (wrap64 (Int.tmod (IntKind.u64.wrap (a0)) 9))))))) else (some (!(decide ((wrap64 (Int.tmod (IntKind.u64.wrap (a1)) 9)) ≥ (wrap64 (1 + (wrap64 (Int.tmod (IntKind.u64.wrap (a0)) 9)))))))))))))) = some r := H
         have A23 := Aside0.mk A230
         clear A230
         by_cases c24 : t162 = true
         ·subst c24
          have H1 : (if (wrap64 (1 + (wrap64 (Int.tmod (IntKind.u64.wrap (a0)) 9)))) = (wrap64 (Int.tmod (IntKind.u64.wrap (a1)) 9)) then ((carrefourlaw7_join.f k2 x10_1).bind fun t163 => ((carrefourlaw7_join.f k2 x11_2).bind fun t164 => ((topic_Match.f k2 t163 t164).bind fun t165 => (if t165 = true then (some (decide ((wrap64 (Int.tmod (IntKind.u64.wrap (a1)) 9)) ≥ (wrap64 (1 + (wrap64 (Int.tmod (IntKind.u64.wrap (a0)) 9))))))) else (some (!(decide ((wrap64 (Int.tmod (IntKind.u64.wrap (a1)) 9)) ≥ (wrap64 (1 + (wrap64 (Int.tmod (IntKind.u64.wrap (a0)) 9)))))))))))) else (some false)) = some r := by rw [if_pos rfl] at H; exact H
          clear H
          have H := H1
          clear H1
          by_cases c25 : (wrap64 (1 + (wrap64 (Int.tmod (IntKind.u64.wrap (a0)) 9)))) = (wrap64 (Int.tmod (IntKind.u64.wrap (a1)) 9))
          ·rw [if_pos c25] at H
           have c25b0 : ((wrap64 (1 + (wrap64 (Int.tmod (IntKind.u64.wrap (a0)) 9)))) == (wrap64 (Int.tmod (IntKind.u64.wrap (a1)) 9))) = true := beq_iff_eq.mpr c25
           have c25b1 : ((wrap64 (1 + (wrap64 (Int.tmod (IntKind.u64.wrap (a0)) 9)))) != (wrap64 (Int.tmod (IntKind.u64.wrap (a1)) 9))) = false := bne_eq_false_iff_eq.mpr c25
           clear c25
           replace H := Option.bind_eq_some_iff.mp H
           obtain ⟨t163, A260, H⟩ := H
           replace H : ((carrefourlaw7_join.f k2 x11_2).bind fun t164 => ((topic_Match.f k2 t163 t164).bind fun t165 => (if t165 = true then (some (decide ((wrap64 (Int.tmod (IntKind.u64.wrap (a1)) 9)) ≥ (wrap64 (1 + (wrap64 (Int.tmod (IntKind.u64.wrap (a0)) 9))))))) else (some (!(decide ((wrap64 (Int.tmod (IntKind.u64.wrap (a1)) 9)) ≥ (wrap64 (1 + (wrap64 (Int.tmod (IntKind.u64.wrap (a0)) 9))))))))))) = some r := H
           have A26 := Aside0.mk A260
           clear A260
           replace H := Option.bind_eq_some_iff.mp H
           obtain ⟨t164, A270, H⟩ := H
           replace H : ((topic_Match.f k2 t163 t164).bind fun t165 => (if t165 = true then (some (decide ((wrap64 (Int.tmod (IntKind.u64.wrap (a1)) 9)) ≥ (wrap64 (1 + (wrap64 (Int.tmod (IntKind.u64.wrap (a0)) 9))))))) else (some (!(decide ((wrap64 (Int.tmod (IntKind.u64.wrap (a1)) 9)) ≥ (wrap64 (1 + (wrap64 (Int.tmod (IntKind.u64.wrap (a0)) 9)))))))))) = some r := H
           have A27 := Aside0.mk A270
           clear A270
           replace H := Option.bind_eq_some_iff.mp H
           obtain ⟨t165, A280, H⟩ := H
           replace H : (if t165 = true then (some (decide ((wrap64 (Int.tmod (IntKind.u64.wrap (a1)) 9)) ≥ (wrap64 (1 + (wrap64 (Int.tmod (IntKind.u64.wrap (a0)) 9))))))) else (some (!(decide ((wrap64 (Int.tmod (IntKind.u64.wrap (a1)) 9)) ≥ (wrap64 (1 + (wrap64 (Int.tmod (IntKind.u64.wrap (a0)) 9))))))))) = some r := H
           have A28 := Aside0.mk A280
           clear A280
           by_cases c29 : t165 = true
           ·subst c29
            have H1 : (some (decide ((wrap64 (Int.tmod (IntKind.u64.wrap (a1)) 9)) ≥ (wrap64 (1 + (wrap64 (Int.tmod (IntKind.u64.wrap (a0)) 9))))))) = some r := by rw [if_pos rfl] at H; exact H
            clear H
            have H := H1
            clear H1
            clear HRT
            obtain rfl := Option.some.inj H
            go_wp2_with (first | ((with_reducible refine gate_callee (f := 8) rfl ?_); refine goesL_ (some 53) rfl rfl Tryd.func8 (by kernel_rfl) rfl #[] rfl (by (try simp only [List.map_toArray, List.map_cons, List.map_nil]); first | done | rfl | (simp only [List.length_drop, List.length_take]; rfl)) ?_; (with_reducible refine (carrefourlaw7_told.calls k2  true _ ?side1 A19.out).mono ?_); (case side1 => exact Gl.below HGL.out (by repeat (first | (with_reducible first | exact HB.out | apply below_alloc | apply pw_below_drewN | apply below_drew1) | exact HB.out))); rintro e w30 ⟨rfl, hb⟩; refine ⟨_, rfl, ?_⟩; have n0_ := Aside0.mk (Kd.R_below (by (with_reducible repeat (first | apply Kd.R_alloc | apply Kd.R_drewN | apply Kd.R_drew)); exact HO_9.out) hb); have n1_ := Aside0.mk (Kd.R_below (by (with_reducible repeat (first | apply Kd.R_alloc | apply Kd.R_drewN | apply Kd.R_drew)); exact HO_10.out) hb); have n2_ := Aside0.mk (Kd.R_below (by (with_reducible repeat (first | apply Kd.R_alloc | apply Kd.R_drewN | apply Kd.R_drew)); exact HO_11.out) hb); have n3_ := Aside0.mk (below_step (by repeat (first | (with_reducible first | exact HB.out | apply below_alloc | apply pw_below_drewN | apply below_drew1) | exact HB.out)) hb); clear HO_9; clear HO_10; clear HO_11; clear HB; have HO_9 := n0_; have HO_10 := n1_; have HO_11 := n2_; have HB := n3_; clear n0_ n1_ n2_ n3_; (try clear hb); (try clear hb2); (try clear hk); (try clear hi); obtain ⟨Ao31, co31, eo31⟩ := Kd.R_slice HO_9.out; subst eo31) | ((with_reducible refine gate_dst (N := 56) rfl ?_); (try (refine gate_guard (by rfl) ?_; dsimp only)); (with_reducible refine gate_callee (f := 15) rfl ?_); refine goesL_ (some 56) rfl rfl Tryd.func15 (by kernel_rfl) rfl #[.slice Ao31 x9_1.length co31] rfl (by (try simp only [List.map_toArray, List.map_cons, List.map_nil]); first | done | rfl | (simp only [List.length_drop, List.length_take]; rfl)) ?_; (with_reducible refine (carrefourlaw7_join.calls k2 _ _ x9_1 t160 _ ?side1 ?side2 A21.out).mono ?_); (case side1 => repeat (first | exact (Kd.R_reads' HO_9.out).2.2 | (with_reducible refine Kd.C_alloc ?_ _) | (with_reducible refine Kd.C_drewN ?_ _) | (with_reducible refine Kd.C_drew ?_))); (case side2 => exact (Kd.R_reads' HO_9.out).2.1); rintro e w' ⟨rfl, ⟨nd, rfl⟩⟩; refine ⟨_, rfl, ?_⟩; obtain ⟨Ao32, co32, eo32⟩ := Kd.R_slice HO_11.out; subst eo32) | ((with_reducible refine gate_dst (N := 58) rfl ?_); (try (refine gate_guard (by rfl) ?_; dsimp only)); (with_reducible refine gate_callee (f := 15) rfl ?_); refine goesL_ (some 58) rfl rfl Tryd.func15 (by kernel_rfl) rfl #[.slice Ao32 x11_2.length co32] rfl (by (try simp only [List.map_toArray, List.map_cons, List.map_nil]); first | done | rfl | (simp only [List.length_drop, List.length_take]; rfl)) ?_; (with_reducible refine (carrefourlaw7_join.calls k2 _ _ x11_2 t161 _ ?side1 ?side2 A22.out).mono ?_); (case side1 => repeat (first | exact (Kd.R_reads' HO_11.out).2.2 | (with_reducible refine Kd.C_alloc ?_ _) | (with_reducible refine Kd.C_drewN ?_ _) | (with_reducible refine Kd.C_drew ?_))); (case side2 => exact (Kd.R_reads' HO_11.out).2.1); rintro e w' ⟨rfl, ⟨nd, rfl⟩⟩; refine ⟨_, rfl, ?_⟩) | ((with_reducible refine gate_dst (N := 59) rfl ?_); (try (refine gate_guard (by rfl) ?_; dsimp only)); (with_reducible refine gate_callee (f := 13) rfl ?_); refine goesL_ (some 59) rfl rfl Tryd.func13 (by kernel_rfl) rfl #[.string t160, .string t161] rfl (by (try simp only [List.map_toArray, List.map_cons, List.map_nil]); first | done | rfl | (simp only [List.length_drop, List.length_take]; rfl)) ?_; (with_reducible refine (topic_Match.calls k2 t160 t161 true _ ?side1 A23.out).mono ?_); (case side1 => exact Gl.below HGL.out (by repeat (first | (with_reducible first | exact HB.out | apply below_alloc | apply pw_below_drewN | apply below_drew1) | exact HB.out))); rintro e w33 ⟨rfl, hb⟩; refine ⟨_, rfl, ?_⟩; have n0_ := Aside0.mk (Kd.R_below (by (with_reducible repeat (first | apply Kd.R_alloc | apply Kd.R_drewN | apply Kd.R_drew)); exact HO_9.out) hb); have n1_ := Aside0.mk (Kd.R_below (by (with_reducible repeat (first | apply Kd.R_alloc | apply Kd.R_drewN | apply Kd.R_drew)); exact HO_10.out) hb); have n2_ := Aside0.mk (Kd.R_below (by (with_reducible repeat (first | apply Kd.R_alloc | apply Kd.R_drewN | apply Kd.R_drew)); exact HO_11.out) hb); have n3_ := Aside0.mk (below_step (by repeat (first | (with_reducible first | exact HB.out | apply below_alloc | apply pw_below_drewN | apply below_drew1) | exact HB.out)) hb); clear HO_9; clear HO_10; clear HO_11; clear HB; have HO_9 := n0_; have HO_10 := n1_; have HO_11 := n2_; have HB := n3_; clear n0_ n1_ n2_ n3_; (try clear hb); (try clear hb2); (try clear hk); (try clear hi); obtain ⟨Ao34, co34, eo34⟩ := Kd.R_slice HO_10.out; subst eo34) | ((with_reducible refine gate_dst (N := 67) rfl ?_); (try (refine gate_guard (by rfl) ?_; dsimp only)); (with_reducible refine gate_callee (f := 15) rfl ?_); refine goesL_ (some 67) rfl rfl Tryd.func15 (by kernel_rfl) rfl #[.slice Ao34 x10_1.length co34] rfl (by (try simp only [List.map_toArray, List.map_cons, List.map_nil]); first | done | rfl | (simp only [List.length_drop, List.length_take]; rfl)) ?_; (with_reducible refine (carrefourlaw7_join.calls k2 _ _ x10_1 t163 _ ?side1 ?side2 A26.out).mono ?_); (case side1 => repeat (first | exact (Kd.R_reads' HO_10.out).2.2 | (with_reducible refine Kd.C_alloc ?_ _) | (with_reducible refine Kd.C_drewN ?_ _) | (with_reducible refine Kd.C_drew ?_))); (case side2 => exact (Kd.R_reads' HO_10.out).2.1); rintro e w' ⟨rfl, ⟨nd, rfl⟩⟩; refine ⟨_, rfl, ?_⟩) | ((with_reducible refine gate_dst (N := 69) rfl ?_); (try (refine gate_guard (by rfl) ?_; dsimp only)); (with_reducible refine gate_callee (f := 15) rfl ?_); refine goesL_ (some 69) rfl rfl Tryd.func15 (by kernel_rfl) rfl #[.slice Ao32 x11_2.length co32] rfl (by (try simp only [List.map_toArray, List.map_cons, List.map_nil]); first | done | rfl | (simp only [List.length_drop, List.length_take]; rfl)) ?_; (with_reducible refine (carrefourlaw7_join.calls k2 _ _ x11_2 t164 _ ?side1 ?side2 A27.out).mono ?_); (case side1 => repeat (first | exact (Kd.R_reads' HO_11.out).2.2 | (with_reducible refine Kd.C_alloc ?_ _) | (with_reducible refine Kd.C_drewN ?_ _) | (with_reducible refine Kd.C_drew ?_))); (case side2 => exact (Kd.R_reads' HO_11.out).2.1); rintro e w' ⟨rfl, ⟨nd, rfl⟩⟩; refine ⟨_, rfl, ?_⟩) | ((with_reducible refine gate_dst (N := 70) rfl ?_); (try (refine gate_guard (by rfl) ?_; dsimp only)); (with_reducible refine gate_callee (f := 13) rfl ?_); refine goesL_ (some 70) rfl rfl Tryd.func13 (by kernel_rfl) rfl #[.string t163, .string t164] rfl (by (try simp only [List.map_toArray, List.map_cons, List.map_nil]); first | done | rfl | (simp only [List.length_drop, List.length_take]; rfl)) ?_; (with_reducible refine (topic_Match.calls k2 t163 t164 true _ ?side1 A28.out).mono ?_); (case side1 => exact Gl.below HGL.out (by repeat (first | (with_reducible first | exact HB.out | apply below_alloc | apply pw_below_drewN | apply below_drew1) | exact HB.out))); rintro e w35 ⟨rfl, hb⟩; refine ⟨_, rfl, ?_⟩; have n0_ := Aside0.mk (Kd.R_below (by (with_reducible repeat (first | apply Kd.R_alloc | apply Kd.R_drewN | apply Kd.R_drew)); exact HO_9.out) hb); have n1_ := Aside0.mk (Kd.R_below (by (with_reducible repeat (first | apply Kd.R_alloc | apply Kd.R_drewN | apply Kd.R_drew)); exact HO_10.out) hb); have n2_ := Aside0.mk (Kd.R_below (by (with_reducible repeat (first | apply Kd.R_alloc | apply Kd.R_drewN | apply Kd.R_drew)); exact HO_11.out) hb); have n3_ := Aside0.mk (below_step (by repeat (first | (with_reducible first | exact HB.out | apply below_alloc | apply pw_below_drewN | apply below_drew1) | exact HB.out)) hb); clear HO_9; clear HO_10; clear HO_11; clear HB; have HO_9 := n0_; have HO_10 := n1_; have HO_11 := n2_; have HB := n3_; clear n0_ n1_ n2_ n3_; (try clear hb); (try clear hb2); (try clear hk); (try clear hi)))
            go_ret
            exact ⟨by first | rfl | (simp [errW_none, errW_some] <;> rfl) | (simp [*, errW_none, errW_some] <;> rfl), by repeat (first | (with_reducible first | exact HB.out | apply below_alloc | apply pw_below_drewN | apply below_drew1) | exact HB.out)⟩
           ·replace c29 := Bool.eq_false_iff.mpr c29
            subst c29
            have H1 : (some (!(decide ((wrap64 (Int.tmod (IntKind.u64.wrap (a1)) 9)) ≥ (wrap64 (1 + (wrap64 (Int.tmod (IntKind.u64.wrap (a0)) 9)))))))) = some r := by rw [if_neg (show ¬ (false = true) by decide)] at H; exact H
            clear H
            have H := H1
            clear H1
            clear HRT
            obtain rfl := Option.some.inj H
            go_wp2_with (first | ((with_reducible refine gate_callee (f := 8) rfl ?_); refine goesL_ (some 53) rfl rfl Tryd.func8 (by kernel_rfl) rfl #[] rfl (by (try simp only [List.map_toArray, List.map_cons, List.map_nil]); first | done | rfl | (simp only [List.length_drop, List.length_take]; rfl)) ?_; (with_reducible refine (carrefourlaw7_told.calls k2  true _ ?side1 A19.out).mono ?_); (case side1 => exact Gl.below HGL.out (by repeat (first | (with_reducible first | exact HB.out | apply below_alloc | apply pw_below_drewN | apply below_drew1) | exact HB.out))); rintro e w36 ⟨rfl, hb⟩; refine ⟨_, rfl, ?_⟩; have n0_ := Aside0.mk (Kd.R_below (by (with_reducible repeat (first | apply Kd.R_alloc | apply Kd.R_drewN | apply Kd.R_drew)); exact HO_9.out) hb); have n1_ := Aside0.mk (Kd.R_below (by (with_reducible repeat (first | apply Kd.R_alloc | apply Kd.R_drewN | apply Kd.R_drew)); exact HO_10.out) hb); have n2_ := Aside0.mk (Kd.R_below (by (with_reducible repeat (first | apply Kd.R_alloc | apply Kd.R_drewN | apply Kd.R_drew)); exact HO_11.out) hb); have n3_ := Aside0.mk (below_step (by repeat (first | (with_reducible first | exact HB.out | apply below_alloc | apply pw_below_drewN | apply below_drew1) | exact HB.out)) hb); clear HO_9; clear HO_10; clear HO_11; clear HB; have HO_9 := n0_; have HO_10 := n1_; have HO_11 := n2_; have HB := n3_; clear n0_ n1_ n2_ n3_; (try clear hb); (try clear hb2); (try clear hk); (try clear hi); obtain ⟨Ao37, co37, eo37⟩ := Kd.R_slice HO_9.out; subst eo37) | ((with_reducible refine gate_dst (N := 56) rfl ?_); (try (refine gate_guard (by rfl) ?_; dsimp only)); (with_reducible refine gate_callee (f := 15) rfl ?_); refine goesL_ (some 56) rfl rfl Tryd.func15 (by kernel_rfl) rfl #[.slice Ao37 x9_1.length co37] rfl (by (try simp only [List.map_toArray, List.map_cons, List.map_nil]); first | done | rfl | (simp only [List.length_drop, List.length_take]; rfl)) ?_; (with_reducible refine (carrefourlaw7_join.calls k2 _ _ x9_1 t160 _ ?side1 ?side2 A21.out).mono ?_); (case side1 => repeat (first | exact (Kd.R_reads' HO_9.out).2.2 | (with_reducible refine Kd.C_alloc ?_ _) | (with_reducible refine Kd.C_drewN ?_ _) | (with_reducible refine Kd.C_drew ?_))); (case side2 => exact (Kd.R_reads' HO_9.out).2.1); rintro e w' ⟨rfl, ⟨nd, rfl⟩⟩; refine ⟨_, rfl, ?_⟩; obtain ⟨Ao38, co38, eo38⟩ := Kd.R_slice HO_11.out; subst eo38) | ((with_reducible refine gate_dst (N := 58) rfl ?_); (try (refine gate_guard (by rfl) ?_; dsimp only)); (with_reducible refine gate_callee (f := 15) rfl ?_); refine goesL_ (some 58) rfl rfl Tryd.func15 (by kernel_rfl) rfl #[.slice Ao38 x11_2.length co38] rfl (by (try simp only [List.map_toArray, List.map_cons, List.map_nil]); first | done | rfl | (simp only [List.length_drop, List.length_take]; rfl)) ?_; (with_reducible refine (carrefourlaw7_join.calls k2 _ _ x11_2 t161 _ ?side1 ?side2 A22.out).mono ?_); (case side1 => repeat (first | exact (Kd.R_reads' HO_11.out).2.2 | (with_reducible refine Kd.C_alloc ?_ _) | (with_reducible refine Kd.C_drewN ?_ _) | (with_reducible refine Kd.C_drew ?_))); (case side2 => exact (Kd.R_reads' HO_11.out).2.1); rintro e w' ⟨rfl, ⟨nd, rfl⟩⟩; refine ⟨_, rfl, ?_⟩) | ((with_reducible refine gate_dst (N := 59) rfl ?_); (try (refine gate_guard (by rfl) ?_; dsimp only)); (with_reducible refine gate_callee (f := 13) rfl ?_); refine goesL_ (some 59) rfl rfl Tryd.func13 (by kernel_rfl) rfl #[.string t160, .string t161] rfl (by (try simp only [List.map_toArray, List.map_cons, List.map_nil]); first | done | rfl | (simp only [List.length_drop, List.length_take]; rfl)) ?_; (with_reducible refine (topic_Match.calls k2 t160 t161 true _ ?side1 A23.out).mono ?_); (case side1 => exact Gl.below HGL.out (by repeat (first | (with_reducible first | exact HB.out | apply below_alloc | apply pw_below_drewN | apply below_drew1) | exact HB.out))); rintro e w39 ⟨rfl, hb⟩; refine ⟨_, rfl, ?_⟩; have n0_ := Aside0.mk (Kd.R_below (by (with_reducible repeat (first | apply Kd.R_alloc | apply Kd.R_drewN | apply Kd.R_drew)); exact HO_9.out) hb); have n1_ := Aside0.mk (Kd.R_below (by (with_reducible repeat (first | apply Kd.R_alloc | apply Kd.R_drewN | apply Kd.R_drew)); exact HO_10.out) hb); have n2_ := Aside0.mk (Kd.R_below (by (with_reducible repeat (first | apply Kd.R_alloc | apply Kd.R_drewN | apply Kd.R_drew)); exact HO_11.out) hb); have n3_ := Aside0.mk (below_step (by repeat (first | (with_reducible first | exact HB.out | apply below_alloc | apply pw_below_drewN | apply below_drew1) | exact HB.out)) hb); clear HO_9; clear HO_10; clear HO_11; clear HB; have HO_9 := n0_; have HO_10 := n1_; have HO_11 := n2_; have HB := n3_; clear n0_ n1_ n2_ n3_; (try clear hb); (try clear hb2); (try clear hk); (try clear hi); obtain ⟨Ao40, co40, eo40⟩ := Kd.R_slice HO_10.out; subst eo40) | ((with_reducible refine gate_dst (N := 67) rfl ?_); (try (refine gate_guard (by rfl) ?_; dsimp only)); (with_reducible refine gate_callee (f := 15) rfl ?_); refine goesL_ (some 67) rfl rfl Tryd.func15 (by kernel_rfl) rfl #[.slice Ao40 x10_1.length co40] rfl (by (try simp only [List.map_toArray, List.map_cons, List.map_nil]); first | done | rfl | (simp only [List.length_drop, List.length_take]; rfl)) ?_; (with_reducible refine (carrefourlaw7_join.calls k2 _ _ x10_1 t163 _ ?side1 ?side2 A26.out).mono ?_); (case side1 => repeat (first | exact (Kd.R_reads' HO_10.out).2.2 | (with_reducible refine Kd.C_alloc ?_ _) | (with_reducible refine Kd.C_drewN ?_ _) | (with_reducible refine Kd.C_drew ?_))); (case side2 => exact (Kd.R_reads' HO_10.out).2.1); rintro e w' ⟨rfl, ⟨nd, rfl⟩⟩; refine ⟨_, rfl, ?_⟩) | ((with_reducible refine gate_dst (N := 69) rfl ?_); (try (refine gate_guard (by rfl) ?_; dsimp only)); (with_reducible refine gate_callee (f := 15) rfl ?_); refine goesL_ (some 69) rfl rfl Tryd.func15 (by kernel_rfl) rfl #[.slice Ao38 x11_2.length co38] rfl (by (try simp only [List.map_toArray, List.map_cons, List.map_nil]); first | done | rfl | (simp only [List.length_drop, List.length_take]; rfl)) ?_; (with_reducible refine (carrefourlaw7_join.calls k2 _ _ x11_2 t164 _ ?side1 ?side2 A27.out).mono ?_); (case side1 => repeat (first | exact (Kd.R_reads' HO_11.out).2.2 | (with_reducible refine Kd.C_alloc ?_ _) | (with_reducible refine Kd.C_drewN ?_ _) | (with_reducible refine Kd.C_drew ?_))); (case side2 => exact (Kd.R_reads' HO_11.out).2.1); rintro e w' ⟨rfl, ⟨nd, rfl⟩⟩; refine ⟨_, rfl, ?_⟩) | ((with_reducible refine gate_dst (N := 70) rfl ?_); (try (refine gate_guard (by rfl) ?_; dsimp only)); (with_reducible refine gate_callee (f := 13) rfl ?_); refine goesL_ (some 70) rfl rfl Tryd.func13 (by kernel_rfl) rfl #[.string t163, .string t164] rfl (by (try simp only [List.map_toArray, List.map_cons, List.map_nil]); first | done | rfl | (simp only [List.length_drop, List.length_take]; rfl)) ?_; (with_reducible refine (topic_Match.calls k2 t163 t164 false _ ?side1 A28.out).mono ?_); (case side1 => exact Gl.below HGL.out (by repeat (first | (with_reducible first | exact HB.out | apply below_alloc | apply pw_below_drewN | apply below_drew1) | exact HB.out))); rintro e w41 ⟨rfl, hb⟩; refine ⟨_, rfl, ?_⟩; have n0_ := Aside0.mk (Kd.R_below (by (with_reducible repeat (first | apply Kd.R_alloc | apply Kd.R_drewN | apply Kd.R_drew)); exact HO_9.out) hb); have n1_ := Aside0.mk (Kd.R_below (by (with_reducible repeat (first | apply Kd.R_alloc | apply Kd.R_drewN | apply Kd.R_drew)); exact HO_10.out) hb); have n2_ := Aside0.mk (Kd.R_below (by (with_reducible repeat (first | apply Kd.R_alloc | apply Kd.R_drewN | apply Kd.R_drew)); exact HO_11.out) hb); have n3_ := Aside0.mk (below_step (by repeat (first | (with_reducible first | exact HB.out | apply below_alloc | apply pw_below_drewN | apply below_drew1) | exact HB.out)) hb); clear HO_9; clear HO_10; clear HO_11; clear HB; have HO_9 := n0_; have HO_10 := n1_; have HO_11 := n2_; have HB := n3_; clear n0_ n1_ n2_ n3_; (try clear hb); (try clear hb2); (try clear hk); (try clear hi)))
            go_ret
            exact ⟨by first | rfl | (simp [errW_none, errW_some] <;> rfl) | (simp [*, errW_none, errW_some] <;> rfl), by repeat (first | (with_reducible first | exact HB.out | apply below_alloc | apply pw_below_drewN | apply below_drew1) | exact HB.out)⟩
          ·rw [if_neg c25] at H
           have c25b0 : ((wrap64 (1 + (wrap64 (Int.tmod (IntKind.u64.wrap (a0)) 9)))) == (wrap64 (Int.tmod (IntKind.u64.wrap (a1)) 9))) = false := beq_eq_false_iff_ne.mpr c25
           have c25b1 : ((wrap64 (1 + (wrap64 (Int.tmod (IntKind.u64.wrap (a0)) 9)))) != (wrap64 (Int.tmod (IntKind.u64.wrap (a1)) 9))) = true := bne_iff_ne.mpr c25
           rw [HRT.out] at H
           exact absurd H (by (repeat' split) <;> simp [Option.bind_eq_some_iff])
         ·replace c24 := Bool.eq_false_iff.mpr c24
          subst c24
          have H1 : (if (wrap64 (1 + (wrap64 (Int.tmod (IntKind.u64.wrap (a0)) 9)))) = (wrap64 (Int.tmod (IntKind.u64.wrap (a1)) 9)) then (some false) else ((carrefourlaw7_join.f k2 x10_1).bind fun t166 => ((carrefourlaw7_join.f k2 x11_2).bind fun t167 => ((topic_Match.f k2 t166 t167).bind fun t168 => (if t168 = true then (some (decide ((wrap64 (Int.tmod (IntKind.u64.wrap (a1)) 9)) ≥ (wrap64 (1 + (wrap64 (Int.tmod (IntKind.u64.wrap (a0)) 9))))))) else (some (!(decide ((wrap64 (Int.tmod (IntKind.u64.wrap (a1)) 9)) ≥ (wrap64 (1 + (wrap64 (Int.tmod (IntKind.u64.wrap (a0)) 9))))))))))))) = some r := by rw [if_neg (show ¬ (false = true) by decide)] at H; exact H
          clear H
          have H := H1
          clear H1
          by_cases c42 : (wrap64 (1 + (wrap64 (Int.tmod (IntKind.u64.wrap (a0)) 9)))) = (wrap64 (Int.tmod (IntKind.u64.wrap (a1)) 9))
          ·rw [if_pos c42] at H
           have c42b0 : ((wrap64 (1 + (wrap64 (Int.tmod (IntKind.u64.wrap (a0)) 9)))) == (wrap64 (Int.tmod (IntKind.u64.wrap (a1)) 9))) = true := beq_iff_eq.mpr c42
           have c42b1 : ((wrap64 (1 + (wrap64 (Int.tmod (IntKind.u64.wrap (a0)) 9)))) != (wrap64 (Int.tmod (IntKind.u64.wrap (a1)) 9))) = false := bne_eq_false_iff_eq.mpr c42
           clear c42
           rw [HRT.out] at H
           exact absurd H (by (repeat' split) <;> simp [Option.bind_eq_some_iff])
          ·rw [if_neg c42] at H
           have c42b0 : ((wrap64 (1 + (wrap64 (Int.tmod (IntKind.u64.wrap (a0)) 9)))) == (wrap64 (Int.tmod (IntKind.u64.wrap (a1)) 9))) = false := beq_eq_false_iff_ne.mpr c42
           have c42b1 : ((wrap64 (1 + (wrap64 (Int.tmod (IntKind.u64.wrap (a0)) 9)))) != (wrap64 (Int.tmod (IntKind.u64.wrap (a1)) 9))) = true := bne_iff_ne.mpr c42
           replace H := Option.bind_eq_some_iff.mp H
           obtain ⟨t166, A430, H⟩ := H
           replace H : ((carrefourlaw7_join.f k2 x11_2).bind fun t167 => ((topic_Match.f k2 t166 t167).bind fun t168 => (if t168 = true then (some (decide ((wrap64 (Int.tmod (IntKind.u64.wrap (a1)) 9)) ≥ (wrap64 (1 + (wrap64 (Int.tmod (IntKind.u64.wrap (a0)) 9))))))) else (some (!(decide ((wrap64 (Int.tmod (IntKind.u64.wrap (a1)) 9)) ≥ (wrap64 (1 + (wrap64 (Int.tmod (IntKind.u64.wrap (a0)) 9))))))))))) = some r := H
           have A43 := Aside0.mk A430
           clear A430
           replace H := Option.bind_eq_some_iff.mp H
           obtain ⟨t167, A440, H⟩ := H
           replace H : ((topic_Match.f k2 t166 t167).bind fun t168 => (if t168 = true then (some (decide ((wrap64 (Int.tmod (IntKind.u64.wrap (a1)) 9)) ≥ (wrap64 (1 + (wrap64 (Int.tmod (IntKind.u64.wrap (a0)) 9))))))) else (some (!(decide ((wrap64 (Int.tmod (IntKind.u64.wrap (a1)) 9)) ≥ (wrap64 (1 + (wrap64 (Int.tmod (IntKind.u64.wrap (a0)) 9)))))))))) = some r := H
           have A44 := Aside0.mk A440
           clear A440
           replace H := Option.bind_eq_some_iff.mp H
           obtain ⟨t168, A450, H⟩ := H
           replace H : (if t168 = true then (some (decide ((wrap64 (Int.tmod (IntKind.u64.wrap (a1)) 9)) ≥ (wrap64 (1 + (wrap64 (Int.tmod (IntKind.u64.wrap (a0)) 9))))))) else (some (!(decide ((wrap64 (Int.tmod (IntKind.u64.wrap (a1)) 9)) ≥ (wrap64 (1 + (wrap64 (Int.tmod (IntKind.u64.wrap (a0)) 9))))))))) = some r := H
           have A45 := Aside0.mk A450
           clear A450
           by_cases c46 : t168 = true
           ·subst c46
            have H1 : (some (decide ((wrap64 (Int.tmod (IntKind.u64.wrap (a1)) 9)) ≥ (wrap64 (1 + (wrap64 (Int.tmod (IntKind.u64.wrap (a0)) 9))))))) = some r := by rw [if_pos rfl] at H; exact H
            clear H
            have H := H1
            clear H1
            clear HRT
            obtain rfl := Option.some.inj H
            go_wp2_with (first | ((with_reducible refine gate_callee (f := 8) rfl ?_); refine goesL_ (some 53) rfl rfl Tryd.func8 (by kernel_rfl) rfl #[] rfl (by (try simp only [List.map_toArray, List.map_cons, List.map_nil]); first | done | rfl | (simp only [List.length_drop, List.length_take]; rfl)) ?_; (with_reducible refine (carrefourlaw7_told.calls k2  true _ ?side1 A19.out).mono ?_); (case side1 => exact Gl.below HGL.out (by repeat (first | (with_reducible first | exact HB.out | apply below_alloc | apply pw_below_drewN | apply below_drew1) | exact HB.out))); rintro e w47 ⟨rfl, hb⟩; refine ⟨_, rfl, ?_⟩; have n0_ := Aside0.mk (Kd.R_below (by (with_reducible repeat (first | apply Kd.R_alloc | apply Kd.R_drewN | apply Kd.R_drew)); exact HO_9.out) hb); have n1_ := Aside0.mk (Kd.R_below (by (with_reducible repeat (first | apply Kd.R_alloc | apply Kd.R_drewN | apply Kd.R_drew)); exact HO_10.out) hb); have n2_ := Aside0.mk (Kd.R_below (by (with_reducible repeat (first | apply Kd.R_alloc | apply Kd.R_drewN | apply Kd.R_drew)); exact HO_11.out) hb); have n3_ := Aside0.mk (below_step (by repeat (first | (with_reducible first | exact HB.out | apply below_alloc | apply pw_below_drewN | apply below_drew1) | exact HB.out)) hb); clear HO_9; clear HO_10; clear HO_11; clear HB; have HO_9 := n0_; have HO_10 := n1_; have HO_11 := n2_; have HB := n3_; clear n0_ n1_ n2_ n3_; (try clear hb); (try clear hb2); (try clear hk); (try clear hi); obtain ⟨Ao48, co48, eo48⟩ := Kd.R_slice HO_9.out; subst eo48) | ((with_reducible refine gate_dst (N := 56) rfl ?_); (try (refine gate_guard (by rfl) ?_; dsimp only)); (with_reducible refine gate_callee (f := 15) rfl ?_); refine goesL_ (some 56) rfl rfl Tryd.func15 (by kernel_rfl) rfl #[.slice Ao48 x9_1.length co48] rfl (by (try simp only [List.map_toArray, List.map_cons, List.map_nil]); first | done | rfl | (simp only [List.length_drop, List.length_take]; rfl)) ?_; (with_reducible refine (carrefourlaw7_join.calls k2 _ _ x9_1 t160 _ ?side1 ?side2 A21.out).mono ?_); (case side1 => repeat (first | exact (Kd.R_reads' HO_9.out).2.2 | (with_reducible refine Kd.C_alloc ?_ _) | (with_reducible refine Kd.C_drewN ?_ _) | (with_reducible refine Kd.C_drew ?_))); (case side2 => exact (Kd.R_reads' HO_9.out).2.1); rintro e w' ⟨rfl, ⟨nd, rfl⟩⟩; refine ⟨_, rfl, ?_⟩; obtain ⟨Ao49, co49, eo49⟩ := Kd.R_slice HO_11.out; subst eo49) | ((with_reducible refine gate_dst (N := 58) rfl ?_); (try (refine gate_guard (by rfl) ?_; dsimp only)); (with_reducible refine gate_callee (f := 15) rfl ?_); refine goesL_ (some 58) rfl rfl Tryd.func15 (by kernel_rfl) rfl #[.slice Ao49 x11_2.length co49] rfl (by (try simp only [List.map_toArray, List.map_cons, List.map_nil]); first | done | rfl | (simp only [List.length_drop, List.length_take]; rfl)) ?_; (with_reducible refine (carrefourlaw7_join.calls k2 _ _ x11_2 t161 _ ?side1 ?side2 A22.out).mono ?_); (case side1 => repeat (first | exact (Kd.R_reads' HO_11.out).2.2 | (with_reducible refine Kd.C_alloc ?_ _) | (with_reducible refine Kd.C_drewN ?_ _) | (with_reducible refine Kd.C_drew ?_))); (case side2 => exact (Kd.R_reads' HO_11.out).2.1); rintro e w' ⟨rfl, ⟨nd, rfl⟩⟩; refine ⟨_, rfl, ?_⟩) | ((with_reducible refine gate_dst (N := 59) rfl ?_); (try (refine gate_guard (by rfl) ?_; dsimp only)); (with_reducible refine gate_callee (f := 13) rfl ?_); refine goesL_ (some 59) rfl rfl Tryd.func13 (by kernel_rfl) rfl #[.string t160, .string t161] rfl (by (try simp only [List.map_toArray, List.map_cons, List.map_nil]); first | done | rfl | (simp only [List.length_drop, List.length_take]; rfl)) ?_; (with_reducible refine (topic_Match.calls k2 t160 t161 false _ ?side1 A23.out).mono ?_); (case side1 => exact Gl.below HGL.out (by repeat (first | (with_reducible first | exact HB.out | apply below_alloc | apply pw_below_drewN | apply below_drew1) | exact HB.out))); rintro e w50 ⟨rfl, hb⟩; refine ⟨_, rfl, ?_⟩; have n0_ := Aside0.mk (Kd.R_below (by (with_reducible repeat (first | apply Kd.R_alloc | apply Kd.R_drewN | apply Kd.R_drew)); exact HO_9.out) hb); have n1_ := Aside0.mk (Kd.R_below (by (with_reducible repeat (first | apply Kd.R_alloc | apply Kd.R_drewN | apply Kd.R_drew)); exact HO_10.out) hb); have n2_ := Aside0.mk (Kd.R_below (by (with_reducible repeat (first | apply Kd.R_alloc | apply Kd.R_drewN | apply Kd.R_drew)); exact HO_11.out) hb); have n3_ := Aside0.mk (below_step (by repeat (first | (with_reducible first | exact HB.out | apply below_alloc | apply pw_below_drewN | apply below_drew1) | exact HB.out)) hb); clear HO_9; clear HO_10; clear HO_11; clear HB; have HO_9 := n0_; have HO_10 := n1_; have HO_11 := n2_; have HB := n3_; clear n0_ n1_ n2_ n3_; (try clear hb); (try clear hb2); (try clear hk); (try clear hi); obtain ⟨Ao51, co51, eo51⟩ := Kd.R_slice HO_10.out; subst eo51) | ((with_reducible refine gate_dst (N := 67) rfl ?_); (try (refine gate_guard (by rfl) ?_; dsimp only)); (with_reducible refine gate_callee (f := 15) rfl ?_); refine goesL_ (some 67) rfl rfl Tryd.func15 (by kernel_rfl) rfl #[.slice Ao51 x10_1.length co51] rfl (by (try simp only [List.map_toArray, List.map_cons, List.map_nil]); first | done | rfl | (simp only [List.length_drop, List.length_take]; rfl)) ?_; (with_reducible refine (carrefourlaw7_join.calls k2 _ _ x10_1 t166 _ ?side1 ?side2 A43.out).mono ?_); (case side1 => repeat (first | exact (Kd.R_reads' HO_10.out).2.2 | (with_reducible refine Kd.C_alloc ?_ _) | (with_reducible refine Kd.C_drewN ?_ _) | (with_reducible refine Kd.C_drew ?_))); (case side2 => exact (Kd.R_reads' HO_10.out).2.1); rintro e w' ⟨rfl, ⟨nd, rfl⟩⟩; refine ⟨_, rfl, ?_⟩) | ((with_reducible refine gate_dst (N := 69) rfl ?_); (try (refine gate_guard (by rfl) ?_; dsimp only)); (with_reducible refine gate_callee (f := 15) rfl ?_); refine goesL_ (some 69) rfl rfl Tryd.func15 (by kernel_rfl) rfl #[.slice Ao49 x11_2.length co49] rfl (by (try simp only [List.map_toArray, List.map_cons, List.map_nil]); first | done | rfl | (simp only [List.length_drop, List.length_take]; rfl)) ?_; (with_reducible refine (carrefourlaw7_join.calls k2 _ _ x11_2 t167 _ ?side1 ?side2 A44.out).mono ?_); (case side1 => repeat (first | exact (Kd.R_reads' HO_11.out).2.2 | (with_reducible refine Kd.C_alloc ?_ _) | (with_reducible refine Kd.C_drewN ?_ _) | (with_reducible refine Kd.C_drew ?_))); (case side2 => exact (Kd.R_reads' HO_11.out).2.1); rintro e w' ⟨rfl, ⟨nd, rfl⟩⟩; refine ⟨_, rfl, ?_⟩) | ((with_reducible refine gate_dst (N := 70) rfl ?_); (try (refine gate_guard (by rfl) ?_; dsimp only)); (with_reducible refine gate_callee (f := 13) rfl ?_); refine goesL_ (some 70) rfl rfl Tryd.func13 (by kernel_rfl) rfl #[.string t166, .string t167] rfl (by (try simp only [List.map_toArray, List.map_cons, List.map_nil]); first | done | rfl | (simp only [List.length_drop, List.length_take]; rfl)) ?_; (with_reducible refine (topic_Match.calls k2 t166 t167 true _ ?side1 A45.out).mono ?_); (case side1 => exact Gl.below HGL.out (by repeat (first | (with_reducible first | exact HB.out | apply below_alloc | apply pw_below_drewN | apply below_drew1) | exact HB.out))); rintro e w52 ⟨rfl, hb⟩; refine ⟨_, rfl, ?_⟩; have n0_ := Aside0.mk (Kd.R_below (by (with_reducible repeat (first | apply Kd.R_alloc | apply Kd.R_drewN | apply Kd.R_drew)); exact HO_9.out) hb); have n1_ := Aside0.mk (Kd.R_below (by (with_reducible repeat (first | apply Kd.R_alloc | apply Kd.R_drewN | apply Kd.R_drew)); exact HO_10.out) hb); have n2_ := Aside0.mk (Kd.R_below (by (with_reducible repeat (first | apply Kd.R_alloc | apply Kd.R_drewN | apply Kd.R_drew)); exact HO_11.out) hb); have n3_ := Aside0.mk (below_step (by repeat (first | (with_reducible first | exact HB.out | apply below_alloc | apply pw_below_drewN | apply below_drew1) | exact HB.out)) hb); clear HO_9; clear HO_10; clear HO_11; clear HB; have HO_9 := n0_; have HO_10 := n1_; have HO_11 := n2_; have HB := n3_; clear n0_ n1_ n2_ n3_; (try clear hb); (try clear hb2); (try clear hk); (try clear hi)))
            go_ret
            exact ⟨by first | rfl | (simp [errW_none, errW_some] <;> rfl) | (simp [*, errW_none, errW_some] <;> rfl), by repeat (first | (with_reducible first | exact HB.out | apply below_alloc | apply pw_below_drewN | apply below_drew1) | exact HB.out)⟩
           ·replace c46 := Bool.eq_false_iff.mpr c46
            subst c46
            have H1 : (some (!(decide ((wrap64 (Int.tmod (IntKind.u64.wrap (a1)) 9)) ≥ (wrap64 (1 + (wrap64 (Int.tmod (IntKind.u64.wrap (a0)) 9)))))))) = some r := by rw [if_neg (show ¬ (false = true) by decide)] at H; exact H
            clear H
            have H := H1
            clear H1
            clear HRT
            obtain rfl := Option.some.inj H
            go_wp2_with (first | ((with_reducible refine gate_callee (f := 8) rfl ?_); refine goesL_ (some 53) rfl rfl Tryd.func8 (by kernel_rfl) rfl #[] rfl (by (try simp only [List.map_toArray, List.map_cons, List.map_nil]); first | done | rfl | (simp only [List.length_drop, List.length_take]; rfl)) ?_; (with_reducible refine (carrefourlaw7_told.calls k2  true _ ?side1 A19.out).mono ?_); (case side1 => exact Gl.below HGL.out (by repeat (first | (with_reducible first | exact HB.out | apply below_alloc | apply pw_below_drewN | apply below_drew1) | exact HB.out))); rintro e w53 ⟨rfl, hb⟩; refine ⟨_, rfl, ?_⟩; have n0_ := Aside0.mk (Kd.R_below (by (with_reducible repeat (first | apply Kd.R_alloc | apply Kd.R_drewN | apply Kd.R_drew)); exact HO_9.out) hb); have n1_ := Aside0.mk (Kd.R_below (by (with_reducible repeat (first | apply Kd.R_alloc | apply Kd.R_drewN | apply Kd.R_drew)); exact HO_10.out) hb); have n2_ := Aside0.mk (Kd.R_below (by (with_reducible repeat (first | apply Kd.R_alloc | apply Kd.R_drewN | apply Kd.R_drew)); exact HO_11.out) hb); have n3_ := Aside0.mk (below_step (by repeat (first | (with_reducible first | exact HB.out | apply below_alloc | apply pw_below_drewN | apply below_drew1) | exact HB.out)) hb); clear HO_9; clear HO_10; clear HO_11; clear HB; have HO_9 := n0_; have HO_10 := n1_; have HO_11 := n2_; have HB := n3_; clear n0_ n1_ n2_ n3_; (try clear hb); (try clear hb2); (try clear hk); (try clear hi); obtain ⟨Ao54, co54, eo54⟩ := Kd.R_slice HO_9.out; subst eo54) | ((with_reducible refine gate_dst (N := 56) rfl ?_); (try (refine gate_guard (by rfl) ?_; dsimp only)); (with_reducible refine gate_callee (f := 15) rfl ?_); refine goesL_ (some 56) rfl rfl Tryd.func15 (by kernel_rfl) rfl #[.slice Ao54 x9_1.length co54] rfl (by (try simp only [List.map_toArray, List.map_cons, List.map_nil]); first | done | rfl | (simp only [List.length_drop, List.length_take]; rfl)) ?_; (with_reducible refine (carrefourlaw7_join.calls k2 _ _ x9_1 t160 _ ?side1 ?side2 A21.out).mono ?_); (case side1 => repeat (first | exact (Kd.R_reads' HO_9.out).2.2 | (with_reducible refine Kd.C_alloc ?_ _) | (with_reducible refine Kd.C_drewN ?_ _) | (with_reducible refine Kd.C_drew ?_))); (case side2 => exact (Kd.R_reads' HO_9.out).2.1); rintro e w' ⟨rfl, ⟨nd, rfl⟩⟩; refine ⟨_, rfl, ?_⟩; obtain ⟨Ao55, co55, eo55⟩ := Kd.R_slice HO_11.out; subst eo55) | ((with_reducible refine gate_dst (N := 58) rfl ?_); (try (refine gate_guard (by rfl) ?_; dsimp only)); (with_reducible refine gate_callee (f := 15) rfl ?_); refine goesL_ (some 58) rfl rfl Tryd.func15 (by kernel_rfl) rfl #[.slice Ao55 x11_2.length co55] rfl (by (try simp only [List.map_toArray, List.map_cons, List.map_nil]); first | done | rfl | (simp only [List.length_drop, List.length_take]; rfl)) ?_; (with_reducible refine (carrefourlaw7_join.calls k2 _ _ x11_2 t161 _ ?side1 ?side2 A22.out).mono ?_); (case side1 => repeat (first | exact (Kd.R_reads' HO_11.out).2.2 | (with_reducible refine Kd.C_alloc ?_ _) | (with_reducible refine Kd.C_drewN ?_ _) | (with_reducible refine Kd.C_drew ?_))); (case side2 => exact (Kd.R_reads' HO_11.out).2.1); rintro e w' ⟨rfl, ⟨nd, rfl⟩⟩; refine ⟨_, rfl, ?_⟩) | ((with_reducible refine gate_dst (N := 59) rfl ?_); (try (refine gate_guard (by rfl) ?_; dsimp only)); (with_reducible refine gate_callee (f := 13) rfl ?_); refine goesL_ (some 59) rfl rfl Tryd.func13 (by kernel_rfl) rfl #[.string t160, .string t161] rfl (by (try simp only [List.map_toArray, List.map_cons, List.map_nil]); first | done | rfl | (simp only [List.length_drop, List.length_take]; rfl)) ?_; (with_reducible refine (topic_Match.calls k2 t160 t161 false _ ?side1 A23.out).mono ?_); (case side1 => exact Gl.below HGL.out (by repeat (first | (with_reducible first | exact HB.out | apply below_alloc | apply pw_below_drewN | apply below_drew1) | exact HB.out))); rintro e w56 ⟨rfl, hb⟩; refine ⟨_, rfl, ?_⟩; have n0_ := Aside0.mk (Kd.R_below (by (with_reducible repeat (first | apply Kd.R_alloc | apply Kd.R_drewN | apply Kd.R_drew)); exact HO_9.out) hb); have n1_ := Aside0.mk (Kd.R_below (by (with_reducible repeat (first | apply Kd.R_alloc | apply Kd.R_drewN | apply Kd.R_drew)); exact HO_10.out) hb); have n2_ := Aside0.mk (Kd.R_below (by (with_reducible repeat (first | apply Kd.R_alloc | apply Kd.R_drewN | apply Kd.R_drew)); exact HO_11.out) hb); have n3_ := Aside0.mk (below_step (by repeat (first | (with_reducible first | exact HB.out | apply below_alloc | apply pw_below_drewN | apply below_drew1) | exact HB.out)) hb); clear HO_9; clear HO_10; clear HO_11; clear HB; have HO_9 := n0_; have HO_10 := n1_; have HO_11 := n2_; have HB := n3_; clear n0_ n1_ n2_ n3_; (try clear hb); (try clear hb2); (try clear hk); (try clear hi); obtain ⟨Ao57, co57, eo57⟩ := Kd.R_slice HO_10.out; subst eo57) | ((with_reducible refine gate_dst (N := 67) rfl ?_); (try (refine gate_guard (by rfl) ?_; dsimp only)); (with_reducible refine gate_callee (f := 15) rfl ?_); refine goesL_ (some 67) rfl rfl Tryd.func15 (by kernel_rfl) rfl #[.slice Ao57 x10_1.length co57] rfl (by (try simp only [List.map_toArray, List.map_cons, List.map_nil]); first | done | rfl | (simp only [List.length_drop, List.length_take]; rfl)) ?_; (with_reducible refine (carrefourlaw7_join.calls k2 _ _ x10_1 t166 _ ?side1 ?side2 A43.out).mono ?_); (case side1 => repeat (first | exact (Kd.R_reads' HO_10.out).2.2 | (with_reducible refine Kd.C_alloc ?_ _) | (with_reducible refine Kd.C_drewN ?_ _) | (with_reducible refine Kd.C_drew ?_))); (case side2 => exact (Kd.R_reads' HO_10.out).2.1); rintro e w' ⟨rfl, ⟨nd, rfl⟩⟩; refine ⟨_, rfl, ?_⟩) | ((with_reducible refine gate_dst (N := 69) rfl ?_); (try (refine gate_guard (by rfl) ?_; dsimp only)); (with_reducible refine gate_callee (f := 15) rfl ?_); refine goesL_ (some 69) rfl rfl Tryd.func15 (by kernel_rfl) rfl #[.slice Ao55 x11_2.length co55] rfl (by (try simp only [List.map_toArray, List.map_cons, List.map_nil]); first | done | rfl | (simp only [List.length_drop, List.length_take]; rfl)) ?_; (with_reducible refine (carrefourlaw7_join.calls k2 _ _ x11_2 t167 _ ?side1 ?side2 A44.out).mono ?_); (case side1 => repeat (first | exact (Kd.R_reads' HO_11.out).2.2 | (with_reducible refine Kd.C_alloc ?_ _) | (with_reducible refine Kd.C_drewN ?_ _) | (with_reducible refine Kd.C_drew ?_))); (case side2 => exact (Kd.R_reads' HO_11.out).2.1); rintro e w' ⟨rfl, ⟨nd, rfl⟩⟩; refine ⟨_, rfl, ?_⟩) | ((with_reducible refine gate_dst (N := 70) rfl ?_); (try (refine gate_guard (by rfl) ?_; dsimp only)); (with_reducible refine gate_callee (f := 13) rfl ?_); refine goesL_ (some 70) rfl rfl Tryd.func13 (by kernel_rfl) rfl #[.string t166, .string t167] rfl (by (try simp only [List.map_toArray, List.map_cons, List.map_nil]); first | done | rfl | (simp only [List.length_drop, List.length_take]; rfl)) ?_; (with_reducible refine (topic_Match.calls k2 t166 t167 false _ ?side1 A45.out).mono ?_); (case side1 => exact Gl.below HGL.out (by repeat (first | (with_reducible first | exact HB.out | apply below_alloc | apply pw_below_drewN | apply below_drew1) | exact HB.out))); rintro e w58 ⟨rfl, hb⟩; refine ⟨_, rfl, ?_⟩; have n0_ := Aside0.mk (Kd.R_below (by (with_reducible repeat (first | apply Kd.R_alloc | apply Kd.R_drewN | apply Kd.R_drew)); exact HO_9.out) hb); have n1_ := Aside0.mk (Kd.R_below (by (with_reducible repeat (first | apply Kd.R_alloc | apply Kd.R_drewN | apply Kd.R_drew)); exact HO_10.out) hb); have n2_ := Aside0.mk (Kd.R_below (by (with_reducible repeat (first | apply Kd.R_alloc | apply Kd.R_drewN | apply Kd.R_drew)); exact HO_11.out) hb); have n3_ := Aside0.mk (below_step (by repeat (first | (with_reducible first | exact HB.out | apply below_alloc | apply pw_below_drewN | apply below_drew1) | exact HB.out)) hb); clear HO_9; clear HO_10; clear HO_11; clear HB; have HO_9 := n0_; have HO_10 := n1_; have HO_11 := n2_; have HB := n3_; clear n0_ n1_ n2_ n3_; (try clear hb); (try clear hb2); (try clear hk); (try clear hi)))
            go_ret
            exact ⟨by first | rfl | (simp [errW_none, errW_some] <;> rfl) | (simp [*, errW_none, errW_some] <;> rfl), by repeat (first | (with_reducible first | exact HB.out | apply below_alloc | apply pw_below_drewN | apply below_drew1) | exact HB.out)⟩
        ·replace c20 := Bool.eq_false_iff.mpr c20
         subst c20
         have H1 : (some false) = some r := by rw [if_neg (show ¬ (false = true) by decide)] at H; exact H
         clear H
         have H := H1
         clear H1
         rw [HRT.out] at H
         exact absurd H (by (repeat' split) <;> simp [Option.bind_eq_some_iff])
def carrefourlaw7_TopicStars.Pure : Prop := ∀ (a0 : Int) (a1 : Int) (a2 : Int), (Lit.int .i64 a0).wf = true → (Lit.int .i64 a1).wf = true → (Lit.int .i64 a2).wf = true → ∃ k, carrefourlaw7_TopicStars.f k a0 a1 a2 = some true

end Go.Proofs.YtjnplofopiohaaaDoor.PGp
