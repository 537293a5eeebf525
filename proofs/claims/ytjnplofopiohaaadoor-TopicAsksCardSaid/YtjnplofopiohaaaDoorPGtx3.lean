-- Written by gprint.py, this session's own program, out of Lean's print of the translation: functions with the same answers, and proofs that the Go code comes to them. Lean checks it all.
import Derived.Test.YtjnplofopiohaaaDoorPGtx0
import Derived.Test.YtjnplofopiohaaaDoorPGtx1
import Derived.Test.YtjnplofopiohaaaDoorPGtx2
namespace Go.Proofs.YtjnplofopiohaaaDoor.PGt
open Go.RowKit Go.Proofs.YtjnplofopiohaaaDoorW.PrintWords Go.Proofs.YtjnplofopiohaaaDoorW.PrintLast Go.Proofs.YtjnplofopiohaaaDoorW.PrintMore Go.Proofs.YtjnplofopiohaaaDoorG Go.Proofs.YtjnplofopiohaaaDoorH
attribute [local go_sem] max2_int min2_int max_two min_two max_three min_three max_four min_four   -- for this text's walks alone
set_option linter.unusedVariables false
set_option linter.unusedSimpArgs false

/-! ### carrefourlaw7_told: function 8 -/
def carrefourlaw7_told.f (k : Nat)  : Option (Bool) := (topic_Words.f (⟨#[97, 46, 46, 98]⟩ : ByteArray)).bind fun t128 => (if (t128.length : Int) = 3 then (if 1 < (t128.length : Int) then (if (rdOf ByteArray.empty t128 1).toList = ([] : List UInt8) then ((topic_Words.f (⟨#[]⟩ : ByteArray)).bind fun t132 => (if (t132.length : Int) = 0 then ((topic_Match.f k (⟨#[97, 46, 35, 46, 98]⟩ : ByteArray) (⟨#[97, 46, 98]⟩ : ByteArray)).bind fun t135 => (if t135 = true then ((topic_Match.f k (⟨#[35]⟩ : ByteArray) (⟨#[]⟩ : ByteArray)).bind fun t136 => (if t136 = true then ((topic_Match.f k (⟨#[42, 46, 98]⟩ : ByteArray) (⟨#[120, 46, 98]⟩ : ByteArray)).bind fun t137 => (if t137 = true then ((topic_Match.f k (⟨#[42]⟩ : ByteArray) (⟨#[]⟩ : ByteArray)).bind fun t138 => (if t138 = true then (some false) else ((topic_Match.f k (⟨#[97, 46, 42]⟩ : ByteArray) (⟨#[97, 46, 98, 46, 99]⟩ : ByteArray)).bind fun t139 => (if t139 = true then (some false) else ((topic_May.f k (⟨#[97, 46, 42, 46, 35]⟩ : ByteArray)).bind fun t140 => (if t140 = true then ((topic_May.f k (⟨#[97, 42]⟩ : ByteArray)).bind fun t141 => (some (!t141))) else (some false))))))) else (some false))) else (some false))) else (some false))) else (some false))) else (some false)) else (none)) else (some false))
theorem carrefourlaw7_told.mono : ∀ k, LeO (carrefourlaw7_told.f k ) (carrefourlaw7_told.f (k + 1) ) := by
  intro  k
  unfold carrefourlaw7_told.f
  repeat' first
      | (with_reducible exact topic_Match.mono _ _ _)
      | (with_reducible exact topic_May.mono _ _)
      | (with_reducible exact LeO.refl _)
      | (with_reducible exact LeO.none _)
      | (with_reducible refine LeO.ite ?_ ?_)
      | (with_reducible refine LeO.bind ?_ (fun _ => ?_))
      | exact topic_Match.mono _ _ _
      | exact topic_May.mono _ _
      | exact LeO.none _
      | refine LeO.ite ?_ ?_
      | refine LeO.bind ?_ (fun _ => ?_)
set_option maxHeartbeats 8000000 in
set_option maxRecDepth 100000 in
theorem carrefourlaw7_told.calls_true (k : Nat)  (r : Bool) (w : World) (hgl : Gl w) (hrt : r = true) (h : carrefourlaw7_told.f k  = some r) :
    Calls Tryd.prog 8 #[] w fun e w' => e = .returned (.bool r) ∧ Below w.heap.size w w' := by
  have HRT := Aside0.mk hrt
  clear hrt
  have HGL := Aside0.mk hgl
  clear hgl
  have HB := Aside0.mk (Below.refl w.heap.size w)
  have H : ((topic_Words.f (⟨#[97, 46, 46, 98]⟩ : ByteArray)).bind fun t128 => (if (t128.length : Int) = 3 then (if 1 < (t128.length : Int) then (if (rdOf ByteArray.empty t128 1).toList = ([] : List UInt8) then ((topic_Words.f (⟨#[]⟩ : ByteArray)).bind fun t132 => (if (t132.length : Int) = 0 then ((topic_Match.f k (⟨#[97, 46, 35, 46, 98]⟩ : ByteArray) (⟨#[97, 46, 98]⟩ : ByteArray)).bind fun t135 => (if t135 = true then ((topic_Match.f k (⟨#[35]⟩ : ByteArray) (⟨#[]⟩ : ByteArray)).bind fun t136 => (if t136 = true then ((topic_Match.f k (⟨#[42, 46, 98]⟩ : ByteArray) (⟨#[120, 46, 98]⟩ : ByteArray)).bind fun t137 => (if t137 = true then ((topic_Match.f k (⟨#[42]⟩ : ByteArray) (⟨#[]⟩ : ByteArray)).bind fun t138 => (if t138 = true then (some false) else ((topic_Match.f k (⟨#[97, 46, 42]⟩ : ByteArray) (⟨#[97, 46, 98, 46, 99]⟩ : ByteArray)).bind fun t139 => (if t139 = true then (some false) else ((topic_May.f k (⟨#[97, 46, 42, 46, 35]⟩ : ByteArray)).bind fun t140 => (if t140 = true then ((topic_May.f k (⟨#[97, 42]⟩ : ByteArray)).bind fun t141 => (some (!t141))) else (some false))))))) else (some false))) else (some false))) else (some false))) else (some false))) else (some false)) else (none)) else (some false))) = some r := h
  clear h
  replace H := Option.bind_eq_some_iff.mp H
  obtain ⟨t128, A10, H⟩ := H
  replace H : (if (t128.length : Int) = 3 then (if 1 < (t128.length : Int) then (if (rdOf ByteArray.empty t128 1).toList = ([] : List UInt8) then ((topic_Words.f (⟨#[]⟩ : ByteArray)).bind fun t132 => (if (t132.length : Int) = 0 then ((topic_Match.f k (⟨#[97, 46, 35, 46, 98]⟩ : ByteArray) (⟨#[97, 46, 98]⟩ : ByteArray)).bind fun t135 => (if t135 = true then ((topic_Match.f k (⟨#[35]⟩ : ByteArray) (⟨#[]⟩ : ByteArray)).bind fun t136 => (if t136 = true then ((topic_Match.f k (⟨#[42, 46, 98]⟩ : ByteArray) (⟨#[120, 46, 98]⟩ : ByteArray)).bind fun t137 => (if t137 = true then ((topic_Match.f k (⟨#[42]⟩ : ByteArray) (⟨#[]⟩ : ByteArray)).bind fun t138 => (if t138 = true then (some false) else ((topic_Match.f k (⟨#[97, 46, 42]⟩ : ByteArray) (⟨#[97, 46, 98, 46, 99]⟩ : ByteArray)).bind fun t139 => (if t139 = true then (some false) else ((topic_May.f k (⟨#[97, 46, 42, 46, 35]⟩ : ByteArray)).bind fun t140 => (if t140 = true then ((topic_May.f k (⟨#[97, 42]⟩ : ByteArray)).bind fun t141 => (some (!t141))) else (some false))))))) else (some false))) else (some false))) else (some false))) else (some false))) else (some false)) else (none)) else (some false)) = some r := H
  have A1 := Aside0.mk A10
  clear A10
  by_cases c2 : (t128.length : Int) = 3
  ·rw [if_pos c2] at H
   have c2b0 : ((t128.length : Int) == 3) = true := beq_iff_eq.mpr c2
   have c2b1 : ((t128.length : Int) != 3) = false := bne_eq_false_iff_eq.mpr c2
   clear c2
   by_cases c3 : 1 < (t128.length : Int)
   ·rw [if_pos c3] at H
    have c3b0 : decide (1 < (t128.length : Int)) = true := decide_eq_true c3
    have c3b1 : decide (1 < t128.length) = true := decide_eq_true (by omega)
    clear c3
    by_cases c4 : (rdOf ByteArray.empty t128 1).toList = ([] : List UInt8)
    ·rw [if_pos c4] at H
     have c4b0 : ((rdOf ByteArray.empty t128 1).toList == ([] : List UInt8)) = true := beq_iff_eq.mpr c4
     have c4b1 : ((rdOf ByteArray.empty t128 1).toList != ([] : List UInt8)) = false := bne_eq_false_iff_eq.mpr c4
     clear c4
     replace H := Option.bind_eq_some_iff.mp H
     obtain ⟨t132, A50, H⟩ := H
     replace H : (if (t132.length : Int) = 0 then ((topic_Match.f k (⟨#[97, 46, 35, 46, 98]⟩ : ByteArray) (⟨#[97, 46, 98]⟩ : ByteArray)).bind fun t135 => (if t135 = true then ((topic_Match.f k (⟨#[35]⟩ : ByteArray) (⟨#[]⟩ : ByteArray)).bind fun t136 => (if t136 = true then ((topic_Match.f k (⟨#[42, 46, 98]⟩ : ByteArray) (⟨#[120, 46, 98]⟩ : ByteArray)).bind fun t137 => (if t137 = true then ((topic_Match.f k (⟨#[42]⟩ : ByteArray) (⟨#[]⟩ : ByteArray)).bind fun t138 => (if t138 = true then (some false) else ((topic_Match.f k (⟨#[97, 46, 42]⟩ : ByteArray) (⟨#[97, 46, 98, 46, 99]⟩ : ByteArray)).bind fun t139 => (if t139 = true then (some false) else ((topic_May.f k (⟨#[97, 46, 42, 46, 35]⟩ : ByteArray)).bind fun t140 => (if t140 = true then ((topic_May.f k (⟨#[97, 42]⟩ : ByteArray)).bind fun t141 => (some (!t141))) else (some false))))))) else (some false))) else (some false))) else (some false))) else (some false)) = some r := H
     have A5 := Aside0.mk A50
     clear A50
     by_cases c6 : (t132.length : Int) = 0
     ·rw [if_pos c6] at H
      have c6b0 : ((t132.length : Int) == 0) = true := beq_iff_eq.mpr c6
      have c6b1 : ((t132.length : Int) != 0) = false := bne_eq_false_iff_eq.mpr c6
      clear c6
      replace H := Option.bind_eq_some_iff.mp H
      obtain ⟨t135, A70, H⟩ := H
      replace H : (if t135 = true then ((topic_Match.f k (⟨#[35]⟩ : ByteArray) (⟨#[]⟩ : ByteArray)).bind fun t136 => (if t136 = true then ((topic_Match.f k (⟨#[42, 46, 98]⟩ : ByteArray) (⟨#[120, 46, 98]⟩ : ByteArray)).bind fun t137 => (if t137 = true then ((topic_Match.f k (⟨#[42]⟩ : ByteArray) (⟨#[]⟩ : ByteArray)).bind fun t138 => (if t138 = true then (some false) else ((topic_Match.f k (⟨#[97, 46, 42]⟩ : ByteArray) (⟨#[97, 46, 98, 46, 99]⟩ : ByteArray)).bind fun t139 => (if t139 = true then (some false) else ((topic_May.f k (⟨#[97, 46, 42, 46, 35]⟩ : ByteArray)).bind fun t140 => (if t140 = true then ((topic_May.f k (⟨#[97, 42]⟩ : ByteArray)).bind fun t141 => (some (!t141))) else (some false))))))) else (some false))) else (some false))) else (some false)) = some r := H
      have A7 := Aside0.mk A70
      clear A70
      by_cases c8 : t135 = true
      ·subst c8
       have H1 : ((topic_Match.f k (⟨#[35]⟩ : ByteArray) (⟨#[]⟩ : ByteArray)).bind fun t136 => (if t136 = true then ((topic_Match.f k (⟨#[42, 46, 98]⟩ : ByteArray) (⟨#[120, 46, 98]⟩ : ByteArray)).bind fun t137 => (if t137 = true then ((topic_Match.f k (⟨#[42]⟩ : ByteArray) (⟨#[]⟩ : ByteArray)).bind fun t138 => (if t138 = true then (some false) else ((topic_Match.f k (⟨#[97, 46, 42]⟩ : ByteArray) (⟨#[97, 46, 98, 46, 99]⟩ : ByteArray)).bind fun t139 => (if t139 = true then (some false) else ((topic_May.f k (⟨#[97, 46, 42, 46, 35]⟩ : ByteArray)).bind fun t140 => (if t140 = true then ((topic_May.f k (⟨#[97, 42]⟩ : ByteArray)).bind fun t141 => (some (!t141))) else (some false))))))) else (some false))) else (some false))) = some r := by rw [if_pos rfl] at H; exact H
       clear H
       have H := H1
       clear H1
       replace H := Option.bind_eq_some_iff.mp H
       obtain ⟨t136, A90, H⟩ := H
       replace H : (if t136 = true then ((topic_Match.f k (⟨#[42, 46, 98]⟩ : ByteArray) (⟨#[120, 46, 98]⟩ : ByteArray)).bind fun t137 => (if t137 = true then ((topic_Match.f k (⟨#[42]⟩ : ByteArray) (⟨#[]⟩ : ByteArray)).bind fun t138 => (if t138 = true then (some false) else ((topic_Match.f k (⟨#[97, 46, 42]⟩ : ByteArray) (⟨#[97, 46, 98, 46, 99]⟩ : ByteArray)).bind fun t139 => (if t139 = true then (some false) else ((topic_May.f k (⟨#[97, 46, 42, 46, 35]⟩ : ByteArray)).bind fun t140 => (if t140 = true then ((topic_May.f k (⟨#[97, 42]⟩ : ByteArray)).bind fun t141 => (some (!t141))) else (some false))))))) else (some false))) else (some false)) = some r := H
       have A9 := Aside0.mk A90
       clear A90
       by_cases c10 : t136 = true
       ·subst c10
        have H1 : ((topic_Match.f k (⟨#[42, 46, 98]⟩ : ByteArray) (⟨#[120, 46, 98]⟩ : ByteArray)).bind fun t137 => (if t137 = true then ((topic_Match.f k (⟨#[42]⟩ : ByteArray) (⟨#[]⟩ : ByteArray)).bind fun t138 => (if t138 = true then (some false) else ((topic_Match.f k (⟨#[97, 46, 42]⟩ : ByteArray) (⟨#[97, 46, 98, 46, 99]⟩ : ByteArray)).bind fun t139 => (if t139 = true then (some false) else ((topic_May.f k (⟨#[97, 46, 42, 46, 35]⟩ : ByteArray)).bind fun t140 => (if t140 = true then ((topic_May.f k (⟨#[97, 42]⟩ : ByteArray)).bind fun t141 => (some (!t141))) else (some false))))))) else (some false))) = some r := by rw [if_pos rfl] at H; exact H
        clear H
        have H := H1
        clear H1
        replace H := Option.bind_eq_some_iff.mp H
        obtain ⟨t137, A110, H⟩ := H
        replace H : (if t137 = true then ((topic_Match.f k (⟨#[42]⟩ : ByteArray) (⟨#[]⟩ : ByteArray)).bind fun t138 => (if t138 = true then (some false) else ((topic_Match.f k (⟨#[97, 46, 42]⟩ : ByteArray) (⟨#[97, 46, 98, 46, 99]⟩ : ByteArray)).bind fun t139 => (if t139 = true then (some false) else ((topic_May.f k (⟨#[97, 46, 42, 46, 35]⟩ : ByteArray)).bind fun t140 => (if t140 = true then ((topic_May.f k (⟨#[97, 42]⟩ : ByteArray)).bind fun t141 => (some (!t141))) else (some false))))))) else (some false)) = some r := H
        have A11 := Aside0.mk A110
        clear A110
        by_cases c12 : t137 = true
        ·subst c12
         have H1 : ((topic_Match.f k (⟨#[42]⟩ : ByteArray) (⟨#[]⟩ : ByteArray)).bind fun t138 => (if t138 = true then (some false) else ((topic_Match.f k (⟨#[97, 46, 42]⟩ : ByteArray) (⟨#[97, 46, 98, 46, 99]⟩ : ByteArray)).bind fun t139 => (if t139 = true then (some false) else ((topic_May.f k (⟨#[97, 46, 42, 46, 35]⟩ : ByteArray)).bind fun t140 => (if t140 = true then ((topic_May.f k (⟨#[97, 42]⟩ : ByteArray)).bind fun t141 => (some (!t141))) else (some false))))))) = some r := by rw [if_pos rfl] at H; exact H
         clear H
         have H := H1
         clear H1
         replace H := Option.bind_eq_some_iff.mp H
         obtain ⟨t138, A130, H⟩ := H
         replace H : (if t138 = true then (some false) else ((topic_Match.f k (⟨#[97, 46, 42]⟩ : ByteArray) (⟨#[97, 46, 98, 46, 99]⟩ : ByteArray)).bind fun t139 => (if t139 = true then (some false) else ((topic_May.f k (⟨#[97, 46, 42, 46, 35]⟩ : ByteArray)).bind fun t140 => (if t140 = true then ((topic_May.f k (⟨#[97, 42]⟩ : ByteArray)).bind fun t141 => (some (!t141))) else (some false)))))) = some r := H
         have A13 := Aside0.mk A130
         clear A130
         by_cases c14 : t138 = true
         ·subst c14
          have H1 : (some false) = some r := by rw [if_pos rfl] at H; exact H
          clear H
          have H := H1
          clear H1
          rw [HRT.out] at H
          exact absurd H (by (repeat' split) <;> simp [Option.bind_eq_some_iff])
         ·replace c14 := Bool.eq_false_iff.mpr c14
          subst c14
          have H1 : ((topic_Match.f k (⟨#[97, 46, 42]⟩ : ByteArray) (⟨#[97, 46, 98, 46, 99]⟩ : ByteArray)).bind fun t139 => (if t139 = true then (some false) else ((topic_May.f k (⟨#[97, 46, 42, 46, 35]⟩ : ByteArray)).bind fun t140 => (if t140 = true then ((topic_May.f k (⟨#[97, 42]⟩ : ByteArray)).bind fun t141 => (some (!t141))) else (some false))))) = some r := by rw [if_neg (show ¬ (false = true) by decide)] at H; exact H
          clear H
          have H := H1
          clear H1
          replace H := Option.bind_eq_some_iff.mp H
          obtain ⟨t139, A150, H⟩ := H
          replace H : (if t139 = true then (some false) else ((topic_May.f k (⟨#[97, 46, 42, 46, 35]⟩ : ByteArray)).bind fun t140 => (if t140 = true then ((topic_May.f k (⟨#[97, 42]⟩ : ByteArray)).bind fun t141 => (some (!t141))) else (some false)))) = some r := H
          have A15 := Aside0.mk A150
          clear A150
          by_cases c16 : t139 = true
          ·subst c16
           have H1 : (some false) = some r := by rw [if_pos rfl] at H; exact H
           clear H
           have H := H1
           clear H1
           rw [HRT.out] at H
           exact absurd H (by (repeat' split) <;> simp [Option.bind_eq_some_iff])
          ·replace c16 := Bool.eq_false_iff.mpr c16
           subst c16
           have H1 : ((topic_May.f k (⟨#[97, 46, 42, 46, 35]⟩ : ByteArray)).bind fun t140 => (if t140 = true then ((topic_May.f k (⟨#[97, 42]⟩ : ByteArray)).bind fun t141 => (some (!t141))) else (some false))) = some r := by rw [if_neg (show ¬ (false = true) by decide)] at H; exact H
           clear H
           have H := H1
           clear H1
           replace H := Option.bind_eq_some_iff.mp H
           obtain ⟨t140, A170, H⟩ := H
           replace H : (if t140 = true then ((topic_May.f k (⟨#[97, 42]⟩ : ByteArray)).bind fun t141 => (some (!t141))) else (some false)) = some r := H
           have A17 := Aside0.mk A170
           clear A170
           by_cases c18 : t140 = true
           ·subst c18
            have H1 : ((topic_May.f k (⟨#[97, 42]⟩ : ByteArray)).bind fun t141 => (some (!t141))) = some r := by rw [if_pos rfl] at H; exact H
            clear H
            have H := H1
            clear H1
            replace H := Option.bind_eq_some_iff.mp H
            obtain ⟨t141, A190, H⟩ := H
            replace H : (some (!t141)) = some r := H
            have A19 := Aside0.mk A190
            clear A190
            clear HRT
            obtain rfl := Option.some.inj H
            go_enter Tryd.func8, Tryd.ntmps8
            go_wp2_with (first | ((with_reducible refine gate_callee (f := 9) rfl ?_); refine goesL_ (some 2) rfl rfl Tryd.func9 (by kernel_rfl) rfl #[.string (⟨#[97, 46, 46, 98]⟩ : ByteArray)] rfl (by (try simp only [List.map_toArray, List.map_cons, List.map_nil]); first | done | rfl | (simp only [List.length_drop, List.length_take]; rfl)) ?_; (with_reducible refine (topic_Words.calls (⟨#[97, 46, 46, 98]⟩ : ByteArray) t128 _ ?side1 A1.out).mono ?_); (case side1 => exact Gl.below HGL.out (by repeat (first | (with_reducible first | exact HB.out | apply below_alloc | apply pw_below_drewN | apply below_drew1) | exact HB.out))); rintro e w20 ⟨v129, rfl, ho0, hb⟩; refine ⟨_, rfl, ?_⟩; have n0_ := Aside0.mk (Kd.R_lower ho0 (below_size (by repeat (first | (with_reducible first | exact HB.out | apply below_alloc | apply pw_below_drewN | apply below_drew1) | exact HB.out)))); have n1_ := Aside0.mk (below_step (by repeat (first | (with_reducible first | exact HB.out | apply below_alloc | apply pw_below_drewN | apply below_drew1) | exact HB.out)) hb); clear HB; have HO130 := n0_; have HB := n1_; clear n0_ n1_; (try clear hb); (try clear hb2); (try clear hk); (try clear hi); (try clear ho0); obtain ⟨Ao21, co21, eo21⟩ := Kd.R_slice HO130.out; subst eo21; have p131 : 0 ≤ (1 : Int) := (by omega); have q131 : 1 < (t128.length : Int) := of_decide_eq_true (by first | (with_reducible assumption) | assumption); obtain ⟨ad131, e131, hx131_0⟩ := Kd.at_string (Kd.R_reads' HO130.out).2.2 1 p131 q131; cases e131; (try simp only [show (1 : Int).toNat = 1 from rfl, Nat.reduceMul, Nat.reduceEqDiff, Go.Addr.add, ↓reduceIte] at hx131_0); have qi131 : (1 < t128.length) = True := eq_true (by omega); (try rw [show ((1 : Int)).toNat = 1 from rfl] at hx131_0); replace p131 := eq_true p131; replace q131 := eq_true q131) | ((with_reducible refine gate_dst (N := 13) rfl ?_); (try (refine gate_guard (by rfl) ?_; dsimp only)); (try (refine gate_guard (by rfl) ?_; dsimp only)); (with_reducible refine gate_callee (f := 9) rfl ?_); refine goesL_ (some 13) rfl rfl Tryd.func9 (by kernel_rfl) rfl #[.string (⟨#[]⟩ : ByteArray)] rfl (by (try simp only [List.map_toArray, List.map_cons, List.map_nil]); first | done | rfl | (simp only [List.length_drop, List.length_take]; rfl)) ?_; (with_reducible refine (topic_Words.calls (⟨#[]⟩ : ByteArray) t132 _ ?side1 A5.out).mono ?_); (case side1 => exact Gl.below HGL.out (by repeat (first | (with_reducible first | exact HB.out | apply below_alloc | apply pw_below_drewN | apply below_drew1) | exact HB.out))); rintro e w22 ⟨v133, rfl, ho0, hb⟩; refine ⟨_, rfl, ?_⟩; have n0_ := Aside0.mk (Kd.R_elder' (by (with_reducible repeat (first | apply Kd.R_alloc | apply Kd.R_drewN | apply Kd.R_drew)); exact HO130.out) (Kd.R_base ho0) hb); have n1_ := Aside0.mk (Kd.R_lower (Kd.R_new' ho0 (Kd.R_lt (by (with_reducible repeat (first | apply Kd.R_alloc | apply Kd.R_drewN | apply Kd.R_drew)); exact HO130.out))) (below_size (by repeat (first | (with_reducible first | exact HB.out | apply below_alloc | apply pw_below_drewN | apply below_drew1) | exact HB.out)))); have n2_ := Aside0.mk (below_step (by repeat (first | (with_reducible first | exact HB.out | apply below_alloc | apply pw_below_drewN | apply below_drew1) | exact HB.out)) hb); clear HO130; clear HB; have HO130 := n0_; have HO134 := n1_; have HB := n2_; clear n0_ n1_ n2_; (try clear hb); (try clear hb2); (try clear hk); (try clear hi); (try clear ho0); obtain ⟨Ao23, co23, eo23⟩ := Kd.R_slice HO134.out; subst eo23) | ((with_reducible refine gate_dst (N := 18) rfl ?_); (try (refine gate_guard (by rfl) ?_; dsimp only)); (try (refine gate_guard (by rfl) ?_; dsimp only)); (with_reducible refine gate_callee (f := 13) rfl ?_); refine goesL_ (some 18) rfl rfl Tryd.func13 (by kernel_rfl) rfl #[.string (⟨#[97, 46, 35, 46, 98]⟩ : ByteArray), .string (⟨#[97, 46, 98]⟩ : ByteArray)] rfl (by (try simp only [List.map_toArray, List.map_cons, List.map_nil]); first | done | rfl | (simp only [List.length_drop, List.length_take]; rfl)) ?_; (with_reducible refine (topic_Match.calls k (⟨#[97, 46, 35, 46, 98]⟩ : ByteArray) (⟨#[97, 46, 98]⟩ : ByteArray) true _ ?side1 A7.out).mono ?_); (case side1 => exact Gl.below HGL.out (by repeat (first | (with_reducible first | exact HB.out | apply below_alloc | apply pw_below_drewN | apply below_drew1) | exact HB.out))); rintro e w24 ⟨rfl, hb⟩; refine ⟨_, rfl, ?_⟩; have n0_ := Aside0.mk (Kd.R_below (by (with_reducible repeat (first | apply Kd.R_alloc | apply Kd.R_drewN | apply Kd.R_drew)); exact HO130.out) hb); have n1_ := Aside0.mk (Kd.R_below (by (with_reducible repeat (first | apply Kd.R_alloc | apply Kd.R_drewN | apply Kd.R_drew)); exact HO134.out) hb); have n2_ := Aside0.mk (below_step (by repeat (first | (with_reducible first | exact HB.out | apply below_alloc | apply pw_below_drewN | apply below_drew1) | exact HB.out)) hb); clear HO130; clear HO134; clear HB; have HO130 := n0_; have HO134 := n1_; have HB := n2_; clear n0_ n1_ n2_; (try clear hb); (try clear hb2); (try clear hk); (try clear hi)) | ((with_reducible refine gate_dst (N := 21) rfl ?_); (try (refine gate_guard (by rfl) ?_; dsimp only)); (try (refine gate_guard (by rfl) ?_; dsimp only)); (with_reducible refine gate_callee (f := 13) rfl ?_); refine goesL_ (some 21) rfl rfl Tryd.func13 (by kernel_rfl) rfl #[.string (⟨#[35]⟩ : ByteArray), .string (⟨#[]⟩ : ByteArray)] rfl (by (try simp only [List.map_toArray, List.map_cons, List.map_nil]); first | done | rfl | (simp only [List.length_drop, List.length_take]; rfl)) ?_; (with_reducible refine (topic_Match.calls k (⟨#[35]⟩ : ByteArray) (⟨#[]⟩ : ByteArray) true _ ?side1 A9.out).mono ?_); (case side1 => exact Gl.below HGL.out (by repeat (first | (with_reducible first | exact HB.out | apply below_alloc | apply pw_below_drewN | apply below_drew1) | exact HB.out))); rintro e w25 ⟨rfl, hb⟩; refine ⟨_, rfl, ?_⟩; have n0_ := Aside0.mk (Kd.R_below (by (with_reducible repeat (first | apply Kd.R_alloc | apply Kd.R_drewN | apply Kd.R_drew)); exact HO130.out) hb); have n1_ := Aside0.mk (Kd.R_below (by (with_reducible repeat (first | apply Kd.R_alloc | apply Kd.R_drewN | apply Kd.R_drew)); exact HO134.out) hb); have n2_ := Aside0.mk (below_step (by repeat (first | (with_reducible first | exact HB.out | apply below_alloc | apply pw_below_drewN | apply below_drew1) | exact HB.out)) hb); clear HO130; clear HO134; clear HB; have HO130 := n0_; have HO134 := n1_; have HB := n2_; clear n0_ n1_ n2_; (try clear hb); (try clear hb2); (try clear hk); (try clear hi)) | ((with_reducible refine gate_dst (N := 24) rfl ?_); (try (refine gate_guard (by rfl) ?_; dsimp only)); (try (refine gate_guard (by rfl) ?_; dsimp only)); (with_reducible refine gate_callee (f := 13) rfl ?_); refine goesL_ (some 24) rfl rfl Tryd.func13 (by kernel_rfl) rfl #[.string (⟨#[42, 46, 98]⟩ : ByteArray), .string (⟨#[120, 46, 98]⟩ : ByteArray)] rfl (by (try simp only [List.map_toArray, List.map_cons, List.map_nil]); first | done | rfl | (simp only [List.length_drop, List.length_take]; rfl)) ?_; (with_reducible refine (topic_Match.calls k (⟨#[42, 46, 98]⟩ : ByteArray) (⟨#[120, 46, 98]⟩ : ByteArray) true _ ?side1 A11.out).mono ?_); (case side1 => exact Gl.below HGL.out (by repeat (first | (with_reducible first | exact HB.out | apply below_alloc | apply pw_below_drewN | apply below_drew1) | exact HB.out))); rintro e w26 ⟨rfl, hb⟩; refine ⟨_, rfl, ?_⟩; have n0_ := Aside0.mk (Kd.R_below (by (with_reducible repeat (first | apply Kd.R_alloc | apply Kd.R_drewN | apply Kd.R_drew)); exact HO130.out) hb); have n1_ := Aside0.mk (Kd.R_below (by (with_reducible repeat (first | apply Kd.R_alloc | apply Kd.R_drewN | apply Kd.R_drew)); exact HO134.out) hb); have n2_ := Aside0.mk (below_step (by repeat (first | (with_reducible first | exact HB.out | apply below_alloc | apply pw_below_drewN | apply below_drew1) | exact HB.out)) hb); clear HO130; clear HO134; clear HB; have HO130 := n0_; have HO134 := n1_; have HB := n2_; clear n0_ n1_ n2_; (try clear hb); (try clear hb2); (try clear hk); (try clear hi)) | ((with_reducible refine gate_dst (N := 27) rfl ?_); (try (refine gate_guard (by rfl) ?_; dsimp only)); (try (refine gate_guard (by rfl) ?_; dsimp only)); (with_reducible refine gate_callee (f := 13) rfl ?_); refine goesL_ (some 27) rfl rfl Tryd.func13 (by kernel_rfl) rfl #[.string (⟨#[42]⟩ : ByteArray), .string (⟨#[]⟩ : ByteArray)] rfl (by (try simp only [List.map_toArray, List.map_cons, List.map_nil]); first | done | rfl | (simp only [List.length_drop, List.length_take]; rfl)) ?_; (with_reducible refine (topic_Match.calls k (⟨#[42]⟩ : ByteArray) (⟨#[]⟩ : ByteArray) false _ ?side1 A13.out).mono ?_); (case side1 => exact Gl.below HGL.out (by repeat (first | (with_reducible first | exact HB.out | apply below_alloc | apply pw_below_drewN | apply below_drew1) | exact HB.out))); rintro e w27 ⟨rfl, hb⟩; refine ⟨_, rfl, ?_⟩; have n0_ := Aside0.mk (Kd.R_below (by (with_reducible repeat (first | apply Kd.R_alloc | apply Kd.R_drewN | apply Kd.R_drew)); exact HO130.out) hb); have n1_ := Aside0.mk (Kd.R_below (by (with_reducible repeat (first | apply Kd.R_alloc | apply Kd.R_drewN | apply Kd.R_drew)); exact HO134.out) hb); have n2_ := Aside0.mk (below_step (by repeat (first | (with_reducible first | exact HB.out | apply below_alloc | apply pw_below_drewN | apply below_drew1) | exact HB.out)) hb); clear HO130; clear HO134; clear HB; have HO130 := n0_; have HO134 := n1_; have HB := n2_; clear n0_ n1_ n2_; (try clear hb); (try clear hb2); (try clear hk); (try clear hi)) | ((with_reducible refine gate_dst (N := 31) rfl ?_); (try (refine gate_guard (by rfl) ?_; dsimp only)); (try (refine gate_guard (by rfl) ?_; dsimp only)); (with_reducible refine gate_callee (f := 13) rfl ?_); refine goesL_ (some 31) rfl rfl Tryd.func13 (by kernel_rfl) rfl #[.string (⟨#[97, 46, 42]⟩ : ByteArray), .string (⟨#[97, 46, 98, 46, 99]⟩ : ByteArray)] rfl (by (try simp only [List.map_toArray, List.map_cons, List.map_nil]); first | done | rfl | (simp only [List.length_drop, List.length_take]; rfl)) ?_; (with_reducible refine (topic_Match.calls k (⟨#[97, 46, 42]⟩ : ByteArray) (⟨#[97, 46, 98, 46, 99]⟩ : ByteArray) false _ ?side1 A15.out).mono ?_); (case side1 => exact Gl.below HGL.out (by repeat (first | (with_reducible first | exact HB.out | apply below_alloc | apply pw_below_drewN | apply below_drew1) | exact HB.out))); rintro e w28 ⟨rfl, hb⟩; refine ⟨_, rfl, ?_⟩; have n0_ := Aside0.mk (Kd.R_below (by (with_reducible repeat (first | apply Kd.R_alloc | apply Kd.R_drewN | apply Kd.R_drew)); exact HO130.out) hb); have n1_ := Aside0.mk (Kd.R_below (by (with_reducible repeat (first | apply Kd.R_alloc | apply Kd.R_drewN | apply Kd.R_drew)); exact HO134.out) hb); have n2_ := Aside0.mk (below_step (by repeat (first | (with_reducible first | exact HB.out | apply below_alloc | apply pw_below_drewN | apply below_drew1) | exact HB.out)) hb); clear HO130; clear HO134; clear HB; have HO130 := n0_; have HO134 := n1_; have HB := n2_; clear n0_ n1_ n2_; (try clear hb); (try clear hb2); (try clear hk); (try clear hi)) | ((with_reducible refine gate_dst (N := 35) rfl ?_); (try (refine gate_guard (by rfl) ?_; dsimp only)); (try (refine gate_guard (by rfl) ?_; dsimp only)); (with_reducible refine gate_callee (f := 11) rfl ?_); refine goesL_ (some 35) rfl rfl Tryd.func11 (by kernel_rfl) rfl #[.string (⟨#[97, 46, 42, 46, 35]⟩ : ByteArray)] rfl (by (try simp only [List.map_toArray, List.map_cons, List.map_nil]); first | done | rfl | (simp only [List.length_drop, List.length_take]; rfl)) ?_; (with_reducible refine (topic_May.calls k (⟨#[97, 46, 42, 46, 35]⟩ : ByteArray) true _ ?side1 A17.out).mono ?_); (case side1 => exact Gl.below HGL.out (by repeat (first | (with_reducible first | exact HB.out | apply below_alloc | apply pw_below_drewN | apply below_drew1) | exact HB.out))); rintro e w29 ⟨rfl, hb⟩; refine ⟨_, rfl, ?_⟩; have n0_ := Aside0.mk (Kd.R_below (by (with_reducible repeat (first | apply Kd.R_alloc | apply Kd.R_drewN | apply Kd.R_drew)); exact HO130.out) hb); have n1_ := Aside0.mk (Kd.R_below (by (with_reducible repeat (first | apply Kd.R_alloc | apply Kd.R_drewN | apply Kd.R_drew)); exact HO134.out) hb); have n2_ := Aside0.mk (below_step (by repeat (first | (with_reducible first | exact HB.out | apply below_alloc | apply pw_below_drewN | apply below_drew1) | exact HB.out)) hb); clear HO130; clear HO134; clear HB; have HO130 := n0_; have HO134 := n1_; have HB := n2_; clear n0_ n1_ n2_; (try clear hb); (try clear hb2); (try clear hk); (try clear hi)) | ((with_reducible refine gate_dst (N := 38) rfl ?_); (try (refine gate_guard (by rfl) ?_; dsimp only)); (try (refine gate_guard (by rfl) ?_; dsimp only)); (with_reducible refine gate_callee (f := 11) rfl ?_); refine goesL_ (some 38) rfl rfl Tryd.func11 (by kernel_rfl) rfl #[.string (⟨#[97, 42]⟩ : ByteArray)] rfl (by (try simp only [List.map_toArray, List.map_cons, List.map_nil]); first | done | rfl | (simp only [List.length_drop, List.length_take]; rfl)) ?_; (with_reducible refine (topic_May.calls k (⟨#[97, 42]⟩ : ByteArray) t141 _ ?side1 A19.out).mono ?_); (case side1 => exact Gl.below HGL.out (by repeat (first | (with_reducible first | exact HB.out | apply below_alloc | apply pw_below_drewN | apply below_drew1) | exact HB.out))); rintro e w30 ⟨rfl, hb⟩; refine ⟨_, rfl, ?_⟩; have n0_ := Aside0.mk (Kd.R_below (by (with_reducible repeat (first | apply Kd.R_alloc | apply Kd.R_drewN | apply Kd.R_drew)); exact HO130.out) hb); have n1_ := Aside0.mk (Kd.R_below (by (with_reducible repeat (first | apply Kd.R_alloc | apply Kd.R_drewN | apply Kd.R_drew)); exact HO134.out) hb); have n2_ := Aside0.mk (below_step (by repeat (first | (with_reducible first | exact HB.out | apply below_alloc | apply pw_below_drewN | apply below_drew1) | exact HB.out)) hb); clear HO130; clear HO134; clear HB; have HO130 := n0_; have HO134 := n1_; have HB := n2_; clear n0_ n1_ n2_; (try clear hb); (try clear hb2); (try clear hk); (try clear hi)))
            go_ret
            exact ⟨by first | rfl | (simp [errW_none, errW_some] <;> rfl) | (simp [*, errW_none, errW_some] <;> rfl), by repeat (first | (with_reducible first | exact HB.out | apply below_alloc | apply pw_below_drewN | apply below_drew1) | exact HB.out)⟩
           ·replace c18 := Bool.eq_false_iff.mpr c18
            subst c18
            have H1 : (some false) = some r := by rw [if_neg (show ¬ (false = true) by decide)] at H; exact H
            clear H
            have H := H1
            clear H1
            rw [HRT.out] at H
            exact absurd H (by (repeat' split) <;> simp [Option.bind_eq_some_iff])
        ·replace c12 := Bool.eq_false_iff.mpr c12
         subst c12
         have H1 : (some false) = some r := by rw [if_neg (show ¬ (false = true) by decide)] at H; exact H
         clear H
         have H := H1
         clear H1
         rw [HRT.out] at H
         exact absurd H (by (repeat' split) <;> simp [Option.bind_eq_some_iff])
       ·replace c10 := Bool.eq_false_iff.mpr c10
        subst c10
        have H1 : (some false) = some r := by rw [if_neg (show ¬ (false = true) by decide)] at H; exact H
        clear H
        have H := H1
        clear H1
        rw [HRT.out] at H
        exact absurd H (by (repeat' split) <;> simp [Option.bind_eq_some_iff])
      ·replace c8 := Bool.eq_false_iff.mpr c8
       subst c8
       have H1 : (some false) = some r := by rw [if_neg (show ¬ (false = true) by decide)] at H; exact H
       clear H
       have H := H1
       clear H1
       rw [HRT.out] at H
       exact absurd H (by (repeat' split) <;> simp [Option.bind_eq_some_iff])
     ·rw [if_neg c6] at H
      have c6b0 : ((t132.length : Int) == 0) = false := beq_eq_false_iff_ne.mpr c6
      have c6b1 : ((t132.length : Int) != 0) = true := bne_iff_ne.mpr c6
      have c6b2 : ¬ (t132 = []) := fun h_ => c6 (by rw [h_]; rfl)
      rw [HRT.out] at H
      exact absurd H (by (repeat' split) <;> simp [Option.bind_eq_some_iff])
    ·rw [if_neg c4] at H
     have c4b0 : ((rdOf ByteArray.empty t128 1).toList == ([] : List UInt8)) = false := beq_eq_false_iff_ne.mpr c4
     have c4b1 : ((rdOf ByteArray.empty t128 1).toList != ([] : List UInt8)) = true := bne_iff_ne.mpr c4
     rw [HRT.out] at H
     exact absurd H (by (repeat' split) <;> simp [Option.bind_eq_some_iff])
   ·rw [if_neg c3] at H
    exact absurd H (by simp)
  ·rw [if_neg c2] at H
   have c2b0 : ((t128.length : Int) == 3) = false := beq_eq_false_iff_ne.mpr c2
   have c2b1 : ((t128.length : Int) != 3) = true := bne_iff_ne.mpr c2
   rw [HRT.out] at H
   exact absurd H (by (repeat' split) <;> simp [Option.bind_eq_some_iff])
theorem carrefourlaw7_told.true_ : carrefourlaw7_told.f 200 = some true := by kernel_rfl
theorem carrefourlaw7_told.calls (k : Nat) (r : Bool) (w : World) (hgl : Gl w) (h : carrefourlaw7_told.f k = some r) :
    Calls Tryd.prog 8 #[] w fun e w' => e = .returned (.bool r) ∧ Below w.heap.size w w' := by
  have h1 := at_rounds (g := fun k => carrefourlaw7_told.f k) (fun k => carrefourlaw7_told.mono k) (Nat.le_max_left k 200) h
  have h2 := at_rounds (g := fun k => carrefourlaw7_told.f k) (fun k => carrefourlaw7_told.mono k) (Nat.le_max_right k 200) carrefourlaw7_told.true_
  obtain rfl : r = true := Option.some.inj (h1.symm.trans h2)
  exact carrefourlaw7_told.calls_true k true w hgl rfl h

/-! ### carrefourref7_Words: function 10 -/
mutual
def carrefourref7_Words.l1 : Nat → ByteArray → List ByteArray → Int → Int → Option (List ByteArray)
  | 0, _, _, _, _ => none
  | k + 1, x0, x3, x4, x5 => if x5 ≤ (x0.size : Int) then (carrefourref7_Words.j1 k x0 x3 x4 x5 (x0.toList != ([] : List UInt8))) else (carrefourref7_Words.j1 k x0 x3 x4 x5 false)
def carrefourref7_Words.j1 : Nat → ByteArray → List ByteArray → Int → Int → Bool → Option (List ByteArray)
  | 0, _, _, _, _, _ => none
  | k + 1, x0, x3, x4, x5, x13 => if x13 = true then (if x5 = (x0.size : Int) then (carrefourref7_Words.j2 k x0 x3 x4 x5 true) else (if 0 ≤ x5 then (if x5 < (x0.size : Int) then (carrefourref7_Words.j2 k x0 x3 x4 x5 ((bt x0 x5) == 46)) else (none)) else (none))) else (some x3)
def carrefourref7_Words.j2 : Nat → ByteArray → List ByteArray → Int → Int → Bool → Option (List ByteArray)
  | 0, _, _, _, _, _ => none
  | k + 1, x0, x3, x4, x5, x25 => if x25 = true then (if 0 ≤ x4 then (if x4 ≤ x5 then (if x5 ≤ (x0.size : Int) then (if x3.length < 8796093022208 then (carrefourref7_Words.l1 k x0 (x3 ++ [x0.extract (x4 : Int).toNat (x5 : Int).toNat]) (wrap64 (x5 + 1)) (wrap64 (x5 + 1))) else (none)) else (none)) else (none)) else (none)) else (carrefourref7_Words.l1 k x0 x3 x4 (wrap64 (x5 + 1)))
end
def carrefourref7_Words.f (k : Nat) (a0 : ByteArray) : Option (List ByteArray) := carrefourref7_Words.l1 k a0 ([] : List ByteArray) 0 0
theorem carrefourref7_Words.mono_l : ∀ k, (∀ y0 y1 y2 y3, LeO (carrefourref7_Words.l1 k y0 y1 y2 y3) (carrefourref7_Words.l1 (k + 1) y0 y1 y2 y3)) ∧ (∀ y0 y1 y2 y3 y4, LeO (carrefourref7_Words.j1 k y0 y1 y2 y3 y4) (carrefourref7_Words.j1 (k + 1) y0 y1 y2 y3 y4)) ∧ (∀ y0 y1 y2 y3 y4, LeO (carrefourref7_Words.j2 k y0 y1 y2 y3 y4) (carrefourref7_Words.j2 (k + 1) y0 y1 y2 y3 y4))
  | 0 => ⟨fun _ _ _ _ r h => by simp [carrefourref7_Words.l1] at h, fun _ _ _ _ _ r h => by simp [carrefourref7_Words.j1] at h, fun _ _ _ _ _ r h => by simp [carrefourref7_Words.j2] at h⟩
  | k + 1 => by
    obtain ⟨ih0, ih1, ih2⟩ := carrefourref7_Words.mono_l k
    refine ⟨?_, ?_, ?_⟩
    · intro y0 y1 y2 y3
      unfold carrefourref7_Words.l1
      repeat' first
      | (with_reducible exact ih0 _ _ _ _)
      | (with_reducible exact ih1 _ _ _ _ _)
      | (with_reducible exact ih2 _ _ _ _ _)
      | (with_reducible exact LeO.refl _)
      | (with_reducible exact LeO.none _)
      | (with_reducible refine LeO.ite ?_ ?_)
      | (with_reducible refine LeO.bind ?_ (fun _ => ?_))
      | exact ih0 _ _ _ _
      | exact ih1 _ _ _ _ _
      | exact ih2 _ _ _ _ _
      | exact LeO.none _
      | refine LeO.ite ?_ ?_
      | refine LeO.bind ?_ (fun _ => ?_)
    · intro y0 y1 y2 y3 y4
      unfold carrefourref7_Words.j1
      repeat' first
      | (with_reducible exact ih0 _ _ _ _)
      | (with_reducible exact ih1 _ _ _ _ _)
      | (with_reducible exact ih2 _ _ _ _ _)
      | (with_reducible exact LeO.refl _)
      | (with_reducible exact LeO.none _)
      | (with_reducible refine LeO.ite ?_ ?_)
      | (with_reducible refine LeO.bind ?_ (fun _ => ?_))
      | exact ih0 _ _ _ _
      | exact ih1 _ _ _ _ _
      | exact ih2 _ _ _ _ _
      | exact LeO.none _
      | refine LeO.ite ?_ ?_
      | refine LeO.bind ?_ (fun _ => ?_)
    · intro y0 y1 y2 y3 y4
      unfold carrefourref7_Words.j2
      repeat' first
      | (with_reducible exact ih0 _ _ _ _)
      | (with_reducible exact ih1 _ _ _ _ _)
      | (with_reducible exact ih2 _ _ _ _ _)
      | (with_reducible exact LeO.refl _)
      | (with_reducible exact LeO.none _)
      | (with_reducible refine LeO.ite ?_ ?_)
      | (with_reducible refine LeO.bind ?_ (fun _ => ?_))
      | exact ih0 _ _ _ _
      | exact ih1 _ _ _ _ _
      | exact ih2 _ _ _ _ _
      | exact LeO.none _
      | refine LeO.ite ?_ ?_
      | refine LeO.bind ?_ (fun _ => ?_)
theorem carrefourref7_Words.mono : ∀ a0 k, LeO (carrefourref7_Words.f k a0) (carrefourref7_Words.f (k + 1) a0) := by
  intro a0 k
  obtain ⟨ih0, ih1, ih2⟩ := carrefourref7_Words.mono_l k
  unfold carrefourref7_Words.f
  repeat' first
      | (with_reducible exact ih0 _ _ _ _)
      | (with_reducible exact ih1 _ _ _ _ _)
      | (with_reducible exact ih2 _ _ _ _ _)
      | (with_reducible exact LeO.refl _)
      | (with_reducible exact LeO.none _)
      | (with_reducible refine LeO.ite ?_ ?_)
      | (with_reducible refine LeO.bind ?_ (fun _ => ?_))
      | exact ih0 _ _ _ _
      | exact ih1 _ _ _ _ _
      | exact ih2 _ _ _ _ _
      | exact LeO.none _
      | refine LeO.ite ?_ ?_
      | refine LeO.bind ?_ (fun _ => ?_)
set_option maxHeartbeats 8000000 in
set_option maxRecDepth 100000 in
theorem carrefourref7_Words.calls (k : Nat) (a0 : ByteArray) (r : List ByteArray) (w : World) (h : carrefourref7_Words.f k a0 = some r) :
    Calls Tryd.prog 10 #[.string a0] w fun e w' => ∃ v0_ : Value, e = .returned (v0_) ∧ Kd.R Kd.string 9 w' w.heap.size (fun _ => True) v0_ r ∧ Below w.heap.size w w' := by
  have HB := Aside0.mk (Below.refl w.heap.size w)
  have H : (carrefourref7_Words.l1 k a0 ([] : List ByteArray) 0 0) = some r := h
  clear h
  have H' := Aside0.mk H
  clear H
  go_enter Tryd.func10, Tryd.ntmps10
  go_wp2
  go_loopg [3, 4, 5] k (fun kq v3 v4 v5 w' => ∃ (x3_1 : List ByteArray) (x4_1 : Int) (x5_1 : Int), v4 = .int .i64 x4_1 ∧ v5 = .int .i64 x5_1 ∧ Aside0 (carrefourref7_Words.l1 kq a0 x3_1 x4_1 x5_1 = some r) ∧ Aside0 (kq ≤ k) ∧ Aside0 (Kd.R Kd.string 9 w' w.heap.size (fun _ => True) v3 x3_1) ∧ Aside0 (Below w.heap.size w w'))
  case atStart => exact ⟨(([] : List ByteArray)), (0), (0), (by first | rfl | (simp; done) | (simp [*]; done)), (by first | rfl | (simp; done) | (simp [*]; done)), H', ⟨Nat.le_refl _⟩, ⟨by first | exact Kd.R_nil _ _ _ _ _ | exact Kd.N_nil _ _ _ _ _ | exact Kd.V_nil _ _ _ _ _ | exact Kd.Q_nil _ _ _ _ _ | exact Kd.S_nil _ _ _ _ _⟩, ⟨by repeat (first | (with_reducible first | exact HB.out | apply below_alloc | apply pw_below_drewN | apply below_drew1) | exact HB.out)⟩⟩
  case round =>
   clear H'
   try clear c1
   obtain ⟨x3_1, x4_1, x5_1, rfl, rfl, HA, HK1, HO_3, HB⟩ := hrel
   cases gk with
   | zero => exact absurd HA.out (by simp [carrefourref7_Words.l1])
   | succ k1 =>
    have H := HA.out
    clear HA
    simp only [carrefourref7_Words.l1] at H
    have HC2 := Aside0.mk H
    clear H
    go_upto_region 4 with (fail)
    go_cut [13] (fun v13 wc => ∃ (kq : Nat) (x13_1 : Bool), v13 = .bool x13_1 ∧ Aside0 (carrefourref7_Words.j1 kq a0 x3_1 x4_1 x5_1 x13_1 = some r) ∧ Aside0 (kq ≤ k1) ∧ Aside0 (Kd.R Kd.string 9 wc w.heap.size (fun _ => True) u3 x3_1) ∧ Aside0 (Below w.heap.size w wc))
    case first =>
     have H := HC2.out
     clear HC2
     by_cases c3 : x5_1 ≤ (a0.size : Int)
     ·rw [if_pos c3] at H
      have c3b0 : decide (x5_1 ≤ (a0.size : Int)) = true := decide_eq_true c3
      clear c3
      (first | rw [c3b0] | (simp only [i64_w, i32_w]; rw [c3b0]) | skip)
      have H' := Aside0.mk H
      clear H
      go_wp2
      go_meet
      case rel => exact ⟨_, ((a0.toList != ([] : List UInt8))), (by first | rfl | (cases a0.toList <;> rfl) | (simp; done) | (simp [*]; done)), H', ⟨by have := HK1.out; first | omega | exact Nat.le_refl _⟩, ⟨by (with_reducible repeat (first | apply Kd.R_alloc | apply Kd.R_drewN | apply Kd.R_drew)); exact HO_3.out⟩, ⟨by repeat (first | (with_reducible first | exact HB.out | apply below_alloc | apply pw_below_drewN | apply below_drew1) | exact HB.out)⟩⟩
     ·rw [if_neg c3] at H
      have c3b0 : decide (x5_1 ≤ (a0.size : Int)) = false := decide_eq_false c3
      clear c3
      (first | rw [c3b0] | (simp only [i64_w, i32_w]; rw [c3b0]) | skip)
      have H' := Aside0.mk H
      clear H
      go_wp2
      go_meet
      case rel => exact ⟨_, (false), (by first | rfl | (simp; done) | (simp [*]; done)), H', ⟨by have := HK1.out; first | omega | exact Nat.le_refl _⟩, ⟨by (with_reducible repeat (first | apply Kd.R_alloc | apply Kd.R_drewN | apply Kd.R_drew)); exact HO_3.out⟩, ⟨by repeat (first | (with_reducible first | exact HB.out | apply below_alloc | apply pw_below_drewN | apply below_drew1) | exact HB.out)⟩⟩
    case rest =>
     clear HC2
     try clear c1
     try clear p2
     try clear c3
     try clear c3b0
     obtain ⟨kq, x13_1, rfl, HA, HJ1, HO_3, HB⟩ := hcut
     cases kq with
     | zero => exact absurd HA.out (by simp [carrefourref7_Words.j1])
     | succ kj1 =>
      have H := HA.out
      clear HA
      simp only [carrefourref7_Words.j1] at H
      by_cases c4 : x13_1 = true
      ·subst c4
       have H1 : (if x5_1 = (a0.size : Int) then (carrefourref7_Words.j2 kj1 a0 x3_1 x4_1 x5_1 true) else (if 0 ≤ x5_1 then (if x5_1 < (a0.size : Int) then (carrefourref7_Words.j2 kj1 a0 x3_1 x4_1 x5_1 ((bt a0 x5_1) == 46)) else (none)) else (none))) = some r := by rw [if_pos rfl] at H; exact H
       clear H
       have H := H1
       clear H1
       have HC5 := Aside0.mk H
       clear H
       go_upto_region 6 with (fail)
       go_cut [25] (fun v25 wc => ∃ (kq : Nat) (x25_4 : Bool), v25 = .bool x25_4 ∧ Aside0 (carrefourref7_Words.j2 kq a0 x3_1 x4_1 x5_1 x25_4 = some r) ∧ Aside0 (kq ≤ kj1) ∧ Aside0 (Kd.R Kd.string 9 wc w.heap.size (fun _ => True) u3 x3_1) ∧ Aside0 (Below w.heap.size w wc))
       case first =>
        have H := HC5.out
        clear HC5
        by_cases c6 : x5_1 = (a0.size : Int)
        ·rw [if_pos c6] at H
         have c6b0 : (x5_1 == (a0.size : Int)) = true := beq_iff_eq.mpr c6
         have c6b1 : (x5_1 != (a0.size : Int)) = false := bne_eq_false_iff_eq.mpr c6
         clear c6
         (first | rw [c6b0] | (simp only [i64_w, i32_w]; rw [c6b0]) | skip)
         have H' := Aside0.mk H
         clear H
         go_wp2
         go_meet
         case rel => exact ⟨_, (true), (by first | rfl | (simp; done) | (simp [*]; done)), H', ⟨by have := HK1.out; have := HJ1.out; first | omega | exact Nat.le_refl _⟩, ⟨by (with_reducible repeat (first | apply Kd.R_alloc | apply Kd.R_drewN | apply Kd.R_drew)); exact HO_3.out⟩, ⟨by repeat (first | (with_reducible first | exact HB.out | apply below_alloc | apply pw_below_drewN | apply below_drew1) | exact HB.out)⟩⟩
        ·rw [if_neg c6] at H
         have c6b0 : (x5_1 == (a0.size : Int)) = false := beq_eq_false_iff_ne.mpr c6
         have c6b1 : (x5_1 != (a0.size : Int)) = true := bne_iff_ne.mpr c6
         (first | rw [c6b0] | (simp only [i64_w, i32_w]; rw [c6b0]) | skip)
         by_cases c7 : 0 ≤ x5_1
         ·rw [if_pos c7] at H
          have c7b0 : decide (0 ≤ x5_1) = true := decide_eq_true c7
          clear c7
          by_cases c8 : x5_1 < (a0.size : Int)
          ·rw [if_pos c8] at H
           have c8b0 : decide (x5_1 < (a0.size : Int)) = true := decide_eq_true c8
           clear c8
           have H' := Aside0.mk H
           clear H
           have p9 : 0 ≤ (x5_1 : Int) := of_decide_eq_true (by first | (with_reducible assumption) | assumption)
           have q9 : x5_1 < (a0.size : Int) := of_decide_eq_true (by first | (with_reducible assumption) | assumption)
           have hx9 := bt_at a0 x5_1
           replace p9 := eq_true p9
           replace q9 := eq_true q9
           go_wp2
           go_meet
           case rel => exact ⟨_, (((bt a0 x5_1) == 46)), (by first | rfl | (simp; done) | (simp [*]; done)), H', ⟨by have := HK1.out; have := HJ1.out; first | omega | exact Nat.le_refl _⟩, ⟨by (with_reducible repeat (first | apply Kd.R_alloc | apply Kd.R_drewN | apply Kd.R_drew)); exact HO_3.out⟩, ⟨by repeat (first | (with_reducible first | exact HB.out | apply below_alloc | apply pw_below_drewN | apply below_drew1) | exact HB.out)⟩⟩
          ·rw [if_neg c8] at H
           exact absurd H (by simp)
         ·rw [if_neg c7] at H
          exact absurd H (by simp)
       case rest =>
        clear HC5
        try clear c1
        try clear p2
        try clear c3
        try clear c3b0
        try clear c4
        try clear c6
        try clear c6b0
        try clear c6b1
        try clear c7
        try clear c7b0
        try clear c8
        try clear c8b0
        try clear p9
        try clear q9
        try clear hx9
        try clear p2
        try clear p9
        try clear q9
        obtain ⟨kq, x25_4, rfl, HA, HJ4, HO_3, HB⟩ := hcut
        cases kq with
        | zero => exact absurd HA.out (by simp [carrefourref7_Words.j2])
        | succ kj4 =>
         have H := HA.out
         clear HA
         simp only [carrefourref7_Words.j2] at H
         by_cases c10 : x25_4 = true
         ·subst c10
          have H1 : (if 0 ≤ x4_1 then (if x4_1 ≤ x5_1 then (if x5_1 ≤ (a0.size : Int) then (if x3_1.length < 8796093022208 then (carrefourref7_Words.l1 kj4 a0 (x3_1 ++ [a0.extract (x4_1 : Int).toNat (x5_1 : Int).toNat]) (wrap64 (x5_1 + 1)) (wrap64 (x5_1 + 1))) else (none)) else (none)) else (none)) else (none)) = some r := by rw [if_pos rfl] at H; exact H
          clear H
          have H := H1
          clear H1
          by_cases c11 : 0 ≤ x4_1
          ·rw [if_pos c11] at H
           have c11b0 := eq_true c11
           have c11b1 : decide (0 ≤ x4_1) = true := decide_eq_true c11
           clear c11
           by_cases c12 : x4_1 ≤ x5_1
           ·rw [if_pos c12] at H
            have c12b0 := eq_true c12
            have c12b1 : decide (x4_1 ≤ x5_1) = true := decide_eq_true c12
            clear c12
            by_cases c13 : x5_1 ≤ (a0.size : Int)
            ·rw [if_pos c13] at H
             have c13b0 := eq_true c13
             have c13b1 : decide (x5_1 ≤ (a0.size : Int)) = true := decide_eq_true c13
             clear c13
             by_cases c14 : x3_1.length < 8796093022208
             ·rw [if_pos c14] at H
              have LMc14 := Aside0.mk c14
              clear c14
              obtain ⟨y142, hy142⟩ : ∃ y_ : List ByteArray, y_ = (x3_1 ++ [a0.extract (x4_1 : Int).toNat (x5_1 : Int).toNat]) := ⟨_, rfl⟩
              replace H : (carrefourref7_Words.l1 kj4 a0 y142 (wrap64 (x5_1 + 1)) (wrap64 (x5_1 + 1))) = some r := by first | (rw [hy142]; with_reducible exact H) | (have H2_ := (Option.bind_some _ _).symm.trans H; rw [hy142]; with_reducible exact H2_) | (have H2_ := (Option.bind_some _ _).symm.trans H; with_reducible exact H2_) | with_reducible exact H | (rw [hy142]; exact H) | exact H
              have Ny142 := Aside0.mk hy142
              clear hy142
              have H' := Aside0.mk H
              clear H
              go_wp2_with (first | ((with_reducible refine gate_builtin (b := .append) (xs := #[.tmp 26, .tmp 31]) rfl ?_); at_builtin; refine Kd.R_append Kd.string (w0 := w) w.heap.size rfl (.tmp 26) (.tmp 31) 23 9 (.string ⟨#[]⟩) 16 rfl Tryd.underlying23 info9 rfl (by decide) (by omega) u3 x3_1 (a0.extract (x4_1 : Int).toNat (x5_1 : Int).toNat) [.string (a0.extract (x4_1 : Int).toNat (x5_1 : Int).toNat)] (fun _ => True) (fun _ => False) rfl rfl ?aP (fun _ hk => hk.elim) ?aF ?aO ?aB ?aS ?aL ?_; (case aP => exact rfl); (case aB => exact (by repeat (first | (with_reducible first | exact HB.out | apply below_alloc | apply pw_below_drewN | apply below_drew1) | exact HB.out))); (case aF => exact (fun _ _ => trivial)); (case aO => exact (by (with_reducible repeat (first | apply Kd.R_alloc | apply Kd.R_drewN | apply Kd.R_drew)); exact HO_3.out)); (case aS => exact (below_size (by repeat (first | (with_reducible first | exact HB.out | apply below_alloc | apply pw_below_drewN | apply below_drew1) | exact HB.out)))); (case aL => have := LMc14.out; omega); intro v143 w15 ho hb hg hat; rw [← Ny142.out] at ho; have n0_ := Aside0.mk (hb); have n1_ := Aside0.mk (ho); clear HB; clear HO_3; have HB := n0_; have HO144 := n1_; clear n0_ n1_; clear ho hb hg hat))
              go_roundg kj4
              case measure => have := HK1.out; have := HJ1.out; have := HJ4.out; omega
              case rel => exact ⟨(y142), (wrap64 (x5_1 + 1)), (wrap64 (x5_1 + 1)), (by first | rfl | (simp; done) | (simp [*]; done)), (by first | rfl | (simp; done) | (simp [*]; done)), H', ⟨by have := HK1.out; have := HJ1.out; have := HJ4.out; omega⟩, ⟨by (with_reducible repeat (first | apply Kd.R_alloc | apply Kd.R_drewN | apply Kd.R_drew)); exact HO144.out⟩, ⟨by repeat (first | (with_reducible first | exact HB.out | apply below_alloc | apply pw_below_drewN | apply below_drew1) | exact HB.out)⟩⟩
             ·rw [if_neg c14] at H
              exact absurd H (by simp)
            ·rw [if_neg c13] at H
             exact absurd H (by simp)
           ·rw [if_neg c12] at H
            exact absurd H (by simp)
          ·rw [if_neg c11] at H
           exact absurd H (by simp)
         ·replace c10 := Bool.eq_false_iff.mpr c10
          subst c10
          have H1 : (carrefourref7_Words.l1 kj4 a0 x3_1 x4_1 (wrap64 (x5_1 + 1))) = some r := by rw [if_neg (show ¬ (false = true) by decide)] at H; exact H
          clear H
          have H := H1
          clear H1
          have H' := Aside0.mk H
          clear H
          go_wp2
          go_roundg kj4
          case measure => have := HK1.out; have := HJ1.out; have := HJ4.out; omega
          case rel => exact ⟨(x3_1), (x4_1), (wrap64 (x5_1 + 1)), (by first | rfl | (simp; done) | (simp [*]; done)), (by first | rfl | (simp; done) | (simp [*]; done)), H', ⟨by have := HK1.out; have := HJ1.out; have := HJ4.out; omega⟩, ⟨by (with_reducible repeat (first | apply Kd.R_alloc | apply Kd.R_drewN | apply Kd.R_drew)); exact HO_3.out⟩, ⟨by repeat (first | (with_reducible first | exact HB.out | apply below_alloc | apply pw_below_drewN | apply below_drew1) | exact HB.out)⟩⟩
      ·replace c4 := Bool.eq_false_iff.mpr c4
       subst c4
       have H1 : (some x3_1) = some r := by rw [if_neg (show ¬ (false = true) by decide)] at H; exact H
       clear H
       have H := H1
       clear H1
       obtain rfl := Option.some.inj H
       go_wp2
       go_ret
       exact ⟨_, by first | rfl | (simp [errW_none, errW_some] <;> rfl) | (simp [*, errW_none, errW_some] <;> rfl), by (with_reducible repeat (first | apply Kd.R_alloc | apply Kd.R_drewN | apply Kd.R_drew)); exact HO_3.out, by repeat (first | (with_reducible first | exact HB.out | apply below_alloc | apply pw_below_drewN | apply below_drew1) | exact HB.out)⟩

/-! ### carrefourref7_mark: function 21 -/
mutual
def carrefourref7_mark.l1 : Nat → ByteArray → Int → Option (Bool)
  | 0, _, _ => none
  | k + 1, x0, x3 => if x3 < (x0.size : Int) then (if 0 ≤ x3 then (if (bt x0 x3) = 42 then (carrefourref7_mark.j1 k x0 x3 true) else (carrefourref7_mark.j1 k x0 x3 ((bt x0 x3) == 35))) else (none)) else (some false)
def carrefourref7_mark.j1 : Nat → ByteArray → Int → Bool → Option (Bool)
  | 0, _, _, _ => none
  | k + 1, x0, x3, x19 => if x19 = true then (some true) else (carrefourref7_mark.l1 k x0 (wrap64 (x3 + 1)))
end
def carrefourref7_mark.f (k : Nat) (a0 : ByteArray) : Option (Bool) := carrefourref7_mark.l1 k a0 0
theorem carrefourref7_mark.mono_l : ∀ k, (∀ y0 y1, LeO (carrefourref7_mark.l1 k y0 y1) (carrefourref7_mark.l1 (k + 1) y0 y1)) ∧ (∀ y0 y1 y2, LeO (carrefourref7_mark.j1 k y0 y1 y2) (carrefourref7_mark.j1 (k + 1) y0 y1 y2))
  | 0 => ⟨fun _ _ r h => by simp [carrefourref7_mark.l1] at h, fun _ _ _ r h => by simp [carrefourref7_mark.j1] at h⟩
  | k + 1 => by
    obtain ⟨ih0, ih1⟩ := carrefourref7_mark.mono_l k
    refine ⟨?_, ?_⟩
    · intro y0 y1
      unfold carrefourref7_mark.l1
      repeat' first
      | (with_reducible exact ih0 _ _)
      | (with_reducible exact ih1 _ _ _)
      | (with_reducible exact LeO.refl _)
      | (with_reducible exact LeO.none _)
      | (with_reducible refine LeO.ite ?_ ?_)
      | (with_reducible refine LeO.bind ?_ (fun _ => ?_))
      | exact ih0 _ _
      | exact ih1 _ _ _
      | exact LeO.none _
      | refine LeO.ite ?_ ?_
      | refine LeO.bind ?_ (fun _ => ?_)
    · intro y0 y1 y2
      unfold carrefourref7_mark.j1
      repeat' first
      | (with_reducible exact ih0 _ _)
      | (with_reducible exact ih1 _ _ _)
      | (with_reducible exact LeO.refl _)
      | (with_reducible exact LeO.none _)
      | (with_reducible refine LeO.ite ?_ ?_)
      | (with_reducible refine LeO.bind ?_ (fun _ => ?_))
      | exact ih0 _ _
      | exact ih1 _ _ _
      | exact LeO.none _
      | refine LeO.ite ?_ ?_
      | refine LeO.bind ?_ (fun _ => ?_)
theorem carrefourref7_mark.mono : ∀ a0 k, LeO (carrefourref7_mark.f k a0) (carrefourref7_mark.f (k + 1) a0) := by
  intro a0 k
  obtain ⟨ih0, ih1⟩ := carrefourref7_mark.mono_l k
  unfold carrefourref7_mark.f
  repeat' first
      | (with_reducible exact ih0 _ _)
      | (with_reducible exact ih1 _ _ _)
      | (with_reducible exact LeO.refl _)
      | (with_reducible exact LeO.none _)
      | (with_reducible refine LeO.ite ?_ ?_)
      | (with_reducible refine LeO.bind ?_ (fun _ => ?_))
      | exact ih0 _ _
      | exact ih1 _ _ _
      | exact LeO.none _
      | refine LeO.ite ?_ ?_
      | refine LeO.bind ?_ (fun _ => ?_)
set_option maxHeartbeats 8000000 in
set_option maxRecDepth 100000 in
theorem carrefourref7_mark.calls (k : Nat) (a0 : ByteArray) (r : Bool) (w : World) (h : carrefourref7_mark.f k a0 = some r) :
    Calls Tryd.prog 21 #[.string a0] w fun e w' => e = .returned (.bool r) ∧ Drawn0 w w' := by
  have H : (carrefourref7_mark.l1 k a0 0) = some r := h
  clear h
  have H' := Aside0.mk H
  clear H
  go_enter Tryd.func21, Tryd.ntmps21
  go_wp2
  go_loopg [3] k (fun kq v3 w' => ∃ (x3_1 : Int), v3 = .int .i64 x3_1 ∧ Aside0 (carrefourref7_mark.l1 kq a0 x3_1 = some r) ∧ Aside0 (kq ≤ k) ∧ Drawn0 w w')
  case atStart => exact ⟨(0), (by first | rfl | (simp; done) | (simp [*]; done)), H', ⟨Nat.le_refl _⟩, by repeat (first | exact Drawn0.refl _ | apply Drawn0.step)⟩
  case round =>
   clear H'
   obtain ⟨x3_1, rfl, HA, HK1, ⟨m1, rfl⟩⟩ := hrel
   cases gk with
   | zero => exact absurd HA.out (by simp [carrefourref7_mark.l1])
   | succ k1 =>
    have H := HA.out
    clear HA
    simp only [carrefourref7_mark.l1] at H
    by_cases c2 : x3_1 < (a0.size : Int)
    ·rw [if_pos c2] at H
     have c2b0 : decide (x3_1 < (a0.size : Int)) = true := decide_eq_true c2
     clear c2
     have HC3 := Aside0.mk H
     clear H
     go_upto_region 4 with (fail)
     go_cut [19] (fun v19 wc => ∃ (kq : Nat) (x19_2 : Bool), v19 = .bool x19_2 ∧ Aside0 (carrefourref7_mark.j1 kq a0 x3_1 x19_2 = some r) ∧ Aside0 (kq ≤ k1) ∧ Drawn0 w wc)
     case first =>
      have H := HC3.out
      clear HC3
      by_cases c4 : 0 ≤ x3_1
      ·rw [if_pos c4] at H
       have c4b0 : decide (0 ≤ x3_1) = true := decide_eq_true c4
       clear c4
       (first | rw [c4b0] | (simp only [i64_w, i32_w]; rw [c4b0]) | skip)
       by_cases c6 : (bt a0 x3_1) = 42
       ·rw [if_pos c6] at H
        have c6b0 : ((bt a0 x3_1) == 42) = true := beq_iff_eq.mpr c6
        have c6b1 : ((bt a0 x3_1) != 42) = false := bne_eq_false_iff_eq.mpr c6
        clear c6
        have H' := Aside0.mk H
        clear H
        have p5 : 0 ≤ (x3_1 : Int) := of_decide_eq_true (by first | (with_reducible assumption) | assumption)
        have q5 : x3_1 < (a0.size : Int) := of_decide_eq_true (by first | (with_reducible assumption) | assumption)
        have hx5 := bt_at a0 x3_1
        replace p5 := eq_true p5
        replace q5 := eq_true q5
        go_wp2
        go_meet
        case rel => exact ⟨_, (true), (by first | rfl | (simp; done) | (simp [*]; done)), H', ⟨by have := HK1.out; first | omega | exact Nat.le_refl _⟩, by repeat (first | exact Drawn0.refl _ | apply Drawn0.step)⟩
       ·rw [if_neg c6] at H
        have c6b0 : ((bt a0 x3_1) == 42) = false := beq_eq_false_iff_ne.mpr c6
        have c6b1 : ((bt a0 x3_1) != 42) = true := bne_iff_ne.mpr c6
        have H' := Aside0.mk H
        clear H
        have p5 : 0 ≤ (x3_1 : Int) := of_decide_eq_true (by first | (with_reducible assumption) | assumption)
        have q5 : x3_1 < (a0.size : Int) := of_decide_eq_true (by first | (with_reducible assumption) | assumption)
        have hx5 := bt_at a0 x3_1
        replace p5 := eq_true p5
        replace q5 := eq_true q5
        have p7 : 0 ≤ (x3_1 : Int) := of_decide_eq_true (by first | (with_reducible assumption) | assumption)
        have q7 : x3_1 < (a0.size : Int) := of_decide_eq_true (by first | (with_reducible assumption) | assumption)
        have hx7 := bt_at a0 x3_1
        replace p7 := eq_true p7
        replace q7 := eq_true q7
        go_wp2
        go_meet
        case rel => exact ⟨_, (((bt a0 x3_1) == 35)), (by first | rfl | (simp; done) | (simp [*]; done)), H', ⟨by have := HK1.out; first | omega | exact Nat.le_refl _⟩, by repeat (first | exact Drawn0.refl _ | apply Drawn0.step)⟩
      ·rw [if_neg c4] at H
       exact absurd H (by simp)
     case rest =>
      clear HC3
      try clear c2
      try clear c2b0
      try clear p2
      try clear c4
      try clear c4b0
      try clear p5
      try clear q5
      try clear hx5
      try clear c6
      try clear c6b0
      try clear c6b1
      try clear p7
      try clear q7
      try clear hx7
      try clear p5
      try clear p7
      try clear q5
      try clear q7
      obtain ⟨kq, x19_2, rfl, HA, HJ2, ⟨mc2, rfl⟩⟩ := hcut
      cases kq with
      | zero => exact absurd HA.out (by simp [carrefourref7_mark.j1])
      | succ kj2 =>
       have H := HA.out
       clear HA
       simp only [carrefourref7_mark.j1] at H
       by_cases c8 : x19_2 = true
       ·subst c8
        have H1 : (some true) = some r := by rw [if_pos rfl] at H; exact H
        clear H
        have H := H1
        clear H1
        obtain rfl := Option.some.inj H
        go_wp2
        go_ret
        exact ⟨by first | rfl | (simp; done) | (simp [*]; done), by repeat (first | exact Drawn0.refl _ | apply Drawn0.step)⟩
       ·replace c8 := Bool.eq_false_iff.mpr c8
        subst c8
        have H1 : (carrefourref7_mark.l1 kj2 a0 (wrap64 (x3_1 + 1))) = some r := by rw [if_neg (show ¬ (false = true) by decide)] at H; exact H
        clear H
        have H := H1
        clear H1
        have H' := Aside0.mk H
        clear H
        go_wp2
        go_roundg kj2
        case measure => have := HK1.out; have := HJ2.out; omega
        case rel => exact ⟨(wrap64 (x3_1 + 1)), (by first | rfl | (simp; done) | (simp [*]; done)), H', ⟨by have := HK1.out; have := HJ2.out; omega⟩, by repeat (first | exact Drawn0.refl _ | apply Drawn0.step)⟩
    ·rw [if_neg c2] at H
     have c2b0 : decide (x3_1 < (a0.size : Int)) = false := decide_eq_false c2
     clear c2
     obtain rfl := Option.some.inj H
     go_wp2
     go_ret
     exact ⟨by first | rfl | (simp; done) | (simp [*]; done), by repeat (first | exact Drawn0.refl _ | apply Drawn0.step)⟩

end Go.Proofs.YtjnplofopiohaaaDoor.PGt
