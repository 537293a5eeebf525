-- Written by gprint.py, this session's own program, out of Lean's print of the translation: functions with the same answers, and proofs that the Go code comes to them. Lean checks it all.
import Derived.Test.YtjnplofopiohaaaDoorPGpx0
import Derived.Test.YtjnplofopiohaaaDoorPGpx1
import Derived.Test.YtjnplofopiohaaaDoorPGpx2
import Derived.Test.YtjnplofopiohaaaDoorPGpx3
namespace Go.Proofs.YtjnplofopiohaaaDoor.PGp
open Go.RowKit Go.Proofs.YtjnplofopiohaaaDoorW.PrintWords Go.Proofs.YtjnplofopiohaaaDoorW.PrintLast Go.Proofs.YtjnplofopiohaaaDoorW.PrintMore Go.Proofs.YtjnplofopiohaaaDoorG Go.Proofs.YtjnplofopiohaaaDoorH
attribute [local go_sem] max2_int min2_int max_two min_two max_three min_three max_four min_four   -- for this text's walks alone
set_option linter.unusedVariables false
set_option linter.unusedSimpArgs false

/-! ### carrefourlaw7_TopicLong: function 6 -/
mutual
def carrefourlaw7_TopicLong.l2 : Nat → Int → Int → List ByteArray → Int → Option (Bool)
  | 0, _, _, _, _ => none
  | k + 1, x5, x6, x7, x9 => if x9 < x5 then (if x7.length < 8796093022208 then (carrefourlaw7_TopicLong.l2 k x5 x6 (x7 ++ [(⟨#[42]⟩ : ByteArray)]) (wrap64 (x9 + 1))) else (none)) else (carrefourlaw7_TopicLong.l3 k x5 x6 x7 ([] : List ByteArray) 0)
def carrefourlaw7_TopicLong.l3 : Nat → Int → Int → List ByteArray → List ByteArray → Int → Option (Bool)
  | 0, _, _, _, _, _ => none
  | k + 1, x5, x6, x7, x8, x10 => if x10 < x6 then (if x8.length < 8796093022208 then (carrefourlaw7_TopicLong.l3 k x5 x6 x7 (x8 ++ [(⟨#[119]⟩ : ByteArray)]) (wrap64 (x10 + 1))) else (none)) else ((carrefourlaw7_told.f k).bind fun t175 => (if t175 = true then ((carrefourlaw7_join.f k x7).bind fun t176 => ((topic_May.f k t176).bind fun t177 => (if t177 = true then (if x5 ≤ 20 then ((carrefourlaw7_join.f k x7).bind fun t178 => ((carrefourlaw7_join.f k x8).bind fun t179 => ((topic_Match.f k t178 t179).bind fun t180 => (if x5 = x6 then (if t180 = true then ((carrefourlaw7_join.f k x8).bind fun t181 => ((topic_Match.f k (⟨#[35]⟩ : ByteArray) t181).bind fun t182 => (if t182 = true then (some (decide (x6 ≤ 20))) else (some (!(decide (x6 ≤ 20))))))) else (some false)) else (if t180 = true then (some false) else ((carrefourlaw7_join.f k x8).bind fun t183 => ((topic_Match.f k (⟨#[35]⟩ : ByteArray) t183).bind fun t184 => (if t184 = true then (some (decide (x6 ≤ 20))) else (some (!(decide (x6 ≤ 20)))))))))))) else (some false)) else (if x5 ≤ 20 then (some false) else ((carrefourlaw7_join.f k x7).bind fun t185 => ((carrefourlaw7_join.f k x8).bind fun t186 => ((topic_Match.f k t185 t186).bind fun t187 => (if x5 = x6 then (if t187 = true then (some false) else ((carrefourlaw7_join.f k x8).bind fun t188 => ((topic_Match.f k (⟨#[35]⟩ : ByteArray) t188).bind fun t189 => (if t189 = true then (some (decide (x6 ≤ 20))) else (some (!(decide (x6 ≤ 20)))))))) else (if t187 = true then (some false) else ((carrefourlaw7_join.f k x8).bind fun t190 => ((topic_Match.f k (⟨#[35]⟩ : ByteArray) t190).bind fun t191 => (if t191 = true then (some (decide (x6 ≤ 20))) else (some (!(decide (x6 ≤ 20)))))))))))))))) else (some false)))
end
def carrefourlaw7_TopicLong.f (k : Nat) (a0 : Int) (a1 : Int) : Option (Bool) := carrefourlaw7_TopicLong.l2 k (wrap64 (1 + (wrap64 (Int.tmod (IntKind.u64.wrap (a0)) 24)))) (wrap64 (1 + (wrap64 (Int.tmod (IntKind.u64.wrap (a1)) 24)))) ([] : List ByteArray) 0
theorem carrefourlaw7_TopicLong.mono_l : ∀ k, (∀ y0 y1 y2 y3, LeO (carrefourlaw7_TopicLong.l2 k y0 y1 y2 y3) (carrefourlaw7_TopicLong.l2 (k + 1) y0 y1 y2 y3)) ∧ (∀ y0 y1 y2 y3 y4, LeO (carrefourlaw7_TopicLong.l3 k y0 y1 y2 y3 y4) (carrefourlaw7_TopicLong.l3 (k + 1) y0 y1 y2 y3 y4))
  | 0 => ⟨fun _ _ _ _ r h => by simp [carrefourlaw7_TopicLong.l2] at h, fun _ _ _ _ _ r h => by simp [carrefourlaw7_TopicLong.l3] at h⟩
  | k + 1 => by
    obtain ⟨ih0, ih1⟩ := carrefourlaw7_TopicLong.mono_l k
    refine ⟨?_, ?_⟩
    · intro y0 y1 y2 y3
      unfold carrefourlaw7_TopicLong.l2
      repeat' first
      | (with_reducible exact ih0 _ _ _ _)
      | (with_reducible exact ih1 _ _ _ _ _)
      | (with_reducible exact carrefourlaw7_join.mono _ _)
      | (with_reducible exact carrefourlaw7_told.mono _)
      | (with_reducible exact topic_Match.mono _ _ _)
      | (with_reducible exact topic_May.mono _ _)
      | (with_reducible exact LeO.refl _)
      | (with_reducible exact LeO.none _)
      | (with_reducible refine LeO.ite ?_ ?_)
      | (with_reducible refine LeO.bind ?_ (fun _ => ?_))
      | exact ih0 _ _ _ _
      | exact ih1 _ _ _ _ _
      | exact carrefourlaw7_join.mono _ _
      | exact carrefourlaw7_told.mono _
      | exact topic_Match.mono _ _ _
      | exact topic_May.mono _ _
      | exact LeO.none _
      | refine LeO.ite ?_ ?_
      | refine LeO.bind ?_ (fun _ => ?_)
    · intro y0 y1 y2 y3 y4
      unfold carrefourlaw7_TopicLong.l3
      repeat' first
      | (with_reducible exact ih0 _ _ _ _)
      | (with_reducible exact ih1 _ _ _ _ _)
      | (with_reducible exact carrefourlaw7_join.mono _ _)
      | (with_reducible exact carrefourlaw7_told.mono _)
      | (with_reducible exact topic_Match.mono _ _ _)
      | (with_reducible exact topic_May.mono _ _)
      | (with_reducible exact LeO.refl _)
      | (with_reducible exact LeO.none _)
      | (with_reducible refine LeO.ite ?_ ?_)
      | (with_reducible refine LeO.bind ?_ (fun _ => ?_))
      | exact ih0 _ _ _ _
      | exact ih1 _ _ _ _ _
      | exact carrefourlaw7_join.mono _ _
      | exact carrefourlaw7_told.mono _
      | exact topic_Match.mono _ _ _
      | exact topic_May.mono _ _
      | exact LeO.none _
      | refine LeO.ite ?_ ?_
      | refine LeO.bind ?_ (fun _ => ?_)
theorem carrefourlaw7_TopicLong.mono : ∀ a0 a1 k, LeO (carrefourlaw7_TopicLong.f k a0 a1) (carrefourlaw7_TopicLong.f (k + 1) a0 a1) := by
  intro a0 a1 k
  obtain ⟨ih0, ih1⟩ := carrefourlaw7_TopicLong.mono_l k
  unfold carrefourlaw7_TopicLong.f
  repeat' first
      | (with_reducible exact ih0 _ _ _ _)
      | (with_reducible exact ih1 _ _ _ _ _)
      | (with_reducible exact carrefourlaw7_join.mono _ _)
      | (with_reducible exact carrefourlaw7_told.mono _)
      | (with_reducible exact topic_Match.mono _ _ _)
      | (with_reducible exact topic_May.mono _ _)
      | (with_reducible exact LeO.refl _)
      | (with_reducible exact LeO.none _)
      | (with_reducible refine LeO.ite ?_ ?_)
      | (with_reducible refine LeO.bind ?_ (fun _ => ?_))
      | exact ih0 _ _ _ _
      | exact ih1 _ _ _ _ _
      | exact carrefourlaw7_join.mono _ _
      | exact carrefourlaw7_told.mono _
      | exact topic_Match.mono _ _ _
      | exact topic_May.mono _ _
      | exact LeO.none _
      | refine LeO.ite ?_ ?_
      | refine LeO.bind ?_ (fun _ => ?_)
set_option maxHeartbeats 8000000 in
set_option maxRecDepth 100000 in
theorem carrefourlaw7_TopicLong.calls (k : Nat) (a0 : Int) (a1 : Int) (r : Bool) (w : World) (hgl : Gl w) (hrt : r = true) (h : carrefourlaw7_TopicLong.f k a0 a1 = some r) :
    Calls Tryd.prog 6 #[.int .i64 a0, .int .i64 a1] w fun e w' => e = .returned (.bool r) ∧ Below w.heap.size w w' := by
  have HRT := Aside0.mk hrt
  clear hrt
  have HGL := Aside0.mk hgl
  clear hgl
  have HB := Aside0.mk (Below.refl w.heap.size w)
  have H : (carrefourlaw7_TopicLong.l2 k (wrap64 (1 + (wrap64 (Int.tmod (IntKind.u64.wrap (a0)) 24)))) (wrap64 (1 + (wrap64 (Int.tmod (IntKind.u64.wrap (a1)) 24)))) ([] : List ByteArray) 0) = some r := h
  clear h
  have H' := Aside0.mk H
  clear H
  go_enter Tryd.func6, Tryd.ntmps6
  go_wp2
  go_loopg [7, 9] k (fun kq v7 v9 w' => ∃ (x7_1 : List ByteArray) (x9_1 : Int), v9 = .int .i64 x9_1 ∧ Aside0 (carrefourlaw7_TopicLong.l2 kq (wrap64 (1 + (wrap64 (Int.tmod (IntKind.u64.wrap (a0)) 24)))) (wrap64 (1 + (wrap64 (Int.tmod (IntKind.u64.wrap (a1)) 24)))) x7_1 x9_1 = some r) ∧ Aside0 (kq ≤ k) ∧ Aside0 (Kd.R Kd.string 9 w' w.heap.size (fun _ => True) v7 x7_1) ∧ Aside0 (Below w.heap.size w w'))
  case atStart => exact ⟨(([] : List ByteArray)), (0), (by first | rfl | (simp; done) | (simp [*]; done)), H', ⟨Nat.le_refl _⟩, ⟨by first | exact Kd.R_nil _ _ _ _ _ | exact Kd.N_nil _ _ _ _ _ | exact Kd.V_nil _ _ _ _ _ | exact Kd.Q_nil _ _ _ _ _ | exact Kd.S_nil _ _ _ _ _⟩, ⟨by repeat (first | (with_reducible first | exact HB.out | apply below_alloc | apply pw_below_drewN | apply below_drew1) | exact HB.out)⟩⟩
  case round =>
   clear H'
   try clear p2
   obtain ⟨x7_1, x9_1, rfl, HA, HK1, HO_7, HB⟩ := hrel
   cases gk with
   | zero => exact absurd HA.out (by simp [carrefourlaw7_TopicLong.l2])
   | succ k1 =>
    have H := HA.out
    clear HA
    simp only [carrefourlaw7_TopicLong.l2] at H
    by_cases c3 : x9_1 < (wrap64 (1 + (wrap64 (Int.tmod (IntKind.u64.wrap (a0)) 24))))
    ·rw [if_pos c3] at H
     have c3b0 : decide (x9_1 < (wrap64 (1 + (wrap64 (Int.tmod (IntKind.u64.wrap (a0)) 24))))) = true := decide_eq_true c3
     clear c3
     by_cases c4 : x7_1.length < 8796093022208
     ·rw [if_pos c4] at H
      have LMc4 := Aside0.mk c4
      clear c4
      obtain ⟨y169, hy169⟩ : ∃ y_ : List ByteArray, y_ = (x7_1 ++ [(⟨#[42]⟩ : ByteArray)]) := ⟨_, rfl⟩
      replace H : (carrefourlaw7_TopicLong.l2 k1 (wrap64 (1 + (wrap64 (Int.tmod (IntKind.u64.wrap (a0)) 24)))) (wrap64 (1 + (wrap64 (Int.tmod (IntKind.u64.wrap (a1)) 24)))) y169 (wrap64 (x9_1 + 1))) = some r := by first | (rw [hy169]; with_reducible exact H) | (have H2_ := (Option.bind_some _ _).symm.trans H; rw [hy169]; with_reducible exact H2_) | (have H2_ := (Option.bind_some _ _).symm.trans H; with_reducible exact H2_) | with_reducible exact H | (rw [hy169]; exact H) | exact H
      have Ny169 := Aside0.mk hy169
      clear hy169
      have H' := Aside0.mk H
      clear H
      go_wp2_with (first | ((with_reducible refine gate_builtin (b := .append) (xs := #[.tmp 26, .tmp 27]) rfl ?_); at_builtin; refine Kd.R_append Kd.string (w0 := w) w.heap.size rfl (.tmp 26) (.tmp 27) 23 9 (.string ⟨#[]⟩) 16 rfl Tryd.underlying23 info9 rfl (by decide) (by omega) u7 x7_1 (⟨#[42]⟩ : ByteArray) [.string (⟨#[42]⟩ : ByteArray)] (fun _ => True) (fun _ => False) rfl rfl ?aP (fun _ hk => hk.elim) ?aF ?aO ?aB ?aS ?aL ?_; (case aP => exact rfl); (case aB => exact (by repeat (first | (with_reducible first | exact HB.out | apply below_alloc | apply pw_below_drewN | apply below_drew1) | exact HB.out))); (case aF => exact (fun _ _ => trivial)); (case aO => exact (by (with_reducible repeat (first | apply Kd.R_alloc | apply Kd.R_drewN | apply Kd.R_drew)); exact HO_7.out)); (case aS => exact (below_size (by repeat (first | (with_reducible first | exact HB.out | apply below_alloc | apply pw_below_drewN | apply below_drew1) | exact HB.out)))); (case aL => have := LMc4.out; omega); intro v170 w5 ho hb hg hat; rw [← Ny169.out] at ho; have n0_ := Aside0.mk (hb); have n1_ := Aside0.mk (ho); clear HB; clear HO_7; have HB := n0_; have HO171 := n1_; clear n0_ n1_; clear ho hb hg hat))
      go_roundg k1
      case measure => have := HK1.out; omega
      case rel => exact ⟨(y169), (wrap64 (x9_1 + 1)), (by first | rfl | (simp; done) | (simp [*]; done)), H', ⟨by have := HK1.out; omega⟩, ⟨by (with_reducible repeat (first | apply Kd.R_alloc | apply Kd.R_drewN | apply Kd.R_drew)); exact HO171.out⟩, ⟨by repeat (first | (with_reducible first | exact HB.out | apply below_alloc | apply pw_below_drewN | apply below_drew1) | exact HB.out)⟩⟩
     ·rw [if_neg c4] at H
      exact absurd H (by simp)
    ·rw [if_neg c3] at H
     have c3b0 : decide (x9_1 < (wrap64 (1 + (wrap64 (Int.tmod (IntKind.u64.wrap (a0)) 24))))) = false := decide_eq_false c3
     clear c3
     have H' := Aside0.mk H
     clear H
     go_wp2
     go_loopg [8, 10] k1 (fun kq v8 v10 w' => ∃ (x8_2 : List ByteArray) (x10_2 : Int), v10 = .int .i64 x10_2 ∧ Aside0 (carrefourlaw7_TopicLong.l3 kq (wrap64 (1 + (wrap64 (Int.tmod (IntKind.u64.wrap (a0)) 24)))) (wrap64 (1 + (wrap64 (Int.tmod (IntKind.u64.wrap (a1)) 24)))) x7_1 x8_2 x10_2 = some r) ∧ Aside0 (kq ≤ k1) ∧ Aside0 (Kd.R Kd.string 9 w' w.heap.size (fun k_ => some k_ ≠ (v8 : Value).ownBlock) u7 x7_1) ∧ Aside0 (Kd.R Kd.string 9 w' w.heap.size (fun k_ => some k_ ≠ (u7 : Value).ownBlock) v8 x8_2) ∧ Aside0 (Below w.heap.size w w'))
     case atStart => exact ⟨(([] : List ByteArray)), (0), (by first | rfl | (simp; done) | (simp [*]; done)), H', ⟨Nat.le_refl _⟩, ⟨by (with_reducible repeat (first | apply Kd.R_alloc | apply Kd.R_drewN | apply Kd.R_drew)); exact Kd.R_mono HO_7.out (fun _ hk => (by simp [Value.ownBlock]))⟩, ⟨by first | exact Kd.R_nil _ _ _ _ _ | exact Kd.N_nil _ _ _ _ _ | exact Kd.V_nil _ _ _ _ _ | exact Kd.Q_nil _ _ _ _ _ | exact Kd.S_nil _ _ _ _ _⟩, ⟨by repeat (first | (with_reducible first | exact HB.out | apply below_alloc | apply pw_below_drewN | apply below_drew1) | exact HB.out)⟩⟩
     case round =>
      clear H'
      try clear p2
      try clear c3
      try clear c3b0
      try clear c4
      try clear p2
      obtain ⟨x8_2, x10_2, rfl, HA, HK2, HO_7, HO_8, HB⟩ := hrel
      cases gk with
      | zero => exact absurd HA.out (by simp [carrefourlaw7_TopicLong.l3])
      | succ k2 =>
       have H := HA.out
       clear HA
       simp only [carrefourlaw7_TopicLong.l3] at H
       by_cases c6 : x10_2 < (wrap64 (1 + (wrap64 (Int.tmod (IntKind.u64.wrap (a1)) 24))))
       ·rw [if_pos c6] at H
        have c6b0 : decide (x10_2 < (wrap64 (1 + (wrap64 (Int.tmod (IntKind.u64.wrap (a1)) 24))))) = true := decide_eq_true c6
        clear c6
        by_cases c7 : x8_2.length < 8796093022208
        ·rw [if_pos c7] at H
         have LMc7 := Aside0.mk c7
         clear c7
         obtain ⟨y172, hy172⟩ : ∃ y_ : List ByteArray, y_ = (x8_2 ++ [(⟨#[119]⟩ : ByteArray)]) := ⟨_, rfl⟩
         replace H : (carrefourlaw7_TopicLong.l3 k2 (wrap64 (1 + (wrap64 (Int.tmod (IntKind.u64.wrap (a0)) 24)))) (wrap64 (1 + (wrap64 (Int.tmod (IntKind.u64.wrap (a1)) 24)))) x7_1 y172 (wrap64 (x10_2 + 1))) = some r := by first | (rw [hy172]; with_reducible exact H) | (have H2_ := (Option.bind_some _ _).symm.trans H; rw [hy172]; with_reducible exact H2_) | (have H2_ := (Option.bind_some _ _).symm.trans H; with_reducible exact H2_) | with_reducible exact H | (rw [hy172]; exact H) | exact H
         have Ny172 := Aside0.mk hy172
         clear hy172
         have H' := Aside0.mk H
         clear H
         go_wp2_with (first | ((with_reducible refine gate_builtin (b := .append) (xs := #[.tmp 34, .tmp 35]) rfl ?_); at_builtin; refine Kd.R_append Kd.string (w0 := w) w.heap.size rfl (.tmp 34) (.tmp 35) 23 9 (.string ⟨#[]⟩) 16 rfl Tryd.underlying23 info9 rfl (by decide) (by omega) u8 x8_2 (⟨#[119]⟩ : ByteArray) [.string (⟨#[119]⟩ : ByteArray)] (fun k_ => some k_ ≠ (u7 : Value).ownBlock) (fun _ => False) rfl rfl ?aP (fun _ hk => hk.elim) ?aF ?aO ?aB ?aS ?aL ?_; (case aP => exact rfl); (case aB => exact (by repeat (first | (with_reducible first | exact HB.out | apply below_alloc | apply pw_below_drewN | apply below_drew1) | exact HB.out))); (case aF => exact (fun k_ hk => Kd.fresh' (Kd.R_lt (by (with_reducible repeat (first | apply Kd.R_alloc | apply Kd.R_drewN | apply Kd.R_drew)); exact HO_7.out)) k_ hk)); (case aO => exact (by (with_reducible repeat (first | apply Kd.R_alloc | apply Kd.R_drewN | apply Kd.R_drew)); exact HO_8.out)); (case aS => exact (below_size (by repeat (first | (with_reducible first | exact HB.out | apply below_alloc | apply pw_below_drewN | apply below_drew1) | exact HB.out)))); (case aL => have := LMc7.out; omega); intro v173 w8 ho hb hg hat; rw [← Ny172.out] at ho; have n0_ := Aside0.mk (Kd.R_after (ok := (fun _ => True)) (by (with_reducible repeat (first | apply Kd.R_alloc | apply Kd.R_drewN | apply Kd.R_drew)); exact Kd.R_mono HO_7.out (fun _ hk => ⟨trivial, hk⟩)) hg hat); have n1_ := Aside0.mk (hb); have n2_ := Aside0.mk (ho); clear HO_7; clear HB; clear HO_8; have HO_7 := n0_; have HB := n1_; have HO174 := n2_; clear n0_ n1_ n2_; clear ho hb hg hat))
         go_roundg k2
         case measure => have := HK1.out; have := HK2.out; omega
         case rel => exact ⟨(y172), (wrap64 (x10_2 + 1)), (by first | rfl | (simp; done) | (simp [*]; done)), H', ⟨by have := HK1.out; have := HK2.out; omega⟩, ⟨by (with_reducible repeat (first | apply Kd.R_alloc | apply Kd.R_drewN | apply Kd.R_drew)); exact Kd.R_mono HO_7.out (fun _ hk => hk.2)⟩, ⟨by (with_reducible repeat (first | apply Kd.R_alloc | apply Kd.R_drewN | apply Kd.R_drew)); exact HO174.out⟩, ⟨by repeat (first | (with_reducible first | exact HB.out | apply below_alloc | apply pw_below_drewN | apply below_drew1) | exact HB.out)⟩⟩
        ·rw [if_neg c7] at H
         exact absurd H (by simp)
       ·rw [if_neg c6] at H
        have c6b0 : decide (x10_2 < (wrap64 (1 + (wrap64 (Int.tmod (IntKind.u64.wrap (a1)) 24))))) = false := decide_eq_false c6
        clear c6
        replace H := Option.bind_eq_some_iff.mp H
        obtain ⟨t175, A90, H⟩ := H
        replace H : (if t175 = true then ((carrefourlaw7_join.f k2 x7_1).bind fun t176 => ((topic_May.f k2 t176).bind fun t177 => (if t177 = true then (if (wrap64 (1 + (wrap64 (Int.tmod (IntKind.u64.wrap (a0)) 24)))) ≤ 20 then ((carrefourlaw7_join.f k2 x7_1).bind fun t178 => ((carrefourlaw7_join.f k2 x8_2).bind fun t179 => ((topic_Match.f k2 t178 t179).bind fun t180 => (if (wrap64 (1 + (wrap64 (Int.tmod (IntKind.u64.wrap (a0)) 24)))) = (wrap64 (1 + (wrap64 (Int.tmod (IntKind.u64.wrap (a1)) 24)))) then (if t180 = true then ((carrefourlaw7_join.f k2 x8_2).bind fun t181 => ((topic_Match.f k2 (⟨#[35]⟩ : ByteArray) t181).bind fun t182 => (if t182 = true then (some (decide ((wrap64 (1 + (wrap64 (Int.tmod (IntKind.u64.wrap (a1)) 24)))) ≤ 20))) else (some (!(decide ((wrap64 (1 + (wrap64 (Int.tmod (IntKind.u64.wrap (a1)) 24)))) ≤ 20))))))) else (some false)) else (if t180 = true then (some false) else ((carrefourlaw7_join.f k2 x8_2).bind fun t183 => ((topic_Match.f k2 (⟨#[35]⟩ : ByteArray) t183).bind fun t184 => (if t184 = true then (some (decide ((wrap64 (1 + (wrap64 (Int.tmod (IntKind.u64.wrap (a1)) 24)))) ≤ 20))) else (some (!(decide ((wrap64 (1 + (wrap64 (Int.tmod (IntKind.u64.wrap (a1)) 24)))) ≤ 20)))))))))))) else (some false)) else (if (wrap64 (1 + (wrap64 (Int.tmod (IntKind.u64.wrap (a0)) 24)))) ≤ 20 then (some false) else ((carrefourlaw7_join.f k2 x7_1).bind fun t185 => ((carrefourlaw7_join.f k2 x8_2).bind fun t186 => ((topic_Match.f k2 t185 t186).bind fun t187 => (if (wrap64 (1 + (wrap64 (Int.tmod (IntKind.u64.wrap (a0)) 24)))) = (wrap64 (1 + (wrap64 (Int.tmod (IntKind.u64.wrap (a1)) 24)))) then (if t187 = true then (some false) else ((carrefourlaw7_join.f k2 x8_2).bind fun t188 => ((topic_Match.f k2 (⟨#[35]⟩ : ByteArray) t188).bind fun t189 => (if t189 = true then (some (decide ((wrap64 (1 + (wrap64 (Int.tmod (IntKind.u64.wrap (a1)) 24)))) ≤ 20))) else (some (!(decide ((wrap64 (1 + (wrap64 (Int.tmod (IntKind.u64.wrap (a1)) 24)))) ≤ 20)))))))) else (if t187 = true then (some false) else ((carrefourlaw7_join.f k2 x8_2).bind fun t190 => ((topic_Match.f k2 (⟨#[35]⟩ : ByteArray) t190).bind fun t191 => (if t191 = true then (some (decide ((wrap64 (1 + (wrap64 (Int.tmod (IntKind.u64.wrap (a1)) 24)))) ≤ 20))) else (some (!(decide ((wrap64 (1 + (wrap64 (Int.tmod (IntKind.u64.wrap (a1)) 24)))) ≤ 20)))))))))))))))) else (some false)) = some r := H
        have A9 := Aside0.mk A90
        clear A90
        by_cases c10 : t175 = true
        ·subst c10
         have H1 : ((carrefourlaw7_join.f k2 x7_1).bind fun t176 => ((topic_May.f k2 t176).bind fun t177 => (if t177 = true then (if (wrap64 (1 + (wrap64 (Int.tmod (IntKind.u64.wrap (a0)) 24)))) ≤ 20 then ((carrefourlaw7_join.f k2 x7_1).bind fun t178 => ((carrefourlaw7_join.f k2 x8_2).bind fun t179 => ((topic_Match.f k2 t178 t179).bind fun t180 => (if (wrap64 (1 + (wrap64 (Int.tmod (IntKind.u64.wrap (a0)) 24)))) = (wrap64 (1 + (wrap64 (Int.tmod (IntKind.u64.wrap (a1)) 24)))) then (if t180 = true then ((carrefourlaw7_join.f k2 x8_2).bind fun t181 => ((topic_Match.f k2 (⟨#[35]⟩ : ByteArray) t181).bind fun t182 => (if t182 = true then (some (decide ((wrap64 (1 + (wrap64 (Int.tmod (IntKind.u64.wrap (a1)) 24)))) ≤ 20))) else (some (!(decide ((wrap64 (1 + (wrap64 (Int.tmod (IntKind.u64.wrap (a1)) 24)))) ≤ 20))))))) else (some false)) else (if t180 = true then (some false) else ((carrefourlaw7_join.f k2 x8_2).bind fun t183 => ((topic_Match.f k2 (⟨#[35]⟩ : ByteArray) t183).bind fun t184 => (if t184 = true then (some (decide ((wrap64 (1 + (wrap64 (Int.tmod (IntKind.u64.wrap (a1)) 24)))) ≤ 20))) else (some (!(decide ((wrap64 (1 + (wrap64 (Int.tmod (IntKind.u64.wrap (a1)) 24)))) ≤ 20)))))))))))) else (some false)) else (if (wrap64 (1 + (wrap64 (Int.tmod (IntKind.u64.wrap (a0)) 24)))) ≤ 20 then (some false) else ((carrefourlaw7_join.f k2 x7_1).bind fun t185 => ((carrefourlaw7_join.f k2 x8_2).bind fun t186 => ((topic_Match.f k2 t185 t186).bind fun t187 => (if (wrap64 (1 + (wrap64 (Int.tmod (IntKind.u64.wrap (a0)) 24)))) = (wrap64 (1 + (wrap64 (Int.tmod (IntKind.u64.wrap (a1)) 24)))) then (if t187 = true then (some false) else ((carrefourlaw7_join.f k2 x8_2).bind fun t188 => ((topic_Match.f k2 (⟨#[35]⟩ : ByteArray) t188).bind fun t189 => (if t189 = true then (some (decide ((wrap64 (1 + (wrap64 (Int.tmod (IntKind.u64.wrap (a1)) 24)))) ≤ 20))) else (some (!(decide ((wrap64 (1 + (wrap64 (Int.tmod (IntKind.u64.wrap (a1)) 24)))) ≤ 20)))))))) else (if t187 = true then (some false) else ((carrefourlaw7_join.f k2 x8_2).bind fun t190 => ((topic_Match.f k2 (⟨#[35]⟩ : ByteArray) t190).bind fun t191 => (if t191 = true then (some (decide ((wrap64 (1 + (wrap64 (Int.tmod (IntKind.u64.wrap (a1)) 24)))) ≤ 20))) else (some (!(decide ((wrap64 (1 + (wrap64 (Int.tmod (IntKind.u64.wrap (a1)) 24)))) ≤ 20)))))))))))))))) = some r := by rw [if_pos rfl] at H; exact H
         clear H
         have H := H1
         clear H1
         replace H := Option.bind_eq_some_iff.mp H
         obtain ⟨t176, A110, H⟩ := H
         replace H : ((topic_May.f k2 t176).bind fun t177 => (if t177 = true then (if (wrap64 (1 + (wrap64 (Int.tmod (IntKind.u64.wrap (a0)) 24)))) ≤ 20 then ((carrefourlaw7_join.f k2 x7_1).bind fun t178 => ((carrefourlaw7_join.f k2 x8_2).bind fun t179 => ((topic_Match.f k2 t178 t179).bind fun t180 => (if (wrap64 (1 + (wrap64 (Int.tmod (IntKind.u64.wrap (a0)) 24)))) = (wrap64 (1 + (wrap64 (Int.tmod (IntKind.u64.wrap (a1)) 24)))) then (if t180 = true then ((carrefourlaw7_join.f k2 x8_2).bind fun t181 => ((topic_Match.f k2 (⟨#[35]⟩ : ByteArray) t181).bind fun t182 => (if t182 = true then (some (decide ((wrap64 (1 + (wrap64 (Int.tmod (IntKind.u64.wrap (a1)) 24)))) ≤ 20))) else (some (!(decide ((wrap64 (1 + (wrap64 (Int.tmod (IntKind.u64.wrap (a1)) 24)))) ≤ 20))))))) else (some false)) else (if t180 = true then (some false) else ((carrefourlaw7_join.f k2 x8_2).bind fun t183 => ((topic_Match.f k2 (⟨#[35]⟩ : ByteArray) t183).bind fun t184 => (if t184 = true then (some (decide ((wrap64 (1 + (wrap64 (Int.tmod (IntKind.u64.wrap (a1)) 24)))) ≤ 20))) else (some (!(decide ((wrap64 (1 + (wrap64 (Int.tmod (IntKind.u64.wrap (a1)) 24)))) ≤ 20)))))))))))) else (some false)) else (if (wrap64 (1 + (wrap64 (Int.tmod (IntKind.u64.wrap (a0)) 24)))) ≤ 20 then (some false) else ((carrefourlaw7_join.f k2 x7_1).bind fun t185 => ((carrefourlaw7_join.f k2 x8_2).bind fun t186 => ((topic_Match.f k2 t185 t186).bind fun t187 => (if (wrap64 (1 + (wrap64 (Int.tmod (IntKind.u64.wrap (a0)) 24)))) = (wrap64 (1 + (wrap64 (Int.tmod (IntKind.u64.wrap (a1)) 24)))) then (if t187 = true then (some false) else ((carrefourlaw7_join.f k2 x8_2).bind fun t188 => ((topic_Match.f k2 (⟨#[35]⟩ : ByteArray) t188).bind fun t189 => (if t189 = true then (some (decide ((wrap64 (1 + (wrap64 (Int.tmod (IntKind.u64.wrap (a1)) 24)))) ≤ 20))) else (some (!(decide ((wrap64 (1 + (wrap64 (Int.tmod (IntKind.u64.wrap (a1)) 24)))) ≤ 20)))))))) else (if t187 = true then (some false) else ((carrefourlaw7_join.f k2 x8_2).bind fun t190 => ((topic_Match.f k2 (⟨#[35]⟩ : ByteArray) t190).bind fun t191 => (if t191 = true then (some (decide ((wrap64 (1 + (wrap64 (Int.tmod (IntKind.u64.wrap (a1)) 24)))) ≤ 20))) else (some (!(decide ((wrap64 (1 + (wrap64 (Int.tmod (IntKind.u64.wrap (a1)) 24)))) ≤ 20))))))))))))))) = some r := H
         have A11 := Aside0.mk A110
         clear A110
         replace H := Option.bind_eq_some_iff.mp H
         obtain ⟨t177, A120, H⟩ := H
         replace H : (if t177 = true then (if (wrap64 (1 + (wrap64 (Int.tmod (IntKind.u64.wrap (a0)) 24)))) ≤ 20 then ((carrefourlaw7_join.f k2 x7_1).bind fun t178 => ((carrefourlaw7_join.f k2 x8_2).bind fun t179 => ((topic_Match.f k2 t178 t179).bind fun t180 => (if (wrap64 (1 + (wrap64 (Int.tmod (IntKind.u64.wrap (a0)) 24)))) = (wrap64 (1 + (wrap64 (Int.tmod (IntKind.u64.wrap (a1)) 24)))) then (if t180 = true then ((carrefourlaw7_join.f k2 x8_2).bind fun t181 => ((topic_Match.f k2 (⟨#[35]⟩ : ByteArray) t181).bind fun t182 => (if t182 = true then (some (decide ((wrap64 (1 + (wrap64 (Int.tmod (IntKind.u64.wrap (a1)) 24)))) ≤ 20))) else (some (!(decide ((wrap64 (1 + (wrap64 (Int.tmod (IntKind.u64.wrap (a1)) 24)))) ≤ 20))))))) else (some false)) else (if t180 = true then (some false) else ((carrefourlaw7_join.f k2 x8_2).bind fun t183 => ((topic_Match.f k2 (⟨#[35]⟩ : ByteArray) t183).bind fun t184 => (if t184 = true then (some (decide ((wrap64 (1 + (wrap64 (Int.tmod (IntKind.u64.wrap (a1)) 24)))) ≤ 20))) else (some (!(decide ((wrap64 (1 + (wrap64 (Int.tmod (IntKind.u64.wrap (a1)) 24)))) ≤ 20)))))))))))) else (some false)) else (if (wrap64 (1 + (wrap64 (Int.tmod (IntKind.u64.wrap (a0)) 24)))) ≤ 20 then (some false) else ((carrefourlaw7_join.f k2 x7_1).bind fun t185 => ((carrefourlaw7_join.f k2 x8_2).bind fun t186 => ((topic_Match.f k2 t185 t186).bind fun t187 => (if (wrap64 (1 + (wrap64 (Int.tmod (IntKind.u64.wrap (a0)) 24)))) = (wrap64 (1 + (wrap64 (Int.tmod (IntKind.u64.wrap (a1)) 24)))) then (if t187 = true then (some false) else ((carrefourlaw7_join.f k2 x8_2).bind fun t188 => ((topic_Match.f k2 (⟨#[35]⟩ : ByteArray) t188).bind fun t189 => (if t189 = true then (some (decide ((wrap64 (1 + (wrap64 (Int.tmod (IntKind.u64.wrap (a1)) 24)))) ≤ 20))) else (some (!(decide ((wrap64 (1 + (wrap64 (Int.tmod (IntKind.u64.wrap (a1)) 24)))) ≤ 20)))))))) else (if t187 = true then (some false) else ((carrefourlaw7_join.f k2 x8_2).bind fun t190 => ((topic_Match.f k2 (⟨#[35]⟩ : ByteArray) t190).bind fun t191 => (if t191 = true then (some (decide ((wrap64 (1 + (wrap64 (Int.tmod (IntKind.u64.wrap (a1)) 24)))) ≤ 20))) else (some (!(decide ((wrap64 (1 + (wrap64 (Int.tmod (IntKind.u64.wrap (a1)) 24)))) ≤ 20)))))))))))))) = some r := H
         have A12 := Aside0.mk A120
         clear A120
         by_cases c13 : t177 = true
         ·subst c13
          have H1 : (if (wrap64 (1 + (wrap64 (Int.tmod (IntKind.u64.wrap (a0)) 24)))) ≤ 20 then ((carrefourlaw7_join.f k2 x7_1).bind fun t178 => ((carrefourlaw7_join.f k2 x8_2).bind fun t179 => ((topic_Match.f k2 t178 t179).bind fun t180 => (if (wrap64 (1 + (wrap64 (Int.tmod (IntKind.u64.wrap (a0)) 24)))) = (wrap64 (1 + (wrap64 (Int.tmod (IntKind.u64.wrap (a1)) 24)))) then (if t180 = true then ((carrefourlaw7_join.f k2 x8_2).bind fun t181 => ((topic_Match.f k2 (⟨#[35]⟩ : ByteArray) t181).bind fun t182 => (if t182 = true then (some (decide ((wrap64 (1 + (wrap64 (Int.tmod (IntKind.u64.wrap (a1)) 24)))) ≤ 20))) else (some (!(decide ((wrap64 (1 + (wrap64 (Int.tmod (IntKind.u64.wrap (a1)) 24)))) ≤ 20))))))) else (some false)) else (if t180 = true then (some false) else ((carrefourlaw7_join.f k2 x8_2).bind fun t183 => ((topic_Match.f k2 (⟨#[35]⟩ : ByteArray) t183).bind fun t184 => (if t184 = true then (some (decide ((wrap64 (1 + (wrap64 (Int.tmod (IntKind.u64.wrap (a1)) 24)))) ≤ 20))) else (some (!(decide ((wrap64 (1 + (wrap64 (Int.tmod (IntKind.u64.wrap (a1)) 24)))) ≤ 20)))))))))))) else (some false)) = some r := by rw [if_pos rfl] at H; exact H
          clear H
          have H := H1
          clear H1
          by_cases c14 : (wrap64 (1 + (wrap64 (Int.tmod (IntKind.u64.wrap (a0)) 24)))) ≤ 20
          ·rw [if_pos c14] at H
           have c14b0 : decide ((wrap64 (1 + (wrap64 (Int.tmod (IntKind.u64.wrap (a0)) 24)))) ≤ 20) = true := decide_eq_true c14
           clear c14
           replace H := Option.bind_eq_some_iff.mp H
           obtain ⟨t178, A150, H⟩ := H
           replace H : ((carrefourlaw7_join.f k2 x8_2).bind fun t179 => ((topic_Match.f k2 t178 t179).bind fun t180 => (if (wrap64 (1 + (wrap64 (Int.tmod (IntKind.u64.wrap (a0)) 24)))) = (wrap64 (1 + (wrap64 (Int.tmod (IntKind.u64.wrap (a1)) 24)))) then (if t180 = true then ((carrefourlaw7_join.f k2 x8_2).bind fun t181 => ((topic_Match.f k2 (⟨#[35]⟩ : ByteArray) t181).bind fun t182 => (if t182 = true then (some (decide ((wrap64 (1 + (wrap64 (Int.tmod (IntKind.u64.wrap (a1)) 24)))) ≤ 20))) else (some (!(decide ((wrap64 (1 + (wrap64 (Int.tmod (IntKind.u64.wrap (a1)) 24)))) ≤ 20))))))) else (some false)) else (if t180 = true then (some false) else ((carrefourlaw7_join.f k2 x8_2).bind fun t183 => ((topic_Match.f k2 (⟨#[35]⟩ : ByteArray) t183).bind fun t184 => (if t184 = true then (some (decide ((wrap64 (1 + (wrap64 (Int.tmod (IntKind.u64.wrap (a1)) 24)))) ≤ 20))) else (some (!(decide ((wrap64 (1 + (wrap64 (Int.tmod (IntKind.u64.wrap (a1)) 24)))) ≤ 20))))))))))) = some r := H
           have A15 := Aside0.mk A150
           clear A150
           replace H := Option.bind_eq_some_iff.mp H
           obtain ⟨t179, A160, H⟩ := H
           replace H : ((topic_Match.f k2 t178 t179).bind fun t180 => (if (wrap64 (1 + (wrap64 (Int.tmod (IntKind.u64.wrap (a0)) 24)))) = (wrap64 (1 + (wrap64 (Int.tmod (IntKind.u64.wrap (a1)) 24)))) then (if t180 = true then ((carrefourlaw7_join.f k2 x8_2).bind fun t181 => ((topic_Match.f k2 (⟨#[35]⟩ : ByteArray) t181).bind fun t182 => (if t182 = true then (some (decide ((wrap64 (1 + (wrap64 (Int.tmod (IntKind.u64.wrap (a1)) 24)))) ≤ 20))) else (some (!(decide ((wrap64 (1 + (wrap64 (Int.tmod (IntKind.u64.wrap (a1)) 24)))) ≤ 20))))))) else (some false)) else (if t180 = true then (some false) else ((carrefourlaw7_join.f k2 x8_2).bind fun t183 => ((topic_Match.f k2 (⟨#[35]⟩ : ByteArray) t183).bind fun t184 => (if t184 = true then (some (decide ((wrap64 (1 + (wrap64 (Int.tmod (IntKind.u64.wrap (a1)) 24)))) ≤ 20))) else (some (!(decide ((wrap64 (1 + (wrap64 (Int.tmod (IntKind.u64.wrap (a1)) 24)))) ≤ 20)))))))))) = some r := H
           have A16 := Aside0.mk A160
           clear A160
           replace H := Option.bind_eq_some_iff.mp H
           obtain ⟨t180, A170, H⟩ := H
           replace H : (if (wrap64 (1 + (wrap64 (Int.tmod (IntKind.u64.wrap (a0)) 24)))) = (wrap64 (1 + (wrap64 (Int.tmod (IntKind.u64.wrap (a1)) 24)))) then (if t180 = true then ((carrefourlaw7_join.f k2 x8_2).bind fun t181 => ((topic_Match.f k2 (⟨#[35]⟩ : ByteArray) t181).bind fun t182 => (if t182 = true then (some (decide ((wrap64 (1 + (wrap64 (Int.tmod (IntKind.u64.wrap (a1)) 24)))) ≤ 20))) else (some (!(decide ((wrap64 (1 + (wrap64 (Int.tmod (IntKind.u64.wrap (a1)) 24)))) ≤ 20))))))) else (some false)) else (if t180 = true then (some false) else ((carrefourlaw7_join.f k2 x8_2).bind fun t183 => ((topic_Match.f k2 (⟨#[35]⟩ : ByteArray) t183).bind fun t184 => (if t184 = true then (some (decide ((wrap64 (1 + (wrap64 (Int.tmod (IntKind.u64.wrap (a1)) 24)))) ≤ 20))) else (some (!(decide ((wrap64 (1 + (wrap64 (Int.tmod (IntKind.u64.wrap (a1)) 24)))) ≤ 20))))))))) = some r := H
           have A17 := Aside0.mk A170
           clear A170
           by_cases c18 : (wrap64 (1 + (wrap64 (Int.tmod (IntKind.u64.wrap (a0)) 24)))) = (wrap64 (1 + (wrap64 (Int.tmod (IntKind.u64.wrap (a1)) 24))))
           ·rw [if_pos c18] at H
            have c18b0 : ((wrap64 (1 + (wrap64 (Int.tmod (IntKind.u64.wrap (a0)) 24)))) == (wrap64 (1 + (wrap64 (Int.tmod (IntKind.u64.wrap (a1)) 24))))) = true := beq_iff_eq.mpr c18
            have c18b1 : ((wrap64 (1 + (wrap64 (Int.tmod (IntKind.u64.wrap (a0)) 24)))) != (wrap64 (1 + (wrap64 (Int.tmod (IntKind.u64.wrap (a1)) 24))))) = false := bne_eq_false_iff_eq.mpr c18
            clear c18
            by_cases c19 : t180 = true
            ·subst c19
             have H1 : ((carrefourlaw7_join.f k2 x8_2).bind fun t181 => ((topic_Match.f k2 (⟨#[35]⟩ : ByteArray) t181).bind fun t182 => (if t182 = true then (some (decide ((wrap64 (1 + (wrap64 (Int.tmod (IntKind.u64.wrap (a1)) 24)))) ≤ 20))) else (some (!(decide ((wrap64 (1 + (wrap64 (Int.tmod (IntKind.u64.wrap (a1)) 24)))) ≤ 20))))))) = some r := by rw [if_pos rfl] at H; exact H
             clear H
             have H := H1
             clear H1
             replace H := Option.bind_eq_some_iff.mp H
             obtain ⟨t181, A200, H⟩ := H
             replace H : ((topic_Match.f k2 (⟨#[35]⟩ : ByteArray) t181).bind fun t182 => (if t182 = true then (some (decide ((wrap64 (1 + (wrap64 (Int.tmod (IntKind.u64.wrap (a1)) 24)))) ≤ 20))) else (some (!(decide ((wrap64 (1 + (wrap64 (Int.tmod (IntKind.u64.wrap (a1)) 24)))) ≤ 20)))))) = some r := H
             have A20 := Aside0.mk A200
             clear A200
             replace H := Option.bind_eq_some_iff.mp H
             obtain ⟨t182, A210, H⟩ := H
             replace H : (if t182 = true then (some (decide ((wrap64 (1 + (wrap64 (Int.tmod (IntKind.u64.wrap (a1)) 24)))) ≤ 20))) else (some (!(decide ((wrap64 (1 + (wrap64 (Int.tmod (IntKind.u64.wrap (a1)) 24)))) ≤ 20))))) = some r := H
             have A21 := Aside0.mk A210
             clear A210
             by_cases c22 : t182 = true
             ·subst c22
              have H1 : (some (decide ((wrap64 (1 + (wrap64 (Int.tmod (IntKind.u64.wrap (a1)) 24)))) ≤ 20))) = some r := by rw [if_pos rfl] at H; exact H
              clear H
              have H := H1
              clear H1
              clear HRT
              obtain rfl := Option.some.inj H
              go_wp2_with (first | ((with_reducible refine gate_callee (f := 8) rfl ?_); refine goesL_ (some 37) rfl rfl Tryd.func8 (by kernel_rfl) rfl #[] rfl (by (try simp only [List.map_toArray, List.map_cons, List.map_nil]); first | done | rfl | (simp only [List.length_drop, List.length_take]; rfl)) ?_; (with_reducible refine (carrefourlaw7_told.calls k2  true _ ?side1 A9.out).mono ?_); (case side1 => exact Gl.below HGL.out (by repeat (first | (with_reducible first | exact HB.out | apply below_alloc | apply pw_below_drewN | apply below_drew1) | exact HB.out))); rintro e w23 ⟨rfl, hb⟩; refine ⟨_, rfl, ?_⟩; have n0_ := Aside0.mk (Kd.R_below (by (with_reducible repeat (first | apply Kd.R_alloc | apply Kd.R_drewN | apply Kd.R_drew)); exact HO_7.out) hb); have n1_ := Aside0.mk (Kd.R_below (by (with_reducible repeat (first | apply Kd.R_alloc | apply Kd.R_drewN | apply Kd.R_drew)); exact HO_8.out) hb); have n2_ := Aside0.mk (below_step (by repeat (first | (with_reducible first | exact HB.out | apply below_alloc | apply pw_below_drewN | apply below_drew1) | exact HB.out)) hb); clear HO_7; clear HO_8; clear HB; have HO_7 := n0_; have HO_8 := n1_; have HB := n2_; clear n0_ n1_ n2_; (try clear hb); (try clear hb2); (try clear hk); (try clear hi); obtain ⟨Ao24, co24, eo24⟩ := Kd.R_slice HO_7.out; subst eo24) | ((with_reducible refine gate_dst (N := 40) rfl ?_); (try (refine gate_guard (by rfl) ?_; dsimp only)); (with_reducible refine gate_callee (f := 15) rfl ?_); refine goesL_ (some 40) rfl rfl Tryd.func15 (by kernel_rfl) rfl #[.slice Ao24 x7_1.length co24] rfl (by (try simp only [List.map_toArray, List.map_cons, List.map_nil]); first | done | rfl | (simp only [List.length_drop, List.length_take]; rfl)) ?_; (with_reducible refine (carrefourlaw7_join.calls k2 _ _ x7_1 t176 _ ?side1 ?side2 A11.out).mono ?_); (case side1 => repeat (first | exact (Kd.R_reads' HO_7.out).2.2 | (with_reducible refine Kd.C_alloc ?_ _) | (with_reducible refine Kd.C_drewN ?_ _) | (with_reducible refine Kd.C_drew ?_))); (case side2 => exact (Kd.R_reads' HO_7.out).2.1); rintro e w' ⟨rfl, ⟨nd, rfl⟩⟩; refine ⟨_, rfl, ?_⟩) | ((with_reducible refine gate_dst (N := 41) rfl ?_); (try (refine gate_guard (by rfl) ?_; dsimp only)); (with_reducible refine gate_callee (f := 11) rfl ?_); refine goesL_ (some 41) rfl rfl Tryd.func11 (by kernel_rfl) rfl #[.string t176] rfl (by (try simp only [List.map_toArray, List.map_cons, List.map_nil]); first | done | rfl | (simp only [List.length_drop, List.length_take]; rfl)) ?_; (with_reducible refine (topic_May.calls k2 t176 true _ ?side1 A12.out).mono ?_); (case side1 => exact Gl.below HGL.out (by repeat (first | (with_reducible first | exact HB.out | apply below_alloc | apply pw_below_drewN | apply below_drew1) | exact HB.out))); rintro e w25 ⟨rfl, hb⟩; refine ⟨_, rfl, ?_⟩; have n0_ := Aside0.mk (Kd.R_below (by (with_reducible repeat (first | apply Kd.R_alloc | apply Kd.R_drewN | apply Kd.R_drew)); exact HO_7.out) hb); have n1_ := Aside0.mk (Kd.R_below (by (with_reducible repeat (first | apply Kd.R_alloc | apply Kd.R_drewN | apply Kd.R_drew)); exact HO_8.out) hb); have n2_ := Aside0.mk (below_step (by repeat (first | (with_reducible first | exact HB.out | apply below_alloc | apply pw_below_drewN | apply below_drew1) | exact HB.out)) hb); clear HO_7; clear HO_8; clear HB; have HO_7 := n0_; have HO_8 := n1_; have HB := n2_; clear n0_ n1_ n2_; (try clear hb); (try clear hb2); (try clear hk); (try clear hi)) | ((with_reducible refine gate_dst (N := 48) rfl ?_); (try (refine gate_guard (by rfl) ?_; dsimp only)); (with_reducible refine gate_callee (f := 15) rfl ?_); refine goesL_ (some 48) rfl rfl Tryd.func15 (by kernel_rfl) rfl #[.slice Ao24 x7_1.length co24] rfl (by (try simp only [List.map_toArray, List.map_cons, List.map_nil]); first | done | rfl | (simp only [List.length_drop, List.length_take]; rfl)) ?_; (with_reducible refine (carrefourlaw7_join.calls k2 _ _ x7_1 t178 _ ?side1 ?side2 A15.out).mono ?_); (case side1 => repeat (first | exact (Kd.R_reads' HO_7.out).2.2 | (with_reducible refine Kd.C_alloc ?_ _) | (with_reducible refine Kd.C_drewN ?_ _) | (with_reducible refine Kd.C_drew ?_))); (case side2 => exact (Kd.R_reads' HO_7.out).2.1); rintro e w' ⟨rfl, ⟨nd, rfl⟩⟩; refine ⟨_, rfl, ?_⟩; obtain ⟨Ao26, co26, eo26⟩ := Kd.R_slice HO_8.out; subst eo26) | ((with_reducible refine gate_dst (N := 50) rfl ?_); (try (refine gate_guard (by rfl) ?_; dsimp only)); (with_reducible refine gate_callee (f := 15) rfl ?_); refine goesL_ (some 50) rfl rfl Tryd.func15 (by kernel_rfl) rfl #[.slice Ao26 x8_2.length co26] rfl (by (try simp only [List.map_toArray, List.map_cons, List.map_nil]); first | done | rfl | (simp only [List.length_drop, List.length_take]; rfl)) ?_; (with_reducible refine (carrefourlaw7_join.calls k2 _ _ x8_2 t179 _ ?side1 ?side2 A16.out).mono ?_); (case side1 => repeat (first | exact (Kd.R_reads' HO_8.out).2.2 | (with_reducible refine Kd.C_alloc ?_ _) | (with_reducible refine Kd.C_drewN ?_ _) | (with_reducible refine Kd.C_drew ?_))); (case side2 => exact (Kd.R_reads' HO_8.out).2.1); rintro e w' ⟨rfl, ⟨nd, rfl⟩⟩; refine ⟨_, rfl, ?_⟩) | ((with_reducible refine gate_dst (N := 51) rfl ?_); (try (refine gate_guard (by rfl) ?_; dsimp only)); (with_reducible refine gate_callee (f := 13) rfl ?_); refine goesL_ (some 51) rfl rfl Tryd.func13 (by kernel_rfl) rfl #[.string t178, .string t179] rfl (by (try simp only [List.map_toArray, List.map_cons, List.map_nil]); first | done | rfl | (simp only [List.length_drop, List.length_take]; rfl)) ?_; (with_reducible refine (topic_Match.calls k2 t178 t179 true _ ?side1 A17.out).mono ?_); (case side1 => exact Gl.below HGL.out (by repeat (first | (with_reducible first | exact HB.out | apply below_alloc | apply pw_below_drewN | apply below_drew1) | exact HB.out))); rintro e w27 ⟨rfl, hb⟩; refine ⟨_, rfl, ?_⟩; have n0_ := Aside0.mk (Kd.R_below (by (with_reducible repeat (first | apply Kd.R_alloc | apply Kd.R_drewN | apply Kd.R_drew)); exact HO_7.out) hb); have n1_ := Aside0.mk (Kd.R_below (by (with_reducible repeat (first | apply Kd.R_alloc | apply Kd.R_drewN | apply Kd.R_drew)); exact HO_8.out) hb); have n2_ := Aside0.mk (below_step (by repeat (first | (with_reducible first | exact HB.out | apply below_alloc | apply pw_below_drewN | apply below_drew1) | exact HB.out)) hb); clear HO_7; clear HO_8; clear HB; have HO_7 := n0_; have HO_8 := n1_; have HB := n2_; clear n0_ n1_ n2_; (try clear hb); (try clear hb2); (try clear hk); (try clear hi)) | ((with_reducible refine gate_dst (N := 63) rfl ?_); (try (refine gate_guard (by rfl) ?_; dsimp only)); (with_reducible refine gate_callee (f := 15) rfl ?_); refine goesL_ (some 63) rfl rfl Tryd.func15 (by kernel_rfl) rfl #[.slice Ao26 x8_2.length co26] rfl (by (try simp only [List.map_toArray, List.map_cons, List.map_nil]); first | done | rfl | (simp only [List.length_drop, List.length_take]; rfl)) ?_; (with_reducible refine (carrefourlaw7_join.calls k2 _ _ x8_2 t181 _ ?side1 ?side2 A20.out).mono ?_); (case side1 => repeat (first | exact (Kd.R_reads' HO_8.out).2.2 | (with_reducible refine Kd.C_alloc ?_ _) | (with_reducible refine Kd.C_drewN ?_ _) | (with_reducible refine Kd.C_drew ?_))); (case side2 => exact (Kd.R_reads' HO_8.out).2.1); rintro e w' ⟨rfl, ⟨nd, rfl⟩⟩; refine ⟨_, rfl, ?_⟩) | ((with_reducible refine gate_dst (N := 64) rfl ?_); (try (refine gate_guard (by rfl) ?_; dsimp only)); (with_reducible refine gate_callee (f := 13) rfl ?_); refine goesL_ (some 64) rfl rfl Tryd.func13 (by kernel_rfl) rfl #[.string (⟨#[35]⟩ : ByteArray), .string t181] rfl (by (try simp only [List.map_toArray, List.map_cons, List.map_nil]); first | done | rfl | (simp only [List.length_drop, List.length_take]; rfl)) ?_; (with_reducible refine (topic_Match.calls k2 (⟨#[35]⟩ : ByteArray) t181 true _ ?side1 A21.out).mono ?_); (case side1 => exact Gl.below HGL.out (by repeat (first | (with_reducible first | exact HB.out | apply below_alloc | apply pw_below_drewN | apply below_drew1) | exact HB.out))); rintro e w28 ⟨rfl, hb⟩; refine ⟨_, rfl, ?_⟩; have n0_ := Aside0.mk (Kd.R_below (by (with_reducible repeat (first | apply Kd.R_alloc | apply Kd.R_drewN | apply Kd.R_drew)); exact HO_7.out) hb); have n1_ := Aside0.mk (Kd.R_below (by (with_reducible repeat (first | apply Kd.R_alloc | apply Kd.R_drewN | apply Kd.R_drew)); exact HO_8.out) hb); have n2_ := Aside0.mk (below_step (by repeat (first | (with_reducible first | exact HB.out | apply below_alloc | apply pw_below_drewN | apply below_drew1) | exact HB.out)) hb); clear HO_7; clear HO_8; clear HB; have HO_7 := n0_; have HO_8 := n1_; have HB := n2_; clear n0_ n1_ n2_; (try clear hb); (try clear hb2); (try clear hk); (try clear hi)))
              go_ret
              exact ⟨by first | rfl | (simp [errW_none, errW_some] <;> rfl) | (simp [*, errW_none, errW_some] <;> rfl), by repeat (first | (with_reducible first | exact HB.out | apply below_alloc | apply pw_below_drewN | apply below_drew1) | exact HB.out)⟩
             ·replace c22 := Bool.eq_false_iff.mpr c22
              subst c22
              have H1 : (some (!(decide ((wrap64 (1 + (wrap64 (Int.tmod (IntKind.u64.wrap (a1)) 24)))) ≤ 20)))) = some r := by rw [if_neg (show ¬ (false = true) by decide)] at H; exact H
              clear H
              have H := H1
              clear H1
              clear HRT
              obtain rfl := Option.some.inj H
              go_wp2_with (first | ((with_reducible refine gate_callee (f := 8) rfl ?_); refine goesL_ (some 37) rfl rfl Tryd.func8 (by kernel_rfl) rfl #[] rfl (by (try simp only [List.map_toArray, List.map_cons, List.map_nil]); first | done | rfl | (simp only [List.length_drop, List.length_take]; rfl)) ?_; (with_reducible refine (carrefourlaw7_told.calls k2  true _ ?side1 A9.out).mono ?_); (case side1 => exact Gl.below HGL.out (by repeat (first | (with_reducible first | exact HB.out | apply below_alloc | apply pw_below_drewN | apply below_drew1) | exact HB.out))); rintro e w29 ⟨rfl, hb⟩; refine ⟨_, rfl, ?_⟩; have n0_ := Aside0.mk (Kd.R_below (by (with_reducible repeat (first | apply Kd.R_alloc | apply Kd.R_drewN | apply Kd.R_drew)); exact HO_7.out) hb); have n1_ := Aside0.mk (Kd.R_below (by (with_reducible repeat (first | apply Kd.R_alloc | apply Kd.R_drewN | apply Kd.R_drew)); exact HO_8.out) hb); have n2_ := Aside0.mk (below_step (by repeat (first | (with_reducible first | exact HB.out | apply below_alloc | apply pw_below_drewN | apply below_drew1) | exact HB.out)) hb); clear HO_7; clear HO_8; clear HB; have HO_7 := n0_; have HO_8 := n1_; have HB := n2_; clear n0_ n1_ n2_; (try clear hb); (try clear hb2); (try clear hk); (try clear hi); obtain ⟨Ao30, co30, eo30⟩ := Kd.R_slice HO_7.out; subst eo30) | ((with_reducible refine gate_dst (N := 40) rfl ?_); (try (refine gate_guard (by rfl) ?_; dsimp only)); (with_reducible refine gate_callee (f := 15) rfl ?_); refine goesL_ (some 40) rfl rfl Tryd.func15 (by kernel_rfl) rfl #[.slice Ao30 x7_1.length co30] rfl (by (try simp only [List.map_toArray, List.map_cons, List.map_nil]); first | done | rfl | (simp only [List.length_drop, List.length_take]; rfl)) ?_; (with_reducible refine (carrefourlaw7_join.calls k2 _ _ x7_1 t176 _ ?side1 ?side2 A11.out).mono ?_); (case side1 => repeat (first | exact (Kd.R_reads' HO_7.out).2.2 | (with_reducible refine Kd.C_alloc ?_ _) | (with_reducible refine Kd.C_drewN ?_ _) | (with_reducible refine Kd.C_drew ?_))); (case side2 => exact (Kd.R_reads' HO_7.out).2.1); rintro e w' ⟨rfl, ⟨nd, rfl⟩⟩; refine ⟨_, rfl, ?_⟩) | ((with_reducible refine gate_dst (N := 41) rfl ?_); (try (refine gate_guard (by rfl) ?_; dsimp only)); (with_reducible refine gate_callee (f := 11) rfl ?_); refine goesL_ (some 41) rfl rfl Tryd.func11 (by kernel_rfl) rfl #[.string t176] rfl (by (try simp only [List.map_toArray, List.map_cons, List.map_nil]); first | done | rfl | (simp only [List.length_drop, List.length_take]; rfl)) ?_; (with_reducible refine (topic_May.calls k2 t176 true _ ?side1 A12.out).mono ?_); (case side1 => exact Gl.below HGL.out (by repeat (first | (with_reducible first | exact HB.out | apply below_alloc | apply pw_below_drewN | apply below_drew1) | exact HB.out))); rintro e w31 ⟨rfl, hb⟩; refine ⟨_, rfl, ?_⟩; have n0_ := Aside0.mk (Kd.R_below (by (with_reducible repeat (first | apply Kd.R_alloc | apply Kd.R_drewN | apply Kd.R_drew)); exact HO_7.out) hb); have n1_ := Aside0.mk (Kd.R_below (by (with_reducible repeat (first | apply Kd.R_alloc | apply Kd.R_drewN | apply Kd.R_drew)); exact HO_8.out) hb); have n2_ := Aside0.mk (below_step (by repeat (first | (with_reducible first | exact HB.out | apply below_alloc | apply pw_below_drewN | apply below_drew1) | exact HB.out)) hb); clear HO_7; clear HO_8; clear HB; have HO_7 := n0_; have HO_8 := n1_; have HB := n2_; clear n0_ n1_ n2_; (try clear hb); (try clear hb2); (try clear hk); (try clear hi)) | ((with_reducible refine gate_dst (N := 48) rfl ?_); (try (refine gate_guard (by rfl) ?_; dsimp only)); (with_reducible refine gate_callee (f := 15) rfl ?_); refine goesL_ (some 48) rfl rfl Tryd.func15 (by kernel_rfl) rfl #[.slice Ao30 x7_1.length co30] rfl (by (try simp only [List.map_toArray, List.map_cons, List.map_nil]); first | done | rfl | (simp only [List.length_drop, List.length_take]; rfl)) ?_; (with_reducible refine (carrefourlaw7_join.calls k2 _ _ x7_1 t178 _ ?side1 ?side2 A15.out).mono ?_); (case side1 => repeat (first | exact (Kd.R_reads' HO_7.out).2.2 | (with_reducible refine Kd.C_alloc ?_ _) | (with_reducible refine Kd.C_drewN ?_ _) | (with_reducible refine Kd.C_drew ?_))); (case side2 => exact (Kd.R_reads' HO_7.out).2.1); rintro e w' ⟨rfl, ⟨nd, rfl⟩⟩; refine ⟨_, rfl, ?_⟩; obtain ⟨Ao32, co32, eo32⟩ := Kd.R_slice HO_8.out; subst eo32) | ((with_reducible refine gate_dst (N := 50) rfl ?_); (try (refine gate_guard (by rfl) ?_; dsimp only)); (with_reducible refine gate_callee (f := 15) rfl ?_); refine goesL_ (some 50) rfl rfl Tryd.func15 (by kernel_rfl) rfl #[.slice Ao32 x8_2.length co32] rfl (by (try simp only [List.map_toArray, List.map_cons, List.map_nil]); first | done | rfl | (simp only [List.length_drop, List.length_take]; rfl)) ?_; (with_reducible refine (carrefourlaw7_join.calls k2 _ _ x8_2 t179 _ ?side1 ?side2 A16.out).mono ?_); (case side1 => repeat (first | exact (Kd.R_reads' HO_8.out).2.2 | (with_reducible refine Kd.C_alloc ?_ _) | (with_reducible refine Kd.C_drewN ?_ _) | (with_reducible refine Kd.C_drew ?_))); (case side2 => exact (Kd.R_reads' HO_8.out).2.1); rintro e w' ⟨rfl, ⟨nd, rfl⟩⟩; refine ⟨_, rfl, ?_⟩) | ((with_reducible refine gate_dst (N := 51) rfl ?_); (try (refine gate_guard (by rfl) ?_; dsimp only)); (with_reducible refine gate_callee (f := 13) rfl ?_); refine goesL_ (some 51) rfl rfl Tryd.func13 (by kernel_rfl) rfl #[.string t178, .string t179] rfl (by (try simp only [List.map_toArray, List.map_cons, List.map_nil]); first | done | rfl | (simp only [List.length_drop, List.length_take]; rfl)) ?_; (with_reducible refine (topic_Match.calls k2 t178 t179 true _ ?side1 A17.out).mono ?_); (case side1 => exact Gl.below HGL.out (by repeat (first | (with_reducible first | exact HB.out | apply below_alloc | apply pw_below_drewN | apply below_drew1) | exact HB.out))); rintro e w33 ⟨rfl, hb⟩; refine ⟨_, rfl, ?_⟩; have n0_ := Aside0.mk (Kd.R_below (by (with_reducible repeat (first | apply Kd.R_alloc | apply Kd.R_drewN | apply Kd.R_drew)); exact HO_7.out) hb); have n1_ := Aside0.mk (Kd.R_below (by (with_reducible repeat (first | apply Kd.R_alloc | apply Kd.R_drewN | apply Kd.R_drew)); exact HO_8.out) hb); have n2_ := Aside0.mk (below_step (by repeat (first | (with_reducible first | exact HB.out | apply below_alloc | apply pw_below_drewN | apply below_drew1) | exact HB.out)) hb); clear HO_7; clear HO_8; clear HB; have HO_7 := n0_; have HO_8 := n1_; have HB := n2_; clear n0_ n1_ n2_; (try clear hb); (try clear hb2); (try clear hk); (try clear hi)) | ((with_reducible refine gate_dst (N := 63) rfl ?_); (try (refine gate_guard (by rfl) ?_; dsimp only)); (with_reducible refine gate_callee (f := 15) rfl ?_); refine goesL_ (some 63) rfl rfl Tryd.func15 (by kernel_rfl) rfl #[.slice Ao32 x8_2.length co32] rfl (by (try simp only [List.map_toArray, List.map_cons, List.map_nil]); first | done | rfl | (simp only [List.length_drop, List.length_take]; rfl)) ?_; (with_reducible refine (carrefourlaw7_join.calls k2 _ _ x8_2 t181 _ ?side1 ?side2 A20.out).mono ?_); (case side1 => repeat (first | exact (Kd.R_reads' HO_8.out).2.2 | (with_reducible refine Kd.C_alloc ?_ _) | (with_reducible refine Kd.C_drewN ?_ _) | (with_reducible refine Kd.C_drew ?_))); (case side2 => exact (Kd.R_reads' HO_8.out).2.1); rintro e w' ⟨rfl, ⟨nd, rfl⟩⟩; refine ⟨_, rfl, ?_⟩) | ((with_reducible refine gate_dst (N := 64) rfl ?_); (try (refine gate_guard (by rfl) ?_; dsimp only)); (with_reducible refine gate_callee (f := 13) rfl ?_); refine goesL_ (some 64) rfl rfl Tryd.func13 (by kernel_rfl) rfl #[.string (⟨#[35]⟩ : ByteArray), .string t181] rfl (by (try simp only [List.map_toArray, List.map_cons, List.map_nil]); first | done | rfl | (simp only [List.length_drop, List.length_take]; rfl)) ?_; (with_reducible refine (topic_Match.calls k2 (⟨#[35]⟩ : ByteArray) t181 false _ ?side1 A21.out).mono ?_); (case side1 => exact Gl.below HGL.out (by repeat (first | (with_reducible first | exact HB.out | apply below_alloc | apply pw_below_drewN | apply below_drew1) | exact HB.out))); rintro e w34 ⟨rfl, hb⟩; refine ⟨_, rfl, ?_⟩; have n0_ := Aside0.mk (Kd.R_below (by (with_reducible repeat (first | apply Kd.R_alloc | apply Kd.R_drewN | apply Kd.R_drew)); exact HO_7.out) hb); have n1_ := Aside0.mk (Kd.R_below (by (with_reducible repeat (first | apply Kd.R_alloc | apply Kd.R_drewN | apply Kd.R_drew)); exact HO_8.out) hb); have n2_ := Aside0.mk (below_step (by repeat (first | (with_reducible first | exact HB.out | apply below_alloc | apply pw_below_drewN | apply below_drew1) | exact HB.out)) hb); clear HO_7; clear HO_8; clear HB; have HO_7 := n0_; have HO_8 := n1_; have HB := n2_; clear n0_ n1_ n2_; (try clear hb); (try clear hb2); (try clear hk); (try clear hi)))
              go_ret
              exact ⟨by first | rfl | (simp [errW_none, errW_some] <;> rfl) | (simp [*, errW_none, errW_some] <;> rfl), by repeat (first | (with_reducible first | exact HB.out | apply below_alloc | apply pw_below_drewN | apply below_drew1) | exact HB.out)⟩
            ·replace c19 := Bool.eq_false_iff.mpr c19
             subst c19
             have H1 : (some false) = some r := by rw [if_neg (show ¬ (false = true) by decide)] at H; exact H
             clear H
             have H := H1
             clear H1
             rw [HRT.out] at H
             exact absurd H (by (repeat' split) <;> simp [Option.bind_eq_some_iff])
           ·rw [if_neg c18] at H
            have c18b0 : ((wrap64 (1 + (wrap64 (Int.tmod (IntKind.u64.wrap (a0)) 24)))) == (wrap64 (1 + (wrap64 (Int.tmod (IntKind.u64.wrap (a1)) 24))))) = false := beq_eq_false_iff_ne.mpr c18
            have c18b1 : ((wrap64 (1 + (wrap64 (Int.tmod (IntKind.u64.wrap (a0)) 24)))) != (wrap64 (1 + (wrap64 (Int.tmod (IntKind.u64.wrap (a1)) 24))))) = true := bne_iff_ne.mpr c18
            by_cases c35 : t180 = true
            ·subst c35
             have H1 : (some false) = some r := by rw [if_pos rfl] at H; exact H
             clear H
             have H := H1
             clear H1
             rw [HRT.out] at H
             exact absurd H (by (repeat' split) <;> simp [Option.bind_eq_some_iff])
            ·replace c35 := Bool.eq_false_iff.mpr c35
             subst c35
             have H1 : ((carrefourlaw7_join.f k2 x8_2).bind fun t183 => ((topic_Match.f k2 (⟨#[35]⟩ : ByteArray) t183).bind fun t184 => (if t184 = true then (some (decide ((wrap64 (1 + (wrap64 (Int.tmod (IntKind.u64.wrap (a1)) 24)))) ≤ 20))) else (some (!(decide ((wrap64 (1 + (wrap64 (Int.tmod (IntKind.u64.wrap (a1)) 24)))) ≤ 20))))))) = some r := by rw [if_neg (show ¬ (false = true) by decide)] at H; exact H
             clear H
             have H := H1
             clear H1
             replace H := Option.bind_eq_some_iff.mp H
             obtain ⟨t183, A360, H⟩ := H
             replace H : ((topic_Match.f k2 (⟨#[35]⟩ : ByteArray) t183).bind fun t184 => (if t184 = true then (some (decide ((wrap64 (1 + (wrap64 (Int.tmod (IntKind.u64.wrap (a1)) 24)))) ≤ 20))) else (some (!(decide ((wrap64 (1 + (wrap64 (Int.tmod (IntKind.u64.wrap (a1)) 24)))) ≤ 20)))))) = some r := H
             have A36 := Aside0.mk A360
             clear A360
             replace H := Option.bind_eq_some_iff.mp H
             obtain ⟨t184, A370, H⟩ := H
             replace H : (if t184 = true then (some (decide ((wrap64 (1 + (wrap64 (Int.tmod (IntKind.u64.wrap (a1)) 24)))) ≤ 20))) else (some (!(decide ((wrap64 (1 + (wrap64 (Int.tmod (IntKind.u64.wrap (a1)) 24)))) ≤ 20))))) = some r := H
             have A37 := Aside0.mk A370
             clear A370
             by_cases c38 : t184 = true
             ·subst c38
              have H1 : (some (decide ((wrap64 (1 + (wrap64 (Int.tmod (IntKind.u64.wrap (a1)) 24)))) ≤ 20))) = some r := by rw [if_pos rfl] at H; exact H
              clear H
              have H := H1
              clear H1
              clear HRT
              obtain rfl := Option.some.inj H
              go_wp2_with (first | ((with_reducible refine gate_callee (f := 8) rfl ?_); refine goesL_ (some 37) rfl rfl Tryd.func8 (by kernel_rfl) rfl #[] rfl (by (try simp only [List.map_toArray, List.map_cons, List.map_nil]); first | done | rfl | (simp only [List.length_drop, List.length_take]; rfl)) ?_; (with_reducible refine (carrefourlaw7_told.calls k2  true _ ?side1 A9.out).mono ?_); (case side1 => exact Gl.below HGL.out (by repeat (first | (with_reducible first | exact HB.out | apply below_alloc | apply pw_below_drewN | apply below_drew1) | exact HB.out))); rintro e w39 ⟨rfl, hb⟩; refine ⟨_, rfl, ?_⟩; have n0_ := Aside0.mk (Kd.R_below (by (with_reducible repeat (first | apply Kd.R_alloc | apply Kd.R_drewN | apply Kd.R_drew)); exact HO_7.out) hb); have n1_ := Aside0.mk (Kd.R_below (by (with_reducible repeat (first | apply Kd.R_alloc | apply Kd.R_drewN | apply Kd.R_drew)); exact HO_8.out) hb); have n2_ := Aside0.mk (below_step (by repeat (first | (with_reducible first | exact HB.out | apply below_alloc | apply pw_below_drewN | apply below_drew1) | exact HB.out)) hb); clear HO_7; clear HO_8; clear HB; have HO_7 := n0_; have HO_8 := n1_; have HB := n2_; clear n0_ n1_ n2_; (try clear hb); (try clear hb2); (try clear hk); (try clear hi); obtain ⟨Ao40, co40, eo40⟩ := Kd.R_slice HO_7.out; subst eo40) | ((with_reducible refine gate_dst (N := 40) rfl ?_); (try (refine gate_guard (by rfl) ?_; dsimp only)); (with_reducible refine gate_callee (f := 15) rfl ?_); refine goesL_ (some 40) rfl rfl Tryd.func15 (by kernel_rfl) rfl #[.slice Ao40 x7_1.length co40] rfl (by (try simp only [List.map_toArray, List.map_cons, List.map_nil]); first | done | rfl | (simp only [List.length_drop, List.length_take]; rfl)) ?_; (with_reducible refine (carrefourlaw7_join.calls k2 _ _ x7_1 t176 _ ?side1 ?side2 A11.out).mono ?_); (case side1 => repeat (first | exact (Kd.R_reads' HO_7.out).2.2 | (with_reducible refine Kd.C_alloc ?_ _) | (with_reducible refine Kd.C_drewN ?_ _) | (with_reducible refine Kd.C_drew ?_))); (case side2 => exact (Kd.R_reads' HO_7.out).2.1); rintro e w' ⟨rfl, ⟨nd, rfl⟩⟩; refine ⟨_, rfl, ?_⟩) | ((with_reducible refine gate_dst (N := 41) rfl ?_); (try (refine gate_guard (by rfl) ?_; dsimp only)); (with_reducible refine gate_callee (f := 11) rfl ?_); refine goesL_ (some 41) rfl rfl Tryd.func11 (by kernel_rfl) rfl #[.string t176] rfl (by (try simp only [List.map_toArray, List.map_cons, List.map_nil]); first | done | rfl | (simp only [List.length_drop, List.length_take]; rfl)) ?_; (with_reducible refine (topic_May.calls k2 t176 true _ ?side1 A12.out).mono ?_); (case side1 => exact Gl.below HGL.out (by repeat (first | (with_reducible first | exact HB.out | apply below_alloc | apply pw_below_drewN | apply below_drew1) | exact HB.out))); rintro e w41 ⟨rfl, hb⟩; refine ⟨_, rfl, ?_⟩; have n0_ := Aside0.mk (Kd.R_below (by (with_reducible repeat (first | apply Kd.R_alloc | apply Kd.R_drewN | apply Kd.R_drew)); exact HO_7.out) hb); have n1_ := Aside0.mk (Kd.R_below (by (with_reducible repeat (first | apply Kd.R_alloc | apply Kd.R_drewN | apply Kd.R_drew)); exact HO_8.out) hb); have n2_ := Aside0.mk (below_step (by repeat (first | (with_reducible first | exact HB.out | apply below_alloc | apply pw_below_drewN | apply below_drew1) | exact HB.out)) hb); clear HO_7; clear HO_8; clear HB; have HO_7 := n0_; have HO_8 := n1_; have HB := n2_; clear n0_ n1_ n2_; (try clear hb); (try clear hb2); (try clear hk); (try clear hi)) | ((with_reducible refine gate_dst (N := 48) rfl ?_); (try (refine gate_guard (by rfl) ?_; dsimp only)); (with_reducible refine gate_callee (f := 15) rfl ?_); refine goesL_ (some 48) rfl rfl Tryd.func15 (by kernel_rfl) rfl #[.slice Ao40 x7_1.length co40] rfl (by (try simp only [List.map_toArray, List.map_cons, List.map_nil]); first | done | rfl | (simp only [List.length_drop, List.length_take]; rfl)) ?_; (with_reducible refine (carrefourlaw7_join.calls k2 _ _ x7_1 t178 _ ?side1 ?side2 A15.out).mono ?_); (case side1 => repeat (first | exact (Kd.R_reads' HO_7.out).2.2 | (with_reducible refine Kd.C_alloc ?_ _) | (with_reducible refine Kd.C_drewN ?_ _) | (with_reducible refine Kd.C_drew ?_))); (case side2 => exact (Kd.R_reads' HO_7.out).2.1); rintro e w' ⟨rfl, ⟨nd, rfl⟩⟩; refine ⟨_, rfl, ?_⟩; obtain ⟨Ao42, co42, eo42⟩ := Kd.R_slice HO_8.out; subst eo42) | ((with_reducible refine gate_dst (N := 50) rfl ?_); (try (refine gate_guard (by rfl) ?_; dsimp only)); (with_reducible refine gate_callee (f := 15) rfl ?_); refine goesL_ (some 50) rfl rfl Tryd.func15 (by kernel_rfl) rfl #[.slice Ao42 x8_2.length co42] rfl (by (try simp only [List.map_toArray, List.map_cons, List.map_nil]); first | done | rfl | (simp only [List.length_drop, List.length_take]; rfl)) ?_; (with_reducible refine (carrefourlaw7_join.calls k2 _ _ x8_2 t179 _ ?side1 ?side2 A16.out).mono ?_); (case side1 => repeat (first | exact (Kd.R_reads' HO_8.out).2.2 | (with_reducible refine Kd.C_alloc ?_ _) | (with_reducible refine Kd.C_drewN ?_ _) | (with_reducible refine Kd.C_drew ?_))); (case side2 => exact (Kd.R_reads' HO_8.out).2.1); rintro e w' ⟨rfl, ⟨nd, rfl⟩⟩; refine ⟨_, rfl, ?_⟩) | ((with_reducible refine gate_dst (N := 51) rfl ?_); (try (refine gate_guard (by rfl) ?_; dsimp only)); (with_reducible refine gate_callee (f := 13) rfl ?_); refine goesL_ (some 51) rfl rfl Tryd.func13 (by kernel_rfl) rfl #[.string t178, .string t179] rfl (by (try simp only [List.map_toArray, List.map_cons, List.map_nil]); first | done | rfl | (simp only [List.length_drop, List.length_take]; rfl)) ?_; (with_reducible refine (topic_Match.calls k2 t178 t179 false _ ?side1 A17.out).mono ?_); (case side1 => exact Gl.below HGL.out (by repeat (first | (with_reducible first | exact HB.out | apply below_alloc | apply pw_below_drewN | apply below_drew1) | exact HB.out))); rintro e w43 ⟨rfl, hb⟩; refine ⟨_, rfl, ?_⟩; have n0_ := Aside0.mk (Kd.R_below (by (with_reducible repeat (first | apply Kd.R_alloc | apply Kd.R_drewN | apply Kd.R_drew)); exact HO_7.out) hb); have n1_ := Aside0.mk (Kd.R_below (by (with_reducible repeat (first | apply Kd.R_alloc | apply Kd.R_drewN | apply Kd.R_drew)); exact HO_8.out) hb); have n2_ := Aside0.mk (below_step (by repeat (first | (with_reducible first | exact HB.out | apply below_alloc | apply pw_below_drewN | apply below_drew1) | exact HB.out)) hb); clear HO_7; clear HO_8; clear HB; have HO_7 := n0_; have HO_8 := n1_; have HB := n2_; clear n0_ n1_ n2_; (try clear hb); (try clear hb2); (try clear hk); (try clear hi)) | ((with_reducible refine gate_dst (N := 63) rfl ?_); (try (refine gate_guard (by rfl) ?_; dsimp only)); (with_reducible refine gate_callee (f := 15) rfl ?_); refine goesL_ (some 63) rfl rfl Tryd.func15 (by kernel_rfl) rfl #[.slice Ao42 x8_2.length co42] rfl (by (try simp only [List.map_toArray, List.map_cons, List.map_nil]); first | done | rfl | (simp only [List.length_drop, List.length_take]; rfl)) ?_; (with_reducible refine (carrefourlaw7_join.calls k2 _ _ x8_2 t183 _ ?side1 ?side2 A36.out).mono ?_); (case side1 => repeat (first | exact (Kd.R_reads' HO_8.out).2.2 | (with_reducible refine Kd.C_alloc ?_ _) | (with_reducible refine Kd.C_drewN ?_ _) | (with_reducible refine Kd.C_drew ?_))); (case side2 => exact (Kd.R_reads' HO_8.out).2.1); rintro e w' ⟨rfl, ⟨nd, rfl⟩⟩; refine ⟨_, rfl, ?_⟩) | ((with_reducible refine gate_dst (N := 64) rfl ?_); (try (refine gate_guard (by rfl) ?_; dsimp only)); (with_reducible refine gate_callee (f := 13) rfl ?_); refine goesL_ (some 64) rfl rfl Tryd.func13 (by kernel_rfl) rfl #[.string (⟨#[35]⟩ : ByteArray), .string t183] rfl (by (try simp only [List.map_toArray, List.map_cons, List.map_nil]); first | done | rfl | (simp only [List.length_drop, List.length_take]; rfl)) ?_; (with_reducible refine (topic_Match.calls k2 (⟨#[35]⟩ : ByteArray) t183 true _ ?side1 A37.out).mono ?_); (case side1 => exact Gl.below HGL.out (by repeat (first | (with_reducible first | exact HB.out | apply below_alloc | apply pw_below_drewN | apply below_drew1) | exact HB.out))); rintro e w44 ⟨rfl, hb⟩; refine ⟨_, rfl, ?_⟩; have n0_ := Aside0.mk (Kd.R_below (by (with_reducible repeat (first | apply Kd.R_alloc | apply Kd.R_drewN | apply Kd.R_drew)); exact HO_7.out) hb); have n1_ := Aside0.mk (Kd.R_below (by (with_reducible repeat (first | apply Kd.R_alloc | apply Kd.R_drewN | apply Kd.R_drew)); exact HO_8.out) hb); have n2_ := Aside0.mk (below_step (by repeat (first | (with_reducible first | exact HB.out | apply below_alloc | apply pw_below_drewN | apply below_drew1) | exact HB.out)) hb); clear HO_7; clear HO_8; clear HB; have HO_7 := n0_; have HO_8 := n1_; have HB := n2_; clear n0_ n1_ n2_; (try clear hb); (try clear hb2); (try clear hk); (try clear hi)))
              go_ret
              exact ⟨by first | rfl | (simp [errW_none, errW_some] <;> rfl) | (simp [*, errW_none, errW_some] <;> rfl), by repeat (first | (with_reducible first | exact HB.out | apply below_alloc | apply pw_below_drewN | apply below_drew1) | exact HB.out)⟩
             ·replace c38 := Bool.eq_false_iff.mpr c38
              subst c38
              have H1 : (some (!(decide ((wrap64 (1 + (wrap64 (Int.tmod (IntKind.u64.wrap (a1)) 24)))) ≤ 20)))) = some r := by rw [if_neg (show ¬ (false = true) by decide)] at H; exact H
              clear H
              have H := H1
              clear H1
              clear HRT
              obtain rfl := Option.some.inj H
              go_wp2_with (first | ((with_reducible refine gate_callee (f := 8) rfl ?_); refine goesL_ (some 37) rfl rfl Tryd.func8 (by kernel_rfl) rfl #[] rfl (by (try simp only [List.map_toArray, List.map_cons, List.map_nil]); first | done | rfl | (simp only [List.length_drop, List.length_take]; rfl)) ?_; (with_reducible refine (carrefourlaw7_told.calls k2  true _ ?side1 A9.out).mono ?_); (case side1 => exact Gl.below HGL.out (by repeat (first | (with_reducible first | exact HB.out | apply below_alloc | apply pw_below_drewN | apply below_drew1) | exact HB.out))); rintro e w45 ⟨rfl, hb⟩; refine ⟨_, rfl, ?_⟩; have n0_ := Aside0.mk (Kd.R_below (by (with_reducible repeat (first | apply Kd.R_alloc | apply Kd.R_drewN | apply Kd.R_drew)); exact HO_7.out) hb); have n1_ := Aside0.mk (Kd.R_below (by (with_reducible repeat (first | apply Kd.R_alloc | apply Kd.R_drewN | apply Kd.R_drew)); exact HO_8.out) hb); have n2_ := Aside0.mk (below_step (by repeat (first | (with_reducible first | exact HB.out | apply below_alloc | apply pw_below_drewN | apply below_drew1) | exact HB.out)) hb); clear HO_7; clear HO_8; clear HB; have HO_7 := n0_; have HO_8 := n1_; have HB := n2_; clear n0_ n1_ n2_; (try clear hb); (try clear hb2); (try clear hk); (try clear hi); obtain ⟨Ao46, co46, eo46⟩ := Kd.R_slice HO_7.out; subst eo46) | ((with_reducible refine gate_dst (N := 40) rfl ?_); (try (refine gate_guard (by rfl) ?_; dsimp only)); (with_reducible refine gate_callee (f := 15) rfl ?_); refine goesL_ (some 40) rfl rfl Tryd.func15 (by kernel_rfl) rfl #[.slice Ao46 x7_1.length co46] rfl (by (try simp only [List.map_toArray, List.map_cons, List.map_nil]); first | done | rfl | (simp only [List.length_drop, List.length_take]; rfl)) ?_; (with_reducible refine (carrefourlaw7_join.calls k2 _ _ x7_1 t176 _ ?side1 ?side2 A11.out).mono ?_); (case side1 => repeat (first | exact (Kd.R_reads' HO_7.out).2.2 | (with_reducible refine Kd.C_alloc ?_ _) | (with_reducible refine Kd.C_drewN ?_ _) | (with_reducible refine Kd.C_drew ?_))); (case side2 => exact (Kd.R_reads' HO_7.out).2.1); rintro e w' ⟨rfl, ⟨nd, rfl⟩⟩; refine ⟨_, rfl, ?_⟩) | ((with_reducible refine gate_dst (N := 41) rfl ?_); (try (refine gate_guard (by rfl) ?_; dsimp only)); (with_reducible refine gate_callee (f := 11) rfl ?_); refine goesL_ (some 41) rfl rfl Tryd.func11 (by kernel_rfl) rfl #[.string t176] rfl (by (try simp only [List.map_toArray, List.map_cons, List.map_nil]); first | done | rfl | (simp only [List.length_drop, List.length_take]; rfl)) ?_; (with_reducible refine (topic_May.calls k2 t176 true _ ?side1 A12.out).mono ?_); (case side1 => exact Gl.below HGL.out (by repeat (first | (with_reducible first | exact HB.out | apply below_alloc | apply pw_below_drewN | apply below_drew1) | exact HB.out))); rintro e w47 ⟨rfl, hb⟩; refine ⟨_, rfl, ?_⟩; have n0_ := Aside0.mk (Kd.R_below (by (with_reducible repeat (first | apply Kd.R_alloc | apply Kd.R_drewN | apply Kd.R_drew)); exact HO_7.out) hb); have n1_ := Aside0.mk (Kd.R_below (by (with_reducible repeat (first | apply Kd.R_alloc | apply Kd.R_drewN | apply Kd.R_drew)); exact HO_8.out) hb); have n2_ := Aside0.mk (below_step (by repeat (first | (with_reducible first | exact HB.out | apply below_alloc | apply pw_below_drewN | apply below_drew1) | exact HB.out)) hb); clear HO_7; clear HO_8; clear HB; have HO_7 := n0_; have HO_8 := n1_; have HB := n2_; clear n0_ n1_ n2_; (try clear hb); (try clear hb2); (try clear hk); (try clear hi)) | ((with_reducible refine gate_dst (N := 48) rfl ?_); (try (refine gate_guard (by rfl) ?_; dsimp only)); (with_reducible refine gate_callee (f := 15) rfl ?_); refine goesL_ (some 48) rfl rfl Tryd.func15 (by kernel_rfl) rfl #[.slice Ao46 x7_1.length co46] rfl (by (try simp only [List.map_toArray, List.map_cons, List.map_nil]); first | done | rfl | (simp only [List.length_drop, List.length_take]; rfl)) ?_; (with_reducible refine (carrefourlaw7_join.calls k2 _ _ x7_1 t178 _ ?side1 ?side2 A15.out).mono ?_); (case side1 => repeat (first | exact (Kd.R_reads' HO_7.out).2.2 | (with_reducible refine Kd.C_alloc ?_ _) | (with_reducible refine Kd.C_drewN ?_ _) | (with_reducible refine Kd.C_drew ?_))); (case side2 => exact (Kd.R_reads' HO_7.out).2.1); rintro e w' ⟨rfl, ⟨nd, rfl⟩⟩; refine ⟨_, rfl, ?_⟩; obtain ⟨Ao48, co48, eo48⟩ := Kd.R_slice HO_8.out; subst eo48) | ((with_reducible refine gate_dst (N := 50) rfl ?_); (try (refine gate_guard (by rfl) ?_; dsimp only)); (with_reducible refine gate_callee (f := 15) rfl ?_); refine goesL_ (some 50) rfl rfl Tryd.func15 (by kernel_rfl) rfl #[.slice Ao48 x8_2.length co48] rfl (by (try simp only [List.map_toArray, List.map_cons, List.map_nil]); first | done | rfl | (simp only [List.length_drop, List.length_take]; rfl)) ?_; (with_reducible refine (carrefourlaw7_join.calls k2 _ _ x8_2 t179 _ ?side1 ?side2 A16.out).mono ?_); (case side1 => repeat (first | exact (Kd.R_reads' HO_8.out).2.2 | (with_reducible refine Kd.C_alloc ?_ _) | (with_reducible refine Kd.C_drewN ?_ _) | (with_reducible refine Kd.C_drew ?_))); (case side2 => exact (Kd.R_reads' HO_8.out).2.1); rintro e w' ⟨rfl, ⟨nd, rfl⟩⟩; refine ⟨_, rfl, ?_⟩) | ((with_reducible refine gate_dst (N := 51) rfl ?_); (try (refine gate_guard (by rfl) ?_; dsimp only)); (with_reducible refine gate_callee (f := 13) rfl ?_); refine goesL_ (some 51) rfl rfl Tryd.func13 (by kernel_rfl) rfl #[.string t178, .string t179] rfl (by (try simp only [List.map_toArray, List.map_cons, List.map_nil]); first | done | rfl | (simp only [List.length_drop, List.length_take]; rfl)) ?_; (with_reducible refine (topic_Match.calls k2 t178 t179 false _ ?side1 A17.out).mono ?_); (case side1 => exact Gl.below HGL.out (by repeat (first | (with_reducible first | exact HB.out | apply below_alloc | apply pw_below_drewN | apply below_drew1) | exact HB.out))); rintro e w49 ⟨rfl, hb⟩; refine ⟨_, rfl, ?_⟩; have n0_ := Aside0.mk (Kd.R_below (by (with_reducible repeat (first | apply Kd.R_alloc | apply Kd.R_drewN | apply Kd.R_drew)); exact HO_7.out) hb); have n1_ := Aside0.mk (Kd.R_below (by (with_reducible repeat (first | apply Kd.R_alloc | apply Kd.R_drewN | apply Kd.R_drew)); exact HO_8.out) hb); have n2_ := Aside0.mk (below_step (by repeat (first | (with_reducible first | exact HB.out | apply below_alloc | apply pw_below_drewN | apply below_drew1) | exact HB.out)) hb); clear HO_7; clear HO_8; clear HB; have HO_7 := n0_; have HO_8 := n1_; have HB := n2_; clear n0_ n1_ n2_; (try clear hb); (try clear hb2); (try clear hk); (try clear hi)) | ((with_reducible refine gate_dst (N := 63) rfl ?_); (try (refine gate_guard (by rfl) ?_; dsimp only)); (with_reducible refine gate_callee (f := 15) rfl ?_); refine goesL_ (some 63) rfl rfl Tryd.func15 (by kernel_rfl) rfl #[.slice Ao48 x8_2.length co48] rfl (by (try simp only [List.map_toArray, List.map_cons, List.map_nil]); first | done | rfl | (simp only [List.length_drop, List.length_take]; rfl)) ?_; (with_reducible refine (carrefourlaw7_join.calls k2 _ _ x8_2 t183 _ ?side1 ?side2 A36.out).mono ?_); (case side1 => repeat (first | exact (Kd.R_reads' HO_8.out).2.2 | (with_reducible refine Kd.C_alloc ?_ _) | (with_reducible refine Kd.C_drewN ?_ _) | (with_reducible refine Kd.C_drew ?_))); (case side2 => exact (Kd.R_reads' HO_8.out).2.1); rintro e w' ⟨rfl, ⟨nd, rfl⟩⟩; refine ⟨_, rfl, ?_⟩) | ((with_reducible refine gate_dst (N := 64) rfl ?_); (try (refine gate_guard (by rfl) ?_; dsimp only)); (with_reducible refine gate_callee (f := 13) rfl ?_); refine goesL_ (some 64) rfl rfl Tryd.func13 (by kernel_rfl) rfl #[.string (⟨#[35]⟩ : ByteArray), .string t183] rfl (by (try simp only [List.map_toArray, List.map_cons, List.map_nil]); first | done | rfl | (simp only [List.length_drop, List.length_take]; rfl)) ?_; (with_reducible refine (topic_Match.calls k2 (⟨#[35]⟩ : ByteArray) t183 false _ ?side1 A37.out).mono ?_); (case side1 => exact Gl.below HGL.out (by repeat (first | (with_reducible first | exact HB.out | apply below_alloc | apply pw_below_drewN | apply below_drew1) | exact HB.out))); rintro e w50 ⟨rfl, hb⟩; refine ⟨_, rfl, ?_⟩; have n0_ := Aside0.mk (Kd.R_below (by (with_reducible repeat (first | apply Kd.R_alloc | apply Kd.R_drewN | apply Kd.R_drew)); exact HO_7.out) hb); have n1_ := Aside0.mk (Kd.R_below (by (with_reducible repeat (first | apply Kd.R_alloc | apply Kd.R_drewN | apply Kd.R_drew)); exact HO_8.out) hb); have n2_ := Aside0.mk (below_step (by repeat (first | (with_reducible first | exact HB.out | apply below_alloc | apply pw_below_drewN | apply below_drew1) | exact HB.out)) hb); clear HO_7; clear HO_8; clear HB; have HO_7 := n0_; have HO_8 := n1_; have HB := n2_; clear n0_ n1_ n2_; (try clear hb); (try clear hb2); (try clear hk); (try clear hi)))
              go_ret
              exact ⟨by first | rfl | (simp [errW_none, errW_some] <;> rfl) | (simp [*, errW_none, errW_some] <;> rfl), by repeat (first | (with_reducible first | exact HB.out | apply below_alloc | apply pw_below_drewN | apply below_drew1) | exact HB.out)⟩
          ·rw [if_neg c14] at H
           have c14b0 : decide ((wrap64 (1 + (wrap64 (Int.tmod (IntKind.u64.wrap (a0)) 24)))) ≤ 20) = false := decide_eq_false c14
           clear c14
           rw [HRT.out] at H
           exact absurd H (by (repeat' split) <;> simp [Option.bind_eq_some_iff])
         ·replace c13 := Bool.eq_false_iff.mpr c13
          subst c13
          have H1 : (if (wrap64 (1 + (wrap64 (Int.tmod (IntKind.u64.wrap (a0)) 24)))) ≤ 20 then (some false) else ((carrefourlaw7_join.f k2 x7_1).bind fun t185 => ((carrefourlaw7_join.f k2 x8_2).bind fun t186 => ((topic_Match.f k2 t185 t186).bind fun t187 => (if (wrap64 (1 + (wrap64 (Int.tmod (IntKind.u64.wrap (a0)) 24)))) = (wrap64 (1 + (wrap64 (Int.tmod (IntKind.u64.wrap (a1)) 24)))) then (if t187 = true then (some false) else ((carrefourlaw7_join.f k2 x8_2).bind fun t188 => ((topic_Match.f k2 (⟨#[35]⟩ : ByteArray) t188).bind fun t189 => (if t189 = true then (some (decide ((wrap64 (1 + (wrap64 (Int.tmod (IntKind.u64.wrap (a1)) 24)))) ≤ 20))) else (some (!(decide ((wrap64 (1 + (wrap64 (Int.tmod (IntKind.u64.wrap (a1)) 24)))) ≤ 20)))))))) else (if t187 = true then (some false) else ((carrefourlaw7_join.f k2 x8_2).bind fun t190 => ((topic_Match.f k2 (⟨#[35]⟩ : ByteArray) t190).bind fun t191 => (if t191 = true then (some (decide ((wrap64 (1 + (wrap64 (Int.tmod (IntKind.u64.wrap (a1)) 24)))) ≤ 20))) else (some (!(decide ((wrap64 (1 + (wrap64 (Int.tmod (IntKind.u64.wrap (a1)) 24)))) ≤ 20))))))))))))) = some r := by rw [if_neg (show ¬ (false = true) by decide)] at H; exact H
          clear H
          have H := H1
          clear H1
          by_cases c51 : (wrap64 (1 + (wrap64 (Int.tmod (IntKind.u64.wrap (a0)) 24)))) ≤ 20
          ·rw [if_pos c51] at H
           have c51b0 : decide ((wrap64 (1 + (wrap64 (Int.tmod (IntKind.u64.wrap (a0)) 24)))) ≤ 20) = true := decide_eq_true c51
           clear c51
           rw [HRT.out] at H
           exact absurd H (by (repeat' split) <;> simp [Option.bind_eq_some_iff])
          ·rw [if_neg c51] at H
           have c51b0 : decide ((wrap64 (1 + (wrap64 (Int.tmod (IntKind.u64.wrap (a0)) 24)))) ≤ 20) = false := decide_eq_false c51
           clear c51
           replace H := Option.bind_eq_some_iff.mp H
           obtain ⟨t185, A520, H⟩ := H
           replace H : ((carrefourlaw7_join.f k2 x8_2).bind fun t186 => ((topic_Match.f k2 t185 t186).bind fun t187 => (if (wrap64 (1 + (wrap64 (Int.tmod (IntKind.u64.wrap (a0)) 24)))) = (wrap64 (1 + (wrap64 (Int.tmod (IntKind.u64.wrap (a1)) 24)))) then (if t187 = true then (some false) else ((carrefourlaw7_join.f k2 x8_2).bind fun t188 => ((topic_Match.f k2 (⟨#[35]⟩ : ByteArray) t188).bind fun t189 => (if t189 = true then (some (decide ((wrap64 (1 + (wrap64 (Int.tmod (IntKind.u64.wrap (a1)) 24)))) ≤ 20))) else (some (!(decide ((wrap64 (1 + (wrap64 (Int.tmod (IntKind.u64.wrap (a1)) 24)))) ≤ 20)))))))) else (if t187 = true then (some false) else ((carrefourlaw7_join.f k2 x8_2).bind fun t190 => ((topic_Match.f k2 (⟨#[35]⟩ : ByteArray) t190).bind fun t191 => (if t191 = true then (some (decide ((wrap64 (1 + (wrap64 (Int.tmod (IntKind.u64.wrap (a1)) 24)))) ≤ 20))) else (some (!(decide ((wrap64 (1 + (wrap64 (Int.tmod (IntKind.u64.wrap (a1)) 24)))) ≤ 20))))))))))) = some r := H
           have A52 := Aside0.mk A520
           clear A520
           replace H := Option.bind_eq_some_iff.mp H
           obtain ⟨t186, A530, H⟩ := H
           replace H : ((topic_Match.f k2 t185 t186).bind fun t187 => (if (wrap64 (1 + (wrap64 (Int.tmod (IntKind.u64.wrap (a0)) 24)))) = (wrap64 (1 + (wrap64 (Int.tmod (IntKind.u64.wrap (a1)) 24)))) then (if t187 = true then (some false) else ((carrefourlaw7_join.f k2 x8_2).bind fun t188 => ((topic_Match.f k2 (⟨#[35]⟩ : ByteArray) t188).bind fun t189 => (if t189 = true then (some (decide ((wrap64 (1 + (wrap64 (Int.tmod (IntKind.u64.wrap (a1)) 24)))) ≤ 20))) else (some (!(decide ((wrap64 (1 + (wrap64 (Int.tmod (IntKind.u64.wrap (a1)) 24)))) ≤ 20)))))))) else (if t187 = true then (some false) else ((carrefourlaw7_join.f k2 x8_2).bind fun t190 => ((topic_Match.f k2 (⟨#[35]⟩ : ByteArray) t190).bind fun t191 => (if t191 = true then (some (decide ((wrap64 (1 + (wrap64 (Int.tmod (IntKind.u64.wrap (a1)) 24)))) ≤ 20))) else (some (!(decide ((wrap64 (1 + (wrap64 (Int.tmod (IntKind.u64.wrap (a1)) 24)))) ≤ 20)))))))))) = some r := H
           have A53 := Aside0.mk A530
           clear A530
           replace H := Option.bind_eq_some_iff.mp H
           obtain ⟨t187, A540, H⟩ := H
           replace H : (if (wrap64 (1 + (wrap64 (Int.tmod (IntKind.u64.wrap (a0)) 24)))) = (wrap64 (1 + (wrap64 (Int.tmod (IntKind.u64.wrap (a1)) 24)))) then (if t187 = true then (some false) else ((carrefourlaw7_join.f k2 x8_2).bind fun t188 => ((topic_Match.f k2 (⟨#[35]⟩ : ByteArray) t188).bind fun t189 => (if t189 = true then (some (decide ((wrap64 (1 + (wrap64 (Int.tmod (IntKind.u64.wrap (a1)) 24)))) ≤ 20))) else (some (!(decide ((wrap64 (1 + (wrap64 (Int.tmod (IntKind.u64.wrap (a1)) 24)))) ≤ 20)))))))) else (if t187 = true then (some false) else ((carrefourlaw7_join.f k2 x8_2).bind fun t190 => ((topic_Match.f k2 (⟨#[35]⟩ : ByteArray) t190).bind fun t191 => (if t191 = true then (some (decide ((wrap64 (1 + (wrap64 (Int.tmod (IntKind.u64.wrap (a1)) 24)))) ≤ 20))) else (some (!(decide ((wrap64 (1 + (wrap64 (Int.tmod (IntKind.u64.wrap (a1)) 24)))) ≤ 20))))))))) = some r := H
           have A54 := Aside0.mk A540
           clear A540
           by_cases c55 : (wrap64 (1 + (wrap64 (Int.tmod (IntKind.u64.wrap (a0)) 24)))) = (wrap64 (1 + (wrap64 (Int.tmod (IntKind.u64.wrap (a1)) 24))))
           ·rw [if_pos c55] at H
            have c55b0 : ((wrap64 (1 + (wrap64 (Int.tmod (IntKind.u64.wrap (a0)) 24)))) == (wrap64 (1 + (wrap64 (Int.tmod (IntKind.u64.wrap (a1)) 24))))) = true := beq_iff_eq.mpr c55
            have c55b1 : ((wrap64 (1 + (wrap64 (Int.tmod (IntKind.u64.wrap (a0)) 24)))) != (wrap64 (1 + (wrap64 (Int.tmod (IntKind.u64.wrap (a1)) 24))))) = false := bne_eq_false_iff_eq.mpr c55
            clear c55
            by_cases c56 : t187 = true
            ·subst c56
             have H1 : (some false) = some r := by rw [if_pos rfl] at H; exact H
             clear H
             have H := H1
             clear H1
             rw [HRT.out] at H
             exact absurd H (by (repeat' split) <;> simp [Option.bind_eq_some_iff])
            ·replace c56 := Bool.eq_false_iff.mpr c56
             subst c56
             have H1 : ((carrefourlaw7_join.f k2 x8_2).bind fun t188 => ((topic_Match.f k2 (⟨#[35]⟩ : ByteArray) t188).bind fun t189 => (if t189 = true then (some (decide ((wrap64 (1 + (wrap64 (Int.tmod (IntKind.u64.wrap (a1)) 24)))) ≤ 20))) else (some (!(decide ((wrap64 (1 + (wrap64 (Int.tmod (IntKind.u64.wrap (a1)) 24)))) ≤ 20))))))) = some r := by rw [if_neg (show ¬ (false = true) by decide)] at H; exact H
             clear H
             have H := H1
             clear H1
             replace H := Option.bind_eq_some_iff.mp H
             obtain ⟨t188, A570, H⟩ := H
             replace H : ((topic_Match.f k2 (⟨#[35]⟩ : ByteArray) t188).bind fun t189 => (if t189 = true then (some (decide ((wrap64 (1 + (wrap64 (Int.tmod (IntKind.u64.wrap (a1)) 24)))) ≤ 20))) else (some (!(decide ((wrap64 (1 + (wrap64 (Int.tmod (IntKind.u64.wrap (a1)) 24)))) ≤ 20)))))) = some r := H
             have A57 := Aside0.mk A570
             clear A570
             replace H := Option.bind_eq_some_iff.mp H
             obtain ⟨t189, A580, H⟩ := H
             replace H : (if t189 = true then (some (decide ((wrap64 (1 + (wrap64 (Int.tmod (IntKind.u64.wrap (a1)) 24)))) ≤ 20))) else (some (!(decide ((wrap64 (1 + (wrap64 (Int.tmod (IntKind.u64.wrap (a1)) 24)))) ≤ 20))))) = some r := H
             have A58 := Aside0.mk A580
             clear A580
             by_cases c59 : t189 = true
             ·subst c59
              have H1 : (some (decide ((wrap64 (1 + (wrap64 (Int.tmod (IntKind.u64.wrap (a1)) 24)))) ≤ 20))) = some r := by rw [if_pos rfl] at H; exact H
              clear H
              have H := H1
              clear H1
              clear HRT
              obtain rfl := Option.some.inj H
              go_wp2_with (first | ((with_reducible refine gate_callee (f := 8) rfl ?_); refine goesL_ (some 37) rfl rfl Tryd.func8 (by kernel_rfl) rfl #[] rfl (by (try simp only [List.map_toArray, List.map_cons, List.map_nil]); first | done | rfl | (simp only [List.length_drop, List.length_take]; rfl)) ?_; (with_reducible refine (carrefourlaw7_told.calls k2  true _ ?side1 A9.out).mono ?_); (case side1 => exact Gl.below HGL.out (by repeat (first | (with_reducible first | exact HB.out | apply below_alloc | apply pw_below_drewN | apply below_drew1) | exact HB.out))); rintro e w60 ⟨rfl, hb⟩; refine ⟨_, rfl, ?_⟩; have n0_ := Aside0.mk (Kd.R_below (by (with_reducible repeat (first | apply Kd.R_alloc | apply Kd.R_drewN | apply Kd.R_drew)); exact HO_7.out) hb); have n1_ := Aside0.mk (Kd.R_below (by (with_reducible repeat (first | apply Kd.R_alloc | apply Kd.R_drewN | apply Kd.R_drew)); exact HO_8.out) hb); have n2_ := Aside0.mk (below_step (by repeat (first | (with_reducible first | exact HB.out | apply below_alloc | apply pw_below_drewN | apply below_drew1) | exact HB.out)) hb); clear HO_7; clear HO_8; clear HB; have HO_7 := n0_; have HO_8 := n1_; have HB := n2_; clear n0_ n1_ n2_; (try clear hb); (try clear hb2); (try clear hk); (try clear hi); obtain ⟨Ao61, co61, eo61⟩ := Kd.R_slice HO_7.out; subst eo61) | ((with_reducible refine gate_dst (N := 40) rfl ?_); (try (refine gate_guard (by rfl) ?_; dsimp only)); (with_reducible refine gate_callee (f := 15) rfl ?_); refine goesL_ (some 40) rfl rfl Tryd.func15 (by kernel_rfl) rfl #[.slice Ao61 x7_1.length co61] rfl (by (try simp only [List.map_toArray, List.map_cons, List.map_nil]); first | done | rfl | (simp only [List.length_drop, List.length_take]; rfl)) ?_; (with_reducible refine (carrefourlaw7_join.calls k2 _ _ x7_1 t176 _ ?side1 ?side2 A11.out).mono ?_); (case side1 => repeat (first | exact (Kd.R_reads' HO_7.out).2.2 | (with_reducible refine Kd.C_alloc ?_ _) | (with_reducible refine Kd.C_drewN ?_ _) | (with_reducible refine Kd.C_drew ?_))); (case side2 => exact (Kd.R_reads' HO_7.out).2.1); rintro e w' ⟨rfl, ⟨nd, rfl⟩⟩; refine ⟨_, rfl, ?_⟩) | ((with_reducible refine gate_dst (N := 41) rfl ?_); (try (refine gate_guard (by rfl) ?_; dsimp only)); (with_reducible refine gate_callee (f := 11) rfl ?_); refine goesL_ (some 41) rfl rfl Tryd.func11 (by kernel_rfl) rfl #[.string t176] rfl (by (try simp only [List.map_toArray, List.map_cons, List.map_nil]); first | done | rfl | (simp only [List.length_drop, List.length_take]; rfl)) ?_; (with_reducible refine (topic_May.calls k2 t176 false _ ?side1 A12.out).mono ?_); (case side1 => exact Gl.below HGL.out (by repeat (first | (with_reducible first | exact HB.out | apply below_alloc | apply pw_below_drewN | apply below_drew1) | exact HB.out))); rintro e w62 ⟨rfl, hb⟩; refine ⟨_, rfl, ?_⟩; have n0_ := Aside0.mk (Kd.R_below (by (with_reducible repeat (first | apply Kd.R_alloc | apply Kd.R_drewN | apply Kd.R_drew)); exact HO_7.out) hb); have n1_ := Aside0.mk (Kd.R_below (by (with_reducible repeat (first | apply Kd.R_alloc | apply Kd.R_drewN | apply Kd.R_drew)); exact HO_8.out) hb); have n2_ := Aside0.mk (below_step (by repeat (first | (with_reducible first | exact HB.out | apply below_alloc | apply pw_below_drewN | apply below_drew1) | exact HB.out)) hb); clear HO_7; clear HO_8; clear HB; have HO_7 := n0_; have HO_8 := n1_; have HB := n2_; clear n0_ n1_ n2_; (try clear hb); (try clear hb2); (try clear hk); (try clear hi)) | ((with_reducible refine gate_dst (N := 48) rfl ?_); (try (refine gate_guard (by rfl) ?_; dsimp only)); (with_reducible refine gate_callee (f := 15) rfl ?_); refine goesL_ (some 48) rfl rfl Tryd.func15 (by kernel_rfl) rfl #[.slice Ao61 x7_1.length co61] rfl (by (try simp only [List.map_toArray, List.map_cons, List.map_nil]); first | done | rfl | (simp only [List.length_drop, List.length_take]; rfl)) ?_; (with_reducible refine (carrefourlaw7_join.calls k2 _ _ x7_1 t185 _ ?side1 ?side2 A52.out).mono ?_); (case side1 => repeat (first | exact (Kd.R_reads' HO_7.out).2.2 | (with_reducible refine Kd.C_alloc ?_ _) | (with_reducible refine Kd.C_drewN ?_ _) | (with_reducible refine Kd.C_drew ?_))); (case side2 => exact (Kd.R_reads' HO_7.out).2.1); rintro e w' ⟨rfl, ⟨nd, rfl⟩⟩; refine ⟨_, rfl, ?_⟩; obtain ⟨Ao63, co63, eo63⟩ := Kd.R_slice HO_8.out; subst eo63) | ((with_reducible refine gate_dst (N := 50) rfl ?_); (try (refine gate_guard (by rfl) ?_; dsimp only)); (with_reducible refine gate_callee (f := 15) rfl ?_); refine goesL_ (some 50) rfl rfl Tryd.func15 (by kernel_rfl) rfl #[.slice Ao63 x8_2.length co63] rfl (by (try simp only [List.map_toArray, List.map_cons, List.map_nil]); first | done | rfl | (simp only [List.length_drop, List.length_take]; rfl)) ?_; (with_reducible refine (carrefourlaw7_join.calls k2 _ _ x8_2 t186 _ ?side1 ?side2 A53.out).mono ?_); (case side1 => repeat (first | exact (Kd.R_reads' HO_8.out).2.2 | (with_reducible refine Kd.C_alloc ?_ _) | (with_reducible refine Kd.C_drewN ?_ _) | (with_reducible refine Kd.C_drew ?_))); (case side2 => exact (Kd.R_reads' HO_8.out).2.1); rintro e w' ⟨rfl, ⟨nd, rfl⟩⟩; refine ⟨_, rfl, ?_⟩) | ((with_reducible refine gate_dst (N := 51) rfl ?_); (try (refine gate_guard (by rfl) ?_; dsimp only)); (with_reducible refine gate_callee (f := 13) rfl ?_); refine goesL_ (some 51) rfl rfl Tryd.func13 (by kernel_rfl) rfl #[.string t185, .string t186] rfl (by (try simp only [List.map_toArray, List.map_cons, List.map_nil]); first | done | rfl | (simp only [List.length_drop, List.length_take]; rfl)) ?_; (with_reducible refine (topic_Match.calls k2 t185 t186 false _ ?side1 A54.out).mono ?_); (case side1 => exact Gl.below HGL.out (by repeat (first | (with_reducible first | exact HB.out | apply below_alloc | apply pw_below_drewN | apply below_drew1) | exact HB.out))); rintro e w64 ⟨rfl, hb⟩; refine ⟨_, rfl, ?_⟩; have n0_ := Aside0.mk (Kd.R_below (by (with_reducible repeat (first | apply Kd.R_alloc | apply Kd.R_drewN | apply Kd.R_drew)); exact HO_7.out) hb); have n1_ := Aside0.mk (Kd.R_below (by (with_reducible repeat (first | apply Kd.R_alloc | apply Kd.R_drewN | apply Kd.R_drew)); exact HO_8.out) hb); have n2_ := Aside0.mk (below_step (by repeat (first | (with_reducible first | exact HB.out | apply below_alloc | apply pw_below_drewN | apply below_drew1) | exact HB.out)) hb); clear HO_7; clear HO_8; clear HB; have HO_7 := n0_; have HO_8 := n1_; have HB := n2_; clear n0_ n1_ n2_; (try clear hb); (try clear hb2); (try clear hk); (try clear hi)) | ((with_reducible refine gate_dst (N := 63) rfl ?_); (try (refine gate_guard (by rfl) ?_; dsimp only)); (with_reducible refine gate_callee (f := 15) rfl ?_); refine goesL_ (some 63) rfl rfl Tryd.func15 (by kernel_rfl) rfl #[.slice Ao63 x8_2.length co63] rfl (by (try simp only [List.map_toArray, List.map_cons, List.map_nil]); first | done | rfl | (simp only [List.length_drop, List.length_take]; rfl)) ?_; (with_reducible refine (carrefourlaw7_join.calls k2 _ _ x8_2 t188 _ ?side1 ?side2 A57.out).mono ?_); (case side1 => repeat (first | exact (Kd.R_reads' HO_8.out).2.2 | (with_reducible refine Kd.C_alloc ?_ _) | (with_reducible refine Kd.C_drewN ?_ _) | (with_reducible refine Kd.C_drew ?_))); (case side2 => exact (Kd.R_reads' HO_8.out).2.1); rintro e w' ⟨rfl, ⟨nd, rfl⟩⟩; refine ⟨_, rfl, ?_⟩) | ((with_reducible refine gate_dst (N := 64) rfl ?_); (try (refine gate_guard (by rfl) ?_; dsimp only)); (with_reducible refine gate_callee (f := 13) rfl ?_); refine goesL_ (some 64) rfl rfl Tryd.func13 (by kernel_rfl) rfl #[.string (⟨#[35]⟩ : ByteArray), .string t188] rfl (by (try simp only [List.map_toArray, List.map_cons, List.map_nil]); first | done | rfl | (simp only [List.length_drop, List.length_take]; rfl)) ?_; (with_reducible refine (topic_Match.calls k2 (⟨#[35]⟩ : ByteArray) t188 true _ ?side1 A58.out).mono ?_); (case side1 => exact Gl.below HGL.out (by repeat (first | (with_reducible first | exact HB.out | apply below_alloc | apply pw_below_drewN | apply below_drew1) | exact HB.out))); rintro e w65 ⟨rfl, hb⟩; refine ⟨_, rfl, ?_⟩; have n0_ := Aside0.mk (Kd.R_below (by (with_reducible repeat (first | apply Kd.R_alloc | apply Kd.R_drewN | apply Kd.R_drew)); exact HO_7.out) hb); have n1_ := Aside0.mk (Kd.R_below (by (with_reducible repeat (first | apply Kd.R_alloc | apply Kd.R_drewN | apply Kd.R_drew)); exact HO_8.out) hb); have n2_ := Aside0.mk (below_step (by repeat (first | (with_reducible first | exact HB.out | apply below_alloc | apply pw_below_drewN | apply below_drew1) | exact HB.out)) hb); clear HO_7; clear HO_8; clear HB; have HO_7 := n0_; have HO_8 := n1_; have HB := n2_; clear n0_ n1_ n2_; (try clear hb); (try clear hb2); (try clear hk); (try clear hi)))
              go_ret
              exact ⟨by first | rfl | (simp [errW_none, errW_some] <;> rfl) | (simp [*, errW_none, errW_some] <;> rfl), by repeat (first | (with_reducible first | exact HB.out | apply below_alloc | apply pw_below_drewN | apply below_drew1) | exact HB.out)⟩
             ·replace c59 := Bool.eq_false_iff.mpr c59
              subst c59
              have H1 : (some (!(decide ((wrap64 (1 + (wrap64 (Int.tmod (IntKind.u64.wrap (a1)) 24)))) ≤ 20)))) = some r := by rw [if_neg (show ¬ (false = true) by decide)] at H; exact H
              clear H
              have H := H1
              clear H1
              clear HRT
              obtain rfl := Option.some.inj H
              go_wp2_with (first | ((with_reducible refine gate_callee (f := 8) rfl ?_); refine goesL_ (some 37) rfl rfl Tryd.func8 (by kernel_rfl) rfl #[] rfl (by (try simp only [List.map_toArray, List.map_cons, List.map_nil]); first | done | rfl | (simp only [List.length_drop, List.length_take]; rfl)) ?_; (with_reducible refine (carrefourlaw7_told.calls k2  true _ ?side1 A9.out).mono ?_); (case side1 => exact Gl.below HGL.out (by repeat (first | (with_reducible first | exact HB.out | apply below_alloc | apply pw_below_drewN | apply below_drew1) | exact HB.out))); rintro e w66 ⟨rfl, hb⟩; refine ⟨_, rfl, ?_⟩; have n0_ := Aside0.mk (Kd.R_below (by (with_reducible repeat (first | apply Kd.R_alloc | apply Kd.R_drewN | apply Kd.R_drew)); exact HO_7.out) hb); have n1_ := Aside0.mk (Kd.R_below (by (with_reducible repeat (first | apply Kd.R_alloc | apply Kd.R_drewN | apply Kd.R_drew)); exact HO_8.out) hb); have n2_ := Aside0.mk (below_step (by repeat (first | (with_reducible first | exact HB.out | apply below_alloc | apply pw_below_drewN | apply below_drew1) | exact HB.out)) hb); clear HO_7; clear HO_8; clear HB; have HO_7 := n0_; have HO_8 := n1_; have HB := n2_; clear n0_ n1_ n2_; (try clear hb); (try clear hb2); (try clear hk); (try clear hi); obtain ⟨Ao67, co67, eo67⟩ := Kd.R_slice HO_7.out; subst eo67) | ((with_reducible refine gate_dst (N := 40) rfl ?_); (try (refine gate_guard (by rfl) ?_; dsimp only)); (with_reducible refine gate_callee (f := 15) rfl ?_); refine goesL_ (some 40) rfl rfl Tryd.func15 (by kernel_rfl) rfl #[.slice Ao67 x7_1.length co67] rfl (by (try simp only [List.map_toArray, List.map_cons, List.map_nil]); first | done | rfl | (simp only [List.length_drop, List.length_take]; rfl)) ?_; (with_reducible refine (carrefourlaw7_join.calls k2 _ _ x7_1 t176 _ ?side1 ?side2 A11.out).mono ?_); (case side1 => repeat (first | exact (Kd.R_reads' HO_7.out).2.2 | (with_reducible refine Kd.C_alloc ?_ _) | (with_reducible refine Kd.C_drewN ?_ _) | (with_reducible refine Kd.C_drew ?_))); (case side2 => exact (Kd.R_reads' HO_7.out).2.1); rintro e w' ⟨rfl, ⟨nd, rfl⟩⟩; refine ⟨_, rfl, ?_⟩) | ((with_reducible refine gate_dst (N := 41) rfl ?_); (try (refine gate_guard (by rfl) ?_; dsimp only)); (with_reducible refine gate_callee (f := 11) rfl ?_); refine goesL_ (some 41) rfl rfl Tryd.func11 (by kernel_rfl) rfl #[.string t176] rfl (by (try simp only [List.map_toArray, List.map_cons, List.map_nil]); first | done | rfl | (simp only [List.length_drop, List.length_take]; rfl)) ?_; (with_reducible refine (topic_May.calls k2 t176 false _ ?side1 A12.out).mono ?_); (case side1 => exact Gl.below HGL.out (by repeat (first | (with_reducible first | exact HB.out | apply below_alloc | apply pw_below_drewN | apply below_drew1) | exact HB.out))); rintro e w68 ⟨rfl, hb⟩; refine ⟨_, rfl, ?_⟩; have n0_ := Aside0.mk (Kd.R_below (by (with_reducible repeat (first | apply Kd.R_alloc | apply Kd.R_drewN | apply Kd.R_drew)); exact HO_7.out) hb); have n1_ := Aside0.mk (Kd.R_below (by (with_reducible repeat (first | apply Kd.R_alloc | apply Kd.R_drewN | apply Kd.R_drew)); exact HO_8.out) hb); have n2_ := Aside0.mk (below_step (by repeat (first | (with_reducible first | exact HB.out | apply below_alloc | apply pw_below_drewN | apply below_drew1) | exact HB.out)) hb); clear HO_7; clear HO_8; clear HB; have HO_7 := n0_; have HO_8 := n1_; have HB := n2_; clear n0_ n1_ n2_; (try clear hb); (try clear hb2); (try clear hk); (try clear hi)) | ((with_reducible refine gate_dst (N := 48) rfl ?_); (try (refine gate_guard (by rfl) ?_; dsimp only)); (with_reducible refine gate_callee (f := 15) rfl ?_); refine goesL_ (some 48) rfl rfl Tryd.func15 (by kernel_rfl) rfl #[.slice Ao67 x7_1.length co67] rfl (by (try simp only [List.map_toArray, List.map_cons, List.map_nil]); first | done | rfl | (simp only [List.length_drop, List.length_take]; rfl)) ?_; (with_reducible refine (carrefourlaw7_join.calls k2 _ _ x7_1 t185 _ ?side1 ?side2 A52.out).mono ?_); (case side1 => repeat (first | exact (Kd.R_reads' HO_7.out).2.2 | (with_reducible refine Kd.C_alloc ?_ _) | (with_reducible refine Kd.C_drewN ?_ _) | (with_reducible refine Kd.C_drew ?_))); (case side2 => exact (Kd.R_reads' HO_7.out).2.1); rintro e w' ⟨rfl, ⟨nd, rfl⟩⟩; refine ⟨_, rfl, ?_⟩; obtain ⟨Ao69, co69, eo69⟩ := Kd.R_slice HO_8.out; subst eo69) | ((with_reducible refine gate_dst (N := 50) rfl ?_); (try (refine gate_guard (by rfl) ?_; dsimp only)); (with_reducible refine gate_callee (f := 15) rfl ?_); refine goesL_ (some 50) rfl rfl Tryd.func15 (by kernel_rfl) rfl #[.slice Ao69 x8_2.length co69] rfl (by (try simp only [List.map_toArray, List.map_cons, List.map_nil]); first | done | rfl | (simp only [List.length_drop, List.length_take]; rfl)) ?_; (with_reducible refine (carrefourlaw7_join.calls k2 _ _ x8_2 t186 _ ?side1 ?side2 A53.out).mono ?_); (case side1 => repeat (first | exact (Kd.R_reads' HO_8.out).2.2 | (with_reducible refine Kd.C_alloc ?_ _) | (with_reducible refine Kd.C_drewN ?_ _) | (with_reducible refine Kd.C_drew ?_))); (case side2 => exact (Kd.R_reads' HO_8.out).2.1); rintro e w' ⟨rfl, ⟨nd, rfl⟩⟩; refine ⟨_, rfl, ?_⟩) | ((with_reducible refine gate_dst (N := 51) rfl ?_); (try (refine gate_guard (by rfl) ?_; dsimp only)); (with_reducible refine gate_callee (f := 13) rfl ?_); refine goesL_ (some 51) rfl rfl Tryd.func13 (by kernel_rfl) rfl #[.string t185, .string t186] rfl (by (try simp only [List.map_toArray, List.map_cons, List.map_nil]); first | done | rfl | (simp only [List.length_drop, List.length_take]; rfl)) ?_; (with_reducible refine (topic_Match.calls k2 t185 t186 false _ ?side1 A54.out).mono ?_); (case side1 => exact Gl.below HGL.out (by repeat (first | (with_reducible first | exact HB.out | apply below_alloc | apply pw_below_drewN | apply below_drew1) | exact HB.out))); rintro e w70 ⟨rfl, hb⟩; refine ⟨_, rfl, ?_⟩; have n0_ := Aside0.mk (Kd.R_below (by (with_reducible repeat (first | apply Kd.R_alloc | apply Kd.R_drewN | apply Kd.R_drew)); exact HO_7.out) hb); have n1_ := Aside0.mk (Kd.R_below (by (with_reducible repeat (first | apply Kd.R_alloc | apply Kd.R_drewN | apply Kd.R_drew)); exact HO_8.out) hb); have n2_ := Aside0.mk (below_step (by repeat (first | (with_reducible first | exact HB.out | apply below_alloc | apply pw_below_drewN | apply below_drew1) | exact HB.out)) hb); clear HO_7; clear HO_8; clear HB; have HO_7 := n0_; have HO_8 := n1_; have HB := n2_; clear n0_ n1_ n2_; (try clear hb); (try clear hb2); (try clear hk); (try clear hi)) | ((with_reducible refine gate_dst (N := 63) rfl ?_); (try (refine gate_guard (by rfl) ?_; dsimp only)); (with_reducible refine gate_callee (f := 15) rfl ?_); refine goesL_ (some 63) rfl rfl Tryd.func15 (by kernel_rfl) rfl #[.slice Ao69 x8_2.length co69] rfl (by (try simp only [List.map_toArray, List.map_cons, List.map_nil]); first | done | rfl | (simp only [List.length_drop, List.length_take]; rfl)) ?_; (with_reducible refine (carrefourlaw7_join.calls k2 _ _ x8_2 t188 _ ?side1 ?side2 A57.out).mono ?_); (case side1 => repeat (first | exact (Kd.R_reads' HO_8.out).2.2 | (with_reducible refine Kd.C_alloc ?_ _) | (with_reducible refine Kd.C_drewN ?_ _) | (with_reducible refine Kd.C_drew ?_))); (case side2 => exact (Kd.R_reads' HO_8.out).2.1); rintro e w' ⟨rfl, ⟨nd, rfl⟩⟩; refine ⟨_, rfl, ?_⟩) | ((with_reducible refine gate_dst (N := 64) rfl ?_); (try (refine gate_guard (by rfl) ?_; dsimp only)); (with_reducible refine gate_callee (f := 13) rfl ?_); refine goesL_ (some 64) rfl rfl Tryd.func13 (by kernel_rfl) rfl #[.string (⟨#[35]⟩ : ByteArray), .string t188] rfl (by (try simp only [List.map_toArray, List.map_cons, List.map_nil]); first | done | rfl | (simp only [List.length_drop, List.length_take]; rfl)) ?_; (with_reducible refine (topic_Match.calls k2 (⟨#[35]⟩ : ByteArray) t188 false _ ?side1 A58.out).mono ?_); (case side1 => exact Gl.below HGL.out (by repeat (first | (with_reducible first | exact HB.out | apply below_alloc | apply pw_below_drewN | apply below_drew1) | exact HB.out))); rintro e w71 ⟨rfl, hb⟩; refine ⟨_, rfl, ?_⟩; have n0_ := Aside0.mk (Kd.R_below (by (with_reducible repeat (first | apply Kd.R_alloc | apply Kd.R_drewN | apply Kd.R_drew)); exact HO_7.out) hb); have n1_ := Aside0.mk (Kd.R_below (by (with_reducible repeat (first | apply Kd.R_alloc | apply Kd.R_drewN | apply Kd.R_drew)); exact HO_8.out) hb); have n2_ := Aside0.mk (below_step (by repeat (first | (with_reducible first | exact HB.out | apply below_alloc | apply pw_below_drewN | apply below_drew1) | exact HB.out)) hb); clear HO_7; clear HO_8; clear HB; have HO_7 := n0_; have HO_8 := n1_; have HB := n2_; clear n0_ n1_ n2_; (try clear hb); (try clear hb2); (try clear hk); (try clear hi)))
              go_ret
              exact ⟨by first | rfl | (simp [errW_none, errW_some] <;> rfl) | (simp [*, errW_none, errW_some] <;> rfl), by repeat (first | (with_reducible first | exact HB.out | apply below_alloc | apply pw_below_drewN | apply below_drew1) | exact HB.out)⟩
           ·rw [if_neg c55] at H
            have c55b0 : ((wrap64 (1 + (wrap64 (Int.tmod (IntKind.u64.wrap (a0)) 24)))) == (wrap64 (1 + (wrap64 (Int.tmod (IntKind.u64.wrap (a1)) 24))))) = false := beq_eq_false_iff_ne.mpr c55
            have c55b1 : ((wrap64 (1 + (wrap64 (Int.tmod (IntKind.u64.wrap (a0)) 24)))) != (wrap64 (1 + (wrap64 (Int.tmod (IntKind.u64.wrap (a1)) 24))))) = true := bne_iff_ne.mpr c55
            by_cases c72 : t187 = true
            ·subst c72
             have H1 : (some false) = some r := by rw [if_pos rfl] at H; exact H
             clear H
             have H := H1
             clear H1
             rw [HRT.out] at H
             exact absurd H (by (repeat' split) <;> simp [Option.bind_eq_some_iff])
            ·replace c72 := Bool.eq_false_iff.mpr c72
             subst c72
             have H1 : ((carrefourlaw7_join.f k2 x8_2).bind fun t190 => ((topic_Match.f k2 (⟨#[35]⟩ : ByteArray) t190).bind fun t191 => (if t191 = true then (some (decide ((wrap64 (1 + (wrap64 (Int.tmod (IntKind.u64.wrap (a1)) 24)))) ≤ 20))) else (some (!(decide ((wrap64 (1 + (wrap64 (Int.tmod (IntKind.u64.wrap (a1)) 24)))) ≤ 20))))))) = some r := by rw [if_neg (show ¬ (false = true) by decide)] at H; exact H
             clear H
             have H := H1
             clear H1
             replace H := Option.bind_eq_some_iff.mp H
             obtain ⟨t190, A730, H⟩ := H
             replace H : ((topic_Match.f k2 (⟨#[35]⟩ : ByteArray) t190).bind fun t191 => (if t191 = true then (some (decide ((wrap64 (1 + (wrap64 (Int.tmod (IntKind.u64.wrap (a1)) 24)))) ≤ 20))) else (some (!(decide ((wrap64 (1 + (wrap64 (Int.tmod (IntKind.u64.wrap (a1)) 24)))) ≤ 20)))))) = some r := H
             have A73 := Aside0.mk A730
             clear A730
             replace H := Option.bind_eq_some_iff.mp H
             obtain ⟨t191, A740, H⟩ := H
             replace H : (if t191 = true then (some (decide ((wrap64 (1 + (wrap64 (Int.tmod (IntKind.u64.wrap (a1)) 24)))) ≤ 20))) else (some (!(decide ((wrap64 (1 + (wrap64 (Int.tmod (IntKind.u64.wrap (a1)) 24)))) ≤ 20))))) = some r := H
             have A74 := Aside0.mk A740
             clear A740
             by_cases c75 : t191 = true
             ·subst c75
              have H1 : (some (decide ((wrap64 (1 + (wrap64 (Int.tmod (IntKind.u64.wrap (a1)) 24)))) ≤ 20))) = some r := by rw [if_pos rfl] at H; exact H
              clear H
              have H := H1
              clear H1
              clear HRT
              obtain rfl := Option.some.inj H
              go_wp2_with (first | ((with_reducible refine gate_callee (f := 8) rfl ?_); refine goesL_ (some 37) rfl rfl Tryd.func8 (by kernel_rfl) rfl #[] rfl (by (try simp only [List.map_toArray, List.map_cons, List.map_nil]); first | done | rfl | (simp only [List.length_drop, List.length_take]; rfl)) ?_; (with_reducible refine (carrefourlaw7_told.calls k2  true _ ?side1 A9.out).mono ?_); (case side1 => exact Gl.below HGL.out (by repeat (first | (with_reducible first | exact HB.out | apply below_alloc | apply pw_below_drewN | apply below_drew1) | exact HB.out))); rintro e w76 ⟨rfl, hb⟩; refine ⟨_, rfl, ?_⟩; have n0_ := Aside0.mk (Kd.R_below (by (with_reducible repeat (first | apply Kd.R_alloc | apply Kd.R_drewN | apply Kd.R_drew)); exact HO_7.out) hb); have n1_ := Aside0.mk (Kd.R_below (by (with_reducible repeat (first | apply Kd.R_alloc | apply Kd.R_drewN | apply Kd.R_drew)); exact HO_8.out) hb); have n2_ := Aside0.mk (below_step (by repeat (first | (with_reducible first | exact HB.out | apply below_alloc | apply pw_below_drewN | apply below_drew1) | exact HB.out)) hb); clear HO_7; clear HO_8; clear HB; have HO_7 := n0_; have HO_8 := n1_; have HB := n2_; clear n0_ n1_ n2_; (try clear hb); (try clear hb2); (try clear hk); (try clear hi); obtain ⟨Ao77, co77, eo77⟩ := Kd.R_slice HO_7.out; subst eo77) | ((with_reducible refine gate_dst (N := 40) rfl ?_); (try (refine gate_guard (by rfl) ?_; dsimp only)); (with_reducible refine gate_callee (f := 15) rfl ?_); refine goesL_ (some 40) rfl rfl Tryd.func15 (by kernel_rfl) rfl #[.slice Ao77 x7_1.length co77] rfl (by (try simp only [List.map_toArray, List.map_cons, List.map_nil]); first | done | rfl | (simp only [List.length_drop, List.length_take]; rfl)) ?_; (with_reducible refine (carrefourlaw7_join.calls k2 _ _ x7_1 t176 _ ?side1 ?side2 A11.out).mono ?_); (case side1 => repeat (first | exact (Kd.R_reads' HO_7.out).2.2 | (with_reducible refine Kd.C_alloc ?_ _) | (with_reducible refine Kd.C_drewN ?_ _) | (with_reducible refine Kd.C_drew ?_))); (case side2 => exact (Kd.R_reads' HO_7.out).2.1); rintro e w' ⟨rfl, ⟨nd, rfl⟩⟩; refine ⟨_, rfl, ?_⟩) | ((with_reducible refine gate_dst (N := 41) rfl ?_); (try (refine gate_guard (by rfl) ?_; dsimp only)); (with_reducible refine gate_callee (f := 11) rfl ?_); refine goesL_ (some 41) rfl rfl Tryd.func11 (by kernel_rfl) rfl #[.string t176] rfl (by (try simp only [List.map_toArray, List.map_cons, List.map_nil]); first | done | rfl | (simp only [List.length_drop, List.length_take]; rfl)) ?_; (with_reducible refine (topic_May.calls k2 t176 false _ ?side1 A12.out).mono ?_); (case side1 => exact Gl.below HGL.out (by repeat (first | (with_reducible first | exact HB.out | apply below_alloc | apply pw_below_drewN | apply below_drew1) | exact HB.out))); rintro e w78 ⟨rfl, hb⟩; refine ⟨_, rfl, ?_⟩; have n0_ := Aside0.mk (Kd.R_below (by (with_reducible repeat (first | apply Kd.R_alloc | apply Kd.R_drewN | apply Kd.R_drew)); exact HO_7.out) hb); have n1_ := Aside0.mk (Kd.R_below (by (with_reducible repeat (first | apply Kd.R_alloc | apply Kd.R_drewN | apply Kd.R_drew)); exact HO_8.out) hb); have n2_ := Aside0.mk (below_step (by repeat (first | (with_reducible first | exact HB.out | apply below_alloc | apply pw_below_drewN | apply below_drew1) | exact HB.out)) hb); clear HO_7; clear HO_8; clear HB; have HO_7 := n0_; have HO_8 := n1_; have HB := n2_; clear n0_ n1_ n2_; (try clear hb); (try clear hb2); (try clear hk); (try clear hi)) | ((with_reducible refine gate_dst (N := 48) rfl ?_); (try (refine gate_guard (by rfl) ?_; dsimp only)); (with_reducible refine gate_callee (f := 15) rfl ?_); refine goesL_ (some 48) rfl rfl Tryd.func15 (by kernel_rfl) rfl #[.slice Ao77 x7_1.length co77] rfl (by (try simp only [List.map_toArray, List.map_cons, List.map_nil]); first | done | rfl | (simp only [List.length_drop, List.length_take]; rfl)) ?_; (with_reducible refine (carrefourlaw7_join.calls k2 _ _ x7_1 t185 _ ?side1 ?side2 A52.out).mono ?_); (case side1 => repeat (first | exact (Kd.R_reads' HO_7.out).2.2 | (with_reducible refine Kd.C_alloc ?_ _) | (with_reducible refine Kd.C_drewN ?_ _) | (with_reducible refine Kd.C_drew ?_))); (case side2 => exact (Kd.R_reads' HO_7.out).2.1); rintro e w' ⟨rfl, ⟨nd, rfl⟩⟩; refine ⟨_, rfl, ?_⟩; obtain ⟨Ao79, co79, eo79⟩ := Kd.R_slice HO_8.out; subst eo79) | ((with_reducible refine gate_dst (N := 50) rfl ?_); (try (refine gate_guard (by rfl) ?_; dsimp only)); (with_reducible refine gate_callee (f := 15) rfl ?_); refine goesL_ (some 50) rfl rfl Tryd.func15 (by kernel_rfl) rfl #[.slice Ao79 x8_2.length co79] rfl (by (try simp only [List.map_toArray, List.map_cons, List.map_nil]); first | done | rfl | (simp only [List.length_drop, List.length_take]; rfl)) ?_; (with_reducible refine (carrefourlaw7_join.calls k2 _ _ x8_2 t186 _ ?side1 ?side2 A53.out).mono ?_); (case side1 => repeat (first | exact (Kd.R_reads' HO_8.out).2.2 | (with_reducible refine Kd.C_alloc ?_ _) | (with_reducible refine Kd.C_drewN ?_ _) | (with_reducible refine Kd.C_drew ?_))); (case side2 => exact (Kd.R_reads' HO_8.out).2.1); rintro e w' ⟨rfl, ⟨nd, rfl⟩⟩; refine ⟨_, rfl, ?_⟩) | ((with_reducible refine gate_dst (N := 51) rfl ?_); (try (refine gate_guard (by rfl) ?_; dsimp only)); (with_reducible refine gate_callee (f := 13) rfl ?_); refine goesL_ (some 51) rfl rfl Tryd.func13 (by kernel_rfl) rfl #[.string t185, .string t186] rfl (by (try simp only [List.map_toArray, List.map_cons, List.map_nil]); first | done | rfl | (simp only [List.length_drop, List.length_take]; rfl)) ?_; (with_reducible refine (topic_Match.calls k2 t185 t186 false _ ?side1 A54.out).mono ?_); (case side1 => exact Gl.below HGL.out (by repeat (first | (with_reducible first | exact HB.out | apply below_alloc | apply pw_below_drewN | apply below_drew1) | exact HB.out))); rintro e w80 ⟨rfl, hb⟩; refine ⟨_, rfl, ?_⟩; have n0_ := Aside0.mk (Kd.R_below (by (with_reducible repeat (first | apply Kd.R_alloc | apply Kd.R_drewN | apply Kd.R_drew)); exact HO_7.out) hb); have n1_ := Aside0.mk (Kd.R_below (by (with_reducible repeat (first | apply Kd.R_alloc | apply Kd.R_drewN | apply Kd.R_drew)); exact HO_8.out) hb); have n2_ := Aside0.mk (below_step (by repeat (first | (with_reducible first | exact HB.out | apply below_alloc | apply pw_below_drewN | apply below_drew1) | exact HB.out)) hb); clear HO_7; clear HO_8; clear HB; have HO_7 := n0_; have HO_8 := n1_; have HB := n2_; clear n0_ n1_ n2_; (try clear hb); (try clear hb2); (try clear hk); (try clear hi)) | ((with_reducible refine gate_dst (N := 63) rfl ?_); (try (refine gate_guard (by rfl) ?_; dsimp only)); (with_reducible refine gate_callee (f := 15) rfl ?_); refine goesL_ (some 63) rfl rfl Tryd.func15 (by kernel_rfl) rfl #[.slice Ao79 x8_2.length co79] rfl (by (try simp only [List.map_toArray, List.map_cons, List.map_nil]); first | done | rfl | (simp only [List.length_drop, List.length_take]; rfl)) ?_; (with_reducible refine (carrefourlaw7_join.calls k2 _ _ x8_2 t190 _ ?side1 ?side2 A73.out).mono ?_); (case side1 => repeat (first | exact (Kd.R_reads' HO_8.out).2.2 | (with_reducible refine Kd.C_alloc ?_ _) | (with_reducible refine Kd.C_drewN ?_ _) | (with_reducible refine Kd.C_drew ?_))); (case side2 => exact (Kd.R_reads' HO_8.out).2.1); rintro e w' ⟨rfl, ⟨nd, rfl⟩⟩; refine ⟨_, rfl, ?_⟩) | ((with_reducible refine gate_dst (N := 64) rfl ?_); (try (refine gate_guard (by rfl) ?_; dsimp only)); (with_reducible refine gate_callee (f := 13) rfl ?_); refine goesL_ (some 64) rfl rfl Tryd.func13 (by kernel_rfl) rfl #[.string (⟨#[35]⟩ : ByteArray), .string t190] rfl (by (try simp only [List.map_toArray, List.map_cons, List.map_nil]); first | done | rfl | (simp only [List.length_drop, List.length_take]; rfl)) ?_; (with_reducible refine (topic_Match.calls k2 (⟨#[35]⟩ : ByteArray) t190 true _ ?side1 A74.out).mono ?_); (case side1 => exact Gl.below HGL.out (by repeat (first | (with_reducible first | exact HB.out | apply below_alloc | apply pw_below_drewN | apply below_drew1) | exact HB.out))); rintro e w81 ⟨rfl, hb⟩; refine ⟨_, rfl, ?_⟩; have n0_ := Aside0.mk (Kd.R_below (by (with_reducible repeat (first | apply Kd.R_alloc | apply Kd.R_drewN | apply Kd.R_drew)); exact HO_7.out) hb); have n1_ := Aside0.mk (Kd.R_below (by (with_reducible repeat (first | apply Kd.R_alloc | apply Kd.R_drewN | apply Kd.R_drew)); exact HO_8.out) hb); have n2_ := Aside0.mk (below_step (by repeat (first | (with_reducible first | exact HB.out | apply below_alloc | apply pw_below_drewN | apply below_drew1) | exact HB.out)) hb); clear HO_7; clear HO_8; clear HB; have HO_7 := n0_; have HO_8 := n1_; have HB := n2_; clear n0_ n1_ n2_; (try clear hb); (try clear hb2); (try clear hk); (try clear hi)))
              go_ret
              exact ⟨by first | rfl | (simp [errW_none, errW_some] <;> rfl) | (simp [*, errW_none, errW_some] <;> rfl), by repeat (first | (with_reducible first | exact HB.out | apply below_alloc | apply pw_below_drewN | apply below_drew1) | exact HB.out)⟩
             ·replace c75 := Bool.eq_false_iff.mpr c75
              subst c75
              have H1 : (some (!(decide ((wrap64 (1 + (wrap64 (Int.tmod (IntKind.u64.wrap (a1)) 24)))) ≤ 20)))) = some r := by rw [if_neg (show ¬ (false = true) by decide)] at H; exact H
              clear H
              have H := H1
              clear H1
              clear HRT
              obtain rfl := Option.some.inj H
              go_wp2_with (first | ((with_reducible refine gate_callee (f := 8) rfl ?_); refine goesL_ (some 37) rfl rfl Tryd.func8 (by kernel_rfl) rfl #[] rfl (by (try simp only [List.map_toArray, List.map_cons, List.map_nil]); first | done | rfl | (simp only [List.length_drop, List.length_take]; rfl)) ?_; (with_reducible refine (carrefourlaw7_told.calls k2  true _ ?side1 A9.out).mono ?_); (case side1 => exact Gl.below HGL.out (by repeat (first | (with_reducible first | exact HB.out | apply below_alloc | apply pw_below_drewN | apply below_drew1) | exact HB.out))); rintro e w82 ⟨rfl, hb⟩; refine ⟨_, rfl, ?_⟩; have n0_ := Aside0.mk (Kd.R_below (by (with_reducible repeat (first | apply Kd.R_alloc | apply Kd.R_drewN | apply Kd.R_drew)); exact HO_7.out) hb); have n1_ := Aside0.mk (Kd.R_below (by (with_reducible repeat (first | apply Kd.R_alloc | apply Kd.R_drewN | apply Kd.R_drew)); exact HO_8.out) hb); have n2_ := Aside0.mk (below_step (by repeat (first | (with_reducible first | exact HB.out | apply below_alloc | apply pw_below_drewN | apply below_drew1) | exact HB.out)) hb); clear HO_7; clear HO_8; clear HB; have HO_7 := n0_; have HO_8 := n1_; have HB := n2_; clear n0_ n1_ n2_; (try clear hb); (try clear hb2); (try clear hk); (try clear hi); obtain ⟨Ao83, co83, eo83⟩ := Kd.R_slice HO_7.out; subst eo83) | ((with_reducible refine gate_dst (N := 40) rfl ?_); (try (refine gate_guard (by rfl) ?_; dsimp only)); (with_reducible refine gate_callee (f := 15) rfl ?_); refine goesL_ (some 40) rfl rfl Tryd.func15 (by kernel_rfl) rfl #[.slice Ao83 x7_1.length co83] rfl (by (try simp only [List.map_toArray, List.map_cons, List.map_nil]); first | done | rfl | (simp only [List.length_drop, List.length_take]; rfl)) ?_; (with_reducible refine (carrefourlaw7_join.calls k2 _ _ x7_1 t176 _ ?side1 ?side2 A11.out).mono ?_); (case side1 => repeat (first | exact (Kd.R_reads' HO_7.out).2.2 | (with_reducible refine Kd.C_alloc ?_ _) | (with_reducible refine Kd.C_drewN ?_ _) | (with_reducible refine Kd.C_drew ?_))); (case side2 => exact (Kd.R_reads' HO_7.out).2.1); rintro e w' ⟨rfl, ⟨nd, rfl⟩⟩; refine ⟨_, rfl, ?_⟩) | ((with_reducible refine gate_dst (N := 41) rfl ?_); (try (refine gate_guard (by rfl) ?_; dsimp only)); (with_reducible refine gate_callee (f := 11) rfl ?_); refine goesL_ (some 41) rfl rfl Tryd.func11 (by kernel_rfl) rfl #[.string t176] rfl (by (try simp only [List.map_toArray, List.map_cons, List.map_nil]); first | done | rfl | (simp only [List.length_drop, List.length_take]; rfl)) ?_; (with_reducible refine (topic_May.calls k2 t176 false _ ?side1 A12.out).mono ?_); (case side1 => exact Gl.below HGL.out (by repeat (first | (with_reducible first | exact HB.out | apply below_alloc | apply pw_below_drewN | apply below_drew1) | exact HB.out))); rintro e w84 ⟨rfl, hb⟩; refine ⟨_, rfl, ?_⟩; have n0_ := Aside0.mk (Kd.R_below (by (with_reducible repeat (first | apply Kd.R_alloc | apply Kd.R_drewN | apply Kd.R_drew)); exact HO_7.out) hb); have n1_ := Aside0.mk (Kd.R_below (by (with_reducible repeat (first | apply Kd.R_alloc | apply Kd.R_drewN | apply Kd.R_drew)); exact HO_8.out) hb); have n2_ := Aside0.mk (below_step (by repeat (first | (with_reducible first | exact HB.out | apply below_alloc | apply pw_below_drewN | apply below_drew1) | exact HB.out)) hb); clear HO_7; clear HO_8; clear HB; have HO_7 := n0_; have HO_8 := n1_; have HB := n2_; clear n0_ n1_ n2_; (try clear hb); (try clear hb2); (try clear hk); (try clear hi)) | ((with_reducible refine gate_dst (N := 48) rfl ?_); (try (refine gate_guard (by rfl) ?_; dsimp only)); (with_reducible refine gate_callee (f := 15) rfl ?_); refine goesL_ (some 48) rfl rfl Tryd.func15 (by kernel_rfl) rfl #[.slice Ao83 x7_1.length co83] rfl (by (try simp only [List.map_toArray, List.map_cons, List.map_nil]); first | done | rfl | (simp only [List.length_drop, List.length_take]; rfl)) ?_; (with_reducible refine (carrefourlaw7_join.calls k2 _ _ x7_1 t185 _ ?side1 ?side2 A52.out).mono ?_); (case side1 => repeat (first | exact (Kd.R_reads' HO_7.out).2.2 | (with_reducible refine Kd.C_alloc ?_ _) | (with_reducible refine Kd.C_drewN ?_ _) | (with_reducible refine Kd.C_drew ?_))); (case side2 => exact (Kd.R_reads' HO_7.out).2.1); rintro e w' ⟨rfl, ⟨nd, rfl⟩⟩; refine ⟨_, rfl, ?_⟩; obtain ⟨Ao85, co85, eo85⟩ := Kd.R_slice HO_8.out; subst eo85) | ((with_reducible refine gate_dst (N := 50) rfl ?_); (try (refine gate_guard (by rfl) ?_; dsimp only)); (with_reducible refine gate_callee (f := 15) rfl ?_); refine goesL_ (some 50) rfl rfl Tryd.func15 (by kernel_rfl) rfl #[.slice Ao85 x8_2.length co85] rfl (by (try simp only [List.map_toArray, List.map_cons, List.map_nil]); first | done | rfl | (simp only [List.length_drop, List.length_take]; rfl)) ?_; (with_reducible refine (carrefourlaw7_join.calls k2 _ _ x8_2 t186 _ ?side1 ?side2 A53.out).mono ?_); (case side1 => repeat (first | exact (Kd.R_reads' HO_8.out).2.2 | (with_reducible refine Kd.C_alloc ?_ _) | (with_reducible refine Kd.C_drewN ?_ _) | (with_reducible refine Kd.C_drew ?_))); (case side2 => exact (Kd.R_reads' HO_8.out).2.1); rintro e w' ⟨rfl, ⟨nd, rfl⟩⟩; refine ⟨_, rfl, ?_⟩) | ((with_reducible refine gate_dst (N := 51) rfl ?_); (try (refine gate_guard (by rfl) ?_; dsimp only)); (with_reducible refine gate_callee (f := 13) rfl ?_); refine goesL_ (some 51) rfl rfl Tryd.func13 (by kernel_rfl) rfl #[.string t185, .string t186] rfl (by (try simp only [List.map_toArray, List.map_cons, List.map_nil]); first | done | rfl | (simp only [List.length_drop, List.length_take]; rfl)) ?_; (with_reducible refine (topic_Match.calls k2 t185 t186 false _ ?side1 A54.out).mono ?_); (case side1 => exact Gl.below HGL.out (by repeat (first | (with_reducible first | exact HB.out | apply below_alloc | apply pw_below_drewN | apply below_drew1) | exact HB.out))); rintro e w86 ⟨rfl, hb⟩; refine ⟨_, rfl, ?_⟩; have n0_ := Aside0.mk (Kd.R_below (by (with_reducible repeat (first | apply Kd.R_alloc | apply Kd.R_drewN | apply Kd.R_drew)); exact HO_7.out) hb); have n1_ := Aside0.mk (Kd.R_below (by (with_reducible repeat (first | apply Kd.R_alloc | apply Kd.R_drewN | apply Kd.R_drew)); exact HO_8.out) hb); have n2_ := Aside0.mk (below_step (by repeat (first | (with_reducible first | exact HB.out | apply below_alloc | apply pw_below_drewN | apply below_drew1) | exact HB.out)) hb); clear HO_7; clear HO_8; clear HB; have HO_7 := n0_; have HO_8 := n1_; have HB := n2_; clear n0_ n1_ n2_; (try clear hb); (try clear hb2); (try clear hk); (try clear hi)) | ((with_reducible refine gate_dst (N := 63) rfl ?_); (try (refine gate_guard (by rfl) ?_; dsimp only)); (with_reducible refine gate_callee (f := 15) rfl ?_); refine goesL_ (some 63) rfl rfl Tryd.func15 (by kernel_rfl) rfl #[.slice Ao85 x8_2.length co85] rfl (by (try simp only [List.map_toArray, List.map_cons, List.map_nil]); first | done | rfl | (simp only [List.length_drop, List.length_take]; rfl)) ?_; (with_reducible refine (carrefourlaw7_join.calls k2 _ _ x8_2 t190 _ ?side1 ?side2 A73.out).mono ?_); (case side1 => repeat (first | exact (Kd.R_reads' HO_8.out).2.2 | (with_reducible refine Kd.C_alloc ?_ _) | (with_reducible refine Kd.C_drewN ?_ _) | (with_reducible refine Kd.C_drew ?_))); (case side2 => exact (Kd.R_reads' HO_8.out).2.1); rintro e w' ⟨rfl, ⟨nd, rfl⟩⟩; refine ⟨_, rfl, ?_⟩) | ((with_reducible refine gate_dst (N := 64) rfl ?_); (try (refine gate_guard (by rfl) ?_; dsimp only)); (with_reducible refine gate_callee (f := 13) rfl ?_); refine goesL_ (some 64) rfl rfl Tryd.func13 (by kernel_rfl) rfl #[.string (⟨#[35]⟩ : ByteArray), .string t190] rfl (by (try simp only [List.map_toArray, List.map_cons, List.map_nil]); first | done | rfl | (simp only [List.length_drop, List.length_take]; rfl)) ?_; (with_reducible refine (topic_Match.calls k2 (⟨#[35]⟩ : ByteArray) t190 false _ ?side1 A74.out).mono ?_); (case side1 => exact Gl.below HGL.out (by repeat (first | (with_reducible first | exact HB.out | apply below_alloc | apply pw_below_drewN | apply below_drew1) | exact HB.out))); rintro e w87 ⟨rfl, hb⟩; refine ⟨_, rfl, ?_⟩; have n0_ := Aside0.mk (Kd.R_below (by (with_reducible repeat (first | apply Kd.R_alloc | apply Kd.R_drewN | apply Kd.R_drew)); exact HO_7.out) hb); have n1_ := Aside0.mk (Kd.R_below (by (with_reducible repeat (first | apply Kd.R_alloc | apply Kd.R_drewN | apply Kd.R_drew)); exact HO_8.out) hb); have n2_ := Aside0.mk (below_step (by repeat (first | (with_reducible first | exact HB.out | apply below_alloc | apply pw_below_drewN | apply below_drew1) | exact HB.out)) hb); clear HO_7; clear HO_8; clear HB; have HO_7 := n0_; have HO_8 := n1_; have HB := n2_; clear n0_ n1_ n2_; (try clear hb); (try clear hb2); (try clear hk); (try clear hi)))
              go_ret
              exact ⟨by first | rfl | (simp [errW_none, errW_some] <;> rfl) | (simp [*, errW_none, errW_some] <;> rfl), by repeat (first | (with_reducible first | exact HB.out | apply below_alloc | apply pw_below_drewN | apply below_drew1) | exact HB.out)⟩
        ·replace c10 := Bool.eq_false_iff.mpr c10
         subst c10
         have H1 : (some false) = some r := by rw [if_neg (show ¬ (false = true) by decide)] at H; exact H
         clear H
         have H := H1
         clear H1
         rw [HRT.out] at H
         exact absurd H (by (repeat' split) <;> simp [Option.bind_eq_some_iff])
def carrefourlaw7_TopicLong.Pure : Prop := ∀ (a0 : Int) (a1 : Int), (Lit.int .i64 a0).wf = true → (Lit.int .i64 a1).wf = true → ∃ k, carrefourlaw7_TopicLong.f k a0 a1 = some true

/-! ### carrefourlaw7_TopicWords: function 7 -/
mutual
def carrefourlaw7_TopicWords.j0 : Nat → ByteArray → Bool → Option (Bool)
  | 0, _, _ => none
  | k + 1, x0, x13 => if x13 = true then ((carrefourlaw7_told.f k).bind fun t192 => (some t192)) else (carrefourlaw7_TopicWords.l1 k x0 1 0)
def carrefourlaw7_TopicWords.l1 : Nat → ByteArray → Int → Int → Option (Bool)
  | 0, _, _, _ => none
  | k + 1, x0, x3, x4 => if x4 < (x0.size : Int) then (if 0 ≤ x4 then (if (bt x0 x4) = 46 then (carrefourlaw7_TopicWords.l1 k x0 (wrap64 (x3 + 1)) (wrap64 (x4 + 1))) else (carrefourlaw7_TopicWords.l1 k x0 x3 (wrap64 (x4 + 1)))) else (none)) else ((topic_Words.f x0).bind fun t193 => ((carrefourlaw7_told.f k).bind fun t196 => (if t196 = true then ((carrefourlaw7_join.f k t193).bind fun t197 => (if t197.toList = x0.toList then (some ((t193.length : Int) == x3)) else (some false))) else (some false))))
end
def carrefourlaw7_TopicWords.f (k : Nat) (a0 : ByteArray) : Option (Bool) := if (a0.size : Int) < 1 then (carrefourlaw7_TopicWords.j0 k a0 true) else (carrefourlaw7_TopicWords.j0 k a0 (decide ((a0.size : Int) > 100)))
theorem carrefourlaw7_TopicWords.mono_l : ∀ k, (∀ y0 y1, LeO (carrefourlaw7_TopicWords.j0 k y0 y1) (carrefourlaw7_TopicWords.j0 (k + 1) y0 y1)) ∧ (∀ y0 y1 y2, LeO (carrefourlaw7_TopicWords.l1 k y0 y1 y2) (carrefourlaw7_TopicWords.l1 (k + 1) y0 y1 y2))
  | 0 => ⟨fun _ _ r h => by simp [carrefourlaw7_TopicWords.j0] at h, fun _ _ _ r h => by simp [carrefourlaw7_TopicWords.l1] at h⟩
  | k + 1 => by
    obtain ⟨ih0, ih1⟩ := carrefourlaw7_TopicWords.mono_l k
    refine ⟨?_, ?_⟩
    · intro y0 y1
      unfold carrefourlaw7_TopicWords.j0
      repeat' first
      | (with_reducible exact ih0 _ _)
      | (with_reducible exact ih1 _ _ _)
      | (with_reducible exact carrefourlaw7_join.mono _ _)
      | (with_reducible exact carrefourlaw7_told.mono _)
      | (with_reducible exact LeO.refl _)
      | (with_reducible exact LeO.none _)
      | (with_reducible refine LeO.ite ?_ ?_)
      | (with_reducible refine LeO.bind ?_ (fun _ => ?_))
      | exact ih0 _ _
      | exact ih1 _ _ _
      | exact carrefourlaw7_join.mono _ _
      | exact carrefourlaw7_told.mono _
      | exact LeO.none _
      | refine LeO.ite ?_ ?_
      | refine LeO.bind ?_ (fun _ => ?_)
    · intro y0 y1 y2
      unfold carrefourlaw7_TopicWords.l1
      repeat' first
      | (with_reducible exact ih0 _ _)
      | (with_reducible exact ih1 _ _ _)
      | (with_reducible exact carrefourlaw7_join.mono _ _)
      | (with_reducible exact carrefourlaw7_told.mono _)
      | (with_reducible exact LeO.refl _)
      | (with_reducible exact LeO.none _)
      | (with_reducible refine LeO.ite ?_ ?_)
      | (with_reducible refine LeO.bind ?_ (fun _ => ?_))
      | exact ih0 _ _
      | exact ih1 _ _ _
      | exact carrefourlaw7_join.mono _ _
      | exact carrefourlaw7_told.mono _
      | exact LeO.none _
      | refine LeO.ite ?_ ?_
      | refine LeO.bind ?_ (fun _ => ?_)
theorem carrefourlaw7_TopicWords.mono : ∀ a0 k, LeO (carrefourlaw7_TopicWords.f k a0) (carrefourlaw7_TopicWords.f (k + 1) a0) := by
  intro a0 k
  obtain ⟨ih0, ih1⟩ := carrefourlaw7_TopicWords.mono_l k
  unfold carrefourlaw7_TopicWords.f
  repeat' first
      | (with_reducible exact ih0 _ _)
      | (with_reducible exact ih1 _ _ _)
      | (with_reducible exact carrefourlaw7_join.mono _ _)
      | (with_reducible exact carrefourlaw7_told.mono _)
      | (with_reducible exact LeO.refl _)
      | (with_reducible exact LeO.none _)
      | (with_reducible refine LeO.ite ?_ ?_)
      | (with_reducible refine LeO.bind ?_ (fun _ => ?_))
      | exact ih0 _ _
      | exact ih1 _ _ _
      | exact carrefourlaw7_join.mono _ _
      | exact carrefourlaw7_told.mono _
      | exact LeO.none _
      | refine LeO.ite ?_ ?_
      | refine LeO.bind ?_ (fun _ => ?_)
set_option maxHeartbeats 8000000 in
set_option maxRecDepth 100000 in
theorem carrefourlaw7_TopicWords.calls (k : Nat) (a0 : ByteArray) (r : Bool) (w : World) (hgl : Gl w) (hrt : r = true) (h : carrefourlaw7_TopicWords.f k a0 = some r) :
    Calls Tryd.prog 7 #[.string a0] w fun e w' => e = .returned (.bool r) ∧ Below w.heap.size w w' := by
  have HRT := Aside0.mk hrt
  clear hrt
  have HGL := Aside0.mk hgl
  clear hgl
  have HB := Aside0.mk (Below.refl w.heap.size w)
  have H : (if (a0.size : Int) < 1 then (carrefourlaw7_TopicWords.j0 k a0 true) else (carrefourlaw7_TopicWords.j0 k a0 (decide ((a0.size : Int) > 100)))) = some r := h
  clear h
  have HC2 := Aside0.mk H
  clear H
  go_enter Tryd.func7, Tryd.ntmps7
  go_upto_region 1 with (fail)
  go_cut [13] (fun v13 wc => ∃ (kq : Nat) (x13_1 : Bool), v13 = .bool x13_1 ∧ Aside0 (carrefourlaw7_TopicWords.j0 kq a0 x13_1 = some r) ∧ Aside0 (kq ≤ k) ∧ Aside0 (Below w.heap.size w wc))
  case first =>
   have H := HC2.out
   clear HC2
   by_cases c3 : (a0.size : Int) < 1
   ·rw [if_pos c3] at H
    have c3b0 : decide ((a0.size : Int) < 1) = true := decide_eq_true c3
    have c3b1 : decide (a0.size < 1) = true := decide_eq_true (by omega)
    clear c3
    (first | rw [c3b0] | (simp only [i64_w, i32_w]; rw [c3b0]) | skip)
    have H' := Aside0.mk H
    clear H
    go_wp2
    go_meet
    case rel => exact ⟨_, (true), (by first | rfl | (simp; done) | (simp [*]; done)), H', ⟨by first | omega | exact Nat.le_refl _⟩, ⟨by repeat (first | (with_reducible first | exact HB.out | apply below_alloc | apply pw_below_drewN | apply below_drew1) | exact HB.out)⟩⟩
   ·rw [if_neg c3] at H
    have c3b0 : decide ((a0.size : Int) < 1) = false := decide_eq_false c3
    have c3b1 : decide (a0.size < 1) = false := decide_eq_false (by omega)
    clear c3
    (first | rw [c3b0] | (simp only [i64_w, i32_w]; rw [c3b0]) | skip)
    have H' := Aside0.mk H
    clear H
    go_wp2
    go_meet
    case rel => exact ⟨_, (decide ((a0.size : Int) > 100)), (by first | rfl | (simp; done) | (simp [*]; done)), H', ⟨by first | omega | exact Nat.le_refl _⟩, ⟨by repeat (first | (with_reducible first | exact HB.out | apply below_alloc | apply pw_below_drewN | apply below_drew1) | exact HB.out)⟩⟩
  case rest =>
   clear HC2
   try clear p2
   try clear c3
   try clear c3b0
   try clear c3b1
   obtain ⟨kq, x13_1, rfl, HA, HJ1, HB⟩ := hcut
   cases kq with
   | zero => exact absurd HA.out (by simp [carrefourlaw7_TopicWords.j0])
   | succ kj1 =>
    have H := HA.out
    clear HA
    simp only [carrefourlaw7_TopicWords.j0] at H
    by_cases c4 : x13_1 = true
    ·subst c4
     have H1 : ((carrefourlaw7_told.f kj1).bind fun t192 => (some t192)) = some r := by rw [if_pos rfl] at H; exact H
     clear H
     have H := H1
     clear H1
     replace H := Option.bind_eq_some_iff.mp H
     obtain ⟨t192, A50, H⟩ := H
     replace H : (some t192) = some r := H
     have A5 := Aside0.mk A50
     clear A50
     clear HRT
     obtain rfl := Option.some.inj H
     go_wp2_with (first | ((with_reducible refine gate_callee (f := 8) rfl ?_); refine goesL_ (some 14) rfl rfl Tryd.func8 (by kernel_rfl) rfl #[] rfl (by (try simp only [List.map_toArray, List.map_cons, List.map_nil]); first | done | rfl | (simp only [List.length_drop, List.length_take]; rfl)) ?_; (with_reducible refine (carrefourlaw7_told.calls kj1  t192 _ ?side1 A5.out).mono ?_); (case side1 => exact Gl.below HGL.out (by repeat (first | (with_reducible first | exact HB.out | apply below_alloc | apply pw_below_drewN | apply below_drew1) | exact HB.out))); rintro e w6 ⟨rfl, hb⟩; refine ⟨_, rfl, ?_⟩; have n0_ := Aside0.mk (below_step (by repeat (first | (with_reducible first | exact HB.out | apply below_alloc | apply pw_below_drewN | apply below_drew1) | exact HB.out)) hb); clear HB; have HB := n0_; clear n0_; (try clear hb); (try clear hb2); (try clear hk); (try clear hi)))
     go_ret
     exact ⟨by first | rfl | (simp [errW_none, errW_some] <;> rfl) | (simp [*, errW_none, errW_some] <;> rfl), by repeat (first | (with_reducible first | exact HB.out | apply below_alloc | apply pw_below_drewN | apply below_drew1) | exact HB.out)⟩
    ·replace c4 := Bool.eq_false_iff.mpr c4
     subst c4
     have H1 : (carrefourlaw7_TopicWords.l1 kj1 a0 1 0) = some r := by rw [if_neg (show ¬ (false = true) by decide)] at H; exact H
     clear H
     have H := H1
     clear H1
     have H' := Aside0.mk H
     clear H
     go_wp2
     go_loopg [3, 4] kj1 (fun kq v3 v4 w' => ∃ (x3_2 : Int) (x4_2 : Int), v3 = .int .i64 x3_2 ∧ v4 = .int .i64 x4_2 ∧ Aside0 (carrefourlaw7_TopicWords.l1 kq a0 x3_2 x4_2 = some r) ∧ Aside0 (kq ≤ kj1) ∧ Aside0 (Below w.heap.size w w'))
     case atStart => exact ⟨(1), (0), (by first | rfl | (simp; done) | (simp [*]; done)), (by first | rfl | (simp; done) | (simp [*]; done)), H', ⟨Nat.le_refl _⟩, ⟨by repeat (first | (with_reducible first | exact HB.out | apply below_alloc | apply pw_below_drewN | apply below_drew1) | exact HB.out)⟩⟩
     case round =>
      clear H'
      try clear p2
      try clear c3
      try clear c3b0
      try clear c3b1
      try clear c4
      try clear p2
      obtain ⟨x3_2, x4_2, rfl, rfl, HA, HK2, HB⟩ := hrel
      cases gk with
      | zero => exact absurd HA.out (by simp [carrefourlaw7_TopicWords.l1])
      | succ k2 =>
       have H := HA.out
       clear HA
       simp only [carrefourlaw7_TopicWords.l1] at H
       by_cases c7 : x4_2 < (a0.size : Int)
       ·rw [if_pos c7] at H
        have c7b0 : decide (x4_2 < (a0.size : Int)) = true := decide_eq_true c7
        clear c7
        by_cases c8 : 0 ≤ x4_2
        ·rw [if_pos c8] at H
         have c8b0 : decide (0 ≤ x4_2) = true := decide_eq_true c8
         clear c8
         by_cases c10 : (bt a0 x4_2) = 46
         ·rw [if_pos c10] at H
          have c10b0 : ((bt a0 x4_2) == 46) = true := beq_iff_eq.mpr c10
          have c10b1 : ((bt a0 x4_2) != 46) = false := bne_eq_false_iff_eq.mpr c10
          clear c10
          have H' := Aside0.mk H
          clear H
          have p9 : 0 ≤ (x4_2 : Int) := of_decide_eq_true (by first | (with_reducible assumption) | assumption)
          have q9 : x4_2 < (a0.size : Int) := of_decide_eq_true (by first | (with_reducible assumption) | assumption)
          have hx9 := bt_at a0 x4_2
          replace p9 := eq_true p9
          replace q9 := eq_true q9
          go_wp2
          go_roundg k2
          case measure => have := HJ1.out; have := HK2.out; omega
          case rel => exact ⟨(wrap64 (x3_2 + 1)), (wrap64 (x4_2 + 1)), (by first | rfl | (simp; done) | (simp [*]; done)), (by first | rfl | (simp; done) | (simp [*]; done)), H', ⟨by have := HJ1.out; have := HK2.out; omega⟩, ⟨by repeat (first | (with_reducible first | exact HB.out | apply below_alloc | apply pw_below_drewN | apply below_drew1) | exact HB.out)⟩⟩
         ·rw [if_neg c10] at H
          have c10b0 : ((bt a0 x4_2) == 46) = false := beq_eq_false_iff_ne.mpr c10
          have c10b1 : ((bt a0 x4_2) != 46) = true := bne_iff_ne.mpr c10
          have H' := Aside0.mk H
          clear H
          have p9 : 0 ≤ (x4_2 : Int) := of_decide_eq_true (by first | (with_reducible assumption) | assumption)
          have q9 : x4_2 < (a0.size : Int) := of_decide_eq_true (by first | (with_reducible assumption) | assumption)
          have hx9 := bt_at a0 x4_2
          replace p9 := eq_true p9
          replace q9 := eq_true q9
          go_wp2
          go_roundg k2
          case measure => have := HJ1.out; have := HK2.out; omega
          case rel => exact ⟨(x3_2), (wrap64 (x4_2 + 1)), (by first | rfl | (simp; done) | (simp [*]; done)), (by first | rfl | (simp; done) | (simp [*]; done)), H', ⟨by have := HJ1.out; have := HK2.out; omega⟩, ⟨by repeat (first | (with_reducible first | exact HB.out | apply below_alloc | apply pw_below_drewN | apply below_drew1) | exact HB.out)⟩⟩
        ·rw [if_neg c8] at H
         exact absurd H (by simp)
       ·rw [if_neg c7] at H
        have c7b0 : decide (x4_2 < (a0.size : Int)) = false := decide_eq_false c7
        clear c7
        replace H := Option.bind_eq_some_iff.mp H
        obtain ⟨t193, A110, H⟩ := H
        replace H : ((carrefourlaw7_told.f k2).bind fun t196 => (if t196 = true then ((carrefourlaw7_join.f k2 t193).bind fun t197 => (if t197.toList = a0.toList then (some ((t193.length : Int) == x3_2)) else (some false))) else (some false))) = some r := H
        have A11 := Aside0.mk A110
        clear A110
        replace H := Option.bind_eq_some_iff.mp H
        obtain ⟨t196, A120, H⟩ := H
        replace H : (if t196 = true then ((carrefourlaw7_join.f k2 t193).bind fun t197 => (if t197.toList = a0.toList then (some ((t193.length : Int) == x3_2)) else (some false))) else (some false)) = some r := H
        have A12 := Aside0.mk A120
        clear A120
        by_cases c13 : t196 = true
        ·subst c13
         have H1 : ((carrefourlaw7_join.f k2 t193).bind fun t197 => (if t197.toList = a0.toList then (some ((t193.length : Int) == x3_2)) else (some false))) = some r := by rw [if_pos rfl] at H; exact H
         clear H
         have H := H1
         clear H1
         replace H := Option.bind_eq_some_iff.mp H
         obtain ⟨t197, A140, H⟩ := H
         replace H : (if t197.toList = a0.toList then (some ((t193.length : Int) == x3_2)) else (some false)) = some r := H
         have A14 := Aside0.mk A140
         clear A140
         by_cases c15 : t197.toList = a0.toList
         ·rw [if_pos c15] at H
          have c15b0 : (t197.toList == a0.toList) = true := beq_iff_eq.mpr c15
          have c15b1 : (t197.toList != a0.toList) = false := bne_eq_false_iff_eq.mpr c15
          clear c15
          clear HRT
          obtain rfl := Option.some.inj H
          go_wp2_with (first | ((with_reducible refine gate_callee (f := 9) rfl ?_); refine goesL_ (some 28) rfl rfl Tryd.func9 (by kernel_rfl) rfl #[.string a0] rfl (by (try simp only [List.map_toArray, List.map_cons, List.map_nil]); first | done | rfl | (simp only [List.length_drop, List.length_take]; rfl)) ?_; (with_reducible refine (topic_Words.calls a0 t193 _ ?side1 A11.out).mono ?_); (case side1 => exact Gl.below HGL.out (by repeat (first | (with_reducible first | exact HB.out | apply below_alloc | apply pw_below_drewN | apply below_drew1) | exact HB.out))); rintro e w16 ⟨v194, rfl, ho0, hb⟩; refine ⟨_, rfl, ?_⟩; have n0_ := Aside0.mk (Kd.R_lower ho0 (below_size (by repeat (first | (with_reducible first | exact HB.out | apply below_alloc | apply pw_below_drewN | apply below_drew1) | exact HB.out)))); have n1_ := Aside0.mk (below_step (by repeat (first | (with_reducible first | exact HB.out | apply below_alloc | apply pw_below_drewN | apply below_drew1) | exact HB.out)) hb); clear HB; have HO195 := n0_; have HB := n1_; clear n0_ n1_; (try clear hb); (try clear hb2); (try clear hk); (try clear hi); (try clear ho0)) | ((with_reducible refine gate_callee (f := 8) rfl ?_); refine goesL_ (some 29) rfl rfl Tryd.func8 (by kernel_rfl) rfl #[] rfl (by (try simp only [List.map_toArray, List.map_cons, List.map_nil]); first | done | rfl | (simp only [List.length_drop, List.length_take]; rfl)) ?_; (with_reducible refine (carrefourlaw7_told.calls k2  true _ ?side1 A12.out).mono ?_); (case side1 => exact Gl.below HGL.out (by repeat (first | (with_reducible first | exact HB.out | apply below_alloc | apply pw_below_drewN | apply below_drew1) | exact HB.out))); rintro e w17 ⟨rfl, hb⟩; refine ⟨_, rfl, ?_⟩; have n0_ := Aside0.mk (Kd.R_below (by (with_reducible repeat (first | apply Kd.R_alloc | apply Kd.R_drewN | apply Kd.R_drew)); exact HO195.out) hb); have n1_ := Aside0.mk (below_step (by repeat (first | (with_reducible first | exact HB.out | apply below_alloc | apply pw_below_drewN | apply below_drew1) | exact HB.out)) hb); clear HO195; clear HB; have HO195 := n0_; have HB := n1_; clear n0_ n1_; (try clear hb); (try clear hb2); (try clear hk); (try clear hi); obtain ⟨Ao18, co18, eo18⟩ := Kd.R_slice HO195.out; subst eo18) | ((with_reducible refine gate_dst (N := 32) rfl ?_); (try (refine gate_guard (by rfl) ?_; dsimp only)); (try (refine gate_guard (by rfl) ?_; dsimp only)); (with_reducible refine gate_callee (f := 15) rfl ?_); refine goesL_ (some 32) rfl rfl Tryd.func15 (by kernel_rfl) rfl #[.slice Ao18 t193.length co18] rfl (by (try simp only [List.map_toArray, List.map_cons, List.map_nil]); first | done | rfl | (simp only [List.length_drop, List.length_take]; rfl)) ?_; (with_reducible refine (carrefourlaw7_join.calls k2 _ _ t193 t197 _ ?side1 ?side2 A14.out).mono ?_); (case side1 => repeat (first | exact (Kd.R_reads' HO195.out).2.2 | (with_reducible refine Kd.C_alloc ?_ _) | (with_reducible refine Kd.C_drewN ?_ _) | (with_reducible refine Kd.C_drew ?_))); (case side2 => exact (Kd.R_reads' HO195.out).2.1); rintro e w' ⟨rfl, ⟨nd, rfl⟩⟩; refine ⟨_, rfl, ?_⟩))
          go_ret
          exact ⟨by first | rfl | (simp [errW_none, errW_some] <;> rfl) | (simp [*, errW_none, errW_some] <;> rfl), by repeat (first | (with_reducible first | exact HB.out | apply below_alloc | apply pw_below_drewN | apply below_drew1) | exact HB.out)⟩
         ·rw [if_neg c15] at H
          have c15b0 : (t197.toList == a0.toList) = false := beq_eq_false_iff_ne.mpr c15
          have c15b1 : (t197.toList != a0.toList) = true := bne_iff_ne.mpr c15
          rw [HRT.out] at H
          exact absurd H (by (repeat' split) <;> simp [Option.bind_eq_some_iff])
        ·replace c13 := Bool.eq_false_iff.mpr c13
         subst c13
         have H1 : (some false) = some r := by rw [if_neg (show ¬ (false = true) by decide)] at H; exact H
         clear H
         have H := H1
         clear H1
         rw [HRT.out] at H
         exact absurd H (by (repeat' split) <;> simp [Option.bind_eq_some_iff])
def carrefourlaw7_TopicWords.Pure : Prop := ∀ (a0 : ByteArray), a0.size ≤ 140737488351232 → ∃ k, carrefourlaw7_TopicWords.f k a0 = some true

end Go.Proofs.YtjnplofopiohaaaDoor.PGp
