/-
  The walk of QuadBack.
  Conditions: none.
-/
import Derived.Test.YtmolpckfemcieaaL4
import Derived.Test.YtmolpckfemcieaaZn
import Derived.Test.YtmolpckfemcieaaZs
namespace Go.Proofs.Ytmolpckfemcieaa
open Go.RowKit Go.Proofs.YtmolpckfemcieaaFl Go.Proofs.YtmolpckfemcieaaG Go.Proofs.YtmolpckfemcieaaIv
set_option maxHeartbeats 1000000

theorem QuadBack_is (a : Option Addr) (cap : Nat) (l : List Int) (hm : l.length ≤ 9223372036854775807) (w : World) (h : LiesI w a l) : Calls Try.prog 7 #[.slice a l.length cap] w fun e w' => e = .returned (.bool true) ∧ Below w.heap.size w w' := by
  obtain ⟨L, hL⟩ : ∃ L, L = l.length := ⟨_, rfl⟩
  rw [← hL]
  rw [← hL] at hm
  have HL : Hid (L = l.length) := hL
  clear hL
  by_cases h8 : L < 8
  · have h8' : (L : Int) < 8 := by omega
    go_enter Try.func7, Try.ntmps7
    go_wp2_with (go_at_call 11; refine (told_is _).mono ?_; rintro e w'' ⟨rfl, bel⟩)
    go_ret
    exact ⟨rfl, bel⟩
  · have h8' : ¬ (L : Int) < 8 := by omega
    obtain ⟨b, off, rfl⟩ := h.first (by have := HL.out; omega)
    have hbw : b < w.heap.size := by
      obtain ⟨b', off', e, hc⟩ := h 0 (l.getD 0 0) (by have := HL.out; rw [List.getElem?_eq_getElem (by omega), List.getD_eq_getElem?_getD, List.getElem?_eq_getElem (by omega)]; rfl)
      injection e with e
      injection e with e1 e2
      subst e1
      exact World.block_lt_of_cell? w _ hc
    have hne : ∀ (k j : Nat), (⟨w.heap.size, k, none⟩ : Addr) ≠ ⟨b, j, none⟩ := fun k j e => by
      injection e with e
      omega
    go_enter Try.func7, Try.ntmps7
    go_wp2
    go_loopg [4, 6] 4 (fun g v4 v6 wr => ∃ (i : Nat) (x : Nat → Nat × Nat) (av : Nat), v4 = .float .f64 av ∧ v6 = .int .i64 i ∧ g + i = 4 ∧ Four wr w.heap.size x ∧ Below w.heap.size w wr ∧ (∀ j, j < i → x j = rowX l j) ∧ IV av (sumsq (rowZ l) i))
    case atStart =>
      refine ⟨0, fun _ => (0, 0), 0, rfl, rfl, rfl, ?_, ?_, fun j hj => absurd hj (by omega), ?_⟩
      · exact Four.new _ _ rfl (fun _ => (0, 0)) 33
      · exact (Below.refl _ _).alloc (Nat.le_refl _) _
      · exact io_rd ic_zero.1
    case round =>
      obtain ⟨i, x, av, rfl, e6, hg, hx, hb, hdone, hav⟩ := hrel
      by_cases hi : i < 4
      · have : i = 0 ∨ i = 1 ∨ i = 2 ∨ i = 3 := by omega
        rcases this with rfl | rfl | rfl | rfl
        · obtain rfl : u6 = .int .i64 0 := e6
          have hl0 := h.at_ hb (j := 0) (by have := HL.out; omega)
          rw [Nat.add_zero] at hl0
          have hl1 := h.at_ hb (j := 1) (by have := HL.out; omega)
          have hxi := hx.cell 0 (by omega)
          have hxf := hx.free 0
          go_wp2
          have b0 : (L = 0) = False := eq_false (by omega)
          have b1 : ((L : Int) ≤ 1) = False := eq_false (by omega)
          have d0 : 0 < L := by omega
          have d1 : (1 : Int) < (L : Int) := by omega
          have q0 : IntKind.i64.wrap 0 = 0 := by rw [IntKind.wrap_i64]; omega
          have q1 : IntKind.i64.wrap 1 = 1 := by rw [IntKind.wrap_i64]; omega
          go_region_held3 (fun w' => w'.cell? ⟨b, off, none⟩ = some (.int .i64 (l.getD 0 0)) ∧ w'.cell? ⟨b, off + 1, none⟩ = some (.int .i64 (l.getD 1 0))) (first | (exact ⟨hl0, hl1⟩) | (simp only [World.cell?_drew, World.cell?_setCell_other _ _ _ _ (hne _ _)]; exact ⟨hl0, hl1⟩)) (fail)
          all_goals
            go_wp2_with (first | (go_at_call 13; refine (norm_is _ _ _).mono ?_; rintro e w'' ⟨r_, k1_, rfl, rfl, hr_⟩) | (refine goesB_ _ rfl rfl (.float .f64 _) (.float .f64 _) rfl rfl rfl rfl ((float_yields _ (by simp) _ _ _ _).mono ?_); rintro e w' ⟨n_, k_, rfl, rfl, hn_⟩; refine ⟨_, rfl, ?_⟩))
            go_roundg (gk - 1)
            case measure => omega
            case rel =>
              refine ⟨1, upd x 0 (rowX l 0), _, rfl, rfl, by omega, (hx.put (k := 0) (by omega) _ _).drewN _, below_drewN (hb.setCell (by show w.heap.size ≤ w.heap.size; omega) _) _, fun j hj => ?_, ?_⟩
              · by_cases e : j = 0
                · rw [e, upd_same]
                · rw [upd_other e]
                  exact hdone j (by omega)
              · exact acc_iv hav (norm_iv (rowX_ic l 0) (rowZ_bd l 0) (by omega) hr_) hn_ (Nat.lt_of_le_of_lt (sumsq_bd (fun j _ => rowZ_bd l j) 1 (by omega)) (by omega))
        · obtain rfl : u6 = .int .i64 1 := e6
          have hl0 := h.at_ hb (j := 2) (by have := HL.out; omega)
          have hl1 := h.at_ hb (j := 3) (by have := HL.out; omega)
          have hxi := hx.cell 1 (by omega)
          have hxf := hx.free 1
          go_wp2
          have b0 : ((L : Int) ≤ 2) = False := eq_false (by omega)
          have b1 : ((L : Int) ≤ 3) = False := eq_false (by omega)
          have d0 : (2 : Int) < (L : Int) := by omega
          have d1 : (3 : Int) < (L : Int) := by omega
          have q0 : IntKind.i64.wrap 2 = 2 := by rw [IntKind.wrap_i64]; omega
          have q1 : IntKind.i64.wrap 3 = 3 := by rw [IntKind.wrap_i64]; omega
          go_region_held3 (fun w' => w'.cell? ⟨b, off + 2, none⟩ = some (.int .i64 (l.getD 2 0)) ∧ w'.cell? ⟨b, off + 3, none⟩ = some (.int .i64 (l.getD 3 0))) (first | (exact ⟨hl0, hl1⟩) | (simp only [World.cell?_drew, World.cell?_setCell_other _ _ _ _ (hne _ _)]; exact ⟨hl0, hl1⟩)) (fail)
          all_goals
            go_wp2_with (first | (go_at_call 13; refine (norm_is _ _ _).mono ?_; rintro e w'' ⟨r_, k1_, rfl, rfl, hr_⟩) | (refine goesB_ _ rfl rfl (.float .f64 _) (.float .f64 _) rfl rfl rfl rfl ((float_yields _ (by simp) _ _ _ _).mono ?_); rintro e w' ⟨n_, k_, rfl, rfl, hn_⟩; refine ⟨_, rfl, ?_⟩))
            go_roundg (gk - 1)
            case measure => omega
            case rel =>
              refine ⟨2, upd x 1 (rowX l 1), _, rfl, rfl, by omega, (hx.put (k := 1) (by omega) _ _).drewN _, below_drewN (hb.setCell (by show w.heap.size ≤ w.heap.size; omega) _) _, fun j hj => ?_, ?_⟩
              · by_cases e : j = 1
                · rw [e, upd_same]
                · rw [upd_other e]
                  exact hdone j (by omega)
              · exact acc_iv hav (norm_iv (rowX_ic l 1) (rowZ_bd l 1) (by omega) hr_) hn_ (Nat.lt_of_le_of_lt (sumsq_bd (fun j _ => rowZ_bd l j) 2 (by omega)) (by omega))
        · obtain rfl : u6 = .int .i64 2 := e6
          have hl0 := h.at_ hb (j := 4) (by have := HL.out; omega)
          have hl1 := h.at_ hb (j := 5) (by have := HL.out; omega)
          have hxi := hx.cell 2 (by omega)
          have hxf := hx.free 2
          go_wp2
          have b0 : ((L : Int) ≤ 4) = False := eq_false (by omega)
          have b1 : ((L : Int) ≤ 5) = False := eq_false (by omega)
          have d0 : (4 : Int) < (L : Int) := by omega
          have d1 : (5 : Int) < (L : Int) := by omega
          have q0 : IntKind.i64.wrap 4 = 4 := by rw [IntKind.wrap_i64]; omega
          have q1 : IntKind.i64.wrap 5 = 5 := by rw [IntKind.wrap_i64]; omega
          go_region_held3 (fun w' => w'.cell? ⟨b, off + 4, none⟩ = some (.int .i64 (l.getD 4 0)) ∧ w'.cell? ⟨b, off + 5, none⟩ = some (.int .i64 (l.getD 5 0))) (first | (exact ⟨hl0, hl1⟩) | (simp only [World.cell?_drew, World.cell?_setCell_other _ _ _ _ (hne _ _)]; exact ⟨hl0, hl1⟩)) (fail)
          all_goals
            go_wp2_with (first | (go_at_call 13; refine (norm_is _ _ _).mono ?_; rintro e w'' ⟨r_, k1_, rfl, rfl, hr_⟩) | (refine goesB_ _ rfl rfl (.float .f64 _) (.float .f64 _) rfl rfl rfl rfl ((float_yields _ (by simp) _ _ _ _).mono ?_); rintro e w' ⟨n_, k_, rfl, rfl, hn_⟩; refine ⟨_, rfl, ?_⟩))
            go_roundg (gk - 1)
            case measure => omega
            case rel =>
              refine ⟨3, upd x 2 (rowX l 2), _, rfl, rfl, by omega, (hx.put (k := 2) (by omega) _ _).drewN _, below_drewN (hb.setCell (by show w.heap.size ≤ w.heap.size; omega) _) _, fun j hj => ?_, ?_⟩
              · by_cases e : j = 2
                · rw [e, upd_same]
                · rw [upd_other e]
                  exact hdone j (by omega)
              · exact acc_iv hav (norm_iv (rowX_ic l 2) (rowZ_bd l 2) (by omega) hr_) hn_ (Nat.lt_of_le_of_lt (sumsq_bd (fun j _ => rowZ_bd l j) 3 (by omega)) (by omega))
        · obtain rfl : u6 = .int .i64 3 := e6
          have hl0 := h.at_ hb (j := 6) (by have := HL.out; omega)
          have hl1 := h.at_ hb (j := 7) (by have := HL.out; omega)
          have hxi := hx.cell 3 (by omega)
          have hxf := hx.free 3
          go_wp2
          have b0 : ((L : Int) ≤ 6) = False := eq_false (by omega)
          have b1 : ((L : Int) ≤ 7) = False := eq_false (by omega)
          have d0 : (6 : Int) < (L : Int) := by omega
          have d1 : (7 : Int) < (L : Int) := by omega
          have q0 : IntKind.i64.wrap 6 = 6 := by rw [IntKind.wrap_i64]; omega
          have q1 : IntKind.i64.wrap 7 = 7 := by rw [IntKind.wrap_i64]; omega
          go_region_held3 (fun w' => w'.cell? ⟨b, off + 6, none⟩ = some (.int .i64 (l.getD 6 0)) ∧ w'.cell? ⟨b, off + 7, none⟩ = some (.int .i64 (l.getD 7 0))) (first | (exact ⟨hl0, hl1⟩) | (simp only [World.cell?_drew, World.cell?_setCell_other _ _ _ _ (hne _ _)]; exact ⟨hl0, hl1⟩)) (fail)
          all_goals
            go_wp2_with (first | (go_at_call 13; refine (norm_is _ _ _).mono ?_; rintro e w'' ⟨r_, k1_, rfl, rfl, hr_⟩) | (refine goesB_ _ rfl rfl (.float .f64 _) (.float .f64 _) rfl rfl rfl rfl ((float_yields _ (by simp) _ _ _ _).mono ?_); rintro e w' ⟨n_, k_, rfl, rfl, hn_⟩; refine ⟨_, rfl, ?_⟩))
            go_roundg (gk - 1)
            case measure => omega
            case rel =>
              refine ⟨4, upd x 3 (rowX l 3), _, rfl, rfl, by omega, (hx.put (k := 3) (by omega) _ _).drewN _, below_drewN (hb.setCell (by show w.heap.size ≤ w.heap.size; omega) _) _, fun j hj => ?_, ?_⟩
              · by_cases e : j = 3
                · rw [e, upd_same]
                · rw [upd_other e]
                  exact hdone j (by omega)
              · exact acc_iv hav (norm_iv (rowX_ic l 3) (rowZ_bd l 3) (by omega) hr_) hn_ (Nat.lt_of_le_of_lt (sumsq_bd (fun j _ => rowZ_bd l j) 4 (by omega)) (by omega))
      · obtain rfl : i = 4 := by omega
        obtain rfl : u6 = .int .i64 4 := e6
        have HD : Hid (∀ j, j < 4 → x j = rowX l j) := hdone
        clear hdone h hne
        have hc0 := hx.cell 0 (by omega)
        have hc1 := hx.cell 1 (by omega)
        have hc2 := hx.cell 2 (by omega)
        have hc3 := hx.cell 3 (by omega)
        go_wp2_with (first
          | (go_at_call 15; refine (Four_is x _).mono ?_; rintro e w1 ⟨f, rfl, hf, hb1⟩; have hx1 := hx.below hb1 hx.lt; have hbel1 := hb.trans (hb1.mono hb.size); have hlt1 := hx1.lt)
          | (go_at_call 17; refine (Back_is f _).mono ?_; rintro e w2 ⟨g, rfl, hgg, hb2⟩; have hx2 := (hx1.old hlt1 _).below hb2 (hx1.old hlt1 _).lt; have hf2 := (Four.new w1 _ rfl f 33).below hb2 (Four.new w1 _ rfl f 33).lt; have hbel2 := (hbel1.alloc hbel1.size _).trans (hb2.mono (hbel1.alloc hbel1.size _).size); have hlt2 := hf2.lt))
        clear hc0 hc1 hc2 hc3
        have hx3 := hx2.old hx2.lt (.cells #[.complex .f64 (g 0).1 (g 0).2, .complex .f64 (g 1).1 (g 1).2, .complex .f64 (g 2).1 (g 2).2, .complex .f64 (g 3).1 (g 3).2] 33)
        have hf3 := hf2.old hf2.lt (.cells #[.complex .f64 (g 0).1 (g 0).2, .complex .f64 (g 1).1 (g 1).2, .complex .f64 (g 2).1 (g 2).2, .complex .f64 (g 3).1 (g 3).2] 33)
        have hg3 := Four.new w2 _ rfl g 33
        have hbel3 := hbel2.alloc hbel2.size (.cells #[.complex .f64 (g 0).1 (g 0).2, .complex .f64 (g 1).1 (g 1).2, .complex .f64 (g 2).1 (g 2).2, .complex .f64 (g 3).1 (g 3).2] 33)
        obtain ⟨P1, P2⟩ := back_all (Z := rowZ l) (fun j _ => rowZ_bd l j) (fun j hj => by rw [HD.out j hj]; exact rowX_ic l j) hf hgg
        have HP : Hid ((∀ k, k < 4 → IC (crd (f k)) (zpart (rowZ l) (-1 * (k : Nat)) 3) ∧ zbd 4000 (zpart (rowZ l) (-1 * (k : Nat)) 3)) ∧ ∀ k, k < 4 → IC (crd (g k)) (rowZ l k)) := ⟨P1, P2⟩
        have HX : Hid (∀ j, j < 4 → IC (crd (x j)) (rowZ l j)) := fun j hj => by rw [HD.out j hj]; exact rowX_ic l j
        clear P1 P2 hf hgg hx hx1 hx2 hf2 hbel1 hbel2 hb HD hlt1 hlt2
        go_loopg [5, 9] 4 (fun q v5 v9 wr => ∃ (k bv : Nat), v5 = .float .f64 bv ∧ v9 = .int .i64 k ∧ q + k = 4 ∧ Four wr w.heap.size x ∧ Four wr w1.heap.size f ∧ Four wr w2.heap.size g ∧ Below w.heap.size w wr ∧ IV bv (sumsq (fun k => zpart (rowZ l) (-1 * (k : Nat)) 3) k))
        case atStart => exact ⟨0, 0, rfl, rfl, rfl, hx3, hf3, hg3, hbel3, io_rd ic_zero.1⟩
        case round =>
          clear hx3 hf3 hg3 hbel3
          obtain ⟨k, bv, rfl, rfl, hq, hx, hf, hg, hbel, hbv⟩ := hrel
          have HB : Hid (IV bv (sumsq (fun k => zpart (rowZ l) (-1 * (k : Nat)) 3) k)) := hbv
          clear hbv
          by_cases hk : k < 4
          · have hk0 : (0 : Int) ≤ (k : Int) := by omega
            have hk4 : (k : Int) < 4 := by omega
            have hc1 := hx.cell k hk
            have hc2 := hf.cell k hk
            have hc3 := hg.cell k hk
            obtain ⟨o1, o2⟩ := ic_eq (HP.out.2 k hk) (HX.out k hk)
            go_wp2
            go_region_held3 (fun w' => w'.cell? ⟨w.heap.size, k, none⟩ = some (.complex .f64 (x k).1 (x k).2) ∧ w'.cell? ⟨w1.heap.size, k, none⟩ = some (.complex .f64 (f k).1 (f k).2) ∧ w'.cell? ⟨w2.heap.size, k, none⟩ = some (.complex .f64 (g k).1 (g k).2)) (go_keep)
              (first | (go_at_call 22; refine (whole_at _ _ _ (HP.out.1 k hk).1 (HP.out.1 k hk).2).mono ?_; rintro e w' ⟨rfl, rfl⟩))
            all_goals
              go_wp2_with (first | (go_at_call 13; refine (norm_is _ _ _).mono ?_; rintro e w'' ⟨r_, k1_, rfl, rfl, hr_⟩) | (refine goesB_ _ rfl rfl (.float .f64 _) (.float .f64 _) rfl rfl rfl rfl ((float_yields _ (by simp) _ _ _ _).mono ?_); rintro e w' ⟨n_, k_, rfl, rfl, hn_⟩; refine ⟨_, rfl, ?_⟩))
              go_roundg (gk - 1)
              case measure => omega
              case rel =>
                refine ⟨k + 1, _, rfl, rfl, by omega, hx.drewN _, hf.drewN _, hg.drewN _, below_drewN hbel _, ?_⟩
                exact acc_iv HB.out (norm_iv (HP.out.1 k hk).1 (HP.out.1 k hk).2 (by omega) hr_) hn_ (Nat.lt_of_le_of_lt (sumsq_bd (fun j hj => (HP.out.1 j hj).2) (k + 1) (by omega)) (by have : (k + 1) * (2 * (4000 * 4000)) ≤ 4 * (2 * (4000 * 4000)) := Nat.mul_le_mul_right _ (by omega); omega))
          · obtain rfl : k = 4 := by omega
            have hbA := sumsq_bd (Z := rowZ l) (fun j _ => rowZ_bd l j) 4 (by omega)
            obtain ⟨m4, hm4, i4⟩ := iv_mul four_iv hav (by omega)
            have o4 : FloatKind.f64.format.order bv m4 = some .eq := by
              have hB := HB.out
              rw [parseval] at hB
              have := iv_order hB i4
              rw [show compare (4 * sumsq (rowZ l) 4) (4 * sumsq (rowZ l) 4) = Ordering.eq by simp [compare, compareOfLessAndEq]] at this
              exact this
            have hmul := fun w => run_float_arith (P := Try.prog) w .mul 22 .f64 _ _ m4 hm4
            have z1 := zbd_add (rowZ_bd l 0) (rowZ_bd l 1)
            obtain ⟨s1, hs1, is1⟩ := csum_iv (HX.out 0 (by omega)) (HX.out 1 (by omega)) z1 (by omega)
            have z2 := zbd_add z1 (rowZ_bd l 2)
            obtain ⟨s2, hs2, is2⟩ := csum_iv is1 (HX.out 2 (by omega)) z2 (by omega)
            have z3 := zbd_add z2 (rowZ_bd l 3)
            obtain ⟨s3, hs3, is3⟩ := csum_iv is2 (HX.out 3 (by omega)) z3 (by omega)
            have ha1 := fun w => run_complex_sum (P := Try.prog) w .add (.inl rfl) 23 .f64 _ _ _ _ _ _ hs1
            have ha2 := fun w => run_complex_sum (P := Try.prog) w .add (.inl rfl) 23 .f64 _ _ _ _ _ _ hs2
            have ha3 := fun w => run_complex_sum (P := Try.prog) w .add (.inl rfl) 23 .f64 _ _ _ _ _ _ hs3
            have f0 := (HP.out.1 0 (by omega)).1
            have e0 : zpart (rowZ l) (-1 * ((0 : Nat) : Int)) 3 = zadd (zadd (zadd (rowZ l 0) (rowZ l 1)) (rowZ l 2)) (rowZ l 3) := by
              simp [zpart, zspin]
            rw [e0] at f0
            obtain ⟨o5, o6⟩ := ic_eq f0 is3
            have hc0 := hx.cell 0 (by omega)
            have hc1 := hx.cell 1 (by omega)
            have hc2 := hx.cell 2 (by omega)
            have hc3 := hx.cell 3 (by omega)
            have hcf := hf.cell 0 (by omega)
            clear hm4 i4 z1 z2 z3 hs1 hs2 hs3 is1 is2 is3 f0 e0 hbA hav
            go_wp2_with (go_at_call 11; refine (told_is _).mono ?_; rintro e w3 ⟨rfl, bel⟩; have hd0 := (hx.below bel hx.lt).cell 0 (by omega); have hd1 := (hx.below bel hx.lt).cell 1 (by omega); have hd2 := (hx.below bel hx.lt).cell 2 (by omega); have hd3 := (hx.below bel hx.lt).cell 3 (by omega); have hdf := (hf.below bel hf.lt).cell 0 (by omega))
            go_ret
            exact ⟨rfl, hbel.trans (bel.mono hbel.size)⟩
end Go.Proofs.Ytmolpckfemcieaa
