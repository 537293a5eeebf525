/-
  The walk of QuadSums.
  Conditions: none.
-/
import Derived.Test.YtmolpckfemcieaaW7
import Derived.Test.YtmolpckfemcieaaZs
import Derived.Test.YtmolpckfemcieaaRw
import Derived.Deep.RegionWith
namespace Go.Proofs.Ytmolpckfemcieaa
open Go.RowKit Go.Proofs.YtmolpckfemcieaaFl Go.Proofs.YtmolpckfemcieaaG Go.Proofs.YtmolpckfemcieaaIv
set_option maxHeartbeats 600000

theorem QuadSums_is (a : Option Addr) (cap : Nat) (l : List Int) (hm : l.length ≤ 9223372036854775807) (k : Int) (_ : (Lit.int .i64 k).wf = true) (w : World) (h : LiesI w a l) : Calls Try.prog 5 #[.slice a l.length cap, .int .i64 k] w fun e w' => e = .returned (.bool true) ∧ Below w.heap.size w w' := by
  obtain ⟨L, hL⟩ : ∃ L, L = l.length := ⟨_, rfl⟩
  rw [← hL]
  rw [← hL] at hm
  have HL : Hid (L = l.length) := hL
  clear hL
  by_cases h8 : 40 < L
  · have h8' : (40 : Int) < (L : Int) := by omega
    go_enter Try.func5, Try.ntmps5
    go_wp2_with (go_at_call 11; refine (told_is _).mono ?_; rintro e w'' ⟨rfl, bel⟩)
    go_ret
    exact ⟨rfl, bel⟩
  · have h8' : ¬ (40 : Int) < (L : Int) := by omega
    obtain ⟨i0, hi, hz0, hz1, hz2⟩ := info23
    have hu := Try.underlying36
    go_enter Try.func5, Try.ntmps5
    go_wp2
    go_loopg [5, 6, 7, 8] L (fun q v5 v6 v7 v8 wr => ∃ n : Nat, v8 = .int .i64 n ∧ q + n = L ∧ Row w.heap.size wr v5 (zfs l n) ∧ Row w.heap.size wr v6 (zfs l n).reverse ∧ Row w.heap.size wr v7 ((zfs l n).map fun p => spin p k) ∧ Below w.heap.size w wr ∧ (n = 0 → v6 = .slice none 0 0) ∧ Dj v5 v6 ∧ Dj v5 v7 ∧ Dj v6 v7)
    case atStart => exact ⟨0, rfl, rfl, World.ownsRow_nil _ _ _ _, World.ownsRow_nil _ _ _ _, World.ownsRow_nil _ _ _ _, Below.refl _ _, fun _ => rfl, fun _ => rfl, fun _ => rfl, fun _ => rfl⟩
    case round =>
      obtain ⟨n, rfl, hn, ha, hb, hc, hbel, hnil, d1, d2, d3⟩ := hrel
      have hn0 : (0 : Int) ≤ (n : Int) := by omega
      by_cases hlt : n < L
      · have hlt' : (n : Int) < (L : Int) := by omega
        obtain ⟨b, off, rfl⟩ := h.first (by have := HL.out; omega)
        have hl0 := h.at_ hbel (j := n) (by have := HL.out; omega)
        have HR : Hid (Row w.heap.size wr u5 (zfs l n) ∧ Row w.heap.size wr u6 (zfs l n).reverse ∧ Row w.heap.size wr u7 ((zfs l n).map fun p => spin p k)) := ⟨ha, hb, hc⟩
        clear ha hb hc
        have hlo : w.heap.size ≤ wr.heap.size := hbel.size
        have hln : (zfs l n).length = n := zfs_length l n
        have HLN : Hid ((zfs l n).length = n) := hln
        clear hln
        go_wp2_with (at_builtin; refine halt_here ?_)
        refine append_one rfl _ _ (by rfl) w.heap.size u5 (zfs l n) (by rfl) (HR.out.1.alloc _) (zf l n) wr.heap.size (by rfl) ((World.cell?_alloc_new _ _ _ 0).trans rfl) (by rw [HLN.out]; omega) (by rw [World.size_alloc]; omega) ?_
        intro v5 W2 hr5 hg5 ho5
        have hb2 : Row w.heap.size W2 u6 (zfs l n).reverse := (HR.out.2.1.alloc _).kept hg5 d1.symm
        have hc2 : Row w.heap.size W2 u7 ((zfs l n).map fun p => spin p k) := (HR.out.2.2.alloc _).kept hg5 d2.symm
        have hbel2 : Below w.heap.size w W2 := Below.grown (hbel.alloc hlo _) hg5 (by rw [World.size_alloc]; omega) (fun j hj => (HR.out.1.lt j hj).1)
        have hlo2 : w.heap.size ≤ W2.heap.size := hbel2.size
        have e1 : Dj v5 u6 := d1.step ho5 (fun j hj => ((HR.out.2.1.alloc _).lt j hj).2)
        have e2 : Dj v5 u7 := d2.step ho5 (fun j hj => ((HR.out.2.2.alloc _).lt j hj).2)
        have HR2 : Hid (Row w.heap.size W2 v5 (zfs l n ++ [zf l n]) ∧ Row w.heap.size W2 u6 (zfs l n).reverse ∧ Row w.heap.size W2 u7 ((zfs l n).map fun p => spin p k)) := ⟨hr5, hb2, hc2⟩
        have HD : Hid (Dj v5 u6 ∧ Dj v5 u7 ∧ Dj u6 u7) := ⟨e1, e2, d3⟩
        clear hr5 hb2 hc2 e1 e2 d1 d2 d3 hg5 ho5 HR hbel hlo
        by_cases h0 : n = 0
        · subst h0
          have e6 := hnil rfl
          subst e6
          clear hnil
          go_wp2_with (at_builtin; refine halt_here ?_)
          unfold Hid
          go_wp2_with fail
          obtain ⟨W4, hW4⟩ : ∃ W4, W4 = W2.alloc (.cells #[.complex .f64 (zf l 0).1 (zf l 0).2] 23) := ⟨_, rfl⟩
          obtain ⟨v6, hv6⟩ : ∃ v6 : Value, v6 = .slice (some ⟨W2.heap.size, 0, none⟩) 1 1 := ⟨_, rfl⟩
          have HR4 : Hid (Row w.heap.size W4 v5 (zfs l 0 ++ [zf l 0]) ∧ Row w.heap.size W4 v6 (zf l 0 :: (zfs l 0).reverse) ∧ Row w.heap.size W4 u7 ((zfs l 0).map fun p => spin p k)) := by
            rw [hW4, hv6]
            exact ⟨HR2.out.1.alloc _, Row.lit W2 hlo2 (zf l 0), HR2.out.2.2.alloc _⟩
          have hbel4 : Below w.heap.size w W4 := by
            rw [hW4]
            exact hbel2.alloc hlo2 _
          have f6 : ∀ {u : Value} {lu : List (Nat × Nat)}, Row w.heap.size W2 u lu → Dj v6 u := fun hu => Dj.fresh (H := W2.heap.size) ⟨W2.heap.size, by rw [hv6]; rfl, Nat.le_refl _⟩ (fun j hj => (hu.lt j hj).2)
          have HD4 : Hid (Dj v5 v6 ∧ Dj v5 u7 ∧ Dj v6 u7) := ⟨(f6 HR2.out.1).symm, HD.out.2.1, f6 HR2.out.2.2⟩
          clear f6
          change Calls Try.prog 10 _ (W2.alloc (.cells #[.complex .f64 (zf l 0).1 (zf l 0).2] 23)) _
          rw [← hW4, ← hv6]
          clear hW4 hv6
          clear HR2 HD hbel2 hlo2
          have hlo4 : w.heap.size ≤ W4.heap.size := hbel4.size
          go_wp2_with (first
            | (at_builtin; refine halt_here ?_)
            | (go_at_call 10; refine (spin_is _ _ _ _).mono ?_; rintro e w'' ⟨rfl, hw⟩; rw [hw]; clear hw))
          refine append_one rfl _ _ (by rfl) w.heap.size u7 ((zfs l 0).map fun p => spin p k) (by rfl) (HR4.out.2.2.alloc _) (spin (zf l 0) k) W4.heap.size (by rfl) ((World.cell?_alloc_new _ _ _ 0).trans rfl) (by rw [List.length_map, HLN.out]; omega) (by rw [World.size_alloc]; omega) ?_
          intro v7 W6 hr7 hg7 ho7
          have ha6 : Row w.heap.size W6 v5 (zfs l 0 ++ [zf l 0]) := (HR4.out.1.alloc _).kept hg7 HD4.out.2.1
          have hb6 : Row w.heap.size W6 v6 (zf l 0 :: (zfs l 0).reverse) := (HR4.out.2.1.alloc _).kept hg7 HD4.out.2.2
          have hbel6 : Below w.heap.size w W6 := Below.grown (hbel4.alloc hlo4 _) hg7 (by rw [World.size_alloc]; omega) (fun j hj => (HR4.out.2.2.lt j hj).1)
          have e2 : Dj v5 v7 := (HD4.out.2.1.symm.step ho7 (fun j hj => ((HR4.out.1.alloc _).lt j hj).2)).symm
          have e3 : Dj v6 v7 := (HD4.out.2.2.symm.step ho7 (fun j hj => ((HR4.out.2.1.alloc _).lt j hj).2)).symm
          have HE : Hid (Row w.heap.size W6 v5 (zfs l 0 ++ [zf l 0]) ∧ Row w.heap.size W6 v6 (zf l 0 :: (zfs l 0).reverse) ∧ Row w.heap.size W6 v7 (((zfs l 0).map fun p => spin p k) ++ [spin (zf l 0) k]) ∧ Below w.heap.size w W6 ∧ Dj v5 v6 ∧ Dj v5 v7 ∧ Dj v6 v7) := ⟨ha6, hb6, hr7, hbel6, HD4.out.1, e2, e3⟩
          clear ha6 hb6 hr7 hbel6 e2 e3 hg7 ho7 HR4 HD4 hbel4 hlo4
          go_wp2
          go_roundg (gk - 1)
          case measure => omega
          case rel =>
            obtain ⟨x1, x2, x3, x4, x5, x6, x7⟩ := HE.out
            refine ⟨0 + 1, rfl, by omega, ?_, ?_, ?_, x4, fun h => absurd h (by omega), x5, x6, x7⟩
            · rw [zfs_succ]
              exact x1
            · rw [zfs_succ, List.reverse_append]
              exact x2
            · rw [zfs_succ, List.map_append]
              exact x3
        · clear hnil
          obtain ⟨aa, ca, hv6, _⟩ := HR2.out.2.1.lies_n (n := n) (by rw [List.length_reverse]; exact HLN.out)
          obtain ⟨g0, cap0, hv6', _, _⟩ := World.ownsRow.form HR2.out.2.1 (by rw [List.length_reverse, HLN.out]; omega)
          rw [List.length_reverse, HLN.out] at hv6'
          subst hv6'
          clear hv6
          go_wp2_with (at_builtin; refine halt_here ?_)
          refine append_row rfl _ _ (by rfl) w.heap.size (zfs l n).reverse (zf l n) W2.heap.size (by rfl) (Row.lit W2 hlo2 (zf l n)) g0 cap0 n (by rfl) (by rw [List.length_reverse]; exact HLN.out) (HR2.out.2.1.alloc _) (by omega) (by omega) (by rw [World.size_alloc]; omega) ?_
          intro v6 W4 hr6 hg6 ho6
          have fr : ∀ {u : Value} {lu : List (Nat × Nat)}, Row w.heap.size W2 u lu → Dj (.slice (some ⟨W2.heap.size, 0, none⟩) 1 1) u := fun hu => Dj.fresh (H := W2.heap.size) ⟨W2.heap.size, rfl, Nat.le_refl _⟩ (fun j hj => (hu.lt j hj).2)
          have ha4 : Row w.heap.size W4 v5 (zfs l n ++ [zf l n]) := (HR2.out.1.alloc _).kept (u := .slice (some ⟨W2.heap.size, 0, none⟩) 1 1) hg6 (fr HR2.out.1).symm
          have hc4 : Row w.heap.size W4 u7 ((zfs l n).map fun p => spin p k) := (HR2.out.2.2.alloc _).kept (u := .slice (some ⟨W2.heap.size, 0, none⟩) 1 1) hg6 (fr HR2.out.2.2).symm
          have hbel4 : Below w.heap.size w W4 := Below.grown (hbel2.alloc hlo2 _) hg6 (by rw [World.size_alloc]; omega) (fun j hj => by injection hj with hj; omega)
          have f6 : ∀ {u : Value} {lu : List (Nat × Nat)}, Row w.heap.size W2 u lu → Dj v6 u := fun hu => by
            rcases ho6 with ho6 | ho6
            · exact Dj.fresh (H := W2.heap.size) ⟨_, ho6, Nat.le_refl _⟩ (fun j hj => (hu.lt j hj).2)
            · exact Dj.fresh (H := W2.heap.size) ⟨_, ho6, by rw [World.size_alloc]; omega⟩ (fun j hj => (hu.lt j hj).2)
          have HR4 : Hid (Row w.heap.size W4 v5 (zfs l n ++ [zf l n]) ∧ Row w.heap.size W4 v6 (zf l n :: (zfs l n).reverse) ∧ Row w.heap.size W4 u7 ((zfs l n).map fun p => spin p k)) := ⟨ha4, hr6, hc4⟩
          have HD4 : Hid (Dj v5 v6 ∧ Dj v5 u7 ∧ Dj v6 u7) := ⟨(f6 HR2.out.1).symm, HD.out.2.1, f6 HR2.out.2.2⟩
          clear f6 fr ha4 hc4 hr6 hg6 ho6
          clear HR2 HD hbel2 hlo2
          have hlo4 : w.heap.size ≤ W4.heap.size := hbel4.size
          go_wp2_with (first
            | (at_builtin; refine halt_here ?_)
            | (go_at_call 10; refine (spin_is _ _ _ _).mono ?_; rintro e w'' ⟨rfl, hw⟩; rw [hw]; clear hw))
          refine append_one rfl _ _ (by rfl) w.heap.size u7 ((zfs l n).map fun p => spin p k) (by rfl) (HR4.out.2.2.alloc _) (spin (zf l n) k) W4.heap.size (by rfl) ((World.cell?_alloc_new _ _ _ 0).trans rfl) (by rw [List.length_map, HLN.out]; omega) (by rw [World.size_alloc]; omega) ?_
          intro v7 W6 hr7 hg7 ho7
          have ha6 : Row w.heap.size W6 v5 (zfs l n ++ [zf l n]) := (HR4.out.1.alloc _).kept hg7 HD4.out.2.1
          have hb6 : Row w.heap.size W6 v6 (zf l n :: (zfs l n).reverse) := (HR4.out.2.1.alloc _).kept hg7 HD4.out.2.2
          have hbel6 : Below w.heap.size w W6 := Below.grown (hbel4.alloc hlo4 _) hg7 (by rw [World.size_alloc]; omega) (fun j hj => (HR4.out.2.2.lt j hj).1)
          have e2 : Dj v5 v7 := (HD4.out.2.1.symm.step ho7 (fun j hj => ((HR4.out.1.alloc _).lt j hj).2)).symm
          have e3 : Dj v6 v7 := (HD4.out.2.2.symm.step ho7 (fun j hj => ((HR4.out.2.1.alloc _).lt j hj).2)).symm
          have HE : Hid (Row w.heap.size W6 v5 (zfs l n ++ [zf l n]) ∧ Row w.heap.size W6 v6 (zf l n :: (zfs l n).reverse) ∧ Row w.heap.size W6 v7 (((zfs l n).map fun p => spin p k) ++ [spin (zf l n) k]) ∧ Below w.heap.size w W6 ∧ Dj v5 v6 ∧ Dj v5 v7 ∧ Dj v6 v7) := ⟨ha6, hb6, hr7, hbel6, HD4.out.1, e2, e3⟩
          clear ha6 hb6 hr7 hbel6 e2 e3 hg7 ho7 HR4 HD4 hbel4 hlo4
          go_wp2
          go_roundg (gk - 1)
          case measure => omega
          case rel =>
            obtain ⟨x1, x2, x3, x4, x5, x6, x7⟩ := HE.out
            refine ⟨n + 1, rfl, by omega, ?_, ?_, ?_, x4, fun h => absurd h (by omega), x5, x6, x7⟩
            · rw [zfs_succ]
              exact x1
            · rw [zfs_succ, List.reverse_append]
              exact x2
            · rw [zfs_succ, List.map_append]
              exact x3
      · have hlt' : ¬ (n : Int) < (L : Int) := by omega
        obtain rfl : n = L := by omega
        have la_ := zfs_length l n
        obtain ⟨aa, ca, rfl, la⟩ := ha.lies_n la_
        obtain ⟨ab, cb, rfl, lb⟩ := hb.lies_n (n := n) (by rw [List.length_reverse]; exact la_)
        obtain ⟨ac, cc, rfl, lc⟩ := hc.lies_n (n := n) (by rw [List.length_map]; exact la_)
        obtain ⟨SA, hA, hA'⟩ := ic_some (sums_a l n (by omega))
        obtain ⟨SB, hB, hB'⟩ := ic_some (sums_b l n (by omega))
        obtain ⟨SC, hC, hC'⟩ := ic_some (sums_c l n (by omega) k)
        obtain ⟨⟨o1, o2⟩, o3, o4⟩ := sums_eq (by omega) hA' hB' hC'
        have hk4 : spin (SA.1, SA.2) k = spin SA k := rfl
        clear ha hb hc hA' hB' hC'
        have HA : Hid (csum (crd (0, 0)) (zfs l n) = (some SA.1, some SA.2)) := hA
        have HB : Hid (csum (crd (0, 0)) (zfs l n).reverse = (some SB.1, some SB.2)) := hB
        have HC : Hid (csum (crd (0, 0)) ((zfs l n).map fun p => spin p k) = (some SC.1, some SC.2)) := hC
        have HL1 : Hid ((zfs l n).length = n) := la_
        have HL2 : Hid ((zfs l n).reverse.length = n) := by rw [List.length_reverse]; exact la_
        have HL3 : Hid (((zfs l n).map fun p => spin p k).length = n) := by rw [List.length_map]; exact la_
        clear hA hB hC la_
        go_wp2_with (first
          | (go_at_call 11; refine (told_is _).mono ?_; rintro e w1 ⟨rfl, bel⟩; have la1 := la.below bel; have lb1 := lb.below bel; have lc1 := lc.below bel; have hw1 := hbel.trans (bel.mono hbel.size); clear bel)
          | (go_at_call_of 16 aa; refine (Sum_at aa ca (zfs l n) n HL1.out (by omega) SA HA.out _ ?_).mono ?_; exact fun j v hj => la1 j v hj; rintro e w'' ⟨rfl, m, rfl⟩)
          | (go_at_call_of 16 ab; refine (Sum_at ab cb (zfs l n).reverse n HL2.out (by omega) SB HB.out _ ?_).mono ?_; exact fun j v hj => lb1 j v hj; rintro e w'' ⟨rfl, m, rfl⟩)
          | (go_at_call_of 16 ac; refine (Sum_at ac cc ((zfs l n).map fun p => spin p k) n HL3.out (by omega) SC HC.out _ ?_).mono ?_; exact fun j v hj => lc1 j v hj; rintro e w'' ⟨rfl, m, rfl⟩)
          | (go_at_call 10; refine (spin_is _ _ _ _).mono ?_; rintro e w'' ⟨rfl, hw⟩; rw [hw]; clear hw))
        go_ret
        exact ⟨rfl, below_drewN hw1 _⟩
end Go.Proofs.Ytmolpckfemcieaa
