/-
  The walk of QuadShift.
  Conditions: none.
-/
import Derived.Test.YtmolpckfemcieaaA5
import Derived.Test.YtmolpckfemcieaaZq
namespace Go.Proofs.Ytmolpckfemcieaa
open Go.RowKit Go.Proofs.YtmolpckfemcieaaFl Go.Proofs.YtmolpckfemcieaaG Go.Proofs.YtmolpckfemcieaaIv
set_option maxHeartbeats 1000000

/-- The numbers of a row of whole numbers. -/
def rowX (l : List Int) (j : Nat) : Nat × Nat := (floatOfInt .f64 (small (l.getD (2 * j) 0)), floatOfInt .f64 (small (l.getD (2 * j + 1) 0)))
def rowZ (l : List Int) (j : Nat) : Int × Int := (small (l.getD (2 * j) 0), small (l.getD (2 * j + 1) 0))
theorem rowZ_bd (l : List Int) (j : Nat) : zbd 1000 (rowZ l j) := by
  have h1 := small_bd (l.getD (2 * j) 0)
  have h2 := small_bd (l.getD (2 * j + 1) 0)
  exact ⟨by show (small _).natAbs ≤ 1000; omega, by show (small _).natAbs ≤ 1000; omega⟩
theorem rowX_ic (l : List Int) (j : Nat) : IC (crd (rowX l j)) (rowZ l j) := by
  have h := rowZ_bd l j
  exact ⟨io_of (iv_of_int _ (Nat.lt_of_le_of_lt h.1 (by omega))), io_of (iv_of_int _ (Nat.lt_of_le_of_lt h.2 (by omega)))⟩
theorem shift_eq {l : List Int} {x y f g : Nat → Nat × Nat} (hx : ∀ j, j < 4 → x j = rowX l j) (hy : ∀ j, j < 4 → y ((j + 1) % 4) = x j) (hf : ∀ k, k < 4 → crd (f k) = part (fun j => crd (x j)) (-1 * (k : Nat)) 3)
    (hg : ∀ k, k < 4 → crd (g k) = part (fun j => crd (y j)) (-1 * (k : Nat)) 3) (k : Nat) (hk : k < 4) :
    FloatKind.f64.format.order (g k).1 (spin ((f k).1, (f k).2) (-(k : Int))).1 = some .eq ∧ FloatKind.f64.format.order (g k).2 (spin ((f k).1, (f k).2) (-(k : Int))).2 = some .eq := by
  have ix : ∀ j, j < 4 → IC (crd (x j)) (rowZ l j) := fun j hj => by rw [hx j hj]; exact rowX_ic l j
  have hb : ∀ j, j < 4 → zbd 1000 (rowZ l j) := fun j _ => rowZ_bd l j
  let Y : Nat → Int × Int := fun j => rowZ l ((j + 3) % 4)
  have iy : ∀ j, j < 4 → IC (crd (y j)) (Y j) := fun j hj => by
    have e := hy ((j + 3) % 4) (by omega)
    rw [show ((j + 3) % 4 + 1) % 4 = j by omega] at e
    rw [e]
    exact ix _ (by omega)
  have hY : ∀ j, j < 4 → Y ((j + 1) % 4) = rowZ l j := fun j hj => by
    show rowZ l (((j + 1) % 4 + 3) % 4) = _
    rw [show ((j + 1) % 4 + 3) % 4 = j by omega]
  have i1 := ic_part (B := 1000) (by omega) hb ix (-1 * (k : Nat)) 3 (by omega)
  have i2 := ic_part (B := 1000) (by omega) (fun j hj => rowZ_bd l _) iy (-1 * (k : Nat)) 3 (by omega)
  rw [← hf k hk] at i1
  rw [← hg k hk, zshift hY k hk] at i2
  have i3 := ic_spin i1 (-(k : Int))
  rw [← crd_spin] at i3
  exact ic_eq i2 i3

theorem QuadShift_is (a : Option Addr) (cap : Nat) (l : List Int) (hm : l.length ≤ 9223372036854775807) (w : World) (h : LiesI w a l) : Calls Try.prog 4 #[.slice a l.length cap] w fun e w' => e = .returned (.bool true) ∧ Below w.heap.size w w' := by
  obtain ⟨L, hL⟩ : ∃ L, L = l.length := ⟨_, rfl⟩
  rw [← hL]
  rw [← hL] at hm
  have HL : Hid (L = l.length) := hL
  clear hL
  by_cases h8 : L < 8
  · have h8' : (L : Int) < 8 := by omega
    go_enter Try.func4, Try.ntmps4
    go_wp2_with (go_at_call 11; refine (told_is _).mono ?_; rintro e w'' ⟨rfl, bel⟩)
    go_ret
    exact ⟨rfl, bel⟩
  · have h8' : ¬ (L : Int) < 8 := by omega
    obtain ⟨b, off, rfl⟩ := h.first (by have := HL.out; omega)
    have hbw : b < w.heap.size := by
      obtain ⟨b', off', e, hc⟩ := h 0 (l.getD 0 0) (by have := HL.out; rw [List.getElem?_eq_getElem (by omega), List.getD_eq_getElem?_getD, List.getElem?_eq_getElem (by omega)]; rfl)
      injection e with e
      injection e with e1 e2
      subst e1
      exact World.block_lt_of_cell? w _ hc
    have hne : ∀ (k j : Nat), (⟨w.heap.size, k, none⟩ : Addr) ≠ ⟨b, j, none⟩ := fun k j e => by
      injection e with e
      omega
    go_enter Try.func4, Try.ntmps4
    go_wp2
    go_loopg [5] 4 (fun g v5 wr => ∃ (i : Nat) (x z : Nat → Nat × Nat), v5 = .int .i64 i ∧ g + i = 4 ∧ Four wr w.heap.size x ∧ Four wr (w.heap.size + 1) z ∧ Below w.heap.size w wr ∧ wr.heap.size = w.heap.size + 2 ∧ ∀ j, j < i → x j = rowX l j)
    case atStart =>
      refine ⟨0, fun _ => (0, 0), fun _ => (0, 0), rfl, rfl, ?_, ?_, ?_, ?_, fun j hj => absurd hj (by omega)⟩
      · exact (Four.new _ _ rfl (fun _ => (0, 0)) 33).old (by simp only [World.size_alloc]; omega) _
      · exact Four.new _ _ (by simp only [World.size_alloc]) (fun _ => (0, 0)) 33
      · exact ((Below.refl _ _).alloc (Nat.le_refl _) _).alloc (by simp only [World.size_alloc]; omega) _
      · simp only [World.size_alloc]
    case round =>
      obtain ⟨i, x, z, e5, hg, hx, hz, hb, hs, hdone⟩ := hrel
      by_cases hi : i < 4
      · have : i = 0 ∨ i = 1 ∨ i = 2 ∨ i = 3 := by omega
        rcases this with rfl | rfl | rfl | rfl
        · obtain rfl : u5 = .int .i64 0 := e5
          have hl0 := h.at_ hb (j := 0) (by have := HL.out; omega)
          rw [Nat.add_zero] at hl0
          have hl1 := h.at_ hb (j := 1) (by have := HL.out; omega)
          have b0 : (L = 0) = False := eq_false (by omega)
          have b1 : ((L : Int) ≤ 1) = False := eq_false (by omega)
          have d0 : 0 < L := by omega
          have d1 : (1 : Int) < (L : Int) := by omega
          have q0 : IntKind.i64.wrap 0 = 0 := by rw [IntKind.wrap_i64]; omega
          have q1 : IntKind.i64.wrap 1 = 1 := by rw [IntKind.wrap_i64]; omega
          have hxi := hx.cell 0 (by omega)
          have hxf := hx.free 0
          go_wp2
          go_region_held3 (fun w' => w'.cell? ⟨b, off, none⟩ = some (.int .i64 (l.getD 0 0)) ∧ w'.cell? ⟨b, off + 1, none⟩ = some (.int .i64 (l.getD 1 0))) (first | (exact ⟨hl0, hl1⟩) | (simp only [World.cell?_drew, World.cell?_setCell_other _ _ _ _ (hne _ _)]; exact ⟨hl0, hl1⟩)) (fail)
          all_goals
            go_wp2
            go_roundg (gk - 1)
            case measure => omega
            case rel =>
              refine ⟨1, upd x 0 (rowX l 0), z, rfl, by omega, (hx.drew.put (k := 0) (by omega) _ _), (hz.drew.keep (by show w.heap.size ≠ w.heap.size + 1; omega) _), (hb.drew.setCell (by show w.heap.size ≤ w.heap.size; omega) _), by rw [World.size_drew, World.size_setCell]; exact hs, fun j hj => ?_⟩
              by_cases e : j = 0
              · rw [e, upd_same]
              · rw [upd_other e]
                exact hdone j (by omega)
        · obtain rfl : u5 = .int .i64 1 := e5
          have hl0 := h.at_ hb (j := 2) (by have := HL.out; omega)
          have hl1 := h.at_ hb (j := 3) (by have := HL.out; omega)
          have b0 : ((L : Int) ≤ 2) = False := eq_false (by omega)
          have b1 : ((L : Int) ≤ 3) = False := eq_false (by omega)
          have d0 : (2 : Int) < (L : Int) := by omega
          have d1 : (3 : Int) < (L : Int) := by omega
          have q0 : IntKind.i64.wrap 2 = 2 := by rw [IntKind.wrap_i64]; omega
          have q1 : IntKind.i64.wrap 3 = 3 := by rw [IntKind.wrap_i64]; omega
          have hxi := hx.cell 1 (by omega)
          have hxf := hx.free 1
          go_wp2
          go_region_held3 (fun w' => w'.cell? ⟨b, off + 2, none⟩ = some (.int .i64 (l.getD 2 0)) ∧ w'.cell? ⟨b, off + 3, none⟩ = some (.int .i64 (l.getD 3 0))) (first | (exact ⟨hl0, hl1⟩) | (simp only [World.cell?_drew, World.cell?_setCell_other _ _ _ _ (hne _ _)]; exact ⟨hl0, hl1⟩)) (fail)
          all_goals
            go_wp2
            go_roundg (gk - 1)
            case measure => omega
            case rel =>
              refine ⟨2, upd x 1 (rowX l 1), z, rfl, by omega, (hx.drew.put (k := 1) (by omega) _ _), (hz.drew.keep (by show w.heap.size ≠ w.heap.size + 1; omega) _), (hb.drew.setCell (by show w.heap.size ≤ w.heap.size; omega) _), by rw [World.size_drew, World.size_setCell]; exact hs, fun j hj => ?_⟩
              by_cases e : j = 1
              · rw [e, upd_same]
              · rw [upd_other e]
                exact hdone j (by omega)
        · obtain rfl : u5 = .int .i64 2 := e5
          have hl0 := h.at_ hb (j := 4) (by have := HL.out; omega)
          have hl1 := h.at_ hb (j := 5) (by have := HL.out; omega)
          have b0 : ((L : Int) ≤ 4) = False := eq_false (by omega)
          have b1 : ((L : Int) ≤ 5) = False := eq_false (by omega)
          have d0 : (4 : Int) < (L : Int) := by omega
          have d1 : (5 : Int) < (L : Int) := by omega
          have q0 : IntKind.i64.wrap 4 = 4 := by rw [IntKind.wrap_i64]; omega
          have q1 : IntKind.i64.wrap 5 = 5 := by rw [IntKind.wrap_i64]; omega
          have hxi := hx.cell 2 (by omega)
          have hxf := hx.free 2
          go_wp2
          go_region_held3 (fun w' => w'.cell? ⟨b, off + 4, none⟩ = some (.int .i64 (l.getD 4 0)) ∧ w'.cell? ⟨b, off + 5, none⟩ = some (.int .i64 (l.getD 5 0))) (first | (exact ⟨hl0, hl1⟩) | (simp only [World.cell?_drew, World.cell?_setCell_other _ _ _ _ (hne _ _)]; exact ⟨hl0, hl1⟩)) (fail)
          all_goals
            go_wp2
            go_roundg (gk - 1)
            case measure => omega
            case rel =>
              refine ⟨3, upd x 2 (rowX l 2), z, rfl, by omega, (hx.drew.put (k := 2) (by omega) _ _), (hz.drew.keep (by show w.heap.size ≠ w.heap.size + 1; omega) _), (hb.drew.setCell (by show w.heap.size ≤ w.heap.size; omega) _), by rw [World.size_drew, World.size_setCell]; exact hs, fun j hj => ?_⟩
              by_cases e : j = 2
              · rw [e, upd_same]
              · rw [upd_other e]
                exact hdone j (by omega)
        · obtain rfl : u5 = .int .i64 3 := e5
          have hl0 := h.at_ hb (j := 6) (by have := HL.out; omega)
          have hl1 := h.at_ hb (j := 7) (by have := HL.out; omega)
          have b0 : ((L : Int) ≤ 6) = False := eq_false (by omega)
          have b1 : ((L : Int) ≤ 7) = False := eq_false (by omega)
          have d0 : (6 : Int) < (L : Int) := by omega
          have d1 : (7 : Int) < (L : Int) := by omega
          have q0 : IntKind.i64.wrap 6 = 6 := by rw [IntKind.wrap_i64]; omega
          have q1 : IntKind.i64.wrap 7 = 7 := by rw [IntKind.wrap_i64]; omega
          have hxi := hx.cell 3 (by omega)
          have hxf := hx.free 3
          go_wp2
          go_region_held3 (fun w' => w'.cell? ⟨b, off + 6, none⟩ = some (.int .i64 (l.getD 6 0)) ∧ w'.cell? ⟨b, off + 7, none⟩ = some (.int .i64 (l.getD 7 0))) (first | (exact ⟨hl0, hl1⟩) | (simp only [World.cell?_drew, World.cell?_setCell_other _ _ _ _ (hne _ _)]; exact ⟨hl0, hl1⟩)) (fail)
          all_goals
            go_wp2
            go_roundg (gk - 1)
            case measure => omega
            case rel =>
              refine ⟨4, upd x 3 (rowX l 3), z, rfl, by omega, (hx.drew.put (k := 3) (by omega) _ _), (hz.drew.keep (by show w.heap.size ≠ w.heap.size + 1; omega) _), (hb.drew.setCell (by show w.heap.size ≤ w.heap.size; omega) _), by rw [World.size_drew, World.size_setCell]; exact hs, fun j hj => ?_⟩
              by_cases e : j = 3
              · rw [e, upd_same]
              · rw [upd_other e]
                exact hdone j (by omega)
      · obtain rfl : i = 4 := by omega
        obtain rfl : u5 = .int .i64 4 := e5
        have HD : Hid (∀ j, j < 4 → x j = rowX l j) := hdone
        clear hdone
        go_wp2
        go_loopg [6] 4 (fun g v6 wr => ∃ (i : Nat) (y : Nat → Nat × Nat), v6 = .int .i64 i ∧ g + i = 4 ∧ Four wr w.heap.size x ∧ Four wr (w.heap.size + 1) y ∧ Below w.heap.size w wr ∧ wr.heap.size = w.heap.size + 2 ∧ ∀ j, j < i → y ((j + 1) % 4) = x j)
        case atStart => exact ⟨0, z, rfl, rfl, hx, hz, hb, hs, fun j hj => absurd hj (by omega)⟩
        case round =>
          clear hx hz hb hs
          obtain ⟨i, y, e6, hg, hx, hy, hb, hs, hyd⟩ := hrel
          by_cases hi : i < 4
          · have : i = 0 ∨ i = 1 ∨ i = 2 ∨ i = 3 := by omega
            rcases this with rfl | rfl | rfl | rfl
            · obtain rfl : u6 = .int .i64 0 := e6
              have hxi := hx.cell 0 (by omega)
              have hyi := hy.cell 1 (by omega)
              have hyf := hy.free 1
              go_wp2
              go_roundg (gk - 1)
              case measure => omega
              case rel =>
                refine ⟨1, upd y 1 (x 0), rfl, by omega, hx.keep (by show w.heap.size + 1 ≠ w.heap.size; omega) _, hy.put (k := 1) (by omega) _ _, hb.setCell (by show w.heap.size ≤ w.heap.size + 1; omega) _, by rw [World.size_setCell]; exact hs, fun j hj => ?_⟩
                have : j = 0 := by omega
                rcases this with rfl
                · exact upd_same _ _ _
            · obtain rfl : u6 = .int .i64 1 := e6
              have hxi := hx.cell 1 (by omega)
              have hyi := hy.cell 2 (by omega)
              have hyf := hy.free 2
              go_wp2
              go_roundg (gk - 1)
              case measure => omega
              case rel =>
                refine ⟨2, upd y 2 (x 1), rfl, by omega, hx.keep (by show w.heap.size + 1 ≠ w.heap.size; omega) _, hy.put (k := 2) (by omega) _ _, hb.setCell (by show w.heap.size ≤ w.heap.size + 1; omega) _, by rw [World.size_setCell]; exact hs, fun j hj => ?_⟩
                have : j = 0 ∨ j = 1 := by omega
                rcases this with rfl | rfl
                · exact (upd_other (by omega)).trans (hyd 0 (by omega))
                · exact upd_same _ _ _
            · obtain rfl : u6 = .int .i64 2 := e6
              have hxi := hx.cell 2 (by omega)
              have hyi := hy.cell 3 (by omega)
              have hyf := hy.free 3
              go_wp2
              go_roundg (gk - 1)
              case measure => omega
              case rel =>
                refine ⟨3, upd y 3 (x 2), rfl, by omega, hx.keep (by show w.heap.size + 1 ≠ w.heap.size; omega) _, hy.put (k := 3) (by omega) _ _, hb.setCell (by show w.heap.size ≤ w.heap.size + 1; omega) _, by rw [World.size_setCell]; exact hs, fun j hj => ?_⟩
                have : j = 0 ∨ j = 1 ∨ j = 2 := by omega
                rcases this with rfl | rfl | rfl
                · exact (upd_other (by omega)).trans (hyd 0 (by omega))
                · exact (upd_other (by omega)).trans (hyd 1 (by omega))
                · exact upd_same _ _ _
            · obtain rfl : u6 = .int .i64 3 := e6
              have hxi := hx.cell 3 (by omega)
              have hyi := hy.cell 0 (by omega)
              have hyf := hy.free 0
              go_wp2
              go_roundg (gk - 1)
              case measure => omega
              case rel =>
                refine ⟨4, upd y 0 (x 3), rfl, by omega, hx.keep (by show w.heap.size + 1 ≠ w.heap.size; omega) _, hy.put (k := 0) (by omega) _ _, hb.setCell (by show w.heap.size ≤ w.heap.size + 1; omega) _, by rw [World.size_setCell]; exact hs, fun j hj => ?_⟩
                have : j = 0 ∨ j = 1 ∨ j = 2 ∨ j = 3 := by omega
                rcases this with rfl | rfl | rfl | rfl
                · exact (upd_other (by omega)).trans (hyd 0 (by omega))
                · exact (upd_other (by omega)).trans (hyd 1 (by omega))
                · exact (upd_other (by omega)).trans (hyd 2 (by omega))
                · exact upd_same _ _ _
          · obtain rfl : i = 4 := by omega
            obtain rfl : u6 = .int .i64 4 := e6
            go_upto_region 12 with fail
            have hold : Hold2 w w.heap.size (w.heap.size + 1) x y wr := ⟨hx, hy, hb, by omega⟩
            go_cut [7, 8] from 53 to 56 (fun v7 v8 wx => ∃ (b1 b2 : Nat) (f g : Nat → Nat × Nat), v7 = .pointer (some ⟨b1, 0, none⟩) ∧ v8 = .pointer (some ⟨b2, 0, none⟩) ∧ Four wx b1 f ∧ Four wx b2 g ∧ (∀ k, k < 4 → crd (f k) = part (fun j => crd (x j)) (-1 * (k : Nat)) 3) ∧ (∀ k, k < 4 → crd (g k) = part (fun j => crd (y j)) (-1 * (k : Nat)) 3) ∧ Below w.heap.size w wx)
            case first =>
              clear hx hy hyd HD hb h hne hs
              have hs0 := hold.size
              have n1 : ∀ n : Nat, n < n + 1 + 1 := fun n => by omega
              have n2 : ∀ n : Nat, n < n + 2 := fun n => by omega
              go_region_held3 (fun w' => Hold2 w w.heap.size (w.heap.size + 1) x y w' ∧ w'.cell? ⟨w.heap.size, 0, none⟩ = some (.complex .f64 (x 0).1 (x 0).2) ∧ w'.cell? ⟨w.heap.size, 1, none⟩ = some (.complex .f64 (x 1).1 (x 1).2) ∧ w'.cell? ⟨w.heap.size, 2, none⟩ = some (.complex .f64 (x 2).1 (x 2).2) ∧ w'.cell? ⟨w.heap.size, 3, none⟩ = some (.complex .f64 (x 3).1 (x 3).2) ∧ w'.cell? ⟨w.heap.size + 1, 0, none⟩ = some (.complex .f64 (y 0).1 (y 0).2) ∧ w'.cell? ⟨w.heap.size + 1, 1, none⟩ = some (.complex .f64 (y 1).1 (y 1).2) ∧ w'.cell? ⟨w.heap.size + 1, 2, none⟩ = some (.complex .f64 (y 2).1 (y 2).2) ∧ w'.cell? ⟨w.heap.size + 1, 3, none⟩ = some (.complex .f64 (y 3).1 (y 3).2)) ((refine Hold2.all ?_; repeat' (first | (with_reducible assumption) | (with_reducible refine Hold2.drew ?_) | (with_reducible refine Hold2.alloc ?_ _) | (with_reducible refine Hold2.set1 ?_ (by omega) (by omega) ?_ _) | omega | (simp only [World.size_alloc, World.size_drew]; omega))))
                (first | (go_at_call_of 15 (x 0); refine (Four_is x _).mono ?_; rintro e w' ⟨f, rfl, hf, hbf⟩; have hh := ‹Hold2 w _ _ x y _ ∧ _›; have hsz := Nat.le_trans hh.1.size hbf.size; have hol := hh.1.call hbf; have hcf := fun (n j : Nat) (hn : n < _) => hbf.cell (p := ⟨n, j, none⟩) hn; have hff := fun (n j : Nat) (hn : n < _) => hbf.frozen (p := ⟨n, j, none⟩) hn; have hsf := fun (n : Nat) (hn : n < _) => Nat.lt_of_lt_of_le hn hbf.size; have hsf1 : ∀ n : Nat, n < _ → n < w'.heap.size + 1 := fun n hn => Nat.lt_succ_of_lt (Nat.lt_of_lt_of_le hn hbf.size); have hsf2 : ∀ n : Nat, n < _ → n < w'.heap.size + 1 + 1 := fun n hn => Nat.lt_succ_of_lt (Nat.lt_succ_of_lt (Nat.lt_of_lt_of_le hn hbf.size)); (try have k0 : wr.heap.size < w'.heap.size := Nat.lt_of_lt_of_le (by first | assumption | (simp only [World.size_alloc]; omega) | (simp only [World.size_alloc, World.size_drew]; omega)) hbf.size); (try have k1 : wr.heap.size + 1 < w'.heap.size := Nat.lt_of_lt_of_le (by first | assumption | (simp only [World.size_alloc]; omega) | (simp only [World.size_alloc, World.size_drew]; omega)) hbf.size); clear hh) | (go_at_call_of 15 (y 0); refine (Four_is y _).mono ?_; rintro e w' ⟨g, rfl, hgg, hbg⟩; have hh := ‹Hold2 w _ _ x y _ ∧ _›; have hsz := Nat.le_trans hh.1.size hbg.size; have hol := hh.1.call hbg; have hcg := fun (n j : Nat) (hn : n < _) => hbg.cell (p := ⟨n, j, none⟩) hn; have hfg := fun (n j : Nat) (hn : n < _) => hbg.frozen (p := ⟨n, j, none⟩) hn; have hsg := fun (n : Nat) (hn : n < _) => Nat.lt_of_lt_of_le hn hbg.size; have hsg1 : ∀ n : Nat, n < _ → n < w'.heap.size + 1 := fun n hn => Nat.lt_succ_of_lt (Nat.lt_of_lt_of_le hn hbg.size); have hsg2 : ∀ n : Nat, n < _ → n < w'.heap.size + 1 + 1 := fun n hn => Nat.lt_succ_of_lt (Nat.lt_succ_of_lt (Nat.lt_of_lt_of_le hn hbg.size)); (try have k0 : wr.heap.size < w'.heap.size := Nat.lt_of_lt_of_le (by first | assumption | (simp only [World.size_alloc]; omega) | (simp only [World.size_alloc, World.size_drew]; omega)) hbg.size); (try have k1 : wr.heap.size + 1 < w'.heap.size := Nat.lt_of_lt_of_le (by first | assumption | (simp only [World.size_alloc]; omega) | (simp only [World.size_alloc, World.size_drew]; omega)) hbg.size); clear hh))
              all_goals
                have hh := (‹Hold2 w _ _ x y _ ∧ _›).1.below
                clear hold
                go_wp2_with fail
                go_meet
                case rel =>
                  refine ⟨_, _, f, g, rfl, rfl, four_mk ?_ ?_ ?_ ?_ (fun j => ?_), four_mk ?_ ?_ ?_ ?_ (fun j => ?_), hf, hgg, hh⟩
                  all_goals first
                    | (go_simp; done)
                    | (go_simp; refine World.cell?_setCell_same _ _ _ (u := .complex .f64 0 0) ?_; go_simp; done)
                    | go_simp
            case rest =>
              clear hx hy hs hb hold
              obtain ⟨b1, b2, f, g, rfl, rfl, hf4, hg4, hfp, hgp, hbel⟩ := hcut
              have heq : ∀ k, k < 4 → FloatKind.f64.format.order (g k).1 (spin ((f k).1, (f k).2) (-(k : Int))).1 = some .eq ∧ FloatKind.f64.format.order (g k).2 (spin ((f k).1, (f k).2) (-(k : Int))).2 = some .eq := shift_eq HD.out hyd hfp hgp
              clear hyd HD hfp hgp
              go_wp2
              go_loopg [9] 4 (fun q v9 wr => ∃ (k : Nat), v9 = .int .i64 k ∧ q + k = 4 ∧ Four wr b1 f ∧ Four wr b2 g ∧ Below w.heap.size w wr)
              case atStart => exact ⟨0, rfl, rfl, hf4, hg4, hbel⟩
              case round =>
                clear hf4 hg4 hbel
                obtain ⟨k, rfl, hq, hf4, hg4, hbel⟩ := hrel
                by_cases hk : k < 4
                · have hk0 : (0 : Int) ≤ (k : Int) := by omega
                  have hk4 : (k : Int) < 4 := by omega
                  have hc1 := hf4.cell k hk
                  have hc2 := hg4.cell k hk
                  obtain ⟨o1, o2⟩ := heq k hk
                  have HE : Hid (∀ k, k < 4 → FloatKind.f64.format.order (g k).1 (spin ((f k).1, (f k).2) (-(k : Int))).1 = some .eq ∧ FloatKind.f64.format.order (g k).2 (spin ((f k).1, (f k).2) (-(k : Int))).2 = some .eq) := heq
                  clear heq
                  have hwk : IntKind.i64.wrap (-(k : Int)) = -(k : Int) := by rw [IntKind.wrap_i64]; omega
                  go_wp2
                  go_region_held3 (fun w' => w'.cell? ⟨b1, k, none⟩ = some (.complex .f64 (f k).1 (f k).2) ∧ w'.cell? ⟨b2, k, none⟩ = some (.complex .f64 (g k).1 (g k).2)) (go_keep)
                    (first | (go_at_call 10; refine (spin_is _ _ _ _).mono ?_; rintro e w' ⟨rfl, rfl⟩))
                  all_goals go_wp2
                  all_goals
                    go_roundg (gk - 1)
                    case measure => omega
                    case rel => exact ⟨k + 1, rfl, by omega, hf4.drew, hg4.drew, hbel.drew⟩
                · obtain rfl : k = 4 := by omega
                  go_wp2_with (go_at_call 11; refine (told_is _).mono ?_; rintro e w'' ⟨rfl, bel⟩)
                  go_ret
                  exact ⟨rfl, hbel.trans (bel.mono hbel.size)⟩
end Go.Proofs.Ytmolpckfemcieaa
