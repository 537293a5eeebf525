/-
  The walk of QuadFour.
  Conditions: none.
-/
import Derived.Test.YtmolpckfemcieaaA7
import Derived.Deep.RegionWith
import Derived.Deep.CutRange
namespace Go.Proofs.Ytmolpckfemcieaa
open Go.RowKit Go.Proofs.YtmolpckfemcieaaFl Go.Proofs.YtmolpckfemcieaaG
set_option maxHeartbeats 1000000

def fz (l : List Nat) (j : Nat) : Nat × Nat := (l.getD (2 * j) 0, l.getD (2 * j + 1) 0)
def fzs (l : List Nat) (n : Nat) : List (Nat × Nat) := (List.range n).map (fz l)
theorem fzs_succ (l : List Nat) (n : Nat) : fzs l (n + 1) = fzs l n ++ [fz l n] := by
  unfold fzs
  rw [List.range_succ, List.map_append]
  rfl
theorem fzs_length (l : List Nat) (n : Nat) : (fzs l n).length = n := by
  unfold fzs
  simp
theorem Lies.drewN {w : World} {a : Option Addr} {l : List (Nat × Nat)} (h : Lies w a l) (k : Nat) : Lies (w.drewN k) a l := fun j v hj => h j v hj

theorem Sum_n (a : Option Addr) (cap : Nat) (l : List (Nat × Nat)) (N : Nat) (hN : l.length = N) (hl : N < 9223372036854775807) (w : World) (h : Lies w a l) :
    Calls Try.prog 16 #[.slice a N cap] w fun e w' => ∃ r i m, e = .returned (.complex .f64 r i) ∧ w' = w.drewN m ∧ crd (r, i) = csum (crd (0, 0)) l := by
  subst hN
  exact Sum_is a cap l hl w h
theorem ref_Sum_n (a : Option Addr) (cap : Nat) (l : List (Nat × Nat)) (N : Nat) (hN : l.length = N) (hl : N < 9223372036854775807) (w : World) (h : Lies w a l) :
    Calls Try.prog 21 #[.slice a N cap] w fun e w' => ∃ r i m, e = .returned (.complex .f64 r i) ∧ w' = w.drewN m ∧ crd (r, i) = csum (crd (0, 0)) l := by
  subst hN
  exact ref_Sum_is a cap l hl w h

theorem QuadFour_is (a : Option Addr) (cap : Nat) (l : List Nat) (hm : l.length ≤ 9223372036854775807) (w : World) (h : LiesF w a l) : Calls Try.prog 6 #[.slice a l.length cap] w fun e w' => e = .returned (.bool true) ∧ Below w.heap.size w w' := by
  obtain ⟨L, hL⟩ : ∃ L, L = l.length := ⟨_, rfl⟩
  rw [← hL]
  rw [← hL] at hm
  have HL : Hid (L = l.length) := hL
  clear hL
  by_cases h8 : 100 < L
  · have h8' : (100 : Int) < (L : Int) := by omega
    go_enter Try.func6, Try.ntmps6
    go_wp2_with (go_at_call 11; refine (told_is _).mono ?_; rintro e w'' ⟨rfl, bel⟩)
    go_ret
    exact ⟨rfl, bel⟩
  · have h8' : ¬ (100 : Int) < (L : Int) := by omega
    go_enter Try.func6, Try.ntmps6
    go_wp2
    go_loopg [4, 5] L (fun q v4 v5 wr => ∃ (m n : Nat) (x : Nat → Nat × Nat), v5 = .int .i64 m ∧ m = 2 * n ∧ m ≤ L ∧ q + m = L ∧ Four wr w.heap.size x ∧ Row (w.heap.size + 1) wr v4 (fzs l n) ∧ Below w.heap.size w wr ∧ w.heap.size + 1 ≤ wr.heap.size)
    case atStart =>
      refine ⟨0, 0, fun _ => (0, 0), rfl, rfl, by omega, rfl, Four.new _ _ rfl (fun _ => (0, 0)) 33, World.ownsRow_nil _ _ _ _, (Below.refl _ _).alloc (Nat.le_refl _) _, by rw [World.size_alloc]; omega⟩
    case round =>
      obtain ⟨m, n, x, rfl, hmn, hmL, hq, hx, hr, hbel, hsz⟩ := hrel
      have HM : Hid (m = 2 * n) := hmn
      have HR : Hid (Row (w.heap.size + 1) wr u4 (fzs l n)) := hr
      have HLN : Hid ((fzs l n).length = n) := fzs_length l n
      clear hmn hr
      have hm0 : (0 : Int) ≤ (m : Int) := by omega
      by_cases hlt : m + 1 < L
      · have hlt' : (m : Int) + 1 < (L : Int) := by omega
        have hltm : (m : Int) < (L : Int) := by omega
        obtain ⟨b, off, rfl, hbw⟩ := h.first (by have := HL.out; omega)
        obtain ⟨m1, hm1⟩ : ∃ m1, m1 = m + 1 := ⟨_, rfl⟩
        have hl0 := h.at_ hbel (j := m) (by have := HL.out; omega)
        have hl1 := h.at_ hbel (j := m1) (by have := HL.out; omega)
        have q1 : IntKind.i64.wrap ((m : Int) + 1) = (m1 : Int) := by rw [IntKind.wrap_i64, hm1]; omega
        have b1 : (0 : Int) ≤ (m1 : Int) := by omega
        have b2 : (m1 : Int) < (L : Int) := by omega
        have HM1 : Hid (m1 = m + 1) := hm1
        clear hm1
        by_cases h4 : m < 8
        · have h4' : (m : Int) < 8 := by omega
          have hxc := hx.cell (m / 2) (by omega)
          have hxf := hx.free (m / 2)
          go_wp2
          go_region_held3 (fun w' => w'.cell? ⟨b, off + m, none⟩ = some (.float .f64 (l.getD m 0)) ∧ w'.cell? ⟨b, off + m1, none⟩ = some (.float .f64 (l.getD m1 0))) (go_keep)
            (first | (go_at_call 9; refine (Z_is _ _ _).mono ?_; rintro e w' ⟨rfl, rfl⟩))
          all_goals
            go_wp2_with (at_builtin; refine halt_here ?_)
            refine append_one rfl _ _ (by rfl) (w.heap.size + 1) u4 (fzs l n) (by rfl) (World.ownsRow.alloc (ownsRow_setCell_below HR.out (by show w.heap.size < w.heap.size + 1; omega) _) _) (l.getD m 0, l.getD m1 0) wr.heap.size (by rfl) ((World.cell?_alloc_at _ _ _ 0 (by rw [World.size_setCell])).trans rfl) (by rw [HLN.out]; have := HM.out; omega) (by rw [World.size_drew, World.size_alloc, World.size_setCell]; omega) ?_
            intro v4 W2 hr4 hg4 ho4
            have hx4 : Four W2 w.heap.size (upd x (m / 2) (l.getD m 0, l.getD m1 0)) := Four.grown (((hx.put (k := m / 2) (by omega) _ _).old (by rw [World.size_setCell]; exact hx.lt) _).drew) hg4 (fun e => by have := (HR.out.lt _ e.symm).1; omega)
            have hbel4 : Below w.heap.size w W2 := Below.grown (((hbel.setCell (by show w.heap.size ≤ w.heap.size; omega) _).alloc (by rw [World.size_setCell]; exact hbel.size) _).drew) hg4 (by rw [World.size_drew, World.size_alloc, World.size_setCell]; omega) (fun k hk => by have := (HR.out.lt k hk).1; omega)
            have hsz4 : w.heap.size + 1 ≤ W2.heap.size := Nat.le_trans (by rw [World.size_drew, World.size_alloc, World.size_setCell]; omega) hg4.size
            have HR4 : Hid (Row (w.heap.size + 1) W2 v4 (fzs l n ++ [(l.getD m 0, l.getD m1 0)])) := hr4
            clear hr4 hg4 ho4
            go_wp2
            go_roundg (gk - 2)
            case measure => omega
            case rel =>
              refine ⟨m + 2, n + 1, _, rfl, by have := HM.out; omega, by omega, by omega, hx4, ?_, hbel4, hsz4⟩
              rw [fzs_succ]
              have e1 := HM.out
              have e2 := HM1.out
              have e3 : fz l n = (l.getD m 0, l.getD m1 0) := by
                unfold fz
                rw [e2, e1]
              rw [e3]
              exact HR4.out
        · have h4' : ¬ (m : Int) < 8 := by omega
          go_wp2
          go_region_held3 (fun w' => w'.cell? ⟨b, off + m, none⟩ = some (.float .f64 (l.getD m 0)) ∧ w'.cell? ⟨b, off + m1, none⟩ = some (.float .f64 (l.getD m1 0))) (go_keep)
            (first | (go_at_call 9; refine (Z_is _ _ _).mono ?_; rintro e w' ⟨rfl, rfl⟩))
          all_goals
            go_wp2_with (at_builtin; refine halt_here ?_)
            refine append_one rfl _ _ (by rfl) (w.heap.size + 1) u4 (fzs l n) (by rfl) (World.ownsRow.alloc HR.out _) (l.getD m 0, l.getD m1 0) wr.heap.size (by rfl) ((World.cell?_alloc_at _ _ _ 0 rfl).trans rfl) (by rw [HLN.out]; have := HM.out; omega) (by rw [World.size_drew, World.size_alloc]; omega) ?_
            intro v4 W2 hr4 hg4 ho4
            have hx4 : Four W2 w.heap.size x := Four.grown ((hx.old hx.lt _).drew) hg4 (fun e => by have := (HR.out.lt _ e.symm).1; omega)
            have hbel4 : Below w.heap.size w W2 := Below.grown ((hbel.alloc hbel.size _).drew) hg4 (by rw [World.size_drew, World.size_alloc]; omega) (fun k hk => by have := (HR.out.lt k hk).1; omega)
            have hsz4 : w.heap.size + 1 ≤ W2.heap.size := Nat.le_trans (by rw [World.size_drew, World.size_alloc]; omega) hg4.size
            have HR4 : Hid (Row (w.heap.size + 1) W2 v4 (fzs l n ++ [(l.getD m 0, l.getD m1 0)])) := hr4
            clear hr4 hg4 ho4
            go_wp2
            go_roundg (gk - 2)
            case measure => omega
            case rel =>
              refine ⟨m + 2, n + 1, _, rfl, by have := HM.out; omega, by omega, by omega, hx4, ?_, hbel4, hsz4⟩
              rw [fzs_succ]
              have e1 := HM.out
              have e2 := HM1.out
              have e3 : fz l n = (l.getD m 0, l.getD m1 0) := by
                unfold fz
                rw [e2, e1]
              rw [e3]
              exact HR4.out
      · have hlt' : ¬ (m : Int) + 1 < (L : Int) := by omega
        obtain ⟨aa, ca, rfl, la⟩ := HR.out.lies_n HLN.out
        go_upto_region 12 with fail
        have hold : Hold3 wr w.heap.size x wr := ⟨hx, Below.refl _ _⟩
        have hBlt := hold.lt
        go_cut [7, 8] from 43 to 46 (fun v7 v8 wx => ∃ (b1 b2 : Nat) (f g : Nat → Nat × Nat), v7 = .pointer (some ⟨b1, 0, none⟩) ∧ v8 = .pointer (some ⟨b2, 0, none⟩) ∧ Four wx b1 f ∧ Four wx b2 g ∧ (∀ k, k < 4 → crd (f k) = part (fun j => crd (x j)) (-1 * (k : Nat)) 3) ∧ (∀ k, k < 4 → crd (g k) = cquart (part (fun j => crd (x j)) (1 * (k : Nat)) 3)) ∧ Below wr.heap.size wr wx)
        case first =>
          clear hx hbel la h HLN
          have n1 : ∀ n : Nat, n < n + 1 + 1 := fun n => by omega
          have n2 : ∀ n : Nat, n < n + 2 := fun n => by omega
          go_region_held3 (fun w' => Hold3 wr w.heap.size x w' ∧ w'.cell? ⟨w.heap.size, 0, none⟩ = some (.complex .f64 (x 0).1 (x 0).2) ∧ w'.cell? ⟨w.heap.size, 1, none⟩ = some (.complex .f64 (x 1).1 (x 1).2) ∧ w'.cell? ⟨w.heap.size, 2, none⟩ = some (.complex .f64 (x 2).1 (x 2).2) ∧ w'.cell? ⟨w.heap.size, 3, none⟩ = some (.complex .f64 (x 3).1 (x 3).2)) ((refine Hold3.all ?_; repeat' (first | (with_reducible assumption) | (with_reducible refine Hold3.drew ?_) | (with_reducible refine Hold3.alloc ?_ _) | (with_reducible refine Hold3.set1 ?_ hBlt ?_ _) | omega | (simp only [World.size_alloc, World.size_drew]; omega))))
            (first | (go_at_call 15; refine (Four_is x _).mono ?_; rintro e w' ⟨f, rfl, hf, hbf⟩; have hh := ‹Hold3 wr _ _ _ ∧ _›; have holf := hh.1.call hbf; have hszf := holf.below.size; have hcf := fun (n j : Nat) (hn : n < _) => hbf.cell (p := ⟨n, j, none⟩) hn; have hff := fun (n j : Nat) (hn : n < _) => hbf.frozen (p := ⟨n, j, none⟩) hn; have hsf := fun (n : Nat) (hn : n < _) => Nat.lt_of_lt_of_le hn hbf.size; have hs1f : ∀ n : Nat, n < _ → n < w'.heap.size + 1 := fun n hn => Nat.lt_succ_of_lt (Nat.lt_of_lt_of_le hn hbf.size); have hs2f : ∀ n : Nat, n < _ → n < w'.heap.size + 1 + 1 := fun n hn => Nat.lt_succ_of_lt (Nat.lt_succ_of_lt (Nat.lt_of_lt_of_le hn hbf.size)); (try have k0 : wr.heap.size < w'.heap.size := Nat.lt_of_lt_of_le (by first | assumption | (simp only [World.size_alloc]; omega) | (simp only [World.size_alloc, World.size_drew]; omega)) hbf.size); (try have k1 : wr.heap.size + 1 < w'.heap.size := Nat.lt_of_lt_of_le (by first | assumption | (simp only [World.size_alloc]; omega) | (simp only [World.size_alloc, World.size_drew]; omega)) hbf.size); clear hh) | (go_at_call 17; refine (Back_is x _).mono ?_; rintro e w' ⟨g, rfl, hgg, hbg⟩; have hh := ‹Hold3 wr _ _ _ ∧ _›; have holg := hh.1.call hbg; have hszg := holg.below.size; have hcg := fun (n j : Nat) (hn : n < _) => hbg.cell (p := ⟨n, j, none⟩) hn; have hfg := fun (n j : Nat) (hn : n < _) => hbg.frozen (p := ⟨n, j, none⟩) hn; have hsg := fun (n : Nat) (hn : n < _) => Nat.lt_of_lt_of_le hn hbg.size; have hs1g : ∀ n : Nat, n < _ → n < w'.heap.size + 1 := fun n hn => Nat.lt_succ_of_lt (Nat.lt_of_lt_of_le hn hbg.size); have hs2g : ∀ n : Nat, n < _ → n < w'.heap.size + 1 + 1 := fun n hn => Nat.lt_succ_of_lt (Nat.lt_succ_of_lt (Nat.lt_of_lt_of_le hn hbg.size)); (try have k0 : wr.heap.size < w'.heap.size := Nat.lt_of_lt_of_le (by first | assumption | (simp only [World.size_alloc]; omega) | (simp only [World.size_alloc, World.size_drew]; omega)) hbg.size); (try have k1 : wr.heap.size + 1 < w'.heap.size := Nat.lt_of_lt_of_le (by first | assumption | (simp only [World.size_alloc]; omega) | (simp only [World.size_alloc, World.size_drew]; omega)) hbg.size); clear hh))
          all_goals
            have hh := (‹Hold3 wr _ x _ ∧ _›).1.below
            clear hold
            go_wp2_with fail
            go_meet
            case rel =>
              refine ⟨_, _, f, g, rfl, rfl, four_mk ?_ ?_ ?_ ?_ (fun j => ?_), four_mk ?_ ?_ ?_ ?_ (fun j => ?_), hf, hgg, hh⟩
              all_goals first
                | (go_simp; done)
                | (go_simp; refine World.cell?_setCell_same _ _ _ (u := .complex .f64 0 0) ?_; go_simp; done)
                | go_simp
        case rest =>
          rename World => wd
          obtain ⟨b1, b2, f, g, rfl, rfl, hf4, hg4, hfp, hgp, hbel1⟩ := hcut
          have hxd := hx.below hbel1 hx.lt
          have lad := la.below hbel1
          have hbel2 := hbel.trans (hbel1.mono hbel.size)
          clear hx la hbel hbel1 hold hBlt HR
          go_upto_region 13 with fail
          have hold : Hold3 wd w.heap.size x wd := ⟨hxd, Below.refl _ _⟩
          have hBlt := hold.lt
          go_cut [9, 10] from 47 to 50 (fun v9 v10 wx => ∃ (b3 b4 : Nat) (f g : Nat → Nat × Nat), v9 = .pointer (some ⟨b3, 0, none⟩) ∧ v10 = .pointer (some ⟨b4, 0, none⟩) ∧ Four wx b3 f ∧ Four wx b4 g ∧ (∀ k, k < 4 → crd (f k) = part (fun j => crd (x j)) (-1 * (k : Nat)) 3) ∧ (∀ k, k < 4 → crd (g k) = cquart (part (fun j => crd (x j)) (1 * (k : Nat)) 3)) ∧ Below wd.heap.size wd wx)
          case first =>
            clear hxd hbel2 lad h HLN hf4 hg4 hfp hgp
            have n1 : ∀ n : Nat, n < n + 1 + 1 := fun n => by omega
            have n2 : ∀ n : Nat, n < n + 2 := fun n => by omega
            go_region_held3 (fun w' => Hold3 wd w.heap.size x w' ∧ w'.cell? ⟨w.heap.size, 0, none⟩ = some (.complex .f64 (x 0).1 (x 0).2) ∧ w'.cell? ⟨w.heap.size, 1, none⟩ = some (.complex .f64 (x 1).1 (x 1).2) ∧ w'.cell? ⟨w.heap.size, 2, none⟩ = some (.complex .f64 (x 2).1 (x 2).2) ∧ w'.cell? ⟨w.heap.size, 3, none⟩ = some (.complex .f64 (x 3).1 (x 3).2)) ((refine Hold3.all ?_; repeat' (first | (with_reducible assumption) | (with_reducible refine Hold3.drew ?_) | (with_reducible refine Hold3.alloc ?_ _) | (with_reducible refine Hold3.set1 ?_ hBlt ?_ _) | omega | (simp only [World.size_alloc, World.size_drew]; omega))))
              (first | (go_at_call 18; refine (ref_Four_is x _).mono ?_; rintro e w' ⟨u, rfl, hf, hbf⟩; have hh := ‹Hold3 wd _ _ _ ∧ _›; have holf := hh.1.call hbf; have hszf := holf.below.size; have hcf := fun (n j : Nat) (hn : n < _) => hbf.cell (p := ⟨n, j, none⟩) hn; have hff := fun (n j : Nat) (hn : n < _) => hbf.frozen (p := ⟨n, j, none⟩) hn; have hsf := fun (n : Nat) (hn : n < _) => Nat.lt_of_lt_of_le hn hbf.size; have hs1f : ∀ n : Nat, n < _ → n < w'.heap.size + 1 := fun n hn => Nat.lt_succ_of_lt (Nat.lt_of_lt_of_le hn hbf.size); have hs2f : ∀ n : Nat, n < _ → n < w'.heap.size + 1 + 1 := fun n hn => Nat.lt_succ_of_lt (Nat.lt_succ_of_lt (Nat.lt_of_lt_of_le hn hbf.size)); (try have k0 : wd.heap.size < w'.heap.size := Nat.lt_of_lt_of_le (by first | assumption | (simp only [World.size_alloc]; omega) | (simp only [World.size_alloc, World.size_drew]; omega)) hbf.size); (try have k1 : wd.heap.size + 1 < w'.heap.size := Nat.lt_of_lt_of_le (by first | assumption | (simp only [World.size_alloc]; omega) | (simp only [World.size_alloc, World.size_drew]; omega)) hbf.size); clear hh) | (go_at_call 19; refine (ref_Back_is x _).mono ?_; rintro e w' ⟨v, rfl, hgg, hbg⟩; have hh := ‹Hold3 wd _ _ _ ∧ _›; have holg := hh.1.call hbg; have hszg := holg.below.size; have hcg := fun (n j : Nat) (hn : n < _) => hbg.cell (p := ⟨n, j, none⟩) hn; have hfg := fun (n j : Nat) (hn : n < _) => hbg.frozen (p := ⟨n, j, none⟩) hn; have hsg := fun (n : Nat) (hn : n < _) => Nat.lt_of_lt_of_le hn hbg.size; have hs1g : ∀ n : Nat, n < _ → n < w'.heap.size + 1 := fun n hn => Nat.lt_succ_of_lt (Nat.lt_of_lt_of_le hn hbg.size); have hs2g : ∀ n : Nat, n < _ → n < w'.heap.size + 1 + 1 := fun n hn => Nat.lt_succ_of_lt (Nat.lt_succ_of_lt (Nat.lt_of_lt_of_le hn hbg.size)); (try have k0 : wd.heap.size < w'.heap.size := Nat.lt_of_lt_of_le (by first | assumption | (simp only [World.size_alloc]; omega) | (simp only [World.size_alloc, World.size_drew]; omega)) hbg.size); (try have k1 : wd.heap.size + 1 < w'.heap.size := Nat.lt_of_lt_of_le (by first | assumption | (simp only [World.size_alloc]; omega) | (simp only [World.size_alloc, World.size_drew]; omega)) hbg.size); clear hh))
            all_goals
              have hh := (‹Hold3 wd _ x _ ∧ _›).1.below
              clear hold
              go_wp2_with fail
              go_meet
              case rel =>
                refine ⟨_, _, u, v, rfl, rfl, four_mk ?_ ?_ ?_ ?_ (fun j => ?_), four_mk ?_ ?_ ?_ ?_ (fun j => ?_), hf, hgg, hh⟩
                all_goals first
                  | (go_simp; done)
                  | (go_simp; refine World.cell?_setCell_same _ _ _ (u := .complex .f64 0 0) ?_; go_simp; done)
                  | go_simp
          case rest =>
            rename World => we
            obtain ⟨b3, b4, u, v, rfl, rfl, hu4, hv4, hup, hvp, hbel3⟩ := hcut
            have hf5 := hf4.below hbel3 hf4.lt
            have hg5 := hg4.below hbel3 hg4.lt
            have lae := lad.below hbel3
            have hbel5 := hbel2.trans (hbel3.mono hbel2.size)
            have HP : Hid (∀ k, k < 4 → (crd (f k) = crd (u k)) ∧ crd (g k) = crd (v k)) := fun k hk => ⟨(hfp k hk).trans (hup k hk).symm, (hgp k hk).trans (hvp k hk).symm⟩
            clear hxd lad hbel2 hbel3 hold hBlt hf4 hg4 hfp hgp hup hvp
            go_wp2
            go_loopg [11] 4 (fun q v11 wr => ∃ k : Nat, v11 = .int .i64 k ∧ q + k = 4 ∧ Four wr b1 f ∧ Four wr b2 g ∧ Four wr b3 u ∧ Four wr b4 v ∧ Below w.heap.size w wr ∧ Lies wr aa (fzs l n))
            case atStart => exact ⟨0, rfl, rfl, hf5, hg5, hu4, hv4, hbel5, lae⟩
            case round =>
              clear hf5 hg5 hu4 hv4 hbel5 lae
              obtain ⟨k, rfl, hq, hf, hg, hu, hv, hbel, la⟩ := hrel
              by_cases hk : k < 4
              · have hk0 : (0 : Int) ≤ (k : Int) := by omega
                have hk4 : (k : Int) < 4 := by omega
                have hc1 := hf.cell k hk
                have hc2 := hg.cell k hk
                have hc3 := hu.cell k hk
                have hc4 := hv.cell k hk
                have e1 : rd (f k).1 = rd (u k).1 := congrArg Prod.fst (HP.out k hk).1
                have e2 : rd (f k).2 = rd (u k).2 := congrArg Prod.snd (HP.out k hk).1
                have e3 : rd (g k).1 = rd (v k).1 := congrArg Prod.fst (HP.out k hk).2
                have e4 : rd (g k).2 = rd (v k).2 := congrArg Prod.snd (HP.out k hk).2
                go_wp2
                go_region_held3 (fun w' => w'.cell? ⟨b1, k, none⟩ = some (.complex .f64 (f k).1 (f k).2) ∧ w'.cell? ⟨b2, k, none⟩ = some (.complex .f64 (g k).1 (g k).2) ∧ w'.cell? ⟨b3, k, none⟩ = some (.complex .f64 (u k).1 (u k).2) ∧ w'.cell? ⟨b4, k, none⟩ = some (.complex .f64 (v k).1 (v k).2)) (go_keep)
                  (first | (go_at_call 20; refine (Same_is _ _ _ _ _).mono ?_; rintro e w' ⟨rfl, rfl⟩))
                all_goals
                  go_wp2
                  go_roundg (gk - 1)
                  case measure => omega
                  case rel => exact ⟨k + 1, rfl, by omega, hf.drew, hg.drew, hu.drew, hv.drew, hbel.drew, fun j v hj => la j v hj⟩
              · obtain rfl : k = 4 := by omega
                go_wp2_with (first
                  | (go_at_call 11; refine (told_is _).mono ?_; rintro e w1 ⟨rfl, bel⟩; have la1 := la.below bel; have hw1 := hbel.trans (bel.mono hbel.size); clear bel)
                  | (go_at_call 16; refine (Sum_n aa ca (fzs l n) n HLN.out (by have := HM.out; omega) _ ?_).mono ?_; exact fun j v hj => la1 j v hj; rintro e w'' ⟨r1, i1, m_, rfl, rfl, s1⟩)
                  | (go_at_call 21; refine (ref_Sum_n aa ca (fzs l n) n HLN.out (by have := HM.out; omega) _ ?_).mono ?_; exact fun j v hj => la1 j v hj; rintro e w'' ⟨r2, i2, m_, rfl, rfl, s2⟩; have e1 : rd r1 = rd r2 := congrArg Prod.fst (s1.trans s2.symm); have e2 : rd i1 = rd i2 := congrArg Prod.snd (s1.trans s2.symm); clear s1 s2)
                  | (go_at_call 20; refine (Same_is _ _ _ _ _).mono ?_; rintro e w' ⟨rfl, hw⟩; rw [hw]; clear hw))
                go_ret
                first | exact ⟨rfl, below_drewN hw1 _⟩ | (go_show; done)
end Go.Proofs.Ytmolpckfemcieaa
