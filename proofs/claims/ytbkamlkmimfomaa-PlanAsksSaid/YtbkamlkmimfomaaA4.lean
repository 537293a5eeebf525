/-
  Rows of four complex numbers in memory; numbers turned and added, NaNs alike.
  Conditions: none.
-/
import Derived.Test.YtbkamlkmimfomaaW2
import Derived.Deep.RegionHeld3
namespace Go.Proofs.Ytbkamlkmimfomaa
open Go.RowKit Go.Proofs.YtbkamlkmimfomaaFl Go.Proofs.YtbkamlkmimfomaaG

/-- Block b holds four complex numbers, and may be written. -/
structure Four (w : World) (b : Nat) (x : Nat → Nat × Nat) : Prop where
  cell : ∀ j, j < 4 → w.cell? ⟨b, j, none⟩ = some (.complex .f64 (x j).1 (x j).2)
  free : ∀ j, w.frozen? ⟨b, j, none⟩ = false

def upd (x : Nat → Nat × Nat) (k : Nat) (v : Nat × Nat) (j : Nat) : Nat × Nat := if j = k then v else x j
theorem upd_same (x : Nat → Nat × Nat) (k : Nat) (v : Nat × Nat) : upd x k v k = v := if_pos rfl
theorem upd_other {x : Nat → Nat × Nat} {k j : Nat} {v : Nat × Nat} (h : j ≠ k) : upd x k v j = x j := if_neg h

theorem frozen_setCell (w : World) (a b : Addr) (v : Value) : (w.setCell a v).frozen? b = w.frozen? b := by
  unfold World.frozen? World.setCell
  simp only [Array.getElem?_modify]
  by_cases h : a.block = b.block
  · rw [if_pos h]
    rw [← h]
    cases w.heap[a.block]? with
    | none => rfl
    | some o => cases o <;> simp
  · rw [if_neg h]

theorem Four.drewN {w : World} {b : Nat} {x : Nat → Nat × Nat} (h : Four w b x) (k : Nat) : Four (w.drewN k) b x := ⟨h.cell, h.free⟩
theorem Four.drew {w : World} {b : Nat} {x : Nat → Nat × Nat} (h : Four w b x) : Four w.drew b x := ⟨h.cell, h.free⟩
theorem Four.put {w : World} {b : Nat} {x : Nat → Nat × Nat} (h : Four w b x) {k : Nat} (hk : k < 4) (r i : Nat) : Four (w.setCell ⟨b, k, none⟩ (.complex .f64 r i)) b (upd x k (r, i)) := by
  refine ⟨fun j hj => ?_, fun j => by rw [frozen_setCell]; exact h.free j⟩
  by_cases e : j = k
  · subst e
    rw [upd_same, World.cell?_setCell_same _ _ _ (h.cell j hj)]
  · rw [upd_other e, World.cell?_setCell_other _ _ _ _ (by intro h; injection h with _ h; exact e h.symm)]
    exact h.cell j hj
theorem Four.keep {w : World} {b : Nat} {x : Nat → Nat × Nat} (h : Four w b x) {a : Addr} (ha : a.block ≠ b) (v : Value) : Four (w.setCell a v) b x :=
  ⟨fun j hj => by rw [World.cell?_setCell_other _ _ _ _ (by intro e; rw [e] at ha; exact ha rfl)]; exact h.cell j hj, fun j => by rw [frozen_setCell]; exact h.free j⟩
theorem Four.old {w : World} {b : Nat} {x : Nat → Nat × Nat} (h : Four w b x) (hb : b < w.heap.size) (o : Obj) : Four (w.alloc o) b x :=
  ⟨fun j hj => by rw [World.cell?_alloc_past _ _ _ hb]; exact h.cell j hj, fun j => by rw [World.frozen?_alloc_past _ _ _ hb]; exact h.free j⟩
theorem Four.new (w : World) (n : Nat) (hn : n = w.heap.size) (x : Nat → Nat × Nat) (t : TypeId) :
    Four (w.alloc (.cells #[.complex .f64 (x 0).1 (x 0).2, .complex .f64 (x 1).1 (x 1).2, .complex .f64 (x 2).1 (x 2).2, .complex .f64 (x 3).1 (x 3).2] t)) n x := by
  refine ⟨fun j hj => ?_, fun j => World.frozen?_alloc_at _ _ _ _ hn⟩
  rw [World.cell?_alloc_at _ _ _ _ hn]
  have : j = 0 ∨ j = 1 ∨ j = 2 ∨ j = 3 := by omega
  rcases this with rfl | rfl | rfl | rfl <;> rfl
theorem Four.below {w w' : World} {b : Nat} {x : Nat → Nat × Nat} (h : Four w b x) {B : Nat} (hB : Below B w w') (hb : b < B) : Four w' b x :=
  ⟨fun j hj => by rw [hB.cell (p := ⟨b, j, none⟩) hb]; exact h.cell j hj, fun j => by rw [hB.frozen (p := ⟨b, j, none⟩) hb]; exact h.free j⟩

theorem Four.put4 {w : World} {b : Nat} {z : Nat → Nat × Nat} (h : Four w b z) (o : Nat → Nat × Nat) :
    Four ((((w.setCell ⟨b, 0, none⟩ (.complex .f64 (o 0).1 (o 0).2)).setCell ⟨b, 1, none⟩ (.complex .f64 (o 1).1 (o 1).2)).setCell ⟨b, 2, none⟩ (.complex .f64 (o 2).1 (o 2).2)).setCell ⟨b, 3, none⟩ (.complex .f64 (o 3).1 (o 3).2)) b o := by
  have h4 := (((h.put (k := 0) (by omega) (o 0).1 (o 0).2).put (k := 1) (by omega) (o 1).1 (o 1).2).put (k := 2) (by omega) (o 2).1 (o 2).2).put (k := 3) (by omega) (o 3).1 (o 3).2
  refine ⟨fun j hj => ?_, h4.free⟩
  rw [h4.cell j hj]
  have : j = 0 ∨ j = 1 ∨ j = 2 ∨ j = 3 := by omega
  rcases this with rfl | rfl | rfl | rfl <;> rfl
theorem Four.result {w : World} {b : Nat} {o : Nat → Nat × Nat} (h : Four w b o) {fn : Func} {p : Tmp} (hres : fn.results = #[.cell p 50]) {tmps : Array Value} (ht : tmps.getD p undef = .pointer (some ⟨b, 0, none⟩)) :
    (results fn tmps).run Try.prog w = .ok (.agg #[.complex .f64 (o 0).1 (o 0).2, .complex .f64 (o 1).1 (o 1).2, .complex .f64 (o 2).1 (o 2).2, .complex .f64 (o 3).1 (o 3).2]) w := by
  have hc0 := h.cell 0 (by omega)
  have hc1 := h.cell 1 (by omega)
  have hc2 := h.cell 2 (by omega)
  have hc3 := h.cell 3 (by omega)
  have ht : tmps[p]?.getD undef = .pointer (some ⟨b, 0, none⟩) := by simpa using ht
  simp [results, hres, ht, asAddr, go_sem, hc0, hc1, hc2, hc3]

/-- A complex number, NaNs alike. -/
abbrev C := Option Nat × Option Nat
def crd (p : Nat × Nat) : C := (rd p.1, rd p.2)
def cadd (a b : C) : C := (lift .add a.1 b.1, lift .add a.2 b.2)
def cspin (c : C) (k : Int) : C := if k % 4 = 0 then c else if k % 4 = 2 then (c.1.map neg, c.2.map neg) else if k % 4 = 1 then (c.2.map neg, c.1) else (c.2, c.1.map neg)
theorem crd_spin (p : Nat × Nat) (k : Int) : crd (spin p k) = cspin (crd p) k := by
  unfold crd spin cspin
  split
  · rfl
  · split
    · simp only [rd_neg]
    · split
      · simp only [rd_neg]
      · simp only [rd_neg]
theorem spin_mod (p : Nat × Nat) {j k : Int} (h : j % 4 = k % 4) : spin p j = spin p k := by
  unfold spin
  rw [h]
theorem cspin_mod (p : C) {j k : Int} (h : j % 4 = k % 4) : cspin p j = cspin p k := by
  unfold cspin
  rw [h]
theorem wrap64_mod4 (z : Int) : wrap64 z % 4 = z % 4 := by
  unfold wrap64
  omega

/-- A sum of so many, each turned by so many quarters for its place. -/
def part (x : Nat → C) (q : Int) : Nat → C
  | 0 => x 0
  | n + 1 => cadd (part x q n) (cspin (x (n + 1)) (q * (n + 1 : Nat)))

end Go.Proofs.Ytbkamlkmimfomaa
