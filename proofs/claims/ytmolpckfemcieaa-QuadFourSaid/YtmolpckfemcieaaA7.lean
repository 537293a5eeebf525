/-
  A row that two calls read in a region that draws its order; floats that come in.
  Conditions: none.
-/
import Derived.Test.YtmolpckfemcieaaA6
import Derived.Test.YtmolpckfemcieaaRw
import Derived.Test.YtmolpckfemcieaaW5
namespace Go.Proofs.Ytmolpckfemcieaa
open Go Go.ChangeShapes Go.WideShapes Go.ChangeAt Go.RowKit Go.Proofs.YtmolpckfemcieaaFl

/-- A row that the call reads; what was there when the region began is as it was. -/
structure Hold3 (w0 : World) (B : Nat) (x : Nat → Nat × Nat) (w : World) : Prop where
  a : Four w B x
  below : Below w0.heap.size w0 w
theorem Hold3.lt {w0 : World} {B : Nat} {x : Nat → Nat × Nat} (h : Hold3 w0 B x w0) : B < w0.heap.size := h.a.lt
theorem Hold3.drew {w0 : World} {B : Nat} {x : Nat → Nat × Nat} {w : World} (h : Hold3 w0 B x w) : Hold3 w0 B x w.drew := ⟨h.a.drew, h.below.drew⟩
theorem Hold3.alloc {w0 : World} {B : Nat} {x : Nat → Nat × Nat} {w : World} (h : Hold3 w0 B x w) (o : Obj) : Hold3 w0 B x (w.alloc o) := ⟨h.a.old h.a.lt o, h.below.alloc h.below.size o⟩
theorem Hold3.call {w0 : World} {B : Nat} {x : Nat → Nat × Nat} {w w' : World} (h : Hold3 w0 B x w) (hb : Below w.heap.size w w') : Hold3 w0 B x w' := ⟨h.a.below hb h.a.lt, h.below.trans (hb.mono h.below.size)⟩
theorem Hold3.set1 {w0 : World} {B : Nat} {x : Nat → Nat × Nat} {w : World} (h : Hold3 w0 B x w) (hB : B < w0.heap.size) {b j : Nat} (hb : w0.heap.size ≤ b) (v : Value) : Hold3 w0 B x (w.setCell ⟨b, j, none⟩ v) :=
  ⟨h.a.keep (by show b ≠ B; omega) v, h.below.setCell (by show w0.heap.size ≤ b; omega) v⟩
theorem Hold3.all {w0 : World} {B : Nat} {x : Nat → Nat × Nat} {w : World} (h : Hold3 w0 B x w) : Hold3 w0 B x w ∧
    w.cell? ⟨B, 0, none⟩ = some (.complex .f64 (x 0).1 (x 0).2) ∧ w.cell? ⟨B, 1, none⟩ = some (.complex .f64 (x 1).1 (x 1).2) ∧ w.cell? ⟨B, 2, none⟩ = some (.complex .f64 (x 2).1 (x 2).2) ∧ w.cell? ⟨B, 3, none⟩ = some (.complex .f64 (x 3).1 (x 3).2) :=
  ⟨h, h.a.cell 0 (by omega), h.a.cell 1 (by omega), h.a.cell 2 (by omega), h.a.cell 3 (by omega)⟩
theorem Four.grown {w w' : World} {b : Nat} {x : Nat → Nat × Nat} {row : Option Nat} (h : Four w b x) (hg : w.grownBy w' row) (hne : some b ≠ row) : Four w' b x :=
  ⟨fun j hj => by rw [hg.cell_far ⟨b, j, none⟩ h.lt hne]; exact h.cell j hj, fun j => by rw [hg.frozen_far ⟨b, j, none⟩ h.lt hne]; exact h.free j⟩

/-- A slice of floats that came in. -/
def LiesF (w : World) (a : Option Addr) (l : List Nat) : Prop := ∀ j v, l[j]? = some v → ∃ b off, a = some ⟨b, off, none⟩ ∧ w.cell? ⟨b, off + j, none⟩ = some (.float .f64 v)
theorem LiesF.first {w : World} {a : Option Addr} {l : List Nat} (h : LiesF w a l) (hl : 0 < l.length) : ∃ b off, a = some ⟨b, off, none⟩ ∧ b < w.heap.size := by
  obtain ⟨b, off, e, hc⟩ := h 0 (l[0]'hl) (List.getElem?_eq_getElem hl)
  exact ⟨b, off, e, World.block_lt_of_cell? w _ hc⟩
theorem LiesF.at_ {w w' : World} {b off : Nat} {l : List Nat} (h : LiesF w (some ⟨b, off, none⟩) l) (hb : Below w.heap.size w w') {j : Nat} (hj : j < l.length) : w'.cell? ⟨b, off + j, none⟩ = some (.float .f64 (l.getD j 0)) := by
  obtain ⟨b', off', e, hc⟩ := h j (l.getD j 0) (by rw [List.getElem?_eq_getElem hj, List.getD_eq_getElem?_getD, List.getElem?_eq_getElem hj]; rfl)
  injection e with e
  injection e with e1 e2
  subst e1 e2
  rw [hb.cell (World.block_lt_of_cell? w _ hc)]
  exact hc

theorem list_of (n : Nat) {p : Nat → Nat → Prop} (h : ∀ i, i < n → ∃ a, p i a) : ∃ l : List Nat, l.length = n ∧ ∀ i a, l[i]? = some a → p i a := by
  induction n with
  | zero => exact ⟨[], rfl, fun i a hi => by simp at hi⟩
  | succ n ih =>
    obtain ⟨l, hl, hp⟩ := ih fun i hi => h i (by omega)
    obtain ⟨a, ha⟩ := h n (by omega)
    refine ⟨l ++ [a], by simp [hl], fun i b hb => ?_⟩
    by_cases hi : i < n
    · rw [List.getElem?_append_left (by omega)] at hb
      exact hp i b hb
    · have hi' : i = n := by
        have := (List.getElem?_eq_some_iff.1 hb).1
        simp [hl] at this
        omega
      subst hi'
      rw [List.getElem?_append_right (by omega), hl, Nat.sub_self] at hb
      simp at hb
      subst hb
      exact ha
section
variable {H : Type} {enc : TypeId × Value → H} {w : World} {y : DataW H} {p : List MemPlace} {a : Option Addr} {len cap : Nat}
theorem trod_float {fuel : Nat} {cs : List Value} {x : DataW H × List MemPlace} (h : DataW.trod enc Try.prog w 0 (fun _ => true) true fuel 22 cs = some x) : ∃ b, cs = [.float .f64 b] := by
  cases fuel with
  | zero => simp [DataW.trod] at h
  | succ n =>
    unfold DataW.trod at h
    rw [Try.underlying22] at h
    split at h <;> simp_all
theorem row_floats (h : DataW.Trod enc Try.prog w 0 (fun _ => true) true 39 (.slice a len cap) y p) : ∃ l : List Nat, len = l.length ∧ LiesF w a l ∧ l.length ≤ 9223372036854775807 := by
  obtain ⟨fuel, hf⟩ := h
  rcases DataW.trod_slice Try.underlying39 hf with ⟨hcs, _⟩ | ⟨x, l, c, elems, rest, n, _, hcs, _, _, hl, hm, hlen, hel, hsp, _⟩
  · simp [Value.cells] at hcs
    obtain ⟨rfl, rfl, rfl⟩ := hcs
    exact ⟨[], rfl, fun j v hj => by simp at hj, by simp⟩
  · simp [Value.cells] at hcs
    obtain ⟨rfl, rfl, rfl⟩ := hcs
    have hce : Try.prog.cellsOf 22 = 1 := by kernel_rfl
    obtain ⟨l, hll, hp⟩ := list_of (p := fun i b => w.cell? (x.add i) = some (.float .f64 b)) len (fun i hi => by
      have h1 := hel i hi
      obtain ⟨z, hz⟩ : ∃ z, elems[i]? = some z := ⟨elems[i]'(by omega), List.getElem?_eq_getElem (by omega)⟩
      rw [hz, Option.bind_eq_some_iff] at h1
      obtain ⟨cs, hcs, ht⟩ := h1
      obtain ⟨b, rfl⟩ := trod_float ht
      rw [hce, Nat.mul_one] at hcs
      refine ⟨b, ?_⟩
      simp [World.cells?] at hcs
      have e0 : (x.add i).add 0 = x.add i := by
        unfold Addr.add
        simp
      rw [e0] at hcs
      cases hw : w.cell? (x.add i) with
      | none => rw [hw] at hcs; simp at hcs
      | some u => rw [hw] at hcs; simp at hcs; rw [hcs])
    refine ⟨l, hll.symm, fun j v hj => ?_, by rw [hll]; unfold maxLen at hm; omega⟩
    have hc := hp j v hj
    have h0 : ∃ u, w.cell? (x.add 0) = some u := by
      have hj' := (List.getElem?_eq_some_iff.1 hj).1
      exact ⟨_, hp 0 (l[0]'(by omega)) (List.getElem?_eq_getElem (by omega))⟩
    obtain ⟨u, h0⟩ := h0
    obtain ⟨b, off, spot⟩ := x
    have hs : spot = none := by
      have := spot_none h0
      unfold Addr.add at this
      split at this <;> simp_all
    subst hs
    rw [add_plain] at hc
    exact ⟨b, off, rfl, hc⟩
end
end Go.Proofs.Ytmolpckfemcieaa
