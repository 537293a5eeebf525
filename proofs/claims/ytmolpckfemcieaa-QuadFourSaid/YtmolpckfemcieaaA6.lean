/-
  What comes in: slices of whole numbers and of floats.
  Conditions: none.
-/
import Derived.Test.YtmolpckfemcieaaA5
import Derived.ProofKit
import Derived.OpenShut
namespace Go.Proofs.Ytmolpckfemcieaa
open Go Go.ChangeShapes Go.WideShapes Go.ChangeAt Go.RowKit

theorem spot_none {w : World} {a : Addr} {v : Value} (h : w.cell? a = some v) : a.spot = none := by
  unfold World.cell? at h
  split at h
  · cases hs : a.spot with
    | none => rfl
    | some s => simp [hs] at h
  · cases h
theorem add_plain (b off i : Nat) : (⟨b, off, none⟩ : Addr).add i = ⟨b, off + i, none⟩ := by
  unfold Addr.add
  split <;> simp_all

section
variable {H : Type} {enc : TypeId × Value → H} {w : World} {y : DataW H} {p : List MemPlace} {a : Option Addr} {len cap : Nat}
theorem row_ints (h : DataW.Trod enc Try.prog w 0 (fun _ => true) true 32 (.slice a len cap) y p) : ∃ l : List Int, len = l.length ∧ LiesI w a l ∧ l.length ≤ 9223372036854775807 := by
  obtain ⟨fuel, hf⟩ := h
  rcases open_ints Try.underlying32 Try.underlying3 (by kernel_rfl) hf with ⟨hcs, _⟩ | ⟨x, l, c, zs, hcs, _, hl, hm, hz, _, hcell, hwz⟩
  · simp [Value.cells] at hcs
    obtain ⟨rfl, rfl, rfl⟩ := hcs
    exact ⟨[], rfl, fun j v hj => by simp at hj, by simp⟩
  · simp [Value.cells] at hcs
    obtain ⟨rfl, rfl, rfl⟩ := hcs
    have hzl : zs.length = cap := by simpa using hz
    have hlen : (zs.take len).length = len := by rw [List.length_take]; omega
    refine ⟨zs.take len, hlen.symm, fun j v hj => ?_, by rw [hlen]; unfold maxLen at hm; omega⟩
    have hj' : j < len := by
      have := (List.getElem?_eq_some_iff.1 hj).1
      omega
    have hv : zs.getD j 0 = v := by
      rw [List.getElem?_take_of_lt hj'] at hj
      rw [List.getD_eq_getElem?_getD, hj]
      rfl
    have hc := hcell j (by omega)
    have h0 := hcell 0 (by omega)
    obtain ⟨b, off, spot⟩ := x
    have hs : spot = none := by
      have := spot_none h0
      unfold Addr.add at this
      split at this <;> simp_all
    subst hs
    rw [add_plain, hv] at hc
    exact ⟨b, off, rfl, hc⟩
end
end Go.Proofs.Ytmolpckfemcieaa
