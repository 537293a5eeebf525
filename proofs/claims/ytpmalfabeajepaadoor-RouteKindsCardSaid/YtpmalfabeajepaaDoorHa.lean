/- Contracts by hand: two functions of Go's library, by the shelf's and by CA, in the form that the print takes.
-- HAND strings.Split strings_Split
-- HAND strings.ContainsAny strings_ContainsSigns
-/
import Derived.Test.YtpmalfabeajepaaDoorCA
import Derived.HandedShaped
namespace Go.Proofs.YtpmalfabeajepaaDoorH
open Go.RowKit Go.Proofs.YtpmalfabeajepaaDoorW.PrintWords Go.Proofs.YtpmalfabeajepaaDoorW.PrintLast Go.Proofs.YtpmalfabeajepaaDoorW.PrintMore
/-- The library's own variable holds some number. -/
def Gl (w : World) : Prop := ∃ m, w.cell? ⟨1, 0, none⟩ = some (.int .i64 m)
theorem gl_of (w : World) (h : w.ShapedOpen Tryd.prog) : Gl w := Tryd.laysM146.s1_3 w h
theorem Gl.below {w w' : World} (h : Gl w) (hb : Below w.heap.size w w') : Gl w' := by
  obtain ⟨m, hm⟩ := h
  exact ⟨m, (hb.cell (World.block_lt_of_cell? w _ hm)).trans hm⟩

def strings_Split.f (a0 a1 : ByteArray) : Option (List ByteArray) := if a0.size < 4294967281 ∧ 1 ≤ a1.size then some (Lib.splitB a1 0 (Lib.countB a0 a1) a0) else none
theorem strings_Split.calls (a0 a1 : ByteArray) (r : List ByteArray) (w : World) (hgl : Gl w) (h : strings_Split.f a0 a1 = some r) :
    Calls Tryd.prog 39 #[.string a0, .string a1] w fun e w' => ∃ v0_ : Value, e = .returned v0_ ∧ Kd.R Kd.string 9 w' w.heap.size (fun _ => True) v0_ r ∧ Below w.heap.size w w' := by
  unfold strings_Split.f at h
  by_cases hc : a0.size < 4294967281 ∧ 1 ≤ a1.size
  · rw [if_pos hc] at h
    obtain rfl := Option.some.inj h
    obtain ⟨m, hm⟩ := hgl
    refine (Tryd.strings_Split a0 a1 m w hc.1 hm hc.2).mono ?_
    rintro e w' ⟨rfl, rfl⟩
    have hlen := Lib.splitB_all a1 hc.2 0 _ a0 rfl
    have hle := Lib.countB_le a1 hc.2 a0.size a0 (Nat.le_refl _)
    refine ⟨_, rfl, ?_, ?_⟩
    · rw [← hlen]
      exact ⟨fun _ _ => trivial, OwnRow.lit w w.heap.size (inner := encs Value.string (Lib.splitB a1 0 (Lib.countB a0 a1) a0)) (Kd.reps_scalar _) (Nat.le_refl _) (by omega)⟩
    · exact below_alloc (Below.refl _ _) _
  · rw [if_neg hc] at h
    cases h

def strings_ContainsSigns.f (a0 a1 : ByteArray) : Option Bool := if a0.size < 4294967281 ∧ a1.data.toList = [42, 35] then some (Lib.containsAny a0.data.toList [42, 35]) else none
theorem strings_ContainsSigns.calls (a0 a1 : ByteArray) (r : Bool) (w : World) (_ : Gl w) (h : strings_ContainsSigns.f a0 a1 = some r) :
    Calls Tryd.prog 38 #[.string a0, .string a1] w fun e w' => e = .returned (.bool r) ∧ Below w.heap.size w w' := by
  unfold strings_ContainsSigns.f at h
  by_cases hc : a0.size < 4294967281 ∧ a1.data.toList = [42, 35]
  · rw [if_pos hc] at h
    obtain rfl := Option.some.inj h
    have e : a1 = ⟨#[42, 35]⟩ := by
      cases a1
      congr 1
      exact Array.toList_inj.1 hc.2
    rw [e]
    exact Go.Proofs.YtpmalfabeajepaaDoorCA.contains_any a0 w hc.1
  · rw [if_neg hc] at h
    cases h
end Go.Proofs.YtpmalfabeajepaaDoorH
