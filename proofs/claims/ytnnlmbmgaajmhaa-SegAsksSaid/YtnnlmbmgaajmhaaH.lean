/-
-- HAND carrefour/carrefourlaw11.told carrefourlaw11_told
-- HAND carrefour/seg.Sum seg_Sum
-- HAND carrefour/seg.Record seg_Record
-- HAND carrefour/seg.Read seg_Read
  What the laws ask of a few, sums, records and readings, as the printed proofs call them.
  Conditions: none.
-/
import Derived.Test.YtnnlmbmgaajmhaaLk
import Derived.Test.YtnnlmbmgaajmhaaSgB
namespace Go.Proofs.YtnnlmbmgaajmhaaH
open Go.RowKit Go.Proofs.YtnnlmbmgaajmhaaW.PrintWords Go.Proofs.YtnnlmbmgaajmhaaW.PrintLast Go.Proofs.Ytnnlmbmgaajmhaa Go.Proofs.Ytnnlmbmgaajmhaa.Sg
def carrefourlaw11_told.f : Option Bool := some true
theorem carrefourlaw11_told.calls (r : Bool) (w : World) (h : carrefourlaw11_told.f = some r) :
    Calls Try.prog 10 #[] w fun e w' => e = .returned (.bool r) ∧ Below w.heap.size w w' := by
  obtain rfl : true = r := Option.some.inj h
  exact Seg.told_is w
def seg_Sum.f (l0 : List Int) : Option Int := if Oct l0 ∧ l0.length < 1073741824 then some (sumP l0) else none
theorem seg_Sum.calls (A0 : Option Addr) (c0 : Nat) (l0 : List Int) (r : Int) (w : World) (hr0 : Kd.C (Kd.int .u8) w A0 l0.length l0) (hc0 : l0.length ≤ c0) (h : seg_Sum.f l0 = some r) :
    Calls Try.prog 17 #[.slice A0 l0.length c0] w fun e w' => e = .returned (.int .u32 r) ∧ Below w.heap.size w w' := by
  unfold seg_Sum.f at h
  by_cases hc : Oct l0 ∧ l0.length < 1073741824
  · rw [if_pos hc] at h
    obtain rfl := Option.some.inj h
    refine (PGa.seg_Sum.calls (l0.length + 1) A0 c0 l0 _ w hr0 hc0 (sum_is hc.1 (by omega) (by omega))).mono ?_
    rintro e w' ⟨rfl, nd, rfl⟩
    exact ⟨rfl, pw_below_drewN (Below.refl _ _) _⟩
  · rw [if_neg hc] at h
    cases h
def seg_Record.f (l0 : List Int) : Option (List Int × Int) := if l0.length < 1 ∨ 20000 < l0.length then some ([], 1) else if Oct l0 then some (recP l0, 0) else none
theorem seg_Record.calls (A0 : Option Addr) (c0 : Nat) (l0 : List Int) (r1 : List Int) (r2 : Int) (w : World) (hr0 : Kd.C (Kd.int .u8) w A0 l0.length l0) (hc0 : l0.length ≤ c0) (h : seg_Record.f l0 = some (r1, r2)) :
    Calls Try.prog 11 #[.slice A0 l0.length c0] w fun e w' => ∃ v0_ : Value, e = .returned (.tuple #[v0_, .int .i64 r2]) ∧ Kd.R (Kd.int .u8) 5 w' w.heap.size (fun _ => True) v0_ r1 ∧ Below w.heap.size w w' := by
  unfold seg_Record.f at h
  by_cases hn : l0.length < 1 ∨ 20000 < l0.length
  · rw [if_pos hn] at h
    obtain ⟨rfl, rfl⟩ : [] = r1 ∧ 1 = r2 := by simpa using h
    exact PGa.seg_Record.calls 1 A0 c0 l0 _ _ w hr0 hc0 (rec_no hn (by omega))
  · rw [if_neg hn] at h
    by_cases hc : Oct l0
    · rw [if_pos hc] at h
      obtain ⟨rfl, rfl⟩ : recP l0 = r1 ∧ 0 = r2 := by simpa using h
      exact PGa.seg_Record.calls (l0.length + 2) A0 c0 l0 _ _ w hr0 hc0 (rec_is hc (by omega) (by omega) (by omega))
    · rw [if_neg hc] at h
      cases h
def seg_Read.f (l0 : List Int) : Option (List (List Int) × Int) := if Oct l0 ∧ l0.length < 1073741824 then some (readP l0) else none
theorem seg_Read.calls (A0 : Option Addr) (c0 : Nat) (l0 : List Int) (r1 : List (List Int)) (r2 : Int) (w : World) (hr0 : Kd.C (Kd.int .u8) w A0 l0.length l0) (hc0 : l0.length ≤ c0) (h : seg_Read.f l0 = some (r1, r2)) :
    Calls Try.prog 14 #[.slice A0 l0.length c0] w fun e w' => ∃ v0_ : Value, e = .returned (.tuple #[v0_, .int .i64 r2]) ∧ Kd.S (Kd.slice 5 (Kd.int .u8)) 22 w' w.heap.size (fun _ => True) v0_ r1 ∧ Below w.heap.size w w' := by
  unfold seg_Read.f at h
  by_cases hc : Oct l0 ∧ l0.length < 1073741824
  · rw [if_pos hc] at h
    exact PGa.seg_Read.calls (l0.length + l0.length + l0.length + 21) A0 c0 l0 _ _ w hr0 hc0 ((read_is hc.1 hc.2 (by omega)).trans h)
  · rw [if_neg hc] at h
    cases h
end Go.Proofs.YtnnlmbmgaajmhaaH
