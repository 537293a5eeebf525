/- A byte that is turned makes another sum: for all bytes, places, turns. No conditions. -/
import Derived.Test.YtnnlmbmgaajmhaaPGhx1
import Derived.Test.YtnnlmbmgaajmhaaSgC
namespace Go.Proofs.Ytnnlmbmgaajmhaa.Pure
open Go.RowKit Go.Proofs.Ytnnlmbmgaajmhaa.PGh Go.Proofs.YtnnlmbmgaajmhaaW.PrintWords Go.Proofs.YtnnlmbmgaajmhaaW.PrintLast Go.Proofs.YtnnlmbmgaajmhaaH Go.Proofs.Ytnnlmbmgaajmhaa.Sg
theorem SegSums : carrefourlaw11_SegSums.Pure := by
  intro l0 a1 a2 _ _ hb _ hc
  have hl : Oct l0 := fun y hy => u8_of (hb y hy)
  have hc := u8_of hc
  refine ⟨1, ?_⟩
  have jt : carrefourlaw11_SegSums.j0 1 l0 a1 a2 true = some true := rfl
  unfold carrefourlaw11_SegSums.f
  by_cases c1 : (l0.length : Int) < 1
  · rw [if_pos c1, jt]
  by_cases c2 : (l0.length : Int) > 400
  · rw [if_neg c1, decide_eq_true c2, jt]
  rw [if_neg c1, decide_eq_false c2]
  obtain ⟨m, hm, hml⟩ := place a1 l0.length (by omega) (by omega)
  simp only [carrefourlaw11_SegSums.j0]
  rw [if_neg (by simp), if_neg (by rw [u64_is]; omega), hm]
  simp only [Option.bind_some, List.nil_append, List.length_nil]
  rw [if_pos (by omega), if_pos (by omega), if_pos (by omega)]
  have hx : rd l0 (m : Int) = l0[m] := by
    unfold rd
    rw [List.getD_eq_getElem?_getD, Int.toNat_natCast, List.getElem?_eq_getElem hml]
    rfl
  have hxb := hl l0[m] (List.getElem_mem hml)
  obtain ⟨tb, ti⟩ := turn l0[m] a2 hxb hc
  rw [hx, Int.toNat_natCast]
  show (Option.bind (some true) _ : Option Bool) = _
  simp only [Option.bind_some]
  rw [if_pos trivial]
  unfold seg_Sum.f
  rw [if_pos ⟨hl.set m tb, by rw [List.length_set]; omega⟩, if_pos ⟨hl, by omega⟩]
  simp only [Option.bind_some]
  by_cases hz : a2 = 0
  · have e : l0.set m (Go.bits .xor .u8 l0[m] a2) = l0 := by rw [ti.mpr hz, List.set_getElem_self]
    rw [e, if_pos rfl, hz]
    rfl
  · rw [if_neg (sum_ne l0 m hml _ tb hxb (fun h => hz (ti.mp h)))]
    simp [hz]
end Go.Proofs.Ytnnlmbmgaajmhaa.Pure
