/- What comes behind an event, and what is done, is what the document's own function says: for every step and every event. No conditions. -/
import Derived.Test.YtladmbjfnkmlnaaPGpx4
namespace Go.Proofs.Ytladmbjfnkmlnaa.Pure
open Go.RowKit Go.Proofs.Ytladmbjfnkmlnaa.PGp Go.Proofs.YtladmbjfnkmlnaaW.PrintWords Go.Proofs.YtladmbjfnkmlnaaW.PrintLast

theorem step_cases (x : Int) : x = 0 ∨ x = 1 ∨ x = 2 ∨ x = 3 ∨ x = 4 ∨ x = 5 ∨ x = 6 ∨ x = 7 ∨ x = 8 ∨ x = 9 ∨ x < 0 ∨ 9 < x := by omega

theorem told_true : carrefourlaw18_told.f 20 = some true := by rfl

/-- A step, as Next sees it. -/
theorem next_some (p e : Int) : ∃ r, shift_Next.f 20 p e = some r ∧ carrefourref18_Next.f 20 p e = some r := by
  rcases step_cases p with rfl | rfl | rfl | rfl | rfl | rfl | rfl | rfl | rfl | rfl | hp | hp <;>
  rcases step_cases e with rfl | rfl | rfl | rfl | rfl | rfl | rfl | rfl | rfl | rfl | he | he <;>
  first
  | exact ⟨_, rfl, rfl⟩
  | (have h0 : ¬ p = 0 := by omega
     have h1 : ¬ p = 1 := by omega
     have h2 : ¬ p = 2 := by omega
     have h3 : ¬ p = 3 := by omega
     have h4 : ¬ p = 4 := by omega
     have h5 : ¬ p = 5 := by omega
     have h6 : ¬ p = 6 := by omega
     have h8 : ¬ p = 8 := by omega
     have hr : p ≥ 1 → ¬ p ≤ 4 := by omega
     have b0 : (p == 0) = false := by simpa using h0
     have b1 : (p == 1) = false := by simpa using h1
     have b2 : (p == 2) = false := by simpa using h2
     have b3 : (p == 3) = false := by simpa using h3
     have b4 : (p == 4) = false := by simpa using h4
     have b5 : (p == 5) = false := by simpa using h5
     have b6 : (p == 6) = false := by simpa using h6
     have b8 : (p == 8) = false := by simpa using h8
     refine ⟨(p, 0), ?_, ?_⟩ <;>
     simp_all [shift_Next.f, shift_Next.j0, shift_late.f, shift_late.j0, shift_anew.f, carrefourref18_Next.f, carrefourref18_Next.j0, carrefourref18_Next.j1, carrefourref18_Next.j2, carrefourref18_Next.j3, carrefourref18_Next.j4, carrefourref18_Next.j5, carrefourref18_Next.j6, carrefourref18_Next.j7, carrefourref18_Next.j8, carrefourref18_Next.j9, carrefourref18_Next.j10] <;> omega)
  | (have e1 : ¬ e = 1 := by omega
     have e2 : ¬ e = 2 := by omega
     have e3 : ¬ e = 3 := by omega
     have e4 : ¬ e = 4 := by omega
     have e5 : ¬ e = 5 := by omega
     have e6 : ¬ e = 6 := by omega
     have e7 : ¬ e = 7 := by omega
     have e8 : ¬ e = 8 := by omega
     have e9 : ¬ e = 9 := by omega
     exact ⟨_, by simp [shift_Next.f, shift_Next.j0, e1, e2, e3, e4, e5, e6, e7, e8, e9]; rfl, by simp [carrefourref18_Next.f, carrefourref18_Next.j0, carrefourref18_Next.j1, carrefourref18_Next.j2, carrefourref18_Next.j3, carrefourref18_Next.j4, carrefourref18_Next.j5, carrefourref18_Next.j6, carrefourref18_Next.j7, carrefourref18_Next.j8, carrefourref18_Next.j9, carrefourref18_Next.j10, e1, e2, e3, e4, e5, e6, e7, e8, e9]⟩)

theorem again_some (p : Int) : ∃ r, shift_Again.f 20 p = some r ∧ carrefourref18_Again.f 20 p = some r := by
  have h : shift_Again.f 20 p = carrefourref18_Again.f 20 p := by
    simp only [carrefourref18_Again.f, carrefourref18_Again.j0, shift_Again.f, shift_Again.j0]
  obtain ⟨r, hr⟩ : ∃ r, carrefourref18_Again.f 20 p = some r := by
    simp only [carrefourref18_Again.f, carrefourref18_Again.j0]
    (repeat' split) <;> exact ⟨_, rfl⟩
  exact ⟨r, h.trans hr, hr⟩

theorem ShiftAsks : carrefourlaw18_ShiftAsks.Pure := by
  intro p e hp he
  obtain ⟨r, h1, h2⟩ := next_some p e
  obtain ⟨q, h3, h4⟩ := again_some p
  refine ⟨20, ?_⟩
  have hm : shift_May.f p = carrefourref18_MayStep.f p := rfl
  have ho : shift_Over.f p = carrefourref18_Over.f p := rfl
  have hs : shift_Safe.f p = carrefourref18_Safe.f p := rfl
  obtain ⟨m, hm'⟩ : ∃ m, carrefourref18_MayStep.f p = some m := by unfold carrefourref18_MayStep.f; split <;> exact ⟨_, rfl⟩
  obtain ⟨o, ho'⟩ : ∃ m, carrefourref18_Over.f p = some m := by unfold carrefourref18_Over.f; split <;> exact ⟨_, rfl⟩
  obtain ⟨s, hs'⟩ : ∃ m, carrefourref18_Safe.f p = some m := by unfold carrefourref18_Safe.f; (repeat' split) <;> exact ⟨_, rfl⟩
  unfold carrefourlaw18_ShiftAsks.f
  rw [h1, h2, told_true, hm, ho, hs, hm', ho', hs', h3, h4]
  simp

end Go.Proofs.Ytladmbjfnkmlnaa.Pure
