/- A frame whose last byte is another one is none: for every frame and every byte. No conditions. -/
import Derived.Test.YtcfideolgkjhmaaPGqx4
import Derived.Test.YtcfideolgkjhmaaFrB
namespace Go.Proofs.Ytcfideolgkjhmaa.Pure
open Go.RowKit Go.Proofs.Ytcfideolgkjhmaa.PGq Go.Proofs.YtcfideolgkjhmaaW.PrintWords Go.Proofs.YtcfideolgkjhmaaW.PrintLast Go.Proofs.Ytcfideolgkjhmaa.FrB

theorem other_end {kd ch : Int} {l : List Int} (h : mayB kd ch l = true) (c : Int) (hc : c ≠ 206) : nextS (head kd ch l ++ l ++ [c]) = bad := by
  have p := may_parts h
  have L : (head kd ch l ++ l ++ [c]).length = l.length + 8 := by simp [head]
  have r : ∀ i : Int, 0 ≤ i → i < 7 → rd (head kd ch l ++ l ++ [c]) i = rd (fby kd ch l ++ []) i := by
    intro i h0 h7
    have : i.toNat < 7 := by omega
    unfold fby rd
    simp only [List.getD_eq_getElem?_getD, List.append_assoc]
    rw [List.getElem?_append_left (by simp [head]; omega), List.getElem?_append_left (by simp [head]; omega)]
  have K : kd % 256 = kd := by omega
  have e0 : rd (head kd ch l ++ l ++ [c]) 0 = kd := by rw [r 0 (by omega) (by omega), bytes_rd0, K]
  have e1 : hi (head kd ch l ++ l ++ [c]) = ch := by
    have := hi_bytes [] h
    unfold hi at this ⊢
    rw [r 1 (by omega) (by omega), r 2 (by omega) (by omega), this]
  have e2 : ln (head kd ch l ++ l ++ [c]) = l.length := by
    have := ln_bytes [] h
    unfold ln at this ⊢
    rw [r 3 (by omega) (by omega), r 4 (by omega) (by omega), r 5 (by omega) (by omega), r 6 (by omega) (by omega), this]
  have e3 : rd (head kd ch l ++ l ++ [c]) (7 + (l.length : Int)) = c := by
    have e : (7 + (l.length : Int)).toNat = l.length + 7 := by omega
    simp only [rd, e, List.getD_eq_getElem?_getD]
    rw [List.getElem?_append_right (by simp [head])]
    simp [head]
  unfold nextS
  rw [e0, e1, e2, e3]
  rw [if_neg (by omega), if_neg (by simp [kin]; omega), if_neg (by omega), if_neg (by omega), if_neg (by omega), if_neg (by omega), if_neg (by omega), if_pos hc]

theorem set_end {kd ch : Int} {l : List Int} (c : Int) : (fby kd ch l).set (l.length + 7) c = head kd ch l ++ l ++ [c] := by
  unfold fby
  rw [List.set_append_right _ _ (by simp [head])]
  simp [head]

theorem one_more (kd ch : Int) (l : List Int) (h : mayB kd ch l = true) : nextS (((fby kd ch l).take 7).set 3 1) = bad := by
  have p := may_parts h
  have e : ((fby kd ch l).take 7).set 3 1 = [kd % 256, (ch / 256) % 256, ch % 256, 1, ((l.length : Int) / 65536) % 256, ((l.length : Int) / 256) % 256, (l.length : Int) % 256] := by simp [fby, head]
  have e1 : hi (((fby kd ch l).take 7).set 3 1) = ch := by
    rw [e]
    simp [hi, rd]
    omega
  have e2 : ln (((fby kd ch l).take 7).set 3 1) > 4096 := by
    rw [e]
    simp [ln, rd]
    omega
  have e0 : rd (((fby kd ch l).take 7).set 3 1) 0 = kd := by
    rw [e]
    simp [rd]
    omega
  have L : (((fby kd ch l).take 7).set 3 1).length = 7 := by rw [e]; rfl
  unfold nextS
  rw [e0, e1]
  rw [if_neg (by omega), if_neg (by simp [kin]; omega), if_neg (by omega), if_neg (by omega), if_neg (by omega), if_pos (Or.inl e2)]

theorem only (c : Int) : nextS [c] = if kin c = true then no3 else bad := by
  unfold nextS
  have e : rd [c] 0 = c := by simp [rd]
  rw [e]
  cases kin c <;> rfl

theorem last_way (k : Nat) (c n g : Int) (h1 : c = 206 → g = 0) (h2 : c ≠ 206 → g = 501 ∧ n = 0) : carrefourlaw4_FrameEnds.j1 (k + 21) c n g 501 (if kin c = true then 3 else 501) (kin c) = some true := by
  simp only [carrefourlaw4_FrameEnds.j1]
  rw [told_may k]
  simp only [Option.bind_some, if_true]
  by_cases hc : c = 206
  · rw [h1 hc, hc]
    rfl
  · obtain ⟨rfl, rfl⟩ := h2 hc
    rw [if_neg (by omega), if_neg hc]
    cases kin c <;> rfl

theorem FrameEnds : carrefourlaw4_FrameEnds.Pure := by
  intro kd ch l c hk hch hl hc
  refine ⟨30, ?_⟩
  have hb : By l := fun y hy => u8_of (hl.2 y hy)
  have hcb := u8_of hc
  have out : ∀ x, carrefourlaw4_FrameEnds.j0 30 c x true = some true := by
    intro x
    simp only [carrefourlaw4_FrameEnds.j0, if_true]
    rw [told_may 9]
    rfl
  unfold carrefourlaw4_FrameEnds.f
  rw [put_tells]
  simp only [Option.bind_some]
  by_cases h : mayB kd ch l = true
  case neg =>
    rw [if_neg h]
    simp only [Int.one_ne_zero, if_false]
    exact out _
  rw [if_pos h]
  simp only [if_true]
  by_cases h200 : (l.length : Int) > 200
  · rw [if_pos h200]
    exact out _
  have L := bytes_len kd ch l
  have B : By (fby kd ch l) := hb.fby
  rw [if_neg h200, show decide (((fby kd ch l).length : Int) < 8) = false from decide_eq_false (by omega)]
  simp only [carrefourlaw4_FrameEnds.j0]
  have w1 : wrap64 (((fby kd ch l).length : Int) - 1) = l.length + 7 := by
    unfold wrap64
    omega
  have w2 : ((l.length : Int) + 7).toNat = l.length + 7 := by omega
  rw [if_neg (by simp)]
  simp only [Option.bind_some, List.nil_append]
  rw [if_pos (by simp; omega), w1, if_pos (by omega), if_pos (by omega), w2, set_end]
  have B1 : By (head kd ch l ++ l ++ [c]) := by
    rw [← set_end]
    intro y hy
    rcases List.mem_or_eq_of_mem_set hy with h' | h'
    · exact B y h'
    · rw [h']; exact hcb
  rw [next_spec 27 B1 (by simp [head]; omega)]
  simp only [Option.bind_some]
  have L7 : ((fby kd ch l).take 7).length = 7 := by rw [List.length_take]; omega
  rw [if_pos (by omega), if_pos (by rw [L7]; decide), if_pos (by omega)]
  have B2 : By (((fby kd ch l).take 7).set (3 : Int).toNat 1) := by
    intro y hy
    rcases List.mem_or_eq_of_mem_set hy with h' | h'
    · exact (B.take 7) y h'
    · rw [h']; omega
  rw [next_spec 27 B2 (by rw [List.length_set, L7]; omega)]
  simp only [Option.bind_some]
  rw [next_spec 27 (l := [c]) (by intro y hy; simp at hy; omega) (by simp)]
  simp only [Option.bind_some]
  rw [show ((3 : Int).toNat) = 3 from rfl, one_more kd ch l h, only c]
  have key : carrefourlaw4_FrameEnds.j1 29 c (nextS (head kd ch l ++ l ++ [c])).2.2.2.1 (nextS (head kd ch l ++ l ++ [c])).2.2.2.2 501 (if kin c = true then 3 else 501) (kin c) = some true := by
    refine last_way 8 c _ _ ?_ ?_
    · intro e
      subst e
      have := next_bytes [] h
      rw [List.append_nil] at this
      show (nextS (fby kd ch l)).2.2.2.2 = 0
      rw [this]
    · intro e
      rw [other_end h c e]
      exact ⟨rfl, rfl⟩
  have kk : ∀ b, kin c = b → (if kin c = true then no3 else bad).2.2.2.2 = (if b = true then 3 else 501) := by
    intro b hb'
    rw [hb']
    cases b <;> rfl
  rw [kk _ rfl]
  show (if c = 1 then carrefourlaw4_FrameEnds.j1 29 c _ _ 501 _ true else _) = _
  unfold kin at key ⊢
  by_cases c1 : c = 1
  · rw [if_pos c1]
    rw [show decide (c = 1 ∨ c = 2 ∨ c = 3 ∨ c = 8) = true from decide_eq_true (by omega)] at key ⊢
    exact key
  rw [if_neg c1]
  by_cases c2 : c = 2
  · rw [if_pos c2]
    rw [show decide (c = 1 ∨ c = 2 ∨ c = 3 ∨ c = 8) = true from decide_eq_true (by omega)] at key ⊢
    exact key
  rw [if_neg c2]
  by_cases c3 : c = 3
  · rw [if_pos c3]
    rw [show decide (c = 1 ∨ c = 2 ∨ c = 3 ∨ c = 8) = true from decide_eq_true (by omega)] at key ⊢
    exact key
  rw [if_neg c3]
  have e8 : decide (c = 1 ∨ c = 2 ∨ c = 3 ∨ c = 8) = (c == 8) := by
    by_cases c8 : c = 8 <;> simp [c1, c2, c3, c8]
  rw [e8] at key ⊢
  exact key

end Go.Proofs.Ytcfideolgkjhmaa.Pure
