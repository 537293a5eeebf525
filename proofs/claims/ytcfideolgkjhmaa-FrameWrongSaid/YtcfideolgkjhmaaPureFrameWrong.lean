/- Behind a byte that no frame begins with nothing is read: for all frames, all bytes. No conditions. -/
import Derived.Test.YtcfideolgkjhmaaPGqx6
import Derived.Test.YtcfideolgkjhmaaFrC
namespace Go.Proofs.Ytcfideolgkjhmaa.Pure
open Go.RowKit Go.Proofs.Ytcfideolgkjhmaa.PGq Go.Proofs.YtcfideolgkjhmaaW.PrintWords Go.Proofs.YtcfideolgkjhmaaW.PrintLast Go.Proofs.Ytcfideolgkjhmaa.FrB Go.Proofs.Ytcfideolgkjhmaa.FrC

theorem take_one (l : List S24) (i : Nat) (h : i < l.length) : l.take (i + 1) = l.take i ++ [rd_T24 l i] := by
  rw [List.take_succ_eq_append_getElem h]
  simp [rd_T24, List.getD_eq_getElem?_getD, List.getElem?_eq_getElem h]
theorem rd_mem (l : List S24) (i : Nat) (h : i < l.length) : rd_T24 l i ∈ l := by
  have : rd_T24 l i = l[i] := by simp [rd_T24, List.getD_eq_getElem?_getD, List.getElem?_eq_getElem h]
  rw [this]
  exact List.getElem_mem h

theorem wrong_end (l : List S24) (c : Int) (m : List Int) (hl : l.length ≤ 6) (hm : m.length ≤ 50) (hc : kin c = false) (hcb : 0 ≤ c ∧ c < 256)
    (hb : By m) (hf : ∀ f ∈ l, By f.f2) (hy : ∀ f ∈ l, mays f = true) (hn : (cat l).length ≤ 2000) (k : Nat) (i : Int) (hi : ¬ i < (l.length : Int)) :
    carrefourlaw4_FrameWrong.l1 (k + 31) l c m (cat l) i = some true := by
  simp only [carrefourlaw4_FrameWrong.l1]
  rw [if_neg hi]
  simp only [Option.bind_some, List.nil_append]
  have B : By (cat l ++ (c :: m)) := by
    refine By.app (cat_by hf) ?_
    intro y hy
    rcases List.mem_cons.mp hy with h | h
    · rw [h]; exact hcb
    · exact hb y h
  have nx : nextS (c :: m) = bad := by
    unfold nextS
    have e : rd (c :: m) 0 = c := by simp [rd]
    rw [e, if_neg (by simp), if_pos hc]
  have L : (cat l ++ (c :: m)).length < 1000000 := by
    simp only [List.length_append, List.length_cons]
    omega
  have all := all_is (c :: m) l (k + 27 - l.length) B L (by omega) hy (fun _ => by rw [nx]; decide)
  rw [show k + 27 - l.length + 3 + l.length = k + 30 by omega] at all
  rw [if_pos (by simp; omega), if_pos (by omega), if_pos (by simp; omega)]
  rw [List.append_assoc, List.singleton_append, all, nx, told_may (k + 10)]
  simp [bad]

theorem wrong_loop (l : List S24) (c : Int) (m : List Int) (hl : l.length ≤ 6) (hm : m.length ≤ 50) (hc : kin c = false) (hcb : 0 ≤ c ∧ c < 256)
    (hb : By m) (hf : ∀ f ∈ l, By f.f2) (d : Nat) : ∀ (k i : Nat), i + d = l.length → (∀ f ∈ l.take i, mays f = true) → (cat (l.take i)).length ≤ 208 * i →
    carrefourlaw4_FrameWrong.l1 (k + 2 * d + 31) l c m (cat (l.take i)) (i : Int) = some true := by
  induction d with
  | zero =>
    intro k i hi hy hn
    have e : l.take i = l := List.take_of_length_le (by omega)
    rw [e] at hy hn ⊢
    exact wrong_end l c m hl hm hc hcb hb hf hy (by omega) k i (by omega)
  | succ d ih =>
    intro k i hi hy hn
    rw [show k + 2 * (d + 1) + 31 = (k + 2 * d + 32) + 1 by omega]
    simp only [carrefourlaw4_FrameWrong.l1]
    have hlt : i < l.length := by omega
    rw [if_pos (by omega), if_pos (by omega), put_tells]
    simp only [Option.bind_some]
    have out : ∀ x, carrefourlaw4_FrameWrong.j2 (k + 2 * d + 32) l c m (cat (l.take i)) (i : Int) x true = some true := by
      intro x
      simp only [carrefourlaw4_FrameWrong.j2, if_true]
      rw [told_may (k + 2 * d + 11)]
      rfl
    by_cases hp : mayB (rd_T24 l i).f0 (rd_T24 l i).f1 (rd_T24 l i).f2 = true
    · rw [if_pos hp]
      simp only [if_true]
      have L1 := bytes_len (rd_T24 l i).f0 (rd_T24 l i).f1 (rd_T24 l i).f2
      by_cases h208 : ((fby (rd_T24 l i).f0 (rd_T24 l i).f1 (rd_T24 l i).f2).length : Int) > 208
      · rw [decide_eq_true h208]
        exact out _
      · rw [decide_eq_false h208]
        simp only [carrefourlaw4_FrameWrong.j2]
        rw [if_neg (by simp), if_pos (by omega)]
        have e : cat (l.take i) ++ fby (rd_T24 l i).f0 (rd_T24 l i).f1 (rd_T24 l i).f2 = cat (l.take (i + 1)) := by
          rw [take_one l i hlt, cat_app]
          simp [cat, one]
        have w : wrap64 ((i : Int) + 1) = ((i + 1 : Nat) : Int) := by
          unfold wrap64
          omega
        rw [e, w]
        refine ih k (i + 1) (by omega) ?_ ?_
        · intro f hf'
          rw [take_one l i hlt] at hf'
          rcases List.mem_append.mp hf' with h | h
          · exact hy f h
          · rw [List.mem_singleton.mp h]; exact hp
        · rw [← e, List.length_append]
          omega
    · rw [if_neg hp]
      simp only [Int.one_ne_zero, if_false]
      exact out _

theorem FrameWrong : carrefourlaw4_FrameWrong.Pure := by
  intro l c m hl hc hm
  refine ⟨60, ?_⟩
  have out : carrefourlaw4_FrameWrong.j0 60 l c m true = some true := by
    simp only [carrefourlaw4_FrameWrong.j0, if_true]
    rw [told_may 39]
    rfl
  unfold carrefourlaw4_FrameWrong.f
  by_cases h6 : (l.length : Int) > 6
  · rw [if_pos h6]; exact out
  rw [if_neg h6]
  by_cases h50 : (m.length : Int) > 50
  · rw [if_pos h50]; exact out
  rw [if_neg h50]
  by_cases c1 : c = 1
  · rw [if_pos c1]; exact out
  rw [if_neg c1]
  by_cases c2 : c = 2
  · rw [if_pos c2]; exact out
  rw [if_neg c2]
  by_cases c3 : c = 3
  · rw [if_pos c3]; exact out
  rw [if_neg c3]
  by_cases c8 : c = 8
  · rw [c8] at out ⊢; exact out
  rw [show (c == 8) = false by simp [c8]]
  simp only [carrefourlaw4_FrameWrong.j0]
  rw [if_neg (by simp)]
  have go := wrong_loop l c m (by omega) (by omega) (decide_eq_false (by omega)) (u8_of hc) (fun y hy => u8_of (hm.2 y hy)) (fun f hf y hy => u8_of ((hl.2 f hf).2.2.2 y hy)) l.length (28 - 2 * l.length) 0 (by omega) (by simp) (by simp [cat])
  rw [show 28 - 2 * l.length + 2 * l.length + 31 = 59 by omega] at go
  exact go

end Go.Proofs.Ytcfideolgkjhmaa.Pure
