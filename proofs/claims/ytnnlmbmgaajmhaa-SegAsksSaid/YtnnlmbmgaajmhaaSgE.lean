/- What is read of records that are cut off. -/
import Derived.Test.YtnnlmbmgaajmhaaSgD
namespace Go.Proofs.Ytnnlmbmgaajmhaa.Sg
open Go.RowKit Go.Proofs.YtnnlmbmgaajmhaaW.PrintWords Go.Proofs.YtnnlmbmgaajmhaaW.PrintLast
set_option linter.unusedVariables false

/-- A beginning of a record is none. -/
theorem good_part (x : List Int) (h1 : 1 ≤ x.length) (h2 : x.length ≤ 20000) (m : Nat) (hm : m < x.length + 6) : good ((recP x).take m) = false := by
  by_cases h6 : m < 6
  · exact decide_eq_false fun h => by
      have := h.1
      rw [List.length_take] at this
      omega
  · obtain ⟨j, rfl⟩ : ∃ j, m = 6 + j := ⟨m - 6, by omega⟩
    have e : (recP x).take (6 + j) = hdr x.length (sumP x) ++ x.take j := by
      unfold recP
      rw [List.take_append, hdr_len, show 6 + j - 6 = j by omega, List.take_of_length_le (by rw [hdr_len]; omega)]
    rw [e]
    exact decide_eq_false fun h => by
      have h3 := h.2.2.2.1
      rw [num_hdr _ _ _ (by omega), List.length_append, hdr_len, List.length_take] at h3
      omega
theorem cut : ∀ (ls : List (List Int)) (m : Nat), (∀ x ∈ ls, 1 ≤ x.length ∧ x.length ≤ 20000) → ∃ q b, q ≤ ls.length ∧ (cat ls).take m = cat (ls.take q) ++ b ∧ good b = false
  | [], m, _ => ⟨0, [], Nat.le_refl _, by rw [cat_nil, List.take_nil]; rfl, good_nil⟩
  | x :: ls, m, h => by
    have hx := h x (List.mem_cons_self ..)
    by_cases hm : m < x.length + 6
    · refine ⟨0, (recP x).take m, Nat.zero_le _, ?_, good_part x hx.1 hx.2 m hm⟩
      rw [cat_cons, List.take_append_of_le_length (by rw [rec_len]; omega)]
      rfl
    · obtain ⟨q, b, hq, he, hb⟩ := cut ls (m - (x.length + 6)) (fun y hy => h y (List.mem_cons_of_mem _ hy))
      refine ⟨q + 1, b, by rw [List.length_cons]; omega, ?_, hb⟩
      rw [cat_cons, List.take_append, rec_len, List.take_of_length_le (by rw [rec_len]; omega), he, List.take_succ_cons, cat_cons, List.append_assoc]
/-- Records, and a beginning of others. -/
theorem read_cut (pre post : List (List Int)) (m : Nat) (h1 : ∀ x ∈ pre, 1 ≤ x.length ∧ x.length ≤ 20000) (h2 : ∀ x ∈ post, 1 ≤ x.length ∧ x.length ≤ 20000) :
    ∃ q, q ≤ post.length ∧ (readP (cat pre ++ (cat post).take m)).1 = pre ++ post.take q := by
  obtain ⟨q, b, hq, he, hb⟩ := cut post m h2
  refine ⟨q, hq, ?_⟩
  rw [he, ← List.append_assoc, ← cat_app]
  have hlen : (pre ++ post.take q).length ≤ (cat (pre ++ post.take q) ++ b).length := by
    have h3 := cat_long (pre ++ post.take q)
    have h4 : (cat (pre ++ post.take q) ++ b).length = (cat (pre ++ post.take q)).length + b.length := List.length_append
    omega
  have h := read_cat (pre ++ post.take q) b (cat (pre ++ post.take q) ++ b).length (fun x hx => by
    rcases List.mem_append.mp hx with h | h
    · exact h1 x h
    · exact h2 x (List.mem_of_mem_take h)) hb hlen
  unfold readP
  rw [h]
/-- .. of one row of records, cut at k for good. -/
theorem read_keep (l : List (List Int)) (k m : Nat) (hk : k ≤ l.length) (h : ∀ x ∈ l, 1 ≤ x.length ∧ x.length ≤ 20000) :
    ∃ q, k ≤ q ∧ q ≤ l.length ∧ (readP (cat (l.take k) ++ (cat (l.drop k)).take m)).1 = l.take q := by
  obtain ⟨q, hq, he⟩ := read_cut (l.take k) (l.drop k) m (fun x hx => h x (List.mem_of_mem_take hx)) (fun x hx => h x (List.mem_of_mem_drop hx))
  rw [List.length_drop] at hq
  refine ⟨k + q, by omega, by omega, ?_⟩
  rw [he]
  exact (List.take_add ..).symm
end Go.Proofs.Ytnnlmbmgaajmhaa.Sg
