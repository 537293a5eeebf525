/- Records are read one by one; a turned byte ends the reading there: for all rows, places, turns. No conditions. -/
import Derived.Test.YtnnlmbmgaajmhaaPGhx2
import Derived.Test.YtnnlmbmgaajmhaaSgD
namespace Go.Proofs.Ytnnlmbmgaajmhaa.Pure
open Go.RowKit Go.Proofs.Ytnnlmbmgaajmhaa.PGh Go.Proofs.YtnnlmbmgaajmhaaW.PrintWords Go.Proofs.YtnnlmbmgaajmhaaW.PrintLast Go.Proofs.YtnnlmbmgaajmhaaH Go.Proofs.Ytnnlmbmgaajmhaa.Sg
theorem told_f : carrefourlaw11_told.f = some true := rfl
theorem row_at {ls : List (List Int)} {i : Nat} (h : i < ls.length) : rd_L1 ls (i : Int) = ls[i] := by
  unfold rd_L1
  rw [List.getD_eq_getElem?_getD, Int.toNat_natCast, List.getElem?_eq_getElem h]
  rfl
/-- The last loop: those that were read are the first ones. -/
theorem last_loop (ls : List (List Int)) (k : Nat) (hk : k ≤ ls.length) (hn : ls.length ≤ 8) : ∀ (d i K : Nat), i + d = k → d < K → carrefourlaw11_SegRows.l3 K ls (k : Int) (ls.take k) (i : Int) = some true := by
  have hlen : (ls.take k).length = k := by rw [List.length_take]; omega
  intro d
  induction d with
  | zero =>
    intro i K hi hK
    obtain ⟨m, rfl⟩ : ∃ m, K = m + 1 := ⟨K - 1, by omega⟩
    simp only [carrefourlaw11_SegRows.l3]
    rw [if_neg (by omega), told_f, hlen]
    simp
  | succ d ih =>
    intro i K hi hK
    obtain ⟨m, rfl⟩ : ∃ m, K = m + 1 := ⟨K - 1, by omega⟩
    simp only [carrefourlaw11_SegRows.l3]
    rw [if_pos (by omega), if_pos (by omega), if_pos (by omega)]
    rw [row_at (ls := ls.take k) (by omega), row_at (ls := ls) (by omega), List.getElem_take, if_pos rfl]
    have e : wrap64 ((i : Int) + 1) = ((i + 1 : Nat) : Int) := by rw [w64 _ (by omega) (by omega)]; omega
    rw [e]
    exact ih (i + 1) m (by omega) (by omega)
/-- Behind the first loop. -/
theorem behind (ls : List (List Int)) (a3 : Int) (hc : 0 ≤ a3 ∧ a3 < 256) (hz : a3 ≠ 0) (ho : ∀ x ∈ ls, Oct x ∧ 1 ≤ x.length ∧ x.length ≤ 60) (hn : ls.length ≤ 8) (k : Nat) (hk : k < ls.length) (j : Nat) (hj : j < ls[k].length) (K : Nat) (hK : 20 < K) :
    carrefourlaw11_SegRows.j4 K ls a3 (k : Int) (cat ls) (((cat (ls.take k)).length + 6 + j : Nat) : Int) false = some true := by
  obtain ⟨m, rfl⟩ : ∃ m, K = m + 1 := ⟨K - 1, by omega⟩
  have hsz := cat_size (m := 60) (fun x hx => (ho x hx).2.2)
  have hpre := cat_size (m := 60) (fun x hx => (ho x (List.mem_of_mem_take hx)).2.2 : ∀ x ∈ ls.take k, x.length ≤ 60)
  have hsplit : ls = ls.take k ++ ls[k] :: ls.drop (k + 1) := by rw [← List.drop_eq_getElem_cons hk, List.take_append_drop]
  have hmem := ho ls[k] (List.getElem_mem hk)
  have hcat : cat ls = cat (ls.take k) ++ (recP ls[k] ++ cat (ls.drop (k + 1))) := by
    rw [← cat_cons, ← cat_app, ← hsplit]
  have hlt : (cat (ls.take k)).length + 6 + j < (cat ls).length := by
    rw [hcat, List.length_append, List.length_append, rec_len]
    omega
  have hoc : Oct (cat ls) := cat_oct fun x hx => (ho x hx).1
  have hrd : rd (cat ls) (((cat (ls.take k)).length + 6 + j : Nat) : Int) = ls[k][j] := by
    have h := rd_at (ls.take k) ls[k] (ls.drop (k + 1)) j hj
    rw [← hsplit] at h
    exact h
  have hset : ∀ r, (cat ls).set ((cat (ls.take k)).length + 6 + j) r = cat (ls.take k) ++ (hdr ls[k].length (sumP ls[k]) ++ ls[k].set j r ++ cat (ls.drop (k + 1))) := fun r => by
    have h := set_at (ls.take k) ls[k] (ls.drop (k + 1)) j r hj
    rw [← hsplit] at h
    exact h
  have hxb := hmem.1 _ (List.getElem_mem hj)
  obtain ⟨tb, ti⟩ := turn ls[k][j] a3 hxb hc
  simp only [carrefourlaw11_SegRows.j4]
  rw [if_neg (by simp), if_pos (by omega), if_pos (by omega), hrd, Int.toNat_natCast]
  have ho2 : Oct ((cat ls).set ((cat (ls.take k)).length + 6 + j) (Go.bits .xor .u8 ls[k][j] a3)) := hoc.set _ tb
  have hl2 : ((cat ls).set ((cat (ls.take k)).length + 6 + j) (Go.bits .xor .u8 ls[k][j] a3)).length = (cat ls).length := List.length_set
  have hread : readP ((cat ls).set ((cat (ls.take k)).length + 6 + j) (Go.bits .xor .u8 ls[k][j] a3)) = (ls.take k, ((cat (ls.take k)).length : Int)) := by
    unfold readP
    rw [hl2, hset]
    refine read_cat (ls.take k) _ _ (fun x hx => ⟨(ho x (List.mem_of_mem_take hx)).2.1, by have := (ho x (List.mem_of_mem_take hx)).2.2; omega⟩) ?_ ?_
    · exact good_turned ls[k] _ hmem.1 hmem.2.1 (by omega) j hj _ tb (fun h => hz (ti.mp h))
    · rw [List.length_take]
      have := cat_long ls
      omega
  unfold seg_Read.f
  rw [if_pos ⟨ho2, by omega⟩, hread]
  simp only [Option.bind_some]
  exact last_loop ls k (by omega) hn k 0 m (by omega) (by omega)
/-- The first loop: the records are put one behind the other. -/
theorem first_loop (ls : List (List Int)) (a2 a3 : Int) (hc : 0 ≤ a3 ∧ a3 < 256) (hz : a3 ≠ 0) (ho : ∀ x ∈ ls, Oct x) (hn : ls.length ≤ 8) (k : Nat) (hk : k < ls.length) (j : Nat) (hj : ls[k].length ≠ 0 → j < ls[k].length)
    (hjj : ls[k].length ≠ 0 → ls[k].length ≤ 60 → wrap64 (Int.tmod (IntKind.u64.wrap a2) (IntKind.u64.wrap (ls[k].length : Int))) = (j : Int)) :
    ∀ (d i K : Nat), i + d = ls.length → (∀ x ∈ ls.take i, 1 ≤ x.length ∧ x.length ≤ 60) → d + d + d + 40 < K →
      carrefourlaw11_SegRows.l2 K ls a2 a3 (k : Int) (cat (ls.take i)) (if i ≤ k then 0 else (((cat (ls.take k)).length + 6 + j : Nat) : Int)) (i : Int) = some true := by
  intro d
  induction d with
  | zero =>
    intro i K hi hf hK
    obtain ⟨m, rfl⟩ : ∃ m, K = m + 1 := ⟨K - 1, by omega⟩
    have hi2 : ls.take i = ls := List.take_of_length_le (by omega)
    rw [hi2] at hf ⊢
    rw [if_neg (by omega)]
    have hkk := hf ls[k] (List.getElem_mem hk)
    have hj2 := hj (by omega)
    have hsz := cat_size (m := 60) (fun x hx => (hf x hx).2)
    simp only [carrefourlaw11_SegRows.l2]
    rw [if_neg (by omega)]
    unfold seg_Read.f
    rw [if_pos ⟨cat_oct ho, by omega⟩, readP_cat ls (fun x hx => ⟨(hf x hx).1, by have := (hf x hx).2; omega⟩)]
    simp only [Option.bind_some]
    rw [if_pos trivial, if_pos trivial]
    have hlt : ((cat (ls.take k)).length + 6 + j : Nat) < (cat ls).length := by
      have hsplit : ls = ls.take k ++ ls[k] :: ls.drop (k + 1) := by rw [← List.drop_eq_getElem_cons hk, List.take_append_drop]
      have hcat : cat ls = cat (ls.take k) ++ (recP ls[k] ++ cat (ls.drop (k + 1))) := by rw [← cat_cons, ← cat_app, ← hsplit]
      rw [hcat, List.length_append, List.length_append, rec_len]
      omega
    rw [decide_eq_false (by omega)]
    exact behind ls a3 hc hz (fun x hx => ⟨ho x hx, hf x hx⟩) hn k hk j hj2 m (by omega)
  | succ d ih =>
    intro i K hi hf hK
    obtain ⟨m, rfl⟩ : ∃ m, K = m + 3 := ⟨K - 3, by omega⟩
    have hil : i < ls.length := by omega
    simp only [carrefourlaw11_SegRows.l2]
    rw [if_pos (by omega), if_pos (by omega), row_at hil]
    have jt : ∀ x, carrefourlaw11_SegRows.j2 (m + 2) ls a2 a3 (k : Int) (cat (ls.take i)) x (i : Int) true = some true := fun x => by
      simp only [carrefourlaw11_SegRows.j2]
      rw [told_f]
      rfl
    by_cases c1 : (ls[i].length : Int) < 1
    · rw [if_pos c1, jt]
    by_cases c2 : (ls[i].length : Int) > 60
    · rw [if_neg c1, decide_eq_true c2, jt]
    rw [if_neg c1, decide_eq_false c2]
    have hf2 : ∀ x ∈ ls.take (i + 1), 1 ≤ x.length ∧ x.length ≤ 60 := by
      intro x hx
      rw [List.take_succ_eq_append_getElem hil] at hx
      rcases List.mem_append.mp hx with h | h
      · exact hf x h
      · rw [List.mem_singleton.mp h]
        omega
    have hsz := cat_size (m := 60) (fun x hx => (hf x hx).2)
    have hti : (ls.take i).length = i := by rw [List.length_take]; omega
    rw [hti] at hsz
    have j3 : ∀ y, y = (if i + 1 ≤ k then 0 else (((cat (ls.take k)).length + 6 + j : Nat) : Int)) → carrefourlaw11_SegRows.j3 (m + 1) ls a2 a3 (k : Int) (cat (ls.take i)) y (i : Int) = some true := by
      intro y hy
      subst hy
      simp only [carrefourlaw11_SegRows.j3]
      rw [if_pos (by omega), if_pos (by omega), row_at hil]
      unfold seg_Record.f
      rw [if_neg (by omega), if_pos (ho _ (List.getElem_mem hil))]
      simp only [Option.bind_some]
      have e : wrap64 ((i : Int) + 1) = ((i + 1 : Nat) : Int) := by rw [w64 _ (by omega) (by omega)]; omega
      rw [if_pos trivial, if_pos (by rw [rec_len]; omega), e, ← cat_snoc, ← List.take_succ_eq_append_getElem hil]
      exact ih (i + 1) m (by omega) hf2 (by omega)
    simp only [carrefourlaw11_SegRows.j2]
    rw [if_neg (by simp)]
    by_cases c3 : i = k
    · subst c3
      have hne : ls[i].length ≠ 0 := by omega
      rw [if_pos rfl, if_pos (by omega), if_pos (by omega), row_at hil, if_neg (by rw [u64_is]; omega), hjj hne (by omega)]
      have e1 : wrap64 (((cat (ls.take i)).length : Int) + 6) = (((cat (ls.take i)).length + 6 : Nat) : Int) := by rw [w64 _ (by omega) (by omega)]; omega
      have hj3 := hj hne
      rw [e1, w64 _ (by omega) (by omega)]
      refine j3 _ ?_
      rw [if_neg (by omega)]
      omega
    · rw [if_neg (by omega)]
      refine j3 _ ?_
      by_cases c4 : i ≤ k
      · rw [if_pos c4, if_pos (by omega)]
      · rw [if_neg c4, if_neg (by omega)]
theorem SegRows : carrefourlaw11_SegRows.Pure := by
  intro l0 a1 a2 a3 hl _ _ hc
  have hc := u8_of hc
  have ho : ∀ x ∈ l0, Oct x := fun x hx y hy => u8_of ((hl.2 x hx).2 y hy)
  refine ⟨100, ?_⟩
  have jt : carrefourlaw11_SegRows.j0 100 l0 a1 a2 a3 true = some true := by
    simp only [carrefourlaw11_SegRows.j0]
    rw [told_f]
    rfl
  unfold carrefourlaw11_SegRows.f
  by_cases c1 : (l0.length : Int) < 1
  · rw [if_pos c1, jt]
  by_cases c2 : (l0.length : Int) > 8
  · rw [if_neg c1, if_pos c2, jt]
  rw [if_neg c1, if_neg c2]
  by_cases c3 : a3 = 0
  · rw [c3]
    rw [c3] at jt
    exact jt
  rw [show (a3 == 0) = false from beq_eq_false_iff_ne.mpr c3]
  obtain ⟨k, hk, hkl⟩ := place a1 l0.length (by omega) (by omega)
  simp only [carrefourlaw11_SegRows.j0]
  rw [if_neg (by simp), if_neg (by rw [u64_is]; omega), hk]
  by_cases hz : l0[k].length = 0 ∨ l0[k].length > 60
  · have h := first_loop l0 a2 a3 hc c3 ho (by omega) k hkl 0 (fun h => by omega) (fun h h' => by omega) l0.length 0 99 (by omega) (fun x hx => by simp at hx) (by omega)
    rw [if_pos (by omega)] at h
    exact h
  · obtain ⟨j, hj, hjl⟩ := place a2 l0[k].length (by omega) (by omega)
    have h := first_loop l0 a2 a3 hc c3 ho (by omega) k hkl j (fun _ => hjl) (fun _ _ => hj) l0.length 0 99 (by omega) (fun x hx => by simp at hx) (by omega)
    rw [if_pos (by omega)] at h
    exact h
end Go.Proofs.Ytnnlmbmgaajmhaa.Pure
