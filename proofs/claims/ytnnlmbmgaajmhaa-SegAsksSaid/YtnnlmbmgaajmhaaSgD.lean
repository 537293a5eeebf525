/- Records one behind the other are read one by one; one with a turned byte ends the reading. -/
import Derived.Test.YtnnlmbmgaajmhaaSgC
namespace Go.Proofs.Ytnnlmbmgaajmhaa.Sg
open Go.RowKit Go.Proofs.YtnnlmbmgaajmhaaW.PrintWords Go.Proofs.YtnnlmbmgaajmhaaW.PrintLast
set_option linter.unusedVariables false

/-- May it be a record's? -/
def May (x : List Int) : Prop := Oct x ∧ 1 ≤ x.length ∧ x.length ≤ 20000
def cat (ls : List (List Int)) : List Int := (ls.map recP).flatten
theorem cat_nil : cat [] = [] := rfl
theorem cat_cons (x : List Int) (ls : List (List Int)) : cat (x :: ls) = recP x ++ cat ls := rfl
theorem cat_app (a b : List (List Int)) : cat (a ++ b) = cat a ++ cat b := by
  unfold cat
  rw [List.map_append, List.flatten_append]
theorem cat_snoc (a : List (List Int)) (x : List Int) : cat (a ++ [x]) = cat a ++ recP x := by
  rw [cat_app, cat_cons, cat_nil, List.append_nil]
theorem cat_oct {ls : List (List Int)} (h : ∀ x ∈ ls, Oct x) : Oct (cat ls) := by
  induction ls with
  | nil => exact Oct.nil
  | cons x ls ih => exact (rec_oct (h x (List.mem_cons_self ..))).app (ih fun y hy => h y (List.mem_cons_of_mem _ hy))

theorem rd_hdr0 (n s : Int) (l : List Int) : rd (hdr n s ++ l) 0 = n / 256 % 256 := rfl
theorem rd_hdr1 (n s : Int) (l : List Int) : rd (hdr n s ++ l) 1 = n % 256 := rfl
theorem num_hdr (n : Nat) (s : Int) (l : List Int) (h : n < 65536) : num (hdr n s ++ l) = n := by
  unfold num
  rw [rd_hdr0, rd_hdr1]
  omega
/-- What is ahead, if its number is n. -/
theorem good_hdr (x rest : List Int) (s : Int) (h1 : 1 ≤ x.length) (h2 : x.length ≤ 20000) : good (hdr x.length s ++ x ++ rest) = decide (hdr x.length (sumP x) = hdr x.length s) ∧
    ((hdr x.length s ++ x ++ rest).drop 6).take (num (hdr x.length s ++ x ++ rest)).toNat = x ∧ (hdr x.length s ++ x ++ rest).drop (num (hdr x.length s ++ x ++ rest) + 6).toNat = rest ∧ num (hdr x.length s ++ x ++ rest) = x.length := by
  have hn : num (hdr x.length s ++ x ++ rest) = x.length := by rw [List.append_assoc]; exact num_hdr _ _ _ (by omega)
  have h6 : (hdr x.length s ++ x ++ rest).drop 6 = x ++ rest := by rw [List.append_assoc]; exact List.drop_left' (hdr_len _ _)
  have ht : (x ++ rest).take x.length = x := List.take_left' rfl
  have h7 : (hdr x.length s ++ x ++ rest).take (x.length + 6) = hdr x.length s ++ x := List.take_left' (by rw [List.length_append, hdr_len]; omega)
  have h8 : (hdr x.length s ++ x ++ rest).drop (x.length + 6) = rest := List.drop_left' (by rw [List.length_append, hdr_len]; omega)
  have hl : (hdr x.length s ++ x ++ rest).length = 6 + x.length + rest.length := by rw [List.length_append, List.length_append, hdr_len]
  have e1 : ((x.length : Int)).toNat = x.length := Int.toNat_natCast _
  have e2 : ((x.length : Int) + 6).toNat = x.length + 6 := by omega
  refine ⟨?_, by rw [hn, h6, e1, ht], by rw [hn, e2, h8], hn⟩
  unfold good
  rw [hn, h6, e1, e2, ht, h7, hl]
  apply decide_eq_decide.mpr
  unfold recP
  constructor
  · rintro ⟨-, -, -, -, h⟩
    exact List.append_cancel_right h
  · intro h
    exact ⟨by omega, by omega, by omega, by omega, by rw [h]⟩
theorem read_cons (d : Nat) (x rest : List Int) (h1 : 1 ≤ x.length) (h2 : x.length ≤ 20000) : readN (d + 1) (recP x ++ rest) = (x :: (readN d rest).1, (x.length : Int) + 6 + (readN d rest).2) := by
  obtain ⟨g, a, b, c⟩ := good_hdr x rest (sumP x) h1 h2
  simp only [readN]
  unfold recP
  rw [if_pos (by rw [g]; exact decide_eq_true rfl), a, b, c]
theorem read_bad (d : Nat) (b : List Int) (h : good b = false) : readN d b = ([], 0) := by
  cases d with
  | zero => rfl
  | succ d => simp only [readN]; rw [if_neg (by rw [h]; simp)]
theorem good_nil : good [] = false := by decide
/-- Records, and what is no record behind them. -/
theorem read_cat : ∀ (ls : List (List Int)) (b : List Int) (d : Nat), (∀ x ∈ ls, 1 ≤ x.length ∧ x.length ≤ 20000) → good b = false → ls.length ≤ d → readN d (cat ls ++ b) = (ls, ((cat ls).length : Int))
  | [], b, d, _, hb, _ => by rw [cat_nil, List.nil_append, read_bad d b hb]; rfl
  | x :: ls, b, d, h, hb, hd => by
    obtain ⟨m, rfl⟩ : ∃ m, d = m + 1 := ⟨d - 1, by simp at hd; omega⟩
    have hx := h x (List.mem_cons_self ..)
    rw [cat_cons, List.append_assoc, read_cons m x _ hx.1 hx.2, read_cat ls b m (fun y hy => h y (List.mem_cons_of_mem _ hy)) hb (by simp at hd; omega)]
    rw [List.length_append, rec_len]
    congr 1
    all_goals push_cast
    all_goals omega
theorem cat_long (ls : List (List Int)) : ls.length ≤ (cat ls).length := by
  induction ls with
  | nil => exact Nat.le_refl _
  | cons x ls ih =>
    rw [cat_cons, List.length_append, rec_len, List.length_cons]
    omega
theorem readP_cat (ls : List (List Int)) (h : ∀ x ∈ ls, 1 ≤ x.length ∧ x.length ≤ 20000) : readP (cat ls) = (ls, ((cat ls).length : Int)) := by
  have h2 := read_cat ls [] (cat ls).length h good_nil (cat_long ls)
  rw [List.append_nil] at h2
  exact h2
/-- A sum's bytes tell it. -/
theorem hdr_inj {n s t : Int} (hs : 0 ≤ s ∧ s < 4294967296) (ht : 0 ≤ t ∧ t < 4294967296) (h : hdr n s = hdr n t) : s = t := by
  simp only [hdr, List.cons.injEq, and_true, true_and] at h
  omega
/-- One with a turned byte is none. -/
theorem good_turned (x rest : List Int) (ho : Oct x) (h1 : 1 ≤ x.length) (h2 : x.length ≤ 20000) (j : Nat) (hj : j < x.length) (r : Int) (hr : 0 ≤ r ∧ r < 256) (hne : r ≠ x[j]) :
    good (hdr x.length (sumP x) ++ x.set j r ++ rest) = false := by
  obtain ⟨g, -, -, -⟩ := good_hdr (x.set j r) rest (sumP x) (by rw [List.length_set]; exact h1) (by rw [List.length_set]; exact h2)
  rw [List.length_set] at g
  rw [g]
  exact decide_eq_false fun h => sum_ne x j hj r hr (ho _ (List.getElem_mem hj)) hne (hdr_inj (sum_lo _) (sum_lo _) h)
/-- The byte number j of the record behind the first ones. -/
theorem set_at (pre : List (List Int)) (x : List Int) (post : List (List Int)) (j : Nat) (r : Int) (hj : j < x.length) :
    (cat (pre ++ x :: post)).set ((cat pre).length + 6 + j) r = cat pre ++ (hdr x.length (sumP x) ++ x.set j r ++ cat post) := by
  rw [cat_app, cat_cons, List.set_append_right _ _ (by omega), show (cat pre).length + 6 + j - (cat pre).length = 6 + j by omega]
  congr 1
  unfold recP
  rw [List.set_append_left _ _ (by rw [List.length_append, hdr_len]; omega), List.set_append_right _ _ (by rw [hdr_len]; omega), hdr_len, show 6 + j - 6 = j by omega]
theorem rd_at (pre : List (List Int)) (x : List Int) (post : List (List Int)) (j : Nat) (hj : j < x.length) :
    rd (cat (pre ++ x :: post)) (((cat pre).length + 6 + j : Nat) : Int) = x[j] := by
  unfold Go.Proofs.YtnnlmbmgaajmhaaW.PrintWords.rd
  rw [List.getD_eq_getElem?_getD, Int.toNat_natCast, cat_app, cat_cons, List.getElem?_append_right (by omega), show (cat pre).length + 6 + j - (cat pre).length = 6 + j by omega]
  unfold recP
  rw [List.getElem?_append_left (by rw [List.length_append, hdr_len]; omega), List.getElem?_append_right (by rw [hdr_len]; omega), hdr_len, show 6 + j - 6 = j by omega, List.getElem?_eq_getElem hj]
  rfl
theorem cat_size {ls : List (List Int)} {m : Nat} (h : ∀ x ∈ ls, x.length ≤ m) : (cat ls).length ≤ ls.length * (m + 6) := by
  induction ls with
  | nil => exact Nat.zero_le _
  | cons x ls ih =>
    have a := h x (List.mem_cons_self ..)
    have b := ih fun y hy => h y (List.mem_cons_of_mem _ hy)
    rw [cat_cons, List.length_append, rec_len, List.length_cons, Nat.succ_mul]
    omega
end Go.Proofs.Ytnnlmbmgaajmhaa.Sg
