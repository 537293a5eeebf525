/- The document's table of beginnings tells what matches. No conditions. -/
import Derived.Test.YtjnplofopiohaaaDoorTtC
namespace Go.Proofs.YtjnplofopiohaaaDoor.TtD
open Go.RowKit Go.Proofs.YtjnplofopiohaaaDoor.PGt Go.Proofs.YtjnplofopiohaaaDoorW.PrintWords Go.Proofs.YtjnplofopiohaaaDoorW.PrintLast Go.Proofs.YtjnplofopiohaaaDoor.TtB Go.Proofs.YtjnplofopiohaaaDoor.TtC
theorem M_append : ∀ (p1 p2 k : List ByteArray), M (p1 ++ p2) k ↔ ∃ j, j ≤ k.length ∧ M p1 (k.take j) ∧ M p2 (k.drop j)
  | [], p2, k => by
    rw [List.nil_append]
    constructor
    · intro h
      exact ⟨0, Nat.zero_le _, rfl, h⟩
    · rintro ⟨j, h1, h2, h3⟩
      have h2 : k.take j = [] := h2
      have : k.drop j = k := by
        have h4 := List.take_append_drop j k
        rw [h2, List.nil_append] at h4
        exact h4
      rw [this] at h3
      exact h3
  | p :: ps, p2, k => by
    rw [List.cons_append]
    by_cases hc : p = cross
    · rw [M, if_pos hc]
      constructor
      · rintro ⟨j, h1, h2⟩
        obtain ⟨j', g1, g2, g3⟩ := (M_append ps p2 (k.drop j)).1 h2
        rw [List.length_drop] at g1
        refine ⟨j + j', by omega, ?_, ?_⟩
        · rw [M, if_pos hc]
          refine ⟨j, by rw [List.length_take]; omega, ?_⟩
          rw [List.drop_take, show j + j' - j = j' by omega]
          exact g2
        · rw [List.drop_drop] at g3
          exact g3
      · rintro ⟨J, h1, h2, h3⟩
        rw [M, if_pos hc] at h2
        obtain ⟨j, g1, g2⟩ := h2
        rw [List.length_take] at g1
        rw [List.drop_take] at g2
        refine ⟨j, by omega, (M_append ps p2 (k.drop j)).2 ⟨J - j, by rw [List.length_drop]; omega, g2, ?_⟩⟩
        rw [List.drop_drop, show j + (J - j) = J by omega]
        exact h3
    · rw [M, if_neg hc]
      constructor
      · rintro ⟨x, xs, rfl, h1, h2⟩
        obtain ⟨j', g1, g2, g3⟩ := (M_append ps p2 xs).1 h2
        refine ⟨j' + 1, by rw [List.length_cons]; omega, ?_, ?_⟩
        · rw [List.take_succ_cons, M, if_neg hc]
          exact ⟨x, xs.take j', rfl, h1, g2⟩
        · exact g3
      · rintro ⟨J, h1, h2, h3⟩
        rw [M, if_neg hc] at h2
        obtain ⟨x, xs, g1, g2, g3⟩ := h2
        cases J with
        | zero => cases g1
        | succ J =>
          cases k with
          | nil => simp at h1
          | cons y ys =>
            rw [List.take_succ_cons] at g1
            obtain ⟨rfl, rfl⟩ := List.cons.inj g1
            exact ⟨y, ys, rfl, g2, (M_append ps p2 ys).2 ⟨J, by simpa using h1, g3, h3⟩⟩
theorem M_cross (l : List ByteArray) : M [cross] l := by
  rw [M, if_pos rfl]
  exact ⟨l.length, Nat.le_refl _, List.drop_eq_nil_of_le (Nat.le_refl _)⟩
theorem M_word {w : ByteArray} (hc : w ≠ cross) (l : List ByteArray) : M [w] l ↔ ∃ x, l = [x] ∧ (w = star ∨ w = x) := by
  rw [M, if_neg hc]
  constructor
  · rintro ⟨x, xs, rfl, h1, h2⟩
    have h2 : xs = [] := h2
    exact ⟨x, by rw [h2], h1⟩
  · rintro ⟨x, rfl, h1⟩
    exact ⟨x, [], rfl, h1, rfl⟩
/-- So many words of the pattern match so many of the key. -/
def B (p k : List ByteArray) (i j : Nat) : Prop := M (p.take i) (k.take j)
theorem take_snoc {p : List ByteArray} {i : Nat} (h : i < p.length) : p.take (i + 1) = p.take i ++ [p[i]] := List.take_succ_eq_append_getElem h
theorem B_zero (p k : List ByteArray) {j : Nat} (hj : j ≤ k.length) : B p k 0 j ↔ j = 0 := by
  unfold B
  rw [List.take_zero]
  constructor
  · intro h
    have h : k.take j = [] := h
    have := congrArg List.length h
    rw [List.length_take, List.length_nil] at this
    omega
  · rintro rfl
    rfl
theorem B_cross {p k : List ByteArray} {i j : Nat} (h : i < p.length) (hj : j ≤ k.length) (hc : p[i] = cross) : B p k (i + 1) j ↔ ∃ j', j' ≤ j ∧ B p k i j' := by
  unfold B
  rw [take_snoc h, M_append]
  constructor
  · rintro ⟨j', h1, h2, -⟩
    rw [List.length_take] at h1
    rw [List.take_take, Nat.min_eq_left (by omega)] at h2
    exact ⟨j', by omega, h2⟩
  · rintro ⟨j', h1, h2⟩
    refine ⟨j', by rw [List.length_take]; omega, ?_, ?_⟩
    · rw [List.take_take, Nat.min_eq_left (by omega)]
      exact h2
    · rw [hc]
      exact M_cross _
theorem B_word_zero {p k : List ByteArray} {i : Nat} (h : i < p.length) (hc : p[i] ≠ cross) : ¬ B p k (i + 1) 0 := by
  unfold B
  rw [take_snoc h, M_append]
  rintro ⟨j', h1, -, h3⟩
  obtain ⟨x, hx, -⟩ := (M_word hc _).1 h3
  rw [List.take_zero, List.drop_nil] at hx
  cases hx
theorem B_word {p k : List ByteArray} {i j : Nat} (h : i < p.length) (hj : j < k.length) (hc : p[i] ≠ cross) : B p k (i + 1) (j + 1) ↔ B p k i j ∧ (p[i] = star ∨ p[i] = k[j]) := by
  unfold B
  rw [take_snoc h, M_append]
  have hk : (k.take (j + 1)).drop j = [k[j]] := by
    rw [take_snoc hj, List.drop_left' (by rw [List.length_take]; omega)]
  constructor
  · rintro ⟨j', h1, h2, h3⟩
    obtain ⟨x, hx, hw⟩ := (M_word hc _).1 h3
    have hl := congrArg List.length hx
    rw [List.length_drop, List.length_take, List.length_singleton] at hl
    have e : j' = j := by omega
    subst e
    rw [List.take_take, Nat.min_eq_left (by omega)] at h2
    rw [hk] at hx
    obtain rfl := (List.cons.inj hx).1
    exact ⟨h2, hw⟩
  · rintro ⟨h1, h2⟩
    refine ⟨j, by rw [List.length_take]; omega, ?_, ?_⟩
    · rw [List.take_take, Nat.min_eq_left (by omega)]
      exact h1
    · rw [hk]
      exact (M_word hc _).2 ⟨_, rfl, h2⟩
theorem B_full (p k : List ByteArray) : B p k p.length k.length ↔ M p k := by
  unfold B
  rw [List.take_length, List.take_length]
/-! ### The table -/
theorem rd_b (x : List Bool) (j : Nat) : rdOf false x (j : Int) = x.getD j false := rfl
def Row (p k : List ByteArray) (i : Nat) (x : List Bool) : Prop := x.length = k.length + 1 ∧ ∀ j, j ≤ k.length → (x.getD j false = true ↔ B p k i j)
theorem getD_set (x : List Bool) (i j : Nat) (b : Bool) (hi : i < x.length) : (x.set i b).getD j false = if i = j then b else x.getD j false := by
  rw [List.getD_eq_getElem?_getD, List.getD_eq_getElem?_getD]
  by_cases h : i = j
  · subst h
    rw [if_pos rfl, List.getElem?_set_self hi]
    rfl
  · rw [if_neg h, List.getElem?_set_ne h]
/-- One cell. -/
theorem cell_run (p k : List ByteArray) (hK : k.length ≤ 1000) (i : Nat) (hi : i < p.length) (x : List Bool) (hx : Row p k i x) (j : Nat) (y : List Bool) (hjk : j ≤ k.length) (hy : y.length = k.length + 1) (h1 : ∀ t, t < j → (y.getD t false = true ↔ B p k (i + 1) t)) (h2 : ∀ t, j ≤ t → y.getD t false = false) :
    ∃ b, (b = true ↔ B p k (i + 1) j) ∧ ∀ m, carrefourref7_Match.l3 (m + 1) k p x (i : Int) y (j : Int) = carrefourref7_Match.l3 m k p x (i : Int) (y.set j b) ((j + 1 : Nat) : Int) := by
  have w1 : wrap64 ((j : Int) + 1) = ((j + 1 : Nat) : Int) := up_one j k.length hjk hK
  have hxj := hx.2 j hjk
  have hx1 := hx.1
  by_cases hc : p[i] = cross
  · have hcc : p[i].toList = ([35] : List UInt8) := (is_cross _).2 hc
    have ev : ∀ m, carrefourref7_Match.l3 (m + 1) k p x (i : Int) y (j : Int) = (if rdOf false x (j : Int) = true then carrefourref7_Match.l3 m k p x (i : Int) (y.set j true) ((j + 1 : Nat) : Int) else (if (j : Int) > 0 then (if 0 ≤ (wrap64 ((j : Int) - 1)) then (if (wrap64 ((j : Int) - 1)) < (y.length : Int) then carrefourref7_Match.l3 m k p x (i : Int) (y.set j (rdOf false y (wrap64 ((j : Int) - 1)))) ((j + 1 : Nat) : Int) else none) else none) else carrefourref7_Match.l3 m k p x (i : Int) (y.set j false) ((j + 1 : Nat) : Int))) := by
      intro m
      simp only [carrefourref7_Match.l3]
      rw [if_pos (by omega), if_pos (by omega), if_pos (by omega), at_word p i hi, if_pos hcc, if_pos (by omega), if_pos (by omega), w1]
      have e : ((j : Int) < (y.length : Int)) = True := eq_true (by omega)
      simp only [e, if_true, Int.toNat_natCast]
    by_cases ho : x.getD j false = true
    · refine ⟨true, ⟨fun _ => (B_cross hi hjk hc).2 ⟨j, Nat.le_refl _, hxj.1 ho⟩, fun _ => rfl⟩, fun m => ?_⟩
      rw [ev, rd_b, if_pos ho]
    · by_cases h0 : j = 0
      · subst h0
        refine ⟨false, ⟨(fun h => by cases h), fun h => ?_⟩, fun m => ?_⟩
        · obtain ⟨j', g1, g2⟩ := (B_cross hi hjk hc).1 h
          have : j' = 0 := by omega
          subst this
          exact absurd (hxj.2 g2) ho
        · rw [ev, rd_b, if_neg ho, if_neg (by omega)]
      · obtain ⟨q, rfl⟩ : ∃ q, j = q + 1 := ⟨j - 1, by omega⟩
        have w2 : wrap64 (((q + 1 : Nat) : Int) - 1) = (q : Int) := by
          unfold wrap64
          omega
        refine ⟨y.getD q false, ⟨fun h => ?_, fun h => ?_⟩, fun m => ?_⟩
        · obtain ⟨j', g1, g2⟩ := (B_cross hi (by omega) hc).1 ((h1 q (by omega)).1 h)
          exact (B_cross hi hjk hc).2 ⟨j', by omega, g2⟩
        · obtain ⟨j', g1, g2⟩ := (B_cross hi hjk hc).1 h
          have : j' ≠ q + 1 := fun e => by
            subst e
            exact ho (hxj.2 g2)
          exact (h1 q (by omega)).2 ((B_cross hi (by omega) hc).2 ⟨j', by omega, g2⟩)
        · rw [ev, rd_b, if_neg ho, if_pos (by omega), w2, if_pos (by omega), if_pos (by omega), rd_b]
  · have hcc : ¬ p[i].toList = ([35] : List UInt8) := fun e => hc ((is_cross _).1 e)
    by_cases h0 : j = 0
    · subst h0
      refine ⟨false, ⟨(fun h => by cases h), fun h => absurd h (B_word_zero hi hc)⟩, fun m => ?_⟩
      have e : y.set 0 false = y := by
        apply List.ext_getElem?
        intro t
        by_cases e : 0 = t
        · subst e
          have h3 := h2 0 (Nat.le_refl _)
          rw [List.getD_eq_getElem?_getD] at h3
          rw [List.getElem?_set_self (by omega)]
          have h4 : y[0]? = some (y[0]'(by omega)) := List.getElem?_eq_getElem (by omega)
          rw [h4] at h3 ⊢
          exact congrArg some h3.symm
        · rw [List.getElem?_set_ne e]
      rw [e]
      simp only [carrefourref7_Match.l3]
      rw [if_pos (by omega), if_pos (by omega), if_pos (by omega), at_word p i hi, if_neg hcc, if_neg (by omega), w1]
    · obtain ⟨q, rfl⟩ : ∃ q, j = q + 1 := ⟨j - 1, by omega⟩
      have w2 : wrap64 (((q + 1 : Nat) : Int) - 1) = (q : Int) := by
        unfold wrap64
        omega
      have hq : q < k.length := by omega
      have hxq := hx.2 q (by omega)
      have hB := B_word (k := k) hi hq hc
      have ev : ∀ m, carrefourref7_Match.l3 (m + 1) k p x (i : Int) y ((q + 1 : Nat) : Int) = (if rdOf false x (q : Int) = true then (if p[i].toList = ([42] : List UInt8) then carrefourref7_Match.l3 m k p x (i : Int) (y.set (q + 1) true) ((q + 1 + 1 : Nat) : Int) else carrefourref7_Match.l3 m k p x (i : Int) (y.set (q + 1) (p[i].toList == k[q].toList)) ((q + 1 + 1 : Nat) : Int)) else carrefourref7_Match.l3 m k p x (i : Int) (y.set (q + 1) false) ((q + 1 + 1 : Nat) : Int)) := by
        intro m
        simp only [carrefourref7_Match.l3]
        rw [if_pos (by omega), if_pos (by omega), if_pos (by omega), at_word p i hi, if_neg hcc, if_pos (by omega), w2, w1, if_pos (by omega), if_pos (by omega), at_word k q hq]
        have e : (((q + 1 : Nat) : Int) < (y.length : Int)) = True := eq_true (by omega)
        have e2 : ((q : Int) < (k.length : Int)) = True := eq_true (by omega)
        have e3 : ((0 : Int) ≤ ((q + 1 : Nat) : Int)) = True := eq_true (by omega)
        simp only [e, e2, e3, if_true, Int.toNat_natCast]
      by_cases ho : x.getD q false = true
      · by_cases hs : p[i] = star
        · refine ⟨true, ⟨fun _ => hB.2 ⟨hxq.1 ho, .inl hs⟩, fun _ => rfl⟩, fun m => ?_⟩
          rw [ev, rd_b, if_pos ho, if_pos ((is_star _).2 hs)]
        · refine ⟨_, ⟨fun h => hB.2 ⟨hxq.1 ho, .inr ((is_same _ _).1 (beq_iff_eq.1 h))⟩, fun h => ?_⟩, fun m => ?_⟩
          · rcases (hB.1 h).2 with h3 | h3
            · exact absurd h3 hs
            · exact beq_iff_eq.2 ((is_same _ _).2 h3)
          · rw [ev, rd_b, if_pos ho, if_neg (fun e => hs ((is_star _).1 e))]
      · refine ⟨false, ⟨(fun h => by cases h), fun h => absurd (hxq.2 (hB.1 h).1) ho⟩, fun m => ?_⟩
        rw [ev, rd_b, if_neg ho]
/-- One row behind another. -/
theorem row_run (p k : List ByteArray) (hK : k.length ≤ 1000) (i : Nat) (hi : i < p.length) (x : List Bool) (hx : Row p k i x) : ∀ (d j : Nat) (y : List Bool), j + d = k.length + 1 → y.length = k.length + 1 → (∀ t, t < j → (y.getD t false = true ↔ B p k (i + 1) t)) → (∀ t, j ≤ t → y.getD t false = false) →
    ∃ y', Row p k (i + 1) y' ∧ ∀ f, carrefourref7_Match.l3 (f + d + 1) k p x (i : Int) y (j : Int) = carrefourref7_Match.l2 f k p y' (wrap64 ((i : Int) + 1)) := by
  intro d
  induction d with
  | zero =>
    intro j y hj hy h1 h2
    refine ⟨y, ⟨hy, fun t ht => h1 t (by omega)⟩, fun f => ?_⟩
    obtain ⟨m, hm⟩ : ∃ m, f + 0 = m := ⟨_, rfl⟩
    rw [hm]
    obtain rfl : f = m := hm
    simp only [carrefourref7_Match.l3]
    rw [if_neg (by omega)]
  | succ d ih =>
    intro j y hj hy h1 h2
    obtain ⟨b, hb, hr⟩ := cell_run p k hK i hi x hx j y (by omega) hy h1 h2
    obtain ⟨y', g1, g2⟩ := ih (j + 1) (y.set j b) (by omega) (by rw [List.length_set]; exact hy) (fun t ht => by
      rw [getD_set y j t b (by omega)]
      by_cases e : j = t
      · subst e
        rw [if_pos rfl]
        exact hb
      · rw [if_neg e]
        exact h1 t (by omega)) (fun t ht => by
      rw [getD_set y j t b (by omega), if_neg (by omega)]
      exact h2 t (by omega))
    refine ⟨y', g1, fun f => ?_⟩
    rw [show f + (d + 1) + 1 = (f + d + 1) + 1 by omega, hr]
    exact g2 f
/-- All rows. -/
theorem rows_run (p k : List ByteArray) (hP : p.length ≤ 1000) (hK : k.length ≤ 1000) : ∀ (d i : Nat) (x : List Bool), i + d = p.length → Row p k i x → ∃ f b, carrefourref7_Match.l2 f k p x (i : Int) = some b ∧ (b = true ↔ M p k) := by
  intro d
  induction d with
  | zero =>
    intro i x hi hx
    obtain rfl : i = p.length := by omega
    refine ⟨1, x.getD k.length false, ?_, (hx.2 _ (Nat.le_refl _)).trans (B_full p k)⟩
    simp only [carrefourref7_Match.l2]
    rw [if_neg (by omega), if_pos (by omega), if_pos (by rw [hx.1]; omega)]
    rfl
  | succ d ih =>
    intro i x hi hx
    have w1 : wrap64 ((k.length : Int) + 1) = ((k.length + 1 : Nat) : Int) := up_one k.length k.length (Nat.le_refl _) hK
    obtain ⟨y', hy', hrun⟩ := row_run p k hK i (by omega) x hx (k.length + 1) 0 (List.replicate (k.length + 1) false) (by omega) (List.length_replicate) (fun t ht => by omega) (fun t _ => by
      rw [List.getD_eq_getElem?_getD, List.getElem?_replicate]
      split <;> rfl)
    obtain ⟨f, b, h1, h2⟩ := ih (i + 1) y' (by omega) hy'
    refine ⟨f + (k.length + 1) + 1 + 1, b, ?_, h2⟩
    have hun : ∀ m, carrefourref7_Match.l2 (m + 1) k p x (i : Int) = (if (i : Int) < (p.length : Int) then (if 0 ≤ (wrap64 ((k.length : Int) + 1)) then (if (wrap64 ((k.length : Int) + 1) : Int).toNat ≤ 281474976710656 then (carrefourref7_Match.l3 m k p x (i : Int) (List.replicate (wrap64 ((k.length : Int) + 1) : Int).toNat false) 0) else (none)) else (none)) else (if 0 ≤ (k.length : Int) then (if (k.length : Int) < (x.length : Int) then (some (rdOf false x (k.length : Int))) else (none)) else (none))) := fun m => by
      simp only [carrefourref7_Match.l2]
    rw [hun]
    rw [if_pos (by omega), w1, if_pos (by omega), if_pos (by omega)]
    show carrefourref7_Match.l3 (f + (k.length + 1) + 1) k p x (i : Int) (List.replicate ((k.length + 1 : Nat) : Int).toNat false) 0 = some b
    have h0 := hrun f
    rw [Int.toNat_natCast]
    refine Eq.trans h0 ?_
    rw [up_one i p.length (by omega) hP]
    exact h1
end Go.Proofs.YtjnplofopiohaaaDoor.TtD
