/- So many stars match just so many words: for all numbers. No conditions. -/
import Derived.Test.YtjnplofopiohaaaDoorPGpx3
import Derived.Test.YtjnplofopiohaaaDoorTpC
namespace Go.Proofs.YtjnplofopiohaaaDoor.Pure
open Go.RowKit Go.Proofs.YtjnplofopiohaaaDoor.PGp Go.Proofs.YtjnplofopiohaaaDoorW.PrintWords Go.Proofs.YtjnplofopiohaaaDoorW.PrintLast Go.Proofs.YtjnplofopiohaaaDoor.TpB Go.Proofs.YtjnplofopiohaaaDoor.TpC

/-- Stars, with a cross ahead of the one at a place. -/
def qL (a i : Nat) : List ByteArray := if i ≤ a then List.replicate i star else List.replicate a star ++ cross :: List.replicate (i - a) star
theorem q_small (a i : Nat) : Small (qL a i) := by
  intro w hw
  unfold qL at hw
  by_cases h : i ≤ a
  · rw [if_pos h] at hw
    exact Or.inl (List.eq_of_mem_replicate hw)
  · rw [if_neg h] at hw
    rcases List.mem_append.mp hw with h1 | h1
    · exact Or.inl (List.eq_of_mem_replicate h1)
    · rcases List.mem_cons.mp h1 with h2 | h2
      · exact Or.inr (Or.inl h2)
      · exact Or.inl (List.eq_of_mem_replicate h2)
theorem q_len (a i : Nat) : (qL a i).length ≤ i + 1 := by
  unfold qL
  by_cases h : i ≤ a
  · rw [if_pos h, List.length_replicate]; omega
  · rw [if_neg h]
    simp
    omega
theorem q_len2 (a i : Nat) (h : a < i) : (qL a i).length = i + 1 := by
  unfold qL
  rw [if_neg (by omega)]
  simp
  omega

theorem st_all : ((List.range 10).all fun n => (List.range 9).all fun m => topic_Match.l500 200 (List.replicate n star) (List.replicate m ww) 0 0 (-1) 0 == some (n == m)) = true := by kernel_rfl
theorem q_all : ((List.range 10).all fun n => (List.range n).all fun a => (List.range 9).all fun m => topic_Match.l500 300 (qL a n) (List.replicate m ww) 0 0 (-1) 0 == some (decide (n ≤ m))) = true := by kernel_rfl
theorem match_lift (a b : Nat) (h : a ≤ b) (p q : List ByteArray) (i j x y : Int) (r : Bool) (e : topic_Match.l500 a p q i j x y = some r) : topic_Match.l500 b p q i j x y = some r :=
  at_rounds (g := fun k => topic_Match.l500 k p q i j x y) (fun k => (topic_Match.mono_l k).2.1 p q i j x y) h e
theorem st_match (n m k : Nat) (hn : n ≤ 9) (hm : m ≤ 8) (hk : 300 ≤ k) : topic_Match.l500 k (List.replicate n star) (List.replicate m ww) 0 0 (-1) 0 = some (n == m) := by
  have h := List.all_eq_true.mp (List.all_eq_true.mp st_all n (List.mem_range.mpr (by omega))) m (List.mem_range.mpr (by omega))
  exact match_lift 200 k (by omega) _ _ _ _ _ _ _ (beq_iff_eq.mp h)
theorem q_match (n a m k : Nat) (hn : n ≤ 9) (ha : a < n) (hm : m ≤ 8) (hk : 300 ≤ k) : topic_Match.l500 k (qL a n) (List.replicate m ww) 0 0 (-1) 0 = some (decide (n ≤ m)) := by
  have h := List.all_eq_true.mp (List.all_eq_true.mp (List.all_eq_true.mp q_all n (List.mem_range.mpr (by omega))) a (List.mem_range.mpr (by omega))) m (List.mem_range.mpr (by omega))
  exact match_lift 300 k (by omega) _ _ _ _ _ _ _ (beq_iff_eq.mp h)

theorem add_one (n : Nat) (x : ByteArray) : List.replicate n x ++ [x] = List.replicate (n + 1) x := by
  rw [List.replicate_succ']

theorem stars_end (n a m k : Nat) (hn : 1 ≤ n ∧ n ≤ 9) (ha : a < n) (hm : m ≤ 8) (hk : 400 ≤ k) (i : Int) (hi : ¬ i < (m : Int)) :
    carrefourlaw7_TopicStars.l3 (k + 1) (n : Int) (m : Int) (List.replicate n star) (qL a n) (List.replicate m ww) i = some true := by
  have ln : (List.replicate n star).length = n := List.length_replicate
  have lm : (List.replicate m ww).length = m := List.length_replicate
  have lq := q_len2 a n ha
  have jp := join_small (List.replicate n star) (stars_small n) (by omega) k (by omega)
  have jk := join_small (List.replicate m ww) (ws_small m) (by omega) k (by omega)
  have jq := join_small (qL a n) (q_small a n) (by omega) k (by omega)
  have m1 := match_small (List.replicate n star) (List.replicate m ww) (stars_small n) (ws_small m) (by omega) (by omega) k (by omega) (n == m) (fun _ _ => st_match n m (k - 1) (by omega) (by omega) (by omega))
  have m2 := match_small (qL a n) (List.replicate m ww) (q_small a n) (ws_small m) (by omega) (by omega) k (by omega) (decide (n ≤ m)) (fun _ _ => q_match n a m (k - 1) (by omega) ha (by omega) (by omega))
  rw [ln, lm] at m1
  rw [lq, lm] at m2
  rw [decide_eq_true (by omega : n ≤ 20 ∧ m ≤ 20), Bool.true_and] at m1
  rw [decide_eq_true (by omega : n + 1 ≤ 20 ∧ m ≤ 20), Bool.true_and] at m2
  simp only [carrefourlaw7_TopicStars.l3]
  rw [if_neg hi, told_at (by omega)]
  simp only [Option.bind_some, if_true]
  simp only [jp, jk, jq, m1, m2, Option.bind_some]
  have hnm : ((n : Int) = (m : Int)) ↔ n = m := by omega
  have hge : ((m : Int) ≥ (n : Int)) ↔ n ≤ m := by omega
  simp only [hnm, hge]
  by_cases c : n = m <;> by_cases d : n ≤ m <;> simp [c, d] <;> omega

theorem stars_ks (n a m : Nat) (hn : 1 ≤ n ∧ n ≤ 9) (ha : a < n) (hm : m ≤ 8) (d : Nat) : ∀ (k i : Nat), i + d = m → d + 401 ≤ k →
    carrefourlaw7_TopicStars.l3 k (n : Int) (m : Int) (List.replicate n star) (qL a n) (List.replicate i ww) (i : Int) = some true := by
  induction d with
  | zero =>
    intro k i hi hk
    obtain ⟨q, rfl⟩ : ∃ q, k = q + 1 := ⟨k - 1, by omega⟩
    obtain rfl : i = m := by omega
    exact stars_end n a i q hn ha hm (by omega) _ (by omega)
  | succ d ih =>
    intro k i hi hk
    obtain ⟨q, rfl⟩ : ∃ q, k = q + 1 := ⟨k - 1, by omega⟩
    simp only [carrefourlaw7_TopicStars.l3]
    have e : (⟨#[119]⟩ : ByteArray) = ww := rfl
    rw [if_pos (by omega), if_pos (by rw [List.length_replicate]; omega), e, add_one, show wrap64 ((i : Int) + 1) = ((i + 1 : Nat) : Int) by unfold wrap64; omega]
    exact ih q (i + 1) (by omega) (by omega)

theorem stars_ps (x2 : Int) (n a m : Nat) (hx : wrap64 (Int.tmod (IntKind.u64.wrap x2) (IntKind.u64.wrap (n : Int))) = (a : Int)) (hn : 1 ≤ n ∧ n ≤ 9) (ha : a < n) (hm : m ≤ 8) (d : Nat) : ∀ (k i : Nat), i + d = n → d + 500 ≤ k →
    carrefourlaw7_TopicStars.l2 k x2 (n : Int) (m : Int) (List.replicate i star) (qL a i) (i : Int) = some true := by
  have un : IntKind.u64.wrap (n : Int) = (n : Int) := by
    show (n : Int) % 2 ^ 64 = _
    omega
  induction d with
  | zero =>
    intro k i hi hk
    obtain ⟨q, rfl⟩ : ∃ q, k = q + 1 := ⟨k - 1, by omega⟩
    obtain rfl : i = n := by omega
    simp only [carrefourlaw7_TopicStars.l2]
    rw [if_neg (by omega)]
    exact stars_ks i a m hn ha hm m q 0 (by omega) (by omega)
  | succ d ih =>
    intro k i hi hk
    obtain ⟨q, rfl⟩ : ∃ q, k = q + 1 := ⟨k - 1, by omega⟩
    have ql := q_len a i
    have e : (⟨#[42]⟩ : ByteArray) = star := rfl
    have e2 : (⟨#[35]⟩ : ByteArray) = cross := rfl
    have w1 : wrap64 ((i : Int) + 1) = ((i + 1 : Nat) : Int) := by
      unfold wrap64
      omega
    have go := ih q (i + 1) (by omega) (by omega)
    simp only [carrefourlaw7_TopicStars.l2]
    rw [if_pos (by omega), if_pos (by rw [List.length_replicate]; omega), e, e2, add_one, w1]
    simp only [Option.bind_some]
    rw [if_neg (by rw [un]; omega), hx]
    by_cases c : i = a
    · subst c
      rw [if_pos rfl, if_pos (by omega), if_pos (by simp; omega)]
      have eq : qL i i ++ [cross] ++ [star] = qL i (i + 1) := by
        unfold qL
        rw [if_pos (Nat.le_refl i), if_neg (by omega), show i + 1 - i = 1 by omega]
        simp
      rw [eq]
      exact go
    · rw [if_neg (by omega), if_pos (by omega)]
      have eq : qL a i ++ [star] = qL a (i + 1) := by
        unfold qL
        by_cases h : i ≤ a
        · rw [if_pos h, if_pos (by omega), add_one]
        · rw [if_neg h, if_neg (by omega), List.append_assoc, List.cons_append, add_one, show i + 1 - a = i - a + 1 by omega]
      rw [eq]
      exact go

theorem mod_of (x n : Int) (h0 : 0 < n) (h : n ≤ 100) : 0 ≤ wrap64 (Int.tmod (IntKind.u64.wrap x) n) ∧ wrap64 (Int.tmod (IntKind.u64.wrap x) n) < n := by
  have hx : 0 ≤ IntKind.u64.wrap x := Int.emod_nonneg _ (by decide)
  rw [Int.tmod_eq_emod_of_nonneg hx]
  have a := Int.emod_nonneg (IntKind.u64.wrap x) (by omega : n ≠ 0)
  have b := Int.emod_lt_of_pos (IntKind.u64.wrap x) h0
  unfold wrap64
  omega

theorem TopicStars : carrefourlaw7_TopicStars.Pure := by
  intro a0 a1 a2 h0 h1 h2
  refine ⟨1000, ?_⟩
  unfold carrefourlaw7_TopicStars.f
  have r0 := mod_of a0 9 (by omega) (by omega)
  have r1 := mod_of a1 9 (by omega) (by omega)
  generalize wrap64 (Int.tmod (IntKind.u64.wrap a0) 9) = x at r0 ⊢
  generalize wrap64 (Int.tmod (IntKind.u64.wrap a1) 9) = y at r1 ⊢
  obtain ⟨x, rfl⟩ := Int.eq_ofNat_of_zero_le r0.1
  obtain ⟨y, rfl⟩ := Int.eq_ofNat_of_zero_le r1.1
  rw [show wrap64 (1 + (x : Int)) = ((x + 1 : Nat) : Int) by unfold wrap64; omega]
  have un : IntKind.u64.wrap ((x + 1 : Nat) : Int) = ((x + 1 : Nat) : Int) := by
    show ((x + 1 : Nat) : Int) % 2 ^ 64 = _
    omega
  have r2 := mod_of a2 ((x + 1 : Nat) : Int) (by omega) (by omega)
  obtain ⟨a, ha⟩ := Int.eq_ofNat_of_zero_le r2.1
  rw [ha] at r2
  have go := stars_ps a2 (x + 1) a y (by rw [un]; exact ha) (by omega) (by omega) (by omega) (x + 1) 1000 0 (by omega) (by omega)
  exact go

end Go.Proofs.YtjnplofopiohaaaDoor.Pure
