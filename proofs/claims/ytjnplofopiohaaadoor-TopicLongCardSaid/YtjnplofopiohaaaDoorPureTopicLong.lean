/- Twenty words are taken, more are not: for all numbers. No conditions. -/
import Derived.Test.YtjnplofopiohaaaDoorPGpx4
import Derived.Test.YtjnplofopiohaaaDoorTpC
namespace Go.Proofs.YtjnplofopiohaaaDoor.Pure
open Go.RowKit Go.Proofs.YtjnplofopiohaaaDoor.PGp Go.Proofs.YtjnplofopiohaaaDoorW.PrintWords Go.Proofs.YtjnplofopiohaaaDoorW.PrintLast Go.Proofs.YtjnplofopiohaaaDoor.TpB Go.Proofs.YtjnplofopiohaaaDoor.TpC

theorem stars_all : ((List.range 21).all fun n => (List.range 21).all fun m => topic_Match.l500 200 (List.replicate n star) (List.replicate m ww) 0 0 (-1) 0 == some (n == m)) = true := by kernel_rfl
theorem cross_all : ((List.range 21).all fun m => topic_Match.l500 300 [cross] (List.replicate m ww) 0 0 (-1) 0 == some true) = true := by kernel_rfl
theorem match_up (a b : Nat) (h : a ≤ b) (p q : List ByteArray) (i j x y : Int) (r : Bool) (e : topic_Match.l500 a p q i j x y = some r) : topic_Match.l500 b p q i j x y = some r :=
  at_rounds (g := fun k => topic_Match.l500 k p q i j x y) (fun k => (topic_Match.mono_l k).2.1 p q i j x y) h e
theorem stars_match (n m k : Nat) (hn : n ≤ 20) (hm : m ≤ 20) (hk : 300 ≤ k) : topic_Match.l500 k (List.replicate n star) (List.replicate m ww) 0 0 (-1) 0 = some (n == m) := by
  have h := List.all_eq_true.mp (List.all_eq_true.mp stars_all n (List.mem_range.mpr (by omega))) m (List.mem_range.mpr (by omega))
  exact match_up 200 k (by omega) _ _ _ _ _ _ _ (beq_iff_eq.mp h)
theorem cross_match (m k : Nat) (hm : m ≤ 20) (hk : 300 ≤ k) : topic_Match.l500 k [cross] (List.replicate m ww) 0 0 (-1) 0 = some true := by
  have h := List.all_eq_true.mp cross_all m (List.mem_range.mpr (by omega))
  exact match_up 300 k (by omega) _ _ _ _ _ _ _ (beq_iff_eq.mp h)

theorem rep_up (n : Nat) (x : ByteArray) : List.replicate n x ++ [x] = List.replicate (n + 1) x := by
  rw [List.replicate_succ']

theorem long_end (n m k : Nat) (hn : 1 ≤ n ∧ n ≤ 24) (hm : 1 ≤ m ∧ m ≤ 24) (hk : 400 ≤ k) (i : Int) (hi : ¬ i < (m : Int)) :
    carrefourlaw7_TopicLong.l3 (k + 1) (n : Int) (m : Int) (List.replicate n star) (List.replicate m ww) i = some true := by
  have ln : (List.replicate n star).length = n := List.length_replicate
  have lm : (List.replicate m ww).length = m := List.length_replicate
  have jp := join_small (List.replicate n star) (stars_small n) (by omega) k (by omega)
  have jk := join_small (List.replicate m ww) (ws_small m) (by omega) k (by omega)
  have my := may_small (List.replicate n star) (stars_small n) (by omega) k (by omega)
  have m1 := match_small (List.replicate n star) (List.replicate m ww) (stars_small n) (ws_small m) (by omega) (by omega) k (by omega) (n == m) (fun h1 h2 => stars_match n m (k - 1) (by omega) (by omega) (by omega))
  have m2 := match_small [cross] (List.replicate m ww) cross_small (ws_small m) (by decide) (by omega) k (by omega) true (fun _ h2 => cross_match m (k - 1) (by omega) (by omega))
  rw [ln] at my m1
  rw [lm] at m1 m2
  rw [cross_jb] at m2
  simp only [carrefourlaw7_TopicLong.l3]
  rw [if_neg hi, told_at (by omega)]
  simp only [Option.bind_some, if_true]
  have c35 : (⟨#[35]⟩ : ByteArray) = cross := rfl
  rw [c35]
  simp only [jp, jk, my, m1, m2, Option.bind_some, List.length_cons, List.length_nil]
  have hnm : ((n : Int) = (m : Int)) ↔ n = m := by omega
  have h20 : ((n : Int) ≤ 20) ↔ n ≤ 20 := by omega
  have h20m : ((m : Int) ≤ 20) ↔ m ≤ 20 := by omega
  simp only [hnm, h20, h20m]
  by_cases a : n ≤ 20 <;> by_cases b : m ≤ 20 <;> by_cases c : n = m <;> simp [a, b, c] <;> omega

theorem long_ks (n m : Nat) (hn : 1 ≤ n ∧ n ≤ 24) (hm : 1 ≤ m ∧ m ≤ 24) (d : Nat) : ∀ (k i : Nat), i + d = m → d + 401 ≤ k →
    carrefourlaw7_TopicLong.l3 k (n : Int) (m : Int) (List.replicate n star) (List.replicate i ww) (i : Int) = some true := by
  induction d with
  | zero =>
    intro k i hi hk
    obtain ⟨q, rfl⟩ : ∃ q, k = q + 1 := ⟨k - 1, by omega⟩
    obtain rfl : i = m := by omega
    exact long_end n i q hn hm (by omega) _ (by omega)
  | succ d ih =>
    intro k i hi hk
    obtain ⟨q, rfl⟩ : ∃ q, k = q + 1 := ⟨k - 1, by omega⟩
    simp only [carrefourlaw7_TopicLong.l3]
    have e : (⟨#[119]⟩ : ByteArray) = ww := rfl
    rw [if_pos (by omega), if_pos (by rw [List.length_replicate]; omega), e, rep_up, show wrap64 ((i : Int) + 1) = ((i + 1 : Nat) : Int) by unfold wrap64; omega]
    exact ih q (i + 1) (by omega) (by omega)

theorem long_ps (n m : Nat) (hn : 1 ≤ n ∧ n ≤ 24) (hm : 1 ≤ m ∧ m ≤ 24) (d : Nat) : ∀ (k i : Nat), i + d = n → d + 500 ≤ k →
    carrefourlaw7_TopicLong.l2 k (n : Int) (m : Int) (List.replicate i star) (i : Int) = some true := by
  induction d with
  | zero =>
    intro k i hi hk
    obtain ⟨q, rfl⟩ : ∃ q, k = q + 1 := ⟨k - 1, by omega⟩
    obtain rfl : i = n := by omega
    simp only [carrefourlaw7_TopicLong.l2]
    rw [if_neg (by omega)]
    exact long_ks i m hn hm m q 0 (by omega) (by omega)
  | succ d ih =>
    intro k i hi hk
    obtain ⟨q, rfl⟩ : ∃ q, k = q + 1 := ⟨k - 1, by omega⟩
    simp only [carrefourlaw7_TopicLong.l2]
    have e : (⟨#[42]⟩ : ByteArray) = star := rfl
    rw [if_pos (by omega), if_pos (by rw [List.length_replicate]; omega), e, rep_up, show wrap64 ((i : Int) + 1) = ((i + 1 : Nat) : Int) by unfold wrap64; omega]
    exact ih q (i + 1) (by omega) (by omega)

theorem rest_of (x n : Int) (h0 : 0 < n) (h : n ≤ 100) : 0 ≤ wrap64 (Int.tmod (IntKind.u64.wrap x) n) ∧ wrap64 (Int.tmod (IntKind.u64.wrap x) n) < n := by
  have hx : 0 ≤ IntKind.u64.wrap x := Int.emod_nonneg _ (by decide)
  rw [Int.tmod_eq_emod_of_nonneg hx]
  have a := Int.emod_nonneg (IntKind.u64.wrap x) (by omega : n ≠ 0)
  have b := Int.emod_lt_of_pos (IntKind.u64.wrap x) h0
  unfold wrap64
  omega

theorem TopicLong : carrefourlaw7_TopicLong.Pure := by
  intro a0 a1 h0 h1
  refine ⟨1000, ?_⟩
  unfold carrefourlaw7_TopicLong.f
  have r0 := rest_of a0 24 (by omega) (by omega)
  have r1 := rest_of a1 24 (by omega) (by omega)
  generalize wrap64 (Int.tmod (IntKind.u64.wrap a0) 24) = x at r0 ⊢
  generalize wrap64 (Int.tmod (IntKind.u64.wrap a1) 24) = y at r1 ⊢
  obtain ⟨x, rfl⟩ := Int.eq_ofNat_of_zero_le r0.1
  obtain ⟨y, rfl⟩ := Int.eq_ofNat_of_zero_le r1.1
  rw [show wrap64 (1 + (x : Int)) = ((x + 1 : Nat) : Int) by unfold wrap64; omega, show wrap64 (1 + (y : Int)) = ((y + 1 : Nat) : Int) by unfold wrap64; omega]
  exact long_ps (x + 1) (y + 1) (by omega) (by omega) (x + 1) 1000 0 (by omega) (by omega)

end Go.Proofs.YtjnplofopiohaaaDoor.Pure
