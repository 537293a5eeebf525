/-
  Whole numbers among floats: sums, products, quarters, order, cuts, and signs are those of whole numbers, below 2^53.
  Conditions: none; plain theorems over the given model.
-/
import Derived.Test.YtbkamlkmimfomaaFl
namespace Go.Proofs.YtbkamlkmimfomaaIv
open Go Ieee Go.Proofs.YtbkamlkmimfomaaFl

/-- A word that stands for a whole number (a nought of whatever sign). -/
def IV (n : Nat) (i : Int) : Prop := ∃ (s : Bool) (p : Nat), double.read n = .number s (i.natAbs <<< p) (-(p : Int)) ∧ (i ≠ 0 → s = decide (i < 0))

theorem shl (a p : Nat) : a <<< p = a * 2 ^ p := Nat.shiftLeft_eq a p

theorem cut_zero (s : Bool) (n : Nat) : Toward.even.cut s n 0 = n := by
  unfold Toward.cut
  have : min 0 (n.log2 + 2) = 0 := by omega
  simp only [this]
  simp [Nat.mod_one]

theorem cut_exact (s : Bool) (c d : Nat) (hc : c ≠ 0) : Toward.even.cut s (c * 2 ^ d) d = c := by
  unfold Toward.cut
  have hl : (c * 2 ^ d).log2 = c.log2 + d := by
    have h1 := Nat.log2_self_le hc
    have h2 := Nat.lt_log2_self (n := c)
    rw [Nat.log2_eq_iff (Nat.mul_ne_zero hc (Nat.ne_of_gt (Nat.two_pow_pos d)))]
    constructor
    · rw [Nat.pow_add]
      exact Nat.mul_le_mul_right _ h1
    · rw [show c.log2 + d + 1 = (c.log2 + 1) + d by omega, Nat.pow_add]
      exact Nat.mul_lt_mul_of_pos_right h2 (Nat.two_pow_pos d)
  have : min d ((c * 2 ^ d).log2 + 2) = d := by omega
  simp only [this, shl, Nat.one_mul, Nat.mul_div_cancel _ (Nat.two_pow_pos d), Nat.mul_mod_left]
  have hp := Nat.two_pow_pos d
  have h1 : decide (2 ^ d < 2 * 0) = false := decide_eq_false (by omega)
  have h2 : (2 ^ d == 2 * 0) = false := beq_eq_false_iff_ne.mpr (by omega)
  rw [h1, h2]
  rfl

theorem write_iv (s : Bool) (a M : Nat) (ha : a < 9007199254740992) : ∃ p : Nat, double.read (double.nearest s (a <<< M) (-(M : Int))) = .number s (a <<< p) (-(p : Int)) := by
  by_cases h0 : a = 0
  · subst h0
    refine ⟨1074, ?_⟩
    simp only [shl, Nat.zero_mul]
    unfold Format.nearest
    rw [if_pos rfl]
    cases s <;> rfl
  · have k1 := Nat.log2_self_le h0
    have k2 := Nat.lt_log2_self (n := a)
    have kb : a.log2 < 53 := by
      rw [Nat.log2_lt h0]
      exact ha
    have hne : a <<< M ≠ 0 := by
      rw [shl]
      exact Nat.mul_ne_zero h0 (Nat.ne_of_gt (Nat.two_pow_pos M))
    have hl : (a <<< M).log2 = a.log2 + M := by
      rw [shl, Nat.log2_eq_iff (Nat.mul_ne_zero h0 (Nat.ne_of_gt (Nat.two_pow_pos M)))]
      constructor
      · rw [Nat.pow_add]
        exact Nat.mul_le_mul_right _ k1
      · rw [show a.log2 + M + 1 = (a.log2 + 1) + M by omega, Nat.pow_add]
        exact Nat.mul_lt_mul_of_pos_right k2 (Nat.two_pow_pos M)
    refine ⟨52 - a.log2, ?_⟩
    have hfb : (double.fractionBits : Nat) = 52 := rfl
    have hlast : max (-(M : Int) + ((a <<< M).log2 : Nat) - (double.fractionBits : Nat)) double.leastPlace = (a.log2 : Int) - 52 := by
      rw [hl, hfb, d_lp]
      omega
    have kept : Toward.even.cut s ((a <<< M) <<< (-(M : Int) - ((a.log2 : Int) - 52)).toNat) ((a.log2 : Int) - 52 - -(M : Int)).toNat = a * 2 ^ (52 - a.log2) := by
      by_cases hM : 52 ≤ M + a.log2
      · have e1 : (-(M : Int) - ((a.log2 : Int) - 52)).toNat = 0 := by omega
        have e2 : ((a.log2 : Int) - 52 - -(M : Int)).toNat = M + a.log2 - 52 := by omega
        rw [e1, e2, Nat.shiftLeft_zero, shl]
        have : a * 2 ^ M = (a * 2 ^ (52 - a.log2)) * 2 ^ (M + a.log2 - 52) := by
          rw [Nat.mul_assoc, ← Nat.pow_add]
          congr 2
          omega
        rw [this]
        exact cut_exact s _ _ (Nat.mul_ne_zero h0 (Nat.ne_of_gt (Nat.two_pow_pos _)))
      · have e1 : (-(M : Int) - ((a.log2 : Int) - 52)).toNat = 52 - a.log2 - M := by omega
        have e2 : ((a.log2 : Int) - 52 - -(M : Int)).toNat = 0 := by omega
        rw [e1, e2, cut_zero, shl, shl, Nat.mul_assoc, ← Nat.pow_add]
        congr 2
        omega
    have K1 : 4503599627370496 ≤ a * 2 ^ (52 - a.log2) := by
      have := Nat.mul_le_mul_right (2 ^ (52 - a.log2)) k1
      rw [← Nat.pow_add, show a.log2 + (52 - a.log2) = 52 by omega] at this
      exact this
    have K2 : a * 2 ^ (52 - a.log2) < 9007199254740992 := by
      have := Nat.mul_lt_mul_of_pos_right k2 (Nat.two_pow_pos (52 - a.log2))
      rw [← Nat.pow_add, show a.log2 + 1 + (52 - a.log2) = 53 by omega] at this
      exact this
    have hw : double.nearest s (a <<< M) (-(M : Int)) = double.word s ((a.log2 + 1022) * 4503599627370496 + a * 2 ^ (52 - a.log2)) := by
      unfold Format.nearest
      dsimp only
      rw [if_neg hne, hlast, kept, d_lp, d_bin, d_inf]
      congr 1
      have e3 : ((a.log2 : Int) - 52 - -1074).toNat = a.log2 + 1022 := by omega
      rw [e3, Nat.min_eq_left]
      omega
    rw [hw, shl a]
    generalize a * 2 ^ (52 - a.log2) = K at K1 K2 ⊢
    generalize a.log2 = k at kb ⊢
    have hr : ∀ n, n % 9223372036854775808 = (k + 1022) * 4503599627370496 + K → (n / 9223372036854775808 % 2 == 1) = s → double.read n = .number s K (-((52 - k : Nat) : Int)) := by
      intro n hn hs
      unfold Format.read
      simp only [d_sw, d_bin, d_inf, d_lp, hn, hs]
      rw [if_neg (by omega), if_pos (by omega)]
      congr 1 <;> omega
    apply hr
    · unfold Format.word
      rw [d_sw]
      cases s <;> simp only [if_true, Bool.false_eq_true, if_false] <;> omega
    · unfold Format.word
      rw [d_sw]
      cases s
      · simp only [Bool.false_eq_true, if_false]
        exact beq_eq_false_iff_ne.mpr (by omega)
      · simp only [if_true]
        exact beq_iff_eq.mpr (by omega)

theorem iv_rd {n : Nat} {i : Int} (h : IV n i) : rd n = some n := by
  obtain ⟨s, p, h, _⟩ := h
  unfold rd
  rw [h]
  rfl
theorem iv_of_int (i : Int) (hi : i.natAbs < 9007199254740992) : IV (floatOfInt .f64 i) i := by
  obtain ⟨p, hp⟩ := write_iv (decide (i < 0)) i.natAbs 0 hi
  exact ⟨_, p, hp, fun _ => rfl⟩
theorem iv_neg {n : Nat} {i : Int} (h : IV n i) : IV (neg n) (-i) := by
  obtain ⟨s, p, h, hs⟩ := h
  refine ⟨!s, p, ?_, ?_⟩
  · rw [read_neg, h, Int.natAbs_neg]
    rfl
  · intro hi
    rw [hs (by omega)]
    by_cases h : i < 0
    · rw [decide_eq_true h, decide_eq_false (by omega : ¬ -i < 0)]
      rfl
    · rw [decide_eq_false h, decide_eq_true (by omega : -i < 0)]
      rfl

theorem signed_iv {s : Bool} {i : Int} (hs : i ≠ 0 → s = decide (i < 0)) (p : Nat) : signed s (i.natAbs <<< p) 0 = i * (2 ^ p : Nat) := by
  unfold signed
  rw [Nat.shiftLeft_zero, shl]
  by_cases h0 : i = 0
  · subst h0
    simp
  · rw [hs h0]
    by_cases h : i < 0
    · rw [decide_eq_true h, if_pos rfl, Int.natCast_mul]
      have : (i.natAbs : Int) = -i := by omega
      rw [this, Int.neg_mul, Int.neg_neg]
    · rw [decide_eq_false h]
      simp only [Bool.false_eq_true, if_false, Int.natCast_mul]
      have : (i.natAbs : Int) = i := by omega
      rw [this]
theorem signed_up {s : Bool} {i : Int} (hs : i ≠ 0 → s = decide (i < 0)) (p q : Nat) : signed s (i.natAbs <<< p) q = i * (2 ^ (p + q) : Nat) := by
  have h := signed_iv hs (p + q)
  unfold signed at h ⊢
  rw [Nat.shiftLeft_zero] at h
  rw [← h, shl, shl, shl, Nat.mul_assoc, ← Nat.pow_add]

theorem natAbs_mul_pow (i : Int) (p : Nat) : (i * (2 ^ p : Nat)).natAbs = i.natAbs <<< p := by
  rw [Int.natAbs_mul, shl]
  rfl
theorem mul_pow_neg (i : Int) (p : Nat) : i * (2 ^ p : Nat) < 0 ↔ i < 0 := by
  have hp : (0 : Int) < (2 ^ p : Nat) := Int.natCast_pos.mpr (Nat.two_pow_pos p)
  constructor
  · intro h
    rcases Int.lt_or_le i 0 with h' | h'
    · exact h'
    · have := Int.mul_nonneg h' (Int.le_of_lt hp)
      omega
  · intro h
    exact Int.mul_neg_of_neg_of_pos h hp
theorem mul_pow_zero (i : Int) (p : Nat) : i * (2 ^ p : Nat) = 0 ↔ i = 0 := by
  have hp : (0 : Int) < (2 ^ p : Nat) := Int.natCast_pos.mpr (Nat.two_pow_pos p)
  constructor
  · intro h
    rcases Int.mul_eq_zero.mp h with h | h
    · exact h
    · omega
  · intro h
    rw [h, Int.zero_mul]

theorem iv_add {x y : Nat} {i j : Int} (hx : IV x i) (hy : IV y j) (hb : (i + j).natAbs < 9007199254740992) : ∃ r, floatBits .add .f64 x y = some r ∧ IV r (i + j) := by
  obtain ⟨s, p, hx, hs⟩ := hx
  obtain ⟨t, q, hy, ht⟩ := hy
  have hr : FloatKind.f64.format = double := rfl
  simp only [floatBits, Format.add, hr, hx, hy, Datum.sum, Option.map_some]
  refine ⟨_, rfl, ?_⟩
  have hbase : min (-(p : Int)) (-(q : Int)) = -((max p q : Nat) : Int) := by omega
  rw [hbase]
  have e1 : (-(p : Int) - -((max p q : Nat) : Int)).toNat = max p q - p := by omega
  have e2 : (-(q : Int) - -((max p q : Nat) : Int)).toNat = max p q - q := by omega
  rw [e1, e2, signed_up hs, signed_up ht, show p + (max p q - p) = max p q by omega, show q + (max p q - q) = max p q by omega, ← Int.add_mul, natAbs_mul_pow]
  obtain ⟨u, hu⟩ := write_iv (if (i + j) * ((2 ^ max p q : Nat) : Int) = 0 then s && t else decide ((i + j) * ((2 ^ max p q : Nat) : Int) < 0)) (i + j).natAbs (max p q) hb
  refine ⟨_, u, hu, ?_⟩
  intro hne
  rw [if_neg (fun h => hne ((mul_pow_zero _ _).mp h))]
  exact decide_eq_decide.mpr (mul_pow_neg _ _)

theorem iv_mul {x y : Nat} {i j : Int} (hx : IV x i) (hy : IV y j) (hb : (i * j).natAbs < 9007199254740992) : ∃ r, floatBits .mul .f64 x y = some r ∧ IV r (i * j) := by
  obtain ⟨s, p, hx, hs⟩ := hx
  obtain ⟨t, q, hy, ht⟩ := hy
  have hr : FloatKind.f64.format = double := rfl
  simp only [floatBits, Format.mul, hr, hx, hy, Datum.product, Option.map_some]
  refine ⟨_, rfl, ?_⟩
  have e1 : i.natAbs <<< p * j.natAbs <<< q = (i * j).natAbs <<< (p + q) := by
    rw [shl, shl, shl, Int.natAbs_mul, Nat.pow_add]
    simp only [Nat.mul_assoc, Nat.mul_left_comm]
  have e2 : -(p : Int) + -(q : Int) = -((p + q : Nat) : Int) := by omega
  rw [e1, e2]
  obtain ⟨u, hu⟩ := write_iv (s ^^ t) (i * j).natAbs (p + q) hb
  refine ⟨_, u, hu, ?_⟩
  intro hne
  have hi : i ≠ 0 := fun h => hne (by rw [h, Int.zero_mul])
  have hj : j ≠ 0 := fun h => hne (by rw [h, Int.mul_zero])
  rw [hs hi, ht hj]
  by_cases h1 : i < 0
  · by_cases h2 : j < 0
    · have := Int.mul_pos_of_neg_of_neg h1 h2
      rw [decide_eq_true h1, decide_eq_true h2, decide_eq_false (by omega)]
      rfl
    · have := Int.mul_neg_of_neg_of_pos h1 (by omega : 0 < j)
      rw [decide_eq_true h1, decide_eq_false h2, decide_eq_true this]
      rfl
  · by_cases h2 : j < 0
    · have := Int.mul_neg_of_pos_of_neg (by omega : 0 < i) h2
      rw [decide_eq_false h1, decide_eq_true h2, decide_eq_true this]
      rfl
    · have := Int.mul_pos (by omega : 0 < i) (by omega : 0 < j)
      rw [decide_eq_false h1, decide_eq_false h2, decide_eq_false (by omega)]
      rfl

theorem read_four : double.read 4616189618054758400 = .number false (1 * 2 ^ 52) (-50) := by rfl
theorem iv_quarter {x : Nat} {i : Int} (hx : IV x (4 * i)) (hb : i.natAbs < 9007199254740992) : ∃ r, floatBits .quo .f64 x 4616189618054758400 = some r ∧ IV r i := by
  obtain ⟨s, p, hx, hs⟩ := hx
  have hr : FloatKind.f64.format = double := rfl
  have hfb : (double.fractionBits : Nat) = 52 := rfl
  have l4 : (1 * 2 ^ 52 : Nat).log2 = 52 := by decide +kernel
  simp only [floatBits, Format.div, hr, hx, read_four, hfb, Datum.quotient]
  rw [if_neg (by omega), Option.map_some]
  refine ⟨_, rfl, ?_⟩
  rw [l4]
  have e4 : (4 * i).natAbs = i.natAbs * 4 := by omega
  have hm : (4 * i).natAbs <<< p = i.natAbs * 2 ^ (p + 2) := by
    rw [shl, e4, Nat.mul_assoc, Nat.pow_add]
    congr 1
    rw [Nat.mul_comm]
  rw [hm]
  have hmore : 50 ≤ p + (52 + 2 + 52 - (i.natAbs * 2 ^ (p + 2)).log2) := by
    by_cases h0 : i.natAbs = 0
    · rw [h0, Nat.zero_mul]
      have : Nat.log2 0 = 0 := by decide +kernel
      rw [this]
      omega
    · have : (i.natAbs * 2 ^ (p + 2)).log2 < 53 + (p + 2) := by
        rw [Nat.log2_lt (Nat.mul_ne_zero h0 (Nat.ne_of_gt (Nat.two_pow_pos _))), Nat.pow_add 2 53]
        exact Nat.mul_lt_mul_of_pos_right hb (Nat.two_pow_pos _)
      omega
  generalize 52 + 2 + 52 - (i.natAbs * 2 ^ (p + 2)).log2 = more at hmore ⊢
  have hd : (i.natAbs * 2 ^ (p + 2)) <<< more = (i.natAbs * 2 ^ (p + more - 50)) * 2 ^ 52 := by
    rw [shl, Nat.mul_assoc, Nat.mul_assoc, ← Nat.pow_add, ← Nat.pow_add]
    congr 2
    omega
  rw [hd, Nat.one_mul, Nat.mul_div_cancel _ (Nat.two_pow_pos 52), Nat.mul_mod_left]
  have e5 : 2 * (i.natAbs * 2 ^ (p + more - 50)) + ((0 : Nat) != 0).toNat = i.natAbs <<< (p + more - 49) := by
    rw [shl, show p + more - 49 = (p + more - 50) + 1 by omega, Nat.pow_succ]
    show 2 * (i.natAbs * 2 ^ (p + more - 50)) + 0 = _
    rw [Nat.add_zero, Nat.mul_left_comm, Nat.mul_comm 2]
  have e6 : -(p : Int) - -50 - (more : Int) - 1 = -((p + more - 49 : Nat) : Int) := by omega
  rw [e5, e6]
  obtain ⟨u, hu⟩ := write_iv (s ^^ false) i.natAbs (p + more - 49) hb
  refine ⟨_, u, hu, ?_⟩
  intro hne
  rw [Bool.xor_false, hs (by omega)]
  exact decide_eq_decide.mpr (by omega)

theorem iv_order {x y : Nat} {i j : Int} (hx : IV x i) (hy : IV y j) : double.order x y = some (compare i j) := by
  obtain ⟨s, p, hx, hs⟩ := hx
  obtain ⟨t, q, hy, ht⟩ := hy
  unfold Format.order
  rw [hx, hy]
  simp only [Datum.order]
  have hbase : min (-(p : Int)) (-(q : Int)) = -((max p q : Nat) : Int) := by omega
  rw [hbase]
  have e1 : (-(p : Int) - -((max p q : Nat) : Int)).toNat = max p q - p := by omega
  have e2 : (-(q : Int) - -((max p q : Nat) : Int)).toNat = max p q - q := by omega
  rw [e1, e2, signed_up hs, signed_up ht, show p + (max p q - p) = max p q by omega, show q + (max p q - q) = max p q by omega]
  have hp : (0 : Int) < (2 ^ max p q : Nat) := Int.natCast_pos.mpr (Nat.two_pow_pos _)
  generalize ((2 ^ max p q : Nat) : Int) = c at hp
  congr 1
  simp only [compare, compareOfLessAndEq]
  have h1 : (i * c < j * c) ↔ (i < j) := Int.mul_lt_mul_right hp
  have h2 : (i * c = j * c) ↔ (i = j) := ⟨fun h => Int.eq_of_mul_eq_mul_right (by omega) h, fun h => by rw [h]⟩
  simp only [h1, h2]

theorem iv_trunc {x : Nat} {i : Int} (hx : IV x i) (hb : i.natAbs < 9007199254740992) : IV (double.write ((double.read x).integral .zero)) i := by
  obtain ⟨s, p, hx, hs⟩ := hx
  rw [hx]
  simp only [Datum.integral]
  have e1 : (-(p : Int)).toNat = 0 := by omega
  have e2 : (- -(p : Int)).toNat = p := by omega
  rw [e1, e2, Nat.shiftLeft_zero]
  have hc : Toward.zero.cut s (i.natAbs <<< p) p = i.natAbs := by
    unfold Toward.cut
    by_cases h0 : i.natAbs = 0
    · rw [h0, Nat.zero_shiftLeft]
      simp
    · have : p ≤ (i.natAbs <<< p).log2 := by
        rw [shl, Nat.le_log2 (Nat.mul_ne_zero h0 (Nat.ne_of_gt (Nat.two_pow_pos _)))]
        exact Nat.le_mul_of_pos_left _ (by omega)
      rw [Nat.min_eq_left (by omega)]
      simp only [shl, Nat.one_mul, Nat.mul_div_cancel _ (Nat.two_pow_pos p)]
      rfl
  rw [hc]
  obtain ⟨u, hu⟩ := write_iv s i.natAbs 0 hb
  exact ⟨s, u, hu, hs⟩
end Go.Proofs.YtbkamlkmimfomaaIv
