/- Which clusters may be, and how many rounds they take, is what the document's own functions say: for every cluster and every number. No conditions. -/
import Derived.Test.YtabklgmkibdbiaaPGpx4
namespace Go.Proofs.Ytabklgmkibdbiaa.Pure
open Go.RowKit Go.Proofs.Ytabklgmkibdbiaa.PGp Go.Proofs.YtabklgmkibdbiaaW.PrintWords Go.Proofs.YtabklgmkibdbiaaW.PrintLast Go.Proofs.YtabklgmkibdbiaaW.PrintMore

theorem drop_rd (x : List Int) (i : Int) (h0 : 0 ≤ i) (h : i < (x.length : Int)) : x.drop i.toNat = rd x i :: x.drop (i + 1).toNat := by
  have h' : i.toNat < x.length := by omega
  have e : (i + 1).toNat = i.toNat + 1 := by omega
  rw [List.drop_eq_getElem_cons h', e]
  simp [rd, List.getD_eq_getElem?_getD, List.getElem?_eq_getElem h']
theorem drop_rdL (x : List (List Int)) (i : Int) (h0 : 0 ≤ i) (h : i < (x.length : Int)) : x.drop i.toNat = rd_L1 x i :: x.drop (i + 1).toNat := by
  have h' : i.toNat < x.length := by omega
  have e : (i + 1).toNat = i.toNat + 1 := by omega
  rw [List.drop_eq_getElem_cons h', e]
  simp [rd_L1, List.getD_eq_getElem?_getD, List.getElem?_eq_getElem h']
theorem take_rdL (x : List (List Int)) (i : Int) (h0 : 0 ≤ i) (h : i < (x.length : Int)) : x.take (i + 1).toNat = x.take i.toNat ++ [rd_L1 x i] := by
  have h' : i.toNat < x.length := by omega
  have e : (i + 1).toNat = i.toNat + 1 := by omega
  rw [e, List.take_succ_eq_append_getElem h']
  simp [rd_L1, List.getD_eq_getElem?_getD, List.getElem?_eq_getElem h']
theorem wrap_up {i : Int} {n : Nat} (h0 : 0 ≤ i) (h : i < (n : Int)) (hn : n ≤ 100) : wrap64 (i + 1) = i + 1 := by
  unfold wrap64
  omega

/-- May a weight be? -/
def okw (w : Int) : Bool := decide (1 ≤ w ∧ w ≤ 4)
/-- May a queue be? -/
def okq (x : List Int) : Bool := decide (1 ≤ x.length ∧ x.length ≤ 4) && x.all okw

theorem index_tells (x : List Int) (hx : x.length ≤ 4) (d : Nat) : ∀ (k : Nat) (i : Int), 0 ≤ i → i ≤ x.length → (x.length : Int) - i = d → d < k →
    ∃ r, slices_IndexFunc_int_int__bound_May_1.l1 k x (x.length : Int) i = some r ∧ decide (r ≥ 0) = !((x.drop i.toNat).all okw) := by
  induction d with
  | zero =>
    intro k i h0 h1 hd hk
    obtain ⟨k, rfl⟩ : ∃ m, k = m + 1 := ⟨k - 1, by omega⟩
    refine ⟨-1, by simp only [slices_IndexFunc_int_int__bound_May_1.l1]; rw [if_neg (by omega)], ?_⟩
    rw [List.drop_eq_nil_of_le (by omega)]
    rfl
  | succ d ih =>
    intro k i h0 h1 hd hk
    obtain ⟨k, rfl⟩ : ∃ m, k = m + 1 := ⟨k - 1, by omega⟩
    have hlt : i < (x.length : Int) := by omega
    rw [drop_rd x i h0 hlt]
    simp only [slices_IndexFunc_int_int__bound_May_1.l1]
    rw [if_pos hlt, if_pos h0, if_pos hlt]
    by_cases hw : 1 ≤ rd x i ∧ rd x i ≤ 4
    · have e : bound_May_1.f (rd x i) = some false := by
        unfold bound_May_1.f
        rw [if_neg (by omega)]
        simp
        omega
      obtain ⟨r, hr, h⟩ := ih k (i + 1) (by omega) (by omega) (by omega) (by omega)
      refine ⟨r, ?_, ?_⟩
      · rw [e, wrap_up h0 hlt (by omega)]
        simpa using hr
      · rw [h]
        simp [okw, hw]
    · have e : bound_May_1.f (rd x i) = some true := by
        unfold bound_May_1.f
        split
        · rfl
        · simp
          omega
      refine ⟨i, by rw [e]; simp, ?_⟩
      have : okw (rd x i) = false := by simp [okw]; omega
      simp [this, h0]

theorem contains_tells (x : List Int) (hx : x.length ≤ 4) (k : Nat) (hk : 5 ≤ k) : slices_ContainsFunc_int_int__bound_May_1.f k x = some (!(x.all okw)) := by
  obtain ⟨r, hr, h⟩ := index_tells x hx x.length k 0 (by omega) (by omega) (by omega) (by omega)
  unfold slices_ContainsFunc_int_int__bound_May_1.f slices_IndexFunc_int_int__bound_May_1.f
  rw [hr]
  simp only [Option.bind_some, h]
  rfl

theorem may_loop (a b : Int) (l : List (List Int)) (hl : l.length ≤ 4) (d : Nat) : ∀ (k : Nat) (q : Int), 1 ≤ q → q ≤ l.length → q = (d : Int) + 1 → 10 + 2 * d ≤ k →
    bound_May.l500 k q a b l = some ((l.take q.toNat).all okq) := by
  induction d with
  | zero =>
    intro k q h0 h1 hd hk
    obtain ⟨k, rfl⟩ : ∃ m, k = m + 2 := ⟨k - 2, by omega⟩
    have hq : q = 1 := by omega
    subst hq
    have e : wrap64 (1 - 1) = 0 := by kernel_rfl
    have ht := take_rdL l 0 (by omega) (by omega)
    simp only [bound_May.l500]
    rw [e, if_pos (by omega), if_pos (by omega)]
    rw [show (1 : Int) = 0 + 1 from rfl, ht]
    simp only [Int.toNat_zero, List.take_zero, List.nil_append, List.all_cons, List.all_nil, Bool.and_true]
    by_cases hq1 : ((rd_L1 l 0).length : Int) < 1
    · rw [if_pos (by omega)]
      simp only [bound_May.j2]
      rw [if_pos trivial]
      have : okq (rd_L1 l 0) = false := by simp [okq]; omega
      rw [this]
    · rw [if_neg (by omega)]
      by_cases hq2 : ((rd_L1 l 0).length : Int) > 4
      · rw [if_pos hq2]
        simp only [bound_May.j2]
        rw [if_pos trivial]
        have : okq (rd_L1 l 0) = false := by simp [okq]; omega
        rw [this]
      · rw [if_neg hq2, contains_tells _ (by omega) _ (by omega)]
        have e2 : okq (rd_L1 l 0) = (rd_L1 l 0).all okw := by unfold okq; rw [decide_eq_true (by omega), Bool.true_and]
        rw [e2]
        simp only [Option.bind_some, bound_May.j2]
        cases (rd_L1 l 0).all okw <;> simp
  | succ d ih =>
    intro k q h0 h1 hd hk
    obtain ⟨k, rfl⟩ : ∃ m, k = m + 2 := ⟨k - 2, by omega⟩
    have e : wrap64 (q - 1) = q - 1 := by unfold wrap64; omega
    have ht := take_rdL l (q - 1) (by omega) (by omega)
    rw [show q - 1 + 1 = q by omega] at ht
    rw [ht, List.all_append]
    simp only [bound_May.l500]
    rw [e, if_pos (by omega), if_pos (by omega)]
    simp only [List.all_cons, List.all_nil, Bool.and_true]
    have hi := ih k (q - 1) (by omega) (by omega) (by omega) (by omega)
    by_cases hq1 : ((rd_L1 l (q - 1)).length : Int) < 1
    · rw [if_pos hq1]
      simp only [bound_May.j2]
      rw [if_pos trivial]
      have : okq (rd_L1 l (q - 1)) = false := by simp [okq]; omega
      rw [this, Bool.and_false]
    · rw [if_neg hq1]
      by_cases hq2 : ((rd_L1 l (q - 1)).length : Int) > 4
      · rw [if_pos hq2]
        simp only [bound_May.j2]
        rw [if_pos trivial]
        have : okq (rd_L1 l (q - 1)) = false := by simp [okq]; omega
        rw [this, Bool.and_false]
      · rw [if_neg hq2, contains_tells _ (by omega) _ (by omega)]
        have e2 : okq (rd_L1 l (q - 1)) = (rd_L1 l (q - 1)).all okw := by unfold okq; rw [decide_eq_true (by omega), Bool.true_and]
        rw [e2]
        simp only [Option.bind_some, bound_May.j2]
        cases (rd_L1 l (q - 1)).all okw
        · simp only [Bool.not_false, if_true, Bool.and_false]
        · simp only [Bool.not_true, Bool.false_eq_true, if_false, Bool.and_true]
          rw [if_pos (by omega)]
          exact hi

/-- May a cluster be? -/
def okc (a b : Int) (l : List (List Int)) : Bool := decide (1 ≤ a ∧ a ≤ 4 ∧ 1 ≤ b ∧ b ≤ 4 ∧ 1 ≤ l.length ∧ l.length ≤ 4) && l.all okq

theorem may_tells (a b : Int) (l : List (List Int)) (k : Nat) (hk : 30 ≤ k) : bound_May.f k a b l = some (okc a b l) := by
  obtain ⟨k, rfl⟩ : ∃ m, k = m + 1 := ⟨k - 1, by omega⟩
  have no : ∀ x, ¬ (1 ≤ a ∧ a ≤ 4 ∧ 1 ≤ b ∧ b ≤ 4 ∧ 1 ≤ l.length ∧ l.length ≤ 4) → bound_May.j0 (k + 1) x true a b l = some (okc a b l) := by
    intro x h
    simp only [bound_May.j0]
    rw [if_pos trivial]
    unfold okc
    rw [decide_eq_false h, Bool.false_and]
  unfold bound_May.f
  by_cases h1 : a < 1
  · rw [if_pos h1]; exact no _ (by omega)
  rw [if_neg h1]
  by_cases h2 : a > 4
  · rw [if_pos h2]; exact no _ (by omega)
  rw [if_neg h2]
  by_cases h3 : b < 1
  · rw [if_pos h3]; exact no _ (by omega)
  rw [if_neg h3]
  by_cases h4 : b > 4
  · rw [if_pos h4]; exact no _ (by omega)
  rw [if_neg h4]
  by_cases h5 : (l.length : Int) < 1
  · rw [if_pos h5]; exact no _ (by omega)
  rw [if_neg h5]
  by_cases h6 : (l.length : Int) > 4
  · rw [decide_eq_true h6]; exact no _ (by omega)
  rw [decide_eq_false h6]
  simp only [bound_May.j0]
  rw [if_neg (by decide), may_loop a b l (by omega) (l.length - 1) k (l.length : Int) (by omega) (by omega) (by omega) (by omega)]
  unfold okc
  rw [decide_eq_true (by omega), Bool.true_and, Int.toNat_natCast, List.take_length]

theorem conf_in (a b : Int) (l : List (List Int)) (hl : l.length ≤ 4) (i : Int) (g0 : 0 ≤ i) (g1 : i < (l.length : Int)) (x : List Int) (hx : rd_L1 l i = x) (hx4 : x.length ≤ 4) (d : Nat) : ∀ (k : Nat) (j : Int), 0 ≤ j → j ≤ x.length → (x.length : Int) - j = d → d < k →
    carrefourref18_MayConf.l3 k i j a b l = if (x.drop j.toNat).all okw = true then carrefourref18_MayConf.l2 (k - d - 1) (i + 1) a b l else some false := by
  induction d with
  | zero =>
    intro k j h0 h1 hd hk
    obtain ⟨k, rfl⟩ : ∃ m, k = m + 1 := ⟨k - 1, by omega⟩
    simp only [carrefourref18_MayConf.l3, hx]
    rw [if_pos g0, if_pos g1, if_neg (by omega), List.drop_eq_nil_of_le (by omega), wrap_up g0 g1 (by omega)]
    simp
  | succ d ih =>
    intro k j h0 h1 hd hk
    obtain ⟨k, rfl⟩ : ∃ m, k = m + 1 := ⟨k - 1, by omega⟩
    have hlt : j < (x.length : Int) := by omega
    simp only [carrefourref18_MayConf.l3, hx]
    rw [if_pos g0, if_pos g1, if_pos hlt, if_pos h0, drop_rd x j h0 hlt]
    by_cases w1 : rd x j < 1
    · rw [if_pos w1]
      have : okw (rd x j) = false := by simp [okw]; omega
      simp [this]
    · rw [if_neg w1]
      by_cases w2 : rd x j > 4
      · rw [if_pos w2]
        have : okw (rd x j) = false := by simp [okw]; omega
        simp [this]
      · rw [if_neg w2, wrap_up h0 hlt (by omega), ih k (j + 1) (by omega) (by omega) (by omega) (by omega)]
        have : okw (rd x j) = true := by simp [okw]; omega
        simp only [List.all_cons, this, Bool.true_and]
        rw [show k + 1 - (d + 1) - 1 = k - d - 1 by omega]

theorem conf_loop (a b : Int) (l : List (List Int)) (hl : l.length ≤ 4) (d : Nat) : ∀ (k : Nat) (i : Int), 0 ≤ i → i ≤ l.length → (l.length : Int) - i = d → 10 * d < k →
    carrefourref18_MayConf.l2 k i a b l = some ((l.drop i.toNat).all okq) := by
  induction d with
  | zero =>
    intro k i h0 h1 hd hk
    obtain ⟨k, rfl⟩ : ∃ m, k = m + 1 := ⟨k - 1, by omega⟩
    simp only [carrefourref18_MayConf.l2]
    rw [if_neg (by omega), List.drop_eq_nil_of_le (by omega)]
    rfl
  | succ d ih =>
    intro k i h0 h1 hd hk
    obtain ⟨k, rfl⟩ : ∃ m, k = m + 2 := ⟨k - 2, by omega⟩
    have hlt : i < (l.length : Int) := by omega
    simp only [carrefourref18_MayConf.l2]
    rw [if_pos hlt, if_pos h0, drop_rdL l i h0 hlt]
    by_cases q1 : ((rd_L1 l i).length : Int) < 1
    · rw [if_pos q1]
      simp only [carrefourref18_MayConf.j2]
      rw [if_pos trivial]
      have : okq (rd_L1 l i) = false := by simp [okq]; omega
      simp [this]
    · rw [if_neg q1]
      simp only [carrefourref18_MayConf.j2]
      by_cases q2 : ((rd_L1 l i).length : Int) > 4
      · rw [decide_eq_true q2, if_pos rfl]
        have : okq (rd_L1 l i) = false := by simp [okq]; omega
        simp [this]
      · rw [decide_eq_false q2, if_neg (by decide), conf_in a b l hl i h0 hlt (rd_L1 l i) rfl (by omega) (rd_L1 l i).length k 0 (by omega) (by omega) (by omega) (by omega)]
        have e2 : okq (rd_L1 l i) = (rd_L1 l i).all okw := by unfold okq; rw [decide_eq_true (by omega), Bool.true_and]
        simp only [List.all_cons, e2, Int.toNat_zero, List.drop_zero]
        cases (rd_L1 l i).all okw
        · simp
        · simp only [if_true, Bool.true_and]
          exact ih _ (i + 1) (by omega) (by omega) (by omega) (by omega)

theorem conf_tells (a b : Int) (l : List (List Int)) (k : Nat) (hk : 60 ≤ k) : carrefourref18_MayConf.f k a b l = some (okc a b l) := by
  obtain ⟨k, rfl⟩ : ∃ m, k = m + 1 := ⟨k - 1, by omega⟩
  have no : ¬ (1 ≤ a ∧ a ≤ 4 ∧ 1 ≤ b ∧ b ≤ 4 ∧ 1 ≤ l.length ∧ l.length ≤ 4) → carrefourref18_MayConf.j0 (k + 1) true a b l = some (okc a b l) := by
    intro h
    simp only [carrefourref18_MayConf.j0]
    rw [if_pos trivial]
    unfold okc
    rw [decide_eq_false h, Bool.false_and]
  unfold carrefourref18_MayConf.f
  by_cases h1 : a < 1
  · rw [if_pos h1]; exact no (by omega)
  rw [if_neg h1]
  by_cases h2 : a > 4
  · rw [if_pos h2]; exact no (by omega)
  rw [if_neg h2]
  by_cases h3 : b < 1
  · rw [if_pos h3]; exact no (by omega)
  rw [if_neg h3]
  by_cases h4 : b > 4
  · rw [if_pos h4]; exact no (by omega)
  rw [if_neg h4]
  by_cases h5 : (l.length : Int) < 1
  · rw [if_pos h5]; exact no (by omega)
  rw [if_neg h5]
  by_cases h6 : (l.length : Int) > 4
  · rw [decide_eq_true h6]; exact no (by omega)
  rw [decide_eq_false h6]
  simp only [carrefourref18_MayConf.j0]
  rw [if_neg (by decide), conf_loop a b l (by omega) l.length k 0 (by omega) (by omega) (by omega) (by omega)]
  unfold okc
  rw [decide_eq_true (by omega), Bool.true_and]
  simp

theorem told_at (k : Nat) (hk : 20 ≤ k) : carrefourlaw22_told.f k = some true :=
  at_rounds (g := fun k => carrefourlaw22_told.f k) carrefourlaw22_told.mono hk (by kernel_rfl)

theorem asks_loop (a b c : Int) (l : List (List Int)) (hl : l.length ≤ 8) (d : Nat) : ∀ (k : Nat) (i : Int), 0 ≤ i → i ≤ l.length → (l.length : Int) - i = d → 80 + d < k →
    carrefourlaw22_BoundAsks.l1 k c i a b l = some true := by
  induction d with
  | zero =>
    intro k i h0 h1 hd hk
    obtain ⟨k, rfl⟩ : ∃ m, k = m + 1 := ⟨k - 1, by omega⟩
    simp only [carrefourlaw22_BoundAsks.l1]
    rw [if_neg (by omega), told_at k (by omega), may_tells a b l k (by omega), conf_tells a b l k (by omega)]
    unfold bound_Rounds.f carrefourref18_Rounds.f
    rw [may_tells a b l k (by omega), conf_tells a b l k (by omega)]
    cases okc a b l <;> simp
  | succ d ih =>
    intro k i h0 h1 hd hk
    obtain ⟨k, rfl⟩ : ∃ m, k = m + 1 := ⟨k - 1, by omega⟩
    have hlt : i < (l.length : Int) := by omega
    simp only [carrefourlaw22_BoundAsks.l1]
    rw [if_pos hlt, if_pos h0]
    split
    · rw [told_at k (by omega)]
      rfl
    · rw [wrap_up h0 hlt (by omega)]
      exact ih k (i + 1) (by omega) (by omega) (by omega) (by omega)

theorem BoundAsks : carrefourlaw22_BoundAsks.Pure := by
  intro a b l c _ _ _ _
  refine ⟨100, ?_⟩
  unfold carrefourlaw22_BoundAsks.f
  split
  · rw [told_at 100 (by omega)]
    rfl
  · exact asks_loop a b c l (by omega) l.length 100 0 (by omega) (by omega) (by omega) (by omega)

end Go.Proofs.Ytabklgmkibdbiaa.Pure
