/- Frames one behind the other are read one by one, cut anywhere: for all frames, any cut. No conditions. -/
import Derived.Test.YtcfideolgkjhmaaPGqx7
import Derived.Test.YtcfideolgkjhmaaFrC
namespace Go.Proofs.Ytcfideolgkjhmaa.Pure
open Go.RowKit Go.Proofs.Ytcfideolgkjhmaa.PGq Go.Proofs.YtcfideolgkjhmaaW.PrintWords Go.Proofs.YtcfideolgkjhmaaW.PrintLast Go.Proofs.Ytcfideolgkjhmaa.FrB Go.Proofs.Ytcfideolgkjhmaa.FrC

theorem row_take (l : List S24) (i : Nat) (h : i < l.length) : l.take (i + 1) = l.take i ++ [rd_T24 l i] := by
  rw [List.take_succ_eq_append_getElem h]
  simp [rd_T24, List.getD_eq_getElem?_getD, List.getElem?_eq_getElem h]

theorem told_at {n : Nat} (h : 20 ≤ n) : carrefourlaw4_told.f n = some true := by
  obtain ⟨k, rfl⟩ : ∃ k, n = k + 20 := ⟨n - 20, by omega⟩
  exact told_may k

/-- Where the frames end. -/
def endsTo (l : List S24) (n : Nat) : List Int := (List.range n).map fun j => ((cat (l.take (j + 1))).length : Int)
theorem ends_len (l : List S24) (n : Nat) : (endsTo l n).length = n := by simp [endsTo]
theorem ends_rd (l : List S24) (n j : Nat) (h : j < n) : rd (endsTo l n) (j : Int) = ((cat (l.take (j + 1))).length : Int) := by
  simp [rd, endsTo, List.getD_eq_getElem?_getD, h]
theorem ends_up (l : List S24) (n : Nat) : endsTo l (n + 1) = endsTo l n ++ [((cat (l.take (n + 1))).length : Int)] := by
  simp [endsTo, List.range_succ]
theorem cat_le (l : List S24) (a b : Nat) (h : a ≤ b) : (cat (l.take a)).length ≤ (cat (l.take b)).length := by
  have e : l.take b = l.take a ++ (l.take b).drop a := by
    have := (List.take_append_drop a (l.take b)).symm
    rwa [List.take_take, Nat.min_eq_left h] at this
  rw [e, cat_app, List.length_append]
  omega

/-- A piece of a frame is none yet. -/
theorem piece {kd ch : Int} {l : List Int} (h : mayB kd ch l = true) (n : Nat) (hn : n < l.length + 8) : nextS ((fby kd ch l).take n) = no3 := by
  have p := may_parts h
  have K : kd % 256 = kd := by omega
  have L : ((fby kd ch l).take n).length = n := by
    rw [List.length_take, bytes_len]
    omega
  have r : ∀ i : Int, 0 ≤ i → i < n → rd ((fby kd ch l).take n) i = rd (fby kd ch l ++ []) i := by
    intro i h0 h7
    unfold rd
    rw [List.append_nil]
    simp only [List.getD_eq_getElem?_getD]
    rw [List.getElem?_take_of_lt (by omega)]
  unfold nextS
  rw [L]
  by_cases c1 : n < 1
  · rw [if_pos c1]
  rw [if_neg c1]
  have e0 : rd ((fby kd ch l).take n) 0 = kd := by rw [r 0 (by omega) (by omega), bytes_rd0, K]
  rw [e0, if_neg (by simp [kin]; omega)]
  by_cases c3 : n < 3
  · rw [if_pos c3]
  rw [if_neg c3]
  have e1 : hi ((fby kd ch l).take n) = ch := by
    have := hi_bytes [] h
    unfold hi at this ⊢
    rw [r 1 (by omega) (by omega), r 2 (by omega) (by omega), this]
  rw [e1, if_neg (by omega)]
  by_cases c7 : n < 7
  · rw [if_pos c7]
  rw [if_neg c7]
  have e2 : ln ((fby kd ch l).take n) = l.length := by
    have := ln_bytes [] h
    unfold ln at this ⊢
    rw [r 3 (by omega) (by omega), r 4 (by omega) (by omega), r 5 (by omega) (by omega), r 6 (by omega) (by omega), this]
  rw [e2, if_neg (by omega), if_pos (by omega)]

/-- Where a cut falls. -/
theorem cut_at (l : List S24) : ∀ n : Nat, n ≤ (cat l).length → ∃ w : Nat, ∃ R : List Int, w ≤ l.length ∧ (cat l).take n = cat (l.take w) ++ R ∧ n = (cat (l.take w)).length + R.length
    ∧ (w = l.length → R = []) ∧ (w < l.length → n < (cat (l.take (w + 1))).length ∧ R = (one (rd_T24 l w)).take R.length ∧ R.length < (rd_T24 l w).f2.length + 8) := by
  induction l with
  | nil =>
    intro n hn
    refine ⟨0, [], by simp, by simp [cat], by simpa [cat] using hn, fun _ => rfl, fun h => by simp at h⟩
  | cons f fs ih =>
    intro n hn
    have L := one_len f
    by_cases h : n < (one f).length
    · refine ⟨0, (one f).take n, by simp, ?_, ?_, ?_, ?_⟩
      · simp only [cat, List.take_zero, List.nil_append]
        rw [List.take_append_of_le_length (by omega)]
      · simp only [cat, List.take_zero, List.length_nil, List.length_take]
        omega
      · intro e; simp at e
      · intro _
        have e : rd_T24 (f :: fs) ((0 : Nat) : Int) = f := by simp [rd_T24]
        rw [e]
        refine ⟨?_, ?_, ?_⟩
        · simp only [List.take_succ_cons, List.take_zero, cat, List.append_nil]
          exact h
        · rw [List.length_take, Nat.min_eq_left (by omega)]
        · rw [List.length_take]
          omega
    · simp only [cat, List.length_append] at hn
      obtain ⟨w, R, h1, h2, h3, h4, h5⟩ := ih (n - (one f).length) (by omega)
      refine ⟨w + 1, R, by simp only [List.length_cons]; omega, ?_, ?_, ?_, ?_⟩
      · simp only [cat, List.take_succ_cons]
        rw [List.take_append, List.take_of_length_le (by omega), h2, List.append_assoc]
      · simp only [cat, List.take_succ_cons, List.length_append]
        omega
      · intro e
        exact h4 (by simpa using e)
      · intro e
        have := h5 (by simpa using e)
        have e2 : rd_T24 (f :: fs) ((w + 1 : Nat) : Int) = rd_T24 fs (w : Int) := by
          have a : ((w + 1 : Nat) : Int).toNat = w + 1 := by omega
          simp only [rd_T24, a]
          simp
        rw [e2]
        refine ⟨?_, this.2⟩
        simp only [cat, List.take_succ_cons, List.length_append]
        omega

theorem same_self (f : S24) : frame_Same.f f.f0 f.f1 f.f2 f.f0 f.f1 f.f2 = some true := by
  unfold frame_Same.f bytes_Equal.f
  simp

theorem rows_same (l : List S24) (w : Nat) (hw : w ≤ l.length) (h10 : l.length ≤ 10) (d : Nat) : ∀ (k i : Nat), i + d = w → d + 21 ≤ k → carrefourlaw4_FrameRows.l5 k l (l.take w) (w : Int) (i : Int) = some true := by
  induction d with
  | zero =>
    intro k i hi hk
    obtain ⟨m, rfl⟩ : ∃ m, k = m + 1 := ⟨k - 1, by omega⟩
    simp only [carrefourlaw4_FrameRows.l5]
    rw [if_neg (by omega), told_at (by omega)]
    simp only [Option.bind_some]
  | succ d ih =>
    intro k i hi hk
    obtain ⟨m, rfl⟩ : ∃ m, k = m + 1 := ⟨k - 1, by omega⟩
    simp only [carrefourlaw4_FrameRows.l5]
    have Lt : (l.take w).length = w := by rw [List.length_take]; omega
    rw [if_pos (by omega), if_pos (by omega), if_pos (by omega), if_pos (by omega)]
    have e : rd_T24 (l.take w) (i : Int) = rd_T24 l (i : Int) := by
      simp only [rd_T24, List.getD_eq_getElem?_getD]
      rw [List.getElem?_take_of_lt (by omega)]
    rw [e, same_self]
    simp only [Option.bind_some, if_true]
    rw [show wrap64 ((i : Int) + 1) = ((i + 1 : Nat) : Int) by unfold wrap64; omega]
    exact ih m (i + 1) (by omega) (by omega)

theorem rows_count (l : List S24) (h10 : l.length ≤ 10) (n w : Nat) (R : List Int) (hw : w ≤ l.length) (hn : n = (cat (l.take w)).length + R.length)
    (h1 : w = l.length → R = []) (h2 : w < l.length → n < (cat (l.take (w + 1))).length) (d : Nat) : ∀ (k i : Nat), i + d = w →
    carrefourlaw4_FrameRows.l4 (k + 2 * d + 40) l (endsTo l l.length) (n : Int) (l.take w) ((cat (l.take w)).length : Int) (if R = [] then 0 else 3) (i : Int) ((cat (l.take i)).length : Int) = some true := by
  induction d with
  | zero =>
    intro k i hi
    obtain rfl : i = w := by omega
    have Lt : (l.take i).length = i := by rw [List.length_take]; omega
    have fin : carrefourlaw4_FrameRows.j2 (k + 39) l (endsTo l l.length) (n : Int) (l.take i) ((cat (l.take i)).length : Int) (if R = [] then 0 else 3) (i : Int) ((cat (l.take i)).length : Int) false = some true := by
      have j3 : carrefourlaw4_FrameRows.j3 (k + 38) l (l.take i) (i : Int) false = some true := by
        simp only [carrefourlaw4_FrameRows.j3]
        rw [if_neg (by simp)]
        exact rows_same l i hw h10 i (k + 37) 0 (by omega) (by omega)
      simp only [carrefourlaw4_FrameRows.j2]
      rw [if_neg (by simp), if_pos (by omega), if_pos trivial]
      by_cases hR : R = []
      · rw [if_pos hR, if_pos rfl, if_pos (by subst hR; simp at hn; omega)]
        exact j3
      · have : 0 < R.length := List.length_pos_iff.mpr hR
        rw [if_neg hR, if_neg (by omega), if_neg (by omega)]
        exact j3
    rw [show k + 2 * 0 + 40 = (k + 39) + 1 by omega]
    simp only [carrefourlaw4_FrameRows.l4]
    by_cases hlt : i < l.length
    · have := h2 hlt
      rw [if_pos (by omega), if_pos (by omega), if_pos (by rw [ends_len]; omega), ends_rd l _ i hlt, decide_eq_false (by omega)]
      exact fin
    · rw [if_neg (by omega)]
      exact fin
  | succ d ih =>
    intro k i hi
    have hc := cat_le l (i + 1) w (by omega)
    rw [show k + 2 * (d + 1) + 40 = (k + 2 * d + 40) + 1 + 1 by omega]
    simp only [carrefourlaw4_FrameRows.l4]
    rw [if_pos (by omega), if_pos (by omega), if_pos (by rw [ends_len]; omega), ends_rd l _ i (by omega), decide_eq_true (by omega)]
    simp only [carrefourlaw4_FrameRows.j2]
    rw [if_pos trivial, if_pos (by omega), if_pos (by rw [ends_len]; omega), ends_rd l _ i (by omega)]
    rw [show wrap64 ((i : Int) + 1) = ((i + 1 : Nat) : Int) by unfold wrap64; omega]
    exact ih k (i + 1) (by omega)

theorem rows_end (l : List S24) (cut : Int) (h10 : l.length ≤ 10) (hf : ∀ f ∈ l, By f.f2) (hy : ∀ f ∈ l, mays f = true) (hn : (cat l).length ≤ 10000) (k : Nat) (i : Int) (hi : ¬ i < (l.length : Int)) :
    carrefourlaw4_FrameRows.l3 (k + 100) l cut (cat l) (endsTo l l.length) i = some true := by
  obtain ⟨m, hm⟩ : ∃ m, m = k + 99 := ⟨_, rfl⟩
  rw [show k + 100 = m + 1 by omega]
  simp only [carrefourlaw4_FrameRows.l3]
  subst hm
  have w1 : wrap64 (((cat l).length : Int) + 1) = ((cat l).length : Int) + 1 := by
    unfold wrap64
    omega
  have w2 : IntKind.u64.wrap (((cat l).length : Int) + 1) = ((cat l).length : Int) + 1 := by
    show (((cat l).length : Int) + 1) % 2 ^ 64 = _
    omega
  rw [if_neg hi, w1, w2, if_neg (by omega)]
  have r : 0 ≤ wrap64 (Int.tmod (IntKind.u64.wrap cut) (((cat l).length : Int) + 1)) ∧ wrap64 (Int.tmod (IntKind.u64.wrap cut) (((cat l).length : Int) + 1)) < ((cat l).length : Int) + 1 := by
    have hx : 0 ≤ IntKind.u64.wrap cut := Int.emod_nonneg _ (by decide)
    rw [Int.tmod_eq_emod_of_nonneg hx]
    have a := Int.emod_nonneg (IntKind.u64.wrap cut) (by omega : ((cat l).length : Int) + 1 ≠ 0)
    have b := Int.emod_lt_of_pos (IntKind.u64.wrap cut) (by omega : 0 < ((cat l).length : Int) + 1)
    unfold wrap64
    omega
  generalize wrap64 (Int.tmod (IntKind.u64.wrap cut) (((cat l).length : Int) + 1)) = x at r ⊢
  obtain ⟨n, rfl⟩ := Int.eq_ofNat_of_zero_le r.1
  rw [if_pos r.1, if_pos (by omega)]
  rw [show ((n : Int)).toNat = n by omega]
  obtain ⟨w, R, hw, e1, e2, e3, e4⟩ := cut_at l n (by omega)
  have nx : R ≠ [] → nextS R = no3 := by
    intro hR
    have hlt : w < l.length := by
      rcases Nat.lt_or_eq_of_le hw with h | h
      · exact h
      · exact absurd (e3 h) hR
    obtain ⟨_, a, b⟩ := e4 hlt
    have m : mays (rd_T24 l (w : Int)) = true := by
      refine hy _ ?_
      have : rd_T24 l (w : Int) = l[w] := by simp [rd_T24, List.getD_eq_getElem?_getD, List.getElem?_eq_getElem hlt]
      rw [this]
      exact List.getElem_mem hlt
    rw [a]
    exact piece m _ b
  have B : By ((cat l).take n) := (cat_by hf).take n
  rw [e1] at B ⊢
  have Ltake : (cat (l.take w) ++ R).length = n := by
    rw [List.length_append]
    omega
  have all := all_is R (l.take w) (k + 96 - w) B (by omega) (by rw [List.length_take]; omega) (fun f hf' => hy f (List.mem_of_mem_take hf')) (fun hR => by rw [nx hR]; decide)
  rw [List.length_take, Nat.min_eq_left hw, show k + 96 - w + 3 + w = k + 99 by omega] at all
  rw [all]
  simp only [Option.bind_some]
  have e : (if R = [] then (0 : Int) else (nextS R).2.2.2.2) = if R = [] then 0 else 3 := by
    by_cases hR : R = []
    · rw [if_pos hR, if_pos hR]
    · rw [if_neg hR, if_neg hR, nx hR]
      rfl
  rw [e]
  have go := rows_count l h10 n w R hw e2 e3 (fun h => (e4 h).1) w (k + 59 - 2 * w) 0 (by omega)
  rw [show k + 59 - 2 * w + 2 * w + 40 = k + 99 by omega] at go
  exact go

theorem rows_loop (l : List S24) (cut : Int) (h10 : l.length ≤ 10) (hf : ∀ f ∈ l, By f.f2) (d : Nat) : ∀ (k i : Nat), i + d = l.length → (∀ f ∈ l.take i, mays f = true) → (cat (l.take i)).length ≤ 308 * i →
    carrefourlaw4_FrameRows.l3 (k + d + 100) l cut (cat (l.take i)) (endsTo l i) (i : Int) = some true := by
  induction d with
  | zero =>
    intro k i hi hy hn
    have e : l.take i = l := List.take_of_length_le (by omega)
    rw [e] at hy hn ⊢
    obtain rfl : i = l.length := by omega
    exact rows_end l cut h10 hf hy (by omega) k _ (by omega)
  | succ d ih =>
    intro k i hi hy hn
    obtain ⟨m, hm⟩ : ∃ m, m = k + d + 100 := ⟨_, rfl⟩
    rw [show k + (d + 1) + 100 = m + 1 by omega]
    simp only [carrefourlaw4_FrameRows.l3]
    subst hm
    have hlt : i < l.length := by omega
    have told : carrefourlaw4_told.f (k + d + 100) = some true := told_at (by omega)
    rw [if_pos (by omega), if_pos (by omega)]
    by_cases h300 : ((rd_T24 l (i : Int)).f2.length : Int) > 300
    · rw [if_pos h300, told]
      rfl
    rw [if_neg h300, put_tells]
    simp only [Option.bind_some]
    by_cases hp : mayB (rd_T24 l i).f0 (rd_T24 l i).f1 (rd_T24 l i).f2 = true
    · rw [if_pos hp]
      simp only [if_true]
      have L1 := bytes_len (rd_T24 l i).f0 (rd_T24 l i).f1 (rd_T24 l i).f2
      have e : cat (l.take i) ++ fby (rd_T24 l i).f0 (rd_T24 l i).f1 (rd_T24 l i).f2 = cat (l.take (i + 1)) := by
        rw [row_take l i hlt, cat_app]
        simp [cat, one]
      rw [if_pos (by omega), if_pos (by rw [ends_len]; omega), e, ← ends_up]
      have w : wrap64 ((i : Int) + 1) = ((i + 1 : Nat) : Int) := by
        unfold wrap64
        omega
      rw [w]
      refine ih k (i + 1) (by omega) ?_ ?_
      · intro f hf'
        rw [row_take l i hlt] at hf'
        rcases List.mem_append.mp hf' with h | h
        · exact hy f h
        · rw [List.mem_singleton.mp h]; exact hp
      · rw [← e, List.length_append]
        omega
    · rw [if_neg hp]
      simp only [Int.one_ne_zero, if_false]
      rw [told]
      rfl

theorem FrameRows : carrefourlaw4_FrameRows.Pure := by
  intro l cut hl hc
  refine ⟨200, ?_⟩
  unfold carrefourlaw4_FrameRows.f
  by_cases h10 : (l.length : Int) > 10
  · rw [if_pos h10, told_at (by omega)]
    simp only [Option.bind_some]
  rw [if_neg h10]
  have go := rows_loop l cut (by omega) (fun f hf y hy => u8_of ((hl.2 f hf).2.2.2 y hy)) l.length (100 - l.length) 0 (by omega) (by simp) (by simp [cat])
  rw [show 100 - l.length + l.length + 100 = 200 by omega] at go
  exact go

end Go.Proofs.Ytcfideolgkjhmaa.Pure
