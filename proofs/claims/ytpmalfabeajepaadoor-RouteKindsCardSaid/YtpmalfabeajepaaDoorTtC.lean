/- The matching of patterns: what matches is found. -/
import Derived.Test.YtpmalfabeajepaaDoorTtB
namespace Go.Proofs.YtpmalfabeajepaaDoor.TtC
open Go.RowKit Go.Proofs.YtpmalfabeajepaaDoor.PGt Go.Proofs.YtpmalfabeajepaaDoorW.PrintWords Go.Proofs.YtpmalfabeajepaaDoorW.PrintLast Go.Proofs.YtpmalfabeajepaaDoor.TtB

def star : ByteArray := ⟨#[42]⟩
def cross : ByteArray := ⟨#[35]⟩

/-- A pattern's words match a key's. -/
def M : List ByteArray → List ByteArray → Prop
  | [], k => k = []
  | p :: ps, k => if p = cross then ∃ j, j ≤ k.length ∧ M ps (k.drop j) else ∃ x xs, k = x :: xs ∧ (p = star ∨ p = x) ∧ M ps xs

theorem is_cross (w : ByteArray) : w.toList = ([35] : List UInt8) ↔ w = cross := by
  rw [ByteArray.toList_eq]
  constructor
  · intro h
    exact bl_inj h
  · intro h
    rw [h]
    rfl
theorem is_star (w : ByteArray) : w.toList = ([42] : List UInt8) ↔ w = star := by
  rw [ByteArray.toList_eq]
  constructor
  · intro h
    exact bl_inj h
  · intro h
    rw [h]
    rfl
theorem is_same (w v : ByteArray) : w.toList = v.toList ↔ w = v := by
  rw [ByteArray.toList_eq, ByteArray.toList_eq]
  exact ⟨fun h => bl_inj h, fun h => by rw [h]⟩

theorem at_word (p : List ByteArray) (i : Nat) (h : i < p.length) : rdOf ByteArray.empty p (i : Int) = p[i] := by
  simp [rdOf, List.getD_eq_getElem?_getD, List.getElem?_eq_getElem h]

theorem m_cross {p k : List ByteArray} {i n : Nat} (hi : i < p.length) (hn : n ≤ k.length) (hc : p[i] = cross) (h : M (p.drop i) (k.drop n)) : ∃ j, n ≤ j ∧ j ≤ k.length ∧ M (p.drop (i + 1)) (k.drop j) := by
  rw [List.drop_eq_getElem_cons hi, M, if_pos hc] at h
  obtain ⟨j, h1, h2⟩ := h
  rw [List.length_drop] at h1
  rw [List.drop_drop] at h2
  exact ⟨n + j, by omega, by omega, h2⟩
theorem m_word {p k : List ByteArray} {i n : Nat} (hi : i < p.length) (hc : p[i] ≠ cross) (h : M (p.drop i) (k.drop n)) : ∃ hn : n < k.length, (p[i] = star ∨ p[i] = k[n]) ∧ M (p.drop (i + 1)) (k.drop (n + 1)) := by
  rw [List.drop_eq_getElem_cons hi, M, if_neg hc] at h
  obtain ⟨x, xs, h1, h2, h3⟩ := h
  have hn : n < k.length := by
    rcases Nat.lt_or_ge n k.length with h | h
    · exact h
    · rw [List.drop_eq_nil_of_le h] at h1
      cases h1
  rw [List.drop_eq_getElem_cons hn] at h1
  injection h1 with e1 e2
  subst e1 e2
  exact ⟨hn, h2, h3⟩
theorem m_piece {p k : List ByteArray} (L : Nat) : ∀ {b j : Nat}, b + L ≤ p.length → j ≤ k.length → (∀ t (h : t < p.length), b ≤ t → t < b + L → p[t] ≠ cross) → M (p.drop b) (k.drop j) → j + L ≤ k.length ∧ M (p.drop (b + L)) (k.drop (j + L)) := by
  induction L with
  | zero => exact fun _ hj _ h => ⟨hj, h⟩
  | succ L ih =>
    intro b j hb hj hc h
    obtain ⟨hn, _, h2⟩ := m_word (by omega) (hc b (by omega) (Nat.le_refl _) (by omega)) h
    have := ih (b := b + 1) (j := j + 1) (by omega) (by omega) (fun t h h1 h3 => hc t h (by omega) (by omega)) h2
    rw [show b + 1 + L = b + (L + 1) by omega, show j + 1 + L = j + (L + 1) by omega] at this
    exact this

/-- Where the matching stands: behind no cross, or behind one. -/
def bk : Option (Nat × Nat) → Int
  | none => -1
  | some x => x.1
def fr : Option (Nat × Nat) → Int
  | none => 0
  | some x => x.2
def bN : Option (Nat × Nat) → Nat
  | none => 0
  | some x => x.1
def fN : Option (Nat × Nat) → Nat
  | none => 0
  | some x => x.2
def T (p k : List ByteArray) (i n : Nat) : Option (Nat × Nat) → Prop
  | none => M (p.drop i) (k.drop n)
  | some x => M (p.drop i) (k.drop n) ∨ ∃ j, x.2 < j ∧ j ≤ k.length ∧ M (p.drop x.1) (k.drop j)
def St (p : List ByteArray) (i n : Nat) : Option (Nat × Nat) → Prop
  | none => True
  | some x => x.1 ≤ i ∧ x.2 ≤ n ∧ i + x.2 = n + x.1 ∧ (∀ t (h : t < p.length), x.1 ≤ t → t < i → p[t] ≠ cross)
theorem up_one (i n : Nat) (h : i ≤ n) (hn : n ≤ 1000) : wrap64 ((i : Int) + 1) = ((i + 1 : Nat) : Int) := by
  unfold wrap64
  omega
theorem cross_iff {p k : List ByteArray} {i n : Nat} (hi : i < p.length) (hn : n ≤ k.length) (hc : p[i] = cross) : M (p.drop i) (k.drop n) ↔ ∃ j, n ≤ j ∧ j ≤ k.length ∧ M (p.drop (i + 1)) (k.drop j) := by
  refine ⟨m_cross hi hn hc, fun ⟨j, h1, h2, h3⟩ => ?_⟩
  rw [List.drop_eq_getElem_cons hi, M, if_pos hc]
  refine ⟨j - n, by rw [List.length_drop]; omega, ?_⟩
  rw [List.drop_drop, show n + (j - n) = j by omega]
  exact h3
theorem word_iff {p k : List ByteArray} {i n : Nat} (hi : i < p.length) (hn : n < k.length) (hc : p[i] ≠ cross) (hw : p[i] = star ∨ p[i] = k[n]) : M (p.drop i) (k.drop n) ↔ M (p.drop (i + 1)) (k.drop (n + 1)) := by
  refine ⟨fun h => (m_word hi hc h).2.2, fun h => ?_⟩
  rw [List.drop_eq_getElem_cons hi, M, if_neg hc]
  exact ⟨_, _, List.drop_eq_getElem_cons hn, hw, h⟩
theorem ge_split {P : Nat → Prop} {n L : Nat} (hn : n ≤ L) : (P n ∨ ∃ j, n < j ∧ j ≤ L ∧ P j) ↔ ∃ j, n ≤ j ∧ j ≤ L ∧ P j := by
  constructor
  · rintro (h | ⟨j, h1, h2, h3⟩)
    · exact ⟨n, Nat.le_refl _, hn, h⟩
    · exact ⟨j, by omega, h2, h3⟩
  · rintro ⟨j, h1, h2, h3⟩
    rcases Nat.eq_or_lt_of_le h1 with h | h
    · left; rw [h]; exact h3
    · right; exact ⟨j, h, h2, h3⟩

theorem run (p k : List ByteArray) (hP : p.length ≤ 1000) (hK : k.length ≤ 1000) (st : Option (Nat × Nat)) (i n : Nat) (hi : i ≤ p.length) (hn : n ≤ k.length) (hg : St p i n st) (hb : bN st ≤ i) (hf : fN st ≤ n) :
    ∃ f b, topic_Match.l500 f p k (i : Int) (n : Int) (bk st) (fr st) = some b ∧ (b = true ↔ T p k i n st) := by
  by_cases c1 : ∃ h : i < p.length, p[i] = cross
  · obtain ⟨h, hc⟩ := c1
    have g2 : St p (i + 1) n (some (i + 1, n)) := ⟨Nat.le_refl _, Nat.le_refl _, by simp only; omega, fun t _ h4 h5 => absurd h5 (by simp only at h4; omega)⟩
    have inner : T p k (i + 1) n (some (i + 1, n)) ↔ T p k i n st := by
      have e1 : T p k (i + 1) n (some (i + 1, n)) ↔ M (p.drop i) (k.drop n) := by
        rw [cross_iff h hn hc]
        exact ge_split (P := fun j => M (p.drop (i + 1)) (k.drop j)) hn
      rw [e1]
      cases st with
      | none => exact Iff.rfl
      | some x =>
        obtain ⟨h1, h2, h3, h4⟩ := hg
        refine ⟨Or.inl, ?_⟩
        rintro (h5 | ⟨j, h6, h7, h8⟩)
        · exact h5
        · have := m_piece (i - x.1) (b := x.1) (j := j) (by omega) h7 (fun t ht h9 h10 => h4 t ht h9 (by omega)) h8
          obtain ⟨h9, h10⟩ := this
          rw [show x.1 + (i - x.1) = i by omega] at h10
          obtain ⟨j2, h11, h12, h13⟩ := m_cross h h9 hc h10
          exact (cross_iff h hn hc).2 ⟨j2, by omega, h12, h13⟩
    obtain ⟨f, b, hf2, hb2⟩ := run p k hP hK (some (i + 1, n)) (i + 1) n h hn g2 (Nat.le_refl _) (Nat.le_refl _)
    refine ⟨f + 1 + 1, b, ?_, hb2.trans inner⟩
    simp only [topic_Match.l500]
    rw [if_pos (by omega), if_pos (by omega), at_word p i h, beq_iff_eq.mpr ((is_cross _).mpr hc)]
    simp only [topic_Match.j2]
    rw [if_pos trivial, up_one i p.length (by omega) hP]
    exact hf2
  have nc : ∀ h : i < p.length, p[i] ≠ cross := fun h hc => c1 ⟨h, hc⟩
  have t1 : ∀ f, topic_Match.l500 (f + 1) p k (i : Int) (n : Int) (bk st) (fr st) = topic_Match.j2 f p k (i : Int) (n : Int) (bk st) (fr st) false := by
    intro f
    simp only [topic_Match.l500]
    by_cases h : i < p.length
    · rw [if_pos (by omega), if_pos (by omega), at_word p i h]
      rw [show (p[i].toList == ([35] : List UInt8)) = false from beq_eq_false_iff_ne.mpr (fun e => nc h ((is_cross _).mp e))]
    · rw [if_neg (by omega)]
  by_cases c2 : i = p.length ∧ n = k.length
  · refine ⟨0 + 1 + 1 + 1, true, ?_, ⟨fun _ => ?_, fun _ => rfl⟩⟩
    · rw [t1]
      simp only [topic_Match.j2, topic_Match.j3]
      rw [if_neg (by simp), if_pos (by omega), if_pos (beq_iff_eq.mpr (by omega))]
    · have : M (p.drop i) (k.drop n) := by
        rw [List.drop_eq_nil_of_le (by omega), List.drop_eq_nil_of_le (by omega)]
        rfl
      cases st with
      | none => exact this
      | some x => exact .inl this
  have t2 : ∀ f, topic_Match.j2 (f + 1 + 1) p k (i : Int) (n : Int) (bk st) (fr st) false = (if (n : Int) < (k.length : Int) then (if (i : Int) < (p.length : Int) then (if 0 ≤ (i : Int) then (if (rdOf ByteArray.empty p i).toList = ([42] : List UInt8) then (topic_Match.j4 f p k i n (bk st) (fr st) true) else (if 0 ≤ (n : Int) then (topic_Match.j4 f p k i n (bk st) (fr st) ((rdOf ByteArray.empty p i).toList == (rdOf ByteArray.empty k n).toList)) else (none))) else (none)) else (topic_Match.j4 f p k i n (bk st) (fr st) false)) else (topic_Match.j4 f p k i n (bk st) (fr st) false)) := by
    intro f
    simp only [topic_Match.j2, topic_Match.j3]
    rw [if_neg (by simp)]
    by_cases h : n = k.length
    · rw [if_pos (by omega), show (((i : Int) == (p.length : Int))) = false from beq_eq_false_iff_ne.mpr (by omega), if_neg (by simp)]
    · rw [if_neg (by omega), if_neg (by simp)]
  by_cases c3 : ∃ (h : i < p.length) (h2 : n < k.length), p[i] = star ∨ p[i] = k[n]
  · obtain ⟨h, h2, h3⟩ := c3
    have g2 : St p (i + 1) (n + 1) st := by
      cases st with
      | none => trivial
      | some x =>
        obtain ⟨a1, a2, a3, a4⟩ := hg
        refine ⟨by omega, by omega, by omega, fun t ht b1 b2 => ?_⟩
        rcases Nat.lt_succ_iff_lt_or_eq.mp b2 with b3 | b3
        · exact a4 t ht b1 b3
        · subst b3; exact nc ht
    have inner : T p k (i + 1) (n + 1) st ↔ T p k i n st := by
      have e1 := word_iff h h2 (nc h) h3
      cases st with
      | none => exact e1.symm
      | some x => exact or_congr_left e1.symm
    obtain ⟨f, b, hf2, hb2⟩ := run p k hP hK st (i + 1) (n + 1) h h2 g2 (by omega) (by omega)
    have go : topic_Match.j4 (f + 1) p k i n (bk st) (fr st) true = some b := by
      simp only [topic_Match.j4]
      rw [if_pos trivial, up_one i p.length (by omega) hP, up_one n k.length (by omega) hK]
      exact hf2
    refine ⟨f + 1 + 1 + 1 + 1, b, ?_, hb2.trans inner⟩
    rw [t1, t2, if_pos (by omega), if_pos (by omega), if_pos (by omega), at_word p i h, at_word k n h2]
    by_cases hs : p[i] = star
    · rw [if_pos ((is_star _).mpr hs)]
      exact go
    · rw [if_neg (fun e => hs ((is_star _).mp e)), if_pos (by omega)]
      rcases h3 with h3 | h3
      · exact absurd h3 hs
      · rw [beq_iff_eq.mpr ((is_same _ _).mpr h3)]
        exact go
  have nm : ¬ M (p.drop i) (k.drop n) := by
    intro h
    rcases Nat.lt_or_ge i p.length with h1 | h1
    · obtain ⟨h2, h3, _⟩ := m_word h1 (nc h1) h
      exact c3 ⟨h1, h2, h3⟩
    · rw [List.drop_eq_nil_of_le h1, M] at h
      have : n = k.length := by
        have := congrArg List.length h
        rw [List.length_drop, List.length_nil] at this
        omega
      exact c2 ⟨by omega, this⟩
  have t3 : ∀ f b, topic_Match.j4 f p k i n (bk st) (fr st) false = some b → topic_Match.l500 (f + 1 + 1 + 1) p k (i : Int) (n : Int) (bk st) (fr st) = some b := by
    intro f b go
    rw [t1, t2]
    by_cases h1 : n < k.length
    · rw [if_pos (by omega)]
      by_cases h2 : i < p.length
      · rw [if_pos (by omega), if_pos (by omega), at_word p i h2, at_word k n h1, if_neg (fun e => c3 ⟨h2, h1, Or.inl ((is_star _).mp e)⟩), if_pos (by omega)]
        rw [show (p[i].toList == k[n].toList) = false from beq_eq_false_iff_ne.mpr (fun e => c3 ⟨h2, h1, Or.inr ((is_same _ _).mp e)⟩)]
        exact go
      · rw [if_neg (by omega)]
        exact go
    · rw [if_neg (by omega)]
      exact go
  by_cases hst0 : st = none
  · subst hst0
    refine ⟨0 + 1 + 1 + 1 + 1 + 1, false, t3 (0 + 1 + 1) false ?_, ⟨(fun h => by cases h), fun h => absurd h nm⟩⟩
    simp only [topic_Match.j4, topic_Match.j5]
    rw [if_neg (by simp), if_pos (by simp [bk]), if_pos trivial]
  obtain ⟨x, hst⟩ : ∃ x, st = some x := by
    cases st with
    | none => exact absurd rfl hst0
    | some x => exact ⟨x, rfl⟩
  have hg' : St p i n (some x) := hst ▸ hg
  obtain ⟨a1, a2, a3, a4⟩ := hg'
  have hbk : bk st = (x.1 : Int) := by rw [hst]; rfl
  have hfr : fr st = (x.2 : Int) := by rw [hst]; rfl
  have hT : T p k i n st ↔ ∃ j, x.2 < j ∧ j ≤ k.length ∧ M (p.drop x.1) (k.drop j) := by
    rw [hst]
    exact ⟨fun h => h.elim (fun h => absurd h nm) id, Or.inr⟩
  by_cases hk : x.2 = k.length
  · refine ⟨0 + 1 + 1 + 1 + 1 + 1, false, t3 (0 + 1 + 1) false ?_, ⟨(fun h => by cases h), fun h => ?_⟩⟩
    · rw [hbk, hfr]
      simp only [topic_Match.j4]
      rw [if_neg (by simp), if_neg (by omega), show (((x.2 : Int) == (k.length : Int))) = true from beq_iff_eq.mpr (by omega)]
      simp only [topic_Match.j5]
      rw [if_pos trivial]
    · obtain ⟨j, h1, h2, -⟩ := hT.1 h
      omega
  · have lt1 : x.2 < k.length := by omega
    have g2 : St p x.1 (x.2 + 1) (some (x.1, x.2 + 1)) := ⟨Nat.le_refl _, Nat.le_refl _, by simp only; omega, fun t _ h4 h5 => absurd h5 (by simp only at h4; omega)⟩
    have inner : T p k x.1 (x.2 + 1) (some (x.1, x.2 + 1)) ↔ T p k i n st := by
      rw [hT]
      exact ge_split (P := fun j => M (p.drop x.1) (k.drop j)) (n := x.2 + 1) lt1
    obtain ⟨f, b, hf2, hb2⟩ := run p k hP hK (some (x.1, x.2 + 1)) x.1 (x.2 + 1) (by omega) (by omega) g2 (Nat.le_refl _) (Nat.le_refl _)
    refine ⟨f + 1 + 1 + 1 + 1 + 1, b, t3 (f + 1 + 1) b ?_, hb2.trans inner⟩
    rw [hbk, hfr]
    simp only [topic_Match.j4]
    rw [if_neg (by simp), if_neg (by omega), show (((x.2 : Int) == (k.length : Int))) = false from beq_eq_false_iff_ne.mpr (by omega)]
    simp only [topic_Match.j5]
    rw [if_neg (by simp), up_one x.2 k.length (by omega) hK]
    exact hf2
termination_by (p.length + 1 - bN st, k.length - fN st, p.length - i)
decreasing_by
  · apply Prod.Lex.left
    simp only [bN] at hb ⊢
    omega
  · apply Prod.Lex.right
    apply Prod.Lex.right
    omega
  · have e : st = some x := by assumption
    rw [e]
    apply Prod.Lex.right
    apply Prod.Lex.left
    simp only [fN]
    omega

end Go.Proofs.YtpmalfabeajepaaDoor.TtC
