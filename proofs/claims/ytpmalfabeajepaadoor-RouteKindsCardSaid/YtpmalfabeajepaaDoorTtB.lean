/- Words with points between, over lists of bytes. -/
import Derived.Test.YtpmalfabeajepaaDoorPGtx2
namespace Go.Proofs.YtpmalfabeajepaaDoor.TtB
open Go.RowKit Go.Proofs.YtpmalfabeajepaaDoor.PGt Go.Proofs.YtpmalfabeajepaaDoorW.PrintWords Go.Proofs.YtpmalfabeajepaaDoorW.PrintLast Go.Proofs.YtpmalfabeajepaaDoorH

/-- A string's bytes. -/
def bl (s : ByteArray) : List UInt8 := s.data.toList
theorem bl_inj {a b : ByteArray} (h : bl a = bl b) : a = b := Go.WideShapes.bytes_inj h
theorem bl_size (s : ByteArray) : (bl s).length = s.size := by rw [bl, Array.length_toList]; rfl
theorem bl_app (a b : ByteArray) : bl (a ++ b) = bl a ++ bl b := by simp [bl]

/-- Cut at points. -/
def sp : List UInt8 → List (List UInt8)
  | [] => [[]]
  | c :: t => if c = 46 then [] :: sp t else match sp t with
    | [] => [[c]]
    | h :: r => (c :: h) :: r
theorem sp_ne (l : List UInt8) : ∃ h r, sp l = h :: r := by
  cases l with
  | nil => exact ⟨_, _, rfl⟩
  | cons c t =>
    unfold sp
    by_cases h : c = 46
    · rw [if_pos h]; exact ⟨_, _, rfl⟩
    · rw [if_neg h]
      split
      · exact ⟨_, _, rfl⟩
      · exact ⟨_, _, rfl⟩

theorem index_dot (t : List UInt8) : Lib.index (46 :: t) [46] = 0 := by
  rw [Lib.index]
  simp [List.isPrefixOf]
theorem index_other (c : UInt8) (t : List UInt8) (h : c ≠ 46) : Lib.index (c :: t) [46] = if Lib.index t [46] == -1 then -1 else Lib.index t [46] + 1 := by
  have hp : ([46] : List UInt8).isPrefixOf (c :: t) = false := by simp [List.isPrefixOf, Ne.symm h]
  rw [Lib.index, hp]
  simp

theorem split_other (c : UInt8) (h : c ≠ 46) (t : List UInt8) (k : Nat) : ∃ x r, Lib.splitK [46] 0 k t = x :: r ∧ Lib.splitK [46] 0 k (c :: t) = (c :: x) :: r := by
  cases k with
  | zero => exact ⟨t, [], rfl, rfl⟩
  | succ k =>
    have hi := index_other c t h
    by_cases hm : Lib.index t [46] = -1
    · refine ⟨t, [], ?_, ?_⟩
      · rw [Lib.splitK, if_pos (beq_iff_eq.2 hm)]
      · rw [Lib.splitK, if_pos]
        rw [hi, if_pos (beq_iff_eq.2 hm)]
        rfl
    · have hge := Lib.index_ge t [46]
      obtain ⟨j, hj⟩ : ∃ j : Nat, Lib.index t [46] = j := ⟨(Lib.index t [46]).toNat, by omega⟩
      have hi2 : Lib.index (c :: t) [46] = ((j + 1 : Nat) : Int) := by
        rw [hi, if_neg (fun e => hm (beq_iff_eq.1 e)), hj]
        omega
      refine ⟨t.take j, Lib.splitK [46] 0 k (t.drop (j + 1)), ?_, ?_⟩
      · rw [Lib.splitK, if_neg (fun e => hm (beq_iff_eq.1 e)), hj]
        simp
      · rw [Lib.splitK, if_neg (fun e => by rw [hi2] at e; have := beq_iff_eq.1 e; omega), hi2]
        simp

theorem split_sp (l : List UInt8) : Lib.splitK [46] 0 (Lib.count l [46]) l = sp l := by
  induction l with
  | nil => rfl
  | cons c t ih =>
    by_cases h : c = 46
    · subst h
      rw [Lib.count_cons_eq, Nat.add_comm 1, sp, if_pos rfl, Lib.splitK, index_dot, if_neg (by decide)]
      simp only [Int.toNat_zero, Nat.add_zero, List.take_zero, Nat.zero_add, List.length_cons, List.length_nil, List.drop_succ_cons, List.drop_zero]
      rw [ih]
    · rw [Lib.count_cons_ne c 46 t h, sp, if_neg h]
      obtain ⟨x, r, h1, h2⟩ := split_other c h t (Lib.count t [46])
      rw [h2, ← ih, h1]

/-- Words with points between. -/
def tj : List (List UInt8) → List UInt8
  | [] => []
  | w :: r => 46 :: (w ++ tj r)
def joinL : List (List UInt8) → List UInt8
  | [] => []
  | w :: r => w ++ tj r

theorem join_sp (l : List UInt8) : joinL (sp l) = l := by
  induction l with
  | nil => rfl
  | cons c t ih =>
    obtain ⟨x, r, h⟩ := sp_ne t
    by_cases hc : c = 46
    · rw [sp, if_pos hc]
      rw [h] at ih ⊢
      rw [hc]
      simp only [joinL, tj, List.nil_append] at ih ⊢
      rw [ih]
    · rw [sp, if_neg hc]
      rw [h] at ih ⊢
      simp only [joinL, List.cons_append] at ih ⊢
      rw [ih]

theorem sp_len (l : List UInt8) : (sp l).length = l.count 46 + 1 := by
  induction l with
  | nil => rfl
  | cons c t ih =>
    by_cases hc : c = 46
    · rw [sp, if_pos hc, hc]
      simp only [List.length_cons, List.count_cons_self]
      omega
    · rw [sp, if_neg hc, List.count_cons_of_ne (by simpa using hc)]
      obtain ⟨x, r, h⟩ := sp_ne t
      rw [h] at ih ⊢
      simpa using ih

theorem sp_word (w : List UInt8) (h : 46 ∉ w) : sp w = [w] := by
  induction w with
  | nil => rfl
  | cons c t ih =>
    rw [sp, if_neg (fun e => h (by simp [e])), ih (fun e => h (by simp [e]))]
theorem sp_more (w t : List UInt8) (h : 46 ∉ w) : sp (w ++ 46 :: t) = w :: sp t := by
  induction w with
  | nil => rw [List.nil_append, sp, if_pos rfl]
  | cons c w ih =>
    rw [List.cons_append, sp, if_neg (fun e => h (by simp [e])), ih (fun e => h (by simp [e]))]
theorem sp_join (ws : List (List UInt8)) (h : ∀ w ∈ ws, 46 ∉ w) (hne : ws ≠ []) : sp (joinL ws) = ws := by
  induction ws with
  | nil => exact absurd rfl hne
  | cons w r ih =>
    cases r with
    | nil => simp only [joinL, tj, List.append_nil]; exact sp_word w (h w (by simp))
    | cons x r =>
      have e : joinL (w :: x :: r) = w ++ 46 :: joinL (x :: r) := rfl
      rw [e, sp_more w _ (h w (by simp)), ih (fun y hy => h y (by simp [hy])) (by simp)]

/-- The program's words. -/
theorem words_tells (s : ByteArray) (h1 : 1 ≤ s.size) (h2 : s.size < 4294967281) : ∃ ws, topic_Words.f s = some ws ∧ ws.map bl = sp (bl s) := by
  refine ⟨Lib.splitB ⟨#[46]⟩ 0 (Lib.countB s ⟨#[46]⟩) s, ?_, ?_⟩
  · unfold topic_Words.f strings_Split.f
    rw [if_neg, if_pos ⟨h2, by decide⟩]
    · rfl
    · rw [ByteArray.toList_eq]
      intro e
      have := bl_size s
      rw [bl, e] at this
      simp at this
      omega
  · have := Lib.splitB_data ⟨#[46]⟩ 0 (Lib.countB s ⟨#[46]⟩) s
    refine Eq.trans this ?_
    exact split_sp (bl s)

end Go.Proofs.YtpmalfabeajepaaDoor.TtB
