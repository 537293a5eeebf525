/- Words with points between, over lists of bytes. -/
import Derived.Test.YtjnplofopiohaaaDoorPGmx3
namespace Go.Proofs.YtjnplofopiohaaaDoor.TmB
open Go.RowKit Go.Proofs.YtjnplofopiohaaaDoor.PGm Go.Proofs.YtjnplofopiohaaaDoorW.PrintWords Go.Proofs.YtjnplofopiohaaaDoorW.PrintLast Go.Proofs.YtjnplofopiohaaaDoorH

/-- A string's bytes. -/
def bl (s : ByteArray) : List UInt8 := s.data.toList
theorem bl_inj {a b : ByteArray} (h : bl a = bl b) : a = b := Go.WideShapes.bytes_inj h
theorem bl_size (s : ByteArray) : (bl s).length = s.size := by rw [bl, Array.length_toList]; rfl
theorem bl_app (a b : ByteArray) : bl (a ++ b) = bl a ++ bl b := by simp [bl]

/-- Cut at points. -/
def sp : List UInt8 → List (List UInt8)
  | [] => [[]]
  | c :: t => if c = 46 then [] :: sp t else match sp t with
    | [] => [[c]]
    | h :: r => (c :: h) :: r
theorem sp_ne (l : List UInt8) : ∃ h r, sp l = h :: r := by
  cases l with
  | nil => exact ⟨_, _, rfl⟩
  | cons c t =>
    unfold sp
    by_cases h : c = 46
    · rw [if_pos h]; exact ⟨_, _, rfl⟩
    · rw [if_neg h]
      split
      · exact ⟨_, _, rfl⟩
      · exact ⟨_, _, rfl⟩

theorem index_dot (t : List UInt8) : Lib.index (46 :: t) [46] = 0 := by
  rw [Lib.index]
  simp [List.isPrefixOf]
theorem index_other (c : UInt8) (t : List UInt8) (h : c ≠ 46) : Lib.index (c :: t) [46] = if Lib.index t [46] == -1 then -1 else Lib.index t [46] + 1 := by
  have hp : ([46] : List UInt8).isPrefixOf (c :: t) = false := by simp [List.isPrefixOf, Ne.symm h]
  rw [Lib.index, hp]
  simp

theorem split_other (c : UInt8) (h : c ≠ 46) (t : List UInt8) (k : Nat) : ∃ x r, Lib.splitK [46] 0 k t = x :: r ∧ Lib.splitK [46] 0 k (c :: t) = (c :: x) :: r := by
  cases k with
  | zero => exact ⟨t, [], rfl, rfl⟩
  | succ k =>
    have hi := index_other c t h
    by_cases hm : Lib.index t [46] = -1
    · refine ⟨t, [], ?_, ?_⟩
      · rw [Lib.splitK, if_pos (beq_iff_eq.2 hm)]
      · rw [Lib.splitK, if_pos]
        rw [hi, if_pos (beq_iff_eq.2 hm)]
        rfl
    · have hge := Lib.index_ge t [46]
      obtain ⟨j, hj⟩ : ∃ j : Nat, Lib.index t [46] = j := ⟨(Lib.index t [46]).toNat, by omega⟩
      have hi2 : Lib.index (c :: t) [46] = ((j + 1 : Nat) : Int) := by
        rw [hi, if_neg (fun e => hm (beq_iff_eq.1 e)), hj]
        omega
      refine ⟨t.take j, Lib.splitK [46] 0 k (t.drop (j + 1)), ?_, ?_⟩
      · rw [Lib.splitK, if_neg (fun e => hm (beq_iff_eq.1 e)), hj]
        simp
      · rw [Lib.splitK, if_neg (fun e => by rw [hi2] at e; have := beq_iff_eq.1 e; omega), hi2]
        simp

theorem split_sp (l : List UInt8) : Lib.splitK [46] 0 (Lib.count l [46]) l = sp l := by
  induction l with
  | nil => rfl
  | cons c t ih =>
    by_cases h : c = 46
    · subst h
      rw [Lib.count_cons_eq, Nat.add_comm 1, sp, if_pos rfl, Lib.splitK, index_dot, if_neg (by decide)]
      simp only [Int.toNat_zero, Nat.add_zero, List.take_zero, Nat.zero_add, List.length_cons, List.length_nil, List.drop_succ_cons, List.drop_zero]
      rw [ih]
    · rw [Lib.count_cons_ne c 46 t h, sp, if_neg h]
      obtain ⟨x, r, h1, h2⟩ := split_other c h t (Lib.count t [46])
      rw [h2, ← ih, h1]

/-- Words with points between. -/
def tj : List (List UInt8) → List UInt8
  | [] => []
  | w :: r => 46 :: (w ++ tj r)
def joinL : List (List UInt8) → List UInt8
  | [] => []
  | w :: r => w ++ tj r

theorem join_sp (l : List UInt8) : joinL (sp l) = l := by
  induction l with
  | nil => rfl
  | cons c t ih =>
    obtain ⟨x, r, h⟩ := sp_ne t
    by_cases hc : c = 46
    · rw [sp, if_pos hc]
      rw [h] at ih ⊢
      rw [hc]
      simp only [joinL, tj, List.nil_append] at ih ⊢
      rw [ih]
    · rw [sp, if_neg hc]
      rw [h] at ih ⊢
      simp only [joinL, List.cons_append] at ih ⊢
      rw [ih]

theorem sp_len (l : List UInt8) : (sp l).length = l.count 46 + 1 := by
  induction l with
  | nil => rfl
  | cons c t ih =>
    by_cases hc : c = 46
    · rw [sp, if_pos hc, hc]
      simp only [List.length_cons, List.count_cons_self]
      omega
    · rw [sp, if_neg hc, List.count_cons_of_ne (by simpa using hc)]
      obtain ⟨x, r, h⟩ := sp_ne t
      rw [h] at ih ⊢
      simpa using ih

theorem sp_word (w : List UInt8) (h : 46 ∉ w) : sp w = [w] := by
  induction w with
  | nil => rfl
  | cons c t ih =>
    rw [sp, if_neg (fun e => h (by simp [e])), ih (fun e => h (by simp [e]))]
theorem sp_more (w t : List UInt8) (h : 46 ∉ w) : sp (w ++ 46 :: t) = w :: sp t := by
  induction w with
  | nil => rw [List.nil_append, sp, if_pos rfl]
  | cons c w ih =>
    rw [List.cons_append, sp, if_neg (fun e => h (by simp [e])), ih (fun e => h (by simp [e]))]
theorem sp_join (ws : List (List UInt8)) (h : ∀ w ∈ ws, 46 ∉ w) (hne : ws ≠ []) : sp (joinL ws) = ws := by
  induction ws with
  | nil => exact absurd rfl hne
  | cons w r ih =>
    cases r with
    | nil => simp only [joinL, tj, List.append_nil]; exact sp_word w (h w (by simp))
    | cons x r =>
      have e : joinL (w :: x :: r) = w ++ 46 :: joinL (x :: r) := rfl
      rw [e, sp_more w _ (h w (by simp)), ih (fun y hy => h y (by simp [hy])) (by simp)]

/-- The program's words. -/
theorem words_tells (s : ByteArray) (h1 : 1 ≤ s.size) (h2 : s.size < 4294967281) : ∃ ws, topic_Words.f s = some ws ∧ ws.map bl = sp (bl s) := by
  refine ⟨Lib.splitB ⟨#[46]⟩ 0 (Lib.countB s ⟨#[46]⟩) s, ?_, ?_⟩
  · unfold topic_Words.f strings_Split.f
    rw [if_neg, if_pos ⟨h2, by decide⟩]
    · rfl
    · rw [ByteArray.toList_eq]
      intro e
      have := bl_size s
      rw [bl, e] at this
      simp at this
      omega
  · have := Lib.splitB_data ⟨#[46]⟩ 0 (Lib.countB s ⟨#[46]⟩) s
    refine Eq.trans this ?_
    exact split_sp (bl s)

/-- The bytes of words with points between. -/
def jb (ws : List ByteArray) : ByteArray := ⟨(joinL (ws.map bl)).toArray⟩
theorem jb_bl (ws : List ByteArray) : bl (jb ws) = joinL (ws.map bl) := by simp [bl, jb]
theorem words_of_join (ws : List ByteArray) (h : ∀ w ∈ ws, 46 ∉ bl w) (hne : ws ≠ []) (h1 : 1 ≤ (jb ws).size) (h2 : (jb ws).size < 4294967281) : topic_Words.f (jb ws) = some ws := by
  obtain ⟨us, e1, e2⟩ := words_tells (jb ws) h1 h2
  rw [jb_bl, sp_join _ (by intro w hw; obtain ⟨x, hx, rfl⟩ := List.mem_map.mp hw; exact h x hx) (by simpa using hne)] at e2
  rw [e1]
  congr 1
  exact (List.map_inj_right (fun _ _ e => bl_inj e)).mp e2

theorem tj_len (ws : List ByteArray) (B : Nat) (h : ∀ w ∈ ws, w.size ≤ B) : (tj (ws.map bl)).length ≤ ws.length * (B + 1) := by
  induction ws with
  | nil => simp [tj]
  | cons w r ih =>
    have := ih fun y hy => h y (by simp [hy])
    have h1 := h w (by simp)
    have h2 := bl_size w
    simp only [List.map_cons, tj, List.length_cons, List.length_append]
    rw [Nat.add_mul]
    omega

theorem join_loop (ws : List ByteArray) (d : Nat) : ∀ (k i : Nat) (acc : ByteArray), i + d = ws.length → d < k → ws.length ≤ 1000 → (i = 0 → acc = ⟨#[]⟩) → acc.size + (tj ((ws.drop i).map bl)).length < 1000000 →
    ∃ b, carrefourlaw7_join.l1 k ws acc (i : Int) = some b ∧ bl b = bl acc ++ (if i = 0 then joinL (ws.map bl) else tj ((ws.drop i).map bl)) := by
  induction d with
  | zero =>
    intro k i acc hi hk hw h0 hs
    obtain ⟨m, rfl⟩ : ∃ m, k = m + 1 := ⟨k - 1, by omega⟩
    refine ⟨acc, ?_, ?_⟩
    · simp only [carrefourlaw7_join.l1]
      rw [if_neg (by omega)]
    · rw [List.drop_eq_nil_of_le (by omega)]
      by_cases h : i = 0
      · have : ws = [] := List.eq_nil_of_length_eq_zero (by omega)
        subst this
        simp [joinL, tj]
      · simp [h, tj]
  | succ d ih =>
    intro k i acc hi hk hw h0 hs
    obtain ⟨m, rfl⟩ : ∃ m, k = m + 1 := ⟨k - 1, by omega⟩
    have hlt : i < ws.length := by omega
    have er : rdOf ByteArray.empty ws (i : Int) = ws[i] := by
      simp [rdOf, List.getD_eq_getElem?_getD, List.getElem?_eq_getElem hlt]
    have ed : ws.drop i = ws[i] :: ws.drop (i + 1) := List.drop_eq_getElem_cons hlt
    have w1 : wrap64 ((i : Int) + 1) = ((i + 1 : Nat) : Int) := by
      unfold wrap64
      omega
    rw [ed] at hs ⊢
    simp only [List.map_cons, tj, List.length_cons, List.length_append, bl_size] at hs ⊢
    simp only [carrefourlaw7_join.l1]
    rw [if_pos (by omega), er, w1]
    by_cases hz : i = 0
    · subst hz
      have ha := h0 rfl
      subst ha
      have s0 : (⟨#[]⟩ : ByteArray).size = 0 := rfl
      rw [if_neg (by omega), if_pos (by omega), if_pos (by omega)]
      obtain ⟨b, h1, h2⟩ := ih m (0 + 1) ((⟨#[]⟩ : ByteArray) ++ ws[0]) (by omega) (by omega) hw (by omega) (by rw [ByteArray.size_append]; omega)
      refine ⟨b, h1, ?_⟩
      rw [h2, bl_app, if_neg (by omega), if_pos rfl]
      have e2 : ws = ws[0] :: ws.drop (0 + 1) := by simpa using ed
      conv => rhs; rw [e2]
      simp [joinL, List.append_assoc]
    · rw [if_pos (by omega), if_pos (by omega), if_pos (by omega), if_pos (by rw [ByteArray.size_append]; show acc.size + 1 + _ ≤ _; omega)]
      obtain ⟨b, h1, h2⟩ := ih m (i + 1) (acc ++ (⟨#[46]⟩ : ByteArray) ++ ws[i]) (by omega) (by omega) hw (by omega) (by rw [ByteArray.size_append, ByteArray.size_append]; show acc.size + 1 + _ + _ < _; omega)
      refine ⟨b, h1, ?_⟩
      rw [h2, bl_app, bl_app, if_neg (by omega), if_neg hz]
      simp [bl]

theorem join_tells (ws : List ByteArray) (k : Nat) (hk : ws.length < k) (hw : ws.length ≤ 1000) (hs : (tj (ws.map bl)).length < 1000000) : carrefourlaw7_join.f k ws = some (jb ws) := by
  obtain ⟨b, h1, h2⟩ := join_loop ws ws.length k 0 ⟨#[]⟩ (by omega) hk hw (fun _ => rfl) (by rw [show (⟨#[]⟩ : ByteArray).size = 0 from rfl]; simpa using hs)
  have e : b = jb ws := by
    apply bl_inj
    rw [h2, jb_bl]
    simp [bl]
  rw [← e]
  exact h1

theorem told_at {n : Nat} (h : 100 ≤ n) : carrefourlaw7_told.f n = some true :=
  at_rounds (g := fun k => carrefourlaw7_told.f k) (fun k => carrefourlaw7_told.mono k) h (by kernel_rfl)

end Go.Proofs.YtjnplofopiohaaaDoor.TmB
