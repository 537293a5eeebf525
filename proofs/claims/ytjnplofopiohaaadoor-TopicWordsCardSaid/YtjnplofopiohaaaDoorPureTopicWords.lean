/- Words with points between are what they were: for every text. No conditions. -/
import Derived.Test.YtjnplofopiohaaaDoorPGpx4
import Derived.Test.YtjnplofopiohaaaDoorTpB
namespace Go.Proofs.YtjnplofopiohaaaDoor.Pure
open Go.RowKit Go.Proofs.YtjnplofopiohaaaDoor.PGp Go.Proofs.YtjnplofopiohaaaDoorW.PrintWords Go.Proofs.YtjnplofopiohaaaDoorW.PrintLast Go.Proofs.YtjnplofopiohaaaDoor.TpB

theorem words_loop (s : ByteArray) (h1 : 1 ≤ s.size) (h2 : s.size ≤ 100) (d : Nat) : ∀ (k i : Nat), i + d = s.size → d + 600 ≤ k →
    carrefourlaw7_TopicWords.l1 k s (((bl s).take i).count 46 + 1 : Nat) (i : Int) = some true := by
  induction d with
  | zero =>
    intro k i hi hk
    obtain ⟨m, rfl⟩ : ∃ m, k = m + 1 := ⟨k - 1, by omega⟩
    simp only [carrefourlaw7_TopicWords.l1]
    obtain ⟨ws, e1, e2⟩ := words_tells s h1 (by omega)
    have hl : ws.length = (bl s).count 46 + 1 := by
      rw [← sp_len, ← e2, List.length_map]
    have hs := bl_size s
    have hc : (bl s).count 46 ≤ (bl s).length := List.count_le_length
    have hj := join_sp (bl s)
    rw [← e2] at hj
    have ht : (tj (ws.map bl)).length ≤ 200 := by
      cases ws with
      | nil => simp [tj]
      | cons w r =>
        have := congrArg List.length hj
        simp only [List.map_cons, joinL, tj, List.length_append, List.length_cons] at this ⊢
        omega
    have ej := join_tells ws m (by omega) (by omega) (by omega)
    have eb : jb ws = s := bl_inj (by rw [jb_bl, hj])
    rw [if_neg (by omega), e1, told_at (by omega)]
    simp only [Option.bind_some, if_true]
    rw [ej, eb]
    have et : (bl s).take i = bl s := List.take_of_length_le (by omega)
    rw [et]
    simp [hl]
  | succ d ih =>
    intro k i hi hk
    obtain ⟨m, rfl⟩ : ∃ m, k = m + 1 := ⟨k - 1, by omega⟩
    simp only [carrefourlaw7_TopicWords.l1]
    have hs := bl_size s
    have hlt : i < (bl s).length := by omega
    have hc : ((bl s).take i).count 46 ≤ ((bl s).take i).length := List.count_le_length
    rw [List.length_take] at hc
    have eb : bt s (i : Int) = (((bl s)[i]'hlt).toNat : Int) := by
      have h : ((i : Int)).toNat < s.size := by omega
      rw [bt, dif_pos h]
      rfl
    have et : (bl s).take (i + 1) = (bl s).take i ++ [(bl s)[i]'hlt] := List.take_succ_eq_append_getElem hlt
    have w1 : wrap64 ((i : Int) + 1) = ((i + 1 : Nat) : Int) := by
      unfold wrap64
      omega
    rw [if_pos (by omega), if_pos (by omega), eb, w1]
    have go := ih m (i + 1) (by omega) (by omega)
    rw [et, List.count_append] at go
    by_cases h : ((bl s)[i]'hlt) = 46
    · rw [h] at go ⊢
      rw [if_pos (by rfl)]
      have w2 : wrap64 ((((bl s).take i).count 46 + 1 : Nat) + 1) = ((((bl s).take i).count 46 + ([46] : List UInt8).count 46 + 1 : Nat) : Int) := by
        have : ([46] : List UInt8).count 46 = 1 := by decide
        rw [this]
        unfold wrap64
        omega
      rw [w2]
      exact go
    · rw [if_neg (fun e => h (UInt8.toNat_inj.mp (by have : (46 : UInt8).toNat = 46 := rfl; omega)))]
      have : ([(bl s)[i]'hlt] : List UInt8).count 46 = 0 := by
        rw [List.count_eq_zero]
        simp only [List.mem_singleton]
        exact fun e => h e.symm
      rw [this, Nat.add_zero] at go
      exact go

theorem TopicWords : carrefourlaw7_TopicWords.Pure := by
  intro s hs
  refine ⟨1000, ?_⟩
  obtain ⟨m, hm⟩ : ∃ m, 1000 = m + 1 := ⟨999, rfl⟩
  rw [hm]
  have out : carrefourlaw7_TopicWords.j0 (m + 1) s true = some true := by
    simp only [carrefourlaw7_TopicWords.j0, if_true]
    rw [told_at (by omega)]
    rfl
  unfold carrefourlaw7_TopicWords.f
  by_cases h1 : (s.size : Int) < 1
  · rw [if_pos h1]; exact out
  rw [if_neg h1]
  by_cases h2 : (s.size : Int) > 100
  · rw [decide_eq_true h2]; exact out
  rw [decide_eq_false h2]
  simp only [carrefourlaw7_TopicWords.j0]
  rw [if_neg (by simp)]
  have go := words_loop s (by omega) (by omega) s.size m 0 (by omega) (by omega)
  simpa using go

end Go.Proofs.YtjnplofopiohaaaDoor.Pure
