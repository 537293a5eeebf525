/- The document's words, marks and patterns are the program's. No conditions. -/
import Derived.Test.YtjnplofopiohaaaDoorTtD
namespace Go.Proofs.YtjnplofopiohaaaDoor.TtE
open Go.RowKit Go.Proofs.YtjnplofopiohaaaDoor.PGt Go.Proofs.YtjnplofopiohaaaDoorW.PrintWords Go.Proofs.YtjnplofopiohaaaDoorW.PrintLast Go.Proofs.YtjnplofopiohaaaDoor.TtB Go.Proofs.YtjnplofopiohaaaDoor.TtC Go.Proofs.YtjnplofopiohaaaDoor.TtD Go.Proofs.YtjnplofopiohaaaDoorH
/-- A beginning of the first word. -/
def ch (w : List UInt8) : List (List UInt8) → List (List UInt8)
  | [] => []
  | h :: r => (w ++ h) :: r
theorem ch_nil (l : List UInt8) : ch [] (sp l) = sp l := by
  obtain ⟨h, r, e⟩ := sp_ne l
  rw [e]
  rfl
theorem bl_extract (s : ByteArray) (a b : Nat) : bl (s.extract a b) = ((bl s).drop a).take (b - a) := by
  unfold bl
  simp [ByteArray.data_extract, Array.toList_extract]
theorem bt_bl (s : ByteArray) (i : Nat) (h : i < (bl s).length) : bt s (i : Int) = (((bl s)[i]'h).toNat : Int) := by
  have h' : ((i : Int)).toNat < s.size := by
    rw [bl_size] at h
    omega
  rw [bt, dif_pos h']
  rfl
theorem words_loop (s : ByteArray) (h1 : 1 ≤ s.size) (h2 : s.size ≤ 900) : ∀ (d i from_ : Nat) (acc : List ByteArray), i + d = s.size → from_ ≤ i → acc.length ≤ i → ∃ f ws, carrefourref7_Words.l1 f s acc (from_ : Int) (i : Int) = some (acc ++ ws) ∧ ws.map bl = ch (((bl s).drop from_).take (i - from_)) (sp ((bl s).drop i)) := by
  have hne : (s.toList != ([] : List UInt8)) = true := by
    rw [bne_iff_ne, ByteArray.toList_eq]
    intro e
    have := bl_size s
    rw [bl, e] at this
    simp at this
    omega
  have hsz := bl_size s
  intro d
  induction d with
  | zero =>
    intro i from_ acc hi hf ha
    obtain rfl : i = s.size := by omega
    have w1 := up_one s.size s.size (Nat.le_refl _) (by omega)
    refine ⟨0 + 1 + 1 + 1 + 1 + 1, [s.extract from_ s.size], ?_, ?_⟩
    · simp only [carrefourref7_Words.l1]
      rw [if_pos (by omega), hne]
      simp only [carrefourref7_Words.j1]
      rw [if_pos trivial, if_pos trivial]
      simp only [carrefourref7_Words.j2]
      rw [if_pos trivial, if_pos (by omega), if_pos (by omega), if_pos (by omega), if_pos (by omega), w1]
      simp only [carrefourref7_Words.l1]
      rw [if_neg (by omega)]
      simp only [carrefourref7_Words.j1]
      rw [if_neg (by simp)]
      rfl
    · rw [List.map_singleton, bl_extract, List.drop_eq_nil_of_le (by omega : (bl s).length ≤ s.size)]
      show _ = [_ ++ []]
      rw [List.append_nil]
  | succ d ih =>
    intro i from_ acc hi hf ha
    have hlt : i < (bl s).length := by omega
    have w1 := up_one i s.size (by omega) (by omega)
    have hdr : (bl s).drop i = (bl s)[i] :: (bl s).drop (i + 1) := List.drop_eq_getElem_cons hlt
    by_cases hc : (bl s)[i] = 46
    · obtain ⟨f, ws, g1, g2⟩ := ih (i + 1) (i + 1) (acc ++ [s.extract from_ i]) (by omega) (Nat.le_refl _) (by rw [List.length_append, List.length_singleton]; omega)
      refine ⟨f + 1 + 1 + 1, s.extract from_ i :: ws, ?_, ?_⟩
      · simp only [carrefourref7_Words.l1]
        rw [if_pos (by omega), hne]
        simp only [carrefourref7_Words.j1]
        rw [if_pos trivial, if_neg (by omega), if_pos (by omega), if_pos (by omega), bt_bl s i hlt, hc]
        rw [show (((46 : UInt8).toNat : Int) == 46) = true from rfl]
        simp only [carrefourref7_Words.j2]
        rw [if_pos trivial, if_pos (by omega), if_pos (by omega), if_pos (by omega), if_pos (by omega), w1]
        refine Eq.trans g1 ?_
        rw [List.append_assoc]
        rfl
      · rw [List.map_cons, g2, hdr, hc, sp, if_pos rfl, Nat.sub_self, List.take_zero, ch_nil, bl_extract]
        show _ = (_ ++ []) :: _
        rw [List.append_nil]
    · obtain ⟨f, ws, g1, g2⟩ := ih (i + 1) from_ acc (by omega) (by omega) (by omega)
      refine ⟨f + 1 + 1 + 1, ws, ?_, ?_⟩
      · simp only [carrefourref7_Words.l1]
        rw [if_pos (by omega), hne]
        simp only [carrefourref7_Words.j1]
        rw [if_pos trivial, if_neg (by omega), if_pos (by omega), if_pos (by omega), bt_bl s i hlt]
        have hb : ((((bl s)[i]).toNat : Int) == 46) = false := beq_eq_false_iff_ne.2 (fun e => hc (UInt8.toNat_inj.1 (by have : (46 : UInt8).toNat = 46 := rfl; omega)))
        rw [hb]
        simp only [carrefourref7_Words.j2]
        rw [if_neg (by simp), w1]
        exact g1
      · rw [g2, hdr, sp, if_neg hc]
        obtain ⟨h, r, e⟩ := sp_ne ((bl s).drop (i + 1))
        rw [e]
        show (_ ++ h) :: r = (_ ++ (_ :: h)) :: r
        congr 1
        have ht : ((bl s).drop from_).take (i + 1 - from_) = ((bl s).drop from_).take (i - from_) ++ [(bl s)[i]] := by
          rw [show i + 1 - from_ = (i - from_) + 1 by omega]
          have hl2 : i - from_ < ((bl s).drop from_).length := by
            rw [List.length_drop]
            omega
          rw [List.take_succ_eq_append_getElem hl2, List.getElem_drop]
          congr 2
          congr 1
          omega
        rw [ht, List.append_assoc]
        rfl
/-- Words, both ways. -/
theorem words_both (s : ByteArray) (h2 : s.size ≤ 900) : ∃ f ws, topic_Words.f s = some ws ∧ carrefourref7_Words.f f s = some ws ∧ ws.length ≤ s.size + 1 ∧ ∀ w ∈ ws, w.size ≤ s.size := by
  by_cases h1 : 1 ≤ s.size
  · obtain ⟨ws, e1, e2⟩ := words_tells s h1 (by omega)
    obtain ⟨f, us, g1, g2⟩ := words_loop s h1 h2 s.size 0 0 [] (by omega) (Nat.le_refl _) (Nat.le_refl _)
    have e3 : ws = us := by
      refine (List.map_inj_right (fun _ _ e => bl_inj e)).mp ?_
      rw [e2, g2, Nat.sub_self, List.take_zero, List.drop_zero, ch_nil]
    refine ⟨f, ws, e1, ?_, ?_, fun w hw => ?_⟩
    · rw [e3]
      exact g1
    · have := congrArg List.length e2
      rw [List.length_map, sp_len] at this
      have hc : (bl s).count 46 ≤ (bl s).length := List.count_le_length
      rw [bl_size] at hc
      omega
    · have hj := join_sp (bl s)
      rw [← e2] at hj
      have : ∀ (us : List ByteArray), w ∈ us → w.size ≤ (joinL (us.map bl)).length := by
        intro us hu
        have ht : ∀ (vs : List ByteArray), w ∈ vs → w.size ≤ (tj (vs.map bl)).length := by
          intro vs
          induction vs with
          | nil => intro h; cases h
          | cons v vs ih =>
            intro h
            simp only [List.map_cons, tj, List.length_cons, List.length_append, bl_size]
            rcases List.mem_cons.1 h with rfl | h
            · omega
            · have := ih h
              omega
        cases us with
        | nil => cases hu
        | cons u us =>
          simp only [List.map_cons, joinL, List.length_append, bl_size]
          rcases List.mem_cons.1 hu with rfl | h
          · omega
          · have := ht us h
            omega
      have h3 := this ws hw
      rw [hj, bl_size] at h3
      exact h3
  · have : s = ⟨#[]⟩ := by
      apply bl_inj
      have h3 := bl_size s
      have h4 : (bl s).length = 0 := by omega
      rw [List.eq_nil_of_length_eq_zero h4]
      rfl
    subst this
    exact ⟨10, [], by kernel_rfl, by kernel_rfl, Nat.zero_le _, fun w hw => by cases hw⟩
end Go.Proofs.YtjnplofopiohaaaDoor.TtE
