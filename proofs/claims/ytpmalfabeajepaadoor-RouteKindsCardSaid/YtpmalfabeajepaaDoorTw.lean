/- What topics answer, for every text of at most 900 bytes: May and Match come to answers. No conditions. -/
import Derived.Test.YtpmalfabeajepaaDoorTtC
namespace Go.Proofs.YtpmalfabeajepaaDoor.Tw
open Go.RowKit Go.Proofs.YtpmalfabeajepaaDoor.PGt Go.Proofs.YtpmalfabeajepaaDoorW.PrintWords Go.Proofs.YtpmalfabeajepaaDoorW.PrintLast Go.Proofs.YtpmalfabeajepaaDoor.TtB Go.Proofs.YtpmalfabeajepaaDoor.TtC Go.Proofs.YtpmalfabeajepaaDoorH
theorem words_any (s : ByteArray) (h2 : s.size ≤ 900) : ∃ ws, topic_Words.f s = some ws ∧ ws.length ≤ s.size + 1 ∧ ∀ w ∈ ws, w.size ≤ s.size := by
  by_cases h1 : 1 ≤ s.size
  · obtain ⟨ws, e1, e2⟩ := words_tells s h1 (by omega)
    refine ⟨ws, e1, ?_, fun w hw => ?_⟩
    · have := congrArg List.length e2
      rw [List.length_map, sp_len] at this
      have hc : (bl s).count 46 ≤ (bl s).length := List.count_le_length
      rw [bl_size] at hc
      omega
    · have hj := join_sp (bl s)
      rw [← e2] at hj
      have : ∀ (us : List ByteArray), w ∈ us → w.size ≤ (joinL (us.map bl)).length := by
        intro us hu
        have ht : ∀ (vs : List ByteArray), w ∈ vs → w.size ≤ (tj (vs.map bl)).length := by
          intro vs
          induction vs with
          | nil => intro h; cases h
          | cons v vs ih =>
            intro h
            simp only [List.map_cons, tj, List.length_cons, List.length_append, bl_size]
            rcases List.mem_cons.1 h with rfl | h
            · omega
            · have := ih h
              omega
        cases us with
        | nil => cases hu
        | cons u us =>
          simp only [List.map_cons, joinL, List.length_append, bl_size]
          rcases List.mem_cons.1 hu with rfl | h
          · omega
          · have := ht us h
            omega
      have h3 := this ws hw
      rw [hj, bl_size] at h3
      exact h3
  · have : s = ⟨#[]⟩ := by
      apply bl_inj
      have h3 := bl_size s
      have h4 : (bl s).length = 0 := by omega
      rw [List.eq_nil_of_length_eq_zero h4]
      rfl
    subst this
    exact ⟨[], by kernel_rfl, Nat.zero_le _, fun w hw => by cases hw⟩
/-- Has a word a sign? -/
def ca (l : List UInt8) : Bool := l.any fun c => c == 42 || c == 35
theorem ca_is (l : List UInt8) : Lib.containsAny l [42, 35] = ca l := by
  unfold Lib.containsAny
  induction l with
  | nil => rfl
  | cons b l ih =>
    have hge := Lib.indexAny_ge [42, 35] l
    unfold Lib.indexAny ca
    rw [List.any_cons]
    have hc : ([42, 35] : List UInt8).contains b = (b == 42 || b == 35) := by
      simp [List.contains, List.elem, Bool.or_comm]
      cases b == 42 <;> cases b == 35 <;> rfl
    rw [hc]
    cases hb : (b == 42 || b == 35) with
    | true => simp
    | false =>
      rw [Bool.false_or]
      have ih : decide (0 ≤ Lib.indexAny l [42, 35]) = l.any fun c => c == 42 || c == 35 := ih
      rw [← ih]
      simp only [Bool.false_eq_true, if_false]
      by_cases h : Lib.indexAny l [42, 35] = -1
      · rw [if_pos (beq_iff_eq.2 h), h]
      · rw [if_neg (fun e => h (beq_iff_eq.1 e))]
        exact decide_eq_decide.2 (by omega)
def bad (w : ByteArray) : Bool := decide (1 < w.size) && ca (bl w)
theorem may1 (w : ByteArray) (h : w.size ≤ 900) : topic_May_1.f w = some (bad w) := by
  unfold topic_May_1.f bad
  by_cases h1 : 1 < w.size
  · rw [if_pos (by omega), decide_eq_true h1, Bool.true_and]
    have : strings_ContainsSigns.f w ⟨#[42, 35]⟩ = some (Lib.containsAny w.data.toList [42, 35]) := by
      unfold strings_ContainsSigns.f
      rw [if_pos ⟨by omega, rfl⟩]
    rw [this]
    exact congrArg some (ca_is (bl w))
  · rw [if_neg (by omega), decide_eq_false h1]
    rfl
theorem index_loop (ws : List ByteArray) (hw : ∀ w ∈ ws, w.size ≤ 900) (hl : ws.length ≤ 1000) : ∀ (d k i : Nat), i + d = ws.length → d < k →
    ∃ r, slices_IndexFunc_string_string__topic_May_1.l1 k ws (ws.length : Int) (i : Int) = some r ∧ decide (r ≥ 0) = (ws.drop i).any bad := by
  intro d
  induction d with
  | zero =>
    intro k i hi hk
    obtain ⟨m, rfl⟩ : ∃ m, k = m + 1 := ⟨k - 1, by omega⟩
    refine ⟨-1, ?_, ?_⟩
    · simp only [slices_IndexFunc_string_string__topic_May_1.l1]
      rw [if_neg (by omega)]
    · rw [List.drop_eq_nil_of_le (by omega)]
      rfl
  | succ d ih =>
    intro k i hi hk
    obtain ⟨m, rfl⟩ : ∃ m, k = m + 1 := ⟨k - 1, by omega⟩
    have hlt : i < ws.length := by omega
    have ed : ws.drop i = ws[i] :: ws.drop (i + 1) := List.drop_eq_getElem_cons hlt
    have hm := may1 ws[i] (hw _ (List.getElem_mem hlt))
    have hu : slices_IndexFunc_string_string__topic_May_1.l1 (m + 1) ws (ws.length : Int) (i : Int) = (if bad ws[i] = true then some (i : Int) else slices_IndexFunc_string_string__topic_May_1.l1 m ws (ws.length : Int) ((i + 1 : Nat) : Int)) := by
      simp only [slices_IndexFunc_string_string__topic_May_1.l1]
      rw [if_pos (by omega), if_pos (by omega), if_pos (by omega), at_word ws i hlt, hm, up_one i ws.length (by omega) hl]
      rfl
    rw [hu, ed, List.any_cons]
    cases hb : bad ws[i] with
    | true => exact ⟨(i : Int), by simp, by simp⟩
    | false =>
      obtain ⟨r, h1, h2⟩ := ih m (i + 1) (by omega) (by omega)
      exact ⟨r, by simpa using h1, by simpa using h2⟩
theorem few_is (s : ByteArray) (ws : List ByteArray) (h : topic_Words.f s = some ws) : topic_few.f s = some (decide (s.size ≤ 255) && decide (ws.length ≤ 20)) := by
  unfold topic_few.f
  by_cases h1 : s.size ≤ 255
  · rw [if_pos (by omega), h, decide_eq_true h1]
    simp only [Option.bind_some, Bool.true_and, Option.some.injEq]
    exact decide_eq_decide.2 (by omega)
  · rw [if_neg (by omega), decide_eq_false h1]
    rfl
def mayB (s : ByteArray) (ws : List ByteArray) : Bool := (decide (s.size ≤ 255) && decide (ws.length ≤ 20)) && !(ws.any bad)
theorem may_is (s : ByteArray) (ws : List ByteArray) (h : topic_Words.f s = some ws) (hw : ∀ w ∈ ws, w.size ≤ 900) (hl : ws.length ≤ 1000) (k : Nat) (hk : ws.length < k) : topic_May.f k s = some (mayB s ws) := by
  unfold topic_May.f mayB
  rw [few_is s ws h]
  simp only [Option.bind_some]
  cases hf : (decide (s.size ≤ 255) && decide (ws.length ≤ 20)) with
  | false => rfl
  | true =>
    rw [if_pos rfl, h]
    simp only [Option.bind_some]
    obtain ⟨r, h1, h2⟩ := index_loop ws hw hl ws.length k 0 (by omega) hk
    have e : slices_ContainsFunc_string_string__topic_May_1.f k ws = some (ws.any bad) := by
      unfold slices_ContainsFunc_string_string__topic_May_1.f slices_IndexFunc_string_string__topic_May_1.f
      have h1 : slices_IndexFunc_string_string__topic_May_1.l1 k ws (ws.length : Int) 0 = some r := h1
      rw [h1]
      exact congrArg some h2
    rw [e]
    rfl
theorem top_j (p k : ByteArray) (ps ks : List ByteArray) (b2 : Bool) (m : Nat) (p1 : topic_Words.f p = some ps) (k1 : topic_Words.f k = some ks) (g3 : topic_Match.l500 m ps ks 0 0 (-1) 0 = some b2) (c : Bool) : topic_Match.j0 (m + 1) p k c = (if c = true then some false else some b2) := by
  rw [topic_Match.j0, p1, k1]
  simp only [Option.bind_some]
  rw [g3]
theorem top_m (p k : ByteArray) (b2 x y : Bool) (m : Nat) (h1 : topic_May.f (m + 1) p = some x) (h2 : topic_few.f k = some y) (hj : ∀ c, topic_Match.j0 (m + 1) p k c = (if c = true then some false else some b2)) : topic_Match.f (m + 1) p k = some ((x && y) && b2) := by
  unfold topic_Match.f
  rw [h1, h2]
  simp only [Option.bind_some]
  rw [hj, hj]
  cases x <;> cases y <;> rfl
theorem may_any (p : ByteArray) (hp : p.size ≤ 900) : ∃ b, ∀ n, 1002 ≤ n → topic_May.f n p = some b := by
  obtain ⟨ps, p1, p3, p4⟩ := words_any p hp
  exact ⟨_, fun n hn => may_is p ps p1 (fun w hw => Nat.le_trans (p4 w hw) hp) (by omega) n (by omega)⟩
theorem match_any (p k : ByteArray) (hp : p.size ≤ 900) (hk : k.size ≤ 900) : ∃ F b, ∀ n, F ≤ n → topic_Match.f n p k = some b := by
  obtain ⟨ps, p1, p3, p4⟩ := words_any p hp
  obtain ⟨ks, k1, k3, k4⟩ := words_any k hk
  have hps : ps.length ≤ 1000 := by omega
  have hks : ks.length ≤ 1000 := by omega
  have wp : ∀ w ∈ ps, w.size ≤ 900 := fun w hw => Nat.le_trans (p4 w hw) hp
  obtain ⟨f, b, g1, _⟩ := TtC.run ps ks hps hks none 0 0 (Nat.zero_le _) (Nat.zero_le _) trivial (Nat.le_refl _) (Nat.le_refl _)
  refine ⟨f + 2000, (mayB p ps && (decide (k.size ≤ 255) && decide (ks.length ≤ 20))) && b, fun n hn => ?_⟩
  obtain ⟨m, rfl⟩ : ∃ m, n = m + 1 := ⟨n - 1, by omega⟩
  have c1 : f ≤ m := by omega
  have c6 : ps.length < m + 1 := by omega
  have g3 : topic_Match.l500 m ps ks 0 0 (-1) 0 = some b := at_rounds (g := fun z => topic_Match.l500 z ps ks 0 0 (-1) 0) (fun z => (topic_Match.mono_l z).2.1 ps ks 0 0 (-1) 0) c1 g1
  exact top_m p k b _ _ m (may_is p ps p1 wp hps (m + 1) c6) (few_is k ks k1) (top_j p k ps ks b m p1 k1 g3)
end Go.Proofs.YtpmalfabeajepaaDoor.Tw
