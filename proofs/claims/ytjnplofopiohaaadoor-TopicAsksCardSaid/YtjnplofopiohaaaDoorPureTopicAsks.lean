/- Words, patterns and what they match are what the document says: for every two texts. No conditions. -/
import Derived.Test.YtjnplofopiohaaaDoorPGtx6
import Derived.Test.YtjnplofopiohaaaDoorTtE
namespace Go.Proofs.YtjnplofopiohaaaDoor.Pure
open Go.RowKit Go.Proofs.YtjnplofopiohaaaDoor.PGt Go.Proofs.YtjnplofopiohaaaDoorW.PrintWords Go.Proofs.YtjnplofopiohaaaDoorW.PrintLast Go.Proofs.YtjnplofopiohaaaDoor.TtB Go.Proofs.YtjnplofopiohaaaDoor.TtC Go.Proofs.YtjnplofopiohaaaDoor.TtD Go.Proofs.YtjnplofopiohaaaDoor.TtE Go.Proofs.YtjnplofopiohaaaDoorH

/-- Has a word a sign? -/
def ca (l : List UInt8) : Bool := l.any fun c => c == 42 || c == 35
theorem ca_is (l : List UInt8) : Lib.containsAny l [42, 35] = ca l := by
  unfold Lib.containsAny
  induction l with
  | nil => rfl
  | cons b l ih =>
    have hge := Lib.indexAny_ge [42, 35] l
    unfold Lib.indexAny ca
    rw [List.any_cons]
    have hc : ([42, 35] : List UInt8).contains b = (b == 42 || b == 35) := by
      simp [List.contains, List.elem, Bool.or_comm]
      cases b == 42 <;> cases b == 35 <;> rfl
    rw [hc]
    cases hb : (b == 42 || b == 35) with
    | true => simp
    | false =>
      rw [Bool.false_or]
      have ih : decide (0 ≤ Lib.indexAny l [42, 35]) = l.any fun c => c == 42 || c == 35 := ih
      rw [← ih]
      simp only [Bool.false_eq_true, if_false]
      by_cases h : Lib.indexAny l [42, 35] = -1
      · rw [if_pos (beq_iff_eq.2 h), h]
      · rw [if_neg (fun e => h (beq_iff_eq.1 e))]
        exact decide_eq_decide.2 (by omega)
def bad (w : ByteArray) : Bool := decide (1 < w.size) && ca (bl w)
theorem may1 (w : ByteArray) (h : w.size ≤ 900) : topic_May_1.f w = some (bad w) := by
  unfold topic_May_1.f bad
  by_cases h1 : 1 < w.size
  · rw [if_pos (by omega), decide_eq_true h1, Bool.true_and]
    have : strings_ContainsSigns.f w ⟨#[42, 35]⟩ = some (Lib.containsAny w.data.toList [42, 35]) := by
      unfold strings_ContainsSigns.f
      rw [if_pos ⟨by omega, rfl⟩]
    rw [this]
    exact congrArg some (ca_is (bl w))
  · rw [if_neg (by omega), decide_eq_false h1]
    rfl
theorem index_loop (ws : List ByteArray) (hw : ∀ w ∈ ws, w.size ≤ 900) (hl : ws.length ≤ 1000) : ∀ (d k i : Nat), i + d = ws.length → d < k →
    ∃ r, slices_IndexFunc_string_string__topic_May_1.l1 k ws (ws.length : Int) (i : Int) = some r ∧ decide (r ≥ 0) = (ws.drop i).any bad := by
  intro d
  induction d with
  | zero =>
    intro k i hi hk
    obtain ⟨m, rfl⟩ : ∃ m, k = m + 1 := ⟨k - 1, by omega⟩
    refine ⟨-1, ?_, ?_⟩
    · simp only [slices_IndexFunc_string_string__topic_May_1.l1]
      rw [if_neg (by omega)]
    · rw [List.drop_eq_nil_of_le (by omega)]
      rfl
  | succ d ih =>
    intro k i hi hk
    obtain ⟨m, rfl⟩ : ∃ m, k = m + 1 := ⟨k - 1, by omega⟩
    have hlt : i < ws.length := by omega
    have ed : ws.drop i = ws[i] :: ws.drop (i + 1) := List.drop_eq_getElem_cons hlt
    have hm := may1 ws[i] (hw _ (List.getElem_mem hlt))
    have hu : slices_IndexFunc_string_string__topic_May_1.l1 (m + 1) ws (ws.length : Int) (i : Int) = (if bad ws[i] = true then some (i : Int) else slices_IndexFunc_string_string__topic_May_1.l1 m ws (ws.length : Int) ((i + 1 : Nat) : Int)) := by
      simp only [slices_IndexFunc_string_string__topic_May_1.l1]
      rw [if_pos (by omega), if_pos (by omega), if_pos (by omega), at_word ws i hlt, hm, up_one i ws.length (by omega) hl]
      rfl
    rw [hu, ed, List.any_cons]
    cases hb : bad ws[i] with
    | true => exact ⟨(i : Int), by simp, by simp⟩
    | false =>
      obtain ⟨r, h1, h2⟩ := ih m (i + 1) (by omega) (by omega)
      exact ⟨r, by simpa using h1, by simpa using h2⟩
theorem few_is (s : ByteArray) (ws : List ByteArray) (h : topic_Words.f s = some ws) : topic_few.f s = some (decide (s.size ≤ 255) && decide (ws.length ≤ 20)) := by
  unfold topic_few.f
  by_cases h1 : s.size ≤ 255
  · rw [if_pos (by omega), h, decide_eq_true h1]
    simp only [Option.bind_some, Bool.true_and, Option.some.injEq]
    exact decide_eq_decide.2 (by omega)
  · rw [if_neg (by omega), decide_eq_false h1]
    rfl
def mayB (s : ByteArray) (ws : List ByteArray) : Bool := (decide (s.size ≤ 255) && decide (ws.length ≤ 20)) && !(ws.any bad)
theorem may_is (s : ByteArray) (ws : List ByteArray) (h : topic_Words.f s = some ws) (hw : ∀ w ∈ ws, w.size ≤ 900) (hl : ws.length ≤ 1000) (k : Nat) (hk : ws.length < k) : topic_May.f k s = some (mayB s ws) := by
  unfold topic_May.f mayB
  rw [few_is s ws h]
  simp only [Option.bind_some]
  cases hf : (decide (s.size ≤ 255) && decide (ws.length ≤ 20)) with
  | false => rfl
  | true =>
    rw [if_pos rfl, h]
    simp only [Option.bind_some]
    obtain ⟨r, h1, h2⟩ := index_loop ws hw hl ws.length k 0 (by omega) hk
    have e : slices_ContainsFunc_string_string__topic_May_1.f k ws = some (ws.any bad) := by
      unfold slices_ContainsFunc_string_string__topic_May_1.f slices_IndexFunc_string_string__topic_May_1.f
      have h1 : slices_IndexFunc_string_string__topic_May_1.l1 k ws (ws.length : Int) 0 = some r := h1
      rw [h1]
      exact congrArg some h2
    rw [e]
    rfl
theorem mark_loop (s : ByteArray) (h : s.size ≤ 900) : ∀ (d i k : Nat), i + d = s.size → 2 * d < k → carrefourref7_mark.l1 k s (i : Int) = some (ca ((bl s).drop i)) := by
  have hsz := bl_size s
  intro d
  induction d with
  | zero =>
    intro i k hi hk
    obtain ⟨m, rfl⟩ : ∃ m, k = m + 1 := ⟨k - 1, by omega⟩
    simp only [carrefourref7_mark.l1]
    rw [if_neg (by omega), List.drop_eq_nil_of_le (by omega)]
    rfl
  | succ d ih =>
    intro i k hi hk
    obtain ⟨m, rfl⟩ : ∃ m, k = m + 1 + 1 := ⟨k - 2, by omega⟩
    have hlt : i < (bl s).length := by omega
    have ed : (bl s).drop i = (bl s)[i] :: (bl s).drop (i + 1) := List.drop_eq_getElem_cons hlt
    have hu : carrefourref7_mark.l1 (m + 1 + 1) s (i : Int) = (if bt s (i : Int) = 42 then carrefourref7_mark.j1 (m + 1) s (i : Int) true else carrefourref7_mark.j1 (m + 1) s (i : Int) (bt s (i : Int) == 35)) := by
      rw [carrefourref7_mark.l1]
      rw [if_pos (by omega), if_pos (by omega)]
    have hj : ∀ b, carrefourref7_mark.j1 (m + 1) s (i : Int) b = (if b = true then some true else carrefourref7_mark.l1 m s ((i + 1 : Nat) : Int)) := fun b => by
      rw [carrefourref7_mark.j1, up_one i s.size (by omega) (by omega)]
    have ihh := ih (i + 1) m (by omega) (by omega)
    rw [hu, hj, hj, ihh, bt_bl s i hlt, ed]
    unfold ca
    rw [List.any_cons]
    by_cases h1 : (bl s)[i] = 42
    · rw [h1, if_pos (by rfl), if_pos rfl]
      rfl
    · rw [if_neg (fun e => h1 (UInt8.toNat_inj.1 (by have : (42 : UInt8).toNat = 42 := rfl; omega))), beq_eq_false_iff_ne.2 h1, Bool.false_or]
      by_cases h2 : (bl s)[i] = 35
      · rw [h2]
        rfl
      · have hb : ((((bl s)[i]).toNat : Int) == 35) = false := beq_eq_false_iff_ne.2 (fun e => h2 (UInt8.toNat_inj.1 (by have : (35 : UInt8).toNat = 35 := rfl; omega)))
        rw [hb, if_neg (by simp), beq_eq_false_iff_ne.2 h2, Bool.false_or]
theorem mark_is (s : ByteArray) (h : s.size ≤ 900) (k : Nat) (hk : 2 * s.size < k) : carrefourref7_mark.f k s = some (ca (bl s)) :=
  mark_loop s h s.size 0 k (by omega) hk
theorem pat_loop (ws : List ByteArray) (hw : ∀ w ∈ ws, w.size ≤ 900) (hl : ws.length ≤ 1000) : ∀ (d i k : Nat), i + d = ws.length → 2000 + 2 * d < k → carrefourref7_MayPattern.l1 k ws (i : Int) = some (!((ws.drop i).any bad)) := by
  intro d
  induction d with
  | zero =>
    intro i k hi hk
    obtain ⟨m, rfl⟩ : ∃ m, k = m + 1 := ⟨k - 1, by omega⟩
    rw [carrefourref7_MayPattern.l1, if_neg (by omega), List.drop_eq_nil_of_le (by omega)]
    rfl
  | succ d ih =>
    intro i k hi hk
    obtain ⟨m, rfl⟩ : ∃ m, k = m + 1 + 1 := ⟨k - 2, by omega⟩
    have hlt : i < ws.length := by omega
    have ed : ws.drop i = ws[i] :: ws.drop (i + 1) := List.drop_eq_getElem_cons hlt
    have hm := mark_is ws[i] (hw _ (List.getElem_mem hlt)) (m + 1) (by have := hw _ (List.getElem_mem hlt); omega)
    have hj : ∀ b, carrefourref7_MayPattern.j2 (m + 1) ws (i : Int) b = (if b = true then some false else carrefourref7_MayPattern.l1 m ws ((i + 1 : Nat) : Int)) := fun b => by
      rw [carrefourref7_MayPattern.j2, up_one i ws.length (by omega) hl]
    have hu : carrefourref7_MayPattern.l1 (m + 1 + 1) ws (i : Int) = (if bad ws[i] = true then some false else carrefourref7_MayPattern.l1 m ws ((i + 1 : Nat) : Int)) := by
      rw [carrefourref7_MayPattern.l1, if_pos (by omega), if_pos (by omega), at_word ws i hlt, hm]
      simp only [Option.bind_some]
      rw [hj, hj]
      unfold bad
      cases ca (bl ws[i]) with
      | false => simp
      | true =>
        rw [if_pos rfl, Bool.and_true]
        have : decide ((ws[i].size : Int) > 1) = decide (1 < ws[i].size) := decide_eq_decide.2 (by omega)
        rw [this]
    rw [hu, ih (i + 1) m (by omega) (by omega), ed, List.any_cons]
    cases bad ws[i] <;> simp
theorem pattern_is (s : ByteArray) (ws : List ByteArray) (hw : ∀ w ∈ ws, w.size ≤ 900) (hl : ws.length ≤ 1000) (k : Nat) (hk : 5000 < k) (h : carrefourref7_Words.f k s = some ws) : carrefourref7_MayPattern.f k s = some (mayB s ws) := by
  obtain ⟨m, rfl⟩ : ∃ m, k = m + 1 := ⟨k - 1, by omega⟩
  unfold carrefourref7_MayPattern.f mayB
  rw [h]
  simp only [Option.bind_some]
  have hj : ∀ b, carrefourref7_MayPattern.j0 (m + 1) ws b = (if b = true then some false else carrefourref7_MayPattern.l1 m ws 0) := fun b => by rw [carrefourref7_MayPattern.j0]
  have hp : carrefourref7_MayPattern.l1 m ws 0 = some (!((ws.drop 0).any bad)) := pat_loop ws hw hl ws.length 0 m (by omega) (by omega)
  rw [List.drop_zero] at hp
  rw [hj, hj, hp]
  by_cases h1 : ws.length ≤ 20
  · rw [if_neg (by omega), decide_eq_true h1, Bool.and_true]
    by_cases h2 : s.size ≤ 255
    · rw [if_neg (by simp; omega), decide_eq_true h2]
      rfl
    · rw [if_pos (by simp; omega), decide_eq_false h2]
      rfl
  · rw [if_pos (by omega), if_pos rfl, decide_eq_false h1, Bool.and_false]
    rfl
theorem row_zero (p k : List ByteArray) : Row p k 0 ((List.replicate (k.length + 1) false).set 0 true) := by
  refine ⟨by rw [List.length_set, List.length_replicate], fun j hj => ?_⟩
  rw [getD_set _ 0 j true (by rw [List.length_replicate]; omega), B_zero p k hj]
  by_cases h : 0 = j
  · rw [if_pos h]
    exact ⟨fun _ => h.symm, fun _ => rfl⟩
  · rw [if_neg h, List.getD_eq_getElem?_getD, List.getElem?_replicate]
    refine ⟨fun h2 => ?_, fun h2 => absurd h2.symm h⟩
    split at h2 <;> cases h2
theorem top_j (p k : ByteArray) (ps ks : List ByteArray) (b2 : Bool) (m : Nat) (p1 : topic_Words.f p = some ps) (k1 : topic_Words.f k = some ks) (g3 : topic_Match.l500 m ps ks 0 0 (-1) 0 = some b2) (c : Bool) : topic_Match.j0 (m + 1) p k c = (if c = true then some false else some b2) := by
  rw [topic_Match.j0, p1, k1]
  simp only [Option.bind_some]
  rw [g3]
theorem top_m (p k : ByteArray) (b2 x y : Bool) (m : Nat) (h1 : topic_May.f (m + 1) p = some x) (h2 : topic_few.f k = some y) (hj : ∀ c, topic_Match.j0 (m + 1) p k c = (if c = true then some false else some b2)) : topic_Match.f (m + 1) p k = some ((x && y) && b2) := by
  unfold topic_Match.f
  rw [h1, h2]
  simp only [Option.bind_some]
  rw [hj, hj]
  cases x <;> cases y <;> rfl
theorem ref_e (ks : List ByteArray) (hks : ks.length ≤ 1000) : ks.length + 1 ≤ 281474976710656 := by omega
theorem ref_if (a : Int) (n lm : Nat) (ha : a = (n : Int)) (h1 : n ≤ lm) (h0 : 0 < n) (g : List Bool → Option Bool) (b2 c : Bool) (hg : g ((List.replicate n false).set 0 true) = some b2) : (if c = true then (some false) else (if 0 ≤ a then (if a.toNat ≤ lm then ((some (List.replicate a.toNat false : List Bool)).bind fun y158 => (if 0 < (y158.length : Int) then (g (y158.set (0 : Int).toNat true)) else (none))) else (none)) else (none))) = (if c = true then some false else some b2) := by
  subst ha
  cases c with
  | true => rfl
  | false =>
    rw [if_neg Bool.false_ne_true, if_neg Bool.false_ne_true, if_pos (Int.natCast_nonneg _), Int.toNat_natCast, if_pos h1, Option.bind_some, if_pos (by rw [List.length_replicate]; exact Int.natCast_pos.2 h0)]
    exact hg
theorem ref_j (p : ByteArray) (ps ks : List ByteArray) (b2 : Bool) (m : Nat) (hks : ks.length ≤ 1000) (w3 : carrefourref7_Words.f m p = some ps) (r3 : carrefourref7_Match.l2 m ks ps ((List.replicate (ks.length + 1) false).set 0 true) 0 = some b2) (c : Bool) : carrefourref7_Match.j0 (m + 1) p ks c = (if c = true then some false else some b2) := by
  have wl : wrap64 ((ks.length : Int) + 1) = ((ks.length + 1 : Nat) : Int) := up_one ks.length ks.length (Nat.le_refl _) hks
  rw [carrefourref7_Match.j0, w3, Option.bind_some]
  exact ref_if _ _ 281474976710656 wl (ref_e ks hks) (Nat.succ_pos _) (fun y => carrefourref7_Match.l2 m ks ps y 0) b2 c r3
theorem ref_m (p k : ByteArray) (ks : List ByteArray) (b2 x : Bool) (m : Nat) (w1 : carrefourref7_Words.f (m + 1) k = some ks) (h1 : carrefourref7_MayPattern.f (m + 1) p = some x) (hj : ∀ c, carrefourref7_Match.j0 (m + 1) p ks c = (if c = true then some false else some b2)) : carrefourref7_Match.f (m + 1) p k = some ((x && (decide (k.size ≤ 255) && decide (ks.length ≤ 20))) && b2) := by
  unfold carrefourref7_Match.f
  rw [w1, h1]
  simp only [Option.bind_some]
  rw [hj, hj]
  cases x with
  | false => rfl
  | true =>
    rw [if_pos rfl]
    by_cases h1 : ks.length ≤ 20
    · rw [if_neg (by omega), decide_eq_true h1]
      by_cases h2 : k.size ≤ 255
      · rw [if_neg (by simp; omega), decide_eq_true h2]
        rfl
      · rw [if_pos (by simp; omega), decide_eq_false h2]
        rfl
    · rw [if_pos (by omega), if_pos rfl, decide_eq_false h1, Bool.and_false]
      rfl
theorem match_both (p k : ByteArray) (hp : p.size ≤ 900) (hk : k.size ≤ 900) : ∃ F b, ∀ n, F ≤ n → topic_Match.f n p k = some b ∧ carrefourref7_Match.f n p k = some b := by
  obtain ⟨fp, ps, p1, p2, p3, p4⟩ := words_both p hp
  obtain ⟨fk, ks, k1, k2, k3, k4⟩ := words_both k hk
  have hps : ps.length ≤ 1000 := by omega
  have hks : ks.length ≤ 1000 := by omega
  have wp : ∀ w ∈ ps, w.size ≤ 900 := fun w hw => Nat.le_trans (p4 w hw) hp
  obtain ⟨f, b, g1, g2⟩ := TtC.run ps ks hps hks none 0 0 (Nat.zero_le _) (Nat.zero_le _) trivial (Nat.le_refl _) (Nat.le_refl _)
  obtain ⟨f2, b2, r1, r2⟩ := rows_run ps ks hps hks ps.length 0 _ (by omega) (row_zero ps ks)
  have hbb : b2 = b := Bool.eq_iff_iff.2 (r2.trans g2.symm)
  subst hbb
  clear r2 g2 p4 k4 p3 k3
  generalize hG : (6000 : Nat) = G
  have hG1 : 5000 < G := by omega
  have hG2 : 1000 < G := by omega
  clear hG
  refine ⟨fp + fk + f + f2 + G, (mayB p ps && (decide (k.size ≤ 255) && decide (ks.length ≤ 20))) && b2, fun n hn => ?_⟩
  obtain ⟨m, rfl⟩ : ∃ m, n = m + 1 := ⟨n - 1, by omega⟩
  have c1 : f ≤ m := by omega
  have c2 : f2 ≤ m := by omega
  have c3 : fp ≤ m := by omega
  have c4 : fp ≤ m + 1 := by omega
  have c5 : fk ≤ m + 1 := by omega
  have c6 : ps.length < m + 1 := by omega
  have c7 : 5000 < m + 1 := by omega
  have g3 : topic_Match.l500 m ps ks 0 0 (-1) 0 = some b2 := at_rounds (g := fun z => topic_Match.l500 z ps ks 0 0 (-1) 0) (fun z => (topic_Match.mono_l z).2.1 ps ks 0 0 (-1) 0) c1 g1
  have w1 : carrefourref7_Words.f (m + 1) k = some ks := at_rounds (g := fun z => carrefourref7_Words.f z k) (fun z => carrefourref7_Words.mono k z) c5 k2
  have w2 : carrefourref7_Words.f (m + 1) p = some ps := at_rounds (g := fun z => carrefourref7_Words.f z p) (fun z => carrefourref7_Words.mono p z) c4 p2
  have w3 : carrefourref7_Words.f m p = some ps := at_rounds (g := fun z => carrefourref7_Words.f z p) (fun z => carrefourref7_Words.mono p z) c3 p2
  have r3 : carrefourref7_Match.l2 m ks ps ((List.replicate (ks.length + 1) false).set 0 true) 0 = some b2 := at_rounds (g := fun z => carrefourref7_Match.l2 z ks ps ((List.replicate (ks.length + 1) false).set 0 true) 0) (fun z => (carrefourref7_Match.mono_l z).2.1 ks ps _ 0) c2 r1
  exact ⟨top_m p k b2 _ _ m (may_is p ps p1 wp hps (m + 1) c6) (few_is k ks k1) (top_j p k ps ks b2 m p1 k1 g3), ref_m p k ks b2 _ m w1 (pattern_is p ps wp hps (m + 1) c7 w2) (ref_j p ps ks b2 m hks w3 r3)⟩
theorem law_loop (a0 a1 : ByteArray) (ws : List ByteArray) (hl : ws.length ≤ 1000) (F : Nat) (c d' : Bool) (h1 : ∀ n, F ≤ n → carrefourlaw7_told.f n = some true) (h2 : ∀ n, F ≤ n → topic_May.f n a0 = some c) (h3 : ∀ n, F ≤ n → carrefourref7_MayPattern.f n a0 = some c) (h4 : ∀ n, F ≤ n → topic_Match.f n a0 a1 = some d') (h5 : ∀ n, F ≤ n → carrefourref7_Match.f n a0 a1 = some d') :
    ∀ (d i k : Nat), i + d = ws.length → F + d < k → carrefourlaw7_TopicAsks.l1 k a0 a1 ws ws (i : Int) = some true := by
  intro d
  induction d with
  | zero =>
    intro i k hi hk
    obtain ⟨m, rfl⟩ : ∃ m, k = m + 1 := ⟨k - 1, by omega⟩
    rw [carrefourlaw7_TopicAsks.l1, if_neg (by omega), h1 m (by omega)]
    simp only [Option.bind_some]
    rw [h2 m (by omega), h3 m (by omega), h4 m (by omega), h5 m (by omega)]
    cases c <;> cases d' <;> rfl
  | succ d ih =>
    intro i k hi hk
    obtain ⟨m, rfl⟩ : ∃ m, k = m + 1 := ⟨k - 1, by omega⟩
    rw [carrefourlaw7_TopicAsks.l1, if_pos (by omega), if_pos (by omega), if_pos (by omega), if_pos rfl, up_one i ws.length (by omega) hl]
    exact ih (i + 1) m (by omega) (by omega)
/-- For every two texts. -/
theorem TopicAsks : carrefourlaw7_TopicAsks.Pure := by
  intro a0 a1 _ _
  by_cases hs : a0.size ≤ 300 ∧ a1.size ≤ 300
  · obtain ⟨s0, s1⟩ := hs
    obtain ⟨fp, ps, p1, p2, p3, p4⟩ := words_both a0 (by omega)
    obtain ⟨F, b, hF⟩ := match_both a0 a1 (by omega) (by omega)
    have hps : ps.length ≤ 1000 := by omega
    have wp : ∀ w ∈ ps, w.size ≤ 900 := fun w hw => by have := p4 w hw; omega
    have w2 : ∀ z, fp ≤ z → carrefourref7_Words.f z a0 = some ps := fun z hz => at_rounds (g := fun z => carrefourref7_Words.f z a0) (fun z => carrefourref7_Words.mono a0 z) hz p2
    have hl := law_loop a0 a1 ps hps (fp + F + 6000) (mayB a0 ps) b (fun n hn => told_at (by omega)) (fun n hn => may_is a0 ps p1 wp hps n (by omega)) (fun n hn => pattern_is a0 ps wp hps n (by omega) (w2 n (by omega))) (fun n hn => (hF n (by omega)).1) (fun n hn => (hF n (by omega)).2)
    refine ⟨fp + F + 6000 + ps.length + 1 + 1, ?_⟩
    unfold carrefourlaw7_TopicAsks.f
    rw [if_neg (by omega), show decide ((a1.size : Int) > 300) = false from decide_eq_false (by omega)]
    rw [carrefourlaw7_TopicAsks.j0, if_neg (by simp), p1]
    simp only [Option.bind_some]
    rw [w2 _ (by omega)]
    simp only [Option.bind_some, if_true]
    exact hl ps.length 0 _ (by omega) (by omega)
  · refine ⟨101, ?_⟩
    have hj : carrefourlaw7_TopicAsks.j0 101 a0 a1 true = some true := by
      rw [carrefourlaw7_TopicAsks.j0, if_pos rfl, told_at (Nat.le_refl 100)]
      rfl
    unfold carrefourlaw7_TopicAsks.f
    by_cases h0 : a0.size ≤ 300
    · rw [if_neg (by omega), show decide ((a1.size : Int) > 300) = true from decide_eq_true (by omega)]
      exact hj
    · rw [if_pos (by omega)]
      exact hj
end Go.Proofs.YtjnplofopiohaaaDoor.Pure
