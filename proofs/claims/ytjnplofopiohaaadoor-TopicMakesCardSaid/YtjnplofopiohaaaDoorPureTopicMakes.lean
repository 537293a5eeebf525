/- A pattern made of a key matches the key: for every key, any changes. No conditions. -/
import Derived.Test.YtjnplofopiohaaaDoorPGmx3
import Derived.Test.YtjnplofopiohaaaDoorTmC
namespace Go.Proofs.YtjnplofopiohaaaDoor.Pure
open Go.RowKit Go.Proofs.YtjnplofopiohaaaDoor.PGm Go.Proofs.YtjnplofopiohaaaDoorW.PrintWords Go.Proofs.YtjnplofopiohaaaDoorW.PrintLast Go.Proofs.YtjnplofopiohaaaDoor.TmB Go.Proofs.YtjnplofopiohaaaDoor.TmC

/-- Words of one byte, none of them a point. -/
def Small (ws : List ByteArray) : Prop := ∀ w ∈ ws, w.size = 1 ∧ 46 ∉ bl w
theorem Small.app {a b : List ByteArray} (h : Small a) (g : Small b) : Small (a ++ b) := by
  intro w hw
  rcases List.mem_append.mp hw with h' | h'
  · exact h w h'
  · exact g w h'
theorem tj_small (ws : List ByteArray) (h : Small ws) : (tj (ws.map bl)).length = 2 * ws.length := by
  induction ws with
  | nil => rfl
  | cons w r ih =>
    have := ih fun y hy => h y (by simp [hy])
    have h1 := (h w (by simp)).1
    have h2 := bl_size w
    simp only [List.map_cons, tj, List.length_cons, List.length_append]
    omega
theorem jb_small (ws : List ByteArray) (h : Small ws) : (jb ws).size = 2 * ws.length - 1 := by
  rw [← bl_size, jb_bl]
  cases ws with
  | nil => rfl
  | cons w r =>
    have := tj_small r fun y hy => h y (by simp [hy])
    have h1 := (h w (by simp)).1
    have h2 := bl_size w
    simp only [List.map_cons, joinL, List.length_cons, List.length_append]
    omega
theorem words_small (ws : List ByteArray) (h : Small ws) (hn : ws.length ≤ 100) : topic_Words.f (jb ws) = some ws := by
  by_cases h0 : ws = []
  · subst h0
    kernel_rfl
  · have hs := jb_small ws h
    have : 0 < ws.length := List.length_pos_iff.mpr h0
    exact words_of_join ws (fun w hw => (h w hw).2) h0 (by omega) (by omega)
theorem join_small (ws : List ByteArray) (h : Small ws) (hn : ws.length ≤ 100) (k : Nat) (hk : 101 ≤ k) : carrefourlaw7_join.f k ws = some (jb ws) :=
  join_tells ws k (by omega) (by omega) (by rw [tj_small ws h]; omega)
theorem few_small (ws : List ByteArray) (h : Small ws) (hn : ws.length ≤ 20) : topic_few.f (jb ws) = some true := by
  have hs := jb_small ws h
  unfold topic_few.f
  rw [if_pos (by omega), words_small ws h (by omega)]
  simp only [Option.bind_some, Option.some.injEq]
  exact decide_eq_true (by omega)
theorem index_small (ws : List ByteArray) (h : Small ws) (hn : ws.length ≤ 100) (d : Nat) : ∀ (k i : Nat), i + d = ws.length → d < k →
    slices_IndexFunc_string_string__topic_May_1.l1 k ws (ws.length : Int) (i : Int) = some (-1) := by
  induction d with
  | zero =>
    intro k i hi hk
    obtain ⟨m, rfl⟩ : ∃ m, k = m + 1 := ⟨k - 1, by omega⟩
    simp only [slices_IndexFunc_string_string__topic_May_1.l1]
    rw [if_neg (by omega)]
  | succ d ih =>
    intro k i hi hk
    obtain ⟨m, rfl⟩ : ∃ m, k = m + 1 := ⟨k - 1, by omega⟩
    have hlt : i < ws.length := by omega
    have h1 := (h _ (List.getElem_mem hlt)).1
    simp only [slices_IndexFunc_string_string__topic_May_1.l1]
    rw [if_pos (by omega), if_pos (by omega), if_pos (by omega), at_word ws i hlt]
    have e : topic_May_1.f ws[i] = some false := by
      unfold topic_May_1.f
      rw [if_neg (by omega)]
    rw [e]
    simp only [Option.bind_some]
    rw [if_neg (by simp), show wrap64 ((i : Int) + 1) = ((i + 1 : Nat) : Int) by unfold wrap64; omega]
    exact ih m (i + 1) (by omega) (by omega)
theorem may_small (ws : List ByteArray) (h : Small ws) (hn : ws.length ≤ 20) (k : Nat) (hk : 101 ≤ k) : topic_May.f k (jb ws) = some true := by
  unfold topic_May.f
  rw [few_small ws h hn]
  simp only [Option.bind_some]
  rw [if_pos trivial, words_small ws h (by omega)]
  simp only [Option.bind_some]
  have e : slices_ContainsFunc_string_string__topic_May_1.f k ws = some false := by
    unfold slices_ContainsFunc_string_string__topic_May_1.f slices_IndexFunc_string_string__topic_May_1.f
    have := index_small ws h (by omega) ws.length k 0 (by omega) (by omega)
    rw [show ((0 : Nat) : Int) = 0 from rfl] at this
    rw [this]
    rfl
  rw [e]
  rfl
theorem match_small (ps ks : List ByteArray) (hp : Small ps) (hk : Small ks) (np : ps.length ≤ 20) (nk : ks.length ≤ 20) (k : Nat) (h : 102 ≤ k) (b : Bool)
    (hb : topic_Match.l500 (k - 1) ps ks 0 0 (-1) 0 = some b) : topic_Match.f k (jb ps) (jb ks) = some b := by
  obtain ⟨m, rfl⟩ : ∃ m, k = m + 1 := ⟨k - 1, by omega⟩
  unfold topic_Match.f
  rw [may_small ps hp np _ (by omega), few_small ks hk nk]
  simp only [Option.bind_some]
  rw [if_pos trivial]
  rw [Nat.add_sub_cancel] at hb
  simp only [topic_Match.j0]
  rw [if_neg (by simp), words_small ps hp (by omega), words_small ks hk (by omega)]
  simp only [Option.bind_some]
  exact hb
theorem match_found (ps ks : List ByteArray) (hp : Small ps) (hk : Small ks) (np : ps.length ≤ 20) (nk : ks.length ≤ 20) (hm : M ps ks) : ∃ F, ∀ k, F ≤ k → topic_Match.f k (jb ps) (jb ks) = some true := by
  obtain ⟨f, hf⟩ := run ps ks (by omega) (by omega) none 0 0 (by omega) (by omega) hm (Nat.le_refl _) (Nat.le_refl _)
  refine ⟨f + 102, fun k hk' => match_small ps ks hp hk np nk k (by omega) true ?_⟩
  exact match_lift f (k - 1) (by omega) hf

theorem m_app {p k q l : List ByteArray} (h : M p k) (g : M q l) : M (p ++ q) (k ++ l) := by
  induction p generalizing k with
  | nil =>
    rw [M] at h
    subst h
    exact g
  | cons w ps ih =>
    rw [M] at h
    rw [List.cons_append, M]
    by_cases hc : w = cross
    · rw [if_pos hc] at h ⊢
      obtain ⟨j, h1, h2⟩ := h
      refine ⟨j, by rw [List.length_append]; omega, ?_⟩
      rw [List.drop_append_of_le_length h1]
      exact ih h2
    · rw [if_neg hc] at h ⊢
      obtain ⟨x, xs, rfl, h2, h3⟩ := h
      exact ⟨x, xs ++ l, rfl, h2, ih h3⟩
theorem m_star (w : ByteArray) : M [star] [w] := by
  rw [M, if_neg (by decide)]
  exact ⟨w, [], rfl, Or.inl rfl, rfl⟩
theorem m_all (k : List ByteArray) : M [cross] k := by
  rw [M, if_pos rfl]
  exact ⟨k.length, Nat.le_refl _, by rw [M]; exact List.drop_eq_nil_of_le (Nat.le_refl _)⟩
theorem m_same (w : ByteArray) (h : w ≠ cross) : M [w] [w] := by
  rw [M, if_neg h]
  exact ⟨w, [], rfl, Or.inr rfl, rfl⟩
theorem m_more (w : ByteArray) (h : w ≠ cross) : M [w, cross] [w] := by
  have := m_app (m_same w h) (m_all [])
  exact this
theorem m_self (ks : List ByteArray) (h : ∀ w ∈ ks, w ≠ cross) : M ks ks := by
  induction ks with
  | nil => rfl
  | cons w r ih => exact m_app (m_same w (h w (by simp))) (ih fun y hy => h y (by simp [hy]))

/-- A word of a key. -/
def letter (b : Int) : ByteArray := (⟨#[97, 98, 99]⟩ : ByteArray).extract b.toNat (1 + b).toNat
theorem letter_is (b : Int) (h : b = 0 ∨ b = 1) : letter b = ⟨#[97]⟩ ∨ letter b = ⟨#[98]⟩ := by
  rcases h with rfl | rfl
  · left; rfl
  · right; rfl
def Keys (ks : List ByteArray) : Prop := ∀ w ∈ ks, w = ⟨#[97]⟩ ∨ w = ⟨#[98]⟩
theorem Keys.small {ks : List ByteArray} (h : Keys ks) : Small ks := by
  intro w hw
  rcases h w hw with rfl | rfl
  · exact ⟨rfl, by decide⟩
  · exact ⟨rfl, by decide⟩
theorem Keys.nc {ks : List ByteArray} (h : Keys ks) : ∀ w ∈ ks, w ≠ cross := by
  intro w hw
  rcases h w hw with rfl | rfl <;> decide
theorem Keys.ns {ks : List ByteArray} (h : Keys ks) : ∀ w ∈ ks, w ≠ star := by
  intro w hw
  rcases h w hw with rfl | rfl <;> decide

theorem and_one (x : Int) : Go.bits .and .i64 x 1 = 0 ∨ Go.bits .and .i64 x 1 = 1 := by
  have e : Go.bits .and .i64 x 1 = IntKind.wrap .i64 ((((BitVec.ofInt 64 x) &&& (BitVec.ofInt 64 1)) : BitVec 64).toNat : Int) := rfl
  have h : (((BitVec.ofInt 64 x) &&& (BitVec.ofInt 64 1)) : BitVec 64).toNat ≤ 1 := by
    rw [BitVec.toNat_and]
    exact Nat.and_le_right
  rw [e, Go.IntWalk.i64_left]
  unfold wrap64
  omega

/-- What is longer than the key, without a cross, isn't matched. -/
theorem longer (ks : List ByteArray) (h : Keys ks) (hK : ks.length ≤ 100) (d : Nat) : ∀ (k i : Nat), i + d = ks.length → 4 * d + 5 ≤ k →
    topic_Match.l500 k (ks ++ [⟨#[120]⟩]) ks (i : Int) (i : Int) (-1) 0 = some false := by
  induction d with
  | zero =>
    intro k i hi hk
    obtain ⟨m, rfl⟩ : ∃ m, k = m + 1 + 1 + 1 + 1 + 1 := ⟨k - 5, by omega⟩
    have hl : i < (ks ++ [(⟨#[120]⟩ : ByteArray)]).length := by simp; omega
    have ew : (ks ++ [(⟨#[120]⟩ : ByteArray)])[i] = ⟨#[120]⟩ := by
      rw [List.getElem_append_right (by omega)]
      simp
    simp only [topic_Match.l500]
    rw [if_pos (by omega), if_pos (by omega), at_word _ i hl, ew, show ((⟨#[120]⟩ : ByteArray).toList == ([35] : List UInt8)) = false by rw [ByteArray.toList_eq]; decide]
    simp only [topic_Match.j2]
    rw [if_neg (by simp), if_pos (by omega), show (((i : Int) == ((ks ++ [(⟨#[120]⟩ : ByteArray)]).length : Int))) = false from beq_eq_false_iff_ne.mpr (by omega)]
    simp only [topic_Match.j3]
    rw [if_neg (by simp), if_neg (by omega)]
    simp only [topic_Match.j4]
    rw [if_neg (by simp), if_pos (by omega)]
    simp only [topic_Match.j5]
    rw [if_pos trivial]
  | succ d ih =>
    intro k i hi hk
    obtain ⟨m, rfl⟩ : ∃ m, k = m + 1 + 1 + 1 + 1 := ⟨k - 4, by omega⟩
    have h2 : i < ks.length := by omega
    have hl : i < (ks ++ [(⟨#[120]⟩ : ByteArray)]).length := by simp; omega
    have ew : (ks ++ [(⟨#[120]⟩ : ByteArray)])[i] = ks[i] := List.getElem_append_left h2
    have c1 := h.nc _ (List.getElem_mem h2)
    have c2 := h.ns _ (List.getElem_mem h2)
    simp only [topic_Match.l500]
    rw [if_pos (by omega), if_pos (by omega), at_word _ i hl, ew, show (ks[i].toList == ([35] : List UInt8)) = false from beq_eq_false_iff_ne.mpr (fun e => c1 ((is_cross _).mp e))]
    simp only [topic_Match.j2]
    rw [if_neg (by simp), if_neg (by omega)]
    simp only [topic_Match.j3]
    rw [if_neg (by simp), if_pos (by omega), if_pos (by omega), if_pos (by omega), at_word _ i hl, ew, if_neg (fun e => c2 ((is_star _).mp e)), if_pos (by omega), at_word ks i h2, beq_self_eq_true]
    simp only [topic_Match.j4]
    rw [if_pos trivial, show wrap64 ((i : Int) + 1) = ((i + 1 : Nat) : Int) by unfold wrap64; omega]
    exact ih m (i + 1) (by omega) (by omega)

theorem jb_snoc (ks : List ByteArray) (h : ks ≠ []) : jb ks ++ (⟨#[46, 120]⟩ : ByteArray) = jb (ks ++ [⟨#[120]⟩]) := by
  apply bl_inj
  rw [bl_app, jb_bl, jb_bl, List.map_append]
  have tjs : ∀ a : List (List UInt8), tj (a ++ [bl ⟨#[120]⟩]) = tj a ++ [46, 120] := by
    intro a
    induction a with
    | nil => rfl
    | cons w r ih => simp only [List.cons_append, tj, ih, List.append_assoc]
  cases ks with
  | nil => exact absurd rfl h
  | cons w r =>
    simp only [List.map_cons, List.cons_append, joinL, List.map_nil, tjs, List.append_assoc]
    rfl

theorem makes_end (x0 x1 : List Int) (ks ps : List ByteArray) (n i : Int) (hk : Keys ks) (hp : Small ps) (hm : M ps ks) (h0 : ks ≠ []) (hn : ks.length ≤ 12) (hi : ¬ i < n) :
    ∃ F, ∀ k, F ≤ k → carrefourlaw7_TopicMakes.l1 k x0 x1 ks ps n i = some true := by
  by_cases h20 : (ps.length : Int) > 20
  · refine ⟨200, fun k hk' => ?_⟩
    obtain ⟨m, rfl⟩ : ∃ m, k = m + 1 := ⟨k - 1, by omega⟩
    simp only [carrefourlaw7_TopicMakes.l1]
    rw [if_neg hi, if_pos h20, told_at (by omega)]
    rfl
  obtain ⟨F1, e1⟩ := match_found ps ks hp hk.small (by omega) (by omega) hm
  obtain ⟨F2, e2⟩ := match_found ks ks hk.small hk.small (by omega) (by omega) (m_self ks hk.nc)
  obtain ⟨F3, e3⟩ := match_found [cross] ks (by intro w hw; rw [List.mem_singleton.mp hw]; exact ⟨rfl, by decide⟩) hk.small (by simp) (by omega) (m_all ks)
  refine ⟨F1 + F2 + F3 + 300, fun k hk' => ?_⟩
  obtain ⟨m, rfl⟩ : ∃ m, k = m + 1 := ⟨k - 1, by omega⟩
  have jp := join_small ps hp (by omega) m (by omega)
  have jk := join_small ks hk.small (by omega) m (by omega)
  have sx : Small (ks ++ [⟨#[120]⟩]) := hk.small.app (by intro w hw; rw [List.mem_singleton.mp hw]; exact ⟨rfl, by decide⟩)
  have e4 : topic_Match.f m (jb (ks ++ [⟨#[120]⟩])) (jb ks) = some false :=
    match_small _ ks sx hk.small (by simp; omega) (by omega) m (by omega) false (longer ks hk (by omega) ks.length (m - 1) 0 (by omega) (by omega))
  have sz := jb_small ks hk.small
  have c35 : (⟨#[35]⟩ : ByteArray) = jb [cross] := rfl
  simp only [carrefourlaw7_TopicMakes.l1]
  rw [if_neg hi, if_neg h20, told_at (by omega)]
  simp only [Option.bind_some, if_true]
  rw [jp]
  simp only [Option.bind_some]
  rw [jk]
  simp only [Option.bind_some]
  rw [e1 m (by omega)]
  simp only [Option.bind_some, if_true]
  rw [e2 m (by omega)]
  simp only [Option.bind_some, if_true]
  rw [c35, e3 m (by omega)]
  simp only [Option.bind_some, if_true]
  rw [if_pos (by omega), jb_snoc ks h0, e4]
  rfl

theorem makes_loop (x0 x1 : List Int) (n : Nat) (hn : n ≤ 12) (h1 : 1 ≤ n) (hx : n ≤ x0.length) (hy : n ≤ x1.length) (d : Nat) : ∀ (i : Nat) (ks ps : List ByteArray), i + d = n → ks.length = i → ps.length ≤ 2 * i → Keys ks → Small ps → M ps ks →
    ∃ F, ∀ k, F ≤ k → carrefourlaw7_TopicMakes.l1 k x0 x1 ks ps (n : Int) (i : Int) = some true := by
  induction d with
  | zero =>
    intro i ks ps hi hl _ hk hp hm
    exact makes_end x0 x1 ks ps n i hk hp hm (by intro e; rw [e] at hl; simp at hl; omega) (by omega) (by omega)
  | succ d ih =>
    intro i ks ps hi hl hpl hk hp hm
    have four : ∀ w0 : ByteArray, (w0 = ⟨#[97]⟩ ∨ w0 = ⟨#[98]⟩) → ∃ F, ∀ k, F ≤ k →
        carrefourlaw7_TopicMakes.l1 k x0 x1 (ks ++ [w0]) (ps ++ [star]) (n : Int) ((i + 1 : Nat) : Int) = some true ∧ carrefourlaw7_TopicMakes.l1 k x0 x1 (ks ++ [w0]) (ps ++ [cross]) (n : Int) ((i + 1 : Nat) : Int) = some true
        ∧ carrefourlaw7_TopicMakes.l1 k x0 x1 (ks ++ [w0]) (ps ++ [w0, cross]) (n : Int) ((i + 1 : Nat) : Int) = some true ∧ carrefourlaw7_TopicMakes.l1 k x0 x1 (ks ++ [w0]) (ps ++ [w0]) (n : Int) ((i + 1 : Nat) : Int) = some true := by
      intro w0 wl
      have kw : Keys [w0] := by intro w hw; rw [List.mem_singleton.mp hw]; exact wl
      have ks' : Keys (ks ++ [w0]) := by
        intro w hw
        rcases List.mem_append.mp hw with h | h
        · exact hk w h
        · exact kw w h
      have wnc := kw.nc _ (List.mem_singleton.mpr rfl)
      have sst : Small [star] := by intro w hw; rw [List.mem_singleton.mp hw]; exact ⟨rfl, by decide⟩
      have scr : Small [cross] := by intro w hw; rw [List.mem_singleton.mp hw]; exact ⟨rfl, by decide⟩
      have sm2 : Small [w0, cross] := by
        intro w hw
        rcases List.mem_cons.mp hw with h | h
        · rw [h]; exact kw.small w0 (List.mem_singleton.mpr rfl)
        · exact scr w h
      obtain ⟨Fa, ea⟩ := ih (i + 1) (ks ++ [w0]) (ps ++ [star]) (by omega) (by simp; omega) (by simp; omega) ks' (hp.app sst) (m_app hm (m_star _))
      obtain ⟨Fb, eb⟩ := ih (i + 1) (ks ++ [w0]) (ps ++ [cross]) (by omega) (by simp; omega) (by simp; omega) ks' (hp.app scr) (m_app hm (m_all _))
      obtain ⟨Fc, ec⟩ := ih (i + 1) (ks ++ [w0]) (ps ++ [w0, cross]) (by omega) (by simp; omega) (by simp; omega) ks' (hp.app sm2) (m_app hm (m_more _ wnc))
      obtain ⟨Fd, ed⟩ := ih (i + 1) (ks ++ [w0]) (ps ++ [w0]) (by omega) (by simp; omega) (by simp; omega) ks' (hp.app kw.small) (m_app hm (m_same _ wnc))
      exact ⟨Fa + Fb + Fc + Fd, fun k hk' => ⟨ea k (by omega), eb k (by omega), ec k (by omega), ed k (by omega)⟩⟩
    have up : wrap64 ((i : Int) + 1) = ((i + 1 : Nat) : Int) := by
      unfold wrap64
      omega
    obtain ⟨b, hb, b2⟩ : ∃ b, Go.bits .and .i64 (rd x0 i) 1 = b ∧ (b = 0 ∨ b = 1) := ⟨_, rfl, and_one _⟩
    obtain ⟨w0, hw0, wl⟩ : ∃ w0, letter b = w0 ∧ (w0 = ⟨#[97]⟩ ∨ w0 = ⟨#[98]⟩) := ⟨_, rfl, letter_is b b2⟩
    obtain ⟨F, hF⟩ := four w0 wl
    have w1 : wrap64 (1 + b) = 1 + b := by
      clear hb
      unfold wrap64
      omega
    refine ⟨F + 1, fun k hk' => ?_⟩
    obtain ⟨m, rfl⟩ : ∃ m, k = m + 1 := ⟨k - 1, by clear hb; omega⟩
    obtain ⟨ea, eb, ec, ed⟩ := hF m (by clear hb; omega)
    simp only [carrefourlaw7_TopicMakes.l1]
    rw [hb, w1, up]
    clear hb
    rw [if_pos (by omega), if_pos (by omega), if_pos (by omega), if_pos (by omega), if_pos (by omega), if_pos (by omega), if_pos (by omega)]
    simp only [Option.bind_some]
    rw [if_pos (by omega)]
    have lb : (⟨#[97, 98, 99]⟩ : ByteArray).extract b.toNat (1 + b).toNat = letter b := rfl
    rw [lb, hw0]
    have s42 : (⟨#[42]⟩ : ByteArray) = star := rfl
    have s35 : (⟨#[35]⟩ : ByteArray) = cross := rfl
    rw [s42, s35]
    by_cases c0 : wrap64 (Int.tmod (IntKind.u64.wrap (rd x1 i)) 5) = 0
    · rw [if_pos c0, if_pos (by omega)]
      exact ea
    rw [if_neg c0]
    by_cases c1 : wrap64 (Int.tmod (IntKind.u64.wrap (rd x1 i)) 5) = 1
    · rw [if_pos c1, if_pos (by omega)]
      exact eb
    rw [if_neg c1]
    by_cases c2 : wrap64 (Int.tmod (IntKind.u64.wrap (rd x1 i)) 5) = 2
    · rw [if_pos c2, if_pos (by simp; omega)]
      exact ec
    rw [if_neg c2, if_pos (by omega)]
    exact ed

theorem TopicMakes : carrefourlaw7_TopicMakes.Pure := by
  intro l0 l1 h0 h1
  have out : ∀ k, 200 ≤ k → carrefourlaw7_TopicMakes.j0 k l0 l1 [] [] (mn (l0.length : Int) 12) true = some true := by
    intro k hk
    obtain ⟨m, rfl⟩ : ∃ m, k = m + 1 := ⟨k - 1, by omega⟩
    simp only [carrefourlaw7_TopicMakes.j0, if_true]
    rw [told_at (by omega)]
    rfl
  have hmn : mn (l0.length : Int) 12 ≤ 12 ∧ mn (l0.length : Int) 12 ≤ l0.length := by
    unfold mn
    split <;> omega
  by_cases c1 : mn (l0.length : Int) 12 < 1
  · refine ⟨200, ?_⟩
    unfold carrefourlaw7_TopicMakes.f
    rw [if_pos c1]
    exact out 200 (by omega)
  by_cases c2 : (l1.length : Int) < mn (l0.length : Int) 12
  · refine ⟨200, ?_⟩
    unfold carrefourlaw7_TopicMakes.f
    rw [if_neg c1, decide_eq_true c2]
    exact out 200 (by omega)
  obtain ⟨n, hn⟩ : ∃ n : Nat, mn (l0.length : Int) 12 = (n : Int) := ⟨(mn (l0.length : Int) 12).toNat, by omega⟩
  rw [hn] at hmn c1 c2
  obtain ⟨F, hF⟩ := makes_loop l0 l1 n (by omega) (by omega) (by omega) (by omega) n 0 [] [] (by omega) rfl (by simp) (by intro w hw; cases hw) (by intro w hw; cases hw) rfl
  refine ⟨F + 1, ?_⟩
  unfold carrefourlaw7_TopicMakes.f
  rw [hn, if_neg c1, decide_eq_false c2]
  simp only [carrefourlaw7_TopicMakes.j0]
  rw [if_neg (by simp)]
  exact hF F (Nat.le_refl _)

end Go.Proofs.YtjnplofopiohaaaDoor.Pure
