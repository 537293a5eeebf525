/- Patterns of stars, and keys of words, as plain lists. -/
import Derived.Test.YtjnplofopiohaaaDoorTpB
namespace Go.Proofs.YtjnplofopiohaaaDoor.TpC
open Go.RowKit Go.Proofs.YtjnplofopiohaaaDoor.PGp Go.Proofs.YtjnplofopiohaaaDoorW.PrintWords Go.Proofs.YtjnplofopiohaaaDoorW.PrintLast Go.Proofs.YtjnplofopiohaaaDoor.TpB

def star : ByteArray := ⟨#[42]⟩
def cross : ByteArray := ⟨#[35]⟩
def ww : ByteArray := ⟨#[119]⟩

/-- Words of one byte, none of them a point. -/
def Small (ws : List ByteArray) : Prop := ∀ w ∈ ws, w = star ∨ w = cross ∨ w = ww
theorem Small.size {ws : List ByteArray} (h : Small ws) : ∀ w ∈ ws, w.size = 1 := by
  intro w hw
  rcases h w hw with rfl | rfl | rfl <;> rfl
theorem Small.dot {ws : List ByteArray} (h : Small ws) : ∀ w ∈ ws, 46 ∉ bl w := by
  intro w hw
  rcases h w hw with rfl | rfl | rfl <;> decide
theorem tj_small (ws : List ByteArray) (h : ∀ w ∈ ws, w.size = 1) : (tj (ws.map bl)).length = 2 * ws.length := by
  induction ws with
  | nil => rfl
  | cons w r ih =>
    have := ih fun y hy => h y (by simp [hy])
    have h1 := h w (by simp)
    have h2 := bl_size w
    simp only [List.map_cons, tj, List.length_cons, List.length_append]
    omega
theorem jb_small (ws : List ByteArray) (h : ∀ w ∈ ws, w.size = 1) : (jb ws).size = 2 * ws.length - 1 := by
  rw [← bl_size, jb_bl]
  cases ws with
  | nil => rfl
  | cons w r =>
    have := tj_small r fun y hy => h y (by simp [hy])
    have h1 := h w (by simp)
    have h2 := bl_size w
    simp only [List.map_cons, joinL, List.length_cons, List.length_append]
    omega

theorem words_small (ws : List ByteArray) (h : Small ws) (hn : ws.length ≤ 100) : topic_Words.f (jb ws) = some ws := by
  by_cases h0 : ws = []
  · subst h0
    kernel_rfl
  · have hs := jb_small ws h.size
    have : 0 < ws.length := List.length_pos_iff.mpr h0
    exact words_of_join ws h.dot h0 (by omega) (by omega)
theorem join_small (ws : List ByteArray) (h : Small ws) (hn : ws.length ≤ 100) (k : Nat) (hk : 101 ≤ k) : carrefourlaw7_join.f k ws = some (jb ws) :=
  join_tells ws k (by omega) (by omega) (by rw [tj_small ws h.size]; omega)
theorem few_small (ws : List ByteArray) (h : Small ws) (hn : ws.length ≤ 100) : topic_few.f (jb ws) = some (decide (ws.length ≤ 20)) := by
  have hs := jb_small ws h.size
  unfold topic_few.f
  rw [if_pos (by omega), words_small ws h hn]
  simp only [Option.bind_some, Option.some.injEq]
  exact decide_eq_decide.mpr (by omega)

theorem index_small (ws : List ByteArray) (h : Small ws) (hn : ws.length ≤ 100) (d : Nat) : ∀ (k i : Nat), i + d = ws.length → d < k →
    slices_IndexFunc_string_string__topic_May_1.l1 k ws (ws.length : Int) (i : Int) = some (-1) := by
  induction d with
  | zero =>
    intro k i hi hk
    obtain ⟨m, rfl⟩ : ∃ m, k = m + 1 := ⟨k - 1, by omega⟩
    simp only [slices_IndexFunc_string_string__topic_May_1.l1]
    rw [if_neg (by omega)]
  | succ d ih =>
    intro k i hi hk
    obtain ⟨m, rfl⟩ : ∃ m, k = m + 1 := ⟨k - 1, by omega⟩
    have hlt : i < ws.length := by omega
    have er : rdOf ByteArray.empty ws (i : Int) = ws[i] := by
      simp [rdOf, List.getD_eq_getElem?_getD, List.getElem?_eq_getElem hlt]
    have h1 := h.size _ (List.getElem_mem hlt)
    simp only [slices_IndexFunc_string_string__topic_May_1.l1]
    rw [if_pos (by omega), if_pos (by omega), if_pos (by omega), er]
    have e : topic_May_1.f ws[i] = some false := by
      unfold topic_May_1.f
      rw [if_neg (by omega)]
    rw [e]
    simp only [Option.bind_some]
    rw [if_neg (by simp), show wrap64 ((i : Int) + 1) = ((i + 1 : Nat) : Int) by unfold wrap64; omega]
    exact ih m (i + 1) (by omega) (by omega)
theorem may_small (ws : List ByteArray) (h : Small ws) (hn : ws.length ≤ 100) (k : Nat) (hk : 101 ≤ k) : topic_May.f k (jb ws) = some (decide (ws.length ≤ 20)) := by
  unfold topic_May.f
  rw [few_small ws h hn]
  simp only [Option.bind_some]
  by_cases h20 : ws.length ≤ 20
  · rw [decide_eq_true h20, if_pos rfl, words_small ws h hn]
    simp only [Option.bind_some]
    have e : slices_ContainsFunc_string_string__topic_May_1.f k ws = some false := by
      unfold slices_ContainsFunc_string_string__topic_May_1.f slices_IndexFunc_string_string__topic_May_1.f
      have := index_small ws h hn ws.length k 0 (by omega) (by omega)
      rw [show ((0 : Nat) : Int) = 0 from rfl] at this
      rw [this]
      rfl
    rw [e]
    rfl
  · rw [decide_eq_false h20, if_neg (by simp)]
theorem match_small (ps ks : List ByteArray) (hp : Small ps) (hk : Small ks) (np : ps.length ≤ 100) (nk : ks.length ≤ 100) (k : Nat) (h : 102 ≤ k) (b : Bool)
    (hb : ps.length ≤ 20 → ks.length ≤ 20 → topic_Match.l500 (k - 1) ps ks 0 0 (-1) 0 = some b) :
    topic_Match.f k (jb ps) (jb ks) = some (decide (ps.length ≤ 20 ∧ ks.length ≤ 20) && b) := by
  obtain ⟨m, rfl⟩ : ∃ m, k = m + 1 := ⟨k - 1, by omega⟩
  unfold topic_Match.f
  rw [may_small ps hp np _ (by omega), few_small ks hk nk]
  simp only [Option.bind_some]
  by_cases h1 : ps.length ≤ 20
  · rw [decide_eq_true h1, if_pos rfl]
    by_cases h2 : ks.length ≤ 20
    · have := hb h1 h2
      rw [Nat.add_sub_cancel] at this
      simp only [topic_Match.j0]
      rw [if_neg (by simpa using h2), words_small ps hp np, words_small ks hk nk]
      simp only [Option.bind_some]
      rw [this, decide_eq_true ⟨h1, h2⟩]
      rfl
    · simp only [topic_Match.j0]
      rw [if_pos (by simpa using h2), decide_eq_false (fun h => h2 h.2)]
      rfl
  · rw [decide_eq_false h1, if_neg (by simp)]
    simp only [topic_Match.j0]
    rw [if_pos trivial, decide_eq_false (fun h => h1 h.1)]
    rfl

theorem stars_small (n : Nat) : Small (List.replicate n star) := fun _ hw => Or.inl (List.eq_of_mem_replicate hw)
theorem ws_small (n : Nat) : Small (List.replicate n ww) := fun _ hw => Or.inr (Or.inr (List.eq_of_mem_replicate hw))
theorem cross_small : Small [cross] := fun _ hw => Or.inr (Or.inl (List.mem_singleton.mp hw))
theorem cross_jb : jb [cross] = cross := rfl

end Go.Proofs.YtjnplofopiohaaaDoor.TpC
