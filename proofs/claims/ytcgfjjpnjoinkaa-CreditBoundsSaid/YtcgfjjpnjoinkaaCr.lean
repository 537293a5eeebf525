/-
  The credit behind a pointer: its three fields, and its methods' contracts.
  Conditions: none.
-/
import Derived.Test.YtcgfjjpnjoinkaaPCax1
import Derived.Deep.RegionWith
import Derived.Deep.RegionHeld3
import Derived.LoopN
namespace Go.Proofs.Ytcgfjjpnjoinkaa.Cr
open Go.RowKit Go.Proofs.YtcgfjjpnjoinkaaW.PrintWords Go.Proofs.YtcgfjjpnjoinkaaW.PrintLast Go.Proofs.YtcgfjjpnjoinkaaG Go.Proofs.Ytcgfjjpnjoinkaa.PCa
set_option linter.unusedVariables false
set_option linter.unusedSimpArgs false

/-- A walk halts here. -/
structure Hid (p : Prop) : Prop where
  out : p
theorem halt_here {p : Prop} (h : Hid p) : p := h.out
theorem w64 (x : Int) (h0 : -1099511627776 ≤ x) (h1 : x ≤ 1099511627776) : wrap64 x = x := by
  unfold wrap64
  omega
theorem thn {w W w' : World} (h : Below w.heap.size w W) (hb : Below W.heap.size W w') : Below w.heap.size w w' := h.trans (hb.mono h.size)
/-- A row of tags of one's own, all blocks from N on. -/
abbrev Tg (N : Nat) (w : World) (v : Value) (l : List Int) : Prop := Kd.R (Kd.int .u64) 26 w N (fun _ => True) v l
/-- The credit: its limit, the last tag, those that are open. -/
structure Cr (N : Nat) (w : World) (cp : Nat) (m last : Int) (l : List Int) (v : Value) : Prop where
  le : N ≤ cp
  blk : w.heap[cp]? = some (.cells #[.int .i64 m, .int .u64 last, v] 38 (0, 0))
  ro : Tg N w v l
theorem blk_c {w : World} {g t : Nat} {cs : Array Value} (h : w.heap[g]? = some (.cells cs t (0, 0))) (i : Nat) : w.cell? ⟨g, i, none⟩ = cs[i]? := cell_of_row w g i _ t (0, 0) h
theorem blk_f {w : World} {g t : Nat} {cs : Array Value} (h : w.heap[g]? = some (.cells cs t (0, 0))) (i : Nat) : w.frozen? ⟨g, i, none⟩ = false := by
  simp [World.frozen?, h]
theorem blk_set {w : World} {g t : Nat} {cs : Array Value} (h : w.heap[g]? = some (.cells cs t (0, 0))) (i : Nat) (u : Value) : (w.setCell ⟨g, i, none⟩ u).heap[g]? = some (.cells (cs.setIfInBounds i u) t (0, 0)) := by
  simp [World.setCell, Array.getElem?_modify, h]
theorem below_setN {M : Nat} {w W : World} {g j : Nat} {v : Value} (h : Below M w W) (hg : M ≤ g) : Below M w (W.setCell ⟨g, j, none⟩ v) := h.setCell hg _
section
variable {N : Nat} {w w1 : World} {cp : Nat} {m last : Int} {l : List Int} {v : Value}
theorem Cr.lt (h : Cr N w cp m last l v) : cp < w.heap.size := blk_lt h.blk
theorem Cr.base (h : Cr N w cp m last l v) : N ≤ w.heap.size := Nat.le_of_lt (Nat.lt_of_le_of_lt h.le h.lt)
theorem Cr.c0 (h : Cr N w cp m last l v) : w.cell? ⟨cp, 0, none⟩ = some (.int .i64 m) := blk_c h.blk 0
theorem Cr.c1 (h : Cr N w cp m last l v) : w.cell? ⟨cp, 1, none⟩ = some (.int .u64 last) := blk_c h.blk 1
theorem Cr.c2 (h : Cr N w cp m last l v) : w.cell? ⟨cp, 2, none⟩ = some v := blk_c h.blk 2
theorem Cr.fr (h : Cr N w cp m last l v) (i : Nat) : w.frozen? ⟨cp, i, none⟩ = false := blk_f h.blk i
theorem Cr.below (h : Cr N w cp m last l v) (hb : Below w.heap.size w w1) : Cr N w1 cp m last l v := ⟨h.le, (hb.block cp h.lt).trans h.blk, Kd.R_below h.ro hb⟩
theorem Cr.lower {M : Nat} (h : Cr N w cp m last l v) (hm : M ≤ N) : Cr M w cp m last l v := ⟨Nat.le_trans hm h.le, h.blk, Kd.R_lower h.ro hm⟩
theorem Cr.new {N : Nat} {w : World} {m : Int} (hN : N ≤ w.heap.size) : Cr N (w.alloc (.cells #[.int .i64 m, .int .u64 0, .slice none 0 0] 38)) w.heap.size m 0 [] (.slice none 0 0) :=
  ⟨hN, heap_alloc_new _ _, Kd.R_nil _ _ _ _ _⟩
theorem Cr.set0 (h : Cr N w cp m last l v) (k : Int) : Cr N (w.setCell ⟨cp, 0, none⟩ (.int .i64 k)) cp k last l v :=
  ⟨h.le, blk_set h.blk 0 _, Kd.R_set h.ro h.blk (by intro q hq; obtain rfl := List.mem_singleton.mp hq; decide) 0 _⟩
end

/-! ### New -/
theorem New_ok (m : Int) (h0 : 0 ≤ m) (h1 : m ≤ 65535) (w : World) : Calls Try.prog 5 #[.int .i64 m] w fun e w' => ∃ cp, e = .returned (.pointer (some ⟨cp, 0, none⟩)) ∧ w.heap.size ≤ cp ∧ Cr w.heap.size w' cp m 0 [] (.slice none 0 0) ∧ Below w.heap.size w w' := by
  have HF := Aside0.mk (show credit_may.f m = some true by
    unfold credit_may.f
    rw [if_pos (by omega), decide_eq_true (by omega)])
  clear h0 h1
  go_enter Try.func5, Try.ntmps5
  go_wp2_with (go_at_call 13; refine (credit_may.calls m true _ HF.out).mono ?_; rintro e w1 ⟨rfl, nd, rfl⟩)
  go_ret
  exact ⟨_, rfl, Nat.le_refl _, Cr.new (N := w.heap.size) (w := w.drewN nd) (Nat.le_refl _), (pw_below_drewN (Below.refl _ _) nd).alloc (Nat.le_refl _) _⟩
theorem New_no (m : Int) (h : m < 0 ∨ 65535 < m) (w : World) : Calls Try.prog 5 #[.int .i64 m] w fun e w' => e = .returned (.pointer none) ∧ Below w.heap.size w w' := by
  have HF := Aside0.mk (show credit_may.f m = some false by
    unfold credit_may.f
    by_cases c : m ≥ 0
    · rw [if_pos c, decide_eq_false (by omega)]
    · rw [if_neg c])
  clear h
  go_enter Try.func5, Try.ntmps5
  go_wp2_with (go_at_call 13; refine (credit_may.calls m false _ HF.out).mono ?_; rintro e w1 ⟨rfl, nd, rfl⟩)
  go_ret
  exact ⟨rfl, pw_below_drewN (Below.refl _ _) nd⟩

/-! ### most -/
def mostP (m : Int) : Int := if m = 0 then 1000 else m
theorem most_is {N : Nat} {w : World} {cp : Nat} {m last : Int} {l : List Int} {v : Value} (h : Cr N w cp m last l v) (k : Int) (hk : mostP m = k) : Calls Try.prog 14 #[.pointer (some ⟨cp, 0, none⟩)] w fun e w' => e = .returned (.int .i64 k) ∧ w' = w := by
  have h0 := h.c0
  unfold mostP at hk
  clear h
  by_cases c : m = 0
  · subst c
    rw [if_pos rfl] at hk
    subst hk
    go_enter Try.func14, Try.ntmps14
    go_wp2
    go_ret
    exact ⟨rfl, rfl⟩
  · rw [if_neg c] at hk
    subst hk
    have c2 : (m = 0) = False := eq_false c
    go_enter Try.func14, Try.ntmps14
    go_wp2
    go_ret
    exact ⟨rfl, rfl⟩

/-! ### Open -/
theorem Open_nil (w : World) : Calls Try.prog 7 #[.pointer none] w fun e w' => e = .returned (.slice none 0 0) ∧ w' = w := by
  go_enter Try.func7, Try.ntmps7
  go_wp2
  go_ret
  exact ⟨rfl, rfl⟩
theorem Free_nil (w : World) : Calls Try.prog 8 #[.pointer none] w fun e w' => e = .returned (.int .i64 0) ∧ w' = w := by
  go_enter Try.func8, Try.ntmps8
  go_wp2
  go_ret
  exact ⟨rfl, rfl⟩

/-! ### Limit -/
theorem Limit_nil (n : Int) (w : World) : Calls Try.prog 12 #[.pointer none, .int .i64 n] w fun e w' => e = .returned (.int .i64 7) ∧ w' = w := by
  go_enter Try.func12, Try.ntmps12
  go_wp2
  go_ret
  exact ⟨rfl, rfl⟩
theorem Limit_ok {N : Nat} {w : World} {cp : Nat} {m last : Int} {l : List Int} {v : Value} (h : Cr N w cp m last l v) (n : Int) (h0 : 0 ≤ n) (h1 : n ≤ 65535) : Calls Try.prog 12 #[.pointer (some ⟨cp, 0, none⟩), .int .i64 n] w fun e w' => e = .returned (.int .i64 0) ∧ Cr N w' cp n last l v ∧ Below N w w' := by
  have HL := Aside0.mk h
  have HF := Aside0.mk (show credit_may.f n = some true by
    unfold credit_may.f
    rw [if_pos (by omega), decide_eq_true (by omega)])
  have hc0 := h.c0
  have hf0 := h.fr 0
  clear h h0 h1
  go_enter Try.func12, Try.ntmps12
  go_wp2_with (go_at_call 13; refine (credit_may.calls n true _ HF.out).mono ?_; rintro e w1 ⟨rfl, nd, rfl⟩)
  go_ret
  exact ⟨rfl, (HL.out.below (pw_below_drewN (Below.refl _ _) nd)).set0 n, below_setN (pw_below_drewN (Below.refl N w) nd) HL.out.le⟩

/-! ### Take -/
theorem Take_nil (t : Int) (w : World) : Calls Try.prog 6 #[.pointer none, .int .u64 t] w fun e w' => e = .returned (.int .i64 7) ∧ w' = w := by
  go_enter Try.func6, Try.ntmps6
  go_wp2
  go_ret
  exact ⟨rfl, rfl⟩
theorem Take_old {N : Nat} {w : World} {cp : Nat} {m last : Int} {l : List Int} {v : Value} (h : Cr N w cp m last l v) (t : Int) (ht : t ≤ last) : Calls Try.prog 6 #[.pointer (some ⟨cp, 0, none⟩), .int .u64 t] w fun e w' => e = .returned (.int .i64 1) ∧ w' = w := by
  have hc1 := h.c1
  clear h
  go_enter Try.func6, Try.ntmps6
  go_wp2
  go_ret
  exact ⟨rfl, rfl⟩
end Go.Proofs.Ytcgfjjpnjoinkaa.Cr
