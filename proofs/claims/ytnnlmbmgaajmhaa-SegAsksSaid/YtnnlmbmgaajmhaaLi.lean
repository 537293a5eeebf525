/-
  What is left behind a crash: its contract.
  Conditions: none.
-/
import Derived.Test.YtnnlmbmgaajmhaaLh
import Derived.LoopN
namespace Go.Proofs.Ytnnlmbmgaajmhaa.Seg
open Go.RowKit Go.Proofs.YtnnlmbmgaajmhaaW.PrintWords Go.Proofs.YtnnlmbmgaajmhaaW.PrintLast Go.Proofs.YtnnlmbmgaajmhaaW.PrintMore Go.Proofs.YtnnlmbmgaajmhaaG Go.Proofs.Ytnnlmbmgaajmhaa.PGa
set_option linter.unusedVariables false
set_option linter.unusedSimpArgs false

/-! ### slices.Grow of the nil slice -/
theorem Grow_is (n : Int) (h0 : 0 ≤ n) (hn : n ≤ 140737488355328) (w : World) : Calls Try.prog 38 #[.slice none 0 0, .int .i64 n] w fun e w' => ∃ v, e = .returned v ∧ By w.heap.size w' v [] ∧ Below w.heap.size w w' := by
  have HN := Aside0.mk hn
  have h1 : ¬ (n < 0) := by omega
  rcases Int.lt_or_le 0 n with hp | hp
  · have h2 : n > 0 := hp
    have h3 : wrap64 n = n := by unfold wrap64; omega
    clear hn
    go_enter Try.func38, Try.ntmps38
    go_upto_region 5 with fail
    go_wp2_with (at_builtin; refine halt_here ?_)
    refine Hid.mk ?_
    refine Kd.R_append_zeros (Kd.int .u8) (w0 := w) w.heap.size rfl (.tmp 20) (.tmp 21) 22 3 5 (.int .u8 0) 1 rfl Try.underlying22 Try.underlying3 info5 rfl (by decide) (by decide) (.slice none 0 0) [] 0 n (fun _ => True) rfl rfl rfl (fun _ _ => trivial) (Kd.R_nil _ _ _ _ _) (by omega) (Below.refl _ _) (Nat.le_refl _) ?_ ?_
    · have := HN.out
      simp
      omega
    intro v1 w1 ho hb hg hat
    obtain ⟨A1, c1, rfl⟩ := Kd.R_slice ho
    have ho2 := Aside0.mk (Kd.R_take (m := 0) ho (by omega))
    obtain ⟨m, hm⟩ : ∃ m, m = ([] ++ List.replicate n.toNat (0 : Int)).length := ⟨_, rfl⟩
    rw [← hm] at ho
    rw [← hm]
    have HB := Aside0.mk hb
    clear hm ho hb hg hat
    go_wp2
    go_ret
    exact ⟨_, rfl, ho2.out, HB.out⟩
  · obtain rfl : n = 0 := by omega
    clear HN hp h0 hn
    go_enter Try.func38, Try.ntmps38
    go_wp2
    go_ret
    exact ⟨_, rfl, Kd.R_nil _ _ _ _ _, Below.refl _ _⟩

/-! ### slices.Concat of two rows -/
theorem blk_below {w w1 : World} {g t : Nat} {cs : Array Value} (h : w.heap[g]? = some (.cells cs t (0, 0))) (hb : Below w.heap.size w w1) : w1.heap[g]? = some (.cells cs t (0, 0)) := (hb.block g (blk_lt h)).trans h
theorem Concat_is (g : Nat) (A1 A2 : Option Addr) (c1 c2 : Nat) (xs ys : List Int) (w : World) (hb : w.heap[g]? = some (.cells #[.slice A1 xs.length c1, .slice A2 ys.length c2] 22 (0, 0)))
    (hx : Kd.C (Kd.int .u8) w A1 xs.length xs) (hy : Kd.C (Kd.int .u8) w A2 ys.length ys) (hl : xs.length + ys.length ≤ 140737488355328) :
    Calls Try.prog 37 #[.slice (some ⟨g, 0, none⟩) 2 2] w fun e w' => ∃ v, e = .returned v ∧ By w.heap.size w' v (xs ++ ys) ∧ Below w.heap.size w w' := by
  have HX := Aside0.mk hx
  have HY := Aside0.mk hy
  have HLL := Aside0.mk hl
  have HG := Aside0.mk hb
  have hk0 : w.cell? ⟨g, 0, none⟩ = some (.slice A1 xs.length c1) := blk_c hb 0
  have hk1 : w.cell? ⟨g, 1, none⟩ = some (.slice A2 ys.length c2) := blk_c hb 1
  have hw1 : wrap64 (xs.length : Int) = xs.length := by unfold wrap64; omega
  have hw2 : wrap64 ((xs.length : Int) + ys.length) = (xs.length : Int) + ys.length := by unfold wrap64; omega
  have hn1 : ¬ ((xs.length : Int) < 0) := by omega
  have hn2 : ¬ ((xs.length : Int) + ys.length < 0) := by omega
  clear hb hx hy hl
  go_enter Try.func37, Try.ntmps37
  go_wp2
  refine wp_loop_rounds 3 ?_
  rw [rounds_succ]
  go_wp2
  rw [rounds_succ]
  go_wp2
  rw [rounds_succ]
  go_wp2_with (go_at_call 38; refine (Grow_is _ (by omega) (by have := HLL.out; omega) _).mono ?_; rintro e w1 ⟨v, rfl, hv, hb⟩; have HV := Aside0.mk hv; have HB := Aside0.mk hb; clear hv hb)
  have hk0 := blk_c (blk_below HG.out HB.out) 0
  have hk0 : w1.cell? ⟨g, 0, none⟩ = some (.slice A1 xs.length c1) := hk0
  refine wp_loop_rounds 3 ?_
  rw [rounds_succ]
  go_wp2_with (at_builtin; refine halt_here ?_)
  refine Hid.mk ?_
  have hsz : w.heap.size ≤ w1.heap.size := HB.out.size
  refine append_by rfl (.tmp 31) (.tmp 32) rfl w.heap.size v [] xs A1 c1 rfl rfl HV.out (Kd.C_below HX.out HB.out) hsz (by have := HLL.out; simp; omega) ?_
  intro v1 w2 ho hg hb2 hat
  rw [List.nil_append] at ho
  have HO := Aside0.mk ho
  have HB2 := Aside0.mk (HB.out.trans hb2)
  have hk1 := blk_c (blk_below HG.out HB2.out) 1
  have hk1 : w2.cell? ⟨g, 1, none⟩ = some (.slice A2 ys.length c2) := hk1
  clear ho hg hb2 hat hk0 hsz
  go_wp2
  rw [rounds_succ]
  go_wp2_with (at_builtin; refine halt_here ?_)
  refine Hid.mk ?_
  have hsz : w.heap.size ≤ w2.heap.size := HB2.out.size
  refine append_by rfl (.tmp 31) (.tmp 32) rfl w.heap.size v1 xs ys A2 c2 rfl rfl HO.out (Kd.C_below HY.out HB2.out) hsz HLL.out ?_
  intro v2 w3 ho hg hb2 hat
  have HO2 := Aside0.mk ho
  have HB3 := Aside0.mk (HB2.out.trans hb2)
  clear ho hg hb2 hat hk1 hsz
  go_wp2
  rw [rounds_succ]
  go_wp2
  go_ret
  exact ⟨_, rfl, HO2.out, HB3.out⟩
