/-
  Loads, arcs, a point's lean: their contracts; rows of complex numbers that a call has made.
  Conditions: none.
-/
import Derived.Test.YtbkamlkmimfomaaPc
import Derived.Test.YtbkamlkmimfomaaPGax2
import Derived.Test.YtbkamlkmimfomaaW6
import Derived.Deep.AppendLies
import Derived.Deep.RegionHeld3
namespace Go.Proofs.Ytbkamlkmimfomaa
open Go.RowKit Go.Proofs.YtbkamlkmimfomaaW.PrintWords Go.Proofs.YtbkamlkmimfomaaW.PrintLast Go.Proofs.YtbkamlkmimfomaaFl Go.Proofs.YtbkamlkmimfomaaG Go.Proofs.Ytbkamlkmimfomaa.PGa
set_option linter.unusedVariables false
set_option linter.unusedSimpArgs false

/-- A shard's load. -/
def ldP (l : List Int) (a : Int) : Int := if (l.length : Int) ≤ a then 0 else sz (YtbkamlkmimfomaaW.PrintWords.rd l a)
theorem sz_range (n : Int) : 0 ≤ sz n ∧ sz n ≤ 1073741824 := by
  unfold sz
  split <;> omega
theorem ldP_range (l : List Int) (a : Int) : 0 ≤ ldP l a ∧ ldP l a ≤ 1073741824 := by
  unfold ldP
  split
  · omega
  · exact sz_range _
theorem Load_is (A : Option Addr) (c : Nat) (l : List Int) (a : Int) (w : World) (hr : Kd.C (Kd.int .i64) w A l.length l) (hc : l.length ≤ c) (ha : 0 ≤ a) :
    Calls Try.prog 32 #[.slice A l.length c, .int .i64 a] w fun e w' => e = .returned (.int .i64 (ldP l a)) ∧ Drawn0 w w' := by
  refine plan_load.calls 5 A c l a _ w hr hc ?_
  unfold plan_load.f ldP
  by_cases h : (l.length : Int) ≤ a
  · rw [if_pos h, if_pos h]
  · rw [if_neg h, if_neg h, if_pos ha, if_pos (show a < (l.length : Int) by omega), sz_is]
    rfl
/-- How many arcs a shard has. -/
def cntA (l : List S46) (s : Nat) : Nat := l.countP (fun x => decide (x.f1 = (s : Int)))
def manyP (n : Nat) (l : List S46) : List Int := (List.range n).map (fun s => ((cntA l s : Nat) : Int))
theorem manyP_length (n : Nat) (l : List S46) : (manyP n l).length = n := by simp [manyP]
theorem manyP_rd (n : Nat) (l : List S46) (s : Int) (h0 : 0 ≤ s) (h1 : s < n) : YtbkamlkmimfomaaW.PrintWords.rd (manyP n l) s = (cntA l s.toNat : Nat) := by
  simp [YtbkamlkmimfomaaW.PrintWords.rd, manyP, show s.toNat < n by omega]
theorem manyP_snoc (n : Nat) (l : List S46) (y : S46) (h0 : 0 ≤ y.f1) (h1 : y.f1 < n) : (manyP n l).set y.f1.toNat ((cntA l y.f1.toNat : Nat) + 1 : Int) = manyP n (l ++ [y]) := by
  apply List.ext_getElem
  · simp [manyP]
  · intro i h2 h3
    have hi : i < n := by rw [manyP_length] at h3; exact h3
    rw [List.getElem_set]
    simp only [manyP, List.getElem_map, List.getElem_range, cntA, List.countP_append, List.countP_singleton]
    by_cases e : y.f1.toNat = i
    · subst e
      rw [if_pos rfl, if_pos (by rw [decide_eq_true_eq]; omega)]
      omega
    · rw [if_neg e, if_neg (by rw [decide_eq_true_eq]; omega)]
      omega
theorem cntA_le (l : List S46) (s : Nat) : cntA l s ≤ l.length := List.countP_le_length
theorem arcs_loop (n : Nat) (l : List S46) (hn : n ≤ 1000000) (hl : l.length ≤ 1000000) (hx : ∀ x ∈ l, 0 ≤ x.f1 ∧ x.f1 < n) : ∀ m i : Nat, i + m = l.length → ∃ k, plan_arcs.l1 k (manyP n (l.take i)) l (l.length : Int) (i : Int) = some (manyP n l)
  | 0, i, hi => ⟨1, by
    have h0 : ¬ ((i : Int) < (l.length : Int)) := by omega
    unfold plan_arcs.l1
    rw [if_neg h0, List.take_of_length_le (by omega)]⟩
  | m + 1, i, hi => by
    have h0 : (i : Int) < (l.length : Int) := by omega
    have h1 : (0 : Int) ≤ (i : Int) := by omega
    have hw1 : wrap64 ((i : Int) + 1) = ((i + 1 : Nat) : Int) := (wr64 _ (by omega) (by omega)).trans (by omega)
    obtain ⟨y, hy⟩ : ∃ y, rd_T46 l (i : Int) = y := ⟨_, rfl⟩
    have hy' : l[i]? = some y := by rw [← hy]; exact rd46_at l i (by omega)
    have hb := hx y (List.mem_of_getElem? hy')
    obtain ⟨k, hk⟩ := arcs_loop n l hn hl hx m (i + 1) (by omega)
    refine ⟨k + 1, ?_⟩
    unfold plan_arcs.l1
    rw [if_pos h0, if_pos h1, if_pos h0, hy, if_pos hb.1, manyP_length, if_pos hb.2, hw1, manyP_rd _ _ _ hb.1 hb.2]
    have hc : cntA (l.take i) y.f1.toNat ≤ 1000000 := by
      have := cntA_le (l.take i) y.f1.toNat
      rw [List.length_take] at this
      omega
    rw [wr64 _ (by omega) (by omega), manyP_snoc _ _ _ hb.1 hb.2, ← take_snoc l i y hy', hk]
theorem arcs_f (ep : Int) (l : List S46) (ns : List Int) (hn : ns.length ≤ 1000000) (hl : l.length ≤ 1000000) (hx : ∀ x ∈ l, 0 ≤ x.f1 ∧ x.f1 < (ns.length : Int)) : ∃ k, plan_arcs.f k ep l ns = some (manyP ns.length l) := by
  obtain ⟨k, hk⟩ := arcs_loop ns.length l hn hl hx l.length 0 (by omega)
  refine ⟨k, ?_⟩
  unfold plan_arcs.f
  rw [if_pos (by omega), Int.toNat_natCast, if_pos (by omega)]
  have e : List.replicate ns.length (0 : Int) = manyP ns.length (l.take 0) := by
    apply List.ext_getElem <;> simp [manyP, cntA]
  rw [e]
  exact hk
/-- What a table that may be has. -/
theorem mayT_facts {ep : Int} {l : List S46} {ns : List Int} (h : mayT ep l ns = true) : 1 ≤ l.length ∧ l.length ≤ 1024 ∧ 1 ≤ ns.length ∧ ns.length ≤ 16 ∧ (∀ x ∈ l, 0 ≤ x.f1 ∧ x.f1 < (ns.length : Int) ∧ 0 ≤ YtbkamlkmimfomaaW.PrintWords.rd ns x.f1) ∧ (∀ n ∈ ns, -1 ≤ n ∧ n < 4) := by
  unfold mayT at h
  simp only [Bool.and_eq_true, Bool.not_eq_true', Bool.or_eq_false_iff, decide_eq_false_iff_not, List.any_eq_false] at h
  obtain ⟨⟨a1, a2, a3, a4, a5⟩, a6, a7⟩ := h
  have a3 : ringB l = true := by
    cases hr : ringB l with
    | true => rfl
    | false => rw [hr] at a3; simp at a3
  obtain ⟨⟨b1, b2⟩, b3⟩ := ringB_f1 a3
  refine ⟨b1, b2, by omega, by omega, fun x hx => ?_, fun n hn => ?_⟩
  · have := a7 x hx
    have hb := b3 x hx
    unfold mayArc at this
    simp only [Bool.or_eq_true, decide_eq_true_eq, not_or] at this
    omega
  · have := a6 n hn
    unfold badN at this
    simp only [Bool.or_eq_true, decide_eq_true_eq, not_or] at this
    omega
theorem Arcs_is (ep : Int) (A1 : Option Addr) (c1 : Nat) (l : List S46) (A2 : Option Addr) (c2 : Nat) (ns : List Int) (w : World) (hr1 : Kd.C k46 w A1 l.length l) (hc1 : l.length ≤ c1) (hr2 : Kd.C (Kd.int .i64) w A2 ns.length ns) (hc2 : ns.length ≤ c2) (hm : mayT ep l ns = true) :
    Calls Try.prog 30 #[.agg (cT ep A1 l.length c1 A2 ns.length c2)] w fun e w' => ∃ v0_ : Value, e = .returned v0_ ∧ Kd.R (Kd.int .i64) 3 w' w.heap.size (fun _ => True) v0_ (manyP ns.length l) ∧ Below w.heap.size w w' := by
  obtain ⟨b1, b2, b3, b4, b5, b6⟩ := mayT_facts hm
  obtain ⟨k, hk⟩ := arcs_f ep l ns (by omega) (by omega) (fun x hx => ⟨(b5 x hx).1, (b5 x hx).2.1⟩)
  exact plan_arcs.calls k ep A1 c1 l A2 c2 ns _ w hr1 hc1 hr2 hc2 hk
/-- A point's direction. -/
def dirP (p : Int) : Int := wrap64 (p / 1073741824)
theorem Dir_is (p : Int) (w : World) : Calls Try.prog 21 #[.int .u32 p] w fun e w' => e = .returned (.int .i64 (dirP p)) ∧ Drawn0 w w' := point_Dir.calls p _ w rfl
/-- A load that leans. -/
def pLean (p load : Int) : Nat × Nat := if load < 0 ∨ 1099511627776 < load then (0, 0) else spin (floatOfInt .f64 load, 0) (dirP p)
set_option maxHeartbeats 4000000 in
theorem PLean_is (p load : Int) (w : World) : Calls Try.prog 31 #[.int .u32 p, .int .i64 load] w fun e w' => e = .returned (.complex .f64 (pLean p load).1 (pLean p load).2) ∧ Drawn0 w w' := by
  by_cases h : load < 0
  · have hp : pLean p load = (0, 0) := if_pos (.inl h)
    rw [hp]
    have d : decide (load < 0) = true := decide_eq_true h
    clear h hp
    go_enter Try.func31, Try.ntmps31
    go_wp2
    go_ret
    exact ⟨rfl, by repeat (first | exact Drawn0.refl _ | apply Drawn0.step)⟩
  · by_cases h2 : 1099511627776 < load
    · have hp : pLean p load = (0, 0) := if_pos (.inr h2)
      rw [hp]
      have d : decide (load < 0) = false := decide_eq_false h
      have d2 : decide (1099511627776 < load) = true := decide_eq_true h2
      clear h h2 hp
      go_enter Try.func31, Try.ntmps31
      go_wp2
      go_ret
      exact ⟨rfl, by repeat (first | exact Drawn0.refl _ | apply Drawn0.step)⟩
    · have hp : pLean p load = spin (floatOfInt .f64 load, 0) (dirP p) := if_neg (by omega)
      rw [hp]
      have d : decide (load < 0) = false := decide_eq_false h
      have d2 : decide (1099511627776 < load) = false := decide_eq_false h2
      clear h h2 hp
      go_enter Try.func31, Try.ntmps31
      go_wp2_with (first
        | (go_at_call 21; with_reducible refine (Dir_is p _).mono ?_; rintro e w' ⟨rfl, ⟨nd, rfl⟩⟩)
        | (go_at_call 20; with_reducible refine (spin_is _ _ _ _).mono ?_; rintro e w' ⟨rfl, rfl⟩))
      go_ret
      exact ⟨rfl, _, rfl⟩
end Go.Proofs.Ytbkamlkmimfomaa
