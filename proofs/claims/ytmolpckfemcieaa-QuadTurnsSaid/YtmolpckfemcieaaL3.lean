/-
  The walk of QuadTurns.
  Conditions: none.
-/
import Derived.Test.YtmolpckfemcieaaW7
namespace Go.Proofs.Ytmolpckfemcieaa
open Go.RowKit Go.Proofs.YtmolpckfemcieaaFl Go.Proofs.YtmolpckfemcieaaG
set_option maxHeartbeats 1000000

theorem spin_spin (c : Nat × Nat) (j k : Int) : spin (spin c j) k = spin c (j + k) := by
  have hj : j % 4 = 0 ∨ j % 4 = 1 ∨ j % 4 = 2 ∨ j % 4 = 3 := by omega
  have hk : k % 4 = 0 ∨ k % 4 = 1 ∨ k % 4 = 2 ∨ k % 4 = 3 := by omega
  rcases hj with hj | hj | hj | hj <;> rcases hk with hk | hk | hk | hk
  all_goals
    have h : (j + k) % 4 = 0 ∨ (j + k) % 4 = 1 ∨ (j + k) % 4 = 2 ∨ (j + k) % 4 = 3 := by omega
    rcases h with h | h | h | h
    all_goals first | (exfalso; omega) | (simp [spin, hj, hk, h, neg_neg])
theorem neg_num {n : Nat} (h : FloatKind.f64.format.order n n = some .eq) : FloatKind.f64.format.order (neg n) (neg n) = some .eq := by
  have e1 := order_self n
  have e2 := order_self (neg n)
  rw [h] at e1
  rw [rd_neg] at e2
  cases hn : rd n with
  | none => rw [hn] at e1; cases e1
  | some m =>
    rw [hn] at e2
    exact bne_eq_false_iff_eq.mp e2
theorem spin_num {a b : Nat} (ha : FloatKind.f64.format.order a a = some .eq) (hb : FloatKind.f64.format.order b b = some .eq) (k : Int) :
    FloatKind.f64.format.order (spin (a, b) k).1 (spin (a, b) k).1 = some .eq ∧ FloatKind.f64.format.order (spin (a, b) k).2 (spin (a, b) k).2 = some .eq := by
  unfold spin
  split
  · exact ⟨ha, hb⟩
  · split
    · exact ⟨neg_num ha, neg_num hb⟩
    · split
      · exact ⟨neg_num hb, ha⟩
      · exact ⟨hb, neg_num ha⟩
theorem spin_nan {a b : Nat} (h : FloatKind.f64.format.order a a ≠ some .eq ∨ FloatKind.f64.format.order b b ≠ some .eq) (k : Int) :
    FloatKind.f64.format.order (spin (a, b) k).1 (spin (a, b) k).1 ≠ some .eq ∨ FloatKind.f64.format.order (spin (a, b) k).2 (spin (a, b) k).2 ≠ some .eq := by
  have hn : ∀ n, FloatKind.f64.format.order n n ≠ some .eq → FloatKind.f64.format.order (neg n) (neg n) ≠ some .eq := fun n h1 h2 => h1 (by have := neg_num h2; rwa [neg_neg] at this)
  unfold spin
  split
  · exact h
  · split
    · exact h.imp (hn a) (hn b)
    · split
      · exact h.symm.imp (hn b) id
      · exact h.symm.imp id (hn a)
theorem mul_neg (a : Nat) : lift .mul (rd (neg a)) (rd (neg a)) = lift .mul (rd a) (rd a) := by
  rw [lift_rd, lift_rd]
  have hr : ∀ n, FloatKind.f64.format.read n = Ieee.double.read n := fun _ => rfl
  simp only [floatBits, Ieee.Format.mul, hr, read_neg]
  cases Ieee.double.read a with
  | nan s t => rfl
  | infinity s => cases s <;> rfl
  | number s m p => cases s <;> rfl
theorem norm_turned (a b : Nat) (k : Int) (h : k % 2 = 0) : lift .add (lift .mul (rd (spin (a, b) k).1) (rd (spin (a, b) k).1)) (lift .mul (rd (spin (a, b) k).2) (rd (spin (a, b) k).2)) = lift .add (lift .mul (rd a) (rd a)) (lift .mul (rd b) (rd b)) := by
  have : k % 4 = 0 ∨ k % 4 = 2 := by omega
  rcases this with h | h
  · rw [spin_0 (beq_iff_eq.mpr h)]
  · rw [spin_2 (beq_iff_eq.mpr h)]
    simp only [mul_neg]

/-- One turned, as the program lays it. -/
def tc (k : Int) : Nat × Nat := if k % 4 = 0 then (4607182418800017408, 0) else if k % 4 = 1 then (0, 4607182418800017408) else if k % 4 = 2 then (13830554455654793216, 0) else (0, 13830554455654793216)
theorem tc_is (k : Int) (w : World) : Calls Try.prog 14 #[.int .i64 k] w fun e w' => e = .returned (.complex .f64 (tc k).1 (tc k).2) ∧ w' = w := by
  refine (turn_is k w).mono ?_
  rintro e w' ⟨r, i, rfl, rfl, h⟩
  refine ⟨?_, rfl⟩
  unfold Turned at h
  unfold tc
  rcases h with ⟨h, rfl, rfl⟩ | ⟨h, rfl, rfl⟩ | ⟨h, rfl, rfl⟩ | ⟨h, rfl, rfl⟩ <;> simp [h]
/-- The product of two is a third. -/
def mulOk (a b c : Nat × Nat) : Bool := match cMulBits a.1 a.2 b.1 b.2 with
  | some (x, y) => (FloatKind.f64.format.order x c.1 == some .eq) && (FloatKind.f64.format.order y c.2 == some .eq)
  | none => false
theorem mulOk_elim {a b c : Nat × Nat} (h : mulOk a b c = true) : ∃ x y, cMulBits a.1 a.2 b.1 b.2 = some (x, y) ∧ FloatKind.f64.format.order x c.1 = some .eq ∧ FloatKind.f64.format.order y c.2 = some .eq := by
  unfold mulOk at h
  split at h
  · rename_i x y hxy
    simp only [Bool.and_eq_true, beq_iff_eq] at h
    exact ⟨x, y, hxy, h.1, h.2⟩
  · cases h
def tn : Nat → Nat × Nat
  | 0 => (4607182418800017408, 0)
  | 1 => (0, 4607182418800017408)
  | 2 => (13830554455654793216, 0)
  | _ => (0, 13830554455654793216)
theorem tc_tn (k : Int) : tc k = tn (k % 4).toNat := by
  have h : k % 4 = 0 ∨ k % 4 = 1 ∨ k % 4 = 2 ∨ k % 4 = 3 := by omega
  unfold tc
  rcases h with h | h | h | h <;> rw [h] <;> rfl
theorem tn_ok : ∀ i, i < 4 → ∀ j, j < 4 → mulOk (tn i) (tn j) (tn ((i + j) % 4)) = true := by
  intro i hi j hj
  have h1 : i = 0 ∨ i = 1 ∨ i = 2 ∨ i = 3 := by omega
  have h2 : j = 0 ∨ j = 1 ∨ j = 2 ∨ j = 3 := by omega
  rcases h1 with rfl | rfl | rfl | rfl <;> rcases h2 with rfl | rfl | rfl | rfl
  all_goals decide +kernel
theorem tc_mul (j k : Int) : ∃ x y, cMulBits (tc j).1 (tc j).2 (tc k).1 (tc k).2 = some (x, y) ∧ FloatKind.f64.format.order x (tc (j + k)).1 = some .eq ∧ FloatKind.f64.format.order y (tc (j + k)).2 = some .eq := by
  refine mulOk_elim ?_
  have := tn_ok (j % 4).toNat (by omega) (k % 4).toNat (by omega)
  rw [tc_tn, tc_tn, tc_tn, show ((j + k) % 4).toNat = ((j % 4).toNat + (k % 4).toNat) % 4 by omega]
  exact this

theorem QuadTurns_is (a b : Nat) (m : Int) (_ : (Lit.int .i64 m).wf = true) (n : Int) (_ : (Lit.int .i64 n).wf = true) (w : World) : Calls Try.prog 3 #[.float .f64 a, .float .f64 b, .int .i64 m, .int .i64 n] w fun e w' => e = .returned (.bool true) ∧ Below w.heap.size w w' := by
  have bd : ∀ m : Int, -1000 ≤ wrap64 (wrap64 ((IntKind.u64.wrap m).tmod 2001) - 1000) ∧ wrap64 (wrap64 ((IntKind.u64.wrap m).tmod 2001) - 1000) ≤ 1000 := by
    intro m
    rw [IntKind.wrap_u64]
    unfold wrap64
    have : 0 ≤ m % 18446744073709551616 := Int.emod_nonneg _ (by omega)
    rw [Int.tmod_eq_emod_of_nonneg this]
    omega
  obtain ⟨J, hJ⟩ : ∃ J, wrap64 (wrap64 ((IntKind.u64.wrap m).tmod 2001) - 1000) = J := ⟨_, rfl⟩
  obtain ⟨K, hK⟩ : ∃ K, wrap64 (wrap64 ((IntKind.u64.wrap n).tmod 2001) - 1000) = K := ⟨_, rfl⟩
  obtain ⟨J1, J2⟩ := bd m
  obtain ⟨K1, K2⟩ := bd n
  rw [hJ] at J1 J2
  rw [hK] at K1 K2
  clear bd
  obtain ⟨S, hS⟩ : ∃ S, spin ((spin (a, b) J).1, (spin (a, b) J).2) K = S := ⟨_, rfl⟩
  have hT : spin (a, b) (J + K) = S := by rw [← hS, ← spin_spin]
  by_cases ha : FloatKind.f64.format.order a a = some .eq
  · by_cases hb : FloatKind.f64.format.order b b = some .eq
    · obtain ⟨s1, s2⟩ := spin_num ha hb (J + K)
      rw [hT] at s1 s2
      have h4 : spin (a, b) 4 = (a, b) := rfl
      obtain ⟨N, hN⟩ : ∃ N, spin (a, b) (2 * J) = N := ⟨_, rfl⟩
      have nt := norm_turned a b (2 * J) (by omega)
      rw [hN] at nt
      obtain ⟨x, y, hm, ox, oy⟩ := tc_mul J K
      have hm := fun w => run_complex_mul (P := Try.prog) w 23 _ _ _ _ _ _ hm
      go_enter Try.func3, Try.ntmps3
      go_wp2_with (first
    | (go_at_call 9; refine (Z_is _ _ _).mono ?_; rintro e w'' ⟨rfl, hw⟩; rw [hw]; clear hw)
    | (go_at_call 10; refine (spin_is _ _ _ _).mono ?_; rintro e w'' ⟨rfl, hw⟩; rw [hw]; clear hw)
    | (go_at_call 11; refine (told_is _).mono ?_; rintro e w'' ⟨rfl, bel⟩)
    | (go_at_call 12; refine (Float_is _ _ _).mono ?_; rintro e w'' ⟨rfl, hw⟩; rw [hw]; clear hw)
    | (go_at_call 13; refine (norm_is _ _ _).mono ?_; rintro e w'' ⟨r_, k_, rfl, rfl, hn_⟩)
    | (go_at_call 14; refine (tc_is _ _).mono ?_; rintro e w'' ⟨rfl, hw⟩; rw [hw]; clear hw))
      go_ret
      exact ⟨rfl, below_drewN bel _⟩
    · obtain ⟨s1, s2⟩ | ⟨s1, s2⟩ : FloatKind.f64.format.order S.1 S.1 = some .eq ∧ FloatKind.f64.format.order S.2 S.2 ≠ some .eq ∨ FloatKind.f64.format.order S.1 S.1 ≠ some .eq ∧ True := by
        have := spin_nan (a := a) (b := b) (.inr hb) (J + K)
        rw [hT] at this
        by_cases h : FloatKind.f64.format.order S.1 S.1 = some .eq
        · exact .inl ⟨h, this.resolve_left fun h' => h' h⟩
        · exact .inr ⟨h, trivial⟩
      all_goals try have s1' := bne_iff_ne.mpr s1
      all_goals
        have hb' := bne_iff_ne.mpr hb
        clear hb
        go_enter Try.func3, Try.ntmps3
        go_wp2_with (first
    | (go_at_call 9; refine (Z_is _ _ _).mono ?_; rintro e w'' ⟨rfl, hw⟩; rw [hw]; clear hw)
    | (go_at_call 10; refine (spin_is _ _ _ _).mono ?_; rintro e w'' ⟨rfl, hw⟩; rw [hw]; clear hw)
    | (go_at_call 11; refine (told_is _).mono ?_; rintro e w'' ⟨rfl, bel⟩)
    | (go_at_call 12; refine (Float_is _ _ _).mono ?_; rintro e w'' ⟨rfl, hw⟩; rw [hw]; clear hw)
    | (go_at_call 13; refine (norm_is _ _ _).mono ?_; rintro e w'' ⟨r_, k_, rfl, rfl, hn_⟩)
    | (go_at_call 14; refine (tc_is _ _).mono ?_; rintro e w'' ⟨rfl, hw⟩; rw [hw]; clear hw))
        go_ret
        first | exact ⟨rfl, bel⟩ | exact ⟨congrArg (fun b => Ending.returned (.bool b)) (bne_iff_ne.mpr s2), bel⟩
  · obtain ⟨s1, s2⟩ | ⟨s1, s2⟩ : FloatKind.f64.format.order S.1 S.1 = some .eq ∧ FloatKind.f64.format.order S.2 S.2 ≠ some .eq ∨ FloatKind.f64.format.order S.1 S.1 ≠ some .eq ∧ True := by
      have := spin_nan (a := a) (b := b) (.inl ha) (J + K)
      rw [hT] at this
      by_cases h : FloatKind.f64.format.order S.1 S.1 = some .eq
      · exact .inl ⟨h, this.resolve_left fun h' => h' h⟩
      · exact .inr ⟨h, trivial⟩
    all_goals try have s1' := bne_iff_ne.mpr s1
    all_goals
      have ha' := bne_iff_ne.mpr ha
      clear ha
      go_enter Try.func3, Try.ntmps3
      go_wp2_with (first
    | (go_at_call 9; refine (Z_is _ _ _).mono ?_; rintro e w'' ⟨rfl, hw⟩; rw [hw]; clear hw)
    | (go_at_call 10; refine (spin_is _ _ _ _).mono ?_; rintro e w'' ⟨rfl, hw⟩; rw [hw]; clear hw)
    | (go_at_call 11; refine (told_is _).mono ?_; rintro e w'' ⟨rfl, bel⟩)
    | (go_at_call 12; refine (Float_is _ _ _).mono ?_; rintro e w'' ⟨rfl, hw⟩; rw [hw]; clear hw)
    | (go_at_call 13; refine (norm_is _ _ _).mono ?_; rintro e w'' ⟨r_, k_, rfl, rfl, hn_⟩)
    | (go_at_call 14; refine (tc_is _ _).mono ?_; rintro e w'' ⟨rfl, hw⟩; rw [hw]; clear hw))
      go_ret
      first | exact ⟨rfl, bel⟩ | exact ⟨congrArg (fun b => Ending.returned (.bool b)) (bne_iff_ne.mpr s2), bel⟩
end Go.Proofs.Ytmolpckfemcieaa
