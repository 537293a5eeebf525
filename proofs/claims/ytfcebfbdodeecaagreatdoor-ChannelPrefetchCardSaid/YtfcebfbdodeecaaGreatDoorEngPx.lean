/-
  ChannelPrefetch: for every two numbers the law's call returns true.
  Conditions: none.
-/
import Derived.Test.YtfcebfbdodeecaaGreatDoorEngPw
namespace Go.Eng
open Go Go.Lib Go.RowKit
set_option linter.unusedVariables false
set_option maxRecDepth 20000
section
variable {N : Nat → Prop} {r : Rn} {a : Act} {w W : World} {Q : Exit → Act → World → Prop} {R : Ending → World → Prop}
theorem part_view {P : Program} {K : CallF} {ops : Array Oper} {H : AH} {f : Fr} {m : Nat} (hK : KS P K) {l1 l2 : List Oper} {C' : Cn} {I : List Nat} (hv : viewO (C'.live.map Prod.fst) I (opsB P K ops.toList l1 f H) = some (C'.view m I)) (hok : C'.okB I = true)
    (hI : Inv P N r H w) (hF : AF r f a) (hq : ∀ s x' c' w', Inv P N s C'.h w' → AF s (C'.fr m x') c' → (∀ p, r (2 ^ hd) = some p → s (2 ^ hd) = some p) → Bel N w w' → wpList P ops Q l2 c' w') : wpList P ops Q (l1 ++ l2) a w := by
  have hx : okO1 (opsB P K ops.toList l1 f H) = true := by
    cases h : opsB P K ops.toList l1 f H with
    | ok a1 H1 => rfl
    | bad l => rw [h] at hv; cases hv
  refine part_fast hK hx hI hF fun s c' w' g1 g2 g3 g4 => ?_
  have e := okO1_eq hx
  rw [e] at hv
  obtain ⟨s', x', k1, k2, k3⟩ := canon C' g3 g2 hok (Option.some.inj hv)
  exact hq s' x' c' w' k1 k2 (fun p hp => by rw [k3]; exact g1 _ _ hp) g4
theorem asN_view {S I : List Nat} {f : Fr → AH → ExR} {X : OpsR} {v : Nat × List Value × List (Option AObj)} (h : viewN S I (exThen f (asN X)) = some v) : okO1 X = true ∧ viewN S I (f (fO X) (hO X)) = some v := by
  cases X with
  | ok a H => exact ⟨rfl, h⟩
  | bad l => cases h
theorem asN_ends {P : Program} {fn : Func} {f : Fr → AH → ExR} {X : OpsR} (h : endsB P fn (exThen f (asN X)) = true) : okO1 X = true ∧ endsB P fn (f (fO X) (hO X)) = true := by
  cases X with
  | ok a H => exact ⟨rfl, h⟩
  | bad l => cases h
theorem headp {i M K : Int} {t : Nat} {x : Nat → Value} (hI : Inv p16 N r (pB i M K t).h w) (hF : AF r ((pB i M K t).fr 157 x) a)
    (hq : ∀ s x' c' w', Inv p16 N s (pB i M K t).h w' → AF s ((pB i M K t).fr 157 x') c' → c'.eval (.tmp 69) = .bool (decide (i ≤ K)) → Bel N w w' → Q .normal c' w') : q7h.wp p16 Q a w := by
  rw [q7h_eq]
  refine wp_region_list ?_
  rw [o12_cut]
  refine part_fast kS (h12_ok i M K t x) hI hF fun s c' w' g f k e => ?_
  have k : Inv p16 N s (hO (h12 i M K t x)) w' := k
  rw [h12_h] at k
  obtain ⟨x', fx⟩ := refr f (h12_live i M K t x)
  exact hq s x' c' w' k fx (eval_bool f (h12_69 i M K t x)) e
theorem nextp {i M K : Int} {t : Nat} {x : Nat → Value} (hI : Inv p16 N r (pB i M K t).h w) (hF : AF r ((pB i M K t).fr 157 x) a)
    (hq : ∀ s x' c' w', Inv p16 N s (pB (IntKind.i64.wrap (i + 1)) M K t).h w' → AF s ((pB (IntKind.i64.wrap (i + 1)) M K t).fr 157 x') c' → Bel N w w' → Q .normal c' w') : q7n.wp p16 Q a w := by
  rw [q7n_eq]
  refine wp_region_list ?_
  rw [o13_cut]
  refine part_fast kS (h13_ok i M K t x) hI hF fun s c' w' g f k e => ?_
  have k : Inv p16 N s (hO (h13 i M K t x)) w' := k
  rw [h13_h] at k
  obtain ⟨x', fx⟩ := refr f (h13_live i M K t x)
  exact hq s x' c' w' k fx e
theorem body {i M K e : Int} {t t' : Nat} {g : List Value} {I : List Nat} {b : Bool} {x : Nat → Value} (hi : IntKind.u64.wrap i = i) (v1 : ∀ x, viewO [5, 6, 7, 14, 15, 16] I (b2 i M K t x) = some ((pE i M K t' e g).view 157 I)) (k1 : (pE i M K t' e g).okB I = true)
    (hb : decide (i ≤ M) = b) (v2 : ∀ x, viewN [5, 6, 7, 14] [0, 1, 2, 3, 4] (b5 i M K t' e g x b) = some ((pB i M K t').view 157 [0, 1, 2, 3, 4])) (k2 : (pB i M K t').okB [0, 1, 2, 3, 4] = true)
    (hI : Inv p16 N r (pB i M K t).h w) (hF : AF r ((pB i M K t).fr 157 x) a)
    (hq : ∀ s x' c' w', Inv p16 N s (pB i M K t').h w' → AF s ((pB i M K t').fr 157 x') c' → Bel N w w' → Q .normal c' w') : q7w.wp p16 Q a w := by
  rw [q7w_cut]
  refine wp_seq (wp_region_list ?_)
  rw [o14_cut]
  refine part_fast kS (b1_ok i M K t x) hI hF fun s1 c1 w1 g1 f1 i1 e1 => ?_
  have f1' := f1.name (b1_75 i M K t x) (congrArg (Value.int .u64) hi)
  refine part_view (C' := pE i M K t' e g) kS (v1 x) k1 i1 f1' fun s2 x2 c2 w2 i2 f2 h2 e2 => ?_
  show ((Code.region 15 o15 false).seq q7e).wp p16 Q c2 w2
  refine wp_seq (wp_region_list ?_)
  rw [o15_cut]
  refine part_fast kS (b3_ok i M K t' e g x2) i2 f2 fun s3 c3 w3 g3 f3 i3 e3 => ?_
  have f3' := f3.name (b3_84 i M K t' e g x2) (congrArg Value.bool hb)
  obtain ⟨q1, q2⟩ := asN_view (v2 x2)
  refine part_fast kS q1 i3 f3' fun s4 c4 w4 g4 f4 i4 e4 => ?_
  show q7e.wp p16 Q c4 w4
  exact wp_short (C' := pB i M K t') (eS 1000000) q2 k2 i4 f4 fun s5 x5 c5 w5 i5 f5 h5 e5 => hq s5 x5 c5 w5 i5 f5 (e1.trans (e2.trans (e3.trans (e4.trans e5))))
/-! behind the loop -/
theorem zero_ret (i M K : Int) (x : Nat → Value) : retB p16 Go.Proofs.Tryz.f7 (execB p16 K17 1000000 none q7x ((pB i M K 0).fr 157 x) (pB i M K 0).h) = true := by kernel_rfl
noncomputable def l19c : List Oper := o19.toList.take 4
theorem o19_cut2 : o19.toList = l19c ++ (l19b ++ []) := by kernel_rfl
noncomputable def k19 (i M K : Int) (t : Nat) (x : Nat → Value) : OpsR := opsB p16 K17 o19.toList l19c ((pB i M K t).fr 157 x) (pB i M K t).h
theorem k19_ok (i M K : Int) (t : Nat) (x : Nat → Value) : okO1 (k19 i M K t x) = true := by kernel_rfl
theorem k19_116 (i M K : Int) (t : Nat) (x : Nat → Value) : slot (fO (k19 i M K t x)) 116 = .int .i64 (if M < K then M else K) := by kernel_rfl
theorem k19_h (i M K : Int) (t : Nat) (x : Nat → Value) : hO (k19 i M K t x) = (pZ M K t).h := by kernel_rfl
theorem k19_live (i M K : Int) (t : Nat) (x : Nat → Value) : ((putD (fO (k19 i M K t x)) (some 116) (.int .i64 (Int.ofNat t))).m, (pZ M K t).live.map fun e => slotB (putD (fO (k19 i M K t x)) (some 116) (.int .i64 (Int.ofNat t))) e.1) = (157, (pZ M K t).live.map Prod.snd) := by kernel_rfl
theorem endp {i : Int} {m k t : Nat} {x : Nat → Value} (hm : 1 ≤ m) (hm2 : m < 21) (ht : t = if m < k then m else k) (hI : Inv p16 N r (pB i (Int.ofNat m) (Int.ofNat k) t).h w) (hF : AF r ((pB i (Int.ofNat m) (Int.ofNat k) t).fr 157 x) a)
    (hR : ∀ w', Bel N w w' → R (.returned (.bool true)) w') : q7z.wp p16 (bodyPost p16 Go.Proofs.Tryz.f7 R) a w := by
  rw [q7z_cut]
  refine wp_seq (wp_seq (wp_region_list ?_))
  rw [o17_cut]
  refine part_fast kS (h17_ok i (Int.ofNat m) (Int.ofNat k) t x) hI hF fun s1 c1 w1 g1 f1 i1 e1 => ?_
  have v106 := eval_bool f1 (h17_106 i (Int.ofNat m) (Int.ofNat k) t x)
  have i1 : Inv p16 N s1 (hO (h17 i (Int.ofNat m) (Int.ofNat k) t x)) w1 := i1
  rw [h17_h] at i1
  obtain ⟨x1, f1'⟩ := refr f1 (h17_live i (Int.ofNat m) (Int.ofNat k) t x)
  show (Code.cond (.tmp 106) q7x .skip).wp p16 _ c1 w1
  by_cases hk : k = 0
  · subst hk
    obtain rfl : t = 0 := by rw [ht, if_neg (by omega)]
    refine wp_cond v106 ?_
    rw [show decide ((Int.ofNat 0) = 0) = true from rfl, if_pos rfl]
    exact wp_retq (eS 1000000) (zero_ret i (Int.ofNat m) (Int.ofNat 0) x1) i1 f1' (fun w' h => hR w' (e1.trans h)) (fun c' w' h => h)
  · refine wp_cond v106 ?_
    rw [show decide ((Int.ofNat k) = 0) = false from decide_eq_false (fun e => hk (Int.ofNat.inj e)), if_neg (by simp)]
    refine wp_skip ?_
    show ((Code.region 19 o19 false).seq q7y).wp p16 _ c1 w1
    refine wp_seq (wp_region_list ?_)
    rw [o19_cut2]
    refine part_fast kS (k19_ok i (Int.ofNat m) (Int.ofNat k) t x1) i1 f1' fun s2 c2 w2 g2 f2 i2 e2 => ?_
    have hmin : (if Int.ofNat m < Int.ofNat k then Int.ofNat m else Int.ofNat k) = Int.ofNat t := by
      have : (Int.ofNat m < Int.ofNat k) ↔ m < k := Int.ofNat_lt
      rw [ht]
      by_cases h : m < k
      · rw [if_pos h, if_pos (this.2 h)]
      · rw [if_neg h, if_neg (fun q => h (this.1 q))]
    have f2' := f2.name (k19_116 i (Int.ofNat m) (Int.ofNat k) t x1) (congrArg (Value.int .i64) hmin)
    have i2 : Inv p16 N s2 (hO (k19 i (Int.ofNat m) (Int.ofNat k) t x1)) w2 := i2
    rw [k19_h] at i2
    obtain ⟨x2, f3⟩ := refr f2' (k19_live i (Int.ofNat m) (Int.ofNat k) t x1)
    have h1 : 1 ≤ t := by
      rw [ht]
      split <;> omega
    have h2 : t ≤ m := by
      rw [ht]
      split <;> omega
    have hz := pz t h1 (by omega) (m - t) (Int.ofNat k) x2
    rw [Nat.sub_add_cancel h2] at hz
    obtain ⟨q1, q2⟩ := asN_ends hz
    refine part_fast kS q1 i2 f3 fun s4 c4 w4 g4 f4 i4 e4 => ?_
    show q7y.wp p16 _ c4 w4
    exact wp_fin (eS 1000000) q2 i4 f4 fun w' h => hR w' (e1.trans (e2.trans (e4.trans h)))
theorem wrap_u (n : Nat) (h : n < 100) : IntKind.u64.wrap (Int.ofNat n) = Int.ofNat n := by
  have h1 : IntKind.u64.wrap (Int.ofNat n) = (Int.ofNat n) % 18446744073709551616 := by simp [IntKind.wrap, IntKind.signed, IntKind.bits]
  rw [h1]
  show ((n : Int)) % 18446744073709551616 = (n : Int)
  omega
theorem wrap_n (n : Nat) (h : n < 100) : IntKind.i64.wrap (Int.ofNat n + 1) = Int.ofNat (n + 1) := by
  rw [IntKind.wrap_i64]
  show (((n : Int)) + 1 + 9223372036854775808) % 18446744073709551616 - 9223372036854775808 = ((n + 1 : Nat) : Int)
  omega
theorem okM_ok (n : Int) : (okM n).all (okW 6) = true := by kernel_rfl
theorem noM_ok : noM.all (okW 6) = true := by kernel_rfl
theorem rounds7 {m k : Nat} (hm : 1 ≤ m) (hm2 : m < 21) (hk : k < 31) (hR : ∀ w', Bel N W w' → R (.returned (.bool true)) w') :
    ∀ (n j : Nat), j + n = k → ∀ (r : Rn) (x : Nat → Value) (a : Act) (w : World), Inv p16 N r (pB (Int.ofNat (j + 1)) (Int.ofNat m) (Int.ofNat k) (if m < j then m else j)).h w → AF r ((pB (Int.ofNat (j + 1)) (Int.ofNat m) (Int.ofNat k) (if m < j then m else j)).fr 157 x) a → Bel N W w →
      InL p16 q7b (Exit.inBlock 0 (Exit.then (q7z.wp p16 (bodyPost p16 Go.Proofs.Tryz.f7 R)) (bodyPost p16 Go.Proofs.Tryz.f7 R))) a w := by
  intro n
  induction n with
  | zero =>
    intro j hj r x a w hI hF hB
    obtain rfl : j = k := hj
    refine inL_round ?_
    rw [q7b_cut]
    refine wp_seq (wp_seq (headp hI hF fun s x' c' w' i f v e => ?_))
    show (Code.cond (.tmp 69) .skip (.exit 0)).wp p16 _ c' w'
    refine wp_cond v ?_
    rw [show decide (Int.ofNat (j + 1) ≤ Int.ofNat j) = false from decide_eq_false (fun h => by have := Int.ofNat_le.1 h; omega), if_neg (by simp)]
    refine wp_exit ?_
    show q7z.wp p16 _ c' w'
    exact endp hm hm2 rfl i f fun w2 b => hR w2 (hB.trans (e.trans b))
  | succ n ih =>
    intro j hj r x a w hI hF hB
    refine inL_round ?_
    rw [q7b_cut]
    refine wp_seq (wp_seq (headp hI hF fun s x' c' w' i f v e => ?_))
    show (Code.cond (.tmp 69) .skip (.exit 0)).wp p16 _ c' w'
    refine wp_cond v ?_
    rw [show decide (Int.ofNat (j + 1) ≤ Int.ofNat k) = true from decide_eq_true (Int.ofNat_le.2 (by omega)), if_pos rfl]
    refine wp_skip ?_
    show ((Code.block 1 q7w).seq q7n).wp p16 _ c' w'
    refine wp_seq (wp_block ?_)
    have step : ∀ (s2 : Rn) (x2 : Nat → Value) (c2 : Act) (w2 : World), Inv p16 N s2 (pB (Int.ofNat (j + 1)) (Int.ofNat m) (Int.ofNat k) (if m < j + 1 then m else j + 1)).h w2 → AF s2 ((pB (Int.ofNat (j + 1)) (Int.ofNat m) (Int.ofNat k) (if m < j + 1 then m else j + 1)).fr 157 x2) c2 → Bel N w' w2 →
        q7n.wp p16 (Exit.then (InL p16 q7b (Exit.inBlock 0 (Exit.then (q7z.wp p16 (bodyPost p16 Go.Proofs.Tryz.f7 R)) (bodyPost p16 Go.Proofs.Tryz.f7 R)))) (Exit.inBlock 0 (Exit.then (q7z.wp p16 (bodyPost p16 Go.Proofs.Tryz.f7 R)) (bodyPost p16 Go.Proofs.Tryz.f7 R)))) c2 w2 := by
      intro s2 x2 c2 w2 i2 f2 e2
      refine nextp i2 f2 fun s3 x3 c3 w3 i3 f3 e3 => ?_
      rw [wrap_n _ (by omega)] at i3 f3
      exact ih (j + 1) (by omega) s3 x3 c3 w3 i3 f3 (hB.trans (e.trans (e2.trans e3)))
    by_cases hjm : j < m
    · rw [if_neg (by omega)] at i f
      rw [if_neg (by omega)] at step
      obtain ⟨d, rfl⟩ : ∃ d, m = d + (j + 1) := ⟨m - (j + 1), by omega⟩
      exact body (t := j) (t' := j + 1) (b := true) (wrap_u _ (by omega)) (fun x => ps1 j (by omega) d (Int.ofNat k) x) (pE_ok _ _ _ j _ _ (okM_ok _) 0 1 2 3 17 18 rfl) (decide_eq_true (Int.ofNat_le.2 (by omega))) (fun x => ps2 j (by omega) d (Int.ofNat k) x) (pB_ok _ _ _ j) i f fun s2 x2 c2 w2 i2 f2 e2 => step s2 x2 c2 w2 i2 f2 e2
    · have e1 : (if m < j then m else j) = m := by
        split <;> omega
      rw [e1] at i f
      rw [if_pos (by omega)] at step
      obtain ⟨d, hd⟩ : ∃ d, j + 1 = d + (m + 1) := ⟨j - m, by omega⟩
      obtain ⟨q, rfl⟩ : ∃ q, m = q + 1 := ⟨m - 1, by omega⟩
      rw [hd] at i f step
      exact body (t := q + 1) (t' := q + 1) (b := false) (wrap_u _ (by omega)) (fun x => pf1 (q + 1) (by omega) (by omega) d (Int.ofNat k) x) (pE_ok _ _ _ q _ _ noM_ok 0 1 2 3 4 16 rfl) (decide_eq_false (fun h => by have := Int.ofNat_le.1 h; omega)) (fun x => pf2 (q + 1) (by omega) (by omega) d (Int.ofNat k) x) (pB_ok _ _ _ q) i f fun s2 x2 c2 w2 i2 f2 e2 => step s2 x2 c2 w2 i2 f2 e2
theorem eM_some (u : Int) : ∃ m, 1 ≤ m ∧ m < 21 ∧ eM u = Int.ofNat m := by
  have h1 : IntKind.u64.wrap u = u % 18446744073709551616 := by simp [IntKind.wrap, IntKind.signed, IntKind.bits]
  have h2 : (IntKind.u64.wrap u).tmod 20 = (u % 18446744073709551616) % 20 := by
    rw [h1, Int.tmod_eq_emod_of_nonneg (Int.emod_nonneg _ (by decide))]
  have h3 : eM u = 1 + (u % 18446744073709551616) % 20 := by
    unfold eM
    rw [h2, IntKind.wrap_i64, IntKind.wrap_i64]
    omega
  refine ⟨(1 + (u % 18446744073709551616) % 20).toNat, by omega, by omega, ?_⟩
  rw [h3]
  show _ = (((1 + (u % 18446744073709551616) % 20).toNat : Nat) : Int)
  omega
theorem eK_some (v : Int) : ∃ k, k < 31 ∧ eK v = Int.ofNat k := by
  have h1 : IntKind.u64.wrap v = v % 18446744073709551616 := by simp [IntKind.wrap, IntKind.signed, IntKind.bits]
  have h2 : (IntKind.u64.wrap v).tmod 31 = (v % 18446744073709551616) % 31 := by
    rw [h1, Int.tmod_eq_emod_of_nonneg (Int.emod_nonneg _ (by decide))]
  have h3 : eK v = (v % 18446744073709551616) % 31 := by
    unfold eK
    rw [h2, IntKind.wrap_i64]
    omega
  refine ⟨((v % 18446744073709551616) % 31).toNat, by omega, ?_⟩
  rw [h3]
  show _ = ((((v % 18446744073709551616) % 31).toNat : Nat) : Int)
  omega
theorem prefetch (u v : Int) (W : World) : Calls p16 7 #[.int .i64 u, .int .i64 v] W fun e w' => e = .returned (.bool true) ∧ Below W.heap.size W w' := by
  refine calls_of_wp Go.Proofs.Tryz.func7 q7_eq ?_
  have hF : AF (fun _ => none) (p0 u v) _ := initF_sound (args := [.int .i64 u, .int .i64 v]) (args' := [.int .i64 u, .int .i64 v]) (n := 157) (.cons _ _ _ _ (.int _ _) (.cons _ _ _ _ (.int _ _) .nil)) (show (157 : Nat) ≤ 512 by decide)
  rw [q7_cut]
  refine wp_shorts (C' := pA (eM u) (eK v)) (eS 1000000) (p1_run u v) (pA_ok _ _) (empty_inv W) hF fun s1 x1 c1 w1 i1 f1 h1 e1 => ?_
  obtain ⟨m, m1, m2, m3⟩ := eM_some u
  obtain ⟨k, k1, k2⟩ := eK_some v
  rw [m3, k2] at i1 f1
  refine wp_shorts (C' := pS (Int.ofNat m) (Int.ofNat k)) (eS 1000000) (pb m m1 m2 (Int.ofNat k) x1) (pS_ok _ _) i1 f1 fun s2 x2 c2 w2 i2 f2 h2 e2 => ?_
  refine wp_seq ?_
  rw [q7l_cut]
  refine wp_seq (wp_short (C' := pB 1 (Int.ofNat m) (Int.ofNat k) 0) (eS 1000000) (pi_run (Int.ofNat m) (Int.ofNat k) x2) (pB0_ok _ _ _) i2 f2 fun s3 x3 c3 w3 i3 f3 h3 e3 => ?_)
  show (Code.block 0 (.loop q7b)).wp p16 _ c3 w3
  refine wp_block (wp_loop_in (rounds7 (N := fun k => k < W.heap.size) (W := W) m1 m2 k1 (fun w' h => ⟨rfl, bel_below h⟩) k 0 (Nat.zero_add k) s3 x3 c3 w3 ?_ ?_ (e1.trans (e2.trans e3))))
  · rw [if_neg (by omega)]
    exact i3
  · rw [if_neg (by omega)]
    exact f3
end
end Go.Eng
