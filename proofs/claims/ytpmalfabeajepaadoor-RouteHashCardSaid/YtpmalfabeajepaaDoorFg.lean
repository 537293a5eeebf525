/-
  RouteAgain: the law's walk.
  Conditions: none.
-/
import Derived.Test.YtpmalfabeajepaaDoorFt
namespace Go.Proofs.YtpmalfabeajepaaDoor.Rt
open Go.RowKit Go.Proofs.YtpmalfabeajepaaDoorW.PrintWords Go.Proofs.YtpmalfabeajepaaDoorW.PrintLast Go.Proofs.YtpmalfabeajepaaDoorG Go.Proofs.YtpmalfabeajepaaDoor.PGa Go.Proofs.YtpmalfabeajepaaDoorH
set_option linter.unusedVariables false
set_option linter.unusedSimpArgs false

/-! ### one exchange -/
theorem idx_one {α : Type} {p : α → Bool} {x : α} (h : p x = true) : idxI p [x] = 0 := by
  unfold idxI
  simp [List.findIdx?_cons, h]
theorem idx_nil {α : Type} (p : α → Bool) : idxI p [] = -1 := rfl
theorem idx_none1 {α : Type} {p : α → Bool} {x : α} (h : p x = false) : idxI p [x] = -1 := by
  unfold idxI
  simp [List.findIdx?_cons, h]
theorem name_self (s : ByteArray) (k : Int) : nameIs s ⟨s, k⟩ = true := by simp [nameIs]
theorem exok_one (s : ByteArray) (k : Int) (h1 : 1 ≤ s.size) (h2 : s.size ≤ 40) (h3 : 1 ≤ k) (h4 : k ≤ 4) : ∀ i, i < [(⟨s, k⟩ : S25)].length → ExOk [(⟨s, k⟩ : S25)] i := by
  intro i hi
  rw [List.length_singleton] at hi
  obtain rfl : i = 0 := by omega
  exact ⟨h1, h2, h3, h4, idx_one (name_self s k)⟩
theorem may_one (s : ByteArray) (k : Int) (h1 : 1 ≤ s.size) (h2 : s.size ≤ 40) (h3 : 1 ≤ k) (h4 : k ≤ 4) : MayR 10 ([] ++ [(⟨s, k⟩ : S25)]) [] true :=
  .inl ⟨rfl, by rw [List.nil_append, List.length_singleton]; decide, by decide, exok_one s k h1 h2 h3 h4, fun i hi => absurd hi (Nat.not_lt_zero _)⟩
abbrev bW (s : ByteArray) (m : Int) : S28 := ⟨s, sQ, ⟨#[]⟩, m⟩
theorem mb_of (k : Nat) (x : List S25) (b : S28) (i : Nat) (hi : idxI (nameIs b.f0) x = i) (hl : i < x.length) (hxl : x.length ≤ 1000000) (hq1 : 1 ≤ b.f1.size) (hq2 : b.f1.size ≤ 40) (hk : b.f2.size ≤ 255) :
    MB (k + 1) x b = if (rd_T25 x (i : Int)).f1 = 4 then (if b.f3 ≥ 1 then some (decide (b.f3 ≤ 4)) else some false) else if (rd_T25 x (i : Int)).f1 = 3 then (if b.f3 = 0 then ((topic_May.f b.f2).bind fun t104 => some t104) else some false) else some (b.f3 == 0) := by
  have hf : route_Find.f x b.f0 = some (i : Int) := by
    unfold route_Find.f
    rw [if_pos hxl, hi]
  unfold MB PGb.route_mayBinding.f
  rw [hf, Option.bind_some, if_neg (by omega), if_neg (by omega), if_neg (by omega), decide_eq_false (by omega)]
  simp only [PGb.route_mayBinding.j0]
  rw [if_neg (by decide), if_pos (by omega), if_pos (by omega)]
theorem mb_hash (s : ByteArray) (m : Int) (h1 : 1 ≤ m) (h2 : m ≤ 4) : MB 10 [(⟨s, 4⟩ : S25)] (bW s m) = some true := by
  rw [mb_of 9 [(⟨s, 4⟩ : S25)] (bW s m) 0 (idx_one (name_self s 4)) (by rw [List.length_singleton]; decide) (by rw [List.length_singleton]; decide) (by show 1 ≤ sQ.size; decide) (by show sQ.size ≤ 40; decide) (by show (⟨#[]⟩ : ByteArray).size ≤ 255; decide)]
  rw [if_pos (show (rd_T25 [(⟨s, 4⟩ : S25)] ((0 : Nat) : Int)).f1 = 4 from rfl), if_pos (show (bW s m).f3 ≥ 1 from h1), decide_eq_true (show (bW s m).f3 ≤ 4 from h2)]
theorem alike_self (b c : S28) (h0 : b.f0 = c.f0) (h1 : b.f1 = c.f1) (h2 : b.f2 = c.f2) : alikeB b c = true := by
  unfold alikeB
  rw [h0, h1, h2]
  simp
theorem may_hash (s : ByteArray) (m : Int) (hs1 : 1 ≤ s.size) (hs2 : s.size ≤ 40) (h1 : 1 ≤ m) (h2 : m ≤ 4) : MayR 10 [(⟨s, 4⟩ : S25)] ([] ++ [bW s m]) true :=
  .inl ⟨rfl, by rw [List.length_singleton]; decide, by rw [List.nil_append, List.length_singleton]; decide, exok_one s 4 hs1 hs2 (by decide) (by decide), by
    intro i hi
    rw [List.nil_append, List.length_singleton] at hi
    obtain rfl : i = 0 := by omega
    exact ⟨mb_hash s m h1 h2, idx_one (alike_self _ _ rfl rfl rfl)⟩⟩
theorem at_nil (k : Nat) (a b c : ByteArray) (d : Int) : PGb.api_Binding_25.f (k + 1) [] a b c d = some false := by rfl
theorem at_one (s : ByteArray) (m n : Int) : PGb.api_Binding_25.f 10 [bW s m] s sQ ⟨#[]⟩ n = some (n == m) := by
  unfold PGb.api_Binding_25.f PGb.api_Binding_40.f
  have h1 : wrap64 (0 + 1) = 1 := by decide +kernel
  have e : rd_T28 [bW s m] 0 = bW s m := rfl
  simp only [PGb.api_Binding_40.l1, List.length_singleton, e, h1]
  by_cases h : n = m
  · subst h
    simp
  · have : (n == m) = false := beq_eq_false_iff_ne.2 h
    simp [this]
/-! ### the calls -/
section
variable (s : ByteArray) (hs1 : 1 ≤ s.size) (hs2 : s.size ≤ 40)
include hs1 hs2
theorem r1 (k : Int) (h1 : 1 ≤ k) (h2 : k ≤ 4) (w : World) : Calls Tryd.prog 13 #[.slice none 0 0, .agg #[.string s, .int .i64 k]] w fun ee w' => ∃ A' c', ee = .returned (.tuple #[.slice A' 1 c', .int .i64 0]) ∧ Kd.C k25 w' A' 1 [(⟨s, k⟩ : S25)] ∧ 1 ≤ c' ∧ Below w.heap.size w w' :=
  Declare_is 10 none 0 [] ⟨s, k⟩ [⟨s, k⟩] 0 w (Kd.C_nil _ _) (Nat.le_refl _) (by decide) (.inr ⟨idx_nil _, .inl ⟨may_one s k hs1 hs2 h1 h2, rfl, rfl⟩⟩)
omit hs1 hs2 in
theorem r2 (k l : Int) (A : Option Addr) (c : Nat) (w : World) (hx : Kd.C k25 w A 1 [(⟨s, k⟩ : S25)]) (hc : 1 ≤ c) : Calls Tryd.prog 13 #[.slice A 1 c, .agg #[.string s, .int .i64 l]] w fun ee w' => ∃ A' c', ee = .returned (.tuple #[.slice A' 1 c', .int .i64 (if k = l then 0 else 406)]) ∧ Below w.heap.size w w' :=
  (Declare_is 10 A c [⟨s, k⟩] ⟨s, l⟩ [⟨s, k⟩] (if k = l then 0 else 406) w hx hc (by rw [List.length_singleton]; decide) (.inl ⟨0, idx_one (name_self s k), by rw [List.length_singleton]; decide, rfl, by
    by_cases h : k = l
    · exact .inl ⟨h, if_pos h⟩
    · exact .inr ⟨h, if_neg h⟩⟩)).mono fun ee w' ⟨A', c', he, _, _, hb⟩ => ⟨A', c', he, hb⟩
theorem r3 (m : Int) (h1 : 1 ≤ m) (h2 : m ≤ 4) (A : Option Addr) (c : Nat) (w : World) (hx : Kd.C k25 w A 1 [(⟨s, 4⟩ : S25)]) (hc : 1 ≤ c) : Calls Tryd.prog 12 #[.slice A 1 c, .slice none 0 0, .agg #[.string s, .string sQ, .string ⟨#[]⟩, .int .i64 m]] w fun ee w' => ∃ A' c', ee = .returned (.tuple #[.slice A' 1 c', .int .i64 0]) ∧ Kd.C k28 w' A' 1 [bW s m] ∧ 1 ≤ c' ∧ Below w.heap.size w w' :=
  Bind_is 10 A c [⟨s, 4⟩] none 0 [] (bW s m) [bW s m] 0 w hx hc (by rw [List.length_singleton]; decide) (Kd.C_nil _ _) (Nat.le_refl _) (by decide) (.inr ⟨0, idx_one (name_self s 4), .inr ⟨at_nil 9 _ _ _ _, .inr ⟨idx_nil _, .inl ⟨may_hash s m hs1 hs2 h1 h2, rfl, rfl⟩⟩⟩⟩)
omit hs1 hs2 in
theorem r4 (m n : Int) (A B : Option Addr) (c d : Nat) (w : World) (hx : Kd.C k25 w A 1 [(⟨s, 4⟩ : S25)]) (hc : 1 ≤ c) (hy : Kd.C k28 w B 1 [bW s m]) (hd : 1 ≤ d) : Calls Tryd.prog 12 #[.slice A 1 c, .slice B 1 d, .agg #[.string s, .string sQ, .string ⟨#[]⟩, .int .i64 n]] w fun ee w' => ∃ A' c', ee = .returned (.tuple #[.slice A' 1 c', .int .i64 (if m = n then 0 else 406)]) ∧ Below w.heap.size w w' :=
  (Bind_is 10 A c [⟨s, 4⟩] B d [bW s m] (bW s n) [bW s m] (if m = n then 0 else 406) w hx hc (by rw [List.length_singleton]; decide) hy hd (by rw [List.length_singleton]; decide) (.inr ⟨0, idx_one (name_self s 4), by
    have h0 := at_one s m n
    by_cases h : m = n
    · refine .inl ⟨h0.trans ?_, rfl, if_pos h⟩
      rw [h]
      simp
    · refine .inr ⟨h0.trans ?_, .inl ⟨?_, rfl, if_neg h⟩⟩
      · rw [beq_eq_false_iff_ne.2 (fun e => h e.symm)]
      · rw [idx_one (show tBind1 (bW s n) (bW s m) = true from alike_self _ _ rfl rfl rfl)]
        decide⟩)).mono fun ee w' ⟨A', c', he, _, _, hb⟩ => ⟨A', c', he, hb⟩
end
theorem r2s (s : ByteArray) (k : Int) (A : Option Addr) (c : Nat) (w : World) (hx : Kd.C k25 w A 1 [(⟨s, k⟩ : S25)]) (hc : 1 ≤ c) : Calls Tryd.prog 13 #[.slice A 1 c, .agg #[.string s, .int .i64 k]] w fun ee w' => ∃ A' c', ee = .returned (.tuple #[.slice A' 1 c', .int .i64 0]) ∧ Below w.heap.size w w' := by
  have := r2 s k k A c w hx hc
  rw [if_pos rfl] at this
  exact this
theorem r2o (s : ByteArray) (k l : Int) (h : k ≠ l) (A : Option Addr) (c : Nat) (w : World) (hx : Kd.C k25 w A 1 [(⟨s, k⟩ : S25)]) (hc : 1 ≤ c) : Calls Tryd.prog 13 #[.slice A 1 c, .agg #[.string s, .int .i64 l]] w fun ee w' => ∃ A' c', ee = .returned (.tuple #[.slice A' 1 c', .int .i64 406]) ∧ Below w.heap.size w w' := by
  have := r2 s k l A c w hx hc
  rw [if_neg h] at this
  exact this
theorem r4s (s : ByteArray) (m : Int) (A B : Option Addr) (c d : Nat) (w : World) (hx : Kd.C k25 w A 1 [(⟨s, 4⟩ : S25)]) (hc : 1 ≤ c) (hy : Kd.C k28 w B 1 [bW s m]) (hd : 1 ≤ d) : Calls Tryd.prog 12 #[.slice A 1 c, .slice B 1 d, .agg #[.string s, .string sQ, .string ⟨#[]⟩, .int .i64 m]] w fun ee w' => ∃ A' c', ee = .returned (.tuple #[.slice A' 1 c', .int .i64 0]) ∧ Below w.heap.size w w' := by
  have := r4 s m m A B c d w hx hc hy hd
  rw [if_pos rfl] at this
  exact this
theorem r4o (s : ByteArray) (m n : Int) (h : m ≠ n) (A B : Option Addr) (c d : Nat) (w : World) (hx : Kd.C k25 w A 1 [(⟨s, 4⟩ : S25)]) (hc : 1 ≤ c) (hy : Kd.C k28 w B 1 [bW s m]) (hd : 1 ≤ d) : Calls Tryd.prog 12 #[.slice A 1 c, .slice B 1 d, .agg #[.string s, .string sQ, .string ⟨#[]⟩, .int .i64 n]] w fun ee w' => ∃ A' c', ee = .returned (.tuple #[.slice A' 1 c', .int .i64 406]) ∧ Below w.heap.size w w' := by
  have := r4 s m n A B c d w hx hc hy hd
  rw [if_neg h] at this
  exact this
theorem lit_X (s : ByteArray) (k : Int) (w : World) : Kd.C k25 (w.alloc (.cells #[.string s, .int .i64 k] 25)) (some ⟨w.heap.size, 0, none⟩) 1 [(⟨s, k⟩ : S25)] :=
  (Kd.R_reads' (d := k25) (e := 25) (ok := fun _ => True) (base := w.heap.size) ⟨fun _ _ => trivial, OwnRow.lit w w.heap.size (ps := [(⟨s, k⟩ : S25)]) (inner := [.string s, .int .i64 k]) (Reps.c2 (show Kd.M k25 _ _ _ (⟨s, k⟩ : S25) [.string s, .int .i64 k] from k25_mkM _ _ _ (⟨s, k⟩ : S25)) (Reps.none _ _)) (Nat.le_refl _) (by rw [List.length_singleton]; decide)⟩).2.2
theorem small_mod (n : Int) (d : Nat) (hd : 0 < d) (hd2 : d ≤ 1000) : ∃ k : Nat, k < d ∧ wrap64 ((IntKind.u64.wrap n).tmod (d : Int)) = k := by
  have h0 : 0 ≤ IntKind.u64.wrap n := by
    simp [IntKind.wrap, IntKind.bits, IntKind.signed]
    omega
  have h1 : (IntKind.u64.wrap n).tmod (d : Int) = (IntKind.u64.wrap n) % (d : Int) := Int.tmod_eq_emod_of_nonneg h0
  have h2 := Int.emod_nonneg (IntKind.u64.wrap n) (show (d : Int) ≠ 0 by omega)
  have h3 := Int.emod_lt_of_pos (IntKind.u64.wrap n) (show (0 : Int) < d by omega)
  refine ⟨((IntKind.u64.wrap n) % (d : Int)).toNat, by omega, ?_⟩
  rw [h1, w64 _ (by omega) (by omega)]
  omega
theorem one_four (n : Int) : ∃ k : Int, wrap64 (1 + wrap64 ((IntKind.u64.wrap n).tmod 4)) = k ∧ 1 ≤ k ∧ k ≤ 4 := by
  obtain ⟨a, h0, h1⟩ := small_mod n 4 (by decide) (by decide)
  have h1 : wrap64 ((IntKind.u64.wrap n).tmod 4) = a := h1
  refine ⟨1 + (a : Int), ?_, by omega, by omega⟩
  rw [h1, w64 _ (by omega) (by omega)]

set_option maxHeartbeats 8000000 in
theorem Again_is (s : ByteArray) (a b v u : Int) (w : World) : Calls Tryd.prog 5 #[.string s, .int .i64 a, .int .i64 b, .int .i64 v, .int .i64 u] w fun e w' => e = .returned (.bool true) ∧ Below w.heap.size w w' := by
  by_cases hs1 : (s.size : Int) < 1
  · go_enter Tryd.func5, Tryd.ntmps5
    go_wp2_with (go_at_call 9; with_reducible refine (Told_is _).mono ?_; rintro e w1 ⟨rfl, hb⟩; have HB1 := Aside0.mk hb; clear hb)
    go_ret
    exact ⟨rfl, HB1.out⟩
  by_cases hs2 : (40 : Int) < (s.size : Int)
  · go_enter Tryd.func5, Tryd.ntmps5
    go_wp2_with (go_at_call 9; with_reducible refine (Told_is _).mono ?_; rintro e w1 ⟨rfl, hb⟩; have HB1 := Aside0.mk hb; clear hb)
    go_ret
    exact ⟨rfl, HB1.out⟩
  have HS1 := Aside0.mk (show 1 ≤ s.size by omega)
  have HS2 := Aside0.mk (show s.size ≤ 40 by omega)
  obtain ⟨k, hk, hk1, hk2⟩ := one_four a
  obtain ⟨l, hl, hl1, hl2⟩ := one_four b
  obtain ⟨m, hm, hm1, hm2⟩ := one_four v
  obtain ⟨n, hn, hn1, hn2⟩ := one_four u
  have HK := Aside0.mk (And.intro hk1 hk2)
  have HM := Aside0.mk (And.intro hm1 hm2)
  clear hk1 hk2 hl1 hl2 hm1 hm2 hn1 hn2
  by_cases hkl : k = l
  · subst hkl
    by_cases hmn : m = n
    · subst hmn
      go_enter Tryd.func5, Tryd.ntmps5
      go_wp2_with (first
        | (go_at_call 13; with_reducible refine (r1 s HS1.out HS2.out k HK.out.1 HK.out.2 _).mono ?_; rintro e w1 ⟨A1, c1, rfl, hc_, hl_, hb_⟩; have HC1 := Aside0.mk hc_; have HL1 := Aside0.mk hl_; have HB1 := Aside0.mk hb_; clear hc_ hl_ hb_)
        | (go_at_call 13; with_reducible refine (r2s s k A1 c1 _ HC1.out HL1.out).mono ?_; rintro e w2 ⟨A2, c2, rfl, hb_⟩; have HB2 := Aside0.mk (thn HB1.out hb_); clear hb_)
        | (go_at_call 12; with_reducible refine (r3 s HS1.out HS2.out m HM.out.1 HM.out.2 _ 1 _ (lit_X s 4 _) (Nat.le_refl _)).mono ?_; rintro e w3 ⟨A3, c3, rfl, hc_, hl_, hb_⟩; have HX3 := Aside0.mk (Kd.C_below (lit_X s 4 w2) hb_); have HC3 := Aside0.mk hc_; have HL3 := Aside0.mk hl_; have HB3 := Aside0.mk (thn (below_alloc HB2.out _) hb_); clear hb_ hc_ hl_)
        | (go_at_call 12; with_reducible refine (r4s s m _ A3 1 c3 _ HX3.out (Nat.le_refl _) HC3.out HL3.out).mono ?_; rintro e w4 ⟨A4, c4, rfl, hb_⟩; have HB4 := Aside0.mk (thn HB3.out hb_); clear hb_)
        | (go_at_call 9; with_reducible refine (Told_is _).mono ?_; rintro e w5 ⟨rfl, hb_⟩; have HB5 := Aside0.mk (thn HB4.out hb_); clear hb_))
      go_ret
      exact ⟨rfl, HB5.out⟩
    · have HMN := Aside0.mk (show m ≠ n from hmn)
      have hmb : (m == n) = false := beq_eq_false_iff_ne.2 hmn
      replace hmn : (m = n) = False := eq_false hmn
      go_enter Tryd.func5, Tryd.ntmps5
      go_wp2_with (first
        | (go_at_call 13; with_reducible refine (r1 s HS1.out HS2.out k HK.out.1 HK.out.2 _).mono ?_; rintro e w1 ⟨A1, c1, rfl, hc_, hl_, hb_⟩; have HC1 := Aside0.mk hc_; have HL1 := Aside0.mk hl_; have HB1 := Aside0.mk hb_; clear hc_ hl_ hb_)
        | (go_at_call 13; with_reducible refine (r2s s k A1 c1 _ HC1.out HL1.out).mono ?_; rintro e w2 ⟨A2, c2, rfl, hb_⟩; have HB2 := Aside0.mk (thn HB1.out hb_); clear hb_)
        | (go_at_call 12; with_reducible refine (r3 s HS1.out HS2.out m HM.out.1 HM.out.2 _ 1 _ (lit_X s 4 _) (Nat.le_refl _)).mono ?_; rintro e w3 ⟨A3, c3, rfl, hc_, hl_, hb_⟩; have HX3 := Aside0.mk (Kd.C_below (lit_X s 4 w2) hb_); have HC3 := Aside0.mk hc_; have HL3 := Aside0.mk hl_; have HB3 := Aside0.mk (thn (below_alloc HB2.out _) hb_); clear hb_ hc_ hl_)
        | (go_at_call 12; with_reducible refine (r4o s m n HMN.out _ A3 1 c3 _ HX3.out (Nat.le_refl _) HC3.out HL3.out).mono ?_; rintro e w4 ⟨A4, c4, rfl, hb_⟩; have HB4 := Aside0.mk (thn HB3.out hb_); clear hb_)
        | (go_at_call 9; with_reducible refine (Told_is _).mono ?_; rintro e w5 ⟨rfl, hb_⟩; have HB5 := Aside0.mk (thn HB4.out hb_); clear hb_))
      go_ret
      exact ⟨rfl, HB5.out⟩
  · have HKL := Aside0.mk (show k ≠ l from hkl)
    have hkb : (k == l) = false := beq_eq_false_iff_ne.2 hkl
    replace hkl : (k = l) = False := eq_false hkl
    by_cases hmn : m = n
    · subst hmn
      go_enter Tryd.func5, Tryd.ntmps5
      go_wp2_with (first
        | (go_at_call 13; with_reducible refine (r1 s HS1.out HS2.out k HK.out.1 HK.out.2 _).mono ?_; rintro e w1 ⟨A1, c1, rfl, hc_, hl_, hb_⟩; have HC1 := Aside0.mk hc_; have HL1 := Aside0.mk hl_; have HB1 := Aside0.mk hb_; clear hc_ hl_ hb_)
        | (go_at_call 13; with_reducible refine (r2o s k l HKL.out A1 c1 _ HC1.out HL1.out).mono ?_; rintro e w2 ⟨A2, c2, rfl, hb_⟩; have HB2 := Aside0.mk (thn HB1.out hb_); clear hb_)
        | (go_at_call 12; with_reducible refine (r3 s HS1.out HS2.out m HM.out.1 HM.out.2 _ 1 _ (lit_X s 4 _) (Nat.le_refl _)).mono ?_; rintro e w3 ⟨A3, c3, rfl, hc_, hl_, hb_⟩; have HX3 := Aside0.mk (Kd.C_below (lit_X s 4 w2) hb_); have HC3 := Aside0.mk hc_; have HL3 := Aside0.mk hl_; have HB3 := Aside0.mk (thn (below_alloc HB2.out _) hb_); clear hb_ hc_ hl_)
        | (go_at_call 12; with_reducible refine (r4s s m _ A3 1 c3 _ HX3.out (Nat.le_refl _) HC3.out HL3.out).mono ?_; rintro e w4 ⟨A4, c4, rfl, hb_⟩; have HB4 := Aside0.mk (thn HB3.out hb_); clear hb_)
        | (go_at_call 9; with_reducible refine (Told_is _).mono ?_; rintro e w5 ⟨rfl, hb_⟩; have HB5 := Aside0.mk (thn HB4.out hb_); clear hb_))
      go_ret
      exact ⟨rfl, HB5.out⟩
    · have HMN := Aside0.mk (show m ≠ n from hmn)
      have hmb : (m == n) = false := beq_eq_false_iff_ne.2 hmn
      replace hmn : (m = n) = False := eq_false hmn
      go_enter Tryd.func5, Tryd.ntmps5
      go_wp2_with (first
        | (go_at_call 13; with_reducible refine (r1 s HS1.out HS2.out k HK.out.1 HK.out.2 _).mono ?_; rintro e w1 ⟨A1, c1, rfl, hc_, hl_, hb_⟩; have HC1 := Aside0.mk hc_; have HL1 := Aside0.mk hl_; have HB1 := Aside0.mk hb_; clear hc_ hl_ hb_)
        | (go_at_call 13; with_reducible refine (r2o s k l HKL.out A1 c1 _ HC1.out HL1.out).mono ?_; rintro e w2 ⟨A2, c2, rfl, hb_⟩; have HB2 := Aside0.mk (thn HB1.out hb_); clear hb_)
        | (go_at_call 12; with_reducible refine (r3 s HS1.out HS2.out m HM.out.1 HM.out.2 _ 1 _ (lit_X s 4 _) (Nat.le_refl _)).mono ?_; rintro e w3 ⟨A3, c3, rfl, hc_, hl_, hb_⟩; have HX3 := Aside0.mk (Kd.C_below (lit_X s 4 w2) hb_); have HC3 := Aside0.mk hc_; have HL3 := Aside0.mk hl_; have HB3 := Aside0.mk (thn (below_alloc HB2.out _) hb_); clear hb_ hc_ hl_)
        | (go_at_call 12; with_reducible refine (r4o s m n HMN.out _ A3 1 c3 _ HX3.out (Nat.le_refl _) HC3.out HL3.out).mono ?_; rintro e w4 ⟨A4, c4, rfl, hb_⟩; have HB4 := Aside0.mk (thn HB3.out hb_); clear hb_)
        | (go_at_call 9; with_reducible refine (Told_is _).mono ?_; rintro e w5 ⟨rfl, hb_⟩; have HB5 := Aside0.mk (thn HB4.out hb_); clear hb_))
      go_ret
      exact ⟨rfl, HB5.out⟩
end Go.Proofs.YtpmalfabeajepaaDoor.Rt
