/-
  CreditLimits: the law's walk.
  Conditions: none.
-/
import Derived.Test.YtcgfjjpnjoinkaaCx
import Derived.Deep.CutBlock
namespace Go.Proofs.Ytcgfjjpnjoinkaa.Cr
open Go.RowKit Go.Proofs.YtcgfjjpnjoinkaaW.PrintWords Go.Proofs.YtcgfjjpnjoinkaaW.PrintLast Go.Proofs.YtcgfjjpnjoinkaaG Go.Proofs.Ytcgfjjpnjoinkaa.PCa
set_option linter.unusedVariables false
set_option linter.unusedSimpArgs false

theorem mx_max2 (ats : Array TypeId) (ty : TypeId) (x : Int) : Builtin.max_ ats ty #[.int .i64 0, .int .i64 x] = pure (.int .i64 (mx x)) := by
  rw [Go.Proofs.YtcgfjjpnjoinkaaW.PrintMore.max_two, Go.Proofs.YtcgfjjpnjoinkaaW.PrintMore.max2_int]
  have : mx x = if 0 < x then x else 0 := by unfold mx; split <;> split <;> omega
  rw [this]
  rfl
attribute [local go_sem] mx_max2
/-- 10, 20, .. -/
def tens (i : Nat) : List Int := (List.range i).map fun (j : Nat) => (10 : Int) * ((j : Int) + 1)
theorem mostP0 : mostP 0 = 1000 := if_pos rfl
theorem tens_len (i : Nat) : (tens i).length = i := by simp [tens]
theorem tens_succ (i : Nat) : tens (i + 1) = tens i ++ [10 * ((i : Int) + 1)] := by simp [tens, List.range_succ]
theorem sel_all (l : List Int) : sel 0 true l = l := List.filter_eq_self.2 (fun x _ => by simp [selB])
theorem stay_none (l : List Int) : stay l l = [] := by
  unfold stay
  rw [List.filter_eq_nil_iff]
  intro x hx
  simpa using hx
theorem tens_head (i : Nat) (h : 1 ≤ i) : ∃ r, tens i = 10 :: r := by
  obtain ⟨j, rfl⟩ : ∃ j, i = j + 1 := ⟨i - 1, by omega⟩
  exact ⟨_, by unfold tens; rw [List.range_succ_eq_map, List.map_cons]; rfl⟩
theorem u64_id (x : Int) (h0 : 0 ≤ x) (h1 : x ≤ 1099511627776) : IntKind.u64.wrap x = x := by
  simp [IntKind.wrap, IntKind.bits, IntKind.signed]
  omega
theorem small_mod (n : Int) (d : Nat) (hd : 0 < d) (hd2 : d ≤ 1000) : ∃ k : Nat, k < d ∧ wrap64 ((IntKind.u64.wrap n).tmod (d : Int)) = k := by
  have h0 : 0 ≤ IntKind.u64.wrap n := by
    simp [IntKind.wrap, IntKind.bits, IntKind.signed]
    omega
  have h1 : (IntKind.u64.wrap n).tmod (d : Int) = (IntKind.u64.wrap n) % (d : Int) := Int.tmod_eq_emod_of_nonneg h0
  have h2 := Int.emod_nonneg (IntKind.u64.wrap n) (show (d : Int) ≠ 0 by omega)
  have h3 := Int.emod_lt_of_pos (IntKind.u64.wrap n) (show (0 : Int) < d by omega)
  refine ⟨((IntKind.u64.wrap n) % (d : Int)).toNat, by omega, ?_⟩
  rw [h1, w64 _ (by omega) (by omega)]
  omega

set_option maxHeartbeats 8000000 in
set_option maxRecDepth 20000 in
theorem Limits_is (n limit : Int) (w : World) : Calls Try.prog 4 #[.int .i64 n, .int .i64 limit] w fun e w' => e = .returned (.bool true) ∧ Below w.heap.size w w' := by
  obtain ⟨k0, hk0, hk1⟩ := small_mod n 30 (by decide) (by decide)
  obtain ⟨m0, hm0, hm1⟩ := small_mod limit 30 (by decide) (by decide)
  have hk1 : wrap64 ((IntKind.u64.wrap n).tmod 30) = k0 := hk1
  have hm1 : wrap64 ((IntKind.u64.wrap limit).tmod 30) = m0 := hm1
  obtain ⟨k, hk⟩ : ∃ k, k = k0 + 1 := ⟨_, rfl⟩
  obtain ⟨m, hm⟩ : ∃ m, m = m0 + 1 := ⟨_, rfl⟩
  have hk2 : wrap64 (1 + (k0 : Int)) = (k : Int) := (w64 _ (by omega) (by omega)).trans (by omega)
  have hm2 : wrap64 (1 + (m0 : Int)) = (m : Int) := (w64 _ (by omega) (by omega)).trans (by omega)
  have HK := Aside0.mk (show 1 ≤ k ∧ k ≤ 30 by omega)
  have HM := Aside0.mk (show 1 ≤ m ∧ m ≤ 30 by omega)
  clear hk0 hm0 hk hm
  go_enter Try.func4, Try.ntmps4
  go_wp2_with (go_at_call 5; with_reducible refine (New_ok 0 (by decide) (by decide) _).mono ?_; rintro e w1 ⟨cp, rfl, -, hc, hb⟩; have HCa := Aside0.mk hc; have HBa := Aside0.mk hb; clear hc hb)
  go_loopg [8] k (fun g v8 wr => ∃ (i : Nat) (v : Value), v8 = .int .i64 ((i : Int) + 1) ∧ g + i = k ∧ Aside0 (Cr w.heap.size wr cp 0 (10 * (i : Int)) (tens i) v) ∧ Aside0 (Below w.heap.size w wr))
  case atStart => exact ⟨0, .slice none 0 0, rfl, by omega, HCa, HBa⟩
  case round =>
    clear HCa HBa
    obtain ⟨i, v, rfl, hgi, HC, HB⟩ := hrel
    cases gk with
    | succ g1 =>
      have h1 : (i : Int) + 1 ≤ (k : Int) := by omega
      have hw1 : wrap64 (10 * ((i : Int) + 1)) = 10 * ((i : Int) + 1) := w64 _ (by omega) (by have := HK.out; omega)
      have hw2 : IntKind.u64.wrap (10 * ((i : Int) + 1)) = 10 * ((i : Int) + 1) := u64_id _ (by omega) (by have := HK.out; omega)
      have hw3 : wrap64 ((i : Int) + 1 + 1) = (i : Int) + 1 + 1 := w64 _ (by omega) (by have := HK.out; omega)
      have HI := Aside0.mk hgi
      have HT : Aside0 (Calls Try.prog 6 #[.pointer (some ⟨cp, 0, none⟩), .int .u64 (10 * ((i : Int) + 1))] wr fun e w' => e = .returned (.int .i64 0) ∧ (∃ v', Cr w.heap.size w' cp 0 (10 * ((i : Int) + 1)) (tens i ++ [10 * ((i : Int) + 1)]) v') ∧ Below w.heap.size wr w') := by
        have HKo := HK.out
        clear hw1 hw2 hw3 hk1 hm1 hk2 hm2 HK HM HI
        have a1 : 10 * (i : Int) < 10 * ((i : Int) + 1) := by omega
        have a0 := tens_len i
        have a2 : ((tens i).length : Int) < mostP 0 := by rw [a0, mostP0]; clear a0; omega
        have a3 : (tens i).length ≤ 1000000 := Nat.le_trans (Nat.le_of_eq a0) (by omega)
        exact ⟨Take_ok HC.out _ a1 a2 a3⟩
      clear hgi
      obtain ⟨j, hj⟩ : ∃ j, (i : Int) + 1 = j := ⟨_, rfl⟩
      rw [hj] at hw1 hw2 hw3 h1 HT ⊢
      obtain ⟨t, ht⟩ : ∃ t, 10 * j = t := ⟨_, rfl⟩
      have hv1 : wrap64 (10 * j) = t := hw1.trans ht
      rw [ht] at hw2 HT
      have HJ := Aside0.mk hj
      have HTT := Aside0.mk ht
      clear hj ht hk1 hm1 hk2 hm2 hw1
      go_wp2_with (go_at_call 6; with_reducible refine HT.out.mono ?_; rintro e w2 ⟨rfl, ⟨v2, hc⟩, hb⟩; have HC2 := Aside0.mk hc; have HB2 := Aside0.mk (HB.out.trans hb); clear hc hb)
      go_roundg g1
      case measure => omega
      case rel =>
        have e1 : 10 * (((i + 1 : Nat)) : Int) = t := by rw [← HTT.out, ← HJ.out, Int.natCast_add]; rfl
        exact ⟨i + 1, v2, by rw [hw3, ← HJ.out, Int.natCast_add]; rfl, by have := HI.out; omega, ⟨by rw [e1, tens_succ, HJ.out, HTT.out]; exact HC2.out⟩, HB2⟩
    | zero =>
      obtain rfl : i = k := by omega
      have h1 : ¬ ((i : Int) + 1 ≤ (i : Int)) := by omega
      have hw4 : wrap64 ((m : Int) - (i : Int)) = (m : Int) - i := w64 _ (by have := HK.out; omega) (by have := HM.out; omega)
      have HL := Aside0.mk (Limit_ok HC.out (m : Int) (by omega) (by have := HM.out; omega))
      have hlen : ((tens i).length : Int) = (i : Int) := by rw [tens_len]
      have hmp : mostP (m : Int) = m := by unfold mostP; rw [if_neg (by have := HM.out; omega)]
      have HMP := Aside0.mk hmp
      have HLN := Aside0.mk hlen
      clear hgi hmp
      have HMX := Aside0.mk (show mx (mostP (m : Int) - (([] : List Int).length : Int)) = (m : Int) by rw [HMP.out]; unfold mx; rw [if_neg (by show ¬ ((m : Int) - 0 < 0); omega)]; show (m : Int) - 0 = m; omega)
      obtain ⟨r, hr⟩ := tens_head i HK.out.1
      have HR0 := Aside0.mk hr
      have HI0 := Aside0.mk (Nat.le_trans (Nat.le_of_eq (tens_len i)) (show i ≤ 1000 by have := HK.out; omega))
      clear hr hlen
      by_cases km : i < m
      · have km1 : (i : Int) < (m : Int) := by omega
        have HLL := Aside0.mk (show (tens i ++ [1000]).length = i + 1 by rw [List.length_append, tens_len]; rfl)
        have HLE := Aside0.mk (show (tens i ++ [1000]).length ≤ 1000000 from Nat.le_trans (Nat.le_of_eq HLL.out) (by have := HK.out; omega))
        have HNE := Aside0.mk (show ¬ (tens i ++ [1000] = [] ∧ (true = false ∨ (0 : Int) < 0)) from fun h => h.2.elim (fun e => Bool.noConfusion e) (fun e => absurd e (by decide)))
        obtain ⟨L, hL⟩ : ∃ L, i + 1 = L := ⟨_, rfl⟩
        have hne1 : ((L : Int) == (i : Int)) = false := beq_eq_false_iff_ne.2 (by omega)
        have hw5 : wrap64 ((i : Int) + 1) = (L : Int) := (w64 _ (by omega) (by have := HK.out; omega)).trans (by omega)
        have HLG := Aside0.mk hL
        have hL0 : 0 < L := hL ▸ Nat.succ_pos i
        clear hL
        clear km
        go_wp2_with (first
          | (go_at_call 12; (try clear h1); with_reducible refine HL.out.mono ?_; rintro e w2 ⟨rfl, hc, hb⟩; have HC2 := Aside0.mk hc; have HB2 := Aside0.mk (HB.out.trans hb); clear hc hb)
          | (go_at_call 7; with_reducible refine (Open_is HC2.out (by simp only [tens_len]; have := HK.out; omega)).mono ?_; rintro e w3 ⟨v3, rfl, hv, hb⟩; obtain ⟨A3, c3, rfl⟩ : ∃ A c, v3 = .slice A i c := by { obtain ⟨A3, c3, rfl, -, -⟩ := Kd.R_reads hv; exact ⟨A3, c3, by rw [tens_len]⟩ }; have HC3 := Aside0.mk (HC2.out.below hb); have HB3 := Aside0.mk (thn HB2.out hb); clear hb hv)
          | (go_at_call 8; with_reducible refine (Free_at HC3.out (by simp only [tens_len]; have := HK.out; omega) (by omega) (by have := HM.out; omega) (mx ((m : Int) - (i : Int))) (by rw [HMP.out, HLN.out])).mono ?_; rintro e w4 ⟨rfl, hb⟩; have HC4 := Aside0.mk (HC3.out.below hb); have HB4 := Aside0.mk (thn HB3.out hb); clear hb)
          | (go_at_call 6; with_reducible refine (Take_ok HC4.out 1000 (by have := HK.out; omega) (by rw [HLN.out, HMP.out]; exact km1) (Nat.le_trans HI0.out (by decide))).mono ?_; rintro e w5 ⟨rfl, ⟨v5, hc⟩, hb⟩; have HC5 := Aside0.mk hc; have HB5 := Aside0.mk (HB4.out.trans hb); clear hc hb)
          | (go_at_call 9; with_reducible refine (Settle_yes HC5.out 0 (by decide) true HLE.out _ [] (sel_all _) (stay_none _) HNE.out).mono ?_; rintro e w6 ⟨lv, v6, rfl, hv, hc, hb⟩; have HC6 := Aside0.mk hc; have HB6 := Aside0.mk (HB5.out.trans hb); obtain ⟨g, d, hf⟩ : ∃ g d, lv = .slice (some ⟨g, 0, none⟩) L d := by { obtain ⟨g, d, rfl, -⟩ := Kd.R_form hv (by rw [HLL.out]; omega); exact ⟨g, d, by rw [HLL.out, HLG.out]⟩ }; subst hf; have HVd := Aside0.mk hv; clear hb hc hv)
          | (go_at_call 10; refine (told_is _).mono ?_; rintro e w7 ⟨rfl, hb⟩; have HC7 := Aside0.mk (HC6.out.below hb); have HB7 := Aside0.mk (thn HB6.out hb); have HVe := Aside0.mk (Kd.R_below HVd.out hb); clear hb)
          | (go_at_call 8; with_reducible refine (Free_at HC7.out (by decide) (by omega) (by have := HM.out; omega) (m : Int) HMX.out).mono ?_; rintro e w8 ⟨rfl, hb⟩; have HB8 := Aside0.mk (thn HB7.out hb); have hx : w8.cell? ⟨g, 0, none⟩ = some (.int .u64 10) := at0 (x := 10) (r := r ++ [1000]) (by have := Kd.R_below HVe.out hb; rw [HR0.out, List.cons_append] at this; exact this); clear hb))
        go_ret
        exact ⟨rfl, HB8.out⟩
      · have km1 : ¬ (i : Int) < (m : Int) := by omega
        have KM1 := Aside0.mk km1
        have hi0 : 0 < i := HK.out.1
        have HLL := Aside0.mk (tens_len i)
        have HLE := Aside0.mk (show (tens i).length ≤ 1000000 from Nat.le_trans HI0.out (by decide))
        have HNE := Aside0.mk (show ¬ (tens i = [] ∧ (true = false ∨ (0 : Int) < 0)) from fun h => h.2.elim (fun e => Bool.noConfusion e) (fun e => absurd e (by decide)))
        clear km
        go_wp2_with (first
          | (go_at_call 12; (try clear h1); with_reducible refine HL.out.mono ?_; rintro e w2 ⟨rfl, hc, hb⟩; have HC2 := Aside0.mk hc; have HB2 := Aside0.mk (HB.out.trans hb); clear hc hb)
          | (go_at_call 7; with_reducible refine (Open_is HC2.out (by simp only [tens_len]; have := HK.out; omega)).mono ?_; rintro e w3 ⟨v3, rfl, hv, hb⟩; obtain ⟨A3, c3, rfl⟩ : ∃ A c, v3 = .slice A i c := by { obtain ⟨A3, c3, rfl, -, -⟩ := Kd.R_reads hv; exact ⟨A3, c3, by rw [tens_len]⟩ }; have HC3 := Aside0.mk (HC2.out.below hb); have HB3 := Aside0.mk (thn HB2.out hb); clear hb hv)
          | (go_at_call 8; with_reducible refine (Free_at HC3.out (by simp only [tens_len]; have := HK.out; omega) (by omega) (by have := HM.out; omega) (mx ((m : Int) - (i : Int))) (by rw [HMP.out, HLN.out])).mono ?_; rintro e w4 ⟨rfl, hb⟩; have HC4 := Aside0.mk (HC3.out.below hb); have HB4 := Aside0.mk (thn HB3.out hb); clear hb)
          | (go_at_call 6; with_reducible refine (Take_full HC4.out 1000 (by have := HK.out; omega) (by rw [HLN.out, HMP.out]; exact KM1.out)).mono ?_; rintro e w5 ⟨rfl, hb⟩; have HC5 := Aside0.mk (HC4.out.below hb); have HB5 := Aside0.mk (thn HB4.out hb); clear hb)
          | (go_at_call 9; with_reducible refine (Settle_yes HC5.out 0 (by decide) true HLE.out _ [] (sel_all _) (stay_none _) HNE.out).mono ?_; rintro e w6 ⟨lv, v6, rfl, hv, hc, hb⟩; have HC6 := Aside0.mk hc; have HB6 := Aside0.mk (HB5.out.trans hb); obtain ⟨g, d, hf⟩ : ∃ g d, lv = .slice (some ⟨g, 0, none⟩) (i) d := by { obtain ⟨g, d, rfl, -⟩ := Kd.R_form hv (by rw [HLL.out]; omega); exact ⟨g, d, by rw [HLL.out]⟩ }; subst hf; have HVd := Aside0.mk hv; clear hb hc hv)
          | (go_at_call 10; refine (told_is _).mono ?_; rintro e w7 ⟨rfl, hb⟩; have HC7 := Aside0.mk (HC6.out.below hb); have HB7 := Aside0.mk (thn HB6.out hb); have HVe := Aside0.mk (Kd.R_below HVd.out hb); clear hb)
          | (go_at_call 8; with_reducible refine (Free_at HC7.out (by decide) (by omega) (by have := HM.out; omega) (m : Int) HMX.out).mono ?_; rintro e w8 ⟨rfl, hb⟩; have HB8 := Aside0.mk (thn HB7.out hb); have hx : w8.cell? ⟨g, 0, none⟩ = some (.int .u64 10) := at0 (x := 10) (r := r) (by have := Kd.R_below HVe.out hb; rw [HR0.out] at this; exact this); clear hb))
        go_ret
        exact ⟨rfl, HB8.out⟩
end Go.Proofs.Ytcgfjjpnjoinkaa.Cr
