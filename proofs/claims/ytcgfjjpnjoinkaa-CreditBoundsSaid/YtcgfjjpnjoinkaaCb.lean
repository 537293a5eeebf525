/-
  CreditBounds: the law's walk.
  Conditions: none.
-/
import Derived.Test.YtcgfjjpnjoinkaaCl
namespace Go.Proofs.Ytcgfjjpnjoinkaa.Cr
open Go.RowKit Go.Proofs.YtcgfjjpnjoinkaaW.PrintWords Go.Proofs.YtcgfjjpnjoinkaaW.PrintLast Go.Proofs.YtcgfjjpnjoinkaaG Go.Proofs.Ytcgfjjpnjoinkaa.PCa
set_option linter.unusedVariables false
set_option linter.unusedSimpArgs false

def mn (x y : Int) : Int := if y < x then y else x
theorem mn_min (ats : Array TypeId) (ty : TypeId) (x y : Int) : Builtin.min_ ats ty #[.int .i64 x, .int .i64 y] = pure (.int .i64 (mn x y)) := by
  rw [Go.Proofs.YtcgfjjpnjoinkaaW.PrintMore.min_two, Go.Proofs.YtcgfjjpnjoinkaaW.PrintMore.min2_int]
  rfl
attribute [local go_sem] mn_min
theorem mn_nat (x y : Nat) : mn (x : Int) (y : Int) = ((min x y : Nat) : Int) := by unfold mn; split <;> omega
/-- 1, 2, .. -/
def ups (i : Nat) : List Int := (List.range i).map fun (j : Nat) => (j : Int) + 1
theorem ups_len (i : Nat) : (ups i).length = i := by simp [ups]
theorem ups_succ (i : Nat) : ups (i + 1) = ups i ++ [(i : Int) + 1] := by simp [ups, List.range_succ]
def selLen (t : Int) (all : Bool) (i : Nat) : Nat := (sel t all (ups i)).length
def stayLen (t : Int) (all : Bool) (i : Nat) : Nat := (stay (sel t all (ups i)) (ups i)).length
theorem lens_all : ∀ t : Fin 25, ∀ i : Fin 21, selLen (t.1 + 1 : Nat) true i.1 = min (t.1 + 1) i.1 ∧ stayLen (t.1 + 1 : Nat) true i.1 = i.1 - min (t.1 + 1) i.1 := by decide +kernel
theorem lens_one : ∀ t : Fin 25, ∀ i : Fin 21, selLen (t.1 + 1 : Nat) false i.1 = (if t.1 + 1 ≤ i.1 then 1 else 0) ∧ stayLen (t.1 + 1 : Nat) false i.1 = i.1 - (if t.1 + 1 ≤ i.1 then 1 else 0) := by decide +kernel
/-- Nothing is settled. -/
def NoP (t : Int) (all : Bool) (l : List Int) : Prop := sel t all l = [] ∧ (all = false ∨ 0 < t)
theorem Settle_no1 {N : Nat} {w : World} {cp : Nat} {m last : Int} {l : List Int} {v : Value} (h : Cr N w cp m last l v) (t : Int) (ht : 0 ≤ t) (all : Bool) (hs : l.length ≤ 1000000) (h3 : NoP t all l) :
    Calls Try.prog 9 #[.pointer (some ⟨cp, 0, none⟩), .int .u64 t, .bool all] w fun e w' => e = .returned (.tuple #[.slice none 0 0, .int .i64 406]) ∧ Below w.heap.size w w' := Settle_no h t ht all hs h3
theorem Settle_yes1 {N : Nat} {w : World} {cp : Nat} {m last : Int} {l : List Int} {v : Value} (h : Cr N w cp m last l v) (t : Int) (ht : 0 ≤ t) (all : Bool) (hs : l.length ≤ 1000000) (s r : List Int) (h1 : sel t all l = s) (h2 : stay s l = r) (h3 : ¬ NoP t all l) :
    Calls Try.prog 9 #[.pointer (some ⟨cp, 0, none⟩), .int .u64 t, .bool all] w fun e w' => ∃ lv v', e = .returned (.tuple #[lv, .int .i64 0]) ∧ Tg w.heap.size w' lv s ∧ Cr N w' cp m last r v' ∧ Below N w w' :=
  Settle_yes h t ht all hs s r h1 h2 (by subst h1; exact h3)
set_option maxHeartbeats 8000000 in
theorem Bounds_is (limit n tag : Int) (all : Bool) (w : World) : Calls Try.prog 3 #[.int .i64 limit, .int .i64 n, .int .i64 tag, .bool all] w fun e w' => e = .returned (.bool true) ∧ Below w.heap.size w w' := by
  obtain ⟨m0, hm0, hm1⟩ := small_mod limit 20 (by decide) (by decide)
  obtain ⟨k, hk0, hk1⟩ := small_mod n 61 (by decide) (by decide)
  obtain ⟨t0, ht0, ht1⟩ := small_mod tag 25 (by decide) (by decide)
  have hm1 : wrap64 ((IntKind.u64.wrap limit).tmod 20) = m0 := hm1
  have hk1 : wrap64 ((IntKind.u64.wrap n).tmod 61) = k := hk1
  have ht1 : wrap64 ((IntKind.u64.wrap tag).tmod 25) = t0 := ht1
  obtain ⟨m, hm⟩ : ∃ m, m = m0 + 1 := ⟨_, rfl⟩
  obtain ⟨t, ht⟩ : ∃ t, t = t0 + 1 := ⟨_, rfl⟩
  have hm2 : wrap64 (1 + (m0 : Int)) = (m : Int) := (w64 _ (by clear hm1 hk1 ht1; omega) (by clear hm1 hk1 ht1; omega)).trans (by clear hm1 hk1 ht1; omega)
  have ht2 : wrap64 (1 + (t0 : Int)) = (t : Int) := (w64 _ (by clear hm1 hk1 ht1 hm2; omega) (by clear hm1 hk1 ht1 hm2; omega)).trans (by clear hm1 hk1 ht1 hm2; omega)
  have HM := Aside0.mk (show 1 ≤ m ∧ m ≤ 20 by clear hm1 hk1 ht1 hm2 ht2; omega)
  have HK := Aside0.mk (show k ≤ 60 by clear hm1 hk1 ht1 hm2 ht2; omega)
  have HT := Aside0.mk (show 1 ≤ t ∧ t ≤ 25 by clear hm1 hk1 ht1 hm2 ht2; omega)
  have HTZ := Aside0.mk (show t0 < 25 ∧ t = t0 + 1 from ⟨ht0, ht⟩)
  have HM0 := Aside0.mk (show (0 : Int) ≤ (m : Int) from Int.natCast_nonneg m)
  have HM1 := Aside0.mk (show (m : Int) ≤ 65535 by clear hm1 hk1 ht1 hm2 ht2; omega)
  have HMP := Aside0.mk (show mostP (m : Int) = m by unfold mostP; rw [if_neg (by clear hm1 hk1 ht1 hm2 ht2; omega)])
  clear hm0 hk0 ht0 hm ht
  go_enter Try.func3, Try.ntmps3
  go_wp2_with (go_at_call 5; with_reducible refine (New_ok (m : Int) HM0.out HM1.out _).mono ?_; rintro e w1 ⟨cp, rfl, -, hc, hb⟩; have HCa := Aside0.mk hc; have HBa := Aside0.mk hb; clear hc hb)
  go_loopg [12] k (fun g v12 wr => ∃ (i : Nat) (v : Value), v12 = .int .i64 ((i : Int) + 1) ∧ g + i = k ∧ Aside0 (Cr w.heap.size wr cp m ((min i m : Nat) : Int) (ups (min i m)) v) ∧ Aside0 (Below w.heap.size w wr))
  case atStart => exact ⟨0, .slice none 0 0, rfl, Nat.add_zero k, ⟨by rw [Nat.zero_min]; exact HCa.out⟩, HBa⟩
  case round =>
    clear HCa HBa
    obtain ⟨i, v, rfl, hgi, HC, HB⟩ := hrel
    have HI := Aside0.mk hgi
    cases gk with
    | succ g1 =>
      have h1 : (i : Int) + 1 ≤ (k : Int) := by clear hk1 hm1 ht1 hm2 ht2; omega
      have hw2 : IntKind.u64.wrap ((i : Int) + 1) = (i : Int) + 1 := u64_id _ (by clear hk1 hm1 ht1 hm2 ht2; omega) (by have := HK.out; clear hk1 hm1 ht1 hm2 ht2; omega)
      have hw3 : wrap64 ((i : Int) + 1 + 1) = (i : Int) + 1 + 1 := w64 _ (by clear hk1 hm1 ht1 hm2 ht2; omega) (by have := HK.out; clear hk1 hm1 ht1 hm2 ht2; omega)
      clear hgi
      by_cases him : i + 1 ≤ m
      · have HTK : Aside0 (Calls Try.prog 6 #[.pointer (some ⟨cp, 0, none⟩), .int .u64 ((i : Int) + 1)] wr fun e w' => e = .returned (.int .i64 0) ∧ (∃ v', Cr w.heap.size w' cp m ((min (i + 1) m : Nat) : Int) (ups (min (i + 1) m)) v') ∧ Below w.heap.size wr w') := by
          have hc := HC.out
          rw [Nat.min_eq_left (show i ≤ m by clear hk1 hm1 ht1 hm2 ht2 hw2 hw3; omega)] at hc
          rw [Nat.min_eq_left him]
          have a3 : (ups i).length ≤ 1000000 := by rw [ups_len]; have := HK.out; have := HM.out; clear hk1 hm1 ht1 hm2 ht2 hw2 hw3; omega
          have a2 : ((ups i).length : Int) < mostP m := by rw [ups_len, HMP.out]; clear hk1 hm1 ht1 hm2 ht2 hw2 hw3; omega
          exact ⟨(Take_ok hc _ (by clear hk1 hm1 ht1 hm2 ht2 hw2 hw3; omega) a2 a3).mono fun e w' ⟨a, ⟨v', b⟩, c⟩ => ⟨a, ⟨v', by rw [ups_succ]; exact b⟩, c⟩⟩
        have hjm : (i : Int) + 1 ≤ (m : Int) := by clear hk1 hm1 ht1 hm2 ht2 hw2 hw3; omega
        obtain ⟨j, hj⟩ : ∃ j, (i : Int) + 1 = j := ⟨_, rfl⟩
        rw [hj] at hw2 hw3 h1 HTK hjm ⊢
        have HJ := Aside0.mk hj
        clear hj hk1 hm1 ht1 hm2 ht2 him
        go_wp2_with (go_at_call 6; with_reducible refine HTK.out.mono ?_; rintro e w2 ⟨rfl, ⟨v2, hc⟩, hb⟩; have HC2 := Aside0.mk hc; have HB2 := Aside0.mk (HB.out.trans hb); clear hc hb)
        go_roundg g1
        case measure => omega
        case rel => exact ⟨i + 1, v2, by rw [hw3, ← HJ.out, Int.natCast_add]; rfl, by have := HI.out; omega, HC2, HB2⟩
      · have HTK : Aside0 (Calls Try.prog 6 #[.pointer (some ⟨cp, 0, none⟩), .int .u64 ((i : Int) + 1)] wr fun e w' => e = .returned (.int .i64 4) ∧ (∃ v', Cr w.heap.size w' cp m ((min (i + 1) m : Nat) : Int) (ups (min (i + 1) m)) v') ∧ Below w.heap.size wr w') := by
          have hc := HC.out
          rw [Nat.min_eq_right (show m ≤ i by clear hk1 hm1 ht1 hm2 ht2 hw2 hw3; omega)] at hc
          rw [Nat.min_eq_right (show m ≤ i + 1 by clear hk1 hm1 ht1 hm2 ht2 hw2 hw3; omega)]
          have a2 : mostP m ≤ ((ups m).length : Int) := by rw [ups_len, HMP.out]; exact Int.le_refl _
          exact ⟨(Take_full hc _ (by clear hk1 hm1 ht1 hm2 ht2 hw2 hw3; omega) a2).mono fun e w' ⟨a, b⟩ => ⟨a, ⟨v, hc.below b⟩, b.mono hc.base⟩⟩
        have hjm : ¬ (i : Int) + 1 ≤ (m : Int) := by clear hk1 hm1 ht1 hm2 ht2 hw2 hw3; omega
        obtain ⟨j, hj⟩ : ∃ j, (i : Int) + 1 = j := ⟨_, rfl⟩
        rw [hj] at hw2 hw3 h1 HTK hjm ⊢
        have HJ := Aside0.mk hj
        clear hj hk1 hm1 ht1 hm2 ht2 him
        go_wp2_with (go_at_call 6; with_reducible refine HTK.out.mono ?_; rintro e w2 ⟨rfl, ⟨v2, hc⟩, hb⟩; have HC2 := Aside0.mk hc; have HB2 := Aside0.mk (HB.out.trans hb); clear hc hb)
        go_roundg g1
        case measure => omega
        case rel => exact ⟨i + 1, v2, by rw [hw3, ← HJ.out, Int.natCast_add]; rfl, by have := HI.out; omega, HC2, HB2⟩
    | zero =>
      obtain rfl : i = k := by clear hk1 hm1 ht1 hm2 ht2; omega
      have h1 : ¬ ((i : Int) + 1 ≤ (i : Int)) := by clear hk1 hm1 ht1 hm2 ht2; omega
      obtain ⟨O, hO⟩ : ∃ O, min i m = O := ⟨_, rfl⟩
      have hmn : mn (i : Int) (m : Int) = (O : Int) := by rw [mn_nat, hO]
      rw [hO] at HC
      have HO := Aside0.mk (show O ≤ 20 ∧ O ≤ m by have := HM.out; clear hk1 hm1 ht1 hm2 ht2 hmn; omega)
      clear hO hgi
      obtain ⟨D, hD⟩ : ∃ D, (m : Int) - (O : Int) = D := ⟨_, rfl⟩
      have hw4 : wrap64 ((m : Int) - (O : Int)) = D := (w64 _ (by have := HO.out; clear hk1 hm1 ht1 hm2 ht2 hmn; omega) (by have := HM.out; clear hk1 hm1 ht1 hm2 ht2 hmn; omega)).trans hD
      have hw5 : IntKind.u64.wrap (t : Int) = (t : Int) := u64_id _ (Int.natCast_nonneg t) (by have := HT.out; clear hk1 hm1 ht1 hm2 ht2 hmn hw4; omega)
      have HMX := Aside0.mk (show mx (mostP (m : Int) - ((ups O).length : Int)) = D by rw [HMP.out, ups_len, hD]; unfold mx; rw [if_neg (by have := HO.out; clear hk1 hm1 ht1 hm2 ht2 hmn hw4 hw5; omega)])
      have HLE := Aside0.mk (show (ups O).length ≤ 1000000 by rw [ups_len]; have := HO.out; clear hk1 hm1 ht1 hm2 ht2 hmn hw4 hw5; omega)
      have HT0 := Aside0.mk (show (0 : Int) ≤ (t : Int) from Int.natCast_nonneg t)
      clear hD
      cases all with
      | false =>
        by_cases hto : t ≤ O
        · skip
          have HLL := lens_one ⟨t0, HTZ.out.1⟩ ⟨O, Nat.lt_succ_of_le HO.out.1⟩
          have hl : (sel (t : Int) false (ups O)).length = (if t0 + 1 ≤ O then 1 else 0) ∧ (stay (sel (t : Int) false (ups O)) (ups O)).length = O - (if t0 + 1 ≤ O then 1 else 0) := by
            have e : t = t0 + 1 := HTZ.out.2
            rw [e]
            exact HLL
          clear HLL
          rw [if_pos (show t0 + 1 ≤ O from HTZ.out.2 ▸ hto)] at hl
          have HNE := Aside0.mk (show ¬ NoP (t : Int) false (ups O) from fun h => by have := hl.1; rw [h.1, List.length_nil] at this; exact absurd this (by decide))
          obtain ⟨R, hR⟩ : ∃ R, (stay (sel (t : Int) false (ups O)) (ups O)).length = R := ⟨_, rfl⟩
          have HLS := Aside0.mk hl.1
          have HLR := Aside0.mk hR
          have HLR1 := Aside0.mk (show (stay (sel (t : Int) false (ups O)) (ups O)).length ≤ 1000000 by rw [hl.2]; have := HO.out; clear hk1 hm1 ht1 hm2 ht2 hmn hw4 hw5; omega)
          have HO1 := Aside0.mk (show (1 : Int) ≤ (O : Int) by have := HT.out; clear hk1 hm1 ht1 hm2 ht2 hmn hw4 hw5 hl; omega)
          have HWT := Aside0.mk (show carrefourlaw15_wantTake.f (O : Int) = some 1 by unfold carrefourlaw15_wantTake.f; rw [if_pos (show (O : Int) > 0 from HO1.out)])
          have hwr : wrap64 ((O : Int) - 1) = (R : Int) := (w64 _ (by have := HO.out; have := HT.out; clear hk1 hm1 ht1 hm2 ht2 hmn hw4 hw5 hl; omega) (by have := HO.out; clear hk1 hm1 ht1 hm2 ht2 hmn hw4 hw5 hl; omega)).trans (by rw [← hR, hl.2]; have := HT.out; clear hk1 hm1 ht1 hm2 ht2 hmn hw4 hw5 hl hR; omega)
          clear hl hR
          have hto2 : ¬ ((O : Int) < (t : Int)) := by clear hk1 hm1 ht1 hm2 ht2 hmn hw4 hw5 hwr; omega
          clear hto
          go_wp2_with (first
            | (go_at_call 7; (try clear h1); with_reducible refine (Open_is HC.out HLE.out).mono ?_; rintro e w3 ⟨v3, rfl, hv, hb⟩; obtain ⟨A3, c3, rfl⟩ : ∃ A c, v3 = .slice A O c := by { obtain ⟨A3, c3, rfl, -, -⟩ := Kd.R_reads hv; exact ⟨A3, c3, by rw [ups_len]⟩ }; have HC3 := Aside0.mk (HC.out.below hb); have HB3 := Aside0.mk (thn HB.out hb); clear hb hv)
            | (go_at_call 8; with_reducible refine (Free_at HC3.out HLE.out HM0.out HM1.out D HMX.out).mono ?_; rintro e w4 ⟨rfl, hb⟩; have HC4 := Aside0.mk (HC3.out.below hb); have HB4 := Aside0.mk (thn HB3.out hb); clear hb)
            | (go_at_call 9; with_reducible refine (Settle_yes1 HC4.out (t : Int) HT0.out false HLE.out _ _ rfl rfl HNE.out).mono ?_; rintro e w5 ⟨lv, v5, rfl, hv, hc, hb⟩; obtain ⟨A5, c5, rfl⟩ : ∃ A c, lv = .slice A 1 c := by { obtain ⟨A3, c3, rfl, -, -⟩ := Kd.R_reads hv; exact ⟨A3, c3, by rw [HLS.out]⟩ }; have HC5 := Aside0.mk hc; have HB5 := Aside0.mk (HB4.out.trans hb); clear hb hv hc)
            | (go_at_call 10; with_reducible refine (told_is _).mono ?_; rintro e w6 ⟨rfl, hb⟩; have HC6 := Aside0.mk (HC5.out.below hb); have HB6 := Aside0.mk (thn HB5.out hb); clear hb)
            | (go_at_call 7; with_reducible refine (Open_is HC6.out HLR1.out).mono ?_; rintro e w7 ⟨v7, rfl, hv, hb⟩; obtain ⟨A7, c7, rfl⟩ : ∃ A c, v7 = .slice A R c := by { obtain ⟨A3, c3, rfl, -, -⟩ := Kd.R_reads hv; exact ⟨A3, c3, by rw [HLR.out]⟩ }; have HC7 := Aside0.mk (HC6.out.below hb); have HB7 := Aside0.mk (thn HB6.out hb); clear hb hv)
            | (go_at_call 6; with_reducible refine (Take_old HC7.out 1 HO1.out).mono ?_; rintro e w8 ⟨rfl, rfl⟩)
            | (go_at_call 11; with_reducible refine (carrefourlaw15_wantTake.calls (O : Int) 1 _ HWT.out).mono ?_; rintro e w9 ⟨rfl, nd, rfl⟩))
          go_ret
          exact ⟨rfl, pw_below_drewN HB7.out nd⟩
        · skip
          have HLL := lens_one ⟨t0, HTZ.out.1⟩ ⟨O, Nat.lt_succ_of_le HO.out.1⟩
          have hl : (sel (t : Int) false (ups O)).length = (if t0 + 1 ≤ O then 1 else 0) ∧ (stay (sel (t : Int) false (ups O)) (ups O)).length = O - (if t0 + 1 ≤ O then 1 else 0) := by
            have e : t = t0 + 1 := HTZ.out.2
            rw [e]
            exact HLL
          clear HLL
          rw [if_neg (show ¬ t0 + 1 ≤ O from HTZ.out.2 ▸ hto)] at hl
          have HNO := Aside0.mk (show NoP (t : Int) false (ups O) from ⟨List.length_eq_zero_iff.1 hl.1, .inl rfl⟩)
          clear hl
          have hto2 : (O : Int) < (t : Int) := by clear hk1 hm1 ht1 hm2 ht2 hmn hw4 hw5; omega
          clear hto
          go_wp2_with (first
            | (go_at_call 7; (try clear h1); with_reducible refine (Open_is HC.out HLE.out).mono ?_; rintro e w3 ⟨v3, rfl, hv, hb⟩; obtain ⟨A3, c3, rfl⟩ : ∃ A c, v3 = .slice A O c := by { obtain ⟨A3, c3, rfl, -, -⟩ := Kd.R_reads hv; exact ⟨A3, c3, by rw [ups_len]⟩ }; have HC3 := Aside0.mk (HC.out.below hb); have HB3 := Aside0.mk (thn HB.out hb); clear hb hv)
            | (go_at_call 8; with_reducible refine (Free_at HC3.out HLE.out HM0.out HM1.out D HMX.out).mono ?_; rintro e w4 ⟨rfl, hb⟩; have HC4 := Aside0.mk (HC3.out.below hb); have HB4 := Aside0.mk (thn HB3.out hb); clear hb)
            | (go_at_call 9; with_reducible refine (Settle_no1 HC4.out (t : Int) HT0.out false HLE.out HNO.out).mono ?_; rintro e w5 ⟨rfl, hb⟩; have HC5 := Aside0.mk (HC4.out.below hb); have HB5 := Aside0.mk (thn HB4.out hb); clear hb)
            | (go_at_call 10; with_reducible refine (told_is _).mono ?_; rintro e w6 ⟨rfl, hb⟩; have HC6 := Aside0.mk (HC5.out.below hb); have HB6 := Aside0.mk (thn HB5.out hb); clear hb)
            | (go_at_call 7; with_reducible refine (Open_is HC6.out HLE.out).mono ?_; rintro e w7 ⟨v7, rfl, hv, hb⟩; obtain ⟨A7, c7, rfl⟩ : ∃ A c, v7 = .slice A O c := by { obtain ⟨A3, c3, rfl, -, -⟩ := Kd.R_reads hv; exact ⟨A3, c3, by rw [ups_len]⟩ }; have HB7 := Aside0.mk (thn HB6.out hb); clear hb hv))
          go_ret
          exact ⟨rfl, HB7.out⟩
      | true =>
        by_cases hto : O = 0
        · skip
          have HLL := lens_all ⟨t0, HTZ.out.1⟩ ⟨O, Nat.lt_succ_of_le HO.out.1⟩
          have hl : (sel (t : Int) true (ups O)).length = min (t0 + 1) O ∧ (stay (sel (t : Int) true (ups O)) (ups O)).length = O - min (t0 + 1) O := by
            have e : t = t0 + 1 := HTZ.out.2
            rw [e]
            exact HLL
          clear HLL
          rw [show min (t0 + 1) O = 0 by rw [hto, Nat.min_zero]] at hl
          have HNO := Aside0.mk (show NoP (t : Int) true (ups O) from ⟨List.length_eq_zero_iff.1 hl.1, .inr (by have := HT.out; clear hk1 hm1 ht1 hm2 ht2 hmn hw4 hw5 hl; omega)⟩)
          clear hl
          have hmw : mn (t : Int) (O : Int) = 0 := by rw [hto]; unfold mn; rw [if_pos (by have := HT.out; clear hk1 hm1 ht1 hm2 ht2 hmn hw4 hw5; omega)]; rfl
          clear hto
          go_wp2_with (first
            | (go_at_call 7; (try clear h1); with_reducible refine (Open_is HC.out HLE.out).mono ?_; rintro e w3 ⟨v3, rfl, hv, hb⟩; obtain ⟨A3, c3, rfl⟩ : ∃ A c, v3 = .slice A O c := by { obtain ⟨A3, c3, rfl, -, -⟩ := Kd.R_reads hv; exact ⟨A3, c3, by rw [ups_len]⟩ }; have HC3 := Aside0.mk (HC.out.below hb); have HB3 := Aside0.mk (thn HB.out hb); clear hb hv)
            | (go_at_call 8; with_reducible refine (Free_at HC3.out HLE.out HM0.out HM1.out D HMX.out).mono ?_; rintro e w4 ⟨rfl, hb⟩; have HC4 := Aside0.mk (HC3.out.below hb); have HB4 := Aside0.mk (thn HB3.out hb); clear hb)
            | (go_at_call 9; with_reducible refine (Settle_no1 HC4.out (t : Int) HT0.out true HLE.out HNO.out).mono ?_; rintro e w5 ⟨rfl, hb⟩; have HC5 := Aside0.mk (HC4.out.below hb); have HB5 := Aside0.mk (thn HB4.out hb); clear hb)
            | (go_at_call 10; with_reducible refine (told_is _).mono ?_; rintro e w6 ⟨rfl, hb⟩; have HC6 := Aside0.mk (HC5.out.below hb); have HB6 := Aside0.mk (thn HB5.out hb); clear hb)
            | (go_at_call 7; with_reducible refine (Open_is HC6.out HLE.out).mono ?_; rintro e w7 ⟨v7, rfl, hv, hb⟩; obtain ⟨A7, c7, rfl⟩ : ∃ A c, v7 = .slice A O c := by { obtain ⟨A3, c3, rfl, -, -⟩ := Kd.R_reads hv; exact ⟨A3, c3, by rw [ups_len]⟩ }; have HB7 := Aside0.mk (thn HB6.out hb); clear hb hv))
          go_ret
          exact ⟨rfl, HB7.out⟩
        · skip
          have HLL := lens_all ⟨t0, HTZ.out.1⟩ ⟨O, Nat.lt_succ_of_le HO.out.1⟩
          have hl : (sel (t : Int) true (ups O)).length = min (t0 + 1) O ∧ (stay (sel (t : Int) true (ups O)) (ups O)).length = O - min (t0 + 1) O := by
            have e : t = t0 + 1 := HTZ.out.2
            rw [e]
            exact HLL
          clear HLL
          obtain ⟨Wt, hW⟩ : ∃ Wt, min (t0 + 1) O = Wt := ⟨_, rfl⟩
          have hmw : mn (t : Int) (O : Int) = (Wt : Int) := by rw [mn_nat, HTZ.out.2, hW]
          have hW1 : 1 ≤ Wt ∧ Wt ≤ O := by clear hk1 hm1 ht1 hm2 ht2 hmn hw4 hw5 hl hmw; omega
          rw [hW] at hl
          have hwz : ((Wt : Int) == 0) = false := beq_eq_false_iff_ne.2 (by clear hk1 hm1 ht1 hm2 ht2 hmn hw4 hw5 hl hmw; omega)
          clear hW
          have HNE := Aside0.mk (show ¬ NoP (t : Int) true (ups O) from fun h => by have := hl.1; rw [h.1, List.length_nil] at this; have := hW1.1; clear hk1 hm1 ht1 hm2 ht2 hmn hw4 hw5 hl hmw hwz; omega)
          obtain ⟨R, hR⟩ : ∃ R, (stay (sel (t : Int) true (ups O)) (ups O)).length = R := ⟨_, rfl⟩
          have HLS := Aside0.mk hl.1
          have HLR := Aside0.mk hR
          have HLR1 := Aside0.mk (show (stay (sel (t : Int) true (ups O)) (ups O)).length ≤ 1000000 by rw [hl.2]; have := HO.out; clear hk1 hm1 ht1 hm2 ht2 hmn hw4 hw5 hmw hwz; omega)
          have HO1 := Aside0.mk (show (1 : Int) ≤ (O : Int) by have := HT.out; clear hk1 hm1 ht1 hm2 ht2 hmn hw4 hw5 hmw hwz hl; omega)
          have HWT := Aside0.mk (show carrefourlaw15_wantTake.f (O : Int) = some 1 by unfold carrefourlaw15_wantTake.f; rw [if_pos (show (O : Int) > 0 from HO1.out)])
          have hwr : wrap64 ((O : Int) - (Wt : Int)) = (R : Int) := (w64 _ (by have := HO.out; have := HT.out; clear hk1 hm1 ht1 hm2 ht2 hmn hw4 hw5 hmw hwz hl; omega) (by have := HO.out; clear hk1 hm1 ht1 hm2 ht2 hmn hw4 hw5 hmw hwz hl; omega)).trans (by rw [← hR, hl.2]; have := HT.out; clear hk1 hm1 ht1 hm2 ht2 hmn hw4 hw5 hmw hwz hl hR; omega)
          clear hl hR
          clear hto hW1
          go_wp2_with (first
            | (go_at_call 7; (try clear h1); with_reducible refine (Open_is HC.out HLE.out).mono ?_; rintro e w3 ⟨v3, rfl, hv, hb⟩; obtain ⟨A3, c3, rfl⟩ : ∃ A c, v3 = .slice A O c := by { obtain ⟨A3, c3, rfl, -, -⟩ := Kd.R_reads hv; exact ⟨A3, c3, by rw [ups_len]⟩ }; have HC3 := Aside0.mk (HC.out.below hb); have HB3 := Aside0.mk (thn HB.out hb); clear hb hv)
            | (go_at_call 8; with_reducible refine (Free_at HC3.out HLE.out HM0.out HM1.out D HMX.out).mono ?_; rintro e w4 ⟨rfl, hb⟩; have HC4 := Aside0.mk (HC3.out.below hb); have HB4 := Aside0.mk (thn HB3.out hb); clear hb)
            | (go_at_call 9; with_reducible refine (Settle_yes1 HC4.out (t : Int) HT0.out true HLE.out _ _ rfl rfl HNE.out).mono ?_; rintro e w5 ⟨lv, v5, rfl, hv, hc, hb⟩; obtain ⟨A5, c5, rfl⟩ : ∃ A c, lv = .slice A Wt c := by { obtain ⟨A3, c3, rfl, -, -⟩ := Kd.R_reads hv; exact ⟨A3, c3, by rw [HLS.out]⟩ }; have HC5 := Aside0.mk hc; have HB5 := Aside0.mk (HB4.out.trans hb); clear hb hv hc)
            | (go_at_call 10; with_reducible refine (told_is _).mono ?_; rintro e w6 ⟨rfl, hb⟩; have HC6 := Aside0.mk (HC5.out.below hb); have HB6 := Aside0.mk (thn HB5.out hb); clear hb)
            | (go_at_call 7; with_reducible refine (Open_is HC6.out HLR1.out).mono ?_; rintro e w7 ⟨v7, rfl, hv, hb⟩; obtain ⟨A7, c7, rfl⟩ : ∃ A c, v7 = .slice A R c := by { obtain ⟨A3, c3, rfl, -, -⟩ := Kd.R_reads hv; exact ⟨A3, c3, by rw [HLR.out]⟩ }; have HC7 := Aside0.mk (HC6.out.below hb); have HB7 := Aside0.mk (thn HB6.out hb); clear hb hv)
            | (go_at_call 6; with_reducible refine (Take_old HC7.out 1 HO1.out).mono ?_; rintro e w8 ⟨rfl, rfl⟩)
            | (go_at_call 11; with_reducible refine (carrefourlaw15_wantTake.calls (O : Int) 1 _ HWT.out).mono ?_; rintro e w9 ⟨rfl, nd, rfl⟩))
          go_ret
          exact ⟨rfl, pw_below_drewN HB7.out nd⟩
end Go.Proofs.Ytcgfjjpnjoinkaa.Cr
