/-
  What was synced is there behind a crash (SegKeeps): the law's walk.
  Conditions: none.
-/
import Derived.Test.YtnnlmbmgaajmhaaLm
import Derived.Test.YtnnlmbmgaajmhaaSgE
namespace Go.Proofs.Ytnnlmbmgaajmhaa.Seg
open Go.RowKit Go.Proofs.YtnnlmbmgaajmhaaW.PrintWords Go.Proofs.YtnnlmbmgaajmhaaW.PrintLast Go.Proofs.YtnnlmbmgaajmhaaW.PrintMore Go.Proofs.YtnnlmbmgaajmhaaG Go.Proofs.Ytnnlmbmgaajmhaa.PGa Go.Proofs.Ytnnlmbmgaajmhaa.Sg
set_option linter.unusedVariables false
set_option linter.unusedSimpArgs false

/-- What is safe, and what waits, ahead of the record number i; the sync is ahead of number k. -/
def safeK (l : List (List Int)) (k i : Nat) : List Int := if i ≤ k then [] else cat (l.take k)
def waitK (l : List (List Int)) (k i : Nat) : List Int := if i ≤ k then cat (l.take i) else cat ((l.take i).drop k)
theorem step_ne {l : List (List Int)} {k i : Nat} (hi : i < l.length) (h : i ≠ k) : waitK l k i ++ recP l[i] = waitK l k (i + 1) ∧ safeK l k (i + 1) = safeK l k i := by
  unfold waitK safeK
  by_cases h1 : i ≤ k
  · rw [if_pos h1, if_pos (by omega), if_pos h1, if_pos (by omega), ← cat_snoc, ← List.take_succ_eq_append_getElem hi]
    exact ⟨rfl, rfl⟩
  · rw [if_neg h1, if_neg (by omega), if_neg h1, if_neg (by omega), List.take_succ_eq_append_getElem hi, List.drop_append_of_le_length (by rw [List.length_take]; omega), cat_snoc]
    exact ⟨rfl, rfl⟩
theorem step_eq {l : List (List Int)} {k : Nat} (hi : k < l.length) : [] ++ recP l[k] = waitK l k (k + 1) ∧ safeK l k k ++ waitK l k k = safeK l k (k + 1) := by
  unfold waitK safeK
  have a1 : ¬ (k + 1 ≤ k) := by omega
  have a2 : k ≤ k := by omega
  rw [if_neg a1, if_neg a1, if_pos a2, if_pos a2, List.take_succ_eq_append_getElem hi, List.drop_left' (by rw [List.length_take]; omega), cat_cons, cat_nil, List.append_nil]
  exact ⟨rfl, rfl⟩
theorem wait_len {l : List (List Int)} {k i : Nat} (h : ∀ x ∈ l.take i, 1 ≤ x.length ∧ x.length ≤ 60) (hn : l.length ≤ 12) : (waitK l k i).length ≤ 792 := by
  unfold waitK
  have hli : (l.take i).length ≤ 12 := by rw [List.length_take]; omega
  split
  · have := cat_size (m := 60) (ls := l.take i) (fun x hx => (h x hx).2)
    omega
  · have := cat_size (m := 60) (ls := (l.take i).drop k) (fun x hx => (h x (List.mem_of_mem_drop hx)).2)
    have h2 : ((l.take i).drop k).length ≤ 12 := by rw [List.length_drop]; omega
    omega
theorem safe_len {l : List (List Int)} {k i : Nat} (h : ∀ x ∈ l.take i, 1 ≤ x.length ∧ x.length ≤ 60) (hn : l.length ≤ 12) : (safeK l k i).length ≤ 792 := by
  unfold safeK
  split
  · simp
  · have := cat_size (m := 60) (ls := l.take k) (fun x hx => (h x (List.take_subset_take_left l (by omega) hx)).2)
    have h2 : (l.take k).length ≤ 12 := by rw [List.length_take]; omega
    omega
theorem keeps_few (A : Option Addr) (c : Nat) (l : List (List Int)) (a1 a2 : Int) (w : World) (h12 : l.length > 12) : Calls Try.prog 4 #[.slice A l.length c, .int .i64 a1, .int .i64 a2] w fun e w' => e = .returned (.bool true) ∧ Below w.heap.size w w' := by
  have h12 : (l.length : Int) > 12 := by omega
  go_enter Try.func4, Try.ntmps4
  go_wp2_with (go_at_call 10; refine (told_is _).mono ?_; rintro e w1 ⟨rfl, hb⟩; have HB := Aside0.mk hb; clear hb)
  go_ret
  exact ⟨rfl, HB.out⟩
set_option maxHeartbeats 4000000 in
theorem keeps_is (A : Option Addr) (c : Nat) (l : List (List Int)) (a1 a2 : Int) (w : World) (hr : Kd.C (Kd.slice 5 (Kd.int .u8)) w A l.length l) (hc : l.length ≤ c) (ho : ∀ x ∈ l, Oct x) :
    Calls Try.prog 4 #[.slice A l.length c, .int .i64 a1, .int .i64 a2] w fun e w' => e = .returned (.bool true) ∧ Below w.heap.size w w' := by
  by_cases h12 : l.length > 12
  · exact keeps_few A c l a1 a2 w h12
  have HR := Aside0.mk hr
  have HO := Aside0.mk ho
  have HC := Aside0.mk hc
  clear hr ho hc
  have h12 : (l.length : Int) ≤ 12 := by omega
  obtain ⟨k, hk, hkl⟩ := place a1 (l.length + 1) (by omega) (by omega)
  have hw : wrap64 ((l.length : Int) + 1) = (l.length : Int) + 1 := w64 _ (by omega) (by omega)
  have hu : IntKind.u64.wrap ((l.length : Int) + 1) = (l.length : Int) + 1 := by rw [u64_is]; omega
  have hne : ((l.length : Int) + 1 = 0) = False := eq_false (by omega)
  rw [show (((l.length + 1 : Nat)) : Int) = (l.length : Int) + 1 by omega, hu] at hk
  go_enter Try.func4, Try.ntmps4
  go_upto_region 6 with (go_at_call 16; refine (open_nil _).mono ?_; rintro e w1 ⟨B1, c1, vs, N, lp, rfl, hb, hN1, hN2, hL⟩; have HB := Aside0.mk hb; have HL := Aside0.mk hL; clear hb hL hN2)
  go_upto_region 7 with fail
  rw [hk]
  have HK := Aside0.mk hkl
  clear hk hu hne hw hkl h12
  go_wp2
  go_loopg [10] l.length (fun g v10 wr => ∃ (i : Nat) (vs1 vt1 : Value), v10 = .int .i64 i ∧ g + i = l.length ∧ Aside0 (Lg N wr lp (safeK l k i) (waitK l k i) false vs1 vt1) ∧ Aside0 (Below w.heap.size w wr) ∧ Aside0 (∀ x ∈ l.take i, 1 ≤ x.length ∧ x.length ≤ 60))
  case atStart => exact ⟨0, vs, _, rfl, by omega, HL, HB, ⟨fun x hx => by simp at hx⟩⟩
  case round =>
    obtain ⟨i, vs1, vt1, rfl, hgi, HL1, HB1, HF⟩ := hrel
    clear HL HB
    cases gk with
    | zero =>
      obtain rfl : i = l.length := by omega
      have hgi : True := trivial
      have hall : ∀ x ∈ l, 1 ≤ x.length ∧ x.length ≤ 60 := by have h := HF.out; rwa [List.take_of_length_le (Nat.le_refl _)] at h
      have HALL := Aside0.mk hall
      have HWL := Aside0.mk (wait_len (k := k) HF.out (by omega))
      have HSL := Aside0.mk (safe_len (k := k) HF.out (by omega))
      have HKL := Aside0.mk (show k ≤ l.length by have := HK.out; omega)
      clear HF hall hgi
      obtain ⟨m, hm, hml⟩ := place a2 900 (by omega) (by omega)
      have hm : wrap64 ((IntKind.u64.wrap a2).tmod 900) = (m : Int) := hm
      by_cases hkn : k = l.length
      · subst hkn
        go_upto_region 18 with (go_at_call 22; refine (sync_is HL1.out (by have := HWL.out; have := HSL.out; omega)).mono ?_; rintro e w2 ⟨⟨v2, rfl⟩, hb, vs2, hL⟩; have HB2 := Aside0.mk (HB1.out.trans (hb.mono hN1)); have HL2 := Aside0.mk hL; clear hb hL)
        have HL3 : Aside0 (Lg N w2 lp (cat (l.take l.length)) (cat (l.drop l.length)) false vs2 (.slice none 0 0)) := ⟨by
          have h : Lg N w2 lp (safeK l l.length l.length ++ waitK l l.length l.length) [] false vs2 (.slice none 0 0) := HL2.out
          have e1 : safeK l l.length l.length ++ waitK l l.length l.length = cat (l.take l.length) := by
            unfold safeK waitK
            rw [if_pos (by omega), if_pos (by omega)]
            rfl
          rw [e1] at h
          rw [List.drop_of_length_le (by omega)]
          exact h⟩
        clear HL2 HL1 HB1
        have HBZ := Aside0.mk (HB2.out)
        have hsz : (cat (l.take l.length)).length + (cat (l.drop l.length)).length ≤ 2000 := by
          have a := cat_size (m := 60) (ls := l.take l.length) (fun x hx => (HALL.out x (List.mem_of_mem_take hx)).2)
          have b := cat_size (m := 60) (ls := l.drop l.length) (fun x hx => (HALL.out x (List.mem_of_mem_drop hx)).2)
          rw [List.length_take] at a
          rw [List.length_drop] at b
          omega
        obtain ⟨y, hy⟩ : ∃ y, y = cat (l.take l.length) ++ (cat (l.drop l.length)).take (mn (mx (m : Int)) ((cat (l.drop l.length)).length : Int)).toNat := ⟨_, rfl⟩
        obtain ⟨q, hq1, hq2, hqe⟩ := read_keep l l.length (mn (mx (m : Int)) ((cat (l.drop l.length)).length : Int)).toNat (by have := HKL.out; omega) (fun x hx => by have := HALL.out x hx; omega)
        rw [← hy] at hqe
        have hyo : Oct y := by
          rw [hy]
          exact (cat_oct fun x hx => HO.out x (List.mem_of_mem_take hx)).app ((cat_oct fun x hx => HO.out x (List.mem_of_mem_drop hx)).take _)
        have hyl : y.length < 1073741824 := by
          rw [hy, List.length_append, List.length_take]
          omega
        have hcr : ∀ w1 : World, Lg N w1 lp (cat (l.take l.length)) (cat (l.drop l.length)) false vs2 (.slice none 0 0) → Calls Try.prog 24 #[.pointer (some ⟨lp, 0, none⟩), .int .i64 (m : Int)] w1 fun e w' => ∃ A c, e = .returned (.slice A y.length c) ∧ By w1.heap.size w' (.slice A y.length c) y ∧ Below w1.heap.size w1 w' := fun w1 h => by
          rw [hy]
          exact crash_is h (m : Int) (by omega)
        have hopn : ∀ (A : Option Addr) (c : Nat) (w1 : World), Kd.C (Kd.int .u8) w1 A y.length y → y.length ≤ c → Calls Try.prog 16 #[.slice A y.length c] w1 fun e w' => ∃ B cb vs N lp, e = .returned (.tuple #[.pointer (some ⟨lp, 0, none⟩), .slice B q cb]) ∧ Below w1.heap.size w1 w' ∧
            Kd.S (Kd.slice 5 (Kd.int .u8)) 22 w' w1.heap.size (fun k => k < N) (.slice B q cb) (l.take q) := fun A c w1 h1 h2 => by
          have h := open_is A c y w1 h1 h2 hyo hyl
          have hql : (l.take q).length = q := by rw [List.length_take]; omega
          rw [hqe, hql] at h
          refine h.mono ?_
          rintro e w' ⟨B, cb, vs, N, lp, rfl, hb, -, -, hs, -⟩
          exact ⟨B, cb, vs, N, lp, rfl, hb, hs⟩
        have HCR := Aside0.mk (hcr _ HL3.out)
        have HOPN := Aside0.mk hopn
        have HQL := Aside0.mk (show q ≤ l.length from hq2)
        have hq3 : ¬ ((q : Int) < (l.length : Nat)) := by omega
        have hq4 : ¬ ((q : Int) > (l.length : Int)) := by omega
        clear hcr hopn hy hqe hyo hyl hsz
        go_upto_region 19 with (first | (go_at_call 24; refine HCR.out.mono ?_; rintro e w4 ⟨A4, c4, rfl, hv, hb⟩; have HB4 := Aside0.mk hb; have HV4 := Aside0.mk (Kd.R_reads' hv).2; clear hv hb) | (go_at_call 16; refine (HOPN.out _ _ _ HV4.out.2 HV4.out.1).mono ?_; rintro e w5 ⟨B5, c5, vs5, N5, lp5, rfl, hb, hs⟩; have HB5 := Aside0.mk ((HBZ.out.trans (HB4.out.mono HBZ.out.size)).trans (hb.mono (Nat.le_trans HBZ.out.size HB4.out.size))); have HS5 := Aside0.mk hs; clear hb hs))
        clear HCR HOPN HL3 HBZ HB4 HV4
        go_wp2
        go_loopg [13] q (fun g v13 wr2 => ∃ i : Nat, v13 = .int .i64 i ∧ g + i = q ∧ Aside0 (Below w.heap.size w wr2) ∧ Aside0 (∃ ok, Kd.S (Kd.slice 5 (Kd.int .u8)) 22 wr2 w4.heap.size ok (.slice B5 q c5) (l.take q)))
        case atStart => exact ⟨0, rfl, by omega, HB5, ⟨⟨_, HS5.out⟩⟩⟩
        case round =>
          clear HB5 HS5
          obtain ⟨i, rfl, hgi, HB6, ⟨ok6, hs6⟩⟩ := hrel
          cases gk with
          | zero =>
            obtain rfl : i = q := by omega
            go_wp2_with (go_at_call 10; refine (told_is _).mono ?_; rintro e w7 ⟨rfl, hb⟩; have HB7 := Aside0.mk (HB6.out.trans (hb.mono HB6.out.size)); clear hb)
            go_ret
            exact ⟨rfl, HB7.out⟩
          | succ g1 =>
            have HS6 := Aside0.mk hs6
            clear hs6
            have hi0 : 0 ≤ (i : Int) := by omega
            have hiq : (i : Int) < (q : Int) := by omega
            have hil : (i : Int) < (l.length : Int) := by have := HQL.out; omega
            have hql : (l.take q).length = q := by have := HQL.out; rw [List.length_take]; omega
            have hre : rd_L1 (l.take q) (i : Int) = rd_L1 l (i : Int) := by
              unfold rd_L1
              rw [List.getD_eq_getElem?_getD, List.getD_eq_getElem?_getD, Int.toNat_natCast, List.getElem?_take_of_lt (by omega)]
            obtain ⟨ad, A2, c2, hA, hx, hlx, hCx⟩ := at_L1 HR.out (i : Int) hi0 hil
            subst hA
            have h2 := Kd.S_reads' HS6.out
            obtain ⟨ad2, A3, c3, hA3, hx3, hlx3, hCx3⟩ := at_L1 h2.2.2 (i : Int) hi0 (by rw [hql]; exact hiq)
            subst hA3
            rw [Int.toNat_natCast] at hx hx3
            rw [hre] at hx3 hlx3 hCx3
            replace hx := (HB6.out.cell (World.block_lt_of_cell? w _ hx)).trans hx
            have hcx := Kd.C_below hCx HB6.out
            clear hre h2
            generalize rd_L1 l (i : Int) = x at hx hlx hCx hx3 hlx3 hCx3 hcx
            have hcv1 := fun n_ : Nat => Kd.C_string (P := Try.prog) (A := A2) (c := c2) Try.underlying22 Try.underlying5 Try.underlying9 (Kd.C_drewN hcx n_)
            have hcv2 := fun n_ : Nat => Kd.C_string (P := Try.prog) (A := A3) (c := c3) Try.underlying22 Try.underlying5 Try.underlying9 (Kd.C_drewN hCx3 n_)
            have hwi : wrap64 ((i : Int) + 1) = (i : Int) + 1 := w64 _ (by omega) (by omega)
            clear hlx hCx hlx3 hCx3 hcx
            go_wp2
            go_quiet (fail)
            go_wp2
            go_roundg g1
            case measure => omega
            case rel => exact ⟨i + 1, (by first | rfl | (rw [hwi]; rfl)), by omega, ⟨by repeat (first | exact HB6.out | apply below_alloc | apply pw_below_drewN | apply below_drew1)⟩, ⟨⟨_, Kd.S_drewN HS6.out _⟩⟩⟩
      · have hkn2 : ((k : Int) = (l.length : Int)) = False := eq_false (by omega)
        go_upto_region 18 with fail
        have HL3 : Aside0 (Lg N wr lp (cat (l.take k)) (cat (l.drop k)) false vs1 vt1) := ⟨by
          have h := HL1.out
          have e1 : safeK l k l.length = cat (l.take k) := by
            unfold safeK
            rw [if_neg (by have := HKL.out; omega)]
          have e2 : waitK l k l.length = cat (l.drop k) := by
            unfold waitK
            rw [if_neg (by have := HKL.out; omega), List.take_of_length_le (Nat.le_refl _)]
          rw [e1, e2] at h
          exact h⟩
        have HBZ := Aside0.mk (HB1.out)
        have hsz : (cat (l.take k)).length + (cat (l.drop k)).length ≤ 2000 := by
          have a := cat_size (m := 60) (ls := l.take k) (fun x hx => (HALL.out x (List.mem_of_mem_take hx)).2)
          have b := cat_size (m := 60) (ls := l.drop k) (fun x hx => (HALL.out x (List.mem_of_mem_drop hx)).2)
          rw [List.length_take] at a
          rw [List.length_drop] at b
          omega
        obtain ⟨y, hy⟩ : ∃ y, y = cat (l.take k) ++ (cat (l.drop k)).take (mn (mx (m : Int)) ((cat (l.drop k)).length : Int)).toNat := ⟨_, rfl⟩
        obtain ⟨q, hq1, hq2, hqe⟩ := read_keep l k (mn (mx (m : Int)) ((cat (l.drop k)).length : Int)).toNat (by have := HKL.out; omega) (fun x hx => by have := HALL.out x hx; omega)
        rw [← hy] at hqe
        have hyo : Oct y := by
          rw [hy]
          exact (cat_oct fun x hx => HO.out x (List.mem_of_mem_take hx)).app ((cat_oct fun x hx => HO.out x (List.mem_of_mem_drop hx)).take _)
        have hyl : y.length < 1073741824 := by
          rw [hy, List.length_append, List.length_take]
          omega
        have hcr : ∀ w1 : World, Lg N w1 lp (cat (l.take k)) (cat (l.drop k)) false vs1 vt1 → Calls Try.prog 24 #[.pointer (some ⟨lp, 0, none⟩), .int .i64 (m : Int)] w1 fun e w' => ∃ A c, e = .returned (.slice A y.length c) ∧ By w1.heap.size w' (.slice A y.length c) y ∧ Below w1.heap.size w1 w' := fun w1 h => by
          rw [hy]
          exact crash_is h (m : Int) (by omega)
        have hopn : ∀ (A : Option Addr) (c : Nat) (w1 : World), Kd.C (Kd.int .u8) w1 A y.length y → y.length ≤ c → Calls Try.prog 16 #[.slice A y.length c] w1 fun e w' => ∃ B cb vs N lp, e = .returned (.tuple #[.pointer (some ⟨lp, 0, none⟩), .slice B q cb]) ∧ Below w1.heap.size w1 w' ∧
            Kd.S (Kd.slice 5 (Kd.int .u8)) 22 w' w1.heap.size (fun k => k < N) (.slice B q cb) (l.take q) := fun A c w1 h1 h2 => by
          have h := open_is A c y w1 h1 h2 hyo hyl
          have hql : (l.take q).length = q := by rw [List.length_take]; omega
          rw [hqe, hql] at h
          refine h.mono ?_
          rintro e w' ⟨B, cb, vs, N, lp, rfl, hb, -, -, hs, -⟩
          exact ⟨B, cb, vs, N, lp, rfl, hb, hs⟩
        have HCR := Aside0.mk (hcr _ HL3.out)
        have HOPN := Aside0.mk hopn
        have HQL := Aside0.mk (show q ≤ l.length from hq2)
        have hq3 : ¬ ((q : Int) < (k : Nat)) := by omega
        have hq4 : ¬ ((q : Int) > (l.length : Int)) := by omega
        clear hcr hopn hy hqe hyo hyl hsz
        go_upto_region 19 with (first | (go_at_call 24; refine HCR.out.mono ?_; rintro e w4 ⟨A4, c4, rfl, hv, hb⟩; have HB4 := Aside0.mk hb; have HV4 := Aside0.mk (Kd.R_reads' hv).2; clear hv hb) | (go_at_call 16; refine (HOPN.out _ _ _ HV4.out.2 HV4.out.1).mono ?_; rintro e w5 ⟨B5, c5, vs5, N5, lp5, rfl, hb, hs⟩; have HB5 := Aside0.mk ((HBZ.out.trans (HB4.out.mono HBZ.out.size)).trans (hb.mono (Nat.le_trans HBZ.out.size HB4.out.size))); have HS5 := Aside0.mk hs; clear hb hs))
        clear HCR HOPN HL3 HBZ HB4 HV4
        go_wp2
        go_loopg [13] q (fun g v13 wr2 => ∃ i : Nat, v13 = .int .i64 i ∧ g + i = q ∧ Aside0 (Below w.heap.size w wr2) ∧ Aside0 (∃ ok, Kd.S (Kd.slice 5 (Kd.int .u8)) 22 wr2 w4.heap.size ok (.slice B5 q c5) (l.take q)))
        case atStart => exact ⟨0, rfl, by omega, HB5, ⟨⟨_, HS5.out⟩⟩⟩
        case round =>
          clear HB5 HS5
          obtain ⟨i, rfl, hgi, HB6, ⟨ok6, hs6⟩⟩ := hrel
          cases gk with
          | zero =>
            obtain rfl : i = q := by omega
            go_wp2_with (go_at_call 10; refine (told_is _).mono ?_; rintro e w7 ⟨rfl, hb⟩; have HB7 := Aside0.mk (HB6.out.trans (hb.mono HB6.out.size)); clear hb)
            go_ret
            exact ⟨rfl, HB7.out⟩
          | succ g1 =>
            have HS6 := Aside0.mk hs6
            clear hs6
            have hi0 : 0 ≤ (i : Int) := by omega
            have hiq : (i : Int) < (q : Int) := by omega
            have hil : (i : Int) < (l.length : Int) := by have := HQL.out; omega
            have hql : (l.take q).length = q := by have := HQL.out; rw [List.length_take]; omega
            have hre : rd_L1 (l.take q) (i : Int) = rd_L1 l (i : Int) := by
              unfold rd_L1
              rw [List.getD_eq_getElem?_getD, List.getD_eq_getElem?_getD, Int.toNat_natCast, List.getElem?_take_of_lt (by omega)]
            obtain ⟨ad, A2, c2, hA, hx, hlx, hCx⟩ := at_L1 HR.out (i : Int) hi0 hil
            subst hA
            have h2 := Kd.S_reads' HS6.out
            obtain ⟨ad2, A3, c3, hA3, hx3, hlx3, hCx3⟩ := at_L1 h2.2.2 (i : Int) hi0 (by rw [hql]; exact hiq)
            subst hA3
            rw [Int.toNat_natCast] at hx hx3
            rw [hre] at hx3 hlx3 hCx3
            replace hx := (HB6.out.cell (World.block_lt_of_cell? w _ hx)).trans hx
            have hcx := Kd.C_below hCx HB6.out
            clear hre h2
            generalize rd_L1 l (i : Int) = x at hx hlx hCx hx3 hlx3 hCx3 hcx
            have hcv1 := fun n_ : Nat => Kd.C_string (P := Try.prog) (A := A2) (c := c2) Try.underlying22 Try.underlying5 Try.underlying9 (Kd.C_drewN hcx n_)
            have hcv2 := fun n_ : Nat => Kd.C_string (P := Try.prog) (A := A3) (c := c3) Try.underlying22 Try.underlying5 Try.underlying9 (Kd.C_drewN hCx3 n_)
            have hwi : wrap64 ((i : Int) + 1) = (i : Int) + 1 := w64 _ (by omega) (by omega)
            clear hlx hCx hlx3 hCx3 hcx
            go_wp2
            go_quiet (fail)
            go_wp2
            go_roundg g1
            case measure => omega
            case rel => exact ⟨i + 1, (by first | rfl | (rw [hwi]; rfl)), by omega, ⟨by repeat (first | exact HB6.out | apply below_alloc | apply pw_below_drewN | apply below_drew1)⟩, ⟨⟨_, Kd.S_drewN HS6.out _⟩⟩⟩
    | succ g1 =>
      have hi0 : 0 ≤ (i : Int) := by omega
      have hil : (i : Int) < (l.length : Int) := by omega
      have hil2 : i < l.length := by omega
      obtain ⟨ad, A2, c2, hA, hx, hlx, hCx⟩ := at_L1 HR.out (i : Int) hi0 hil
      subst hA
      have hxe : rd_L1 l (i : Int) = l[i] := by unfold rd_L1; rw [List.getD_eq_getElem?_getD, Int.toNat_natCast, List.getElem?_eq_getElem hil2]; rfl
      rw [hxe] at hx hlx hCx
      rw [Int.toNat_natCast] at hx
      have hox := HO.out _ (List.getElem_mem hil2)
      have hst := step_ne (k := k) hil2
      have hse : ∀ h : k < l.length, i = k → [] ++ recP l[i] = waitK l k (i + 1) ∧ safeK l k i ++ waitK l k i = safeK l k (i + 1) := fun h e => by subst e; exact step_eq h
      have hsn : ∀ (hq : 1 ≤ l[i].length ∧ l[i].length ≤ 60), ∀ x ∈ l.take (i + 1), 1 ≤ x.length ∧ x.length ≤ 60 := fun hq x hx => by
        rw [List.take_succ_eq_append_getElem hil2] at hx
        rcases List.mem_append.mp hx with h | h
        · exact HF.out x h
        · rw [List.mem_singleton.mp h]
          exact hq
      have hwl := wait_len (k := k) HF.out (by omega)
      have hsl := safe_len (k := k) HF.out (by omega)
      generalize l[i] = x at hx hlx hCx hox hst hse hsn
      have HX0 := Aside0.mk hx
      replace hx := (HB1.out.cell (World.block_lt_of_cell? w _ hx)).trans hx
      have HOX := Aside0.mk hox
      have HLX := Aside0.mk hlx
      have HCX := Aside0.mk hCx
      have HST := Aside0.mk hst
      have HSE := Aside0.mk hse
      have HSN := Aside0.mk hsn
      have HWL := Aside0.mk hwl
      have HSL := Aside0.mk hsl
      have hwi : wrap64 ((i : Int) + 1) = (i : Int) + 1 := w64 _ (by omega) (by omega)
      clear hox hlx hCx hst hse hsn hxe hwl hsl
      by_cases hx1 : (x.length : Int) < 1
      · go_wp2_with (go_at_call 10; refine (told_is _).mono ?_; rintro e w2 ⟨rfl, hb⟩; have HB2 := Aside0.mk (HB1.out.trans (hb.mono HB1.out.size)); clear hb)
        go_ret
        exact ⟨rfl, HB2.out⟩
      by_cases hx2 : (x.length : Int) > 60
      · go_wp2_with (go_at_call 10; refine (told_is _).mono ?_; rintro e w2 ⟨rfl, hb⟩; have HB2 := Aside0.mk (HB1.out.trans (hb.mono HB1.out.size)); clear hb)
        go_ret
        exact ⟨rfl, HB2.out⟩
      have HMY := Aside0.mk (show May x from ⟨HOX.out, by omega, by omega⟩)
      by_cases hik : i = k
      · have HSQ := Aside0.mk (HSE.out (by omega) hik)
        clear HSE HST
        subst hik
        go_wp2_with (first | (go_at_call 22; refine (sync_is HL1.out (by have := HWL.out; have := HSL.out; omega)).mono ?_; rintro e w2 ⟨⟨v2, rfl⟩, hb, vs2, hL⟩; have HB2 := Aside0.mk hb; have HL2 := Aside0.mk hL; have hx2 := ((HB1.out.trans (hb.mono hN1)).cell (World.block_lt_of_cell? w _ HX0.out)).trans HX0.out; clear hb hL) | (go_at_call 23; refine (put_ok HL2.out A2 c2 x (Kd.C_below HCX.out (HB1.out.trans (HB2.out.mono hN1))) HLX.out HMY.out (by simp)).mono ?_; rintro e w3 ⟨rfl, hb, vt3, hL⟩; have HB3 := Aside0.mk (HB1.out.trans ((HB2.out.trans hb).mono hN1)); have HL3 := Aside0.mk hL; clear hb hL))
        go_roundg g1
        case measure => omega
        case rel => exact ⟨i + 1, _, _, (by first | rfl | (simp; done)), by omega, ⟨by have h := HL3.out; rw [← HSQ.out.1, ← HSQ.out.2]; exact h⟩, HB3, ⟨HSN.out ⟨by omega, by omega⟩⟩⟩
      · have hik2 : ((i : Int) = (k : Int)) = False := eq_false (by omega)
        go_wp2_with (go_at_call 23; refine (put_ok HL1.out A2 c2 x (Kd.C_below HCX.out HB1.out) HLX.out HMY.out (by have := HWL.out; omega)).mono ?_; rintro e w3 ⟨rfl, hb, vt3, hL⟩; have HB3 := Aside0.mk (HB1.out.trans (hb.mono hN1)); have HL3 := Aside0.mk hL; clear hb hL)
        go_roundg g1
        case measure => omega
        case rel => exact ⟨i + 1, _, _, (by first | rfl | (simp; done)), by omega, ⟨by have h := HL3.out; rw [(HST.out hik).1] at h; rw [(HST.out hik).2]; exact h⟩, HB3, ⟨HSN.out ⟨by omega, by omega⟩⟩⟩
end Go.Proofs.Ytnnlmbmgaajmhaa.Seg
