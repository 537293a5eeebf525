/-
  RouteHash: the law's walk.
  Conditions: none.
-/
import Derived.Test.YtpmalfabeajepaaDoorFi
import Derived.BigRegion
import Derived.BigQuiet
namespace Go.Proofs.YtpmalfabeajepaaDoor.Rt
open Go.RowKit Go.Proofs.YtpmalfabeajepaaDoorW.PrintWords Go.Proofs.YtpmalfabeajepaaDoorW.PrintLast Go.Proofs.YtpmalfabeajepaaDoorG Go.Proofs.YtpmalfabeajepaaDoor.PGa Go.Proofs.YtpmalfabeajepaaDoorH
set_option linter.unusedVariables false
set_option linter.unusedSimpArgs false
attribute [local go_sem] mn_min

theorem qn_def (i : Nat) : qn i = ⟨#[113]⟩ ++ (⟨#[48, 49, 50, 51, 52, 53, 54, 55]⟩ : ByteArray).extract i (i + 1) := rfl
/-- The weight at a place. -/
def wtP (l : List Int) (i : Nat) : Int := wrap64 (1 + wrap64 ((IntKind.u64.wrap (rd l (i : Int))).tmod 4))
theorem wtP_ok (l : List Int) (i : Nat) : 1 ≤ wtP l i ∧ wtP l i ≤ 4 := by
  obtain ⟨k, h, h1, h2⟩ := one_four (rd l (i : Int))
  unfold wtP
  rw [h]
  exact ⟨h1, h2⟩
set_option maxHeartbeats 16000000 in
set_option maxRecDepth 100000 in
theorem Hash_is (A : Option Addr) (c : Nat) (l : List Int) (key : ByteArray) (w : World) (hl : Kd.C (Kd.int .i64) w A l.length l) : Calls Tryd.prog 4 #[.slice A l.length c, .string key] w fun e w' => e = .returned (.bool true) ∧ Below w.heap.size w w' := by
  have HL := Aside0.mk hl
  clear hl
  obtain ⟨n, hn⟩ : ∃ n : Nat, min l.length 8 = n := ⟨_, rfl⟩
  have hm1 : (if (8 : Int) < (l.length : Int) then (8 : Int) else (l.length : Int)) = (n : Int) := by split <;> omega
  by_cases hn1 : n < 1
  · have hn2 : (n : Int) < 1 := by clear hm1; omega
    clear hn1 hn
    go_enter Tryd.func4, Tryd.ntmps4
    go_wp2_with (go_at_call 9; with_reducible refine (Told_is _).mono ?_; rintro e w1 ⟨rfl, hb⟩; have HB1 := Aside0.mk hb; clear hb)
    go_ret
    exact ⟨rfl, HB1.out⟩
  have hn2 : ¬ (n : Int) < 1 := by clear hm1; omega
  by_cases hk1 : 60 < key.size
  · have hk2 : (60 : Int) < (key.size : Int) := by clear hm1; omega
    clear hn1 hn hk1
    go_enter Tryd.func4, Tryd.ntmps4
    go_wp2_with (go_at_call 9; with_reducible refine (Told_is _).mono ?_; rintro e w1 ⟨rfl, hb⟩; have HB1 := Aside0.mk hb; clear hb)
    go_ret
    exact ⟨rfl, HB1.out⟩
  have hk2 : ¬ (60 : Int) < (key.size : Int) := by clear hm1; omega
  have HKS := Aside0.mk (show key.size ≤ 60 by clear hm1; omega)
  have HN := Aside0.mk (show 1 ≤ n ∧ n ≤ 8 ∧ n ≤ l.length by clear hm1; omega)
  clear hn hn1 hk1
  go_enter Tryd.func4, Tryd.ntmps4
  go_wp2
  go_loopg [7, 8, 9, 10, 11, 12, 13, 14] n (fun g v7 v8 v9 v10 v11 v12 v13 v14 wr => ∃ (i : Nat) (B : Option Addr) (d : Nat), v7 = .slice B i d ∧ v8 = .string (lastQ (stH (wtP l) key i)) ∧ v9 = .int .i64 i ∧ g + i = n ∧ Aside0 (Kd.C k28 wr B i (hb (wtP l) i)) ∧ Aside0 (i ≤ d) ∧ Aside0 (Kd.C k25 wr (some ⟨w.heap.size, 0, none⟩) 1 [eH]) ∧ Aside0 (Below w.heap.size w wr))
  case atStart => exact ⟨0, none, 0, rfl, rfl, rfl, Nat.add_zero n, ⟨Kd.C_nil _ _⟩, ⟨Nat.le_refl _⟩, ⟨lit_X _ _ _⟩, ⟨below_alloc (Below.refl _ _) _⟩⟩
  case round =>
    obtain ⟨i, B, d, rfl, rfl, rfl, hgi, HD, HDD, HX, HB⟩ := hrel
    cases gk with
    | zero =>
      obtain rfl : i = n := by clear hm1; omega
      have h1 : ¬ ((i : Int) < (i : Int)) := Int.lt_irrefl _
      obtain ⟨q, hq⟩ : ∃ q, lastQ (stH (wtP l) key i) = q := ⟨_, rfl⟩
      have hne : (q.toList == []) = false := by rw [← hq]; exact last_ne (wtP l) (fun j _ => wtP_ok l j) key i HN.out.1 HN.out.2.1
      have hne2 : (q.toList = []) = False := eq_false (beq_eq_false_iff_ne.1 hne)
      rw [hq]
      clear hgi hq
      go_wp2_with (first
        | (go_at_call 10; with_reducible refine (HQ_none key HKS.out _ 1 _ HX.out (Nat.le_refl _)).mono ?_; rintro e w5 ⟨A5, c5, rfl, hb_⟩; have HB5 := Aside0.mk (thn HB.out hb_); clear hb_)
        | (go_at_call 9; with_reducible refine (Told_is _).mono ?_; rintro e w6 ⟨rfl, hb_⟩; have HB6 := Aside0.mk (thn HB5.out hb_); clear hb_))
      go_ret
      exact ⟨rfl, HB6.out⟩
    | succ g1 =>
      have hi : (i : Int) < (n : Int) := by clear hm1; omega
      have hil : (i : Int) < (l.length : Int) := by have := HN.out; clear hm1; omega
      have hi0 : 0 ≤ (i : Int) := by clear hm1; omega
      have hin : i < 8 := by have := HN.out; clear hm1; omega
      obtain ⟨ad, e1, hx⟩ := Kd.at_int HL.out i hi0 hil
      cases e1
      rw [Int.toNat_natCast] at hx
      replace hx := (HB.out.cell (World.block_lt_of_cell? w _ hx)).trans hx
      obtain ⟨y, hy⟩ : ∃ y, rd l (i : Int) = y := ⟨_, rfl⟩
      rw [hy] at hx
      have hx2 : ∀ o, (wr.alloc o).cell? (ad.add i) = some (.int .i64 y) := fun o => ((below_alloc (Below.refl _ _) o).cell (World.block_lt_of_cell? wr _ hx)).trans hx
      obtain ⟨u, hu⟩ : ∃ u, wtP l i = u := ⟨_, rfl⟩
      have hu2 : wrap64 (1 + wrap64 ((IntKind.u64.wrap y).tmod 4)) = u := by rw [← hy]; exact hu
      have HU := Aside0.mk hu
      have hw : wrap64 ((i : Int) + 1) = (i : Int) + 1 := w64 _ (by clear hm1 hu2; omega) (by clear hm1 hu2; omega)
      have hva : IntKind.i64.wrap (i : Int) = i := (i64_w _).trans (w64 _ (by clear hm1 hu2 hw; omega) (by clear hm1 hu2 hw; omega))
      have hva1 : IntKind.i64.wrap ((i : Int) + 1) = (i : Int) + 1 := (i64_w _).trans hw
      have p2 : (i : Int) ≤ (i : Int) + 1 := by clear hm1 hu2 hw hva hva1; omega
      have p3 : (i : Int) + 1 ≤ 8 := by clear hm1 hu2 hw hva hva1; omega
      have s1 : (9223372036854775807 < 1 + (min (i + 1) 8 - i)) = False := eq_false (by clear hm1 hu2 hw hva hva1; omega)
      obtain ⟨j, hj⟩ : ∃ j, i + 1 = j := ⟨_, rfl⟩
      have HJ := Aside0.mk hj
      have HI := Aside0.mk hgi
      have H8 := Aside0.mk hin
      clear hgi hy hu hj hin
      go_wp2
      go_region
      simp only [hu2]
      have BX := Aside0.mk (blk_drew (blk_new wr (.cells #[.string ⟨#[104]⟩, .string (⟨#[113]⟩ ++ (⟨#[48, 49, 50, 51, 52, 53, 54, 55]⟩ : ByteArray).extract i (i + 1)), .string ⟨#[]⟩, .int .i64 u] 28)))
      have BW := Aside0.mk (below_drew1 (below_alloc (Below.refl wr.heap.size wr) (.cells #[.string ⟨#[104]⟩, .string (⟨#[113]⟩ ++ (⟨#[48, 49, 50, 51, 52, 53, 54, 55]⟩ : ByteArray).extract i (i + 1)), .string ⟨#[]⟩, .int .i64 u] 28)))
      generalize (wr.alloc (.cells #[.string ⟨#[104]⟩, .string (⟨#[113]⟩ ++ (⟨#[48, 49, 50, 51, 52, 53, 54, 55]⟩ : ByteArray).extract i (i + 1)), .string ⟨#[]⟩, .int .i64 u] 28)).drew = w2 at BX BW ⊢
      have HB2 := Aside0.mk (thn HB.out BW.out)
      have HX2 := Aside0.mk (Kd.C_below HX.out BW.out)
      have HD2 := Aside0.mk (Kd.C_below HD.out BW.out)
      have k0_ : w2.cell? ⟨wr.heap.size, 0, none⟩ = some (.string ⟨#[104]⟩) := (blk_cell BX.out 0).trans rfl
      have k1_ : w2.cell? ⟨wr.heap.size, 1, none⟩ = some (.string (⟨#[113]⟩ ++ (⟨#[48, 49, 50, 51, 52, 53, 54, 55]⟩ : ByteArray).extract i (i + 1))) := (blk_cell BX.out 1).trans rfl
      have k2_ : w2.cell? ⟨wr.heap.size, 2, none⟩ = some (.string ⟨#[]⟩) := (blk_cell BX.out 2).trans rfl
      have k3_ : w2.cell? ⟨wr.heap.size, 3, none⟩ = some (.int .i64 u) := (blk_cell BX.out 3).trans rfl
      clear hx hx2 hva hva1 p2 p3 s1
      obtain ⟨Q, hQ⟩ : ∃ Q, lastQ (stH (wtP l) key j) = Q := ⟨_, rfl⟩
      obtain ⟨L, hL⟩ : ∃ L, lastQ (stH (wtP l) key i) = L := ⟨_, rfl⟩
      have hor : Q = qn i ∨ Q = L := by
        rw [← hQ, ← hL, ← HJ.out]
        rcases (st_step (wtP l) (fun j _ => wtP_ok l j) key H8.out) with ⟨v, _, h | ⟨_, h⟩⟩
        · exact .inl h
        · exact .inr h
      rw [hL]
      have HQN := Aside0.mk hQ
      clear hQ hL
      by_cases hql : Q.toList = L.toList
      · clear hor
        go_wp2_with (first
          | (go_at_call 12; with_reducible refine (HB_is (wtP l) (fun j _ => wtP_ok l j) i H8.out j HJ.out _ B 1 d _ HX2.out (Nat.le_refl _) HD2.out HDD.out u HU.out).mono ?_; rintro e w3 ⟨A3, c3, rfl, hc_, hl_, hb_⟩; have HD3 := Aside0.mk hc_; have HL3 := Aside0.mk hl_; have HX3 := Aside0.mk (Kd.C_below HX2.out hb_); have BX3 := Aside0.mk (blk_below BX.out hb_); have HB3 := Aside0.mk (thn HB2.out hb_); clear hb_ hc_ hl_ k0_ k1_ k2_ k3_)
          | (go_at_call 10; with_reducible refine (HQ_is (wtP l) (fun j _ => wtP_ok l j) key HKS.out i H8.out _ A3 1 c3 _ HX3.out (Nat.le_refl _) j HJ.out HD3.out HL3.out).mono ?_; rintro e w4 ⟨g4, c4, rfl, hx_, hb_⟩; have HX4 := Aside0.mk (Kd.C_below HX3.out hb_); have HD4 := Aside0.mk (Kd.C_below HD3.out hb_); have BX4 := Aside0.mk (blk_below BX3.out hb_); have HB4 := Aside0.mk (thn HB3.out hb_); have k1_ : w4.cell? ⟨wr.heap.size, 1, none⟩ = some (.string (⟨#[113]⟩ ++ (⟨#[48, 49, 50, 51, 52, 53, 54, 55]⟩ : ByteArray).extract i (i + 1))) := (blk_cell BX4.out 1).trans rfl; rw [HQN.out] at hx_; clear hb_))
        go_quiet (fail)
        go_wp2
        go_quiet (fail)
        go_wp2
        go_roundg g1
        case measure => exact Nat.lt_succ_self _
        case rel => exact ⟨i + 1, A3, c3, by rw [HJ.out], by rw [HJ.out, HQN.out], by (try rw [hw]); rw [Int.natCast_add]; rfl, next_ HI.out, ⟨by rw [HJ.out]; exact Kd.C_drewN HD4.out _⟩, ⟨by rw [HJ.out]; exact HL3.out⟩, ⟨Kd.C_drewN HX4.out _⟩, ⟨pw_below_drewN HB4.out _⟩⟩
      · have hqi : Q = qn i := hor.resolve_right (fun h => hql (by rw [h]))
        subst hqi
        have hqf : ((⟨#[113]⟩ ++ (⟨#[48, 49, 50, 51, 52, 53, 54, 55]⟩ : ByteArray).extract i (i + 1)).toList = L.toList) = False := eq_false hql
        have hqb : ((⟨#[113]⟩ ++ (⟨#[48, 49, 50, 51, 52, 53, 54, 55]⟩ : ByteArray).extract i (i + 1)).toList == L.toList) = false := beq_eq_false_iff_ne.2 hql
        clear hor hql
        go_wp2_with (first
          | (go_at_call 12; with_reducible refine (HB_is (wtP l) (fun j _ => wtP_ok l j) i H8.out j HJ.out _ B 1 d _ HX2.out (Nat.le_refl _) HD2.out HDD.out u HU.out).mono ?_; rintro e w3 ⟨A3, c3, rfl, hc_, hl_, hb_⟩; have HD3 := Aside0.mk hc_; have HL3 := Aside0.mk hl_; have HX3 := Aside0.mk (Kd.C_below HX2.out hb_); have BX3 := Aside0.mk (blk_below BX.out hb_); have HB3 := Aside0.mk (thn HB2.out hb_); clear hb_ hc_ hl_ k0_ k1_ k2_ k3_)
          | (go_at_call 10; with_reducible refine (HQ_is (wtP l) (fun j _ => wtP_ok l j) key HKS.out i H8.out _ A3 1 c3 _ HX3.out (Nat.le_refl _) j HJ.out HD3.out HL3.out).mono ?_; rintro e w4 ⟨g4, c4, rfl, hx_, hb_⟩; have HX4 := Aside0.mk (Kd.C_below HX3.out hb_); have HD4 := Aside0.mk (Kd.C_below HD3.out hb_); have BX4 := Aside0.mk (blk_below BX3.out hb_); have HB4 := Aside0.mk (thn HB3.out hb_); have k1_ : w4.cell? ⟨wr.heap.size, 1, none⟩ = some (.string (⟨#[113]⟩ ++ (⟨#[48, 49, 50, 51, 52, 53, 54, 55]⟩ : ByteArray).extract i (i + 1))) := (blk_cell BX4.out 1).trans rfl; have hx3_ : w4.cell? ⟨g4, 0, none⟩ = some (.string (⟨#[113]⟩ ++ (⟨#[48, 49, 50, 51, 52, 53, 54, 55]⟩ : ByteArray).extract i (i + 1))) := by { rw [hx_, HQN.out, qn_def] }; clear hx_; clear hb_))
        go_quiet (fail)
        go_wp2
        go_quiet (fail)
        go_wp2
        go_roundg g1
        case measure => exact Nat.lt_succ_self _
        case rel => exact ⟨i + 1, A3, c3, by rw [HJ.out], by { have e_ := HQN.out; rw [← HJ.out] at e_; rw [e_, qn_def] }, by (try rw [hw]); rw [Int.natCast_add]; rfl, next_ HI.out, ⟨by rw [HJ.out]; exact Kd.C_drewN HD4.out _⟩, ⟨by rw [HJ.out]; exact HL3.out⟩, ⟨Kd.C_drewN HX4.out _⟩, ⟨pw_below_drewN HB4.out _⟩⟩
end Go.Proofs.YtpmalfabeajepaaDoor.Rt
