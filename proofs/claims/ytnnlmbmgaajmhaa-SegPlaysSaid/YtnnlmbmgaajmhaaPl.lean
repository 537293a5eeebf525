/-
  A log does what the document says, step by step (SegPlays): the law's walk.
  Conditions: none.
-/
import Derived.Test.YtnnlmbmgaajmhaaPa
import Derived.Deep.CutBlock
import Derived.Deep.DeepCutAuto
namespace Go.Proofs.Ytnnlmbmgaajmhaa.Seg
open Go.RowKit Go.Proofs.YtnnlmbmgaajmhaaW.PrintWords Go.Proofs.YtnnlmbmgaajmhaaW.PrintLast Go.Proofs.YtnnlmbmgaajmhaaG Go.Proofs.Ytnnlmbmgaajmhaa.PGr Go.Proofs.Ytnnlmbmgaajmhaa.Sg
set_option linter.unusedVariables false
set_option linter.unusedSimpArgs false

/-- A step of a log. -/
structure Op where
  k : Int
  n : Int
  b : List Int
def zOp : Op := ⟨0, 0, []⟩
def kOp : Kd Op := Kd.iso (Kd.pair (Kd.int .i64) (Kd.pair (Kd.int .i64) (Kd.slice 5 (Kd.int .u8)))) (fun x : Op => (x.k, x.n, x.b))
theorem kOp_open {w : World} {x : Op} {cs : List Value} (h : kOp.K w x cs) : ∃ A2 c2, cs = [.int .i64 x.k, .int .i64 x.n, .slice A2 x.b.length c2] ∧ x.b.length ≤ c2 ∧ (Kd.int .u8).C w A2 x.b.length x.b := by
  obtain ⟨_, _, rfl, rfl, ⟨_, _, rfl, rfl, ⟨A2, c2, rfl, l2, g2⟩⟩⟩ := h
  exact ⟨A2, c2, rfl, l2, g2⟩
theorem op_at {w : World} {A : Option Addr} {n : Nat} {xs : List Op} (h : Kd.C kOp w A n xs) (i : Nat) (hi : i < xs.length) :
    ∃ ad A2 c2, A = some ad ∧ w.cell? (ad.add (i * 3)) = some (.int .i64 xs[i].k) ∧ w.cell? ⟨(ad.add (i * 3)).block, (ad.add (i * 3)).off + 1, none⟩ = some (.int .i64 xs[i].n) ∧ w.cell? ⟨(ad.add (i * 3)).block, (ad.add (i * 3)).off + 2, none⟩ = some (.slice A2 xs[i].b.length c2) ∧ xs[i].b.length ≤ c2 ∧ (Kd.int .u8).C w A2 xs[i].b.length xs[i].b := by
  have hn := Kd.C_len h
  obtain ⟨ad, c, e, _, hK, hc0⟩ := Kd.C_get h zOp (i : Int) (by omega) (by omega)
  have hc : ∀ j u, c[j]? = some u → w.cell? (ad.add (i * 3 + j)) = some u := hc0
  have hx : xs.getD (i : Int).toNat zOp = xs[i] := by rw [List.getD_eq_getElem?_getD, Int.toNat_natCast, List.getElem?_eq_getElem hi]; rfl
  rw [hx] at hK
  obtain ⟨A2, c2, rfl, l2, g2⟩ := kOp_open hK
  exact ⟨ad, A2, c2, e, hc 0 _ rfl, by rw [← add_field _ _ 1 (by omega)]; exact hc 1 _ rfl, by rw [← add_field _ _ 2 (by omega)]; exact hc 2 _ rfl, l2, g2⟩
theorem read_nil : readP (bytesOf ⟨#[]⟩) = ([], 0) := rfl
theorem plays_few (A : Option Addr) (c : Nat) (l : List Op) (w : World) (h : (l.length : Int) > 80) : Calls Try.prog 8 #[.slice A l.length c] w fun e w' => e = .returned (.bool true) ∧ Below w.heap.size w w' := by
  go_enter Try.func8, Try.ntmps8
  go_wp2_with (first | (go_at_call 16; refine (open_nil _).mono ?_; rintro e w1 ⟨B1, c1, vs, N, lp, rfl, hb, hN1, hN2, hL⟩; have HB := Aside0.mk hb; clear hb hL hN2 hN1) | (go_at_call 25; refine (ropen ⟨#[]⟩ _ (by decide) [] 0 rfl rfl ⟨#[]⟩ rfl).mono ?_; rintro e w2 ⟨A2, c2, rp, rfl, -, -, -, -, hb⟩; have HB2 := Aside0.mk (HB.out.trans (hb.mono HB.out.size)); clear hb) | (go_at_call 10; refine (told_is _).mono ?_; rintro e w3 ⟨rfl, hb⟩; have HB3 := Aside0.mk (HB2.out.trans (hb.mono HB2.out.size)); clear hb))
  go_ret
  exact ⟨rfl, HB3.out⟩
/-- What a step holds, and its bytes as a text. -/
theorem stillP {w0 W : World} {gp : Nat} {k n : Value} {A3 : Option Addr} {c3 : Nat} {x : List Int} (hg : W.heap[gp]? = some (.cells #[k, n, .slice A3 x.length c3] 56 (0, 0))) (hB : Below w0.heap.size w0 W) (hC : Kd.C (Kd.int .u8) w0 A3 x.length x) :
    W.cell? ⟨gp, 2, none⟩ = some (.slice A3 x.length c3) ∧ (convert 22 9 (.slice A3 x.length c3)).run Try.prog W = .ok (.string (strOfNums x)) W :=
  ⟨blk_c hg 2, Kd.C_string Try.underlying22 Try.underlying5 Try.underlying9 (Kd.C_below hC hB)⟩
theorem six (k : Int) : -6 < k.tmod 6 ∧ k.tmod 6 < 6 := ⟨Int.lt_tmod_of_pos k (by decide), Int.tmod_lt_of_pos k (by decide)⟩
set_option maxRecDepth 100000 in
set_option maxHeartbeats 40000000 in
theorem plays_is (A : Option Addr) (c : Nat) (l : List Op) (w : World) (hr : Kd.C kOp w A l.length l) (ho : ∀ x ∈ l, Oct x.b) :
    Calls Try.prog 8 #[.slice A l.length c] w fun e w' => e = .returned (.bool true) ∧ Below w.heap.size w w' := by
  by_cases h80 : (l.length : Int) > 80
  · exact plays_few A c l w h80
  have HR := Aside0.mk hr
  have HO := Aside0.mk ho
  have HN := Aside0.mk (show l.length ≤ 80 by omega)
  clear hr ho
  go_enter Try.func8, Try.ntmps8
  go_upto_region 2 with (go_at_call 16; refine (open_nil _).mono ?_; rintro e w1 ⟨B1, c1, vs, N, lp, rfl, hb, hN1, hN2, hL⟩; have HB := Aside0.mk hb; have HL := Aside0.mk hL; clear hb hL hN2)
  go_upto_region 7 with (go_at_call 25; refine (ropen ⟨#[]⟩ _ (by decide) [] 0 rfl rfl ⟨#[]⟩ rfl).mono ?_; rintro e w2 ⟨A2, c2, rp, rfl, hrp, hr2, -, -, hb⟩; have HT := Aside0.mk (two_new HB.out hN1 HL.out hb hr2 (Nat.le_trans HB.out.size hrp) Oct.nil); clear hb hr2 hrp)
  clear HB HL h80 hN1
  go_wp2
  go_loopg [3, 5, 7] l.length (fun g v3 v5 v7 wr => ∃ (i lp rp : Nat) (s t : List Int) (b : Bool), v3 = .pointer (some ⟨lp, 0, none⟩) ∧ v5 = .pointer (some ⟨rp, 0, none⟩) ∧ v7 = .int .i64 i ∧ g + i = l.length ∧ Aside0 (Two w wr lp rp s t b) ∧ Aside0 (s.length + t.length ≤ 206 * i))
  case atStart => exact ⟨0, lp, rp, [], [], false, rfl, rfl, rfl, by omega, HT, ⟨by simp⟩⟩
  case round =>
    clear HT
    obtain ⟨i, lp, rp, s, t, b, rfl, rfl, rfl, hgi, HT, HZ⟩ := hrel
    cases gk with
    | zero =>
      obtain rfl : i = l.length := by omega
      go_wp2_with (go_at_call 10; refine (told_is _).mono ?_; rintro e w3 ⟨rfl, hb⟩; have HB3 := Aside0.mk (HT.out.below.trans (hb.mono HT.out.below.size)); clear hb)
      go_ret
      exact ⟨rfl, HB3.out⟩
    | succ g1 =>
      have hi0 : 0 ≤ (i : Int) := by omega
      have hil : (i : Int) < (l.length : Int) := by omega
      have hil2 : i < l.length := by omega
      obtain ⟨ad, A3, c3, hA, hx0, hx1, hx2, hlx, hCx⟩ := op_at HR.out i hil2
      subst hA
      have hox := HO.out _ (List.getElem_mem hil2)
      generalize l[i] = o at hx0 hx1 hx2 hlx hCx hox
      obtain ⟨k, n, x⟩ := o
      have hx0 : w.cell? (ad.add (i * 3)) = some (.int .i64 k) := hx0
      have hx1 : w.cell? ⟨(ad.add (i * 3)).block, (ad.add (i * 3)).off + 1, none⟩ = some (.int .i64 n) := hx1
      have hx2 : w.cell? ⟨(ad.add (i * 3)).block, (ad.add (i * 3)).off + 2, none⟩ = some (.slice A3 x.length c3) := hx2
      have hlx : x.length ≤ c3 := hlx
      have hCx : Kd.C (Kd.int .u8) w A3 x.length x := hCx
      have hox : Oct x := hox
      replace hx0 := (HT.out.below.cell (World.block_lt_of_cell? w _ hx0)).trans hx0
      replace hx1 := (HT.out.below.cell (World.block_lt_of_cell? w _ hx1)).trans hx1
      replace hx2 := (HT.out.below.cell (World.block_lt_of_cell? w _ hx2)).trans hx2
      go_upto_region 11 with fail
      have HT0 := Aside0.mk (HT.out.stay (below_alloc (Below.refl wr.heap.size wr) (.cells #[.int .i64 k, .int .i64 n, .slice A3 x.length c3] 56)))
      have hg0 : (wr.alloc (.cells #[.int .i64 k, .int .i64 n, .slice A3 x.length c3] 56)).heap[wr.heap.size]? = some (.cells #[.int .i64 k, .int .i64 n, .slice A3 x.length c3] 56 (0, 0)) := heap_alloc_new _ _
      clear hx0 hx1 hx2 HT
      generalize wr.alloc (.cells #[.int .i64 k, .int .i64 n, .slice A3 x.length c3] 56) = W0 at HT0 hg0 ⊢
      generalize wr.heap.size = gp at hg0 ⊢
      have hc0 : W0.cell? ⟨gp, 0, none⟩ = some (.int .i64 k) := blk_c hg0 0
      have hc1 : W0.cell? ⟨gp, 1, none⟩ = some (.int .i64 n) := blk_c hg0 1
      have hc2 : W0.cell? ⟨gp, 2, none⟩ = some (.slice A3 x.length c3) := blk_c hg0 2
      have HG0 := Aside0.mk hg0
      have HLX := Aside0.mk hlx
      have HCX := Aside0.mk hCx
      have HOX := Aside0.mk hox
      clear hg0 hlx hCx hox
      by_cases hx200 : (x.length : Int) > 200
      · go_wp2_with (go_at_call 10; refine (told_is _).mono ?_; rintro e w3 ⟨rfl, hb⟩; have HB3 := Aside0.mk (HT0.out.below.trans (hb.mono HT0.out.below.size)); clear hb)
        go_ret
        exact ⟨rfl, HB3.out⟩
      have HX2 := Aside0.mk (show x.length ≤ 200 by omega)
      have h6 := six k
      have hq1 : wrap64 (k.tmod 6 + 6) = k.tmod 6 + 6 := w64 _ (by omega) (by omega)
      obtain ⟨q, hq⟩ : ∃ q, (k.tmod 6 + 6).tmod 6 = q := ⟨_, rfl⟩
      have hq0 : 0 ≤ q ∧ q < 6 := by
        rw [← hq, Int.tmod_eq_emod_of_nonneg (by omega)]
        omega
      have hq2 : wrap64 q = q := w64 _ (by omega) (by omega)
      have HQ := Aside0.mk hq0
      have HGR := Aside0.mk (show gp ≠ rp by
        intro he
        subst he
        have := HG0.out.symm.trans HT0.out.rl
        simp at this)
      have HZ2 := Aside0.mk (show s.length + t.length ≤ 1000000000 by have := HZ.out; have := HN.out; omega)
      have hwi : wrap64 ((i : Int) + 1) = (i : Int) + 1 := w64 _ (by omega) (by have := HN.out; omega)
      clear h6 hq0
      go_upto_block 2 with fail
      clear hq hq1 hc0
      go_cut [3, 5] (fun v3 v5 wc => ∃ (lp1 rp1 : Nat) (s1 t1 : List Int) (b1 : Bool), v3 = .pointer (some ⟨lp1, 0, none⟩) ∧ v5 = .pointer (some ⟨rp1, 0, none⟩) ∧ Aside0 (Two w wc lp1 rp1 s1 t1 b1) ∧ Aside0 (s1.length + t1.length ≤ 206 * (i + 1)))
      case first =>
        have hqs : q = 0 ∨ q = 1 ∨ q = 2 ∨ q = 3 ∨ q = 4 ∨ q = 5 := by have := HQ.out; omega
        obtain ⟨-, i1⟩ := stillP HG0.out HT0.out.below HCX.out
        clear HQ
        rcases hqs with rfl | rfl | rfl | rfl | rfl | rfl
        · by_cases hx1 : x.length < 1
          · have HMN := Aside0.mk (show x.length < 1 ∨ 20000 < x.length from Or.inl hx1)
            have HMD := Aside0.mk (show decide (1 ≤ x.length ∧ x.length ≤ 20000) = false from decide_eq_false (by omega))
            clear hx1
            go_upto_region 25 with fail
            go_region_held3 (fun w' => w'.cell? ⟨gp, 2, none⟩ = some (.slice A3 x.length c3) ∧ (convert 22 9 (.slice A3 x.length c3)).run Try.prog w' = .ok (.string (strOfNums x)) w') (exact stillP (by first | exact HG2.out | exact HG1.out | exact HG0.out) (by first | exact HT3.out.below | exact HM.out.below | exact HT0.out.below | exact HT0.out.below.drew) HCX.out) ((first | (go_at_call 23; refine (Two.put_no (by first | exact HT0.out.stay (Below.refl _ _).drew | exact HT0.out) A3 c3 x (Kd.C_below HCX.out (by first | exact HT0.out.below.drew | exact HT0.out.below)) HLX.out HMN.out (by have := HZ2.out; omega)).mono ?_; rintro e w2 ⟨rfl, hm, ho, hb⟩; have HM := Aside0.mk hm; have HG1 := Aside0.mk (ho gp _ 56 HG0.out (by decide) (by decide)); clear hm ho hb) | (go_at_call 26; refine (Mid.put_no HM.out HOX.out HMD.out HT0.out.os HT0.out.ot).mono ?_; rintro e w3 ⟨rfl, ht, hk⟩; have HT3 := Aside0.mk ht; have HG2 := Aside0.mk (KeepBut.blk hk HG1.out HGR.out (by simp)); clear ht hk)))
            all_goals
             go_wp2
             go_meet
             case rel => exact ⟨_, _, _, _, _, rfl, rfl, HT3, ⟨by have := HZ.out; omega⟩⟩
          · have HMY := Aside0.mk (show May x from ⟨HOX.out, by omega, by have := HX2.out; omega⟩)
            clear hx1
            go_upto_region 25 with fail
            go_region_held3 (fun w' => w'.cell? ⟨gp, 2, none⟩ = some (.slice A3 x.length c3) ∧ (convert 22 9 (.slice A3 x.length c3)).run Try.prog w' = .ok (.string (strOfNums x)) w') (exact stillP (by first | exact HG2.out | exact HG1.out | exact HG0.out) (by first | exact HT3.out.below | exact HM.out.below | exact HT0.out.below | exact HT0.out.below.drew) HCX.out) ((first | (go_at_call 23; refine (Two.put_ok (by first | exact HT0.out.stay (Below.refl _ _).drew | exact HT0.out) A3 c3 x (Kd.C_below HCX.out (by first | exact HT0.out.below.drew | exact HT0.out.below)) HLX.out HMY.out (by have := HZ2.out; omega)).mono ?_; rintro e w2 ⟨rfl, hm, ho, hb⟩; have HM := Aside0.mk hm; have HG1 := Aside0.mk (ho gp _ 56 HG0.out (by decide) (by decide)); clear hm ho hb) | (go_at_call 26; refine (Mid.put_ok HM.out HMY.out HT0.out.os HT0.out.ot (by have := HZ2.out; omega)).mono ?_; rintro e w3 ⟨rfl, ht, hk⟩; have HT3 := Aside0.mk ht; have HG2 := Aside0.mk (KeepBut.blk hk HG1.out HGR.out (by simp)); clear ht hk)))
            all_goals
             go_wp2
             go_meet
             case rel => exact ⟨_, _, _, _, _, rfl, rfl, HT3, ⟨by have := HZ.out; have := HX2.out; simp only [List.length_append, rec_len]; omega⟩⟩
        · by_cases hx1 : x.length < 1
          · have HMN := Aside0.mk (show x.length < 1 ∨ 20000 < x.length from Or.inl hx1)
            have HMD := Aside0.mk (show decide (1 ≤ x.length ∧ x.length ≤ 20000) = false from decide_eq_false (by omega))
            clear hx1
            go_upto_region 25 with fail
            go_region_held3 (fun w' => w'.cell? ⟨gp, 2, none⟩ = some (.slice A3 x.length c3) ∧ (convert 22 9 (.slice A3 x.length c3)).run Try.prog w' = .ok (.string (strOfNums x)) w') (exact stillP (by first | exact HG2.out | exact HG1.out | exact HG0.out) (by first | exact HT3.out.below | exact HM.out.below | exact HT0.out.below | exact HT0.out.below.drew) HCX.out) ((first | (go_at_call 23; refine (Two.put_no (by first | exact HT0.out.stay (Below.refl _ _).drew | exact HT0.out) A3 c3 x (Kd.C_below HCX.out (by first | exact HT0.out.below.drew | exact HT0.out.below)) HLX.out HMN.out (by have := HZ2.out; omega)).mono ?_; rintro e w2 ⟨rfl, hm, ho, hb⟩; have HM := Aside0.mk hm; have HG1 := Aside0.mk (ho gp _ 56 HG0.out (by decide) (by decide)); clear hm ho hb) | (go_at_call 26; refine (Mid.put_no HM.out HOX.out HMD.out HT0.out.os HT0.out.ot).mono ?_; rintro e w3 ⟨rfl, ht, hk⟩; have HT3 := Aside0.mk ht; have HG2 := Aside0.mk (KeepBut.blk hk HG1.out HGR.out (by simp)); clear ht hk)))
            all_goals
             go_wp2
             go_meet
             case rel => exact ⟨_, _, _, _, _, rfl, rfl, HT3, ⟨by have := HZ.out; omega⟩⟩
          · have HMY := Aside0.mk (show May x from ⟨HOX.out, by omega, by have := HX2.out; omega⟩)
            clear hx1
            go_upto_region 25 with fail
            go_region_held3 (fun w' => w'.cell? ⟨gp, 2, none⟩ = some (.slice A3 x.length c3) ∧ (convert 22 9 (.slice A3 x.length c3)).run Try.prog w' = .ok (.string (strOfNums x)) w') (exact stillP (by first | exact HG2.out | exact HG1.out | exact HG0.out) (by first | exact HT3.out.below | exact HM.out.below | exact HT0.out.below | exact HT0.out.below.drew) HCX.out) ((first | (go_at_call 23; refine (Two.put_ok (by first | exact HT0.out.stay (Below.refl _ _).drew | exact HT0.out) A3 c3 x (Kd.C_below HCX.out (by first | exact HT0.out.below.drew | exact HT0.out.below)) HLX.out HMY.out (by have := HZ2.out; omega)).mono ?_; rintro e w2 ⟨rfl, hm, ho, hb⟩; have HM := Aside0.mk hm; have HG1 := Aside0.mk (ho gp _ 56 HG0.out (by decide) (by decide)); clear hm ho hb) | (go_at_call 26; refine (Mid.put_ok HM.out HMY.out HT0.out.os HT0.out.ot (by have := HZ2.out; omega)).mono ?_; rintro e w3 ⟨rfl, ht, hk⟩; have HT3 := Aside0.mk ht; have HG2 := Aside0.mk (KeepBut.blk hk HG1.out HGR.out (by simp)); clear ht hk)))
            all_goals
             go_wp2
             go_meet
             case rel => exact ⟨_, _, _, _, _, rfl, rfl, HT3, ⟨by have := HZ.out; have := HX2.out; simp only [List.length_append, rec_len]; omega⟩⟩
        · by_cases hx1 : x.length < 1
          · have HMN := Aside0.mk (show x.length < 1 ∨ 20000 < x.length from Or.inl hx1)
            have HMD := Aside0.mk (show decide (1 ≤ x.length ∧ x.length ≤ 20000) = false from decide_eq_false (by omega))
            clear hx1
            go_upto_region 25 with fail
            go_region_held3 (fun w' => w'.cell? ⟨gp, 2, none⟩ = some (.slice A3 x.length c3) ∧ (convert 22 9 (.slice A3 x.length c3)).run Try.prog w' = .ok (.string (strOfNums x)) w') (exact stillP (by first | exact HG2.out | exact HG1.out | exact HG0.out) (by first | exact HT3.out.below | exact HM.out.below | exact HT0.out.below | exact HT0.out.below.drew) HCX.out) ((first | (go_at_call 23; refine (Two.put_no (by first | exact HT0.out.stay (Below.refl _ _).drew | exact HT0.out) A3 c3 x (Kd.C_below HCX.out (by first | exact HT0.out.below.drew | exact HT0.out.below)) HLX.out HMN.out (by have := HZ2.out; omega)).mono ?_; rintro e w2 ⟨rfl, hm, ho, hb⟩; have HM := Aside0.mk hm; have HG1 := Aside0.mk (ho gp _ 56 HG0.out (by decide) (by decide)); clear hm ho hb) | (go_at_call 26; refine (Mid.put_no HM.out HOX.out HMD.out HT0.out.os HT0.out.ot).mono ?_; rintro e w3 ⟨rfl, ht, hk⟩; have HT3 := Aside0.mk ht; have HG2 := Aside0.mk (KeepBut.blk hk HG1.out HGR.out (by simp)); clear ht hk)))
            all_goals
             go_wp2
             go_meet
             case rel => exact ⟨_, _, _, _, _, rfl, rfl, HT3, ⟨by have := HZ.out; omega⟩⟩
          · have HMY := Aside0.mk (show May x from ⟨HOX.out, by omega, by have := HX2.out; omega⟩)
            clear hx1
            go_upto_region 25 with fail
            go_region_held3 (fun w' => w'.cell? ⟨gp, 2, none⟩ = some (.slice A3 x.length c3) ∧ (convert 22 9 (.slice A3 x.length c3)).run Try.prog w' = .ok (.string (strOfNums x)) w') (exact stillP (by first | exact HG2.out | exact HG1.out | exact HG0.out) (by first | exact HT3.out.below | exact HM.out.below | exact HT0.out.below | exact HT0.out.below.drew) HCX.out) ((first | (go_at_call 23; refine (Two.put_ok (by first | exact HT0.out.stay (Below.refl _ _).drew | exact HT0.out) A3 c3 x (Kd.C_below HCX.out (by first | exact HT0.out.below.drew | exact HT0.out.below)) HLX.out HMY.out (by have := HZ2.out; omega)).mono ?_; rintro e w2 ⟨rfl, hm, ho, hb⟩; have HM := Aside0.mk hm; have HG1 := Aside0.mk (ho gp _ 56 HG0.out (by decide) (by decide)); clear hm ho hb) | (go_at_call 26; refine (Mid.put_ok HM.out HMY.out HT0.out.os HT0.out.ot (by have := HZ2.out; omega)).mono ?_; rintro e w3 ⟨rfl, ht, hk⟩; have HT3 := Aside0.mk ht; have HG2 := Aside0.mk (KeepBut.blk hk HG1.out HGR.out (by simp)); clear ht hk)))
            all_goals
             go_wp2
             go_meet
             case rel => exact ⟨_, _, _, _, _, rfl, rfl, HT3, ⟨by have := HZ.out; have := HX2.out; simp only [List.length_append, rec_len]; omega⟩⟩
        · by_cases hx1 : x.length < 1
          · have HMN := Aside0.mk (show x.length < 1 ∨ 20000 < x.length from Or.inl hx1)
            have HMD := Aside0.mk (show decide (1 ≤ x.length ∧ x.length ≤ 20000) = false from decide_eq_false (by omega))
            clear hx1
            go_upto_region 28 with fail
            go_region_held3 (fun w' => w'.cell? ⟨gp, 2, none⟩ = some (.slice A3 x.length c3) ∧ (convert 22 9 (.slice A3 x.length c3)).run Try.prog w' = .ok (.string (strOfNums x)) w') (exact stillP (by first | exact HG2.out | exact HG1.out | exact HG0.out) (by first | exact HT3.out.below | exact HM.out.below | exact HT0.out.below | exact HT0.out.below.drew) HCX.out) ((first | (go_at_call 27; refine (Two.begin_no (by first | exact HT0.out.stay (Below.refl _ _).drew | exact HT0.out) A3 c3 x (Kd.C_below HCX.out (by first | exact HT0.out.below.drew | exact HT0.out.below)) HLX.out HMN.out).mono ?_; rintro e w2 ⟨rfl, hm, ho, hb⟩; have HM := Aside0.mk hm; have HG1 := Aside0.mk (ho gp _ 56 HG0.out (by decide) (by decide)); clear hm ho hb) | (go_at_call 28; refine (Mid.begin_no HM.out HOX.out HMD.out HT0.out.os HT0.out.ot).mono ?_; rintro e w3 ⟨rfl, ht, hk⟩; have HT3 := Aside0.mk ht; have HG2 := Aside0.mk (KeepBut.blk hk HG1.out HGR.out (by simp)); clear ht hk)))
            all_goals
             go_wp2
             go_meet
             case rel => exact ⟨_, _, _, _, _, rfl, rfl, HT3, ⟨by have := HZ.out; omega⟩⟩
          · have HMY := Aside0.mk (show May x from ⟨HOX.out, by omega, by have := HX2.out; omega⟩)
            clear hx1
            go_upto_region 28 with fail
            go_region_held3 (fun w' => w'.cell? ⟨gp, 2, none⟩ = some (.slice A3 x.length c3) ∧ (convert 22 9 (.slice A3 x.length c3)).run Try.prog w' = .ok (.string (strOfNums x)) w') (exact stillP (by first | exact HG2.out | exact HG1.out | exact HG0.out) (by first | exact HT3.out.below | exact HM.out.below | exact HT0.out.below | exact HT0.out.below.drew) HCX.out) ((first | (go_at_call 27; refine (Two.begin_ok (by first | exact HT0.out.stay (Below.refl _ _).drew | exact HT0.out) A3 c3 x (Kd.C_below HCX.out (by first | exact HT0.out.below.drew | exact HT0.out.below)) HLX.out HMY.out).mono ?_; rintro e w2 ⟨rfl, hm, ho, hb⟩; have HM := Aside0.mk hm; have HG1 := Aside0.mk (ho gp _ 56 HG0.out (by decide) (by decide)); clear hm ho hb) | (go_at_call 28; refine (Mid.begin_ok HM.out HMY.out HT0.out.os).mono ?_; rintro e w3 ⟨rfl, ht, hk⟩; have HT3 := Aside0.mk ht; have HG2 := Aside0.mk (KeepBut.blk hk HG1.out HGR.out (by simp)); clear ht hk)))
            all_goals
             go_wp2
             go_meet
             case rel => exact ⟨_, _, _, _, _, rfl, rfl, HT3, ⟨by have := HZ.out; have := HX2.out; simp only [List.length_append, rec_len]; omega⟩⟩
        · go_wp2_with (first | (go_at_call 22; refine (Two.sync HT0.out HZ2.out).mono ?_; rintro e w2 ⟨⟨v2, rfl⟩, hm, ho, hb⟩; have HM := Aside0.mk hm; clear hm ho hb) | (go_at_call 29; refine (Mid.sync HM.out HT0.out.os HT0.out.ot HZ2.out).mono ?_; rintro e w3 ⟨⟨v3, rfl⟩, ht, hk⟩; have HT3 := Aside0.mk ht; clear ht hk))
          go_meet
          case rel => exact ⟨_, _, _, _, _, rfl, rfl, HT3, ⟨by have := HZ.out; unfold after; split <;> simp only [List.length_append, List.length_nil] <;> omega⟩⟩
        · obtain ⟨y, hy⟩ : ∃ y, left s t b n = y := ⟨_, rfl⟩
          have hyo : Oct y := by rw [← hy]; exact left_oct HT0.out.os HT0.out.ot n
          have hyl : y.length ≤ s.length + t.length := by rw [← hy]; exact left_len n
          obtain ⟨R, m, hR⟩ : ∃ R m, readP y = (R, m) := ⟨_, _, rfl⟩
          obtain ⟨T, hT⟩ : ∃ T, T = R.map strOfNums := ⟨_, rfl⟩
          have hRl : R.length ≤ y.length := by
            have h1 := readN_few y.length y
            have h2 : R = (readN y.length y).1 := by have := congrArg Prod.fst hR; exact this.symm
            rw [← h2] at h1
            exact h1
          have hcut : (strOfNums y).extract 0 m.toNat = strOfNums (y.take m.toNat) := by
            rw [← bytes_nums ((strOfNums y).extract 0 m.toNat), bytes_cut, List.drop_zero, nums_bytes hyo]
          have HY := Aside0.mk hy
          have HYO := Aside0.mk hyo
          have HYL := Aside0.mk hyl
          have HRR := Aside0.mk hR
          have HTT := Aside0.mk hT
          have HRL := Aside0.mk hRl
          have HCUT := Aside0.mk hcut
          have HYZ := Aside0.mk (show y.length < 1073741824 by have := HZ2.out; omega)
          clear hy hyo hyl hR hT hRl hcut
          go_upto_region 14 with fail
          go_region_held3 (fun w' => w'.cell? ⟨gp, 1, none⟩ = some (.int .i64 n)) (exact blk_c (by first | exact HG2.out | exact HG1.out | exact HG0.out) 1) ((first | (go_at_call 24; refine (Two.crash (by first | exact HT0.out.stay (Below.refl _ _).drew | exact HT0.out) n HZ2.out y HY.out).mono ?_; rintro e w2 ⟨A4, c4, rfl, hl4, hC4, hb⟩; have HT2 := Aside0.mk (Two.stay (by first | exact HT0.out.stay (Below.refl _ _).drew | exact HT0.out) hb); have HG1 := Aside0.mk (show w2.heap[gp]? = some (.cells #[.int .i64 k, .int .i64 n, .slice A3 x.length c3] 56 (0, 0)) from (hb.block gp (blk_lt HG0.out)).trans HG0.out); have HL4 := Aside0.mk hl4; have HC4 := Aside0.mk hC4; clear hl4 hC4 hb) | (go_at_call 30; refine (Two.rcrash HT2.out n HZ2.out y HY.out).mono ?_; rintro e w3 ⟨rfl, hb⟩; have HT3 := Aside0.mk (HT2.out.stay hb); have HG2 := Aside0.mk ((hb.block gp (blk_lt HG1.out)).trans HG1.out); have HC5 := Aside0.mk (Kd.C_below HC4.out hb); clear hb)))
          all_goals
           have hcv := Kd.C_string (P := Try.prog) (A := A4) (c := c4) Try.underlying22 Try.underlying5 Try.underlying9 HC5.out
           clear i1 hc1 hc2
           go_upto_region 18 with (go_at_call 16; refine (open_call _ A4 c4 y HC5.out HL4.out HYO.out HYZ.out R m HRR.out).mono ?_; rintro e w6 ⟨B6, d6, vs6, N6, lp6, rfl, hb, hN6, hs, hL⟩; have HB6 := Aside0.mk (HT3.out.below.trans (hb.mono HT3.out.below.size)); have HX6 := Aside0.mk (Kd.S_reads' hs).2; have HL6 := Aside0.mk hL; have HN6 := Aside0.mk (Nat.le_trans HT3.out.below.size hN6); clear hb hs hL hN6)
           go_upto_region 19 with (go_at_call 25; refine (ropen (strOfNums y) _ (by rw [nums_size]; exact HYZ.out) T m (by rw [nums_bytes HYO.out, HRR.out]; exact HTT.out.symm) (by rw [nums_bytes HYO.out, HRR.out]) (strOfNums (y.take m.toNat)) HCUT.out).mono ?_; rintro e w7 ⟨A7, d7, rp7, rfl, hrp, hr7, hl7, hC7, hb⟩; have HX7 := Aside0.mk (show R.length ≤ d6 ∧ Kd.C (Kd.slice 5 (Kd.int .u8)) w7 B6 R.length R from ⟨HX6.out.1, Kd.C_below HX6.out.2 hb⟩); have HT7 := Aside0.mk (two_new HB6.out HN6.out HL6.out hb hr7 (Nat.le_trans HB6.out.size hrp) (HYO.out.take _)); have HC7 := Aside0.mk (show T.length ≤ d7 ∧ Kd.C Kd.string w7 A7 T.length T from ⟨hl7, hC7⟩); clear hrp hr7 hl7 hC7 hb)
           go_wp2_with (go_at_call 19; refine (texts_call _ B6 A7 d6 d7 R T HTT.out (by have := HRL.out; have := HYZ.out; omega) HX7.out.2 HX7.out.1 HC7.out.2 HC7.out.1).mono ?_; rintro e w8 ⟨rfl, hb⟩; have HT8 := Aside0.mk (HT7.out.stay hb); clear hb)
           go_meet
           case rel => exact ⟨_, _, _, _, _, rfl, rfl, HT8, ⟨by have := HYL.out; have := HZ.out; simp only [List.length_take, List.length_nil]; omega⟩⟩
      case rest =>
        clear HG0 HLX HCX HOX HX2 HQ HGR HZ2 HT0 hc1 hc2 hx200
        obtain ⟨lp1, rp1, s1, t1, b1, rfl, rfl, HT9, HZ9⟩ := hcut
        have HL9 := Aside0.mk (show s1.length ≤ 1000000000 by have := HZ9.out; have := HN.out; omega)
        have hsz := nums_size t1
        have hd0 := HT9.out.rl.c0
        have hd1 := HT9.out.rl.c1
        go_upto_region 33 with fail
        go_region_with (first | (go_at_call 20; refine (Two.bytes (by first | exact HT9.out.stay (Below.refl _ _).drew | exact HT9.out) HL9.out).mono ?_; rintro e wf ⟨Af, cf, rfl, hC, hb⟩; have HTf := Aside0.mk (Two.stay (by first | exact HT9.out.stay (Below.refl _ _).drew | exact HT9.out) hb); have hcvf := Kd.C_string (P := Try.prog) (A := Af) (c := cf) Try.underlying22 Try.underlying5 Try.underlying9 hC; have he0 := HTf.out.rl.c0; have he1 := HTf.out.rl.c1; clear hC hb) | (go_at_call 21; refine (Two.waits HTf.out).mono ?_; rintro e wg ⟨rfl, rfl⟩))
        all_goals
         go_wp2
         go_roundg g1
         case measure => omega
         case rel => exact ⟨i + 1, lp1, rp1, s1, t1, b1, rfl, rfl, (by first | rfl | (rw [hwi]; rfl)), by omega, HTf, HZ9⟩
end Go.Proofs.Ytnnlmbmgaajmhaa.Seg
