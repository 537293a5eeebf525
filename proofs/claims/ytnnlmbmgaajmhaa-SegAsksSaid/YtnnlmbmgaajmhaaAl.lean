/-
  Sums, records, and what bytes are read as, is what the document says (SegAsks): the law's walk.
  Conditions: none.
-/
import Derived.Test.YtnnlmbmgaajmhaaAk
namespace Go.Proofs.Ytnnlmbmgaajmhaa.Seg
open Go.RowKit Go.Proofs.YtnnlmbmgaajmhaaW.PrintWords Go.Proofs.YtnnlmbmgaajmhaaW.PrintLast Go.Proofs.YtnnlmbmgaajmhaaW.PrintMore Go.Proofs.YtnnlmbmgaajmhaaG Go.Proofs.Ytnnlmbmgaajmhaa.PGr Go.Proofs.Ytnnlmbmgaajmhaa.Sg
set_option linter.unusedVariables false
set_option linter.unusedSimpArgs false

def mayB (x : List Int) : Bool := decide (1 ≤ x.length ∧ x.length ≤ 20000)
/-- The records of those that may be. -/
def ahead (l : List (List Int)) (i : Nat) : List Int := cat ((l.take i).filter mayB)
theorem ahead_yes {l : List (List Int)} {i : Nat} (hi : i < l.length) (h : mayB l[i] = true) : ahead l (i + 1) = ahead l i ++ recP l[i] := by
  unfold ahead
  rw [List.take_succ_eq_append_getElem hi, List.filter_append, cat_app, List.filter_cons, if_pos h, List.filter_nil, cat_cons, cat_nil, List.append_nil]
theorem ahead_no {l : List (List Int)} {i : Nat} (hi : i < l.length) (h : mayB l[i] = false) : ahead l (i + 1) = ahead l i := by
  unfold ahead
  rw [List.take_succ_eq_append_getElem hi, List.filter_append, cat_app, List.filter_cons, if_neg (by rw [h]; simp), List.filter_nil, cat_nil, List.append_nil]
theorem ahead_len {l : List (List Int)} {i : Nat} (h : ∀ x ∈ l.take i, x.length ≤ 200) (hn : l.length ≤ 4) : (ahead l i).length ≤ 824 := by
  unfold ahead
  have a := cat_size (m := 200) (ls := (l.take i).filter mayB) (fun x hx => h x (List.mem_filter.mp hx).1)
  have b := List.length_filter_le mayB (l.take i)
  have c : (l.take i).length ≤ 4 := by rw [List.length_take]; omega
  omega
theorem ahead_oct {l : List (List Int)} {i : Nat} (h : ∀ x ∈ l, Oct x) : Oct (ahead l i) := cat_oct fun x hx => h x (List.mem_of_mem_take (List.mem_filter.mp hx).1)
theorem less_snoc {l : List (List Int)} {i : Nat} (hi : i < l.length) (h : ∀ x ∈ l.take i, x.length ≤ 200) (hq : l[i].length ≤ 200) : ∀ x ∈ l.take (i + 1), x.length ≤ 200 := fun x hx => by
  rw [List.take_succ_eq_append_getElem hi] at hx
  rcases List.mem_append.mp hx with h2 | h2
  · exact h x h2
  · rw [List.mem_singleton.mp h2]
    exact hq
theorem asks_few (A0 A1 : Option Addr) (c0 c1 : Nat) (b : List Int) (l : List (List Int)) (w : World) (h : b.length > 600 ∨ l.length > 4) :
    Calls Try.prog 3 #[.slice A0 b.length c0, .slice A1 l.length c1] w fun e w' => e = .returned (.bool true) ∧ Below w.heap.size w w' := by
  by_cases h1 : (b.length : Int) > 600
  · clear h
    go_enter Try.func3, Try.ntmps3
    go_wp2_with (go_at_call 10; refine (told_is _).mono ?_; rintro e w1 ⟨rfl, hb⟩; have HB := Aside0.mk hb; clear hb)
    go_ret
    exact ⟨rfl, HB.out⟩
  have h2 : (l.length : Int) > 4 := by omega
  clear h
  go_enter Try.func3, Try.ntmps3
  go_wp2_with (go_at_call 10; refine (told_is _).mono ?_; rintro e w1 ⟨rfl, hb⟩; have HB := Aside0.mk hb; clear hb)
  go_ret
  exact ⟨rfl, HB.out⟩
/-- What is held while a record is compared. -/
theorem still13 {w w1 : World} {p : Addr} {Ag A1 : Option Addr} {cg c1 : Nat} {b r : List Int} (h0 : w.cell? p = some (.slice Ag b.length cg)) (hg : Kd.C (Kd.int .u8) w Ag b.length b) (h1 : Kd.C (Kd.int .u8) w A1 r.length r) (hb : Below w.heap.size w w1) :
    Below w.heap.size w w1 ∧ w1.cell? p = some (.slice Ag b.length cg) ∧ (convert 22 9 (.slice Ag b.length cg)).run Try.prog w1 = .ok (.string (strOfNums b)) w1 ∧ (convert 22 9 (.slice A1 r.length c1)).run Try.prog w1 = .ok (.string (strOfNums r)) w1 :=
  ⟨hb, (hb.cell (World.block_lt_of_cell? w _ h0)).trans h0, Kd.C_string Try.underlying22 Try.underlying5 Try.underlying9 (Kd.C_below hg hb), Kd.C_string Try.underlying22 Try.underlying5 Try.underlying9 (Kd.C_below h1 hb)⟩
theorem still20 {w w1 : World} {A0 : Option Addr} {c0 : Nat} {b : List Int} (h : Kd.C (Kd.int .u8) w A0 b.length b) (hb : Below w.heap.size w w1) :
    Below w.heap.size w w1 ∧ (convert 22 9 (.slice A0 b.length c0)).run Try.prog w1 = .ok (.string (strOfNums b)) w1 :=
  ⟨hb, Kd.C_string Try.underlying22 Try.underlying5 Try.underlying9 (Kd.C_below h hb)⟩
theorem then_ {w W w' : World} (h : Below w.heap.size w W) (hb : Below W.heap.size W w') : Below w.heap.size w w' := h.trans (hb.mono h.size)
theorem ref_recT (s : ByteArray) (w : World) (hs : s.size < 1000000) (r : ByteArray) (h : strOfNums (recP (bytesOf s)) = r) : Calls Try.prog 13 #[.string s] w fun e w' => e = .returned (.string r) ∧ Below w.heap.size w w' := by
  subst h
  exact ref_rec s w hs
set_option maxRecDepth 100000 in
set_option maxHeartbeats 4000000 in
theorem asks_is (A0 A1 : Option Addr) (c0 c1 : Nat) (b : List Int) (l : List (List Int)) (w : World) (hr0 : Kd.C (Kd.int .u8) w A0 b.length b) (hc0 : b.length ≤ c0) (hr1 : Kd.C (Kd.slice 5 (Kd.int .u8)) w A1 l.length l) (hob : Oct b) (hol : ∀ x ∈ l, Oct x) :
    Calls Try.prog 3 #[.slice A0 b.length c0, .slice A1 l.length c1] w fun e w' => e = .returned (.bool true) ∧ Below w.heap.size w w' := by
  by_cases h : b.length > 600 ∨ l.length > 4
  · exact asks_few A0 A1 c0 c1 b l w h
  have h1 : ¬ ((b.length : Int) > 600) := by omega
  have h2 : ¬ ((l.length : Int) > 4) := by omega
  have HN := Aside0.mk h
  have HR0 := Aside0.mk hr0
  have HC0 := Aside0.mk hc0
  have HR1 := Aside0.mk hr1
  have HOB := Aside0.mk hob
  have HOL := Aside0.mk hol
  clear h hr0 hc0 hr1 hob hol
  go_enter Try.func3, Try.ntmps3
  go_upto_region 4 with fail
  clear h1 h2
  go_wp2
  go_loopg [5, 6] l.length (fun g v5 v6 wr => ∃ (i : Nat) (s : ByteArray), v5 = .string s ∧ v6 = .int .i64 i ∧ g + i = l.length ∧ Aside0 (s = strOfNums (ahead l i)) ∧ Aside0 (Below w.heap.size w wr) ∧ Aside0 (∀ x ∈ l.take i, x.length ≤ 200))
  case atStart => exact ⟨0, _, rfl, rfl, by omega, ⟨rfl⟩, ⟨Below.refl _ _⟩, ⟨fun x hx => by simp at hx⟩⟩
  case round =>
    obtain ⟨i, s, rfl, rfl, hgi, HS, HB1, HF⟩ := hrel
    have HAL := Aside0.mk (ahead_len HF.out (by have := HN.out; omega))
    cases gk with
    | zero =>
      obtain rfl : i = l.length := by omega
      obtain ⟨y, hy⟩ : ∃ y, y = ahead l l.length ++ b := ⟨_, rfl⟩
      have hyo : Oct y := by rw [hy]; exact (ahead_oct HOL.out).app HOB.out
      have hyl : y.length ≤ 1424 := by
        rw [hy, List.length_append]
        have := HAL.out
        have := HN.out
        omega
      obtain ⟨z, hz⟩ : ∃ z, z = strOfNums y := ⟨_, rfl⟩
      have hzs : s ++ strOfNums b = z := by rw [hz, hy, nums_app, HS.out]
      have hzb : bytesOf z = y := by rw [hz]; exact nums_bytes hyo
      have hzl : z.size = y.length := by rw [hz]; exact nums_size y
      obtain ⟨R, m, hR⟩ : ∃ R m, readP y = (R, m) := ⟨_, _, rfl⟩
      have hm := readP_lo y
      rw [hR] at hm
      obtain ⟨hm0, hm1⟩ : 0 ≤ m ∧ m ≤ (y.length : Int) := hm
      obtain ⟨T, hT⟩ : ∃ T, T = R.map strOfNums := ⟨_, rfl⟩
      obtain ⟨q, hq⟩ : ∃ q, q = sumP b := ⟨_, rfl⟩
      have hRl : R.length ≤ 1424 := by
        have := readN_few y.length y
        have h2 : R = (readN y.length y).1 := by have := congrArg Prod.fst hR; exact this.symm
        rw [← h2] at this
        omega
      have hsz : (9223372036854775807 < s.size + (strOfNums b).size) = False := eq_false (by
        have h := congrArg ByteArray.size hzs
        rw [ByteArray.size_append] at h
        omega)
      have hcvb := Kd.C_string (P := Try.prog) (A := A0) (c := c0) Try.underlying22 Try.underlying5 Try.underlying9 (Kd.C_below HR0.out HB1.out)
      have hmz : m ≤ (z.size : Int) := by omega
      have hcut : z.extract 0 m.toNat = strOfNums (y.take m.toNat) := by
        rw [← bytes_nums (z.extract 0 m.toNat), bytes_cut, List.drop_zero, hzb]
      have HYO := Aside0.mk hyo
      have HYL := Aside0.mk hyl
      have HZB := Aside0.mk hzb
      have HZL := Aside0.mk hzl
      have HRR := Aside0.mk hR
      have HTT := Aside0.mk hT
      have HQ := Aside0.mk hq
      have HRL := Aside0.mk hRl
      have HCUT := Aside0.mk hcut
      clear hyo hyl hzb hzl hR hT hq hRl hz hy hm1 HF HAL hgi hcut
      go_upto_region 17 with fail
      clear hzs hsz hcvb
      go_upto_region 18 with (first | ((with_reducible refine gate_dst (N := 82) rfl ?_); refine goesC_ (some 82) rfl rfl (.string z) rfl (by first | rfl | (simp; done)) ?_; refine YieldsTo.mono (conv_bytes z _ y HZB.out (by have := HZL.out; have := HYL.out; omega)) ?_; rintro e w2 ⟨A2, d2, rfl, hl2, hC2, hb⟩; refine ⟨_, rfl, ?_⟩; have HB2 := Aside0.mk (HB1.out.trans (hb.mono HB1.out.size)); have HC2 := Aside0.mk hC2; have HL2 := Aside0.mk hl2; clear hb hC2 hl2) | (go_at_call 14; refine (read_call _ A2 d2 y HC2.out HL2.out HYO.out (by have := HYL.out; omega) R m HRR.out).mono ?_; rintro e w3 ⟨B3, d3, rfl, hs, hb⟩; have HB3 := Aside0.mk (HB2.out.trans (hb.mono HB2.out.size)); have HS3 := Aside0.mk (Kd.S_reads' hs).2; clear hb hs))
      clear HC2 HL2 HB2
      go_upto_region 19 with (go_at_call 15; refine (ref_read_call z _ (by have := HZL.out; have := HYL.out; omega) T m (by rw [HZB.out, HRR.out]; exact HTT.out.symm) (by rw [HZB.out, HRR.out])).mono ?_; rintro e w4 ⟨A4, d4, rfl, hs, hb⟩; have HB4 := Aside0.mk (HB3.out.trans (hb.mono HB3.out.size)); have HS4 := Aside0.mk (show R.length ≤ d3 ∧ Kd.C (Kd.slice 5 (Kd.int .u8)) w4 B3 R.length R from ⟨HS3.out.1, Kd.C_below HS3.out.2 hb⟩); have HT4 := Aside0.mk (Kd.R_reads' hs).2; clear hb hs)
      clear HS3 HB3
      go_upto_region 20 with (first | ((with_reducible refine gate_dst (N := 93) rfl ?_); refine goesC_ (some 93) rfl rfl (.string z) rfl (by first | rfl | (simp; done)) ?_; refine YieldsTo.mono (conv_bytes z _ y HZB.out (by have := HZL.out; have := HYL.out; omega)) ?_; rintro e w5 ⟨A5, d5, rfl, hl2, hC2, hb⟩; refine ⟨_, rfl, ?_⟩; have HB5 := Aside0.mk (HB4.out.trans (hb.mono HB4.out.size)); have HC5 := Aside0.mk hC2; have HL5 := Aside0.mk hl2; have HS5 := Aside0.mk (show R.length ≤ d3 ∧ Kd.C (Kd.slice 5 (Kd.int .u8)) w5 B3 R.length R from ⟨HS4.out.1, Kd.C_below HS4.out.2 hb⟩); have HT5 := Aside0.mk (show T.length ≤ d4 ∧ Kd.C Kd.string w5 A4 T.length T from ⟨HT4.out.1, Kd.C_below HT4.out.2 hb⟩); clear hb hC2 hl2) | (go_at_call 16; refine (open_call _ A5 d5 y HC5.out HL5.out HYO.out (by have := HYL.out; omega) R m HRR.out).mono ?_; rintro e w6 ⟨B6, d6, vs6, N6, lp6, rfl, hb, hN6, hs, hL⟩; have HB6 := Aside0.mk (HB5.out.trans (hb.mono HB5.out.size)); have HS6 := Aside0.mk (show R.length ≤ d3 ∧ Kd.C (Kd.slice 5 (Kd.int .u8)) w6 B3 R.length R from ⟨HS5.out.1, Kd.C_below HS5.out.2 hb⟩); have HT6 := Aside0.mk (show T.length ≤ d4 ∧ Kd.C Kd.string w6 A4 T.length T from ⟨HT5.out.1, Kd.C_below HT5.out.2 hb⟩); have HX6 := Aside0.mk (Kd.S_reads' hs).2; have HL6 := Aside0.mk hL; clear hb hs hL))
      clear HS4 HT4 HB4 HC5 HL5 HS5 HT5 HB5
      obtain ⟨Y, hY⟩ : ∃ Y, Y = y.take m.toNat := ⟨_, rfl⟩
      have HYN := Aside0.mk (show Y.length < 140737488355328 by rw [hY, List.length_take]; have := HYL.out; omega)
      rw [← hY] at HL6 HCUT
      obtain ⟨u, hu⟩ : ∃ u, u = strOfNums Y := ⟨_, rfl⟩
      have hcut := HCUT.out
      rw [← hu] at hcut
      have HU := Aside0.mk hu
      have H0 := Aside0.mk (Kd.C_below HR0.out HB6.out)
      have i1 := (still20 (c0 := c0) H0.out (Below.refl _ _)).2
      clear hY hu HCUT
      go_region_held3 (fun w' => Below w6.heap.size w6 w' ∧ (convert 22 9 (.slice A0 b.length c0)).run Try.prog w' = .ok (.string (strOfNums b)) w') (exact still20 H0.out (by repeat (first | exact HBf.out | exact HBe.out | exact HBd.out | exact HBc.out | exact HBb.out | exact HBa.out | exact Below.refl _ _ | apply Below.drew))) ((first | (go_at_call 10; refine (told_is _).mono ?_; rintro e wa ⟨rfl, hb⟩; have HBa := Aside0.mk (then_ (show Below w6.heap.size w6 _ from (by repeat (first | exact HBf.out | exact HBe.out | exact HBd.out | exact HBc.out | exact HBb.out | exact HBa.out | exact Below.refl _ _ | apply Below.drew))) hb); clear hb) | (go_at_call 17; refine (sum_call _ A0 c0 b (Kd.C_below H0.out (by repeat (first | exact HBf.out | exact HBe.out | exact HBd.out | exact HBc.out | exact HBb.out | exact HBa.out | exact Below.refl _ _ | apply Below.drew))) HC0.out HOB.out (by have := HN.out; omega) q HQ.out.symm).mono ?_; rintro e wb ⟨rfl, hb⟩; have HBb := Aside0.mk (then_ (show Below w6.heap.size w6 _ from (by repeat (first | exact HBf.out | exact HBe.out | exact HBd.out | exact HBc.out | exact HBb.out | exact HBa.out | exact Below.refl _ _ | apply Below.drew))) hb); clear hb) | (go_at_call 18; refine (ref_sumT (strOfNums b) _ (by rw [nums_size]; have := HN.out; omega) q (by rw [nums_bytes HOB.out]; exact HQ.out.symm)).mono ?_; rintro e wc ⟨rfl, hb⟩; have HBc := Aside0.mk (then_ (show Below w6.heap.size w6 _ from (by repeat (first | exact HBf.out | exact HBe.out | exact HBd.out | exact HBc.out | exact HBb.out | exact HBa.out | exact Below.refl _ _ | apply Below.drew))) hb); clear hb) | (go_at_call_of 19 (Value.slice B3 R.length d3); refine (texts_call _ B3 A4 d3 d4 R T HTT.out (by have := HRL.out; omega) (Kd.C_below HS6.out.2 (by repeat (first | exact HBf.out | exact HBe.out | exact HBd.out | exact HBc.out | exact HBb.out | exact HBa.out | exact Below.refl _ _ | apply Below.drew))) HS6.out.1 (Kd.C_below HT6.out.2 (by repeat (first | exact HBf.out | exact HBe.out | exact HBd.out | exact HBc.out | exact HBb.out | exact HBa.out | exact Below.refl _ _ | apply Below.drew))) HT6.out.1).mono ?_; rintro e wd ⟨rfl, hb⟩; have HBd := Aside0.mk (then_ (show Below w6.heap.size w6 _ from (by repeat (first | exact HBf.out | exact HBe.out | exact HBd.out | exact HBc.out | exact HBb.out | exact HBa.out | exact Below.refl _ _ | apply Below.drew))) hb); clear hb) | (go_at_call_of 19 (Value.slice B6 R.length d6); refine (texts_call _ B6 A4 d6 d4 R T HTT.out (by have := HRL.out; omega) (Kd.C_below HX6.out.2 (by repeat (first | exact HBf.out | exact HBe.out | exact HBd.out | exact HBc.out | exact HBb.out | exact HBa.out | exact Below.refl _ _ | apply Below.drew))) HX6.out.1 (Kd.C_below HT6.out.2 (by repeat (first | exact HBf.out | exact HBe.out | exact HBd.out | exact HBc.out | exact HBb.out | exact HBa.out | exact Below.refl _ _ | apply Below.drew))) HT6.out.1).mono ?_; rintro e we ⟨rfl, hb⟩; have HBe := Aside0.mk (then_ (show Below w6.heap.size w6 _ from (by repeat (first | exact HBf.out | exact HBe.out | exact HBd.out | exact HBc.out | exact HBb.out | exact HBa.out | exact Below.refl _ _ | apply Below.drew))) hb); clear hb) | (go_at_call 20; refine (bytes_is (HL6.out.below (by repeat (first | exact HBf.out | exact HBe.out | exact HBd.out | exact HBc.out | exact HBb.out | exact HBa.out | exact Below.refl _ _ | apply Below.drew))) HYN.out).mono ?_; rintro e wf ⟨Af, cf, rfl, hv, hb⟩; have hcvf : (convert 22 9 (.slice Af Y.length cf)).run Try.prog wf = .ok (.string u) wf := (by rw [HU.out]; exact Kd.C_string Try.underlying22 Try.underlying5 Try.underlying9 (Kd.R_reads' hv).2.2); have HBf := Aside0.mk (then_ (show Below w6.heap.size w6 _ from (by repeat (first | exact HBf.out | exact HBe.out | exact HBd.out | exact HBc.out | exact HBb.out | exact HBa.out | exact Below.refl _ _ | apply Below.drew))) hb); clear hb hv) | (go_at_call 21; refine (waits0 (HL6.out.below (by repeat (first | exact HBf.out | exact HBe.out | exact HBd.out | exact HBc.out | exact HBb.out | exact HBa.out | exact Below.refl _ _ | apply Below.drew)))).mono ?_; rintro e wg ⟨rfl, rfl⟩)))
      all_goals
       go_wp2
       go_ret
       exact ⟨rfl, then_ HB6.out (by repeat (first | exact HBf.out | exact HBe.out | exact HBd.out | exact HBc.out | exact HBb.out | exact HBa.out | exact Below.refl _ _ | apply Below.drew))⟩
    | succ g1 =>
      have hi0 : 0 ≤ (i : Int) := by omega
      have hil : (i : Int) < (l.length : Int) := by omega
      have hil2 : i < l.length := by omega
      obtain ⟨ad, A3, c3, hA, hx, hlx, hCx⟩ := row_arg' HR1.out i hil2
      subst hA
      have HY := Aside0.mk (ahead_yes hil2)
      have HNO := Aside0.mk (ahead_no hil2)
      have HFS := Aside0.mk (less_snoc hil2 HF.out)
      have hox := HOL.out _ (List.getElem_mem hil2)
      generalize l[i] = x at hx hlx hCx hox HY HNO HFS
      have HX0 := Aside0.mk hx
      replace hx := (HB1.out.cell (World.block_lt_of_cell? w _ hx)).trans hx
      have HOX := Aside0.mk hox
      have HLX := Aside0.mk hlx
      have HCX := Aside0.mk hCx
      have hwi : wrap64 ((i : Int) + 1) = (i : Int) + 1 := w64 _ (by omega) (by have := HN.out; omega)
      clear hox hlx hCx
      by_cases hx1 : (x.length : Int) > 200
      · go_wp2_with (go_at_call 10; refine (told_is _).mono ?_; rintro e w2 ⟨rfl, hb⟩; have HB2 := Aside0.mk (HB1.out.trans (hb.mono HB1.out.size)); clear hb)
        go_ret
        exact ⟨rfl, HB2.out⟩
      have HX2 := Aside0.mk (show x.length ≤ 200 by omega)
      have HBX := Aside0.mk (nums_bytes HOX.out)
      by_cases hx3 : x.length < 1
      · have HMB := Aside0.mk (show mayB x = false from decide_eq_false (by omega))
        have HM2 := Aside0.mk (show decide (1 ≤ (bytesOf (strOfNums x)).length ∧ (bytesOf (strOfNums x)).length ≤ 20000) = false by rw [HBX.out]; exact HMB.out)
        have HM3 := Aside0.mk (show x.length < 1 ∨ 20000 < x.length from Or.inl hx3)
        clear hx3
        go_wp2_with (first | (go_at_call 11; refine (rec_bad _ A3 c3 x (Kd.C_below HCX.out HB1.out) HLX.out HM3.out).mono ?_; rintro e w2 ⟨B2, d2, rfl, hb⟩; have HB2 := Aside0.mk (HB1.out.trans (hb.mono HB1.out.size)); have hx2 := ((HB1.out.trans (hb.mono HB1.out.size)).cell (World.block_lt_of_cell? w _ HX0.out)).trans HX0.out; have hcv2 := Kd.C_string (P := Try.prog) (A := A3) (c := c3) Try.underlying22 Try.underlying5 Try.underlying9 (Kd.C_below HCX.out HB2.out); clear hb) | (go_at_call 12; refine (ref_mayT _ _ false HM2.out).mono ?_; rintro e w3 ⟨rfl, hb⟩; have HB3 := Aside0.mk (HB2.out.trans (hb.mono HB2.out.size)); clear hb))
        go_roundg g1
        case measure => omega
        case rel => exact ⟨i + 1, _, rfl, (by first | rfl | (rw [hwi]; rfl)), by omega, ⟨by rw [HNO.out HMB.out]; exact HS.out⟩, HB3, ⟨HFS.out HX2.out⟩⟩
      · have HMB := Aside0.mk (show mayB x = true from decide_eq_true (by have := HX2.out; omega))
        have HM2 := Aside0.mk (show decide (1 ≤ (bytesOf (strOfNums x)).length ∧ (bytesOf (strOfNums x)).length ≤ 20000) = true by rw [HBX.out]; exact HMB.out)
        have HM3 := Aside0.mk (show May x from ⟨HOX.out, by omega, by have := HX2.out; omega⟩)
        obtain ⟨r, hr⟩ : ∃ r, r = recP x := ⟨_, rfl⟩
        have HRR := Aside0.mk hr
        have HRE := Aside0.mk (show strOfNums (recP (bytesOf (strOfNums x))) = strOfNums r by rw [HBX.out, hr])
        have hsz : (9223372036854775807 < s.size + (strOfNums r).size) = False := eq_false (by
          rw [HS.out, nums_size, nums_size, hr, rec_len]
          have := HAL.out
          have := HX2.out
          omega)
        clear hx3 hr
        go_upto_region 13 with (first | (go_at_call 11; refine (rec_ok _ A3 c3 x (Kd.C_below HCX.out HB1.out) HLX.out HM3.out r HRR.out).mono ?_; rintro e w2 ⟨B2, d2, rfl, hC2, hb⟩; have HB2 := Aside0.mk (HB1.out.trans (hb.mono HB1.out.size)); have HC2 := Aside0.mk hC2; have hx2 := ((HB1.out.trans (hb.mono HB1.out.size)).cell (World.block_lt_of_cell? w _ HX0.out)).trans HX0.out; have hcv2 := Kd.C_string (P := Try.prog) (A := A3) (c := c3) Try.underlying22 Try.underlying5 Try.underlying9 (Kd.C_below HCX.out HB2.out); clear hb hC2) | (go_at_call 12; refine (ref_mayT _ _ true HM2.out).mono ?_; rintro e w3 ⟨rfl, hb⟩; have HB3 := Aside0.mk (HB2.out.trans (hb.mono HB2.out.size)); have HC3 := Aside0.mk (Kd.C_below HC2.out hb); clear hb))
        clear HC2 HB2 hx2 hcv2 hx HB1
        have HX3 := Aside0.mk ((HB3.out.cell (World.block_lt_of_cell? w _ HX0.out)).trans HX0.out)
        have HCX3 := Aside0.mk (Kd.C_below HCX.out HB3.out)
        obtain ⟨-, i1, i2, i3⟩ := still13 (c1 := d2) HX3.out HCX3.out HC3.out (Below.refl _ _)
        go_region_held3 (fun w' => Below w3.heap.size w3 w' ∧ w'.cell? (ad.add i) = some (.slice A3 x.length c3) ∧ (convert 22 9 (.slice A3 x.length c3)).run Try.prog w' = .ok (.string (strOfNums x)) w' ∧ (convert 22 9 (.slice B2 r.length d2)).run Try.prog w' = .ok (.string (strOfNums r)) w') (exact still13 HX3.out HCX3.out HC3.out (by repeat (first | exact HB4.out | exact Below.refl _ _ | exact Nat.le_refl _ | apply Below.drew | refine Below.alloc ?_ ?_ _))) ((go_at_call 13; refine (ref_recT (strOfNums x) _ (by rw [nums_size]; have := HX2.out; omega) (strOfNums r) HRE.out).mono ?_; rintro e w4 ⟨rfl, hb⟩; have HB4 := Aside0.mk (Below.trans (show Below w3.heap.size w3 _ by repeat (first | exact Below.refl _ _ | apply Below.drew)) (hb.mono (by first | exact Nat.le_refl _ | exact Below.size (by repeat (first | exact Below.refl _ _ | apply Below.drew))))); clear hb))
        all_goals
         have hcv4 := (still13 (c1 := d2) HX3.out HCX3.out HC3.out HB4.out).2.2.2
         clear i1 i2 i3
         go_wp2
         go_roundg g1
         case measure => omega
         case rel => exact ⟨i + 1, _, rfl, (by first | rfl | (rw [hwi]; rfl)), by omega, ⟨by rw [HY.out HMB.out, nums_app, HS.out, HRR.out]⟩, ⟨by repeat (first | exact HB3.out.trans (HB4.out.mono HB3.out.size) | apply Below.drew)⟩, ⟨HFS.out HX2.out⟩⟩
end Go.Proofs.Ytnnlmbmgaajmhaa.Seg
