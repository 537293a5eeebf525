/-
  Sums, records, and what bytes are read as, is what the document says (SegAsks): the law's walk.
  Conditions: none.
-/
import Derived.Test.YtnnlmbmgaajmhaaAk
namespace Go.Proofs.Ytnnlmbmgaajmhaa.Seg
open Go.RowKit Go.Proofs.YtnnlmbmgaajmhaaW.PrintWords Go.Proofs.YtnnlmbmgaajmhaaW.PrintLast Go.Proofs.YtnnlmbmgaajmhaaW.PrintMore Go.Proofs.YtnnlmbmgaajmhaaG Go.Proofs.Ytnnlmbmgaajmhaa.PGr Go.Proofs.Ytnnlmbmgaajmhaa.Sg
set_option linter.unusedVariables false
set_option linter.unusedSimpArgs false

def mayB (x : List Int) : Bool := decide (1 ≤ x.length ∧ x.length ≤ 20000)
/-- The records of those that may be. -/
def ahead (l : List (List Int)) (i : Nat) : List Int := cat ((l.take i).filter mayB)
theorem ahead_yes {l : List (List Int)} {i : Nat} (hi : i < l.length) (h : mayB l[i] = true) : ahead l (i + 1) = ahead l i ++ recP l[i] := by
  unfold ahead
  rw [List.take_succ_eq_append_getElem hi, List.filter_append, cat_app, List.filter_cons, if_pos h, List.filter_nil, cat_cons, cat_nil, List.append_nil]
theorem ahead_no {l : List (List Int)} {i : Nat} (hi : i < l.length) (h : mayB l[i] = false) : ahead l (i + 1) = ahead l i := by
  unfold ahead
  rw [List.take_succ_eq_append_getElem hi, List.filter_append, cat_app, List.filter_cons, if_neg (by rw [h]; simp), List.filter_nil, cat_nil, List.append_nil]
theorem ahead_len {l : List (List Int)} {i : Nat} (h : ∀ x ∈ l.take i, x.length ≤ 200) (hn : l.length ≤ 4) : (ahead l i).length ≤ 824 := by
  unfold ahead
  have a := cat_size (m := 200) (ls := (l.take i).filter mayB) (fun x hx => h x (List.mem_filter.mp hx).1)
  have b := List.length_filter_le mayB (l.take i)
  have c : (l.take i).length ≤ 4 := by rw [List.length_take]; omega
  omega
theorem ahead_oct {l : List (List Int)} {i : Nat} (h : ∀ x ∈ l, Oct x) : Oct (ahead l i) := cat_oct fun x hx => h x (List.mem_of_mem_take (List.mem_filter.mp hx).1)
theorem less_snoc {l : List (List Int)} {i : Nat} (hi : i < l.length) (h : ∀ x ∈ l.take i, x.length ≤ 200) (hq : l[i].length ≤ 200) : ∀ x ∈ l.take (i + 1), x.length ≤ 200 := fun x hx => by
  rw [List.take_succ_eq_append_getElem hi] at hx
  rcases List.mem_append.mp hx with h2 | h2
  · exact h x h2
  · rw [List.mem_singleton.mp h2]
    exact hq
theorem asks_few (A0 A1 : Option Addr) (c0 c1 : Nat) (b : List Int) (l : List (List Int)) (w : World) (h : b.length > 600 ∨ l.length > 4) :
    Calls Try.prog 3 #[.slice A0 b.length c0, .slice A1 l.length c1] w fun e w' => e = .returned (.bool true) ∧ Below w.heap.size w w' := by
  by_cases h1 : (b.length : Int) > 600
  · clear h
    go_enter Try.func3, Try.ntmps3
    go_wp2_with (go_at_call 10; refine (told_is _).mono ?_; rintro e w1 ⟨rfl, hb⟩; have HB := Aside0.mk hb; clear hb)
    go_ret
    exact ⟨rfl, HB.out⟩
  have h2 : (l.length : Int) > 4 := by omega
  clear h
  go_enter Try.func3, Try.ntmps3
  go_wp2_with (go_at_call 10; refine (told_is _).mono ?_; rintro e w1 ⟨rfl, hb⟩; have HB := Aside0.mk hb; clear hb)
  go_ret
  exact ⟨rfl, HB.out⟩
/-- What is held while a record is compared. -/
theorem still13 {w w1 : World} {p : Addr} {Ag A1 : Option Addr} {cg c1 : Nat} {b r : List Int} (h0 : w.cell? p = some (.slice Ag b.length cg)) (hg : Kd.C (Kd.int .u8) w Ag b.length b) (h1 : Kd.C (Kd.int .u8) w A1 r.length r) (hb : Below w.heap.size w w1) :
    Below w.heap.size w w1 ∧ w1.cell? p = some (.slice Ag b.length cg) ∧ (convert 22 9 (.slice Ag b.length cg)).run Try.prog w1 = .ok (.string (strOfNums b)) w1 ∧ (convert 22 9 (.slice A1 r.length c1)).run Try.prog w1 = .ok (.string (strOfNums r)) w1 :=
  ⟨hb, (hb.cell (World.block_lt_of_cell? w _ h0)).trans h0, Kd.C_string Try.underlying22 Try.underlying5 Try.underlying9 (Kd.C_below hg hb), Kd.C_string Try.underlying22 Try.underlying5 Try.underlying9 (Kd.C_below h1 hb)⟩
theorem still20 {w w1 : World} {A0 : Option Addr} {c0 : Nat} {b : List Int} (h : Kd.C (Kd.int .u8) w A0 b.length b) (hb : Below w.heap.size w w1) :
    Below w.heap.size w w1 ∧ (convert 22 9 (.slice A0 b.length c0)).run Try.prog w1 = .ok (.string (strOfNums b)) w1 :=
  ⟨hb, Kd.C_string Try.underlying22 Try.underlying5 Try.underlying9 (Kd.C_below h hb)⟩
theorem then_ {w W w' : World} (h : Below w.heap.size w W) (hb : Below W.heap.size W w') : Below w.heap.size w w' := h.trans (hb.mono h.size)
theorem ref_recT (s : ByteArray) (w : World) (hs : s.size < 1000000) (r : ByteArray) (h : strOfNums (recP (bytesOf s)) = r) : Calls Try.prog 13 #[.string s] w fun e w' => e = .returned (.string r) ∧ Below w.heap.size w w' := by
  subst h
  exact ref_rec s w hs
set_option maxRecDepth 100000 in
set_option maxHeartbeats 4000000 in
theorem asks_is (A0 A1 : Option Addr) (c0 c1 : Nat) (b : List Int) (l : List (List Int)) (w : World) (hr0 : Kd.C (Kd.int .u8) w A0 b.length b) (hc0 : b.length ≤ c0) (hr1 : Kd.C (Kd.slice 5 (Kd.int .u8)) w A1 l.length l) (hob : Oct b) (hol : ∀ x ∈ l, Oct x) :
    Calls Try.prog 3 #[.slice A0 b.length c0, .slice A1 l.length c1] w fun e w' => e = .returned (.bool true) ∧ Below w.heap.size w w' := by
  by_cases h : b.length > 600 ∨ l.length > 4
  · exact asks_few A0 A1 c0 c1 b l w h
  have h1 : ¬ ((b.length : Int) > 600) := by omega
  have h2 : ¬ ((l.length : Int) > 4) := by omega
  have HN := Aside0.mk h
  have HR0 := Aside0.mk hr0
  have HC0 := Aside0.mk hc0
  have HR1 := Aside0.mk hr1
  have HOB := Aside0.mk hob
  have HOL := Aside0.mk hol
  clear h hr0 hc0 hr1 hob hol
  go_enter Try.func3, Try.ntmps3
  go_upto_region 4 with fail
  clear h1 h2
  go_wp2
  go_loopg [5, 6] l.length (fun g v5 v6 wr => ∃ (i : Nat) (s : ByteArray), v5 = .string s ∧ v6 = .int .i64 i ∧ g + i = l.length ∧ Aside0 (s = strOfNums (ahead l i)) ∧ Aside0 (Below w.heap.size w wr) ∧ Aside0 (∀ x ∈ l.take i, x.length ≤ 200))
  case atStart => exact ⟨0, _, rfl, rfl, by omega, ⟨rfl⟩, ⟨Below.refl _ _⟩, ⟨fun x hx => by simp at hx⟩⟩
  case round =>
    obtain ⟨i, s, rfl, rfl, hgi, HS, HB1, HF⟩ := hrel
    have HAL := Aside0.mk (ahead_len HF.out (by have := HN.out; omega))
    cases gk with
    | zero =>
      obtain rfl : i = l.length := by omega
      obtain ⟨y, hy⟩ : ∃ y, y = ahead l l.length ++ b := ⟨_, rfl⟩
      have hyo : Oct y := by rw [hy]; exact (ahead_oct HOL.out).app HOB.out
      have hyl : y.length ≤ 1424 := by
        rw [hy, List.length_append]
        have := HAL.out
        have := HN.out
        omega
      obtain ⟨z, hz⟩ : ∃ z, z = strOfNums y := ⟨_, rfl⟩
      have hzs : s ++ strOfNums b = z := by rw [hz, hy, nums_app, HS.out]
      have hzb : bytesOf z = y := by rw [hz]; exact nums_bytes hyo
      have hzl : z.size = y.length := by rw [hz]; exact nums_size y
      obtain ⟨R, m, hR⟩ : ∃ R m, readP y = (R, m) := ⟨_, _, rfl⟩
      have hm := readP_lo y
      rw [hR] at hm
      obtain ⟨hm0, hm1⟩ : 0 ≤ m ∧ m ≤ (y.length : Int) := hm
      obtain ⟨T, hT⟩ : ∃ T, T = R.map strOfNums := ⟨_, rfl⟩
      obtain ⟨q, hq⟩ : ∃ q, q = sumP b := ⟨_, rfl⟩
      have hRl : R.length ≤ 1424 := by
        have := readN_few y.length y
        have h2 : R = (readN y.length y).1 := by have := congrArg Prod.fst hR; exact this.symm
        rw [← h2] at this
        omega
      have hsz : (9223372036854775807 < s.size + (strOfNums b).size) = False := eq_false (by
        have h := congrArg ByteArray.size hzs
        rw [ByteArray.size_append] at h
        omega)
      have hcvb := Kd.C_string (P := Try.prog) (A := A0) (c := c0) Try.underlying22 Try.underlying5 Try.underlying9 (Kd.C_below HR0.out HB1.out)
      have hmz : m ≤ (z.size : Int) := by omega
      have hcut : z.extract 0 m.toNat = strOfNums (y.take m.toNat) := by
        rw [← bytes_nums (z.extract 0 m.toNat), bytes_cut, List.drop_zero, hzb]
      have HYO := Aside0.mk hyo
      have HYL := Aside0.mk hyl
      have HZB := Aside0.mk hzb
      have HZL := Aside0.mk hzl
      have HRR := Aside0.mk hR
      have HTT := Aside0.mk hT
      have HQ := Aside0.mk hq
      have HRL := Aside0.mk hRl
      have HCUT := Aside0.mk hcut
      clear hyo hyl hzb hzl hR hT hq hRl hz hy hm1 HF HAL hgi hcut
      go_upto_region 17 with fail
      clear hzs hsz hcvb
      go_upto_region 18 with (first | ((with_reducible refine gate_dst (N := 82) rfl ?_); refine goesC_ (some 82) rfl rfl (.string z) rfl (by first | rfl | (simp; done)) ?_; refine YieldsTo.mono (conv_bytes z _ y HZB.out (by have := HZL.out; have := HYL.out; omega)) ?_; rintro e w2 ⟨A2, d2, rfl, hl2, hC2, hb⟩; refine ⟨_, rfl, ?_⟩; have HB2 := Aside0.mk (HB1.out.trans (hb.mono HB1.out.size)); have HC2 := Aside0.mk hC2; have HL2 := Aside0.mk hl2; clear hb hC2 hl2) | (go_at_call 14; refine (read_call _ A2 d2 y HC2.out HL2.out HYO.out (by have := HYL.out; omega) R m HRR.out).mono ?_; rintro e w3 ⟨B3, d3, rfl, hs, hb⟩; have HB3 := Aside0.mk (HB2.out.trans (hb.mono HB2.out.size)); have HS3 := Aside0.mk (Kd.S_reads' hs).2; clear hb hs))
      clear HC2 HL2 HB2
      go_upto_region 19 with (go_at_call 15; refine (ref_read_call z _ (by have := HZL.out; have := HYL.out; omega) T m (by rw [HZB.out, HRR.out]; exact HTT.out.symm) (by rw [HZB.out, HRR.out])).mono ?_; rintro e w4 ⟨A4, d4, rfl, hs, hb⟩; have HB4 := Aside0.mk (HB3.out.trans (hb.mono HB3.out.size)); have HS4 := Aside0.mk (show R.length ≤ d3 ∧ Kd.C (Kd.slice 5 (Kd.int .u8)) w4 B3 R.length R from ⟨HS3.out.1, Kd.C_below HS3.out.2 hb⟩); have HT4 := Aside0.mk (Kd.R_reads' hs).2; clear hb hs)
      clear HS3 HB3
      go_upto_region 20 with (first | ((with_reducible refine gate_dst (N := 93) rfl ?_); refine goesC_ (some 93) rfl rfl (.string z) rfl (by first | rfl | (simp; done)) ?_; refine YieldsTo.mono (conv_bytes z _ y HZB.out (by have := HZL.out; have := HYL.out; omega)) ?_; rintro e w5 ⟨A5, d5, rfl, hl2, hC2, hb⟩; refine ⟨_, rfl, ?_⟩; have HB5 := Aside0.mk (HB4.out.trans (hb.mono HB4.out.size)); have HC5 := Aside0.mk hC2; have HL5 := Aside0.mk hl2; have HS5 := Aside0.mk (show R.length ≤ d3 ∧ Kd.C (Kd.slice 5 (Kd.int .u8)) w5 B3 R.length R from ⟨HS4.out.1, Kd.C_below HS4.out.2 hb⟩); have HT5 := Aside0.mk (show T.length ≤ d4 ∧ Kd.C Kd.string w5 A4 T.length T from ⟨HT4.out.1, Kd.C_below HT4.out.2 hb⟩); clear hb hC2 hl2) | (go_at_call 16; refine (open_call _ A5 d5 y HC5.out HL5.out HYO.out (by have := HYL.out; omega) R m HRR.out).mono ?_; rintro e w6 ⟨B6, d6, vs6, N6, lp6, rfl, hb, hN6, hs, hL⟩; have HB6 := Aside0.mk (HB5.out.trans (hb.mono HB5.out.size)); have HS6 := Aside0.mk (show R.length ≤ d3 ∧ Kd.C (Kd.slice 5 (Kd.int .u8)) w6 B3 R.length R from ⟨HS5.out.1, Kd.C_below HS5.out.2 hb⟩); have HT6 := Aside0.mk (show T.length ≤ d4 ∧ Kd.C Kd.string w6 A4 T.length T from ⟨HT5.out.1, Kd.C_below HT5.out.2 hb⟩); have HX6 := Aside0.mk (Kd.S_reads' hs).2; have HL6 := Aside0.mk hL; clear hb hs hL))
      clear HS4 HT4 HB4 HC5 HL5 HS5 HT5 HB5
      obtain ⟨Y, hY⟩ : ∃ Y, Y = y.take m.toNat := ⟨_, rfl⟩
      have HYN := Aside0.mk (show Y.length < 140737488355328 by rw [hY, List.length_take]; have := HYL.out; omega)
      rw [← hY] at HL6 HCUT
      obtain ⟨u, hu⟩ : ∃ u, u = strOfNums Y := ⟨_, rfl⟩
      have hcut := HCUT.out
      rw [← hu] at hcut
      have HU := Aside0.mk hu
      have H0 := Aside0.mk (Kd.C_below HR0.out HB6.out)
      have i1 := (still20 (c0 := c0) H0.out (Below.refl _ _)).2
      clear hY hu HCUT
      refine wp_region_held_drew (S := (fun w' => Below w6.heap.size w6 w' ∧ (convert 22 9 (.slice A0 b.length c0)).run Try.prog w' = .ok (.string (strOfNums b)) w')) (by kernel_rfl) (still20 H0.out (by repeat (first | exact HBf.out | exact HBe.out | exact HBd.out | exact HBc.out | exact HBb.out | exact HBa.out | exact Below.refl _ _ | apply Below.drew))) (fun hHeld => ?_)
      refine wpAnyH_ready (rs := [0]) (by kernel_rfl) (by simp) ?_
      refine AllReadyH.cons (o := { dst := some 97, op := Go.Op.call { callee := Go.Callee.value (Go.Operand.func 10), args := #[], argTypes := #[] }, type := 4, pos := "law.go:66", after := #[], guard := none }) rfl (fun K hK => ?_) AllReadyH.nil
      go_simp
      refine (told_is _).mono ?_
      rintro e wa ⟨rfl, hb⟩
      have HBa := Aside0.mk (then_ (show Below w6.heap.size w6 _ from (by repeat (first | exact HBf.out | exact HBe.out | exact HBd.out | exact HBc.out | exact HBb.out | exact HBa.out | exact Below.refl _ _ | apply Below.drew))) hb)
      clear hb
      try go_wp2_with fail
      clear hHeld
      refine hK.out _ _ (still20 H0.out (by repeat (first | exact HBf.out | exact HBe.out | exact HBd.out | exact HBc.out | exact HBb.out | exact HBa.out | exact Below.refl _ _ | apply Below.drew))) (fun hHeld => ?_)
      clear hK K
      try simp only [Act.put, List.setIfInBounds_toArray, List.set_cons_zero, List.set_cons_succ]
      refine wpAnyH_take (i := 1) (oi := { dst := some 98, op := Go.Op.move (Go.Operand.tmp 97), type := 4, pos := "law.go:66", after := #[{ on := 0, ground := Go.Ground.data }, { on := 0, ground := Go.Ground.chain }], guard := none }) (v := ?_) rfl (by kernel_rfl) (by kernel_rfl) (by kernel_rfl) (fun _ _ _ h => h) (Or.inl ⟨by rfl, ?_⟩) (by assumption) ?_
      rotate_left
      · intro w hSw; (try dsimp only at hSw); go_simp; (try with_reducible rfl)
      try simp only [Act.put, List.setIfInBounds_toArray, List.set_cons_zero, List.set_cons_succ]
      refine wpAnyH_take (i := 2) (oi := { dst := some 99, op := Go.Op.move (Go.Operand.tmp 0), type := 22, pos := "law.go:66", after := #[{ on := 1, ground := Go.Ground.guard }], guard := some (1, true) }) (v := ?_) rfl (by kernel_rfl) (by kernel_rfl) (by kernel_rfl) (fun _ _ _ h => h) (Or.inl ⟨by rfl, ?_⟩) (by assumption) ?_
      rotate_left
      · intro w hSw; (try dsimp only at hSw); go_simp; (try with_reducible rfl)
      try simp only [Act.put, List.setIfInBounds_toArray, List.set_cons_zero, List.set_cons_succ]
      refine wpAnyH_take (i := 4) (oi := { dst := some 101, op := Go.Op.move (Go.Operand.tmp 0), type := 22, pos := "law.go:66", after := #[{ on := 1, ground := Go.Ground.guard }], guard := some (1, true) }) (v := ?_) rfl (by kernel_rfl) (by kernel_rfl) (by kernel_rfl) (fun _ _ _ h => h) (Or.inl ⟨by rfl, ?_⟩) (by assumption) ?_
      rotate_left
      · intro w hSw; (try dsimp only at hSw); go_simp; (try with_reducible rfl)
      try simp only [Act.put, List.setIfInBounds_toArray, List.set_cons_zero, List.set_cons_succ]
      refine wpAnyH_take (i := 5) (oi := { dst := some 102, op := Go.Op.convert 22 9 (Go.Operand.tmp 101), type := 9, pos := "law.go:66", after := #[{ on := 4, ground := Go.Ground.data }, { on := 1, ground := Go.Ground.guard }], guard := some (1, true) }) (v := ?_) rfl (by kernel_rfl) (by kernel_rfl) (by kernel_rfl) (fun _ _ _ h => h) (Or.inl ⟨by rfl, ?_⟩) (by assumption) ?_
      rotate_left
      · intro w hSw; (try dsimp only at hSw); go_simp; (try with_reducible rfl)
      try simp only [Act.put, List.setIfInBounds_toArray, List.set_cons_zero, List.set_cons_succ]
      refine wpAnyH_ready (rs := [3]) (by kernel_rfl) (by simp) ?_
      refine AllReadyH.cons (o := { dst := some 100, op := Go.Op.call { callee := Go.Callee.value (Go.Operand.func 17), args := #[Go.Operand.tmp 99], argTypes := #[22] }, type := 37, pos := "law.go:66", after := #[{ on := 2, ground := Go.Ground.data }, { on := 1, ground := Go.Ground.chain }, { on := 1, ground := Go.Ground.guard }], guard := some (1, true) }) rfl (fun K hK => ?_) AllReadyH.nil
      go_simp
      refine (sum_call _ A0 c0 b (Kd.C_below H0.out (by repeat (first | exact HBf.out | exact HBe.out | exact HBd.out | exact HBc.out | exact HBb.out | exact HBa.out | exact Below.refl _ _ | apply Below.drew))) HC0.out HOB.out (by have := HN.out; omega) q HQ.out.symm).mono ?_
      rintro e wb ⟨rfl, hb⟩
      have HBb := Aside0.mk (then_ (show Below w6.heap.size w6 _ from (by repeat (first | exact HBf.out | exact HBe.out | exact HBd.out | exact HBc.out | exact HBb.out | exact HBa.out | exact Below.refl _ _ | apply Below.drew))) hb)
      clear hb
      try go_wp2_with fail
      clear hHeld
      refine hK.out _ _ (still20 H0.out (by repeat (first | exact HBf.out | exact HBe.out | exact HBd.out | exact HBc.out | exact HBb.out | exact HBa.out | exact Below.refl _ _ | apply Below.drew))) (fun hHeld => ?_)
      clear hK K
      try simp only [Act.put, List.setIfInBounds_toArray, List.set_cons_zero, List.set_cons_succ]
      refine wpAnyH_ready (rs := [6]) (by kernel_rfl) (by simp) ?_
      refine AllReadyH.cons (o := { dst := some 103, op := Go.Op.call { callee := Go.Callee.value (Go.Operand.func 18), args := #[Go.Operand.tmp 102], argTypes := #[9] }, type := 37, pos := "law.go:66", after := #[{ on := 5, ground := Go.Ground.data }, { on := 3, ground := Go.Ground.chain }, { on := 1, ground := Go.Ground.guard }], guard := some (1, true) }) rfl (fun K hK => ?_) AllReadyH.nil
      go_simp
      refine (ref_sumT (strOfNums b) _ (by rw [nums_size]; have := HN.out; omega) q (by rw [nums_bytes HOB.out]; exact HQ.out.symm)).mono ?_
      rintro e wc ⟨rfl, hb⟩
      have HBc := Aside0.mk (then_ (show Below w6.heap.size w6 _ from (by repeat (first | exact HBf.out | exact HBe.out | exact HBd.out | exact HBc.out | exact HBb.out | exact HBa.out | exact Below.refl _ _ | apply Below.drew))) hb)
      clear hb
      try go_wp2_with fail
      clear hHeld
      refine hK.out _ _ (still20 H0.out (by repeat (first | exact HBf.out | exact HBe.out | exact HBd.out | exact HBc.out | exact HBb.out | exact HBa.out | exact Below.refl _ _ | apply Below.drew))) (fun hHeld => ?_)
      clear hK K
      try simp only [Act.put, List.setIfInBounds_toArray, List.set_cons_zero, List.set_cons_succ]
      refine wpAnyH_take (i := 7) (oi := { dst := some 104, op := Go.Op.binOp Go.BinOp.eql 37 (Go.Operand.tmp 100) (Go.Operand.tmp 103) 37, type := 4, pos := "law.go:66", after := #[{ on := 3, ground := Go.Ground.data }, { on := 6, ground := Go.Ground.data }, { on := 1, ground := Go.Ground.guard }], guard := some (1, true) }) (v := ?_) rfl (by kernel_rfl) (by kernel_rfl) (by kernel_rfl) (fun _ _ _ h => h) (Or.inl ⟨by rfl, ?_⟩) (by assumption) ?_
      rotate_left
      · intro w hSw; (try dsimp only at hSw); go_simp; (try with_reducible rfl)
      try simp only [Act.put, List.setIfInBounds_toArray, List.set_cons_zero, List.set_cons_succ]
      refine wpAnyH_take (i := 8) (oi := { dst := some 105, op := Go.Op.pick (Go.Operand.tmp 98) (Go.Operand.tmp 104) (Go.Operand.const (Go.Value.bool false)), type := 4, pos := "law.go:66", after := #[{ on := 1, ground := Go.Ground.data }, { on := 7, ground := Go.Ground.data }], guard := none }) (v := ?_) rfl (by kernel_rfl) (by kernel_rfl) (by kernel_rfl) (fun _ _ _ h => h) (Or.inl ⟨by rfl, ?_⟩) (by assumption) ?_
      rotate_left
      · intro w hSw; (try dsimp only at hSw); go_simp; (try with_reducible rfl)
      try simp only [Act.put, List.setIfInBounds_toArray, List.set_cons_zero, List.set_cons_succ]
      refine wpAnyH_take (i := 9) (oi := { dst := some 106, op := Go.Op.move (Go.Operand.tmp 105), type := 4, pos := "law.go:66", after := #[{ on := 8, ground := Go.Ground.data }, { on := 6, ground := Go.Ground.chain }], guard := none }) (v := ?_) rfl (by kernel_rfl) (by kernel_rfl) (by kernel_rfl) (fun _ _ _ h => h) (Or.inl ⟨by rfl, ?_⟩) (by assumption) ?_
      rotate_left
      · intro w hSw; (try dsimp only at hSw); go_simp; (try with_reducible rfl)
      try simp only [Act.put, List.setIfInBounds_toArray, List.set_cons_zero, List.set_cons_succ]
      refine wpAnyH_take (i := 10) (oi := { dst := some 107, op := Go.Op.move (Go.Operand.tmp 10), type := 3, pos := "law.go:66", after := #[{ on := 9, ground := Go.Ground.guard }], guard := some (9, true) }) (v := ?_) rfl (by kernel_rfl) (by kernel_rfl) (by kernel_rfl) (fun _ _ _ h => h) (Or.inl ⟨by rfl, ?_⟩) (by assumption) ?_
      rotate_left
      · intro w hSw; (try dsimp only at hSw); go_simp; (try with_reducible rfl)
      try simp only [Act.put, List.setIfInBounds_toArray, List.set_cons_zero, List.set_cons_succ]
      refine wpAnyH_take (i := 11) (oi := { dst := some 108, op := Go.Op.move (Go.Operand.tmp 12), type := 3, pos := "law.go:66", after := #[{ on := 9, ground := Go.Ground.guard }], guard := some (9, true) }) (v := ?_) rfl (by kernel_rfl) (by kernel_rfl) (by kernel_rfl) (fun _ _ _ h => h) (Or.inl ⟨by rfl, ?_⟩) (by assumption) ?_
      rotate_left
      · intro w hSw; (try dsimp only at hSw); go_simp; (try with_reducible rfl)
      try simp only [Act.put, List.setIfInBounds_toArray, List.set_cons_zero, List.set_cons_succ]
      refine wpAnyH_take (i := 12) (oi := { dst := some 109, op := Go.Op.binOp Go.BinOp.eql 3 (Go.Operand.tmp 107) (Go.Operand.tmp 108) 3, type := 4, pos := "law.go:66", after := #[{ on := 10, ground := Go.Ground.data }, { on := 11, ground := Go.Ground.data }, { on := 9, ground := Go.Ground.guard }], guard := some (9, true) }) (v := ?_) rfl (by kernel_rfl) (by kernel_rfl) (by kernel_rfl) (fun _ _ _ h => h) (Or.inl ⟨by rfl, ?_⟩) (by assumption) ?_
      rotate_left
      · intro w hSw; (try dsimp only at hSw); go_simp; (try with_reducible rfl)
      try simp only [Act.put, List.setIfInBounds_toArray, List.set_cons_zero, List.set_cons_succ]
      refine wpAnyH_take (i := 13) (oi := { dst := some 110, op := Go.Op.pick (Go.Operand.tmp 106) (Go.Operand.tmp 109) (Go.Operand.const (Go.Value.bool false)), type := 4, pos := "law.go:66", after := #[{ on := 9, ground := Go.Ground.data }, { on := 12, ground := Go.Ground.data }], guard := none }) (v := ?_) rfl (by kernel_rfl) (by kernel_rfl) (by kernel_rfl) (fun _ _ _ h => h) (Or.inl ⟨by rfl, ?_⟩) (by assumption) ?_
      rotate_left
      · intro w hSw; (try dsimp only at hSw); go_simp; (try with_reducible rfl)
      try simp only [Act.put, List.setIfInBounds_toArray, List.set_cons_zero, List.set_cons_succ]
      refine wpAnyH_take (i := 14) (oi := { dst := some 111, op := Go.Op.move (Go.Operand.tmp 110), type := 4, pos := "law.go:66", after := #[{ on := 13, ground := Go.Ground.data }, { on := 9, ground := Go.Ground.chain }], guard := none }) (v := ?_) rfl (by kernel_rfl) (by kernel_rfl) (by kernel_rfl) (fun _ _ _ h => h) (Or.inl ⟨by rfl, ?_⟩) (by assumption) ?_
      rotate_left
      · intro w hSw; (try dsimp only at hSw); go_simp; (try with_reducible rfl)
      try simp only [Act.put, List.setIfInBounds_toArray, List.set_cons_zero, List.set_cons_succ]
      refine wpAnyH_take (i := 15) (oi := { dst := some 112, op := Go.Op.move (Go.Operand.tmp 9), type := 23, pos := "law.go:66", after := #[{ on := 14, ground := Go.Ground.guard }], guard := some (14, true) }) (v := ?_) rfl (by kernel_rfl) (by kernel_rfl) (by kernel_rfl) (fun _ _ _ h => h) (Or.inl ⟨by rfl, ?_⟩) (by assumption) ?_
      rotate_left
      · intro w hSw; (try dsimp only at hSw); go_simp; (try with_reducible rfl)
      try simp only [Act.put, List.setIfInBounds_toArray, List.set_cons_zero, List.set_cons_succ]
      refine wpAnyH_take (i := 16) (oi := { dst := some 113, op := Go.Op.move (Go.Operand.tmp 11), type := 31, pos := "law.go:66", after := #[{ on := 14, ground := Go.Ground.guard }], guard := some (14, true) }) (v := ?_) rfl (by kernel_rfl) (by kernel_rfl) (by kernel_rfl) (fun _ _ _ h => h) (Or.inl ⟨by rfl, ?_⟩) (by assumption) ?_
      rotate_left
      · intro w hSw; (try dsimp only at hSw); go_simp; (try with_reducible rfl)
      try simp only [Act.put, List.setIfInBounds_toArray, List.set_cons_zero, List.set_cons_succ]
      refine wpAnyH_ready (rs := [17]) (by kernel_rfl) (by simp) ?_
      refine AllReadyH.cons (o := { dst := some 114, op := Go.Op.call { callee := Go.Callee.value (Go.Operand.func 19), args := #[Go.Operand.tmp 112, Go.Operand.tmp 113], argTypes := #[23, 31] }, type := 4, pos := "law.go:66", after := #[{ on := 15, ground := Go.Ground.data }, { on := 16, ground := Go.Ground.data }, { on := 14, ground := Go.Ground.chain }, { on := 14, ground := Go.Ground.guard }], guard := some (14, true) }) rfl (fun K hK => ?_) AllReadyH.nil
      go_simp
      refine (texts_call _ B3 A4 d3 d4 R T HTT.out (by have := HRL.out; omega) (Kd.C_below HS6.out.2 (by repeat (first | exact HBf.out | exact HBe.out | exact HBd.out | exact HBc.out | exact HBb.out | exact HBa.out | exact Below.refl _ _ | apply Below.drew))) HS6.out.1 (Kd.C_below HT6.out.2 (by repeat (first | exact HBf.out | exact HBe.out | exact HBd.out | exact HBc.out | exact HBb.out | exact HBa.out | exact Below.refl _ _ | apply Below.drew))) HT6.out.1).mono ?_
      rintro e wd ⟨rfl, hb⟩
      have HBd := Aside0.mk (then_ (show Below w6.heap.size w6 _ from (by repeat (first | exact HBf.out | exact HBe.out | exact HBd.out | exact HBc.out | exact HBb.out | exact HBa.out | exact Below.refl _ _ | apply Below.drew))) hb)
      clear hb
      try go_wp2_with fail
      clear hHeld
      refine hK.out _ _ (still20 H0.out (by repeat (first | exact HBf.out | exact HBe.out | exact HBd.out | exact HBc.out | exact HBb.out | exact HBa.out | exact Below.refl _ _ | apply Below.drew))) (fun hHeld => ?_)
      clear hK K
      try simp only [Act.put, List.setIfInBounds_toArray, List.set_cons_zero, List.set_cons_succ]
      refine wpAnyH_take (i := 18) (oi := { dst := some 115, op := Go.Op.pick (Go.Operand.tmp 111) (Go.Operand.tmp 114) (Go.Operand.const (Go.Value.bool false)), type := 4, pos := "law.go:66", after := #[{ on := 14, ground := Go.Ground.data }, { on := 17, ground := Go.Ground.data }], guard := none }) (v := ?_) rfl (by kernel_rfl) (by kernel_rfl) (by kernel_rfl) (fun _ _ _ h => h) (Or.inl ⟨by rfl, ?_⟩) (by assumption) ?_
      rotate_left
      · intro w hSw; (try dsimp only at hSw); go_simp; (try with_reducible rfl)
      try simp only [Act.put, List.setIfInBounds_toArray, List.set_cons_zero, List.set_cons_succ]
      refine wpAnyH_take (i := 19) (oi := { dst := some 116, op := Go.Op.move (Go.Operand.tmp 115), type := 4, pos := "law.go:66", after := #[{ on := 18, ground := Go.Ground.data }, { on := 17, ground := Go.Ground.chain }], guard := none }) (v := ?_) rfl (by kernel_rfl) (by kernel_rfl) (by kernel_rfl) (fun _ _ _ h => h) (Or.inl ⟨by rfl, ?_⟩) (by assumption) ?_
      rotate_left
      · intro w hSw; (try dsimp only at hSw); go_simp; (try with_reducible rfl)
      try simp only [Act.put, List.setIfInBounds_toArray, List.set_cons_zero, List.set_cons_succ]
      refine wpAnyH_take (i := 20) (oi := { dst := some 117, op := Go.Op.move (Go.Operand.tmp 13), type := 34, pos := "law.go:66", after := #[{ on := 19, ground := Go.Ground.guard }], guard := some (19, true) }) (v := ?_) rfl (by kernel_rfl) (by kernel_rfl) (by kernel_rfl) (fun _ _ _ h => h) (Or.inl ⟨by rfl, ?_⟩) (by assumption) ?_
      rotate_left
      · intro w hSw; (try dsimp only at hSw); go_simp; (try with_reducible rfl)
      try simp only [Act.put, List.setIfInBounds_toArray, List.set_cons_zero, List.set_cons_succ]
      refine wpAnyH_take (i := 21) (oi := { dst := some 118, op := Go.Op.binOp Go.BinOp.neq 34 (Go.Operand.tmp 117) (Go.Operand.const (Go.Value.pointer none)) 34, type := 4, pos := "law.go:66", after := #[{ on := 20, ground := Go.Ground.data }, { on := 19, ground := Go.Ground.guard }], guard := some (19, true) }) (v := ?_) rfl (by kernel_rfl) (by kernel_rfl) (by kernel_rfl) (fun _ _ _ h => h) (Or.inl ⟨by rfl, ?_⟩) (by assumption) ?_
      rotate_left
      · intro w hSw; (try dsimp only at hSw); go_simp; (try with_reducible rfl)
      try simp only [Act.put, List.setIfInBounds_toArray, List.set_cons_zero, List.set_cons_succ]
      refine wpAnyH_take (i := 22) (oi := { dst := some 119, op := Go.Op.pick (Go.Operand.tmp 116) (Go.Operand.tmp 118) (Go.Operand.const (Go.Value.bool false)), type := 4, pos := "law.go:66", after := #[{ on := 19, ground := Go.Ground.data }, { on := 21, ground := Go.Ground.data }], guard := none }) (v := ?_) rfl (by kernel_rfl) (by kernel_rfl) (by kernel_rfl) (fun _ _ _ h => h) (Or.inl ⟨by rfl, ?_⟩) (by assumption) ?_
      rotate_left
      · intro w hSw; (try dsimp only at hSw); go_simp; (try with_reducible rfl)
      try simp only [Act.put, List.setIfInBounds_toArray, List.set_cons_zero, List.set_cons_succ]
      refine wpAnyH_take (i := 23) (oi := { dst := some 120, op := Go.Op.move (Go.Operand.tmp 119), type := 4, pos := "law.go:66", after := #[{ on := 22, ground := Go.Ground.data }, { on := 19, ground := Go.Ground.chain }], guard := none }) (v := ?_) rfl (by kernel_rfl) (by kernel_rfl) (by kernel_rfl) (fun _ _ _ h => h) (Or.inl ⟨by rfl, ?_⟩) (by assumption) ?_
      rotate_left
      · intro w hSw; (try dsimp only at hSw); go_simp; (try with_reducible rfl)
      try simp only [Act.put, List.setIfInBounds_toArray, List.set_cons_zero, List.set_cons_succ]
      refine wpAnyH_take (i := 24) (oi := { dst := some 121, op := Go.Op.move (Go.Operand.tmp 14), type := 23, pos := "law.go:66", after := #[{ on := 23, ground := Go.Ground.guard }], guard := some (23, true) }) (v := ?_) rfl (by kernel_rfl) (by kernel_rfl) (by kernel_rfl) (fun _ _ _ h => h) (Or.inl ⟨by rfl, ?_⟩) (by assumption) ?_
      rotate_left
      · intro w hSw; (try dsimp only at hSw); go_simp; (try with_reducible rfl)
      try simp only [Act.put, List.setIfInBounds_toArray, List.set_cons_zero, List.set_cons_succ]
      refine wpAnyH_take (i := 25) (oi := { dst := some 122, op := Go.Op.move (Go.Operand.tmp 11), type := 31, pos := "law.go:66", after := #[{ on := 23, ground := Go.Ground.guard }], guard := some (23, true) }) (v := ?_) rfl (by kernel_rfl) (by kernel_rfl) (by kernel_rfl) (fun _ _ _ h => h) (Or.inl ⟨by rfl, ?_⟩) (by assumption) ?_
      rotate_left
      · intro w hSw; (try dsimp only at hSw); go_simp; (try with_reducible rfl)
      try simp only [Act.put, List.setIfInBounds_toArray, List.set_cons_zero, List.set_cons_succ]
      refine wpAnyH_ready (rs := [26]) (by kernel_rfl) (by simp) ?_
      refine AllReadyH.cons (o := { dst := some 123, op := Go.Op.call { callee := Go.Callee.value (Go.Operand.func 19), args := #[Go.Operand.tmp 121, Go.Operand.tmp 122], argTypes := #[23, 31] }, type := 4, pos := "law.go:66", after := #[{ on := 24, ground := Go.Ground.data }, { on := 25, ground := Go.Ground.data }, { on := 23, ground := Go.Ground.chain }, { on := 23, ground := Go.Ground.guard }], guard := some (23, true) }) rfl (fun K hK => ?_) AllReadyH.nil
      go_simp
      refine (texts_call _ B6 A4 d6 d4 R T HTT.out (by have := HRL.out; omega) (Kd.C_below HX6.out.2 (by repeat (first | exact HBf.out | exact HBe.out | exact HBd.out | exact HBc.out | exact HBb.out | exact HBa.out | exact Below.refl _ _ | apply Below.drew))) HX6.out.1 (Kd.C_below HT6.out.2 (by repeat (first | exact HBf.out | exact HBe.out | exact HBd.out | exact HBc.out | exact HBb.out | exact HBa.out | exact Below.refl _ _ | apply Below.drew))) HT6.out.1).mono ?_
      rintro e we ⟨rfl, hb⟩
      have HBe := Aside0.mk (then_ (show Below w6.heap.size w6 _ from (by repeat (first | exact HBf.out | exact HBe.out | exact HBd.out | exact HBc.out | exact HBb.out | exact HBa.out | exact Below.refl _ _ | apply Below.drew))) hb)
      clear hb
      try go_wp2_with fail
      clear hHeld
      refine hK.out _ _ (still20 H0.out (by repeat (first | exact HBf.out | exact HBe.out | exact HBd.out | exact HBc.out | exact HBb.out | exact HBa.out | exact Below.refl _ _ | apply Below.drew))) (fun hHeld => ?_)
      clear hK K
      try simp only [Act.put, List.setIfInBounds_toArray, List.set_cons_zero, List.set_cons_succ]
      refine wpAnyH_take (i := 27) (oi := { dst := some 124, op := Go.Op.pick (Go.Operand.tmp 120) (Go.Operand.tmp 123) (Go.Operand.const (Go.Value.bool false)), type := 4, pos := "law.go:66", after := #[{ on := 23, ground := Go.Ground.data }, { on := 26, ground := Go.Ground.data }], guard := none }) (v := ?_) rfl (by kernel_rfl) (by kernel_rfl) (by kernel_rfl) (fun _ _ _ h => h) (Or.inl ⟨by rfl, ?_⟩) (by assumption) ?_
      rotate_left
      · intro w hSw; (try dsimp only at hSw); go_simp; (try with_reducible rfl)
      try simp only [Act.put, List.setIfInBounds_toArray, List.set_cons_zero, List.set_cons_succ]
      refine wpAnyH_take (i := 28) (oi := { dst := some 125, op := Go.Op.move (Go.Operand.tmp 124), type := 4, pos := "law.go:66", after := #[{ on := 27, ground := Go.Ground.data }, { on := 26, ground := Go.Ground.chain }], guard := none }) (v := ?_) rfl (by kernel_rfl) (by kernel_rfl) (by kernel_rfl) (fun _ _ _ h => h) (Or.inl ⟨by rfl, ?_⟩) (by assumption) ?_
      rotate_left
      · intro w hSw; (try dsimp only at hSw); go_simp; (try with_reducible rfl)
      try simp only [Act.put, List.setIfInBounds_toArray, List.set_cons_zero, List.set_cons_succ]
      refine wpAnyH_take (i := 29) (oi := { dst := some 126, op := Go.Op.move (Go.Operand.tmp 13), type := 34, pos := "law.go:66", after := #[{ on := 28, ground := Go.Ground.guard }], guard := some (28, true) }) (v := ?_) rfl (by kernel_rfl) (by kernel_rfl) (by kernel_rfl) (fun _ _ _ h => h) (Or.inl ⟨by rfl, ?_⟩) (by assumption) ?_
      rotate_left
      · intro w hSw; (try dsimp only at hSw); go_simp; (try with_reducible rfl)
      try simp only [Act.put, List.setIfInBounds_toArray, List.set_cons_zero, List.set_cons_succ]
      refine wpAnyH_take (i := 32) (oi := { dst := some 129, op := Go.Op.move (Go.Operand.tmp 5), type := 9, pos := "law.go:66", after := #[{ on := 28, ground := Go.Ground.guard }], guard := some (28, true) }) (v := ?_) rfl (by kernel_rfl) (by kernel_rfl) (by kernel_rfl) (fun _ _ _ h => h) (Or.inl ⟨by rfl, ?_⟩) (by assumption) ?_
      rotate_left
      · intro w hSw; (try dsimp only at hSw); go_simp; (try with_reducible rfl)
      try simp only [Act.put, List.setIfInBounds_toArray, List.set_cons_zero, List.set_cons_succ]
      refine wpAnyH_take (i := 33) (oi := { dst := some 130, op := Go.Op.move (Go.Operand.tmp 12), type := 3, pos := "law.go:66", after := #[{ on := 28, ground := Go.Ground.guard }], guard := some (28, true) }) (v := ?_) rfl (by kernel_rfl) (by kernel_rfl) (by kernel_rfl) (fun _ _ _ h => h) (Or.inl ⟨by rfl, ?_⟩) (by assumption) ?_
      rotate_left
      · intro w hSw; (try dsimp only at hSw); go_simp; (try with_reducible rfl)
      try simp only [Act.put, List.setIfInBounds_toArray, List.set_cons_zero, List.set_cons_succ]
      refine wpAnyH_take (i := 34) (oi := { dst := some 131, op := Go.Op.slice 9 (Go.Operand.tmp 129) none (some (Go.Operand.tmp 130)) none, type := 9, pos := "law.go:66", after := #[{ on := 32, ground := Go.Ground.data }, { on := 33, ground := Go.Ground.data }, { on := 28, ground := Go.Ground.guard }], guard := some (28, true) }) (v := ?_) rfl (by kernel_rfl) (by kernel_rfl) (by kernel_rfl) (fun _ _ _ h => h) (Or.inl ⟨by rfl, ?_⟩) (by assumption) ?_
      rotate_left
      · intro w hSw; (try dsimp only at hSw); go_simp; (try with_reducible rfl)
      try simp only [Act.put, List.setIfInBounds_toArray, List.set_cons_zero, List.set_cons_succ]
      refine wpAnyH_ready (rs := [30]) (by kernel_rfl) (by simp) ?_
      refine AllReadyH.cons (o := { dst := some 127, op := Go.Op.call { callee := Go.Callee.value (Go.Operand.func 20), args := #[Go.Operand.tmp 126], argTypes := #[34] }, type := 22, pos := "law.go:66", after := #[{ on := 29, ground := Go.Ground.data }, { on := 28, ground := Go.Ground.chain }, { on := 28, ground := Go.Ground.guard }], guard := some (28, true) }) rfl (fun K hK => ?_) AllReadyH.nil
      go_simp
      refine (bytes_is (HL6.out.below (by repeat (first | exact HBf.out | exact HBe.out | exact HBd.out | exact HBc.out | exact HBb.out | exact HBa.out | exact Below.refl _ _ | apply Below.drew))) HYN.out).mono ?_
      rintro e wf ⟨Af, cf, rfl, hv, hb⟩
      have hcvf : (convert 22 9 (.slice Af Y.length cf)).run Try.prog wf = .ok (.string u) wf := (by rw [HU.out]; exact Kd.C_string Try.underlying22 Try.underlying5 Try.underlying9 (Kd.R_reads' hv).2.2)
      have HBf := Aside0.mk (then_ (show Below w6.heap.size w6 _ from (by repeat (first | exact HBf.out | exact HBe.out | exact HBd.out | exact HBc.out | exact HBb.out | exact HBa.out | exact Below.refl _ _ | apply Below.drew))) hb)
      clear hb hv
      try go_wp2_with fail
      clear hHeld
      refine hK.out _ _ (still20 H0.out (by repeat (first | exact HBf.out | exact HBe.out | exact HBd.out | exact HBc.out | exact HBb.out | exact HBa.out | exact Below.refl _ _ | apply Below.drew))) (fun hHeld => ?_)
      clear hK K
      try simp only [Act.put, List.setIfInBounds_toArray, List.set_cons_zero, List.set_cons_succ]
      refine wpAnyH_ready (rs := [31]) (by kernel_rfl) (by simp) ?_
      refine AllReadyH.cons (o := { dst := some 128, op := Go.Op.convert 22 9 (Go.Operand.tmp 127), type := 9, pos := "law.go:66", after := #[{ on := 30, ground := Go.Ground.data }, { on := 28, ground := Go.Ground.guard }], guard := some (28, true) }) rfl (fun K hK => ?_) AllReadyH.nil
      go_simp
      clear hHeld
      refine hK.out _ _ (still20 H0.out (by repeat (first | exact HBf.out | exact HBe.out | exact HBd.out | exact HBc.out | exact HBb.out | exact HBa.out | exact Below.refl _ _ | apply Below.drew))) (fun hHeld => ?_)
      clear hK K
      try simp only [Act.put, List.setIfInBounds_toArray, List.set_cons_zero, List.set_cons_succ]
      refine wpAnyH_take (i := 35) (oi := { dst := some 132, op := Go.Op.binOp Go.BinOp.eql 9 (Go.Operand.tmp 128) (Go.Operand.tmp 131) 9, type := 4, pos := "law.go:66", after := #[{ on := 31, ground := Go.Ground.data }, { on := 34, ground := Go.Ground.data }, { on := 28, ground := Go.Ground.guard }], guard := some (28, true) }) (v := ?_) rfl (by kernel_rfl) (by kernel_rfl) (by kernel_rfl) (fun _ _ _ h => h) (Or.inl ⟨by rfl, ?_⟩) (by assumption) ?_
      rotate_left
      · intro w hSw; (try dsimp only at hSw); go_simp; (try with_reducible rfl)
      try simp only [Act.put, List.setIfInBounds_toArray, List.set_cons_zero, List.set_cons_succ]
      refine wpAnyH_take (i := 36) (oi := { dst := some 133, op := Go.Op.pick (Go.Operand.tmp 125) (Go.Operand.tmp 132) (Go.Operand.const (Go.Value.bool false)), type := 4, pos := "law.go:66", after := #[{ on := 28, ground := Go.Ground.data }, { on := 35, ground := Go.Ground.data }], guard := none }) (v := ?_) rfl (by kernel_rfl) (by kernel_rfl) (by kernel_rfl) (fun _ _ _ h => h) (Or.inl ⟨by rfl, ?_⟩) (by assumption) ?_
      rotate_left
      · intro w hSw; (try dsimp only at hSw); go_simp; (try with_reducible rfl)
      try simp only [Act.put, List.setIfInBounds_toArray, List.set_cons_zero, List.set_cons_succ]
      refine wpAnyH_take (i := 37) (oi := { dst := some 134, op := Go.Op.move (Go.Operand.tmp 133), type := 4, pos := "law.go:66", after := #[{ on := 36, ground := Go.Ground.data }, { on := 30, ground := Go.Ground.chain }], guard := none }) (v := ?_) rfl (by kernel_rfl) (by kernel_rfl) (by kernel_rfl) (fun _ _ _ h => h) (Or.inl ⟨by rfl, ?_⟩) (by assumption) ?_
      rotate_left
      · intro w hSw; (try dsimp only at hSw); go_simp; (try with_reducible rfl)
      try simp only [Act.put, List.setIfInBounds_toArray, List.set_cons_zero, List.set_cons_succ]
      refine wpAnyH_take (i := 38) (oi := { dst := some 135, op := Go.Op.move (Go.Operand.tmp 13), type := 34, pos := "law.go:66", after := #[{ on := 37, ground := Go.Ground.guard }], guard := some (37, true) }) (v := ?_) rfl (by kernel_rfl) (by kernel_rfl) (by kernel_rfl) (fun _ _ _ h => h) (Or.inl ⟨by rfl, ?_⟩) (by assumption) ?_
      rotate_left
      · intro w hSw; (try dsimp only at hSw); go_simp; (try with_reducible rfl)
      try simp only [Act.put, List.setIfInBounds_toArray, List.set_cons_zero, List.set_cons_succ]
      refine wpAnyH_ready (rs := [39]) (by kernel_rfl) (by simp) ?_
      refine AllReadyH.cons (o := { dst := some 136, op := Go.Op.call { callee := Go.Callee.value (Go.Operand.func 21), args := #[Go.Operand.tmp 135], argTypes := #[34] }, type := 3, pos := "law.go:66", after := #[{ on := 38, ground := Go.Ground.data }, { on := 37, ground := Go.Ground.chain }, { on := 37, ground := Go.Ground.guard }], guard := some (37, true) }) rfl (fun K hK => ?_) AllReadyH.nil
      go_simp
      refine (waits0 (HL6.out.below (by repeat (first | exact HBf.out | exact HBe.out | exact HBd.out | exact HBc.out | exact HBb.out | exact HBa.out | exact Below.refl _ _ | apply Below.drew)))).mono ?_
      rintro e wg ⟨rfl, rfl⟩
      try go_wp2_with fail
      clear hHeld
      refine hK.out _ _ (still20 H0.out (by repeat (first | exact HBf.out | exact HBe.out | exact HBd.out | exact HBc.out | exact HBb.out | exact HBa.out | exact Below.refl _ _ | apply Below.drew))) (fun hHeld => ?_)
      clear hK K
      try simp only [Act.put, List.setIfInBounds_toArray, List.set_cons_zero, List.set_cons_succ]
      refine wpAnyH_take (i := 40) (oi := { dst := some 137, op := Go.Op.binOp Go.BinOp.eql 3 (Go.Operand.tmp 136) (Go.Operand.const (Go.Value.int Go.IntKind.i64 0)) 3, type := 4, pos := "law.go:66", after := #[{ on := 39, ground := Go.Ground.data }, { on := 37, ground := Go.Ground.guard }], guard := some (37, true) }) (v := ?_) rfl (by kernel_rfl) (by kernel_rfl) (by kernel_rfl) (fun _ _ _ h => h) (Or.inl ⟨by rfl, ?_⟩) (by assumption) ?_
      rotate_left
      · intro w hSw; (try dsimp only at hSw); go_simp; (try with_reducible rfl)
      try simp only [Act.put, List.setIfInBounds_toArray, List.set_cons_zero, List.set_cons_succ]
      refine wpAnyH_take (i := 41) (oi := { dst := some 138, op := Go.Op.pick (Go.Operand.tmp 134) (Go.Operand.tmp 137) (Go.Operand.const (Go.Value.bool false)), type := 4, pos := "law.go:66", after := #[{ on := 37, ground := Go.Ground.data }, { on := 40, ground := Go.Ground.data }], guard := none }) (v := ?_) rfl (by kernel_rfl) (by kernel_rfl) (by kernel_rfl) (fun _ _ _ h => h) (Or.inl ⟨by rfl, ?_⟩) (by assumption) ?_
      rotate_left
      · intro w hSw; (try dsimp only at hSw); go_simp; (try with_reducible rfl)
      try simp only [Act.put, List.setIfInBounds_toArray, List.set_cons_zero, List.set_cons_succ]
      refine wpAnyH_take (i := 42) (oi := { dst := some 4, op := Go.Op.assign (Go.Operand.tmp 138), type := 4, pos := "law.go:66", after := #[{ on := 41, ground := Go.Ground.data }, { on := 39, ground := Go.Ground.chain }, { on := 0, ground := Go.Ground.phase }, { on := 1, ground := Go.Ground.phase }, { on := 2, ground := Go.Ground.phase }, { on := 3, ground := Go.Ground.phase }, { on := 4, ground := Go.Ground.phase }, { on := 5, ground := Go.Ground.phase }, { on := 6, ground := Go.Ground.phase }, { on := 7, ground := Go.Ground.phase }, { on := 8, ground := Go.Ground.phase }, { on := 9, ground := Go.Ground.phase }, { on := 10, ground := Go.Ground.phase }, { on := 11, ground := Go.Ground.phase }, { on := 12, ground := Go.Ground.phase }, { on := 13, ground := Go.Ground.phase }, { on := 14, ground := Go.Ground.phase }, { on := 15, ground := Go.Ground.phase }, { on := 16, ground := Go.Ground.phase }, { on := 17, ground := Go.Ground.phase }, { on := 18, ground := Go.Ground.phase }, { on := 19, ground := Go.Ground.phase }, { on := 20, ground := Go.Ground.phase }, { on := 21, ground := Go.Ground.phase }, { on := 22, ground := Go.Ground.phase }, { on := 23, ground := Go.Ground.phase }, { on := 24, ground := Go.Ground.phase }, { on := 25, ground := Go.Ground.phase }, { on := 26, ground := Go.Ground.phase }, { on := 27, ground := Go.Ground.phase }, { on := 28, ground := Go.Ground.phase }, { on := 29, ground := Go.Ground.phase }, { on := 30, ground := Go.Ground.phase }, { on := 31, ground := Go.Ground.phase }, { on := 32, ground := Go.Ground.phase }, { on := 33, ground := Go.Ground.phase }, { on := 34, ground := Go.Ground.phase }, { on := 35, ground := Go.Ground.phase }, { on := 36, ground := Go.Ground.phase }, { on := 37, ground := Go.Ground.phase }, { on := 38, ground := Go.Ground.phase }, { on := 39, ground := Go.Ground.phase }, { on := 40, ground := Go.Ground.phase }, { on := 41, ground := Go.Ground.phase }], guard := none }) (v := ?_) rfl (by kernel_rfl) (by kernel_rfl) (by kernel_rfl) (fun _ _ _ h => h) (Or.inl ⟨by rfl, ?_⟩) (by assumption) ?_
      rotate_left
      · intro w hSw; (try dsimp only at hSw); go_simp; (try with_reducible rfl)
      try simp only [Act.put, List.setIfInBounds_toArray, List.set_cons_zero, List.set_cons_succ]
      refine wpAnyH_done (by kernel_rfl) ?_ _
      go_wp2
      go_ret
      exact ⟨rfl, then_ HB6.out (by repeat (first | exact HBf.out | exact HBe.out | exact HBd.out | exact HBc.out | exact HBb.out | exact HBa.out | exact Below.refl _ _ | apply Below.drew))⟩
    | succ g1 =>
      have hi0 : 0 ≤ (i : Int) := by omega
      have hil : (i : Int) < (l.length : Int) := by omega
      have hil2 : i < l.length := by omega
      obtain ⟨ad, A3, c3, hA, hx, hlx, hCx⟩ := row_arg' HR1.out i hil2
      subst hA
      have HY := Aside0.mk (ahead_yes hil2)
      have HNO := Aside0.mk (ahead_no hil2)
      have HFS := Aside0.mk (less_snoc hil2 HF.out)
      have hox := HOL.out _ (List.getElem_mem hil2)
      generalize l[i] = x at hx hlx hCx hox HY HNO HFS
      have HX0 := Aside0.mk hx
      replace hx := (HB1.out.cell (World.block_lt_of_cell? w _ hx)).trans hx
      have HOX := Aside0.mk hox
      have HLX := Aside0.mk hlx
      have HCX := Aside0.mk hCx
      have hwi : wrap64 ((i : Int) + 1) = (i : Int) + 1 := w64 _ (by omega) (by have := HN.out; omega)
      clear hox hlx hCx
      by_cases hx1 : (x.length : Int) > 200
      · go_wp2_with (go_at_call 10; refine (told_is _).mono ?_; rintro e w2 ⟨rfl, hb⟩; have HB2 := Aside0.mk (HB1.out.trans (hb.mono HB1.out.size)); clear hb)
        go_ret
        exact ⟨rfl, HB2.out⟩
      have HX2 := Aside0.mk (show x.length ≤ 200 by omega)
      have HBX := Aside0.mk (nums_bytes HOX.out)
      by_cases hx3 : x.length < 1
      · have HMB := Aside0.mk (show mayB x = false from decide_eq_false (by omega))
        have HM2 := Aside0.mk (show decide (1 ≤ (bytesOf (strOfNums x)).length ∧ (bytesOf (strOfNums x)).length ≤ 20000) = false by rw [HBX.out]; exact HMB.out)
        have HM3 := Aside0.mk (show x.length < 1 ∨ 20000 < x.length from Or.inl hx3)
        clear hx3
        go_wp2_with (first | (go_at_call 11; refine (rec_bad _ A3 c3 x (Kd.C_below HCX.out HB1.out) HLX.out HM3.out).mono ?_; rintro e w2 ⟨B2, d2, rfl, hb⟩; have HB2 := Aside0.mk (HB1.out.trans (hb.mono HB1.out.size)); have hx2 := ((HB1.out.trans (hb.mono HB1.out.size)).cell (World.block_lt_of_cell? w _ HX0.out)).trans HX0.out; have hcv2 := Kd.C_string (P := Try.prog) (A := A3) (c := c3) Try.underlying22 Try.underlying5 Try.underlying9 (Kd.C_below HCX.out HB2.out); clear hb) | (go_at_call 12; refine (ref_mayT _ _ false HM2.out).mono ?_; rintro e w3 ⟨rfl, hb⟩; have HB3 := Aside0.mk (HB2.out.trans (hb.mono HB2.out.size)); clear hb))
        go_roundg g1
        case measure => omega
        case rel => exact ⟨i + 1, _, rfl, (by first | rfl | (rw [hwi]; rfl)), by omega, ⟨by rw [HNO.out HMB.out]; exact HS.out⟩, HB3, ⟨HFS.out HX2.out⟩⟩
      · have HMB := Aside0.mk (show mayB x = true from decide_eq_true (by have := HX2.out; omega))
        have HM2 := Aside0.mk (show decide (1 ≤ (bytesOf (strOfNums x)).length ∧ (bytesOf (strOfNums x)).length ≤ 20000) = true by rw [HBX.out]; exact HMB.out)
        have HM3 := Aside0.mk (show May x from ⟨HOX.out, by omega, by have := HX2.out; omega⟩)
        obtain ⟨r, hr⟩ : ∃ r, r = recP x := ⟨_, rfl⟩
        have HRR := Aside0.mk hr
        have HRE := Aside0.mk (show strOfNums (recP (bytesOf (strOfNums x))) = strOfNums r by rw [HBX.out, hr])
        have hsz : (9223372036854775807 < s.size + (strOfNums r).size) = False := eq_false (by
          rw [HS.out, nums_size, nums_size, hr, rec_len]
          have := HAL.out
          have := HX2.out
          omega)
        clear hx3 hr
        go_upto_region 13 with (first | (go_at_call 11; refine (rec_ok _ A3 c3 x (Kd.C_below HCX.out HB1.out) HLX.out HM3.out r HRR.out).mono ?_; rintro e w2 ⟨B2, d2, rfl, hC2, hb⟩; have HB2 := Aside0.mk (HB1.out.trans (hb.mono HB1.out.size)); have HC2 := Aside0.mk hC2; have hx2 := ((HB1.out.trans (hb.mono HB1.out.size)).cell (World.block_lt_of_cell? w _ HX0.out)).trans HX0.out; have hcv2 := Kd.C_string (P := Try.prog) (A := A3) (c := c3) Try.underlying22 Try.underlying5 Try.underlying9 (Kd.C_below HCX.out HB2.out); clear hb hC2) | (go_at_call 12; refine (ref_mayT _ _ true HM2.out).mono ?_; rintro e w3 ⟨rfl, hb⟩; have HB3 := Aside0.mk (HB2.out.trans (hb.mono HB2.out.size)); have HC3 := Aside0.mk (Kd.C_below HC2.out hb); clear hb))
        clear HC2 HB2 hx2 hcv2 hx HB1
        have HX3 := Aside0.mk ((HB3.out.cell (World.block_lt_of_cell? w _ HX0.out)).trans HX0.out)
        have HCX3 := Aside0.mk (Kd.C_below HCX.out HB3.out)
        obtain ⟨-, i1, i2, i3⟩ := still13 (c1 := d2) HX3.out HCX3.out HC3.out (Below.refl _ _)
        go_region_held3 (fun w' => Below w3.heap.size w3 w' ∧ w'.cell? (ad.add i) = some (.slice A3 x.length c3) ∧ (convert 22 9 (.slice A3 x.length c3)).run Try.prog w' = .ok (.string (strOfNums x)) w' ∧ (convert 22 9 (.slice B2 r.length d2)).run Try.prog w' = .ok (.string (strOfNums r)) w') (exact still13 HX3.out HCX3.out HC3.out (by repeat (first | exact HB4.out | exact Below.refl _ _ | exact Nat.le_refl _ | apply Below.drew | refine Below.alloc ?_ ?_ _))) ((go_at_call 13; refine (ref_recT (strOfNums x) _ (by rw [nums_size]; have := HX2.out; omega) (strOfNums r) HRE.out).mono ?_; rintro e w4 ⟨rfl, hb⟩; have HB4 := Aside0.mk (Below.trans (show Below w3.heap.size w3 _ by repeat (first | exact Below.refl _ _ | apply Below.drew)) (hb.mono (by first | exact Nat.le_refl _ | exact Below.size (by repeat (first | exact Below.refl _ _ | apply Below.drew))))); clear hb))
        all_goals
         have hcv4 := (still13 (c1 := d2) HX3.out HCX3.out HC3.out HB4.out).2.2.2
         clear i1 i2 i3
         go_wp2
         go_roundg g1
         case measure => omega
         case rel => exact ⟨i + 1, _, rfl, (by first | rfl | (rw [hwi]; rfl)), by omega, ⟨by rw [HY.out HMB.out, nums_app, HS.out, HRR.out]⟩, ⟨by repeat (first | exact HB3.out.trans (HB4.out.mono HB3.out.size) | apply Below.drew)⟩, ⟨HFS.out HX2.out⟩⟩
end Go.Proofs.Ytnnlmbmgaajmhaa.Seg
