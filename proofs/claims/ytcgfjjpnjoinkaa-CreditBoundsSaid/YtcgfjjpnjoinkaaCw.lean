/-
  The credit's Settle: its contract.
  Conditions: none.
-/
import Derived.Test.YtcgfjjpnjoinkaaCv
namespace Go.Proofs.Ytcgfjjpnjoinkaa.Cr
open Go.RowKit Go.Proofs.YtcgfjjpnjoinkaaW.PrintWords Go.Proofs.YtcgfjjpnjoinkaaW.PrintLast Go.Proofs.YtcgfjjpnjoinkaaG Go.Proofs.Ytcgfjjpnjoinkaa.PCa
set_option linter.unusedVariables false
set_option linter.unusedSimpArgs false

/-- What a settling of t (all up to it, or it alone) takes. -/
def selB (t : Int) (all : Bool) (x : Int) : Bool := decide (x = t) || (all && (decide (x < t) || decide (t = 0)))
def sel (t : Int) (all : Bool) (l : List Int) : List Int := l.filter (selB t all)
theorem sel_snoc (t : Int) (all : Bool) (l : List Int) (i : Nat) (x : Int) (h : l[i]? = some x) : sel t all (l.take (i + 1)) = if selB t all x = true then sel t all (l.take i) ++ [x] else sel t all (l.take i) := by
  rw [snoc_take l i x h]
  unfold sel
  rw [List.filter_append]
  by_cases c : selB t all x = true
  · rw [if_pos c, List.filter_cons_of_pos c, List.filter_nil]
  · rw [if_neg c, List.filter_cons_of_neg c, List.filter_nil, List.append_nil]

set_option maxHeartbeats 8000000 in
theorem Settle_is {N : Nat} {w : World} {cp : Nat} {m last : Int} {l : List Int} {v : Value} (h : Cr N w cp m last l v) (t : Int) (ht : 0 ≤ t) (all : Bool) (hs : l.length ≤ 1000000) :
    Calls Try.prog 9 #[.pointer (some ⟨cp, 0, none⟩), .int .u64 t, .bool all] w fun e w' =>
      (sel t all l = [] ∧ (all = false ∨ 0 < t) ∧ e = .returned (.tuple #[.slice none 0 0, .int .i64 406]) ∧ Below w.heap.size w w') ∨
      (¬ (sel t all l = [] ∧ (all = false ∨ 0 < t)) ∧ ∃ lv v', e = .returned (.tuple #[lv, .int .i64 0]) ∧ Tg w.heap.size w' lv (sel t all l) ∧ Cr N w' cp m last (stay (sel t all l) l) v' ∧ Below N w w') := by
  obtain ⟨A, c, rfl, -, hC⟩ := Kd.R_reads h.ro
  have HC := Aside0.mk h
  have HR := Aside0.mk hC
  have HS := Aside0.mk hs
  have HT := Aside0.mk ht
  have HLT := Aside0.mk h.lt
  have hc2 := h.c2
  clear h hs hC ht
  obtain ⟨s, hss⟩ : ∃ s, sel t all l = s := ⟨_, rfl⟩
  rw [hss]
  have HSS := Aside0.mk hss
  clear hss
  go_enter Try.func9, Try.ntmps9
  go_wp2
  refine wp_scope_g ?_
  intro G hG
  go_wp2
  refine wp_label ?_
  go_step
  go_step
  (try simp only [Act.put, List.setIfInBounds_toArray, List.set_cons_zero, List.set_cons_succ])
  refine rest_loop hG 0 (by rfl) [false, false, false, false, false, false, false, false, false, true, true, true, true, true, true, true, true, true, true, true, true, true, true, true, true, true, true, true, true, true, true, true, true, true, true, true, true, true, true, true, true, true, true, true, true, true, true, true, true, true, true, true, true, true, true, true, true, true, true, true, true, true, true, true, true, true, true, true, true, true] ?hm l.length (fun kq us wr => ∃ (i : Nat) (lv : Value), us.getD 0 undef = .int .i64 i ∧ kq + i = l.length ∧ Aside0 (wr.heap[w.heap.size]? = some (.cells #[lv] 27 (0, 0))) ∧ Aside0 (Tg w.heap.size wr lv (sel t all (l.take i))) ∧ Aside0 (Below w.heap.size w wr)) ?atStart ?round
  case hm => rfl
  case atStart => exact ⟨0, .slice none 0 0, rfl, rfl, ⟨heap_alloc_new w _⟩, ⟨Kd.R_nil _ _ _ _ _⟩, ⟨below_alloc (Below.refl w.heap.size w) _⟩⟩
  case round =>
    intro u9 u10 u11 u12 u13 u14 u15 u16 u17 u18 u19 u20 u21 u22 u23 u24 u25 u26 u27 u28 u29 u30 u31 u32 u33 u34 u35 u36 u37 u38 u39 u40 u41 u42 u43 u44 u45 u46 u47 u48 u49 u50 u51 u52 u53 u54 u55 u56 u57 u58 u59 u60 u61 u62 u63 u64 u65 u66 u67 u68 u69 kq wr hrel IH
    dsimp only [fillM]
    obtain ⟨i, lv, e9, hki, HK, HV, HB⟩ := hrel
    have e9 : u9 = .int .i64 i := e9
    subst e9
    have HC1 := Aside0.mk (HC.out.below HB.out)
    replace hc2 := HC1.out.c2
    have hlp : wr.cell? ⟨w.heap.size, 0, none⟩ = some lv := blk_c HK.out 0
    have hlf : wr.frozen? ⟨w.heap.size, 0, none⟩ = false := blk_f HK.out 0
    by_cases hlt : i < l.length
    · have hlt' : (i : Int) < (l.length : Int) := by omega
      have hi0 : 0 ≤ (i : Int) := by omega
      obtain ⟨ad, e1, hx⟩ := Kd.at_int (Kd.C_below HR.out HB.out) i hi0 hlt'
      cases e1
      obtain ⟨x, hy⟩ : ∃ x, rd l (i : Int) = x := ⟨_, rfl⟩
      rw [hy, Int.toNat_natCast] at hx
      rw [rd_in l i hlt] at hy
      have HY : Aside0 (l[i]? = some x) := ⟨by rw [List.getElem?_eq_getElem hlt, hy]⟩
      have HI := Aside0.mk hki
      have hw : wrap64 ((i : Int) + 1) = (i : Int) + 1 := w64 _ (by omega) (by have := HS.out; omega)
      have HN := Aside0.mk (sel_snoc t all l i x HY.out)
      have HLE : Aside0 ((sel t all (l.take i)).length ≤ 1000000) := ⟨Nat.le_trans (List.length_filter_le _ _) (by rw [List.length_take]; have := HS.out; omega)⟩
      clear hki hy
      clear hlt
      by_cases cs : selB t all x = true
      · have HN2 := Aside0.mk (HN.out.trans (if_pos cs))
        obtain ⟨B, d, rfl, -, -⟩ := Kd.R_reads HV.out
        have key : ((x == t) = true) ∨ ((x == t) = false ∧ all = true ∧ x < t) ∨ ((x == t) = false ∧ all = true ∧ (¬ x < t) ∧ t = 0) := by
          unfold selB at cs
          by_cases k1 : x = t
          · exact .inl (beq_iff_eq.2 k1)
          · have k2 : (x == t) = false := beq_eq_false_iff_ne.2 k1
            cases all with
            | false => simp [k1] at cs
            | true =>
              by_cases k3 : x < t
              · exact .inr (.inl ⟨k2, rfl, k3⟩)
              · simp [k1, k3] at cs
                exact .inr (.inr ⟨k2, rfl, k3, cs⟩)
        clear cs HN
        rcases key with k2 | ⟨k2, rfl, k3⟩ | ⟨k2, rfl, k3, rfl⟩
        all_goals
          go_wp2_with (at_builtin; refine halt_here ?_)
          refine Hid.mk ?_
          have HKA := Aside0.mk ((heap_alloc_old wr (.cells #[.int .u64 x] 26) (blk_lt HK.out)).trans HK.out)
          have HVA := Aside0.mk (Kd.R_alloc HV.out (.cells #[.int .u64 x] 26))
          refine append_tg rfl (.tmp 42) (.tmp 44) rfl w.heap.size _ (sel _ _ (l.take i)) [x] (some ⟨wr.heap.size, 0, none⟩) 1 1 rfl rfl rfl HVA.out (C_lit1 wr x (0, 0)) (Nat.le_trans HB.out.size (below_alloc (Below.refl wr.heap.size wr) _).size) (by have := HLE.out; rw [List.length_singleton]; omega) ?_
          intro v1 w1 ho hg hb
          rw [← HN2.out] at ho
          have hbk := (hg.block _ (blk_lt HKA.out) (Kd.R_ne HVA.out HKA.out (by decide))).trans HKA.out
          have h1 := blk_c hbk 0
          have h2 := blk_f hbk 0
          have HK5 := Aside0.mk (blk_set hbk 0 v1)
          have HV5 := Aside0.mk (Kd.R_set (u := v1) (j := 0) ho hbk (by intro q hq; obtain rfl := List.mem_singleton.mp hq; decide))
          have HB5 := Aside0.mk (below_set (v := v1) (j := 0) ((below_alloc HB.out (.cells #[.int .u64 x] 26)).trans hb) (Nat.le_refl _))
          obtain ⟨A2, c2, rfl, -, -⟩ := Kd.R_reads ho
          clear ho hg hb hbk hlp hlf hc2
          go_wp2
          refine wp_goto ?_
          change G 0 _ _
          refine IH.out (kq - 1) _ _ ?_ rfl ⟨i + 1, _, by first | (show Value.int _ _ = _; rw [hw, Int.natCast_add]; rfl) | (show Value.int _ _ = _; rw [Int.natCast_add]; rfl), by have := HI.out; omega, HK5, HV5, HB5⟩
          have := HI.out
          omega
      · have HN2 := Aside0.mk (HN.out.trans (if_neg cs))
        have key : ((x == t) = false ∧ all = false) ∨ ((x == t) = false ∧ all = true ∧ (¬ x < t) ∧ (t == 0) = false) := by
          unfold selB at cs
          by_cases k1 : x = t
          · simp [k1] at cs
          · have k2 : (x == t) = false := beq_eq_false_iff_ne.2 k1
            cases all with
            | false => exact .inl ⟨k2, rfl⟩
            | true =>
              simp [k1] at cs
              exact .inr ⟨k2, rfl, by omega, beq_eq_false_iff_ne.2 cs.2⟩
        clear cs HN
        rcases key with ⟨k2, rfl⟩ | ⟨k2, rfl, k3, k4⟩
        all_goals
          go_wp2
          refine wp_goto ?_
          change G 0 _ _
          refine IH.out (kq - 1) _ _ ?_ rfl ⟨i + 1, lv, by first | (show Value.int _ _ = _; rw [hw, Int.natCast_add]; rfl) | (show Value.int _ _ = _; rw [Int.natCast_add]; rfl), by have := HI.out; omega, HK, ⟨by rw [HN2.out]; exact HV.out⟩, HB⟩
          have := HI.out
          omega
    · have hlt' : ¬ ((i : Int) < (l.length : Int)) := by omega
      have HE := Aside0.mk (show sel t all (l.take i) = sel t all l by rw [List.take_of_length_le (by omega)])
      rw [HE.out, HSS.out] at HV
      have HLE : Aside0 (s.length ≤ 1000000) := ⟨by rw [← HSS.out]; exact Nat.le_trans (List.length_filter_le _ _) HS.out⟩
      clear HE hlt hki HSS
      obtain ⟨B, d, rfl, -, hCs⟩ := Kd.R_reads HV.out
      have HCS := Aside0.mk hCs
      clear hCs
      have key : (s = [] ∧ all = false) ∨ (s = [] ∧ all = true ∧ 0 < t) ∨ (((s.length : Int) == 0) = true ∧ all = true ∧ (¬ 0 < t) ∧ s = []) ∨ (((s.length : Int) == 0) = false ∧ s ≠ []) := by
        by_cases k1 : s = []
        · cases all with
          | false => exact .inl ⟨k1, rfl⟩
          | true =>
            by_cases k2 : 0 < t
            · exact .inr (.inl ⟨k1, rfl, k2⟩)
            · exact .inr (.inr (.inl ⟨by subst k1; rfl, rfl, k2, k1⟩))
        · exact .inr (.inr (.inr ⟨beq_eq_false_iff_ne.2 (by have := List.length_pos_iff.2 k1; omega), k1⟩))
      rcases key with ⟨rfl, rfl⟩ | ⟨rfl, rfl, k3⟩ | k3
      · go_wp2
        try rw [scoped_ret]
        go_ret2
        first | exact ⟨rfl, HB.out⟩ | exact .inl ⟨rfl, .inl rfl, rfl, HB.out⟩
      · go_wp2
        try rw [scoped_ret]
        go_ret2
        first | exact ⟨rfl, HB.out⟩ | exact .inl ⟨rfl, .inr k3, rfl, HB.out⟩
      · have HNO : Aside0 (¬ (s = [] ∧ (all = false ∨ 0 < t))) := ⟨by
          rintro ⟨k4, k5⟩
          rcases k3 with ⟨-, k6, k7, -⟩ | ⟨-, k6⟩
          · rcases k5 with k5 | k5
            · rw [k5] at k6; cases k6
            · exact k7 k5
          · exact k6 k4⟩
        have HCL := Aside0.mk (Clone_is A c l wr (Kd.C_below HR.out HB.out) HS.out)
        rcases k3 with ⟨k4, rfl, k5, -⟩ | ⟨k4, -⟩
        all_goals
          go_wp2_with (first | (go_at_call 15; refine HCL.out.mono ?_; rintro e w1 ⟨v1, rfl, ho, hb⟩; have HO := Aside0.mk ho; have HB1 := Aside0.mk hb; have HDE := Aside0.mk (Delete_is ho hb HS.out w.heap.size B d s hlp HCS.out HLE.out); obtain ⟨A2, c2, rfl, -, -⟩ := Kd.R_reads ho; clear ho hb) | (go_at_call 16; refine HDE.out.mono ?_; rintro e w3 ⟨v3, rfl, ho, hb⟩; have HO3 := Aside0.mk ho; have HB3 := Aside0.mk hb; have HC3 := Aside0.mk (HC1.out.below hb); have HK3 := Aside0.mk ((hb.block _ (blk_lt HK.out)).trans HK.out); obtain ⟨A3, c3, rfl, -, -⟩ := Kd.R_reads ho; clear ho hb; have g0 := blk_c HC3.out.blk 2; have g1 := blk_f HC3.out.blk 2; have g2 := blk_c HK3.out 0; have g3 : (w.heap.size = cp) = False := eq_false (Nat.ne_of_gt HLT.out); have g4 : (cp = w.heap.size) = False := eq_false (Nat.ne_of_lt HLT.out)))
          have HF1 := Aside0.mk (show Cr N (w3.setCell ⟨cp, 2, none⟩ (.slice A3 (stay s l).length c3)) cp m last (stay s l) (.slice A3 (stay s l).length c3) from ⟨HC3.out.le, blk_set HC3.out.blk 2 _, Tg.set (Kd.R_lower HO3.out (Nat.le_trans HC.out.base HB.out.size)) HC3.out.blk 2 _⟩)
          have HF2 := Aside0.mk (Tg.set (u := .slice A3 (stay s l).length c3) (Kd.R_below HV.out HB3.out) HC3.out.blk 2)
          have HF3 := Aside0.mk (below_setN (j := 2) (v := .slice A3 (stay s l).length c3) ((thn HB.out HB3.out).mono HC.out.base) HC3.out.le)
          try rw [scoped_ret]
          go_ret2
          first | exact .inr ⟨HNO.out, _, _, rfl, HF2.out, HF1.out, HF3.out⟩ | exact ⟨HNO.out, _, _, rfl, HF2.out, HF1.out, HF3.out⟩
end Go.Proofs.Ytcgfjjpnjoinkaa.Cr
