/-
  The walk of PlanHot.
  Conditions: none.
-/
import Derived.Test.YtbkamlkmimfomaaPo
import Derived.Deep.RegionHeld3
namespace Go.Proofs.Ytbkamlkmimfomaa
open Go.RowKit Go.Proofs.YtbkamlkmimfomaaW.PrintWords Go.Proofs.YtbkamlkmimfomaaW.PrintLast Go.Proofs.YtbkamlkmimfomaaFl Go.Proofs.YtbkamlkmimfomaaG Go.Proofs.YtbkamlkmimfomaaIv Go.Proofs.Ytbkamlkmimfomaa.PGa
set_option linter.unusedVariables false
set_option linter.unusedSimpArgs false

theorem wf32 {x : Int} (h : (Lit.int .u32 x).wf = true) : 0 ≤ x ∧ x < 4294967296 := by
  simp [Lit.wf, IntKind.min, IntKind.max, IntKind.signed, IntKind.bits] at h
  omega
def fewB (l : List S46) (ns : List Int) : Bool := decide ((l.length : Int) ≤ 60) && decide ((ns.length : Int) ≤ 20)
theorem Few_is (ep : Int) (A1 : Option Addr) (c1 : Nat) (l : List S46) (A2 : Option Addr) (c2 : Nat) (ns : List Int) (w : World) (hr1 : Kd.C k46 w A1 l.length l) (hc1 : l.length ≤ c1) (hr2 : Kd.C (Kd.int .i64) w A2 ns.length ns) (hc2 : ns.length ≤ c2) :
    Calls Try.prog 6 #[.agg (cT ep A1 l.length c1 A2 ns.length c2)] w fun e w' => e = .returned (.bool (fewB l ns)) ∧ Below w.heap.size w w' := by
  refine carrefourlaw10_Few.calls ep A1 c1 l A2 c2 ns _ w hr1 hc1 hr2 hc2 ?_
  unfold carrefourlaw10_Few.f carrefourlaw9_Few.f fewB
  by_cases h : (l.length : Int) ≤ 60
  · rw [decide_eq_true h]; rfl
  · rw [decide_eq_false h]; rfl
set_option maxHeartbeats 8000000 in
set_option maxRecDepth 100000 in
theorem PlanHot_is (ep : Int) (A1 : Option Addr) (c1 : Nat) (l : List S46) (A2 : Option Addr) (c2 : Nat) (ns : List Int) (A3 : Option Addr) (c3 : Nat) (loads : List Int) (w : World) (hr1 : Kd.C k46 w A1 l.length l) (hc1 : l.length ≤ c1) (hr2 : Kd.C (Kd.int .i64) w A2 ns.length ns) (hc2 : ns.length ≤ c2) (hr3 : Kd.C (Kd.int .i64) w A3 loads.length loads) (hc3 : loads.length ≤ c3) (hf : ∀ x ∈ l, 0 ≤ x.f0 ∧ x.f0 < 4294967296) :
    Calls Try.prog 5 #[.agg (cT ep A1 l.length c1 A2 ns.length c2), .slice A3 loads.length c3] w fun e w' => e = .returned (.bool true) ∧ Below w.heap.size w w' := by
  have HR1 := Aside0.mk hr1
  have HC1 := Aside0.mk hc1
  have HR2 := Aside0.mk hr2
  have HC2 := Aside0.mk hc2
  have HR3 := Aside0.mk hr3
  have HC3 := Aside0.mk hc3
  have HF := Aside0.mk hf
  have hu := Try.underlying25
  have hu46 := Try.underlying46
  have hu28 := Try.underlying28
  clear hr1 hc1 hr2 hc2 hr3 hc3 hf
  cases hfw : fewB l ns with
  | false =>
    have HFW := Aside0.mk hfw
    clear hfw
    go_enter Try.func5, Try.ntmps5
    go_wp2_with (first
      | ((with_reducible refine gate_dst (N := 2) rfl ?_); refine box_event ?hg (N := 2) ?hd (cs := cT ep A1 l.length c1 A2 ns.length c2) (t := 25) ?hr ?_; (case hd => rfl); (case hg => rfl); (case hr => first | (go_simp; done) | (go_simp; rfl)); intro g2 hg w2 hbox hb; have HB := Aside0.mk hb; have HX := Aside0.mk hbox; have h0 : w2.cell? ⟨g2, 0, none⟩ = some (.int .i64 ep) := (blk_cell HX.out 0).trans rfl; have h1 : w2.cell? ⟨g2, 1, none⟩ = some (.slice A1 l.length c1) := (blk_cell HX.out 1).trans rfl; have h2 : w2.cell? ⟨g2, 2, none⟩ = some (.slice A2 ns.length c2) := (blk_cell HX.out 2).trans rfl; clear hb hbox hg)
      | (go_at_call 6; with_reducible refine (Few_is ep A1 c1 l A2 c2 ns _ (Kd.C_below HR1.out HB.out) HC1.out (Kd.C_below HR2.out HB.out) HC2.out).mono ?_; rintro e w3 ⟨rfl, hb⟩; have HB3 := Aside0.mk (thn5 HB.out hb); have HX3 := Aside0.mk (blk_below HX.out hb); clear h0 h1 h2; have h0 : w3.cell? ⟨g2, 0, none⟩ = some (.int .i64 ep) := (blk_cell HX3.out 0).trans rfl; have h1 : w3.cell? ⟨g2, 1, none⟩ = some (.slice A1 l.length c1) := (blk_cell HX3.out 1).trans rfl; have h2 : w3.cell? ⟨g2, 2, none⟩ = some (.slice A2 ns.length c2) := (blk_cell HX3.out 2).trans rfl; clear hb; rw [HFW.out])
      | (go_at_call 7; with_reducible refine (told_is _).mono ?_; rintro e w9 ⟨rfl, hb⟩; have HBT := Aside0.mk (thn5 HB3.out hb); clear hb))
    go_ret
    exact ⟨rfl, HBT.out⟩
  | true =>
    have HFW := Aside0.mk hfw
    have HFL : Aside0 (l.length ≤ 60 ∧ ns.length ≤ 20) := ⟨by unfold fewB at hfw; rw [Bool.and_eq_true, decide_eq_true_eq, decide_eq_true_eq] at hfw; omega⟩
    clear hfw
    cases hm : mayT ep l ns with
    | false =>
      have HM := Aside0.mk hm
      clear hm
      go_enter Try.func5, Try.ntmps5
      go_wp2_with (first
        | ((with_reducible refine gate_dst (N := 2) rfl ?_); refine box_event ?hg (N := 2) ?hd (cs := cT ep A1 l.length c1 A2 ns.length c2) (t := 25) ?hr ?_; (case hd => rfl); (case hg => rfl); (case hr => first | (go_simp; done) | (go_simp; rfl)); intro g2 hg w2 hbox hb; have HB := Aside0.mk hb; have HX := Aside0.mk hbox; have h0 : w2.cell? ⟨g2, 0, none⟩ = some (.int .i64 ep) := (blk_cell HX.out 0).trans rfl; have h1 : w2.cell? ⟨g2, 1, none⟩ = some (.slice A1 l.length c1) := (blk_cell HX.out 1).trans rfl; have h2 : w2.cell? ⟨g2, 2, none⟩ = some (.slice A2 ns.length c2) := (blk_cell HX.out 2).trans rfl; clear hb hbox hg)
        | (go_at_call 6; with_reducible refine (Few_is ep A1 c1 l A2 c2 ns _ (Kd.C_below HR1.out HB.out) HC1.out (Kd.C_below HR2.out HB.out) HC2.out).mono ?_; rintro e w3 ⟨rfl, hb⟩; have HB3 := Aside0.mk (thn5 HB.out hb); have HX3 := Aside0.mk (blk_below HX.out hb); clear h0 h1 h2; have h0 : w3.cell? ⟨g2, 0, none⟩ = some (.int .i64 ep) := (blk_cell HX3.out 0).trans rfl; have h1 : w3.cell? ⟨g2, 1, none⟩ = some (.slice A1 l.length c1) := (blk_cell HX3.out 1).trans rfl; have h2 : w3.cell? ⟨g2, 2, none⟩ = some (.slice A2 ns.length c2) := (blk_cell HX3.out 2).trans rfl; clear hb; rw [HFW.out])
        | (go_at_call 17; with_reducible refine (May_is ep A1 c1 l A2 c2 ns _ (Kd.C_below HR1.out HB3.out) HC1.out (Kd.C_below HR2.out HB3.out) HC2.out).mono ?_; rintro e w4 ⟨rfl, hb⟩; have HB4 := Aside0.mk (thn5 HB3.out hb); have HX4 := Aside0.mk (blk_below HX3.out hb); clear h0 h1 h2; have h0 : w4.cell? ⟨g2, 0, none⟩ = some (.int .i64 ep) := (blk_cell HX4.out 0).trans rfl; have h1 : w4.cell? ⟨g2, 1, none⟩ = some (.slice A1 l.length c1) := (blk_cell HX4.out 1).trans rfl; have h2 : w4.cell? ⟨g2, 2, none⟩ = some (.slice A2 ns.length c2) := (blk_cell HX4.out 2).trans rfl; clear hb; rw [HM.out])
        | (go_at_call 7; with_reducible refine (told_is _).mono ?_; rintro e w9 ⟨rfl, hb⟩; have HBT := Aside0.mk (thn5 HB4.out hb); clear hb))
      go_ret
      exact ⟨rfl, HBT.out⟩
    | true =>
      have HM := Aside0.mk hm
      have HL : Aside0 (1 ≤ l.length ∧ 1 ≤ ns.length ∧ ns.length ≤ 16) := ⟨by have := mayT_facts hm; exact ⟨this.1, this.2.2.1, this.2.2.2.1⟩⟩
      clear hm
      by_cases n1 : loads.length < ns.length
      · have d1 : decide (loads.length < ns.length) = true := decide_eq_true n1
        clear n1
        go_enter Try.func5, Try.ntmps5
        go_wp2_with (first
          | ((with_reducible refine gate_dst (N := 2) rfl ?_); refine box_event ?hg (N := 2) ?hd (cs := cT ep A1 l.length c1 A2 ns.length c2) (t := 25) ?hr ?_; (case hd => rfl); (case hg => rfl); (case hr => first | (go_simp; done) | (go_simp; rfl)); intro g2 hg w2 hbox hb; have HB := Aside0.mk hb; have HX := Aside0.mk hbox; have h0 : w2.cell? ⟨g2, 0, none⟩ = some (.int .i64 ep) := (blk_cell HX.out 0).trans rfl; have h1 : w2.cell? ⟨g2, 1, none⟩ = some (.slice A1 l.length c1) := (blk_cell HX.out 1).trans rfl; have h2 : w2.cell? ⟨g2, 2, none⟩ = some (.slice A2 ns.length c2) := (blk_cell HX.out 2).trans rfl; clear hb hbox hg)
          | (go_at_call 6; with_reducible refine (Few_is ep A1 c1 l A2 c2 ns _ (Kd.C_below HR1.out HB.out) HC1.out (Kd.C_below HR2.out HB.out) HC2.out).mono ?_; rintro e w3 ⟨rfl, hb⟩; have HB3 := Aside0.mk (thn5 HB.out hb); have HX3 := Aside0.mk (blk_below HX.out hb); clear h0 h1 h2; have h0 : w3.cell? ⟨g2, 0, none⟩ = some (.int .i64 ep) := (blk_cell HX3.out 0).trans rfl; have h1 : w3.cell? ⟨g2, 1, none⟩ = some (.slice A1 l.length c1) := (blk_cell HX3.out 1).trans rfl; have h2 : w3.cell? ⟨g2, 2, none⟩ = some (.slice A2 ns.length c2) := (blk_cell HX3.out 2).trans rfl; clear hb; rw [HFW.out])
          | (go_at_call 17; with_reducible refine (May_is ep A1 c1 l A2 c2 ns _ (Kd.C_below HR1.out HB3.out) HC1.out (Kd.C_below HR2.out HB3.out) HC2.out).mono ?_; rintro e w4 ⟨rfl, hb⟩; have HB4 := Aside0.mk (thn5 HB3.out hb); have HX4 := Aside0.mk (blk_below HX3.out hb); clear h0 h1 h2; have h0 : w4.cell? ⟨g2, 0, none⟩ = some (.int .i64 ep) := (blk_cell HX4.out 0).trans rfl; have h1 : w4.cell? ⟨g2, 1, none⟩ = some (.slice A1 l.length c1) := (blk_cell HX4.out 1).trans rfl; have h2 : w4.cell? ⟨g2, 2, none⟩ = some (.slice A2 ns.length c2) := (blk_cell HX4.out 2).trans rfl; clear hb; rw [HM.out])
          | (go_at_call 7; with_reducible refine (told_is _).mono ?_; rintro e w9 ⟨rfl, hb⟩; have HBT := Aside0.mk (thn5 HB4.out hb); clear hb))
        go_ret
        exact ⟨rfl, HBT.out⟩
      by_cases n2 : 20 < loads.length
      · have d1 : decide (loads.length < ns.length) = false := decide_eq_false n1
        have d2 : decide (20 < (loads.length : Int)) = true := decide_eq_true (by omega)
        clear n1 n2
        go_enter Try.func5, Try.ntmps5
        go_wp2_with (first
          | ((with_reducible refine gate_dst (N := 2) rfl ?_); refine box_event ?hg (N := 2) ?hd (cs := cT ep A1 l.length c1 A2 ns.length c2) (t := 25) ?hr ?_; (case hd => rfl); (case hg => rfl); (case hr => first | (go_simp; done) | (go_simp; rfl)); intro g2 hg w2 hbox hb; have HB := Aside0.mk hb; have HX := Aside0.mk hbox; have h0 : w2.cell? ⟨g2, 0, none⟩ = some (.int .i64 ep) := (blk_cell HX.out 0).trans rfl; have h1 : w2.cell? ⟨g2, 1, none⟩ = some (.slice A1 l.length c1) := (blk_cell HX.out 1).trans rfl; have h2 : w2.cell? ⟨g2, 2, none⟩ = some (.slice A2 ns.length c2) := (blk_cell HX.out 2).trans rfl; clear hb hbox hg)
          | (go_at_call 6; with_reducible refine (Few_is ep A1 c1 l A2 c2 ns _ (Kd.C_below HR1.out HB.out) HC1.out (Kd.C_below HR2.out HB.out) HC2.out).mono ?_; rintro e w3 ⟨rfl, hb⟩; have HB3 := Aside0.mk (thn5 HB.out hb); have HX3 := Aside0.mk (blk_below HX.out hb); clear h0 h1 h2; have h0 : w3.cell? ⟨g2, 0, none⟩ = some (.int .i64 ep) := (blk_cell HX3.out 0).trans rfl; have h1 : w3.cell? ⟨g2, 1, none⟩ = some (.slice A1 l.length c1) := (blk_cell HX3.out 1).trans rfl; have h2 : w3.cell? ⟨g2, 2, none⟩ = some (.slice A2 ns.length c2) := (blk_cell HX3.out 2).trans rfl; clear hb; rw [HFW.out])
          | (go_at_call 17; with_reducible refine (May_is ep A1 c1 l A2 c2 ns _ (Kd.C_below HR1.out HB3.out) HC1.out (Kd.C_below HR2.out HB3.out) HC2.out).mono ?_; rintro e w4 ⟨rfl, hb⟩; have HB4 := Aside0.mk (thn5 HB3.out hb); have HX4 := Aside0.mk (blk_below HX3.out hb); clear h0 h1 h2; have h0 : w4.cell? ⟨g2, 0, none⟩ = some (.int .i64 ep) := (blk_cell HX4.out 0).trans rfl; have h1 : w4.cell? ⟨g2, 1, none⟩ = some (.slice A1 l.length c1) := (blk_cell HX4.out 1).trans rfl; have h2 : w4.cell? ⟨g2, 2, none⟩ = some (.slice A2 ns.length c2) := (blk_cell HX4.out 2).trans rfl; clear hb; rw [HM.out])
          | (go_at_call 7; with_reducible refine (told_is _).mono ?_; rintro e w9 ⟨rfl, hb⟩; have HBT := Aside0.mk (thn5 HB4.out hb); clear hb))
        go_ret
        exact ⟨rfl, HBT.out⟩
      have d1 : decide (loads.length < ns.length) = false := decide_eq_false n1
      have d2 : decide (20 < (loads.length : Int)) = false := decide_eq_false (by omega)
      have HLL : Aside0 (ns.length ≤ loads.length ∧ loads.length ≤ 20) := ⟨by omega⟩
      clear n1 n2
      go_enter Try.func5, Try.ntmps5
      go_wp2_with (first
        | ((with_reducible refine gate_dst (N := 2) rfl ?_); refine box_event ?hg (N := 2) ?hd (cs := cT ep A1 l.length c1 A2 ns.length c2) (t := 25) ?hr ?_; (case hd => rfl); (case hg => rfl); (case hr => first | (go_simp; done) | (go_simp; rfl)); intro g2 hg w2 hbox hb; have HB := Aside0.mk hb; have HX := Aside0.mk hbox; have h0 : w2.cell? ⟨g2, 0, none⟩ = some (.int .i64 ep) := (blk_cell HX.out 0).trans rfl; have h1 : w2.cell? ⟨g2, 1, none⟩ = some (.slice A1 l.length c1) := (blk_cell HX.out 1).trans rfl; have h2 : w2.cell? ⟨g2, 2, none⟩ = some (.slice A2 ns.length c2) := (blk_cell HX.out 2).trans rfl; clear hb hbox hg)
        | (go_at_call 6; with_reducible refine (Few_is ep A1 c1 l A2 c2 ns _ (Kd.C_below HR1.out HB.out) HC1.out (Kd.C_below HR2.out HB.out) HC2.out).mono ?_; rintro e w3 ⟨rfl, hb⟩; have HB3 := Aside0.mk (thn5 HB.out hb); have HX3 := Aside0.mk (blk_below HX.out hb); clear h0 h1 h2; have h0 : w3.cell? ⟨g2, 0, none⟩ = some (.int .i64 ep) := (blk_cell HX3.out 0).trans rfl; have h1 : w3.cell? ⟨g2, 1, none⟩ = some (.slice A1 l.length c1) := (blk_cell HX3.out 1).trans rfl; have h2 : w3.cell? ⟨g2, 2, none⟩ = some (.slice A2 ns.length c2) := (blk_cell HX3.out 2).trans rfl; clear hb; rw [HFW.out])
        | (go_at_call 17; with_reducible refine (May_is ep A1 c1 l A2 c2 ns _ (Kd.C_below HR1.out HB3.out) HC1.out (Kd.C_below HR2.out HB3.out) HC2.out).mono ?_; rintro e w4 ⟨rfl, hb⟩; have HB4 := Aside0.mk (thn5 HB3.out hb); have HX4 := Aside0.mk (blk_below HX3.out hb); clear h0 h1 h2; have h0 : w4.cell? ⟨g2, 0, none⟩ = some (.int .i64 ep) := (blk_cell HX4.out 0).trans rfl; have h1 : w4.cell? ⟨g2, 1, none⟩ = some (.slice A1 l.length c1) := (blk_cell HX4.out 1).trans rfl; have h2 : w4.cell? ⟨g2, 2, none⟩ = some (.slice A2 ns.length c2) := (blk_cell HX4.out 2).trans rfl; clear hb; rw [HM.out]))
      go_loopg [5, 6] loads.length (fun g v5 v6 wr => ∃ (i : Nat), v6 = .int .i64 i ∧ g + i = loads.length ∧ Aside0 (Kd.R (Kd.int .i64) 3 wr w4.heap.size (fun _ => True) v5 ((loads.take i).map umL)) ∧ Aside0 (Below w4.heap.size w4 wr))
      case atStart => exact ⟨0, rfl, by omega, ⟨Kd.R_nil _ _ _ _ _⟩, ⟨Below.refl _ _⟩⟩
      case round =>
        obtain ⟨i, rfl, hgi, HRR, HBR⟩ := hrel
        cases gk with
        | zero =>
          have hi : ¬ ((i : Int) < (loads.length : Int)) := by omega
          have hil : i = loads.length := by omega
          subst hil
          rw [List.take_length] at HRR
          clear hgi
          have HQL0 : Aside0 ((loads.map umL).length = loads.length) := ⟨List.length_map ..⟩
          have HQD0 : Aside0 (∀ s : Nat, s < loads.length → ldP (loads.map umL) (s : Int) = YtbkamlkmimfomaaW.PrintWords.rd (loads.map umL) (s : Int)) := ⟨fun s hs => ld_um loads s hs⟩
          obtain ⟨q, hq⟩ : ∃ q, loads.map umL = q := ⟨_, rfl⟩
          rw [hq] at HRR HQL0 HQD0
          clear hq
          have HHF := Aside0.mk (hot_facts q HM.out HF.out)
          obtain ⟨hn, hhn⟩ : ∃ hn : Nat, hotP ep l ns q = (hn : Int) := ⟨(hotP ep l ns q).toNat, (Int.toNat_of_nonneg HHF.out.1).symm⟩
          have HHN := Aside0.mk hhn
          rw [hhn] at HHF
          obtain ⟨S, hS⟩ : ∃ S, coldS q ns l ns.length = S := ⟨_, rfl⟩
          have HSS := Aside0.mk hS
          have hcc : coldP ep l ns q 4 = (coldBest S 4 : Nat) := by rw [← hS]; exact if_pos ⟨HM.out, by decide, by decide⟩
          have HCM := Aside0.mk (coldBest_min S 4)
          have HCL := Aside0.mk (coldBest_le S 4)
          obtain ⟨cn, hcn⟩ : ∃ cn : Nat, coldBest S 4 = cn := ⟨_, rfl⟩
          rw [hcn] at hcc HCM HCL
          have HCC := Aside0.mk hcc
          have HIC0 := Aside0.mk (leanC_is (loads := q) HM.out)
          obtain ⟨z, hz⟩ : ∃ z, leanZ q l = z := ⟨_, rfl⟩
          rw [hz] at HIC0 HHF
          obtain ⟨A6, c6, rfl, hc6, hC6⟩ := Kd.R_reads HRR.out
          have HC6 := Aside0.mk hC6
          have HK6 := Aside0.mk hc6
          have HBZ := Aside0.mk (thn5 HB4.out HBR.out)
          have HXr := Aside0.mk (blk_below HX4.out HBR.out)
          clear hC6 hc6 HRR HBR hcc hcn hhn hS hz h0 h1 h2
          obtain ⟨wq, hwq⟩ : ∃ wq, wq = wr := ⟨_, rfl⟩
          subst hwq
          have k0 : wq.cell? ⟨g2, 0, none⟩ = some (.int .i64 ep) := (blk_cell HXr.out 0).trans rfl
          have k1 : wq.cell? ⟨g2, 1, none⟩ = some (.slice A1 l.length c1) := (blk_cell HXr.out 1).trans rfl
          have k2 : wq.cell? ⟨g2, 2, none⟩ = some (.slice A2 ns.length c2) := (blk_cell HXr.out 2).trans rfl
          go_wp2
          go_region_held3 (fun w' => w'.cell? ⟨g2, 0, none⟩ = some (.int .i64 ep) ∧ w'.cell? ⟨g2, 1, none⟩ = some (.slice A1 l.length c1) ∧ w'.cell? ⟨g2, 2, none⟩ = some (.slice A2 ns.length c2)) (first | exact ⟨k0, k1, k2⟩ | exact cells3 k0 k1 k2 (below_drew1 (Below.refl _ _)) | exact cells3 k0 k1 k2 HB5.out | exact cells3 k0 k1 k2 HB6.out | exact cells3 k0 k1 k2 HB7.out) ((first
            | (go_at_call 11; with_reducible refine (Lean_is ep A1 c1 l A2 c2 ns A6 c6 q _ (Kd.C_below HR1.out (below_drew1 HBZ.out)) HC1.out (Kd.C_below HR2.out (below_drew1 HBZ.out)) HC2.out (Kd.C_below HC6.out (below_drew1 (Below.refl _ _))) HK6.out).mono ?_; rintro e w5 ⟨r_, i_, rfl, hl_, hb⟩; have HB5 := Aside0.mk (thn5 (below_drew1 (Below.refl _ _)) hb); have HIC := Aside0.mk (hl_ ▸ HIC0.out.1 : IC (crd (r_, i_)) z); clear hb hl_)
            | (go_at_call 13; with_reducible refine (Hot_is ep A1 c1 l A2 c2 ns A6 c6 q _ (Kd.C_below HR1.out (thn5 HBZ.out HB5.out)) HC1.out (Kd.C_below HR2.out (thn5 HBZ.out HB5.out)) HC2.out (Kd.C_below HC6.out HB5.out) HK6.out).mono ?_; rintro e w6 ⟨rfl, hb⟩; have HB6 := Aside0.mk (thn5 HB5.out hb); clear hb; rw [HHN.out])
            | (go_at_call 15; with_reducible refine (Cold_is ep A1 c1 l A2 c2 ns A6 c6 q 4 _ (Kd.C_below HR1.out (thn5 HBZ.out HB6.out)) HC1.out (Kd.C_below HR2.out (thn5 HBZ.out HB6.out)) HC2.out (Kd.C_below HC6.out HB6.out) HK6.out).mono ?_; rintro e w7 ⟨rfl, hb⟩; have HB7 := Aside0.mk (thn5 HB6.out hb); clear hb; rw [HCC.out])))
          have HZB := Aside0.mk HIC0.out.2
          obtain ⟨sv, hsv⟩ : ∃ sv, shP l (hn : Int) l.length = sv := ⟨_, rfl⟩
          have HSV := Aside0.mk hsv
          have hsp : 0 < sv := by rw [← hsv]; exact (share_pos (mayT_ring HM.out) HF.out hn).2 HHF.out.2.2.1
          have s1 : ((sv : Int) == 0) = false := by rw [beq_eq_false_iff_ne]; omega
          have s2 : (sv = 0) = False := eq_false (by omega)
          have b1 : ((hn : Int) < 0) = False := eq_false (by omega)
          have b2 : decide (ns.length ≤ hn) = false := decide_eq_false (by have := HHF.out.2.1; omega)
          have b3 : ((cn : Int) < 0) = False := eq_false (by omega)
          have b4 : (4 ≤ (cn : Int)) = False := eq_false (by have := HCL.out; omega)
          have HX7 := Aside0.mk (blk_below HXr.out HB7.out)
          have HBQ7 := HB7
          have HB7 := Aside0.mk (thn5 HBZ.out HBQ7.out)
          clear hsv hsp
          go_wp2_with (first
            | (go_at_call 18; with_reducible refine (Share_is A1 c1 l (hn : Int) _ (Kd.C_below HR1.out HB7.out) HC1.out (mayT_ring HM.out)).mono ?_; rintro e w8 ⟨rfl, hb⟩; have HB8 := Aside0.mk (thn5 HB7.out hb); have HBQ8 := Aside0.mk (thn5 HBQ7.out hb); have HX8 := Aside0.mk (blk_below HX7.out hb); clear hb; rw [HSV.out])
            | (go_at_call 19; with_reducible refine (Whole_at r_ i_ _ HIC.out HZB.out).mono ?_; rintro e w9 ⟨rfl, hw9⟩; subst hw9)
            | ((with_reducible refine gate_dst (N := 10) rfl ?_); refine box_event ?hg (N := 10) ?hd (cs := #[.int .i64 0, .int .i64 0, .int .i64 0, .int .i64 0]) (t := 28) ?hr ?_; (case hd => rfl); (case hg => rfl); (case hr => first | (go_simp; done) | (go_simp; rfl)); intro g7 hg w10 hbox hb; have HBQ := Aside0.mk (thn5 HBQ8.out hb); have HS10 := Aside0.mk hbox; have HG0 : Aside0 (wq.heap.size ≤ g7) := ⟨by rw [hg]; exact HBQ8.out.size⟩; clear hb hbox hg))
          go_loopg [11] ns.length (fun g v11 wr => ∃ (i : Nat), v11 = .int .i64 i ∧ g + i = ns.length ∧ Aside0 (wr.heap[g7]? = some (.cells (c4 (coldS q ns l i)) 28 (0, 0))) ∧ Aside0 (Below wq.heap.size wq wr))
          case atStart => exact ⟨0, rfl, by omega, HS10, HBQ⟩
          case round =>
            obtain ⟨i, rfl, hgi, HSS2, HB2⟩ := hrel
            have hX := blk_below HXr.out HB2.out
            have k1 : wr.cell? ⟨g2, 1, none⟩ = some (.slice A1 l.length c1) := (blk_cell hX 1).trans rfl
            have k2 : wr.cell? ⟨g2, 2, none⟩ = some (.slice A2 ns.length c2) := (blk_cell hX 2).trans rfl
            clear hX
            cases gk with
            | zero =>
              have hi : ¬ ((i : Int) < (ns.length : Int)) := by omega
              have hil : i = ns.length := by omega
              subst hil
              clear hgi
              rw [HSS.out] at HSS2
              go_wp2
              obtain ⟨wa, hwa⟩ : ∃ wa, wa = wr := ⟨_, rfl⟩
              subst hwa
              go_loopg [12] 4 (fun g v12 wr => ∃ (n : Nat), v12 = .int .i64 n ∧ g + n = 4 ∧ Aside0 (wr.heap[g7]? = some (.cells (c4 S) 28 (0, 0))) ∧ Aside0 (Below wq.heap.size wq wr))
              case atStart => exact ⟨0, rfl, by omega, HSS2, HB2⟩
              case round =>
                obtain ⟨n, rfl, hgn, HSS3, HB3⟩ := hrel
                cases gk with
                | succ g1 =>
                  have hn4 : n < 4 := by omega
                  have hc4 : cn < 4 := by have := HCL.out; omega
                  have q1 : wr.cell? ⟨g7, n, none⟩ = some (.int .i64 (S (n : Int))) := (blk_cell HSS3.out n).trans (c4_at _ hn4)
                  have q2 : wr.cell? ⟨g7, cn, none⟩ = some (.int .i64 (S (cn : Int))) := (blk_cell HSS3.out cn).trans (c4_at _ hc4)
                  obtain ⟨x1, hx1⟩ : ∃ x1, S (n : Int) = x1 := ⟨_, rfl⟩
                  obtain ⟨x2, hx2⟩ : ∃ x2, S (cn : Int) = x2 := ⟨_, rfl⟩
                  have t1 := HCM.out.1 n hn4
                  have t2 := HCM.out.2 n
                  rw [hx1, hx2] at t1 t2
                  rw [hx1] at q1
                  rw [hx2] at q2
                  have HI := Aside0.mk hgn
                  have hw : wrap64 ((n : Int) + 1) = (n : Int) + 1 := wr64 _ (by omega) (by omega)
                  have e1 : decide (x1 < x2) = false := decide_eq_false (by omega)
                  have i1 : (0 ≤ (n : Int)) = True := eq_true (by omega)
                  have i2 : ((n : Int) < 4) = True := eq_true (by omega)
                  have i3 : ((n : Int) < 0) = False := eq_false (by omega)
                  have m1 : (0 ≤ (cn : Int)) = True := eq_true (by omega)
                  have m2 : ((cn : Int) < 4) = True := eq_true (by omega)
                  have m3 : ((cn : Int) < 0) = False := eq_false (by omega)
                  clear hgn hn4 hc4 hx1 hx2
                  by_cases hxe : x1 = x2
                  · have e2 : (x1 == x2) = true := beq_iff_eq.mpr hxe
                    have e3 : decide (n < cn) = false := decide_eq_false (fun h => by have := t2 h; omega)
                    clear t1 t2 hxe
                    go_wp2
                    go_quiet (fail)
                    go_wp2
                    go_roundg g1
                    case measure => omega
                    case rel => exact ⟨n + 1, by first | rfl | (rw [hw, Int.natCast_add]; rfl), by have := HI.out; omega, ⟨blk_drewN HSS3.out nq⟩, ⟨pw_below_drewN HB3.out nq⟩⟩
                  · have e2 : (x1 == x2) = false := beq_eq_false_iff_ne.mpr hxe
                    clear t1 t2 hxe
                    go_wp2
                    go_quiet (fail)
                    go_wp2
                    go_roundg g1
                    case measure => omega
                    case rel => exact ⟨n + 1, by first | rfl | (rw [hw, Int.natCast_add]; rfl), by have := HI.out; omega, ⟨blk_drewN HSS3.out nq⟩, ⟨pw_below_drewN HB3.out nq⟩⟩
                | zero =>
                  have hn4 : n = 4 := by omega
                  subst hn4
                  clear hgn
                  by_cases hz : z = (0, 0)
                  · subst hz
                    have o1 : (FloatKind.f64.format.order r_ 0 == some .eq) = true := (eq_iv (io_rd HIC.out.1) iv_zero).trans (decide_eq_true rfl)
                    have o2 : (FloatKind.f64.format.order i_ 0 == some .eq) = true := (eq_iv (io_rd HIC.out.2) iv_zero).trans (decide_eq_true rfl)
                    go_wp2
                    obtain ⟨wb, hwb⟩ : ∃ wb, wb = wr := ⟨_, rfl⟩
                    subst hwb
                    go_loopg [13] ns.length (fun g v13 wr => ∃ (s : Nat), v13 = .int .i64 s ∧ g + s = ns.length ∧ Aside0 (Below wq.heap.size wq wr))
                    case atStart => exact ⟨0, rfl, by omega, HB3⟩
                    case round =>
                      obtain ⟨s, rfl, hgs, HB4⟩ := hrel
                      have hX := blk_below HXr.out HB4.out
                      have k1 : wr.cell? ⟨g2, 1, none⟩ = some (.slice A1 l.length c1) := (blk_cell hX 1).trans rfl
                      have k2 : wr.cell? ⟨g2, 2, none⟩ = some (.slice A2 ns.length c2) := (blk_cell hX 2).trans rfl
                      clear hX
                      cases gk with
                      | zero =>
                        have hi : ¬ ((s : Int) < (ns.length : Int)) := by omega
                        have hil : s = ns.length := by omega
                        subst hil
                        clear hgs
                        go_wp2_with (go_at_call 7; with_reducible refine (told_is _).mono ?_; rintro e w15 ⟨rfl, hb⟩; have HBT := Aside0.mk (thn5 HB4.out hb); clear hb)
                        go_ret
                        exact ⟨rfl, thn5 HBZ.out HBT.out⟩
                      | succ g1 =>
                        have hi : (s : Int) < (ns.length : Int) := by omega
                        have hi0 : 0 ≤ (s : Int) := by omega
                        have HI := Aside0.mk hgs
                        have HI0 := Aside0.mk hi0
                        have hw : wrap64 ((s : Int) + 1) = (s : Int) + 1 := wr64 _ (by omega) (by have := HFL.out; omega)
                        obtain ⟨si, hsi⟩ : ∃ si, shP l (s : Int) l.length = si := ⟨_, rfl⟩
                        have HSI := Aside0.mk hsi
                        have hsp := share_pos (mayT_ring HM.out) HF.out s
                        rw [hsi] at hsp
                        clear hgs hsi
                        obtain ⟨ad6, e6, q1⟩ := Kd.at_int HC6.out (s : Int) hi0 (by have := HLL.out; have := HQL0.out; omega)
                        rw [Int.toNat_natCast] at q1
                        replace q1 := (HB4.out.cell (World.block_lt_of_cell? wq _ q1)).trans q1
                        obtain ⟨ad7, e7, q2⟩ := Kd.at_int HC6.out (hn : Int) (by omega) (by have := HLL.out; have := HQL0.out; have := HHF.out.2.1; omega)
                        cases e6.symm.trans e7
                        cases e6
                        clear e7
                        rw [Int.toNat_natCast] at q2
                        replace q2 := (HB4.out.cell (World.block_lt_of_cell? wq _ q2)).trans q2
                        have hqs := HQD0.out s (by have := HLL.out; omega)
                        have hqh := HQD0.out hn (by have := HLL.out; have := HHF.out.2.1; omega)
                        obtain ⟨x1, hx1⟩ : ∃ x1, YtbkamlkmimfomaaW.PrintWords.rd q (s : Int) = x1 := ⟨_, rfl⟩
                        obtain ⟨x2, hx2⟩ : ∃ x2, YtbkamlkmimfomaaW.PrintWords.rd q (hn : Int) = x2 := ⟨_, rfl⟩
                        have hle : 0 < si → x1 ≤ x2 := fun h => by
                          obtain ⟨x, hxm, hxi⟩ := List.countP_pos_iff.1 (hsp.1 h)
                          have hxi : x.f1 = (s : Int) := of_decide_eq_true hxi
                          have := HHF.out.2.2.2 x hxm rfl
                          rw [hxi, hqs, hqh, hx1, hx2] at this
                          exact this
                        rw [hx1] at q1
                        rw [hx2] at q2
                        have hiI := eq_true hi0
                        have hiJ2 : ((s : Int) < (q.length : Int)) = True := eq_true (by have := HLL.out; have := HQL0.out; omega)
                        have hiK : ((s : Int) < 0) = False := eq_false (by omega)
                        have hjI : (0 ≤ (hn : Int)) = True := eq_true (by omega)
                        have hjJ : ((hn : Int) < (q.length : Int)) = True := eq_true (by have := HLL.out; have := HQL0.out; have := HHF.out.2.1; omega)
                        have hjK : ((hn : Int) < 0) = False := eq_false (by omega)
                        have hjJ2 : decide (hn < q.length) = true := decide_eq_true (by have := HLL.out; have := HQL0.out; have := HHF.out.2.1; omega)
                        have hiJ3 : decide (s < q.length) = true := decide_eq_true (by have := HLL.out; have := HQL0.out; omega)
                        clear hqs hqh hx1 hx2 hsp
                        by_cases hp : 0 < si
                        · have hpd : decide (0 < si) = true := decide_eq_true hp
                          have hxd : decide (x2 < x1) = false := decide_eq_false (by have := hle hp; omega)
                          clear hle hp hi0
                          go_wp2
                          go_region_held3 (fun w' => w'.cell? ⟨g2, 1, none⟩ = some (.slice A1 l.length c1) ∧ w'.cell? (ad6.add s) = some (.int .i64 x1) ∧ w'.cell? (ad6.add hn) = some (.int .i64 x2)) (first | exact ⟨k1, q1, q2⟩ | exact cells3 k1 q1 q2 (below_drew1 (Below.refl _ _)) | exact cells3 k1 q1 q2 HBS.out) ((first
                            | (go_at_call 18; with_reducible refine (Share_is A1 c1 l (s : Int) _ (Kd.C_below HR1.out (thn5 HBZ.out (below_drew1 HB4.out))) HC1.out (mayT_ring HM.out)).mono ?_; rintro e w15 ⟨rfl, hb⟩; have HBS := Aside0.mk (thn5 (below_drew1 (Below.refl _ _)) hb); rw [HSI.out]; clear hb)))
                          go_wp2
                          go_roundg g1
                          case measure => omega
                          case rel => exact ⟨s + 1, by first | rfl | (rw [hw, Int.natCast_add]; rfl), by have := HI.out; omega, ⟨thn5 HB4.out HBS.out⟩⟩
                        · have hpd : decide (0 < si) = false := decide_eq_false hp
                          clear hle hp hi0
                          go_wp2
                          refine start_ (n := 16) (S := fun w' => w'.cell? ⟨g2, 1, none⟩ = some (.slice A1 l.length c1)) (ds := []) #[false, false, false, false, false, false, false, false, false, false, false, false, false, false, false, false] (by kernel_rfl) rfl rfl k1 (fun hHeld => ?_)
                          have HBa := Aside0.mk (below_drew1 HB4.out)
                          clear HB4 k1 k2 q1 q2
                          generalize wr.drew = wc at HBa hHeld ⊢
                          refine pure_ (i := 0) (N := some 160) (v := ?_) (a' := ?_) #[true, false, false, false, false, false, false, false, false, false, false, false, false, false, false, false] rfl rfl (by kernel_rfl) (fun _ _ _ h => h) (Or.inl ⟨by rfl, ?_⟩) ?_ ?_
                          rotate_left
                          · intro w'
                            go_simp
                            with_reducible rfl
                          rotate_left
                          · simp only [Act.put, List.setIfInBounds_toArray, List.set_cons_zero, List.set_cons_succ]
                            rfl
                          refine take_ (i := 1) (N := some 161) (v := ?_) (a' := ?_) #[true, true, false, false, false, false, false, false, false, false, false, false, false, false, false, false] rfl rfl (by kernel_rfl) (fun _ _ _ h => h) (Or.inl ⟨by rfl, ?_⟩) hHeld ?_ ?_
                          rotate_left
                          · intro w' s0
                            go_simp
                            with_reducible rfl
                          rotate_left
                          · simp only [Act.put, List.setIfInBounds_toArray, List.set_cons_zero, List.set_cons_succ]
                            rfl
                          refine pure_ (i := 2) (N := some 162) (v := ?_) (a' := ?_) #[true, true, true, false, false, false, false, false, false, false, false, false, false, false, false, false] rfl rfl (by kernel_rfl) (fun _ _ _ h => h) (Or.inl ⟨by rfl, ?_⟩) ?_ ?_
                          rotate_left
                          · intro w'
                            go_simp
                            with_reducible rfl
                          rotate_left
                          · simp only [Act.put, List.setIfInBounds_toArray, List.set_cons_zero, List.set_cons_succ]
                            rfl
                          refine one_ (i := 3) (N := some 163) #[true, true, true, true, false, false, false, false, false, false, false, false, false, false, false, false] rfl rfl (by kernel_rfl) (by decide) (fun K hK => ?_)
                          refine goes_ Try.func18 (by kernel_rfl) rfl #[.slice A1 l.length c1, .int .i64 (s : Int)] (by rfl) rfl rfl (by (try simp only [List.map_toArray, List.map_cons, List.map_nil]); first | done | rfl) ?_
                          refine (Share_is A1 c1 l (s : Int) _ (Kd.C_below HR1.out (thn5 HBZ.out HBa.out)) HC1.out (mayT_ring HM.out)).mono ?_
                          rintro e wb2 ⟨rfl, hb⟩
                          refine ⟨_, rfl, ?_⟩
                          rw [HSI.out]
                          have HBb := Aside0.mk (thn5 HBa.out hb)
                          have hH2 := (hb.cell (World.block_lt_of_cell? wc _ hHeld)).trans hHeld
                          clear hb hHeld
                          refine hK.out _ _ hH2 (fun hHeld => ?_)
                          clear hK K hH2
                          refine norm_ (a' := ?_) ?_ ?_
                          rotate_left
                          · show Act.put _ (some 163) _ = _
                            simp only [Act.put, List.setIfInBounds_toArray, List.set_cons_zero, List.set_cons_succ]
                            rfl
                          refine pure_ (i := 4) (N := some 164) (v := ?_) (a' := ?_) #[true, true, true, true, true, false, false, false, false, false, false, false, false, false, false, false] rfl rfl (by kernel_rfl) (fun _ _ _ h => h) (Or.inl ⟨by rfl, ?_⟩) ?_ ?_
                          rotate_left
                          · intro w'
                            go_simp
                            with_reducible rfl
                          rotate_left
                          · simp only [Act.put, List.setIfInBounds_toArray, List.set_cons_zero, List.set_cons_succ]
                            rfl
                          refine pure_ (i := 5) (N := some 165) (v := ?_) (a' := ?_) #[true, true, true, true, true, true, false, false, false, false, false, false, false, false, false, false] rfl rfl (by kernel_rfl) (fun _ _ _ h => h) (Or.inl ⟨by rfl, ?_⟩) ?_ ?_
                          rotate_left
                          · intro w'
                            go_simp
                            with_reducible rfl
                          rotate_left
                          · simp only [Act.put, List.setIfInBounds_toArray, List.set_cons_zero, List.set_cons_succ]
                            rfl
                          refine pure_ (i := 6) (N := some 166) (v := undef) (a' := ?_) #[true, true, true, true, true, true, true, false, false, false, false, false, false, false, false, false] rfl rfl (by kernel_rfl) (fun _ _ _ h => h) (Or.inr ⟨by rfl, rfl⟩) ?_ ?_
                          rotate_left
                          · simp only [Act.put, List.setIfInBounds_toArray, List.set_cons_zero, List.set_cons_succ]
                            rfl
                          refine pure_ (i := 7) (N := some 167) (v := undef) (a' := ?_) #[true, true, true, true, true, true, true, true, false, false, false, false, false, false, false, false] rfl rfl (by kernel_rfl) (fun _ _ _ h => h) (Or.inr ⟨by rfl, rfl⟩) ?_ ?_
                          rotate_left
                          · simp only [Act.put, List.setIfInBounds_toArray, List.set_cons_zero, List.set_cons_succ]
                            rfl
                          refine pure_ (i := 8) (N := some 168) (v := undef) (a' := ?_) #[true, true, true, true, true, true, true, true, true, false, false, false, false, false, false, false] rfl rfl (by kernel_rfl) (fun _ _ _ h => h) (Or.inr ⟨by rfl, rfl⟩) ?_ ?_
                          rotate_left
                          · simp only [Act.put, List.setIfInBounds_toArray, List.set_cons_zero, List.set_cons_succ]
                            rfl
                          refine pure_ (i := 9) (N := some 169) (v := undef) (a' := ?_) #[true, true, true, true, true, true, true, true, true, true, false, false, false, false, false, false] rfl rfl (by kernel_rfl) (fun _ _ _ h => h) (Or.inr ⟨by rfl, rfl⟩) ?_ ?_
                          rotate_left
                          · simp only [Act.put, List.setIfInBounds_toArray, List.set_cons_zero, List.set_cons_succ]
                            rfl
                          refine pure_ (i := 10) (N := some 170) (v := undef) (a' := ?_) #[true, true, true, true, true, true, true, true, true, true, true, false, false, false, false, false] rfl rfl (by kernel_rfl) (fun _ _ _ h => h) (Or.inr ⟨by rfl, rfl⟩) ?_ ?_
                          rotate_left
                          · simp only [Act.put, List.setIfInBounds_toArray, List.set_cons_zero, List.set_cons_succ]
                            rfl
                          refine pure_ (i := 11) (N := some 171) (v := undef) (a' := ?_) #[true, true, true, true, true, true, true, true, true, true, true, true, false, false, false, false] rfl rfl (by kernel_rfl) (fun _ _ _ h => h) (Or.inr ⟨by rfl, rfl⟩) ?_ ?_
                          rotate_left
                          · simp only [Act.put, List.setIfInBounds_toArray, List.set_cons_zero, List.set_cons_succ]
                            rfl
                          refine pure_ (i := 12) (N := some 172) (v := undef) (a' := ?_) #[true, true, true, true, true, true, true, true, true, true, true, true, true, false, false, false] rfl rfl (by kernel_rfl) (fun _ _ _ h => h) (Or.inr ⟨by rfl, rfl⟩) ?_ ?_
                          rotate_left
                          · simp only [Act.put, List.setIfInBounds_toArray, List.set_cons_zero, List.set_cons_succ]
                            rfl
                          refine pure_ (i := 13) (N := some 173) (v := undef) (a' := ?_) #[true, true, true, true, true, true, true, true, true, true, true, true, true, true, false, false] rfl rfl (by kernel_rfl) (fun _ _ _ h => h) (Or.inr ⟨by rfl, rfl⟩) ?_ ?_
                          rotate_left
                          · simp only [Act.put, List.setIfInBounds_toArray, List.set_cons_zero, List.set_cons_succ]
                            rfl
                          refine pure_ (i := 14) (N := some 174) (v := undef) (a' := ?_) #[true, true, true, true, true, true, true, true, true, true, true, true, true, true, true, false] rfl rfl (by kernel_rfl) (fun _ _ _ h => h) (Or.inr ⟨by rfl, rfl⟩) ?_ ?_
                          rotate_left
                          · simp only [Act.put, List.setIfInBounds_toArray, List.set_cons_zero, List.set_cons_succ]
                            rfl
                          refine pure_ (i := 15) (N := some 175) (v := ?_) (a' := ?_) #[true, true, true, true, true, true, true, true, true, true, true, true, true, true, true, true] rfl rfl (by kernel_rfl) (fun _ _ _ h => h) (Or.inl ⟨by rfl, ?_⟩) ?_ ?_
                          rotate_left
                          · intro w'
                            go_simp
                            with_reducible rfl
                          rotate_left
                          · simp only [Act.put, List.setIfInBounds_toArray, List.set_cons_zero, List.set_cons_succ]
                            rfl
                          refine done_ (by kernel_rfl) ?_
                          go_wp2
                          go_roundg g1
                          case measure => omega
                          case rel => exact ⟨s + 1, by first | rfl | (rw [hw, Int.natCast_add]; rfl), by have := HI.out; omega, HBb⟩
                  · have hzz : ¬ z.1 = 0 ∨ ¬ z.2 = 0 := by
                      by_cases h1 : z.1 = 0
                      · exact .inr (fun h2 => hz (Prod.ext h1 h2))
                      · exact .inl h1
                    have o1 : (FloatKind.f64.format.order r_ 0 == some .eq && FloatKind.f64.format.order i_ 0 == some .eq) = false := by
                      rw [(eq_iv (io_rd HIC.out.1) iv_zero : _ = decide (z.1 = 0)), (eq_iv (io_rd HIC.out.2) iv_zero : _ = decide (z.2 = 0))]
                      rcases hzz with h | h
                      · rw [decide_eq_false h]; rfl
                      · rw [decide_eq_false h, Bool.and_false]
                    clear hzz
                    go_wp2_with (go_at_call 20; with_reducible refine (spin_is r_ i_ 0 _).mono ?_; rintro e w14 ⟨rfl, hw14⟩; subst hw14)
                    obtain ⟨p0, hp0⟩ : ∃ p0, spin (r_, i_) 0 = p0 := ⟨_, rfl⟩
                    have HP0 : Aside0 (IC (crd p0) (zspin z 0)) := ⟨by rw [← hp0, crd_spin]; exact ic_spin HIC.out 0⟩
                    rw [hp0]
                    clear hp0
                    obtain ⟨wb, hwb⟩ : ∃ wb, wb = w14 := ⟨_, rfl⟩
                    subst hwb
                    go_loopg [14, 15, 16, 17] 3 (fun g v14 v15 v16 v17 wr => ∃ (k r i : Nat) (way : Int), v16 = .int .i64 k ∧ v14 = .complex .f64 r i ∧ v15 = .int .i64 way ∧ 1 ≤ k ∧ g + k = 4 ∧ Aside0 (IC (crd (r, i)) (bestW z k).1 ∧ (bestW z k).2 = way) ∧ Aside0 (Below wq.heap.size wq wr))
                    case atStart => exact ⟨1, p0.1, p0.2, 0, rfl, rfl, rfl, by omega, by omega, ⟨HP0.out, rfl⟩, HB3⟩
                    case round =>
                      obtain ⟨k, r, i, way, rfl, rfl, rfl, hk1, hgk, HBW, HB4⟩ := hrel
                      cases gk with
                      | succ g1 =>
                        obtain ⟨m, rfl⟩ : ∃ m, k = m + 1 := ⟨k - 1, by omega⟩
                        have hk4 : decide (((m + 1 : Nat) : Int) < 4) = true := decide_eq_true (by omega)
                        have hk4' : (((m + 1 : Nat) : Int) < 4) = True := eq_true (by omega)
                        obtain ⟨kI, hkI⟩ : ∃ kI : Int, ((m + 1 : Nat) : Int) = kI := ⟨_, rfl⟩
                        have HKI := Aside0.mk hkI
                        have HI := Aside0.mk hgk
                        have hwn : wrap64 (-kI) = -kI := wr64 _ (by omega) (by omega)
                        have hw : wrap64 (kI + 1) = kI + 1 := wr64 _ (by omega) (by omega)
                        rw [hkI] at hk4 hk4' ⊢
                        obtain ⟨y, hy⟩ : ∃ y, spin (r_, i_) (-kI) = y := ⟨_, rfl⟩
                        have HYE := Aside0.mk hy
                        have HY : Aside0 (IC (crd y) (zspin z (-kI))) := ⟨by rw [← hy, crd_spin]; exact ic_spin HIC.out _⟩
                        have hstep : bestW z (m + 1 + 1) = if (bestW z (m + 1)).1.1 < (zspin z (-kI)).1 then (zspin z (-kI), kI) else bestW z (m + 1) := by rw [← hkI]; rfl
                        have hgt : (FloatKind.f64.format.order y.1 r == some .gt) = decide ((bestW z (m + 1)).1.1 < (zspin z (-kI)).1) := gt_iv (io_rd HY.out.1) (io_rd HBW.out.1.1)
                        obtain ⟨yr, yi⟩ := y
                        clear hkI hy hgk
                        by_cases hlt : (bestW z (m + 1)).1.1 < (zspin z (-kI)).1
                        · rw [decide_eq_true hlt] at hgt
                          have HST : Aside0 (bestW z (m + 1 + 1) = (zspin z (-kI), kI)) := ⟨by rw [hstep, if_pos hlt]⟩
                          clear hstep hlt
                          go_wp2_with (go_at_call 20; with_reducible refine (spin_is r_ i_ (-kI) _).mono ?_; rintro e w14 ⟨rfl, hw14⟩; subst hw14; rw [HYE.out])
                          go_roundg g1
                          case measure => omega
                          case rel => exact ⟨m + 1 + 1, yr, yi, kI, by first | (rw [← HKI.out]; rfl) | (rw [hw, ← HKI.out]; rfl), rfl, rfl, by omega, by have := HI.out; omega, ⟨by rw [HST.out]; exact ⟨HY.out, rfl⟩⟩, HB4⟩
                        · rw [decide_eq_false hlt] at hgt
                          have HST : Aside0 (bestW z (m + 1 + 1) = bestW z (m + 1)) := ⟨by rw [hstep, if_neg hlt]⟩
                          clear hstep hlt
                          go_wp2_with (go_at_call 20; with_reducible refine (spin_is r_ i_ (-kI) _).mono ?_; rintro e w14 ⟨rfl, hw14⟩; subst hw14; rw [HYE.out])
                          go_roundg g1
                          case measure => omega
                          case rel => exact ⟨m + 1 + 1, r, i, way, by first | (rw [← HKI.out]; rfl) | (rw [hw, ← HKI.out]; rfl), rfl, rfl, by omega, by have := HI.out; omega, ⟨by rw [HST.out]; exact HBW.out⟩, HB4⟩
                      | zero =>
                        have hk : k = 4 := by omega
                        subst hk
                        clear hgk hk1
                        obtain ⟨b, hb⟩ : ∃ b, (bestW z 4).1 = b := ⟨_, rfl⟩
                        have HBE := Aside0.mk hb
                        rw [hb] at HBW
                        clear hb
                        obtain ⟨mx, hmi, hmx⟩ := max_iv (io_rd HBW.out.1.2) (iv_neg (io_rd HBW.out.1.2))
                        have hgt : (FloatKind.f64.format.order r mx == some .gt) = decide ((if -b.2 < b.2 then b.2 else -b.2) < b.1) := gt_iv (io_rd HBW.out.1.1) hmi
                        have HMI := Aside0.mk hmi
                        clear hmi
                        obtain ⟨wc, hwc⟩ : ∃ wc, wc = wr := ⟨_, rfl⟩
                        subst hwc
                        go_wp2
                        go_loopg [18, 19] l.length (fun g v18 v19 wr => ∃ (j : Nat), v18 = .int .i64 j ∧ g + j = l.length ∧ Aside0 (Below wq.heap.size wq wr))
                        case atStart => exact ⟨0, rfl, by omega, HB4⟩
                        case round =>
                          obtain ⟨j, rfl, hgj, HB5⟩ := hrel
                          have hX := blk_below HXr.out HB5.out
                          have k1 : wr.cell? ⟨g2, 1, none⟩ = some (.slice A1 l.length c1) := (blk_cell hX 1).trans rfl
                          clear hX
                          cases gk with
                          | zero =>
                            have hi : ¬ ((j : Int) < (l.length : Int)) := by omega
                            have hil : j = l.length := by omega
                            subst hil
                            clear hgj
                            go_wp2_with (go_at_call 7; with_reducible refine (told_is _).mono ?_; rintro e w15 ⟨rfl, hb⟩; have HBT := Aside0.mk (thn5 HB5.out hb); clear hb)
                            go_ret
                            exact ⟨rfl, thn5 HBZ.out HBT.out⟩
                          | succ g1 =>
                            have hi : (j : Int) < (l.length : Int) := by omega
                            have hi0 : 0 ≤ (j : Int) := by omega
                            have HI := Aside0.mk hgj
                            have hw : wrap64 ((j : Int) + 1) = (j : Int) + 1 := wr64 _ (by omega) (by have := HFL.out; omega)
                            obtain ⟨ad, e1, hx0, hx1⟩ := at_T46 HR1.out j hi0 hi
                            cases e1
                            obtain ⟨x, hx⟩ : ∃ x, rd_T46 l (j : Int) = x := ⟨_, rfl⟩
                            have hxm : x ∈ l := by rw [← hx]; exact rdT_mem (by omega)
                            rw [hx, Int.toNat_natCast] at hx0 hx1
                            replace hx0 := ((thn5 HBZ.out HB5.out).cell (World.block_lt_of_cell? w _ hx0)).trans hx0
                            replace hx1 := ((thn5 HBZ.out HB5.out).cell (World.block_lt_of_cell? w _ hx1)).trans hx1
                            have hmf := (mayT_facts HM.out).2.2.2.2.1 x hxm
                            obtain ⟨s, hs⟩ : ∃ s : Nat, x.f1 = (s : Int) := ⟨x.f1.toNat, by omega⟩
                            rw [hs] at hx1 hmf
                            have hsn : s < ns.length := by omega
                            have hqs := HQD0.out s (by have := HLL.out; omega)
                            have hqh := HQD0.out hn (by have := HLL.out; have := HHF.out.2.1; omega)
                            obtain ⟨x1, hx1'⟩ : ∃ x1, YtbkamlkmimfomaaW.PrintWords.rd q (s : Int) = x1 := ⟨_, rfl⟩
                            obtain ⟨x2, hx2'⟩ : ∃ x2, YtbkamlkmimfomaaW.PrintWords.rd q (hn : Int) = x2 := ⟨_, rfl⟩
                            have hle : dirP x.f0 = way → (if -b.2 < b.2 then b.2 else -b.2) < b.1 → x1 ≤ x2 := fun h1 h2 => by
                              have hway : zway z = (bestW z 4).2 := best_way z (by rw [HBE.out]; split at h2 <;> omega) (by rw [HBE.out]; split at h2 <;> omega)
                              have := HHF.out.2.2.2 x hxm (by unfold hotAt; rw [hway, HBW.out.2, decide_eq_true h1, Bool.or_true])
                              rw [hs, hqs, hqh, hx1', hx2'] at this
                              exact this
                            obtain ⟨ad6, e6, q1⟩ := Kd.at_int HC6.out (s : Int) (by omega) (by have := HLL.out; have := HQL0.out; omega)
                            rw [Int.toNat_natCast] at q1
                            replace q1 := (HB5.out.cell (World.block_lt_of_cell? wq _ q1)).trans q1
                            obtain ⟨ad7, e7, q2⟩ := Kd.at_int HC6.out (hn : Int) (by omega) (by have := HLL.out; have := HQL0.out; have := HHF.out.2.1; omega)
                            cases e6.symm.trans e7
                            cases e6
                            clear e7
                            rw [Int.toNat_natCast] at q2
                            replace q2 := (HB5.out.cell (World.block_lt_of_cell? wq _ q2)).trans q2
                            rw [hx1'] at q1
                            rw [hx2'] at q2
                            have hiI2 : (0 ≤ (s : Int)) = True := eq_true (by omega)
                            have hiJ2 : ((s : Int) < (q.length : Int)) = True := eq_true (by have := HLL.out; have := HQL0.out; omega)
                            have hiK2 : ((s : Int) < 0) = False := eq_false (by omega)
                            have hiJ3 : decide (s < q.length) = true := decide_eq_true (by have := HLL.out; have := HQL0.out; omega)
                            have hjI : (0 ≤ (hn : Int)) = True := eq_true (by omega)
                            have hjJ : ((hn : Int) < (q.length : Int)) = True := eq_true (by have := HLL.out; have := HQL0.out; have := HHF.out.2.1; omega)
                            have hjK : ((hn : Int) < 0) = False := eq_false (by omega)
                            have hjJ2 : decide (hn < q.length) = true := decide_eq_true (by have := HLL.out; have := HQL0.out; have := HHF.out.2.1; omega)
                            obtain ⟨f0, hf0⟩ : ∃ f0, x.f0 = f0 := ⟨_, rfl⟩
                            rw [hf0] at hx0 hle
                            obtain ⟨dx, hdx⟩ : ∃ dx, dirP f0 = dx := ⟨_, rfl⟩
                            rw [hdx] at hle
                            have HDX := Aside0.mk hdx
                            clear hx hxm hmf hs hsn hqs hqh hx1' hx2' hf0 hdx hgj hi0
                            by_cases hd : dx = way
                            · have hdd : ((dx : Int) == way) = true := beq_iff_eq.mpr hd
                              by_cases hr : (if -b.2 < b.2 then b.2 else -b.2) < b.1
                              · rw [decide_eq_true hr] at hgt
                                have hxd : decide (x2 < x1) = false := decide_eq_false (by have := hle hd hr; omega)
                                clear hle hd hr
                                go_wp2
                                go_quiet ((go_at_call 21; (with_reducible refine (Dir_is f0 _).mono ?_); rintro e w' ⟨rfl, ⟨nd, rfl⟩⟩; rw [HDX.out]; (try first | exact ⟨rfl, _, World.drewN_drewN _ _ _⟩ | exact ⟨rfl, _, Eq.trans (World.drewN_drewN _ _ _) (congrArg (World.drewN _) (Nat.add_assoc _ _ _))⟩)))
                                go_wp2
                                go_roundg g1
                                case measure => omega
                                case rel => exact ⟨j + 1, by first | rfl | (rw [hw, Int.natCast_add]; rfl), by have := HI.out; omega, ⟨pw_below_drewN HB5.out nq⟩⟩
                              · rw [decide_eq_false hr] at hgt
                                clear hle hd hr
                                go_wp2
                                go_quiet ((go_at_call 21; (with_reducible refine (Dir_is f0 _).mono ?_); rintro e w' ⟨rfl, ⟨nd, rfl⟩⟩; rw [HDX.out]; (try first | exact ⟨rfl, _, World.drewN_drewN _ _ _⟩ | exact ⟨rfl, _, Eq.trans (World.drewN_drewN _ _ _) (congrArg (World.drewN _) (Nat.add_assoc _ _ _))⟩)))
                                go_wp2
                                go_roundg g1
                                case measure => omega
                                case rel => exact ⟨j + 1, by first | rfl | (rw [hw, Int.natCast_add]; rfl), by have := HI.out; omega, ⟨pw_below_drewN HB5.out nq⟩⟩
                            · have hdd : ((dx : Int) == way) = false := beq_eq_false_iff_ne.mpr hd
                              clear hle hd hgt hmx
                              go_wp2
                              go_quiet ((go_at_call 21; (with_reducible refine (Dir_is f0 _).mono ?_); rintro e w' ⟨rfl, ⟨nd, rfl⟩⟩; rw [HDX.out]; (try first | exact ⟨rfl, _, World.drewN_drewN _ _ _⟩ | exact ⟨rfl, _, Eq.trans (World.drewN_drewN _ _ _) (congrArg (World.drewN _) (Nat.add_assoc _ _ _))⟩)))
                              go_wp2
                              go_roundg g1
                              case measure => omega
                              case rel => exact ⟨j + 1, by first | rfl | (rw [hw, Int.natCast_add]; rfl), by have := HI.out; omega, ⟨pw_below_drewN HB5.out nq⟩⟩
            | succ g1 =>
              have hi : (i : Int) < (ns.length : Int) := by omega
              have hi0 : 0 ≤ (i : Int) := by omega
              have hin : i < ns.length := by omega
              have HI := Aside0.mk hgi
              have HI0 := Aside0.mk hi0
              have hw : wrap64 ((i : Int) + 1) = (i : Int) + 1 := wr64 _ (by omega) (by have := HFL.out; omega)
              have HIN := Aside0.mk hin
              obtain ⟨si, hsi⟩ : ∃ si, shP l (i : Int) l.length = si := ⟨_, rfl⟩
              have HSI := Aside0.mk hsi
              have hsp := share_pos (mayT_ring HM.out) HF.out i
              rw [hsi] at hsp
              clear hgi hsi
              by_cases hp : 0 < si
              · have hcnt : 0 < cntA l i := hsp.1 hp
                have hpd : decide (0 < si) = true := decide_eq_true hp
                clear hsp hp hin hi0
                go_wp2_with (first
                  | (go_at_call 18; with_reducible refine (Share_is A1 c1 l (i : Int) _ (Kd.C_below HR1.out (thn5 HBZ.out HB2.out)) HC1.out (mayT_ring HM.out)).mono ?_; rintro e w12 ⟨rfl, hb⟩; have HBS := Aside0.mk (thn5 HB2.out hb); have HSX := Aside0.mk (blk_below HSS2.out hb); rw [HSI.out]; clear hb k1 k2))
                have k2 : w12.cell? ⟨g2, 2, none⟩ = some (.slice A2 ns.length c2) := (blk_cell (blk_below HXr.out HBS.out) 2).trans rfl
                have hi0 := HI0.out
                have hin := HIN.out
                obtain ⟨x, hxm, hxi⟩ := List.countP_pos_iff.1 hcnt
                have hxi : x.f1 = (i : Int) := of_decide_eq_true hxi
                have hd0 : 0 ≤ YtbkamlkmimfomaaW.PrintWords.rd ns (i : Int) := by rw [← hxi]; exact (mayT_facts HM.out).2.2.2.2.1 x hxm |>.2.2
                have hmem : YtbkamlkmimfomaaW.PrintWords.rd ns (i : Int) ∈ ns := by
                  have e : YtbkamlkmimfomaaW.PrintWords.rd ns (i : Int) = ns[i] := by simp [YtbkamlkmimfomaaW.PrintWords.rd, hin]
                  rw [e]
                  exact List.getElem_mem hin
                have hd4 := ((mayT_facts HM.out).2.2.2.2.2 _ hmem).2
                obtain ⟨ad2, e2, q2⟩ := Kd.at_int HR2.out (i : Int) hi0 hi
                cases e2
                rw [Int.toNat_natCast] at q2
                replace q2 := ((thn5 HBZ.out HBS.out).cell (World.block_lt_of_cell? w _ q2)).trans q2
                obtain ⟨d, hd⟩ : ∃ d : Nat, YtbkamlkmimfomaaW.PrintWords.rd ns (i : Int) = (d : Int) := ⟨_, (Int.toNat_of_nonneg hd0).symm⟩
                rw [hd] at q2 hd4
                have hdn : d < 4 := by omega
                obtain ⟨sd, hsd⟩ : ∃ sd, coldS q ns l i (d : Int) = sd := ⟨_, rfl⟩
                have q7 : w12.cell? ⟨g7, d, none⟩ = some (.int .i64 sd) := by rw [← hsd]; exact (blk_cell HSX.out d).trans (c4_at _ hdn)
                obtain ⟨ad6, e6, q6⟩ := Kd.at_int HC6.out (i : Int) hi0 (by have := HLL.out; have := HQL0.out; omega)
                cases e6
                rw [Int.toNat_natCast] at q6
                replace q6 := (HBS.out.cell (World.block_lt_of_cell? wq _ q6)).trans q6
                obtain ⟨x1, hx1⟩ : ∃ x1, YtbkamlkmimfomaaW.PrintWords.rd q (i : Int) = x1 := ⟨_, rfl⟩
                have hx2 : ldP q (i : Int) = x1 := (HQD0.out i (by have := HLL.out; omega)).trans hx1
                rw [hx1] at q6
                obtain ⟨sx, hsx⟩ : ∃ sx, sd + x1 = sx := ⟨_, rfl⟩
                have hstep : coldS q ns l (i + 1) (d : Int) = sx := by rw [coldS, if_pos ⟨hcnt, hd⟩, hsd, hx2, hsx]
                have HST : Aside0 ((c4 (coldS q ns l i)).setIfInBounds d (.int .i64 sx) = c4 (coldS q ns l (i + 1))) := ⟨by
                  rw [← hstep]
                  refine c4_set _ _ hdn (fun j hj hjd => ?_)
                  rw [coldS, if_neg (fun h => hjd (by have := h.2; omega))]⟩
                have hadd : wrap64 (sd + x1) = sx := by
                  have h1 := coldS_range q ns l (d : Int) i
                  have h2 := ldP_range q (i : Int)
                  have h3 := HFL.out
                  rw [← hsx]
                  exact wr64 _ (by omega) (by omega)
                have hadd2 : IntKind.i64.wrap (sd + x1) = sx := (IntWalk.i64_left _).trans hadd
                have hdI : (0 ≤ (d : Int)) = True := eq_true (by omega)
                have hdJ : ((d : Int) < 4) = True := eq_true (by omega)
                have hdK : ((d : Int) < 0) = False := eq_false (by omega)
                have hiI := eq_true hi0
                have hiJ := eq_true hi
                have hiJ2 : ((i : Int) < (q.length : Int)) = True := eq_true (by have := HLL.out; have := HQL0.out; omega)
                have hiK : ((i : Int) < 0) = False := eq_false (by omega)
                clear hcnt hxm hxi hd0 hmem hd4 hd hsd hx1 hx2 hsx hstep hin
                go_wp2
                refine start_ (n := 19) (S := fun w' => w'.cell? ⟨g2, 2, none⟩ = some (.slice (some ad2) ns.length c2) ∧ w'.cell? (ad2.add i) = some (.int .i64 (d : Int)) ∧ w'.cell? ⟨g7, d, none⟩ = some (.int .i64 sd) ∧ w'.cell? (ad6.add i) = some (.int .i64 x1)) (ds := [18]) #[false, false, false, false, false, false, false, false, false, false, false, false, false, false, false, false, false, false, false] (by kernel_rfl) rfl rfl ⟨k2, q2, q7, q6⟩ (fun hHeld => ?_)
                have HSa := Aside0.mk (blk_drew HSX.out)
                have HBa := Aside0.mk (below_drew1 HBS.out)
                clear HSX HBS k2 q2 q7 q6
                generalize w12.drew = wa at HSa HBa hHeld ⊢
                refine pure_ (i := 0) (N := some 108) (v := ?_) (a' := ?_) #[true, false, false, false, false, false, false, false, false, false, false, false, false, false, false, false, false, false, false] rfl rfl (by kernel_rfl) (fun _ _ _ h => h) (Or.inl ⟨by rfl, ?_⟩) ?_ ?_
                rotate_left
                · intro w'
                  go_simp
                  with_reducible rfl
                rotate_left
                · simp only [Act.put, List.setIfInBounds_toArray, List.set_cons_zero, List.set_cons_succ]
                  rfl
                refine take_ (i := 1) (N := some 109) (v := ?_) (a' := ?_) #[true, true, false, false, false, false, false, false, false, false, false, false, false, false, false, false, false, false, false] rfl rfl (by kernel_rfl) (fun _ _ _ h => h) (Or.inl ⟨by rfl, ?_⟩) hHeld ?_ ?_
                rotate_left
                · rintro w' ⟨s0, s1, s2, s3⟩
                  go_simp
                  with_reducible rfl
                rotate_left
                · simp only [Act.put, List.setIfInBounds_toArray, List.set_cons_zero, List.set_cons_succ]
                  rfl
                refine pure_ (i := 2) (N := some 110) (v := ?_) (a' := ?_) #[true, true, true, false, false, false, false, false, false, false, false, false, false, false, false, false, false, false, false] rfl rfl (by kernel_rfl) (fun _ _ _ h => h) (Or.inl ⟨by rfl, ?_⟩) ?_ ?_
                rotate_left
                · intro w'
                  go_simp
                  with_reducible rfl
                rotate_left
                · simp only [Act.put, List.setIfInBounds_toArray, List.set_cons_zero, List.set_cons_succ]
                  rfl
                refine pure_ (i := 3) (N := some 111) (v := ?_) (a' := ?_) #[true, true, true, true, false, false, false, false, false, false, false, false, false, false, false, false, false, false, false] rfl rfl (by kernel_rfl) (fun _ _ _ h => h) (Or.inl ⟨by rfl, ?_⟩) ?_ ?_
                rotate_left
                · intro w'
                  go_simp
                  with_reducible rfl
                rotate_left
                · simp only [Act.put, List.setIfInBounds_toArray, List.set_cons_zero, List.set_cons_succ]
                  rfl
                refine take_ (i := 4) (N := some 112) (v := ?_) (a' := ?_) #[true, true, true, true, true, false, false, false, false, false, false, false, false, false, false, false, false, false, false] rfl rfl (by kernel_rfl) (fun _ _ _ h => h) (Or.inl ⟨by rfl, ?_⟩) hHeld ?_ ?_
                rotate_left
                · rintro w' ⟨s0, s1, s2, s3⟩
                  go_simp
                  with_reducible rfl
                rotate_left
                · simp only [Act.put, List.setIfInBounds_toArray, List.set_cons_zero, List.set_cons_succ]
                  rfl
                refine pure_ (i := 5) (N := some 113) (v := ?_) (a' := ?_) #[true, true, true, true, true, true, false, false, false, false, false, false, false, false, false, false, false, false, false] rfl rfl (by kernel_rfl) (fun _ _ _ h => h) (Or.inl ⟨by rfl, ?_⟩) ?_ ?_
                rotate_left
                · intro w'
                  go_simp
                  with_reducible rfl
                rotate_left
                · simp only [Act.put, List.setIfInBounds_toArray, List.set_cons_zero, List.set_cons_succ]
                  rfl
                refine take_ (i := 6) (N := some 114) (v := ?_) (a' := ?_) #[true, true, true, true, true, true, true, false, false, false, false, false, false, false, false, false, false, false, false] rfl rfl (by kernel_rfl) (fun _ _ _ h => h) (Or.inl ⟨by rfl, ?_⟩) hHeld ?_ ?_
                rotate_left
                · rintro w' ⟨s0, s1, s2, s3⟩
                  go_simp
                  with_reducible rfl
                rotate_left
                · simp only [Act.put, List.setIfInBounds_toArray, List.set_cons_zero, List.set_cons_succ]
                  rfl
                refine pure_ (i := 7) (N := some 115) (v := ?_) (a' := ?_) #[true, true, true, true, true, true, true, true, false, false, false, false, false, false, false, false, false, false, false] rfl rfl (by kernel_rfl) (fun _ _ _ h => h) (Or.inl ⟨by rfl, ?_⟩) ?_ ?_
                rotate_left
                · intro w'
                  go_simp
                  with_reducible rfl
                rotate_left
                · simp only [Act.put, List.setIfInBounds_toArray, List.set_cons_zero, List.set_cons_succ]
                  rfl
                refine pure_ (i := 8) (N := some 116) (v := ?_) (a' := ?_) #[true, true, true, true, true, true, true, true, true, false, false, false, false, false, false, false, false, false, false] rfl rfl (by kernel_rfl) (fun _ _ _ h => h) (Or.inl ⟨by rfl, ?_⟩) ?_ ?_
                rotate_left
                · intro w'
                  go_simp
                  with_reducible rfl
                rotate_left
                · simp only [Act.put, List.setIfInBounds_toArray, List.set_cons_zero, List.set_cons_succ]
                  rfl
                refine take_ (i := 9) (N := some 117) (v := ?_) (a' := ?_) #[true, true, true, true, true, true, true, true, true, true, false, false, false, false, false, false, false, false, false] rfl rfl (by kernel_rfl) (fun _ _ _ h => h) (Or.inl ⟨by rfl, ?_⟩) hHeld ?_ ?_
                rotate_left
                · rintro w' ⟨s0, s1, s2, s3⟩
                  go_simp
                  with_reducible rfl
                rotate_left
                · simp only [Act.put, List.setIfInBounds_toArray, List.set_cons_zero, List.set_cons_succ]
                  rfl
                refine pure_ (i := 10) (N := some 118) (v := ?_) (a' := ?_) #[true, true, true, true, true, true, true, true, true, true, true, false, false, false, false, false, false, false, false] rfl rfl (by kernel_rfl) (fun _ _ _ h => h) (Or.inl ⟨by rfl, ?_⟩) ?_ ?_
                rotate_left
                · intro w'
                  go_simp
                  with_reducible rfl
                rotate_left
                · simp only [Act.put, List.setIfInBounds_toArray, List.set_cons_zero, List.set_cons_succ]
                  rfl
                refine take_ (i := 11) (N := some 119) (v := ?_) (a' := ?_) #[true, true, true, true, true, true, true, true, true, true, true, true, false, false, false, false, false, false, false] rfl rfl (by kernel_rfl) (fun _ _ _ h => h) (Or.inl ⟨by rfl, ?_⟩) hHeld ?_ ?_
                rotate_left
                · rintro w' ⟨s0, s1, s2, s3⟩
                  go_simp
                  with_reducible rfl
                rotate_left
                · simp only [Act.put, List.setIfInBounds_toArray, List.set_cons_zero, List.set_cons_succ]
                  rfl
                refine pure_ (i := 12) (N := some 120) (v := ?_) (a' := ?_) #[true, true, true, true, true, true, true, true, true, true, true, true, true, false, false, false, false, false, false] rfl rfl (by kernel_rfl) (fun _ _ _ h => h) (Or.inl ⟨by rfl, ?_⟩) ?_ ?_
                rotate_left
                · intro w'
                  go_simp
                  with_reducible rfl
                rotate_left
                · simp only [Act.put, List.setIfInBounds_toArray, List.set_cons_zero, List.set_cons_succ]
                  rfl
                refine pure_ (i := 13) (N := some 121) (v := ?_) (a' := ?_) #[true, true, true, true, true, true, true, true, true, true, true, true, true, true, false, false, false, false, false] rfl rfl (by kernel_rfl) (fun _ _ _ h => h) (Or.inl ⟨by rfl, ?_⟩) ?_ ?_
                rotate_left
                · intro w'
                  go_simp
                  with_reducible rfl
                rotate_left
                · simp only [Act.put, List.setIfInBounds_toArray, List.set_cons_zero, List.set_cons_succ]
                  rfl
                refine pure_ (i := 14) (N := some 122) (v := ?_) (a' := ?_) #[true, true, true, true, true, true, true, true, true, true, true, true, true, true, true, false, false, false, false] rfl rfl (by kernel_rfl) (fun _ _ _ h => h) (Or.inl ⟨by rfl, ?_⟩) ?_ ?_
                rotate_left
                · intro w'
                  go_simp
                  with_reducible rfl
                rotate_left
                · simp only [Act.put, List.setIfInBounds_toArray, List.set_cons_zero, List.set_cons_succ]
                  rfl
                refine take_ (i := 15) (N := some 123) (v := ?_) (a' := ?_) #[true, true, true, true, true, true, true, true, true, true, true, true, true, true, true, true, false, false, false] rfl rfl (by kernel_rfl) (fun _ _ _ h => h) (Or.inl ⟨by rfl, ?_⟩) hHeld ?_ ?_
                rotate_left
                · rintro w' ⟨s0, s1, s2, s3⟩
                  go_simp
                  with_reducible rfl
                rotate_left
                · simp only [Act.put, List.setIfInBounds_toArray, List.set_cons_zero, List.set_cons_succ]
                  rfl
                refine pure_ (i := 16) (N := some 124) (v := ?_) (a' := ?_) #[true, true, true, true, true, true, true, true, true, true, true, true, true, true, true, true, true, false, false] rfl rfl (by kernel_rfl) (fun _ _ _ h => h) (Or.inl ⟨by rfl, ?_⟩) ?_ ?_
                rotate_left
                · intro w'
                  go_simp
                  with_reducible rfl
                rotate_left
                · simp only [Act.put, List.setIfInBounds_toArray, List.set_cons_zero, List.set_cons_succ]
                  rfl
                refine pure_ (i := 17) (N := some 125) (v := ?_) (a' := ?_) #[true, true, true, true, true, true, true, true, true, true, true, true, true, true, true, true, true, true, false] rfl rfl (by kernel_rfl) (fun _ _ _ h => h) (Or.inl ⟨by rfl, ?_⟩) ?_ ?_
                rotate_left
                · intro w'
                  go_simp
                  with_reducible rfl
                rotate_left
                · simp only [Act.put, List.setIfInBounds_toArray, List.set_cons_zero, List.set_cons_succ]
                  rfl
                refine last_ (i := 18) (N := none) #[true, true, true, true, true, true, true, true, true, true, true, true, true, true, true, true, true, true, true] rfl rfl (by kernel_rfl) (by decide) (fun K hK => ?_)
                have hff : wa.frozen? ⟨g7, d, none⟩ = false := blk_frozen HSa.out d
                have hfc := hHeld.2.2.1
                refine store_last_step (w1 := wa.setCell ⟨g7, d, none⟩ (.int .i64 sx)) rfl rfl (by first | (go_simp; done) | (go_simp; rfl)) ?_
                have HS9 := Aside0.mk (blk_put HSa.out d (.int .i64 sx) HST.out)
                have HB9 := Aside0.mk (below_set (j := d) (v := .int .i64 sx) HBa.out HG0.out)
                clear hfc hff
                refine hK.out _ _ ?_
                clear hK K
                refine done_ (by kernel_rfl) ?_
                clear hHeld HSa HBa
                go_wp2
                go_roundg g1
                case measure => omega
                case rel => exact ⟨i + 1, by first | rfl | (rw [hw, Int.natCast_add]; rfl), by have := HI.out; omega, HS9, HB9⟩
              · have hcnt : ¬ 0 < cntA l i := fun h => hp (hsp.2 h)
                have hpd : decide (0 < si) = false := decide_eq_false hp
                have HST : Aside0 (c4 (coldS q ns l (i + 1)) = c4 (coldS q ns l i)) := ⟨by
                  have e : coldS q ns l (i + 1) = coldS q ns l i := by
                    funext d
                    rw [coldS, if_neg (fun h => hcnt h.1)]
                  rw [e]⟩
                clear hsp hp hin hcnt
                go_wp2_with (first
                  | (go_at_call 18; with_reducible refine (Share_is A1 c1 l (i : Int) _ (Kd.C_below HR1.out (thn5 HBZ.out HB2.out)) HC1.out (mayT_ring HM.out)).mono ?_; rintro e w12 ⟨rfl, hb⟩; have HBS := Aside0.mk (thn5 HB2.out hb); have HSX := Aside0.mk (blk_below HSS2.out hb); rw [HSI.out]; clear hb k1 k2))
                go_roundg g1
                case measure => omega
                case rel => exact ⟨i + 1, by first | rfl | (rw [hw, Int.natCast_add]; rfl), by have := HI.out; omega, ⟨by rw [HST.out]; exact HSX.out⟩, HBS⟩
        | succ g1 =>
          have hi : (i : Int) < (loads.length : Int) := by omega
          have hi0 : 0 ≤ (i : Int) := by omega
          have hin : i < loads.length := by omega
          obtain ⟨ad, e1, q1⟩ := Kd.at_int HR3.out (i : Int) hi0 hi
          cases e1
          rw [Int.toNat_natCast] at q1
          replace q1 := ((thn5 HB4.out HBR.out).cell (World.block_lt_of_cell? w _ q1)).trans q1
          obtain ⟨x, hx⟩ : ∃ x, YtbkamlkmimfomaaW.PrintWords.rd loads (i : Int) = x := ⟨_, rfl⟩
          have HY : Aside0 (loads[i]? = some x) := ⟨by rw [← hx]; simp [YtbkamlkmimfomaaW.PrintWords.rd, hin]⟩
          rw [hx] at q1
          have HI := Aside0.mk hgi
          have HN := Aside0.mk hin
          have hw : wrap64 ((i : Int) + 1) = (i : Int) + 1 := wr64 _ (by omega) (by have := HLL.out; omega)
          clear hgi hx hin
          go_wp2_with (first
            | (at_builtin; refine Kd.R_append (Kd.int .i64) (w0 := w4) w4.heap.size rfl (.tmp 48) (.tmp 56) 23 3 (.int .i64 0) 8 rfl Try.underlying23 (by kernel_rfl) rfl (by decide) (by omega) u5 ((loads.take i).map umL) (umL x) [.int .i64 (umL x)] (fun _ => True) (fun _ => False) rfl rfl ?aP (fun _ hk => hk.elim) ?aF HRR.out HBR.out HBR.out.size ?aL ?_; (case aP => rfl); (case aF => exact fun _ _ => trivial); (case aL => rw [List.length_map, List.length_take]; have := HLL.out; have := HN.out; omega); intro v1 w5 ho hb hg_ hat_; have HRA := Aside0.mk ho; have HBA := Aside0.mk hb; clear ho hb hg_ hat_))
          go_roundg g1
          case measure => omega
          case rel => exact ⟨i + 1, by first | rfl | (rw [hw, Int.natCast_add]; rfl), by have := HI.out; omega, ⟨by rw [map_snoc _ _ _ _ HY.out]; exact HRA.out⟩, HBA⟩
end Go.Proofs.Ytbkamlkmimfomaa
