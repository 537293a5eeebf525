/-
  What is cold: the contract of plan.Cold.
  Conditions: none.
-/
import Derived.Test.YtbkamlkmimfomaaPh
namespace Go.Proofs.Ytbkamlkmimfomaa
open Go.RowKit Go.Proofs.YtbkamlkmimfomaaW.PrintWords Go.Proofs.YtbkamlkmimfomaaW.PrintLast Go.Proofs.YtbkamlkmimfomaaFl Go.Proofs.YtbkamlkmimfomaaG Go.Proofs.YtbkamlkmimfomaaIv Go.Proofs.Ytbkamlkmimfomaa.PGa
set_option linter.unusedVariables false
set_option linter.unusedSimpArgs false

/-- A node's load, of the first i shards. -/
def coldS (loads ns : List Int) (l : List S46) : Nat → Int → Int
  | 0, _ => 0
  | i + 1, d => if 0 < cntA l i ∧ YtbkamlkmimfomaaW.PrintWords.rd ns (i : Int) = d then coldS loads ns l i d + ldP loads (i : Int) else coldS loads ns l i d
theorem coldS_range (loads ns : List Int) (l : List S46) (d : Int) : ∀ i : Nat, 0 ≤ coldS loads ns l i d ∧ coldS loads ns l i d ≤ (i : Int) * 1073741824
  | 0 => ⟨Int.le_refl _, by unfold coldS; omega⟩
  | i + 1 => by
    have h := coldS_range loads ns l d i
    have h2 := ldP_range loads (i : Int)
    unfold coldS
    split <;> omega
/-- The first of the least, among the first i. -/
def coldBest (S : Int → Int) : Nat → Nat
  | 0 => 0
  | i + 1 => if S (i : Int) < S (coldBest S i : Nat) then i else coldBest S i
theorem coldBest_le (S : Int → Int) : ∀ i, coldBest S i ≤ i - 1
  | 0 => Nat.le_refl _
  | i + 1 => by
    have := coldBest_le S i
    unfold coldBest
    split <;> omega
def coldP (ep : Int) (l : List S46) (ns loads : List Int) (nodes : Int) : Int := if mayT ep l ns = true ∧ 1 ≤ nodes ∧ nodes ≤ 4 then (coldBest (coldS loads ns l ns.length) nodes.toNat : Nat) else -1
abbrev c4 (S : Int → Int) : Array Value := #[.int .i64 (S 0), .int .i64 (S 1), .int .i64 (S 2), .int .i64 (S 3)]
theorem c4_at (S : Int → Int) {i : Nat} (h : i < 4) : (c4 S)[i]? = some (.int .i64 (S (i : Int))) := by
  rcases i with _ | _ | _ | _ | i
  · rfl
  · rfl
  · rfl
  · rfl
  · omega
theorem c4_set (S S' : Int → Int) {d : Nat} (hd : d < 4) (h : ∀ j : Nat, j < 4 → j ≠ d → S' (j : Int) = S (j : Int)) : (c4 S).setIfInBounds d (.int .i64 (S' (d : Int))) = c4 S' := by
  have h0 : 0 < 4 → 0 ≠ d → S' 0 = S 0 := h 0
  have h1 : 1 < 4 → 1 ≠ d → S' 1 = S 1 := h 1
  have h2 : 2 < 4 → 2 ≠ d → S' 2 = S 2 := h 2
  have h3 : 3 < 4 → 3 ≠ d → S' 3 = S 3 := h 3
  unfold c4
  rcases d with _ | _ | _ | _ | d
  · rw [← h1 (by decide) (by decide), ← h2 (by decide) (by decide), ← h3 (by decide) (by decide)]; rfl
  · rw [← h0 (by decide) (by decide), ← h2 (by decide) (by decide), ← h3 (by decide) (by decide)]; rfl
  · rw [← h0 (by decide) (by decide), ← h1 (by decide) (by decide), ← h3 (by decide) (by decide)]; rfl
  · rw [← h0 (by decide) (by decide), ← h1 (by decide) (by decide), ← h2 (by decide) (by decide)]; rfl
  · omega
set_option maxHeartbeats 8000000 in
set_option maxRecDepth 100000 in
theorem Cold_is (ep : Int) (A1 : Option Addr) (c1 : Nat) (l : List S46) (A2 : Option Addr) (c2 : Nat) (ns : List Int) (A3 : Option Addr) (c3 : Nat) (loads : List Int) (nodes : Int) (w : World) (hr1 : Kd.C k46 w A1 l.length l) (hc1 : l.length ≤ c1) (hr2 : Kd.C (Kd.int .i64) w A2 ns.length ns) (hc2 : ns.length ≤ c2) (hr3 : Kd.C (Kd.int .i64) w A3 loads.length loads) (hc3 : loads.length ≤ c3) :
    Calls Try.prog 15 #[.agg (cT ep A1 l.length c1 A2 ns.length c2), .slice A3 loads.length c3, .int .i64 nodes] w fun e w' => e = .returned (.int .i64 (coldP ep l ns loads nodes)) ∧ Below w.heap.size w w' := by
  have HR1 := Aside0.mk hr1
  have HC1 := Aside0.mk hc1
  have HR2 := Aside0.mk hr2
  have HC2 := Aside0.mk hc2
  have HR3 := Aside0.mk hr3
  have HC3 := Aside0.mk hc3
  have hu := Try.underlying25
  have hu46 := Try.underlying46
  have hu28 := Try.underlying28
  clear hr1 hc1 hr2 hc2 hr3 hc3
  cases hm : mayT ep l ns with
  | false =>
    have HM := Aside0.mk hm
    have HV : Aside0 (coldP ep l ns loads nodes = -1) := ⟨if_neg (by rw [hm]; exact fun h => by cases h.1)⟩
    clear hm
    go_enter Try.func15, Try.ntmps15
    go_wp2_with (first
      | ((with_reducible refine gate_dst (N := 3) rfl ?_); refine box_event ?hg (N := 3) ?hd (cs := cT ep A1 l.length c1 A2 ns.length c2) (t := 25) ?hr ?_; (case hd => rfl); (case hg => rfl); (case hr => first | (go_simp; done) | (go_simp; rfl)); intro g2 hg w2 hbox hb; have HB := Aside0.mk hb; have HX := Aside0.mk hbox; have h0 : w2.cell? ⟨g2, 0, none⟩ = some (.int .i64 ep) := (blk_cell hbox 0).trans rfl; have h1 : w2.cell? ⟨g2, 1, none⟩ = some (.slice A1 l.length c1) := (blk_cell hbox 1).trans rfl; have h2 : w2.cell? ⟨g2, 2, none⟩ = some (.slice A2 ns.length c2) := (blk_cell hbox 2).trans rfl; clear hb hbox hg)
      | (go_at_call 17; with_reducible refine (May_is ep A1 c1 l A2 c2 ns _ (Kd.C_below HR1.out HB.out) HC1.out (Kd.C_below HR2.out HB.out) HC2.out).mono ?_; rintro e w3 ⟨rfl, hb⟩; have HB3 := Aside0.mk (thn5 HB.out hb); have HX3 := Aside0.mk (blk_below HX.out hb); have k0 : w3.cell? ⟨g2, 0, none⟩ = some (.int .i64 ep) := (blk_cell HX3.out 0).trans rfl; have k1 : w3.cell? ⟨g2, 1, none⟩ = some (.slice A1 l.length c1) := (blk_cell HX3.out 1).trans rfl; have k2 : w3.cell? ⟨g2, 2, none⟩ = some (.slice A2 ns.length c2) := (blk_cell HX3.out 2).trans rfl; clear hb; rw [HM.out]))
    go_ret
    exact ⟨by rw [HV.out]; rfl, HB3.out⟩
  | true =>
    have HM := Aside0.mk hm
    by_cases n1 : nodes < 1
    · have HV : Aside0 (coldP ep l ns loads nodes = -1) := ⟨if_neg (fun h => by omega)⟩
      have d1 : decide (nodes < 1) = true := decide_eq_true n1
      clear hm n1
      go_enter Try.func15, Try.ntmps15
      go_wp2_with (first
      | ((with_reducible refine gate_dst (N := 3) rfl ?_); refine box_event ?hg (N := 3) ?hd (cs := cT ep A1 l.length c1 A2 ns.length c2) (t := 25) ?hr ?_; (case hd => rfl); (case hg => rfl); (case hr => first | (go_simp; done) | (go_simp; rfl)); intro g2 hg w2 hbox hb; have HB := Aside0.mk hb; have HX := Aside0.mk hbox; have h0 : w2.cell? ⟨g2, 0, none⟩ = some (.int .i64 ep) := (blk_cell hbox 0).trans rfl; have h1 : w2.cell? ⟨g2, 1, none⟩ = some (.slice A1 l.length c1) := (blk_cell hbox 1).trans rfl; have h2 : w2.cell? ⟨g2, 2, none⟩ = some (.slice A2 ns.length c2) := (blk_cell hbox 2).trans rfl; clear hb hbox hg)
      | (go_at_call 17; with_reducible refine (May_is ep A1 c1 l A2 c2 ns _ (Kd.C_below HR1.out HB.out) HC1.out (Kd.C_below HR2.out HB.out) HC2.out).mono ?_; rintro e w3 ⟨rfl, hb⟩; have HB3 := Aside0.mk (thn5 HB.out hb); have HX3 := Aside0.mk (blk_below HX.out hb); have k0 : w3.cell? ⟨g2, 0, none⟩ = some (.int .i64 ep) := (blk_cell HX3.out 0).trans rfl; have k1 : w3.cell? ⟨g2, 1, none⟩ = some (.slice A1 l.length c1) := (blk_cell HX3.out 1).trans rfl; have k2 : w3.cell? ⟨g2, 2, none⟩ = some (.slice A2 ns.length c2) := (blk_cell HX3.out 2).trans rfl; clear hb; rw [HM.out]))
      go_ret
      exact ⟨by rw [HV.out]; rfl, HB3.out⟩
    by_cases n2 : 4 < nodes
    · have HV : Aside0 (coldP ep l ns loads nodes = -1) := ⟨if_neg (fun h => by omega)⟩
      have d1 : decide (nodes < 1) = false := decide_eq_false n1
      have d2 : decide (4 < nodes) = true := decide_eq_true n2
      clear hm n1 n2
      go_enter Try.func15, Try.ntmps15
      go_wp2_with (first
      | ((with_reducible refine gate_dst (N := 3) rfl ?_); refine box_event ?hg (N := 3) ?hd (cs := cT ep A1 l.length c1 A2 ns.length c2) (t := 25) ?hr ?_; (case hd => rfl); (case hg => rfl); (case hr => first | (go_simp; done) | (go_simp; rfl)); intro g2 hg w2 hbox hb; have HB := Aside0.mk hb; have HX := Aside0.mk hbox; have h0 : w2.cell? ⟨g2, 0, none⟩ = some (.int .i64 ep) := (blk_cell hbox 0).trans rfl; have h1 : w2.cell? ⟨g2, 1, none⟩ = some (.slice A1 l.length c1) := (blk_cell hbox 1).trans rfl; have h2 : w2.cell? ⟨g2, 2, none⟩ = some (.slice A2 ns.length c2) := (blk_cell hbox 2).trans rfl; clear hb hbox hg)
      | (go_at_call 17; with_reducible refine (May_is ep A1 c1 l A2 c2 ns _ (Kd.C_below HR1.out HB.out) HC1.out (Kd.C_below HR2.out HB.out) HC2.out).mono ?_; rintro e w3 ⟨rfl, hb⟩; have HB3 := Aside0.mk (thn5 HB.out hb); have HX3 := Aside0.mk (blk_below HX.out hb); have k0 : w3.cell? ⟨g2, 0, none⟩ = some (.int .i64 ep) := (blk_cell HX3.out 0).trans rfl; have k1 : w3.cell? ⟨g2, 1, none⟩ = some (.slice A1 l.length c1) := (blk_cell HX3.out 1).trans rfl; have k2 : w3.cell? ⟨g2, 2, none⟩ = some (.slice A2 ns.length c2) := (blk_cell HX3.out 2).trans rfl; clear hb; rw [HM.out]))
      go_ret
      exact ⟨by rw [HV.out]; rfl, HB3.out⟩
    obtain ⟨N, rfl⟩ : ∃ N : Nat, nodes = (N : Int) := ⟨nodes.toNat, by omega⟩
    have d1 : decide ((N : Int) < 1) = false := decide_eq_false n1
    have d2 : decide (4 < (N : Int)) = false := decide_eq_false n2
    have HV : Aside0 (coldP ep l ns loads (N : Int) = (coldBest (coldS loads ns l ns.length) N : Nat)) := ⟨if_pos ⟨hm, by omega, by omega⟩⟩
    have HNN : Aside0 (1 ≤ N ∧ N ≤ 4) := ⟨by omega⟩
    have HL : Aside0 (1 ≤ l.length ∧ l.length ≤ 1024 ∧ 1 ≤ ns.length ∧ ns.length ≤ 16) := ⟨by have := mayT_facts hm; exact ⟨this.1, this.2.1, this.2.2.1, this.2.2.2.1⟩⟩
    have HXS : Aside0 (∀ x ∈ l, 0 ≤ x.f1 ∧ x.f1 < (ns.length : Int) ∧ 0 ≤ YtbkamlkmimfomaaW.PrintWords.rd ns x.f1) := ⟨(mayT_facts hm).2.2.2.2.1⟩
    have HNS : Aside0 (∀ n ∈ ns, -1 ≤ n ∧ n < 4) := ⟨(mayT_facts hm).2.2.2.2.2⟩
    clear hm n1 n2
    go_enter Try.func15, Try.ntmps15
    go_wp2_with (first
      | ((with_reducible refine gate_dst (N := 3) rfl ?_); refine box_event ?hg (N := 3) ?hd (cs := cT ep A1 l.length c1 A2 ns.length c2) (t := 25) ?hr ?_; (case hd => rfl); (case hg => rfl); (case hr => first | (go_simp; done) | (go_simp; rfl)); intro g2 hg w2 hbox hb; have HB := Aside0.mk hb; have HX := Aside0.mk hbox; have h0 : w2.cell? ⟨g2, 0, none⟩ = some (.int .i64 ep) := (blk_cell hbox 0).trans rfl; have h1 : w2.cell? ⟨g2, 1, none⟩ = some (.slice A1 l.length c1) := (blk_cell hbox 1).trans rfl; have h2 : w2.cell? ⟨g2, 2, none⟩ = some (.slice A2 ns.length c2) := (blk_cell hbox 2).trans rfl; clear hb hbox hg)
      | (go_at_call 17; with_reducible refine (May_is ep A1 c1 l A2 c2 ns _ (Kd.C_below HR1.out HB.out) HC1.out (Kd.C_below HR2.out HB.out) HC2.out).mono ?_; rintro e w3 ⟨rfl, hb⟩; have HB3 := Aside0.mk (thn5 HB.out hb); have HX3 := Aside0.mk (blk_below HX.out hb); have k0 : w3.cell? ⟨g2, 0, none⟩ = some (.int .i64 ep) := (blk_cell HX3.out 0).trans rfl; have k1 : w3.cell? ⟨g2, 1, none⟩ = some (.slice A1 l.length c1) := (blk_cell HX3.out 1).trans rfl; have k2 : w3.cell? ⟨g2, 2, none⟩ = some (.slice A2 ns.length c2) := (blk_cell HX3.out 2).trans rfl; clear hb; rw [HM.out])
      | ((with_reducible refine gate_dst (N := 7) rfl ?_); refine box_event ?hg (N := 7) ?hd (cs := #[.int .i64 0, .int .i64 0, .int .i64 0, .int .i64 0]) (t := 28) ?hr ?_; (case hd => rfl); (case hg => rfl); (case hr => first | (go_simp; done) | (go_simp; rfl)); intro g7 hg w4 hbox hb; have HB4 := Aside0.mk (thn5 HB3.out hb); have HX4 := Aside0.mk (blk_below HX3.out hb); have HS4 := Aside0.mk hbox; have HG7 : Aside0 (g2 ≠ g7) := ⟨by rw [hg]; exact Nat.ne_of_lt (blk_lt HX3.out)⟩; have HG0 : Aside0 (w.heap.size ≤ g7) := ⟨by rw [hg]; exact HB3.out.size⟩; have m0 : w4.cell? ⟨g2, 0, none⟩ = some (.int .i64 ep) := (blk_cell HX4.out 0).trans rfl; have m1 : w4.cell? ⟨g2, 1, none⟩ = some (.slice A1 l.length c1) := (blk_cell HX4.out 1).trans rfl; have m2 : w4.cell? ⟨g2, 2, none⟩ = some (.slice A2 ns.length c2) := (blk_cell HX4.out 2).trans rfl; clear hb hbox hg)
      | (go_at_call 30; with_reducible refine (Arcs_is ep A1 c1 l A2 c2 ns _ (Kd.C_below HR1.out HB4.out) HC1.out (Kd.C_below HR2.out HB4.out) HC2.out HM.out).mono ?_; rintro e w5 ⟨v5, rfl, hv, hb⟩; have HV5 := Aside0.mk hv; have HB5 := Aside0.mk (thn5 HB4.out hb); have HX5 := Aside0.mk (blk_below HX4.out hb); have HS5 := Aside0.mk (blk_below HS4.out hb); have HG4 : Aside0 (g7 < w4.heap.size) := ⟨blk_lt HS4.out⟩; obtain ⟨go, co, rfl, gb, gl, cl, HG⟩ := Kd.R_form HV5.out (by rw [manyP_length]; have := HL.out; omega); rw [manyP_length] at *; have HGO : Aside0 (go ≠ g7) := ⟨by have := HG4.out; omega⟩; clear hb hv gb gl HG cl))
    go_loopg [8, 9, 26] ns.length (fun g v8 v9 v26 wr => ∃ (i : Nat), v26 = .int .i64 i ∧ g + i = ns.length ∧ Aside0 (wr.heap[g7]? = some (.cells (c4 (coldS loads ns l i)) 28 (0, 0))) ∧ Aside0 (Below w.heap.size w wr) ∧ Aside0 (KeepBut w5 wr g7 none))
    case atStart => exact ⟨0, rfl, by omega, ⟨HS5.out⟩, ⟨HB5.out⟩, ⟨KeepBut.refl _ _ _⟩⟩
    case round =>
      obtain ⟨i, rfl, hgi, HSS, HB, HKK⟩ := hrel
      cases gk with
      | zero =>
        have hi : ¬ ((i : Int) < (ns.length : Int)) := by omega
        have hil : i = ns.length := by omega
        subst hil
        clear hgi
        go_wp2
        obtain ⟨wq, hwq⟩ : ∃ wq, wq = wr := ⟨_, rfl⟩
        subst hwq
        obtain ⟨T, hT⟩ : ∃ T, coldS loads ns l ns.length = T := ⟨_, rfl⟩
        rw [hT] at HSS HV
        clear hT
        go_loopg [10, 11, 47] N (fun g v10 v11 v47 w2 => ∃ (i m : Nat), v47 = .int .i64 i ∧ v10 = .int .i64 m ∧ Aside0 (coldBest T i = m) ∧ g + i = N ∧ Aside0 (w2.heap[g7]? = some (.cells (c4 T) 28 (0, 0))) ∧ Aside0 (Below w.heap.size w w2))
        case atStart => exact ⟨0, 0, rfl, rfl, ⟨rfl⟩, by omega, HSS, HB⟩
        case round =>
          obtain ⟨i, m, rfl, rfl, HM2, hgi, HS2, HB2⟩ := hrel
          cases gk with
          | zero =>
            have hi : ¬ ((i : Int) < (N : Int)) := by omega
            have hil : i = N := by omega
            subst hil
            clear hgi
            go_wp2
            go_ret
            exact ⟨by rw [HV.out, HM2.out]; rfl, HB2.out⟩
          | succ g1 =>
            have hi : (i : Int) < (N : Int) := by omega
            have hin : i < 4 := by have := HNN.out; omega
            have hmn : m < 4 := by rw [← HM2.out]; have := coldBest_le T i; omega
            have q1 : wr.cell? ⟨g7, i, none⟩ = some (.int .i64 (T (i : Int))) := (blk_cell HS2.out i).trans (c4_at _ hin)
            have q2 : wr.cell? ⟨g7, m, none⟩ = some (.int .i64 (T (m : Int))) := (blk_cell HS2.out m).trans (c4_at _ hmn)
            obtain ⟨x1, hx1⟩ : ∃ x1, T (i : Int) = x1 := ⟨_, rfl⟩
            obtain ⟨x2, hx2⟩ : ∃ x2, T (m : Int) = x2 := ⟨_, rfl⟩
            have HST : Aside0 (coldBest T (i + 1) = if x1 < x2 then i else m) := ⟨by rw [coldBest, HM2.out, hx1, hx2]⟩
            rw [hx1] at q1
            rw [hx2] at q2
            have HI := Aside0.mk hgi
            have hw : wrap64 ((i : Int) + 1) = (i : Int) + 1 := wr64 _ (by omega) (by omega)
            have i1 : (0 ≤ (i : Int)) = True := eq_true (by omega)
            have i2 : ((i : Int) < 4) = True := eq_true (by omega)
            have i3 : ((i : Int) < 0) = False := eq_false (by omega)
            have m1 : (0 ≤ (m : Int)) = True := eq_true (by omega)
            have m2 : ((m : Int) < 4) = True := eq_true (by omega)
            have m3 : ((m : Int) < 0) = False := eq_false (by omega)
            clear hgi hin hmn hx1 hx2
            by_cases hlt : x1 < x2
            · have HST2 : Aside0 (coldBest T (i + 1) = i) := ⟨by rw [HST.out, if_pos hlt]⟩
              have hld : decide (x1 < x2) = true := decide_eq_true hlt
              clear hlt
              go_wp2
              go_quiet (fail)
              go_wp2
              go_roundg g1
              case measure => omega
              case rel => exact ⟨i + 1, i, by first | rfl | (rw [hw, Int.natCast_add]; rfl), rfl, HST2, by have := HI.out; omega, ⟨blk_drewN HS2.out nq⟩, ⟨pw_below_drewN HB2.out nq⟩⟩
            · have HST2 : Aside0 (coldBest T (i + 1) = m) := ⟨by rw [HST.out, if_neg hlt]⟩
              have hld : decide (x1 < x2) = false := decide_eq_false hlt
              clear hlt
              go_wp2
              go_quiet (fail)
              go_wp2
              go_roundg g1
              case measure => omega
              case rel => exact ⟨i + 1, m, by first | rfl | (rw [hw, Int.natCast_add]; rfl), rfl, HST2, by have := HI.out; omega, ⟨blk_drewN HS2.out nq⟩, ⟨pw_below_drewN HB2.out nq⟩⟩
      | succ g1 =>
        have hi : (i : Int) < (ns.length : Int) := by omega
        have hi0 : 0 ≤ (i : Int) := by omega
        have hin : i < ns.length := by omega
        have hc1 := (Kd.R_celln 0 HV5.out (i : Int) hi0 hi).1
        rw [Int.toNat_natCast] at hc1
        obtain ⟨cn, hcn⟩ : ∃ cn : Int, ((cntA l i : Nat) : Int) = cn := ⟨_, rfl⟩
        have q1 : wr.cell? ⟨go, i, none⟩ = some (.int .i64 cn) := by
          have e : rdOf 0 (manyP ns.length l) (i : Int) = cn := by rw [← hcn]; exact (by simp [rdOf, manyP, hin])
          rw [← e]
          exact keep_cell HKK.out hc1 HGO.out
        have hX := HKK.out.blk HX5.out HG7.out (by simp)
        have k2 : wr.cell? ⟨g2, 2, none⟩ = some (.slice A2 ns.length c2) := (blk_cell hX 2).trans rfl
        clear hX hc1
        have HI := Aside0.mk hgi
        have HI0 := Aside0.mk hi0
        have hw : wrap64 ((i : Int) + 1) = (i : Int) + 1 := wr64 _ (by omega) (by have := HL.out; omega)
        clear hgi
        by_cases hp : 0 < cn
        · have hpd : decide (0 < cn) = true := decide_eq_true hp
          have hcnt : 0 < cntA l i := by omega
          obtain ⟨x, hxm, hxi⟩ := List.countP_pos_iff.1 hcnt
          have hxi : x.f1 = (i : Int) := of_decide_eq_true hxi
          have hd0 : 0 ≤ YtbkamlkmimfomaaW.PrintWords.rd ns (i : Int) := by rw [← hxi]; exact (HXS.out x hxm).2.2
          have hmem : YtbkamlkmimfomaaW.PrintWords.rd ns (i : Int) ∈ ns := by
            have e : YtbkamlkmimfomaaW.PrintWords.rd ns (i : Int) = ns[i] := by simp [YtbkamlkmimfomaaW.PrintWords.rd, hin]
            rw [e]
            exact List.getElem_mem hin
          have hd4 := (HNS.out _ hmem).2
          obtain ⟨ad2, e2, q2⟩ := Kd.at_int HR2.out (i : Int) hi0 hi
          cases e2
          rw [Int.toNat_natCast] at q2
          replace q2 := (HB.out.cell (World.block_lt_of_cell? w _ q2)).trans q2
          obtain ⟨d, hd⟩ : ∃ d : Nat, YtbkamlkmimfomaaW.PrintWords.rd ns (i : Int) = (d : Int) := ⟨_, (Int.toNat_of_nonneg hd0).symm⟩
          rw [hd] at q2 hd4
          have hdn : d < 4 := by omega
          obtain ⟨sd, hsd⟩ : ∃ sd, coldS loads ns l i (d : Int) = sd := ⟨_, rfl⟩
          have q7 : wr.cell? ⟨g7, d, none⟩ = some (.int .i64 sd) := by rw [← hsd]; exact (blk_cell HSS.out d).trans (c4_at _ hdn)
          obtain ⟨x1, hx1⟩ : ∃ x1, ldP loads (i : Int) = x1 := ⟨_, rfl⟩
          have HX1 := Aside0.mk hx1
          obtain ⟨sx, hsx⟩ : ∃ sx, sd + x1 = sx := ⟨_, rfl⟩
          have hstep : coldS loads ns l (i + 1) (d : Int) = sx := by rw [coldS, if_pos ⟨hcnt, hd⟩, hsd, hx1, hsx]
          have HST : Aside0 ((c4 (coldS loads ns l i)).setIfInBounds d (.int .i64 sx) = c4 (coldS loads ns l (i + 1))) := ⟨by
            rw [← hstep]
            refine c4_set _ _ hdn (fun j hj hjd => ?_)
            rw [coldS, if_neg (fun h => hjd (by have := h.2; omega))]⟩
          have hadd : wrap64 (sd + x1) = sx := by
            have h1 := coldS_range loads ns l (d : Int) i
            have h2 := ldP_range loads (i : Int)
            have h3 := HL.out
            rw [← hsx]
            exact wr64 _ (by omega) (by omega)
          have hadd2 : IntKind.i64.wrap (sd + x1) = sx := (IntWalk.i64_left _).trans hadd
          have hdI : (0 ≤ (d : Int)) = True := eq_true (by omega)
          have hdJ : ((d : Int) < 4) = True := eq_true (by omega)
          have hdK : ((d : Int) < 0) = False := eq_false (by omega)
          have hiI := eq_true hi0
          have hiJ := eq_true hi
          have hiK : ((i : Int) < 0) = False := eq_false (by omega)
          have HIN := Aside0.mk hin
          clear hp hcnt hxm hxi hd0 hmem hd4 hd hsd hx1 hsx hstep hcn hin
          go_wp2
          refine start_ (n := 13) (S := fun w' => w'.cell? ⟨g2, 2, none⟩ = some (.slice (some ad2) ns.length c2) ∧ w'.cell? (ad2.add i) = some (.int .i64 (d : Int)) ∧ w'.cell? ⟨g7, d, none⟩ = some (.int .i64 sd)) (ds := [12]) #[false, false, false, false, false, false, false, false, false, false, false, false, false] (by kernel_rfl) rfl rfl ⟨k2, q2, q7⟩ (fun hHeld => ?_)
          have HSa := Aside0.mk (blk_drew HSS.out)
          have HBa := Aside0.mk (below_drew1 HB.out)
          have HKa := Aside0.mk (keep_drew HKK.out)
          clear HSS HB HKK k2 q2 q7 q1
          generalize wr.drew = wa at HSa HBa HKa hHeld ⊢
          refine pure_ (i := 0) (N := some 33) (v := ?_) (a' := ?_) #[true, false, false, false, false, false, false, false, false, false, false, false, false] rfl rfl (by kernel_rfl) (fun _ _ _ h => h) (Or.inl ⟨by rfl, ?_⟩) ?_ ?_
          rotate_left
          · intro w'
            go_simp
            with_reducible rfl
          rotate_left
          · simp only [Act.put, List.setIfInBounds_toArray, List.set_cons_zero, List.set_cons_succ]
            rfl
          refine take_ (i := 1) (N := some 34) (v := ?_) (a' := ?_) #[true, true, false, false, false, false, false, false, false, false, false, false, false] rfl rfl (by kernel_rfl) (fun _ _ _ h => h) (Or.inl ⟨by rfl, ?_⟩) hHeld ?_ ?_
          rotate_left
          · rintro w' ⟨s0, s1, s2⟩
            go_simp
            with_reducible rfl
          rotate_left
          · simp only [Act.put, List.setIfInBounds_toArray, List.set_cons_zero, List.set_cons_succ]
            rfl
          refine pure_ (i := 2) (N := some 35) (v := ?_) (a' := ?_) #[true, true, true, false, false, false, false, false, false, false, false, false, false] rfl rfl (by kernel_rfl) (fun _ _ _ h => h) (Or.inl ⟨by rfl, ?_⟩) ?_ ?_
          rotate_left
          · intro w'
            go_simp
            with_reducible rfl
          rotate_left
          · simp only [Act.put, List.setIfInBounds_toArray, List.set_cons_zero, List.set_cons_succ]
            rfl
          refine pure_ (i := 3) (N := some 36) (v := ?_) (a' := ?_) #[true, true, true, true, false, false, false, false, false, false, false, false, false] rfl rfl (by kernel_rfl) (fun _ _ _ h => h) (Or.inl ⟨by rfl, ?_⟩) ?_ ?_
          rotate_left
          · intro w'
            go_simp
            with_reducible rfl
          rotate_left
          · simp only [Act.put, List.setIfInBounds_toArray, List.set_cons_zero, List.set_cons_succ]
            rfl
          refine take_ (i := 4) (N := some 37) (v := ?_) (a' := ?_) #[true, true, true, true, true, false, false, false, false, false, false, false, false] rfl rfl (by kernel_rfl) (fun _ _ _ h => h) (Or.inl ⟨by rfl, ?_⟩) hHeld ?_ ?_
          rotate_left
          · rintro w' ⟨s0, s1, s2⟩
            go_simp
            with_reducible rfl
          rotate_left
          · simp only [Act.put, List.setIfInBounds_toArray, List.set_cons_zero, List.set_cons_succ]
            rfl
          refine pure_ (i := 5) (N := some 38) (v := ?_) (a' := ?_) #[true, true, true, true, true, true, false, false, false, false, false, false, false] rfl rfl (by kernel_rfl) (fun _ _ _ h => h) (Or.inl ⟨by rfl, ?_⟩) ?_ ?_
          rotate_left
          · intro w'
            go_simp
            with_reducible rfl
          rotate_left
          · simp only [Act.put, List.setIfInBounds_toArray, List.set_cons_zero, List.set_cons_succ]
            rfl
          refine take_ (i := 6) (N := some 39) (v := ?_) (a' := ?_) #[true, true, true, true, true, true, true, false, false, false, false, false, false] rfl rfl (by kernel_rfl) (fun _ _ _ h => h) (Or.inl ⟨by rfl, ?_⟩) hHeld ?_ ?_
          rotate_left
          · rintro w' ⟨s0, s1, s2⟩
            go_simp
            with_reducible rfl
          rotate_left
          · simp only [Act.put, List.setIfInBounds_toArray, List.set_cons_zero, List.set_cons_succ]
            rfl
          refine pure_ (i := 7) (N := some 40) (v := ?_) (a' := ?_) #[true, true, true, true, true, true, true, true, false, false, false, false, false] rfl rfl (by kernel_rfl) (fun _ _ _ h => h) (Or.inl ⟨by rfl, ?_⟩) ?_ ?_
          rotate_left
          · intro w'
            go_simp
            with_reducible rfl
          rotate_left
          · simp only [Act.put, List.setIfInBounds_toArray, List.set_cons_zero, List.set_cons_succ]
            rfl
          refine pure_ (i := 8) (N := some 41) (v := ?_) (a' := ?_) #[true, true, true, true, true, true, true, true, true, false, false, false, false] rfl rfl (by kernel_rfl) (fun _ _ _ h => h) (Or.inl ⟨by rfl, ?_⟩) ?_ ?_
          rotate_left
          · intro w'
            go_simp
            with_reducible rfl
          rotate_left
          · simp only [Act.put, List.setIfInBounds_toArray, List.set_cons_zero, List.set_cons_succ]
            rfl
          refine one_ (i := 9) (N := some 42) #[true, true, true, true, true, true, true, true, true, true, false, false, false] rfl rfl (by kernel_rfl) (by decide) (fun K hK => ?_)
          refine goes_ Try.func32 (by kernel_rfl) rfl #[.slice A3 loads.length c3, .int .i64 (i : Int)] (by rfl) rfl rfl (by (try simp only [List.map_toArray, List.map_cons, List.map_nil]); first | done | rfl) ?_
          refine (Load_is A3 c3 loads (i : Int) _ (Kd.C_below HR3.out HBa.out) HC3.out HI0.out).mono ?_
          rintro e wb ⟨rfl, ⟨nb, hwb⟩⟩
          refine ⟨_, rfl, ?_⟩
          rw [HX1.out]
          have hbb : Below wa.heap.size wa wb := by rw [hwb]; exact pw_below_drewN (Below.refl _ _) nb
          have HSb := Aside0.mk (blk_below HSa.out hbb)
          have HBb := Aside0.mk (thn5 HBa.out hbb)
          have HKb := Aside0.mk (by rw [hwb]; exact keep_drewN HKa.out nb : KeepBut w5 wb g7 none)
          have hH2 := cells3 hHeld.1 hHeld.2.1 hHeld.2.2 hbb
          clear hwb hbb HSa HBa HKa hHeld
          refine hK.out _ _ hH2 (fun hHeld => ?_)
          clear hK K hH2
          refine norm_ (a' := ?_) ?_ ?_
          rotate_left
          · show Act.put _ (some 42) _ = _
            simp only [Act.put, List.setIfInBounds_toArray, List.set_cons_zero, List.set_cons_succ]
            rfl
          refine pure_ (i := 10) (N := some 43) (v := ?_) (a' := ?_) #[true, true, true, true, true, true, true, true, true, true, true, false, false] rfl rfl (by kernel_rfl) (fun _ _ _ h => h) (Or.inl ⟨by rfl, ?_⟩) ?_ ?_
          rotate_left
          · intro w'
            go_simp
            with_reducible rfl
          rotate_left
          · simp only [Act.put, List.setIfInBounds_toArray, List.set_cons_zero, List.set_cons_succ]
            rfl
          refine pure_ (i := 11) (N := some 44) (v := ?_) (a' := ?_) #[true, true, true, true, true, true, true, true, true, true, true, true, false] rfl rfl (by kernel_rfl) (fun _ _ _ h => h) (Or.inl ⟨by rfl, ?_⟩) ?_ ?_
          rotate_left
          · intro w'
            go_simp
            with_reducible rfl
          rotate_left
          · simp only [Act.put, List.setIfInBounds_toArray, List.set_cons_zero, List.set_cons_succ]
            rfl
          refine last_ (i := 12) (N := none) #[true, true, true, true, true, true, true, true, true, true, true, true, true] rfl rfl (by kernel_rfl) (by decide) (fun K hK => ?_)
          have hff : wb.frozen? ⟨g7, d, none⟩ = false := blk_frozen HSb.out d
          have hfc := hHeld.2.2
          refine store_last_step (w1 := wb.setCell ⟨g7, d, none⟩ (.int .i64 sx)) rfl rfl (by first | (go_simp; done) | (go_simp; rfl)) ?_
          have HS9 := Aside0.mk (blk_put HSb.out d (.int .i64 sx) HST.out)
          have HB9 := Aside0.mk (below_set (j := d) (v := .int .i64 sx) HBb.out HG0.out)
          have HK9 := Aside0.mk (HKb.out.set_ d (.int .i64 sx))
          clear hfc hff
          refine hK.out _ _ ?_
          clear hK K
          refine done_ (by kernel_rfl) ?_
          clear hHeld HSb HBb HKb
          go_wp2
          go_roundg g1
          case measure => omega
          case rel => exact ⟨i + 1, by first | rfl | (rw [hw, Int.natCast_add]; rfl), by have := HI.out; omega, HS9, HB9, HK9⟩
        · have hpd : decide (0 < cn) = false := decide_eq_false hp
          have HST : Aside0 (c4 (coldS loads ns l (i + 1)) = c4 (coldS loads ns l i)) := ⟨by
            have e : coldS loads ns l (i + 1) = coldS loads ns l i := by
              funext d
              rw [coldS, if_neg (fun h => by omega)]
            rw [e]⟩
          clear hp hcn hin
          go_wp2
          go_roundg g1
          case measure => omega
          case rel => exact ⟨i + 1, by first | rfl | (rw [hw, Int.natCast_add]; rfl), by have := HI.out; omega, ⟨by rw [HST.out]; exact HSS.out⟩, HB, HKK⟩
end Go.Proofs.Ytbkamlkmimfomaa
