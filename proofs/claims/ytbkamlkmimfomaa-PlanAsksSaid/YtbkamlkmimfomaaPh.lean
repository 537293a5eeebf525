/-
  What is hot: the contract of plan.Hot.
  Conditions: none.
-/
import Derived.Test.YtbkamlkmimfomaaPf
import Derived.Deep.QuietTactic
import Derived.BigQuiet
namespace Go.Proofs.Ytbkamlkmimfomaa
open Go.RowKit Go.Proofs.YtbkamlkmimfomaaW.PrintWords Go.Proofs.YtbkamlkmimfomaaW.PrintLast Go.Proofs.YtbkamlkmimfomaaFl Go.Proofs.YtbkamlkmimfomaaG Go.Proofs.YtbkamlkmimfomaaIv Go.Proofs.Ytbkamlkmimfomaa.PGa
set_option linter.unusedVariables false
set_option linter.unusedSimpArgs false

/-! ### How loads lean, in whole numbers -/
def leanZof (loads : List Int) (l : List S46) (x : S46) : Int × Int := zspin (ldP loads x.f1 / (cntA l x.f1.toNat : Nat), 0) (dirP x.f0)
def zsum (z : Int × Int) (l : List (Int × Int)) : Int × Int := l.foldl zadd z
def leanZ (loads : List Int) (l : List S46) : Int × Int := zsum (0, 0) (l.map (leanZof loads l))
theorem ic_sum (f : S46 → Nat × Nat) (g : S46 → Int × Int) (B : Nat) : ∀ (l : List S46) (c : C) (z : Int × Int) (A : Nat), (∀ x ∈ l, IC (crd (f x)) (g x) ∧ zbd B (g x)) → IC c z → zbd A z → A + l.length * B < 9007199254740992 → IC (csum c (l.map f)) (zsum z (l.map g)) ∧ zbd (A + l.length * B) (zsum z (l.map g))
  | [], c, z, A, h, hc, hz, hA => ⟨hc, by show zbd (A + 0 * B) z; rw [Nat.zero_mul]; exact hz⟩
  | x :: l, c, z, A, h, hc, hz, hA => by
    have hx := h x (List.mem_cons_self ..)
    rw [List.length_cons, Nat.add_mul, Nat.one_mul] at hA ⊢
    have := ic_sum f g B l (cadd c (crd (f x))) (zadd z (g x)) (A + B) (fun y hy => h y (List.mem_cons_of_mem _ hy)) (ic_add hc hx.1 (zbd_add hz hx.2) (by omega)) (zbd_add hz hx.2) (by omega)
    rw [show A + (l.length * B + B) = A + B + l.length * B by omega]
    exact this
theorem crd_spin_c (c : Nat × Nat) (k : Int) : crd (spin c k) = cspin (crd c) k := crd_spin c k
theorem ic_pLean (p n : Int) (h0 : 0 ≤ n) (h1 : n ≤ 1073741824) : IC (crd (pLean p n)) (zspin (n, 0) (dirP p)) := by
  unfold pLean
  rw [if_neg (by omega), crd_spin_c]
  exact ic_spin ⟨io_of (iv_of_int n (by omega)), io_of iv_zero⟩ _
theorem leanZ_part (loads : List Int) (l : List S46) (x : S46) (hx : x ∈ l) (h0 : 0 ≤ x.f1) : 0 ≤ ldP loads x.f1 / (cntA l x.f1.toNat : Nat) ∧ ldP loads x.f1 / (cntA l x.f1.toNat : Nat) ≤ 1073741824 := by
  have h1 := ldP_range loads x.f1
  have h2 := cntA_pos hx h0
  refine ⟨Int.ediv_nonneg h1.1 (by omega), ?_⟩
  exact Int.le_trans (Int.ediv_le_self _ h1.1) h1.2
theorem leanC_is {ep : Int} {l : List S46} {ns loads : List Int} (hm : mayT ep l ns = true) : IC (leanC ep l ns loads) (leanZ loads l) ∧ zbd 1099511627776 (leanZ loads l) := by
  obtain ⟨b1, b2, b3, b4, b5, b6⟩ := mayT_facts hm
  unfold leanC leanZ
  rw [if_pos hm]
  have h := ic_sum (leanOf loads l) (leanZof loads l) 1073741824 l (crd (0, 0)) (0, 0) 0 (fun x hx => by
    have hp := leanZ_part loads l x hx (b5 x hx).1
    refine ⟨ic_pLean _ _ hp.1 hp.2, ?_⟩
    unfold leanZof
    exact zbd_spin (show zbd 1073741824 (ldP loads x.f1 / (cntA l x.f1.toNat : Nat), 0) from ⟨by show Int.natAbs (ldP loads x.f1 / (cntA l x.f1.toNat : Nat)) ≤ 1073741824; omega, by show Int.natAbs 0 ≤ _; decide⟩) _) ⟨io_of iv_zero, io_of iv_zero⟩ ⟨Nat.le_refl 0, Nat.le_refl 0⟩ (by omega)
  refine ⟨h.1, Nat.le_trans h.2.1 ?_, Nat.le_trans h.2.2 ?_⟩ <;> omega

/-! ### Hot -/
/-- An arc that lies where loads lean. -/
def hotAt (dir : Int) (x : S46) : Bool := decide (dir < 0) || decide (dirP x.f0 = dir)
def hotSel (dir : Int) (n : Nat) (l : List S46) : List Bool := (List.range n).map (fun (s : Nat) => l.any (fun x => decide (x.f1 = ((s : Nat) : Int)) && hotAt dir x))
theorem hotSel_length (dir : Int) (n : Nat) (l : List S46) : (hotSel dir n l).length = n := by simp [hotSel]
theorem hotSel_snoc (dir : Int) (n : Nat) (l : List S46) (y : S46) (h0 : 0 ≤ y.f1) : (hotSel dir n l).set y.f1.toNat ((rdOf false (hotSel dir n l) y.f1) || hotAt dir y) = hotSel dir n (l ++ [y]) := by
  apply List.ext_getElem
  · simp [hotSel]
  · intro i h2 h3
    have hi : i < n := by rw [hotSel_length] at h3; exact h3
    rw [List.getElem_set]
    simp only [hotSel, List.getElem_map, List.getElem_range, List.any_append, List.any_cons, List.any_nil, Bool.or_false]
    by_cases e : y.f1.toNat = i
    · subst e
      rw [if_pos rfl, decide_eq_true (show y.f1 = ((y.f1.toNat : Nat) : Int) by omega), Bool.true_and]
      congr 1
      simp [rdOf, hi]
    · rw [if_neg e, decide_eq_false (show ¬ y.f1 = (i : Int) by omega), Bool.false_and, Bool.or_false]
theorem hotSel_nil (dir : Int) (n : Nat) : hotSel dir n (List.take 0 []) = List.replicate ((n : Nat) : Int).toNat false := by
  apply List.ext_getElem <;> simp [hotSel]
/-- The first of the greatest loads that are marked, among the first i. -/
def hotBest (loads : List Int) (sel : List Bool) : Nat → Int
  | 0 => -1
  | i + 1 => if sel.getD i false = true ∧ (hotBest loads sel i < 0 ∨ ldP loads (hotBest loads sel i) < ldP loads (i : Int)) then (i : Int) else hotBest loads sel i
theorem hotBest_range (loads : List Int) (sel : List Bool) : ∀ i, -1 ≤ hotBest loads sel i ∧ hotBest loads sel i < (i : Int)
  | 0 => by unfold hotBest; omega
  | i + 1 => by
    have := hotBest_range loads sel i
    unfold hotBest
    split <;> omega
def hotP (ep : Int) (l : List S46) (ns loads : List Int) : Int := if mayT ep l ns = true then hotBest loads (hotSel (zway (leanZ loads l)) ns.length l) ns.length else -1
theorem store_last_step {P : Program} {ops : Array Oper} {o : Oper} {a : Act} {Q : Exit → Act → World → Prop} {Kc : Act → World → Prop} {W w1 : World} {N : Option Tmp} (hw : Region.wanted o (yielded ops a.tmps) = true) (hN : o.dst = none) (hrun : (execOp a.eval o).run P W = .ok .skip w1) (h : Kc a w1) : if Region.wanted o (yielded ops a.tmps) = true then Oper.wp P o a W Kc Q else Kc (a.put N undef) W := by
  rw [if_pos hw]
  unfold Oper.wp
  rw [hrun]
  show Kc (a.put o.dst undef) w1
  rw [hN]
  exact h
theorem info4b : (Try.prog.info? 4).map (fun i => (i.zero, i.size, i.bytes)) = some (some (.bool false), 1, 1) := by kernel_rfl
set_option maxHeartbeats 8000000 in
set_option maxRecDepth 100000 in
theorem Hot_is (ep : Int) (A1 : Option Addr) (c1 : Nat) (l : List S46) (A2 : Option Addr) (c2 : Nat) (ns : List Int) (A3 : Option Addr) (c3 : Nat) (loads : List Int) (w : World) (hr1 : Kd.C k46 w A1 l.length l) (hc1 : l.length ≤ c1) (hr2 : Kd.C (Kd.int .i64) w A2 ns.length ns) (hc2 : ns.length ≤ c2) (hr3 : Kd.C (Kd.int .i64) w A3 loads.length loads) (hc3 : loads.length ≤ c3) :
    Calls Try.prog 13 #[.agg (cT ep A1 l.length c1 A2 ns.length c2), .slice A3 loads.length c3] w fun e w' => e = .returned (.int .i64 (hotP ep l ns loads)) ∧ Below w.heap.size w w' := by
  have HR1 := Aside0.mk hr1
  have HC1 := Aside0.mk hc1
  have HR2 := Aside0.mk hr2
  have HC2 := Aside0.mk hc2
  have HR3 := Aside0.mk hr3
  have HC3 := Aside0.mk hc3
  have hu := Try.underlying25
  have hu46 := Try.underlying46
  clear hr1 hc1 hr2 hc2 hr3 hc3
  cases hm : mayT ep l ns with
  | false =>
    have HM := Aside0.mk hm
    have HV : Aside0 (hotP ep l ns loads = -1) := ⟨if_neg (by rw [hm]; decide)⟩
    clear hm
    go_enter Try.func13, Try.ntmps13
    go_wp2_with (first
      | ((with_reducible refine gate_dst (N := 2) rfl ?_); refine box_event ?hg (N := 2) ?hd (cs := cT ep A1 l.length c1 A2 ns.length c2) (t := 25) ?hr ?_; (case hd => rfl); (case hg => rfl); (case hr => first | (go_simp; done) | (go_simp; rfl)); intro g2 hg w2 hbox hb; have HB := Aside0.mk hb; have HX := Aside0.mk hbox; have h0 : w2.cell? ⟨g2, 0, none⟩ = some (.int .i64 ep) := (blk_cell hbox 0).trans rfl; have h1 : w2.cell? ⟨g2, 1, none⟩ = some (.slice A1 l.length c1) := (blk_cell hbox 1).trans rfl; have h2 : w2.cell? ⟨g2, 2, none⟩ = some (.slice A2 ns.length c2) := (blk_cell hbox 2).trans rfl; clear hb hbox hg)
      | (go_at_call 17; with_reducible refine (May_is ep A1 c1 l A2 c2 ns _ (Kd.C_below HR1.out HB.out) HC1.out (Kd.C_below HR2.out HB.out) HC2.out).mono ?_; rintro e w3 ⟨rfl, hb⟩; have HB3 := Aside0.mk (thn5 HB.out hb); have HX3 := Aside0.mk (blk_below HX.out hb); have k0 : w3.cell? ⟨g2, 0, none⟩ = some (.int .i64 ep) := (blk_cell HX3.out 0).trans rfl; have k1 : w3.cell? ⟨g2, 1, none⟩ = some (.slice A1 l.length c1) := (blk_cell HX3.out 1).trans rfl; have k2 : w3.cell? ⟨g2, 2, none⟩ = some (.slice A2 ns.length c2) := (blk_cell HX3.out 2).trans rfl; clear hb; rw [HM.out]))
    go_ret
    exact ⟨by rw [HV.out]; rfl, HB3.out⟩
  | true =>
    have HM := Aside0.mk hm
    obtain ⟨dir, hd⟩ : ∃ dir, zway (leanZ loads l) = dir := ⟨_, rfl⟩
    have HD := Aside0.mk hd
    have HV : Aside0 (hotP ep l ns loads = hotBest loads (hotSel dir ns.length l) ns.length) := ⟨by rw [← hd]; exact if_pos hm⟩
    have HL : Aside0 (1 ≤ l.length ∧ l.length ≤ 1024 ∧ 1 ≤ ns.length ∧ ns.length ≤ 16) := ⟨by have := mayT_facts hm; exact ⟨this.1, this.2.1, this.2.2.1, this.2.2.2.1⟩⟩
    have HXS : Aside0 (∀ x ∈ l, 0 ≤ x.f1 ∧ x.f1 < (ns.length : Int)) := ⟨fun x hx => ⟨((mayT_facts hm).2.2.2.2.1 x hx).1, ((mayT_facts hm).2.2.2.2.1 x hx).2.1⟩⟩
    have HLC := Aside0.mk (leanC_is (loads := loads) hm).1
    have hn1 : ¬ ((ns.length : Int) < 0) := by omega
    clear hm hd
    go_enter Try.func13, Try.ntmps13
    go_wp2_with (first
      | ((with_reducible refine gate_dst (N := 2) rfl ?_); refine box_event ?hg (N := 2) ?hd (cs := cT ep A1 l.length c1 A2 ns.length c2) (t := 25) ?hr ?_; (case hd => rfl); (case hg => rfl); (case hr => first | (go_simp; done) | (go_simp; rfl)); intro g2 hg w2 hbox hb; have HB := Aside0.mk hb; have HX := Aside0.mk hbox; have h0 : w2.cell? ⟨g2, 0, none⟩ = some (.int .i64 ep) := (blk_cell hbox 0).trans rfl; have h1 : w2.cell? ⟨g2, 1, none⟩ = some (.slice A1 l.length c1) := (blk_cell hbox 1).trans rfl; have h2 : w2.cell? ⟨g2, 2, none⟩ = some (.slice A2 ns.length c2) := (blk_cell hbox 2).trans rfl; clear hb hbox hg)
      | (go_at_call 17; with_reducible refine (May_is ep A1 c1 l A2 c2 ns _ (Kd.C_below HR1.out HB.out) HC1.out (Kd.C_below HR2.out HB.out) HC2.out).mono ?_; rintro e w3 ⟨rfl, hb⟩; have HB3 := Aside0.mk (thn5 HB.out hb); have HX3 := Aside0.mk (blk_below HX.out hb); have k0 : w3.cell? ⟨g2, 0, none⟩ = some (.int .i64 ep) := (blk_cell HX3.out 0).trans rfl; have k1 : w3.cell? ⟨g2, 1, none⟩ = some (.slice A1 l.length c1) := (blk_cell HX3.out 1).trans rfl; have k2 : w3.cell? ⟨g2, 2, none⟩ = some (.slice A2 ns.length c2) := (blk_cell HX3.out 2).trans rfl; clear hb; rw [HM.out])
      | (go_at_call 11; with_reducible refine (Lean_is ep A1 c1 l A2 c2 ns A3 c3 loads _ (Kd.C_below HR1.out HB3.out) HC1.out (Kd.C_below HR2.out HB3.out) HC2.out (Kd.C_below HR3.out HB3.out) HC3.out).mono ?_; rintro e w4 ⟨r_, i_, rfl, hl_, hb⟩; have HB4 := Aside0.mk (thn5 HB3.out hb); have HX4 := Aside0.mk (blk_below HX3.out hb); have HIC := Aside0.mk (hl_ ▸ HLC.out : IC (crd (r_, i_)) (leanZ loads l)); have m0 : w4.cell? ⟨g2, 0, none⟩ = some (.int .i64 ep) := (blk_cell HX4.out 0).trans rfl; have m1 : w4.cell? ⟨g2, 1, none⟩ = some (.slice A1 l.length c1) := (blk_cell HX4.out 1).trans rfl; have m2 : w4.cell? ⟨g2, 2, none⟩ = some (.slice A2 ns.length c2) := (blk_cell HX4.out 2).trans rfl; clear hb hl_)
      | (go_at_call 38; with_reducible refine (Way_is r_ i_ _ HIC.out _).mono ?_; rintro e w5 ⟨rfl, hw5⟩; subst hw5; rw [HD.out])
      | ((with_reducible refine gate_dst (N := 22) rfl ?_); refine Kd.R_make Kd.bool _ 4 rfl (N := 22) rfl 63 _ _ rfl (ns.length : Int) rfl rfl Try.underlying63 (.bool false) 1 info4b rfl (by decide) (by omega) false (ok := fun _ => True) (okp := fun _ => True) rfl (fun _ hk => hk) trivial (by omega) (by have := HL.out; omega) (Below.refl _ _) (Nat.le_refl _) ?_; intro v6 w6 ho7 hb hg_ hnew_; clear hg_ hnew_; have HB6 := Aside0.mk (thn5 HB4.out hb); have HBk := Aside0.mk hb; have HX6 := Aside0.mk (blk_below HX4.out hb); have HO6 := Aside0.mk ho7; have n0 : w6.cell? ⟨g2, 0, none⟩ = some (.int .i64 ep) := (blk_cell HX6.out 0).trans rfl; have n1 : w6.cell? ⟨g2, 1, none⟩ = some (.slice A1 l.length c1) := (blk_cell HX6.out 1).trans rfl; have n2 : w6.cell? ⟨g2, 2, none⟩ = some (.slice A2 ns.length c2) := (blk_cell HX6.out 2).trans rfl; clear ho7 hb))
    go_loopg [26] l.length (fun g v26 wr => ∃ (i : Nat), v26 = .int .i64 i ∧ g + i = l.length ∧ Aside0 (Kd.R Kd.bool 4 wr w5.heap.size (fun _ => True) v6 (hotSel dir ns.length (l.take i))) ∧ Aside0 (Below w5.heap.size w5 wr))
    case atStart => exact ⟨0, rfl, by omega, ⟨by rw [List.take_zero, ← List.take_zero (l := ([] : List S46)), hotSel_nil dir ns.length]; exact HO6.out⟩, ⟨HBk.out⟩⟩
    case round =>
      obtain ⟨i, rfl, hgi, HRR, HB⟩ := hrel
      have hX := blk_below HX4.out HB.out
      clear hX
      cases gk with
      | zero =>
        have hi : ¬ ((i : Int) < (l.length : Int)) := by omega
        have hil : i = l.length := by omega
        subst hil
        rw [List.take_length] at HRR
        clear hgi
        obtain ⟨q, hq⟩ : ∃ q, hotSel dir ns.length l = q := ⟨_, rfl⟩
        have HQL : Aside0 (q.length = ns.length) := ⟨by rw [← hq]; exact hotSel_length _ _ _⟩
        rw [hq] at HRR HV
        clear hq
        obtain ⟨A6, c6, rfl, hc6, hC6⟩ := Kd.R_reads HRR.out
        rw [HQL.out] at hC6 hc6 ⊢
        have HC6 := Aside0.mk hC6
        have HBR := Aside0.mk (thn5 HB4.out HB.out)
        clear hC6 hc6 HRR HB
        obtain ⟨wq, hwq⟩ : ∃ wq, wq = wr := ⟨_, rfl⟩
        subst hwq
        go_wp2
        go_loopg [9, 10, 11, 53] ns.length (fun g v9 v10 v11 v53 w2 => ∃ (i : Nat) (m : Int), v53 = .int .i64 i ∧ v9 = .int .i64 m ∧ Aside0 (hotBest loads q i = m) ∧ g + i = ns.length ∧ Aside0 (Below wq.heap.size wq w2))
        case atStart => exact ⟨0, -1, rfl, rfl, ⟨rfl⟩, by omega, ⟨Below.refl _ _⟩⟩
        case round =>
          obtain ⟨i, m, rfl, rfl, HM2, hgi, HB2⟩ := hrel
          cases gk with
          | zero =>
            have hi : ¬ ((i : Int) < (ns.length : Int)) := by omega
            have hil : i = ns.length := by omega
            subst hil
            clear hgi
            go_wp2
            go_ret
            exact ⟨by rw [HV.out, HM2.out]; rfl, thn5 HBR.out HB2.out⟩
          | succ g1 =>
            have hi : (i : Int) < (ns.length : Int) := by omega
            have hi0 : 0 ≤ (i : Int) := by omega
            obtain ⟨ad6, e6, hb6⟩ := Kd.at_bool HC6.out (i : Int) hi0 hi
            cases e6
            rw [Int.toNat_natCast] at hb6
            replace hb6 := (HB2.out.cell (World.block_lt_of_cell? wq _ hb6)).trans hb6
            obtain ⟨b, hb⟩ : ∃ b, rdOf false q (i : Int) = b := ⟨_, rfl⟩
            rw [hb] at hb6
            have HBD : Aside0 (q.getD i false = b) := ⟨by rw [← hb]; simp [rdOf]⟩
            have HI := Aside0.mk hgi
            have HI0 := Aside0.mk hi0
            have HMR : Aside0 (-1 ≤ m ∧ m < (i : Int)) := ⟨by rw [← HM2.out]; exact hotBest_range loads q i⟩
            have hw : wrap64 ((i : Int) + 1) = (i : Int) + 1 := wr64 _ (by omega) (by have := HL.out; omega)
            have HST : Aside0 (hotBest loads q (i + 1) = if b = true ∧ (m < 0 ∨ ldP loads m < ldP loads (i : Int)) then (i : Int) else m) := ⟨by rw [hotBest, HBD.out, HM2.out]⟩
            clear hgi hb
            cases b with
            | false =>
              have HST2 : Aside0 (hotBest loads q (i + 1) = m) := ⟨by rw [HST.out, if_neg (fun h => by cases h.1)]⟩
              go_wp2
              go_roundg g1
              case measure => omega
              case rel => exact ⟨i + 1, m, by first | rfl | (rw [hw, Int.natCast_add]; rfl), rfl, HST2, by have := HI.out; omega, HB2⟩
            | true =>
              by_cases hm0 : m < 0
              · have HST2 : Aside0 (hotBest loads q (i + 1) = (i : Int)) := ⟨by rw [HST.out, if_pos ⟨rfl, .inl hm0⟩]⟩
                have hmd : decide (m < 0) = true := decide_eq_true hm0
                clear hm0
                go_wp2
                go_roundg g1
                case measure => omega
                case rel => exact ⟨i + 1, (i : Int), by first | rfl | (rw [hw, Int.natCast_add]; rfl), rfl, HST2, by have := HI.out; omega, HB2⟩
              · have hmd : decide (m < 0) = false := decide_eq_false hm0
                have HM0 : Aside0 (0 ≤ m) := ⟨by omega⟩
                obtain ⟨x1, hx1⟩ : ∃ x1, ldP loads (i : Int) = x1 := ⟨_, rfl⟩
                obtain ⟨x2, hx2⟩ : ∃ x2, ldP loads m = x2 := ⟨_, rfl⟩
                have HX1 := Aside0.mk hx1
                have HX2 := Aside0.mk hx2
                rw [hx1, hx2] at HST
                by_cases hlt : x2 < x1
                · have HST2 : Aside0 (hotBest loads q (i + 1) = (i : Int)) := ⟨by rw [HST.out, if_pos ⟨rfl, .inr hlt⟩]⟩
                  have hld : decide (x2 < x1) = true := decide_eq_true hlt
                  clear hm0 hx1 hx2 hlt
                  go_wp2_with (first
                    | (go_at_call 32; with_reducible refine (Load_is A3 c3 loads (i : Int) _ (Kd.C_below HR3.out (thn5 HBR.out HB2.out)) HC3.out HI0.out).mono ?_; rintro e w7 ⟨rfl, ⟨n7, hw7⟩⟩; rw [HX1.out]; have HB7 := Aside0.mk (show Below wq.heap.size wq w7 by rw [hw7]; exact pw_below_drewN HB2.out n7); clear hw7)
                    | (go_at_call 32; with_reducible refine (Load_is A3 c3 loads m _ (Kd.C_below HR3.out (thn5 HBR.out HB7.out)) HC3.out HM0.out).mono ?_; rintro e w8 ⟨rfl, ⟨n8, hw8⟩⟩; rw [HX2.out]; have HB8 := Aside0.mk (show Below wq.heap.size wq w8 by rw [hw8]; exact pw_below_drewN HB7.out n8); clear hw8))
                  go_roundg g1
                  case measure => omega
                  case rel => exact ⟨i + 1, (i : Int), by first | rfl | (rw [hw, Int.natCast_add]; rfl), rfl, HST2, by have := HI.out; omega, HB8⟩
                · have HST2 : Aside0 (hotBest loads q (i + 1) = m) := ⟨by rw [HST.out, if_neg (fun h => h.2.elim hm0 hlt)]⟩
                  have hld : decide (x2 < x1) = false := decide_eq_false hlt
                  clear hm0 hx1 hx2 hlt
                  go_wp2_with (first
                    | (go_at_call 32; with_reducible refine (Load_is A3 c3 loads (i : Int) _ (Kd.C_below HR3.out (thn5 HBR.out HB2.out)) HC3.out HI0.out).mono ?_; rintro e w7 ⟨rfl, ⟨n7, hw7⟩⟩; rw [HX1.out]; have HB7 := Aside0.mk (show Below wq.heap.size wq w7 by rw [hw7]; exact pw_below_drewN HB2.out n7); clear hw7)
                    | (go_at_call 32; with_reducible refine (Load_is A3 c3 loads m _ (Kd.C_below HR3.out (thn5 HBR.out HB7.out)) HC3.out HM0.out).mono ?_; rintro e w8 ⟨rfl, ⟨n8, hw8⟩⟩; rw [HX2.out]; have HB8 := Aside0.mk (show Below wq.heap.size wq w8 by rw [hw8]; exact pw_below_drewN HB7.out n8); clear hw8))
                  go_roundg g1
                  case measure => omega
                  case rel => exact ⟨i + 1, m, by first | rfl | (rw [hw, Int.natCast_add]; rfl), rfl, HST2, by have := HI.out; omega, HB8⟩
      | succ g1 =>
        have hi : (i : Int) < (l.length : Int) := by omega
        have hi0 : 0 ≤ (i : Int) := by omega
        have hin : i < l.length := by omega
        obtain ⟨ad, e1, hx0, hx1⟩ := at_T46 HR1.out i hi0 hi
        cases e1
        obtain ⟨x, hx⟩ : ∃ x, rd_T46 l (i : Int) = x := ⟨_, rfl⟩
        have HY : Aside0 (l[i]? = some x) := ⟨by rw [← hx]; exact rd46_at l i hin⟩
        have HYM : Aside0 (x ∈ l) := ⟨List.mem_of_getElem? HY.out⟩
        rw [hx, Int.toNat_natCast] at hx0 hx1
        replace hx0 := ((thn5 HB4.out HB.out).cell (World.block_lt_of_cell? w _ hx0)).trans hx0
        replace hx1 := ((thn5 HB4.out HB.out).cell (World.block_lt_of_cell? w _ hx1)).trans hx1
        have HI := Aside0.mk hgi
        have HN := Aside0.mk hin
        have hw : wrap64 ((i : Int) + 1) = (i : Int) + 1 := wr64 _ (by omega) (by have := HL.out; omega)
        clear hgi hx hin
        go_wp2_with (first
          | ((with_reducible refine gate_dst (N := 8) rfl ?_); refine box_event ?hg (N := 8) ?hd (cs := #[.int .u32 0, .int .i64 0]) (t := 46) ?hr ?_; (case hd => rfl); (case hg => rfl); (case hr => first | (go_simp; done) | (go_simp; rfl)); intro g8 hg w7 hbox hb; have HB5 := Aside0.mk (thn5 HB.out hb); have HBr := Aside0.mk hb; have HX5 := Aside0.mk hbox; have HG8 : Aside0 (w5.heap.size ≤ g8) := ⟨by rw [hg]; exact HB.out.size⟩; have z0 : w7.cell? ⟨g8, 0, none⟩ = some (.int .u32 0) := (blk_cell hbox 0).trans rfl; have z1 : w7.cell? ⟨g8, 1, none⟩ = some (.int .i64 0) := (blk_cell hbox 1).trans rfl; have f0 := blk_frozen hbox 0; have f1 := blk_frozen hbox 1; clear hb hbox hg))
        refine wp_gen (fun W => (W.heap[g8]? = some (.cells #[.int .u32 x.f0, .int .i64 x.f1] 46 (0, 0))) ∧ Below w5.heap.size w5 W ∧ Kd.R Kd.bool 4 W w5.heap.size (fun _ => True) v6 (hotSel dir ns.length (l.take i))) ?gen0 ?gen1
        case gen0 =>
          refine ⟨blk_put (blk_put HX5.out 0 _ rfl) 1 _ rfl, below_set (below_set HB5.out HG8.out) HG8.out, ?_⟩
          refine Kd.R_set (Kd.R_set (Kd.R_below HRR.out HBr.out) HX5.out (by decide) 0 _) (blk_put HX5.out 0 _ rfl) (by decide) 1 _
        case gen1 =>
        intro W hW
        have BKW := Aside0.mk hW.1
        have HBW := Aside0.mk hW.2.1
        have HRW := Aside0.mk hW.2.2
        clear hW HX5 HB5 HG8 HBr HRR z0 z1 f0 f1 hx0 hx1 HB
        have HX0 : Aside0 (0 ≤ x.f1) := ⟨(HXS.out x HYM.out).1⟩
        have hx0' := HX0.out
        have hxl := (HXS.out x HYM.out).2
        obtain ⟨q, hq⟩ : ∃ q, hotSel dir ns.length (l.take i) = q := ⟨_, rfl⟩
        have HQL : Aside0 (q.length = ns.length) := ⟨by rw [← hq]; exact hotSel_length _ _ _⟩
        have HQ := Aside0.mk hq
        rw [hq] at HRW
        clear hq
        have hxl2 : x.f1 < (q.length : Int) := by rw [HQL.out]; exact hxl
        obtain ⟨go, co, rfl, gb, gl, cl, HG⟩ := Kd.R_form HRW.out (by omega)
        obtain ⟨hy_, hz_⟩ := Kd.R_cell false HRW.out x.f1 hx0' hxl2
        have HP := Aside0.mk (Kd.R_put HRW.out x.f1 (rdOf false q x.f1 || hotAt dir x))
        have HGB := Aside0.mk gb
        obtain ⟨bt, hbt⟩ : ∃ bt, rdOf false q x.f1 = bt := ⟨_, rfl⟩
        rw [hbt] at hy_ HP
        have HBT := Aside0.mk hbt
        have hp1 := eq_true hx0'
        have hp2 := eq_true hxl2
        have hp3 : (x.f1 < 0) = False := eq_false (by omega)
        have k0 : W.cell? ⟨g8, 0, none⟩ = some (.int .u32 x.f0) := (blk_cell BKW.out 0).trans rfl
        have k1 : W.cell? ⟨g8, 1, none⟩ = some (.int .i64 x.f1) := (blk_cell BKW.out 1).trans rfl
        clear hx0' hxl hxl2 gb gl HG cl hbt
        cases bt with
        | true =>
          have hA : (true || hotAt dir x) = true := rfl
          refine start_ (n := 21) (S := fun w' => w'.cell? ⟨g8, 0, none⟩ = some (.int .u32 x.f0) ∧ w'.cell? ⟨g8, 1, none⟩ = some (.int .i64 x.f1) ∧ w'.cell? ⟨go, x.f1.toNat, none⟩ = some (.bool true)) (ds := [20]) #[false, false, false, false, false, false, false, false, false, false, false, false, false, false, false, false, false, false, false, false, false] (by kernel_rfl) rfl rfl ⟨k0, k1, hy_⟩ (fun hHeld => ?_)
          have BKa := Aside0.mk (blk_drew BKW.out)
          have HBa := Aside0.mk (below_drew1 HBW.out)
          have HRa := Aside0.mk (Kd.R_below HRW.out (below_drew1 (Below.refl W.heap.size W)))
          clear BKW HBW HRW k0 k1 hy_ hz_ HP
          generalize W.drew = wa at BKa HBa HRa hHeld ⊢
          refine pure_ (i := 0) (N := some 30) (v := ?_) (a' := ?_) #[true, false, false, false, false, false, false, false, false, false, false, false, false, false, false, false, false, false, false, false, false] rfl rfl (by kernel_rfl) (fun _ _ _ h => h) (Or.inl ⟨by rfl, ?_⟩) ?_ ?_
          rotate_left
          · intro w'
            go_simp
            with_reducible rfl
          rotate_left
          · simp only [Act.put, List.setIfInBounds_toArray, List.set_cons_zero, List.set_cons_succ]
            rfl
          refine pure_ (i := 1) (N := some 31) (v := ?_) (a' := ?_) #[true, true, false, false, false, false, false, false, false, false, false, false, false, false, false, false, false, false, false, false, false] rfl rfl (by kernel_rfl) (fun _ _ _ h => h) (Or.inl ⟨by rfl, ?_⟩) ?_ ?_
          rotate_left
          · intro w'
            go_simp
            with_reducible rfl
          rotate_left
          · simp only [Act.put, List.setIfInBounds_toArray, List.set_cons_zero, List.set_cons_succ]
            rfl
          refine take_ (i := 2) (N := some 32) (v := ?_) (a' := ?_) #[true, true, true, false, false, false, false, false, false, false, false, false, false, false, false, false, false, false, false, false, false] rfl rfl (by kernel_rfl) (fun _ _ _ h => h) (Or.inl ⟨by rfl, ?_⟩) hHeld ?_ ?_
          rotate_left
          · rintro w' ⟨s0, s1, s2⟩
            go_simp
            with_reducible rfl
          rotate_left
          · simp only [Act.put, List.setIfInBounds_toArray, List.set_cons_zero, List.set_cons_succ]
            rfl
          refine pure_ (i := 3) (N := some 33) (v := ?_) (a' := ?_) #[true, true, true, true, false, false, false, false, false, false, false, false, false, false, false, false, false, false, false, false, false] rfl rfl (by kernel_rfl) (fun _ _ _ h => h) (Or.inl ⟨by rfl, ?_⟩) ?_ ?_
          rotate_left
          · intro w'
            go_simp
            with_reducible rfl
          rotate_left
          · simp only [Act.put, List.setIfInBounds_toArray, List.set_cons_zero, List.set_cons_succ]
            rfl
          refine pure_ (i := 4) (N := some 34) (v := ?_) (a' := ?_) #[true, true, true, true, true, false, false, false, false, false, false, false, false, false, false, false, false, false, false, false, false] rfl rfl (by kernel_rfl) (fun _ _ _ h => h) (Or.inl ⟨by rfl, ?_⟩) ?_ ?_
          rotate_left
          · intro w'
            go_simp
            with_reducible rfl
          rotate_left
          · simp only [Act.put, List.setIfInBounds_toArray, List.set_cons_zero, List.set_cons_succ]
            rfl
          refine take_ (i := 5) (N := some 35) (v := ?_) (a' := ?_) #[true, true, true, true, true, true, false, false, false, false, false, false, false, false, false, false, false, false, false, false, false] rfl rfl (by kernel_rfl) (fun _ _ _ h => h) (Or.inl ⟨by rfl, ?_⟩) hHeld ?_ ?_
          rotate_left
          · rintro w' ⟨s0, s1, s2⟩
            go_simp
            with_reducible rfl
          rotate_left
          · simp only [Act.put, List.setIfInBounds_toArray, List.set_cons_zero, List.set_cons_succ]
            rfl
          refine pure_ (i := 6) (N := some 36) (v := ?_) (a' := ?_) #[true, true, true, true, true, true, true, false, false, false, false, false, false, false, false, false, false, false, false, false, false] rfl rfl (by kernel_rfl) (fun _ _ _ h => h) (Or.inl ⟨by rfl, ?_⟩) ?_ ?_
          rotate_left
          · intro w'
            go_simp
            with_reducible rfl
          rotate_left
          · simp only [Act.put, List.setIfInBounds_toArray, List.set_cons_zero, List.set_cons_succ]
            rfl
          refine take_ (i := 7) (N := some 37) (v := ?_) (a' := ?_) #[true, true, true, true, true, true, true, true, false, false, false, false, false, false, false, false, false, false, false, false, false] rfl rfl (by kernel_rfl) (fun _ _ _ h => h) (Or.inl ⟨by rfl, ?_⟩) hHeld ?_ ?_
          rotate_left
          · rintro w' ⟨s0, s1, s2⟩
            go_simp
            with_reducible rfl
          rotate_left
          · simp only [Act.put, List.setIfInBounds_toArray, List.set_cons_zero, List.set_cons_succ]
            rfl
          refine pure_ (i := 8) (N := some 38) (v := ?_) (a' := ?_) #[true, true, true, true, true, true, true, true, true, false, false, false, false, false, false, false, false, false, false, false, false] rfl rfl (by kernel_rfl) (fun _ _ _ h => h) (Or.inl ⟨by rfl, ?_⟩) ?_ ?_
          rotate_left
          · intro w'
            go_simp
            with_reducible rfl
          rotate_left
          · simp only [Act.put, List.setIfInBounds_toArray, List.set_cons_zero, List.set_cons_succ]
            rfl
          refine pure_ (i := 9) (N := some 39) (v := undef) (a' := ?_) #[true, true, true, true, true, true, true, true, true, true, false, false, false, false, false, false, false, false, false, false, false] rfl rfl (by kernel_rfl) (fun _ _ _ h => h) (Or.inr ⟨by rfl, rfl⟩) ?_ ?_
          rotate_left
          · simp only [Act.put, List.setIfInBounds_toArray, List.set_cons_zero, List.set_cons_succ]
            rfl
          refine pure_ (i := 10) (N := some 40) (v := undef) (a' := ?_) #[true, true, true, true, true, true, true, true, true, true, true, false, false, false, false, false, false, false, false, false, false] rfl rfl (by kernel_rfl) (fun _ _ _ h => h) (Or.inr ⟨by rfl, rfl⟩) ?_ ?_
          rotate_left
          · simp only [Act.put, List.setIfInBounds_toArray, List.set_cons_zero, List.set_cons_succ]
            rfl
          refine pure_ (i := 11) (N := some 41) (v := ?_) (a' := ?_) #[true, true, true, true, true, true, true, true, true, true, true, true, false, false, false, false, false, false, false, false, false] rfl rfl (by kernel_rfl) (fun _ _ _ h => h) (Or.inl ⟨by rfl, ?_⟩) ?_ ?_
          rotate_left
          · intro w'
            go_simp
            with_reducible rfl
          rotate_left
          · simp only [Act.put, List.setIfInBounds_toArray, List.set_cons_zero, List.set_cons_succ]
            rfl
          refine pure_ (i := 12) (N := some 42) (v := ?_) (a' := ?_) #[true, true, true, true, true, true, true, true, true, true, true, true, true, false, false, false, false, false, false, false, false] rfl rfl (by kernel_rfl) (fun _ _ _ h => h) (Or.inl ⟨by rfl, ?_⟩) ?_ ?_
          rotate_left
          · intro w'
            go_simp
            with_reducible rfl
          rotate_left
          · simp only [Act.put, List.setIfInBounds_toArray, List.set_cons_zero, List.set_cons_succ]
            rfl
          refine pure_ (i := 13) (N := some 43) (v := undef) (a' := ?_) #[true, true, true, true, true, true, true, true, true, true, true, true, true, true, false, false, false, false, false, false, false] rfl rfl (by kernel_rfl) (fun _ _ _ h => h) (Or.inr ⟨by rfl, rfl⟩) ?_ ?_
          rotate_left
          · simp only [Act.put, List.setIfInBounds_toArray, List.set_cons_zero, List.set_cons_succ]
            rfl
          refine pure_ (i := 14) (N := some 44) (v := undef) (a' := ?_) #[true, true, true, true, true, true, true, true, true, true, true, true, true, true, true, false, false, false, false, false, false] rfl rfl (by kernel_rfl) (fun _ _ _ h => h) (Or.inr ⟨by rfl, rfl⟩) ?_ ?_
          rotate_left
          · simp only [Act.put, List.setIfInBounds_toArray, List.set_cons_zero, List.set_cons_succ]
            rfl
          refine pure_ (i := 16) (N := some 46) (v := undef) (a' := ?_) #[true, true, true, true, true, true, true, true, true, true, true, true, true, true, true, false, true, false, false, false, false] rfl rfl (by kernel_rfl) (fun _ _ _ h => h) (Or.inr ⟨by rfl, rfl⟩) ?_ ?_
          rotate_left
          · simp only [Act.put, List.setIfInBounds_toArray, List.set_cons_zero, List.set_cons_succ]
            rfl
          refine pure_ (i := 15) (N := some 45) (v := undef) (a' := ?_) #[true, true, true, true, true, true, true, true, true, true, true, true, true, true, true, true, true, false, false, false, false] rfl rfl (by kernel_rfl) (fun _ _ _ h => h) (Or.inr ⟨by rfl, rfl⟩) ?_ ?_
          rotate_left
          · simp only [Act.put, List.setIfInBounds_toArray, List.set_cons_zero, List.set_cons_succ]
            rfl
          refine pure_ (i := 17) (N := some 47) (v := undef) (a' := ?_) #[true, true, true, true, true, true, true, true, true, true, true, true, true, true, true, true, true, true, false, false, false] rfl rfl (by kernel_rfl) (fun _ _ _ h => h) (Or.inr ⟨by rfl, rfl⟩) ?_ ?_
          rotate_left
          · simp only [Act.put, List.setIfInBounds_toArray, List.set_cons_zero, List.set_cons_succ]
            rfl
          refine pure_ (i := 18) (N := some 48) (v := ?_) (a' := ?_) #[true, true, true, true, true, true, true, true, true, true, true, true, true, true, true, true, true, true, true, false, false] rfl rfl (by kernel_rfl) (fun _ _ _ h => h) (Or.inl ⟨by rfl, ?_⟩) ?_ ?_
          rotate_left
          · intro w'
            go_simp
            with_reducible rfl
          rotate_left
          · simp only [Act.put, List.setIfInBounds_toArray, List.set_cons_zero, List.set_cons_succ]
            rfl
          refine pure_ (i := 19) (N := some 49) (v := ?_) (a' := ?_) #[true, true, true, true, true, true, true, true, true, true, true, true, true, true, true, true, true, true, true, true, false] rfl rfl (by kernel_rfl) (fun _ _ _ h => h) (Or.inl ⟨by rfl, ?_⟩) ?_ ?_
          rotate_left
          · intro w'
            go_simp
            with_reducible rfl
          rotate_left
          · simp only [Act.put, List.setIfInBounds_toArray, List.set_cons_zero, List.set_cons_succ]
            rfl
          refine last_ (i := 20) (N := none) #[true, true, true, true, true, true, true, true, true, true, true, true, true, true, true, true, true, true, true, true, true] rfl rfl (by kernel_rfl) (by decide) (fun K hK => ?_)
          have hf := (Kd.R_cell false HRa.out x.f1 HX0.out (by rw [HQL.out]; exact (HXS.out x HYM.out).2))
          rw [HBT.out] at hf
          obtain ⟨hfc, hff⟩ := hf
          refine store_last_step (w1 := wa.setCell ⟨go, x.f1.toNat, none⟩ (.bool true)) rfl rfl (by first | (go_simp; done) | (go_simp; rfl)) ?_
          have HP := Kd.R_put HRa.out x.f1 (true)
          have HR9 := Aside0.mk HP.1
          clear HP hfc hff
          have HB9 := Aside0.mk (below_set (j := x.f1.toNat) (v := .bool true) HBa.out HGB.out)
          refine hK.out _ _ ?_
          clear hK K
          refine done_ (by kernel_rfl) ?_
          clear hHeld HRa HBa BKa
          go_wp2
          go_roundg g1
          case measure => omega
          case rel => exact ⟨i + 1, by rw [hw, Int.natCast_add]; rfl, by have := HI.out; omega, ⟨by rw [take_snoc _ _ _ HY.out, ← hotSel_snoc _ _ _ _ HX0.out, HQ.out, HBT.out]; exact hA.symm ▸ HR9.out⟩, HB9⟩
        | false =>
          by_cases hdir : dir < 0
          · have hA : (false || hotAt dir x) = true := by unfold hotAt; rw [decide_eq_true hdir]; rfl
            have hd1 : decide (dir < 0) = true := decide_eq_true hdir
            clear hdir
            refine start_ (n := 21) (S := fun w' => w'.cell? ⟨g8, 0, none⟩ = some (.int .u32 x.f0) ∧ w'.cell? ⟨g8, 1, none⟩ = some (.int .i64 x.f1) ∧ w'.cell? ⟨go, x.f1.toNat, none⟩ = some (.bool false)) (ds := [20]) #[false, false, false, false, false, false, false, false, false, false, false, false, false, false, false, false, false, false, false, false, false] (by kernel_rfl) rfl rfl ⟨k0, k1, hy_⟩ (fun hHeld => ?_)
            have BKa := Aside0.mk (blk_drew BKW.out)
            have HBa := Aside0.mk (below_drew1 HBW.out)
            have HRa := Aside0.mk (Kd.R_below HRW.out (below_drew1 (Below.refl W.heap.size W)))
            clear BKW HBW HRW k0 k1 hy_ hz_ HP
            generalize W.drew = wa at BKa HBa HRa hHeld ⊢
            refine pure_ (i := 0) (N := some 30) (v := ?_) (a' := ?_) #[true, false, false, false, false, false, false, false, false, false, false, false, false, false, false, false, false, false, false, false, false] rfl rfl (by kernel_rfl) (fun _ _ _ h => h) (Or.inl ⟨by rfl, ?_⟩) ?_ ?_
            rotate_left
            · intro w'
              go_simp
              with_reducible rfl
            rotate_left
            · simp only [Act.put, List.setIfInBounds_toArray, List.set_cons_zero, List.set_cons_succ]
              rfl
            refine pure_ (i := 1) (N := some 31) (v := ?_) (a' := ?_) #[true, true, false, false, false, false, false, false, false, false, false, false, false, false, false, false, false, false, false, false, false] rfl rfl (by kernel_rfl) (fun _ _ _ h => h) (Or.inl ⟨by rfl, ?_⟩) ?_ ?_
            rotate_left
            · intro w'
              go_simp
              with_reducible rfl
            rotate_left
            · simp only [Act.put, List.setIfInBounds_toArray, List.set_cons_zero, List.set_cons_succ]
              rfl
            refine take_ (i := 2) (N := some 32) (v := ?_) (a' := ?_) #[true, true, true, false, false, false, false, false, false, false, false, false, false, false, false, false, false, false, false, false, false] rfl rfl (by kernel_rfl) (fun _ _ _ h => h) (Or.inl ⟨by rfl, ?_⟩) hHeld ?_ ?_
            rotate_left
            · rintro w' ⟨s0, s1, s2⟩
              go_simp
              with_reducible rfl
            rotate_left
            · simp only [Act.put, List.setIfInBounds_toArray, List.set_cons_zero, List.set_cons_succ]
              rfl
            refine pure_ (i := 3) (N := some 33) (v := ?_) (a' := ?_) #[true, true, true, true, false, false, false, false, false, false, false, false, false, false, false, false, false, false, false, false, false] rfl rfl (by kernel_rfl) (fun _ _ _ h => h) (Or.inl ⟨by rfl, ?_⟩) ?_ ?_
            rotate_left
            · intro w'
              go_simp
              with_reducible rfl
            rotate_left
            · simp only [Act.put, List.setIfInBounds_toArray, List.set_cons_zero, List.set_cons_succ]
              rfl
            refine pure_ (i := 4) (N := some 34) (v := ?_) (a' := ?_) #[true, true, true, true, true, false, false, false, false, false, false, false, false, false, false, false, false, false, false, false, false] rfl rfl (by kernel_rfl) (fun _ _ _ h => h) (Or.inl ⟨by rfl, ?_⟩) ?_ ?_
            rotate_left
            · intro w'
              go_simp
              with_reducible rfl
            rotate_left
            · simp only [Act.put, List.setIfInBounds_toArray, List.set_cons_zero, List.set_cons_succ]
              rfl
            refine take_ (i := 5) (N := some 35) (v := ?_) (a' := ?_) #[true, true, true, true, true, true, false, false, false, false, false, false, false, false, false, false, false, false, false, false, false] rfl rfl (by kernel_rfl) (fun _ _ _ h => h) (Or.inl ⟨by rfl, ?_⟩) hHeld ?_ ?_
            rotate_left
            · rintro w' ⟨s0, s1, s2⟩
              go_simp
              with_reducible rfl
            rotate_left
            · simp only [Act.put, List.setIfInBounds_toArray, List.set_cons_zero, List.set_cons_succ]
              rfl
            refine pure_ (i := 6) (N := some 36) (v := ?_) (a' := ?_) #[true, true, true, true, true, true, true, false, false, false, false, false, false, false, false, false, false, false, false, false, false] rfl rfl (by kernel_rfl) (fun _ _ _ h => h) (Or.inl ⟨by rfl, ?_⟩) ?_ ?_
            rotate_left
            · intro w'
              go_simp
              with_reducible rfl
            rotate_left
            · simp only [Act.put, List.setIfInBounds_toArray, List.set_cons_zero, List.set_cons_succ]
              rfl
            refine take_ (i := 7) (N := some 37) (v := ?_) (a' := ?_) #[true, true, true, true, true, true, true, true, false, false, false, false, false, false, false, false, false, false, false, false, false] rfl rfl (by kernel_rfl) (fun _ _ _ h => h) (Or.inl ⟨by rfl, ?_⟩) hHeld ?_ ?_
            rotate_left
            · rintro w' ⟨s0, s1, s2⟩
              go_simp
              with_reducible rfl
            rotate_left
            · simp only [Act.put, List.setIfInBounds_toArray, List.set_cons_zero, List.set_cons_succ]
              rfl
            refine pure_ (i := 8) (N := some 38) (v := ?_) (a' := ?_) #[true, true, true, true, true, true, true, true, true, false, false, false, false, false, false, false, false, false, false, false, false] rfl rfl (by kernel_rfl) (fun _ _ _ h => h) (Or.inl ⟨by rfl, ?_⟩) ?_ ?_
            rotate_left
            · intro w'
              go_simp
              with_reducible rfl
            rotate_left
            · simp only [Act.put, List.setIfInBounds_toArray, List.set_cons_zero, List.set_cons_succ]
              rfl
            refine pure_ (i := 9) (N := some 39) (v := ?_) (a' := ?_) #[true, true, true, true, true, true, true, true, true, true, false, false, false, false, false, false, false, false, false, false, false] rfl rfl (by kernel_rfl) (fun _ _ _ h => h) (Or.inl ⟨by rfl, ?_⟩) ?_ ?_
            rotate_left
            · intro w'
              go_simp
              with_reducible rfl
            rotate_left
            · simp only [Act.put, List.setIfInBounds_toArray, List.set_cons_zero, List.set_cons_succ]
              rfl
            refine pure_ (i := 10) (N := some 40) (v := ?_) (a' := ?_) #[true, true, true, true, true, true, true, true, true, true, true, false, false, false, false, false, false, false, false, false, false] rfl rfl (by kernel_rfl) (fun _ _ _ h => h) (Or.inl ⟨by rfl, ?_⟩) ?_ ?_
            rotate_left
            · intro w'
              go_simp
              with_reducible rfl
            rotate_left
            · simp only [Act.put, List.setIfInBounds_toArray, List.set_cons_zero, List.set_cons_succ]
              rfl
            refine pure_ (i := 11) (N := some 41) (v := ?_) (a' := ?_) #[true, true, true, true, true, true, true, true, true, true, true, true, false, false, false, false, false, false, false, false, false] rfl rfl (by kernel_rfl) (fun _ _ _ h => h) (Or.inl ⟨by rfl, ?_⟩) ?_ ?_
            rotate_left
            · intro w'
              go_simp
              with_reducible rfl
            rotate_left
            · simp only [Act.put, List.setIfInBounds_toArray, List.set_cons_zero, List.set_cons_succ]
              rfl
            refine pure_ (i := 12) (N := some 42) (v := ?_) (a' := ?_) #[true, true, true, true, true, true, true, true, true, true, true, true, true, false, false, false, false, false, false, false, false] rfl rfl (by kernel_rfl) (fun _ _ _ h => h) (Or.inl ⟨by rfl, ?_⟩) ?_ ?_
            rotate_left
            · intro w'
              go_simp
              with_reducible rfl
            rotate_left
            · simp only [Act.put, List.setIfInBounds_toArray, List.set_cons_zero, List.set_cons_succ]
              rfl
            refine pure_ (i := 13) (N := some 43) (v := undef) (a' := ?_) #[true, true, true, true, true, true, true, true, true, true, true, true, true, true, false, false, false, false, false, false, false] rfl rfl (by kernel_rfl) (fun _ _ _ h => h) (Or.inr ⟨by rfl, rfl⟩) ?_ ?_
            rotate_left
            · simp only [Act.put, List.setIfInBounds_toArray, List.set_cons_zero, List.set_cons_succ]
              rfl
            refine pure_ (i := 14) (N := some 44) (v := undef) (a' := ?_) #[true, true, true, true, true, true, true, true, true, true, true, true, true, true, true, false, false, false, false, false, false] rfl rfl (by kernel_rfl) (fun _ _ _ h => h) (Or.inr ⟨by rfl, rfl⟩) ?_ ?_
            rotate_left
            · simp only [Act.put, List.setIfInBounds_toArray, List.set_cons_zero, List.set_cons_succ]
              rfl
            refine pure_ (i := 16) (N := some 46) (v := undef) (a' := ?_) #[true, true, true, true, true, true, true, true, true, true, true, true, true, true, true, false, true, false, false, false, false] rfl rfl (by kernel_rfl) (fun _ _ _ h => h) (Or.inr ⟨by rfl, rfl⟩) ?_ ?_
            rotate_left
            · simp only [Act.put, List.setIfInBounds_toArray, List.set_cons_zero, List.set_cons_succ]
              rfl
            refine pure_ (i := 15) (N := some 45) (v := undef) (a' := ?_) #[true, true, true, true, true, true, true, true, true, true, true, true, true, true, true, true, true, false, false, false, false] rfl rfl (by kernel_rfl) (fun _ _ _ h => h) (Or.inr ⟨by rfl, rfl⟩) ?_ ?_
            rotate_left
            · simp only [Act.put, List.setIfInBounds_toArray, List.set_cons_zero, List.set_cons_succ]
              rfl
            refine pure_ (i := 17) (N := some 47) (v := undef) (a' := ?_) #[true, true, true, true, true, true, true, true, true, true, true, true, true, true, true, true, true, true, false, false, false] rfl rfl (by kernel_rfl) (fun _ _ _ h => h) (Or.inr ⟨by rfl, rfl⟩) ?_ ?_
            rotate_left
            · simp only [Act.put, List.setIfInBounds_toArray, List.set_cons_zero, List.set_cons_succ]
              rfl
            refine pure_ (i := 18) (N := some 48) (v := ?_) (a' := ?_) #[true, true, true, true, true, true, true, true, true, true, true, true, true, true, true, true, true, true, true, false, false] rfl rfl (by kernel_rfl) (fun _ _ _ h => h) (Or.inl ⟨by rfl, ?_⟩) ?_ ?_
            rotate_left
            · intro w'
              go_simp
              with_reducible rfl
            rotate_left
            · simp only [Act.put, List.setIfInBounds_toArray, List.set_cons_zero, List.set_cons_succ]
              rfl
            refine pure_ (i := 19) (N := some 49) (v := ?_) (a' := ?_) #[true, true, true, true, true, true, true, true, true, true, true, true, true, true, true, true, true, true, true, true, false] rfl rfl (by kernel_rfl) (fun _ _ _ h => h) (Or.inl ⟨by rfl, ?_⟩) ?_ ?_
            rotate_left
            · intro w'
              go_simp
              with_reducible rfl
            rotate_left
            · simp only [Act.put, List.setIfInBounds_toArray, List.set_cons_zero, List.set_cons_succ]
              rfl
            refine last_ (i := 20) (N := none) #[true, true, true, true, true, true, true, true, true, true, true, true, true, true, true, true, true, true, true, true, true] rfl rfl (by kernel_rfl) (by decide) (fun K hK => ?_)
            have hf := (Kd.R_cell false HRa.out x.f1 HX0.out (by rw [HQL.out]; exact (HXS.out x HYM.out).2))
            rw [HBT.out] at hf
            obtain ⟨hfc, hff⟩ := hf
            refine store_last_step (w1 := wa.setCell ⟨go, x.f1.toNat, none⟩ (.bool true)) rfl rfl (by first | (go_simp; done) | (go_simp; rfl)) ?_
            have HP := Kd.R_put HRa.out x.f1 (true)
            have HR9 := Aside0.mk HP.1
            clear HP hfc hff
            have HB9 := Aside0.mk (below_set (j := x.f1.toNat) (v := .bool true) HBa.out HGB.out)
            refine hK.out _ _ ?_
            clear hK K
            refine done_ (by kernel_rfl) ?_
            clear hHeld HRa HBa BKa
            go_wp2
            go_roundg g1
            case measure => omega
            case rel => exact ⟨i + 1, by rw [hw, Int.natCast_add]; rfl, by have := HI.out; omega, ⟨by rw [take_snoc _ _ _ HY.out, ← hotSel_snoc _ _ _ _ HX0.out, HQ.out, HBT.out]; exact hA.symm ▸ HR9.out⟩, HB9⟩
          · have hA : (false || hotAt dir x) = decide (dirP x.f0 = dir) := by unfold hotAt; rw [decide_eq_false hdir]; rfl
            have hd1 : decide (dir < 0) = false := decide_eq_false hdir
            clear hdir
            refine start_ (n := 21) (S := fun w' => w'.cell? ⟨g8, 0, none⟩ = some (.int .u32 x.f0) ∧ w'.cell? ⟨g8, 1, none⟩ = some (.int .i64 x.f1) ∧ w'.cell? ⟨go, x.f1.toNat, none⟩ = some (.bool false)) (ds := [20]) #[false, false, false, false, false, false, false, false, false, false, false, false, false, false, false, false, false, false, false, false, false] (by kernel_rfl) rfl rfl ⟨k0, k1, hy_⟩ (fun hHeld => ?_)
            have BKa := Aside0.mk (blk_drew BKW.out)
            have HBa := Aside0.mk (below_drew1 HBW.out)
            have HRa := Aside0.mk (Kd.R_below HRW.out (below_drew1 (Below.refl W.heap.size W)))
            clear BKW HBW HRW k0 k1 hy_ hz_ HP
            generalize W.drew = wa at BKa HBa HRa hHeld ⊢
            refine pure_ (i := 0) (N := some 30) (v := ?_) (a' := ?_) #[true, false, false, false, false, false, false, false, false, false, false, false, false, false, false, false, false, false, false, false, false] rfl rfl (by kernel_rfl) (fun _ _ _ h => h) (Or.inl ⟨by rfl, ?_⟩) ?_ ?_
            rotate_left
            · intro w'
              go_simp
              with_reducible rfl
            rotate_left
            · simp only [Act.put, List.setIfInBounds_toArray, List.set_cons_zero, List.set_cons_succ]
              rfl
            refine pure_ (i := 1) (N := some 31) (v := ?_) (a' := ?_) #[true, true, false, false, false, false, false, false, false, false, false, false, false, false, false, false, false, false, false, false, false] rfl rfl (by kernel_rfl) (fun _ _ _ h => h) (Or.inl ⟨by rfl, ?_⟩) ?_ ?_
            rotate_left
            · intro w'
              go_simp
              with_reducible rfl
            rotate_left
            · simp only [Act.put, List.setIfInBounds_toArray, List.set_cons_zero, List.set_cons_succ]
              rfl
            refine take_ (i := 2) (N := some 32) (v := ?_) (a' := ?_) #[true, true, true, false, false, false, false, false, false, false, false, false, false, false, false, false, false, false, false, false, false] rfl rfl (by kernel_rfl) (fun _ _ _ h => h) (Or.inl ⟨by rfl, ?_⟩) hHeld ?_ ?_
            rotate_left
            · rintro w' ⟨s0, s1, s2⟩
              go_simp
              with_reducible rfl
            rotate_left
            · simp only [Act.put, List.setIfInBounds_toArray, List.set_cons_zero, List.set_cons_succ]
              rfl
            refine pure_ (i := 3) (N := some 33) (v := ?_) (a' := ?_) #[true, true, true, true, false, false, false, false, false, false, false, false, false, false, false, false, false, false, false, false, false] rfl rfl (by kernel_rfl) (fun _ _ _ h => h) (Or.inl ⟨by rfl, ?_⟩) ?_ ?_
            rotate_left
            · intro w'
              go_simp
              with_reducible rfl
            rotate_left
            · simp only [Act.put, List.setIfInBounds_toArray, List.set_cons_zero, List.set_cons_succ]
              rfl
            refine pure_ (i := 4) (N := some 34) (v := ?_) (a' := ?_) #[true, true, true, true, true, false, false, false, false, false, false, false, false, false, false, false, false, false, false, false, false] rfl rfl (by kernel_rfl) (fun _ _ _ h => h) (Or.inl ⟨by rfl, ?_⟩) ?_ ?_
            rotate_left
            · intro w'
              go_simp
              with_reducible rfl
            rotate_left
            · simp only [Act.put, List.setIfInBounds_toArray, List.set_cons_zero, List.set_cons_succ]
              rfl
            refine take_ (i := 5) (N := some 35) (v := ?_) (a' := ?_) #[true, true, true, true, true, true, false, false, false, false, false, false, false, false, false, false, false, false, false, false, false] rfl rfl (by kernel_rfl) (fun _ _ _ h => h) (Or.inl ⟨by rfl, ?_⟩) hHeld ?_ ?_
            rotate_left
            · rintro w' ⟨s0, s1, s2⟩
              go_simp
              with_reducible rfl
            rotate_left
            · simp only [Act.put, List.setIfInBounds_toArray, List.set_cons_zero, List.set_cons_succ]
              rfl
            refine pure_ (i := 6) (N := some 36) (v := ?_) (a' := ?_) #[true, true, true, true, true, true, true, false, false, false, false, false, false, false, false, false, false, false, false, false, false] rfl rfl (by kernel_rfl) (fun _ _ _ h => h) (Or.inl ⟨by rfl, ?_⟩) ?_ ?_
            rotate_left
            · intro w'
              go_simp
              with_reducible rfl
            rotate_left
            · simp only [Act.put, List.setIfInBounds_toArray, List.set_cons_zero, List.set_cons_succ]
              rfl
            refine take_ (i := 7) (N := some 37) (v := ?_) (a' := ?_) #[true, true, true, true, true, true, true, true, false, false, false, false, false, false, false, false, false, false, false, false, false] rfl rfl (by kernel_rfl) (fun _ _ _ h => h) (Or.inl ⟨by rfl, ?_⟩) hHeld ?_ ?_
            rotate_left
            · rintro w' ⟨s0, s1, s2⟩
              go_simp
              with_reducible rfl
            rotate_left
            · simp only [Act.put, List.setIfInBounds_toArray, List.set_cons_zero, List.set_cons_succ]
              rfl
            refine pure_ (i := 8) (N := some 38) (v := ?_) (a' := ?_) #[true, true, true, true, true, true, true, true, true, false, false, false, false, false, false, false, false, false, false, false, false] rfl rfl (by kernel_rfl) (fun _ _ _ h => h) (Or.inl ⟨by rfl, ?_⟩) ?_ ?_
            rotate_left
            · intro w'
              go_simp
              with_reducible rfl
            rotate_left
            · simp only [Act.put, List.setIfInBounds_toArray, List.set_cons_zero, List.set_cons_succ]
              rfl
            refine pure_ (i := 9) (N := some 39) (v := ?_) (a' := ?_) #[true, true, true, true, true, true, true, true, true, true, false, false, false, false, false, false, false, false, false, false, false] rfl rfl (by kernel_rfl) (fun _ _ _ h => h) (Or.inl ⟨by rfl, ?_⟩) ?_ ?_
            rotate_left
            · intro w'
              go_simp
              with_reducible rfl
            rotate_left
            · simp only [Act.put, List.setIfInBounds_toArray, List.set_cons_zero, List.set_cons_succ]
              rfl
            refine pure_ (i := 10) (N := some 40) (v := ?_) (a' := ?_) #[true, true, true, true, true, true, true, true, true, true, true, false, false, false, false, false, false, false, false, false, false] rfl rfl (by kernel_rfl) (fun _ _ _ h => h) (Or.inl ⟨by rfl, ?_⟩) ?_ ?_
            rotate_left
            · intro w'
              go_simp
              with_reducible rfl
            rotate_left
            · simp only [Act.put, List.setIfInBounds_toArray, List.set_cons_zero, List.set_cons_succ]
              rfl
            refine pure_ (i := 11) (N := some 41) (v := ?_) (a' := ?_) #[true, true, true, true, true, true, true, true, true, true, true, true, false, false, false, false, false, false, false, false, false] rfl rfl (by kernel_rfl) (fun _ _ _ h => h) (Or.inl ⟨by rfl, ?_⟩) ?_ ?_
            rotate_left
            · intro w'
              go_simp
              with_reducible rfl
            rotate_left
            · simp only [Act.put, List.setIfInBounds_toArray, List.set_cons_zero, List.set_cons_succ]
              rfl
            refine pure_ (i := 12) (N := some 42) (v := ?_) (a' := ?_) #[true, true, true, true, true, true, true, true, true, true, true, true, true, false, false, false, false, false, false, false, false] rfl rfl (by kernel_rfl) (fun _ _ _ h => h) (Or.inl ⟨by rfl, ?_⟩) ?_ ?_
            rotate_left
            · intro w'
              go_simp
              with_reducible rfl
            rotate_left
            · simp only [Act.put, List.setIfInBounds_toArray, List.set_cons_zero, List.set_cons_succ]
              rfl
            refine pure_ (i := 13) (N := some 43) (v := ?_) (a' := ?_) #[true, true, true, true, true, true, true, true, true, true, true, true, true, true, false, false, false, false, false, false, false] rfl rfl (by kernel_rfl) (fun _ _ _ h => h) (Or.inl ⟨by rfl, ?_⟩) ?_ ?_
            rotate_left
            · intro w'
              go_simp
              with_reducible rfl
            rotate_left
            · simp only [Act.put, List.setIfInBounds_toArray, List.set_cons_zero, List.set_cons_succ]
              rfl
            refine take_ (i := 14) (N := some 44) (v := ?_) (a' := ?_) #[true, true, true, true, true, true, true, true, true, true, true, true, true, true, true, false, false, false, false, false, false] rfl rfl (by kernel_rfl) (fun _ _ _ h => h) (Or.inl ⟨by rfl, ?_⟩) hHeld ?_ ?_
            rotate_left
            · rintro w' ⟨s0, s1, s2⟩
              go_simp
              with_reducible rfl
            rotate_left
            · simp only [Act.put, List.setIfInBounds_toArray, List.set_cons_zero, List.set_cons_succ]
              rfl
            refine pure_ (i := 16) (N := some 46) (v := ?_) (a' := ?_) #[true, true, true, true, true, true, true, true, true, true, true, true, true, true, true, false, true, false, false, false, false] rfl rfl (by kernel_rfl) (fun _ _ _ h => h) (Or.inl ⟨by rfl, ?_⟩) ?_ ?_
            rotate_left
            · intro w'
              go_simp
              with_reducible rfl
            rotate_left
            · simp only [Act.put, List.setIfInBounds_toArray, List.set_cons_zero, List.set_cons_succ]
              rfl
            refine one_ (i := 15) (N := some 45) #[true, true, true, true, true, true, true, true, true, true, true, true, true, true, true, true, true, false, false, false, false] rfl rfl (by kernel_rfl) (by decide) (fun K hK => ?_)
            refine goes_ Try.func21 (by kernel_rfl) rfl #[.int .u32 x.f0] (by rfl) rfl rfl (by (try simp only [List.map_toArray, List.map_cons, List.map_nil]); first | done | rfl) ?_
            refine (Dir_is x.f0 _).mono ?_
            rintro e wb ⟨rfl, ⟨nb, hwb⟩⟩
            refine ⟨_, rfl, ?_⟩
            have hbb : Below wa.heap.size wa wb := by rw [hwb]; exact pw_below_drewN (Below.refl _ _) nb
            have BKb := Aside0.mk (blk_below BKa.out hbb)
            have HBb := Aside0.mk (thn5 HBa.out hbb)
            have HRb := Aside0.mk (Kd.R_below HRa.out hbb)
            have hsb := (Kd.R_cell false HRb.out x.f1 HX0.out (by rw [HQL.out]; exact (HXS.out x HYM.out).2)).1
            rw [HBT.out] at hsb
            clear hwb hbb BKa HBa HRa
            have BKa := BKb
            have HBa := HBb
            have HRa := HRb
            clear BKb HBb HRb
            refine hK.out _ _ ⟨(blk_cell BKa.out 0).trans rfl, (blk_cell BKa.out 1).trans rfl, hsb⟩ (fun hHeld => ?_)
            clear hK K hsb
            refine norm_ (a' := ?_) ?_ ?_
            rotate_left
            · show Act.put _ (some 45) _ = _
              simp only [Act.put, List.setIfInBounds_toArray, List.set_cons_zero, List.set_cons_succ]
              rfl
            refine pure_ (i := 17) (N := some 47) (v := ?_) (a' := ?_) #[true, true, true, true, true, true, true, true, true, true, true, true, true, true, true, true, true, true, false, false, false] rfl rfl (by kernel_rfl) (fun _ _ _ h => h) (Or.inl ⟨by rfl, ?_⟩) ?_ ?_
            rotate_left
            · intro w'
              go_simp
              with_reducible rfl
            rotate_left
            · simp only [Act.put, List.setIfInBounds_toArray, List.set_cons_zero, List.set_cons_succ]
              rfl
            refine pure_ (i := 18) (N := some 48) (v := ?_) (a' := ?_) #[true, true, true, true, true, true, true, true, true, true, true, true, true, true, true, true, true, true, true, false, false] rfl rfl (by kernel_rfl) (fun _ _ _ h => h) (Or.inl ⟨by rfl, ?_⟩) ?_ ?_
            rotate_left
            · intro w'
              go_simp
              with_reducible rfl
            rotate_left
            · simp only [Act.put, List.setIfInBounds_toArray, List.set_cons_zero, List.set_cons_succ]
              rfl
            refine pure_ (i := 19) (N := some 49) (v := ?_) (a' := ?_) #[true, true, true, true, true, true, true, true, true, true, true, true, true, true, true, true, true, true, true, true, false] rfl rfl (by kernel_rfl) (fun _ _ _ h => h) (Or.inl ⟨by rfl, ?_⟩) ?_ ?_
            rotate_left
            · intro w'
              go_simp
              with_reducible rfl
            rotate_left
            · simp only [Act.put, List.setIfInBounds_toArray, List.set_cons_zero, List.set_cons_succ]
              rfl
            refine last_ (i := 20) (N := none) #[true, true, true, true, true, true, true, true, true, true, true, true, true, true, true, true, true, true, true, true, true] rfl rfl (by kernel_rfl) (by decide) (fun K hK => ?_)
            have hf := (Kd.R_cell false HRa.out x.f1 HX0.out (by rw [HQL.out]; exact (HXS.out x HYM.out).2))
            rw [HBT.out] at hf
            obtain ⟨hfc, hff⟩ := hf
            refine store_last_step (w1 := wb.setCell ⟨go, x.f1.toNat, none⟩ (.bool (decide (dirP x.f0 = dir)))) rfl rfl (by first | (go_simp; done) | (go_simp; rfl)) ?_
            have HP := Kd.R_put HRa.out x.f1 ((decide (dirP x.f0 = dir)))
            have HR9 := Aside0.mk HP.1
            clear HP hfc hff
            have HB9 := Aside0.mk (below_set (j := x.f1.toNat) (v := .bool (decide (dirP x.f0 = dir))) HBa.out HGB.out)
            refine hK.out _ _ ?_
            clear hK K
            refine done_ (by kernel_rfl) ?_
            clear hHeld HRa HBa BKa
            go_wp2
            go_roundg g1
            case measure => omega
            case rel => exact ⟨i + 1, by rw [hw, Int.natCast_add]; rfl, by have := HI.out; omega, ⟨by rw [take_snoc _ _ _ HY.out, ← hotSel_snoc _ _ _ _ HX0.out, HQ.out, HBT.out]; exact hA.symm ▸ HR9.out⟩, HB9⟩
end Go.Proofs.Ytbkamlkmimfomaa
