/-
  How loads lean: its contract.
  Conditions: none.
-/
import Derived.Test.YtbkamlkmimfomaaPd
namespace Go.Proofs.Ytbkamlkmimfomaa
open Go.RowKit Go.Proofs.YtbkamlkmimfomaaW.PrintWords Go.Proofs.YtbkamlkmimfomaaW.PrintLast Go.Proofs.YtbkamlkmimfomaaFl Go.Proofs.YtbkamlkmimfomaaG Go.Proofs.Ytbkamlkmimfomaa.PGa
set_option linter.unusedVariables false
set_option linter.unusedSimpArgs false

/-- Rows of complex numbers. -/
def kC : Kd (Nat × Nat) := Kd.scalar (fun p => .complex .f64 p.1 p.2) (fun _ => rfl)
theorem kC_lies {w : World} {A : Option Addr} {n : Nat} {l : List (Nat × Nat)} (h : Kd.C kC w A n l) (hn : n = l.length) : Lies w A l := by
  intro j v hj
  have hjl := (List.getElem?_eq_some_iff.1 hj).1
  obtain ⟨ad, e, hc⟩ := (Kd.reads_of_C (enc := fun p : Nat × Nat => Value.complex .f64 p.1 p.2) (d := (0, 0)) (h1 := fun _ => rfl) h).at_ (j : Int) (by omega) (by omega)
  refine ⟨ad, e, ?_⟩
  rw [Int.toNat_natCast] at hc
  rw [hc]
  simp [rdOf, hj]
theorem quo_is (a b : Int) (h0 : 0 ≤ a) (h1 : a ≤ 1099511627776) (hb : 1 ≤ b) (w : World) : (binOp .quo 3 (.int .i64 a) (.int .i64 b)).run Try.prog w = .ok (.int .i64 (a / b)) w := by
  have hb0 : (b = 0) = False := eq_false (by omega)
  have hw : IntKind.i64.wrap (a.tdiv b) = a / b := IntWalk.i64_quo a b ⟨h0, by omega, hb⟩
  go_simp
/-- What each arc's load leans. -/
def leanOf (loads : List Int) (l : List S46) (x : S46) : Nat × Nat := pLean x.f0 (ldP loads x.f1 / (cntA l x.f1.toNat : Nat))
def leanC (ep : Int) (l : List S46) (ns loads : List Int) : C := if mayT ep l ns = true then csum (crd (0, 0)) (l.map (leanOf loads l)) else crd (0, 0)
theorem cells3 {W0 w' : World} {a b c : Addr} {u v t : Value} (h0 : W0.cell? a = some u) (h1 : W0.cell? b = some v) (h2 : W0.cell? c = some t) (hb : Below W0.heap.size W0 w') : w'.cell? a = some u ∧ w'.cell? b = some v ∧ w'.cell? c = some t :=
  ⟨(hb.cell (World.block_lt_of_cell? _ _ h0)).trans h0, (hb.cell (World.block_lt_of_cell? _ _ h1)).trans h1, (hb.cell (World.block_lt_of_cell? _ _ h2)).trans h2⟩
theorem map_snoc {α β : Type} (f : α → β) (l : List α) (i : Nat) (y : α) (h : l[i]? = some y) : (l.take (i + 1)).map f = (l.take i).map f ++ [f y] := by
  rw [take_snoc l i y h, List.map_append]
  rfl
theorem cntA_pos {l : List S46} {x : S46} (hx : x ∈ l) (h0 : 0 ≤ x.f1) : 1 ≤ cntA l x.f1.toNat := by
  unfold cntA
  exact List.countP_pos_iff.2 ⟨x, hx, by rw [decide_eq_true_eq]; omega⟩
set_option maxHeartbeats 8000000 in
set_option maxRecDepth 100000 in
theorem Lean_is (ep : Int) (A1 : Option Addr) (c1 : Nat) (l : List S46) (A2 : Option Addr) (c2 : Nat) (ns : List Int) (A3 : Option Addr) (c3 : Nat) (loads : List Int) (w : World) (hr1 : Kd.C k46 w A1 l.length l) (hc1 : l.length ≤ c1) (hr2 : Kd.C (Kd.int .i64) w A2 ns.length ns) (hc2 : ns.length ≤ c2) (hr3 : Kd.C (Kd.int .i64) w A3 loads.length loads) (hc3 : loads.length ≤ c3) :
    Calls Try.prog 11 #[.agg (cT ep A1 l.length c1 A2 ns.length c2), .slice A3 loads.length c3] w fun e w' => ∃ r i, e = .returned (.complex .f64 r i) ∧ crd (r, i) = leanC ep l ns loads ∧ Below w.heap.size w w' := by
  have HR1 := Aside0.mk hr1
  have HC1 := Aside0.mk hc1
  have HR2 := Aside0.mk hr2
  have HC2 := Aside0.mk hc2
  have HR3 := Aside0.mk hr3
  have HC3 := Aside0.mk hc3
  have hu := Try.underlying25
  have hu46 := Try.underlying46
  clear hr1 hc1 hr2 hc2 hr3 hc3
  cases hm : mayT ep l ns with
  | false =>
    have HM := Aside0.mk hm
    have HV : Aside0 (leanC ep l ns loads = crd (0, 0)) := ⟨if_neg (by rw [hm]; decide)⟩
    clear hm
    go_enter Try.func11, Try.ntmps11
    go_wp2_with (first
      | ((with_reducible refine gate_dst (N := 2) rfl ?_); refine box_event ?hg (N := 2) ?hd (cs := cT ep A1 l.length c1 A2 ns.length c2) (t := 25) ?hr ?_; (case hd => rfl); (case hg => rfl); (case hr => first | (go_simp; done) | (go_simp; rfl)); intro g2 hg w2 hbox hb; have HB := Aside0.mk hb; have HX := Aside0.mk hbox; have h0 : w2.cell? ⟨g2, 0, none⟩ = some (.int .i64 ep) := (blk_cell hbox 0).trans rfl; have h1 : w2.cell? ⟨g2, 1, none⟩ = some (.slice A1 l.length c1) := (blk_cell hbox 1).trans rfl; have h2 : w2.cell? ⟨g2, 2, none⟩ = some (.slice A2 ns.length c2) := (blk_cell hbox 2).trans rfl; clear hb hbox hg))
    refine wp_scope_g ?_
    intro G hG
    go_wp2_with (first
      | (go_at_call 17; with_reducible refine (May_is ep A1 c1 l A2 c2 ns _ (Kd.C_below HR1.out HB.out) HC1.out (Kd.C_below HR2.out HB.out) HC2.out).mono ?_; rintro e w3 ⟨rfl, hb⟩; have HB3 := Aside0.mk (thn5 HB.out hb); have HX3 := Aside0.mk (blk_below HX.out hb); have k0 : w3.cell? ⟨g2, 0, none⟩ = some (.int .i64 ep) := (blk_cell HX3.out 0).trans rfl; have k1 : w3.cell? ⟨g2, 1, none⟩ = some (.slice A1 l.length c1) := (blk_cell HX3.out 1).trans rfl; have k2 : w3.cell? ⟨g2, 2, none⟩ = some (.slice A2 ns.length c2) := (blk_cell HX3.out 2).trans rfl; clear hb; rw [HM.out]))
    try rw [scoped_ret]
    go_ret
    exact ⟨0, 0, rfl, HV.out.symm, HB3.out⟩
  | true =>
    have HM := Aside0.mk hm
    have HV : Aside0 (leanC ep l ns loads = csum (crd (0, 0)) (l.map (leanOf loads l))) := ⟨if_pos hm⟩
    have HL : Aside0 (1 ≤ l.length ∧ l.length ≤ 1024 ∧ 1 ≤ ns.length ∧ ns.length ≤ 16) := ⟨by have := mayT_facts hm; exact ⟨this.1, this.2.1, this.2.2.1, this.2.2.2.1⟩⟩
    have HXS : Aside0 (∀ x ∈ l, 0 ≤ x.f1 ∧ x.f1 < (ns.length : Int)) := ⟨fun x hx => ⟨((mayT_facts hm).2.2.2.2.1 x hx).1, ((mayT_facts hm).2.2.2.2.1 x hx).2.1⟩⟩
    clear hm
    go_enter Try.func11, Try.ntmps11
    go_wp2_with (first
      | ((with_reducible refine gate_dst (N := 2) rfl ?_); refine box_event ?hg (N := 2) ?hd (cs := cT ep A1 l.length c1 A2 ns.length c2) (t := 25) ?hr ?_; (case hd => rfl); (case hg => rfl); (case hr => first | (go_simp; done) | (go_simp; rfl)); intro g2 hg w2 hbox hb; have HB := Aside0.mk hb; have HX := Aside0.mk hbox; have h0 : w2.cell? ⟨g2, 0, none⟩ = some (.int .i64 ep) := (blk_cell hbox 0).trans rfl; have h1 : w2.cell? ⟨g2, 1, none⟩ = some (.slice A1 l.length c1) := (blk_cell hbox 1).trans rfl; have h2 : w2.cell? ⟨g2, 2, none⟩ = some (.slice A2 ns.length c2) := (blk_cell hbox 2).trans rfl; clear hb hbox hg))
    refine wp_scope_g ?_
    intro G hG
    go_wp2_with (first
      | (go_at_call 17; with_reducible refine (May_is ep A1 c1 l A2 c2 ns _ (Kd.C_below HR1.out HB.out) HC1.out (Kd.C_below HR2.out HB.out) HC2.out).mono ?_; rintro e w3 ⟨rfl, hb⟩; have HB3 := Aside0.mk (thn5 HB.out hb); have HX3 := Aside0.mk (blk_below HX.out hb); have k0 : w3.cell? ⟨g2, 0, none⟩ = some (.int .i64 ep) := (blk_cell HX3.out 0).trans rfl; have k1 : w3.cell? ⟨g2, 1, none⟩ = some (.slice A1 l.length c1) := (blk_cell HX3.out 1).trans rfl; have k2 : w3.cell? ⟨g2, 2, none⟩ = some (.slice A2 ns.length c2) := (blk_cell HX3.out 2).trans rfl; clear hb; rw [HM.out])
      | (go_at_call 30; with_reducible refine (Arcs_is ep A1 c1 l A2 c2 ns _ (Kd.C_below HR1.out HB3.out) HC1.out (Kd.C_below HR2.out HB3.out) HC2.out HM.out).mono ?_; rintro e w4 ⟨v, rfl, hv, hb⟩; have HV4 := Aside0.mk hv; have HB4 := Aside0.mk (thn5 HB3.out hb); have HX4 := Aside0.mk (blk_below HX3.out hb); clear hb hv))
    obtain ⟨A4, c4, rfl, hc4, hC4⟩ := Kd.R_reads HV4.out
    rw [manyP_length] at hC4 hc4 ⊢
    have HC4 := Aside0.mk hC4
    clear hC4 hc4 HV4 k0 k1 k2
    refine wp_label ?_
    go_step
    go_step
    (try simp only [Act.put, List.setIfInBounds_toArray, List.set_cons_zero, List.set_cons_succ])
    refine rest_loop hG 0 (by rfl) [false, false, false, false, false, true, false, true, true, true, true, true, true, true, true, true, true, true, true, true, true, true, true, true, true, true, true, true, true, true, true, true, true, true, true, true, true, true, true, true, true, true, true, true] ?hm l.length (fun kq us wr => ∃ (i : Nat) (lv : Value), us.getD 0 undef = lv ∧ us.getD 1 undef = .int .i64 i ∧ kq + i = l.length ∧ Aside0 (Kd.R kC 29 wr w4.heap.size (fun _ => True) lv ((l.take i).map (leanOf loads l))) ∧ Aside0 (Below w4.heap.size w4 wr)) ?atStart ?round
    case hm => rfl
    case atStart => exact ⟨0, .slice none 0 0, rfl, rfl, rfl, ⟨Kd.R_nil _ _ _ _ _⟩, ⟨Below.refl w4.heap.size w4⟩⟩
    case round =>
      intro u5 u7 u8 u9 u10 u11 u12 u13 u14 u15 u16 u17 u18 u19 u20 u21 u22 u23 u24 u25 u26 u27 u28 u29 u30 u31 u32 u33 u34 u35 u36 u37 u38 u39 u40 u41 u42 u43 kq wr hrel IH
      dsimp only [fillM]
      obtain ⟨i, lv, e5, e7, hki, HRR, HB⟩ := hrel
      have e5 : u5 = lv := e5
      have e7 : u7 = .int .i64 i := e7
      subst e5 e7
      have hX := blk_below HX4.out HB.out
      have k1 : wr.cell? ⟨g2, 1, none⟩ = some (.slice A1 l.length c1) := (blk_cell hX 1).trans rfl
      clear hX
      have HI := Aside0.mk hki
      by_cases hlt : i < l.length
      · have hi : (i : Int) < (l.length : Int) := by omega
        have hi0 : 0 ≤ (i : Int) := by omega
        obtain ⟨ad, e1, hx0, hx1⟩ := at_T46 HR1.out i hi0 hi
        cases e1
        obtain ⟨x, hx⟩ : ∃ x, rd_T46 l (i : Int) = x := ⟨_, rfl⟩
        have HY : Aside0 (l[i]? = some x) := ⟨by rw [← hx]; exact rd46_at l i hlt⟩
        have HYM : Aside0 (x ∈ l) := ⟨List.mem_of_getElem? HY.out⟩
        rw [hx, Int.toNat_natCast] at hx0 hx1
        replace hx0 := ((thn5 HB4.out HB.out).cell (World.block_lt_of_cell? w _ hx0)).trans hx0
        replace hx1 := ((thn5 HB4.out HB.out).cell (World.block_lt_of_cell? w _ hx1)).trans hx1
        have HN := Aside0.mk hlt
        clear hki hx hlt
        go_wp2_with (first
          | ((with_reducible refine gate_dst (N := 8) rfl ?_); refine box_event ?hg (N := 8) ?hd (cs := #[.int .u32 0, .int .i64 0]) (t := 46) ?hr ?_; (case hd => rfl); (case hg => rfl); (case hr => first | (go_simp; done) | (go_simp; rfl)); intro g8 hg w5 hbox hb; have HB5 := Aside0.mk (thn5 HB.out hb); have HBr := Aside0.mk hb; have HX5 := Aside0.mk hbox; have HG8 : Aside0 (w4.heap.size ≤ g8) := ⟨by rw [hg]; exact HB.out.size⟩; have z0 : w5.cell? ⟨g8, 0, none⟩ = some (.int .u32 0) := (blk_cell hbox 0).trans rfl; have z1 : w5.cell? ⟨g8, 1, none⟩ = some (.int .i64 0) := (blk_cell hbox 1).trans rfl; have f0 := blk_frozen hbox 0; have f1 := blk_frozen hbox 1; clear hb hbox hg))
        have HX0 : Aside0 (0 ≤ x.f1) := ⟨(HXS.out x HYM.out).1⟩
        have hx0' := HX0.out
        have hxl := (HXS.out x HYM.out).2
        obtain ⟨adm, e4, hmc⟩ := Kd.at_int HC4.out x.f1 hx0' hxl
        cases e4
        rw [manyP_rd _ _ _ hx0' hxl] at hmc
        obtain ⟨cn, hcn⟩ : ∃ cn : Int, ((cntA l x.f1.toNat : Nat) : Int) = cn := ⟨_, rfl⟩
        rw [hcn] at hmc
        have HMC := Aside0.mk hmc
        obtain ⟨ld, hld⟩ : ∃ ld, ldP loads x.f1 = ld := ⟨_, rfl⟩
        have HLD := Aside0.mk hld
        obtain ⟨pl, hpl⟩ : ∃ pl, pLean x.f0 (ld / cn) = pl := ⟨_, rfl⟩
        have HPL := Aside0.mk hpl
        have HPX : Aside0 (leanOf loads l x = pl) := ⟨by unfold leanOf; rw [hcn, hld, hpl]⟩
        have hcz : (cn = 0) = False := eq_false (by have := cntA_pos HYM.out hx0'; omega)
        have hqw : IntKind.i64.wrap (ld.tdiv cn) = ld / cn := IntWalk.i64_quo ld cn ⟨by have := (ldP_range loads x.f1).1; omega, by have := (ldP_range loads x.f1).2; omega, by have := cntA_pos HYM.out hx0'; omega⟩
        have hx0'' := eq_true hx0'
        have hxl' := eq_true hxl
        have hxn : (x.f1 < 0) = False := eq_false (by omega)
        clear hx0' hxl hmc hcn hld hpl
        refine wp_gen (fun W => (W.heap[g8]? = some (.cells #[.int .u32 x.f0, .int .i64 x.f1] 46 (0, 0))) ∧ Below w4.heap.size w4 W ∧ Kd.R kC 29 W w4.heap.size (fun _ => True) u5 ((l.take i).map (leanOf loads l))) ?gen0 ?gen1
        case gen0 =>
          refine ⟨blk_put (blk_put HX5.out 0 _ rfl) 1 _ rfl, below_set (below_set HB5.out HG8.out) HG8.out, ?_⟩
          refine Kd.R_set (Kd.R_set (Kd.R_below HRR.out HBr.out) HX5.out (by decide) 0 _) (blk_put HX5.out 0 _ rfl) (by decide) 1 _
        case gen1 =>
         intro W hW
         have BKW := Aside0.mk hW.1
         have HBW := Aside0.mk hW.2.1
         have HRW := Aside0.mk hW.2.2
         clear hW HX5 HB5 HG8 HBr HRR z0 z1 f0 f1 k1
         refine start_ (n := 17) (S := fun w' => w'.cell? ⟨g8, 0, none⟩ = some (.int .u32 x.f0) ∧ w'.cell? ⟨g8, 1, none⟩ = some (.int .i64 x.f1) ∧ w'.cell? (adm.add x.f1.toNat) = some (.int .i64 cn)) (ds := []) #[false, false, false, false, false, false, false, false, false, false, false, false, false, false, false, false, false] (by kernel_rfl) rfl rfl ⟨(blk_cell (blk_drew BKW.out) 0).trans rfl, (blk_cell (blk_drew BKW.out) 1).trans rfl, ((below_drew1 HBW.out).cell (World.block_lt_of_cell? w4 _ HMC.out)).trans HMC.out⟩ (fun hHeld => ?_)
         have BKa := Aside0.mk (blk_drew BKW.out)
         have HBa := Aside0.mk (below_drew1 HBW.out)
         have HRa := Aside0.mk (Kd.R_below HRW.out (below_drew1 (Below.refl W.heap.size W)))
         clear BKW HBW HRW
         generalize W.drew = wa at BKa HBa HRa hHeld ⊢
         refine pure_ (i := 0) (N := some 24) (v := ?_) (a' := ?_) #[true, false, false, false, false, false, false, false, false, false, false, false, false, false, false, false, false] rfl rfl (by kernel_rfl) (fun _ _ _ h => h) (Or.inl ⟨by rfl, ?_⟩) ?_ ?_
         rotate_left
         · intro w'
           go_simp
           with_reducible rfl
         rotate_left
         · simp only [Act.put, List.setIfInBounds_toArray, List.set_cons_zero, List.set_cons_succ]
           rfl
         refine pure_ (i := 1) (N := some 25) (v := ?_) (a' := ?_) #[true, true, false, false, false, false, false, false, false, false, false, false, false, false, false, false, false] rfl rfl (by kernel_rfl) (fun _ _ _ h => h) (Or.inl ⟨by rfl, ?_⟩) ?_ ?_
         rotate_left
         · intro w'
           go_simp
           with_reducible rfl
         rotate_left
         · simp only [Act.put, List.setIfInBounds_toArray, List.set_cons_zero, List.set_cons_succ]
           rfl
         refine take_ (i := 2) (N := some 26) (v := ?_) (a' := ?_) #[true, true, true, false, false, false, false, false, false, false, false, false, false, false, false, false, false] rfl rfl (by kernel_rfl) (fun _ _ _ h => h) (Or.inl ⟨by rfl, ?_⟩) hHeld ?_ ?_
         rotate_left
         · rintro w' ⟨s0, s1, s2⟩
           go_simp
           with_reducible rfl
         rotate_left
         · simp only [Act.put, List.setIfInBounds_toArray, List.set_cons_zero, List.set_cons_succ]
           rfl
         refine pure_ (i := 3) (N := some 27) (v := ?_) (a' := ?_) #[true, true, true, true, false, false, false, false, false, false, false, false, false, false, false, false, false] rfl rfl (by kernel_rfl) (fun _ _ _ h => h) (Or.inl ⟨by rfl, ?_⟩) ?_ ?_
         rotate_left
         · intro w'
           go_simp
           with_reducible rfl
         rotate_left
         · simp only [Act.put, List.setIfInBounds_toArray, List.set_cons_zero, List.set_cons_succ]
           rfl
         refine pure_ (i := 4) (N := some 28) (v := ?_) (a' := ?_) #[true, true, true, true, true, false, false, false, false, false, false, false, false, false, false, false, false] rfl rfl (by kernel_rfl) (fun _ _ _ h => h) (Or.inl ⟨by rfl, ?_⟩) ?_ ?_
         rotate_left
         · intro w'
           go_simp
           with_reducible rfl
         rotate_left
         · simp only [Act.put, List.setIfInBounds_toArray, List.set_cons_zero, List.set_cons_succ]
           rfl
         refine take_ (i := 5) (N := some 29) (v := ?_) (a' := ?_) #[true, true, true, true, true, true, false, false, false, false, false, false, false, false, false, false, false] rfl rfl (by kernel_rfl) (fun _ _ _ h => h) (Or.inl ⟨by rfl, ?_⟩) hHeld ?_ ?_
         rotate_left
         · rintro w' ⟨s0, s1, s2⟩
           go_simp
           with_reducible rfl
         rotate_left
         · simp only [Act.put, List.setIfInBounds_toArray, List.set_cons_zero, List.set_cons_succ]
           rfl
         refine pure_ (i := 7) (N := some 31) (v := ?_) (a' := ?_) #[true, true, true, true, true, true, false, true, false, false, false, false, false, false, false, false, false] rfl rfl (by kernel_rfl) (fun _ _ _ h => h) (Or.inl ⟨by rfl, ?_⟩) ?_ ?_
         rotate_left
         · intro w'
           go_simp
           with_reducible rfl
         rotate_left
         · simp only [Act.put, List.setIfInBounds_toArray, List.set_cons_zero, List.set_cons_succ]
           rfl
         refine pure_ (i := 8) (N := some 32) (v := ?_) (a' := ?_) #[true, true, true, true, true, true, false, true, true, false, false, false, false, false, false, false, false] rfl rfl (by kernel_rfl) (fun _ _ _ h => h) (Or.inl ⟨by rfl, ?_⟩) ?_ ?_
         rotate_left
         · intro w'
           go_simp
           with_reducible rfl
         rotate_left
         · simp only [Act.put, List.setIfInBounds_toArray, List.set_cons_zero, List.set_cons_succ]
           rfl
         refine take_ (i := 9) (N := some 33) (v := ?_) (a' := ?_) #[true, true, true, true, true, true, false, true, true, true, false, false, false, false, false, false, false] rfl rfl (by kernel_rfl) (fun _ _ _ h => h) (Or.inl ⟨by rfl, ?_⟩) hHeld ?_ ?_
         rotate_left
         · rintro w' ⟨s0, s1, s2⟩
           go_simp
           with_reducible rfl
         rotate_left
         · simp only [Act.put, List.setIfInBounds_toArray, List.set_cons_zero, List.set_cons_succ]
           rfl
         refine pure_ (i := 10) (N := some 34) (v := ?_) (a' := ?_) #[true, true, true, true, true, true, false, true, true, true, true, false, false, false, false, false, false] rfl rfl (by kernel_rfl) (fun _ _ _ h => h) (Or.inl ⟨by rfl, ?_⟩) ?_ ?_
         rotate_left
         · intro w'
           go_simp
           with_reducible rfl
         rotate_left
         · simp only [Act.put, List.setIfInBounds_toArray, List.set_cons_zero, List.set_cons_succ]
           rfl
         refine take_ (i := 11) (N := some 35) (v := ?_) (a' := ?_) #[true, true, true, true, true, true, false, true, true, true, true, true, false, false, false, false, false] rfl rfl (by kernel_rfl) (fun _ _ _ h => h) (Or.inl ⟨by rfl, ?_⟩) hHeld ?_ ?_
         rotate_left
         · rintro w' ⟨s0, s1, s2⟩
           go_simp
           with_reducible rfl
         rotate_left
         · simp only [Act.put, List.setIfInBounds_toArray, List.set_cons_zero, List.set_cons_succ]
           rfl
         refine one_ (i := 6) (N := some 30) #[true, true, true, true, true, true, true, true, true, true, true, true, false, false, false, false, false] rfl rfl (by kernel_rfl) (by decide) (fun K hK => ?_)
         refine goes_ Try.func32 (by kernel_rfl) rfl #[.slice A3 loads.length c3, .int .i64 x.f1] (by rfl) rfl rfl (by (try simp only [List.map_toArray, List.map_cons, List.map_nil]); first | done | rfl) ?_
         refine (Load_is A3 c3 loads x.f1 _ (Kd.C_below HR3.out (thn5 HB4.out HBa.out)) HC3.out HX0.out).mono ?_
         rintro e wb ⟨rfl, ⟨nb, hwb⟩⟩
         refine ⟨_, rfl, ?_⟩
         rw [HLD.out]
         have hbb : Below wa.heap.size wa wb := by rw [hwb]; exact pw_below_drewN (Below.refl _ _) nb
         have BKb := Aside0.mk (blk_below BKa.out hbb)
         have HBb := Aside0.mk (thn5 HBa.out hbb)
         have HRb := Aside0.mk (Kd.R_below HRa.out hbb)
         clear hwb hbb
         refine hK.out _ _ ⟨(blk_cell BKb.out 0).trans rfl, (blk_cell BKb.out 1).trans rfl, (HBb.out.cell (World.block_lt_of_cell? w4 _ HMC.out)).trans HMC.out⟩ (fun hHeld => ?_)
         clear hK K
         refine norm_ (a' := ?_) ?_ ?_
         rotate_left
         · show Act.put _ (some 30) _ = _
           simp only [Act.put, List.setIfInBounds_toArray, List.set_cons_zero, List.set_cons_succ]
           rfl
         refine pure_ (i := 12) (N := some 36) (v := ?_) (a' := ?_) #[true, true, true, true, true, true, true, true, true, true, true, true, true, false, false, false, false] rfl rfl (by kernel_rfl) (fun _ _ _ h => h) (Or.inl ⟨by rfl, ?_⟩) ?_ ?_
         rotate_left
         · intro w'
           go_simp
           with_reducible rfl
         rotate_left
         · simp only [Act.put, List.setIfInBounds_toArray, List.set_cons_zero, List.set_cons_succ]
           rfl
         refine one_ (i := 13) (N := some 37) #[true, true, true, true, true, true, true, true, true, true, true, true, true, true, false, false, false] rfl rfl (by kernel_rfl) (by decide) (fun K hK => ?_)
         refine goes_ Try.func31 (by kernel_rfl) rfl #[.int .u32 x.f0, .int .i64 (ld / cn)] (by rfl) rfl rfl (by (try simp only [List.map_toArray, List.map_cons, List.map_nil]); first | done | rfl) ?_
         refine (PLean_is x.f0 (ld / cn) _).mono ?_
         rintro e wc ⟨rfl, ⟨nc, hwc⟩⟩
         refine ⟨_, rfl, ?_⟩
         rw [HPL.out]
         have hbc : Below wb.heap.size wb wc := by rw [hwc]; exact pw_below_drewN (Below.refl _ _) nc
         have BKc := Aside0.mk (blk_below BKb.out hbc)
         have HBc := Aside0.mk (thn5 HBb.out hbc)
         have HRc := Aside0.mk (Kd.R_below HRb.out hbc)
         clear hwc hbc
         refine hK.out _ _ ⟨(blk_cell BKc.out 0).trans rfl, (blk_cell BKc.out 1).trans rfl, (HBc.out.cell (World.block_lt_of_cell? w4 _ HMC.out)).trans HMC.out⟩ (fun hHeld => ?_)
         clear hK K
         refine norm_ (a' := ?_) ?_ ?_
         rotate_left
         · show Act.put _ (some 37) _ = _
           simp only [Act.put, List.setIfInBounds_toArray, List.set_cons_zero, List.set_cons_succ]
           rfl
         refine one_ (i := 14) (N := some 38) #[true, true, true, true, true, true, true, true, true, true, true, true, true, true, true, false, false] rfl rfl (by kernel_rfl) (by decide) (fun K hK => ?_)
         refine Kd.R_lit_step kC _ 29 ?hg (N := 38) ?hd (xs := [pl]) (inner := [.complex .f64 pl.1 pl.2]) (ok := fun _ => True) (okp := fun _ => True) ?hr ?hp (fun _ hk => hk) trivial (Below.refl _ _) (Nat.le_refl _) (by simp) ?_; (case hd => rfl); (case hg => rfl); (case hr => first | (go_simp; done) | (go_simp; rfl)); (case hp => exact (Reps.snoc (ps := []) (cs := []) (Reps.none _ _) (show Kd.M kC _ _ _ pl [.complex .f64 pl.1 pl.2] from rfl) rfl))
         intro v4 wd ho4 hbd hg4_ hnew4_
         clear hg4_ hnew4_
         obtain ⟨A5, c5, hv4, hC5⟩ : ∃ A5 c5, v4 = .slice A5 1 c5 ∧ Kd.C kC wd A5 1 [pl] := by { obtain ⟨A5, c5, rfl, -, h⟩ := Kd.R_reads ho4; exact ⟨_, _, rfl, h⟩ }
         subst hv4
         have BKd := Aside0.mk (blk_below BKc.out hbd)
         have HBd := Aside0.mk (thn5 HBc.out hbd)
         have HRd := Aside0.mk (Kd.R_types (Kd.R_below HRc.out hbd) BKd.out (by decide))
         clear ho4 hbd
         refine hK.out _ _ ⟨(blk_cell BKd.out 0).trans rfl, (blk_cell BKd.out 1).trans rfl, (HBd.out.cell (World.block_lt_of_cell? w4 _ HMC.out)).trans HMC.out⟩ (fun hHeld => ?_)
         clear hK K
         refine norm_ (a' := ?_) ?_ ?_
         rotate_left
         · show Act.put _ (some 38) _ = _
           simp only [Act.put, List.setIfInBounds_toArray, List.set_cons_zero, List.set_cons_succ]
           rfl
         refine one_ (i := 15) (N := some 39) #[true, true, true, true, true, true, true, true, true, true, true, true, true, true, true, true, false] rfl rfl (by kernel_rfl) (by decide) (fun K hK => ?_)
         refine Kd.R_append_rows_step kC (w0 := w4) w4.heap.size (by rfl) (.tmp 24) (.tmp 38) 53 29 (.complex .f64 0 0) 16 rfl Try.underlying53 (by kernel_rfl) rfl (by decide) (by decide) u5 ((l.take i).map (leanOf loads l)) [pl] A5 1 c5 (fun k_ => True ∧ k_ ≠ g8) (fun _ => False) rfl rfl HRd.out hC5 (fun _ _ h => h) (fun _ h => h.elim) (fun k_ hk => ⟨trivial, Kd.freshB BKd.out k_ hk⟩) HBd.out HBd.out.size (by rw [List.length_map, List.length_take]; have := HL.out; omega) ?_
         intro v6 we ho6 hb6 hg6 hat6
         have BKe := Aside0.mk (blk_grown BKd.out hg6 (Kd.R_away HRd.out (fun _ hk => hk.2)))
         have HBe := Aside0.mk hb6
         have HRe := Aside0.mk (Kd.R_mono ho6 (fun _ _ => trivial))
         clear ho6 hb6 hg6 hat6 hC5
         refine hK.out _ _ ⟨(blk_cell BKe.out 0).trans rfl, (blk_cell BKe.out 1).trans rfl, (HBe.out.cell (World.block_lt_of_cell? w4 _ HMC.out)).trans HMC.out⟩ (fun hHeld => ?_)
         clear hK K
         refine norm_ (a' := ?_) ?_ ?_
         rotate_left
         · show Act.put _ (some 39) _ = _
           simp only [Act.put, List.setIfInBounds_toArray, List.set_cons_zero, List.set_cons_succ]
           rfl
         refine pure_ (i := 16) (N := some 5) (v := ?_) (a' := ?_) #[true, true, true, true, true, true, true, true, true, true, true, true, true, true, true, true, true] rfl rfl (by kernel_rfl) (fun _ _ _ h => h) (Or.inl ⟨by rfl, ?_⟩) ?_ ?_
         rotate_left
         · intro w'
           go_simp
           with_reducible rfl
         rotate_left
         · simp only [Act.put, List.setIfInBounds_toArray, List.set_cons_zero, List.set_cons_succ]
           rfl
         refine done_ (by kernel_rfl) ?_
         go_wp2
         refine wp_goto ?_
         change G 0 _ _
         refine IH.out (kq - 1) _ _ ?_ rfl ⟨i + 1, v6, rfl, ?_, ?_, ⟨?_⟩, HBe⟩
         · have := HN.out; have := HI.out; omega
         · show Value.int .i64 _ = _
           rw [wr64 _ (by omega) (by have := HL.out; have := HN.out; omega)]
           rfl
         · have := HN.out; have := HI.out; omega
         · rw [map_snoc _ _ _ _ HY.out, HPX.out]
           exact HRe.out
      · have hi : ¬ (i : Int) < (l.length : Int) := by omega
        obtain ⟨A6, c6, rfl, hc6, hC6⟩ := Kd.R_reads HRR.out
        have hil : i = l.length := by omega
        subst hil
        rw [List.take_length] at hC6 ⊢
        have HC6 := Aside0.mk hC6
        have HSL : Aside0 ((l.map (leanOf loads l)).length < 9223372036854775807) := ⟨by rw [List.length_map]; have := HL.out; omega⟩
        clear hC6 hc6 hki hlt HRR
        obtain ⟨q, hq⟩ : ∃ q, l.map (leanOf loads l) = q := ⟨_, rfl⟩
        rw [hq] at HC6 HSL HV ⊢
        clear hq
        go_wp2_with (go_at_call 33; refine (Sum_is A6 c6 q HSL.out _ (kC_lies HC6.out rfl)).mono ?_; rintro e w6 ⟨r_, i_, m_, rfl, hw6, hs_⟩; have HS := Aside0.mk hs_; have HB6 := Aside0.mk (show Below w.heap.size w w6 by rw [hw6]; exact pw_below_drewN (thn5 HB4.out HB.out) m_); clear hs_ hw6)
        try rw [scoped_ret]
        go_ret
        exact ⟨r_, i_, rfl, HS.out.trans HV.out.symm, HB6.out⟩
end Go.Proofs.Ytbkamlkmimfomaa
