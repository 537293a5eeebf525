/-
  Declare and Bind: their contracts.
  Conditions: none.
-/
import Derived.Test.YtpmalfabeajepaaDoorFck
import Derived.Test.YtpmalfabeajepaaDoorPGbx3
import Derived.Deep.QuietTactic
import Derived.BigQuiet
namespace Go.Proofs.YtpmalfabeajepaaDoor.Rt
open Go.RowKit Go.Proofs.YtpmalfabeajepaaDoorW.PrintWords Go.Proofs.YtpmalfabeajepaaDoorW.PrintLast Go.Proofs.YtpmalfabeajepaaDoorG Go.Proofs.YtpmalfabeajepaaDoor.PGa Go.Proofs.YtpmalfabeajepaaDoorH
set_option linter.unusedVariables false
set_option linter.unusedSimpArgs false

/-- What Declare answers. -/
def DecR (k : Nat) (x : List S25) (e : S25) (y : List S25) (code : Int) : Prop :=
  (∃ i : Nat, idxI (nameIs e.f0) x = i ∧ i < x.length ∧ y = x ∧ ((rd_T25 x i).f1 = e.f1 ∧ code = 0 ∨ (rd_T25 x i).f1 ≠ e.f1 ∧ code = 406)) ∨
  (idxI (nameIs e.f0) x = -1 ∧ ((MayR k (x ++ [e]) [] true ∧ y = x ++ [e] ∧ code = 0) ∨ (MayR k (x ++ [e]) [] false ∧ y = x ∧ code = 1)))
abbrev vE (a : S25) : Value := .agg #[.string a.f0, .int .i64 a.f1]
set_option maxHeartbeats 8000000 in
set_option maxRecDepth 100000 in
theorem Declare_is (k : Nat) (A : Option Addr) (c : Nat) (x : List S25) (e : S25) (y : List S25) (code : Int) (w : World) (hx : Kd.C k25 w A x.length x) (hxc : x.length ≤ c) (hl : x.length ≤ 1000) (hgl : Gl w) (h : DecR k x e y code) :
    Calls Tryd.prog 13 #[.slice A x.length c, vE e] w fun ee w' => ∃ A' c', ee = .returned (.tuple #[.slice A' y.length c', .int .i64 code]) ∧ Kd.C k25 w' A' y.length y ∧ y.length ≤ c' ∧ Below w.heap.size w w' := by
  have HGL := Aside0.mk hgl
  clear hgl
  have HX := Aside0.mk hx
  have HXC := Aside0.mk hxc
  have HXL := Aside0.mk (show x.length ≤ 1000000 by omega)
  have hu := Tryd.underlying25
  obtain ⟨q, hq⟩ : ∃ q, idxI (nameIs e.f0) x = q := ⟨_, rfl⟩
  have HQ := Aside0.mk hq
  unfold DecR at h
  rw [hq] at h
  clear hx hxc hl hq
  rcases h with ⟨i, rfl, hi, rfl, hk⟩ | ⟨rfl, hm⟩
  · have hi1 : (i : Int) < (y.length : Int) := by omega
    have hi0 : 0 ≤ (i : Int) := by omega
    obtain ⟨ad, e1, hx0, hx1⟩ := at_T25 HX.out i hi0 hi1
    cases e1
    obtain ⟨z, hz⟩ : ∃ z, rd_T25 y (i : Int) = z := ⟨_, rfl⟩
    rw [hz, Int.toNat_natCast] at hx0 hx1
    rw [hz] at hk
    clear hi hz
    rcases hk with ⟨hk, rfl⟩ | ⟨hk, rfl⟩
    · have hkk : (z.f1 != e.f1) = false := by simp [hk]
      go_enter Tryd.func13, Tryd.ntmps13
      go_wp2_with (first
        | ((with_reducible refine gate_dst (N := 3) rfl ?_); refine box_event ?hg (N := 3) ?hd (cs := #[.string e.f0, .int .i64 e.f1]) (t := 25) ?hr ?_; (case hd => rfl); (case hg => rfl); (case hr => first | (go_simp; done) | (go_simp; rfl)); intro gb hg w1 hbox hb; have HB := Aside0.mk hb; have BK := Aside0.mk hbox; have k0 : w1.cell? ⟨gb, 0, none⟩ = some (.string e.f0) := (blk_cell hbox 0).trans rfl; clear hb hbox hg)
        | (go_at_call 14; refine (Find_is (some ad) c y e.f0 _ (Kd.C_below HX.out HB.out) HXL.out).mono ?_; rintro ee w2 ⟨rfl, hb⟩; have HB2 := Aside0.mk (thn HB.out hb); have hK := blk_below BK.out hb; have k0 : w2.cell? ⟨gb, 0, none⟩ = some (.string e.f0) := (blk_cell hK 0).trans rfl; have k1 : w2.cell? ⟨gb, 1, none⟩ = some (.int .i64 e.f1) := (blk_cell hK 1).trans rfl; replace hx0 := (HB2.out.cell (World.block_lt_of_cell? w _ hx0)).trans hx0; replace hx1 := (HB2.out.cell (World.block_lt_of_cell? w _ hx1)).trans hx1; clear hb hK; rw [HQ.out]))
      go_quiet (fail)
      go_wp2
      go_ret2
      exact ⟨_, _, rfl, Kd.C_below HX.out (pw_below_drewN HB2.out nq), HXC.out, pw_below_drewN HB2.out nq⟩
    · have hkk : (z.f1 != e.f1) = true := bne_iff_ne.2 hk
      have hkf : (z.f1 = e.f1) = False := eq_false hk
      go_enter Tryd.func13, Tryd.ntmps13
      go_wp2_with (first
        | ((with_reducible refine gate_dst (N := 3) rfl ?_); refine box_event ?hg (N := 3) ?hd (cs := #[.string e.f0, .int .i64 e.f1]) (t := 25) ?hr ?_; (case hd => rfl); (case hg => rfl); (case hr => first | (go_simp; done) | (go_simp; rfl)); intro gb hg w1 hbox hb; have HB := Aside0.mk hb; have BK := Aside0.mk hbox; have k0 : w1.cell? ⟨gb, 0, none⟩ = some (.string e.f0) := (blk_cell hbox 0).trans rfl; clear hb hbox hg)
        | (go_at_call 14; refine (Find_is (some ad) c y e.f0 _ (Kd.C_below HX.out HB.out) HXL.out).mono ?_; rintro ee w2 ⟨rfl, hb⟩; have HB2 := Aside0.mk (thn HB.out hb); have hK := blk_below BK.out hb; have k0 : w2.cell? ⟨gb, 0, none⟩ = some (.string e.f0) := (blk_cell hK 0).trans rfl; have k1 : w2.cell? ⟨gb, 1, none⟩ = some (.int .i64 e.f1) := (blk_cell hK 1).trans rfl; replace hx0 := (HB2.out.cell (World.block_lt_of_cell? w _ hx0)).trans hx0; replace hx1 := (HB2.out.cell (World.block_lt_of_cell? w _ hx1)).trans hx1; clear hb hK; rw [HQ.out]))
      go_quiet (fail)
      go_wp2
      go_ret2
      exact ⟨_, _, rfl, Kd.C_below HX.out (pw_below_drewN HB2.out nq), HXC.out, pw_below_drewN HB2.out nq⟩
  · rcases hm with ⟨hm, rfl, rfl⟩ | ⟨hm, rfl, rfl⟩
    all_goals
      have HM := Aside0.mk hm
      clear hm
    · go_enter Tryd.func13, Tryd.ntmps13
      go_wp2_with (first
        | ((with_reducible refine gate_dst (N := 3) rfl ?_); refine box_event ?hg (N := 3) ?hd (cs := #[.string e.f0, .int .i64 e.f1]) (t := 25) ?hr ?_; (case hd => rfl); (case hg => rfl); (case hr => first | (go_simp; done) | (go_simp; rfl)); intro gb hg w1 hbox hb; have HB1 := Aside0.mk hb; have BK1 := Aside0.mk hbox; have k0 : w1.cell? ⟨gb, 0, none⟩ = some (.string e.f0) := (blk_cell hbox 0).trans rfl; clear hb hbox hg)
        | (go_at_call 14; refine (Find_is A c x e.f0 _ (Kd.C_below HX.out HB1.out) HXL.out).mono ?_; rintro ee w2 ⟨rfl, hb⟩; have HB2 := Aside0.mk (thn HB1.out hb); have BK2 := Aside0.mk (blk_below BK1.out hb); clear hb k0; rw [HQ.out]))
      go_quiet (fail)
      go_wp2
      have BK := Aside0.mk (blk_drewN BK2.out nq)
      have HB := Aside0.mk (pw_below_drewN HB2.out nq)
      clear BK1 BK2 HB1 HB2
      have BKD := Aside0.mk (blk_drew BK.out)
      have HBD := Aside0.mk (below_drew1 HB.out)
      clear BK HB
      have BK := BKD
      have HB := HBD
      clear BKD HBD
      refine start_ (n := 6) (S := fun w' => w'.cell? ⟨gb, 0, none⟩ = some (.string e.f0) ∧ w'.cell? ⟨gb, 1, none⟩ = some (.int .i64 e.f1)) (ds := []) #[false, false, false, false, false, false] (by kernel_rfl) rfl rfl ⟨(blk_cell BK.out 0).trans rfl, (blk_cell BK.out 1).trans rfl⟩ (fun hHeld => ?_)
      generalize (w2.drewN nq).drew = w20 at BK HB hHeld ⊢
      refine pure_ (i := 0) (N := some 28) (v := ?_) (a' := ?_) #[true, false, false, false, false, false] rfl rfl (by kernel_rfl) (fun _ _ _ h => h) (Or.inl ⟨by rfl, ?_⟩) ?_ ?_
      rotate_left
      · intro w'
        go_simp
        with_reducible rfl
      rotate_left
      · simp only [Act.put, List.setIfInBounds_toArray, List.set_cons_zero, List.set_cons_succ]
        rfl

      refine take_ (i := 2) (N := some 30) (v := ?_) (a' := ?_) #[true, false, true, false, false, false] rfl rfl (by kernel_rfl) (fun _ _ _ h => h) (Or.inl ⟨by rfl, ?_⟩) hHeld ?_ ?_
      rotate_left
      · rintro w' ⟨s0, s1⟩
        go_simp
        with_reducible rfl
      rotate_left
      · simp only [Act.put, List.setIfInBounds_toArray, List.set_cons_zero, List.set_cons_succ]
        rfl

      refine join_ (σ := Value × Value) 2 #[true, true, true, true, false, false] (fun s_ => [(29, s_.1), (31, s_.2)]) (fun s_ w' => (w'.cell? ⟨gb, 0, none⟩ = some (.string e.f0) ∧ w'.cell? ⟨gb, 1, none⟩ = some (.int .i64 e.f1)) ∧ (Kd.R k25 25 w' w.heap.size (fun k_ => True ∧ k_ ≠ gb) s_.1 x) ∧ (∃ A4 c4, s_.2 = .slice A4 1 c4 ∧ Kd.C k25 w' A4 1 [e]) ∧ (w'.heap[gb]? = some (.cells #[.string e.f0, .int .i64 e.f1] 25 (0, 0))) ∧ Below w.heap.size w w') ?_ ?_
      rotate_left
      · intro hCont
        refine two_ (i := 1) (j := 3) (Ni := some 29) (Nj := some 31) #[true, true, true, false, false, false] #[true, false, true, true, false, false] rfl rfl rfl rfl (by kernel_rfl) (by decide) (by decide) (fun K hK => ?_) (fun K hK => ?_)
        · skip
          refine goes_ Tryd.func29 (by kernel_rfl) rfl #[.slice A x.length c] (by rfl) rfl rfl (by (try simp only [List.map_toArray, List.map_cons, List.map_nil]); first | done | rfl) ?_
          refine (ClX_is A c x _ (Kd.C_below HX.out HB.out) HXL.out).mono ?_
          rintro ee w3 ⟨v1, rfl, ho, hb⟩
          refine ⟨_, rfl, ?_⟩
          have BK3 := Aside0.mk (blk_below (g := gb) (o := .cells #[.string e.f0, .int .i64 e.f1] 25 (0, 0)) BK.out hb)
          have HO3 := Aside0.mk (Kd.R_lower (Kd.R_newB ho (g := gb) (o := .cells #[.string e.f0, .int .i64 e.f1] 25 (0, 0)) BK.out) HB.out.size)
          have HB3 := Aside0.mk (thn HB.out hb)
          refine hK.out _ _ ⟨(blk_cell BK3.out 0).trans rfl, (blk_cell BK3.out 1).trans rfl⟩ (fun hHeld => ?_)
          clear hK K
          refine norm_ (a' := ?_) ?_ ?_
          rotate_left
          · show Act.put _ (some 29) _ = _
            simp only [Act.put, List.setIfInBounds_toArray, List.set_cons_zero, List.set_cons_succ]
            rfl
          refine one_ (i := 3) (N := some 31) #[true, true, true, true, false, false] rfl rfl (by kernel_rfl) (by decide) (fun K hK => ?_)
          refine Kd.R_lit_step k25 _ 25 ?hg (N := 31) ?hd (xs := [e]) (inner := [.string e.f0, .int .i64 e.f1]) (ok := fun _ => True) (okp := fun _ => True) ?hr ?hp (fun _ hk => hk) trivial (Below.refl _ _) (Nat.le_refl _) (by simp) ?_; (case hd => rfl); (case hg => rfl); (case hr => first | (go_simp; done) | (go_simp; rfl)); (case hp => exact (Reps.c2 (show Kd.M k25 _ _ _ e [.string e.f0, .int .i64 e.f1] from k25_mkM _ _ _ e) (Reps.none _ _)))
          intro v4 w4 ho4 hb4 hg4_ hnew4_
          clear hg4_ hnew4_
          obtain ⟨A4, c4, hv4, hC4⟩ : ∃ A4 c4, v4 = .slice A4 1 c4 ∧ Kd.C k25 w4 A4 1 [e] := by { obtain ⟨A4, c4, rfl, -, h⟩ := Kd.R_reads ho4; exact ⟨_, _, rfl, h⟩ }
          subst hv4
          have BK4 := Aside0.mk (blk_below (g := gb) (o := .cells #[.string e.f0, .int .i64 e.f1] 25 (0, 0)) BK3.out hb4)
          refine hK.out _ _ ⟨(blk_cell BK4.out 0).trans rfl, (blk_cell BK4.out 1).trans rfl⟩ (fun hHeld => ?_)
          clear hK K
          refine norm_ (a' := ?_) ?_ ?_
          rotate_left
          · show Act.put _ (some 31) _ = _
            simp only [Act.put, List.setIfInBounds_toArray, List.set_cons_zero, List.set_cons_succ]
            rfl
          exact norm_ (by simp only [putAll, Act.put, List.setIfInBounds_toArray, List.set_cons_zero, List.set_cons_succ]) (hCont (v1, .slice A4 1 c4) _ ⟨hHeld, Kd.R_below HO3.out hb4, ⟨_, _, rfl, hC4⟩, BK4.out, thn HB3.out hb4⟩)
        · skip
          refine Kd.R_lit_step k25 _ 25 ?hg (N := 31) ?hd (xs := [e]) (inner := [.string e.f0, .int .i64 e.f1]) (ok := fun _ => True) (okp := fun _ => True) ?hr ?hp (fun _ hk => hk) trivial (Below.refl _ _) (Nat.le_refl _) (by simp) ?_; (case hd => rfl); (case hg => rfl); (case hr => first | (go_simp; done) | (go_simp; rfl)); (case hp => exact (Reps.c2 (show Kd.M k25 _ _ _ e [.string e.f0, .int .i64 e.f1] from k25_mkM _ _ _ e) (Reps.none _ _)))
          intro v4 w4 ho4 hb4 hg4_ hnew4_
          clear hg4_ hnew4_
          obtain ⟨A4, c4, hv4, hC4⟩ : ∃ A4 c4, v4 = .slice A4 1 c4 ∧ Kd.C k25 w4 A4 1 [e] := by { obtain ⟨A4, c4, rfl, -, h⟩ := Kd.R_reads ho4; exact ⟨_, _, rfl, h⟩ }
          subst hv4
          have BK4 := Aside0.mk (blk_below (g := gb) (o := .cells #[.string e.f0, .int .i64 e.f1] 25 (0, 0)) BK.out hb4)
          have HB4 := Aside0.mk (thn HB.out hb4)
          refine hK.out _ _ ⟨(blk_cell BK4.out 0).trans rfl, (blk_cell BK4.out 1).trans rfl⟩ (fun hHeld => ?_)
          clear hK K
          refine norm_ (a' := ?_) ?_ ?_
          rotate_left
          · show Act.put _ (some 31) _ = _
            simp only [Act.put, List.setIfInBounds_toArray, List.set_cons_zero, List.set_cons_succ]
            rfl
          refine one_ (i := 1) (N := some 29) #[true, true, true, true, false, false] rfl rfl (by kernel_rfl) (by decide) (fun K hK => ?_)
          refine goes_ Tryd.func29 (by kernel_rfl) rfl #[.slice A x.length c] (by rfl) rfl rfl (by (try simp only [List.map_toArray, List.map_cons, List.map_nil]); first | done | rfl) ?_
          refine (ClX_is A c x _ (Kd.C_below HX.out HB4.out) HXL.out).mono ?_
          rintro ee w3 ⟨v1, rfl, ho, hb⟩
          refine ⟨_, rfl, ?_⟩
          have BK3 := Aside0.mk (blk_below (g := gb) (o := .cells #[.string e.f0, .int .i64 e.f1] 25 (0, 0)) BK4.out hb)
          have HO3 := Aside0.mk (Kd.R_lower (Kd.R_newB ho (g := gb) (o := .cells #[.string e.f0, .int .i64 e.f1] 25 (0, 0)) BK4.out) HB4.out.size)
          have HB3 := Aside0.mk (thn HB4.out hb)
          refine hK.out _ _ ⟨(blk_cell BK3.out 0).trans rfl, (blk_cell BK3.out 1).trans rfl⟩ (fun hHeld => ?_)
          clear hK K
          refine norm_ (a' := ?_) ?_ ?_
          rotate_left
          · show Act.put _ (some 29) _ = _
            simp only [Act.put, List.setIfInBounds_toArray, List.set_cons_zero, List.set_cons_succ]
            rfl
          exact norm_ (by simp only [putAll, Act.put, List.setIfInBounds_toArray, List.set_cons_zero, List.set_cons_succ]) (hCont (v1, .slice A4 1 c4) _ ⟨hHeld, HO3.out, ⟨_, _, rfl, Kd.C_below hC4 hb⟩, BK3.out, HB3.out⟩)

      rintro ⟨v1, v4⟩ w5 ⟨hS_, ho5, ⟨A4, c4, h4, hC5⟩, hbk5, hb5⟩
      have h4 : v4 = .slice A4 1 c4 := h4
      subst h4
      refine norm_ (a' := ?_) ?_ ?_
      rotate_left
      · simp only [putAll, Act.put, List.setIfInBounds_toArray, List.set_cons_zero, List.set_cons_succ]
        rfl
      refine one_ (i := 4) (N := some 32) #[true, true, true, true, true, false] rfl rfl (by kernel_rfl) (by decide) (fun K hK => ?_)
      refine Kd.R_append_rows_step k25 (w0 := w) w.heap.size (by rfl) (.tmp 29) (.tmp 31) 26 25 (.agg #[.string ⟨#[]⟩, .int .i64 0]) 24 rfl Tryd.underlying26 (by kernel_rfl) rfl (by decide) (by decide) v1 x [e] A4 1 c4 (fun k_ => True ∧ k_ ≠ gb) (fun _ => False) rfl rfl ho5 hC5 (fun _ _ h => h) (fun _ h => h.elim) (fun k_ hk => ⟨trivial, Kd.freshB (g := gb) (o := .cells #[.string e.f0, .int .i64 e.f1] 25 (0, 0)) hbk5 k_ hk⟩) hb5 hb5.size (by have := HXL.out; omega) ?_
      intro v6 w6 ho6 hb6 hg6 hat6
      have BK6 := Aside0.mk (blk_grown (g := gb) (o := .cells #[.string e.f0, .int .i64 e.f1] 25 (0, 0)) hbk5 hg6 (Kd.R_away ho5 (fun _ hk => hk.2)))
      refine hK.out _ _ ⟨(blk_cell BK6.out 0).trans rfl, (blk_cell BK6.out 1).trans rfl⟩ (fun hHeld => ?_)
      clear hK K
      refine norm_ (a' := ?_) ?_ ?_
      rotate_left
      · show Act.put _ (some 32) _ = _
        simp only [Act.put, List.setIfInBounds_toArray, List.set_cons_zero, List.set_cons_succ]
        rfl
      refine pure_ (i := 5) (N := some 7) (v := ?_) (a' := ?_) #[true, true, true, true, true, true] rfl rfl (by kernel_rfl) (fun _ _ _ h => h) (Or.inl ⟨by rfl, ?_⟩) ?_ ?_
      rotate_left
      · intro w'
        go_simp
        with_reducible rfl
      rotate_left
      · simp only [Act.put, List.setIfInBounds_toArray, List.set_cons_zero, List.set_cons_succ]
        rfl
      refine done_ (by kernel_rfl) ?_
      obtain ⟨A6, c6, rfl, hc6, hC6⟩ := Kd.R_reads ho6
      have HC6 := Aside0.mk hC6
      have HB6 := Aside0.mk hb6
      have HL6 := Aside0.mk hc6
      clear ho6 hb6 hc6 hC6 ho5 hC5 hbk5 hb5 hg6 hat6 hS_ hHeld
      obtain ⟨z, hz⟩ : ∃ z, z = x ++ [e] := ⟨_, rfl⟩
      rw [← hz] at HC6 HL6 HM ⊢
      have HZ := Aside0.mk hz
      clear hz
      go_wp2_with (go_at_call 8; refine (May_is k A6 c6 z none 0 [] true _ HC6.out HL6.out (Kd.C_nil _ _) (Gl.below HGL.out HB6.out) HM.out).mono ?_; rintro ee w7 ⟨rfl, hb⟩; have HB7 := Aside0.mk (thn HB6.out hb); have HC7 := Aside0.mk (Kd.C_below HC6.out hb); clear hb)
      go_ret2
      have hz := HZ.out
      subst hz
      exact ⟨_, _, rfl, HC7.out, HL6.out, HB7.out⟩
    · go_enter Tryd.func13, Tryd.ntmps13
      go_wp2_with (first
        | ((with_reducible refine gate_dst (N := 3) rfl ?_); refine box_event ?hg (N := 3) ?hd (cs := #[.string e.f0, .int .i64 e.f1]) (t := 25) ?hr ?_; (case hd => rfl); (case hg => rfl); (case hr => first | (go_simp; done) | (go_simp; rfl)); intro gb hg w1 hbox hb; have HB1 := Aside0.mk hb; have BK1 := Aside0.mk hbox; have k0 : w1.cell? ⟨gb, 0, none⟩ = some (.string e.f0) := (blk_cell hbox 0).trans rfl; clear hb hbox hg)
        | (go_at_call 14; refine (Find_is A c y e.f0 _ (Kd.C_below HX.out HB1.out) HXL.out).mono ?_; rintro ee w2 ⟨rfl, hb⟩; have HB2 := Aside0.mk (thn HB1.out hb); have BK2 := Aside0.mk (blk_below BK1.out hb); clear hb k0; rw [HQ.out]))
      go_quiet (fail)
      go_wp2
      have BK := Aside0.mk (blk_drewN BK2.out nq)
      have HB := Aside0.mk (pw_below_drewN HB2.out nq)
      clear BK1 BK2 HB1 HB2
      have BKD := Aside0.mk (blk_drew BK.out)
      have HBD := Aside0.mk (below_drew1 HB.out)
      clear BK HB
      have BK := BKD
      have HB := HBD
      clear BKD HBD
      refine start_ (n := 6) (S := fun w' => w'.cell? ⟨gb, 0, none⟩ = some (.string e.f0) ∧ w'.cell? ⟨gb, 1, none⟩ = some (.int .i64 e.f1)) (ds := []) #[false, false, false, false, false, false] (by kernel_rfl) rfl rfl ⟨(blk_cell BK.out 0).trans rfl, (blk_cell BK.out 1).trans rfl⟩ (fun hHeld => ?_)
      generalize (w2.drewN nq).drew = w20 at BK HB hHeld ⊢
      refine pure_ (i := 0) (N := some 28) (v := ?_) (a' := ?_) #[true, false, false, false, false, false] rfl rfl (by kernel_rfl) (fun _ _ _ h => h) (Or.inl ⟨by rfl, ?_⟩) ?_ ?_
      rotate_left
      · intro w'
        go_simp
        with_reducible rfl
      rotate_left
      · simp only [Act.put, List.setIfInBounds_toArray, List.set_cons_zero, List.set_cons_succ]
        rfl

      refine take_ (i := 2) (N := some 30) (v := ?_) (a' := ?_) #[true, false, true, false, false, false] rfl rfl (by kernel_rfl) (fun _ _ _ h => h) (Or.inl ⟨by rfl, ?_⟩) hHeld ?_ ?_
      rotate_left
      · rintro w' ⟨s0, s1⟩
        go_simp
        with_reducible rfl
      rotate_left
      · simp only [Act.put, List.setIfInBounds_toArray, List.set_cons_zero, List.set_cons_succ]
        rfl

      refine join_ (σ := Value × Value) 2 #[true, true, true, true, false, false] (fun s_ => [(29, s_.1), (31, s_.2)]) (fun s_ w' => (w'.cell? ⟨gb, 0, none⟩ = some (.string e.f0) ∧ w'.cell? ⟨gb, 1, none⟩ = some (.int .i64 e.f1)) ∧ (Kd.R k25 25 w' w.heap.size (fun k_ => True ∧ k_ ≠ gb) s_.1 y) ∧ (∃ A4 c4, s_.2 = .slice A4 1 c4 ∧ Kd.C k25 w' A4 1 [e]) ∧ (w'.heap[gb]? = some (.cells #[.string e.f0, .int .i64 e.f1] 25 (0, 0))) ∧ Below w.heap.size w w') ?_ ?_
      rotate_left
      · intro hCont
        refine two_ (i := 1) (j := 3) (Ni := some 29) (Nj := some 31) #[true, true, true, false, false, false] #[true, false, true, true, false, false] rfl rfl rfl rfl (by kernel_rfl) (by decide) (by decide) (fun K hK => ?_) (fun K hK => ?_)
        · skip
          refine goes_ Tryd.func29 (by kernel_rfl) rfl #[.slice A y.length c] (by rfl) rfl rfl (by (try simp only [List.map_toArray, List.map_cons, List.map_nil]); first | done | rfl) ?_
          refine (ClX_is A c y _ (Kd.C_below HX.out HB.out) HXL.out).mono ?_
          rintro ee w3 ⟨v1, rfl, ho, hb⟩
          refine ⟨_, rfl, ?_⟩
          have BK3 := Aside0.mk (blk_below (g := gb) (o := .cells #[.string e.f0, .int .i64 e.f1] 25 (0, 0)) BK.out hb)
          have HO3 := Aside0.mk (Kd.R_lower (Kd.R_newB ho (g := gb) (o := .cells #[.string e.f0, .int .i64 e.f1] 25 (0, 0)) BK.out) HB.out.size)
          have HB3 := Aside0.mk (thn HB.out hb)
          refine hK.out _ _ ⟨(blk_cell BK3.out 0).trans rfl, (blk_cell BK3.out 1).trans rfl⟩ (fun hHeld => ?_)
          clear hK K
          refine norm_ (a' := ?_) ?_ ?_
          rotate_left
          · show Act.put _ (some 29) _ = _
            simp only [Act.put, List.setIfInBounds_toArray, List.set_cons_zero, List.set_cons_succ]
            rfl
          refine one_ (i := 3) (N := some 31) #[true, true, true, true, false, false] rfl rfl (by kernel_rfl) (by decide) (fun K hK => ?_)
          refine Kd.R_lit_step k25 _ 25 ?hg (N := 31) ?hd (xs := [e]) (inner := [.string e.f0, .int .i64 e.f1]) (ok := fun _ => True) (okp := fun _ => True) ?hr ?hp (fun _ hk => hk) trivial (Below.refl _ _) (Nat.le_refl _) (by simp) ?_; (case hd => rfl); (case hg => rfl); (case hr => first | (go_simp; done) | (go_simp; rfl)); (case hp => exact (Reps.c2 (show Kd.M k25 _ _ _ e [.string e.f0, .int .i64 e.f1] from k25_mkM _ _ _ e) (Reps.none _ _)))
          intro v4 w4 ho4 hb4 hg4_ hnew4_
          clear hg4_ hnew4_
          obtain ⟨A4, c4, hv4, hC4⟩ : ∃ A4 c4, v4 = .slice A4 1 c4 ∧ Kd.C k25 w4 A4 1 [e] := by { obtain ⟨A4, c4, rfl, -, h⟩ := Kd.R_reads ho4; exact ⟨_, _, rfl, h⟩ }
          subst hv4
          have BK4 := Aside0.mk (blk_below (g := gb) (o := .cells #[.string e.f0, .int .i64 e.f1] 25 (0, 0)) BK3.out hb4)
          refine hK.out _ _ ⟨(blk_cell BK4.out 0).trans rfl, (blk_cell BK4.out 1).trans rfl⟩ (fun hHeld => ?_)
          clear hK K
          refine norm_ (a' := ?_) ?_ ?_
          rotate_left
          · show Act.put _ (some 31) _ = _
            simp only [Act.put, List.setIfInBounds_toArray, List.set_cons_zero, List.set_cons_succ]
            rfl
          exact norm_ (by simp only [putAll, Act.put, List.setIfInBounds_toArray, List.set_cons_zero, List.set_cons_succ]) (hCont (v1, .slice A4 1 c4) _ ⟨hHeld, Kd.R_below HO3.out hb4, ⟨_, _, rfl, hC4⟩, BK4.out, thn HB3.out hb4⟩)
        · skip
          refine Kd.R_lit_step k25 _ 25 ?hg (N := 31) ?hd (xs := [e]) (inner := [.string e.f0, .int .i64 e.f1]) (ok := fun _ => True) (okp := fun _ => True) ?hr ?hp (fun _ hk => hk) trivial (Below.refl _ _) (Nat.le_refl _) (by simp) ?_; (case hd => rfl); (case hg => rfl); (case hr => first | (go_simp; done) | (go_simp; rfl)); (case hp => exact (Reps.c2 (show Kd.M k25 _ _ _ e [.string e.f0, .int .i64 e.f1] from k25_mkM _ _ _ e) (Reps.none _ _)))
          intro v4 w4 ho4 hb4 hg4_ hnew4_
          clear hg4_ hnew4_
          obtain ⟨A4, c4, hv4, hC4⟩ : ∃ A4 c4, v4 = .slice A4 1 c4 ∧ Kd.C k25 w4 A4 1 [e] := by { obtain ⟨A4, c4, rfl, -, h⟩ := Kd.R_reads ho4; exact ⟨_, _, rfl, h⟩ }
          subst hv4
          have BK4 := Aside0.mk (blk_below (g := gb) (o := .cells #[.string e.f0, .int .i64 e.f1] 25 (0, 0)) BK.out hb4)
          have HB4 := Aside0.mk (thn HB.out hb4)
          refine hK.out _ _ ⟨(blk_cell BK4.out 0).trans rfl, (blk_cell BK4.out 1).trans rfl⟩ (fun hHeld => ?_)
          clear hK K
          refine norm_ (a' := ?_) ?_ ?_
          rotate_left
          · show Act.put _ (some 31) _ = _
            simp only [Act.put, List.setIfInBounds_toArray, List.set_cons_zero, List.set_cons_succ]
            rfl
          refine one_ (i := 1) (N := some 29) #[true, true, true, true, false, false] rfl rfl (by kernel_rfl) (by decide) (fun K hK => ?_)
          refine goes_ Tryd.func29 (by kernel_rfl) rfl #[.slice A y.length c] (by rfl) rfl rfl (by (try simp only [List.map_toArray, List.map_cons, List.map_nil]); first | done | rfl) ?_
          refine (ClX_is A c y _ (Kd.C_below HX.out HB4.out) HXL.out).mono ?_
          rintro ee w3 ⟨v1, rfl, ho, hb⟩
          refine ⟨_, rfl, ?_⟩
          have BK3 := Aside0.mk (blk_below (g := gb) (o := .cells #[.string e.f0, .int .i64 e.f1] 25 (0, 0)) BK4.out hb)
          have HO3 := Aside0.mk (Kd.R_lower (Kd.R_newB ho (g := gb) (o := .cells #[.string e.f0, .int .i64 e.f1] 25 (0, 0)) BK4.out) HB4.out.size)
          have HB3 := Aside0.mk (thn HB4.out hb)
          refine hK.out _ _ ⟨(blk_cell BK3.out 0).trans rfl, (blk_cell BK3.out 1).trans rfl⟩ (fun hHeld => ?_)
          clear hK K
          refine norm_ (a' := ?_) ?_ ?_
          rotate_left
          · show Act.put _ (some 29) _ = _
            simp only [Act.put, List.setIfInBounds_toArray, List.set_cons_zero, List.set_cons_succ]
            rfl
          exact norm_ (by simp only [putAll, Act.put, List.setIfInBounds_toArray, List.set_cons_zero, List.set_cons_succ]) (hCont (v1, .slice A4 1 c4) _ ⟨hHeld, HO3.out, ⟨_, _, rfl, Kd.C_below hC4 hb⟩, BK3.out, HB3.out⟩)

      rintro ⟨v1, v4⟩ w5 ⟨hS_, ho5, ⟨A4, c4, h4, hC5⟩, hbk5, hb5⟩
      have h4 : v4 = .slice A4 1 c4 := h4
      subst h4
      refine norm_ (a' := ?_) ?_ ?_
      rotate_left
      · simp only [putAll, Act.put, List.setIfInBounds_toArray, List.set_cons_zero, List.set_cons_succ]
        rfl
      refine one_ (i := 4) (N := some 32) #[true, true, true, true, true, false] rfl rfl (by kernel_rfl) (by decide) (fun K hK => ?_)
      refine Kd.R_append_rows_step k25 (w0 := w) w.heap.size (by rfl) (.tmp 29) (.tmp 31) 26 25 (.agg #[.string ⟨#[]⟩, .int .i64 0]) 24 rfl Tryd.underlying26 (by kernel_rfl) rfl (by decide) (by decide) v1 y [e] A4 1 c4 (fun k_ => True ∧ k_ ≠ gb) (fun _ => False) rfl rfl ho5 hC5 (fun _ _ h => h) (fun _ h => h.elim) (fun k_ hk => ⟨trivial, Kd.freshB (g := gb) (o := .cells #[.string e.f0, .int .i64 e.f1] 25 (0, 0)) hbk5 k_ hk⟩) hb5 hb5.size (by have := HXL.out; omega) ?_
      intro v6 w6 ho6 hb6 hg6 hat6
      have BK6 := Aside0.mk (blk_grown (g := gb) (o := .cells #[.string e.f0, .int .i64 e.f1] 25 (0, 0)) hbk5 hg6 (Kd.R_away ho5 (fun _ hk => hk.2)))
      refine hK.out _ _ ⟨(blk_cell BK6.out 0).trans rfl, (blk_cell BK6.out 1).trans rfl⟩ (fun hHeld => ?_)
      clear hK K
      refine norm_ (a' := ?_) ?_ ?_
      rotate_left
      · show Act.put _ (some 32) _ = _
        simp only [Act.put, List.setIfInBounds_toArray, List.set_cons_zero, List.set_cons_succ]
        rfl
      refine pure_ (i := 5) (N := some 7) (v := ?_) (a' := ?_) #[true, true, true, true, true, true] rfl rfl (by kernel_rfl) (fun _ _ _ h => h) (Or.inl ⟨by rfl, ?_⟩) ?_ ?_
      rotate_left
      · intro w'
        go_simp
        with_reducible rfl
      rotate_left
      · simp only [Act.put, List.setIfInBounds_toArray, List.set_cons_zero, List.set_cons_succ]
        rfl
      refine done_ (by kernel_rfl) ?_
      obtain ⟨A6, c6, rfl, hc6, hC6⟩ := Kd.R_reads ho6
      have HC6 := Aside0.mk hC6
      have HB6 := Aside0.mk hb6
      have HL6 := Aside0.mk hc6
      clear ho6 hb6 hc6 hC6 ho5 hC5 hbk5 hb5 hg6 hat6 hS_ hHeld
      obtain ⟨z, hz⟩ : ∃ z, z = y ++ [e] := ⟨_, rfl⟩
      rw [← hz] at HC6 HL6 HM ⊢
      have HZ := Aside0.mk hz
      clear hz
      go_wp2_with (go_at_call 8; refine (May_is k A6 c6 z none 0 [] false _ HC6.out HL6.out (Kd.C_nil _ _) (Gl.below HGL.out HB6.out) HM.out).mono ?_; rintro ee w7 ⟨rfl, hb⟩; have HB7 := Aside0.mk (thn HB6.out hb); clear hb)
      go_ret2
      exact ⟨_, _, rfl, Kd.C_below HX.out HB7.out, HXC.out, HB7.out⟩

/-- What Bind answers. -/
def BindR (k : Nat) (x : List S25) (l : List S28) (b : S28) (y : List S28) (code : Int) : Prop :=
  (idxI (nameIs b.f0) x = -1 ∧ y = l ∧ code = 404) ∨
  (∃ i : Nat, idxI (nameIs b.f0) x = i ∧ (
    (PGb.api_Binding_25.f k l b.f0 b.f1 b.f2 b.f3 = some true ∧ y = l ∧ code = 0) ∨
    (PGb.api_Binding_25.f k l b.f0 b.f1 b.f2 b.f3 = some false ∧ (
      (0 ≤ idxI (tBind1 b) l ∧ y = l ∧ code = 406) ∨
      (idxI (tBind1 b) l = -1 ∧ ((MayR k x (l ++ [b]) true ∧ y = l ++ [b] ∧ code = 0) ∨ (MayR k x (l ++ [b]) false ∧ y = l ∧ code = 1)))))))
set_option maxHeartbeats 8000000 in
set_option maxRecDepth 100000 in
theorem Bind_is (k : Nat) (E : Option Addr) (ce : Nat) (x : List S25) (A : Option Addr) (c : Nat) (l : List S28) (b : S28) (y : List S28) (code : Int) (w : World) (he : Kd.C k25 w E x.length x) (hec : x.length ≤ ce) (hel : x.length ≤ 1000) (hx : Kd.C k28 w A l.length l) (hxc : l.length ≤ c) (hl : l.length ≤ 1000) (hgl : Gl w) (h : BindR k x l b y code) :
    Calls Tryd.prog 12 #[.slice E x.length ce, .slice A l.length c, vB b] w fun ee w' => ∃ A' c', ee = .returned (.tuple #[.slice A' y.length c', .int .i64 code]) ∧ Kd.C k28 w' A' y.length y ∧ y.length ≤ c' ∧ Below w.heap.size w w' := by
  have HE := Aside0.mk he
  have HEC := Aside0.mk hec
  have HEL := Aside0.mk (show x.length ≤ 1000000 by omega)
  have HGL := Aside0.mk hgl
  clear hgl
  have HX := Aside0.mk hx
  have HXC := Aside0.mk hxc
  have HXL := Aside0.mk (show l.length ≤ 1000000 by omega)
  have hu := Tryd.underlying28
  obtain ⟨q, hq⟩ : ∃ q, idxI (nameIs b.f0) x = q := ⟨_, rfl⟩
  have HQ := Aside0.mk hq
  obtain ⟨p, hp⟩ : ∃ p, idxI (tBind1 b) l = p := ⟨_, rfl⟩
  have HP := Aside0.mk hp
  unfold BindR at h
  rw [hq, hp] at h
  clear he hec hel hx hxc hl hq hp
  rcases h with ⟨rfl, rfl, rfl⟩ | ⟨i, rfl, h⟩
  · go_enter Tryd.func12, Tryd.ntmps12
    go_wp2_with (first
      | ((with_reducible refine gate_dst (N := 5) rfl ?_); refine box_event ?hg (N := 5) ?hd (cs := cB b) (t := 28) ?hr ?_; (case hd => rfl); (case hg => rfl); (case hr => first | (go_simp; done) | (go_simp; rfl)); intro gb hg w1 hbox hb; have HB1 := Aside0.mk hb; have BK1 := Aside0.mk hbox; have k0_ : w1.cell? ⟨gb, 0, none⟩ = some (.string b.f0) := (blk_cell hbox 0).trans rfl; have k1_ : w1.cell? ⟨gb, 1, none⟩ = some (.string b.f1) := (blk_cell hbox 1).trans rfl; have k2_ : w1.cell? ⟨gb, 2, none⟩ = some (.string b.f2) := (blk_cell hbox 2).trans rfl; have k3_ : w1.cell? ⟨gb, 3, none⟩ = some (.int .i64 b.f3) := (blk_cell hbox 3).trans rfl; clear hb hbox hg)
      | (go_at_call 14; refine (Find_is E ce x b.f0 _ (Kd.C_below HE.out HB1.out) HEL.out).mono ?_; rintro ee w2 ⟨rfl, hb⟩; have HB2 := Aside0.mk (thn HB1.out hb); have BK2 := Aside0.mk (blk_below BK1.out hb); clear k0_ k1_ k2_ k3_; have k0_ : w2.cell? ⟨gb, 0, none⟩ = some (.string b.f0) := (blk_cell BK2.out 0).trans rfl; have k1_ : w2.cell? ⟨gb, 1, none⟩ = some (.string b.f1) := (blk_cell BK2.out 1).trans rfl; have k2_ : w2.cell? ⟨gb, 2, none⟩ = some (.string b.f2) := (blk_cell BK2.out 2).trans rfl; have k3_ : w2.cell? ⟨gb, 3, none⟩ = some (.int .i64 b.f3) := (blk_cell BK2.out 3).trans rfl; clear hb; rw [HQ.out]))
    go_ret2
    exact ⟨_, _, rfl, Kd.C_below HX.out HB2.out, HXC.out, HB2.out⟩
  have hi0 : ¬ ((i : Int) < 0) := by omega
  rcases h with ⟨ht, rfl, rfl⟩ | ⟨ht, h⟩
  · have HT := Aside0.mk ht
    clear ht
    go_enter Tryd.func12, Tryd.ntmps12
    go_wp2_with (first
      | ((with_reducible refine gate_dst (N := 5) rfl ?_); refine box_event ?hg (N := 5) ?hd (cs := cB b) (t := 28) ?hr ?_; (case hd => rfl); (case hg => rfl); (case hr => first | (go_simp; done) | (go_simp; rfl)); intro gb hg w1 hbox hb; have HB1 := Aside0.mk hb; have BK1 := Aside0.mk hbox; have k0_ : w1.cell? ⟨gb, 0, none⟩ = some (.string b.f0) := (blk_cell hbox 0).trans rfl; have k1_ : w1.cell? ⟨gb, 1, none⟩ = some (.string b.f1) := (blk_cell hbox 1).trans rfl; have k2_ : w1.cell? ⟨gb, 2, none⟩ = some (.string b.f2) := (blk_cell hbox 2).trans rfl; have k3_ : w1.cell? ⟨gb, 3, none⟩ = some (.int .i64 b.f3) := (blk_cell hbox 3).trans rfl; clear hb hbox hg)
      | (go_at_call 14; refine (Find_is E ce x b.f0 _ (Kd.C_below HE.out HB1.out) HEL.out).mono ?_; rintro ee w2 ⟨rfl, hb⟩; have HB2 := Aside0.mk (thn HB1.out hb); have BK2 := Aside0.mk (blk_below BK1.out hb); clear k0_ k1_ k2_ k3_; have k0_ : w2.cell? ⟨gb, 0, none⟩ = some (.string b.f0) := (blk_cell BK2.out 0).trans rfl; have k1_ : w2.cell? ⟨gb, 1, none⟩ = some (.string b.f1) := (blk_cell BK2.out 1).trans rfl; have k2_ : w2.cell? ⟨gb, 2, none⟩ = some (.string b.f2) := (blk_cell BK2.out 2).trans rfl; have k3_ : w2.cell? ⟨gb, 3, none⟩ = some (.int .i64 b.f3) := (blk_cell BK2.out 3).trans rfl; clear hb; rw [HQ.out])
      | (go_at_call 25; refine (PGb.api_Binding_25.calls k A c y b.f0 b.f1 b.f2 b.f3 _ _ (Kd.C_below HX.out HB2.out) HXC.out HT.out).mono ?_; rintro ee w3 ⟨rfl, hb⟩; have HB3 := Aside0.mk (thn HB2.out hb); have BK3 := Aside0.mk (blk_below BK2.out hb); clear k0_ k1_ k2_ k3_; have k0_ : w3.cell? ⟨gb, 0, none⟩ = some (.string b.f0) := (blk_cell BK3.out 0).trans rfl; have k1_ : w3.cell? ⟨gb, 1, none⟩ = some (.string b.f1) := (blk_cell BK3.out 1).trans rfl; have k2_ : w3.cell? ⟨gb, 2, none⟩ = some (.string b.f2) := (blk_cell BK3.out 2).trans rfl; have k3_ : w3.cell? ⟨gb, 3, none⟩ = some (.int .i64 b.f3) := (blk_cell BK3.out 3).trans rfl; clear hb))
    go_ret2
    exact ⟨_, _, rfl, Kd.C_below HX.out HB3.out, HXC.out, HB3.out⟩
  have HT := Aside0.mk ht
  clear ht
  rcases h with ⟨hp0, rfl, rfl⟩ | ⟨rfl, h⟩
  · have HD := Aside0.mk (decide_eq_true hp0)
    clear hp0
    go_enter Tryd.func12, Tryd.ntmps12
    go_wp2_with (first
      | ((with_reducible refine gate_dst (N := 5) rfl ?_); refine box_event ?hg (N := 5) ?hd (cs := cB b) (t := 28) ?hr ?_; (case hd => rfl); (case hg => rfl); (case hr => first | (go_simp; done) | (go_simp; rfl)); intro gb hg w1 hbox hb; have HB1 := Aside0.mk hb; have BK1 := Aside0.mk hbox; have k0_ : w1.cell? ⟨gb, 0, none⟩ = some (.string b.f0) := (blk_cell hbox 0).trans rfl; have k1_ : w1.cell? ⟨gb, 1, none⟩ = some (.string b.f1) := (blk_cell hbox 1).trans rfl; have k2_ : w1.cell? ⟨gb, 2, none⟩ = some (.string b.f2) := (blk_cell hbox 2).trans rfl; have k3_ : w1.cell? ⟨gb, 3, none⟩ = some (.int .i64 b.f3) := (blk_cell hbox 3).trans rfl; clear hb hbox hg)
      | (go_at_call 14; refine (Find_is E ce x b.f0 _ (Kd.C_below HE.out HB1.out) HEL.out).mono ?_; rintro ee w2 ⟨rfl, hb⟩; have HB2 := Aside0.mk (thn HB1.out hb); have BK2 := Aside0.mk (blk_below BK1.out hb); clear k0_ k1_ k2_ k3_; have k0_ : w2.cell? ⟨gb, 0, none⟩ = some (.string b.f0) := (blk_cell BK2.out 0).trans rfl; have k1_ : w2.cell? ⟨gb, 1, none⟩ = some (.string b.f1) := (blk_cell BK2.out 1).trans rfl; have k2_ : w2.cell? ⟨gb, 2, none⟩ = some (.string b.f2) := (blk_cell BK2.out 2).trans rfl; have k3_ : w2.cell? ⟨gb, 3, none⟩ = some (.int .i64 b.f3) := (blk_cell BK2.out 3).trans rfl; clear hb; rw [HQ.out])
      | (go_at_call 25; refine (PGb.api_Binding_25.calls k A c y b.f0 b.f1 b.f2 b.f3 _ _ (Kd.C_below HX.out HB2.out) HXC.out HT.out).mono ?_; rintro ee w3 ⟨rfl, hb⟩; have HB3 := Aside0.mk (thn HB2.out hb); have BK3 := Aside0.mk (blk_below BK2.out hb); clear k0_ k1_ k2_ k3_; have k0_ : w3.cell? ⟨gb, 0, none⟩ = some (.string b.f0) := (blk_cell BK3.out 0).trans rfl; have k1_ : w3.cell? ⟨gb, 1, none⟩ = some (.string b.f1) := (blk_cell BK3.out 1).trans rfl; have k2_ : w3.cell? ⟨gb, 2, none⟩ = some (.string b.f2) := (blk_cell BK3.out 2).trans rfl; have k3_ : w3.cell? ⟨gb, 3, none⟩ = some (.int .i64 b.f3) := (blk_cell BK3.out 3).trans rfl; clear hb)
      | (go_at_call 26; refine (CfB_is A c y gb b _ (Kd.C_below HX.out HB3.out) HXL.out BK3.out).mono ?_; rintro ee w4 ⟨rfl, hb⟩; have HB4 := Aside0.mk (thn HB3.out hb); have BK4 := Aside0.mk (blk_below BK3.out hb); clear hb k0_ k1_ k2_ k3_; rw [HP.out, HD.out]))
    go_ret2
    exact ⟨_, _, rfl, Kd.C_below HX.out HB4.out, HXC.out, HB4.out⟩
  have HD := Aside0.mk (show decide ((0 : Int) ≤ -1) = false from rfl)
  rcases h with ⟨hm, rfl, rfl⟩ | ⟨hm, rfl, rfl⟩
  all_goals
    have HM := Aside0.mk hm
    clear hm
  · go_enter Tryd.func12, Tryd.ntmps12
    go_wp2_with (first
          | ((with_reducible refine gate_dst (N := 5) rfl ?_); refine box_event ?hg (N := 5) ?hd (cs := cB b) (t := 28) ?hr ?_; (case hd => rfl); (case hg => rfl); (case hr => first | (go_simp; done) | (go_simp; rfl)); intro gb hg w1 hbox hb; have HB1 := Aside0.mk hb; have BK1 := Aside0.mk hbox; have k0_ : w1.cell? ⟨gb, 0, none⟩ = some (.string b.f0) := (blk_cell hbox 0).trans rfl; have k1_ : w1.cell? ⟨gb, 1, none⟩ = some (.string b.f1) := (blk_cell hbox 1).trans rfl; have k2_ : w1.cell? ⟨gb, 2, none⟩ = some (.string b.f2) := (blk_cell hbox 2).trans rfl; have k3_ : w1.cell? ⟨gb, 3, none⟩ = some (.int .i64 b.f3) := (blk_cell hbox 3).trans rfl; clear hb hbox hg)
          | (go_at_call 14; refine (Find_is E ce x b.f0 _ (Kd.C_below HE.out HB1.out) HEL.out).mono ?_; rintro ee w2 ⟨rfl, hb⟩; have HB2 := Aside0.mk (thn HB1.out hb); have BK2 := Aside0.mk (blk_below BK1.out hb); clear k0_ k1_ k2_ k3_; have k0_ : w2.cell? ⟨gb, 0, none⟩ = some (.string b.f0) := (blk_cell BK2.out 0).trans rfl; have k1_ : w2.cell? ⟨gb, 1, none⟩ = some (.string b.f1) := (blk_cell BK2.out 1).trans rfl; have k2_ : w2.cell? ⟨gb, 2, none⟩ = some (.string b.f2) := (blk_cell BK2.out 2).trans rfl; have k3_ : w2.cell? ⟨gb, 3, none⟩ = some (.int .i64 b.f3) := (blk_cell BK2.out 3).trans rfl; clear hb; rw [HQ.out])
          | (go_at_call 25; refine (PGb.api_Binding_25.calls k A c l b.f0 b.f1 b.f2 b.f3 _ _ (Kd.C_below HX.out HB2.out) HXC.out HT.out).mono ?_; rintro ee w3 ⟨rfl, hb⟩; have HB3 := Aside0.mk (thn HB2.out hb); have BK3 := Aside0.mk (blk_below BK2.out hb); clear k0_ k1_ k2_ k3_; have k0_ : w3.cell? ⟨gb, 0, none⟩ = some (.string b.f0) := (blk_cell BK3.out 0).trans rfl; have k1_ : w3.cell? ⟨gb, 1, none⟩ = some (.string b.f1) := (blk_cell BK3.out 1).trans rfl; have k2_ : w3.cell? ⟨gb, 2, none⟩ = some (.string b.f2) := (blk_cell BK3.out 2).trans rfl; have k3_ : w3.cell? ⟨gb, 3, none⟩ = some (.int .i64 b.f3) := (blk_cell BK3.out 3).trans rfl; clear hb)
          | (go_at_call 26; refine (CfB_is A c l gb b _ (Kd.C_below HX.out HB3.out) HXL.out BK3.out).mono ?_; rintro ee w4 ⟨rfl, hb⟩; have HB4 := Aside0.mk (thn HB3.out hb); have BK4 := Aside0.mk (blk_below BK3.out hb); clear hb k0_ k1_ k2_ k3_; rw [HP.out, HD.out]))
    have BK := Aside0.mk BK4.out
    have HB := Aside0.mk HB4.out
    clear BK1 BK2 BK3 BK4 HB1 HB2 HB3 HB4
    have BKD := Aside0.mk (blk_drew BK.out)
    have HBD := Aside0.mk (below_drew1 HB.out)
    clear BK HB
    have BK := BKD
    have HB := HBD
    clear BKD HBD
    refine start_ (n := 6) (S := fun w' => w'.cell? ⟨gb, 0, none⟩ = some (.string b.f0) ∧ w'.cell? ⟨gb, 1, none⟩ = some (.string b.f1) ∧ w'.cell? ⟨gb, 2, none⟩ = some (.string b.f2) ∧ w'.cell? ⟨gb, 3, none⟩ = some (.int .i64 b.f3)) (ds := []) #[false, false, false, false, false, false] (by kernel_rfl) rfl rfl ⟨(blk_cell BK.out 0).trans rfl, (blk_cell BK.out 1).trans rfl, (blk_cell BK.out 2).trans rfl, (blk_cell BK.out 3).trans rfl⟩ (fun hHeld => ?_)
    generalize w4.drew = w20 at BK HB hHeld ⊢
    refine pure_ (i := 0) (N := some 23) (v := ?_) (a' := ?_) #[true, false, false, false, false, false] rfl rfl (by kernel_rfl) (fun _ _ _ h => h) (Or.inl ⟨by rfl, ?_⟩) ?_ ?_
    rotate_left
    · intro w'
      go_simp
      with_reducible rfl
    rotate_left
    · simp only [Act.put, List.setIfInBounds_toArray, List.set_cons_zero, List.set_cons_succ]
      rfl

    refine take_ (i := 2) (N := some 25) (v := ?_) (a' := ?_) #[true, false, true, false, false, false] rfl rfl (by kernel_rfl) (fun _ _ _ h => h) (Or.inl ⟨by rfl, ?_⟩) hHeld ?_ ?_
    rotate_left
    · rintro w' ⟨s0, s1, s2, s3⟩
      go_simp
      with_reducible rfl
    rotate_left
    · simp only [Act.put, List.setIfInBounds_toArray, List.set_cons_zero, List.set_cons_succ]
      rfl

    refine join_ (σ := Value × Value) 2 #[true, true, true, true, false, false] (fun s_ => [(24, s_.1), (26, s_.2)]) (fun s_ w' => (w'.cell? ⟨gb, 0, none⟩ = some (.string b.f0) ∧ w'.cell? ⟨gb, 1, none⟩ = some (.string b.f1) ∧ w'.cell? ⟨gb, 2, none⟩ = some (.string b.f2) ∧ w'.cell? ⟨gb, 3, none⟩ = some (.int .i64 b.f3)) ∧ (Kd.R k28 28 w' w.heap.size (fun k_ => True ∧ k_ ≠ gb) s_.1 l) ∧ (∃ A4 c4, s_.2 = .slice A4 1 c4 ∧ Kd.C k28 w' A4 1 [b]) ∧ (w'.heap[gb]? = some (.cells #[.string b.f0, .string b.f1, .string b.f2, .int .i64 b.f3] 28 (0, 0))) ∧ Below w.heap.size w w') ?_ ?_
    rotate_left
    · intro hCont
      refine two_ (i := 1) (j := 3) (Ni := some 24) (Nj := some 26) #[true, true, true, false, false, false] #[true, false, true, true, false, false] rfl rfl rfl rfl (by kernel_rfl) (by decide) (by decide) (fun K hK => ?_) (fun K hK => ?_)
      · skip
        refine goes_ Tryd.func28 (by kernel_rfl) rfl #[.slice A l.length c] (by rfl) rfl rfl (by (try simp only [List.map_toArray, List.map_cons, List.map_nil]); first | done | rfl) ?_
        refine (ClB_is A c l _ (Kd.C_below HX.out HB.out) HXL.out).mono ?_
        rintro ee w3 ⟨v1, rfl, ho, hb⟩
        refine ⟨_, rfl, ?_⟩
        have BK3 := Aside0.mk (blk_below (g := gb) (o := .cells #[.string b.f0, .string b.f1, .string b.f2, .int .i64 b.f3] 28 (0, 0)) BK.out hb)
        have HO3 := Aside0.mk (Kd.R_lower (Kd.R_newB ho (g := gb) (o := .cells #[.string b.f0, .string b.f1, .string b.f2, .int .i64 b.f3] 28 (0, 0)) BK.out) HB.out.size)
        have HB3 := Aside0.mk (thn HB.out hb)
        refine hK.out _ _ ⟨(blk_cell BK3.out 0).trans rfl, (blk_cell BK3.out 1).trans rfl, (blk_cell BK3.out 2).trans rfl, (blk_cell BK3.out 3).trans rfl⟩ (fun hHeld => ?_)
        clear hK K
        refine norm_ (a' := ?_) ?_ ?_
        rotate_left
        · show Act.put _ (some 24) _ = _
          simp only [Act.put, List.setIfInBounds_toArray, List.set_cons_zero, List.set_cons_succ]
          rfl
        refine one_ (i := 3) (N := some 26) #[true, true, true, true, false, false] rfl rfl (by kernel_rfl) (by decide) (fun K hK => ?_)
        refine Kd.R_lit_step k28 _ 28 ?hg (N := 26) ?hd (xs := [b]) (inner := [.string b.f0, .string b.f1, .string b.f2, .int .i64 b.f3]) (ok := fun _ => True) (okp := fun _ => True) ?hr ?hp (fun _ hk => hk) trivial (Below.refl _ _) (Nat.le_refl _) (by simp) ?_; (case hd => rfl); (case hg => rfl); (case hr => first | (go_simp; done) | (go_simp; rfl)); (case hp => exact (Reps.c4 (show Kd.M k28 _ _ _ b [.string b.f0, .string b.f1, .string b.f2, .int .i64 b.f3] from k28_mkM _ _ _ b) (Reps.none _ _)))
        intro v4 w4 ho4 hb4 hg4_ hnew4_
        clear hg4_ hnew4_
        obtain ⟨A4, c4, hv4, hC4⟩ : ∃ A4 c4, v4 = .slice A4 1 c4 ∧ Kd.C k28 w4 A4 1 [b] := by { obtain ⟨A4, c4, rfl, -, h⟩ := Kd.R_reads ho4; exact ⟨_, _, rfl, h⟩ }
        subst hv4
        have BK4 := Aside0.mk (blk_below (g := gb) (o := .cells #[.string b.f0, .string b.f1, .string b.f2, .int .i64 b.f3] 28 (0, 0)) BK3.out hb4)
        refine hK.out _ _ ⟨(blk_cell BK4.out 0).trans rfl, (blk_cell BK4.out 1).trans rfl, (blk_cell BK4.out 2).trans rfl, (blk_cell BK4.out 3).trans rfl⟩ (fun hHeld => ?_)
        clear hK K
        refine norm_ (a' := ?_) ?_ ?_
        rotate_left
        · show Act.put _ (some 26) _ = _
          simp only [Act.put, List.setIfInBounds_toArray, List.set_cons_zero, List.set_cons_succ]
          rfl
        exact norm_ (by simp only [putAll, Act.put, List.setIfInBounds_toArray, List.set_cons_zero, List.set_cons_succ]) (hCont (v1, .slice A4 1 c4) _ ⟨hHeld, Kd.R_below HO3.out hb4, ⟨_, _, rfl, hC4⟩, BK4.out, thn HB3.out hb4⟩)
      · skip
        refine Kd.R_lit_step k28 _ 28 ?hg (N := 26) ?hd (xs := [b]) (inner := [.string b.f0, .string b.f1, .string b.f2, .int .i64 b.f3]) (ok := fun _ => True) (okp := fun _ => True) ?hr ?hp (fun _ hk => hk) trivial (Below.refl _ _) (Nat.le_refl _) (by simp) ?_; (case hd => rfl); (case hg => rfl); (case hr => first | (go_simp; done) | (go_simp; rfl)); (case hp => exact (Reps.c4 (show Kd.M k28 _ _ _ b [.string b.f0, .string b.f1, .string b.f2, .int .i64 b.f3] from k28_mkM _ _ _ b) (Reps.none _ _)))
        intro v4 w4 ho4 hb4 hg4_ hnew4_
        clear hg4_ hnew4_
        obtain ⟨A4, c4, hv4, hC4⟩ : ∃ A4 c4, v4 = .slice A4 1 c4 ∧ Kd.C k28 w4 A4 1 [b] := by { obtain ⟨A4, c4, rfl, -, h⟩ := Kd.R_reads ho4; exact ⟨_, _, rfl, h⟩ }
        subst hv4
        have BK4 := Aside0.mk (blk_below (g := gb) (o := .cells #[.string b.f0, .string b.f1, .string b.f2, .int .i64 b.f3] 28 (0, 0)) BK.out hb4)
        have HB4 := Aside0.mk (thn HB.out hb4)
        refine hK.out _ _ ⟨(blk_cell BK4.out 0).trans rfl, (blk_cell BK4.out 1).trans rfl, (blk_cell BK4.out 2).trans rfl, (blk_cell BK4.out 3).trans rfl⟩ (fun hHeld => ?_)
        clear hK K
        refine norm_ (a' := ?_) ?_ ?_
        rotate_left
        · show Act.put _ (some 26) _ = _
          simp only [Act.put, List.setIfInBounds_toArray, List.set_cons_zero, List.set_cons_succ]
          rfl
        refine one_ (i := 1) (N := some 24) #[true, true, true, true, false, false] rfl rfl (by kernel_rfl) (by decide) (fun K hK => ?_)
        refine goes_ Tryd.func28 (by kernel_rfl) rfl #[.slice A l.length c] (by rfl) rfl rfl (by (try simp only [List.map_toArray, List.map_cons, List.map_nil]); first | done | rfl) ?_
        refine (ClB_is A c l _ (Kd.C_below HX.out HB4.out) HXL.out).mono ?_
        rintro ee w3 ⟨v1, rfl, ho, hb⟩
        refine ⟨_, rfl, ?_⟩
        have BK3 := Aside0.mk (blk_below (g := gb) (o := .cells #[.string b.f0, .string b.f1, .string b.f2, .int .i64 b.f3] 28 (0, 0)) BK4.out hb)
        have HO3 := Aside0.mk (Kd.R_lower (Kd.R_newB ho (g := gb) (o := .cells #[.string b.f0, .string b.f1, .string b.f2, .int .i64 b.f3] 28 (0, 0)) BK4.out) HB4.out.size)
        have HB3 := Aside0.mk (thn HB4.out hb)
        refine hK.out _ _ ⟨(blk_cell BK3.out 0).trans rfl, (blk_cell BK3.out 1).trans rfl, (blk_cell BK3.out 2).trans rfl, (blk_cell BK3.out 3).trans rfl⟩ (fun hHeld => ?_)
        clear hK K
        refine norm_ (a' := ?_) ?_ ?_
        rotate_left
        · show Act.put _ (some 24) _ = _
          simp only [Act.put, List.setIfInBounds_toArray, List.set_cons_zero, List.set_cons_succ]
          rfl
        exact norm_ (by simp only [putAll, Act.put, List.setIfInBounds_toArray, List.set_cons_zero, List.set_cons_succ]) (hCont (v1, .slice A4 1 c4) _ ⟨hHeld, HO3.out, ⟨_, _, rfl, Kd.C_below hC4 hb⟩, BK3.out, HB3.out⟩)

    rintro ⟨v1, v4⟩ w5 ⟨hS_, ho5, ⟨A4, c4, h4, hC5⟩, hbk5, hb5⟩
    have h4 : v4 = .slice A4 1 c4 := h4
    subst h4
    refine norm_ (a' := ?_) ?_ ?_
    rotate_left
    · simp only [putAll, Act.put, List.setIfInBounds_toArray, List.set_cons_zero, List.set_cons_succ]
      rfl
    refine one_ (i := 4) (N := some 27) #[true, true, true, true, true, false] rfl rfl (by kernel_rfl) (by decide) (fun K hK => ?_)
    refine Kd.R_append_rows_step k28 (w0 := w) w.heap.size (by rfl) (.tmp 24) (.tmp 26) 22 28 (.agg #[.string ⟨#[]⟩, .string ⟨#[]⟩, .string ⟨#[]⟩, .int .i64 0]) 56 rfl Tryd.underlying22 (by kernel_rfl) rfl (by decide) (by decide) v1 l [b] A4 1 c4 (fun k_ => True ∧ k_ ≠ gb) (fun _ => False) rfl rfl ho5 hC5 (fun _ _ h => h) (fun _ h => h.elim) (fun k_ hk => ⟨trivial, Kd.freshB (g := gb) (o := .cells #[.string b.f0, .string b.f1, .string b.f2, .int .i64 b.f3] 28 (0, 0)) hbk5 k_ hk⟩) hb5 hb5.size (by have := HXL.out; omega) ?_
    intro v6 w6 ho6 hb6 hg6 hat6
    have BK6 := Aside0.mk (blk_grown (g := gb) (o := .cells #[.string b.f0, .string b.f1, .string b.f2, .int .i64 b.f3] 28 (0, 0)) hbk5 hg6 (Kd.R_away ho5 (fun _ hk => hk.2)))
    refine hK.out _ _ ⟨(blk_cell BK6.out 0).trans rfl, (blk_cell BK6.out 1).trans rfl, (blk_cell BK6.out 2).trans rfl, (blk_cell BK6.out 3).trans rfl⟩ (fun hHeld => ?_)
    clear hK K
    refine norm_ (a' := ?_) ?_ ?_
    rotate_left
    · show Act.put _ (some 27) _ = _
      simp only [Act.put, List.setIfInBounds_toArray, List.set_cons_zero, List.set_cons_succ]
      rfl
    refine pure_ (i := 5) (N := some 8) (v := ?_) (a' := ?_) #[true, true, true, true, true, true] rfl rfl (by kernel_rfl) (fun _ _ _ h => h) (Or.inl ⟨by rfl, ?_⟩) ?_ ?_
    rotate_left
    · intro w'
      go_simp
      with_reducible rfl
    rotate_left
    · simp only [Act.put, List.setIfInBounds_toArray, List.set_cons_zero, List.set_cons_succ]
      rfl
    refine done_ (by kernel_rfl) ?_
    obtain ⟨A6, c6, rfl, hc6, hC6⟩ := Kd.R_reads ho6
    have HC6 := Aside0.mk hC6
    have HB6 := Aside0.mk hb6
    have HL6 := Aside0.mk hc6
    clear ho6 hb6 hc6 hC6 ho5 hC5 hbk5 hb5 hg6 hat6 hS_ hHeld
    obtain ⟨z, hz⟩ : ∃ z, z = l ++ [b] := ⟨_, rfl⟩
    rw [← hz] at HC6 HL6 HM ⊢
    have HZ := Aside0.mk hz
    clear hz
    go_wp2_with (go_at_call 8; refine (May_is k E ce x A6 c6 z true _ (Kd.C_below HE.out HB6.out) HEC.out HC6.out (Gl.below HGL.out HB6.out) HM.out).mono ?_; rintro ee w7 ⟨rfl, hb⟩; have HB7 := Aside0.mk (thn HB6.out hb); have HC7 := Aside0.mk (Kd.C_below HC6.out hb); clear hb)
    go_ret2
    have hz := HZ.out
    subst hz
    exact ⟨_, _, rfl, HC7.out, HL6.out, HB7.out⟩
  · go_enter Tryd.func12, Tryd.ntmps12
    go_wp2_with (first
          | ((with_reducible refine gate_dst (N := 5) rfl ?_); refine box_event ?hg (N := 5) ?hd (cs := cB b) (t := 28) ?hr ?_; (case hd => rfl); (case hg => rfl); (case hr => first | (go_simp; done) | (go_simp; rfl)); intro gb hg w1 hbox hb; have HB1 := Aside0.mk hb; have BK1 := Aside0.mk hbox; have k0_ : w1.cell? ⟨gb, 0, none⟩ = some (.string b.f0) := (blk_cell hbox 0).trans rfl; have k1_ : w1.cell? ⟨gb, 1, none⟩ = some (.string b.f1) := (blk_cell hbox 1).trans rfl; have k2_ : w1.cell? ⟨gb, 2, none⟩ = some (.string b.f2) := (blk_cell hbox 2).trans rfl; have k3_ : w1.cell? ⟨gb, 3, none⟩ = some (.int .i64 b.f3) := (blk_cell hbox 3).trans rfl; clear hb hbox hg)
          | (go_at_call 14; refine (Find_is E ce x b.f0 _ (Kd.C_below HE.out HB1.out) HEL.out).mono ?_; rintro ee w2 ⟨rfl, hb⟩; have HB2 := Aside0.mk (thn HB1.out hb); have BK2 := Aside0.mk (blk_below BK1.out hb); clear k0_ k1_ k2_ k3_; have k0_ : w2.cell? ⟨gb, 0, none⟩ = some (.string b.f0) := (blk_cell BK2.out 0).trans rfl; have k1_ : w2.cell? ⟨gb, 1, none⟩ = some (.string b.f1) := (blk_cell BK2.out 1).trans rfl; have k2_ : w2.cell? ⟨gb, 2, none⟩ = some (.string b.f2) := (blk_cell BK2.out 2).trans rfl; have k3_ : w2.cell? ⟨gb, 3, none⟩ = some (.int .i64 b.f3) := (blk_cell BK2.out 3).trans rfl; clear hb; rw [HQ.out])
          | (go_at_call 25; refine (PGb.api_Binding_25.calls k A c y b.f0 b.f1 b.f2 b.f3 _ _ (Kd.C_below HX.out HB2.out) HXC.out HT.out).mono ?_; rintro ee w3 ⟨rfl, hb⟩; have HB3 := Aside0.mk (thn HB2.out hb); have BK3 := Aside0.mk (blk_below BK2.out hb); clear k0_ k1_ k2_ k3_; have k0_ : w3.cell? ⟨gb, 0, none⟩ = some (.string b.f0) := (blk_cell BK3.out 0).trans rfl; have k1_ : w3.cell? ⟨gb, 1, none⟩ = some (.string b.f1) := (blk_cell BK3.out 1).trans rfl; have k2_ : w3.cell? ⟨gb, 2, none⟩ = some (.string b.f2) := (blk_cell BK3.out 2).trans rfl; have k3_ : w3.cell? ⟨gb, 3, none⟩ = some (.int .i64 b.f3) := (blk_cell BK3.out 3).trans rfl; clear hb)
          | (go_at_call 26; refine (CfB_is A c y gb b _ (Kd.C_below HX.out HB3.out) HXL.out BK3.out).mono ?_; rintro ee w4 ⟨rfl, hb⟩; have HB4 := Aside0.mk (thn HB3.out hb); have BK4 := Aside0.mk (blk_below BK3.out hb); clear hb k0_ k1_ k2_ k3_; rw [HP.out, HD.out]))
    have BK := Aside0.mk BK4.out
    have HB := Aside0.mk HB4.out
    clear BK1 BK2 BK3 BK4 HB1 HB2 HB3 HB4
    have BKD := Aside0.mk (blk_drew BK.out)
    have HBD := Aside0.mk (below_drew1 HB.out)
    clear BK HB
    have BK := BKD
    have HB := HBD
    clear BKD HBD
    refine start_ (n := 6) (S := fun w' => w'.cell? ⟨gb, 0, none⟩ = some (.string b.f0) ∧ w'.cell? ⟨gb, 1, none⟩ = some (.string b.f1) ∧ w'.cell? ⟨gb, 2, none⟩ = some (.string b.f2) ∧ w'.cell? ⟨gb, 3, none⟩ = some (.int .i64 b.f3)) (ds := []) #[false, false, false, false, false, false] (by kernel_rfl) rfl rfl ⟨(blk_cell BK.out 0).trans rfl, (blk_cell BK.out 1).trans rfl, (blk_cell BK.out 2).trans rfl, (blk_cell BK.out 3).trans rfl⟩ (fun hHeld => ?_)
    generalize w4.drew = w20 at BK HB hHeld ⊢
    refine pure_ (i := 0) (N := some 23) (v := ?_) (a' := ?_) #[true, false, false, false, false, false] rfl rfl (by kernel_rfl) (fun _ _ _ h => h) (Or.inl ⟨by rfl, ?_⟩) ?_ ?_
    rotate_left
    · intro w'
      go_simp
      with_reducible rfl
    rotate_left
    · simp only [Act.put, List.setIfInBounds_toArray, List.set_cons_zero, List.set_cons_succ]
      rfl

    refine take_ (i := 2) (N := some 25) (v := ?_) (a' := ?_) #[true, false, true, false, false, false] rfl rfl (by kernel_rfl) (fun _ _ _ h => h) (Or.inl ⟨by rfl, ?_⟩) hHeld ?_ ?_
    rotate_left
    · rintro w' ⟨s0, s1, s2, s3⟩
      go_simp
      with_reducible rfl
    rotate_left
    · simp only [Act.put, List.setIfInBounds_toArray, List.set_cons_zero, List.set_cons_succ]
      rfl

    refine join_ (σ := Value × Value) 2 #[true, true, true, true, false, false] (fun s_ => [(24, s_.1), (26, s_.2)]) (fun s_ w' => (w'.cell? ⟨gb, 0, none⟩ = some (.string b.f0) ∧ w'.cell? ⟨gb, 1, none⟩ = some (.string b.f1) ∧ w'.cell? ⟨gb, 2, none⟩ = some (.string b.f2) ∧ w'.cell? ⟨gb, 3, none⟩ = some (.int .i64 b.f3)) ∧ (Kd.R k28 28 w' w.heap.size (fun k_ => True ∧ k_ ≠ gb) s_.1 y) ∧ (∃ A4 c4, s_.2 = .slice A4 1 c4 ∧ Kd.C k28 w' A4 1 [b]) ∧ (w'.heap[gb]? = some (.cells #[.string b.f0, .string b.f1, .string b.f2, .int .i64 b.f3] 28 (0, 0))) ∧ Below w.heap.size w w') ?_ ?_
    rotate_left
    · intro hCont
      refine two_ (i := 1) (j := 3) (Ni := some 24) (Nj := some 26) #[true, true, true, false, false, false] #[true, false, true, true, false, false] rfl rfl rfl rfl (by kernel_rfl) (by decide) (by decide) (fun K hK => ?_) (fun K hK => ?_)
      · skip
        refine goes_ Tryd.func28 (by kernel_rfl) rfl #[.slice A y.length c] (by rfl) rfl rfl (by (try simp only [List.map_toArray, List.map_cons, List.map_nil]); first | done | rfl) ?_
        refine (ClB_is A c y _ (Kd.C_below HX.out HB.out) HXL.out).mono ?_
        rintro ee w3 ⟨v1, rfl, ho, hb⟩
        refine ⟨_, rfl, ?_⟩
        have BK3 := Aside0.mk (blk_below (g := gb) (o := .cells #[.string b.f0, .string b.f1, .string b.f2, .int .i64 b.f3] 28 (0, 0)) BK.out hb)
        have HO3 := Aside0.mk (Kd.R_lower (Kd.R_newB ho (g := gb) (o := .cells #[.string b.f0, .string b.f1, .string b.f2, .int .i64 b.f3] 28 (0, 0)) BK.out) HB.out.size)
        have HB3 := Aside0.mk (thn HB.out hb)
        refine hK.out _ _ ⟨(blk_cell BK3.out 0).trans rfl, (blk_cell BK3.out 1).trans rfl, (blk_cell BK3.out 2).trans rfl, (blk_cell BK3.out 3).trans rfl⟩ (fun hHeld => ?_)
        clear hK K
        refine norm_ (a' := ?_) ?_ ?_
        rotate_left
        · show Act.put _ (some 24) _ = _
          simp only [Act.put, List.setIfInBounds_toArray, List.set_cons_zero, List.set_cons_succ]
          rfl
        refine one_ (i := 3) (N := some 26) #[true, true, true, true, false, false] rfl rfl (by kernel_rfl) (by decide) (fun K hK => ?_)
        refine Kd.R_lit_step k28 _ 28 ?hg (N := 26) ?hd (xs := [b]) (inner := [.string b.f0, .string b.f1, .string b.f2, .int .i64 b.f3]) (ok := fun _ => True) (okp := fun _ => True) ?hr ?hp (fun _ hk => hk) trivial (Below.refl _ _) (Nat.le_refl _) (by simp) ?_; (case hd => rfl); (case hg => rfl); (case hr => first | (go_simp; done) | (go_simp; rfl)); (case hp => exact (Reps.c4 (show Kd.M k28 _ _ _ b [.string b.f0, .string b.f1, .string b.f2, .int .i64 b.f3] from k28_mkM _ _ _ b) (Reps.none _ _)))
        intro v4 w4 ho4 hb4 hg4_ hnew4_
        clear hg4_ hnew4_
        obtain ⟨A4, c4, hv4, hC4⟩ : ∃ A4 c4, v4 = .slice A4 1 c4 ∧ Kd.C k28 w4 A4 1 [b] := by { obtain ⟨A4, c4, rfl, -, h⟩ := Kd.R_reads ho4; exact ⟨_, _, rfl, h⟩ }
        subst hv4
        have BK4 := Aside0.mk (blk_below (g := gb) (o := .cells #[.string b.f0, .string b.f1, .string b.f2, .int .i64 b.f3] 28 (0, 0)) BK3.out hb4)
        refine hK.out _ _ ⟨(blk_cell BK4.out 0).trans rfl, (blk_cell BK4.out 1).trans rfl, (blk_cell BK4.out 2).trans rfl, (blk_cell BK4.out 3).trans rfl⟩ (fun hHeld => ?_)
        clear hK K
        refine norm_ (a' := ?_) ?_ ?_
        rotate_left
        · show Act.put _ (some 26) _ = _
          simp only [Act.put, List.setIfInBounds_toArray, List.set_cons_zero, List.set_cons_succ]
          rfl
        exact norm_ (by simp only [putAll, Act.put, List.setIfInBounds_toArray, List.set_cons_zero, List.set_cons_succ]) (hCont (v1, .slice A4 1 c4) _ ⟨hHeld, Kd.R_below HO3.out hb4, ⟨_, _, rfl, hC4⟩, BK4.out, thn HB3.out hb4⟩)
      · skip
        refine Kd.R_lit_step k28 _ 28 ?hg (N := 26) ?hd (xs := [b]) (inner := [.string b.f0, .string b.f1, .string b.f2, .int .i64 b.f3]) (ok := fun _ => True) (okp := fun _ => True) ?hr ?hp (fun _ hk => hk) trivial (Below.refl _ _) (Nat.le_refl _) (by simp) ?_; (case hd => rfl); (case hg => rfl); (case hr => first | (go_simp; done) | (go_simp; rfl)); (case hp => exact (Reps.c4 (show Kd.M k28 _ _ _ b [.string b.f0, .string b.f1, .string b.f2, .int .i64 b.f3] from k28_mkM _ _ _ b) (Reps.none _ _)))
        intro v4 w4 ho4 hb4 hg4_ hnew4_
        clear hg4_ hnew4_
        obtain ⟨A4, c4, hv4, hC4⟩ : ∃ A4 c4, v4 = .slice A4 1 c4 ∧ Kd.C k28 w4 A4 1 [b] := by { obtain ⟨A4, c4, rfl, -, h⟩ := Kd.R_reads ho4; exact ⟨_, _, rfl, h⟩ }
        subst hv4
        have BK4 := Aside0.mk (blk_below (g := gb) (o := .cells #[.string b.f0, .string b.f1, .string b.f2, .int .i64 b.f3] 28 (0, 0)) BK.out hb4)
        have HB4 := Aside0.mk (thn HB.out hb4)
        refine hK.out _ _ ⟨(blk_cell BK4.out 0).trans rfl, (blk_cell BK4.out 1).trans rfl, (blk_cell BK4.out 2).trans rfl, (blk_cell BK4.out 3).trans rfl⟩ (fun hHeld => ?_)
        clear hK K
        refine norm_ (a' := ?_) ?_ ?_
        rotate_left
        · show Act.put _ (some 26) _ = _
          simp only [Act.put, List.setIfInBounds_toArray, List.set_cons_zero, List.set_cons_succ]
          rfl
        refine one_ (i := 1) (N := some 24) #[true, true, true, true, false, false] rfl rfl (by kernel_rfl) (by decide) (fun K hK => ?_)
        refine goes_ Tryd.func28 (by kernel_rfl) rfl #[.slice A y.length c] (by rfl) rfl rfl (by (try simp only [List.map_toArray, List.map_cons, List.map_nil]); first | done | rfl) ?_
        refine (ClB_is A c y _ (Kd.C_below HX.out HB4.out) HXL.out).mono ?_
        rintro ee w3 ⟨v1, rfl, ho, hb⟩
        refine ⟨_, rfl, ?_⟩
        have BK3 := Aside0.mk (blk_below (g := gb) (o := .cells #[.string b.f0, .string b.f1, .string b.f2, .int .i64 b.f3] 28 (0, 0)) BK4.out hb)
        have HO3 := Aside0.mk (Kd.R_lower (Kd.R_newB ho (g := gb) (o := .cells #[.string b.f0, .string b.f1, .string b.f2, .int .i64 b.f3] 28 (0, 0)) BK4.out) HB4.out.size)
        have HB3 := Aside0.mk (thn HB4.out hb)
        refine hK.out _ _ ⟨(blk_cell BK3.out 0).trans rfl, (blk_cell BK3.out 1).trans rfl, (blk_cell BK3.out 2).trans rfl, (blk_cell BK3.out 3).trans rfl⟩ (fun hHeld => ?_)
        clear hK K
        refine norm_ (a' := ?_) ?_ ?_
        rotate_left
        · show Act.put _ (some 24) _ = _
          simp only [Act.put, List.setIfInBounds_toArray, List.set_cons_zero, List.set_cons_succ]
          rfl
        exact norm_ (by simp only [putAll, Act.put, List.setIfInBounds_toArray, List.set_cons_zero, List.set_cons_succ]) (hCont (v1, .slice A4 1 c4) _ ⟨hHeld, HO3.out, ⟨_, _, rfl, Kd.C_below hC4 hb⟩, BK3.out, HB3.out⟩)

    rintro ⟨v1, v4⟩ w5 ⟨hS_, ho5, ⟨A4, c4, h4, hC5⟩, hbk5, hb5⟩
    have h4 : v4 = .slice A4 1 c4 := h4
    subst h4
    refine norm_ (a' := ?_) ?_ ?_
    rotate_left
    · simp only [putAll, Act.put, List.setIfInBounds_toArray, List.set_cons_zero, List.set_cons_succ]
      rfl
    refine one_ (i := 4) (N := some 27) #[true, true, true, true, true, false] rfl rfl (by kernel_rfl) (by decide) (fun K hK => ?_)
    refine Kd.R_append_rows_step k28 (w0 := w) w.heap.size (by rfl) (.tmp 24) (.tmp 26) 22 28 (.agg #[.string ⟨#[]⟩, .string ⟨#[]⟩, .string ⟨#[]⟩, .int .i64 0]) 56 rfl Tryd.underlying22 (by kernel_rfl) rfl (by decide) (by decide) v1 y [b] A4 1 c4 (fun k_ => True ∧ k_ ≠ gb) (fun _ => False) rfl rfl ho5 hC5 (fun _ _ h => h) (fun _ h => h.elim) (fun k_ hk => ⟨trivial, Kd.freshB (g := gb) (o := .cells #[.string b.f0, .string b.f1, .string b.f2, .int .i64 b.f3] 28 (0, 0)) hbk5 k_ hk⟩) hb5 hb5.size (by have := HXL.out; omega) ?_
    intro v6 w6 ho6 hb6 hg6 hat6
    have BK6 := Aside0.mk (blk_grown (g := gb) (o := .cells #[.string b.f0, .string b.f1, .string b.f2, .int .i64 b.f3] 28 (0, 0)) hbk5 hg6 (Kd.R_away ho5 (fun _ hk => hk.2)))
    refine hK.out _ _ ⟨(blk_cell BK6.out 0).trans rfl, (blk_cell BK6.out 1).trans rfl, (blk_cell BK6.out 2).trans rfl, (blk_cell BK6.out 3).trans rfl⟩ (fun hHeld => ?_)
    clear hK K
    refine norm_ (a' := ?_) ?_ ?_
    rotate_left
    · show Act.put _ (some 27) _ = _
      simp only [Act.put, List.setIfInBounds_toArray, List.set_cons_zero, List.set_cons_succ]
      rfl
    refine pure_ (i := 5) (N := some 8) (v := ?_) (a' := ?_) #[true, true, true, true, true, true] rfl rfl (by kernel_rfl) (fun _ _ _ h => h) (Or.inl ⟨by rfl, ?_⟩) ?_ ?_
    rotate_left
    · intro w'
      go_simp
      with_reducible rfl
    rotate_left
    · simp only [Act.put, List.setIfInBounds_toArray, List.set_cons_zero, List.set_cons_succ]
      rfl
    refine done_ (by kernel_rfl) ?_
    obtain ⟨A6, c6, rfl, hc6, hC6⟩ := Kd.R_reads ho6
    have HC6 := Aside0.mk hC6
    have HB6 := Aside0.mk hb6
    have HL6 := Aside0.mk hc6
    clear ho6 hb6 hc6 hC6 ho5 hC5 hbk5 hb5 hg6 hat6 hS_ hHeld
    obtain ⟨z, hz⟩ : ∃ z, z = y ++ [b] := ⟨_, rfl⟩
    rw [← hz] at HC6 HL6 HM ⊢
    have HZ := Aside0.mk hz
    clear hz
    go_wp2_with (go_at_call 8; refine (May_is k E ce x A6 c6 z false _ (Kd.C_below HE.out HB6.out) HEC.out HC6.out (Gl.below HGL.out HB6.out) HM.out).mono ?_; rintro ee w7 ⟨rfl, hb⟩; have HB7 := Aside0.mk (thn HB6.out hb); clear hb)
    go_ret2
    exact ⟨_, _, rfl, Kd.C_below HX.out HB7.out, HXC.out, HB7.out⟩
end Go.Proofs.YtpmalfabeajepaaDoor.Rt
