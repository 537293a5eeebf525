-- Written by gprint.py, this session's own program, out of Lean's print of the translation: functions with the same answers, and proofs that the Go code comes to them. Lean checks it all.
import Derived.Test.YtpmalfabeajepaaDoorH3k
import Derived.Test.YtpmalfabeajepaaDoorPGbx2
import Derived.Test.YtpmalfabeajepaaDoorPGcx1
import Derived.Test.YtpmalfabeajepaaDoorPGdx6
namespace Go.Proofs.YtpmalfabeajepaaDoor.PGd
noncomputable section
open Go.RowKit Go.Proofs.YtpmalfabeajepaaDoorW.PrintWords Go.Proofs.YtpmalfabeajepaaDoorW.PrintLast Go.Proofs.YtpmalfabeajepaaDoorW.PrintMore Go.Proofs.YtpmalfabeajepaaDoorG Go.Proofs.YtpmalfabeajepaaDoorH Go.Proofs.YtpmalfabeajepaaDoor.PGa Go.Proofs.YtpmalfabeajepaaDoor.PGb Go.Proofs.YtpmalfabeajepaaDoor.PGc
attribute [local go_sem] max2_int min2_int max_two min_two max_three min_three max_four min_four   -- for this text's walks alone
set_option linter.unusedVariables false
set_option linter.unusedSimpArgs false

set_option maxHeartbeats 8000000 in
set_option maxRecDepth 100000 in
theorem RK.calls (k : Nat) (A0 : Option Addr) (c0 : Nat) (l0 : List (S28)) (a1 : Int) (a2 : ByteArray) (r : Bool) (w : World) (hgl : Gl w) (hr0 : Kd.C k28 w A0 l0.length l0) (hc0 : l0.length ≤ c0) (hrt : r = true) (h : RK.f k l0 a1 a2 = some r) :
    Calls Tryd.prog 3 #[.slice A0 l0.length c0, .int .i64 a1, .string a2] w fun e w' => e = .returned (.bool r) ∧ Below w.heap.size w w' := by
  have hu25 := Tryd.underlying25
  have HRT := Aside0.mk hrt; clear hrt; have HGL := Aside0.mk hgl; clear hgl; have HR0 := Aside0.mk hr0; have HC0 := Aside0.mk hc0; clear hr0 hc0; have HB := Aside0.mk (Below.refl w.heap.size w)
  have H : ((some (([] : List (S28)) : List (S28))).bind fun y151 => (if y151.length + l0.length < 2513169434916 then (RK.l7 k a2 (wrap64 (1 + (wrap64 (Int.tmod (IntKind.u64.wrap (a1)) 3)))) (([(⟨(⟨#[101]⟩ : ByteArray), wrap64 (1 + (wrap64 (Int.tmod (IntKind.u64.wrap (a1)) 3)))⟩ : S25)] : List (S25))) (y151 ++ l0) 0) else (none))) = some r := h
  clear h
  obtain ⟨y148, hy148⟩ : ∃ y_ : List (S25), y_ = (([(⟨(⟨#[101]⟩ : ByteArray), wrap64 (1 + (wrap64 (Int.tmod (IntKind.u64.wrap (a1)) 3)))⟩ : S25)] : List (S25))) := ⟨_, rfl⟩
  replace H : ((some (([] : List (S28)) : List (S28))).bind fun y151 => (if y151.length + l0.length < 2513169434916 then (RK.l7 k a2 (wrap64 (1 + (wrap64 (Int.tmod (IntKind.u64.wrap (a1)) 3)))) y148 (y151 ++ l0) 0) else (none))) = some r := by first | (rw [hy148]; with_reducible exact H) | (have H2_ := (Option.bind_some _ _).symm.trans H; rw [hy148]; with_reducible exact H2_) | (have H2_ := (Option.bind_some _ _).symm.trans H; with_reducible exact H2_) | with_reducible exact H | (rw [hy148]; exact H) | exact H
  have Ny148 := Aside0.mk hy148
  clear hy148
  obtain ⟨y151, hy151⟩ : ∃ y_ : List (S28), y_ = (([] : List (S28))) := ⟨_, rfl⟩
  replace H : (if y151.length + l0.length < 2513169434916 then (RK.l7 k a2 (wrap64 (1 + (wrap64 (Int.tmod (IntKind.u64.wrap (a1)) 3)))) y148 (y151 ++ l0) 0) else (none)) = some r := by first | (rw [hy151]; with_reducible exact H) | (have H2_ := (Option.bind_some _ _).symm.trans H; rw [hy151]; with_reducible exact H2_) | (have H2_ := (Option.bind_some _ _).symm.trans H; with_reducible exact H2_) | with_reducible exact H | (rw [hy151]; exact H) | exact H
  have Ny151 := Aside0.mk hy151
  clear hy151
  by_cases c4 : y151.length + l0.length < 2513169434916
  ·rw [if_pos c4] at H
   have LMc4 := Aside0.mk c4
   clear c4
   obtain ⟨y154, hy154⟩ : ∃ y_ : List (S28), y_ = (y151 ++ l0) := ⟨_, rfl⟩
   replace H : (RK.l7 k a2 (wrap64 (1 + (wrap64 (Int.tmod (IntKind.u64.wrap (a1)) 3)))) y148 y154 0) = some r := by first | (rw [hy154]; with_reducible exact H) | (have H2_ := (Option.bind_some _ _).symm.trans H; rw [hy154]; with_reducible exact H2_) | (have H2_ := (Option.bind_some _ _).symm.trans H; with_reducible exact H2_) | with_reducible exact H | (rw [hy154]; exact H) | exact H
   have Ny154 := Aside0.mk hy154
   clear hy154
   have H' := Aside0.mk H
   clear H
   go_enter Tryd.func3, Tryd.ntmps3
   go_wp2_with (first | ((with_reducible refine gate_dst (N := 29) rfl ?_); (try (refine gate_guard (by rfl) ?_; dsimp only)); refine Kd.R_lit k25 _ 25 ?hg (N := 29) ?hd (xs := ([(⟨(⟨#[101]⟩ : ByteArray), wrap64 (1 + (wrap64 (Int.tmod (IntKind.u64.wrap (a1)) 3)))⟩ : S25)] : List (S25))) (inner := [.string (⟨#[101]⟩ : ByteArray), .int .i64 (wrap64 (1 + (wrap64 (Int.tmod (IntKind.u64.wrap (a1)) 3))))]) (ok := fun _ => True) (okp := fun _ => True) ?hr ?hp (fun _ hk => hk) trivial (Below.refl _ _) (Nat.le_refl _) (by simp) ?_; (case hd => rfl); (case hg => rfl); (case hr => first | (go_simp; done) | (go_simp; rfl)); (case hp => exact (Reps.c2 (show Kd.M k25 _ _ _ (⟨(⟨#[101]⟩ : ByteArray), wrap64 (1 + (wrap64 (Int.tmod (IntKind.u64.wrap (a1)) 3)))⟩ : S25) [.string (⟨#[101]⟩ : ByteArray), .int .i64 (wrap64 (1 + (wrap64 (Int.tmod (IntKind.u64.wrap (a1)) 3))))] from (k25_mkM _ _ _ (⟨(⟨#[101]⟩ : ByteArray), wrap64 (1 + (wrap64 (Int.tmod (IntKind.u64.wrap (a1)) 3)))⟩ : S25) )) (Reps.none _ _))); intro v149 w5 ho6 hb hg_ hnew_; clear hg_ hnew_; (first | rw [← Ny148.out] at ho6 | (simp only [Int.reduceToNat] at ho6; rw [← Ny148.out] at ho6)); have n0_ := Aside0.mk (Kd.R_lower ho6 (below_size (by repeat (first | (with_reducible first | exact HB.out | apply below_alloc | apply pw_below_drewN | apply below_drew1) | exact HB.out)))); have n1_ := Aside0.mk (below_step (by repeat (first | (with_reducible first | exact HB.out | apply below_alloc | apply pw_below_drewN | apply below_drew1) | exact HB.out)) hb); clear HB; have HO150 := n0_; have HB := n1_; clear n0_ n1_; clear hb ho6) | ((with_reducible refine gate_dst (N := 30) rfl ?_); (try (refine gate_guard (by rfl) ?_; dsimp only)); refine Kd.R_lit k28 _ 28 ?hg (N := 30) ?hd (xs := ([] : List (S28))) (inner := []) (ok := fun _ => True) (okp := fun _ => True) ?hr ?hp (fun _ hk => hk) trivial (Below.refl _ _) (Nat.le_refl _) (by simp) ?_; (case hd => rfl); (case hg => rfl); (case hr => first | (go_simp; done) | (go_simp; rfl)); (case hp => exact (Reps.none _ _)); intro v152 w7 ho8 hb hg_ hnew_; clear hg_ hnew_; (first | rw [← Ny151.out] at ho8 | (simp only [Int.reduceToNat] at ho8; rw [← Ny151.out] at ho8)); have n0_ := Aside0.mk (Kd.R_below (by (with_reducible repeat (first | apply Kd.R_alloc | apply Kd.R_drewN | apply Kd.R_drew)); exact HO150.out) hb); have n1_ := Aside0.mk (Kd.R_lower ho8 (below_size (by repeat (first | (with_reducible first | exact HB.out | apply below_alloc | apply pw_below_drewN | apply below_drew1) | exact HB.out)))); have n2_ := Aside0.mk (below_step (by repeat (first | (with_reducible first | exact HB.out | apply below_alloc | apply pw_below_drewN | apply below_drew1) | exact HB.out)) hb); clear HO150; clear HB; have HO150 := n0_; have HO153 := n1_; have HB := n2_; clear n0_ n1_ n2_; clear hb ho8) | ((with_reducible refine gate_builtin (b := .append) (xs := #[.tmp 30, .tmp 31]) rfl ?_); (try (refine gate_guard (by rfl) ?_; dsimp only)); at_builtin; refine Kd.R_append_rows k28 (w0 := w) w.heap.size rfl (.tmp 30) (.tmp 31) 22 28 (.agg #[(.string ⟨#[]⟩), (.string ⟨#[]⟩), (.string ⟨#[]⟩), (.int .i64 0)]) 56 rfl Tryd.underlying22 info28 rfl (by decide) (by omega) v152 y151 l0 _ _ _ (fun _ => True) (fun _ => False) rfl rfl ?aO ?aR (fun _ _ h => h) (fun _ h => h.elim) ?aF ?aB ?aS ?aL ?_; (case aR => repeat (first | exact (Kd.C_below HR0.out HB.out) | (with_reducible refine Kd.C_alloc ?_ _) | (with_reducible refine Kd.C_drewN ?_ _) | (with_reducible refine Kd.C_drew ?_))); (case aB => exact (by repeat (first | (with_reducible first | exact HB.out | apply below_alloc | apply pw_below_drewN | apply below_drew1) | exact HB.out))); (case aF => exact (fun _ _ => trivial)); (case aO => exact (by (with_reducible repeat (first | apply Kd.R_alloc | apply Kd.R_drewN | apply Kd.R_drew)); exact HO153.out)); (case aS => exact (below_size (by repeat (first | (with_reducible first | exact HB.out | apply below_alloc | apply pw_below_drewN | apply below_drew1) | exact HB.out)))); (case aL => have := LMc4.out; omega); intro v155 w9 ho hb hg hat; rw [← Ny154.out] at ho; have n0_ := Aside0.mk (Kd.R_over' (by (with_reducible repeat (first | apply Kd.R_alloc | apply Kd.R_drewN | apply Kd.R_drew)); exact HO150.out) (Kd.R_typed (by (with_reducible repeat (first | apply Kd.R_alloc | apply Kd.R_drewN | apply Kd.R_drew)); exact HO153.out)) (by decide) hg); have n1_ := Aside0.mk (hb); have n2_ := Aside0.mk (ho); clear HO150; clear HB; clear HO153; have HO150 := n0_; have HB := n1_; have HO156 := n2_; clear n0_ n1_ n2_; clear ho hb hg hat))
   go_loopg [10] k (fun kq v10 w' => ∃ (x9_1 : List (S28)) (x10_1 : Int), v10 = .int .i64 x10_1 ∧ Aside0 (RK.l7 kq a2 (wrap64 (1 + (wrap64 (Int.tmod (IntKind.u64.wrap (a1)) 3)))) y148 x9_1 x10_1 = some r) ∧ Aside0 (kq ≤ k) ∧ Aside0 (Kd.R k25 25 w' w.heap.size (fun _ => True) v149 y148) ∧ Aside0 (Kd.R k28 28 w' w.heap.size (fun _ => True) v155 x9_1) ∧ Aside0 (Below w.heap.size w w'))
   case atStart => exact ⟨(y154), (0), (by first | rfl | (simp; done) | (simp [*]; done)), H', ⟨Nat.le_refl _⟩, ⟨by (with_reducible repeat (first | apply Kd.R_alloc | apply Kd.R_drewN | apply Kd.R_drew)); exact HO150.out⟩, ⟨by (with_reducible repeat (first | apply Kd.R_alloc | apply Kd.R_drewN | apply Kd.R_drew)); exact HO156.out⟩, ⟨by repeat (first | (with_reducible first | exact HB.out | apply below_alloc | apply pw_below_drewN | apply below_drew1) | exact HB.out)⟩⟩
   case round =>
    as_aux_lemma =>
     clear H'
     try clear c2
     try clear p2
     try clear c3
     try clear c4
     try clear p6
     obtain ⟨x9_1, x10_1, rfl, HA, HK1, HO_8, HO_9, HB⟩ := hrel
     cases gk with
     | zero => exact absurd HA.out (by simp [RK.l7])
     | succ k1 =>
      have H := HA.out; clear HA
      simp only [RK.l7] at H
      by_cases c10 : x10_1 < (x9_1.length : Int)
      ·rw [if_pos c10] at H
       have c10b0 : decide (x10_1 < (x9_1.length : Int)) = true := decide_eq_true c10
       clear c10
       by_cases c11 : 0 ≤ x10_1
       ·rw [if_pos c11] at H
        have c11b0 : decide (0 ≤ x10_1) = true := decide_eq_true c11
        clear c11
        obtain ⟨y157, hy157⟩ : ∃ y_ : List (S28), y_ = (x9_1.set (x10_1 : Int).toNat (⟨(⟨#[101]⟩ : ByteArray), (rd_T28 x9_1 x10_1).f1, (rd_T28 x9_1 x10_1).f2, (rd_T28 x9_1 x10_1).f3⟩ : S28)) := ⟨_, rfl⟩
        replace H : (RK.l7 k1 a2 (wrap64 (1 + (wrap64 (Int.tmod (IntKind.u64.wrap (a1)) 3)))) y148 (y157.set (x10_1 : Int).toNat (⟨(rd_T28 y157 x10_1).f0, (rd_T28 y157 x10_1).f1, (rd_T28 y157 x10_1).f2, 0⟩ : S28)) (wrap64 (x10_1 + 1))) = some r := by first | (rw [hy157]; with_reducible exact H) | (have H2_ := (Option.bind_some _ _).symm.trans H; rw [hy157]; with_reducible exact H2_) | (have H2_ := (Option.bind_some _ _).symm.trans H; with_reducible exact H2_) | with_reducible exact H | (rw [hy157]; exact H) | exact H
        have Ny157 := Aside0.mk hy157
        clear hy157
        obtain ⟨y158, hy158⟩ : ∃ y_ : List (S28), y_ = (y157.set (x10_1 : Int).toNat (⟨(rd_T28 y157 x10_1).f0, (rd_T28 y157 x10_1).f1, (rd_T28 y157 x10_1).f2, 0⟩ : S28)) := ⟨_, rfl⟩
        replace H : (RK.l7 k1 a2 (wrap64 (1 + (wrap64 (Int.tmod (IntKind.u64.wrap (a1)) 3)))) y148 y158 (wrap64 (x10_1 + 1))) = some r := by first | (rw [hy158]; with_reducible exact H) | (have H2_ := (Option.bind_some _ _).symm.trans H; rw [hy158]; with_reducible exact H2_) | (have H2_ := (Option.bind_some _ _).symm.trans H; with_reducible exact H2_) | with_reducible exact H | (rw [hy158]; exact H) | exact H
        have Ny158 := Aside0.mk hy158
        clear hy158
        have H' := Aside0.mk H
        clear H
        obtain ⟨Ao14, co14, eo14⟩ := Kd.R_slice HO_9.out
        subst eo14
        have p12 : 0 ≤ (x10_1 : Int) := of_decide_eq_true (by first | (with_reducible assumption) | assumption)
        have q12 : (x10_1 : Int) < ((x9_1.length : Int) : Int) := of_decide_eq_true (by first | (with_reducible assumption) | assumption)
        obtain ⟨go12, co12, eo12, gb12, gl12, cl12, HG12⟩ := Kd.R_form HO_9.out (by omega)
        (first | cases eo12 | (injection eo12 with ea_ en_ ec_; (first | subst ea_ | (injection ea_ with ea_; subst ea_)); subst ec_; clear en_))
        have GB12 := Aside0.mk gb12; have GG12 := Aside0.mk HG12; clear gb12 gl12 HG12
        obtain ⟨ce12, hcl12, hM12, hcc12, hfr12⟩ := Kd.R_elem HO_9.out z28 (x10_1 : Int) p12 q12
        obtain rfl := k28_openM hM12
        have hx12_0 : wr.cell? ⟨go12, (x10_1 : Int).toNat * 4, none⟩ = some (.string ((rd_T28 x9_1 x10_1).f0)) := hcc12 0 _ rfl
        have hx12_1 : wr.cell? ⟨go12, (x10_1 : Int).toNat * 4 + 1, none⟩ = some (.string ((rd_T28 x9_1 x10_1).f1)) := hcc12 1 _ rfl
        have hx12_2 : wr.cell? ⟨go12, (x10_1 : Int).toNat * 4 + 2, none⟩ = some (.string ((rd_T28 x9_1 x10_1).f2)) := hcc12 2 _ rfl
        have hx12_3 : wr.cell? ⟨go12, (x10_1 : Int).toNat * 4 + 3, none⟩ = some (.int .i64 ((rd_T28 x9_1 x10_1).f3)) := hcc12 3 _ rfl
        have hf12_0 : wr.frozen? ⟨go12, (x10_1 : Int).toNat * 4, none⟩ = false := hfr12 0
        have hf12_1 : wr.frozen? ⟨go12, (x10_1 : Int).toNat * 4 + 1, none⟩ = false := hfr12 1
        have hf12_2 : wr.frozen? ⟨go12, (x10_1 : Int).toNat * 4 + 2, none⟩ = false := hfr12 2
        have hf12_3 : wr.frozen? ⟨go12, (x10_1 : Int).toNat * 4 + 3, none⟩ = false := hfr12 3
        clear hcl12 hcc12 hfr12 hM12
        replace p12 := eq_true p12
        replace q12 := eq_true q12
        have HX15 := Aside0.mk (show Kd.R k28 28 wr w.heap.size (fun _ => True) (.slice (some ⟨go12, 0, none⟩) x9_1.length co14) x9_1 from (by (with_reducible repeat (first | apply Kd.R_alloc | apply Kd.R_drewN | apply Kd.R_drew)); exact HO_9.out))
        obtain ⟨ce15, hcl15, hM15, hcc15, hfr15⟩ := Kd.R_elem HX15.out z28 (x10_1 : Int) (of_decide_eq_true (by first | (with_reducible assumption) | assumption)) (by have h_ : (x10_1 : Int) < ((x9_1.length : Int) : Int) := of_decide_eq_true (by first | (with_reducible assumption) | assumption); first | exact h_ | (have e_ := (Kd.R_reads' HO_9.out).1; omega) | simpa using h_)
        obtain rfl := k28_openM hM15
        have HP15 := Kd.R_seg HX15.out (x10_1 : Int) (of_decide_eq_true (by first | (with_reducible assumption) | assumption)) (by have h_ : (x10_1 : Int) < ((x9_1.length : Int) : Int) := of_decide_eq_true (by first | (with_reducible assumption) | assumption); first | exact h_ | (have e_ := (Kd.R_reads' HO_9.out).1; omega) | simpa using h_) (seg := [.string (⟨#[101]⟩ : ByteArray)]) (j := 0) hcl15 hcc15 (show 1 ≤ 4 from by decide) (x' := (⟨(⟨#[101]⟩ : ByteArray), (rd_T28 x9_1 x10_1).f1, (rd_T28 x9_1 x10_1).f2, (rd_T28 x9_1 x10_1).f3⟩ : S28)) (k28_mkM _ _ _ (⟨(⟨#[101]⟩ : ByteArray), (rd_T28 x9_1 x10_1).f1, (rd_T28 x9_1 x10_1).f2, (rd_T28 x9_1 x10_1).f3⟩ : S28) ) (fun _ hk => hk)
        have hx15_0 := hcc15 0 _ rfl
        (try simp only [show (k28).sz = 4 from rfl, Nat.mul_one, Nat.add_zero] at hx15_0)
        have hf15_0 := hfr15 0
        (try simp only [show (k28).sz = 4 from rfl, Nat.mul_one, Nat.add_zero] at hf15_0)
        clear hcl15 hcc15 hfr15 hM15
        go_wp2_with (first | ((with_reducible refine gate_store (t := 9) (p := 44) rfl ?_); refine store_event (t := 9) (p := 44) (v := ?vo_w16) (w1 := (wr.setCell ⟨go12, (x10_1 : Int).toNat * 4, none⟩ (.string (⟨#[101]⟩ : ByteArray)))) ?hg ?ho ?hn ?hr ?_; (case ho => rfl); (case hg => rfl); (case hn => rfl); (case hr => first | (go_simp; done) | (go_simp; rfl)); intro w16 hw; have hg : wr.grownBy w16 (some go12) := (by rw [hw]; exact HP15.2); have hp_ : Kd.R k28 28 w16 w.heap.size (fun _ => True) (.slice (some ⟨go12, 0, none⟩) x9_1.length co14) y157 := (by rw [hw, Ny157.out]; exact HP15.1); clear HP15; have n0_ := Aside0.mk (Kd.R_over' (v := (.slice (some ⟨go12, 0, none⟩) x9_1.length co14)) (by (with_reducible repeat (first | apply Kd.R_alloc | apply Kd.R_drewN | apply Kd.R_drew)); exact HO_8.out) (Kd.R_typed HO_9.out) (by decide) hg); have n1_ := Aside0.mk (hp_); have n2_ := Aside0.mk ((by rw [hw]; exact below_set (HB.out) GB12.out : Below w.heap.size w w16)); clear HO_8; clear HO_9; clear HB; have HO_8 := n0_; have HO_9 := n1_; have HB := n2_; clear n0_ n1_ n2_; clear hg hw hp_; have p13 : 0 ≤ (x10_1 : Int) := of_decide_eq_true (by first | (with_reducible assumption) | assumption); have q13 : (x10_1 : Int) < ((x9_1.length : Int) : Int) := of_decide_eq_true (by first | (with_reducible assumption) | assumption); obtain ⟨ce13, hcl13, hM13, hcc13, hfr13⟩ := Kd.R_elem HO_9.out z28 (x10_1 : Int) p13 q13; obtain rfl := k28_openM hM13; have hx13_0 : w16.cell? ⟨go12, (x10_1 : Int).toNat * 4, none⟩ = some (.string ((rd_T28 y157 x10_1).f0)) := hcc13 0 _ rfl; have hx13_1 : w16.cell? ⟨go12, (x10_1 : Int).toNat * 4 + 1, none⟩ = some (.string ((rd_T28 y157 x10_1).f1)) := hcc13 1 _ rfl; have hx13_2 : w16.cell? ⟨go12, (x10_1 : Int).toNat * 4 + 2, none⟩ = some (.string ((rd_T28 y157 x10_1).f2)) := hcc13 2 _ rfl; have hx13_3 : w16.cell? ⟨go12, (x10_1 : Int).toNat * 4 + 3, none⟩ = some (.int .i64 ((rd_T28 y157 x10_1).f3)) := hcc13 3 _ rfl; have hf13_0 : w16.frozen? ⟨go12, (x10_1 : Int).toNat * 4, none⟩ = false := hfr13 0; have hf13_1 : w16.frozen? ⟨go12, (x10_1 : Int).toNat * 4 + 1, none⟩ = false := hfr13 1; have hf13_2 : w16.frozen? ⟨go12, (x10_1 : Int).toNat * 4 + 2, none⟩ = false := hfr13 2; have hf13_3 : w16.frozen? ⟨go12, (x10_1 : Int).toNat * 4 + 3, none⟩ = false := hfr13 3; clear hcl13 hcc13 hfr13 hM13; replace p13 := eq_true p13; replace q13 := eq_true q13; have HX17 := Aside0.mk (show Kd.R k28 28 w16 w.heap.size (fun _ => True) (.slice (some ⟨go12, 0, none⟩) x9_1.length co14) y157 from (by (with_reducible repeat (first | apply Kd.R_alloc | apply Kd.R_drewN | apply Kd.R_drew)); exact HO_9.out)); obtain ⟨ce17, hcl17, hM17, hcc17, hfr17⟩ := Kd.R_elem HX17.out z28 (x10_1 : Int) (of_decide_eq_true (by first | (with_reducible assumption) | assumption)) (by have h_ : (x10_1 : Int) < ((x9_1.length : Int) : Int) := of_decide_eq_true (by first | (with_reducible assumption) | assumption); first | exact h_ | (have e_ := (Kd.R_reads' HO_9.out).1; omega) | simpa using h_); obtain rfl := k28_openM hM17; have HP17 := Kd.R_seg HX17.out (x10_1 : Int) (of_decide_eq_true (by first | (with_reducible assumption) | assumption)) (by have h_ : (x10_1 : Int) < ((x9_1.length : Int) : Int) := of_decide_eq_true (by first | (with_reducible assumption) | assumption); first | exact h_ | (have e_ := (Kd.R_reads' HO_9.out).1; omega) | simpa using h_) (seg := [.int .i64 0]) (j := 3) hcl17 hcc17 (show 4 ≤ 4 from by decide) (x' := (⟨(rd_T28 y157 x10_1).f0, (rd_T28 y157 x10_1).f1, (rd_T28 y157 x10_1).f2, 0⟩ : S28)) (k28_mkM _ _ _ (⟨(rd_T28 y157 x10_1).f0, (rd_T28 y157 x10_1).f1, (rd_T28 y157 x10_1).f2, 0⟩ : S28) ) (fun _ hk => hk); have hx17_3 := hcc17 3 _ rfl; (try simp only [show (k28).sz = 4 from rfl, Nat.mul_one, Nat.add_zero] at hx17_3); have hf17_3 := hfr17 3; (try simp only [show (k28).sz = 4 from rfl, Nat.mul_one, Nat.add_zero] at hf17_3); clear hcl17 hcc17 hfr17 hM17) | ((with_reducible refine gate_store (t := 3) (p := 46) rfl ?_); refine store_event (t := 3) (p := 46) (v := ?vo_w18) (w1 := (w16.setCell ⟨go12, (x10_1 : Int).toNat * 4 + 3, none⟩ (.int .i64 0))) ?hg ?ho ?hn ?hr ?_; (case ho => rfl); (case hg => rfl); (case hn => rfl); (case hr => first | (go_simp; done) | (go_simp; rfl)); intro w18 hw; have hg : w16.grownBy w18 (some go12) := (by rw [hw]; exact HP17.2); have hp_ : Kd.R k28 28 w18 w.heap.size (fun _ => True) (.slice (some ⟨go12, 0, none⟩) x9_1.length co14) y158 := (by rw [hw, Ny158.out]; exact HP17.1); clear HP17; have n0_ := Aside0.mk (Kd.R_over' (v := (.slice (some ⟨go12, 0, none⟩) x9_1.length co14)) (by (with_reducible repeat (first | apply Kd.R_alloc | apply Kd.R_drewN | apply Kd.R_drew)); exact HO_8.out) (Kd.R_typed HO_9.out) (by decide) hg); have n1_ := Aside0.mk (hp_); have n2_ := Aside0.mk ((by rw [hw]; exact below_set (HB.out) GB12.out : Below w.heap.size w w18)); clear HO_8; clear HO_9; clear HB; have HO_8 := n0_; have HO_9 := n1_; have HB := n2_; clear n0_ n1_ n2_; clear hg hw hp_))
        go_roundg k1
        case measure => have := HK1.out; omega
        case rel => exact ⟨(y158), (wrap64 (x10_1 + 1)), (by first | rfl | (simp; done) | (simp [*]; done)), H', ⟨by have := HK1.out; omega⟩, ⟨by (with_reducible repeat (first | apply Kd.R_alloc | apply Kd.R_drewN | apply Kd.R_drew)); exact HO_8.out⟩, ⟨by (with_reducible repeat (first | apply Kd.R_alloc | apply Kd.R_drewN | apply Kd.R_drew)); exact HO_9.out⟩, ⟨by repeat (first | (with_reducible first | exact HB.out | apply below_alloc | apply pw_below_drewN | apply below_drew1) | exact HB.out)⟩⟩
       ·rw [if_neg c11] at H
        exact absurd H (by simp)
      ·rw [if_neg c10] at H
       have c10b0 : decide (x10_1 < (x9_1.length : Int)) = false := decide_eq_false c10
       clear c10; have HC19 := Aside0.mk H; clear H
       obtain ⟨Ao20, co20, eo20⟩ := Kd.R_slice HO_9.out
       subst eo20
       go_upto_region 8 with (fail)
       go_cut [61] (fun v61 wc => ∃ (kq : Nat) (x61_18 : Bool), v61 = .bool x61_18 ∧ Aside0 (RK.j1 kq a2 (wrap64 (1 + (wrap64 (Int.tmod (IntKind.u64.wrap (a1)) 3)))) y148 x9_1 x61_18 = some r) ∧ Aside0 (kq ≤ k1) ∧ Aside0 (Kd.R k25 25 wc w.heap.size (fun _ => True) v149 y148) ∧ Aside0 (Kd.R k28 28 wc w.heap.size (fun _ => True) (.slice Ao20 x9_1.length co20) x9_1) ∧ Aside0 (Below w.heap.size w wc))
       case first =>
        have H := HC19.out; clear HC19
        replace H := Option.bind_eq_some_iff.mp H
        obtain ⟨t159, A210, H⟩ := H
        replace H : (if t159 = true then (if (a2.size : Int) > 100 then (RK.j1 k1 a2 (wrap64 (1 + (wrap64 (Int.tmod (IntKind.u64.wrap (a1)) 3)))) y148 x9_1 true) else ((route_May.f y148 x9_1).bind fun t160 => (RK.j1 k1 a2 (wrap64 (1 + (wrap64 (Int.tmod (IntKind.u64.wrap (a1)) 3)))) y148 x9_1 (!t160)))) else (RK.j1 k1 a2 (wrap64 (1 + (wrap64 (Int.tmod (IntKind.u64.wrap (a1)) 3)))) y148 x9_1 true)) = some r := H
        have A21 := Aside0.mk A210; clear A210
        by_cases c22 : t159 = true
        ·subst c22
         have H1 : (if (a2.size : Int) > 100 then (RK.j1 k1 a2 (wrap64 (1 + (wrap64 (Int.tmod (IntKind.u64.wrap (a1)) 3)))) y148 x9_1 true) else ((route_May.f y148 x9_1).bind fun t160 => (RK.j1 k1 a2 (wrap64 (1 + (wrap64 (Int.tmod (IntKind.u64.wrap (a1)) 3)))) y148 x9_1 (!t160)))) = some r := by rw [if_pos rfl] at H; exact H
         clear H; have H := H1; clear H1
         by_cases c23 : (a2.size : Int) > 100
         ·rw [if_pos c23] at H
          have c23b0 : decide (100 < (a2.size : Int)) = true := decide_eq_true c23
          have c23b1 : decide (100 < a2.size) = true := decide_eq_true (by omega)
          clear c23
          (first | rw [c23b0] | (simp only [i64_w, i32_w]; rw [c23b0]) | skip)
          have H' := Aside0.mk H
          clear H
          obtain ⟨Ao24, co24, eo24⟩ := Kd.R_slice HO_8.out
          subst eo24
          go_wp2_with (first | ((with_reducible refine gate_callee (f := 7) rfl ?_); refine goesL_ (some 49) rfl rfl Tryd.func7 (by kernel_rfl) rfl #[.slice Ao24 y148.length co24, .slice Ao20 x9_1.length co20] rfl (by (try simp only [List.map_toArray, List.map_cons, List.map_nil]); first | done | rfl | (simp only [List.length_drop, List.length_take]; rfl)) ?_; (with_reducible refine (carrefourlaw8_Few.calls k1 _ _ y148 _ _ x9_1 true _ ?side1 ?side2 ?side3 ?side4 A21.out).mono ?_); (case side1 => repeat (first | exact (Kd.R_reads' HO_8.out).2.2 | (with_reducible refine Kd.C_alloc ?_ _) | (with_reducible refine Kd.C_drewN ?_ _) | (with_reducible refine Kd.C_drew ?_))); (case side2 => exact (Kd.R_reads' HO_8.out).2.1); (case side3 => repeat (first | exact (Kd.R_reads' HO_9.out).2.2 | (with_reducible refine Kd.C_alloc ?_ _) | (with_reducible refine Kd.C_drewN ?_ _) | (with_reducible refine Kd.C_drew ?_))); (case side4 => exact (Kd.R_reads' HO_9.out).2.1); rintro e w' ⟨rfl, ⟨nd, rfl⟩⟩; refine ⟨_, rfl, ?_⟩))
          go_meet
          case rel => exact ⟨_, (true), (by first | rfl | (simp; done) | (simp [*]; done)), H', ⟨by have := HK1.out; first | omega | exact Nat.le_refl _⟩, ⟨by (with_reducible repeat (first | apply Kd.R_alloc | apply Kd.R_drewN | apply Kd.R_drew)); exact HO_8.out⟩, ⟨by (with_reducible repeat (first | apply Kd.R_alloc | apply Kd.R_drewN | apply Kd.R_drew)); exact HO_9.out⟩, ⟨by repeat (first | (with_reducible first | exact HB.out | apply below_alloc | apply pw_below_drewN | apply below_drew1) | exact HB.out)⟩⟩
         ·rw [if_neg c23] at H
          have c23b0 : decide (100 < (a2.size : Int)) = false := decide_eq_false c23
          have c23b1 : decide (100 < a2.size) = false := decide_eq_false (by omega)
          clear c23
          (first | rw [c23b0] | (simp only [i64_w, i32_w]; rw [c23b0]) | skip)
          replace H := Option.bind_eq_some_iff.mp H
          obtain ⟨t160, A250, H⟩ := H
          replace H : (RK.j1 k1 a2 (wrap64 (1 + (wrap64 (Int.tmod (IntKind.u64.wrap (a1)) 3)))) y148 x9_1 (!t160)) = some r := H
          have A25 := Aside0.mk A250; clear A250
          have H' := Aside0.mk H
          clear H
          obtain ⟨Ao26, co26, eo26⟩ := Kd.R_slice HO_8.out
          subst eo26
          go_wp2_with (first | ((with_reducible refine gate_callee (f := 7) rfl ?_); refine goesL_ (some 49) rfl rfl Tryd.func7 (by kernel_rfl) rfl #[.slice Ao26 y148.length co26, .slice Ao20 x9_1.length co20] rfl (by (try simp only [List.map_toArray, List.map_cons, List.map_nil]); first | done | rfl | (simp only [List.length_drop, List.length_take]; rfl)) ?_; (with_reducible refine (carrefourlaw8_Few.calls k1 _ _ y148 _ _ x9_1 true _ ?side1 ?side2 ?side3 ?side4 A21.out).mono ?_); (case side1 => repeat (first | exact (Kd.R_reads' HO_8.out).2.2 | (with_reducible refine Kd.C_alloc ?_ _) | (with_reducible refine Kd.C_drewN ?_ _) | (with_reducible refine Kd.C_drew ?_))); (case side2 => exact (Kd.R_reads' HO_8.out).2.1); (case side3 => repeat (first | exact (Kd.R_reads' HO_9.out).2.2 | (with_reducible refine Kd.C_alloc ?_ _) | (with_reducible refine Kd.C_drewN ?_ _) | (with_reducible refine Kd.C_drew ?_))); (case side4 => exact (Kd.R_reads' HO_9.out).2.1); rintro e w' ⟨rfl, ⟨nd, rfl⟩⟩; refine ⟨_, rfl, ?_⟩) | (go_at_call 8; (with_reducible refine (route_May.calls _ _ y148 _ _ x9_1 t160 _ ?side5 ?side1 ?side2 ?side3 ?side4 A25.out).mono ?_); (case side1 => repeat (first | exact (Kd.R_reads' HO_8.out).2.2 | (with_reducible refine Kd.C_alloc ?_ _) | (with_reducible refine Kd.C_drewN ?_ _) | (with_reducible refine Kd.C_drew ?_))); (case side2 => exact (Kd.R_reads' HO_8.out).2.1); (case side3 => repeat (first | exact (Kd.R_reads' HO_9.out).2.2 | (with_reducible refine Kd.C_alloc ?_ _) | (with_reducible refine Kd.C_drewN ?_ _) | (with_reducible refine Kd.C_drew ?_))); (case side4 => exact (Kd.R_reads' HO_9.out).2.1); (case side5 => exact Gl.below HGL.out (by repeat (first | (with_reducible first | exact HB.out | apply below_alloc | apply pw_below_drewN | apply below_drew1) | exact HB.out))); rintro e w27 ⟨rfl, hb⟩; have n0_ := Aside0.mk (Kd.R_below (by (with_reducible repeat (first | apply Kd.R_alloc | apply Kd.R_drewN | apply Kd.R_drew)); exact HO_8.out) hb); have n1_ := Aside0.mk (Kd.R_below (by (with_reducible repeat (first | apply Kd.R_alloc | apply Kd.R_drewN | apply Kd.R_drew)); exact HO_9.out) hb); have n2_ := Aside0.mk (below_step (by repeat (first | (with_reducible first | exact HB.out | apply below_alloc | apply pw_below_drewN | apply below_drew1) | exact HB.out)) hb); clear HO_8; clear HO_9; clear HB; have HO_8 := n0_; have HO_9 := n1_; have HB := n2_; clear n0_ n1_ n2_; (try clear hb); (try clear hb2); (try clear hk); (try clear hi)))
          go_meet
          case rel => exact ⟨_, (!t160), (by first | rfl | (simp; done) | (simp [*]; done)), H', ⟨by have := HK1.out; first | omega | exact Nat.le_refl _⟩, ⟨by (with_reducible repeat (first | apply Kd.R_alloc | apply Kd.R_drewN | apply Kd.R_drew)); exact HO_8.out⟩, ⟨by (with_reducible repeat (first | apply Kd.R_alloc | apply Kd.R_drewN | apply Kd.R_drew)); exact HO_9.out⟩, ⟨by repeat (first | (with_reducible first | exact HB.out | apply below_alloc | apply pw_below_drewN | apply below_drew1) | exact HB.out)⟩⟩
        ·replace c22 := Bool.eq_false_iff.mpr c22
         subst c22
         have H1 : (RK.j1 k1 a2 (wrap64 (1 + (wrap64 (Int.tmod (IntKind.u64.wrap (a1)) 3)))) y148 x9_1 true) = some r := by rw [if_neg (show ¬ (false = true) by decide)] at H; exact H
         clear H; have H := H1; clear H1
         have H' := Aside0.mk H
         clear H
         obtain ⟨Ao28, co28, eo28⟩ := Kd.R_slice HO_8.out
         subst eo28
         go_wp2_with (first | ((with_reducible refine gate_callee (f := 7) rfl ?_); refine goesL_ (some 49) rfl rfl Tryd.func7 (by kernel_rfl) rfl #[.slice Ao28 y148.length co28, .slice Ao20 x9_1.length co20] rfl (by (try simp only [List.map_toArray, List.map_cons, List.map_nil]); first | done | rfl | (simp only [List.length_drop, List.length_take]; rfl)) ?_; (with_reducible refine (carrefourlaw8_Few.calls k1 _ _ y148 _ _ x9_1 false _ ?side1 ?side2 ?side3 ?side4 A21.out).mono ?_); (case side1 => repeat (first | exact (Kd.R_reads' HO_8.out).2.2 | (with_reducible refine Kd.C_alloc ?_ _) | (with_reducible refine Kd.C_drewN ?_ _) | (with_reducible refine Kd.C_drew ?_))); (case side2 => exact (Kd.R_reads' HO_8.out).2.1); (case side3 => repeat (first | exact (Kd.R_reads' HO_9.out).2.2 | (with_reducible refine Kd.C_alloc ?_ _) | (with_reducible refine Kd.C_drewN ?_ _) | (with_reducible refine Kd.C_drew ?_))); (case side4 => exact (Kd.R_reads' HO_9.out).2.1); rintro e w' ⟨rfl, ⟨nd, rfl⟩⟩; refine ⟨_, rfl, ?_⟩))
         go_meet
         case rel => exact ⟨_, (true), (by first | rfl | (simp; done) | (simp [*]; done)), H', ⟨by have := HK1.out; first | omega | exact Nat.le_refl _⟩, ⟨by (with_reducible repeat (first | apply Kd.R_alloc | apply Kd.R_drewN | apply Kd.R_drew)); exact HO_8.out⟩, ⟨by (with_reducible repeat (first | apply Kd.R_alloc | apply Kd.R_drewN | apply Kd.R_drew)); exact HO_9.out⟩, ⟨by repeat (first | (with_reducible first | exact HB.out | apply below_alloc | apply pw_below_drewN | apply below_drew1) | exact HB.out)⟩⟩
       case rest =>
        clear HC19
        try clear c1
        try clear p1
        try clear q1
        try clear hx1
        try clear c2
        try clear p2
        try clear c3
        try clear c4
        try clear p6
        try clear c7
        try clear c10
        try clear c10b0
        try clear c11
        try clear c11b0
        try clear c12
        try clear p12
        try clear q12
        try clear hx12
        try clear hf12
        try clear c13
        try clear p13
        try clear q13
        try clear hx13
        try clear hf13
        try clear c15
        try clear hx15
        try clear hf15
        try clear c17
        try clear hx17
        try clear hf17
        try clear c22
        try clear c23
        try clear c23b0
        try clear c23b1
        try clear hx12_0
        try clear hx12_1
        try clear hx12_2
        try clear hx12_3
        try clear hx13_0
        try clear hx13_1
        try clear hx13_2
        try clear hx13_3
        try clear hx15_0
        try clear hx17_3
        try clear p12
        try clear p13
        try clear p2
        try clear p6
        try clear q12
        try clear q13
        obtain ⟨kq, x61_18, rfl, HA, HJ18, HO_8, HO_9, HB⟩ := hcut
        cases kq with
        | zero => exact absurd HA.out (by simp [RK.j1])
        | succ kj18 =>
         have H := HA.out; clear HA
         simp only [RK.j1] at H
         by_cases c29 : x61_18 = true
         ·subst c29
          have H1 : ((law8_told.f).bind fun t161 => (some t161)) = some r := by rw [if_pos rfl] at H; exact H
          clear H; have H := H1; clear H1
          replace H := Option.bind_eq_some_iff.mp H
          obtain ⟨t161, A300, H⟩ := H
          replace H : (some t161) = some r := H
          have A30 := Aside0.mk A300; clear A300 HRT
          obtain rfl := Option.some.inj H
          go_wp2_with (first | ((with_reducible refine gate_callee (f := 9) rfl ?_); refine goesL_ (some 62) rfl rfl Tryd.func9 (by kernel_rfl) rfl #[] rfl (by (try simp only [List.map_toArray, List.map_cons, List.map_nil]); first | done | rfl | (simp only [List.length_drop, List.length_take]; rfl)) ?_; (with_reducible refine (law8_told.calls  t161 _ ?side1 A30.out).mono ?_); (case side1 => exact Gl.below HGL.out (by repeat (first | (with_reducible first | exact HB.out | apply below_alloc | apply pw_below_drewN | apply below_drew1) | exact HB.out))); rintro e w31 ⟨rfl, hb⟩; refine ⟨_, rfl, ?_⟩; have n0_ := Aside0.mk (Kd.R_below (by (with_reducible repeat (first | apply Kd.R_alloc | apply Kd.R_drewN | apply Kd.R_drew)); exact HO_8.out) hb); have n1_ := Aside0.mk (Kd.R_below (by (with_reducible repeat (first | apply Kd.R_alloc | apply Kd.R_drewN | apply Kd.R_drew)); exact HO_9.out) hb); have n2_ := Aside0.mk (below_step (by repeat (first | (with_reducible first | exact HB.out | apply below_alloc | apply pw_below_drewN | apply below_drew1) | exact HB.out)) hb); clear HO_8; clear HO_9; clear HB; have HO_8 := n0_; have HO_9 := n1_; have HB := n2_; clear n0_ n1_ n2_; (try clear hb); (try clear hb2); (try clear hk); (try clear hi)))
          go_ret
          exact ⟨by first | rfl | (simp [errW_none, errW_some] <;> rfl) | (simp [*, errW_none, errW_some] <;> rfl), by repeat (first | (with_reducible first | exact HB.out | apply below_alloc | apply pw_below_drewN | apply below_drew1) | exact HB.out)⟩
         ·replace c29 := Bool.eq_false_iff.mpr c29
          subst c29
          have H1 : ((route_Queues.f kj18 y148 x9_1 (⟨#[101]⟩ : ByteArray) a2).bind fun bt162 => (if bt162.2 = 0 then (RK.l8 kj18 a2 (wrap64 (1 + (wrap64 (Int.tmod (IntKind.u64.wrap (a1)) 3)))) x9_1 bt162.1 0) else (some false))) = some r := by rw [if_neg (show ¬ (false = true) by decide)] at H; exact H
          clear H; have H := H1; clear H1
          replace H := Option.bind_eq_some_iff.mp H
          obtain ⟨⟨t162, t163⟩, A320, H⟩ := H
          replace H : (if t163 = 0 then (RK.l8 kj18 a2 (wrap64 (1 + (wrap64 (Int.tmod (IntKind.u64.wrap (a1)) 3)))) x9_1 t162 0) else (some false)) = some r := H
          have A32 := Aside0.mk A320; clear A320
          by_cases c33 : t163 = 0
          ·rw [if_pos c33] at H
           have c33b0 : (t163 == 0) = true := beq_iff_eq.mpr c33
           have c33b1 : (t163 != 0) = false := bne_eq_false_iff_eq.mpr c33
           clear c33
           have H' := Aside0.mk H
           clear H
           obtain ⟨Ao34, co34, eo34⟩ := Kd.R_slice HO_8.out
           subst eo34
           go_wp2_with (first | ((with_reducible refine gate_callee (f := 10) rfl ?_); refine goesL_ (some 67) rfl rfl Tryd.func10 (by kernel_rfl) rfl #[.slice Ao34 y148.length co34, .slice Ao20 x9_1.length co20, .string (⟨#[101]⟩ : ByteArray), .string a2] rfl (by (try simp only [List.map_toArray, List.map_cons, List.map_nil]); first | done | rfl | (simp only [List.length_drop, List.length_take]; rfl)) ?_; (with_reducible refine (route_Queues.calls kj18 _ _ y148 _ _ x9_1 (⟨#[101]⟩ : ByteArray) a2 t162 t163 _ ?side5 ?side1 ?side2 ?side3 ?side4 A32.out).mono ?_); (case side1 => repeat (first | exact (Kd.R_reads' HO_8.out).2.2 | (with_reducible refine Kd.C_alloc ?_ _) | (with_reducible refine Kd.C_drewN ?_ _) | (with_reducible refine Kd.C_drew ?_))); (case side2 => exact (Kd.R_reads' HO_8.out).2.1); (case side3 => repeat (first | exact (Kd.R_reads' HO_9.out).2.2 | (with_reducible refine Kd.C_alloc ?_ _) | (with_reducible refine Kd.C_drewN ?_ _) | (with_reducible refine Kd.C_drew ?_))); (case side4 => exact (Kd.R_reads' HO_9.out).2.1); (case side5 => exact Gl.below HGL.out (by repeat (first | (with_reducible first | exact HB.out | apply below_alloc | apply pw_below_drewN | apply below_drew1) | exact HB.out))); rintro e w35 ⟨v164, rfl, ho0, hb⟩; refine ⟨_, rfl, ?_⟩; have n0_ := Aside0.mk (Kd.R_below (by (with_reducible repeat (first | apply Kd.R_alloc | apply Kd.R_drewN | apply Kd.R_drew)); exact HO_8.out) hb); have n1_ := Aside0.mk (Kd.R_below (by (with_reducible repeat (first | apply Kd.R_alloc | apply Kd.R_drewN | apply Kd.R_drew)); exact HO_9.out) hb); have n2_ := Aside0.mk (Kd.R_lower ho0 (below_size (by repeat (first | (with_reducible first | exact HB.out | apply below_alloc | apply pw_below_drewN | apply below_drew1) | exact HB.out)))); have n3_ := Aside0.mk (below_step (by repeat (first | (with_reducible first | exact HB.out | apply below_alloc | apply pw_below_drewN | apply below_drew1) | exact HB.out)) hb); clear HO_8; clear HO_9; clear HB; have HO_8 := n0_; have HO_9 := n1_; have HO165 := n2_; have HB := n3_; clear n0_ n1_ n2_ n3_; (try clear hb); (try clear hb2); (try clear hk); (try clear hi); (try clear ho0)))
           go_loopg [13] kj18 (fun kq v13 w' => ∃ (x13_3 : Int), v13 = .int .i64 x13_3 ∧ Aside0 (RK.l8 kq a2 (wrap64 (1 + (wrap64 (Int.tmod (IntKind.u64.wrap (a1)) 3)))) x9_1 t162 x13_3 = some r) ∧ Aside0 (kq ≤ kj18) ∧ Aside0 (Kd.R k28 28 w' w.heap.size (fun _ => True) (.slice Ao20 x9_1.length co20) x9_1) ∧ Aside0 (Kd.R Kd.string 9 w' w.heap.size (fun _ => True) v164 t162) ∧ Aside0 (Below w.heap.size w w'))
           case atStart => exact ⟨(0), (by first | rfl | (simp; done) | (simp [*]; done)), H', ⟨Nat.le_refl _⟩, ⟨by (with_reducible repeat (first | apply Kd.R_alloc | apply Kd.R_drewN | apply Kd.R_drew)); exact HO_9.out⟩, ⟨by (with_reducible repeat (first | apply Kd.R_alloc | apply Kd.R_drewN | apply Kd.R_drew)); exact HO165.out⟩, ⟨by repeat (first | (with_reducible first | exact HB.out | apply below_alloc | apply pw_below_drewN | apply below_drew1) | exact HB.out)⟩⟩
           case round =>
            as_aux_lemma =>
             clear H'
             try clear c1
             try clear p1
             try clear q1
             try clear hx1
             try clear c2
             try clear p2
             try clear c3
             try clear c4
             try clear p6
             try clear c7
             try clear c9
             try clear c10
             try clear c10b0
             try clear c11
             try clear c11b0
             try clear c12
             try clear p12
             try clear q12
             try clear hx12
             try clear hf12
             try clear c13
             try clear p13
             try clear q13
             try clear hx13
             try clear hf13
             try clear c15
             try clear hx15
             try clear hf15
             try clear c17
             try clear hx17
             try clear hf17
             try clear c22
             try clear c23
             try clear c23b0
             try clear c23b1
             try clear c29
             try clear c33
             try clear c33b0
             try clear c33b1
             try clear hx12_0
             try clear hx12_1
             try clear hx12_2
             try clear hx12_3
             try clear hx13_0
             try clear hx13_1
             try clear hx13_2
             try clear hx13_3
             try clear hx15_0
             try clear hx17_3
             try clear p1
             try clear p12
             try clear p13
             try clear p2
             try clear p6
             try clear q1
             try clear q12
             try clear q13
             obtain ⟨x13_3, rfl, HA, HK3, HO_9, HO_11, HB⟩ := hrel
             cases gk with
             | zero => exact absurd HA.out (by simp [RK.l8])
             | succ k3 =>
              have H := HA.out; clear HA
              simp only [RK.l8] at H
              by_cases c36 : x13_3 < (t162.length : Int)
              ·rw [if_pos c36] at H
               have c36b0 : decide (x13_3 < (t162.length : Int)) = true := decide_eq_true c36
               clear c36
               have H' := Aside0.mk H
               clear H
               obtain ⟨Ao37, co37, eo37⟩ := Kd.R_slice HO_11.out
               subst eo37
               go_wp2
               go_loopg [14] k3 (fun kq v14 w' => ∃ (x14_4 : Int), v14 = .int .i64 x14_4 ∧ Aside0 (RK.l9 kq a2 (wrap64 (1 + (wrap64 (Int.tmod (IntKind.u64.wrap (a1)) 3)))) x9_1 t162 x13_3 x14_4 = some r) ∧ Aside0 (kq ≤ k3) ∧ Aside0 (Kd.R k28 28 w' w.heap.size (fun _ => True) (.slice Ao20 x9_1.length co20) x9_1) ∧ Aside0 (Kd.R Kd.string 9 w' w.heap.size (fun _ => True) (.slice Ao37 t162.length co37) t162) ∧ Aside0 (Below w.heap.size w w'))
               case atStart => exact ⟨(0), (by first | rfl | (simp; done) | (simp [*]; done)), H', ⟨Nat.le_refl _⟩, ⟨by (with_reducible repeat (first | apply Kd.R_alloc | apply Kd.R_drewN | apply Kd.R_drew)); exact HO_9.out⟩, ⟨by (with_reducible repeat (first | apply Kd.R_alloc | apply Kd.R_drewN | apply Kd.R_drew)); exact HO_11.out⟩, ⟨by repeat (first | (with_reducible first | exact HB.out | apply below_alloc | apply pw_below_drewN | apply below_drew1) | exact HB.out)⟩⟩
               case round =>
                as_aux_lemma =>
                 clear H'
                 try clear c1
                 try clear p1
                 try clear q1
                 try clear hx1
                 try clear c2
                 try clear p2
                 try clear c3
                 try clear c4
                 try clear p6
                 try clear c7
                 try clear c9
                 try clear c10
                 try clear c10b0
                 try clear c11
                 try clear c11b0
                 try clear c12
                 try clear p12
                 try clear q12
                 try clear hx12
                 try clear hf12
                 try clear c13
                 try clear p13
                 try clear q13
                 try clear hx13
                 try clear hf13
                 try clear c15
                 try clear hx15
                 try clear hf15
                 try clear c17
                 try clear hx17
                 try clear hf17
                 try clear c22
                 try clear c23
                 try clear c23b0
                 try clear c23b1
                 try clear c29
                 try clear c33
                 try clear c33b0
                 try clear c33b1
                 try clear c36
                 try clear c36b0
                 try clear hx12_0
                 try clear hx12_1
                 try clear hx12_2
                 try clear hx12_3
                 try clear hx13_0
                 try clear hx13_1
                 try clear hx13_2
                 try clear hx13_3
                 try clear hx15_0
                 try clear hx17_3
                 try clear p1
                 try clear p12
                 try clear p13
                 try clear p2
                 try clear p6
                 try clear q1
                 try clear q12
                 try clear q13
                 obtain ⟨x14_4, rfl, HA, HK4, HO_9, HO_11, HB⟩ := hrel
                 cases gk with
                 | zero => exact absurd HA.out (by simp [RK.l9])
                 | succ k4 =>
                  have H := HA.out; clear HA
                  simp only [RK.l9] at H
                  by_cases c38 : x14_4 < x13_3
                  ·rw [if_pos c38] at H
                   have c38b0 : decide (x14_4 < x13_3) = true := decide_eq_true c38
                   clear c38
                   by_cases c39 : 0 ≤ x14_4
                   ·rw [if_pos c39] at H
                    have c39b0 : decide (0 ≤ x14_4) = true := decide_eq_true c39
                    clear c39
                    by_cases c40 : x14_4 < (t162.length : Int)
                    ·rw [if_pos c40] at H
                     have c40b0 : decide (x14_4 < (t162.length : Int)) = true := decide_eq_true c40
                     clear c40
                     by_cases c41 : 0 ≤ x13_3
                     ·rw [if_pos c41] at H
                      have c41b0 : decide (0 ≤ x13_3) = true := decide_eq_true c41
                      clear c41
                      by_cases c42 : x13_3 < (t162.length : Int)
                      ·rw [if_pos c42] at H
                       have c42b0 : decide (x13_3 < (t162.length : Int)) = true := decide_eq_true c42
                       clear c42
                       by_cases c43 : (rdOf ByteArray.empty t162 x14_4).toList = (rdOf ByteArray.empty t162 x13_3).toList
                       ·rw [if_pos c43] at H
                        have c43b0 : ((rdOf ByteArray.empty t162 x14_4).toList == (rdOf ByteArray.empty t162 x13_3).toList) = true := beq_iff_eq.mpr c43
                        have c43b1 : ((rdOf ByteArray.empty t162 x14_4).toList != (rdOf ByteArray.empty t162 x13_3).toList) = false := bne_eq_false_iff_eq.mpr c43
                        clear c43
                        rw [HRT.out] at H
                        exact absurd H (by (repeat' split) <;> simp [Option.bind_eq_some_iff])
                       ·rw [if_neg c43] at H
                        have c43b0 : ((rdOf ByteArray.empty t162 x14_4).toList == (rdOf ByteArray.empty t162 x13_3).toList) = false := beq_eq_false_iff_ne.mpr c43
                        have c43b1 : ((rdOf ByteArray.empty t162 x14_4).toList != (rdOf ByteArray.empty t162 x13_3).toList) = true := bne_iff_ne.mpr c43
                        have H' := Aside0.mk H
                        clear H
                        try go_wp2
                        have n0_ := Aside0.mk (Kd.R_drew HO_9.out); have n1_ := Aside0.mk (Kd.R_drew HO_11.out); have n2_ := Aside0.mk (below_drew1 HB.out); clear HO_9 HO_11 HB; have HO_9 := n0_; have HO_11 := n1_; have HB := n2_; clear n0_ n1_ n2_
                        have p166 : 0 ≤ (x14_4 : Int) := of_decide_eq_true (by first | (with_reducible assumption) | assumption)
                        have q166 : x14_4 < (t162.length : Int) := of_decide_eq_true (by first | (with_reducible assumption) | assumption)
                        obtain ⟨ad166, e166, hx166_0⟩ := Kd.at_string (Kd.R_reads' HO_11.out).2.2 x14_4 p166 q166
                        cases e166
                        replace p166 := eq_true p166
                        replace q166 := eq_true q166
                        have p167 : 0 ≤ (x13_3 : Int) := of_decide_eq_true (by first | (with_reducible assumption) | assumption)
                        have q167 : x13_3 < (t162.length : Int) := of_decide_eq_true (by first | (with_reducible assumption) | assumption)
                        obtain ⟨ad167, e167, hx167_0⟩ := Kd.at_string (Kd.R_reads' HO_11.out).2.2 x13_3 p167 q167
                        obtain rfl : ad166 = ad167 := (by injection e167)
                        replace p167 := eq_true p167
                        replace q167 := eq_true q167
                        refine start_ (n := 9) (S := fun w' => w'.cell? (ad166.add (x14_4).toNat) = some (.string (rdOf ByteArray.empty t162 x14_4)) ∧ w'.cell? (ad166.add (x13_3).toNat) = some (.string (rdOf ByteArray.empty t162 x13_3))) (ds := []) Fl3_0 (by kernel_rfl) rfl rfl ⟨hx166_0, hx167_0⟩ (fun hHeld => ?_); refine with_tabW RK.tab19 RK.bits19 (fun HT_ HW_ => ?_)
                        generalize wr.drew = w44 at HO_9 HO_11 HB hx166_0 hx167_0 hHeld ⊢
                        refine pure_ (i := 0) (N := some 83) (v := ?_) (a' := ?_) Fl3_1 rfl rfl (any_of HT_.out (by kernel_rfl)) (fun _ _ _ h => h) (Or.inl ⟨by rfl, ?_⟩) ?_ ?_; rotate_left; (intro w'; go_simp; with_reducible rfl); rotate_left; (simp only [Act.put, sI, sZ, sS, i64_w, i32_w]; rfl)
                        refine pure_ (i := 1) (N := some 84) (v := ?_) (a' := ?_) Fl3_2 rfl rfl (any_of HT_.out (by kernel_rfl)) (fun _ _ _ h => h) (Or.inl ⟨by rfl, ?_⟩) ?_ ?_; rotate_left; (intro w'; go_simp; with_reducible rfl); rotate_left; (simp only [Act.put, sI, sZ, sS, i64_w, i32_w]; rfl)
                        refine pure_ (i := 2) (N := some 85) (v := ?_) (a' := ?_) Fl3_3 rfl rfl (any_of HT_.out (by kernel_rfl)) (fun _ _ _ h => h) (Or.inl ⟨by rfl, ?_⟩) ?_ ?_; rotate_left; (intro w'; go_simp; with_reducible rfl); rotate_left; (simp only [Act.put, sI, sZ, sS, i64_w, i32_w]; rfl)
                        refine pure_ (i := 4) (N := some 87) (v := ?_) (a' := ?_) Fl3_4 rfl rfl (any_of HT_.out (by kernel_rfl)) (fun _ _ _ h => h) (Or.inl ⟨by rfl, ?_⟩) ?_ ?_; rotate_left; (intro w'; go_simp; with_reducible rfl); rotate_left; (simp only [Act.put, sI, sZ, sS, i64_w, i32_w]; rfl)
                        refine pure_ (i := 5) (N := some 88) (v := ?_) (a' := ?_) Fl3_5 rfl rfl (any_of HT_.out (by kernel_rfl)) (fun _ _ _ h => h) (Or.inl ⟨by rfl, ?_⟩) ?_ ?_; rotate_left; (intro w'; go_simp; with_reducible rfl); rotate_left; (simp only [Act.put, sI, sZ, sS, i64_w, i32_w]; rfl)
                        refine pure_ (i := 6) (N := some 89) (v := ?_) (a' := ?_) Fl3_6 rfl rfl (any_of HT_.out (by kernel_rfl)) (fun _ _ _ h => h) (Or.inl ⟨by rfl, ?_⟩) ?_ ?_; rotate_left; (intro w'; go_simp; with_reducible rfl); rotate_left; (simp only [Act.put, sI, sZ, sS, i64_w, i32_w]; rfl)
                        refine take_ (i := 3) (N := some 86) (v := ?_) (a' := ?_) Fl3_7 rfl rfl (take_ofW HT_.out HW_.out (by kernel_rfl)) (fun _ _ _ h => h) (Or.inl ⟨by rfl, ?_⟩) hHeld ?_ ?_; rotate_left; (rintro w' ⟨s0, s1⟩; go_simp; with_reducible rfl); rotate_left; (simp only [Act.put, sI, sZ, sS, i64_w, i32_w]; rfl)
                        refine take_ (i := 7) (N := some 90) (v := ?_) (a' := ?_) Fl3_8 rfl rfl (take_ofW HT_.out HW_.out (by kernel_rfl)) (fun _ _ _ h => h) (Or.inl ⟨by rfl, ?_⟩) hHeld ?_ ?_; rotate_left; (rintro w' ⟨s0, s1⟩; go_simp; with_reducible rfl); rotate_left; (simp only [Act.put, sI, sZ, sS, i64_w, i32_w]; rfl)
                        refine pure_ (i := 8) (N := some 91) (v := ?_) (a' := ?_) Fl3_9 rfl rfl (any_of HT_.out (by kernel_rfl)) (fun _ _ _ h => h) (Or.inl ⟨by rfl, ?_⟩) ?_ ?_; rotate_left; (intro w'; go_simp; with_reducible rfl); rotate_left; (simp only [Act.put, sI, sZ, sS, i64_w, i32_w]; rfl)
                        refine done_ (done_of HT_.out (by kernel_rfl)) ?_
                        try go_wp2
                        go_roundg k4
                        case measure => have := HK1.out; have := HJ18.out; have := HK3.out; have := HK4.out; omega
                        case rel => exact ⟨(wrap64 (x14_4 + 1)), (by first | rfl | (simp; done) | (simp [*]; done)), H', ⟨by have := HK1.out; have := HJ18.out; have := HK3.out; have := HK4.out; omega⟩, ⟨by (with_reducible repeat (first | apply Kd.R_alloc | apply Kd.R_drewN | apply Kd.R_drew)); exact HO_9.out⟩, ⟨by (with_reducible repeat (first | apply Kd.R_alloc | apply Kd.R_drewN | apply Kd.R_drew)); exact HO_11.out⟩, ⟨by repeat (first | (with_reducible first | exact HB.out | apply below_alloc | apply pw_below_drewN | apply below_drew1) | exact HB.out)⟩⟩
                      ·rw [if_neg c42] at H
                       exact absurd H (by simp)
                     ·rw [if_neg c41] at H
                      exact absurd H (by simp)
                    ·rw [if_neg c40] at H
                     exact absurd H (by simp)
                   ·rw [if_neg c39] at H
                    exact absurd H (by simp)
                  ·rw [if_neg c38] at H
                   have c38b0 : decide (x14_4 < x13_3) = false := decide_eq_false c38
                   clear c38
                   have H' := Aside0.mk H
                   clear H
                   go_wp2
                   go_roundg k4
                   case measure => have := HK1.out; have := HJ18.out; have := HK3.out; have := HK4.out; omega
                   case rel => exact ⟨(wrap64 (x13_3 + 1)), (by first | rfl | (simp; done) | (simp [*]; done)), H', ⟨by have := HK1.out; have := HJ18.out; have := HK3.out; have := HK4.out; omega⟩, ⟨by (with_reducible repeat (first | apply Kd.R_alloc | apply Kd.R_drewN | apply Kd.R_drew)); exact HO_9.out⟩, ⟨by (with_reducible repeat (first | apply Kd.R_alloc | apply Kd.R_drewN | apply Kd.R_drew)); exact HO_11.out⟩, ⟨by repeat (first | (with_reducible first | exact HB.out | apply below_alloc | apply pw_below_drewN | apply below_drew1) | exact HB.out)⟩⟩
              ·rw [if_neg c36] at H
               have c36b0 : decide (x13_3 < (t162.length : Int)) = false := decide_eq_false c36
               clear c36
               have H' := Aside0.mk H
               clear H
               obtain ⟨Ao45, co45, eo45⟩ := Kd.R_slice HO_11.out
               subst eo45
               go_wp2
               go_loopg [15] k3 (fun kq v15 w' => ∃ (x15_4 : Int), v15 = .int .i64 x15_4 ∧ Aside0 (RK.l10 kq a2 (wrap64 (1 + (wrap64 (Int.tmod (IntKind.u64.wrap (a1)) 3)))) x9_1 t162 x15_4 = some r) ∧ Aside0 (kq ≤ k3) ∧ Aside0 (Kd.R k28 28 w' w.heap.size (fun _ => True) (.slice Ao20 x9_1.length co20) x9_1) ∧ Aside0 (Kd.R Kd.string 9 w' w.heap.size (fun _ => True) (.slice Ao45 t162.length co45) t162) ∧ Aside0 (Below w.heap.size w w'))
               case atStart => exact ⟨(0), (by first | rfl | (simp; done) | (simp [*]; done)), H', ⟨Nat.le_refl _⟩, ⟨by (with_reducible repeat (first | apply Kd.R_alloc | apply Kd.R_drewN | apply Kd.R_drew)); exact HO_9.out⟩, ⟨by (with_reducible repeat (first | apply Kd.R_alloc | apply Kd.R_drewN | apply Kd.R_drew)); exact HO_11.out⟩, ⟨by repeat (first | (with_reducible first | exact HB.out | apply below_alloc | apply pw_below_drewN | apply below_drew1) | exact HB.out)⟩⟩
               case round =>
                as_aux_lemma =>
                 clear H'
                 try clear c1
                 try clear p1
                 try clear q1
                 try clear hx1
                 try clear c2
                 try clear p2
                 try clear c3
                 try clear c4
                 try clear p6
                 try clear c7
                 try clear c9
                 try clear c10
                 try clear c10b0
                 try clear c11
                 try clear c11b0
                 try clear c12
                 try clear p12
                 try clear q12
                 try clear hx12
                 try clear hf12
                 try clear c13
                 try clear p13
                 try clear q13
                 try clear hx13
                 try clear hf13
                 try clear c15
                 try clear hx15
                 try clear hf15
                 try clear p16
                 try clear q16
                 try clear hx16
                 try clear c17
                 try clear hx17
                 try clear hf17
                 try clear c22
                 try clear c23
                 try clear c23b0
                 try clear c23b1
                 try clear c29
                 try clear c33
                 try clear c33b0
                 try clear c33b1
                 try clear c36
                 try clear c36b0
                 try clear c38
                 try clear c38b0
                 try clear c39
                 try clear c39b0
                 try clear c40
                 try clear c40b0
                 try clear c41
                 try clear c41b0
                 try clear c42
                 try clear c42b0
                 try clear c43
                 try clear c43b0
                 try clear c43b1
                 try clear hx12_0
                 try clear hx12_1
                 try clear hx12_2
                 try clear hx12_3
                 try clear hx13_0
                 try clear hx13_1
                 try clear hx13_2
                 try clear hx13_3
                 try clear hx15_0
                 try clear hx166_0
                 try clear hx167_0
                 try clear hx17_3
                 try clear p1
                 try clear p12
                 try clear p13
                 try clear p166
                 try clear p167
                 try clear p2
                 try clear p6
                 try clear q1
                 try clear q12
                 try clear q13
                 try clear q166
                 try clear q167
                 obtain ⟨x15_4, rfl, HA, HK4, HO_9, HO_11, HB⟩ := hrel
                 cases gk with
                 | zero => exact absurd HA.out (by simp [RK.l10])
                 | succ k4 =>
                  have H := HA.out; clear HA
                  simp only [RK.l10] at H
                  by_cases c46 : x15_4 < (x9_1.length : Int)
                  ·rw [if_pos c46] at H
                   have c46b0 : decide (x15_4 < (x9_1.length : Int)) = true := decide_eq_true c46
                   clear c46; have HC47 := Aside0.mk H; clear H
                   go_upto_region 24 with (fail)
                   go_cut [16] (fun v16 wc => ∃ (kq : Nat) (x16_46 : Bool), v16 = .bool x16_46 ∧ Aside0 (RK.j5 kq a2 (wrap64 (1 + (wrap64 (Int.tmod (IntKind.u64.wrap (a1)) 3)))) x9_1 t162 x15_4 x16_46 = some r) ∧ Aside0 (kq ≤ k4) ∧ Aside0 (Kd.R k28 28 wc w.heap.size (fun _ => True) (.slice Ao20 x9_1.length co20) x9_1) ∧ Aside0 (Kd.R Kd.string 9 wc w.heap.size (fun _ => True) (.slice Ao45 t162.length co45) t162) ∧ Aside0 (Below w.heap.size w wc))
                   case first =>
                    have H := HC47.out; clear HC47
                    by_cases c48 : (wrap64 (1 + (wrap64 (Int.tmod (IntKind.u64.wrap (a1)) 3)))) = 2
                    ·rw [if_pos c48] at H
                     have c48b0 : ((wrap64 (1 + (wrap64 (Int.tmod (IntKind.u64.wrap (a1)) 3)))) == 2) = true := beq_iff_eq.mpr c48
                     have c48b1 : ((wrap64 (1 + (wrap64 (Int.tmod (IntKind.u64.wrap (a1)) 3)))) != 2) = false := bne_eq_false_iff_eq.mpr c48
                     clear c48
                     (first | rw [c48b0] | (simp only [i64_w, i32_w]; rw [c48b0]) | skip)
                     have H' := Aside0.mk H
                     clear H
                     go_wp2
                     go_meet
                     case rel => exact ⟨_, (true), (by first | rfl | (simp; done) | (simp [*]; done)), H', ⟨by have := HK1.out; have := HJ18.out; have := HK3.out; have := HK4.out; first | omega | exact Nat.le_refl _⟩, ⟨by (with_reducible repeat (first | apply Kd.R_alloc | apply Kd.R_drewN | apply Kd.R_drew)); exact HO_9.out⟩, ⟨by (with_reducible repeat (first | apply Kd.R_alloc | apply Kd.R_drewN | apply Kd.R_drew)); exact HO_11.out⟩, ⟨by repeat (first | (with_reducible first | exact HB.out | apply below_alloc | apply pw_below_drewN | apply below_drew1) | exact HB.out)⟩⟩
                    ·rw [if_neg c48] at H
                     have c48b0 : ((wrap64 (1 + (wrap64 (Int.tmod (IntKind.u64.wrap (a1)) 3)))) == 2) = false := beq_eq_false_iff_ne.mpr c48
                     have c48b1 : ((wrap64 (1 + (wrap64 (Int.tmod (IntKind.u64.wrap (a1)) 3)))) != 2) = true := bne_iff_ne.mpr c48
                     (first | rw [c48b0] | (simp only [i64_w, i32_w]; rw [c48b0]) | skip)
                     by_cases c49 : (wrap64 (1 + (wrap64 (Int.tmod (IntKind.u64.wrap (a1)) 3)))) = 1
                     ·rw [if_pos c49] at H
                      have c49b0 : ((wrap64 (1 + (wrap64 (Int.tmod (IntKind.u64.wrap (a1)) 3)))) == 1) = true := beq_iff_eq.mpr c49
                      have c49b1 : ((wrap64 (1 + (wrap64 (Int.tmod (IntKind.u64.wrap (a1)) 3)))) != 1) = false := bne_eq_false_iff_eq.mpr c49
                      clear c49
                      by_cases c50 : 0 ≤ x15_4
                      ·rw [if_pos c50] at H
                       have c50b0 : decide (0 ≤ x15_4) = true := decide_eq_true c50
                       clear c50
                       by_cases c51 : ((rd_T28 x9_1 x15_4).f2).toList = a2.toList
                       ·rw [if_pos c51] at H
                        have c51b0 : (((rd_T28 x9_1 x15_4).f2).toList == a2.toList) = true := beq_iff_eq.mpr c51
                        have c51b1 : (((rd_T28 x9_1 x15_4).f2).toList != a2.toList) = false := bne_eq_false_iff_eq.mpr c51
                        clear c51
                        have H' := Aside0.mk H
                        clear H
                        have p168 : 0 ≤ (x15_4 : Int) := of_decide_eq_true (by first | (with_reducible assumption) | assumption)
                        have q168 : x15_4 < (x9_1.length : Int) := of_decide_eq_true (by first | (with_reducible assumption) | assumption)
                        obtain ⟨ad168, e168, hx168_0, hx168_1, hx168_2, hx168_3⟩ := at_T28 (Kd.R_reads' HO_9.out).2.2 x15_4 p168 q168
                        cases e168
                        replace p168 := eq_true p168
                        replace q168 := eq_true q168
                        go_wp2
                        go_meet
                        case rel => exact ⟨_, (true), (by first | rfl | (simp; done) | (simp [*]; done)), H', ⟨by have := HK1.out; have := HJ18.out; have := HK3.out; have := HK4.out; first | omega | exact Nat.le_refl _⟩, ⟨by (with_reducible repeat (first | apply Kd.R_alloc | apply Kd.R_drewN | apply Kd.R_drew)); exact HO_9.out⟩, ⟨by (with_reducible repeat (first | apply Kd.R_alloc | apply Kd.R_drewN | apply Kd.R_drew)); exact HO_11.out⟩, ⟨by repeat (first | (with_reducible first | exact HB.out | apply below_alloc | apply pw_below_drewN | apply below_drew1) | exact HB.out)⟩⟩
                       ·rw [if_neg c51] at H
                        have c51b0 : (((rd_T28 x9_1 x15_4).f2).toList == a2.toList) = false := beq_eq_false_iff_ne.mpr c51
                        have c51b1 : (((rd_T28 x9_1 x15_4).f2).toList != a2.toList) = true := bne_iff_ne.mpr c51
                        by_cases c52 : (wrap64 (1 + (wrap64 (Int.tmod (IntKind.u64.wrap (a1)) 3)))) = 3
                        ·rw [if_pos c52] at H
                         have c52b0 : ((wrap64 (1 + (wrap64 (Int.tmod (IntKind.u64.wrap (a1)) 3)))) == 3) = true := beq_iff_eq.mpr c52
                         have c52b1 : ((wrap64 (1 + (wrap64 (Int.tmod (IntKind.u64.wrap (a1)) 3)))) != 3) = false := bne_eq_false_iff_eq.mpr c52
                         clear c52
                         replace H := Option.bind_eq_some_iff.mp H
                         obtain ⟨t170, A530, H⟩ := H
                         replace H : (RK.j5 k4 a2 (wrap64 (1 + (wrap64 (Int.tmod (IntKind.u64.wrap (a1)) 3)))) x9_1 t162 x15_4 t170) = some r := H
                         have A53 := Aside0.mk A530; clear A530
                         have H' := Aside0.mk H
                         clear H
                         have p168 : 0 ≤ (x15_4 : Int) := of_decide_eq_true (by first | (with_reducible assumption) | assumption)
                         have q168 : x15_4 < (x9_1.length : Int) := of_decide_eq_true (by first | (with_reducible assumption) | assumption)
                         obtain ⟨ad168, e168, hx168_0, hx168_1, hx168_2, hx168_3⟩ := at_T28 (Kd.R_reads' HO_9.out).2.2 x15_4 p168 q168
                         cases e168
                         replace p168 := eq_true p168
                         replace q168 := eq_true q168
                         have p169 : 0 ≤ (x15_4 : Int) := of_decide_eq_true (by first | (with_reducible assumption) | assumption)
                         have q169 : x15_4 < (x9_1.length : Int) := of_decide_eq_true (by first | (with_reducible assumption) | assumption)
                         obtain ⟨ad169, e169, hx169_0, hx169_1, hx169_2, hx169_3⟩ := at_T28 (Kd.R_reads' HO_9.out).2.2 x15_4 p169 q169
                         obtain rfl : ad168 = ad169 := (by injection e169)
                         replace p169 := eq_true p169
                         replace q169 := eq_true q169
                         go_wp2_with (first | (go_at_call 11; (with_reducible refine (topic_Match.calls ((rd_T28 x9_1 x15_4).f2) a2 t170 _ ?side1 A53.out).mono ?_); (case side1 => exact Gl.below HGL.out (by repeat (first | (with_reducible first | exact HB.out | apply below_alloc | apply pw_below_drewN | apply below_drew1) | exact HB.out))); rintro e w54 ⟨rfl, hb⟩; have n0_ := Aside0.mk (Kd.R_below (by (with_reducible repeat (first | apply Kd.R_alloc | apply Kd.R_drewN | apply Kd.R_drew)); exact HO_9.out) hb); have n1_ := Aside0.mk (Kd.R_below (by (with_reducible repeat (first | apply Kd.R_alloc | apply Kd.R_drewN | apply Kd.R_drew)); exact HO_11.out) hb); have n2_ := Aside0.mk (below_step (by repeat (first | (with_reducible first | exact HB.out | apply below_alloc | apply pw_below_drewN | apply below_drew1) | exact HB.out)) hb); clear HO_9; clear HO_11; clear HB; have HO_9 := n0_; have HO_11 := n1_; have HB := n2_; clear n0_ n1_ n2_; (try clear hb); (try clear hb2); (try clear hk); (try clear hi)))
                         go_meet
                         case rel => exact ⟨_, (t170), (by first | rfl | (simp; done) | (simp [*]; done)), H', ⟨by have := HK1.out; have := HJ18.out; have := HK3.out; have := HK4.out; first | omega | exact Nat.le_refl _⟩, ⟨by (with_reducible repeat (first | apply Kd.R_alloc | apply Kd.R_drewN | apply Kd.R_drew)); exact HO_9.out⟩, ⟨by (with_reducible repeat (first | apply Kd.R_alloc | apply Kd.R_drewN | apply Kd.R_drew)); exact HO_11.out⟩, ⟨by repeat (first | (with_reducible first | exact HB.out | apply below_alloc | apply pw_below_drewN | apply below_drew1) | exact HB.out)⟩⟩
                        ·rw [if_neg c52] at H
                         have c52b0 : ((wrap64 (1 + (wrap64 (Int.tmod (IntKind.u64.wrap (a1)) 3)))) == 3) = false := beq_eq_false_iff_ne.mpr c52
                         have c52b1 : ((wrap64 (1 + (wrap64 (Int.tmod (IntKind.u64.wrap (a1)) 3)))) != 3) = true := bne_iff_ne.mpr c52
                         have H' := Aside0.mk H
                         clear H
                         have p168 : 0 ≤ (x15_4 : Int) := of_decide_eq_true (by first | (with_reducible assumption) | assumption)
                         have q168 : x15_4 < (x9_1.length : Int) := of_decide_eq_true (by first | (with_reducible assumption) | assumption)
                         obtain ⟨ad168, e168, hx168_0, hx168_1, hx168_2, hx168_3⟩ := at_T28 (Kd.R_reads' HO_9.out).2.2 x15_4 p168 q168
                         cases e168
                         replace p168 := eq_true p168
                         replace q168 := eq_true q168
                         go_wp2
                         go_meet
                         case rel => exact ⟨_, (false), (by first | rfl | (simp; done) | (simp [*]; done)), H', ⟨by have := HK1.out; have := HJ18.out; have := HK3.out; have := HK4.out; first | omega | exact Nat.le_refl _⟩, ⟨by (with_reducible repeat (first | apply Kd.R_alloc | apply Kd.R_drewN | apply Kd.R_drew)); exact HO_9.out⟩, ⟨by (with_reducible repeat (first | apply Kd.R_alloc | apply Kd.R_drewN | apply Kd.R_drew)); exact HO_11.out⟩, ⟨by repeat (first | (with_reducible first | exact HB.out | apply below_alloc | apply pw_below_drewN | apply below_drew1) | exact HB.out)⟩⟩
                      ·rw [if_neg c50] at H
                       exact absurd H (by simp)
                     ·rw [if_neg c49] at H
                      have c49b0 : ((wrap64 (1 + (wrap64 (Int.tmod (IntKind.u64.wrap (a1)) 3)))) == 1) = false := beq_eq_false_iff_ne.mpr c49
                      have c49b1 : ((wrap64 (1 + (wrap64 (Int.tmod (IntKind.u64.wrap (a1)) 3)))) != 1) = true := bne_iff_ne.mpr c49
                      by_cases c55 : (wrap64 (1 + (wrap64 (Int.tmod (IntKind.u64.wrap (a1)) 3)))) = 3
                      ·rw [if_pos c55] at H
                       have c55b0 : ((wrap64 (1 + (wrap64 (Int.tmod (IntKind.u64.wrap (a1)) 3)))) == 3) = true := beq_iff_eq.mpr c55
                       have c55b1 : ((wrap64 (1 + (wrap64 (Int.tmod (IntKind.u64.wrap (a1)) 3)))) != 3) = false := bne_eq_false_iff_eq.mpr c55
                       clear c55
                       by_cases c56 : 0 ≤ x15_4
                       ·rw [if_pos c56] at H
                        have c56b0 : decide (0 ≤ x15_4) = true := decide_eq_true c56
                        clear c56
                        replace H := Option.bind_eq_some_iff.mp H
                        obtain ⟨t172, A570, H⟩ := H
                        replace H : (RK.j5 k4 a2 (wrap64 (1 + (wrap64 (Int.tmod (IntKind.u64.wrap (a1)) 3)))) x9_1 t162 x15_4 t172) = some r := H
                        have A57 := Aside0.mk A570; clear A570
                        have H' := Aside0.mk H
                        clear H
                        have p171 : 0 ≤ (x15_4 : Int) := of_decide_eq_true (by first | (with_reducible assumption) | assumption)
                        have q171 : x15_4 < (x9_1.length : Int) := of_decide_eq_true (by first | (with_reducible assumption) | assumption)
                        obtain ⟨ad171, e171, hx171_0, hx171_1, hx171_2, hx171_3⟩ := at_T28 (Kd.R_reads' HO_9.out).2.2 x15_4 p171 q171
                        cases e171
                        replace p171 := eq_true p171
                        replace q171 := eq_true q171
                        go_wp2_with (first | (go_at_call 11; (with_reducible refine (topic_Match.calls ((rd_T28 x9_1 x15_4).f2) a2 t172 _ ?side1 A57.out).mono ?_); (case side1 => exact Gl.below HGL.out (by repeat (first | (with_reducible first | exact HB.out | apply below_alloc | apply pw_below_drewN | apply below_drew1) | exact HB.out))); rintro e w58 ⟨rfl, hb⟩; have n0_ := Aside0.mk (Kd.R_below (by (with_reducible repeat (first | apply Kd.R_alloc | apply Kd.R_drewN | apply Kd.R_drew)); exact HO_9.out) hb); have n1_ := Aside0.mk (Kd.R_below (by (with_reducible repeat (first | apply Kd.R_alloc | apply Kd.R_drewN | apply Kd.R_drew)); exact HO_11.out) hb); have n2_ := Aside0.mk (below_step (by repeat (first | (with_reducible first | exact HB.out | apply below_alloc | apply pw_below_drewN | apply below_drew1) | exact HB.out)) hb); clear HO_9; clear HO_11; clear HB; have HO_9 := n0_; have HO_11 := n1_; have HB := n2_; clear n0_ n1_ n2_; (try clear hb); (try clear hb2); (try clear hk); (try clear hi)))
                        go_meet
                        case rel => exact ⟨_, (t172), (by first | rfl | (simp; done) | (simp [*]; done)), H', ⟨by have := HK1.out; have := HJ18.out; have := HK3.out; have := HK4.out; first | omega | exact Nat.le_refl _⟩, ⟨by (with_reducible repeat (first | apply Kd.R_alloc | apply Kd.R_drewN | apply Kd.R_drew)); exact HO_9.out⟩, ⟨by (with_reducible repeat (first | apply Kd.R_alloc | apply Kd.R_drewN | apply Kd.R_drew)); exact HO_11.out⟩, ⟨by repeat (first | (with_reducible first | exact HB.out | apply below_alloc | apply pw_below_drewN | apply below_drew1) | exact HB.out)⟩⟩
                       ·rw [if_neg c56] at H
                        exact absurd H (by simp)
                      ·rw [if_neg c55] at H
                       have c55b0 : ((wrap64 (1 + (wrap64 (Int.tmod (IntKind.u64.wrap (a1)) 3)))) == 3) = false := beq_eq_false_iff_ne.mpr c55
                       have c55b1 : ((wrap64 (1 + (wrap64 (Int.tmod (IntKind.u64.wrap (a1)) 3)))) != 3) = true := bne_iff_ne.mpr c55
                       have H' := Aside0.mk H
                       clear H
                       go_wp2
                       go_meet
                       case rel => exact ⟨_, (false), (by first | rfl | (simp; done) | (simp [*]; done)), H', ⟨by have := HK1.out; have := HJ18.out; have := HK3.out; have := HK4.out; first | omega | exact Nat.le_refl _⟩, ⟨by (with_reducible repeat (first | apply Kd.R_alloc | apply Kd.R_drewN | apply Kd.R_drew)); exact HO_9.out⟩, ⟨by (with_reducible repeat (first | apply Kd.R_alloc | apply Kd.R_drewN | apply Kd.R_drew)); exact HO_11.out⟩, ⟨by repeat (first | (with_reducible first | exact HB.out | apply below_alloc | apply pw_below_drewN | apply below_drew1) | exact HB.out)⟩⟩
                   case rest =>
                    clear HC47
                    try clear c1
                    try clear p1
                    try clear q1
                    try clear hx1
                    try clear c2
                    try clear p2
                    try clear c3
                    try clear c4
                    try clear c5
                    try clear p6
                    try clear c7
                    try clear c9
                    try clear c10
                    try clear c10b0
                    try clear c11
                    try clear c11b0
                    try clear c12
                    try clear p12
                    try clear q12
                    try clear hx12
                    try clear hf12
                    try clear c13
                    try clear p13
                    try clear q13
                    try clear hx13
                    try clear hf13
                    try clear c15
                    try clear hx15
                    try clear hf15
                    try clear p16
                    try clear q16
                    try clear hx16
                    try clear c17
                    try clear p17
                    try clear q17
                    try clear hx17
                    try clear hf17
                    try clear c22
                    try clear c23
                    try clear c23b0
                    try clear c23b1
                    try clear c29
                    try clear c33
                    try clear c33b0
                    try clear c33b1
                    try clear c36
                    try clear c36b0
                    try clear c38
                    try clear c38b0
                    try clear c39
                    try clear c39b0
                    try clear c40
                    try clear c40b0
                    try clear c41
                    try clear c41b0
                    try clear c42
                    try clear c42b0
                    try clear c43
                    try clear c43b0
                    try clear c43b1
                    try clear c46
                    try clear c46b0
                    try clear c48
                    try clear c48b0
                    try clear c48b1
                    try clear c49
                    try clear c49b0
                    try clear c49b1
                    try clear c50
                    try clear c50b0
                    try clear c51
                    try clear c51b0
                    try clear c51b1
                    try clear c52
                    try clear c52b0
                    try clear c52b1
                    try clear c55
                    try clear c55b0
                    try clear c55b1
                    try clear c56
                    try clear c56b0
                    try clear hx12_0
                    try clear hx12_1
                    try clear hx12_2
                    try clear hx12_3
                    try clear hx13_0
                    try clear hx13_1
                    try clear hx13_2
                    try clear hx13_3
                    try clear hx15_0
                    try clear hx166_0
                    try clear hx167_0
                    try clear hx168_0
                    try clear hx168_1
                    try clear hx168_2
                    try clear hx168_3
                    try clear hx169_0
                    try clear hx169_1
                    try clear hx169_2
                    try clear hx169_3
                    try clear hx171_0
                    try clear hx171_1
                    try clear hx171_2
                    try clear hx171_3
                    try clear hx17_3
                    try clear p1
                    try clear p12
                    try clear p13
                    try clear p16
                    try clear p166
                    try clear p167
                    try clear p168
                    try clear p169
                    try clear p171
                    try clear p2
                    try clear p6
                    try clear q1
                    try clear q12
                    try clear q13
                    try clear q16
                    try clear q166
                    try clear q167
                    try clear q168
                    try clear q169
                    try clear q171
                    obtain ⟨kq, x16_46, rfl, HA, HJ46, HO_9, HO_11, HB⟩ := hcut
                    cases kq with
                    | zero => exact absurd HA.out (by simp [RK.j5])
                    | succ kj46 =>
                     have H := HA.out; clear HA
                     simp only [RK.j5] at H
                     have H' := Aside0.mk H
                     clear H
                     go_wp2
                     go_loopg [17, 18] kj46 (fun kq v17 v18 w' => ∃ (x17_6 : Bool) (x18_6 : Int), v17 = .bool x17_6 ∧ v18 = .int .i64 x18_6 ∧ Aside0 (RK.l11 kq a2 (wrap64 (1 + (wrap64 (Int.tmod (IntKind.u64.wrap (a1)) 3)))) x9_1 t162 x15_4 x16_46 x17_6 x18_6 = some r) ∧ Aside0 (kq ≤ kj46) ∧ Aside0 (Kd.R k28 28 w' w.heap.size (fun _ => True) (.slice Ao20 x9_1.length co20) x9_1) ∧ Aside0 (Kd.R Kd.string 9 w' w.heap.size (fun _ => True) (.slice Ao45 t162.length co45) t162) ∧ Aside0 (Below w.heap.size w w'))
                     case atStart => exact ⟨(false), (0), (by first | rfl | (simp; done) | (simp [*]; done)), (by first | rfl | (simp; done) | (simp [*]; done)), H', ⟨Nat.le_refl _⟩, ⟨by (with_reducible repeat (first | apply Kd.R_alloc | apply Kd.R_drewN | apply Kd.R_drew)); exact HO_9.out⟩, ⟨by (with_reducible repeat (first | apply Kd.R_alloc | apply Kd.R_drewN | apply Kd.R_drew)); exact HO_11.out⟩, ⟨by repeat (first | (with_reducible first | exact HB.out | apply below_alloc | apply pw_below_drewN | apply below_drew1) | exact HB.out)⟩⟩
                     case round =>
                      as_aux_lemma =>
                       clear H'
                       try clear c1
                       try clear p1
                       try clear q1
                       try clear hx1
                       try clear c2
                       try clear p2
                       try clear c3
                       try clear c4
                       try clear c5
                       try clear p6
                       try clear c7
                       try clear c9
                       try clear c10
                       try clear c10b0
                       try clear c11
                       try clear c11b0
                       try clear c12
                       try clear p12
                       try clear q12
                       try clear hx12
                       try clear hf12
                       try clear c13
                       try clear p13
                       try clear q13
                       try clear hx13
                       try clear hf13
                       try clear c15
                       try clear hx15
                       try clear hf15
                       try clear p16
                       try clear q16
                       try clear hx16
                       try clear c17
                       try clear p17
                       try clear q17
                       try clear hx17
                       try clear hf17
                       try clear c22
                       try clear c23
                       try clear c23b0
                       try clear c23b1
                       try clear c29
                       try clear c33
                       try clear c33b0
                       try clear c33b1
                       try clear c36
                       try clear c36b0
                       try clear c38
                       try clear c38b0
                       try clear c39
                       try clear c39b0
                       try clear c40
                       try clear c40b0
                       try clear c41
                       try clear c41b0
                       try clear c42
                       try clear c42b0
                       try clear c43
                       try clear c43b0
                       try clear c43b1
                       try clear c46
                       try clear c46b0
                       try clear c48
                       try clear c48b0
                       try clear c48b1
                       try clear c49
                       try clear c49b0
                       try clear c49b1
                       try clear c50
                       try clear c50b0
                       try clear c51
                       try clear c51b0
                       try clear c51b1
                       try clear c52
                       try clear c52b0
                       try clear c52b1
                       try clear c55
                       try clear c55b0
                       try clear c55b1
                       try clear c56
                       try clear c56b0
                       try clear hx12_0
                       try clear hx12_1
                       try clear hx12_2
                       try clear hx12_3
                       try clear hx13_0
                       try clear hx13_1
                       try clear hx13_2
                       try clear hx13_3
                       try clear hx15_0
                       try clear hx166_0
                       try clear hx167_0
                       try clear hx168_0
                       try clear hx168_1
                       try clear hx168_2
                       try clear hx168_3
                       try clear hx169_0
                       try clear hx169_1
                       try clear hx169_2
                       try clear hx169_3
                       try clear hx171_0
                       try clear hx171_1
                       try clear hx171_2
                       try clear hx171_3
                       try clear hx17_3
                       try clear p1
                       try clear p12
                       try clear p13
                       try clear p16
                       try clear p166
                       try clear p167
                       try clear p168
                       try clear p169
                       try clear p17
                       try clear p171
                       try clear p2
                       try clear p6
                       try clear q1
                       try clear q12
                       try clear q13
                       try clear q16
                       try clear q166
                       try clear q167
                       try clear q168
                       try clear q169
                       try clear q17
                       try clear q171
                       obtain ⟨x17_6, x18_6, rfl, rfl, HA, HK6, HO_9, HO_11, HB⟩ := hrel
                       cases gk with
                       | zero => exact absurd HA.out (by simp [RK.l11])
                       | succ k6 =>
                        have H := HA.out; clear HA
                        simp only [RK.l11] at H
                        by_cases c59 : x18_6 < (t162.length : Int)
                        ·rw [if_pos c59] at H
                         have c59b0 : decide (x18_6 < (t162.length : Int)) = true := decide_eq_true c59
                         clear c59
                         by_cases c60 : x17_6 = true
                         ·subst c60
                          have H1 : (RK.l11 k6 a2 (wrap64 (1 + (wrap64 (Int.tmod (IntKind.u64.wrap (a1)) 3)))) x9_1 t162 x15_4 x16_46 true (wrap64 (x18_6 + 1))) = some r := by rw [if_pos rfl] at H; exact H
                          clear H; have H := H1; clear H1
                          have H' := Aside0.mk H
                          clear H
                          try go_wp2
                          have n0_ := Aside0.mk (Kd.R_drew HO_9.out); have n1_ := Aside0.mk (Kd.R_drew HO_11.out); have n2_ := Aside0.mk (below_drew1 HB.out); clear HO_9 HO_11 HB; have HO_9 := n0_; have HO_11 := n1_; have HB := n2_; clear n0_ n1_ n2_
                          refine start_ (n := 14) (S := fun w' => True) (ds := []) Fl3_10 (by kernel_rfl) rfl rfl trivial (fun hHeld => ?_); refine with_tabW RK.tab29 RK.bits29 (fun HT_ HW_ => ?_)
                          generalize wr.drew = w61 at HO_9 HO_11 HB hHeld ⊢
                          refine pure_ (i := 0) (N := some 132) (v := ?_) (a' := ?_) Fl3_11 rfl rfl (any_of HT_.out (by kernel_rfl)) (fun _ _ _ h => h) (Or.inl ⟨by rfl, ?_⟩) ?_ ?_; rotate_left; (intro w'; go_simp; with_reducible rfl); rotate_left; (simp only [Act.put, sI, sZ, sS, i64_w, i32_w]; rfl)
                          refine pure_ (i := 1) (N := some 133) (v := ?_) (a' := ?_) Fl3_12 rfl rfl (any_of HT_.out (by kernel_rfl)) (fun _ _ _ h => h) (Or.inl ⟨by rfl, ?_⟩) ?_ ?_; rotate_left; (intro w'; go_simp; with_reducible rfl); rotate_left; (simp only [Act.put, sI, sZ, sS, i64_w, i32_w]; rfl)
                          refine pure_ (i := 2) (N := some 134) (v := undef) (a' := ?_) Fl3_13 rfl rfl (any_of HT_.out (by kernel_rfl)) (fun _ _ _ h => h) (Or.inr ⟨by rfl, rfl⟩) ?_ ?_; rotate_left; (simp only [Act.put, sI, sZ, sS, i64_w, i32_w]; rfl)
                          refine pure_ (i := 3) (N := some 135) (v := undef) (a' := ?_) Fl3_14 rfl rfl (any_of HT_.out (by kernel_rfl)) (fun _ _ _ h => h) (Or.inr ⟨by rfl, rfl⟩) ?_ ?_; rotate_left; (simp only [Act.put, sI, sZ, sS, i64_w, i32_w]; rfl)
                          refine pure_ (i := 4) (N := some 136) (v := undef) (a' := ?_) Fl3_15 rfl rfl (any_of HT_.out (by kernel_rfl)) (fun _ _ _ h => h) (Or.inr ⟨by rfl, rfl⟩) ?_ ?_; rotate_left; (simp only [Act.put, sI, sZ, sS, i64_w, i32_w]; rfl)
                          refine pure_ (i := 5) (N := some 137) (v := undef) (a' := ?_) Fl3_16 rfl rfl (any_of HT_.out (by kernel_rfl)) (fun _ _ _ h => h) (Or.inr ⟨by rfl, rfl⟩) ?_ ?_; rotate_left; (simp only [Act.put, sI, sZ, sS, i64_w, i32_w]; rfl)
                          refine pure_ (i := 6) (N := some 138) (v := undef) (a' := ?_) Fl3_17 rfl rfl (any_of HT_.out (by kernel_rfl)) (fun _ _ _ h => h) (Or.inr ⟨by rfl, rfl⟩) ?_ ?_; rotate_left; (simp only [Act.put, sI, sZ, sS, i64_w, i32_w]; rfl)
                          refine pure_ (i := 7) (N := some 139) (v := undef) (a' := ?_) Fl3_18 rfl rfl (any_of HT_.out (by kernel_rfl)) (fun _ _ _ h => h) (Or.inr ⟨by rfl, rfl⟩) ?_ ?_; rotate_left; (simp only [Act.put, sI, sZ, sS, i64_w, i32_w]; rfl)
                          refine pure_ (i := 8) (N := some 140) (v := undef) (a' := ?_) Fl3_19 rfl rfl (any_of HT_.out (by kernel_rfl)) (fun _ _ _ h => h) (Or.inr ⟨by rfl, rfl⟩) ?_ ?_; rotate_left; (simp only [Act.put, sI, sZ, sS, i64_w, i32_w]; rfl)
                          refine pure_ (i := 9) (N := some 141) (v := undef) (a' := ?_) Fl3_20 rfl rfl (any_of HT_.out (by kernel_rfl)) (fun _ _ _ h => h) (Or.inr ⟨by rfl, rfl⟩) ?_ ?_; rotate_left; (simp only [Act.put, sI, sZ, sS, i64_w, i32_w]; rfl)
                          refine pure_ (i := 10) (N := some 142) (v := undef) (a' := ?_) Fl3_21 rfl rfl (any_of HT_.out (by kernel_rfl)) (fun _ _ _ h => h) (Or.inr ⟨by rfl, rfl⟩) ?_ ?_; rotate_left; (simp only [Act.put, sI, sZ, sS, i64_w, i32_w]; rfl)
                          refine pure_ (i := 11) (N := some 143) (v := undef) (a' := ?_) Fl3_22 rfl rfl (any_of HT_.out (by kernel_rfl)) (fun _ _ _ h => h) (Or.inr ⟨by rfl, rfl⟩) ?_ ?_; rotate_left; (simp only [Act.put, sI, sZ, sS, i64_w, i32_w]; rfl)
                          refine pure_ (i := 12) (N := some 144) (v := ?_) (a' := ?_) Fl3_23 rfl rfl (any_of HT_.out (by kernel_rfl)) (fun _ _ _ h => h) (Or.inl ⟨by rfl, ?_⟩) ?_ ?_; rotate_left; (intro w'; go_simp; with_reducible rfl); rotate_left; (simp only [Act.put, sI, sZ, sS, i64_w, i32_w]; rfl)
                          refine pure_ (i := 13) (N := some 17) (v := ?_) (a' := ?_) Fl3_24 rfl rfl (any_of HT_.out (by kernel_rfl)) (fun _ _ _ h => h) (Or.inl ⟨by rfl, ?_⟩) ?_ ?_; rotate_left; (intro w'; go_simp; with_reducible rfl); rotate_left; (simp only [Act.put, sI, sZ, sS, i64_w, i32_w]; rfl)
                          refine done_ (done_of HT_.out (by kernel_rfl)) ?_
                          try go_wp2
                          go_roundg k6
                          case measure => have := HK1.out; have := HJ18.out; have := HK3.out; have := HK4.out; have := HJ46.out; have := HK6.out; omega
                          case rel => exact ⟨(true), (wrap64 (x18_6 + 1)), (by first | rfl | (simp; done) | (simp [*]; done)), (by first | rfl | (simp; done) | (simp [*]; done)), H', ⟨by have := HK1.out; have := HJ18.out; have := HK3.out; have := HK4.out; have := HJ46.out; have := HK6.out; omega⟩, ⟨by (with_reducible repeat (first | apply Kd.R_alloc | apply Kd.R_drewN | apply Kd.R_drew)); exact HO_9.out⟩, ⟨by (with_reducible repeat (first | apply Kd.R_alloc | apply Kd.R_drewN | apply Kd.R_drew)); exact HO_11.out⟩, ⟨by repeat (first | (with_reducible first | exact HB.out | apply below_alloc | apply pw_below_drewN | apply below_drew1) | exact HB.out)⟩⟩
                         ·replace c60 := Bool.eq_false_iff.mpr c60
                          subst c60
                          have H1 : (if 0 ≤ x18_6 then (if 0 ≤ x15_4 then (if x15_4 < (x9_1.length : Int) then (RK.l11 k6 a2 (wrap64 (1 + (wrap64 (Int.tmod (IntKind.u64.wrap (a1)) 3)))) x9_1 t162 x15_4 x16_46 ((rdOf ByteArray.empty t162 x18_6).toList == ((rd_T28 x9_1 x15_4).f1).toList) (wrap64 (x18_6 + 1))) else (none)) else (none)) else (none)) = some r := by rw [if_neg (show ¬ (false = true) by decide)] at H; exact H
                          clear H; have H := H1; clear H1
                          by_cases c62 : 0 ≤ x18_6
                          ·rw [if_pos c62] at H
                           have c62b0 : decide (0 ≤ x18_6) = true := decide_eq_true c62
                           clear c62
                           by_cases c63 : 0 ≤ x15_4
                           ·rw [if_pos c63] at H
                            have c63b0 : decide (0 ≤ x15_4) = true := decide_eq_true c63
                            clear c63
                            by_cases c64 : x15_4 < (x9_1.length : Int)
                            ·rw [if_pos c64] at H
                             have c64b0 : decide (x15_4 < (x9_1.length : Int)) = true := decide_eq_true c64
                             clear c64
                             have H' := Aside0.mk H
                             clear H
                             try go_wp2
                             have n0_ := Aside0.mk (Kd.R_drew HO_9.out); have n1_ := Aside0.mk (Kd.R_drew HO_11.out); have n2_ := Aside0.mk (below_drew1 HB.out); clear HO_9 HO_11 HB; have HO_9 := n0_; have HO_11 := n1_; have HB := n2_; clear n0_ n1_ n2_
                             have p173 : 0 ≤ (x18_6 : Int) := of_decide_eq_true (by first | (with_reducible assumption) | assumption)
                             have q173 : x18_6 < (t162.length : Int) := of_decide_eq_true (by first | (with_reducible assumption) | assumption)
                             obtain ⟨ad173, e173, hx173_0⟩ := Kd.at_string (Kd.R_reads' HO_11.out).2.2 x18_6 p173 q173
                             cases e173
                             replace p173 := eq_true p173
                             replace q173 := eq_true q173
                             have p174 : 0 ≤ (x15_4 : Int) := of_decide_eq_true (by first | (with_reducible assumption) | assumption)
                             have q174 : x15_4 < (x9_1.length : Int) := of_decide_eq_true (by first | (with_reducible assumption) | assumption)
                             obtain ⟨ad174, e174, hx174_0, hx174_1, hx174_2, hx174_3⟩ := at_T28 (Kd.R_reads' HO_9.out).2.2 x15_4 p174 q174
                             cases e174
                             replace p174 := eq_true p174
                             replace q174 := eq_true q174
                             refine start_ (n := 14) (S := fun w' => w'.cell? (ad173.add (x18_6).toNat) = some (.string (rdOf ByteArray.empty t162 x18_6)) ∧ w'.cell? (ad174.add ((x15_4).toNat * 4)) = some (.string ((rd_T28 x9_1 x15_4).f0)) ∧ w'.cell? ⟨(ad174.add ((x15_4).toNat * 4)).block, (ad174.add ((x15_4).toNat * 4)).off + 1, none⟩ = some (.string ((rd_T28 x9_1 x15_4).f1)) ∧ w'.cell? ⟨(ad174.add ((x15_4).toNat * 4)).block, (ad174.add ((x15_4).toNat * 4)).off + 2, none⟩ = some (.string ((rd_T28 x9_1 x15_4).f2)) ∧ w'.cell? ⟨(ad174.add ((x15_4).toNat * 4)).block, (ad174.add ((x15_4).toNat * 4)).off + 3, none⟩ = some (.int .i64 ((rd_T28 x9_1 x15_4).f3))) (ds := []) Fl3_10 (by kernel_rfl) rfl rfl ⟨hx173_0, hx174_0, hx174_1, hx174_2, hx174_3⟩ (fun hHeld => ?_); refine with_tabW RK.tab29 RK.bits29 (fun HT_ HW_ => ?_)
                             generalize wr.drew = w65 at HO_9 HO_11 HB hx173_0 hx174_0 hx174_1 hx174_2 hx174_3 hHeld ⊢
                             refine pure_ (i := 0) (N := some 132) (v := ?_) (a' := ?_) Fl3_11 rfl rfl (any_of HT_.out (by kernel_rfl)) (fun _ _ _ h => h) (Or.inl ⟨by rfl, ?_⟩) ?_ ?_; rotate_left; (intro w'; go_simp; with_reducible rfl); rotate_left; (simp only [Act.put, sI, sZ, sS, i64_w, i32_w]; rfl)
                             refine pure_ (i := 1) (N := some 133) (v := ?_) (a' := ?_) Fl3_12 rfl rfl (any_of HT_.out (by kernel_rfl)) (fun _ _ _ h => h) (Or.inl ⟨by rfl, ?_⟩) ?_ ?_; rotate_left; (intro w'; go_simp; with_reducible rfl); rotate_left; (simp only [Act.put, sI, sZ, sS, i64_w, i32_w]; rfl)
                             refine pure_ (i := 2) (N := some 134) (v := ?_) (a' := ?_) Fl3_13 rfl rfl (any_of HT_.out (by kernel_rfl)) (fun _ _ _ h => h) (Or.inl ⟨by rfl, ?_⟩) ?_ ?_; rotate_left; (intro w'; go_simp; with_reducible rfl); rotate_left; (simp only [Act.put, sI, sZ, sS, i64_w, i32_w]; rfl)
                             refine pure_ (i := 3) (N := some 135) (v := ?_) (a' := ?_) Fl3_14 rfl rfl (any_of HT_.out (by kernel_rfl)) (fun _ _ _ h => h) (Or.inl ⟨by rfl, ?_⟩) ?_ ?_; rotate_left; (intro w'; go_simp; with_reducible rfl); rotate_left; (simp only [Act.put, sI, sZ, sS, i64_w, i32_w]; rfl)
                             refine pure_ (i := 4) (N := some 136) (v := ?_) (a' := ?_) Fl3_15 rfl rfl (any_of HT_.out (by kernel_rfl)) (fun _ _ _ h => h) (Or.inl ⟨by rfl, ?_⟩) ?_ ?_; rotate_left; (intro w'; go_simp; with_reducible rfl); rotate_left; (simp only [Act.put, sI, sZ, sS, i64_w, i32_w]; rfl)
                             refine pure_ (i := 6) (N := some 138) (v := ?_) (a' := ?_) Fl3_25 rfl rfl (any_of HT_.out (by kernel_rfl)) (fun _ _ _ h => h) (Or.inl ⟨by rfl, ?_⟩) ?_ ?_; rotate_left; (intro w'; go_simp; with_reducible rfl); rotate_left; (simp only [Act.put, sI, sZ, sS, i64_w, i32_w]; rfl)
                             refine pure_ (i := 7) (N := some 139) (v := ?_) (a' := ?_) Fl3_26 rfl rfl (any_of HT_.out (by kernel_rfl)) (fun _ _ _ h => h) (Or.inl ⟨by rfl, ?_⟩) ?_ ?_; rotate_left; (intro w'; go_simp; with_reducible rfl); rotate_left; (simp only [Act.put, sI, sZ, sS, i64_w, i32_w]; rfl)
                             refine pure_ (i := 8) (N := some 140) (v := ?_) (a' := ?_) Fl3_27 rfl rfl (any_of HT_.out (by kernel_rfl)) (fun _ _ _ h => h) (Or.inl ⟨by rfl, ?_⟩) ?_ ?_; rotate_left; (intro w'; go_simp; with_reducible rfl); rotate_left; (simp only [Act.put, sI, sZ, sS, i64_w, i32_w]; rfl)
                             refine pure_ (i := 9) (N := some 141) (v := ?_) (a' := ?_) Fl3_28 rfl rfl (any_of HT_.out (by kernel_rfl)) (fun _ _ _ h => h) (Or.inl ⟨by rfl, ?_⟩) ?_ ?_; rotate_left; (intro w'; go_simp; with_reducible rfl); rotate_left; (simp only [Act.put, sI, sZ, sS, i64_w, i32_w]; rfl)
                             refine take_ (i := 5) (N := some 137) (v := ?_) (a' := ?_) Fl3_20 rfl rfl (take_ofW HT_.out HW_.out (by kernel_rfl)) (fun _ _ _ h => h) (Or.inl ⟨by rfl, ?_⟩) hHeld ?_ ?_; rotate_left; (rintro w' ⟨s0, s1, s2, s3, s4⟩; go_simp; with_reducible rfl); rotate_left; (simp only [Act.put, sI, sZ, sS, i64_w, i32_w]; rfl)
                             refine take_ (i := 10) (N := some 142) (v := ?_) (a' := ?_) Fl3_21 rfl rfl (take_ofW HT_.out HW_.out (by kernel_rfl)) (fun _ _ _ h => h) (Or.inl ⟨by rfl, ?_⟩) hHeld ?_ ?_; rotate_left; (rintro w' ⟨s0, s1, s2, s3, s4⟩; go_simp; with_reducible rfl); rotate_left; (simp only [Act.put, sI, sZ, sS, i64_w, i32_w]; rfl)
                             refine pure_ (i := 11) (N := some 143) (v := ?_) (a' := ?_) Fl3_22 rfl rfl (any_of HT_.out (by kernel_rfl)) (fun _ _ _ h => h) (Or.inl ⟨by rfl, ?_⟩) ?_ ?_; rotate_left; (intro w'; go_simp; with_reducible rfl); rotate_left; (simp only [Act.put, sI, sZ, sS, i64_w, i32_w]; rfl)
                             refine pure_ (i := 12) (N := some 144) (v := ?_) (a' := ?_) Fl3_23 rfl rfl (any_of HT_.out (by kernel_rfl)) (fun _ _ _ h => h) (Or.inl ⟨by rfl, ?_⟩) ?_ ?_; rotate_left; (intro w'; go_simp; with_reducible rfl); rotate_left; (simp only [Act.put, sI, sZ, sS, i64_w, i32_w]; rfl)
                             refine pure_ (i := 13) (N := some 17) (v := ?_) (a' := ?_) Fl3_24 rfl rfl (any_of HT_.out (by kernel_rfl)) (fun _ _ _ h => h) (Or.inl ⟨by rfl, ?_⟩) ?_ ?_; rotate_left; (intro w'; go_simp; with_reducible rfl); rotate_left; (simp only [Act.put, sI, sZ, sS, i64_w, i32_w]; rfl)
                             refine done_ (done_of HT_.out (by kernel_rfl)) ?_
                             try go_wp2
                             go_roundg k6
                             case measure => have := HK1.out; have := HJ18.out; have := HK3.out; have := HK4.out; have := HJ46.out; have := HK6.out; omega
                             case rel => exact ⟨(((rdOf ByteArray.empty t162 x18_6).toList == ((rd_T28 x9_1 x15_4).f1).toList)), (wrap64 (x18_6 + 1)), (by first | rfl | (simp; done) | (simp [*]; done)), (by first | rfl | (simp; done) | (simp [*]; done)), H', ⟨by have := HK1.out; have := HJ18.out; have := HK3.out; have := HK4.out; have := HJ46.out; have := HK6.out; omega⟩, ⟨by (with_reducible repeat (first | apply Kd.R_alloc | apply Kd.R_drewN | apply Kd.R_drew)); exact HO_9.out⟩, ⟨by (with_reducible repeat (first | apply Kd.R_alloc | apply Kd.R_drewN | apply Kd.R_drew)); exact HO_11.out⟩, ⟨by repeat (first | (with_reducible first | exact HB.out | apply below_alloc | apply pw_below_drewN | apply below_drew1) | exact HB.out)⟩⟩
                            ·rw [if_neg c64] at H
                             exact absurd H (by simp)
                           ·rw [if_neg c63] at H
                            exact absurd H (by simp)
                          ·rw [if_neg c62] at H
                           exact absurd H (by simp)
                        ·rw [if_neg c59] at H
                         have c59b0 : decide (x18_6 < (t162.length : Int)) = false := decide_eq_false c59
                         clear c59; have HC66 := Aside0.mk H; clear H
                         go_upto_region 30 with (fail)
                         go_cut [149] (fun v149 wc => ∃ (kq : Nat) (x149_65 : Bool), v149 = .bool x149_65 ∧ Aside0 (RK.j7 kq a2 (wrap64 (1 + (wrap64 (Int.tmod (IntKind.u64.wrap (a1)) 3)))) x9_1 t162 x15_4 x149_65 = some r) ∧ Aside0 (kq ≤ k6) ∧ Aside0 (Kd.R k28 28 wc w.heap.size (fun _ => True) (.slice Ao20 x9_1.length co20) x9_1) ∧ Aside0 (Kd.R Kd.string 9 wc w.heap.size (fun _ => True) (.slice Ao45 t162.length co45) t162) ∧ Aside0 (Below w.heap.size w wc))
                         case first =>
                          have H := HC66.out; clear HC66
                          by_cases c67 : x16_46 = true
                          ·subst c67
                           have H1 : (RK.j7 k6 a2 (wrap64 (1 + (wrap64 (Int.tmod (IntKind.u64.wrap (a1)) 3)))) x9_1 t162 x15_4 (!x17_6)) = some r := by rw [if_pos rfl] at H; exact H
                           clear H; have H := H1; clear H1
                           have H' := Aside0.mk H
                           clear H
                           go_wp2
                           go_meet
                           case rel => exact ⟨_, (!x17_6), (by first | rfl | (simp; done) | (simp [*]; done)), H', ⟨by have := HK1.out; have := HJ18.out; have := HK3.out; have := HK4.out; have := HJ46.out; have := HK6.out; first | omega | exact Nat.le_refl _⟩, ⟨by (with_reducible repeat (first | apply Kd.R_alloc | apply Kd.R_drewN | apply Kd.R_drew)); exact HO_9.out⟩, ⟨by (with_reducible repeat (first | apply Kd.R_alloc | apply Kd.R_drewN | apply Kd.R_drew)); exact HO_11.out⟩, ⟨by repeat (first | (with_reducible first | exact HB.out | apply below_alloc | apply pw_below_drewN | apply below_drew1) | exact HB.out)⟩⟩
                          ·replace c67 := Bool.eq_false_iff.mpr c67
                           subst c67
                           have H1 : (RK.j7 k6 a2 (wrap64 (1 + (wrap64 (Int.tmod (IntKind.u64.wrap (a1)) 3)))) x9_1 t162 x15_4 false) = some r := by rw [if_neg (show ¬ (false = true) by decide)] at H; exact H
                           clear H; have H := H1; clear H1
                           have H' := Aside0.mk H
                           clear H
                           go_wp2
                           go_meet
                           case rel => exact ⟨_, (false), (by first | rfl | (simp; done) | (simp [*]; done)), H', ⟨by have := HK1.out; have := HJ18.out; have := HK3.out; have := HK4.out; have := HJ46.out; have := HK6.out; first | omega | exact Nat.le_refl _⟩, ⟨by (with_reducible repeat (first | apply Kd.R_alloc | apply Kd.R_drewN | apply Kd.R_drew)); exact HO_9.out⟩, ⟨by (with_reducible repeat (first | apply Kd.R_alloc | apply Kd.R_drewN | apply Kd.R_drew)); exact HO_11.out⟩, ⟨by repeat (first | (with_reducible first | exact HB.out | apply below_alloc | apply pw_below_drewN | apply below_drew1) | exact HB.out)⟩⟩
                         case rest =>
                          clear HC66
                          try clear c1
                          try clear p1
                          try clear q1
                          try clear hx1
                          try clear c2
                          try clear p2
                          try clear c3
                          try clear c4
                          try clear c5
                          try clear c6
                          try clear p6
                          try clear c7
                          try clear c9
                          try clear c10
                          try clear c10b0
                          try clear c11
                          try clear c11b0
                          try clear c12
                          try clear p12
                          try clear q12
                          try clear hx12
                          try clear hf12
                          try clear c13
                          try clear p13
                          try clear q13
                          try clear hx13
                          try clear hf13
                          try clear c15
                          try clear hx15
                          try clear hf15
                          try clear p16
                          try clear q16
                          try clear hx16
                          try clear c17
                          try clear p17
                          try clear q17
                          try clear hx17
                          try clear hf17
                          try clear c22
                          try clear c23
                          try clear c23b0
                          try clear c23b1
                          try clear c29
                          try clear c33
                          try clear c33b0
                          try clear c33b1
                          try clear c36
                          try clear c36b0
                          try clear c38
                          try clear c38b0
                          try clear c39
                          try clear c39b0
                          try clear c40
                          try clear c40b0
                          try clear c41
                          try clear c41b0
                          try clear c42
                          try clear c42b0
                          try clear c43
                          try clear c43b0
                          try clear c43b1
                          try clear c46
                          try clear c46b0
                          try clear c48
                          try clear c48b0
                          try clear c48b1
                          try clear c49
                          try clear c49b0
                          try clear c49b1
                          try clear c50
                          try clear c50b0
                          try clear c51
                          try clear c51b0
                          try clear c51b1
                          try clear c52
                          try clear c52b0
                          try clear c52b1
                          try clear c55
                          try clear c55b0
                          try clear c55b1
                          try clear c56
                          try clear c56b0
                          try clear c59
                          try clear c59b0
                          try clear c60
                          try clear c62
                          try clear c62b0
                          try clear c63
                          try clear c63b0
                          try clear c64
                          try clear c64b0
                          try clear p64
                          try clear c67
                          try clear hx12_0
                          try clear hx12_1
                          try clear hx12_2
                          try clear hx12_3
                          try clear hx13_0
                          try clear hx13_1
                          try clear hx13_2
                          try clear hx13_3
                          try clear hx15_0
                          try clear hx166_0
                          try clear hx167_0
                          try clear hx168_0
                          try clear hx168_1
                          try clear hx168_2
                          try clear hx168_3
                          try clear hx169_0
                          try clear hx169_1
                          try clear hx169_2
                          try clear hx169_3
                          try clear hx171_0
                          try clear hx171_1
                          try clear hx171_2
                          try clear hx171_3
                          try clear hx173_0
                          try clear hx174_0
                          try clear hx174_1
                          try clear hx174_2
                          try clear hx174_3
                          try clear hx17_3
                          try clear p1
                          try clear p12
                          try clear p13
                          try clear p16
                          try clear p166
                          try clear p167
                          try clear p168
                          try clear p169
                          try clear p17
                          try clear p171
                          try clear p173
                          try clear p174
                          try clear p2
                          try clear p6
                          try clear q1
                          try clear q12
                          try clear q13
                          try clear q16
                          try clear q166
                          try clear q167
                          try clear q168
                          try clear q169
                          try clear q17
                          try clear q171
                          try clear q173
                          try clear q174
                          obtain ⟨kq, x149_65, rfl, HA, HJ65, HO_9, HO_11, HB⟩ := hcut
                          cases kq with
                          | zero => exact absurd HA.out (by simp [RK.j7])
                          | succ kj65 =>
                           have H := HA.out; clear HA
                           simp only [RK.j7] at H
                           by_cases c68 : x149_65 = true
                           ·subst c68
                            have H1 : (some false) = some r := by rw [if_pos rfl] at H; exact H
                            clear H; have H := H1; clear H1
                            rw [HRT.out] at H
                            exact absurd H (by (repeat' split) <;> simp [Option.bind_eq_some_iff])
                           ·replace c68 := Bool.eq_false_iff.mpr c68
                            subst c68
                            have H1 : (RK.l10 kj65 a2 (wrap64 (1 + (wrap64 (Int.tmod (IntKind.u64.wrap (a1)) 3)))) x9_1 t162 (wrap64 (x15_4 + 1))) = some r := by rw [if_neg (show ¬ (false = true) by decide)] at H; exact H
                            clear H; have H := H1; clear H1
                            have H' := Aside0.mk H
                            clear H
                            go_wp2
                            go_roundg kj65
                            case measure => have := HK1.out; have := HJ18.out; have := HK3.out; have := HK4.out; have := HJ46.out; have := HK6.out; have := HJ65.out; omega
                            case rel => exact ⟨(wrap64 (x15_4 + 1)), (by first | rfl | (simp; done) | (simp [*]; done)), H', ⟨by have := HK1.out; have := HJ18.out; have := HK3.out; have := HK4.out; have := HJ46.out; have := HK6.out; have := HJ65.out; omega⟩, ⟨by (with_reducible repeat (first | apply Kd.R_alloc | apply Kd.R_drewN | apply Kd.R_drew)); exact HO_9.out⟩, ⟨by (with_reducible repeat (first | apply Kd.R_alloc | apply Kd.R_drewN | apply Kd.R_drew)); exact HO_11.out⟩, ⟨by repeat (first | (with_reducible first | exact HB.out | apply below_alloc | apply pw_below_drewN | apply below_drew1) | exact HB.out)⟩⟩
                  ·rw [if_neg c46] at H
                   have c46b0 : decide (x15_4 < (x9_1.length : Int)) = false := decide_eq_false c46
                   clear c46
                   have H' := Aside0.mk H
                   clear H
                   go_wp2
                   go_loopg [19] k4 (fun kq v19 w' => ∃ (x19_5 : Int), v19 = .int .i64 x19_5 ∧ Aside0 (RK.l12 kq a2 (wrap64 (1 + (wrap64 (Int.tmod (IntKind.u64.wrap (a1)) 3)))) x9_1 t162 x19_5 = some r) ∧ Aside0 (kq ≤ k4) ∧ Aside0 (Kd.R k28 28 w' w.heap.size (fun _ => True) (.slice Ao20 x9_1.length co20) x9_1) ∧ Aside0 (Kd.R Kd.string 9 w' w.heap.size (fun _ => True) (.slice Ao45 t162.length co45) t162) ∧ Aside0 (Below w.heap.size w w'))
                   case atStart => exact ⟨(0), (by first | rfl | (simp; done) | (simp [*]; done)), H', ⟨Nat.le_refl _⟩, ⟨by (with_reducible repeat (first | apply Kd.R_alloc | apply Kd.R_drewN | apply Kd.R_drew)); exact HO_9.out⟩, ⟨by (with_reducible repeat (first | apply Kd.R_alloc | apply Kd.R_drewN | apply Kd.R_drew)); exact HO_11.out⟩, ⟨by repeat (first | (with_reducible first | exact HB.out | apply below_alloc | apply pw_below_drewN | apply below_drew1) | exact HB.out)⟩⟩
                   case round =>
                    as_aux_lemma =>
                     clear H'
                     try clear c1
                     try clear p1
                     try clear q1
                     try clear hx1
                     try clear c2
                     try clear p2
                     try clear c3
                     try clear c4
                     try clear c5
                     try clear c6
                     try clear p6
                     try clear c7
                     try clear c9
                     try clear c10
                     try clear c10b0
                     try clear c11
                     try clear c11b0
                     try clear c12
                     try clear p12
                     try clear q12
                     try clear hx12
                     try clear hf12
                     try clear c13
                     try clear p13
                     try clear q13
                     try clear hx13
                     try clear hf13
                     try clear c15
                     try clear hx15
                     try clear hf15
                     try clear p16
                     try clear q16
                     try clear hx16
                     try clear c17
                     try clear p17
                     try clear q17
                     try clear hx17
                     try clear hf17
                     try clear c22
                     try clear c23
                     try clear c23b0
                     try clear c23b1
                     try clear c29
                     try clear c33
                     try clear c33b0
                     try clear c33b1
                     try clear c36
                     try clear c36b0
                     try clear c38
                     try clear c38b0
                     try clear c39
                     try clear c39b0
                     try clear c40
                     try clear c40b0
                     try clear c41
                     try clear c41b0
                     try clear c42
                     try clear c42b0
                     try clear c43
                     try clear c43b0
                     try clear c43b1
                     try clear c46
                     try clear c46b0
                     try clear c48
                     try clear c48b0
                     try clear c48b1
                     try clear c49
                     try clear c49b0
                     try clear c49b1
                     try clear c50
                     try clear c50b0
                     try clear c51
                     try clear c51b0
                     try clear c51b1
                     try clear c52
                     try clear c52b0
                     try clear c52b1
                     try clear c55
                     try clear c55b0
                     try clear c55b1
                     try clear c56
                     try clear c56b0
                     try clear c59
                     try clear c59b0
                     try clear c60
                     try clear c62
                     try clear c62b0
                     try clear c63
                     try clear c63b0
                     try clear c64
                     try clear c64b0
                     try clear p64
                     try clear c67
                     try clear c68
                     try clear hx12_0
                     try clear hx12_1
                     try clear hx12_2
                     try clear hx12_3
                     try clear hx13_0
                     try clear hx13_1
                     try clear hx13_2
                     try clear hx13_3
                     try clear hx15_0
                     try clear hx166_0
                     try clear hx167_0
                     try clear hx168_0
                     try clear hx168_1
                     try clear hx168_2
                     try clear hx168_3
                     try clear hx169_0
                     try clear hx169_1
                     try clear hx169_2
                     try clear hx169_3
                     try clear hx171_0
                     try clear hx171_1
                     try clear hx171_2
                     try clear hx171_3
                     try clear hx173_0
                     try clear hx174_0
                     try clear hx174_1
                     try clear hx174_2
                     try clear hx174_3
                     try clear hx17_3
                     try clear p1
                     try clear p12
                     try clear p13
                     try clear p16
                     try clear p166
                     try clear p167
                     try clear p168
                     try clear p169
                     try clear p17
                     try clear p171
                     try clear p173
                     try clear p174
                     try clear p2
                     try clear p6
                     try clear p64
                     try clear q1
                     try clear q12
                     try clear q13
                     try clear q16
                     try clear q166
                     try clear q167
                     try clear q168
                     try clear q169
                     try clear q17
                     try clear q171
                     try clear q173
                     try clear q174
                     obtain ⟨x19_5, rfl, HA, HK5, HO_9, HO_11, HB⟩ := hrel
                     cases gk with
                     | zero => exact absurd HA.out (by simp [RK.l12])
                     | succ k5 =>
                      have H := HA.out; clear HA
                      simp only [RK.l12] at H
                      by_cases c69 : x19_5 < (t162.length : Int)
                      ·rw [if_pos c69] at H
                       have c69b0 : decide (x19_5 < (t162.length : Int)) = true := decide_eq_true c69
                       clear c69
                       have H' := Aside0.mk H
                       clear H
                       go_wp2
                       go_loopg [20, 21] k5 (fun kq v20 v21 w' => ∃ (x20_6 : Bool) (x21_6 : Int), v20 = .bool x20_6 ∧ v21 = .int .i64 x21_6 ∧ Aside0 (RK.l13 kq a2 (wrap64 (1 + (wrap64 (Int.tmod (IntKind.u64.wrap (a1)) 3)))) x9_1 t162 x19_5 x20_6 x21_6 = some r) ∧ Aside0 (kq ≤ k5) ∧ Aside0 (Kd.R k28 28 w' w.heap.size (fun _ => True) (.slice Ao20 x9_1.length co20) x9_1) ∧ Aside0 (Kd.R Kd.string 9 w' w.heap.size (fun _ => True) (.slice Ao45 t162.length co45) t162) ∧ Aside0 (Below w.heap.size w w'))
                       case atStart => exact ⟨(false), (0), (by first | rfl | (simp; done) | (simp [*]; done)), (by first | rfl | (simp; done) | (simp [*]; done)), H', ⟨Nat.le_refl _⟩, ⟨by (with_reducible repeat (first | apply Kd.R_alloc | apply Kd.R_drewN | apply Kd.R_drew)); exact HO_9.out⟩, ⟨by (with_reducible repeat (first | apply Kd.R_alloc | apply Kd.R_drewN | apply Kd.R_drew)); exact HO_11.out⟩, ⟨by repeat (first | (with_reducible first | exact HB.out | apply below_alloc | apply pw_below_drewN | apply below_drew1) | exact HB.out)⟩⟩
                       case round =>
                        as_aux_lemma =>
                         clear H'
                         try clear c1
                         try clear p1
                         try clear q1
                         try clear hx1
                         try clear c2
                         try clear p2
                         try clear c3
                         try clear c4
                         try clear c5
                         try clear c6
                         try clear p6
                         try clear c7
                         try clear c9
                         try clear c10
                         try clear c10b0
                         try clear c11
                         try clear c11b0
                         try clear c12
                         try clear p12
                         try clear q12
                         try clear hx12
                         try clear hf12
                         try clear c13
                         try clear p13
                         try clear q13
                         try clear hx13
                         try clear hf13
                         try clear c15
                         try clear hx15
                         try clear hf15
                         try clear p16
                         try clear q16
                         try clear hx16
                         try clear c17
                         try clear p17
                         try clear q17
                         try clear hx17
                         try clear hf17
                         try clear c22
                         try clear c23
                         try clear c23b0
                         try clear c23b1
                         try clear c29
                         try clear c33
                         try clear c33b0
                         try clear c33b1
                         try clear c36
                         try clear c36b0
                         try clear c38
                         try clear c38b0
                         try clear c39
                         try clear c39b0
                         try clear c40
                         try clear c40b0
                         try clear c41
                         try clear c41b0
                         try clear c42
                         try clear c42b0
                         try clear c43
                         try clear c43b0
                         try clear c43b1
                         try clear c46
                         try clear c46b0
                         try clear c48
                         try clear c48b0
                         try clear c48b1
                         try clear c49
                         try clear c49b0
                         try clear c49b1
                         try clear c50
                         try clear c50b0
                         try clear c51
                         try clear c51b0
                         try clear c51b1
                         try clear c52
                         try clear c52b0
                         try clear c52b1
                         try clear c55
                         try clear c55b0
                         try clear c55b1
                         try clear c56
                         try clear c56b0
                         try clear c59
                         try clear c59b0
                         try clear c60
                         try clear c62
                         try clear c62b0
                         try clear c63
                         try clear c63b0
                         try clear c64
                         try clear c64b0
                         try clear p64
                         try clear c67
                         try clear c68
                         try clear c69
                         try clear c69b0
                         try clear hx12_0
                         try clear hx12_1
                         try clear hx12_2
                         try clear hx12_3
                         try clear hx13_0
                         try clear hx13_1
                         try clear hx13_2
                         try clear hx13_3
                         try clear hx15_0
                         try clear hx166_0
                         try clear hx167_0
                         try clear hx168_0
                         try clear hx168_1
                         try clear hx168_2
                         try clear hx168_3
                         try clear hx169_0
                         try clear hx169_1
                         try clear hx169_2
                         try clear hx169_3
                         try clear hx171_0
                         try clear hx171_1
                         try clear hx171_2
                         try clear hx171_3
                         try clear hx173_0
                         try clear hx174_0
                         try clear hx174_1
                         try clear hx174_2
                         try clear hx174_3
                         try clear hx17_3
                         try clear p1
                         try clear p12
                         try clear p13
                         try clear p16
                         try clear p166
                         try clear p167
                         try clear p168
                         try clear p169
                         try clear p17
                         try clear p171
                         try clear p173
                         try clear p174
                         try clear p2
                         try clear p6
                         try clear p64
                         try clear q1
                         try clear q12
                         try clear q13
                         try clear q16
                         try clear q166
                         try clear q167
                         try clear q168
                         try clear q169
                         try clear q17
                         try clear q171
                         try clear q173
                         try clear q174
                         obtain ⟨x20_6, x21_6, rfl, rfl, HA, HK6, HO_9, HO_11, HB⟩ := hrel
                         cases gk with
                         | zero => exact absurd HA.out (by simp [RK.l13])
                         | succ k6 =>
                          have H := HA.out; clear HA
                          simp only [RK.l13] at H
                          by_cases c70 : x21_6 < (x9_1.length : Int)
                          ·rw [if_pos c70] at H
                           have c70b0 : decide (x21_6 < (x9_1.length : Int)) = true := decide_eq_true c70
                           clear c70
                           by_cases c71 : x20_6 = true
                           ·subst c71
                            have H1 : (RK.l13 k6 a2 (wrap64 (1 + (wrap64 (Int.tmod (IntKind.u64.wrap (a1)) 3)))) x9_1 t162 x19_5 true (wrap64 (x21_6 + 1))) = some r := by rw [if_pos rfl] at H; exact H
                            clear H; have H := H1; clear H1
                            have H' := Aside0.mk H
                            clear H
                            try go_wp2
                            have n0_ := Aside0.mk (Kd.R_drew HO_9.out); have n1_ := Aside0.mk (Kd.R_drew HO_11.out); have n2_ := Aside0.mk (below_drew1 HB.out); clear HO_9 HO_11 HB; have HO_9 := n0_; have HO_11 := n1_; have HB := n2_; clear n0_ n1_ n2_
                            refine start_ (n := 44) (S := fun w' => True) (ds := []) Fl3_29 (by kernel_rfl) rfl rfl trivial (fun hHeld => ?_); refine with_tabW RK.tab39 RK.bits39 (fun HT_ HW_ => ?_)
                            generalize wr.drew = w72 at HO_9 HO_11 HB hHeld ⊢
                            refine pure_ (i := 0) (N := some 162) (v := ?_) (a' := ?_) Fl3_30 rfl rfl (any_of HT_.out (by kernel_rfl)) (fun _ _ _ h => h) (Or.inl ⟨by rfl, ?_⟩) ?_ ?_; rotate_left; (intro w'; go_simp; with_reducible rfl); rotate_left; (simp only [Act.put, sI, sZ, sS, i64_w, i32_w]; rfl)
                            refine pure_ (i := 1) (N := some 163) (v := ?_) (a' := ?_) Fl3_31 rfl rfl (any_of HT_.out (by kernel_rfl)) (fun _ _ _ h => h) (Or.inl ⟨by rfl, ?_⟩) ?_ ?_; rotate_left; (intro w'; go_simp; with_reducible rfl); rotate_left; (simp only [Act.put, sI, sZ, sS, i64_w, i32_w]; rfl)
                            refine pure_ (i := 2) (N := some 164) (v := undef) (a' := ?_) Fl3_32 rfl rfl (any_of HT_.out (by kernel_rfl)) (fun _ _ _ h => h) (Or.inr ⟨by rfl, rfl⟩) ?_ ?_; rotate_left; (simp only [Act.put, sI, sZ, sS, i64_w, i32_w]; rfl)
                            refine pure_ (i := 3) (N := some 165) (v := undef) (a' := ?_) Fl3_33 rfl rfl (any_of HT_.out (by kernel_rfl)) (fun _ _ _ h => h) (Or.inr ⟨by rfl, rfl⟩) ?_ ?_; rotate_left; (simp only [Act.put, sI, sZ, sS, i64_w, i32_w]; rfl)
                            refine pure_ (i := 4) (N := some 166) (v := undef) (a' := ?_) Fl3_34 rfl rfl (any_of HT_.out (by kernel_rfl)) (fun _ _ _ h => h) (Or.inr ⟨by rfl, rfl⟩) ?_ ?_; rotate_left; (simp only [Act.put, sI, sZ, sS, i64_w, i32_w]; rfl)
                            refine pure_ (i := 5) (N := some 167) (v := undef) (a' := ?_) Fl3_35 rfl rfl (any_of HT_.out (by kernel_rfl)) (fun _ _ _ h => h) (Or.inr ⟨by rfl, rfl⟩) ?_ ?_; rotate_left; (simp only [Act.put, sI, sZ, sS, i64_w, i32_w]; rfl)
                            refine pure_ (i := 6) (N := some 168) (v := undef) (a' := ?_) Fl3_36 rfl rfl (any_of HT_.out (by kernel_rfl)) (fun _ _ _ h => h) (Or.inr ⟨by rfl, rfl⟩) ?_ ?_; rotate_left; (simp only [Act.put, sI, sZ, sS, i64_w, i32_w]; rfl)
                            refine pure_ (i := 7) (N := some 169) (v := undef) (a' := ?_) Fl3_37 rfl rfl (any_of HT_.out (by kernel_rfl)) (fun _ _ _ h => h) (Or.inr ⟨by rfl, rfl⟩) ?_ ?_; rotate_left; (simp only [Act.put, sI, sZ, sS, i64_w, i32_w]; rfl)
                            refine pure_ (i := 8) (N := some 170) (v := undef) (a' := ?_) Fl3_38 rfl rfl (any_of HT_.out (by kernel_rfl)) (fun _ _ _ h => h) (Or.inr ⟨by rfl, rfl⟩) ?_ ?_; rotate_left; (simp only [Act.put, sI, sZ, sS, i64_w, i32_w]; rfl)
                            refine pure_ (i := 9) (N := some 171) (v := undef) (a' := ?_) Fl3_39 rfl rfl (any_of HT_.out (by kernel_rfl)) (fun _ _ _ h => h) (Or.inr ⟨by rfl, rfl⟩) ?_ ?_; rotate_left; (simp only [Act.put, sI, sZ, sS, i64_w, i32_w]; rfl)
                            refine pure_ (i := 10) (N := some 172) (v := undef) (a' := ?_) Fl3_40 rfl rfl (any_of HT_.out (by kernel_rfl)) (fun _ _ _ h => h) (Or.inr ⟨by rfl, rfl⟩) ?_ ?_; rotate_left; (simp only [Act.put, sI, sZ, sS, i64_w, i32_w]; rfl)
                            refine pure_ (i := 11) (N := some 173) (v := undef) (a' := ?_) Fl3_41 rfl rfl (any_of HT_.out (by kernel_rfl)) (fun _ _ _ h => h) (Or.inr ⟨by rfl, rfl⟩) ?_ ?_; rotate_left; (simp only [Act.put, sI, sZ, sS, i64_w, i32_w]; rfl)
                            refine pure_ (i := 12) (N := some 174) (v := undef) (a' := ?_) Fl3_42 rfl rfl (any_of HT_.out (by kernel_rfl)) (fun _ _ _ h => h) (Or.inr ⟨by rfl, rfl⟩) ?_ ?_; rotate_left; (simp only [Act.put, sI, sZ, sS, i64_w, i32_w]; rfl)
                            refine pure_ (i := 13) (N := some 175) (v := undef) (a' := ?_) Fl3_43 rfl rfl (any_of HT_.out (by kernel_rfl)) (fun _ _ _ h => h) (Or.inr ⟨by rfl, rfl⟩) ?_ ?_; rotate_left; (simp only [Act.put, sI, sZ, sS, i64_w, i32_w]; rfl)
                            refine pure_ (i := 14) (N := some 176) (v := undef) (a' := ?_) Fl3_44 rfl rfl (any_of HT_.out (by kernel_rfl)) (fun _ _ _ h => h) (Or.inr ⟨by rfl, rfl⟩) ?_ ?_; rotate_left; (simp only [Act.put, sI, sZ, sS, i64_w, i32_w]; rfl)
                            refine pure_ (i := 15) (N := some 177) (v := undef) (a' := ?_) Fl3_45 rfl rfl (any_of HT_.out (by kernel_rfl)) (fun _ _ _ h => h) (Or.inr ⟨by rfl, rfl⟩) ?_ ?_; rotate_left; (simp only [Act.put, sI, sZ, sS, i64_w, i32_w]; rfl)
                            refine pure_ (i := 16) (N := some 178) (v := undef) (a' := ?_) Fl3_46 rfl rfl (any_of HT_.out (by kernel_rfl)) (fun _ _ _ h => h) (Or.inr ⟨by rfl, rfl⟩) ?_ ?_; rotate_left; (simp only [Act.put, sI, sZ, sS, i64_w, i32_w]; rfl)
                            refine pure_ (i := 17) (N := some 179) (v := undef) (a' := ?_) Fl3_47 rfl rfl (any_of HT_.out (by kernel_rfl)) (fun _ _ _ h => h) (Or.inr ⟨by rfl, rfl⟩) ?_ ?_; rotate_left; (simp only [Act.put, sI, sZ, sS, i64_w, i32_w]; rfl)
                            refine pure_ (i := 18) (N := some 180) (v := undef) (a' := ?_) Fl3_48 rfl rfl (any_of HT_.out (by kernel_rfl)) (fun _ _ _ h => h) (Or.inr ⟨by rfl, rfl⟩) ?_ ?_; rotate_left; (simp only [Act.put, sI, sZ, sS, i64_w, i32_w]; rfl)
                            refine pure_ (i := 19) (N := some 181) (v := undef) (a' := ?_) Fl3_49 rfl rfl (any_of HT_.out (by kernel_rfl)) (fun _ _ _ h => h) (Or.inr ⟨by rfl, rfl⟩) ?_ ?_; rotate_left; (simp only [Act.put, sI, sZ, sS, i64_w, i32_w]; rfl)
                            refine pure_ (i := 20) (N := some 182) (v := undef) (a' := ?_) Fl3_50 rfl rfl (any_of HT_.out (by kernel_rfl)) (fun _ _ _ h => h) (Or.inr ⟨by rfl, rfl⟩) ?_ ?_; rotate_left; (simp only [Act.put, sI, sZ, sS, i64_w, i32_w]; rfl)
                            refine pure_ (i := 21) (N := some 183) (v := undef) (a' := ?_) Fl3_51 rfl rfl (any_of HT_.out (by kernel_rfl)) (fun _ _ _ h => h) (Or.inr ⟨by rfl, rfl⟩) ?_ ?_; rotate_left; (simp only [Act.put, sI, sZ, sS, i64_w, i32_w]; rfl)
                            refine pure_ (i := 22) (N := some 184) (v := undef) (a' := ?_) Fl3_52 rfl rfl (any_of HT_.out (by kernel_rfl)) (fun _ _ _ h => h) (Or.inr ⟨by rfl, rfl⟩) ?_ ?_; rotate_left; (simp only [Act.put, sI, sZ, sS, i64_w, i32_w]; rfl)
                            refine pure_ (i := 23) (N := some 185) (v := undef) (a' := ?_) Fl3_53 rfl rfl (any_of HT_.out (by kernel_rfl)) (fun _ _ _ h => h) (Or.inr ⟨by rfl, rfl⟩) ?_ ?_; rotate_left; (simp only [Act.put, sI, sZ, sS, i64_w, i32_w]; rfl)
                            refine pure_ (i := 24) (N := some 186) (v := undef) (a' := ?_) Fl3_54 rfl rfl (any_of HT_.out (by kernel_rfl)) (fun _ _ _ h => h) (Or.inr ⟨by rfl, rfl⟩) ?_ ?_; rotate_left; (simp only [Act.put, sI, sZ, sS, i64_w, i32_w]; rfl)
                            refine pure_ (i := 25) (N := some 187) (v := undef) (a' := ?_) Fl3_55 rfl rfl (any_of HT_.out (by kernel_rfl)) (fun _ _ _ h => h) (Or.inr ⟨by rfl, rfl⟩) ?_ ?_; rotate_left; (simp only [Act.put, sI, sZ, sS, i64_w, i32_w]; rfl)
                            refine pure_ (i := 26) (N := some 188) (v := undef) (a' := ?_) Fl3_56 rfl rfl (any_of HT_.out (by kernel_rfl)) (fun _ _ _ h => h) (Or.inr ⟨by rfl, rfl⟩) ?_ ?_; rotate_left; (simp only [Act.put, sI, sZ, sS, i64_w, i32_w]; rfl)
                            refine pure_ (i := 27) (N := some 189) (v := undef) (a' := ?_) Fl3_57 rfl rfl (any_of HT_.out (by kernel_rfl)) (fun _ _ _ h => h) (Or.inr ⟨by rfl, rfl⟩) ?_ ?_; rotate_left; (simp only [Act.put, sI, sZ, sS, i64_w, i32_w]; rfl)
                            refine pure_ (i := 28) (N := some 190) (v := undef) (a' := ?_) Fl3_58 rfl rfl (any_of HT_.out (by kernel_rfl)) (fun _ _ _ h => h) (Or.inr ⟨by rfl, rfl⟩) ?_ ?_; rotate_left; (simp only [Act.put, sI, sZ, sS, i64_w, i32_w]; rfl)
                            refine pure_ (i := 29) (N := some 191) (v := undef) (a' := ?_) Fl3_59 rfl rfl (any_of HT_.out (by kernel_rfl)) (fun _ _ _ h => h) (Or.inr ⟨by rfl, rfl⟩) ?_ ?_; rotate_left; (simp only [Act.put, sI, sZ, sS, i64_w, i32_w]; rfl)
                            refine pure_ (i := 30) (N := some 192) (v := undef) (a' := ?_) Fl3_60 rfl rfl (any_of HT_.out (by kernel_rfl)) (fun _ _ _ h => h) (Or.inr ⟨by rfl, rfl⟩) ?_ ?_; rotate_left; (simp only [Act.put, sI, sZ, sS, i64_w, i32_w]; rfl)
                            refine pure_ (i := 31) (N := some 193) (v := undef) (a' := ?_) Fl3_61 rfl rfl (any_of HT_.out (by kernel_rfl)) (fun _ _ _ h => h) (Or.inr ⟨by rfl, rfl⟩) ?_ ?_; rotate_left; (simp only [Act.put, sI, sZ, sS, i64_w, i32_w]; rfl)
                            refine pure_ (i := 32) (N := some 194) (v := undef) (a' := ?_) Fl3_62 rfl rfl (any_of HT_.out (by kernel_rfl)) (fun _ _ _ h => h) (Or.inr ⟨by rfl, rfl⟩) ?_ ?_; rotate_left; (simp only [Act.put, sI, sZ, sS, i64_w, i32_w]; rfl)
                            refine pure_ (i := 33) (N := some 195) (v := undef) (a' := ?_) Fl3_63 rfl rfl (any_of HT_.out (by kernel_rfl)) (fun _ _ _ h => h) (Or.inr ⟨by rfl, rfl⟩) ?_ ?_; rotate_left; (simp only [Act.put, sI, sZ, sS, i64_w, i32_w]; rfl)
                            refine pure_ (i := 34) (N := some 196) (v := undef) (a' := ?_) Fl3_64 rfl rfl (any_of HT_.out (by kernel_rfl)) (fun _ _ _ h => h) (Or.inr ⟨by rfl, rfl⟩) ?_ ?_; rotate_left; (simp only [Act.put, sI, sZ, sS, i64_w, i32_w]; rfl)
                            refine pure_ (i := 35) (N := some 197) (v := undef) (a' := ?_) Fl3_65 rfl rfl (any_of HT_.out (by kernel_rfl)) (fun _ _ _ h => h) (Or.inr ⟨by rfl, rfl⟩) ?_ ?_; rotate_left; (simp only [Act.put, sI, sZ, sS, i64_w, i32_w]; rfl)
                            refine pure_ (i := 36) (N := some 198) (v := undef) (a' := ?_) Fl3_66 rfl rfl (any_of HT_.out (by kernel_rfl)) (fun _ _ _ h => h) (Or.inr ⟨by rfl, rfl⟩) ?_ ?_; rotate_left; (simp only [Act.put, sI, sZ, sS, i64_w, i32_w]; rfl)
                            refine pure_ (i := 37) (N := some 199) (v := undef) (a' := ?_) Fl3_67 rfl rfl (any_of HT_.out (by kernel_rfl)) (fun _ _ _ h => h) (Or.inr ⟨by rfl, rfl⟩) ?_ ?_; rotate_left; (simp only [Act.put, sI, sZ, sS, i64_w, i32_w]; rfl)
                            refine pure_ (i := 38) (N := some 200) (v := undef) (a' := ?_) Fl3_68 rfl rfl (any_of HT_.out (by kernel_rfl)) (fun _ _ _ h => h) (Or.inr ⟨by rfl, rfl⟩) ?_ ?_; rotate_left; (simp only [Act.put, sI, sZ, sS, i64_w, i32_w]; rfl)
                            refine pure_ (i := 39) (N := some 201) (v := undef) (a' := ?_) Fl3_69 rfl rfl (any_of HT_.out (by kernel_rfl)) (fun _ _ _ h => h) (Or.inr ⟨by rfl, rfl⟩) ?_ ?_; rotate_left; (simp only [Act.put, sI, sZ, sS, i64_w, i32_w]; rfl)
                            refine pure_ (i := 40) (N := some 202) (v := undef) (a' := ?_) Fl3_70 rfl rfl (any_of HT_.out (by kernel_rfl)) (fun _ _ _ h => h) (Or.inr ⟨by rfl, rfl⟩) ?_ ?_; rotate_left; (simp only [Act.put, sI, sZ, sS, i64_w, i32_w]; rfl)
                            refine pure_ (i := 41) (N := some 203) (v := undef) (a' := ?_) Fl3_71 rfl rfl (any_of HT_.out (by kernel_rfl)) (fun _ _ _ h => h) (Or.inr ⟨by rfl, rfl⟩) ?_ ?_; rotate_left; (simp only [Act.put, sI, sZ, sS, i64_w, i32_w]; rfl)
                            refine pure_ (i := 42) (N := some 204) (v := ?_) (a' := ?_) Fl3_72 rfl rfl (any_of HT_.out (by kernel_rfl)) (fun _ _ _ h => h) (Or.inl ⟨by rfl, ?_⟩) ?_ ?_; rotate_left; (intro w'; go_simp; with_reducible rfl); rotate_left; (simp only [Act.put, sI, sZ, sS, i64_w, i32_w]; rfl)
                            refine pure_ (i := 43) (N := some 20) (v := ?_) (a' := ?_) Fl3_73 rfl rfl (any_of HT_.out (by kernel_rfl)) (fun _ _ _ h => h) (Or.inl ⟨by rfl, ?_⟩) ?_ ?_; rotate_left; (intro w'; go_simp; with_reducible rfl); rotate_left; (simp only [Act.put, sI, sZ, sS, i64_w, i32_w]; rfl)
                            refine done_ (done_of HT_.out (by kernel_rfl)) ?_
                            try go_wp2
                            go_roundg k6
                            case measure => have := HK1.out; have := HJ18.out; have := HK3.out; have := HK4.out; have := HK5.out; have := HK6.out; omega
                            case rel => exact ⟨(true), (wrap64 (x21_6 + 1)), (by first | rfl | (simp; done) | (simp [*]; done)), (by first | rfl | (simp; done) | (simp [*]; done)), H', ⟨by have := HK1.out; have := HJ18.out; have := HK3.out; have := HK4.out; have := HK5.out; have := HK6.out; omega⟩, ⟨by (with_reducible repeat (first | apply Kd.R_alloc | apply Kd.R_drewN | apply Kd.R_drew)); exact HO_9.out⟩, ⟨by (with_reducible repeat (first | apply Kd.R_alloc | apply Kd.R_drewN | apply Kd.R_drew)); exact HO_11.out⟩, ⟨by repeat (first | (with_reducible first | exact HB.out | apply below_alloc | apply pw_below_drewN | apply below_drew1) | exact HB.out)⟩⟩
                           ·replace c71 := Bool.eq_false_iff.mpr c71
                            subst c71
                            have H1 : (if 0 ≤ x21_6 then (if 0 ≤ x19_5 then (if x19_5 < (t162.length : Int) then (if ((rd_T28 x9_1 x21_6).f1).toList = (rdOf ByteArray.empty t162 x19_5).toList then (if (wrap64 (1 + (wrap64 (Int.tmod (IntKind.u64.wrap (a1)) 3)))) = 2 then (RK.l13 k6 a2 (wrap64 (1 + (wrap64 (Int.tmod (IntKind.u64.wrap (a1)) 3)))) x9_1 t162 x19_5 true (wrap64 (x21_6 + 1))) else (if (wrap64 (1 + (wrap64 (Int.tmod (IntKind.u64.wrap (a1)) 3)))) = 1 then (if ((rd_T28 x9_1 x21_6).f2).toList = a2.toList then (RK.l13 k6 a2 (wrap64 (1 + (wrap64 (Int.tmod (IntKind.u64.wrap (a1)) 3)))) x9_1 t162 x19_5 true (wrap64 (x21_6 + 1))) else (if (wrap64 (1 + (wrap64 (Int.tmod (IntKind.u64.wrap (a1)) 3)))) = 3 then ((topic_Match.f ((rd_T28 x9_1 x21_6).f2) a2).bind fun t179 => (RK.l13 k6 a2 (wrap64 (1 + (wrap64 (Int.tmod (IntKind.u64.wrap (a1)) 3)))) x9_1 t162 x19_5 t179 (wrap64 (x21_6 + 1)))) else (RK.l13 k6 a2 (wrap64 (1 + (wrap64 (Int.tmod (IntKind.u64.wrap (a1)) 3)))) x9_1 t162 x19_5 false (wrap64 (x21_6 + 1))))) else (if (wrap64 (1 + (wrap64 (Int.tmod (IntKind.u64.wrap (a1)) 3)))) = 3 then ((topic_Match.f ((rd_T28 x9_1 x21_6).f2) a2).bind fun t181 => (RK.l13 k6 a2 (wrap64 (1 + (wrap64 (Int.tmod (IntKind.u64.wrap (a1)) 3)))) x9_1 t162 x19_5 t181 (wrap64 (x21_6 + 1)))) else (RK.l13 k6 a2 (wrap64 (1 + (wrap64 (Int.tmod (IntKind.u64.wrap (a1)) 3)))) x9_1 t162 x19_5 false (wrap64 (x21_6 + 1)))))) else (RK.l13 k6 a2 (wrap64 (1 + (wrap64 (Int.tmod (IntKind.u64.wrap (a1)) 3)))) x9_1 t162 x19_5 false (wrap64 (x21_6 + 1)))) else (none)) else (none)) else (none)) = some r := by rw [if_neg (show ¬ (false = true) by decide)] at H; exact H
                            clear H; have H := H1; clear H1
                            by_cases c73 : 0 ≤ x21_6
                            ·rw [if_pos c73] at H
                             have c73b0 : decide (0 ≤ x21_6) = true := decide_eq_true c73
                             clear c73
                             by_cases c74 : 0 ≤ x19_5
                             ·rw [if_pos c74] at H
                              have c74b0 : decide (0 ≤ x19_5) = true := decide_eq_true c74
                              clear c74
                              by_cases c75 : x19_5 < (t162.length : Int)
                              ·rw [if_pos c75] at H
                               have c75b0 : decide (x19_5 < (t162.length : Int)) = true := decide_eq_true c75
                               clear c75
                               by_cases c76 : ((rd_T28 x9_1 x21_6).f1).toList = (rdOf ByteArray.empty t162 x19_5).toList
                               ·rw [if_pos c76] at H
                                have c76b0 : (((rd_T28 x9_1 x21_6).f1).toList == (rdOf ByteArray.empty t162 x19_5).toList) = true := beq_iff_eq.mpr c76
                                have c76b1 : (((rd_T28 x9_1 x21_6).f1).toList != (rdOf ByteArray.empty t162 x19_5).toList) = false := bne_eq_false_iff_eq.mpr c76
                                clear c76
                                by_cases c77 : (wrap64 (1 + (wrap64 (Int.tmod (IntKind.u64.wrap (a1)) 3)))) = 2
                                ·rw [if_pos c77] at H
                                 have c77b0 : ((wrap64 (1 + (wrap64 (Int.tmod (IntKind.u64.wrap (a1)) 3)))) == 2) = true := beq_iff_eq.mpr c77
                                 have c77b1 : ((wrap64 (1 + (wrap64 (Int.tmod (IntKind.u64.wrap (a1)) 3)))) != 2) = false := bne_eq_false_iff_eq.mpr c77
                                 clear c77
                                 have H' := Aside0.mk H
                                 clear H
                                 try go_wp2
                                 have n0_ := Aside0.mk (Kd.R_drew HO_9.out); have n1_ := Aside0.mk (Kd.R_drew HO_11.out); have n2_ := Aside0.mk (below_drew1 HB.out); clear HO_9 HO_11 HB; have HO_9 := n0_; have HO_11 := n1_; have HB := n2_; clear n0_ n1_ n2_
                                 have p175 : 0 ≤ (x21_6 : Int) := of_decide_eq_true (by first | (with_reducible assumption) | assumption)
                                 have q175 : x21_6 < (x9_1.length : Int) := of_decide_eq_true (by first | (with_reducible assumption) | assumption)
                                 obtain ⟨ad175, e175, hx175_0, hx175_1, hx175_2, hx175_3⟩ := at_T28 (Kd.R_reads' HO_9.out).2.2 x21_6 p175 q175
                                 cases e175
                                 replace p175 := eq_true p175
                                 replace q175 := eq_true q175
                                 have p176 : 0 ≤ (x19_5 : Int) := of_decide_eq_true (by first | (with_reducible assumption) | assumption)
                                 have q176 : x19_5 < (t162.length : Int) := of_decide_eq_true (by first | (with_reducible assumption) | assumption)
                                 obtain ⟨ad176, e176, hx176_0⟩ := Kd.at_string (Kd.R_reads' HO_11.out).2.2 x19_5 p176 q176
                                 cases e176
                                 replace p176 := eq_true p176
                                 replace q176 := eq_true q176
                                 refine start_ (n := 44) (S := fun w' => w'.cell? (ad175.add ((x21_6).toNat * 4)) = some (.string ((rd_T28 x9_1 x21_6).f0)) ∧ w'.cell? ⟨(ad175.add ((x21_6).toNat * 4)).block, (ad175.add ((x21_6).toNat * 4)).off + 1, none⟩ = some (.string ((rd_T28 x9_1 x21_6).f1)) ∧ w'.cell? ⟨(ad175.add ((x21_6).toNat * 4)).block, (ad175.add ((x21_6).toNat * 4)).off + 2, none⟩ = some (.string ((rd_T28 x9_1 x21_6).f2)) ∧ w'.cell? ⟨(ad175.add ((x21_6).toNat * 4)).block, (ad175.add ((x21_6).toNat * 4)).off + 3, none⟩ = some (.int .i64 ((rd_T28 x9_1 x21_6).f3)) ∧ w'.cell? (ad176.add (x19_5).toNat) = some (.string (rdOf ByteArray.empty t162 x19_5))) (ds := []) Fl3_29 (by kernel_rfl) rfl rfl ⟨hx175_0, hx175_1, hx175_2, hx175_3, hx176_0⟩ (fun hHeld => ?_); refine with_tabW RK.tab39 RK.bits39 (fun HT_ HW_ => ?_)
                                 generalize wr.drew = w78 at HO_9 HO_11 HB hx175_0 hx175_1 hx175_2 hx175_3 hx176_0 hHeld ⊢
                                 refine pure_ (i := 0) (N := some 162) (v := ?_) (a' := ?_) Fl3_30 rfl rfl (any_of HT_.out (by kernel_rfl)) (fun _ _ _ h => h) (Or.inl ⟨by rfl, ?_⟩) ?_ ?_; rotate_left; (intro w'; go_simp; with_reducible rfl); rotate_left; (simp only [Act.put, sI, sZ, sS, i64_w, i32_w]; rfl)
                                 refine pure_ (i := 1) (N := some 163) (v := ?_) (a' := ?_) Fl3_31 rfl rfl (any_of HT_.out (by kernel_rfl)) (fun _ _ _ h => h) (Or.inl ⟨by rfl, ?_⟩) ?_ ?_; rotate_left; (intro w'; go_simp; with_reducible rfl); rotate_left; (simp only [Act.put, sI, sZ, sS, i64_w, i32_w]; rfl)
                                 refine pure_ (i := 2) (N := some 164) (v := ?_) (a' := ?_) Fl3_32 rfl rfl (any_of HT_.out (by kernel_rfl)) (fun _ _ _ h => h) (Or.inl ⟨by rfl, ?_⟩) ?_ ?_; rotate_left; (intro w'; go_simp; with_reducible rfl); rotate_left; (simp only [Act.put, sI, sZ, sS, i64_w, i32_w]; rfl)
                                 refine pure_ (i := 3) (N := some 165) (v := ?_) (a' := ?_) Fl3_33 rfl rfl (any_of HT_.out (by kernel_rfl)) (fun _ _ _ h => h) (Or.inl ⟨by rfl, ?_⟩) ?_ ?_; rotate_left; (intro w'; go_simp; with_reducible rfl); rotate_left; (simp only [Act.put, sI, sZ, sS, i64_w, i32_w]; rfl)
                                 refine pure_ (i := 4) (N := some 166) (v := ?_) (a' := ?_) Fl3_34 rfl rfl (any_of HT_.out (by kernel_rfl)) (fun _ _ _ h => h) (Or.inl ⟨by rfl, ?_⟩) ?_ ?_; rotate_left; (intro w'; go_simp; with_reducible rfl); rotate_left; (simp only [Act.put, sI, sZ, sS, i64_w, i32_w]; rfl)
                                 refine pure_ (i := 5) (N := some 167) (v := ?_) (a' := ?_) Fl3_35 rfl rfl (any_of HT_.out (by kernel_rfl)) (fun _ _ _ h => h) (Or.inl ⟨by rfl, ?_⟩) ?_ ?_; rotate_left; (intro w'; go_simp; with_reducible rfl); rotate_left; (simp only [Act.put, sI, sZ, sS, i64_w, i32_w]; rfl)
                                 refine pure_ (i := 7) (N := some 169) (v := ?_) (a' := ?_) Fl3_74 rfl rfl (any_of HT_.out (by kernel_rfl)) (fun _ _ _ h => h) (Or.inl ⟨by rfl, ?_⟩) ?_ ?_; rotate_left; (intro w'; go_simp; with_reducible rfl); rotate_left; (simp only [Act.put, sI, sZ, sS, i64_w, i32_w]; rfl)
                                 refine pure_ (i := 8) (N := some 170) (v := ?_) (a' := ?_) Fl3_75 rfl rfl (any_of HT_.out (by kernel_rfl)) (fun _ _ _ h => h) (Or.inl ⟨by rfl, ?_⟩) ?_ ?_; rotate_left; (intro w'; go_simp; with_reducible rfl); rotate_left; (simp only [Act.put, sI, sZ, sS, i64_w, i32_w]; rfl)
                                 refine pure_ (i := 9) (N := some 171) (v := ?_) (a' := ?_) Fl3_76 rfl rfl (any_of HT_.out (by kernel_rfl)) (fun _ _ _ h => h) (Or.inl ⟨by rfl, ?_⟩) ?_ ?_; rotate_left; (intro w'; go_simp; with_reducible rfl); rotate_left; (simp only [Act.put, sI, sZ, sS, i64_w, i32_w]; rfl)
                                 refine take_ (i := 6) (N := some 168) (v := ?_) (a' := ?_) Fl3_39 rfl rfl (take_ofW HT_.out HW_.out (by kernel_rfl)) (fun _ _ _ h => h) (Or.inl ⟨by rfl, ?_⟩) hHeld ?_ ?_; rotate_left; (rintro w' ⟨s0, s1, s2, s3, s4⟩; go_simp; with_reducible rfl); rotate_left; (simp only [Act.put, sI, sZ, sS, i64_w, i32_w]; rfl)
                                 refine take_ (i := 10) (N := some 172) (v := ?_) (a' := ?_) Fl3_40 rfl rfl (take_ofW HT_.out HW_.out (by kernel_rfl)) (fun _ _ _ h => h) (Or.inl ⟨by rfl, ?_⟩) hHeld ?_ ?_; rotate_left; (rintro w' ⟨s0, s1, s2, s3, s4⟩; go_simp; with_reducible rfl); rotate_left; (simp only [Act.put, sI, sZ, sS, i64_w, i32_w]; rfl)
                                 refine pure_ (i := 11) (N := some 173) (v := ?_) (a' := ?_) Fl3_41 rfl rfl (any_of HT_.out (by kernel_rfl)) (fun _ _ _ h => h) (Or.inl ⟨by rfl, ?_⟩) ?_ ?_; rotate_left; (intro w'; go_simp; with_reducible rfl); rotate_left; (simp only [Act.put, sI, sZ, sS, i64_w, i32_w]; rfl)
                                 refine pure_ (i := 12) (N := some 174) (v := ?_) (a' := ?_) Fl3_42 rfl rfl (any_of HT_.out (by kernel_rfl)) (fun _ _ _ h => h) (Or.inl ⟨by rfl, ?_⟩) ?_ ?_; rotate_left; (intro w'; go_simp; with_reducible rfl); rotate_left; (simp only [Act.put, sI, sZ, sS, i64_w, i32_w]; rfl)
                                 refine pure_ (i := 13) (N := some 175) (v := ?_) (a' := ?_) Fl3_43 rfl rfl (any_of HT_.out (by kernel_rfl)) (fun _ _ _ h => h) (Or.inl ⟨by rfl, ?_⟩) ?_ ?_; rotate_left; (intro w'; go_simp; with_reducible rfl); rotate_left; (simp only [Act.put, sI, sZ, sS, i64_w, i32_w]; rfl)
                                 refine pure_ (i := 14) (N := some 176) (v := ?_) (a' := ?_) Fl3_44 rfl rfl (any_of HT_.out (by kernel_rfl)) (fun _ _ _ h => h) (Or.inl ⟨by rfl, ?_⟩) ?_ ?_; rotate_left; (intro w'; go_simp; with_reducible rfl); rotate_left; (simp only [Act.put, sI, sZ, sS, i64_w, i32_w]; rfl)
                                 refine pure_ (i := 15) (N := some 177) (v := ?_) (a' := ?_) Fl3_45 rfl rfl (any_of HT_.out (by kernel_rfl)) (fun _ _ _ h => h) (Or.inl ⟨by rfl, ?_⟩) ?_ ?_; rotate_left; (intro w'; go_simp; with_reducible rfl); rotate_left; (simp only [Act.put, sI, sZ, sS, i64_w, i32_w]; rfl)
                                 refine pure_ (i := 16) (N := some 178) (v := undef) (a' := ?_) Fl3_46 rfl rfl (any_of HT_.out (by kernel_rfl)) (fun _ _ _ h => h) (Or.inr ⟨by rfl, rfl⟩) ?_ ?_; rotate_left; (simp only [Act.put, sI, sZ, sS, i64_w, i32_w]; rfl)
                                 refine pure_ (i := 17) (N := some 179) (v := undef) (a' := ?_) Fl3_47 rfl rfl (any_of HT_.out (by kernel_rfl)) (fun _ _ _ h => h) (Or.inr ⟨by rfl, rfl⟩) ?_ ?_; rotate_left; (simp only [Act.put, sI, sZ, sS, i64_w, i32_w]; rfl)
                                 refine pure_ (i := 18) (N := some 180) (v := undef) (a' := ?_) Fl3_48 rfl rfl (any_of HT_.out (by kernel_rfl)) (fun _ _ _ h => h) (Or.inr ⟨by rfl, rfl⟩) ?_ ?_; rotate_left; (simp only [Act.put, sI, sZ, sS, i64_w, i32_w]; rfl)
                                 refine pure_ (i := 19) (N := some 181) (v := undef) (a' := ?_) Fl3_49 rfl rfl (any_of HT_.out (by kernel_rfl)) (fun _ _ _ h => h) (Or.inr ⟨by rfl, rfl⟩) ?_ ?_; rotate_left; (simp only [Act.put, sI, sZ, sS, i64_w, i32_w]; rfl)
                                 refine pure_ (i := 20) (N := some 182) (v := undef) (a' := ?_) Fl3_50 rfl rfl (any_of HT_.out (by kernel_rfl)) (fun _ _ _ h => h) (Or.inr ⟨by rfl, rfl⟩) ?_ ?_; rotate_left; (simp only [Act.put, sI, sZ, sS, i64_w, i32_w]; rfl)
                                 refine pure_ (i := 21) (N := some 183) (v := undef) (a' := ?_) Fl3_51 rfl rfl (any_of HT_.out (by kernel_rfl)) (fun _ _ _ h => h) (Or.inr ⟨by rfl, rfl⟩) ?_ ?_; rotate_left; (simp only [Act.put, sI, sZ, sS, i64_w, i32_w]; rfl)
                                 refine pure_ (i := 22) (N := some 184) (v := undef) (a' := ?_) Fl3_52 rfl rfl (any_of HT_.out (by kernel_rfl)) (fun _ _ _ h => h) (Or.inr ⟨by rfl, rfl⟩) ?_ ?_; rotate_left; (simp only [Act.put, sI, sZ, sS, i64_w, i32_w]; rfl)
                                 refine pure_ (i := 23) (N := some 185) (v := undef) (a' := ?_) Fl3_53 rfl rfl (any_of HT_.out (by kernel_rfl)) (fun _ _ _ h => h) (Or.inr ⟨by rfl, rfl⟩) ?_ ?_; rotate_left; (simp only [Act.put, sI, sZ, sS, i64_w, i32_w]; rfl)
                                 refine pure_ (i := 24) (N := some 186) (v := undef) (a' := ?_) Fl3_54 rfl rfl (any_of HT_.out (by kernel_rfl)) (fun _ _ _ h => h) (Or.inr ⟨by rfl, rfl⟩) ?_ ?_; rotate_left; (simp only [Act.put, sI, sZ, sS, i64_w, i32_w]; rfl)
                                 refine pure_ (i := 25) (N := some 187) (v := undef) (a' := ?_) Fl3_55 rfl rfl (any_of HT_.out (by kernel_rfl)) (fun _ _ _ h => h) (Or.inr ⟨by rfl, rfl⟩) ?_ ?_; rotate_left; (simp only [Act.put, sI, sZ, sS, i64_w, i32_w]; rfl)
                                 refine pure_ (i := 26) (N := some 188) (v := undef) (a' := ?_) Fl3_56 rfl rfl (any_of HT_.out (by kernel_rfl)) (fun _ _ _ h => h) (Or.inr ⟨by rfl, rfl⟩) ?_ ?_; rotate_left; (simp only [Act.put, sI, sZ, sS, i64_w, i32_w]; rfl)
                                 refine pure_ (i := 27) (N := some 189) (v := ?_) (a' := ?_) Fl3_57 rfl rfl (any_of HT_.out (by kernel_rfl)) (fun _ _ _ h => h) (Or.inl ⟨by rfl, ?_⟩) ?_ ?_; rotate_left; (intro w'; go_simp; with_reducible rfl); rotate_left; (simp only [Act.put, sI, sZ, sS, i64_w, i32_w]; rfl)
                                 refine pure_ (i := 28) (N := some 190) (v := ?_) (a' := ?_) Fl3_58 rfl rfl (any_of HT_.out (by kernel_rfl)) (fun _ _ _ h => h) (Or.inl ⟨by rfl, ?_⟩) ?_ ?_; rotate_left; (intro w'; go_simp; with_reducible rfl); rotate_left; (simp only [Act.put, sI, sZ, sS, i64_w, i32_w]; rfl)
                                 refine pure_ (i := 29) (N := some 191) (v := undef) (a' := ?_) Fl3_59 rfl rfl (any_of HT_.out (by kernel_rfl)) (fun _ _ _ h => h) (Or.inr ⟨by rfl, rfl⟩) ?_ ?_; rotate_left; (simp only [Act.put, sI, sZ, sS, i64_w, i32_w]; rfl)
                                 refine pure_ (i := 30) (N := some 192) (v := undef) (a' := ?_) Fl3_60 rfl rfl (any_of HT_.out (by kernel_rfl)) (fun _ _ _ h => h) (Or.inr ⟨by rfl, rfl⟩) ?_ ?_; rotate_left; (simp only [Act.put, sI, sZ, sS, i64_w, i32_w]; rfl)
                                 refine pure_ (i := 31) (N := some 193) (v := undef) (a' := ?_) Fl3_61 rfl rfl (any_of HT_.out (by kernel_rfl)) (fun _ _ _ h => h) (Or.inr ⟨by rfl, rfl⟩) ?_ ?_; rotate_left; (simp only [Act.put, sI, sZ, sS, i64_w, i32_w]; rfl)
                                 refine pure_ (i := 32) (N := some 194) (v := undef) (a' := ?_) Fl3_62 rfl rfl (any_of HT_.out (by kernel_rfl)) (fun _ _ _ h => h) (Or.inr ⟨by rfl, rfl⟩) ?_ ?_; rotate_left; (simp only [Act.put, sI, sZ, sS, i64_w, i32_w]; rfl)
                                 refine pure_ (i := 33) (N := some 195) (v := undef) (a' := ?_) Fl3_63 rfl rfl (any_of HT_.out (by kernel_rfl)) (fun _ _ _ h => h) (Or.inr ⟨by rfl, rfl⟩) ?_ ?_; rotate_left; (simp only [Act.put, sI, sZ, sS, i64_w, i32_w]; rfl)
                                 refine pure_ (i := 34) (N := some 196) (v := undef) (a' := ?_) Fl3_64 rfl rfl (any_of HT_.out (by kernel_rfl)) (fun _ _ _ h => h) (Or.inr ⟨by rfl, rfl⟩) ?_ ?_; rotate_left; (simp only [Act.put, sI, sZ, sS, i64_w, i32_w]; rfl)
                                 refine pure_ (i := 35) (N := some 197) (v := undef) (a' := ?_) Fl3_65 rfl rfl (any_of HT_.out (by kernel_rfl)) (fun _ _ _ h => h) (Or.inr ⟨by rfl, rfl⟩) ?_ ?_; rotate_left; (simp only [Act.put, sI, sZ, sS, i64_w, i32_w]; rfl)
                                 refine pure_ (i := 36) (N := some 198) (v := undef) (a' := ?_) Fl3_66 rfl rfl (any_of HT_.out (by kernel_rfl)) (fun _ _ _ h => h) (Or.inr ⟨by rfl, rfl⟩) ?_ ?_; rotate_left; (simp only [Act.put, sI, sZ, sS, i64_w, i32_w]; rfl)
                                 refine pure_ (i := 37) (N := some 199) (v := undef) (a' := ?_) Fl3_67 rfl rfl (any_of HT_.out (by kernel_rfl)) (fun _ _ _ h => h) (Or.inr ⟨by rfl, rfl⟩) ?_ ?_; rotate_left; (simp only [Act.put, sI, sZ, sS, i64_w, i32_w]; rfl)
                                 refine pure_ (i := 38) (N := some 200) (v := undef) (a' := ?_) Fl3_68 rfl rfl (any_of HT_.out (by kernel_rfl)) (fun _ _ _ h => h) (Or.inr ⟨by rfl, rfl⟩) ?_ ?_; rotate_left; (simp only [Act.put, sI, sZ, sS, i64_w, i32_w]; rfl)
                                 refine pure_ (i := 39) (N := some 201) (v := undef) (a' := ?_) Fl3_69 rfl rfl (any_of HT_.out (by kernel_rfl)) (fun _ _ _ h => h) (Or.inr ⟨by rfl, rfl⟩) ?_ ?_; rotate_left; (simp only [Act.put, sI, sZ, sS, i64_w, i32_w]; rfl)
                                 refine pure_ (i := 40) (N := some 202) (v := ?_) (a' := ?_) Fl3_70 rfl rfl (any_of HT_.out (by kernel_rfl)) (fun _ _ _ h => h) (Or.inl ⟨by rfl, ?_⟩) ?_ ?_; rotate_left; (intro w'; go_simp; with_reducible rfl); rotate_left; (simp only [Act.put, sI, sZ, sS, i64_w, i32_w]; rfl)
                                 refine pure_ (i := 41) (N := some 203) (v := ?_) (a' := ?_) Fl3_71 rfl rfl (any_of HT_.out (by kernel_rfl)) (fun _ _ _ h => h) (Or.inl ⟨by rfl, ?_⟩) ?_ ?_; rotate_left; (intro w'; go_simp; with_reducible rfl); rotate_left; (simp only [Act.put, sI, sZ, sS, i64_w, i32_w]; rfl)
                                 refine pure_ (i := 42) (N := some 204) (v := ?_) (a' := ?_) Fl3_72 rfl rfl (any_of HT_.out (by kernel_rfl)) (fun _ _ _ h => h) (Or.inl ⟨by rfl, ?_⟩) ?_ ?_; rotate_left; (intro w'; go_simp; with_reducible rfl); rotate_left; (simp only [Act.put, sI, sZ, sS, i64_w, i32_w]; rfl)
                                 refine pure_ (i := 43) (N := some 20) (v := ?_) (a' := ?_) Fl3_73 rfl rfl (any_of HT_.out (by kernel_rfl)) (fun _ _ _ h => h) (Or.inl ⟨by rfl, ?_⟩) ?_ ?_; rotate_left; (intro w'; go_simp; with_reducible rfl); rotate_left; (simp only [Act.put, sI, sZ, sS, i64_w, i32_w]; rfl)
                                 refine done_ (done_of HT_.out (by kernel_rfl)) ?_
                                 try go_wp2
                                 go_roundg k6
                                 case measure => have := HK1.out; have := HJ18.out; have := HK3.out; have := HK4.out; have := HK5.out; have := HK6.out; omega
                                 case rel => exact ⟨(true), (wrap64 (x21_6 + 1)), (by first | rfl | (simp; done) | (simp [*]; done)), (by first | rfl | (simp; done) | (simp [*]; done)), H', ⟨by have := HK1.out; have := HJ18.out; have := HK3.out; have := HK4.out; have := HK5.out; have := HK6.out; omega⟩, ⟨by (with_reducible repeat (first | apply Kd.R_alloc | apply Kd.R_drewN | apply Kd.R_drew)); exact HO_9.out⟩, ⟨by (with_reducible repeat (first | apply Kd.R_alloc | apply Kd.R_drewN | apply Kd.R_drew)); exact HO_11.out⟩, ⟨by repeat (first | (with_reducible first | exact HB.out | apply below_alloc | apply pw_below_drewN | apply below_drew1) | exact HB.out)⟩⟩
                                ·rw [if_neg c77] at H
                                 have c77b0 : ((wrap64 (1 + (wrap64 (Int.tmod (IntKind.u64.wrap (a1)) 3)))) == 2) = false := beq_eq_false_iff_ne.mpr c77
                                 have c77b1 : ((wrap64 (1 + (wrap64 (Int.tmod (IntKind.u64.wrap (a1)) 3)))) != 2) = true := bne_iff_ne.mpr c77
                                 by_cases c79 : (wrap64 (1 + (wrap64 (Int.tmod (IntKind.u64.wrap (a1)) 3)))) = 1
                                 ·rw [if_pos c79] at H
                                  have c79b0 : ((wrap64 (1 + (wrap64 (Int.tmod (IntKind.u64.wrap (a1)) 3)))) == 1) = true := beq_iff_eq.mpr c79
                                  have c79b1 : ((wrap64 (1 + (wrap64 (Int.tmod (IntKind.u64.wrap (a1)) 3)))) != 1) = false := bne_eq_false_iff_eq.mpr c79
                                  clear c79
                                  by_cases c80 : ((rd_T28 x9_1 x21_6).f2).toList = a2.toList
                                  ·rw [if_pos c80] at H
                                   have c80b0 : (((rd_T28 x9_1 x21_6).f2).toList == a2.toList) = true := beq_iff_eq.mpr c80
                                   have c80b1 : (((rd_T28 x9_1 x21_6).f2).toList != a2.toList) = false := bne_eq_false_iff_eq.mpr c80
                                   clear c80
                                   have H' := Aside0.mk H
                                   clear H
                                   try go_wp2
                                   have n0_ := Aside0.mk (Kd.R_drew HO_9.out); have n1_ := Aside0.mk (Kd.R_drew HO_11.out); have n2_ := Aside0.mk (below_drew1 HB.out); clear HO_9 HO_11 HB; have HO_9 := n0_; have HO_11 := n1_; have HB := n2_; clear n0_ n1_ n2_
                                   have p175 : 0 ≤ (x21_6 : Int) := of_decide_eq_true (by first | (with_reducible assumption) | assumption)
                                   have q175 : x21_6 < (x9_1.length : Int) := of_decide_eq_true (by first | (with_reducible assumption) | assumption)
                                   obtain ⟨ad175, e175, hx175_0, hx175_1, hx175_2, hx175_3⟩ := at_T28 (Kd.R_reads' HO_9.out).2.2 x21_6 p175 q175
                                   cases e175
                                   replace p175 := eq_true p175
                                   replace q175 := eq_true q175
                                   have p176 : 0 ≤ (x19_5 : Int) := of_decide_eq_true (by first | (with_reducible assumption) | assumption)
                                   have q176 : x19_5 < (t162.length : Int) := of_decide_eq_true (by first | (with_reducible assumption) | assumption)
                                   obtain ⟨ad176, e176, hx176_0⟩ := Kd.at_string (Kd.R_reads' HO_11.out).2.2 x19_5 p176 q176
                                   cases e176
                                   replace p176 := eq_true p176
                                   replace q176 := eq_true q176
                                   have p177 : 0 ≤ (x21_6 : Int) := of_decide_eq_true (by first | (with_reducible assumption) | assumption)
                                   have q177 : x21_6 < (x9_1.length : Int) := of_decide_eq_true (by first | (with_reducible assumption) | assumption)
                                   obtain ⟨ad177, e177, hx177_0, hx177_1, hx177_2, hx177_3⟩ := at_T28 (Kd.R_reads' HO_9.out).2.2 x21_6 p177 q177
                                   obtain rfl : ad175 = ad177 := (by injection e177)
                                   replace p177 := eq_true p177
                                   replace q177 := eq_true q177
                                   refine start_ (n := 44) (S := fun w' => w'.cell? (ad175.add ((x21_6).toNat * 4)) = some (.string ((rd_T28 x9_1 x21_6).f0)) ∧ w'.cell? ⟨(ad175.add ((x21_6).toNat * 4)).block, (ad175.add ((x21_6).toNat * 4)).off + 1, none⟩ = some (.string ((rd_T28 x9_1 x21_6).f1)) ∧ w'.cell? ⟨(ad175.add ((x21_6).toNat * 4)).block, (ad175.add ((x21_6).toNat * 4)).off + 2, none⟩ = some (.string ((rd_T28 x9_1 x21_6).f2)) ∧ w'.cell? ⟨(ad175.add ((x21_6).toNat * 4)).block, (ad175.add ((x21_6).toNat * 4)).off + 3, none⟩ = some (.int .i64 ((rd_T28 x9_1 x21_6).f3)) ∧ w'.cell? (ad176.add (x19_5).toNat) = some (.string (rdOf ByteArray.empty t162 x19_5)) ∧ w'.cell? (ad175.add ((x21_6).toNat * 4)) = some (.string ((rd_T28 x9_1 x21_6).f0)) ∧ w'.cell? ⟨(ad175.add ((x21_6).toNat * 4)).block, (ad175.add ((x21_6).toNat * 4)).off + 1, none⟩ = some (.string ((rd_T28 x9_1 x21_6).f1)) ∧ w'.cell? ⟨(ad175.add ((x21_6).toNat * 4)).block, (ad175.add ((x21_6).toNat * 4)).off + 2, none⟩ = some (.string ((rd_T28 x9_1 x21_6).f2)) ∧ w'.cell? ⟨(ad175.add ((x21_6).toNat * 4)).block, (ad175.add ((x21_6).toNat * 4)).off + 3, none⟩ = some (.int .i64 ((rd_T28 x9_1 x21_6).f3))) (ds := []) Fl3_29 (by kernel_rfl) rfl rfl ⟨hx175_0, hx175_1, hx175_2, hx175_3, hx176_0, hx177_0, hx177_1, hx177_2, hx177_3⟩ (fun hHeld => ?_); refine with_tabW RK.tab39 RK.bits39 (fun HT_ HW_ => ?_)
                                   generalize wr.drew = w81 at HO_9 HO_11 HB hx175_0 hx175_1 hx175_2 hx175_3 hx176_0 hx177_0 hx177_1 hx177_2 hx177_3 hHeld ⊢
                                   refine pure_ (i := 0) (N := some 162) (v := ?_) (a' := ?_) Fl3_30 rfl rfl (any_of HT_.out (by kernel_rfl)) (fun _ _ _ h => h) (Or.inl ⟨by rfl, ?_⟩) ?_ ?_; rotate_left; (intro w'; go_simp; with_reducible rfl); rotate_left; (simp only [Act.put, sI, sZ, sS, i64_w, i32_w]; rfl)
                                   refine pure_ (i := 1) (N := some 163) (v := ?_) (a' := ?_) Fl3_31 rfl rfl (any_of HT_.out (by kernel_rfl)) (fun _ _ _ h => h) (Or.inl ⟨by rfl, ?_⟩) ?_ ?_; rotate_left; (intro w'; go_simp; with_reducible rfl); rotate_left; (simp only [Act.put, sI, sZ, sS, i64_w, i32_w]; rfl)
                                   refine pure_ (i := 2) (N := some 164) (v := ?_) (a' := ?_) Fl3_32 rfl rfl (any_of HT_.out (by kernel_rfl)) (fun _ _ _ h => h) (Or.inl ⟨by rfl, ?_⟩) ?_ ?_; rotate_left; (intro w'; go_simp; with_reducible rfl); rotate_left; (simp only [Act.put, sI, sZ, sS, i64_w, i32_w]; rfl)
                                   refine pure_ (i := 3) (N := some 165) (v := ?_) (a' := ?_) Fl3_33 rfl rfl (any_of HT_.out (by kernel_rfl)) (fun _ _ _ h => h) (Or.inl ⟨by rfl, ?_⟩) ?_ ?_; rotate_left; (intro w'; go_simp; with_reducible rfl); rotate_left; (simp only [Act.put, sI, sZ, sS, i64_w, i32_w]; rfl)
                                   refine pure_ (i := 4) (N := some 166) (v := ?_) (a' := ?_) Fl3_34 rfl rfl (any_of HT_.out (by kernel_rfl)) (fun _ _ _ h => h) (Or.inl ⟨by rfl, ?_⟩) ?_ ?_; rotate_left; (intro w'; go_simp; with_reducible rfl); rotate_left; (simp only [Act.put, sI, sZ, sS, i64_w, i32_w]; rfl)
                                   refine pure_ (i := 5) (N := some 167) (v := ?_) (a' := ?_) Fl3_35 rfl rfl (any_of HT_.out (by kernel_rfl)) (fun _ _ _ h => h) (Or.inl ⟨by rfl, ?_⟩) ?_ ?_; rotate_left; (intro w'; go_simp; with_reducible rfl); rotate_left; (simp only [Act.put, sI, sZ, sS, i64_w, i32_w]; rfl)
                                   refine pure_ (i := 7) (N := some 169) (v := ?_) (a' := ?_) Fl3_74 rfl rfl (any_of HT_.out (by kernel_rfl)) (fun _ _ _ h => h) (Or.inl ⟨by rfl, ?_⟩) ?_ ?_; rotate_left; (intro w'; go_simp; with_reducible rfl); rotate_left; (simp only [Act.put, sI, sZ, sS, i64_w, i32_w]; rfl)
                                   refine pure_ (i := 8) (N := some 170) (v := ?_) (a' := ?_) Fl3_75 rfl rfl (any_of HT_.out (by kernel_rfl)) (fun _ _ _ h => h) (Or.inl ⟨by rfl, ?_⟩) ?_ ?_; rotate_left; (intro w'; go_simp; with_reducible rfl); rotate_left; (simp only [Act.put, sI, sZ, sS, i64_w, i32_w]; rfl)
                                   refine pure_ (i := 9) (N := some 171) (v := ?_) (a' := ?_) Fl3_76 rfl rfl (any_of HT_.out (by kernel_rfl)) (fun _ _ _ h => h) (Or.inl ⟨by rfl, ?_⟩) ?_ ?_; rotate_left; (intro w'; go_simp; with_reducible rfl); rotate_left; (simp only [Act.put, sI, sZ, sS, i64_w, i32_w]; rfl)
                                   refine take_ (i := 6) (N := some 168) (v := ?_) (a' := ?_) Fl3_39 rfl rfl (take_ofW HT_.out HW_.out (by kernel_rfl)) (fun _ _ _ h => h) (Or.inl ⟨by rfl, ?_⟩) hHeld ?_ ?_; rotate_left; (rintro w' ⟨s0, s1, s2, s3, s4, s5, s6, s7, s8⟩; go_simp; with_reducible rfl); rotate_left; (simp only [Act.put, sI, sZ, sS, i64_w, i32_w]; rfl)
                                   refine take_ (i := 10) (N := some 172) (v := ?_) (a' := ?_) Fl3_40 rfl rfl (take_ofW HT_.out HW_.out (by kernel_rfl)) (fun _ _ _ h => h) (Or.inl ⟨by rfl, ?_⟩) hHeld ?_ ?_; rotate_left; (rintro w' ⟨s0, s1, s2, s3, s4, s5, s6, s7, s8⟩; go_simp; with_reducible rfl); rotate_left; (simp only [Act.put, sI, sZ, sS, i64_w, i32_w]; rfl)
                                   refine pure_ (i := 11) (N := some 173) (v := ?_) (a' := ?_) Fl3_41 rfl rfl (any_of HT_.out (by kernel_rfl)) (fun _ _ _ h => h) (Or.inl ⟨by rfl, ?_⟩) ?_ ?_; rotate_left; (intro w'; go_simp; with_reducible rfl); rotate_left; (simp only [Act.put, sI, sZ, sS, i64_w, i32_w]; rfl)
                                   refine pure_ (i := 12) (N := some 174) (v := ?_) (a' := ?_) Fl3_42 rfl rfl (any_of HT_.out (by kernel_rfl)) (fun _ _ _ h => h) (Or.inl ⟨by rfl, ?_⟩) ?_ ?_; rotate_left; (intro w'; go_simp; with_reducible rfl); rotate_left; (simp only [Act.put, sI, sZ, sS, i64_w, i32_w]; rfl)
                                   refine pure_ (i := 13) (N := some 175) (v := ?_) (a' := ?_) Fl3_43 rfl rfl (any_of HT_.out (by kernel_rfl)) (fun _ _ _ h => h) (Or.inl ⟨by rfl, ?_⟩) ?_ ?_; rotate_left; (intro w'; go_simp; with_reducible rfl); rotate_left; (simp only [Act.put, sI, sZ, sS, i64_w, i32_w]; rfl)
                                   refine pure_ (i := 14) (N := some 176) (v := ?_) (a' := ?_) Fl3_44 rfl rfl (any_of HT_.out (by kernel_rfl)) (fun _ _ _ h => h) (Or.inl ⟨by rfl, ?_⟩) ?_ ?_; rotate_left; (intro w'; go_simp; with_reducible rfl); rotate_left; (simp only [Act.put, sI, sZ, sS, i64_w, i32_w]; rfl)
                                   refine pure_ (i := 15) (N := some 177) (v := ?_) (a' := ?_) Fl3_45 rfl rfl (any_of HT_.out (by kernel_rfl)) (fun _ _ _ h => h) (Or.inl ⟨by rfl, ?_⟩) ?_ ?_; rotate_left; (intro w'; go_simp; with_reducible rfl); rotate_left; (simp only [Act.put, sI, sZ, sS, i64_w, i32_w]; rfl)
                                   refine pure_ (i := 16) (N := some 178) (v := ?_) (a' := ?_) Fl3_46 rfl rfl (any_of HT_.out (by kernel_rfl)) (fun _ _ _ h => h) (Or.inl ⟨by rfl, ?_⟩) ?_ ?_; rotate_left; (intro w'; go_simp; with_reducible rfl); rotate_left; (simp only [Act.put, sI, sZ, sS, i64_w, i32_w]; rfl)
                                   refine pure_ (i := 17) (N := some 179) (v := ?_) (a' := ?_) Fl3_47 rfl rfl (any_of HT_.out (by kernel_rfl)) (fun _ _ _ h => h) (Or.inl ⟨by rfl, ?_⟩) ?_ ?_; rotate_left; (intro w'; go_simp; with_reducible rfl); rotate_left; (simp only [Act.put, sI, sZ, sS, i64_w, i32_w]; rfl)
                                   refine pure_ (i := 18) (N := some 180) (v := ?_) (a' := ?_) Fl3_48 rfl rfl (any_of HT_.out (by kernel_rfl)) (fun _ _ _ h => h) (Or.inl ⟨by rfl, ?_⟩) ?_ ?_; rotate_left; (intro w'; go_simp; with_reducible rfl); rotate_left; (simp only [Act.put, sI, sZ, sS, i64_w, i32_w]; rfl)
                                   refine pure_ (i := 19) (N := some 181) (v := ?_) (a' := ?_) Fl3_49 rfl rfl (any_of HT_.out (by kernel_rfl)) (fun _ _ _ h => h) (Or.inl ⟨by rfl, ?_⟩) ?_ ?_; rotate_left; (intro w'; go_simp; with_reducible rfl); rotate_left; (simp only [Act.put, sI, sZ, sS, i64_w, i32_w]; rfl)
                                   refine pure_ (i := 20) (N := some 182) (v := ?_) (a' := ?_) Fl3_50 rfl rfl (any_of HT_.out (by kernel_rfl)) (fun _ _ _ h => h) (Or.inl ⟨by rfl, ?_⟩) ?_ ?_; rotate_left; (intro w'; go_simp; with_reducible rfl); rotate_left; (simp only [Act.put, sI, sZ, sS, i64_w, i32_w]; rfl)
                                   refine pure_ (i := 21) (N := some 183) (v := ?_) (a' := ?_) Fl3_51 rfl rfl (any_of HT_.out (by kernel_rfl)) (fun _ _ _ h => h) (Or.inl ⟨by rfl, ?_⟩) ?_ ?_; rotate_left; (intro w'; go_simp; with_reducible rfl); rotate_left; (simp only [Act.put, sI, sZ, sS, i64_w, i32_w]; rfl)
                                   refine pure_ (i := 22) (N := some 184) (v := ?_) (a' := ?_) Fl3_52 rfl rfl (any_of HT_.out (by kernel_rfl)) (fun _ _ _ h => h) (Or.inl ⟨by rfl, ?_⟩) ?_ ?_; rotate_left; (intro w'; go_simp; with_reducible rfl); rotate_left; (simp only [Act.put, sI, sZ, sS, i64_w, i32_w]; rfl)
                                   refine pure_ (i := 24) (N := some 186) (v := ?_) (a' := ?_) Fl3_77 rfl rfl (any_of HT_.out (by kernel_rfl)) (fun _ _ _ h => h) (Or.inl ⟨by rfl, ?_⟩) ?_ ?_; rotate_left; (intro w'; go_simp; with_reducible rfl); rotate_left; (simp only [Act.put, sI, sZ, sS, i64_w, i32_w]; rfl)
                                   refine take_ (i := 23) (N := some 185) (v := ?_) (a' := ?_) Fl3_54 rfl rfl (take_ofW HT_.out HW_.out (by kernel_rfl)) (fun _ _ _ h => h) (Or.inl ⟨by rfl, ?_⟩) hHeld ?_ ?_; rotate_left; (rintro w' ⟨s0, s1, s2, s3, s4, s5, s6, s7, s8⟩; go_simp; with_reducible rfl); rotate_left; (simp only [Act.put, sI, sZ, sS, i64_w, i32_w]; rfl)
                                   refine pure_ (i := 25) (N := some 187) (v := ?_) (a' := ?_) Fl3_55 rfl rfl (any_of HT_.out (by kernel_rfl)) (fun _ _ _ h => h) (Or.inl ⟨by rfl, ?_⟩) ?_ ?_; rotate_left; (intro w'; go_simp; with_reducible rfl); rotate_left; (simp only [Act.put, sI, sZ, sS, i64_w, i32_w]; rfl)
                                   refine pure_ (i := 26) (N := some 188) (v := ?_) (a' := ?_) Fl3_56 rfl rfl (any_of HT_.out (by kernel_rfl)) (fun _ _ _ h => h) (Or.inl ⟨by rfl, ?_⟩) ?_ ?_; rotate_left; (intro w'; go_simp; with_reducible rfl); rotate_left; (simp only [Act.put, sI, sZ, sS, i64_w, i32_w]; rfl)
                                   refine pure_ (i := 27) (N := some 189) (v := ?_) (a' := ?_) Fl3_57 rfl rfl (any_of HT_.out (by kernel_rfl)) (fun _ _ _ h => h) (Or.inl ⟨by rfl, ?_⟩) ?_ ?_; rotate_left; (intro w'; go_simp; with_reducible rfl); rotate_left; (simp only [Act.put, sI, sZ, sS, i64_w, i32_w]; rfl)
                                   refine pure_ (i := 28) (N := some 190) (v := ?_) (a' := ?_) Fl3_58 rfl rfl (any_of HT_.out (by kernel_rfl)) (fun _ _ _ h => h) (Or.inl ⟨by rfl, ?_⟩) ?_ ?_; rotate_left; (intro w'; go_simp; with_reducible rfl); rotate_left; (simp only [Act.put, sI, sZ, sS, i64_w, i32_w]; rfl)
                                   refine pure_ (i := 29) (N := some 191) (v := undef) (a' := ?_) Fl3_59 rfl rfl (any_of HT_.out (by kernel_rfl)) (fun _ _ _ h => h) (Or.inr ⟨by rfl, rfl⟩) ?_ ?_; rotate_left; (simp only [Act.put, sI, sZ, sS, i64_w, i32_w]; rfl)
                                   refine pure_ (i := 30) (N := some 192) (v := undef) (a' := ?_) Fl3_60 rfl rfl (any_of HT_.out (by kernel_rfl)) (fun _ _ _ h => h) (Or.inr ⟨by rfl, rfl⟩) ?_ ?_; rotate_left; (simp only [Act.put, sI, sZ, sS, i64_w, i32_w]; rfl)
                                   refine pure_ (i := 31) (N := some 193) (v := undef) (a' := ?_) Fl3_61 rfl rfl (any_of HT_.out (by kernel_rfl)) (fun _ _ _ h => h) (Or.inr ⟨by rfl, rfl⟩) ?_ ?_; rotate_left; (simp only [Act.put, sI, sZ, sS, i64_w, i32_w]; rfl)
                                   refine pure_ (i := 32) (N := some 194) (v := undef) (a' := ?_) Fl3_62 rfl rfl (any_of HT_.out (by kernel_rfl)) (fun _ _ _ h => h) (Or.inr ⟨by rfl, rfl⟩) ?_ ?_; rotate_left; (simp only [Act.put, sI, sZ, sS, i64_w, i32_w]; rfl)
                                   refine pure_ (i := 33) (N := some 195) (v := undef) (a' := ?_) Fl3_63 rfl rfl (any_of HT_.out (by kernel_rfl)) (fun _ _ _ h => h) (Or.inr ⟨by rfl, rfl⟩) ?_ ?_; rotate_left; (simp only [Act.put, sI, sZ, sS, i64_w, i32_w]; rfl)
                                   refine pure_ (i := 34) (N := some 196) (v := undef) (a' := ?_) Fl3_64 rfl rfl (any_of HT_.out (by kernel_rfl)) (fun _ _ _ h => h) (Or.inr ⟨by rfl, rfl⟩) ?_ ?_; rotate_left; (simp only [Act.put, sI, sZ, sS, i64_w, i32_w]; rfl)
                                   refine pure_ (i := 35) (N := some 197) (v := undef) (a' := ?_) Fl3_65 rfl rfl (any_of HT_.out (by kernel_rfl)) (fun _ _ _ h => h) (Or.inr ⟨by rfl, rfl⟩) ?_ ?_; rotate_left; (simp only [Act.put, sI, sZ, sS, i64_w, i32_w]; rfl)
                                   refine pure_ (i := 36) (N := some 198) (v := undef) (a' := ?_) Fl3_66 rfl rfl (any_of HT_.out (by kernel_rfl)) (fun _ _ _ h => h) (Or.inr ⟨by rfl, rfl⟩) ?_ ?_; rotate_left; (simp only [Act.put, sI, sZ, sS, i64_w, i32_w]; rfl)
                                   refine pure_ (i := 37) (N := some 199) (v := undef) (a' := ?_) Fl3_67 rfl rfl (any_of HT_.out (by kernel_rfl)) (fun _ _ _ h => h) (Or.inr ⟨by rfl, rfl⟩) ?_ ?_; rotate_left; (simp only [Act.put, sI, sZ, sS, i64_w, i32_w]; rfl)
                                   refine pure_ (i := 38) (N := some 200) (v := undef) (a' := ?_) Fl3_68 rfl rfl (any_of HT_.out (by kernel_rfl)) (fun _ _ _ h => h) (Or.inr ⟨by rfl, rfl⟩) ?_ ?_; rotate_left; (simp only [Act.put, sI, sZ, sS, i64_w, i32_w]; rfl)
                                   refine pure_ (i := 39) (N := some 201) (v := undef) (a' := ?_) Fl3_69 rfl rfl (any_of HT_.out (by kernel_rfl)) (fun _ _ _ h => h) (Or.inr ⟨by rfl, rfl⟩) ?_ ?_; rotate_left; (simp only [Act.put, sI, sZ, sS, i64_w, i32_w]; rfl)
                                   refine pure_ (i := 40) (N := some 202) (v := ?_) (a' := ?_) Fl3_70 rfl rfl (any_of HT_.out (by kernel_rfl)) (fun _ _ _ h => h) (Or.inl ⟨by rfl, ?_⟩) ?_ ?_; rotate_left; (intro w'; go_simp; with_reducible rfl); rotate_left; (simp only [Act.put, sI, sZ, sS, i64_w, i32_w]; rfl)
                                   refine pure_ (i := 41) (N := some 203) (v := ?_) (a' := ?_) Fl3_71 rfl rfl (any_of HT_.out (by kernel_rfl)) (fun _ _ _ h => h) (Or.inl ⟨by rfl, ?_⟩) ?_ ?_; rotate_left; (intro w'; go_simp; with_reducible rfl); rotate_left; (simp only [Act.put, sI, sZ, sS, i64_w, i32_w]; rfl)
                                   refine pure_ (i := 42) (N := some 204) (v := ?_) (a' := ?_) Fl3_72 rfl rfl (any_of HT_.out (by kernel_rfl)) (fun _ _ _ h => h) (Or.inl ⟨by rfl, ?_⟩) ?_ ?_; rotate_left; (intro w'; go_simp; with_reducible rfl); rotate_left; (simp only [Act.put, sI, sZ, sS, i64_w, i32_w]; rfl)
                                   refine pure_ (i := 43) (N := some 20) (v := ?_) (a' := ?_) Fl3_73 rfl rfl (any_of HT_.out (by kernel_rfl)) (fun _ _ _ h => h) (Or.inl ⟨by rfl, ?_⟩) ?_ ?_; rotate_left; (intro w'; go_simp; with_reducible rfl); rotate_left; (simp only [Act.put, sI, sZ, sS, i64_w, i32_w]; rfl)
                                   refine done_ (done_of HT_.out (by kernel_rfl)) ?_
                                   try go_wp2
                                   go_roundg k6
                                   case measure => have := HK1.out; have := HJ18.out; have := HK3.out; have := HK4.out; have := HK5.out; have := HK6.out; omega
                                   case rel => exact ⟨(true), (wrap64 (x21_6 + 1)), (by first | rfl | (simp; done) | (simp [*]; done)), (by first | rfl | (simp; done) | (simp [*]; done)), H', ⟨by have := HK1.out; have := HJ18.out; have := HK3.out; have := HK4.out; have := HK5.out; have := HK6.out; omega⟩, ⟨by (with_reducible repeat (first | apply Kd.R_alloc | apply Kd.R_drewN | apply Kd.R_drew)); exact HO_9.out⟩, ⟨by (with_reducible repeat (first | apply Kd.R_alloc | apply Kd.R_drewN | apply Kd.R_drew)); exact HO_11.out⟩, ⟨by repeat (first | (with_reducible first | exact HB.out | apply below_alloc | apply pw_below_drewN | apply below_drew1) | exact HB.out)⟩⟩
                                  ·rw [if_neg c80] at H
                                   have c80b0 : (((rd_T28 x9_1 x21_6).f2).toList == a2.toList) = false := beq_eq_false_iff_ne.mpr c80
                                   have c80b1 : (((rd_T28 x9_1 x21_6).f2).toList != a2.toList) = true := bne_iff_ne.mpr c80
                                   by_cases c82 : (wrap64 (1 + (wrap64 (Int.tmod (IntKind.u64.wrap (a1)) 3)))) = 3
                                   ·rw [if_pos c82] at H
                                    have c82b0 : ((wrap64 (1 + (wrap64 (Int.tmod (IntKind.u64.wrap (a1)) 3)))) == 3) = true := beq_iff_eq.mpr c82
                                    have c82b1 : ((wrap64 (1 + (wrap64 (Int.tmod (IntKind.u64.wrap (a1)) 3)))) != 3) = false := bne_eq_false_iff_eq.mpr c82
                                    clear c82
                                    replace H := Option.bind_eq_some_iff.mp H
                                    obtain ⟨t179, A830, H⟩ := H
                                    replace H : (RK.l13 k6 a2 (wrap64 (1 + (wrap64 (Int.tmod (IntKind.u64.wrap (a1)) 3)))) x9_1 t162 x19_5 t179 (wrap64 (x21_6 + 1))) = some r := H
                                    have A83 := Aside0.mk A830; clear A830
                                    have H' := Aside0.mk H
                                    clear H
                                    try go_wp2
                                    have n0_ := Aside0.mk (Kd.R_drew HO_9.out); have n1_ := Aside0.mk (Kd.R_drew HO_11.out); have n2_ := Aside0.mk (below_drew1 HB.out); clear HO_9 HO_11 HB; have HO_9 := n0_; have HO_11 := n1_; have HB := n2_; clear n0_ n1_ n2_
                                    have p175 : 0 ≤ (x21_6 : Int) := of_decide_eq_true (by first | (with_reducible assumption) | assumption)
                                    have q175 : x21_6 < (x9_1.length : Int) := of_decide_eq_true (by first | (with_reducible assumption) | assumption)
                                    obtain ⟨ad175, e175, hx175_0, hx175_1, hx175_2, hx175_3⟩ := at_T28 (Kd.R_reads' HO_9.out).2.2 x21_6 p175 q175
                                    cases e175
                                    replace p175 := eq_true p175
                                    replace q175 := eq_true q175
                                    have p176 : 0 ≤ (x19_5 : Int) := of_decide_eq_true (by first | (with_reducible assumption) | assumption)
                                    have q176 : x19_5 < (t162.length : Int) := of_decide_eq_true (by first | (with_reducible assumption) | assumption)
                                    obtain ⟨ad176, e176, hx176_0⟩ := Kd.at_string (Kd.R_reads' HO_11.out).2.2 x19_5 p176 q176
                                    cases e176
                                    replace p176 := eq_true p176
                                    replace q176 := eq_true q176
                                    have p177 : 0 ≤ (x21_6 : Int) := of_decide_eq_true (by first | (with_reducible assumption) | assumption)
                                    have q177 : x21_6 < (x9_1.length : Int) := of_decide_eq_true (by first | (with_reducible assumption) | assumption)
                                    obtain ⟨ad177, e177, hx177_0, hx177_1, hx177_2, hx177_3⟩ := at_T28 (Kd.R_reads' HO_9.out).2.2 x21_6 p177 q177
                                    obtain rfl : ad175 = ad177 := (by injection e177)
                                    replace p177 := eq_true p177
                                    replace q177 := eq_true q177
                                    have p178 : 0 ≤ (x21_6 : Int) := of_decide_eq_true (by first | (with_reducible assumption) | assumption)
                                    have q178 : x21_6 < (x9_1.length : Int) := of_decide_eq_true (by first | (with_reducible assumption) | assumption)
                                    obtain ⟨ad178, e178, hx178_0, hx178_1, hx178_2, hx178_3⟩ := at_T28 (Kd.R_reads' HO_9.out).2.2 x21_6 p178 q178
                                    obtain rfl : ad175 = ad178 := (by injection e178)
                                    replace p178 := eq_true p178
                                    replace q178 := eq_true q178
                                    refine start_ (n := 44) (S := fun w' => w'.cell? (ad175.add ((x21_6).toNat * 4)) = some (.string ((rd_T28 x9_1 x21_6).f0)) ∧ w'.cell? ⟨(ad175.add ((x21_6).toNat * 4)).block, (ad175.add ((x21_6).toNat * 4)).off + 1, none⟩ = some (.string ((rd_T28 x9_1 x21_6).f1)) ∧ w'.cell? ⟨(ad175.add ((x21_6).toNat * 4)).block, (ad175.add ((x21_6).toNat * 4)).off + 2, none⟩ = some (.string ((rd_T28 x9_1 x21_6).f2)) ∧ w'.cell? ⟨(ad175.add ((x21_6).toNat * 4)).block, (ad175.add ((x21_6).toNat * 4)).off + 3, none⟩ = some (.int .i64 ((rd_T28 x9_1 x21_6).f3)) ∧ w'.cell? (ad176.add (x19_5).toNat) = some (.string (rdOf ByteArray.empty t162 x19_5)) ∧ w'.cell? (ad175.add ((x21_6).toNat * 4)) = some (.string ((rd_T28 x9_1 x21_6).f0)) ∧ w'.cell? ⟨(ad175.add ((x21_6).toNat * 4)).block, (ad175.add ((x21_6).toNat * 4)).off + 1, none⟩ = some (.string ((rd_T28 x9_1 x21_6).f1)) ∧ w'.cell? ⟨(ad175.add ((x21_6).toNat * 4)).block, (ad175.add ((x21_6).toNat * 4)).off + 2, none⟩ = some (.string ((rd_T28 x9_1 x21_6).f2)) ∧ w'.cell? ⟨(ad175.add ((x21_6).toNat * 4)).block, (ad175.add ((x21_6).toNat * 4)).off + 3, none⟩ = some (.int .i64 ((rd_T28 x9_1 x21_6).f3)) ∧ w'.cell? (ad175.add ((x21_6).toNat * 4)) = some (.string ((rd_T28 x9_1 x21_6).f0)) ∧ w'.cell? ⟨(ad175.add ((x21_6).toNat * 4)).block, (ad175.add ((x21_6).toNat * 4)).off + 1, none⟩ = some (.string ((rd_T28 x9_1 x21_6).f1)) ∧ w'.cell? ⟨(ad175.add ((x21_6).toNat * 4)).block, (ad175.add ((x21_6).toNat * 4)).off + 2, none⟩ = some (.string ((rd_T28 x9_1 x21_6).f2)) ∧ w'.cell? ⟨(ad175.add ((x21_6).toNat * 4)).block, (ad175.add ((x21_6).toNat * 4)).off + 3, none⟩ = some (.int .i64 ((rd_T28 x9_1 x21_6).f3))) (ds := []) Fl3_29 (by kernel_rfl) rfl rfl ⟨hx175_0, hx175_1, hx175_2, hx175_3, hx176_0, hx177_0, hx177_1, hx177_2, hx177_3, hx178_0, hx178_1, hx178_2, hx178_3⟩ (fun hHeld => ?_); refine with_tabW RK.tab39 RK.bits39 (fun HT_ HW_ => ?_)
                                    generalize wr.drew = w84 at HO_9 HO_11 HB hx175_0 hx175_1 hx175_2 hx175_3 hx176_0 hx177_0 hx177_1 hx177_2 hx177_3 hx178_0 hx178_1 hx178_2 hx178_3 hHeld ⊢
                                    refine pure_ (i := 0) (N := some 162) (v := ?_) (a' := ?_) Fl3_30 rfl rfl (any_of HT_.out (by kernel_rfl)) (fun _ _ _ h => h) (Or.inl ⟨by rfl, ?_⟩) ?_ ?_; rotate_left; (intro w'; go_simp; with_reducible rfl); rotate_left; (simp only [Act.put, sI, sZ, sS, i64_w, i32_w]; rfl)
                                    refine pure_ (i := 1) (N := some 163) (v := ?_) (a' := ?_) Fl3_31 rfl rfl (any_of HT_.out (by kernel_rfl)) (fun _ _ _ h => h) (Or.inl ⟨by rfl, ?_⟩) ?_ ?_; rotate_left; (intro w'; go_simp; with_reducible rfl); rotate_left; (simp only [Act.put, sI, sZ, sS, i64_w, i32_w]; rfl)
                                    refine pure_ (i := 2) (N := some 164) (v := ?_) (a' := ?_) Fl3_32 rfl rfl (any_of HT_.out (by kernel_rfl)) (fun _ _ _ h => h) (Or.inl ⟨by rfl, ?_⟩) ?_ ?_; rotate_left; (intro w'; go_simp; with_reducible rfl); rotate_left; (simp only [Act.put, sI, sZ, sS, i64_w, i32_w]; rfl)
                                    refine pure_ (i := 3) (N := some 165) (v := ?_) (a' := ?_) Fl3_33 rfl rfl (any_of HT_.out (by kernel_rfl)) (fun _ _ _ h => h) (Or.inl ⟨by rfl, ?_⟩) ?_ ?_; rotate_left; (intro w'; go_simp; with_reducible rfl); rotate_left; (simp only [Act.put, sI, sZ, sS, i64_w, i32_w]; rfl)
                                    refine pure_ (i := 4) (N := some 166) (v := ?_) (a' := ?_) Fl3_34 rfl rfl (any_of HT_.out (by kernel_rfl)) (fun _ _ _ h => h) (Or.inl ⟨by rfl, ?_⟩) ?_ ?_; rotate_left; (intro w'; go_simp; with_reducible rfl); rotate_left; (simp only [Act.put, sI, sZ, sS, i64_w, i32_w]; rfl)
                                    refine pure_ (i := 5) (N := some 167) (v := ?_) (a' := ?_) Fl3_35 rfl rfl (any_of HT_.out (by kernel_rfl)) (fun _ _ _ h => h) (Or.inl ⟨by rfl, ?_⟩) ?_ ?_; rotate_left; (intro w'; go_simp; with_reducible rfl); rotate_left; (simp only [Act.put, sI, sZ, sS, i64_w, i32_w]; rfl)
                                    refine pure_ (i := 7) (N := some 169) (v := ?_) (a' := ?_) Fl3_74 rfl rfl (any_of HT_.out (by kernel_rfl)) (fun _ _ _ h => h) (Or.inl ⟨by rfl, ?_⟩) ?_ ?_; rotate_left; (intro w'; go_simp; with_reducible rfl); rotate_left; (simp only [Act.put, sI, sZ, sS, i64_w, i32_w]; rfl)
                                    refine pure_ (i := 8) (N := some 170) (v := ?_) (a' := ?_) Fl3_75 rfl rfl (any_of HT_.out (by kernel_rfl)) (fun _ _ _ h => h) (Or.inl ⟨by rfl, ?_⟩) ?_ ?_; rotate_left; (intro w'; go_simp; with_reducible rfl); rotate_left; (simp only [Act.put, sI, sZ, sS, i64_w, i32_w]; rfl)
                                    refine pure_ (i := 9) (N := some 171) (v := ?_) (a' := ?_) Fl3_76 rfl rfl (any_of HT_.out (by kernel_rfl)) (fun _ _ _ h => h) (Or.inl ⟨by rfl, ?_⟩) ?_ ?_; rotate_left; (intro w'; go_simp; with_reducible rfl); rotate_left; (simp only [Act.put, sI, sZ, sS, i64_w, i32_w]; rfl)
                                    refine take_ (i := 6) (N := some 168) (v := ?_) (a' := ?_) Fl3_39 rfl rfl (take_ofW HT_.out HW_.out (by kernel_rfl)) (fun _ _ _ h => h) (Or.inl ⟨by rfl, ?_⟩) hHeld ?_ ?_; rotate_left; (rintro w' ⟨s0, s1, s2, s3, s4, s5, s6, s7, s8, s9, s10, s11, s12⟩; go_simp; with_reducible rfl); rotate_left; (simp only [Act.put, sI, sZ, sS, i64_w, i32_w]; rfl)
                                    refine take_ (i := 10) (N := some 172) (v := ?_) (a' := ?_) Fl3_40 rfl rfl (take_ofW HT_.out HW_.out (by kernel_rfl)) (fun _ _ _ h => h) (Or.inl ⟨by rfl, ?_⟩) hHeld ?_ ?_; rotate_left; (rintro w' ⟨s0, s1, s2, s3, s4, s5, s6, s7, s8, s9, s10, s11, s12⟩; go_simp; with_reducible rfl); rotate_left; (simp only [Act.put, sI, sZ, sS, i64_w, i32_w]; rfl)
                                    refine pure_ (i := 11) (N := some 173) (v := ?_) (a' := ?_) Fl3_41 rfl rfl (any_of HT_.out (by kernel_rfl)) (fun _ _ _ h => h) (Or.inl ⟨by rfl, ?_⟩) ?_ ?_; rotate_left; (intro w'; go_simp; with_reducible rfl); rotate_left; (simp only [Act.put, sI, sZ, sS, i64_w, i32_w]; rfl)
                                    refine pure_ (i := 12) (N := some 174) (v := ?_) (a' := ?_) Fl3_42 rfl rfl (any_of HT_.out (by kernel_rfl)) (fun _ _ _ h => h) (Or.inl ⟨by rfl, ?_⟩) ?_ ?_; rotate_left; (intro w'; go_simp; with_reducible rfl); rotate_left; (simp only [Act.put, sI, sZ, sS, i64_w, i32_w]; rfl)
                                    refine pure_ (i := 13) (N := some 175) (v := ?_) (a' := ?_) Fl3_43 rfl rfl (any_of HT_.out (by kernel_rfl)) (fun _ _ _ h => h) (Or.inl ⟨by rfl, ?_⟩) ?_ ?_; rotate_left; (intro w'; go_simp; with_reducible rfl); rotate_left; (simp only [Act.put, sI, sZ, sS, i64_w, i32_w]; rfl)
                                    refine pure_ (i := 14) (N := some 176) (v := ?_) (a' := ?_) Fl3_44 rfl rfl (any_of HT_.out (by kernel_rfl)) (fun _ _ _ h => h) (Or.inl ⟨by rfl, ?_⟩) ?_ ?_; rotate_left; (intro w'; go_simp; with_reducible rfl); rotate_left; (simp only [Act.put, sI, sZ, sS, i64_w, i32_w]; rfl)
                                    refine pure_ (i := 15) (N := some 177) (v := ?_) (a' := ?_) Fl3_45 rfl rfl (any_of HT_.out (by kernel_rfl)) (fun _ _ _ h => h) (Or.inl ⟨by rfl, ?_⟩) ?_ ?_; rotate_left; (intro w'; go_simp; with_reducible rfl); rotate_left; (simp only [Act.put, sI, sZ, sS, i64_w, i32_w]; rfl)
                                    refine pure_ (i := 16) (N := some 178) (v := ?_) (a' := ?_) Fl3_46 rfl rfl (any_of HT_.out (by kernel_rfl)) (fun _ _ _ h => h) (Or.inl ⟨by rfl, ?_⟩) ?_ ?_; rotate_left; (intro w'; go_simp; with_reducible rfl); rotate_left; (simp only [Act.put, sI, sZ, sS, i64_w, i32_w]; rfl)
                                    refine pure_ (i := 17) (N := some 179) (v := ?_) (a' := ?_) Fl3_47 rfl rfl (any_of HT_.out (by kernel_rfl)) (fun _ _ _ h => h) (Or.inl ⟨by rfl, ?_⟩) ?_ ?_; rotate_left; (intro w'; go_simp; with_reducible rfl); rotate_left; (simp only [Act.put, sI, sZ, sS, i64_w, i32_w]; rfl)
                                    refine pure_ (i := 18) (N := some 180) (v := ?_) (a' := ?_) Fl3_48 rfl rfl (any_of HT_.out (by kernel_rfl)) (fun _ _ _ h => h) (Or.inl ⟨by rfl, ?_⟩) ?_ ?_; rotate_left; (intro w'; go_simp; with_reducible rfl); rotate_left; (simp only [Act.put, sI, sZ, sS, i64_w, i32_w]; rfl)
                                    refine pure_ (i := 19) (N := some 181) (v := ?_) (a' := ?_) Fl3_49 rfl rfl (any_of HT_.out (by kernel_rfl)) (fun _ _ _ h => h) (Or.inl ⟨by rfl, ?_⟩) ?_ ?_; rotate_left; (intro w'; go_simp; with_reducible rfl); rotate_left; (simp only [Act.put, sI, sZ, sS, i64_w, i32_w]; rfl)
                                    refine pure_ (i := 20) (N := some 182) (v := ?_) (a' := ?_) Fl3_50 rfl rfl (any_of HT_.out (by kernel_rfl)) (fun _ _ _ h => h) (Or.inl ⟨by rfl, ?_⟩) ?_ ?_; rotate_left; (intro w'; go_simp; with_reducible rfl); rotate_left; (simp only [Act.put, sI, sZ, sS, i64_w, i32_w]; rfl)
                                    refine pure_ (i := 21) (N := some 183) (v := ?_) (a' := ?_) Fl3_51 rfl rfl (any_of HT_.out (by kernel_rfl)) (fun _ _ _ h => h) (Or.inl ⟨by rfl, ?_⟩) ?_ ?_; rotate_left; (intro w'; go_simp; with_reducible rfl); rotate_left; (simp only [Act.put, sI, sZ, sS, i64_w, i32_w]; rfl)
                                    refine pure_ (i := 22) (N := some 184) (v := ?_) (a' := ?_) Fl3_52 rfl rfl (any_of HT_.out (by kernel_rfl)) (fun _ _ _ h => h) (Or.inl ⟨by rfl, ?_⟩) ?_ ?_; rotate_left; (intro w'; go_simp; with_reducible rfl); rotate_left; (simp only [Act.put, sI, sZ, sS, i64_w, i32_w]; rfl)
                                    refine pure_ (i := 24) (N := some 186) (v := ?_) (a' := ?_) Fl3_77 rfl rfl (any_of HT_.out (by kernel_rfl)) (fun _ _ _ h => h) (Or.inl ⟨by rfl, ?_⟩) ?_ ?_; rotate_left; (intro w'; go_simp; with_reducible rfl); rotate_left; (simp only [Act.put, sI, sZ, sS, i64_w, i32_w]; rfl)
                                    refine take_ (i := 23) (N := some 185) (v := ?_) (a' := ?_) Fl3_54 rfl rfl (take_ofW HT_.out HW_.out (by kernel_rfl)) (fun _ _ _ h => h) (Or.inl ⟨by rfl, ?_⟩) hHeld ?_ ?_; rotate_left; (rintro w' ⟨s0, s1, s2, s3, s4, s5, s6, s7, s8, s9, s10, s11, s12⟩; go_simp; with_reducible rfl); rotate_left; (simp only [Act.put, sI, sZ, sS, i64_w, i32_w]; rfl)
                                    refine pure_ (i := 25) (N := some 187) (v := ?_) (a' := ?_) Fl3_55 rfl rfl (any_of HT_.out (by kernel_rfl)) (fun _ _ _ h => h) (Or.inl ⟨by rfl, ?_⟩) ?_ ?_; rotate_left; (intro w'; go_simp; with_reducible rfl); rotate_left; (simp only [Act.put, sI, sZ, sS, i64_w, i32_w]; rfl)
                                    refine pure_ (i := 26) (N := some 188) (v := ?_) (a' := ?_) Fl3_56 rfl rfl (any_of HT_.out (by kernel_rfl)) (fun _ _ _ h => h) (Or.inl ⟨by rfl, ?_⟩) ?_ ?_; rotate_left; (intro w'; go_simp; with_reducible rfl); rotate_left; (simp only [Act.put, sI, sZ, sS, i64_w, i32_w]; rfl)
                                    refine pure_ (i := 27) (N := some 189) (v := ?_) (a' := ?_) Fl3_57 rfl rfl (any_of HT_.out (by kernel_rfl)) (fun _ _ _ h => h) (Or.inl ⟨by rfl, ?_⟩) ?_ ?_; rotate_left; (intro w'; go_simp; with_reducible rfl); rotate_left; (simp only [Act.put, sI, sZ, sS, i64_w, i32_w]; rfl)
                                    refine pure_ (i := 28) (N := some 190) (v := ?_) (a' := ?_) Fl3_58 rfl rfl (any_of HT_.out (by kernel_rfl)) (fun _ _ _ h => h) (Or.inl ⟨by rfl, ?_⟩) ?_ ?_; rotate_left; (intro w'; go_simp; with_reducible rfl); rotate_left; (simp only [Act.put, sI, sZ, sS, i64_w, i32_w]; rfl)
                                    refine pure_ (i := 29) (N := some 191) (v := ?_) (a' := ?_) Fl3_59 rfl rfl (any_of HT_.out (by kernel_rfl)) (fun _ _ _ h => h) (Or.inl ⟨by rfl, ?_⟩) ?_ ?_; rotate_left; (intro w'; go_simp; with_reducible rfl); rotate_left; (simp only [Act.put, sI, sZ, sS, i64_w, i32_w]; rfl)
                                    refine pure_ (i := 30) (N := some 192) (v := ?_) (a' := ?_) Fl3_60 rfl rfl (any_of HT_.out (by kernel_rfl)) (fun _ _ _ h => h) (Or.inl ⟨by rfl, ?_⟩) ?_ ?_; rotate_left; (intro w'; go_simp; with_reducible rfl); rotate_left; (simp only [Act.put, sI, sZ, sS, i64_w, i32_w]; rfl)
                                    refine pure_ (i := 31) (N := some 193) (v := ?_) (a' := ?_) Fl3_61 rfl rfl (any_of HT_.out (by kernel_rfl)) (fun _ _ _ h => h) (Or.inl ⟨by rfl, ?_⟩) ?_ ?_; rotate_left; (intro w'; go_simp; with_reducible rfl); rotate_left; (simp only [Act.put, sI, sZ, sS, i64_w, i32_w]; rfl)
                                    refine pure_ (i := 32) (N := some 194) (v := ?_) (a' := ?_) Fl3_62 rfl rfl (any_of HT_.out (by kernel_rfl)) (fun _ _ _ h => h) (Or.inl ⟨by rfl, ?_⟩) ?_ ?_; rotate_left; (intro w'; go_simp; with_reducible rfl); rotate_left; (simp only [Act.put, sI, sZ, sS, i64_w, i32_w]; rfl)
                                    refine pure_ (i := 33) (N := some 195) (v := ?_) (a' := ?_) Fl3_63 rfl rfl (any_of HT_.out (by kernel_rfl)) (fun _ _ _ h => h) (Or.inl ⟨by rfl, ?_⟩) ?_ ?_; rotate_left; (intro w'; go_simp; with_reducible rfl); rotate_left; (simp only [Act.put, sI, sZ, sS, i64_w, i32_w]; rfl)
                                    refine pure_ (i := 34) (N := some 196) (v := ?_) (a' := ?_) Fl3_64 rfl rfl (any_of HT_.out (by kernel_rfl)) (fun _ _ _ h => h) (Or.inl ⟨by rfl, ?_⟩) ?_ ?_; rotate_left; (intro w'; go_simp; with_reducible rfl); rotate_left; (simp only [Act.put, sI, sZ, sS, i64_w, i32_w]; rfl)
                                    refine pure_ (i := 35) (N := some 197) (v := ?_) (a' := ?_) Fl3_65 rfl rfl (any_of HT_.out (by kernel_rfl)) (fun _ _ _ h => h) (Or.inl ⟨by rfl, ?_⟩) ?_ ?_; rotate_left; (intro w'; go_simp; with_reducible rfl); rotate_left; (simp only [Act.put, sI, sZ, sS, i64_w, i32_w]; rfl)
                                    refine pure_ (i := 37) (N := some 199) (v := ?_) (a' := ?_) Fl3_78 rfl rfl (any_of HT_.out (by kernel_rfl)) (fun _ _ _ h => h) (Or.inl ⟨by rfl, ?_⟩) ?_ ?_; rotate_left; (intro w'; go_simp; with_reducible rfl); rotate_left; (simp only [Act.put, sI, sZ, sS, i64_w, i32_w]; rfl)
                                    refine take_ (i := 36) (N := some 198) (v := ?_) (a' := ?_) Fl3_67 rfl rfl (take_ofW HT_.out HW_.out (by kernel_rfl)) (fun _ _ _ h => h) (Or.inl ⟨by rfl, ?_⟩) hHeld ?_ ?_; rotate_left; (rintro w' ⟨s0, s1, s2, s3, s4, s5, s6, s7, s8, s9, s10, s11, s12⟩; go_simp; with_reducible rfl); rotate_left; (simp only [Act.put, sI, sZ, sS, i64_w, i32_w]; rfl)
                                    refine one_ (i := 38) (N := some 200) Fl3_68 rfl rfl (one_of HT_.out (by kernel_rfl)) (by decide) (fun K hK => ?_)
                                    refine goes_ Tryd.func11 (by kernel_rfl) rfl #[.string ((rd_T28 x9_1 x21_6).f2), .string a2] (by rfl) rfl rfl (by (try simp only [List.map_toArray, List.map_cons, List.map_nil]); first | done | rfl | (simp only [List.length_drop, List.length_take]; rfl)) ?_
                                    with_reducible refine (topic_Match.calls ((rd_T28 x9_1 x21_6).f2) a2 t179 _ ?side1 A83.out).mono ?_
                                    (case side1 => exact Gl.below HGL.out (by repeat (first | (with_reducible first | exact HB.out | apply below_alloc | apply pw_below_drewN | apply below_drew1) | exact HB.out)))
                                    rintro e w85 ⟨rfl, hb⟩
                                    have HS0_ := (hb.cell (World.block_lt_of_cell? _ _ (hHeld.1))).trans (hHeld.1); have HS1_ := (hb.cell (World.block_lt_of_cell? _ _ (hHeld.2.1))).trans (hHeld.2.1); have HS2_ := (hb.cell (World.block_lt_of_cell? _ _ (hHeld.2.2.1))).trans (hHeld.2.2.1); have HS3_ := (hb.cell (World.block_lt_of_cell? _ _ (hHeld.2.2.2.1))).trans (hHeld.2.2.2.1); have HS4_ := (hb.cell (World.block_lt_of_cell? _ _ (hHeld.2.2.2.2.1))).trans (hHeld.2.2.2.2.1); have HS5_ := (hb.cell (World.block_lt_of_cell? _ _ (hHeld.2.2.2.2.2.1))).trans (hHeld.2.2.2.2.2.1); have HS6_ := (hb.cell (World.block_lt_of_cell? _ _ (hHeld.2.2.2.2.2.2.1))).trans (hHeld.2.2.2.2.2.2.1); have HS7_ := (hb.cell (World.block_lt_of_cell? _ _ (hHeld.2.2.2.2.2.2.2.1))).trans (hHeld.2.2.2.2.2.2.2.1); have HS8_ := (hb.cell (World.block_lt_of_cell? _ _ (hHeld.2.2.2.2.2.2.2.2.1))).trans (hHeld.2.2.2.2.2.2.2.2.1); have HS9_ := (hb.cell (World.block_lt_of_cell? _ _ (hHeld.2.2.2.2.2.2.2.2.2.1))).trans (hHeld.2.2.2.2.2.2.2.2.2.1); have HS10_ := (hb.cell (World.block_lt_of_cell? _ _ (hHeld.2.2.2.2.2.2.2.2.2.2.1))).trans (hHeld.2.2.2.2.2.2.2.2.2.2.1); have HS11_ := (hb.cell (World.block_lt_of_cell? _ _ (hHeld.2.2.2.2.2.2.2.2.2.2.2.1))).trans (hHeld.2.2.2.2.2.2.2.2.2.2.2.1); have HS12_ := (hb.cell (World.block_lt_of_cell? _ _ (hHeld.2.2.2.2.2.2.2.2.2.2.2.2))).trans (hHeld.2.2.2.2.2.2.2.2.2.2.2.2)
                                    refine ⟨_, rfl, ?_⟩
                                    have n0_ := Aside0.mk (Kd.R_below (by (with_reducible repeat (first | apply Kd.R_alloc | apply Kd.R_drewN | apply Kd.R_drew)); exact HO_9.out) hb); have n1_ := Aside0.mk (Kd.R_below (by (with_reducible repeat (first | apply Kd.R_alloc | apply Kd.R_drewN | apply Kd.R_drew)); exact HO_11.out) hb); have n2_ := Aside0.mk (below_step (by repeat (first | (with_reducible first | exact HB.out | apply below_alloc | apply pw_below_drewN | apply below_drew1) | exact HB.out)) hb); clear HO_9 HO_11 HB; have HO_9 := n0_; have HO_11 := n1_; have HB := n2_; clear n0_ n1_ n2_
                                    (try clear hb)
                                    (try clear hb2)
                                    (try clear hk)
                                    (try clear hi)
                                    refine hK.out _ _ ⟨HS0_, HS1_, HS2_, HS3_, HS4_, HS5_, HS6_, HS7_, HS8_, HS9_, HS10_, HS11_, HS12_⟩ (fun hHeld => ?_)
                                    clear hK K
                                    refine norm_ (a' := ?_) ?_ ?_
                                    rotate_left
                                    ·show Act.put _ (some 200) _ = _
                                     simp only [Act.put, sI, sZ, sS, i64_w, i32_w]
                                     rfl
                                    refine pure_ (i := 39) (N := some 201) (v := ?_) (a' := ?_) Fl3_69 rfl rfl (any_of HT_.out (by kernel_rfl)) (fun _ _ _ h => h) (Or.inl ⟨by rfl, ?_⟩) ?_ ?_; rotate_left; (intro w'; go_simp; with_reducible rfl); rotate_left; (simp only [Act.put, sI, sZ, sS, i64_w, i32_w]; rfl)
                                    refine pure_ (i := 40) (N := some 202) (v := ?_) (a' := ?_) Fl3_70 rfl rfl (any_of HT_.out (by kernel_rfl)) (fun _ _ _ h => h) (Or.inl ⟨by rfl, ?_⟩) ?_ ?_; rotate_left; (intro w'; go_simp; with_reducible rfl); rotate_left; (simp only [Act.put, sI, sZ, sS, i64_w, i32_w]; rfl)
                                    refine pure_ (i := 41) (N := some 203) (v := ?_) (a' := ?_) Fl3_71 rfl rfl (any_of HT_.out (by kernel_rfl)) (fun _ _ _ h => h) (Or.inl ⟨by rfl, ?_⟩) ?_ ?_; rotate_left; (intro w'; go_simp; with_reducible rfl); rotate_left; (simp only [Act.put, sI, sZ, sS, i64_w, i32_w]; rfl)
                                    refine pure_ (i := 42) (N := some 204) (v := ?_) (a' := ?_) Fl3_72 rfl rfl (any_of HT_.out (by kernel_rfl)) (fun _ _ _ h => h) (Or.inl ⟨by rfl, ?_⟩) ?_ ?_; rotate_left; (intro w'; go_simp; with_reducible rfl); rotate_left; (simp only [Act.put, sI, sZ, sS, i64_w, i32_w]; rfl)
                                    refine pure_ (i := 43) (N := some 20) (v := ?_) (a' := ?_) Fl3_73 rfl rfl (any_of HT_.out (by kernel_rfl)) (fun _ _ _ h => h) (Or.inl ⟨by rfl, ?_⟩) ?_ ?_; rotate_left; (intro w'; go_simp; with_reducible rfl); rotate_left; (simp only [Act.put, sI, sZ, sS, i64_w, i32_w]; rfl)
                                    refine done_ (done_of HT_.out (by kernel_rfl)) ?_
                                    try go_wp2
                                    go_roundg k6
                                    case measure => have := HK1.out; have := HJ18.out; have := HK3.out; have := HK4.out; have := HK5.out; have := HK6.out; omega
                                    case rel => exact ⟨(t179), (wrap64 (x21_6 + 1)), (by first | rfl | (simp; done) | (simp [*]; done)), (by first | rfl | (simp; done) | (simp [*]; done)), H', ⟨by have := HK1.out; have := HJ18.out; have := HK3.out; have := HK4.out; have := HK5.out; have := HK6.out; omega⟩, ⟨by (with_reducible repeat (first | apply Kd.R_alloc | apply Kd.R_drewN | apply Kd.R_drew)); exact HO_9.out⟩, ⟨by (with_reducible repeat (first | apply Kd.R_alloc | apply Kd.R_drewN | apply Kd.R_drew)); exact HO_11.out⟩, ⟨by repeat (first | (with_reducible first | exact HB.out | apply below_alloc | apply pw_below_drewN | apply below_drew1) | exact HB.out)⟩⟩
                                   ·rw [if_neg c82] at H
                                    have c82b0 : ((wrap64 (1 + (wrap64 (Int.tmod (IntKind.u64.wrap (a1)) 3)))) == 3) = false := beq_eq_false_iff_ne.mpr c82
                                    have c82b1 : ((wrap64 (1 + (wrap64 (Int.tmod (IntKind.u64.wrap (a1)) 3)))) != 3) = true := bne_iff_ne.mpr c82
                                    have H' := Aside0.mk H
                                    clear H
                                    try go_wp2
                                    have n0_ := Aside0.mk (Kd.R_drew HO_9.out); have n1_ := Aside0.mk (Kd.R_drew HO_11.out); have n2_ := Aside0.mk (below_drew1 HB.out); clear HO_9 HO_11 HB; have HO_9 := n0_; have HO_11 := n1_; have HB := n2_; clear n0_ n1_ n2_
                                    have p175 : 0 ≤ (x21_6 : Int) := of_decide_eq_true (by first | (with_reducible assumption) | assumption)
                                    have q175 : x21_6 < (x9_1.length : Int) := of_decide_eq_true (by first | (with_reducible assumption) | assumption)
                                    obtain ⟨ad175, e175, hx175_0, hx175_1, hx175_2, hx175_3⟩ := at_T28 (Kd.R_reads' HO_9.out).2.2 x21_6 p175 q175
                                    cases e175
                                    replace p175 := eq_true p175
                                    replace q175 := eq_true q175
                                    have p176 : 0 ≤ (x19_5 : Int) := of_decide_eq_true (by first | (with_reducible assumption) | assumption)
                                    have q176 : x19_5 < (t162.length : Int) := of_decide_eq_true (by first | (with_reducible assumption) | assumption)
                                    obtain ⟨ad176, e176, hx176_0⟩ := Kd.at_string (Kd.R_reads' HO_11.out).2.2 x19_5 p176 q176
                                    cases e176
                                    replace p176 := eq_true p176
                                    replace q176 := eq_true q176
                                    have p177 : 0 ≤ (x21_6 : Int) := of_decide_eq_true (by first | (with_reducible assumption) | assumption)
                                    have q177 : x21_6 < (x9_1.length : Int) := of_decide_eq_true (by first | (with_reducible assumption) | assumption)
                                    obtain ⟨ad177, e177, hx177_0, hx177_1, hx177_2, hx177_3⟩ := at_T28 (Kd.R_reads' HO_9.out).2.2 x21_6 p177 q177
                                    obtain rfl : ad175 = ad177 := (by injection e177)
                                    replace p177 := eq_true p177
                                    replace q177 := eq_true q177
                                    refine start_ (n := 44) (S := fun w' => w'.cell? (ad175.add ((x21_6).toNat * 4)) = some (.string ((rd_T28 x9_1 x21_6).f0)) ∧ w'.cell? ⟨(ad175.add ((x21_6).toNat * 4)).block, (ad175.add ((x21_6).toNat * 4)).off + 1, none⟩ = some (.string ((rd_T28 x9_1 x21_6).f1)) ∧ w'.cell? ⟨(ad175.add ((x21_6).toNat * 4)).block, (ad175.add ((x21_6).toNat * 4)).off + 2, none⟩ = some (.string ((rd_T28 x9_1 x21_6).f2)) ∧ w'.cell? ⟨(ad175.add ((x21_6).toNat * 4)).block, (ad175.add ((x21_6).toNat * 4)).off + 3, none⟩ = some (.int .i64 ((rd_T28 x9_1 x21_6).f3)) ∧ w'.cell? (ad176.add (x19_5).toNat) = some (.string (rdOf ByteArray.empty t162 x19_5)) ∧ w'.cell? (ad175.add ((x21_6).toNat * 4)) = some (.string ((rd_T28 x9_1 x21_6).f0)) ∧ w'.cell? ⟨(ad175.add ((x21_6).toNat * 4)).block, (ad175.add ((x21_6).toNat * 4)).off + 1, none⟩ = some (.string ((rd_T28 x9_1 x21_6).f1)) ∧ w'.cell? ⟨(ad175.add ((x21_6).toNat * 4)).block, (ad175.add ((x21_6).toNat * 4)).off + 2, none⟩ = some (.string ((rd_T28 x9_1 x21_6).f2)) ∧ w'.cell? ⟨(ad175.add ((x21_6).toNat * 4)).block, (ad175.add ((x21_6).toNat * 4)).off + 3, none⟩ = some (.int .i64 ((rd_T28 x9_1 x21_6).f3))) (ds := []) Fl3_29 (by kernel_rfl) rfl rfl ⟨hx175_0, hx175_1, hx175_2, hx175_3, hx176_0, hx177_0, hx177_1, hx177_2, hx177_3⟩ (fun hHeld => ?_); refine with_tabW RK.tab39 RK.bits39 (fun HT_ HW_ => ?_)
                                    generalize wr.drew = w86 at HO_9 HO_11 HB hx175_0 hx175_1 hx175_2 hx175_3 hx176_0 hx177_0 hx177_1 hx177_2 hx177_3 hHeld ⊢
                                    refine pure_ (i := 0) (N := some 162) (v := ?_) (a' := ?_) Fl3_30 rfl rfl (any_of HT_.out (by kernel_rfl)) (fun _ _ _ h => h) (Or.inl ⟨by rfl, ?_⟩) ?_ ?_; rotate_left; (intro w'; go_simp; with_reducible rfl); rotate_left; (simp only [Act.put, sI, sZ, sS, i64_w, i32_w]; rfl)
                                    refine pure_ (i := 1) (N := some 163) (v := ?_) (a' := ?_) Fl3_31 rfl rfl (any_of HT_.out (by kernel_rfl)) (fun _ _ _ h => h) (Or.inl ⟨by rfl, ?_⟩) ?_ ?_; rotate_left; (intro w'; go_simp; with_reducible rfl); rotate_left; (simp only [Act.put, sI, sZ, sS, i64_w, i32_w]; rfl)
                                    refine pure_ (i := 2) (N := some 164) (v := ?_) (a' := ?_) Fl3_32 rfl rfl (any_of HT_.out (by kernel_rfl)) (fun _ _ _ h => h) (Or.inl ⟨by rfl, ?_⟩) ?_ ?_; rotate_left; (intro w'; go_simp; with_reducible rfl); rotate_left; (simp only [Act.put, sI, sZ, sS, i64_w, i32_w]; rfl)
                                    refine pure_ (i := 3) (N := some 165) (v := ?_) (a' := ?_) Fl3_33 rfl rfl (any_of HT_.out (by kernel_rfl)) (fun _ _ _ h => h) (Or.inl ⟨by rfl, ?_⟩) ?_ ?_; rotate_left; (intro w'; go_simp; with_reducible rfl); rotate_left; (simp only [Act.put, sI, sZ, sS, i64_w, i32_w]; rfl)
                                    refine pure_ (i := 4) (N := some 166) (v := ?_) (a' := ?_) Fl3_34 rfl rfl (any_of HT_.out (by kernel_rfl)) (fun _ _ _ h => h) (Or.inl ⟨by rfl, ?_⟩) ?_ ?_; rotate_left; (intro w'; go_simp; with_reducible rfl); rotate_left; (simp only [Act.put, sI, sZ, sS, i64_w, i32_w]; rfl)
                                    refine pure_ (i := 5) (N := some 167) (v := ?_) (a' := ?_) Fl3_35 rfl rfl (any_of HT_.out (by kernel_rfl)) (fun _ _ _ h => h) (Or.inl ⟨by rfl, ?_⟩) ?_ ?_; rotate_left; (intro w'; go_simp; with_reducible rfl); rotate_left; (simp only [Act.put, sI, sZ, sS, i64_w, i32_w]; rfl)
                                    refine pure_ (i := 7) (N := some 169) (v := ?_) (a' := ?_) Fl3_74 rfl rfl (any_of HT_.out (by kernel_rfl)) (fun _ _ _ h => h) (Or.inl ⟨by rfl, ?_⟩) ?_ ?_; rotate_left; (intro w'; go_simp; with_reducible rfl); rotate_left; (simp only [Act.put, sI, sZ, sS, i64_w, i32_w]; rfl)
                                    refine pure_ (i := 8) (N := some 170) (v := ?_) (a' := ?_) Fl3_75 rfl rfl (any_of HT_.out (by kernel_rfl)) (fun _ _ _ h => h) (Or.inl ⟨by rfl, ?_⟩) ?_ ?_; rotate_left; (intro w'; go_simp; with_reducible rfl); rotate_left; (simp only [Act.put, sI, sZ, sS, i64_w, i32_w]; rfl)
                                    refine pure_ (i := 9) (N := some 171) (v := ?_) (a' := ?_) Fl3_76 rfl rfl (any_of HT_.out (by kernel_rfl)) (fun _ _ _ h => h) (Or.inl ⟨by rfl, ?_⟩) ?_ ?_; rotate_left; (intro w'; go_simp; with_reducible rfl); rotate_left; (simp only [Act.put, sI, sZ, sS, i64_w, i32_w]; rfl)
                                    refine take_ (i := 6) (N := some 168) (v := ?_) (a' := ?_) Fl3_39 rfl rfl (take_ofW HT_.out HW_.out (by kernel_rfl)) (fun _ _ _ h => h) (Or.inl ⟨by rfl, ?_⟩) hHeld ?_ ?_; rotate_left; (rintro w' ⟨s0, s1, s2, s3, s4, s5, s6, s7, s8⟩; go_simp; with_reducible rfl); rotate_left; (simp only [Act.put, sI, sZ, sS, i64_w, i32_w]; rfl)
                                    refine take_ (i := 10) (N := some 172) (v := ?_) (a' := ?_) Fl3_40 rfl rfl (take_ofW HT_.out HW_.out (by kernel_rfl)) (fun _ _ _ h => h) (Or.inl ⟨by rfl, ?_⟩) hHeld ?_ ?_; rotate_left; (rintro w' ⟨s0, s1, s2, s3, s4, s5, s6, s7, s8⟩; go_simp; with_reducible rfl); rotate_left; (simp only [Act.put, sI, sZ, sS, i64_w, i32_w]; rfl)
                                    refine pure_ (i := 11) (N := some 173) (v := ?_) (a' := ?_) Fl3_41 rfl rfl (any_of HT_.out (by kernel_rfl)) (fun _ _ _ h => h) (Or.inl ⟨by rfl, ?_⟩) ?_ ?_; rotate_left; (intro w'; go_simp; with_reducible rfl); rotate_left; (simp only [Act.put, sI, sZ, sS, i64_w, i32_w]; rfl)
                                    refine pure_ (i := 12) (N := some 174) (v := ?_) (a' := ?_) Fl3_42 rfl rfl (any_of HT_.out (by kernel_rfl)) (fun _ _ _ h => h) (Or.inl ⟨by rfl, ?_⟩) ?_ ?_; rotate_left; (intro w'; go_simp; with_reducible rfl); rotate_left; (simp only [Act.put, sI, sZ, sS, i64_w, i32_w]; rfl)
                                    refine pure_ (i := 13) (N := some 175) (v := ?_) (a' := ?_) Fl3_43 rfl rfl (any_of HT_.out (by kernel_rfl)) (fun _ _ _ h => h) (Or.inl ⟨by rfl, ?_⟩) ?_ ?_; rotate_left; (intro w'; go_simp; with_reducible rfl); rotate_left; (simp only [Act.put, sI, sZ, sS, i64_w, i32_w]; rfl)
                                    refine pure_ (i := 14) (N := some 176) (v := ?_) (a' := ?_) Fl3_44 rfl rfl (any_of HT_.out (by kernel_rfl)) (fun _ _ _ h => h) (Or.inl ⟨by rfl, ?_⟩) ?_ ?_; rotate_left; (intro w'; go_simp; with_reducible rfl); rotate_left; (simp only [Act.put, sI, sZ, sS, i64_w, i32_w]; rfl)
                                    refine pure_ (i := 15) (N := some 177) (v := ?_) (a' := ?_) Fl3_45 rfl rfl (any_of HT_.out (by kernel_rfl)) (fun _ _ _ h => h) (Or.inl ⟨by rfl, ?_⟩) ?_ ?_; rotate_left; (intro w'; go_simp; with_reducible rfl); rotate_left; (simp only [Act.put, sI, sZ, sS, i64_w, i32_w]; rfl)
                                    refine pure_ (i := 16) (N := some 178) (v := ?_) (a' := ?_) Fl3_46 rfl rfl (any_of HT_.out (by kernel_rfl)) (fun _ _ _ h => h) (Or.inl ⟨by rfl, ?_⟩) ?_ ?_; rotate_left; (intro w'; go_simp; with_reducible rfl); rotate_left; (simp only [Act.put, sI, sZ, sS, i64_w, i32_w]; rfl)
                                    refine pure_ (i := 17) (N := some 179) (v := ?_) (a' := ?_) Fl3_47 rfl rfl (any_of HT_.out (by kernel_rfl)) (fun _ _ _ h => h) (Or.inl ⟨by rfl, ?_⟩) ?_ ?_; rotate_left; (intro w'; go_simp; with_reducible rfl); rotate_left; (simp only [Act.put, sI, sZ, sS, i64_w, i32_w]; rfl)
                                    refine pure_ (i := 18) (N := some 180) (v := ?_) (a' := ?_) Fl3_48 rfl rfl (any_of HT_.out (by kernel_rfl)) (fun _ _ _ h => h) (Or.inl ⟨by rfl, ?_⟩) ?_ ?_; rotate_left; (intro w'; go_simp; with_reducible rfl); rotate_left; (simp only [Act.put, sI, sZ, sS, i64_w, i32_w]; rfl)
                                    refine pure_ (i := 19) (N := some 181) (v := ?_) (a' := ?_) Fl3_49 rfl rfl (any_of HT_.out (by kernel_rfl)) (fun _ _ _ h => h) (Or.inl ⟨by rfl, ?_⟩) ?_ ?_; rotate_left; (intro w'; go_simp; with_reducible rfl); rotate_left; (simp only [Act.put, sI, sZ, sS, i64_w, i32_w]; rfl)
                                    refine pure_ (i := 20) (N := some 182) (v := ?_) (a' := ?_) Fl3_50 rfl rfl (any_of HT_.out (by kernel_rfl)) (fun _ _ _ h => h) (Or.inl ⟨by rfl, ?_⟩) ?_ ?_; rotate_left; (intro w'; go_simp; with_reducible rfl); rotate_left; (simp only [Act.put, sI, sZ, sS, i64_w, i32_w]; rfl)
                                    refine pure_ (i := 21) (N := some 183) (v := ?_) (a' := ?_) Fl3_51 rfl rfl (any_of HT_.out (by kernel_rfl)) (fun _ _ _ h => h) (Or.inl ⟨by rfl, ?_⟩) ?_ ?_; rotate_left; (intro w'; go_simp; with_reducible rfl); rotate_left; (simp only [Act.put, sI, sZ, sS, i64_w, i32_w]; rfl)
                                    refine pure_ (i := 22) (N := some 184) (v := ?_) (a' := ?_) Fl3_52 rfl rfl (any_of HT_.out (by kernel_rfl)) (fun _ _ _ h => h) (Or.inl ⟨by rfl, ?_⟩) ?_ ?_; rotate_left; (intro w'; go_simp; with_reducible rfl); rotate_left; (simp only [Act.put, sI, sZ, sS, i64_w, i32_w]; rfl)
                                    refine pure_ (i := 24) (N := some 186) (v := ?_) (a' := ?_) Fl3_77 rfl rfl (any_of HT_.out (by kernel_rfl)) (fun _ _ _ h => h) (Or.inl ⟨by rfl, ?_⟩) ?_ ?_; rotate_left; (intro w'; go_simp; with_reducible rfl); rotate_left; (simp only [Act.put, sI, sZ, sS, i64_w, i32_w]; rfl)
                                    refine take_ (i := 23) (N := some 185) (v := ?_) (a' := ?_) Fl3_54 rfl rfl (take_ofW HT_.out HW_.out (by kernel_rfl)) (fun _ _ _ h => h) (Or.inl ⟨by rfl, ?_⟩) hHeld ?_ ?_; rotate_left; (rintro w' ⟨s0, s1, s2, s3, s4, s5, s6, s7, s8⟩; go_simp; with_reducible rfl); rotate_left; (simp only [Act.put, sI, sZ, sS, i64_w, i32_w]; rfl)
                                    refine pure_ (i := 25) (N := some 187) (v := ?_) (a' := ?_) Fl3_55 rfl rfl (any_of HT_.out (by kernel_rfl)) (fun _ _ _ h => h) (Or.inl ⟨by rfl, ?_⟩) ?_ ?_; rotate_left; (intro w'; go_simp; with_reducible rfl); rotate_left; (simp only [Act.put, sI, sZ, sS, i64_w, i32_w]; rfl)
                                    refine pure_ (i := 26) (N := some 188) (v := ?_) (a' := ?_) Fl3_56 rfl rfl (any_of HT_.out (by kernel_rfl)) (fun _ _ _ h => h) (Or.inl ⟨by rfl, ?_⟩) ?_ ?_; rotate_left; (intro w'; go_simp; with_reducible rfl); rotate_left; (simp only [Act.put, sI, sZ, sS, i64_w, i32_w]; rfl)
                                    refine pure_ (i := 27) (N := some 189) (v := ?_) (a' := ?_) Fl3_57 rfl rfl (any_of HT_.out (by kernel_rfl)) (fun _ _ _ h => h) (Or.inl ⟨by rfl, ?_⟩) ?_ ?_; rotate_left; (intro w'; go_simp; with_reducible rfl); rotate_left; (simp only [Act.put, sI, sZ, sS, i64_w, i32_w]; rfl)
                                    refine pure_ (i := 28) (N := some 190) (v := ?_) (a' := ?_) Fl3_58 rfl rfl (any_of HT_.out (by kernel_rfl)) (fun _ _ _ h => h) (Or.inl ⟨by rfl, ?_⟩) ?_ ?_; rotate_left; (intro w'; go_simp; with_reducible rfl); rotate_left; (simp only [Act.put, sI, sZ, sS, i64_w, i32_w]; rfl)
                                    refine pure_ (i := 29) (N := some 191) (v := ?_) (a' := ?_) Fl3_59 rfl rfl (any_of HT_.out (by kernel_rfl)) (fun _ _ _ h => h) (Or.inl ⟨by rfl, ?_⟩) ?_ ?_; rotate_left; (intro w'; go_simp; with_reducible rfl); rotate_left; (simp only [Act.put, sI, sZ, sS, i64_w, i32_w]; rfl)
                                    refine pure_ (i := 30) (N := some 192) (v := ?_) (a' := ?_) Fl3_60 rfl rfl (any_of HT_.out (by kernel_rfl)) (fun _ _ _ h => h) (Or.inl ⟨by rfl, ?_⟩) ?_ ?_; rotate_left; (intro w'; go_simp; with_reducible rfl); rotate_left; (simp only [Act.put, sI, sZ, sS, i64_w, i32_w]; rfl)
                                    refine pure_ (i := 31) (N := some 193) (v := ?_) (a' := ?_) Fl3_61 rfl rfl (any_of HT_.out (by kernel_rfl)) (fun _ _ _ h => h) (Or.inl ⟨by rfl, ?_⟩) ?_ ?_; rotate_left; (intro w'; go_simp; with_reducible rfl); rotate_left; (simp only [Act.put, sI, sZ, sS, i64_w, i32_w]; rfl)
                                    refine pure_ (i := 32) (N := some 194) (v := undef) (a' := ?_) Fl3_62 rfl rfl (any_of HT_.out (by kernel_rfl)) (fun _ _ _ h => h) (Or.inr ⟨by rfl, rfl⟩) ?_ ?_; rotate_left; (simp only [Act.put, sI, sZ, sS, i64_w, i32_w]; rfl)
                                    refine pure_ (i := 33) (N := some 195) (v := undef) (a' := ?_) Fl3_63 rfl rfl (any_of HT_.out (by kernel_rfl)) (fun _ _ _ h => h) (Or.inr ⟨by rfl, rfl⟩) ?_ ?_; rotate_left; (simp only [Act.put, sI, sZ, sS, i64_w, i32_w]; rfl)
                                    refine pure_ (i := 34) (N := some 196) (v := undef) (a' := ?_) Fl3_64 rfl rfl (any_of HT_.out (by kernel_rfl)) (fun _ _ _ h => h) (Or.inr ⟨by rfl, rfl⟩) ?_ ?_; rotate_left; (simp only [Act.put, sI, sZ, sS, i64_w, i32_w]; rfl)
                                    refine pure_ (i := 35) (N := some 197) (v := undef) (a' := ?_) Fl3_65 rfl rfl (any_of HT_.out (by kernel_rfl)) (fun _ _ _ h => h) (Or.inr ⟨by rfl, rfl⟩) ?_ ?_; rotate_left; (simp only [Act.put, sI, sZ, sS, i64_w, i32_w]; rfl)
                                    refine pure_ (i := 36) (N := some 198) (v := undef) (a' := ?_) Fl3_66 rfl rfl (any_of HT_.out (by kernel_rfl)) (fun _ _ _ h => h) (Or.inr ⟨by rfl, rfl⟩) ?_ ?_; rotate_left; (simp only [Act.put, sI, sZ, sS, i64_w, i32_w]; rfl)
                                    refine pure_ (i := 37) (N := some 199) (v := undef) (a' := ?_) Fl3_67 rfl rfl (any_of HT_.out (by kernel_rfl)) (fun _ _ _ h => h) (Or.inr ⟨by rfl, rfl⟩) ?_ ?_; rotate_left; (simp only [Act.put, sI, sZ, sS, i64_w, i32_w]; rfl)
                                    refine pure_ (i := 38) (N := some 200) (v := undef) (a' := ?_) Fl3_68 rfl rfl (any_of HT_.out (by kernel_rfl)) (fun _ _ _ h => h) (Or.inr ⟨by rfl, rfl⟩) ?_ ?_; rotate_left; (simp only [Act.put, sI, sZ, sS, i64_w, i32_w]; rfl)
                                    refine pure_ (i := 39) (N := some 201) (v := ?_) (a' := ?_) Fl3_69 rfl rfl (any_of HT_.out (by kernel_rfl)) (fun _ _ _ h => h) (Or.inl ⟨by rfl, ?_⟩) ?_ ?_; rotate_left; (intro w'; go_simp; with_reducible rfl); rotate_left; (simp only [Act.put, sI, sZ, sS, i64_w, i32_w]; rfl)
                                    refine pure_ (i := 40) (N := some 202) (v := ?_) (a' := ?_) Fl3_70 rfl rfl (any_of HT_.out (by kernel_rfl)) (fun _ _ _ h => h) (Or.inl ⟨by rfl, ?_⟩) ?_ ?_; rotate_left; (intro w'; go_simp; with_reducible rfl); rotate_left; (simp only [Act.put, sI, sZ, sS, i64_w, i32_w]; rfl)
                                    refine pure_ (i := 41) (N := some 203) (v := ?_) (a' := ?_) Fl3_71 rfl rfl (any_of HT_.out (by kernel_rfl)) (fun _ _ _ h => h) (Or.inl ⟨by rfl, ?_⟩) ?_ ?_; rotate_left; (intro w'; go_simp; with_reducible rfl); rotate_left; (simp only [Act.put, sI, sZ, sS, i64_w, i32_w]; rfl)
                                    refine pure_ (i := 42) (N := some 204) (v := ?_) (a' := ?_) Fl3_72 rfl rfl (any_of HT_.out (by kernel_rfl)) (fun _ _ _ h => h) (Or.inl ⟨by rfl, ?_⟩) ?_ ?_; rotate_left; (intro w'; go_simp; with_reducible rfl); rotate_left; (simp only [Act.put, sI, sZ, sS, i64_w, i32_w]; rfl)
                                    refine pure_ (i := 43) (N := some 20) (v := ?_) (a' := ?_) Fl3_73 rfl rfl (any_of HT_.out (by kernel_rfl)) (fun _ _ _ h => h) (Or.inl ⟨by rfl, ?_⟩) ?_ ?_; rotate_left; (intro w'; go_simp; with_reducible rfl); rotate_left; (simp only [Act.put, sI, sZ, sS, i64_w, i32_w]; rfl)
                                    refine done_ (done_of HT_.out (by kernel_rfl)) ?_
                                    try go_wp2
                                    go_roundg k6
                                    case measure => have := HK1.out; have := HJ18.out; have := HK3.out; have := HK4.out; have := HK5.out; have := HK6.out; omega
                                    case rel => exact ⟨(false), (wrap64 (x21_6 + 1)), (by first | rfl | (simp; done) | (simp [*]; done)), (by first | rfl | (simp; done) | (simp [*]; done)), H', ⟨by have := HK1.out; have := HJ18.out; have := HK3.out; have := HK4.out; have := HK5.out; have := HK6.out; omega⟩, ⟨by (with_reducible repeat (first | apply Kd.R_alloc | apply Kd.R_drewN | apply Kd.R_drew)); exact HO_9.out⟩, ⟨by (with_reducible repeat (first | apply Kd.R_alloc | apply Kd.R_drewN | apply Kd.R_drew)); exact HO_11.out⟩, ⟨by repeat (first | (with_reducible first | exact HB.out | apply below_alloc | apply pw_below_drewN | apply below_drew1) | exact HB.out)⟩⟩
                                 ·rw [if_neg c79] at H
                                  have c79b0 : ((wrap64 (1 + (wrap64 (Int.tmod (IntKind.u64.wrap (a1)) 3)))) == 1) = false := beq_eq_false_iff_ne.mpr c79
                                  have c79b1 : ((wrap64 (1 + (wrap64 (Int.tmod (IntKind.u64.wrap (a1)) 3)))) != 1) = true := bne_iff_ne.mpr c79
                                  by_cases c87 : (wrap64 (1 + (wrap64 (Int.tmod (IntKind.u64.wrap (a1)) 3)))) = 3
                                  ·rw [if_pos c87] at H
                                   have c87b0 : ((wrap64 (1 + (wrap64 (Int.tmod (IntKind.u64.wrap (a1)) 3)))) == 3) = true := beq_iff_eq.mpr c87
                                   have c87b1 : ((wrap64 (1 + (wrap64 (Int.tmod (IntKind.u64.wrap (a1)) 3)))) != 3) = false := bne_eq_false_iff_eq.mpr c87
                                   clear c87
                                   replace H := Option.bind_eq_some_iff.mp H
                                   obtain ⟨t181, A880, H⟩ := H
                                   replace H : (RK.l13 k6 a2 (wrap64 (1 + (wrap64 (Int.tmod (IntKind.u64.wrap (a1)) 3)))) x9_1 t162 x19_5 t181 (wrap64 (x21_6 + 1))) = some r := H
                                   have A88 := Aside0.mk A880; clear A880
                                   have H' := Aside0.mk H
                                   clear H
                                   try go_wp2
                                   have n0_ := Aside0.mk (Kd.R_drew HO_9.out); have n1_ := Aside0.mk (Kd.R_drew HO_11.out); have n2_ := Aside0.mk (below_drew1 HB.out); clear HO_9 HO_11 HB; have HO_9 := n0_; have HO_11 := n1_; have HB := n2_; clear n0_ n1_ n2_
                                   have p175 : 0 ≤ (x21_6 : Int) := of_decide_eq_true (by first | (with_reducible assumption) | assumption)
                                   have q175 : x21_6 < (x9_1.length : Int) := of_decide_eq_true (by first | (with_reducible assumption) | assumption)
                                   obtain ⟨ad175, e175, hx175_0, hx175_1, hx175_2, hx175_3⟩ := at_T28 (Kd.R_reads' HO_9.out).2.2 x21_6 p175 q175
                                   cases e175
                                   replace p175 := eq_true p175
                                   replace q175 := eq_true q175
                                   have p176 : 0 ≤ (x19_5 : Int) := of_decide_eq_true (by first | (with_reducible assumption) | assumption)
                                   have q176 : x19_5 < (t162.length : Int) := of_decide_eq_true (by first | (with_reducible assumption) | assumption)
                                   obtain ⟨ad176, e176, hx176_0⟩ := Kd.at_string (Kd.R_reads' HO_11.out).2.2 x19_5 p176 q176
                                   cases e176
                                   replace p176 := eq_true p176
                                   replace q176 := eq_true q176
                                   have p180 : 0 ≤ (x21_6 : Int) := of_decide_eq_true (by first | (with_reducible assumption) | assumption)
                                   have q180 : x21_6 < (x9_1.length : Int) := of_decide_eq_true (by first | (with_reducible assumption) | assumption)
                                   obtain ⟨ad180, e180, hx180_0, hx180_1, hx180_2, hx180_3⟩ := at_T28 (Kd.R_reads' HO_9.out).2.2 x21_6 p180 q180
                                   obtain rfl : ad175 = ad180 := (by injection e180)
                                   replace p180 := eq_true p180
                                   replace q180 := eq_true q180
                                   refine start_ (n := 44) (S := fun w' => w'.cell? (ad175.add ((x21_6).toNat * 4)) = some (.string ((rd_T28 x9_1 x21_6).f0)) ∧ w'.cell? ⟨(ad175.add ((x21_6).toNat * 4)).block, (ad175.add ((x21_6).toNat * 4)).off + 1, none⟩ = some (.string ((rd_T28 x9_1 x21_6).f1)) ∧ w'.cell? ⟨(ad175.add ((x21_6).toNat * 4)).block, (ad175.add ((x21_6).toNat * 4)).off + 2, none⟩ = some (.string ((rd_T28 x9_1 x21_6).f2)) ∧ w'.cell? ⟨(ad175.add ((x21_6).toNat * 4)).block, (ad175.add ((x21_6).toNat * 4)).off + 3, none⟩ = some (.int .i64 ((rd_T28 x9_1 x21_6).f3)) ∧ w'.cell? (ad176.add (x19_5).toNat) = some (.string (rdOf ByteArray.empty t162 x19_5)) ∧ w'.cell? (ad175.add ((x21_6).toNat * 4)) = some (.string ((rd_T28 x9_1 x21_6).f0)) ∧ w'.cell? ⟨(ad175.add ((x21_6).toNat * 4)).block, (ad175.add ((x21_6).toNat * 4)).off + 1, none⟩ = some (.string ((rd_T28 x9_1 x21_6).f1)) ∧ w'.cell? ⟨(ad175.add ((x21_6).toNat * 4)).block, (ad175.add ((x21_6).toNat * 4)).off + 2, none⟩ = some (.string ((rd_T28 x9_1 x21_6).f2)) ∧ w'.cell? ⟨(ad175.add ((x21_6).toNat * 4)).block, (ad175.add ((x21_6).toNat * 4)).off + 3, none⟩ = some (.int .i64 ((rd_T28 x9_1 x21_6).f3))) (ds := []) Fl3_29 (by kernel_rfl) rfl rfl ⟨hx175_0, hx175_1, hx175_2, hx175_3, hx176_0, hx180_0, hx180_1, hx180_2, hx180_3⟩ (fun hHeld => ?_); refine with_tabW RK.tab39 RK.bits39 (fun HT_ HW_ => ?_)
                                   generalize wr.drew = w89 at HO_9 HO_11 HB hx175_0 hx175_1 hx175_2 hx175_3 hx176_0 hx180_0 hx180_1 hx180_2 hx180_3 hHeld ⊢
                                   refine pure_ (i := 0) (N := some 162) (v := ?_) (a' := ?_) Fl3_30 rfl rfl (any_of HT_.out (by kernel_rfl)) (fun _ _ _ h => h) (Or.inl ⟨by rfl, ?_⟩) ?_ ?_; rotate_left; (intro w'; go_simp; with_reducible rfl); rotate_left; (simp only [Act.put, sI, sZ, sS, i64_w, i32_w]; rfl)
                                   refine pure_ (i := 1) (N := some 163) (v := ?_) (a' := ?_) Fl3_31 rfl rfl (any_of HT_.out (by kernel_rfl)) (fun _ _ _ h => h) (Or.inl ⟨by rfl, ?_⟩) ?_ ?_; rotate_left; (intro w'; go_simp; with_reducible rfl); rotate_left; (simp only [Act.put, sI, sZ, sS, i64_w, i32_w]; rfl)
                                   refine pure_ (i := 2) (N := some 164) (v := ?_) (a' := ?_) Fl3_32 rfl rfl (any_of HT_.out (by kernel_rfl)) (fun _ _ _ h => h) (Or.inl ⟨by rfl, ?_⟩) ?_ ?_; rotate_left; (intro w'; go_simp; with_reducible rfl); rotate_left; (simp only [Act.put, sI, sZ, sS, i64_w, i32_w]; rfl)
                                   refine pure_ (i := 3) (N := some 165) (v := ?_) (a' := ?_) Fl3_33 rfl rfl (any_of HT_.out (by kernel_rfl)) (fun _ _ _ h => h) (Or.inl ⟨by rfl, ?_⟩) ?_ ?_; rotate_left; (intro w'; go_simp; with_reducible rfl); rotate_left; (simp only [Act.put, sI, sZ, sS, i64_w, i32_w]; rfl)
                                   refine pure_ (i := 4) (N := some 166) (v := ?_) (a' := ?_) Fl3_34 rfl rfl (any_of HT_.out (by kernel_rfl)) (fun _ _ _ h => h) (Or.inl ⟨by rfl, ?_⟩) ?_ ?_; rotate_left; (intro w'; go_simp; with_reducible rfl); rotate_left; (simp only [Act.put, sI, sZ, sS, i64_w, i32_w]; rfl)
                                   refine pure_ (i := 5) (N := some 167) (v := ?_) (a' := ?_) Fl3_35 rfl rfl (any_of HT_.out (by kernel_rfl)) (fun _ _ _ h => h) (Or.inl ⟨by rfl, ?_⟩) ?_ ?_; rotate_left; (intro w'; go_simp; with_reducible rfl); rotate_left; (simp only [Act.put, sI, sZ, sS, i64_w, i32_w]; rfl)
                                   refine pure_ (i := 7) (N := some 169) (v := ?_) (a' := ?_) Fl3_74 rfl rfl (any_of HT_.out (by kernel_rfl)) (fun _ _ _ h => h) (Or.inl ⟨by rfl, ?_⟩) ?_ ?_; rotate_left; (intro w'; go_simp; with_reducible rfl); rotate_left; (simp only [Act.put, sI, sZ, sS, i64_w, i32_w]; rfl)
                                   refine pure_ (i := 8) (N := some 170) (v := ?_) (a' := ?_) Fl3_75 rfl rfl (any_of HT_.out (by kernel_rfl)) (fun _ _ _ h => h) (Or.inl ⟨by rfl, ?_⟩) ?_ ?_; rotate_left; (intro w'; go_simp; with_reducible rfl); rotate_left; (simp only [Act.put, sI, sZ, sS, i64_w, i32_w]; rfl)
                                   refine pure_ (i := 9) (N := some 171) (v := ?_) (a' := ?_) Fl3_76 rfl rfl (any_of HT_.out (by kernel_rfl)) (fun _ _ _ h => h) (Or.inl ⟨by rfl, ?_⟩) ?_ ?_; rotate_left; (intro w'; go_simp; with_reducible rfl); rotate_left; (simp only [Act.put, sI, sZ, sS, i64_w, i32_w]; rfl)
                                   refine take_ (i := 6) (N := some 168) (v := ?_) (a' := ?_) Fl3_39 rfl rfl (take_ofW HT_.out HW_.out (by kernel_rfl)) (fun _ _ _ h => h) (Or.inl ⟨by rfl, ?_⟩) hHeld ?_ ?_; rotate_left; (rintro w' ⟨s0, s1, s2, s3, s4, s5, s6, s7, s8⟩; go_simp; with_reducible rfl); rotate_left; (simp only [Act.put, sI, sZ, sS, i64_w, i32_w]; rfl)
                                   refine take_ (i := 10) (N := some 172) (v := ?_) (a' := ?_) Fl3_40 rfl rfl (take_ofW HT_.out HW_.out (by kernel_rfl)) (fun _ _ _ h => h) (Or.inl ⟨by rfl, ?_⟩) hHeld ?_ ?_; rotate_left; (rintro w' ⟨s0, s1, s2, s3, s4, s5, s6, s7, s8⟩; go_simp; with_reducible rfl); rotate_left; (simp only [Act.put, sI, sZ, sS, i64_w, i32_w]; rfl)
                                   refine pure_ (i := 11) (N := some 173) (v := ?_) (a' := ?_) Fl3_41 rfl rfl (any_of HT_.out (by kernel_rfl)) (fun _ _ _ h => h) (Or.inl ⟨by rfl, ?_⟩) ?_ ?_; rotate_left; (intro w'; go_simp; with_reducible rfl); rotate_left; (simp only [Act.put, sI, sZ, sS, i64_w, i32_w]; rfl)
                                   refine pure_ (i := 12) (N := some 174) (v := ?_) (a' := ?_) Fl3_42 rfl rfl (any_of HT_.out (by kernel_rfl)) (fun _ _ _ h => h) (Or.inl ⟨by rfl, ?_⟩) ?_ ?_; rotate_left; (intro w'; go_simp; with_reducible rfl); rotate_left; (simp only [Act.put, sI, sZ, sS, i64_w, i32_w]; rfl)
                                   refine pure_ (i := 13) (N := some 175) (v := ?_) (a' := ?_) Fl3_43 rfl rfl (any_of HT_.out (by kernel_rfl)) (fun _ _ _ h => h) (Or.inl ⟨by rfl, ?_⟩) ?_ ?_; rotate_left; (intro w'; go_simp; with_reducible rfl); rotate_left; (simp only [Act.put, sI, sZ, sS, i64_w, i32_w]; rfl)
                                   refine pure_ (i := 14) (N := some 176) (v := ?_) (a' := ?_) Fl3_44 rfl rfl (any_of HT_.out (by kernel_rfl)) (fun _ _ _ h => h) (Or.inl ⟨by rfl, ?_⟩) ?_ ?_; rotate_left; (intro w'; go_simp; with_reducible rfl); rotate_left; (simp only [Act.put, sI, sZ, sS, i64_w, i32_w]; rfl)
                                   refine pure_ (i := 15) (N := some 177) (v := ?_) (a' := ?_) Fl3_45 rfl rfl (any_of HT_.out (by kernel_rfl)) (fun _ _ _ h => h) (Or.inl ⟨by rfl, ?_⟩) ?_ ?_; rotate_left; (intro w'; go_simp; with_reducible rfl); rotate_left; (simp only [Act.put, sI, sZ, sS, i64_w, i32_w]; rfl)
                                   refine pure_ (i := 16) (N := some 178) (v := ?_) (a' := ?_) Fl3_46 rfl rfl (any_of HT_.out (by kernel_rfl)) (fun _ _ _ h => h) (Or.inl ⟨by rfl, ?_⟩) ?_ ?_; rotate_left; (intro w'; go_simp; with_reducible rfl); rotate_left; (simp only [Act.put, sI, sZ, sS, i64_w, i32_w]; rfl)
                                   refine pure_ (i := 17) (N := some 179) (v := ?_) (a' := ?_) Fl3_47 rfl rfl (any_of HT_.out (by kernel_rfl)) (fun _ _ _ h => h) (Or.inl ⟨by rfl, ?_⟩) ?_ ?_; rotate_left; (intro w'; go_simp; with_reducible rfl); rotate_left; (simp only [Act.put, sI, sZ, sS, i64_w, i32_w]; rfl)
                                   refine pure_ (i := 18) (N := some 180) (v := ?_) (a' := ?_) Fl3_48 rfl rfl (any_of HT_.out (by kernel_rfl)) (fun _ _ _ h => h) (Or.inl ⟨by rfl, ?_⟩) ?_ ?_; rotate_left; (intro w'; go_simp; with_reducible rfl); rotate_left; (simp only [Act.put, sI, sZ, sS, i64_w, i32_w]; rfl)
                                   refine pure_ (i := 19) (N := some 181) (v := undef) (a' := ?_) Fl3_49 rfl rfl (any_of HT_.out (by kernel_rfl)) (fun _ _ _ h => h) (Or.inr ⟨by rfl, rfl⟩) ?_ ?_; rotate_left; (simp only [Act.put, sI, sZ, sS, i64_w, i32_w]; rfl)
                                   refine pure_ (i := 20) (N := some 182) (v := undef) (a' := ?_) Fl3_50 rfl rfl (any_of HT_.out (by kernel_rfl)) (fun _ _ _ h => h) (Or.inr ⟨by rfl, rfl⟩) ?_ ?_; rotate_left; (simp only [Act.put, sI, sZ, sS, i64_w, i32_w]; rfl)
                                   refine pure_ (i := 21) (N := some 183) (v := undef) (a' := ?_) Fl3_51 rfl rfl (any_of HT_.out (by kernel_rfl)) (fun _ _ _ h => h) (Or.inr ⟨by rfl, rfl⟩) ?_ ?_; rotate_left; (simp only [Act.put, sI, sZ, sS, i64_w, i32_w]; rfl)
                                   refine pure_ (i := 22) (N := some 184) (v := undef) (a' := ?_) Fl3_52 rfl rfl (any_of HT_.out (by kernel_rfl)) (fun _ _ _ h => h) (Or.inr ⟨by rfl, rfl⟩) ?_ ?_; rotate_left; (simp only [Act.put, sI, sZ, sS, i64_w, i32_w]; rfl)
                                   refine pure_ (i := 23) (N := some 185) (v := undef) (a' := ?_) Fl3_53 rfl rfl (any_of HT_.out (by kernel_rfl)) (fun _ _ _ h => h) (Or.inr ⟨by rfl, rfl⟩) ?_ ?_; rotate_left; (simp only [Act.put, sI, sZ, sS, i64_w, i32_w]; rfl)
                                   refine pure_ (i := 24) (N := some 186) (v := undef) (a' := ?_) Fl3_54 rfl rfl (any_of HT_.out (by kernel_rfl)) (fun _ _ _ h => h) (Or.inr ⟨by rfl, rfl⟩) ?_ ?_; rotate_left; (simp only [Act.put, sI, sZ, sS, i64_w, i32_w]; rfl)
                                   refine pure_ (i := 25) (N := some 187) (v := undef) (a' := ?_) Fl3_55 rfl rfl (any_of HT_.out (by kernel_rfl)) (fun _ _ _ h => h) (Or.inr ⟨by rfl, rfl⟩) ?_ ?_; rotate_left; (simp only [Act.put, sI, sZ, sS, i64_w, i32_w]; rfl)
                                   refine pure_ (i := 26) (N := some 188) (v := ?_) (a' := ?_) Fl3_56 rfl rfl (any_of HT_.out (by kernel_rfl)) (fun _ _ _ h => h) (Or.inl ⟨by rfl, ?_⟩) ?_ ?_; rotate_left; (intro w'; go_simp; with_reducible rfl); rotate_left; (simp only [Act.put, sI, sZ, sS, i64_w, i32_w]; rfl)
                                   refine pure_ (i := 27) (N := some 189) (v := ?_) (a' := ?_) Fl3_57 rfl rfl (any_of HT_.out (by kernel_rfl)) (fun _ _ _ h => h) (Or.inl ⟨by rfl, ?_⟩) ?_ ?_; rotate_left; (intro w'; go_simp; with_reducible rfl); rotate_left; (simp only [Act.put, sI, sZ, sS, i64_w, i32_w]; rfl)
                                   refine pure_ (i := 28) (N := some 190) (v := ?_) (a' := ?_) Fl3_58 rfl rfl (any_of HT_.out (by kernel_rfl)) (fun _ _ _ h => h) (Or.inl ⟨by rfl, ?_⟩) ?_ ?_; rotate_left; (intro w'; go_simp; with_reducible rfl); rotate_left; (simp only [Act.put, sI, sZ, sS, i64_w, i32_w]; rfl)
                                   refine pure_ (i := 29) (N := some 191) (v := ?_) (a' := ?_) Fl3_59 rfl rfl (any_of HT_.out (by kernel_rfl)) (fun _ _ _ h => h) (Or.inl ⟨by rfl, ?_⟩) ?_ ?_; rotate_left; (intro w'; go_simp; with_reducible rfl); rotate_left; (simp only [Act.put, sI, sZ, sS, i64_w, i32_w]; rfl)
                                   refine pure_ (i := 30) (N := some 192) (v := ?_) (a' := ?_) Fl3_60 rfl rfl (any_of HT_.out (by kernel_rfl)) (fun _ _ _ h => h) (Or.inl ⟨by rfl, ?_⟩) ?_ ?_; rotate_left; (intro w'; go_simp; with_reducible rfl); rotate_left; (simp only [Act.put, sI, sZ, sS, i64_w, i32_w]; rfl)
                                   refine pure_ (i := 31) (N := some 193) (v := ?_) (a' := ?_) Fl3_61 rfl rfl (any_of HT_.out (by kernel_rfl)) (fun _ _ _ h => h) (Or.inl ⟨by rfl, ?_⟩) ?_ ?_; rotate_left; (intro w'; go_simp; with_reducible rfl); rotate_left; (simp only [Act.put, sI, sZ, sS, i64_w, i32_w]; rfl)
                                   refine pure_ (i := 32) (N := some 194) (v := ?_) (a' := ?_) Fl3_62 rfl rfl (any_of HT_.out (by kernel_rfl)) (fun _ _ _ h => h) (Or.inl ⟨by rfl, ?_⟩) ?_ ?_; rotate_left; (intro w'; go_simp; with_reducible rfl); rotate_left; (simp only [Act.put, sI, sZ, sS, i64_w, i32_w]; rfl)
                                   refine pure_ (i := 33) (N := some 195) (v := ?_) (a' := ?_) Fl3_63 rfl rfl (any_of HT_.out (by kernel_rfl)) (fun _ _ _ h => h) (Or.inl ⟨by rfl, ?_⟩) ?_ ?_; rotate_left; (intro w'; go_simp; with_reducible rfl); rotate_left; (simp only [Act.put, sI, sZ, sS, i64_w, i32_w]; rfl)
                                   refine pure_ (i := 34) (N := some 196) (v := ?_) (a' := ?_) Fl3_64 rfl rfl (any_of HT_.out (by kernel_rfl)) (fun _ _ _ h => h) (Or.inl ⟨by rfl, ?_⟩) ?_ ?_; rotate_left; (intro w'; go_simp; with_reducible rfl); rotate_left; (simp only [Act.put, sI, sZ, sS, i64_w, i32_w]; rfl)
                                   refine pure_ (i := 35) (N := some 197) (v := ?_) (a' := ?_) Fl3_65 rfl rfl (any_of HT_.out (by kernel_rfl)) (fun _ _ _ h => h) (Or.inl ⟨by rfl, ?_⟩) ?_ ?_; rotate_left; (intro w'; go_simp; with_reducible rfl); rotate_left; (simp only [Act.put, sI, sZ, sS, i64_w, i32_w]; rfl)
                                   refine pure_ (i := 37) (N := some 199) (v := ?_) (a' := ?_) Fl3_78 rfl rfl (any_of HT_.out (by kernel_rfl)) (fun _ _ _ h => h) (Or.inl ⟨by rfl, ?_⟩) ?_ ?_; rotate_left; (intro w'; go_simp; with_reducible rfl); rotate_left; (simp only [Act.put, sI, sZ, sS, i64_w, i32_w]; rfl)
                                   refine take_ (i := 36) (N := some 198) (v := ?_) (a' := ?_) Fl3_67 rfl rfl (take_ofW HT_.out HW_.out (by kernel_rfl)) (fun _ _ _ h => h) (Or.inl ⟨by rfl, ?_⟩) hHeld ?_ ?_; rotate_left; (rintro w' ⟨s0, s1, s2, s3, s4, s5, s6, s7, s8⟩; go_simp; with_reducible rfl); rotate_left; (simp only [Act.put, sI, sZ, sS, i64_w, i32_w]; rfl)
                                   refine one_ (i := 38) (N := some 200) Fl3_68 rfl rfl (one_of HT_.out (by kernel_rfl)) (by decide) (fun K hK => ?_)
                                   refine goes_ Tryd.func11 (by kernel_rfl) rfl #[.string ((rd_T28 x9_1 x21_6).f2), .string a2] (by rfl) rfl rfl (by (try simp only [List.map_toArray, List.map_cons, List.map_nil]); first | done | rfl | (simp only [List.length_drop, List.length_take]; rfl)) ?_
                                   with_reducible refine (topic_Match.calls ((rd_T28 x9_1 x21_6).f2) a2 t181 _ ?side1 A88.out).mono ?_
                                   (case side1 => exact Gl.below HGL.out (by repeat (first | (with_reducible first | exact HB.out | apply below_alloc | apply pw_below_drewN | apply below_drew1) | exact HB.out)))
                                   rintro e w90 ⟨rfl, hb⟩
                                   have HS0_ := (hb.cell (World.block_lt_of_cell? _ _ (hHeld.1))).trans (hHeld.1); have HS1_ := (hb.cell (World.block_lt_of_cell? _ _ (hHeld.2.1))).trans (hHeld.2.1); have HS2_ := (hb.cell (World.block_lt_of_cell? _ _ (hHeld.2.2.1))).trans (hHeld.2.2.1); have HS3_ := (hb.cell (World.block_lt_of_cell? _ _ (hHeld.2.2.2.1))).trans (hHeld.2.2.2.1); have HS4_ := (hb.cell (World.block_lt_of_cell? _ _ (hHeld.2.2.2.2.1))).trans (hHeld.2.2.2.2.1); have HS5_ := (hb.cell (World.block_lt_of_cell? _ _ (hHeld.2.2.2.2.2.1))).trans (hHeld.2.2.2.2.2.1); have HS6_ := (hb.cell (World.block_lt_of_cell? _ _ (hHeld.2.2.2.2.2.2.1))).trans (hHeld.2.2.2.2.2.2.1); have HS7_ := (hb.cell (World.block_lt_of_cell? _ _ (hHeld.2.2.2.2.2.2.2.1))).trans (hHeld.2.2.2.2.2.2.2.1); have HS8_ := (hb.cell (World.block_lt_of_cell? _ _ (hHeld.2.2.2.2.2.2.2.2))).trans (hHeld.2.2.2.2.2.2.2.2)
                                   refine ⟨_, rfl, ?_⟩
                                   have n0_ := Aside0.mk (Kd.R_below (by (with_reducible repeat (first | apply Kd.R_alloc | apply Kd.R_drewN | apply Kd.R_drew)); exact HO_9.out) hb); have n1_ := Aside0.mk (Kd.R_below (by (with_reducible repeat (first | apply Kd.R_alloc | apply Kd.R_drewN | apply Kd.R_drew)); exact HO_11.out) hb); have n2_ := Aside0.mk (below_step (by repeat (first | (with_reducible first | exact HB.out | apply below_alloc | apply pw_below_drewN | apply below_drew1) | exact HB.out)) hb); clear HO_9 HO_11 HB; have HO_9 := n0_; have HO_11 := n1_; have HB := n2_; clear n0_ n1_ n2_
                                   (try clear hb)
                                   (try clear hb2)
                                   (try clear hk)
                                   (try clear hi)
                                   refine hK.out _ _ ⟨HS0_, HS1_, HS2_, HS3_, HS4_, HS5_, HS6_, HS7_, HS8_⟩ (fun hHeld => ?_)
                                   clear hK K
                                   refine norm_ (a' := ?_) ?_ ?_
                                   rotate_left
                                   ·show Act.put _ (some 200) _ = _
                                    simp only [Act.put, sI, sZ, sS, i64_w, i32_w]
                                    rfl
                                   refine pure_ (i := 39) (N := some 201) (v := ?_) (a' := ?_) Fl3_69 rfl rfl (any_of HT_.out (by kernel_rfl)) (fun _ _ _ h => h) (Or.inl ⟨by rfl, ?_⟩) ?_ ?_; rotate_left; (intro w'; go_simp; with_reducible rfl); rotate_left; (simp only [Act.put, sI, sZ, sS, i64_w, i32_w]; rfl)
                                   refine pure_ (i := 40) (N := some 202) (v := ?_) (a' := ?_) Fl3_70 rfl rfl (any_of HT_.out (by kernel_rfl)) (fun _ _ _ h => h) (Or.inl ⟨by rfl, ?_⟩) ?_ ?_; rotate_left; (intro w'; go_simp; with_reducible rfl); rotate_left; (simp only [Act.put, sI, sZ, sS, i64_w, i32_w]; rfl)
                                   refine pure_ (i := 41) (N := some 203) (v := ?_) (a' := ?_) Fl3_71 rfl rfl (any_of HT_.out (by kernel_rfl)) (fun _ _ _ h => h) (Or.inl ⟨by rfl, ?_⟩) ?_ ?_; rotate_left; (intro w'; go_simp; with_reducible rfl); rotate_left; (simp only [Act.put, sI, sZ, sS, i64_w, i32_w]; rfl)
                                   refine pure_ (i := 42) (N := some 204) (v := ?_) (a' := ?_) Fl3_72 rfl rfl (any_of HT_.out (by kernel_rfl)) (fun _ _ _ h => h) (Or.inl ⟨by rfl, ?_⟩) ?_ ?_; rotate_left; (intro w'; go_simp; with_reducible rfl); rotate_left; (simp only [Act.put, sI, sZ, sS, i64_w, i32_w]; rfl)
                                   refine pure_ (i := 43) (N := some 20) (v := ?_) (a' := ?_) Fl3_73 rfl rfl (any_of HT_.out (by kernel_rfl)) (fun _ _ _ h => h) (Or.inl ⟨by rfl, ?_⟩) ?_ ?_; rotate_left; (intro w'; go_simp; with_reducible rfl); rotate_left; (simp only [Act.put, sI, sZ, sS, i64_w, i32_w]; rfl)
                                   refine done_ (done_of HT_.out (by kernel_rfl)) ?_
                                   try go_wp2
                                   go_roundg k6
                                   case measure => have := HK1.out; have := HJ18.out; have := HK3.out; have := HK4.out; have := HK5.out; have := HK6.out; omega
                                   case rel => exact ⟨(t181), (wrap64 (x21_6 + 1)), (by first | rfl | (simp; done) | (simp [*]; done)), (by first | rfl | (simp; done) | (simp [*]; done)), H', ⟨by have := HK1.out; have := HJ18.out; have := HK3.out; have := HK4.out; have := HK5.out; have := HK6.out; omega⟩, ⟨by (with_reducible repeat (first | apply Kd.R_alloc | apply Kd.R_drewN | apply Kd.R_drew)); exact HO_9.out⟩, ⟨by (with_reducible repeat (first | apply Kd.R_alloc | apply Kd.R_drewN | apply Kd.R_drew)); exact HO_11.out⟩, ⟨by repeat (first | (with_reducible first | exact HB.out | apply below_alloc | apply pw_below_drewN | apply below_drew1) | exact HB.out)⟩⟩
                                  ·rw [if_neg c87] at H
                                   have c87b0 : ((wrap64 (1 + (wrap64 (Int.tmod (IntKind.u64.wrap (a1)) 3)))) == 3) = false := beq_eq_false_iff_ne.mpr c87
                                   have c87b1 : ((wrap64 (1 + (wrap64 (Int.tmod (IntKind.u64.wrap (a1)) 3)))) != 3) = true := bne_iff_ne.mpr c87
                                   have H' := Aside0.mk H
                                   clear H
                                   try go_wp2
                                   have n0_ := Aside0.mk (Kd.R_drew HO_9.out); have n1_ := Aside0.mk (Kd.R_drew HO_11.out); have n2_ := Aside0.mk (below_drew1 HB.out); clear HO_9 HO_11 HB; have HO_9 := n0_; have HO_11 := n1_; have HB := n2_; clear n0_ n1_ n2_
                                   have p175 : 0 ≤ (x21_6 : Int) := of_decide_eq_true (by first | (with_reducible assumption) | assumption)
                                   have q175 : x21_6 < (x9_1.length : Int) := of_decide_eq_true (by first | (with_reducible assumption) | assumption)
                                   obtain ⟨ad175, e175, hx175_0, hx175_1, hx175_2, hx175_3⟩ := at_T28 (Kd.R_reads' HO_9.out).2.2 x21_6 p175 q175
                                   cases e175
                                   replace p175 := eq_true p175
                                   replace q175 := eq_true q175
                                   have p176 : 0 ≤ (x19_5 : Int) := of_decide_eq_true (by first | (with_reducible assumption) | assumption)
                                   have q176 : x19_5 < (t162.length : Int) := of_decide_eq_true (by first | (with_reducible assumption) | assumption)
                                   obtain ⟨ad176, e176, hx176_0⟩ := Kd.at_string (Kd.R_reads' HO_11.out).2.2 x19_5 p176 q176
                                   cases e176
                                   replace p176 := eq_true p176
                                   replace q176 := eq_true q176
                                   refine start_ (n := 44) (S := fun w' => w'.cell? (ad175.add ((x21_6).toNat * 4)) = some (.string ((rd_T28 x9_1 x21_6).f0)) ∧ w'.cell? ⟨(ad175.add ((x21_6).toNat * 4)).block, (ad175.add ((x21_6).toNat * 4)).off + 1, none⟩ = some (.string ((rd_T28 x9_1 x21_6).f1)) ∧ w'.cell? ⟨(ad175.add ((x21_6).toNat * 4)).block, (ad175.add ((x21_6).toNat * 4)).off + 2, none⟩ = some (.string ((rd_T28 x9_1 x21_6).f2)) ∧ w'.cell? ⟨(ad175.add ((x21_6).toNat * 4)).block, (ad175.add ((x21_6).toNat * 4)).off + 3, none⟩ = some (.int .i64 ((rd_T28 x9_1 x21_6).f3)) ∧ w'.cell? (ad176.add (x19_5).toNat) = some (.string (rdOf ByteArray.empty t162 x19_5))) (ds := []) Fl3_29 (by kernel_rfl) rfl rfl ⟨hx175_0, hx175_1, hx175_2, hx175_3, hx176_0⟩ (fun hHeld => ?_); refine with_tabW RK.tab39 RK.bits39 (fun HT_ HW_ => ?_)
                                   generalize wr.drew = w91 at HO_9 HO_11 HB hx175_0 hx175_1 hx175_2 hx175_3 hx176_0 hHeld ⊢
                                   refine pure_ (i := 0) (N := some 162) (v := ?_) (a' := ?_) Fl3_30 rfl rfl (any_of HT_.out (by kernel_rfl)) (fun _ _ _ h => h) (Or.inl ⟨by rfl, ?_⟩) ?_ ?_; rotate_left; (intro w'; go_simp; with_reducible rfl); rotate_left; (simp only [Act.put, sI, sZ, sS, i64_w, i32_w]; rfl)
                                   refine pure_ (i := 1) (N := some 163) (v := ?_) (a' := ?_) Fl3_31 rfl rfl (any_of HT_.out (by kernel_rfl)) (fun _ _ _ h => h) (Or.inl ⟨by rfl, ?_⟩) ?_ ?_; rotate_left; (intro w'; go_simp; with_reducible rfl); rotate_left; (simp only [Act.put, sI, sZ, sS, i64_w, i32_w]; rfl)
                                   refine pure_ (i := 2) (N := some 164) (v := ?_) (a' := ?_) Fl3_32 rfl rfl (any_of HT_.out (by kernel_rfl)) (fun _ _ _ h => h) (Or.inl ⟨by rfl, ?_⟩) ?_ ?_; rotate_left; (intro w'; go_simp; with_reducible rfl); rotate_left; (simp only [Act.put, sI, sZ, sS, i64_w, i32_w]; rfl)
                                   refine pure_ (i := 3) (N := some 165) (v := ?_) (a' := ?_) Fl3_33 rfl rfl (any_of HT_.out (by kernel_rfl)) (fun _ _ _ h => h) (Or.inl ⟨by rfl, ?_⟩) ?_ ?_; rotate_left; (intro w'; go_simp; with_reducible rfl); rotate_left; (simp only [Act.put, sI, sZ, sS, i64_w, i32_w]; rfl)
                                   refine pure_ (i := 4) (N := some 166) (v := ?_) (a' := ?_) Fl3_34 rfl rfl (any_of HT_.out (by kernel_rfl)) (fun _ _ _ h => h) (Or.inl ⟨by rfl, ?_⟩) ?_ ?_; rotate_left; (intro w'; go_simp; with_reducible rfl); rotate_left; (simp only [Act.put, sI, sZ, sS, i64_w, i32_w]; rfl)
                                   refine pure_ (i := 5) (N := some 167) (v := ?_) (a' := ?_) Fl3_35 rfl rfl (any_of HT_.out (by kernel_rfl)) (fun _ _ _ h => h) (Or.inl ⟨by rfl, ?_⟩) ?_ ?_; rotate_left; (intro w'; go_simp; with_reducible rfl); rotate_left; (simp only [Act.put, sI, sZ, sS, i64_w, i32_w]; rfl)
                                   refine pure_ (i := 7) (N := some 169) (v := ?_) (a' := ?_) Fl3_74 rfl rfl (any_of HT_.out (by kernel_rfl)) (fun _ _ _ h => h) (Or.inl ⟨by rfl, ?_⟩) ?_ ?_; rotate_left; (intro w'; go_simp; with_reducible rfl); rotate_left; (simp only [Act.put, sI, sZ, sS, i64_w, i32_w]; rfl)
                                   refine pure_ (i := 8) (N := some 170) (v := ?_) (a' := ?_) Fl3_75 rfl rfl (any_of HT_.out (by kernel_rfl)) (fun _ _ _ h => h) (Or.inl ⟨by rfl, ?_⟩) ?_ ?_; rotate_left; (intro w'; go_simp; with_reducible rfl); rotate_left; (simp only [Act.put, sI, sZ, sS, i64_w, i32_w]; rfl)
                                   refine pure_ (i := 9) (N := some 171) (v := ?_) (a' := ?_) Fl3_76 rfl rfl (any_of HT_.out (by kernel_rfl)) (fun _ _ _ h => h) (Or.inl ⟨by rfl, ?_⟩) ?_ ?_; rotate_left; (intro w'; go_simp; with_reducible rfl); rotate_left; (simp only [Act.put, sI, sZ, sS, i64_w, i32_w]; rfl)
                                   refine take_ (i := 6) (N := some 168) (v := ?_) (a' := ?_) Fl3_39 rfl rfl (take_ofW HT_.out HW_.out (by kernel_rfl)) (fun _ _ _ h => h) (Or.inl ⟨by rfl, ?_⟩) hHeld ?_ ?_; rotate_left; (rintro w' ⟨s0, s1, s2, s3, s4⟩; go_simp; with_reducible rfl); rotate_left; (simp only [Act.put, sI, sZ, sS, i64_w, i32_w]; rfl)
                                   refine take_ (i := 10) (N := some 172) (v := ?_) (a' := ?_) Fl3_40 rfl rfl (take_ofW HT_.out HW_.out (by kernel_rfl)) (fun _ _ _ h => h) (Or.inl ⟨by rfl, ?_⟩) hHeld ?_ ?_; rotate_left; (rintro w' ⟨s0, s1, s2, s3, s4⟩; go_simp; with_reducible rfl); rotate_left; (simp only [Act.put, sI, sZ, sS, i64_w, i32_w]; rfl)
                                   refine pure_ (i := 11) (N := some 173) (v := ?_) (a' := ?_) Fl3_41 rfl rfl (any_of HT_.out (by kernel_rfl)) (fun _ _ _ h => h) (Or.inl ⟨by rfl, ?_⟩) ?_ ?_; rotate_left; (intro w'; go_simp; with_reducible rfl); rotate_left; (simp only [Act.put, sI, sZ, sS, i64_w, i32_w]; rfl)
                                   refine pure_ (i := 12) (N := some 174) (v := ?_) (a' := ?_) Fl3_42 rfl rfl (any_of HT_.out (by kernel_rfl)) (fun _ _ _ h => h) (Or.inl ⟨by rfl, ?_⟩) ?_ ?_; rotate_left; (intro w'; go_simp; with_reducible rfl); rotate_left; (simp only [Act.put, sI, sZ, sS, i64_w, i32_w]; rfl)
                                   refine pure_ (i := 13) (N := some 175) (v := ?_) (a' := ?_) Fl3_43 rfl rfl (any_of HT_.out (by kernel_rfl)) (fun _ _ _ h => h) (Or.inl ⟨by rfl, ?_⟩) ?_ ?_; rotate_left; (intro w'; go_simp; with_reducible rfl); rotate_left; (simp only [Act.put, sI, sZ, sS, i64_w, i32_w]; rfl)
                                   refine pure_ (i := 14) (N := some 176) (v := ?_) (a' := ?_) Fl3_44 rfl rfl (any_of HT_.out (by kernel_rfl)) (fun _ _ _ h => h) (Or.inl ⟨by rfl, ?_⟩) ?_ ?_; rotate_left; (intro w'; go_simp; with_reducible rfl); rotate_left; (simp only [Act.put, sI, sZ, sS, i64_w, i32_w]; rfl)
                                   refine pure_ (i := 15) (N := some 177) (v := ?_) (a' := ?_) Fl3_45 rfl rfl (any_of HT_.out (by kernel_rfl)) (fun _ _ _ h => h) (Or.inl ⟨by rfl, ?_⟩) ?_ ?_; rotate_left; (intro w'; go_simp; with_reducible rfl); rotate_left; (simp only [Act.put, sI, sZ, sS, i64_w, i32_w]; rfl)
                                   refine pure_ (i := 16) (N := some 178) (v := ?_) (a' := ?_) Fl3_46 rfl rfl (any_of HT_.out (by kernel_rfl)) (fun _ _ _ h => h) (Or.inl ⟨by rfl, ?_⟩) ?_ ?_; rotate_left; (intro w'; go_simp; with_reducible rfl); rotate_left; (simp only [Act.put, sI, sZ, sS, i64_w, i32_w]; rfl)
                                   refine pure_ (i := 17) (N := some 179) (v := ?_) (a' := ?_) Fl3_47 rfl rfl (any_of HT_.out (by kernel_rfl)) (fun _ _ _ h => h) (Or.inl ⟨by rfl, ?_⟩) ?_ ?_; rotate_left; (intro w'; go_simp; with_reducible rfl); rotate_left; (simp only [Act.put, sI, sZ, sS, i64_w, i32_w]; rfl)
                                   refine pure_ (i := 18) (N := some 180) (v := ?_) (a' := ?_) Fl3_48 rfl rfl (any_of HT_.out (by kernel_rfl)) (fun _ _ _ h => h) (Or.inl ⟨by rfl, ?_⟩) ?_ ?_; rotate_left; (intro w'; go_simp; with_reducible rfl); rotate_left; (simp only [Act.put, sI, sZ, sS, i64_w, i32_w]; rfl)
                                   refine pure_ (i := 19) (N := some 181) (v := undef) (a' := ?_) Fl3_49 rfl rfl (any_of HT_.out (by kernel_rfl)) (fun _ _ _ h => h) (Or.inr ⟨by rfl, rfl⟩) ?_ ?_; rotate_left; (simp only [Act.put, sI, sZ, sS, i64_w, i32_w]; rfl)
                                   refine pure_ (i := 20) (N := some 182) (v := undef) (a' := ?_) Fl3_50 rfl rfl (any_of HT_.out (by kernel_rfl)) (fun _ _ _ h => h) (Or.inr ⟨by rfl, rfl⟩) ?_ ?_; rotate_left; (simp only [Act.put, sI, sZ, sS, i64_w, i32_w]; rfl)
                                   refine pure_ (i := 21) (N := some 183) (v := undef) (a' := ?_) Fl3_51 rfl rfl (any_of HT_.out (by kernel_rfl)) (fun _ _ _ h => h) (Or.inr ⟨by rfl, rfl⟩) ?_ ?_; rotate_left; (simp only [Act.put, sI, sZ, sS, i64_w, i32_w]; rfl)
                                   refine pure_ (i := 22) (N := some 184) (v := undef) (a' := ?_) Fl3_52 rfl rfl (any_of HT_.out (by kernel_rfl)) (fun _ _ _ h => h) (Or.inr ⟨by rfl, rfl⟩) ?_ ?_; rotate_left; (simp only [Act.put, sI, sZ, sS, i64_w, i32_w]; rfl)
                                   refine pure_ (i := 23) (N := some 185) (v := undef) (a' := ?_) Fl3_53 rfl rfl (any_of HT_.out (by kernel_rfl)) (fun _ _ _ h => h) (Or.inr ⟨by rfl, rfl⟩) ?_ ?_; rotate_left; (simp only [Act.put, sI, sZ, sS, i64_w, i32_w]; rfl)
                                   refine pure_ (i := 24) (N := some 186) (v := undef) (a' := ?_) Fl3_54 rfl rfl (any_of HT_.out (by kernel_rfl)) (fun _ _ _ h => h) (Or.inr ⟨by rfl, rfl⟩) ?_ ?_; rotate_left; (simp only [Act.put, sI, sZ, sS, i64_w, i32_w]; rfl)
                                   refine pure_ (i := 25) (N := some 187) (v := undef) (a' := ?_) Fl3_55 rfl rfl (any_of HT_.out (by kernel_rfl)) (fun _ _ _ h => h) (Or.inr ⟨by rfl, rfl⟩) ?_ ?_; rotate_left; (simp only [Act.put, sI, sZ, sS, i64_w, i32_w]; rfl)
                                   refine pure_ (i := 26) (N := some 188) (v := ?_) (a' := ?_) Fl3_56 rfl rfl (any_of HT_.out (by kernel_rfl)) (fun _ _ _ h => h) (Or.inl ⟨by rfl, ?_⟩) ?_ ?_; rotate_left; (intro w'; go_simp; with_reducible rfl); rotate_left; (simp only [Act.put, sI, sZ, sS, i64_w, i32_w]; rfl)
                                   refine pure_ (i := 27) (N := some 189) (v := ?_) (a' := ?_) Fl3_57 rfl rfl (any_of HT_.out (by kernel_rfl)) (fun _ _ _ h => h) (Or.inl ⟨by rfl, ?_⟩) ?_ ?_; rotate_left; (intro w'; go_simp; with_reducible rfl); rotate_left; (simp only [Act.put, sI, sZ, sS, i64_w, i32_w]; rfl)
                                   refine pure_ (i := 28) (N := some 190) (v := ?_) (a' := ?_) Fl3_58 rfl rfl (any_of HT_.out (by kernel_rfl)) (fun _ _ _ h => h) (Or.inl ⟨by rfl, ?_⟩) ?_ ?_; rotate_left; (intro w'; go_simp; with_reducible rfl); rotate_left; (simp only [Act.put, sI, sZ, sS, i64_w, i32_w]; rfl)
                                   refine pure_ (i := 29) (N := some 191) (v := ?_) (a' := ?_) Fl3_59 rfl rfl (any_of HT_.out (by kernel_rfl)) (fun _ _ _ h => h) (Or.inl ⟨by rfl, ?_⟩) ?_ ?_; rotate_left; (intro w'; go_simp; with_reducible rfl); rotate_left; (simp only [Act.put, sI, sZ, sS, i64_w, i32_w]; rfl)
                                   refine pure_ (i := 30) (N := some 192) (v := ?_) (a' := ?_) Fl3_60 rfl rfl (any_of HT_.out (by kernel_rfl)) (fun _ _ _ h => h) (Or.inl ⟨by rfl, ?_⟩) ?_ ?_; rotate_left; (intro w'; go_simp; with_reducible rfl); rotate_left; (simp only [Act.put, sI, sZ, sS, i64_w, i32_w]; rfl)
                                   refine pure_ (i := 31) (N := some 193) (v := ?_) (a' := ?_) Fl3_61 rfl rfl (any_of HT_.out (by kernel_rfl)) (fun _ _ _ h => h) (Or.inl ⟨by rfl, ?_⟩) ?_ ?_; rotate_left; (intro w'; go_simp; with_reducible rfl); rotate_left; (simp only [Act.put, sI, sZ, sS, i64_w, i32_w]; rfl)
                                   refine pure_ (i := 32) (N := some 194) (v := undef) (a' := ?_) Fl3_62 rfl rfl (any_of HT_.out (by kernel_rfl)) (fun _ _ _ h => h) (Or.inr ⟨by rfl, rfl⟩) ?_ ?_; rotate_left; (simp only [Act.put, sI, sZ, sS, i64_w, i32_w]; rfl)
                                   refine pure_ (i := 33) (N := some 195) (v := undef) (a' := ?_) Fl3_63 rfl rfl (any_of HT_.out (by kernel_rfl)) (fun _ _ _ h => h) (Or.inr ⟨by rfl, rfl⟩) ?_ ?_; rotate_left; (simp only [Act.put, sI, sZ, sS, i64_w, i32_w]; rfl)
                                   refine pure_ (i := 34) (N := some 196) (v := undef) (a' := ?_) Fl3_64 rfl rfl (any_of HT_.out (by kernel_rfl)) (fun _ _ _ h => h) (Or.inr ⟨by rfl, rfl⟩) ?_ ?_; rotate_left; (simp only [Act.put, sI, sZ, sS, i64_w, i32_w]; rfl)
                                   refine pure_ (i := 35) (N := some 197) (v := undef) (a' := ?_) Fl3_65 rfl rfl (any_of HT_.out (by kernel_rfl)) (fun _ _ _ h => h) (Or.inr ⟨by rfl, rfl⟩) ?_ ?_; rotate_left; (simp only [Act.put, sI, sZ, sS, i64_w, i32_w]; rfl)
                                   refine pure_ (i := 36) (N := some 198) (v := undef) (a' := ?_) Fl3_66 rfl rfl (any_of HT_.out (by kernel_rfl)) (fun _ _ _ h => h) (Or.inr ⟨by rfl, rfl⟩) ?_ ?_; rotate_left; (simp only [Act.put, sI, sZ, sS, i64_w, i32_w]; rfl)
                                   refine pure_ (i := 37) (N := some 199) (v := undef) (a' := ?_) Fl3_67 rfl rfl (any_of HT_.out (by kernel_rfl)) (fun _ _ _ h => h) (Or.inr ⟨by rfl, rfl⟩) ?_ ?_; rotate_left; (simp only [Act.put, sI, sZ, sS, i64_w, i32_w]; rfl)
                                   refine pure_ (i := 38) (N := some 200) (v := undef) (a' := ?_) Fl3_68 rfl rfl (any_of HT_.out (by kernel_rfl)) (fun _ _ _ h => h) (Or.inr ⟨by rfl, rfl⟩) ?_ ?_; rotate_left; (simp only [Act.put, sI, sZ, sS, i64_w, i32_w]; rfl)
                                   refine pure_ (i := 39) (N := some 201) (v := ?_) (a' := ?_) Fl3_69 rfl rfl (any_of HT_.out (by kernel_rfl)) (fun _ _ _ h => h) (Or.inl ⟨by rfl, ?_⟩) ?_ ?_; rotate_left; (intro w'; go_simp; with_reducible rfl); rotate_left; (simp only [Act.put, sI, sZ, sS, i64_w, i32_w]; rfl)
                                   refine pure_ (i := 40) (N := some 202) (v := ?_) (a' := ?_) Fl3_70 rfl rfl (any_of HT_.out (by kernel_rfl)) (fun _ _ _ h => h) (Or.inl ⟨by rfl, ?_⟩) ?_ ?_; rotate_left; (intro w'; go_simp; with_reducible rfl); rotate_left; (simp only [Act.put, sI, sZ, sS, i64_w, i32_w]; rfl)
                                   refine pure_ (i := 41) (N := some 203) (v := ?_) (a' := ?_) Fl3_71 rfl rfl (any_of HT_.out (by kernel_rfl)) (fun _ _ _ h => h) (Or.inl ⟨by rfl, ?_⟩) ?_ ?_; rotate_left; (intro w'; go_simp; with_reducible rfl); rotate_left; (simp only [Act.put, sI, sZ, sS, i64_w, i32_w]; rfl)
                                   refine pure_ (i := 42) (N := some 204) (v := ?_) (a' := ?_) Fl3_72 rfl rfl (any_of HT_.out (by kernel_rfl)) (fun _ _ _ h => h) (Or.inl ⟨by rfl, ?_⟩) ?_ ?_; rotate_left; (intro w'; go_simp; with_reducible rfl); rotate_left; (simp only [Act.put, sI, sZ, sS, i64_w, i32_w]; rfl)
                                   refine pure_ (i := 43) (N := some 20) (v := ?_) (a' := ?_) Fl3_73 rfl rfl (any_of HT_.out (by kernel_rfl)) (fun _ _ _ h => h) (Or.inl ⟨by rfl, ?_⟩) ?_ ?_; rotate_left; (intro w'; go_simp; with_reducible rfl); rotate_left; (simp only [Act.put, sI, sZ, sS, i64_w, i32_w]; rfl)
                                   refine done_ (done_of HT_.out (by kernel_rfl)) ?_
                                   try go_wp2
                                   go_roundg k6
                                   case measure => have := HK1.out; have := HJ18.out; have := HK3.out; have := HK4.out; have := HK5.out; have := HK6.out; omega
                                   case rel => exact ⟨(false), (wrap64 (x21_6 + 1)), (by first | rfl | (simp; done) | (simp [*]; done)), (by first | rfl | (simp; done) | (simp [*]; done)), H', ⟨by have := HK1.out; have := HJ18.out; have := HK3.out; have := HK4.out; have := HK5.out; have := HK6.out; omega⟩, ⟨by (with_reducible repeat (first | apply Kd.R_alloc | apply Kd.R_drewN | apply Kd.R_drew)); exact HO_9.out⟩, ⟨by (with_reducible repeat (first | apply Kd.R_alloc | apply Kd.R_drewN | apply Kd.R_drew)); exact HO_11.out⟩, ⟨by repeat (first | (with_reducible first | exact HB.out | apply below_alloc | apply pw_below_drewN | apply below_drew1) | exact HB.out)⟩⟩
                               ·rw [if_neg c76] at H
                                have c76b0 : (((rd_T28 x9_1 x21_6).f1).toList == (rdOf ByteArray.empty t162 x19_5).toList) = false := beq_eq_false_iff_ne.mpr c76
                                have c76b1 : (((rd_T28 x9_1 x21_6).f1).toList != (rdOf ByteArray.empty t162 x19_5).toList) = true := bne_iff_ne.mpr c76
                                have H' := Aside0.mk H
                                clear H
                                try go_wp2
                                have n0_ := Aside0.mk (Kd.R_drew HO_9.out); have n1_ := Aside0.mk (Kd.R_drew HO_11.out); have n2_ := Aside0.mk (below_drew1 HB.out); clear HO_9 HO_11 HB; have HO_9 := n0_; have HO_11 := n1_; have HB := n2_; clear n0_ n1_ n2_
                                have p175 : 0 ≤ (x21_6 : Int) := of_decide_eq_true (by first | (with_reducible assumption) | assumption)
                                have q175 : x21_6 < (x9_1.length : Int) := of_decide_eq_true (by first | (with_reducible assumption) | assumption)
                                obtain ⟨ad175, e175, hx175_0, hx175_1, hx175_2, hx175_3⟩ := at_T28 (Kd.R_reads' HO_9.out).2.2 x21_6 p175 q175
                                cases e175
                                replace p175 := eq_true p175
                                replace q175 := eq_true q175
                                have p176 : 0 ≤ (x19_5 : Int) := of_decide_eq_true (by first | (with_reducible assumption) | assumption)
                                have q176 : x19_5 < (t162.length : Int) := of_decide_eq_true (by first | (with_reducible assumption) | assumption)
                                obtain ⟨ad176, e176, hx176_0⟩ := Kd.at_string (Kd.R_reads' HO_11.out).2.2 x19_5 p176 q176
                                cases e176
                                replace p176 := eq_true p176
                                replace q176 := eq_true q176
                                refine start_ (n := 44) (S := fun w' => w'.cell? (ad175.add ((x21_6).toNat * 4)) = some (.string ((rd_T28 x9_1 x21_6).f0)) ∧ w'.cell? ⟨(ad175.add ((x21_6).toNat * 4)).block, (ad175.add ((x21_6).toNat * 4)).off + 1, none⟩ = some (.string ((rd_T28 x9_1 x21_6).f1)) ∧ w'.cell? ⟨(ad175.add ((x21_6).toNat * 4)).block, (ad175.add ((x21_6).toNat * 4)).off + 2, none⟩ = some (.string ((rd_T28 x9_1 x21_6).f2)) ∧ w'.cell? ⟨(ad175.add ((x21_6).toNat * 4)).block, (ad175.add ((x21_6).toNat * 4)).off + 3, none⟩ = some (.int .i64 ((rd_T28 x9_1 x21_6).f3)) ∧ w'.cell? (ad176.add (x19_5).toNat) = some (.string (rdOf ByteArray.empty t162 x19_5))) (ds := []) Fl3_29 (by kernel_rfl) rfl rfl ⟨hx175_0, hx175_1, hx175_2, hx175_3, hx176_0⟩ (fun hHeld => ?_); refine with_tabW RK.tab39 RK.bits39 (fun HT_ HW_ => ?_)
                                generalize wr.drew = w92 at HO_9 HO_11 HB hx175_0 hx175_1 hx175_2 hx175_3 hx176_0 hHeld ⊢
                                refine pure_ (i := 0) (N := some 162) (v := ?_) (a' := ?_) Fl3_30 rfl rfl (any_of HT_.out (by kernel_rfl)) (fun _ _ _ h => h) (Or.inl ⟨by rfl, ?_⟩) ?_ ?_; rotate_left; (intro w'; go_simp; with_reducible rfl); rotate_left; (simp only [Act.put, sI, sZ, sS, i64_w, i32_w]; rfl)
                                refine pure_ (i := 1) (N := some 163) (v := ?_) (a' := ?_) Fl3_31 rfl rfl (any_of HT_.out (by kernel_rfl)) (fun _ _ _ h => h) (Or.inl ⟨by rfl, ?_⟩) ?_ ?_; rotate_left; (intro w'; go_simp; with_reducible rfl); rotate_left; (simp only [Act.put, sI, sZ, sS, i64_w, i32_w]; rfl)
                                refine pure_ (i := 2) (N := some 164) (v := ?_) (a' := ?_) Fl3_32 rfl rfl (any_of HT_.out (by kernel_rfl)) (fun _ _ _ h => h) (Or.inl ⟨by rfl, ?_⟩) ?_ ?_; rotate_left; (intro w'; go_simp; with_reducible rfl); rotate_left; (simp only [Act.put, sI, sZ, sS, i64_w, i32_w]; rfl)
                                refine pure_ (i := 3) (N := some 165) (v := ?_) (a' := ?_) Fl3_33 rfl rfl (any_of HT_.out (by kernel_rfl)) (fun _ _ _ h => h) (Or.inl ⟨by rfl, ?_⟩) ?_ ?_; rotate_left; (intro w'; go_simp; with_reducible rfl); rotate_left; (simp only [Act.put, sI, sZ, sS, i64_w, i32_w]; rfl)
                                refine pure_ (i := 4) (N := some 166) (v := ?_) (a' := ?_) Fl3_34 rfl rfl (any_of HT_.out (by kernel_rfl)) (fun _ _ _ h => h) (Or.inl ⟨by rfl, ?_⟩) ?_ ?_; rotate_left; (intro w'; go_simp; with_reducible rfl); rotate_left; (simp only [Act.put, sI, sZ, sS, i64_w, i32_w]; rfl)
                                refine pure_ (i := 5) (N := some 167) (v := ?_) (a' := ?_) Fl3_35 rfl rfl (any_of HT_.out (by kernel_rfl)) (fun _ _ _ h => h) (Or.inl ⟨by rfl, ?_⟩) ?_ ?_; rotate_left; (intro w'; go_simp; with_reducible rfl); rotate_left; (simp only [Act.put, sI, sZ, sS, i64_w, i32_w]; rfl)
                                refine pure_ (i := 7) (N := some 169) (v := ?_) (a' := ?_) Fl3_74 rfl rfl (any_of HT_.out (by kernel_rfl)) (fun _ _ _ h => h) (Or.inl ⟨by rfl, ?_⟩) ?_ ?_; rotate_left; (intro w'; go_simp; with_reducible rfl); rotate_left; (simp only [Act.put, sI, sZ, sS, i64_w, i32_w]; rfl)
                                refine pure_ (i := 8) (N := some 170) (v := ?_) (a' := ?_) Fl3_75 rfl rfl (any_of HT_.out (by kernel_rfl)) (fun _ _ _ h => h) (Or.inl ⟨by rfl, ?_⟩) ?_ ?_; rotate_left; (intro w'; go_simp; with_reducible rfl); rotate_left; (simp only [Act.put, sI, sZ, sS, i64_w, i32_w]; rfl)
                                refine pure_ (i := 9) (N := some 171) (v := ?_) (a' := ?_) Fl3_76 rfl rfl (any_of HT_.out (by kernel_rfl)) (fun _ _ _ h => h) (Or.inl ⟨by rfl, ?_⟩) ?_ ?_; rotate_left; (intro w'; go_simp; with_reducible rfl); rotate_left; (simp only [Act.put, sI, sZ, sS, i64_w, i32_w]; rfl)
                                refine take_ (i := 6) (N := some 168) (v := ?_) (a' := ?_) Fl3_39 rfl rfl (take_ofW HT_.out HW_.out (by kernel_rfl)) (fun _ _ _ h => h) (Or.inl ⟨by rfl, ?_⟩) hHeld ?_ ?_; rotate_left; (rintro w' ⟨s0, s1, s2, s3, s4⟩; go_simp; with_reducible rfl); rotate_left; (simp only [Act.put, sI, sZ, sS, i64_w, i32_w]; rfl)
                                refine take_ (i := 10) (N := some 172) (v := ?_) (a' := ?_) Fl3_40 rfl rfl (take_ofW HT_.out HW_.out (by kernel_rfl)) (fun _ _ _ h => h) (Or.inl ⟨by rfl, ?_⟩) hHeld ?_ ?_; rotate_left; (rintro w' ⟨s0, s1, s2, s3, s4⟩; go_simp; with_reducible rfl); rotate_left; (simp only [Act.put, sI, sZ, sS, i64_w, i32_w]; rfl)
                                refine pure_ (i := 11) (N := some 173) (v := ?_) (a' := ?_) Fl3_41 rfl rfl (any_of HT_.out (by kernel_rfl)) (fun _ _ _ h => h) (Or.inl ⟨by rfl, ?_⟩) ?_ ?_; rotate_left; (intro w'; go_simp; with_reducible rfl); rotate_left; (simp only [Act.put, sI, sZ, sS, i64_w, i32_w]; rfl)
                                refine pure_ (i := 12) (N := some 174) (v := ?_) (a' := ?_) Fl3_42 rfl rfl (any_of HT_.out (by kernel_rfl)) (fun _ _ _ h => h) (Or.inl ⟨by rfl, ?_⟩) ?_ ?_; rotate_left; (intro w'; go_simp; with_reducible rfl); rotate_left; (simp only [Act.put, sI, sZ, sS, i64_w, i32_w]; rfl)
                                refine pure_ (i := 13) (N := some 175) (v := undef) (a' := ?_) Fl3_43 rfl rfl (any_of HT_.out (by kernel_rfl)) (fun _ _ _ h => h) (Or.inr ⟨by rfl, rfl⟩) ?_ ?_; rotate_left; (simp only [Act.put, sI, sZ, sS, i64_w, i32_w]; rfl)
                                refine pure_ (i := 14) (N := some 176) (v := undef) (a' := ?_) Fl3_44 rfl rfl (any_of HT_.out (by kernel_rfl)) (fun _ _ _ h => h) (Or.inr ⟨by rfl, rfl⟩) ?_ ?_; rotate_left; (simp only [Act.put, sI, sZ, sS, i64_w, i32_w]; rfl)
                                refine pure_ (i := 15) (N := some 177) (v := undef) (a' := ?_) Fl3_45 rfl rfl (any_of HT_.out (by kernel_rfl)) (fun _ _ _ h => h) (Or.inr ⟨by rfl, rfl⟩) ?_ ?_; rotate_left; (simp only [Act.put, sI, sZ, sS, i64_w, i32_w]; rfl)
                                refine pure_ (i := 16) (N := some 178) (v := undef) (a' := ?_) Fl3_46 rfl rfl (any_of HT_.out (by kernel_rfl)) (fun _ _ _ h => h) (Or.inr ⟨by rfl, rfl⟩) ?_ ?_; rotate_left; (simp only [Act.put, sI, sZ, sS, i64_w, i32_w]; rfl)
                                refine pure_ (i := 17) (N := some 179) (v := undef) (a' := ?_) Fl3_47 rfl rfl (any_of HT_.out (by kernel_rfl)) (fun _ _ _ h => h) (Or.inr ⟨by rfl, rfl⟩) ?_ ?_; rotate_left; (simp only [Act.put, sI, sZ, sS, i64_w, i32_w]; rfl)
                                refine pure_ (i := 18) (N := some 180) (v := undef) (a' := ?_) Fl3_48 rfl rfl (any_of HT_.out (by kernel_rfl)) (fun _ _ _ h => h) (Or.inr ⟨by rfl, rfl⟩) ?_ ?_; rotate_left; (simp only [Act.put, sI, sZ, sS, i64_w, i32_w]; rfl)
                                refine pure_ (i := 19) (N := some 181) (v := undef) (a' := ?_) Fl3_49 rfl rfl (any_of HT_.out (by kernel_rfl)) (fun _ _ _ h => h) (Or.inr ⟨by rfl, rfl⟩) ?_ ?_; rotate_left; (simp only [Act.put, sI, sZ, sS, i64_w, i32_w]; rfl)
                                refine pure_ (i := 20) (N := some 182) (v := undef) (a' := ?_) Fl3_50 rfl rfl (any_of HT_.out (by kernel_rfl)) (fun _ _ _ h => h) (Or.inr ⟨by rfl, rfl⟩) ?_ ?_; rotate_left; (simp only [Act.put, sI, sZ, sS, i64_w, i32_w]; rfl)
                                refine pure_ (i := 21) (N := some 183) (v := undef) (a' := ?_) Fl3_51 rfl rfl (any_of HT_.out (by kernel_rfl)) (fun _ _ _ h => h) (Or.inr ⟨by rfl, rfl⟩) ?_ ?_; rotate_left; (simp only [Act.put, sI, sZ, sS, i64_w, i32_w]; rfl)
                                refine pure_ (i := 22) (N := some 184) (v := undef) (a' := ?_) Fl3_52 rfl rfl (any_of HT_.out (by kernel_rfl)) (fun _ _ _ h => h) (Or.inr ⟨by rfl, rfl⟩) ?_ ?_; rotate_left; (simp only [Act.put, sI, sZ, sS, i64_w, i32_w]; rfl)
                                refine pure_ (i := 23) (N := some 185) (v := undef) (a' := ?_) Fl3_53 rfl rfl (any_of HT_.out (by kernel_rfl)) (fun _ _ _ h => h) (Or.inr ⟨by rfl, rfl⟩) ?_ ?_; rotate_left; (simp only [Act.put, sI, sZ, sS, i64_w, i32_w]; rfl)
                                refine pure_ (i := 24) (N := some 186) (v := undef) (a' := ?_) Fl3_54 rfl rfl (any_of HT_.out (by kernel_rfl)) (fun _ _ _ h => h) (Or.inr ⟨by rfl, rfl⟩) ?_ ?_; rotate_left; (simp only [Act.put, sI, sZ, sS, i64_w, i32_w]; rfl)
                                refine pure_ (i := 25) (N := some 187) (v := undef) (a' := ?_) Fl3_55 rfl rfl (any_of HT_.out (by kernel_rfl)) (fun _ _ _ h => h) (Or.inr ⟨by rfl, rfl⟩) ?_ ?_; rotate_left; (simp only [Act.put, sI, sZ, sS, i64_w, i32_w]; rfl)
                                refine pure_ (i := 26) (N := some 188) (v := undef) (a' := ?_) Fl3_56 rfl rfl (any_of HT_.out (by kernel_rfl)) (fun _ _ _ h => h) (Or.inr ⟨by rfl, rfl⟩) ?_ ?_; rotate_left; (simp only [Act.put, sI, sZ, sS, i64_w, i32_w]; rfl)
                                refine pure_ (i := 27) (N := some 189) (v := undef) (a' := ?_) Fl3_57 rfl rfl (any_of HT_.out (by kernel_rfl)) (fun _ _ _ h => h) (Or.inr ⟨by rfl, rfl⟩) ?_ ?_; rotate_left; (simp only [Act.put, sI, sZ, sS, i64_w, i32_w]; rfl)
                                refine pure_ (i := 28) (N := some 190) (v := undef) (a' := ?_) Fl3_58 rfl rfl (any_of HT_.out (by kernel_rfl)) (fun _ _ _ h => h) (Or.inr ⟨by rfl, rfl⟩) ?_ ?_; rotate_left; (simp only [Act.put, sI, sZ, sS, i64_w, i32_w]; rfl)
                                refine pure_ (i := 29) (N := some 191) (v := undef) (a' := ?_) Fl3_59 rfl rfl (any_of HT_.out (by kernel_rfl)) (fun _ _ _ h => h) (Or.inr ⟨by rfl, rfl⟩) ?_ ?_; rotate_left; (simp only [Act.put, sI, sZ, sS, i64_w, i32_w]; rfl)
                                refine pure_ (i := 30) (N := some 192) (v := undef) (a' := ?_) Fl3_60 rfl rfl (any_of HT_.out (by kernel_rfl)) (fun _ _ _ h => h) (Or.inr ⟨by rfl, rfl⟩) ?_ ?_; rotate_left; (simp only [Act.put, sI, sZ, sS, i64_w, i32_w]; rfl)
                                refine pure_ (i := 31) (N := some 193) (v := undef) (a' := ?_) Fl3_61 rfl rfl (any_of HT_.out (by kernel_rfl)) (fun _ _ _ h => h) (Or.inr ⟨by rfl, rfl⟩) ?_ ?_; rotate_left; (simp only [Act.put, sI, sZ, sS, i64_w, i32_w]; rfl)
                                refine pure_ (i := 32) (N := some 194) (v := undef) (a' := ?_) Fl3_62 rfl rfl (any_of HT_.out (by kernel_rfl)) (fun _ _ _ h => h) (Or.inr ⟨by rfl, rfl⟩) ?_ ?_; rotate_left; (simp only [Act.put, sI, sZ, sS, i64_w, i32_w]; rfl)
                                refine pure_ (i := 33) (N := some 195) (v := undef) (a' := ?_) Fl3_63 rfl rfl (any_of HT_.out (by kernel_rfl)) (fun _ _ _ h => h) (Or.inr ⟨by rfl, rfl⟩) ?_ ?_; rotate_left; (simp only [Act.put, sI, sZ, sS, i64_w, i32_w]; rfl)
                                refine pure_ (i := 34) (N := some 196) (v := undef) (a' := ?_) Fl3_64 rfl rfl (any_of HT_.out (by kernel_rfl)) (fun _ _ _ h => h) (Or.inr ⟨by rfl, rfl⟩) ?_ ?_; rotate_left; (simp only [Act.put, sI, sZ, sS, i64_w, i32_w]; rfl)
                                refine pure_ (i := 35) (N := some 197) (v := undef) (a' := ?_) Fl3_65 rfl rfl (any_of HT_.out (by kernel_rfl)) (fun _ _ _ h => h) (Or.inr ⟨by rfl, rfl⟩) ?_ ?_; rotate_left; (simp only [Act.put, sI, sZ, sS, i64_w, i32_w]; rfl)
                                refine pure_ (i := 36) (N := some 198) (v := undef) (a' := ?_) Fl3_66 rfl rfl (any_of HT_.out (by kernel_rfl)) (fun _ _ _ h => h) (Or.inr ⟨by rfl, rfl⟩) ?_ ?_; rotate_left; (simp only [Act.put, sI, sZ, sS, i64_w, i32_w]; rfl)
                                refine pure_ (i := 37) (N := some 199) (v := undef) (a' := ?_) Fl3_67 rfl rfl (any_of HT_.out (by kernel_rfl)) (fun _ _ _ h => h) (Or.inr ⟨by rfl, rfl⟩) ?_ ?_; rotate_left; (simp only [Act.put, sI, sZ, sS, i64_w, i32_w]; rfl)
                                refine pure_ (i := 38) (N := some 200) (v := undef) (a' := ?_) Fl3_68 rfl rfl (any_of HT_.out (by kernel_rfl)) (fun _ _ _ h => h) (Or.inr ⟨by rfl, rfl⟩) ?_ ?_; rotate_left; (simp only [Act.put, sI, sZ, sS, i64_w, i32_w]; rfl)
                                refine pure_ (i := 39) (N := some 201) (v := undef) (a' := ?_) Fl3_69 rfl rfl (any_of HT_.out (by kernel_rfl)) (fun _ _ _ h => h) (Or.inr ⟨by rfl, rfl⟩) ?_ ?_; rotate_left; (simp only [Act.put, sI, sZ, sS, i64_w, i32_w]; rfl)
                                refine pure_ (i := 40) (N := some 202) (v := undef) (a' := ?_) Fl3_70 rfl rfl (any_of HT_.out (by kernel_rfl)) (fun _ _ _ h => h) (Or.inr ⟨by rfl, rfl⟩) ?_ ?_; rotate_left; (simp only [Act.put, sI, sZ, sS, i64_w, i32_w]; rfl)
                                refine pure_ (i := 41) (N := some 203) (v := ?_) (a' := ?_) Fl3_71 rfl rfl (any_of HT_.out (by kernel_rfl)) (fun _ _ _ h => h) (Or.inl ⟨by rfl, ?_⟩) ?_ ?_; rotate_left; (intro w'; go_simp; with_reducible rfl); rotate_left; (simp only [Act.put, sI, sZ, sS, i64_w, i32_w]; rfl)
                                refine pure_ (i := 42) (N := some 204) (v := ?_) (a' := ?_) Fl3_72 rfl rfl (any_of HT_.out (by kernel_rfl)) (fun _ _ _ h => h) (Or.inl ⟨by rfl, ?_⟩) ?_ ?_; rotate_left; (intro w'; go_simp; with_reducible rfl); rotate_left; (simp only [Act.put, sI, sZ, sS, i64_w, i32_w]; rfl)
                                refine pure_ (i := 43) (N := some 20) (v := ?_) (a' := ?_) Fl3_73 rfl rfl (any_of HT_.out (by kernel_rfl)) (fun _ _ _ h => h) (Or.inl ⟨by rfl, ?_⟩) ?_ ?_; rotate_left; (intro w'; go_simp; with_reducible rfl); rotate_left; (simp only [Act.put, sI, sZ, sS, i64_w, i32_w]; rfl)
                                refine done_ (done_of HT_.out (by kernel_rfl)) ?_
                                try go_wp2
                                go_roundg k6
                                case measure => have := HK1.out; have := HJ18.out; have := HK3.out; have := HK4.out; have := HK5.out; have := HK6.out; omega
                                case rel => exact ⟨(false), (wrap64 (x21_6 + 1)), (by first | rfl | (simp; done) | (simp [*]; done)), (by first | rfl | (simp; done) | (simp [*]; done)), H', ⟨by have := HK1.out; have := HJ18.out; have := HK3.out; have := HK4.out; have := HK5.out; have := HK6.out; omega⟩, ⟨by (with_reducible repeat (first | apply Kd.R_alloc | apply Kd.R_drewN | apply Kd.R_drew)); exact HO_9.out⟩, ⟨by (with_reducible repeat (first | apply Kd.R_alloc | apply Kd.R_drewN | apply Kd.R_drew)); exact HO_11.out⟩, ⟨by repeat (first | (with_reducible first | exact HB.out | apply below_alloc | apply pw_below_drewN | apply below_drew1) | exact HB.out)⟩⟩
                              ·rw [if_neg c75] at H
                               exact absurd H (by simp)
                             ·rw [if_neg c74] at H
                              exact absurd H (by simp)
                            ·rw [if_neg c73] at H
                             exact absurd H (by simp)
                          ·rw [if_neg c70] at H
                           have c70b0 : decide (x21_6 < (x9_1.length : Int)) = false := decide_eq_false c70
                           clear c70
                           by_cases c93 : x20_6 = true
                           ·subst c93
                            have H1 : (RK.l12 k6 a2 (wrap64 (1 + (wrap64 (Int.tmod (IntKind.u64.wrap (a1)) 3)))) x9_1 t162 (wrap64 (x19_5 + 1))) = some r := by rw [if_pos rfl] at H; exact H
                            clear H; have H := H1; clear H1
                            have H' := Aside0.mk H
                            clear H
                            go_wp2
                            go_roundg k6
                            case measure => have := HK1.out; have := HJ18.out; have := HK3.out; have := HK4.out; have := HK5.out; have := HK6.out; omega
                            case rel => exact ⟨(wrap64 (x19_5 + 1)), (by first | rfl | (simp; done) | (simp [*]; done)), H', ⟨by have := HK1.out; have := HJ18.out; have := HK3.out; have := HK4.out; have := HK5.out; have := HK6.out; omega⟩, ⟨by (with_reducible repeat (first | apply Kd.R_alloc | apply Kd.R_drewN | apply Kd.R_drew)); exact HO_9.out⟩, ⟨by (with_reducible repeat (first | apply Kd.R_alloc | apply Kd.R_drewN | apply Kd.R_drew)); exact HO_11.out⟩, ⟨by repeat (first | (with_reducible first | exact HB.out | apply below_alloc | apply pw_below_drewN | apply below_drew1) | exact HB.out)⟩⟩
                           ·replace c93 := Bool.eq_false_iff.mpr c93
                            subst c93
                            have H1 : (some false) = some r := by rw [if_neg (show ¬ (false = true) by decide)] at H; exact H
                            clear H; have H := H1; clear H1
                            rw [HRT.out] at H
                            exact absurd H (by (repeat' split) <;> simp [Option.bind_eq_some_iff])
                      ·rw [if_neg c69] at H
                       have c69b0 : decide (x19_5 < (t162.length : Int)) = false := decide_eq_false c69
                       clear c69
                       replace H := Option.bind_eq_some_iff.mp H
                       obtain ⟨t182, A940, H⟩ := H
                       replace H : (some t182) = some r := H
                       have A94 := Aside0.mk A940; clear A940 HRT
                       obtain rfl := Option.some.inj H
                       go_wp2_with (first | ((with_reducible refine gate_callee (f := 9) rfl ?_); refine goesL_ (some 207) rfl rfl Tryd.func9 (by kernel_rfl) rfl #[] rfl (by (try simp only [List.map_toArray, List.map_cons, List.map_nil]); first | done | rfl | (simp only [List.length_drop, List.length_take]; rfl)) ?_; (with_reducible refine (law8_told.calls  t182 _ ?side1 A94.out).mono ?_); (case side1 => exact Gl.below HGL.out (by repeat (first | (with_reducible first | exact HB.out | apply below_alloc | apply pw_below_drewN | apply below_drew1) | exact HB.out))); rintro e w95 ⟨rfl, hb⟩; refine ⟨_, rfl, ?_⟩; have n0_ := Aside0.mk (Kd.R_below (by (with_reducible repeat (first | apply Kd.R_alloc | apply Kd.R_drewN | apply Kd.R_drew)); exact HO_9.out) hb); have n1_ := Aside0.mk (Kd.R_below (by (with_reducible repeat (first | apply Kd.R_alloc | apply Kd.R_drewN | apply Kd.R_drew)); exact HO_11.out) hb); have n2_ := Aside0.mk (below_step (by repeat (first | (with_reducible first | exact HB.out | apply below_alloc | apply pw_below_drewN | apply below_drew1) | exact HB.out)) hb); clear HO_9; clear HO_11; clear HB; have HO_9 := n0_; have HO_11 := n1_; have HB := n2_; clear n0_ n1_ n2_; (try clear hb); (try clear hb2); (try clear hk); (try clear hi)))
                       go_ret
                       exact ⟨by first | rfl | (simp [errW_none, errW_some] <;> rfl) | (simp [*, errW_none, errW_some] <;> rfl), by repeat (first | (with_reducible first | exact HB.out | apply below_alloc | apply pw_below_drewN | apply below_drew1) | exact HB.out)⟩
          ·rw [if_neg c33] at H
           have c33b0 : (t163 == 0) = false := beq_eq_false_iff_ne.mpr c33
           have c33b1 : (t163 != 0) = true := bne_iff_ne.mpr c33
           rw [HRT.out] at H
           exact absurd H (by (repeat' split) <;> simp [Option.bind_eq_some_iff])
  ·rw [if_neg c4] at H
   exact absurd H (by simp)
def RK.Pure : Prop := ∀ (l0 : List (S28)) (a1 : Int) (a2 : ByteArray), (l0.length * 56 ≤ 140737488351232 ∧ ∀ y0_ ∈ l0, (y0_.f0.size ≤ 140737488351232 ∧ y0_.f1.size ≤ 140737488351232 ∧ y0_.f2.size ≤ 140737488351232 ∧ (Lit.int .i64 y0_.f3).wf = true)) → (Lit.int .i64 a1).wf = true → a2.size ≤ 140737488351232 → ∃ k, RK.f k l0 a1 a2 = some true

end
end Go.Proofs.YtpmalfabeajepaaDoor.PGd
