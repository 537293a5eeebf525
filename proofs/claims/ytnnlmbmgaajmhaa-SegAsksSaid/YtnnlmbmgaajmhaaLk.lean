/-
  What the laws ask of a few (told): it is told.
  Conditions: none.
-/
import Derived.Test.YtnnlmbmgaajmhaaLj
import Derived.Lib.SlBytesConst
namespace Go.Proofs.Ytnnlmbmgaajmhaa.Seg
open Go.RowKit Go.Proofs.YtnnlmbmgaajmhaaW.PrintWords Go.Proofs.YtnnlmbmgaajmhaaW.PrintLast Go.Proofs.YtnnlmbmgaajmhaaW.PrintMore Go.Proofs.YtnnlmbmgaajmhaaG Go.Proofs.Ytnnlmbmgaajmhaa.PGa
set_option linter.unusedVariables false
set_option linter.unusedSimpArgs false

/-- A row written down in the text. -/
theorem By_lit {N : Nat} {W : World} {xs : List Int} {inner : List Value} (hrep : Reps ((Kd.int .u8).M W N (fun _ => True)) 1 xs inner) (hN : N ≤ W.heap.size) (hm : xs.length ≤ 9223372036854775807) :
    By N (W.alloc (.cells inner.toArray 5)) (.slice (some ⟨W.heap.size, 0, none⟩) xs.length xs.length) xs := by
  refine ⟨fun k hk => trivial, inner, ?_, ?_⟩
  · have h2 := World.ownsRow_lit (base := N) (e := 5) (size := 1) W inner.toArray xs.length hN (by simpa [maxLen] using hm) (by have := hrep.1; rw [List.size_toArray, this, Nat.mul_one])
    have h3 : (W.alloc (.cells inner.toArray 5)).ownsRow N 5 1 (.slice (some ⟨W.heap.size, 0, none⟩) xs.length xs.length) xs.length inner := by simpa using h2
    exact h3
  · refine hrep.imp_ (fun p c hp => (Kd.int .u8).M_mono (fun k hk => ⟨trivial, fun he => ?_⟩) (Kd.M_below ((Kd.int .u8).M_bound hp) (below_alloc (Below.refl _ _) _)))
    have h3 : k = W.heap.size := by simpa [Value.ownBlock] using he
    have := hk.2.2.1
    omega
theorem C_lit (w : World) (xs : List Int) (fr : Nat × Nat) (hm : xs.length ≤ 9223372036854775807) : Kd.C (Kd.int .u8) (w.alloc (.cells (xs.map (Value.int .u8)).toArray 5 fr)) (some ⟨w.heap.size, 0, none⟩) xs.length xs := by
  refine ⟨rfl, hm, fun _ => ⟨_, rfl, fun j p hj => ⟨[.int .u8 p], rfl, rfl, fun i u hu => ?_⟩⟩⟩
  have hi : i = 0 := by
    have := (List.getElem?_eq_some_iff.1 hu).1
    simpa using this
  subst hi
  have hu' : .int .u8 p = u := by simpa using hu
  subst hu'
  have h2 : (⟨w.heap.size, 0, none⟩ : Addr).add (j * (Kd.int .u8).sz + 0) = ⟨w.heap.size, j, none⟩ := by
    have h3 : (Kd.int .u8).sz = 1 := rfl
    rw [h3]
    unfold Addr.add
    by_cases hj0 : j = 0
    · subst hj0
      rfl
    · rw [if_neg (by omega)]
      simp
  rw [h2, World.cell?_alloc_mark, List.getElem?_toArray, List.getElem?_map, hj]
  rfl

/-- A row's form, at a length that is known. -/
theorem By.form {N : Nat} {w : World} {v : Value} {l : List Int} (h : By N w v l) (n : Nat) (hn : l.length = n) : ∃ A c, v = .slice A n c ∧ n ≤ c ∧ Kd.C (Kd.int .u8) w A n l := by
  subst hn
  exact Kd.R_reads h
/-- The record of "ab", of "c". -/
abbrev rab : List Int := ((seg_Record.f 9 [97, 98]).getD ([], 0)).1
abbrev rc : List Int := ((seg_Record.f 9 [99]).getD ([], 0)).1
theorem rab8 : rab.length = 8 := by kernel_rfl
theorem rc7 : rc.length = 7 := by kernel_rfl
theorem rab_is : seg_Record.f 9 [97, 98] = some (rab, 0) := by kernel_rfl
theorem rc_is : seg_Record.f 9 [99] = some (rc, 0) := by kernel_rfl
theorem rn_is : seg_Record.f 9 [] = some ([], 1) := by kernel_rfl
theorem rd_is : seg_Read.f 20 (rab ++ [0]) = some ([[97, 98]], 8) := by kernel_rfl
theorem op_is : seg_Read.f 20 rab = some ([[97, 98]], 8) := by kernel_rfl
theorem sm_is : seg_Sum.f 9 [] = some 1 := by kernel_rfl

theorem rec_ab (w : World) (fr : Nat × Nat) : Calls Try.prog 11 #[.slice (some ⟨w.heap.size, 0, none⟩) 2 2] (w.alloc (.cells #[.int .u8 97, .int .u8 98] 5 fr)) fun e w' => ∃ A c, e = .returned (.tuple #[.slice A 8 c, .int .i64 0]) ∧ By w.heap.size w' (.slice A 8 c) rab ∧ Below w.heap.size w w' := by
  have hb := (Below.refl w.heap.size w).alloc (Nat.le_refl _) (.cells #[.int .u8 97, .int .u8 98] 5 fr)
  refine (seg_Record.calls 9 _ 2 [97, 98] rab 0 _ (C_lit w [97, 98] fr (by decide)) (by decide) rab_is).mono ?_
  rintro e w' ⟨v, rfl, hv, hb2⟩
  obtain ⟨A, c, rfl, -, -⟩ := By.form hv 8 rab8
  exact ⟨A, c, rfl, Kd.R_lower hv hb.size, hb.trans (hb2.mono hb.size)⟩
theorem rec_nil (w : World) : Calls Try.prog 11 #[.slice none 0 0] w fun e w' => ∃ A c, e = .returned (.tuple #[.slice A 0 c, .int .i64 1]) ∧ Below w.heap.size w w' := by
  refine (seg_Record.calls 9 none 0 [] [] 1 _ (Kd.C_nil _ _) (by decide) rn_is).mono ?_
  rintro e w' ⟨v, rfl, hv, hb2⟩
  obtain ⟨A, c, rfl⟩ := Kd.R_slice hv
  exact ⟨A, c, rfl, hb2⟩

theorem len9 : (rab ++ [0]).length = 9 := by kernel_rfl
theorem len15 : (rab ++ rc).length = 15 := by kernel_rfl
theorem len11 : (rab ++ rc.take (3 : Int).toNat).length = 11 := by kernel_rfl
theorem len15' : (rab ++ rc.take (7 : Int).toNat).length = 15 := by kernel_rfl
theorem sync_len : rab.length + rc.length ≤ 140737488355328 := by rw [rab8, rc7]; decide
theorem k3 : mn (mx 3) rc.length = 3 := by kernel_rfl
theorem k99 : mn (mx 99) rc.length = 7 := by kernel_rfl
theorem read9 (w : World) (A : Option Addr) (c : Nat) (hr : Kd.C (Kd.int .u8) w A 9 (rab ++ [0])) (hc : 9 ≤ c) :
    Calls Try.prog 14 #[.slice A 9 c] w fun e w' => ∃ B cb, e = .returned (.tuple #[.slice B 1 cb, .int .i64 8]) ∧ Below w.heap.size w w' := by
  have h := seg_Read.calls 20 A c (rab ++ [0]) [[97, 98]] 8 w
  rw [len9] at h
  refine (h hr hc rd_is).mono ?_
  rintro e w' ⟨v, rfl, hv, hb⟩
  obtain ⟨B, cb, rfl⟩ := Kd.S_slice hv
  exact ⟨B, cb, rfl, hb⟩
theorem open8 (w : World) (A : Option Addr) (c : Nat) (hr : Kd.C (Kd.int .u8) w A 8 rab) (hc : 8 ≤ c) :
    Calls Try.prog 16 #[.slice A 8 c] w fun e w' => ∃ B cb vs N lp, e = .returned (.tuple #[.pointer (some ⟨lp, 0, none⟩), .slice B 1 cb]) ∧ Below w.heap.size w w' ∧ w.heap.size ≤ N ∧ N ≤ w'.heap.size ∧
      Kd.S (Kd.slice 5 (Kd.int .u8)) 22 w' w.heap.size (fun k => k < N) (.slice B 1 cb) [[97, 98]] ∧ Lg N w' lp rab [] false vs (.slice none 0 0) := by
  have h := Open_is A c rab [[97, 98]] 8 20 w
  rw [rab8] at h
  refine (h hr hc op_is (by decide) (by decide) (by decide)).mono ?_
  rintro e w' ⟨v, vs, N, lp, rfl, hb, h1, h2, hv, hL⟩
  obtain ⟨B, cb, rfl⟩ := Kd.S_slice hv
  rw [List.take_of_length_le (by rw [rab8]; decide)] at hL
  exact ⟨B, cb, vs, N, lp, rfl, hb, h1, h2, hv, hL⟩
theorem put1 {N lp : Nat} {vs vt : Value} {s : List Int} (U : World) (fr : Nat × Nat) (h : Lg N U lp s [] false vs vt) (hN : N ≤ U.heap.size) :
    Calls Try.prog 23 #[.pointer (some ⟨lp, 0, none⟩), .slice (some ⟨U.heap.size, 0, none⟩) 1 1] (U.alloc (.cells #[.int .u8 99] 5 fr)) fun e w' => e = .returned (.int .i64 0) ∧ Below N U w' ∧ ∃ vt', Lg N w' lp s rc false vs vt' := by
  have hb := (Below.refl U.heap.size U).alloc (Nat.le_refl _) (.cells #[.int .u8 99] 5 fr)
  refine (Put_is (h.below hb) (Nat.le_trans hN hb.size) _ 1 [99] rc 0 9 (C_lit U [99] fr (by decide)) (by decide) rc_is (by rw [rc7]; decide)).mono ?_
  rintro e w' ⟨rfl, hb2, hL⟩
  exact ⟨rfl, (hb.mono hN).trans hb2, hL⟩
theorem waits7 {N lp : Nat} {vs vt : Value} {s : List Int} {w : World} (h : Lg N w lp s rc false vs vt) : Calls Try.prog 21 #[.pointer (some ⟨lp, 0, none⟩)] w fun e w' => e = .returned (.int .i64 7) ∧ w' = w := by
  have h2 := Waits_is h
  rw [rc7] at h2
  exact h2
theorem waits0 {N lp : Nat} {vs vt : Value} {s : List Int} {w : World} (h : Lg N w lp s [] false vs vt) : Calls Try.prog 21 #[.pointer (some ⟨lp, 0, none⟩)] w fun e w' => e = .returned (.int .i64 0) ∧ w' = w := Waits_is h
theorem crash11 {N lp : Nat} {vs vt : Value} {w : World} (h : Lg N w lp rab rc false vs vt) : Calls Try.prog 24 #[.pointer (some ⟨lp, 0, none⟩), .int .i64 3] w fun e w' => ∃ A c, e = .returned (.slice A 11 c) ∧ Below w.heap.size w w' := by
  refine (Crash_plain h 3 3 k3 (by rw [rab8, rc7]; decide)).mono ?_
  rintro e w' ⟨v, rfl, hv, hb⟩
  obtain ⟨A, c, rfl, -, -⟩ := By.form hv 11 len11
  exact ⟨A, c, rfl, hb⟩
theorem crash15 {N lp : Nat} {vs vt : Value} {w : World} (h : Lg N w lp rab rc false vs vt) : Calls Try.prog 24 #[.pointer (some ⟨lp, 0, none⟩), .int .i64 99] w fun e w' => ∃ A c, e = .returned (.slice A 15 c) ∧ Below w.heap.size w w' := by
  refine (Crash_plain h 99 7 k99 (by rw [rab8, rc7]; decide)).mono ?_
  rintro e w' ⟨v, rfl, hv, hb⟩
  obtain ⟨A, c, rfl, -, -⟩ := By.form hv 15 len15'
  exact ⟨A, c, rfl, hb⟩
theorem bytes15 {N lp : Nat} {vs vt : Value} {t : List Int} {b : Bool} {w : World} (h : Lg N w lp (rab ++ rc) t b vs vt) : Calls Try.prog 20 #[.pointer (some ⟨lp, 0, none⟩)] w fun e w' => ∃ A c, e = .returned (.slice A 15 c) ∧ Below w.heap.size w w' := by
  refine (Bytes_is h (by rw [len15]; decide)).mono ?_
  rintro e w' ⟨v, rfl, hv, hb⟩
  obtain ⟨A, c, rfl, -, -⟩ := By.form hv 15 len15
  exact ⟨A, c, rfl, hb⟩
theorem sum0 (w : World) : Calls Try.prog 17 #[.slice none 0 0] w fun e w' => e = .returned (.int .u32 1) ∧ Below w.heap.size w w' := by
  refine (seg_Sum.calls 9 none 0 [] 1 w (Kd.C_nil _ _) (by decide) sm_is).mono ?_
  rintro e w' ⟨rfl, nd, rfl⟩
  exact ⟨rfl, pw_below_drewN (Below.refl _ _) _⟩
/-- The first of some rows: where it lies, and its bytes. -/
theorem row0 {w : World} {base : Nat} {ok : Nat → Prop} {B : Option Addr} {cb n : Nat} {l : List Int} {ls : List (List Int)} (h : Kd.S (Kd.slice 5 (Kd.int .u8)) 22 w base ok (.slice B n cb) (l :: ls)) :
    ∃ g A c, B = some ⟨g, 0, none⟩ ∧ w.cell? ⟨g, 0, none⟩ = some (.slice A l.length c) ∧ Kd.C (Kd.int .u8) w A l.length l := by
  obtain ⟨hn, -, hC⟩ := Kd.S_reads' h
  obtain ⟨ad, rfl, -⟩ := hC.2.2 (by simp)
  obtain ⟨g, rfl⟩ := Kd.R_head (Kd.S_R h)
  obtain ⟨cs, hl, hM, hc⟩ := Kd.S_get h [] 0 (by decide) (by rw [hn]; simp)
  obtain ⟨A, c, rfl, -, hC2⟩ := (Kd.slice 5 (Kd.int .u8)).K_of_M hM
  exact ⟨g, A, c, rfl, hc 0 _ rfl, hC2⟩
theorem ab_string {w : World} {A : Option Addr} {c : Nat} (h : Kd.C (Kd.int .u8) w A 2 [97, 98]) : (convert 22 9 (.slice A 2 c)).run Try.prog w = .ok (.string { data := #[97, 98] }) w :=
  Kd.C_string Try.underlying22 Try.underlying5 Try.underlying9 h

set_option maxHeartbeats 4000000 in
theorem told_is (w : World) : Calls Try.prog 10 #[] w fun e w' => e = .returned (.bool true) ∧ Below w.heap.size w w' := by
  have kc := fun (w : World) (C : Array Value) (n c : Nat) => Lib.run_convert_bytes_const (P := Try.prog) w 22 5 C n c Try.underlying22 Try.underlying5
  go_enter Try.func10, Try.ntmps10
  go_upto_region 2 with (go_at_call 11; refine (rec_ab _ _).mono ?_; rintro e w1 ⟨A, c, rfl, hv, hb⟩; have HV := Aside0.mk hv; have HB := Aside0.mk hb; clear hv hb)
  go_upto_region 3 with (go_at_call 11; refine (rec_nil _).mono ?_; rintro e w2 ⟨A1, c1, rfl, hb⟩; have HB2 := Aside0.mk (HB.out.trans (hb.mono HB.out.size)); have HV2 := Aside0.mk (Kd.R_below HV.out hb); clear hb)
  go_wp2_with (at_builtin; refine halt_here ?_)
  refine Hid.mk ?_
  have hN : w.heap.size ≤ w2.heap.size := HB2.out.size
  obtain ⟨-, hcr, hR2⟩ := Kd.R_reads' HV2.out
  have hba := (Below.refl w2.heap.size w2).alloc (Nat.le_refl _) (.cells #[] 5)
  refine append_by rfl (.tmp 25) (.tmp 26) rfl w2.heap.size (.slice (some ⟨w2.heap.size, 0, none⟩) 0 0) [] rab A c rfl (by rw [rab8]; rfl) (By_lit (xs := []) (inner := []) (Reps.none _ _) (Nat.le_refl _) (by decide)) (Kd.C_below hR2 hba) hba.size (by rw [rab8]; decide) ?_
  intro v1 w3 ho hg hb hat
  rw [List.nil_append] at ho
  have HB3 := Aside0.mk (hba.trans hb)
  have HV1 := Aside0.mk ho
  clear ho hg hb hat hba hcr hR2
  obtain ⟨A3, c3, rfl, -, -⟩ := By.form HV1.out 8 rab8
  go_wp2_with (at_builtin; refine halt_here ?_)
  refine Hid.mk ?_
  obtain ⟨hn3, hc3, hC3⟩ := Kd.R_reads' HV1.out
  have hba := (Below.refl w3.heap.size w3).alloc (Nat.le_refl _) (.cells #[.int .u8 0] 5)
  refine append_by rfl (.tmp 27) (.tmp 28) rfl w2.heap.size (.slice A3 8 c3) rab [0] (some ⟨w3.heap.size, 0, none⟩) 1 rfl rfl (Kd.R_below HV1.out hba) (Kd.R_reads' (By_lit (N := w3.heap.size) (W := w3) (xs := [0]) (inner := [.int .u8 0]) (Reps.one (show Kd.M (Kd.int .u8) _ _ _ 0 [.int .u8 0] from rfl) (Reps.none _ _)) (Nat.le_refl _) (by decide))).2.2 (Nat.le_trans HB3.out.size hba.size) (by rw [rab8]; decide) ?_
  intro v1 w4 ho hg hb hat
  have HB4 := Aside0.mk (HB3.out.trans ((hba.mono HB3.out.size).trans hb))
  have HV4 := Aside0.mk ho
  clear ho hg hb hat hba hn3 hc3 hC3 HV1
  obtain ⟨A4, c4, rfl, hc4, hC4⟩ := By.form HV4.out 9 len9
  have HC4 := Aside0.mk hC4
  clear hC4
  go_upto_region 4 with (go_at_call 14; refine (read9 _ _ _ HC4.out hc4).mono ?_; rintro e w5 ⟨B5, c5, rfl, hb⟩; have HB5 := Aside0.mk (HB4.out.trans (hb.mono HB4.out.size)); clear hb)
  have HVr := Aside0.mk (Kd.R_below HV2.out HB5.out)
  have HBr := Aside0.mk (HB2.out.trans (HB5.out.mono hN))
  clear HB5 HB4 HC4 HV4 HB3 HV2 hc4
  obtain ⟨-, hcr, hCr⟩ := Kd.R_reads' HVr.out
  rw [rab8] at hCr
  have HCr := Aside0.mk hCr
  clear hCr HVr
  go_upto_region 7 with (go_at_call 16; refine (open8 _ _ _ HCr.out hcr).mono ?_; rintro e w6 ⟨B6, c6, vs, N, lp, rfl, hb, hN1, hN2, hs, hL⟩; have HB6 := Aside0.mk hb; have HS6 := Aside0.mk hs; have HL6 := Aside0.mk hL; clear hb hs hL)
  have HBw := Aside0.mk (HBr.out.trans (HB6.out.mono HBr.out.size))
  have hwN : w.heap.size ≤ N := Nat.le_trans HBr.out.size hN1
  clear HBr HB6 HCr HB2 HB hcr
  go_upto_region 8 with (go_at_call 23; refine (put1 _ _ HL6.out hN2).mono ?_; rintro e w7 ⟨rfl, hb, vt, hL⟩; have HS7 := Aside0.mk (Kd.S_step HS6.out (fun k hk _ => hb.block k hk)); have HB7 := Aside0.mk (HBw.out.trans (hb.mono hwN)); have HL7 := Aside0.mk hL; clear hb hL)
  clear HS6 HL6 HBw hN2
  go_upto_region 9 with (go_at_call 21; refine (waits7 HL7.out).mono ?_; rintro e w8 ⟨rfl, rfl⟩)
  go_upto_region 10 with (first | (go_at_call_of 24 (Value.int IntKind.i64 3); refine (crash11 HL7.out).mono ?_; rintro e w8 ⟨A8, c8, rfl, hb⟩; have HS8 := Aside0.mk (Kd.S_below HS7.out hb); have HB8 := Aside0.mk (HB7.out.trans (hb.mono HB7.out.size)); have HL8 := Aside0.mk (HL7.out.below hb); clear hb) | (go_at_call_of 24 (Value.int IntKind.i64 99); refine (crash15 HL8.out).mono ?_; rintro e w9 ⟨A9, c9, rfl, hb⟩; have HS9 := Aside0.mk (Kd.S_below HS8.out hb); have HB9 := Aside0.mk (HB8.out.trans (hb.mono HB8.out.size)); have HL9 := Aside0.mk (HL8.out.below hb); clear hb))
  clear HS8 HB8 HL8 HS7 HB7 HL7
  go_upto_region 11 with (go_at_call 22; refine (Sync_plain HL9.out (Nat.le_of_lt (Nat.lt_of_le_of_lt HL9.out.le HL9.out.lt)) sync_len).mono ?_; rintro e w10 ⟨⟨v10, rfl⟩, hb, vs2, hL⟩; have HS10 := Aside0.mk (Kd.S_step HS9.out (fun k hk _ => hb.block k hk)); have HB10 := Aside0.mk (HB9.out.trans (hb.mono hwN)); have HL10 := Aside0.mk hL; clear hb hL)
  clear HS9 HB9 HL9
  obtain ⟨g, Ag, cg, rfl, hg0, hgC⟩ := row0 HS10.out
  have hg0 : w10.cell? ⟨g, 0, none⟩ = some (.slice Ag 2 cg) := hg0
  have hgs := ab_string (c := cg) hgC
  clear hgC HS10
  go_wp2_with (first | (go_at_call_of 20 (Value.pointer none); refine (Bytes_nil _).mono ?_; rintro e w12 ⟨rfl, rfl⟩) | (go_at_call 20; refine (bytes15 HL10.out).mono ?_; rintro e w11 ⟨A11, c11, rfl, hb⟩; have HB11 := Aside0.mk (HB10.out.trans (hb.mono HB10.out.size)); have HL11 := Aside0.mk (HL10.out.below hb); clear hb) | (go_at_call 21; refine (waits0 HL11.out).mono ?_; rintro e w12 ⟨rfl, rfl⟩) | (go_at_call 17; refine (sum0 _).mono ?_; rintro e w12 ⟨rfl, hb⟩; have HB12 := Aside0.mk (HB11.out.trans (hb.mono HB11.out.size)); clear hb) | (go_at_call 23; refine (Put_nil _ _).mono ?_; rintro e w13 ⟨rfl, rfl⟩))
  go_ret
  exact ⟨rfl, HB12.out.alloc HB12.out.size _⟩
end Go.Proofs.Ytnnlmbmgaajmhaa.Seg
