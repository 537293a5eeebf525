/-
  A log that begins anew (SegBegins): the law's walk.
  Conditions: none.
-/
import Derived.Test.YtnnlmbmgaajmhaaLm
import Derived.Test.YtnnlmbmgaajmhaaSgE
namespace Go.Proofs.Ytnnlmbmgaajmhaa.Seg
open Go.RowKit Go.Proofs.YtnnlmbmgaajmhaaW.PrintWords Go.Proofs.YtnnlmbmgaajmhaaW.PrintLast Go.Proofs.YtnnlmbmgaajmhaaW.PrintMore Go.Proofs.YtnnlmbmgaajmhaaG Go.Proofs.Ytnnlmbmgaajmhaa.PGa Go.Proofs.Ytnnlmbmgaajmhaa.Sg
set_option linter.unusedVariables false
set_option linter.unusedSimpArgs false

/-- An element of a row of rows that came in: where it lies. -/
theorem row_arg {w : World} {A : Option Addr} {n : Nat} {xs : List (List Int)} (h : Kd.C (Kd.slice 5 (Kd.int .u8)) w A n xs) (i : Nat) (hi : i < xs.length) :
    ∃ ad A2 c2, A = some ad ∧ w.cell? (ad.add i) = some (.slice A2 xs[i].length c2) ∧ xs[i].length ≤ c2 ∧ (Kd.int .u8).C w A2 xs[i].length xs[i] := by
  have hn := Kd.C_len h
  obtain ⟨ad, A2, c2, hA, hx, hl, hC⟩ := at_L1 h (i : Int) (by omega) (by omega)
  have hxe : rd_L1 xs (i : Int) = xs[i] := by unfold rd_L1; rw [List.getD_eq_getElem?_getD, Int.toNat_natCast, List.getElem?_eq_getElem hi]; rfl
  rw [hxe] at hx hl hC
  rw [Int.toNat_natCast] at hx
  exact ⟨ad, A2, c2, hA, hx, hl, hC⟩
theorem fine_snoc {l : List (List Int)} {i : Nat} (hi : i < l.length) (h : ∀ x ∈ l.take i, 1 ≤ x.length ∧ x.length ≤ 60) (hq : 1 ≤ l[i].length ∧ l[i].length ≤ 60) : ∀ x ∈ l.take (i + 1), 1 ≤ x.length ∧ x.length ≤ 60 := fun x hx => by
  rw [List.take_succ_eq_append_getElem hi] at hx
  rcases List.mem_append.mp hx with h2 | h2
  · exact h x h2
  · rw [List.mem_singleton.mp h2]
    exact hq
theorem cat_step {l : List (List Int)} {i : Nat} (hi : i < l.length) : cat (l.take i) ++ recP l[i] = cat (l.take (i + 1)) := by rw [← cat_snoc, ← List.take_succ_eq_append_getElem hi]
theorem take_len {l : List (List Int)} {i n : Nat} (h : ∀ x ∈ l.take i, 1 ≤ x.length ∧ x.length ≤ 60) (hn : l.length ≤ n) : (cat (l.take i)).length ≤ n * 66 := by
  have a := cat_size (m := 60) (ls := l.take i) (fun x hx => (h x hx).2)
  have b : (l.take i).length ≤ n := by rw [List.length_take]; omega
  exact Nat.le_trans a (Nat.mul_le_mul_right _ b)
theorem mn0 (n : Nat) : (mn (mx 0) (n : Int)).toNat = 0 := by
  unfold mn mx
  rw [if_neg (by omega)]
  split <;> omega
theorem crash_anew {N : Nat} {w : World} {lp : Nat} {s t : List Int} {vs vt : Value} (h : Lg N w lp s t true vs vt) (keep : Int) (hm : s.length + t.length ≤ 140737488355328) :
    Calls Try.prog 24 #[.pointer (some ⟨lp, 0, none⟩), .int .i64 keep] w fun e w' => ∃ A c, e = .returned (.slice A s.length c) ∧ By w.heap.size w' (.slice A s.length c) s ∧ Below w.heap.size w w' := by
  have hh := crash_is h keep hm
  have e : s ++ t.take (mn (mx (if true = true then 0 else keep)) t.length).toNat = s := by
    rw [if_pos rfl, mn0, List.take_zero, List.append_nil]
  rw [e] at hh
  exact hh
theorem crash_all {N : Nat} {w : World} {lp : Nat} {s : List Int} {vs vt : Value} (h : Lg N w lp s [] false vs vt) (keep : Int) (hm : s.length ≤ 140737488355328) :
    Calls Try.prog 24 #[.pointer (some ⟨lp, 0, none⟩), .int .i64 keep] w fun e w' => ∃ A c, e = .returned (.slice A s.length c) ∧ By w.heap.size w' (.slice A s.length c) s ∧ Below w.heap.size w w' := by
  have hh := crash_is h keep (by simpa using hm)
  rw [List.take_nil, List.append_nil] at hh
  exact hh
theorem open_cat (ls : List (List Int)) (h : ∀ x ∈ ls, Oct x ∧ 1 ≤ x.length ∧ x.length ≤ 60) (hn : ls.length ≤ 10) (A : Option Addr) (c : Nat) (w : World) (hr : Kd.C (Kd.int .u8) w A (cat ls).length (cat ls)) (hc : (cat ls).length ≤ c) :
    Calls Try.prog 16 #[.slice A (cat ls).length c] w fun e w' => ∃ B cb N lp, e = .returned (.tuple #[.pointer (some ⟨lp, 0, none⟩), .slice B ls.length cb]) ∧ Below w.heap.size w w' ∧
      Kd.S (Kd.slice 5 (Kd.int .u8)) 22 w' w.heap.size (fun k => k < N) (.slice B ls.length cb) ls := by
  have hsz := cat_size (m := 60) (fun x hx => (h x hx).2.2)
  have hh := open_is A c (cat ls) w hr hc (cat_oct fun x hx => (h x hx).1) (by omega)
  rw [readP_cat ls (fun x hx => ⟨(h x hx).2.1, by have := (h x hx).2.2; omega⟩)] at hh
  refine hh.mono ?_
  rintro e w' ⟨B, cb, vs, N, lp, rfl, hb, -, -, hs, -⟩
  exact ⟨B, cb, N, lp, rfl, hb, hs⟩

/-- What two rows of bytes are, whatever is laid besides. -/
theorem still28 {w w1 : World} {g : Nat} {Ag A1 : Option Addr} {cg c1 : Nat} {b : List Int} (h0 : w.cell? ⟨g, 0, none⟩ = some (.slice Ag b.length cg)) (hg : Kd.C (Kd.int .u8) w Ag b.length b) (h1 : Kd.C (Kd.int .u8) w A1 b.length b) (hb : Below w.heap.size w w1) :
    Below w.heap.size w w1 ∧ w1.cell? ⟨g, 0, none⟩ = some (.slice Ag b.length cg) ∧ (convert 22 9 (.slice Ag b.length cg)).run Try.prog w1 = .ok (.string (strOfNums b)) w1 ∧ (convert 22 9 (.slice A1 b.length c1)).run Try.prog w1 = .ok (.string (strOfNums b)) w1 :=
  ⟨hb, (hb.cell (World.block_lt_of_cell? w _ h0)).trans h0, Kd.C_string Try.underlying22 Try.underlying5 Try.underlying9 (Kd.C_below hg hb), Kd.C_string Try.underlying22 Try.underlying5 Try.underlying9 (Kd.C_below h1 hb)⟩
theorem begins_few (A0 A1 A2 : Option Addr) (c0 c1 c2 : Nat) (l : List (List Int)) (b : List Int) (more : List (List Int)) (keep : Int) (sync : Bool) (w : World) (h : l.length > 6 ∨ more.length > 6 ∨ b.length < 1 ∨ b.length > 60) :
    Calls Try.prog 9 #[.slice A0 l.length c0, .slice A1 b.length c1, .slice A2 more.length c2, .int .i64 keep, .bool sync] w fun e w' => e = .returned (.bool true) ∧ Below w.heap.size w w' := by
  by_cases h1 : (l.length : Int) > 6
  · clear h
    go_enter Try.func9, Try.ntmps9
    go_wp2_with (go_at_call 10; refine (told_is _).mono ?_; rintro e w1 ⟨rfl, hb⟩; have HB := Aside0.mk hb; clear hb)
    go_ret
    exact ⟨rfl, HB.out⟩
  by_cases h2 : (more.length : Int) > 6
  · clear h
    go_enter Try.func9, Try.ntmps9
    go_wp2_with (go_at_call 10; refine (told_is _).mono ?_; rintro e w1 ⟨rfl, hb⟩; have HB := Aside0.mk hb; clear hb)
    go_ret
    exact ⟨rfl, HB.out⟩
  by_cases h3 : (b.length : Int) < 1
  · clear h
    go_enter Try.func9, Try.ntmps9
    go_wp2_with (go_at_call 10; refine (told_is _).mono ?_; rintro e w1 ⟨rfl, hb⟩; have HB := Aside0.mk hb; clear hb)
    go_ret
    exact ⟨rfl, HB.out⟩
  have h4 : (b.length : Int) > 60 := by omega
  clear h
  go_enter Try.func9, Try.ntmps9
  go_wp2_with (go_at_call 10; refine (told_is _).mono ?_; rintro e w1 ⟨rfl, hb⟩; have HB := Aside0.mk hb; clear hb)
  go_ret
  exact ⟨rfl, HB.out⟩
set_option maxHeartbeats 4000000 in
set_option maxRecDepth 100000 in
theorem begins_is (A0 A1 A2 : Option Addr) (c0 c1 c2 : Nat) (l : List (List Int)) (b : List Int) (more : List (List Int)) (keep : Int) (sync : Bool) (w : World)
    (hr0 : Kd.C (Kd.slice 5 (Kd.int .u8)) w A0 l.length l) (hr1 : Kd.C (Kd.int .u8) w A1 b.length b) (hc1 : b.length ≤ c1) (hr2 : Kd.C (Kd.slice 5 (Kd.int .u8)) w A2 more.length more)
    (ho0 : ∀ x ∈ l, Oct x) (ho1 : Oct b) (ho2 : ∀ x ∈ more, Oct x) :
    Calls Try.prog 9 #[.slice A0 l.length c0, .slice A1 b.length c1, .slice A2 more.length c2, .int .i64 keep, .bool sync] w fun e w' => e = .returned (.bool true) ∧ Below w.heap.size w w' := by
  by_cases h : l.length > 6 ∨ more.length > 6 ∨ b.length < 1 ∨ b.length > 60
  · exact begins_few A0 A1 A2 c0 c1 c2 l b more keep sync w h
  have h1 : ¬ ((l.length : Int) > 6) := by omega
  have h2 : ¬ ((more.length : Int) > 6) := by omega
  have h3 : ¬ ((b.length : Int) < 1) := by omega
  have h4 : ¬ ((b.length : Int) > 60) := by omega
  have HN := Aside0.mk h
  have HR0 := Aside0.mk hr0
  have HR1 := Aside0.mk hr1
  have HR2 := Aside0.mk hr2
  have HC1 := Aside0.mk hc1
  have HO0 := Aside0.mk ho0
  have HO1 := Aside0.mk ho1
  have HO2 := Aside0.mk ho2
  clear h hr0 hr1 hr2 hc1 ho0 ho1 ho2
  go_enter Try.func9, Try.ntmps9
  go_upto_region 6 with (go_at_call 16; refine (open_nil _).mono ?_; rintro e w1 ⟨B1, cb1, vs, N, lp, rfl, hb, hN1, hN2, hL⟩; have HB := Aside0.mk hb; have HL := Aside0.mk hL; clear hb hL hN2)
  clear h1 h2 h3 h4
  go_wp2
  go_loopg [13] l.length (fun g v13 wr => ∃ (i : Nat) (vs1 vt1 : Value), v13 = .int .i64 i ∧ g + i = l.length ∧ Aside0 (Lg N wr lp [] (cat (l.take i)) false vs1 vt1) ∧ Aside0 (Below w.heap.size w wr) ∧ Aside0 (∀ x ∈ l.take i, 1 ≤ x.length ∧ x.length ≤ 60))
  case atStart => exact ⟨0, vs, _, rfl, by omega, HL, HB, ⟨fun x hx => by simp at hx⟩⟩
  case round =>
    obtain ⟨i, vs1, vt1, rfl, hgi, HL1, HB1, HF⟩ := hrel
    clear HL HB
    have HWL := Aside0.mk (take_len (n := 6) HF.out (by have := HN.out; omega))
    cases gk with
    | zero =>
      obtain rfl : i = l.length := by omega
      have hall : ∀ x ∈ l, 1 ≤ x.length ∧ x.length ≤ 60 := by have h := HF.out; rwa [List.take_of_length_le (Nat.le_refl _)] at h
      have HL2 : Aside0 (Lg N wr lp [] (cat l) false vs1 vt1) := ⟨by have h := HL1.out; rwa [List.take_of_length_le (Nat.le_refl _)] at h⟩
      have HSL : Aside0 ((cat l).length ≤ 396) := ⟨by have h := HWL.out; rwa [List.take_of_length_le (Nat.le_refl _)] at h⟩
      clear HL1 HF HWL hall hgi
      obtain ⟨S, hS⟩ : ∃ S, S = cat l := ⟨_, rfl⟩
      rw [← hS] at HL2 HSL
      clear hS
      have HMB := Aside0.mk (show May b from ⟨HO1.out, by have := HN.out; omega, by have := HN.out; omega⟩)
      go_upto_region 13 with (go_at_call 22; refine (sync_is HL2.out (by have := HSL.out; simp; omega)).mono ?_; rintro e w2 ⟨⟨v2, rfl⟩, hb, vs2, hL⟩; have HB2 := Aside0.mk (HB1.out.trans (hb.mono hN1)); have HL3 := Aside0.mk (show Lg N w2 lp S [] false vs2 (.slice none 0 0) from hL); clear hb hL)
      go_upto_region 14 with (go_at_call 20; refine (bytes_is HL3.out (by have := HSL.out; omega)).mono ?_; rintro e w3 ⟨A3, c3, rfl, hv, hb⟩; have hcv := Kd.C_string (P := Try.prog) (A := A3) (c := c3) Try.underlying22 Try.underlying5 Try.underlying9 (Kd.R_reads' hv).2.2; have HB3 := Aside0.mk (HB2.out.trans (hb.mono HB2.out.size)); have HL4 := Aside0.mk (HL3.out.below hb); clear hb hv)
      clear HL3 HB2 HL2 HB1 hcv
      go_upto_region 16 with (go_at_call 27; refine (begin_ok HL4.out A1 c1 b (Kd.C_below HR1.out HB3.out) HC1.out HMB.out).mono ?_; rintro e w4 ⟨rfl, hb, vt4, hL⟩; have HB4 := Aside0.mk (HB3.out.trans (hb.mono hN1)); have HL5 := Aside0.mk hL; clear hb hL)
      clear HL4 HB3
      go_wp2
      go_loopg [15, 16] more.length (fun g v15 v16 wr2 => ∃ (i : Nat) (vs1 vt1 : Value), v15 = .int .i64 ((i : Int) + 1) ∧ v16 = .int .i64 i ∧ g + i = more.length ∧ Aside0 (Lg N wr2 lp S (recP b ++ cat (more.take i)) true vs1 vt1) ∧ Aside0 (Below w.heap.size w wr2) ∧ Aside0 (∀ x ∈ more.take i, 1 ≤ x.length ∧ x.length ≤ 60))
      case atStart => exact ⟨0, _, _, rfl, rfl, by omega, ⟨by rw [List.take_zero, cat_nil, List.append_nil]; exact HL5.out⟩, HB4, ⟨fun x hx => by simp at hx⟩⟩
      case round =>
        obtain ⟨i, vs1, vt1, rfl, rfl, hgi, HL1, HB1, HF⟩ := hrel
        clear HL5 HB4
        have HWL := Aside0.mk (take_len (n := 6) HF.out (by have := HN.out; omega))
        cases gk with
        | zero =>
          obtain rfl : i = more.length := by omega
          have hall : ∀ x ∈ more, 1 ≤ x.length ∧ x.length ≤ 60 := by have h := HF.out; rwa [List.take_of_length_le (Nat.le_refl _)] at h
          have HL2 : Aside0 (Lg N wr lp S (cat (b :: more)) true vs1 vt1) := ⟨by have h := HL1.out; rw [List.take_of_length_le (Nat.le_refl _)] at h; exact h⟩
          have HAL : Aside0 (∀ x ∈ b :: more, Oct x ∧ 1 ≤ x.length ∧ x.length ≤ 60) := ⟨fun x hx => by
            rcases List.mem_cons.mp hx with rfl | h
            · exact ⟨HO1.out, HMB.out.2.1, by have := HN.out; omega⟩
            · exact ⟨HO2.out x h, hall x h⟩⟩
          have HTL : Aside0 ((cat (b :: more)).length ≤ 462) := ⟨by
            have a := cat_size (m := 60) (ls := b :: more) (fun x hx => (HAL.out x hx).2.2)
            rw [List.length_cons] at a
            have := HN.out
            omega⟩
          have HML := Aside0.mk (show (b :: more).length ≤ 10 by rw [List.length_cons]; have := HN.out; omega)
          clear HL1 HF HWL hall hgi
          cases sync with
          | false =>
            generalize cat (b :: more) = T at HL2 HTL
            go_wp2_with (first | (go_at_call 10; refine (told_is _).mono ?_; rintro e w5 ⟨rfl, hb⟩; have HB5 := Aside0.mk (HB1.out.trans (hb.mono HB1.out.size)); have HL5 := Aside0.mk (HL2.out.below hb); clear hb) | (go_at_call 20; refine (bytes_is HL5.out (by have := HSL.out; omega)).mono ?_; rintro e w6 ⟨A6, c6, rfl, hv, hb⟩; have hcv6 := Kd.C_string (P := Try.prog) (A := A6) (c := c6) Try.underlying22 Try.underlying5 Try.underlying9 (Kd.R_reads' hv).2.2; have HB6 := Aside0.mk (HB5.out.trans (hb.mono HB5.out.size)); have HL6 := Aside0.mk (HL5.out.below hb); clear hb hv) | (go_at_call 24; refine (crash_anew HL6.out keep (by have := HSL.out; have := HTL.out; omega)).mono ?_; rintro e w7 ⟨A7, c7, rfl, hv, hb⟩; have hcv7 := Kd.C_string (P := Try.prog) (A := A7) (c := c7) Try.underlying22 Try.underlying5 Try.underlying9 (Kd.R_reads' hv).2.2; have HB7 := Aside0.mk (HB6.out.trans (hb.mono HB6.out.size)); clear hb hv))
            go_ret
            exact ⟨rfl, HB7.out⟩
          | true =>
            go_upto_region 27 with (go_at_call 22; refine (sync_is HL2.out (by have := HSL.out; have := HTL.out; omega)).mono ?_; rintro e w5 ⟨⟨v5, rfl⟩, hb, vs5, hL⟩; have HB5 := Aside0.mk (HB1.out.trans (hb.mono hN1)); have HL5 := Aside0.mk (show Lg N w5 lp (cat (b :: more)) [] false vs5 (.slice none 0 0) from hL); clear hb hL)
            have HOP := Aside0.mk (open_cat (b :: more) HAL.out HML.out)
            have hlm : (((b :: more).length : Nat) : Int) = (more.length : Int) + 1 := by rw [List.length_cons]; omega
            obtain ⟨rows, hrows⟩ : ∃ rows, rows = b :: more := ⟨_, rfl⟩
            rw [← hrows] at HOP HL5 HTL hlm
            have HRW := Aside0.mk hrows
            generalize cat rows = T at HOP HL5 HTL
            clear HL2 HB1 hrows HAL HML
            go_upto_region 28 with (first | (go_at_call 24; refine (crash_all HL5.out keep (by have := HTL.out; omega)).mono ?_; rintro e w6 ⟨A6, c6, rfl, hv, hb⟩; have HB6 := Aside0.mk (HB5.out.trans (hb.mono HB5.out.size)); have HV6 := Aside0.mk (Kd.R_reads' hv).2; clear hb hv) | (go_at_call 16; refine (HOP.out _ _ _ HV6.out.2 HV6.out.1).mono ?_; rintro e w7 ⟨B7, c7, N7, lp7, rfl, hb, hs⟩; have HB7 := Aside0.mk (HB6.out.trans (hb.mono HB6.out.size)); have HS7 := Aside0.mk hs; clear hb hs))
            have hs7 := HS7.out
            rw [HRW.out] at hs7
            obtain ⟨g, Ag, cg, rfl, hg0, hgC⟩ := row0 hs7
            have HG := Aside0.mk hg0
            have HGC := Aside0.mk hgC
            have H1C := Aside0.mk (Kd.C_below HR1.out HB7.out)
            have hp1 : (0 : Int) < (rows.length : Int) := by omega
            have hp2 : 0 < rows.length := by omega
            obtain ⟨-, i1, i2, i3⟩ := still28 (c1 := c1) HG.out HGC.out H1C.out (Below.refl _ _)
            clear hs7 hg0 hgC HS7 HOP HB6 HV6 HL5 HB5
            go_region_held3 (fun w' => Below w7.heap.size w7 w' ∧ w'.cell? ⟨g, 0, none⟩ = some (.slice Ag b.length cg) ∧ (convert 22 9 (.slice Ag b.length cg)).run Try.prog w' = .ok (.string (strOfNums b)) w' ∧ (convert 22 9 (.slice A1 b.length c1)).run Try.prog w' = .ok (.string (strOfNums b)) w') (exact still28 HG.out HGC.out H1C.out (by repeat (first | exact HB8.out | exact Below.refl _ _ | exact Nat.le_refl _ | apply Below.drew | refine Below.alloc ?_ ?_ _))) ((go_at_call 10; refine (told_is _).mono ?_; rintro e w8 ⟨rfl, hb⟩; have HB8 := Aside0.mk (Below.trans (show Below w7.heap.size w7 _ by repeat (first | exact Below.refl _ _ | apply Below.drew)) (hb.mono (by first | exact Nat.le_refl _ | exact Below.size (by repeat (first | exact Below.refl _ _ | apply Below.drew))))); clear hb))
            all_goals
             go_wp2
             go_ret
             exact ⟨rfl, by repeat (first | exact HB7.out.trans (HB8.out.mono HB7.out.size) | apply Below.drew)⟩
        | succ g1 =>
          have hi0 : 0 ≤ (i : Int) := by omega
          have hil : (i : Int) < (more.length : Int) := by omega
          have hil2 : i < more.length := by omega
          obtain ⟨ad, A3, c3, hA, hx, hlx, hCx⟩ := row_arg HR2.out i hil2
          subst hA
          have HCS := Aside0.mk (cat_step hil2)
          have HFS := Aside0.mk (fine_snoc hil2 HF.out)
          have hox := HO2.out _ (List.getElem_mem hil2)
          generalize more[i] = x at hx hlx hCx hox HCS HFS
          replace hx := (HB1.out.cell (World.block_lt_of_cell? w _ hx)).trans hx
          have HOX := Aside0.mk hox
          have HLX := Aside0.mk hlx
          have HCX := Aside0.mk hCx
          have hwi : wrap64 ((i : Int) + 1) = (i : Int) + 1 := w64 _ (by omega) (by have := HN.out; omega)
          have hwn : wrap64 ((i : Int) + 1 + 1) = (i : Int) + 1 + 1 := w64 _ (by omega) (by have := HN.out; omega)
          clear hox hlx hCx
          by_cases hx1 : (x.length : Int) < 1
          · go_wp2_with (go_at_call 10; refine (told_is _).mono ?_; rintro e w2 ⟨rfl, hb⟩; have HB2 := Aside0.mk (HB1.out.trans (hb.mono HB1.out.size)); clear hb)
            go_ret
            exact ⟨rfl, HB2.out⟩
          by_cases hx2 : (x.length : Int) > 60
          · go_wp2_with (go_at_call 10; refine (told_is _).mono ?_; rintro e w2 ⟨rfl, hb⟩; have HB2 := Aside0.mk (HB1.out.trans (hb.mono HB1.out.size)); clear hb)
            go_ret
            exact ⟨rfl, HB2.out⟩
          have HMY := Aside0.mk (show May x from ⟨HOX.out, by omega, by omega⟩)
          go_wp2_with (go_at_call 23; refine (put_ok HL1.out A3 c3 x (Kd.C_below HCX.out HB1.out) HLX.out HMY.out (by have := HWL.out; have := HMB.out.2.2; have := HN.out; rw [List.length_append, rec_len]; omega)).mono ?_; rintro e w3 ⟨rfl, hb, vt3, hL⟩; have HB3 := Aside0.mk (HB1.out.trans (hb.mono hN1)); have HL3 := Aside0.mk hL; clear hb hL)
          go_roundg g1
          case measure => omega
          case rel => exact ⟨i + 1, _, _, (by first | rfl | (rw [hwn]; rfl)), (by first | rfl | (rw [hwi]; rfl)), by omega, ⟨by have h := HL3.out; rw [List.append_assoc, HCS.out] at h; exact h⟩, HB3, ⟨HFS.out ⟨by omega, by omega⟩⟩⟩
    | succ g1 =>
      have hi0 : 0 ≤ (i : Int) := by omega
      have hil : (i : Int) < (l.length : Int) := by omega
      have hil2 : i < l.length := by omega
      obtain ⟨ad, A3, c3, hA, hx, hlx, hCx⟩ := row_arg HR0.out i hil2
      subst hA
      have HCS := Aside0.mk (cat_step hil2)
      have HFS := Aside0.mk (fine_snoc hil2 HF.out)
      have hox := HO0.out _ (List.getElem_mem hil2)
      generalize l[i] = x at hx hlx hCx hox HCS HFS
      replace hx := (HB1.out.cell (World.block_lt_of_cell? w _ hx)).trans hx
      have HOX := Aside0.mk hox
      have HLX := Aside0.mk hlx
      have HCX := Aside0.mk hCx
      have hwi : wrap64 ((i : Int) + 1) = (i : Int) + 1 := w64 _ (by omega) (by have := HN.out; omega)
      clear hox hlx hCx
      by_cases hx1 : (x.length : Int) < 1
      · go_wp2_with (go_at_call 10; refine (told_is _).mono ?_; rintro e w2 ⟨rfl, hb⟩; have HB2 := Aside0.mk (HB1.out.trans (hb.mono HB1.out.size)); clear hb)
        go_ret
        exact ⟨rfl, HB2.out⟩
      by_cases hx2 : (x.length : Int) > 60
      · go_wp2_with (go_at_call 10; refine (told_is _).mono ?_; rintro e w2 ⟨rfl, hb⟩; have HB2 := Aside0.mk (HB1.out.trans (hb.mono HB1.out.size)); clear hb)
        go_ret
        exact ⟨rfl, HB2.out⟩
      have HMY := Aside0.mk (show May x from ⟨HOX.out, by omega, by omega⟩)
      go_wp2_with (go_at_call 23; refine (put_ok HL1.out A3 c3 x (Kd.C_below HCX.out HB1.out) HLX.out HMY.out (by have := HWL.out; omega)).mono ?_; rintro e w3 ⟨rfl, hb, vt3, hL⟩; have HB3 := Aside0.mk (HB1.out.trans (hb.mono hN1)); have HL3 := Aside0.mk hL; clear hb hL)
      go_roundg g1
      case measure => omega
      case rel => exact ⟨i + 1, _, _, (by first | rfl | (rw [hwi]; rfl)), by omega, ⟨by have h := HL3.out; rw [HCS.out] at h; exact h⟩, HB3, ⟨HFS.out ⟨by omega, by omega⟩⟩⟩
end Go.Proofs.Ytnnlmbmgaajmhaa.Seg
