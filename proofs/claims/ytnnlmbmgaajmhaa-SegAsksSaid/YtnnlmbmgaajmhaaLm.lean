/-
  The log's contracts, in plain words.
  Conditions: none.
-/
import Derived.Test.YtnnlmbmgaajmhaaLk
import Derived.Test.YtnnlmbmgaajmhaaSgD
namespace Go.Proofs.Ytnnlmbmgaajmhaa.Seg
open Go.RowKit Go.Proofs.YtnnlmbmgaajmhaaW.PrintWords Go.Proofs.YtnnlmbmgaajmhaaW.PrintLast Go.Proofs.YtnnlmbmgaajmhaaW.PrintMore Go.Proofs.YtnnlmbmgaajmhaaG Go.Proofs.Ytnnlmbmgaajmhaa.PGa Go.Proofs.Ytnnlmbmgaajmhaa.Sg
set_option linter.unusedVariables false
set_option linter.unusedSimpArgs false

theorem readN_lo : ∀ (d : Nat) (b : List Int), 0 ≤ (readN d b).2 ∧ (readN d b).2 ≤ b.length
  | 0, b => ⟨Int.le_refl _, Int.natCast_nonneg _⟩
  | d + 1, b => by
    simp only [readN]
    by_cases h : good b = true
    · rw [if_pos h]
      obtain ⟨h1, h2, h3, h4, -⟩ := good_of h
      have := readN_lo d (b.drop (num b + 6).toNat)
      rw [List.length_drop] at this
      show 0 ≤ num b + 6 + _ ∧ num b + 6 + _ ≤ (b.length : Int)
      omega
    · rw [if_neg h]
      exact ⟨Int.le_refl _, Int.natCast_nonneg _⟩
theorem readP_lo (b : List Int) : 0 ≤ (readP b).2 ∧ (readP b).2 ≤ b.length := readN_lo _ b

theorem open_is (A : Option Addr) (c : Nat) (l : List Int) (w : World) (hr : Kd.C (Kd.int .u8) w A l.length l) (hc : l.length ≤ c) (ho : Oct l) (hlen : l.length < 1073741824) :
    Calls Try.prog 16 #[.slice A l.length c] w fun e w' => ∃ B cb vs N lp, e = .returned (.tuple #[.pointer (some ⟨lp, 0, none⟩), .slice B (readP l).1.length cb]) ∧ Below w.heap.size w w' ∧ w.heap.size ≤ N ∧ N ≤ w'.heap.size ∧
      Kd.S (Kd.slice 5 (Kd.int .u8)) 22 w' w.heap.size (fun k => k < N) (.slice B (readP l).1.length cb) (readP l).1 ∧ Lg N w' lp (l.take (readP l).2.toNat) [] false vs (.slice none 0 0) := by
  have hb := readP_lo l
  refine (Open_is A c l (readP l).1 (readP l).2 (l.length + l.length + l.length + 21) w hr hc (read_is ho hlen (by omega)) hb.1 hb.2 (by omega)).mono ?_
  rintro e w' ⟨v, vs, N, lp, rfl, hb, h1, h2, hv, hL⟩
  obtain ⟨B, cb, rfl⟩ := Kd.S_slice hv
  exact ⟨B, cb, vs, N, lp, rfl, hb, h1, h2, hv, hL⟩
theorem open_nil (w : World) : Calls Try.prog 16 #[.slice none 0 0] w fun e w' => ∃ B cb vs N lp, e = .returned (.tuple #[.pointer (some ⟨lp, 0, none⟩), .slice B 0 cb]) ∧ Below w.heap.size w w' ∧ w.heap.size ≤ N ∧ N ≤ w'.heap.size ∧
      Lg N w' lp [] [] false vs (.slice none 0 0) := by
  refine (open_is none 0 [] w (Kd.C_nil _ _) (Nat.le_refl _) Oct.nil (by decide)).mono ?_
  rintro e w' ⟨B, cb, vs, N, lp, rfl, hb, h1, h2, hv, hL⟩
  exact ⟨B, cb, vs, N, lp, rfl, hb, h1, h2, hL⟩
section
variable {N : Nat} {w : World} {lp : Nat} {s t : List Int} {b : Bool} {vs vt : Value}
theorem Lg.base (h : Lg N w lp s t b vs vt) : N ≤ w.heap.size := Nat.le_of_lt (Nat.lt_of_le_of_lt h.le h.lt)
theorem put_ok (h : Lg N w lp s t b vs vt) (A : Option Addr) (c : Nat) (l : List Int) (hr : Kd.C (Kd.int .u8) w A l.length l) (hc : l.length ≤ c) (hm : May l) (hl : t.length ≤ 1073741824) :
    Calls Try.prog 23 #[.pointer (some ⟨lp, 0, none⟩), .slice A l.length c] w fun e w' => e = .returned (.int .i64 0) ∧ Below N w w' ∧ ∃ vt', Lg N w' lp s (t ++ recP l) b vs vt' :=
  Put_is h h.base A c l (recP l) 0 (l.length + 2) hr hc (rec_is hm.1 hm.2.1 hm.2.2 (by omega)) (by rw [rec_len]; have := hm.2.2; omega)
theorem put_no (h : Lg N w lp s t b vs vt) (A : Option Addr) (c : Nat) (l : List Int) (hr : Kd.C (Kd.int .u8) w A l.length l) (hc : l.length ≤ c) (hm : l.length < 1 ∨ 20000 < l.length) (hl : t.length ≤ 1073741824) :
    Calls Try.prog 23 #[.pointer (some ⟨lp, 0, none⟩), .slice A l.length c] w fun e w' => e = .returned (.int .i64 1) ∧ Below N w w' ∧ ∃ vt', Lg N w' lp s t b vs vt' := by
  refine (Put_is h h.base A c l [] 1 1 hr hc (rec_no hm (by omega)) (by rw [List.length_nil]; omega)).mono ?_
  rintro e w' ⟨rfl, hb, vt', hL⟩
  rw [List.append_nil] at hL
  exact ⟨rfl, hb, vt', hL⟩
theorem begin_ok (h : Lg N w lp s t b vs vt) (A : Option Addr) (c : Nat) (l : List Int) (hr : Kd.C (Kd.int .u8) w A l.length l) (hc : l.length ≤ c) (hm : May l) :
    Calls Try.prog 27 #[.pointer (some ⟨lp, 0, none⟩), .slice A l.length c] w fun e w' => e = .returned (.int .i64 0) ∧ Below N w w' ∧ ∃ vt', Lg N w' lp s (recP l) true vs vt' :=
  Begin_ok h h.base A c l (recP l) (l.length + 2) hr hc (rec_is hm.1 hm.2.1 hm.2.2 (by omega))
theorem begin_no (h : Lg N w lp s t b vs vt) (A : Option Addr) (c : Nat) (l : List Int) (hr : Kd.C (Kd.int .u8) w A l.length l) (hc : l.length ≤ c) (hm : l.length < 1 ∨ 20000 < l.length) :
    Calls Try.prog 27 #[.pointer (some ⟨lp, 0, none⟩), .slice A l.length c] w fun e w' => e = .returned (.int .i64 1) ∧ Below N w w' ∧ Lg N w' lp s t b vs vt :=
  Begin_err h h.base A c l [] 1 (by decide) 1 hr hc (rec_no hm (by omega))
/-- What is safe behind a sync. -/
theorem sync_is (h : Lg N w lp s t b vs vt) (hm : s.length + t.length ≤ 140737488355328) :
    Calls Try.prog 22 #[.pointer (some ⟨lp, 0, none⟩)] w fun e w' => (∃ v, e = .returned v) ∧ Below N w w' ∧ ∃ vs', Lg N w' lp ((if b = true then [] else s) ++ t) [] false vs' (.slice none 0 0) := by
  cases b with
  | false => exact Sync_plain h h.base hm
  | true =>
    have h2 : t.length ≤ 140737488355328 := by omega
    exact Sync_anew h h.base h2
theorem crash_is (h : Lg N w lp s t b vs vt) (keep : Int) (hm : s.length + t.length ≤ 140737488355328) :
    Calls Try.prog 24 #[.pointer (some ⟨lp, 0, none⟩), .int .i64 keep] w fun e w' => ∃ A c, e = .returned (.slice A (s ++ t.take (mn (mx (if b = true then 0 else keep)) t.length).toNat).length c) ∧ By w.heap.size w' (.slice A (s ++ t.take (mn (mx (if b = true then 0 else keep)) t.length).toNat).length c) (s ++ t.take (mn (mx (if b = true then 0 else keep)) t.length).toNat) ∧ Below w.heap.size w w' := by
  have hh : Calls Try.prog 24 #[.pointer (some ⟨lp, 0, none⟩), .int .i64 keep] w fun e w' => ∃ v, e = .returned v ∧ By w.heap.size w' v (s ++ t.take (mn (mx (if b = true then 0 else keep)) t.length).toNat) ∧ Below w.heap.size w w' := by
    cases b with
    | false => exact Crash_plain h keep _ rfl hm
    | true => exact Crash_anew h keep _ rfl hm
  refine hh.mono ?_
  rintro e w' ⟨v, rfl, hv, hb⟩
  obtain ⟨A, c, rfl⟩ := Kd.R_slice hv
  exact ⟨A, c, rfl, hv, hb⟩
theorem bytes_is (h : Lg N w lp s t b vs vt) (hl : s.length < 140737488355328) :
    Calls Try.prog 20 #[.pointer (some ⟨lp, 0, none⟩)] w fun e w' => ∃ A c, e = .returned (.slice A s.length c) ∧ By w.heap.size w' (.slice A s.length c) s ∧ Below w.heap.size w w' := by
  refine (Bytes_is h hl).mono ?_
  rintro e w' ⟨v, rfl, hv, hb⟩
  obtain ⟨A, c, rfl⟩ := Kd.R_slice hv
  exact ⟨A, c, rfl, hv, hb⟩
end
end Go.Proofs.Ytnnlmbmgaajmhaa.Seg
