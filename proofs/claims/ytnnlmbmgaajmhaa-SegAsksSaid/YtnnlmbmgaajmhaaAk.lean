/-
  Sums, records, and what bytes are read as, is what the document says (SegAsks): what the law's walk calls.
  Conditions: none.
-/
import Derived.Test.YtnnlmbmgaajmhaaRs
namespace Go.Proofs.Ytnnlmbmgaajmhaa.Seg
open Go.RowKit Go.Proofs.YtnnlmbmgaajmhaaW.PrintWords Go.Proofs.YtnnlmbmgaajmhaaW.PrintLast Go.Proofs.YtnnlmbmgaajmhaaW.PrintMore Go.Proofs.YtnnlmbmgaajmhaaG Go.Proofs.Ytnnlmbmgaajmhaa.PGr Go.Proofs.Ytnnlmbmgaajmhaa.Sg
set_option linter.unusedVariables false
set_option linter.unusedSimpArgs false

theorem row_arg' {w : World} {A : Option Addr} {n : Nat} {xs : List (List Int)} (h : Kd.C (Kd.slice 5 (Kd.int .u8)) w A n xs) (i : Nat) (hi : i < xs.length) :
    ∃ ad A2 c2, A = some ad ∧ w.cell? (ad.add i) = some (.slice A2 xs[i].length c2) ∧ xs[i].length ≤ c2 ∧ (Kd.int .u8).C w A2 xs[i].length xs[i] := by
  have hn := Kd.C_len h
  obtain ⟨ad, A2, c2, hA, hx, hl, hC⟩ := PGr.at_L1 h (i : Int) (by omega) (by omega)
  have hxe : PGr.rd_L1 xs (i : Int) = xs[i] := by unfold PGr.rd_L1; rw [List.getD_eq_getElem?_getD, Int.toNat_natCast, List.getElem?_eq_getElem hi]; rfl
  rw [hxe] at hx hl hC
  rw [Int.toNat_natCast] at hx
  exact ⟨ad, A2, c2, hA, hx, hl, hC⟩
theorem conv_bytes (s : ByteArray) (w : World) (y : List Int) (hy : bytesOf s = y) (hn : s.size ≤ 9223372036854775807) : YieldsTo Try.prog (convert 9 22 (.string s)) w fun e w' => ∃ A c, e = .returned (.slice A y.length c) ∧ y.length ≤ c ∧ Kd.C (Kd.int .u8) w' A y.length y ∧ Below w.heap.size w w' := by
  subst hy
  refine YieldsTo.mono (bytes_of_9_22.calls s (bytesOf s) w (by unfold bytes_of_9_22.f; rw [if_pos hn])) ?_
  rintro e w' ⟨v, rfl, hv, hb⟩
  obtain ⟨A, c, rfl⟩ := Kd.V_slice hv
  obtain ⟨-, h1, h2⟩ := Kd.V_reads' hv
  exact ⟨A, c, rfl, h1, h2, hb⟩
theorem rec_ok (w : World) (A : Option Addr) (c : Nat) (l : List Int) (hr : Kd.C (Kd.int .u8) w A l.length l) (hc : l.length ≤ c) (hm : May l) (r : List Int) (hrr : r = recP l) :
    Calls Try.prog 11 #[.slice A l.length c] w fun e w' => ∃ B d, e = .returned (.tuple #[.slice B r.length d, .int .i64 0]) ∧ Kd.C (Kd.int .u8) w' B r.length r ∧ Below w.heap.size w w' := by
  subst hrr
  refine (PGa.seg_Record.calls (l.length + 2) A c l (recP l) 0 w hr hc (rec_is hm.1 hm.2.1 hm.2.2 (by omega))).mono ?_
  rintro e w' ⟨v, rfl, hv, hb⟩
  obtain ⟨B, d, rfl, -, hC⟩ := Kd.R_reads hv
  exact ⟨B, d, rfl, hC, hb⟩
theorem rec_bad (w : World) (A : Option Addr) (c : Nat) (l : List Int) (hr : Kd.C (Kd.int .u8) w A l.length l) (hc : l.length ≤ c) (hm : l.length < 1 ∨ 20000 < l.length) :
    Calls Try.prog 11 #[.slice A l.length c] w fun e w' => ∃ B d, e = .returned (.tuple #[.slice B 0 d, .int .i64 1]) ∧ Below w.heap.size w w' := by
  refine (PGa.seg_Record.calls 1 A c l [] 1 w hr hc (rec_no hm (by omega))).mono ?_
  rintro e w' ⟨v, rfl, hv, hb⟩
  obtain ⟨B, d, rfl⟩ := Kd.R_slice hv
  exact ⟨B, d, rfl, hb⟩
theorem sum_call (w : World) (A : Option Addr) (c : Nat) (l : List Int) (hr : Kd.C (Kd.int .u8) w A l.length l) (hc : l.length ≤ c) (ho : Oct l) (hn : l.length < 1073741824) (v : Int) (hv : sumP l = v) :
    Calls Try.prog 17 #[.slice A l.length c] w fun e w' => e = .returned (.int .u32 v) ∧ Below w.heap.size w w' := by
  subst hv
  refine (PGa.seg_Sum.calls (l.length + 1) A c l _ w hr hc (sum_is ho (by omega) (by omega))).mono ?_
  rintro e w' ⟨rfl, nd, rfl⟩
  exact ⟨rfl, pw_below_drewN (Below.refl _ _) _⟩
theorem read_call (w : World) (A : Option Addr) (c : Nat) (l : List Int) (hr : Kd.C (Kd.int .u8) w A l.length l) (hc : l.length ≤ c) (ho : Oct l) (hn : l.length < 1073741824) (R : List (List Int)) (m : Int) (hv : readP l = (R, m)) :
    Calls Try.prog 14 #[.slice A l.length c] w fun e w' => ∃ B d, e = .returned (.tuple #[.slice B R.length d, .int .i64 m]) ∧ Kd.S (Kd.slice 5 (Kd.int .u8)) 22 w' w.heap.size (fun _ => True) (.slice B R.length d) R ∧ Below w.heap.size w w' := by
  refine (PGa.seg_Read.calls (l.length + l.length + l.length + 21) A c l R m w hr hc ((read_is ho hn (by omega)).trans (by rw [hv]))).mono ?_
  rintro e w' ⟨v, rfl, hv, hb⟩
  obtain ⟨B, d, rfl⟩ := Kd.S_slice hv
  exact ⟨B, d, rfl, hv, hb⟩
theorem open_call (w : World) (A : Option Addr) (c : Nat) (l : List Int) (hr : Kd.C (Kd.int .u8) w A l.length l) (hc : l.length ≤ c) (ho : Oct l) (hn : l.length < 1073741824) (R : List (List Int)) (m : Int) (hv : readP l = (R, m)) :
    Calls Try.prog 16 #[.slice A l.length c] w fun e w' => ∃ B d vs N lp, e = .returned (.tuple #[.pointer (some ⟨lp, 0, none⟩), .slice B R.length d]) ∧ Below w.heap.size w w' ∧ w.heap.size ≤ N ∧
      Kd.S (Kd.slice 5 (Kd.int .u8)) 22 w' w.heap.size (fun k => k < N) (.slice B R.length d) R ∧ Lg N w' lp (l.take m.toNat) [] false vs (.slice none 0 0) := by
  have h := open_is A c l w hr hc ho hn
  rw [hv] at h
  refine h.mono ?_
  rintro e w' ⟨B, d, vs, N, lp, rfl, hb, h1, -, hs, hL⟩
  exact ⟨B, d, vs, N, lp, rfl, hb, h1, hs, hL⟩
theorem ref_read_call (s : ByteArray) (w : World) (hs : s.size < 1073741824) (T : List ByteArray) (m : Int) (h1 : (readP (bytesOf s)).1.map strOfNums = T) (h2 : (readP (bytesOf s)).2 = m) :
    Calls Try.prog 15 #[.string s] w fun e w' => ∃ A c, e = .returned (.tuple #[.slice A T.length c, .int .i64 m]) ∧ Ts w.heap.size w' (.slice A T.length c) T ∧ Below w.heap.size w w' := by
  subst h1
  subst h2
  refine (ref_read s w hs).mono ?_
  rintro e w' ⟨v, rfl, hv, hb⟩
  obtain ⟨A, c, rfl⟩ := Kd.R_slice hv
  exact ⟨A, c, rfl, hv, hb⟩
/-- Rows of bytes and the texts of them: the same. -/
theorem texts_loop (R : List (List Int)) (hn : R.length < 1073741824) : ∀ (d i k : Nat), i + d = R.length → d < k → carrefourlaw11_texts.l1 k R (R.map strOfNums) (i : Int) = some true := by
  intro d
  induction d with
  | zero =>
    intro i k hi hk
    obtain ⟨m, rfl⟩ : ∃ m, k = m + 1 := ⟨k - 1, by omega⟩
    simp only [carrefourlaw11_texts.l1]
    rw [List.length_map, if_neg (by omega)]
  | succ d ih =>
    intro i k hi hk
    obtain ⟨m, rfl⟩ : ∃ m, k = m + 1 := ⟨k - 1, by omega⟩
    have hil : i < R.length := by omega
    have e1 : PGr.rd_L1 R (i : Int) = R[i] := by unfold PGr.rd_L1; rw [List.getD_eq_getElem?_getD, Int.toNat_natCast, List.getElem?_eq_getElem hil]; rfl
    have e2 : rdOf ByteArray.empty (R.map strOfNums) (i : Int) = strOfNums R[i] := by
      unfold rdOf
      rw [List.getD_eq_getElem?_getD, Int.toNat_natCast, List.getElem?_map, List.getElem?_eq_getElem hil]
      rfl
    have e3 : wrap64 ((i : Int) + 1) = ((i + 1 : Nat) : Int) := by rw [w64 _ (by omega) (by omega)]; omega
    simp only [carrefourlaw11_texts.l1]
    rw [List.length_map, if_pos (by omega), if_pos (by omega), if_pos (by omega), e1, e2, if_pos rfl, e3]
    exact ih (i + 1) m (by omega) (by omega)
theorem texts_call (w : World) (A0 A1 : Option Addr) (c0 c1 : Nat) (R : List (List Int)) (T : List ByteArray) (hT : T = R.map strOfNums) (hn : R.length < 1073741824)
    (hr0 : Kd.C (Kd.slice 5 (Kd.int .u8)) w A0 R.length R) (hc0 : R.length ≤ c0) (hr1 : Kd.C Kd.string w A1 T.length T) (hc1 : T.length ≤ c1) :
    Calls Try.prog 19 #[.slice A0 R.length c0, .slice A1 T.length c1] w fun e w' => e = .returned (.bool true) ∧ Below w.heap.size w w' := by
  refine (carrefourlaw11_texts.calls (R.length + 1) A0 c0 R A1 c1 T true w hr0 hc0 hr1 hc1 ?_).mono ?_
  · subst hT
    unfold carrefourlaw11_texts.f
    rw [List.length_map, if_pos rfl]
    exact texts_loop R hn R.length 0 _ (by omega) (by omega)
  · rintro e w' ⟨rfl, nd, rfl⟩
    exact ⟨rfl, pw_below_drewN (Below.refl _ _) _⟩
end Go.Proofs.Ytnnlmbmgaajmhaa.Seg
