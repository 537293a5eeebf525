/-
  A log does what the document says (SegPlays): the two logs side by side.
  Conditions: none.
-/
import Derived.Test.YtnnlmbmgaajmhaaLp
import Derived.Test.YtnnlmbmgaajmhaaRl
namespace Go.Proofs.Ytnnlmbmgaajmhaa.Seg
open Go.RowKit Go.Proofs.YtnnlmbmgaajmhaaW.PrintWords Go.Proofs.YtnnlmbmgaajmhaaW.PrintLast Go.Proofs.YtnnlmbmgaajmhaaG Go.Proofs.Ytnnlmbmgaajmhaa.PGr Go.Proofs.Ytnnlmbmgaajmhaa.Sg
set_option linter.unusedVariables false
set_option linter.unusedSimpArgs false

theorem By.keep {N : Nat} {w w1 : World} {v : Value} {l : List Int} (h : By N w v l) {rp : Nat} {cs : Array Value} (hb : w.heap[rp]? = some (.cells cs 60 (0, 0))) (hk : KeepBut w w1 rp none) : By N w1 v l :=
  Kd.R_mono (Kd.R_keep (Kd.R_types h hb (by intro q hq; obtain rfl := List.mem_singleton.mp hq; decide)) hk (fun k hk => hk.2)) (fun _ _ => trivial)
theorem Lg.keep {N : Nat} {w w1 : World} {lp rp : Nat} {s t : List Int} {b : Bool} {vs vt : Value} (h : Lg N w lp s t b vs vt) {cs : Array Value} (hb : w.heap[rp]? = some (.cells cs 60 (0, 0))) (hk : KeepBut w w1 rp none) : Lg N w1 lp s t b vs vt :=
  ⟨h.le, KeepBut.blk hk h.blk (fun he => by
      subst he
      have := h.blk.symm.trans hb
      simp at this) (by simp), By.keep h.rs hb hk, By.keep h.rt hb hk, h.dj⟩
/-- The program's log and the document's, with the same in them. -/
structure Two (w0 w : World) (lp rp : Nat) (s t : List Int) (b : Bool) : Prop where
  below : Below w0.heap.size w0 w
  rl : RL w rp (strOfNums s) (strOfNums t) b
  base : w0.heap.size ≤ rp
  lg : ∃ N vs vt, w0.heap.size ≤ N ∧ Lg N w lp s t b vs vt
  os : Oct s
  ot : Oct t
section
variable {w0 w : World} {lp rp : Nat} {s t : List Int} {b : Bool}
theorem Two.stay (h : Two w0 w lp rp s t b) {w1 : World} (hb : Below w.heap.size w w1) : Two w0 w1 lp rp s t b := by
  obtain ⟨N, vs, vt, hN, hL⟩ := h.lg
  exact ⟨h.below.trans (hb.mono h.below.size), h.rl.below hb, h.base, ⟨N, vs, vt, hN, hL.below hb⟩, h.os, h.ot⟩
/-- Between the program's step and the document's. -/
structure Mid (w0 w : World) (lp rp : Nat) (s t : List Int) (b : Bool) (s' t' : ByteArray) (b' : Bool) : Prop where
  below : Below w0.heap.size w0 w
  rl : RL w rp s' t' b'
  base : w0.heap.size ≤ rp
  lg : ∃ N vs vt, w0.heap.size ≤ N ∧ Lg N w lp s t b vs vt
theorem Two.put_ok (h : Two w0 w lp rp s t b) (A : Option Addr) (c : Nat) (l : List Int) (hr : Kd.C (Kd.int .u8) w A l.length l) (hc : l.length ≤ c) (hm : May l) (hl : t.length ≤ 1073741824) :
    Calls Try.prog 23 #[.pointer (some ⟨lp, 0, none⟩), .slice A l.length c] w fun e w' => e = .returned (.int .i64 0) ∧ Mid w0 w' lp rp s (t ++ recP l) b (strOfNums s) (strOfNums t) b ∧ Other w w' ∧ Below w0.heap.size w w' := by
  obtain ⟨N, vs, vt, hN, hL⟩ := h.lg
  refine (Put_o hL hL.base A c l (recP l) 0 (l.length + 2) hr hc (rec_is hm.1 hm.2.1 hm.2.2 (by omega)) (by rw [rec_len]; have := hm.2.2; omega)).mono ?_
  rintro e w' ⟨rfl, hb, ho, vt', hL'⟩
  exact ⟨rfl, ⟨h.below.trans (hb.mono hN), ho rp _ 60 h.rl (by decide) (by decide), h.base, ⟨N, vs, vt', hN, hL'⟩⟩, ho, hb.mono hN⟩
theorem Two.put_no (h : Two w0 w lp rp s t b) (A : Option Addr) (c : Nat) (l : List Int) (hr : Kd.C (Kd.int .u8) w A l.length l) (hc : l.length ≤ c) (hm : l.length < 1 ∨ 20000 < l.length) (hl : t.length ≤ 1073741824) :
    Calls Try.prog 23 #[.pointer (some ⟨lp, 0, none⟩), .slice A l.length c] w fun e w' => e = .returned (.int .i64 1) ∧ Mid w0 w' lp rp s t b (strOfNums s) (strOfNums t) b ∧ Other w w' ∧ Below w0.heap.size w w' := by
  obtain ⟨N, vs, vt, hN, hL⟩ := h.lg
  refine (Put_o hL hL.base A c l [] 1 1 hr hc (rec_no hm (by omega)) (by rw [List.length_nil]; omega)).mono ?_
  rintro e w' ⟨rfl, hb, ho, vt', hL'⟩
  rw [List.append_nil] at hL'
  exact ⟨rfl, ⟨h.below.trans (hb.mono hN), ho rp _ 60 h.rl (by decide) (by decide), h.base, ⟨N, vs, vt', hN, hL'⟩⟩, ho, hb.mono hN⟩
theorem Two.begin_ok (h : Two w0 w lp rp s t b) (A : Option Addr) (c : Nat) (l : List Int) (hr : Kd.C (Kd.int .u8) w A l.length l) (hc : l.length ≤ c) (hm : May l) :
    Calls Try.prog 27 #[.pointer (some ⟨lp, 0, none⟩), .slice A l.length c] w fun e w' => e = .returned (.int .i64 0) ∧ Mid w0 w' lp rp s (recP l) true (strOfNums s) (strOfNums t) b ∧ Other w w' ∧ Below w0.heap.size w w' := by
  obtain ⟨N, vs, vt, hN, hL⟩ := h.lg
  refine (Begin_ok_o hL hL.base A c l (recP l) (l.length + 2) hr hc (rec_is hm.1 hm.2.1 hm.2.2 (by omega))).mono ?_
  rintro e w' ⟨rfl, hb, ho, vt', hL'⟩
  exact ⟨rfl, ⟨h.below.trans (hb.mono hN), ho rp _ 60 h.rl (by decide) (by decide), h.base, ⟨N, vs, vt', hN, hL'⟩⟩, ho, hb.mono hN⟩
theorem Two.begin_no (h : Two w0 w lp rp s t b) (A : Option Addr) (c : Nat) (l : List Int) (hr : Kd.C (Kd.int .u8) w A l.length l) (hc : l.length ≤ c) (hm : l.length < 1 ∨ 20000 < l.length) :
    Calls Try.prog 27 #[.pointer (some ⟨lp, 0, none⟩), .slice A l.length c] w fun e w' => e = .returned (.int .i64 1) ∧ Mid w0 w' lp rp s t b (strOfNums s) (strOfNums t) b ∧ Other w w' ∧ Below w0.heap.size w w' := by
  obtain ⟨N, vs, vt, hN, hL⟩ := h.lg
  refine (Begin_err_o hL hL.base A c l [] 1 (by decide) 1 hr hc (rec_no hm (by omega))).mono ?_
  rintro e w' ⟨rfl, hb, ho, hL'⟩
  exact ⟨rfl, ⟨h.below.trans (hb.mono hN), ho rp _ 60 h.rl (by decide) (by decide), h.base, ⟨N, vs, vt, hN, hL'⟩⟩, ho, hb.mono hN⟩
/-- What both are behind a sync. -/
def after (s t : List Int) (b : Bool) : List Int := (if b = true then [] else s) ++ t
theorem Two.sync (h : Two w0 w lp rp s t b) (hl : s.length + t.length ≤ 1000000000) :
    Calls Try.prog 22 #[.pointer (some ⟨lp, 0, none⟩)] w fun e w' => (∃ v, e = .returned v) ∧ Mid w0 w' lp rp (after s t b) [] false (strOfNums s) (strOfNums t) b ∧ Other w w' ∧ Below w0.heap.size w w' := by
  obtain ⟨N, vs, vt, hN, hL⟩ := h.lg
  cases b with
  | false =>
    refine (Sync_plain_o hL hL.base (by omega)).mono ?_
    rintro e w' ⟨hv, hb, ho, vs', hL'⟩
    exact ⟨hv, ⟨h.below.trans (hb.mono hN), ho rp _ 60 h.rl (by decide) (by decide), h.base, ⟨N, vs', _, hN, hL'⟩⟩, ho, hb.mono hN⟩
  | true =>
    refine (Sync_anew_o hL hL.base (by omega)).mono ?_
    rintro e w' ⟨hv, hb, ho, vs', hL'⟩
    exact ⟨hv, ⟨h.below.trans (hb.mono hN), ho rp _ 60 h.rl (by decide) (by decide), h.base, ⟨N, vs', _, hN, hL'⟩⟩, ho, hb.mono hN⟩
end
section
variable {w0 w : World} {lp rp : Nat} {s t : List Int} {b : Bool} {s' t' : ByteArray} {b' : Bool}
theorem Mid.back (h : Mid w0 w lp rp s t b s' t' b') {w' : World} (hk : KeepBut w w' rp none) (hb : Below rp w w') (hr : RL w' rp (strOfNums s) (strOfNums t) b) (os : Oct s) (ot : Oct t) : Two w0 w' lp rp s t b := by
  obtain ⟨N, vs, vt, hN, hL⟩ := h.lg
  exact ⟨h.below.trans (hb.mono h.base), hr, h.base, ⟨N, vs, vt, hN, hL.keep h.rl hk⟩, os, ot⟩
theorem Mid.drew (h : Mid w0 w lp rp s t b s' t' b') : Mid w0 w.drew lp rp s t b s' t' b' := by
  obtain ⟨N, vs, vt, hN, hL⟩ := h.lg
  exact ⟨h.below.drew, h.rl, h.base, ⟨N, vs, vt, hN, hL.drew⟩⟩
end
theorem may_dec {x : List Int} (ho : Oct x) (b : Bool) (h : decide (1 ≤ x.length ∧ x.length ≤ 20000) = b) : decide (1 ≤ (bytesOf (strOfNums x)).length ∧ (bytesOf (strOfNums x)).length ≤ 20000) = b := by rw [nums_bytes ho]; exact h
section
variable {w0 w : World} {lp rp : Nat} {s t : List Int} {b : Bool}
theorem Mid.put_ok {x : List Int} (h : Mid w0 w lp rp s (t ++ recP x) b (strOfNums s) (strOfNums t) b) (hx : May x) (os : Oct s) (ot : Oct t) (hl : t.length ≤ 1000000000) :
    Calls Try.prog 26 #[.pointer (some ⟨rp, 0, none⟩), .string (strOfNums x)] w fun e w' => e = .returned (.int .i64 0) ∧ Two w0 w' lp rp s (t ++ recP x) b ∧ KeepBut w w' rp none := by
  refine (rput_ok h.rl (strOfNums x) (may_dec hx.1 true (decide_eq_true hx.2)) (strOfNums (recP x)) (by rw [nums_bytes hx.1]) (strOfNums (t ++ recP x)) (nums_app t (recP x)).symm (by rw [nums_size, nums_size, rec_len]; have := hx.2.2; omega)).mono ?_
  rintro e w' ⟨rfl, hr, hk, hb⟩
  exact ⟨rfl, h.back hk hb hr os (ot.app (rec_oct hx.1)), hk⟩
theorem Mid.put_no {x : List Int} (h : Mid w0 w lp rp s t b (strOfNums s) (strOfNums t) b) (hx : Oct x) (hx2 : decide (1 ≤ x.length ∧ x.length ≤ 20000) = false) (os : Oct s) (ot : Oct t) :
    Calls Try.prog 26 #[.pointer (some ⟨rp, 0, none⟩), .string (strOfNums x)] w fun e w' => e = .returned (.int .i64 1) ∧ Two w0 w' lp rp s t b ∧ KeepBut w w' rp none := by
  refine (rput_no h.rl (strOfNums x) (may_dec hx false hx2)).mono ?_
  rintro e w' ⟨rfl, hr, hk, hb⟩
  exact ⟨rfl, h.back hk hb hr os ot, hk⟩
theorem Mid.begin_ok {x : List Int} (h : Mid w0 w lp rp s (recP x) true (strOfNums s) (strOfNums t) b) (hx : May x) (os : Oct s) :
    Calls Try.prog 28 #[.pointer (some ⟨rp, 0, none⟩), .string (strOfNums x)] w fun e w' => e = .returned (.int .i64 0) ∧ Two w0 w' lp rp s (recP x) true ∧ KeepBut w w' rp none := by
  refine (rbegin_ok h.rl (strOfNums x) (may_dec hx.1 true (decide_eq_true hx.2)) (strOfNums (recP x)) (by rw [nums_bytes hx.1])).mono ?_
  rintro e w' ⟨rfl, hr, hk, hb⟩
  exact ⟨rfl, h.back hk hb hr os (rec_oct hx.1), hk⟩
theorem Mid.begin_no {x : List Int} (h : Mid w0 w lp rp s t b (strOfNums s) (strOfNums t) b) (hx : Oct x) (hx2 : decide (1 ≤ x.length ∧ x.length ≤ 20000) = false) (os : Oct s) (ot : Oct t) :
    Calls Try.prog 28 #[.pointer (some ⟨rp, 0, none⟩), .string (strOfNums x)] w fun e w' => e = .returned (.int .i64 1) ∧ Two w0 w' lp rp s t b ∧ KeepBut w w' rp none := by
  refine (rbegin_no h.rl (strOfNums x) (may_dec hx false hx2)).mono ?_
  rintro e w' ⟨rfl, hr, hk, hb⟩
  exact ⟨rfl, h.back hk hb hr os ot, hk⟩
theorem Mid.sync (h : Mid w0 w lp rp (after s t b) [] false (strOfNums s) (strOfNums t) b) (os : Oct s) (ot : Oct t) (hl : s.length + t.length ≤ 1000000000) :
    Calls Try.prog 29 #[.pointer (some ⟨rp, 0, none⟩)] w fun e w' => (∃ v, e = .returned v) ∧ Two w0 w' lp rp (after s t b) [] false ∧ KeepBut w w' rp none := by
  cases b with
  | false =>
    refine (rsync_plain h.rl (strOfNums (s ++ t)) (nums_app s t).symm (by rw [nums_size, nums_size]; omega)).mono ?_
    rintro e w' ⟨hv, hr, hk, hb⟩
    exact ⟨hv, h.back hk hb hr (os.app ot) Oct.nil, hk⟩
  | true =>
    refine (rsync_anew h.rl (by rw [nums_size]; omega)).mono ?_
    rintro e w' ⟨hv, hr, hk, hb⟩
    exact ⟨hv, h.back hk hb hr ot Oct.nil, hk⟩
/-- What is left behind a crash. -/
def left (s t : List Int) (b : Bool) (keep : Int) : List Int := s ++ t.take (mn (mx (if b = true then 0 else keep)) t.length).toNat
theorem left_oct (os : Oct s) (ot : Oct t) (keep : Int) : Oct (left s t b keep) := os.app (ot.take _)
theorem left_len (keep : Int) : (left s t b keep).length ≤ s.length + t.length := by
  unfold left
  rw [List.length_append, List.length_take]
  omega
theorem Two.crash (h : Two w0 w lp rp s t b) (keep : Int) (hl : s.length + t.length ≤ 1000000000) (y : List Int) (hy : left s t b keep = y) :
    Calls Try.prog 24 #[.pointer (some ⟨lp, 0, none⟩), .int .i64 keep] w fun e w' => ∃ A c, e = .returned (.slice A y.length c) ∧ y.length ≤ c ∧ Kd.C (Kd.int .u8) w' A y.length y ∧ Below w.heap.size w w' := by
  subst hy
  obtain ⟨N, vs, vt, hN, hL⟩ := h.lg
  refine (crash_is hL keep (by omega)).mono ?_
  rintro e w' ⟨A, c, rfl, hv, hb⟩
  have h2 := Kd.R_reads' hv
  exact ⟨A, c, rfl, h2.2.1, h2.2.2, hb⟩
theorem Two.rcrash (h : Two w0 w lp rp s t b) (keep : Int) (hl : s.length + t.length ≤ 1000000000) (y : List Int) (hy : left s t b keep = y) :
    Calls Try.prog 30 #[.pointer (some ⟨rp, 0, none⟩), .int .i64 keep] w fun e w' => e = .returned (.string (strOfNums y)) ∧ Below w.heap.size w w' := by
  subst hy
  cases b with
  | true =>
    have e : left s t true keep = s := by
      unfold left
      rw [if_pos rfl]
      have : (mn (mx 0) (t.length : Int)).toNat = 0 := by
        unfold mn mx
        rw [if_neg (by omega)]
        split <;> omega
      rw [this, List.take_zero, List.append_nil]
    rw [e]
    exact rcrash_anew h.rl keep
  | false =>
    refine rcrash_plain h.rl keep (mn (mx keep) t.length) (by rw [nums_size]; exact clamp keep t.length) _ ?_ (by rw [nums_size, nums_size]; omega)
    unfold left
    rw [if_neg (by simp), nums_app]
    congr 1
    rw [← bytes_nums ((strOfNums t).extract 0 _), bytes_cut, List.drop_zero, nums_bytes h.ot]
theorem Two.bytes (h : Two w0 w lp rp s t b) (hl : s.length ≤ 1000000000) :
    Calls Try.prog 20 #[.pointer (some ⟨lp, 0, none⟩)] w fun e w' => ∃ A c, e = .returned (.slice A s.length c) ∧ Kd.C (Kd.int .u8) w' A s.length s ∧ Below w.heap.size w w' := by
  obtain ⟨N, vs, vt, hN, hL⟩ := h.lg
  refine (bytes_is hL (by omega)).mono ?_
  rintro e w' ⟨A, c, rfl, hv, hb⟩
  exact ⟨A, c, rfl, (Kd.R_reads' hv).2.2, hb⟩
theorem Two.waits (h : Two w0 w lp rp s t b) : Calls Try.prog 21 #[.pointer (some ⟨lp, 0, none⟩)] w fun e w' => e = .returned (.int .i64 t.length) ∧ w' = w := by
  obtain ⟨N, vs, vt, hN, hL⟩ := h.lg
  exact Waits_is hL
end
/-- Both opened anew. -/
theorem two_new {w0 w w1 : World} {lp rp N : Nat} {vs : Value} {s : List Int} (hb : Below w0.heap.size w0 w) (hN : w0.heap.size ≤ N) (hL : Lg N w lp s [] false vs (.slice none 0 0)) (hb2 : Below w.heap.size w w1) (hr : RL w1 rp (strOfNums s) ⟨#[]⟩ false) (hrp : w0.heap.size ≤ rp) (os : Oct s) : Two w0 w1 lp rp s [] false :=
  ⟨hb.trans (hb2.mono hb.size), hr, hrp, ⟨N, vs, _, hN, hL.below hb2⟩, os, Oct.nil⟩
end Go.Proofs.Ytnnlmbmgaajmhaa.Seg
