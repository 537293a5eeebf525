/- Frames as plain numbers: what Next tells of any bytes. -/
import Derived.Test.YtcfideolgkjhmaaPGsx3
namespace Go.Proofs.Ytcfideolgkjhmaa.FsB
open Go.RowKit Go.Proofs.Ytcfideolgkjhmaa.PGs Go.Proofs.YtcfideolgkjhmaaW.PrintWords Go.Proofs.YtcfideolgkjhmaaW.PrintLast

theorem wrap_small (x : Int) (h0 : 0 ≤ x) (h : x < 2^62) : Go.IntKind.wrap .i64 x = x := by
  rw [Go.IntWalk.i64_left]
  unfold wrap64
  omega
theorem or_i64 (a b : Nat) (ha : a < 2^62) (hb : b < 2^62) : Go.bits .or .i64 (a : Int) (b : Int) = ((a ||| b : Nat) : Int) := by
  have h := Nat.or_lt_two_pow ha hb
  show Go.IntKind.wrap .i64 (((BitVec.ofInt 64 (a : Int) ||| BitVec.ofInt 64 (b : Int)) : BitVec 64).toNat : Int) = _
  rw [BitVec.toNat_or, BitVec.ofInt_natCast, BitVec.ofInt_natCast, BitVec.toNat_ofNat, BitVec.toNat_ofNat]
  rw [Nat.mod_eq_of_lt (by omega : a < 2^64), Nat.mod_eq_of_lt (by omega : b < 2^64)]
  exact wrap_small _ (by omega) (by omega)

theorem or_add (a b : Int) (n : Nat) (hn : n ≤ 30) (ha : 0 ≤ a) (ha' : a < 2^30) (hb : 0 ≤ b) (hb' : b < 2^n) : Go.bits .or .i64 (a * 2^n) b = a * 2^n + b := by
  obtain ⟨x, rfl⟩ := Int.eq_ofNat_of_zero_le ha
  obtain ⟨y, rfl⟩ := Int.eq_ofNat_of_zero_le hb
  have hx : x < 2^30 := by omega
  have hy : y < 2^n := by exact_mod_cast hb'
  have hp : (2:Nat)^n ≤ 2^30 := Nat.pow_le_pow_right (by omega) hn
  have hm : x * 2^n ≤ 2^30 * 2^30 := Nat.mul_le_mul (by omega) hp
  have e := or_i64 (x * 2^n) y (by omega) (by omega)
  have e2 := Nat.shiftLeft_add_eq_or_of_lt hy x
  rw [Nat.shiftLeft_eq] at e2
  rw [← e2] at e
  push_cast at e
  exact e

/-- Bytes. -/
def By (l : List Int) : Prop := ∀ y ∈ l, 0 ≤ y ∧ y < 256
theorem u8_of {y : Int} (h : (Go.Lit.int .u8 y).wf = true) : 0 ≤ y ∧ y < 256 := by
  have h' : (decide ((0 : Int) ≤ y) && decide (y ≤ 2 ^ 8 - 1)) = true := h
  rw [Bool.and_eq_true, decide_eq_true_eq, decide_eq_true_eq] at h'
  omega
theorem By.rd {l : List Int} (h : By l) (i : Int) : 0 ≤ rd l i ∧ rd l i < 256 := by
  unfold Go.Proofs.YtcfideolgkjhmaaW.PrintWords.rd
  rw [List.getD_eq_getElem?_getD]
  by_cases hi : i.toNat < l.length
  · rw [List.getElem?_eq_getElem hi]
    exact h _ (List.getElem_mem hi)
  · rw [List.getElem?_eq_none (by omega)]
    simp

def hi (l : List Int) : Int := rd l 1 * 256 + rd l 2
def ln (l : List Int) : Int := rd l 3 * 16777216 + rd l 4 * 65536 + rd l 5 * 256 + rd l 6
def kin (x : Int) : Bool := decide (x = 1 ∨ x = 2 ∨ x = 3 ∨ x = 8)
abbrev Ans : Type := Int × Int × List Int × Int × Int
def no3 : Ans := (0, 0, [], 0, 3)
def bad : Ans := (0, 0, [], 0, 501)
/-- What bytes begin with. -/
def nextS (l : List Int) : Ans :=
  if l.length < 1 then no3 else if kin (rd l 0) = false then bad else if l.length < 3 then no3
  else if rd l 0 = 8 ∧ hi l ≠ 0 then bad else if l.length < 7 then no3
  else if ln l > 4096 ∨ (rd l 0 = 8 ∧ ln l > 0) then bad else if (l.length : Int) ≤ 7 + ln l then no3
  else if rd l (7 + ln l) ≠ 206 then bad else (rd l 0, hi l, (l.take (7 + ln l).toNat).drop 7, 8 + ln l, 0)

theorem kind_tells (x : Int) : frame_kind.f x = some (kin x) := by
  unfold frame_kind.f kin
  by_cases h1 : x = 1
  · simp [h1]
  by_cases h2 : x = 2
  · simp [h2]
  by_cases h3 : x = 3
  · simp [h3]
  rw [if_neg h1, if_neg h2, if_neg h3]
  by_cases h8 : x = 8 <;> simp [h1, h2, h3, h8]

theorem w_rd {l : List Int} (h : By l) (i : Int) : wrap64 (rd l i) = rd l i := by
  have := h.rd i
  unfold wrap64
  omega
theorem w_mul {l : List Int} (h : By l) (i : Int) (m : Int) (h0 : 0 ≤ m) (h1 : m ≤ 16777216) : wrap64 (rd l i * m) = rd l i * m := by
  have := h.rd i
  have a : 0 ≤ rd l i * m := Int.mul_nonneg this.1 h0
  have b : rd l i * m ≤ 255 * 16777216 := Int.mul_le_mul (by omega) h1 h0 (by omega)
  unfold wrap64
  omega

theorem hi_is {l : List Int} (h : By l) : Go.bits .or .i64 (wrap64 ((wrap64 (rd l 1)) * 256)) (wrap64 (rd l 2)) = hi l := by
  rw [w_rd h, w_rd h, w_mul h _ _ (by omega) (by omega)]
  have a := h.rd 1
  have b := h.rd 2
  exact or_add (rd l 1) (rd l 2) 8 (by omega) (by omega) (by omega) (by omega) (by omega)

theorem ln_is {l : List Int} (h : By l) : (Go.bits .or .i64 (Go.bits .or .i64 (Go.bits .or .i64 (wrap64 ((wrap64 (rd l 3)) * 16777216)) (wrap64 ((wrap64 (rd l 4)) * 65536))) (wrap64 ((wrap64 (rd l 5)) * 256))) (wrap64 (rd l 6))) = ln l := by
  rw [w_rd h, w_rd h, w_rd h, w_rd h, w_mul h _ _ (by omega) (by omega), w_mul h _ _ (by omega) (by omega), w_mul h _ _ (by omega) (by omega)]
  have a := h.rd 3
  have b := h.rd 4
  have c := h.rd 5
  have d := h.rd 6
  have e1 : Go.bits .or .i64 (rd l 3 * 16777216) (rd l 4 * 65536) = _ := or_add (rd l 3) (rd l 4 * 65536) 24 (by omega) (by omega) (by omega) (by omega) (by omega)
  have e2 : Go.bits .or .i64 ((rd l 3 * 256 + rd l 4) * 65536) (rd l 5 * 256) = _ := or_add (rd l 3 * 256 + rd l 4) (rd l 5 * 256) 16 (by omega) (by omega) (by omega) (by omega) (by omega)
  have e3 : Go.bits .or .i64 ((rd l 3 * 65536 + rd l 4 * 256 + rd l 5) * 256) (rd l 6) = _ := or_add (rd l 3 * 65536 + rd l 4 * 256 + rd l 5) (rd l 6) 8 (by omega) (by omega) (by omega) (by omega) (by omega)
  rw [e1]
  rw [show rd l 3 * 2 ^ 24 + rd l 4 * 65536 = (rd l 3 * 256 + rd l 4) * 65536 by omega, e2]
  rw [show (rd l 3 * 256 + rd l 4) * 2 ^ 16 + rd l 5 * 256 = (rd l 3 * 65536 + rd l 4 * 256 + rd l 5) * 256 by omega, e3]
  unfold ln
  omega
theorem ln_bound {l : List Int} (h : By l) : 0 ≤ ln l := by
  have a := h.rd 3
  have b := h.rd 4
  have c := h.rd 5
  have d := h.rd 6
  unfold ln
  omega
theorem hi_bound {l : List Int} (h : By l) : 0 ≤ hi l := by
  have a := h.rd 1
  have b := h.rd 2
  unfold hi
  omega

theorem next_spec (k : Nat) {l : List Int} (h : By l) (hl : l.length < 1000000) : frame_Next.f (k + 2) l = some (nextS l) := by
  unfold frame_Next.f nextS
  by_cases c1 : l.length < 1
  · rw [if_pos (by omega), if_pos c1]; rfl
  rw [if_neg (by omega), if_neg c1, if_pos (by omega)]
  rw [kind_tells, w_rd h, hi_is h]
  simp only [Option.bind_some]
  by_cases c2 : kin (rd l 0) = false
  · rw [if_pos c2, c2]; rfl
  rw [if_neg c2, if_pos (by simpa using c2)]
  by_cases c3 : l.length < 3
  · rw [if_pos (by omega), if_pos c3]; rfl
  rw [if_neg (by omega), if_neg c3, if_pos (by omega), if_pos (by omega)]
  have j0t : frame_Next.j0 (k + 2) l true (rd l 0) (hi l) = some bad := rfl
  have j0 : frame_Next.j0 (k + 2) l false (rd l 0) (hi l) = some (if l.length < 7 then no3
  else if ln l > 4096 ∨ (rd l 0 = 8 ∧ ln l > 0) then bad else if (l.length : Int) ≤ 7 + ln l then no3
  else if rd l (7 + ln l) ≠ 206 then bad else (rd l 0, hi l, (l.take (7 + ln l).toNat).drop 7, 8 + ln l, 0)) := by
    simp only [frame_Next.j0]
    rw [ln_is h, if_neg (by simp)]
    by_cases c5 : l.length < 7
    · rw [if_pos (by omega), if_pos c5]; rfl
    rw [if_neg (by omega), if_neg c5, if_pos (by omega), if_pos (by omega), if_pos (by omega), if_pos (by omega)]
    have hb := ln_bound h
    have j1t : frame_Next.j1 (k + 1) l (ln l) true (rd l 0) (hi l) = some bad := rfl
    have j1 : ln l ≤ 4096 → frame_Next.j1 (k + 1) l (ln l) false (rd l 0) (hi l) = some (if (l.length : Int) ≤ 7 + ln l then no3
      else if rd l (7 + ln l) ≠ 206 then bad else (rd l 0, hi l, (l.take (7 + ln l).toNat).drop 7, 8 + ln l, 0)) := by
      intro cc
      simp only [frame_Next.j1]
      rw [if_neg (by simp)]
      have e7 : wrap64 (7 + ln l) = 7 + ln l := by
        unfold wrap64; omega
      rw [e7]
      by_cases c6 : (l.length : Int) ≤ 7 + ln l
      · rw [if_pos c6, if_pos c6]; rfl
      rw [if_neg c6, if_neg c6, if_pos (by omega), if_pos (by omega)]
      by_cases c7 : rd l (7 + ln l) = 206
      · rw [if_pos c7, if_pos (by omega), if_pos (by omega), if_neg (show ¬ (rd l (7 + ln l) ≠ 206) by simpa using c7)]
        unfold bytes_Clone.f
        simp only [Option.bind_some]
        rw [if_pos (by simp; omega)]
        simp only [Option.bind_some, List.nil_append]
        have e8 : wrap64 (7 + ln l + 1) = 8 + ln l := by
          unfold wrap64; omega
        rw [e8]
      · rw [if_neg c7, if_pos c7]; rfl
    by_cases c8 : ln l > 4096
    · rw [if_pos c8, if_pos (Or.inl c8), j1t]
    rw [if_neg c8]
    by_cases c9 : rd l 0 = 8
    · rw [if_pos c9]
      by_cases c10 : ln l > 0
      · rw [if_pos (Or.inr ⟨c9, c10⟩), decide_eq_true c10, j1t]
      · rw [if_neg (by omega), decide_eq_false c10, j1 (by omega)]
    · rw [if_neg c9, if_neg (by omega), j1 (by omega)]
  by_cases c4 : rd l 0 = 8
  · rw [if_pos c4]
    by_cases c5 : hi l = 0
    · rw [if_neg (by omega), show (hi l != 0) = false by simp [c5], j0]
    · rw [if_pos ⟨c4, c5⟩, show (hi l != 0) = true by simp [c5], j0t]
  · rw [if_neg c4, j0, if_neg (show ¬ (rd l 0 = 8 ∧ hi l ≠ 0) by omega)]

/-- May a frame be? -/
def mayB (kd ch : Int) (l : List Int) : Bool := kin kd && decide (0 ≤ ch ∧ ch ≤ 65535 ∧ (l.length : Int) ≤ 4096 ∧ (kd = 8 → ch = 0 ∧ l.length = 0))
theorem may_tells (k : Nat) (kd ch : Int) (l : List Int) : frame_May.f (k + 1) kd ch l = some (mayB kd ch l) := by
  have j : ∀ b : Bool, frame_May.j0 (k + 1) b kd ch l = some (!b && kin kd && decide (0 ≤ ch ∧ ch ≤ 65535 ∧ (l.length : Int) ≤ 4096)) := by
    intro b
    cases b
    case true => rfl
    simp only [frame_May.j0]
    rw [if_neg (by simp), kind_tells]
    simp only [Option.bind_some, Bool.not_false, Bool.true_and]
    by_cases h : kin kd = true
    · rw [if_pos h, h]
      by_cases h1 : ch ≥ 0
      · rw [if_pos h1]
        by_cases h2 : ch ≤ 65535
        · rw [if_pos h2]
          simp [h1, h2]
        · rw [if_neg h2]
          simp [h2]
      · rw [if_neg h1]
        simp only [Bool.true_and, Option.some.injEq]
        exact (decide_eq_false (by omega)).symm
    · rw [if_neg h]
      simp [h]
  unfold frame_May.f mayB
  by_cases h8 : kd = 8
  · rw [if_pos h8]
    by_cases h0 : ch = 0
    · rw [if_pos h0, j]
      subst h8 h0
      by_cases hl : l.length = 0
      · simp [hl, kin]
      · have : decide ((l.length : Int) > 0) = true := decide_eq_true (by omega)
        rw [this]
        simp [hl]
    · rw [if_neg h0, j]
      simp [h8, h0]
  · rw [if_neg h8, j]
    simp [h8]

/-- A frame's bytes. -/
def head (kd ch : Int) (l : List Int) : List Int := [kd % 256, (ch / 256) % 256, ch % 256, ((l.length : Int) / 16777216) % 256, ((l.length : Int) / 65536) % 256, ((l.length : Int) / 256) % 256, (l.length : Int) % 256]
def fby (kd ch : Int) (l : List Int) : List Int := head kd ch l ++ l ++ [206]
theorem bytes_len (kd ch : Int) (l : List Int) : (fby kd ch l).length = l.length + 8 := by
  simp [fby, head]
theorem put_tells (k : Nat) (kd ch : Int) (l : List Int) : frame_Put.f (k + 1) kd ch l = some (if mayB kd ch l = true then (fby kd ch l, 0) else ([], 1)) := by
  unfold frame_Put.f
  rw [may_tells]
  simp only [Option.bind_some]
  by_cases h : mayB kd ch l = true
  · have hl : l.length ≤ 4096 := by
      simp [mayB] at h
      omega
    rw [if_pos h, if_pos h, if_pos (by simp; omega), if_pos (by simp; omega)]
    rfl
  · rw [if_neg h, if_neg h]
theorem By.app {l m : List Int} (h : By l) (g : By m) : By (l ++ m) := by
  intro y hy
  rcases List.mem_append.mp hy with h' | h'
  · exact h y h'
  · exact g y h'
theorem By.sub {l m : List Int} (h : By l) (g : ∀ y ∈ m, y ∈ l) : By m := fun y hy => h y (g y hy)
theorem By.take {l : List Int} (h : By l) (n : Nat) : By (l.take n) := h.sub fun _ hy => List.mem_of_mem_take hy
theorem By.drop {l : List Int} (h : By l) (n : Nat) : By (l.drop n) := h.sub fun _ hy => List.mem_of_mem_drop hy
theorem By.fby {kd ch : Int} {l : List Int} (h : By l) : By (fby kd ch l) := by
  refine By.app (By.app ?_ h) (by intro y hy; simp at hy; omega)
  intro y hy
  simp [head] at hy
  omega

theorem bytes_rd0 (kd ch : Int) (l m : List Int) : rd (fby kd ch l ++ m) 0 = kd % 256 := by simp [rd, fby, head]
theorem bytes_rd1 (kd ch : Int) (l m : List Int) : rd (fby kd ch l ++ m) 1 = (ch / 256) % 256 := by simp [rd, fby, head]
theorem bytes_rd2 (kd ch : Int) (l m : List Int) : rd (fby kd ch l ++ m) 2 = ch % 256 := by simp [rd, fby, head]
theorem bytes_rd3 (kd ch : Int) (l m : List Int) : rd (fby kd ch l ++ m) 3 = ((l.length : Int) / 16777216) % 256 := by simp [rd, fby, head]
theorem bytes_rd4 (kd ch : Int) (l m : List Int) : rd (fby kd ch l ++ m) 4 = ((l.length : Int) / 65536) % 256 := by simp [rd, fby, head]
theorem bytes_rd5 (kd ch : Int) (l m : List Int) : rd (fby kd ch l ++ m) 5 = ((l.length : Int) / 256) % 256 := by simp [rd, fby, head]
theorem bytes_rd6 (kd ch : Int) (l m : List Int) : rd (fby kd ch l ++ m) 6 = (l.length : Int) % 256 := by simp [rd, fby, head]
theorem bytes_end (kd ch : Int) (l m : List Int) : rd (fby kd ch l ++ m) (7 + (l.length : Int)) = 206 := by
  have e : (7 + (l.length : Int)).toNat = l.length + 7 := by omega
  simp only [rd, e, List.getD_eq_getElem?_getD]
  rw [List.getElem?_append_left (by rw [bytes_len]; omega)]
  unfold fby
  rw [List.getElem?_append_right (by simp [head])]
  simp [head]
theorem bytes_data (kd ch : Int) (l m : List Int) : ((fby kd ch l ++ m).take (7 + (l.length : Int)).toNat).drop 7 = l := by
  have e : (7 + (l.length : Int)).toNat = l.length + 1 + 1 + 1 + 1 + 1 + 1 + 1 := by omega
  rw [e]
  simp [fby, head]

theorem may_parts {kd ch : Int} {l : List Int} (h : mayB kd ch l = true) : (kd = 1 ∨ kd = 2 ∨ kd = 3 ∨ kd = 8) ∧ 0 ≤ ch ∧ ch ≤ 65535 ∧ l.length ≤ 4096 ∧ (kd = 8 → ch = 0 ∧ l.length = 0) := by
  simp only [mayB, kin, Bool.and_eq_true, decide_eq_true_eq] at h
  omega
theorem hi_bytes {kd ch : Int} {l : List Int} (m : List Int) (h : mayB kd ch l = true) : hi (fby kd ch l ++ m) = ch := by
  have := may_parts h
  unfold hi
  rw [bytes_rd1, bytes_rd2]
  omega
theorem ln_bytes {kd ch : Int} {l : List Int} (m : List Int) (h : mayB kd ch l = true) : ln (fby kd ch l ++ m) = l.length := by
  have := may_parts h
  unfold ln
  rw [bytes_rd3, bytes_rd4, bytes_rd5, bytes_rd6]
  omega
/-- Next over a frame's fby, and more. -/
theorem next_bytes {kd ch : Int} {l : List Int} (m : List Int) (h : mayB kd ch l = true) : nextS (fby kd ch l ++ m) = (kd, ch, l, 8 + (l.length : Int), 0) := by
  have p := may_parts h
  have L : (fby kd ch l ++ m).length = l.length + 8 + m.length := by rw [List.length_append, bytes_len]
  have K : kd % 256 = kd := by omega
  unfold nextS
  rw [hi_bytes m h, ln_bytes m h, bytes_rd0, K, bytes_end, bytes_data]
  rw [if_neg (by omega), if_neg (by simp [kin]; omega), if_neg (by omega), if_neg (by omega), if_neg (by omega), if_neg (by omega), if_neg (by omega), if_neg (by simp)]

theorem told_may (k : Nat) : carrefourlaw4_told.f (k + 20) = some true :=
  at_rounds (g := fun k => carrefourlaw4_told.f k) (fun k => carrefourlaw4_told.mono k) (by omega : 20 ≤ k + 20) (by kernel_rfl)
end Go.Proofs.Ytcfideolgkjhmaa.FsB
