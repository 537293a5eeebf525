/- Sums, records and what bytes are read as, as plain numbers. -/
import Derived.Test.YtnnlmbmgaajmhaaPGax1
namespace Go.Proofs.Ytnnlmbmgaajmhaa.Sg
open Go.RowKit Go.Proofs.Ytnnlmbmgaajmhaa.PGa Go.Proofs.YtnnlmbmgaajmhaaW.PrintWords Go.Proofs.YtnnlmbmgaajmhaaW.PrintLast

set_option linter.unusedVariables false
theorem wrap_small (x : Int) (h0 : 0 ≤ x) (h : x < 2^62) : Go.IntKind.wrap .i64 x = x := by
  rw [Go.IntWalk.i64_left]
  unfold wrap64
  omega
theorem or_i64 (a b : Nat) (ha : a < 2^62) (hb : b < 2^62) : Go.bits .or .i64 (a : Int) (b : Int) = ((a ||| b : Nat) : Int) := by
  have h := Nat.or_lt_two_pow ha hb
  show Go.IntKind.wrap .i64 (((BitVec.ofInt 64 (a : Int) ||| BitVec.ofInt 64 (b : Int)) : BitVec 64).toNat : Int) = _
  rw [BitVec.toNat_or, BitVec.ofInt_natCast, BitVec.ofInt_natCast, BitVec.toNat_ofNat, BitVec.toNat_ofNat]
  rw [Nat.mod_eq_of_lt (by omega : a < 2^64), Nat.mod_eq_of_lt (by omega : b < 2^64)]
  exact wrap_small _ (by omega) (by omega)
theorem or_add (a b : Int) (n : Nat) (hn : n ≤ 30) (ha : 0 ≤ a) (ha' : a < 2^30) (hb : 0 ≤ b) (hb' : b < 2^n) : Go.bits .or .i64 (a * 2^n) b = a * 2^n + b := by
  obtain ⟨x, rfl⟩ := Int.eq_ofNat_of_zero_le ha
  obtain ⟨y, rfl⟩ := Int.eq_ofNat_of_zero_le hb
  have hx : x < 2^30 := by omega
  have hy : y < 2^n := by exact_mod_cast hb'
  have hp : (2:Nat)^n ≤ 2^30 := Nat.pow_le_pow_right (by omega) hn
  have hm : x * 2^n ≤ 2^30 * 2^30 := Nat.mul_le_mul (by omega) hp
  have e := or_i64 (x * 2^n) y (by omega) (by omega)
  have e2 := Nat.shiftLeft_add_eq_or_of_lt hy x
  rw [Nat.shiftLeft_eq] at e2
  rw [← e2] at e
  push_cast at e
  exact e

/-- Bytes. -/
def Oct (l : List Int) : Prop := ∀ y ∈ l, 0 ≤ y ∧ y < 256
instance (l : List Int) : Decidable (Oct l) := by unfold Oct; infer_instance
theorem u8_of {y : Int} (h : (Go.Lit.int .u8 y).wf = true) : 0 ≤ y ∧ y < 256 := by
  have h' : (decide ((0 : Int) ≤ y) && decide (y ≤ 2 ^ 8 - 1)) = true := h
  rw [Bool.and_eq_true, decide_eq_true_eq, decide_eq_true_eq] at h'
  omega
theorem Oct.rd {l : List Int} (h : Oct l) (i : Int) : 0 ≤ rd l i ∧ rd l i < 256 := by
  unfold Go.Proofs.YtnnlmbmgaajmhaaW.PrintWords.rd
  rw [List.getD_eq_getElem?_getD]
  by_cases hi : i.toNat < l.length
  · rw [List.getElem?_eq_getElem hi]
    exact h _ (List.getElem_mem hi)
  · rw [List.getElem?_eq_none (by omega)]
    simp
theorem Oct.app {a b : List Int} (ha : Oct a) (hb : Oct b) : Oct (a ++ b) := fun y hy => (List.mem_append.mp hy).elim (ha y) (hb y)
theorem Oct.take {a : List Int} (ha : Oct a) (n : Nat) : Oct (a.take n) := fun y hy => ha y (List.mem_of_mem_take hy)
theorem Oct.drop {a : List Int} (ha : Oct a) (n : Nat) : Oct (a.drop n) := fun y hy => ha y (List.mem_of_mem_drop hy)
theorem Oct.nil : Oct [] := fun y hy => by cases hy
theorem Oct.set {a : List Int} (ha : Oct a) (n : Nat) {x : Int} (hx : 0 ≤ x ∧ x < 256) : Oct (a.set n x) := fun y hy => by
  rcases List.mem_or_eq_of_mem_set hy with h | rfl
  · exact ha y h
  · exact hx

/-! ### Sum -/
def step (p : Int × Int) (c : Int) : Int × Int := ((31 * p.1 + c + 1) % 65521, (p.2 + (31 * p.1 + c + 1) % 65521) % 65521)
def run (p : Int × Int) (l : List Int) : Int × Int := l.foldl step p
def val (p : Int × Int) : Int := p.2 * 65536 + p.1
def sumP (l : List Int) : Int := val (run (1, 0) l)
def Lo (p : Int × Int) : Prop := 0 ≤ p.1 ∧ p.1 < 65521 ∧ 0 ≤ p.2 ∧ p.2 < 65521
theorem Lo.step {p : Int × Int} (h : Lo p) (c : Int) : Lo (step p c) := by
  unfold Lo Sg.step at *
  omega
theorem Lo.run : ∀ (l : List Int) {p : Int × Int}, Lo p → Lo (run p l)
  | [], _, h => h
  | c :: l, _, h => Lo.run l (h.step c)
theorem lo0 : Lo (1, 0) := by unfold Lo; omega
theorem drop_rd (l : List Int) (i : Nat) (h : i < l.length) : l.drop i = rd l (i : Int) :: l.drop (i + 1) := by
  rw [List.drop_eq_getElem_cons h]
  unfold Go.Proofs.YtnnlmbmgaajmhaaW.PrintWords.rd
  rw [List.getD_eq_getElem?_getD, Int.toNat_natCast, List.getElem?_eq_getElem h]
  rfl
theorem sum_loop (l : List Int) (hl : Oct l) (hn : l.length < 2^40) : ∀ (d k i : Nat) (p : Int × Int), Lo p → i + d = l.length → d < k →
    seg_Sum.l1 k p.1 p.2 l (l.length : Int) (i : Int) = some (val (run p (l.drop i))) := by
  intro d
  induction d with
  | zero =>
    intro k i p hp hi hk
    obtain ⟨m, rfl⟩ : ∃ m, k = m + 1 := ⟨k - 1, by omega⟩
    simp only [seg_Sum.l1]
    rw [if_neg (by omega), List.drop_of_length_le (by omega)]
    unfold Lo at hp
    show some _ = some (p.2 * 65536 + p.1)
    congr 1
    omega
  | succ d ih =>
    intro k i p hp hi hk
    obtain ⟨m, rfl⟩ : ∃ m, k = m + 1 := ⟨k - 1, by omega⟩
    simp only [seg_Sum.l1]
    rw [if_pos (by omega), if_pos (by omega), if_pos (by omega)]
    have hc := hl.rd (i : Int)
    rw [drop_rd l i (by omega)]
    generalize rd l (i : Int) = c at hc ⊢
    unfold Lo at hp
    have e1 : (((31 * p.1 % 4294967296 + c % 4294967296) % 4294967296 + 1) % 4294967296) % 65521 = (step p c).1 := by
      show _ = (31 * p.1 + c + 1) % 65521
      rw [Int.emod_eq_of_lt (a := 31 * p.1) (by omega) (by omega), Int.emod_eq_of_lt (a := c) (by omega) (by omega), Int.emod_eq_of_lt (a := 31 * p.1 + c) (by omega) (by omega), Int.emod_eq_of_lt (a := 31 * p.1 + c + 1) (b := 4294967296) (by omega) (by omega)]
    have e3 : wrap64 ((i : Int) + 1) = ((i + 1 : Nat) : Int) := by unfold wrap64; omega
    rw [e1, e3]
    have hs := Lo.step hp c
    have e2 : (p.2 + (step p c).1) % 4294967296 % 65521 = (step p c).2 := by
      show (p.2 + (31 * p.1 + c + 1) % 65521) % 4294967296 % 65521 = (p.2 + (31 * p.1 + c + 1) % 65521) % 65521
      rw [Int.emod_eq_of_lt (a := p.2 + (31 * p.1 + c + 1) % 65521) (b := 4294967296) (by omega) (by omega)]
    rw [e2]
    exact ih m (i + 1) (step p c) hs (by omega) (by omega)
theorem sum_is {l : List Int} (hl : Oct l) (hn : l.length < 2^40) {k : Nat} (hk : l.length < k) : seg_Sum.f k l = some (sumP l) := by
  have h := sum_loop l hl hn l.length k 0 (1, 0) lo0 (by omega) hk
  exact h
theorem sum_lo (l : List Int) : 0 ≤ sumP l ∧ sumP l < 4294967296 := by
  have h := Lo.run l lo0
  unfold Lo at h
  unfold sumP val
  omega

/-! ### Record -/
def hdr (n s : Int) : List Int := [n / 256 % 256, n % 256, s / 16777216 % 256, s / 65536 % 256, s / 256 % 256, s % 256]
def recP (l : List Int) : List Int := hdr l.length (sumP l) ++ l
theorem hdr_len (n s : Int) : (hdr n s).length = 6 := rfl
theorem rec_len (l : List Int) : (recP l).length = l.length + 6 := by
  unfold recP
  rw [List.length_append, hdr_len]
  omega
theorem hdr_oct (n s : Int) : Oct (hdr n s) := by
  intro y hy
  simp only [hdr, List.mem_cons, List.not_mem_nil, or_false] at hy
  omega
theorem rec_oct {l : List Int} (h : Oct l) : Oct (recP l) := (hdr_oct _ _).app h
theorem rec_is {l : List Int} (hl : Oct l) (h1 : 1 ≤ l.length) (h2 : l.length ≤ 20000) {k : Nat} (hk : l.length + 1 < k) : seg_Record.f k l = some (recP l, 0) := by
  obtain ⟨m, rfl⟩ : ∃ m, k = m + 1 := ⟨k - 1, by omega⟩
  unfold seg_Record.f
  rw [if_neg (by omega), decide_eq_false (by omega)]
  simp only [seg_Record.j0]
  rw [if_neg (by simp), sum_is hl (by omega) (by omega)]
  simp only [Option.bind_some, List.length_cons, List.length_nil]
  rw [if_pos (by omega)]
  rfl
theorem rec_no {l : List Int} (h : l.length < 1 ∨ 20000 < l.length) {k : Nat} (hk : 0 < k) : seg_Record.f k l = some ([], 1) := by
  obtain ⟨m, rfl⟩ : ∃ m, k = m + 1 := ⟨k - 1, by omega⟩
  unfold seg_Record.f
  by_cases c : (l.length : Int) < 1
  · rw [if_pos c]; simp only [seg_Record.j0]; rfl
  · rw [if_neg c, decide_eq_true (by omega)]; simp only [seg_Record.j0]; rfl

/-! ### Bytes as texts -/
theorem nums_bytes {l : List Int} (h : Oct l) : bytesOf (strOfNums l) = l := by
  induction l with
  | nil => rfl
  | cons x l ih =>
    have hx := h x (by simp)
    have := ih fun y hy => h y (by simp [hy])
    simp only [bytesOf, strOfNums, List.map_cons] at this ⊢
    rw [this]
    congr 1
    simp only [UInt8.toNat_ofNat']
    omega
theorem nums_app (a b : List Int) : strOfNums (a ++ b) = strOfNums a ++ strOfNums b := by
  apply ByteArray.ext
  simp [strOfNums]
theorem nums_size (a : List Int) : (strOfNums a).size = a.length := by
  simp [strOfNums, ByteArray.size]
theorem bytes_by (s : ByteArray) : Oct (bytesOf s) := by
  intro y hy
  simp only [bytesOf, List.mem_map] at hy
  obtain ⟨b, _, rfl⟩ := hy
  have := b.toNat_lt
  omega
theorem nums_eq {a b : List Int} (ha : Oct a) (hb : Oct b) : strOfNums a = strOfNums b ↔ a = b :=
  ⟨fun h => by rw [← nums_bytes ha, ← nums_bytes hb, h], fun h => by rw [h]⟩
theorem toList_inj {s t : ByteArray} (h : s.toList = t.toList) : s = t := by
  apply ByteArray.ext
  apply Array.toList_inj.mp
  rwa [← ByteArray.toList_eq, ← ByteArray.toList_eq] at *
theorem equal_is {a b : List Int} (ha : Oct a) (hb : Oct b) : bytes_Equal.f a b = some (decide (a = b)) := by
  unfold bytes_Equal.f
  congr 1
  by_cases h : a = b
  · subst h
    simp
  · rw [decide_eq_false h]
    apply beq_eq_false_iff_ne.mpr
    intro h2
    exact h ((nums_eq ha hb).mp (toList_inj h2))
theorem clone_is {l : List Int} (h : l.length < 2^40) : bytes_Clone.f l = some l := by
  simp [bytes_Clone.f]
  omega

/-! ### Read -/
def num (b : List Int) : Int := rd b 0 * 256 + rd b 1
/-- Is there a record ahead? -/
def good (b : List Int) : Bool := decide (6 ≤ b.length ∧ 1 ≤ num b ∧ num b ≤ 20000 ∧ num b + 6 ≤ b.length ∧ recP ((b.drop 6).take (num b).toNat) = b.take (num b + 6).toNat)
def readN : Nat → List Int → List (List Int) × Int
  | 0, _ => ([], 0)
  | k + 1, b => if good b = true then ((b.drop 6).take (num b).toNat :: (readN k (b.drop (num b + 6).toNat)).1, num b + 6 + (readN k (b.drop (num b + 6).toNat)).2) else ([], 0)
def readP (b : List Int) : List (List Int) × Int := readN b.length b
theorem good_of {b : List Int} (h : good b = true) : 6 ≤ b.length ∧ 1 ≤ num b ∧ num b ≤ 20000 ∧ num b + 6 ≤ b.length ∧ recP ((b.drop 6).take (num b).toNat) = b.take (num b + 6).toNat := of_decide_eq_true h
theorem rd_drop (l : List Int) (i j : Nat) : rd (l.drop i) (j : Int) = rd l ((i + j : Nat) : Int) := by
  unfold Go.Proofs.YtnnlmbmgaajmhaaW.PrintWords.rd
  rw [List.getD_eq_getElem?_getD, List.getD_eq_getElem?_getD, Int.toNat_natCast, Int.toNat_natCast, List.getElem?_drop]

theorem w64 (x : Int) (h0 : -1099511627776 ≤ x) (h1 : x ≤ 1099511627776) : wrap64 x = x := by
  unfold wrap64
  omega
theorem read_loop (l : List Int) (hl : Oct l) (hn : l.length < 1073741824) : ∀ (d i k : Nat) (acc : List (List Int)), i ≤ l.length → l.length - i ≤ d → acc.length ≤ i → d + d + l.length + 20 < k →
    seg_Read.l500 k l acc (i : Int) = some (acc ++ (readN d (l.drop i)).1, (i : Int) + (readN d (l.drop i)).2) := by
  intro d
  induction d with
  | zero =>
    intro i k acc h1 h2 h3 hk
    obtain ⟨m, rfl⟩ : ∃ m, k = m + 1 := ⟨k - 1, by omega⟩
    simp only [seg_Read.l500]
    rw [if_pos (by rw [w64 _ (by omega) (by omega)]; omega)]
    simp [readN]
  | succ d ih =>
    intro i k acc h1 h2 h3 hk
    obtain ⟨m, rfl⟩ : ∃ m, k = m + 2 := ⟨k - 2, by omega⟩
    have hlen : (l.drop i).length = l.length - i := List.length_drop
    have w1 : wrap64 ((l.length : Int) - (i : Int)) = (l.length : Int) - (i : Int) := w64 _ (by omega) (by omega)
    have w2 : wrap64 ((i : Int) + 1) = ((i + 1 : Nat) : Int) := by rw [w64 _ (by omega) (by omega)]; omega
    have hno : ∀ h : good (l.drop i) = false, readN (d + 1) (l.drop i) = ([], 0) := fun h => by simp only [readN]; rw [if_neg (by rw [h]; simp)]
    simp only [seg_Read.l500]
    rw [w1, w2]
    by_cases c1 : (l.length : Int) - (i : Int) < 6
    · rw [if_pos c1, hno (decide_eq_false (by rw [hlen]; omega))]
      simp
    have n0 : rd (l.drop i) 0 = rd l (i : Int) := rd_drop l i 0
    have n1 : rd (l.drop i) 1 = rd l ((i + 1 : Nat) : Int) := rd_drop l i 1
    have b0 := hl.rd (i : Int)
    have b1 := hl.rd ((i + 1 : Nat) : Int)
    have w3 : wrap64 (rd l (i : Int)) = rd l (i : Int) := w64 _ (by omega) (by omega)
    have w4 : wrap64 (rd l ((i + 1 : Nat) : Int)) = rd l ((i + 1 : Nat) : Int) := w64 _ (by omega) (by omega)
    have w5 : wrap64 (rd l (i : Int) * 256) = rd l (i : Int) * 256 := w64 _ (by omega) (by omega)
    have hnum : Go.bits .or .i64 (rd l (i : Int) * 256) (rd l ((i + 1 : Nat) : Int)) = num (l.drop i) := by
      unfold num
      rw [n0, n1]
      exact or_add (rd l (i : Int)) (rd l ((i + 1 : Nat) : Int)) 8 (by omega) (by omega) (by omega) (by omega) (by omega)
    have nb : 0 ≤ num (l.drop i) ∧ num (l.drop i) < 65536 := by
      unfold num
      rw [n0, n1]
      omega
    rw [if_neg c1, if_pos (by omega), if_pos (by omega), if_pos (by omega), if_pos (by omega), w3, w4, w5, hnum]
    have w6 : wrap64 ((l.length : Int) - (i : Int) - 6) = (l.length : Int) - (i : Int) - 6 := w64 _ (by omega) (by omega)
    rw [w6]
    have jt : seg_Read.j1 (m + 1) l acc (i : Int) (num (l.drop i)) true = some (acc, (i : Int)) := by
      simp only [seg_Read.j1]
      rfl
    have stop : good (l.drop i) = false → (some (acc, (i : Int)) : Option (List (List Int) × Int)) = some (acc ++ (readN (d + 1) (l.drop i)).1, (i : Int) + (readN (d + 1) (l.drop i)).2) := fun h => by rw [hno h]; simp
    by_cases c2 : num (l.drop i) < 1
    · rw [if_pos c2, jt]
      exact stop (decide_eq_false (by omega))
    by_cases c3 : num (l.drop i) > 20000
    · rw [if_neg c2, if_pos c3, jt]
      exact stop (decide_eq_false (by omega))
    rw [if_neg c2, if_neg c3]
    by_cases c4 : (l.length : Int) - (i : Int) - 6 < num (l.drop i)
    · rw [decide_eq_true c4, jt]
      exact stop (decide_eq_false (by rw [hlen]; omega))
    rw [decide_eq_false c4]
    simp only [seg_Read.j1]
    obtain ⟨n, hnn⟩ : ∃ n : Nat, num (l.drop i) = (n : Int) := ⟨(num (l.drop i)).toNat, by omega⟩
    rw [hnn] at nb c2 c3 c4 jt ⊢
    have HNN := Aside0.mk hnn
    clear hnum n0 n1 w1 w2 w3 w4 w5 w6 b0 b1 hnn c1
    have w7 : wrap64 ((i : Int) + 6) = ((i + 6 : Nat) : Int) := by rw [w64 _ (by omega) (by omega)]; omega
    have w8 : wrap64 (((i + 6 : Nat) : Int) + (n : Int)) = ((i + 6 + n : Nat) : Int) := by rw [w64 _ (by omega) (by omega)]; omega
    rw [w7, w8, if_neg (by simp), if_pos (by omega), if_pos (by omega), if_pos (by omega)]
    have s1 : (l.take ((i + 6 + n : Nat) : Int).toNat).drop ((i + 6 : Nat) : Int).toNat = ((l.drop i).drop 6).take n := by
      rw [Int.toNat_natCast, Int.toNat_natCast, List.drop_take, List.drop_drop]
      congr 1
      omega
    have s2 : (l.take ((i + 6 + n : Nat) : Int).toNat).drop (i : Int).toNat = (l.drop i).take (6 + n) := by
      rw [Int.toNat_natCast, Int.toNat_natCast, List.drop_take]
      congr 1
      omega
    have o1 : Oct (((l.drop i).drop 6).take n) := ((hl.drop i).drop 6).take n
    have o2 : Oct ((l.drop i).take (6 + n)) := (hl.drop i).take _
    have l1 : (((l.drop i).drop 6).take n).length = n := by rw [List.length_take, List.length_drop, List.length_drop]; omega
    rw [s1, s2, rec_is o1 (by omega) (by omega) (by omega)]
    simp only [Option.bind_some]
    rw [if_pos (by omega), if_pos (by omega), equal_is (rec_oct o1) o2, clone_is (by omega)]
    simp only [Option.bind_some]
    have hg : good (l.drop i) = decide (recP (((l.drop i).drop 6).take n) = (l.drop i).take (6 + n)) := by
      unfold good
      rw [HNN.out, hlen, Int.toNat_natCast, show ((n : Int) + 6).toNat = 6 + n by omega]
      apply decide_eq_decide.mpr
      exact ⟨fun h => h.2.2.2.2, fun h => ⟨by omega, by omega, by omega, by omega, h⟩⟩
    by_cases c5 : recP (((l.drop i).drop 6).take n) = (l.drop i).take (6 + n)
    · rw [decide_eq_true c5, if_pos rfl, if_pos (by omega), ih (i + 6 + n) m (acc ++ [((l.drop i).drop 6).take n]) (by omega) (by omega) (by rw [List.length_append, List.length_singleton]; omega) (by omega)]
      simp only [readN]
      rw [if_pos (by rw [hg, decide_eq_true c5]), HNN.out, Int.toNat_natCast, show ((n : Int) + 6).toNat = 6 + n by omega, List.drop_drop (j := i) (i := 6 + n), show i + (6 + n) = i + 6 + n by omega]
      simp only [List.append_assoc, List.singleton_append]
      congr 2
      omega
    · rw [decide_eq_false c5, if_neg (by simp)]
      exact stop (by rw [hg, decide_eq_false c5])
theorem read_is {l : List Int} (hl : Oct l) (hn : l.length < 1073741824) {k : Nat} (hk : l.length + l.length + l.length + 20 < k) : seg_Read.f k l = some (readP l) := by
  have h := read_loop l hl hn l.length 0 k [] (by omega) (by omega) (by simp) hk
  rw [List.drop_zero] at h
  unfold seg_Read.f readP
  rw [show (0 : Int) = ((0 : Nat) : Int) from rfl, h]
  simp
end Go.Proofs.Ytnnlmbmgaajmhaa.Sg
