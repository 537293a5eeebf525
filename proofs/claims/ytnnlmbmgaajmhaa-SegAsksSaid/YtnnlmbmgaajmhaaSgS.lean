/- The document's reader, as plain numbers; when a record is ahead. -/
import Derived.Test.YtnnlmbmgaajmhaaSgR
namespace Go.Proofs.Ytnnlmbmgaajmhaa.Sg
open Go.RowKit Go.Proofs.Ytnnlmbmgaajmhaa.PGr Go.Proofs.YtnnlmbmgaajmhaaW.PrintWords Go.Proofs.YtnnlmbmgaajmhaaW.PrintLast Go.Proofs.YtnnlmbmgaajmhaaW.PrintMore
set_option linter.unusedVariables false

theorem or_u64 (a b : Nat) (ha : a < 2^62) (hb : b < 2^62) : Go.bits .or .u64 (a : Int) (b : Int) = ((a ||| b : Nat) : Int) := by
  have h := Nat.or_lt_two_pow ha hb
  show Go.IntKind.wrap .u64 (((BitVec.ofInt 64 (a : Int) ||| BitVec.ofInt 64 (b : Int)) : BitVec 64).toNat : Int) = _
  rw [BitVec.toNat_or, BitVec.ofInt_natCast, BitVec.ofInt_natCast, BitVec.toNat_ofNat, BitVec.toNat_ofNat]
  rw [Nat.mod_eq_of_lt (by omega : a < 2^64), Nat.mod_eq_of_lt (by omega : b < 2^64)]
  exact u64_small _ (by omega) (by omega)
theorem or_addU (a b : Int) (ha : 0 ≤ a) (ha' : a < 1099511627776) (hb : 0 ≤ b) (hb' : b < 256) : Go.bits .or .u64 (a * 256) b = a * 256 + b := by
  obtain ⟨x, rfl⟩ := Int.eq_ofNat_of_zero_le ha
  obtain ⟨y, rfl⟩ := Int.eq_ofNat_of_zero_le hb
  have hy : y < 2^8 := by omega
  have e := or_u64 (x * 256) y (by omega) (by omega)
  have e2 := Nat.shiftLeft_add_eq_or_of_lt hy x
  rw [Nat.shiftLeft_eq] at e2
  rw [← e2, Int.natCast_mul] at e
  refine Eq.trans e ?_
  omega
theorem some_ok (k : Nat) (t : ByteArray) (n : Nat) (h : n ≤ t.size) (hk : 0 < k) : carrefourref1_R_Some.f k t false (n : Int) = some (t.extract 0 n, t.extract n t.size, false) := by
  obtain ⟨m, rfl⟩ : ∃ m, k = m + 1 := ⟨k - 1, by omega⟩
  unfold carrefourref1_R_Some.f
  rw [if_neg (by simp), if_neg (by omega), decide_eq_false (by omega)]
  simp only [carrefourref1_R_Some.j0]
  rw [if_neg (by simp), if_pos (by omega), if_pos (by omega), Int.toNat_natCast]
theorem some_bad (k : Nat) (t : ByteArray) (n : Int) (h : (t.size : Int) < n) (hk : 0 < k) : carrefourref1_R_Some.f k t false n = some (⟨#[]⟩, ⟨#[]⟩, true) := by
  obtain ⟨m, rfl⟩ : ∃ m, k = m + 1 := ⟨k - 1, by omega⟩
  unfold carrefourref1_R_Some.f
  rw [if_neg (by simp), if_neg (by omega), decide_eq_true (by omega)]
  simp only [carrefourref1_R_Some.j0]
  rfl
theorem rbig_step (k : Nat) (t s : ByteArray) (f : Bool) (acc : Int) (i : Nat) (hi : i < t.size) (hs : t.size < 1000) (h0 : 0 ≤ acc) (h1 : acc < 1099511627776) :
    carrefourref1_R_Big.l1 (k + 1) t acc (i : Int) s f = carrefourref1_R_Big.l1 k t (acc * 256 + rd (bytesOf t) (i : Int)) ((i + 1 : Nat) : Int) s f := by
  have hb := (bytes_by t).rd (i : Int)
  simp only [carrefourref1_R_Big.l1]
  rw [if_pos (by omega), if_pos (by omega), ← rd_bytesOf, u64_small _ (by omega) (by omega), u64_small _ hb.1 (by omega), or_addU _ _ h0 h1 hb.1 hb.2, w64 _ (by omega) (by omega)]
  rfl
theorem rbig_end (k : Nat) (t s : ByteArray) (f : Bool) (acc : Int) (i : Nat) (hi : t.size ≤ i) : carrefourref1_R_Big.l1 (k + 1) t acc (i : Int) s f = some (acc, s, f) := by
  simp only [carrefourref1_R_Big.l1]
  rw [if_neg (by omega)]
theorem rd_take (l : List Int) (n i : Nat) (h : i < n) : rd (l.take n) (i : Int) = rd l (i : Int) := by
  unfold Go.Proofs.YtnnlmbmgaajmhaaW.PrintWords.rd
  rw [List.getD_eq_getElem?_getD, List.getD_eq_getElem?_getD, Int.toNat_natCast, List.getElem?_take_of_lt h]
theorem bytes_cut (s : ByteArray) (a b : Nat) : bytesOf (s.extract a b) = ((bytesOf s).take b).drop a := by
  simp [bytesOf, ByteArray.data_extract, List.map_take, List.map_drop]
  rw [List.drop_take]
/-- Four bytes as a number. -/
def num4 (b : List Int) : Int := ((rd b 0 * 256 + rd b 1) * 256 + rd b 2) * 256 + rd b 3
theorem int2 (t : ByteArray) (h : 2 ≤ t.size) (k : Nat) (hk : 5 < k) : carrefourref1_R_Int.f k t false 2 = some (num (bytesOf t), t.extract 2 t.size, false) := by
  obtain ⟨m, rfl⟩ : ∃ m, k = m + 3 := ⟨k - 3, by omega⟩
  have hb0 := (bytes_by t).rd 0
  have hb1 := (bytes_by t).rd 1
  have hz : (t.extract 0 2).size = 2 := by rw [ByteArray.size_extract]; omega
  have hby : bytesOf (t.extract 0 2) = (bytesOf t).take 2 := by rw [bytes_cut, List.drop_zero]
  have r0 : rd (bytesOf (t.extract 0 2)) ((0 : Nat) : Int) = rd (bytesOf t) 0 := by rw [hby]; exact rd_take _ 2 0 (by omega)
  have r1 : rd (bytesOf (t.extract 0 2)) ((1 : Nat) : Int) = rd (bytesOf t) 1 := by rw [hby]; exact rd_take _ 2 1 (by omega)
  unfold carrefourref1_R_Int.f carrefourref1_R_Big.f
  rw [show (2 : Int) = ((2 : Nat) : Int) from rfl, some_ok _ t 2 h (by omega)]
  simp only [Option.bind_some]
  have e0 := rbig_step (m + 2) (t.extract 0 2) (t.extract 2 t.size) false 0 0 (by omega) (by omega) (by omega) (by omega)
  rw [r0] at e0
  have e1 := rbig_step (m + 1) (t.extract 0 2) (t.extract 2 t.size) false (0 * 256 + rd (bytesOf t) 0) 1 (by omega) (by omega) (by omega) (by omega)
  rw [r1] at e1
  have e2 := rbig_end m (t.extract 0 2) (t.extract 2 t.size) false ((0 * 256 + rd (bytesOf t) 0) * 256 + rd (bytesOf t) 1) 2 (by omega)
  have e : carrefourref1_R_Big.l1 (m + 3) (t.extract 0 2) 0 0 (t.extract 2 t.size) false = some ((0 * 256 + rd (bytesOf t) 0) * 256 + rd (bytesOf t) 1, t.extract 2 t.size, false) := (e0.trans e1).trans e2
  rw [e]
  simp only [Option.bind_some]
  rw [w64 _ (by omega) (by omega)]
  unfold num
  simp
theorem rbig4 (t : ByteArray) (h : 4 ≤ t.size) (k : Nat) (hk : 7 < k) : carrefourref1_R_Big.f k t false 4 = some (num4 (bytesOf t), t.extract 4 t.size, false) := by
  obtain ⟨m, rfl⟩ : ∃ m, k = m + 5 := ⟨k - 5, by omega⟩
  have hb0 := (bytes_by t).rd 0
  have hb1 := (bytes_by t).rd 1
  have hb2 := (bytes_by t).rd 2
  have hz : (t.extract 0 4).size = 4 := by rw [ByteArray.size_extract]; omega
  have hby : bytesOf (t.extract 0 4) = (bytesOf t).take 4 := by rw [bytes_cut, List.drop_zero]
  have r0 : rd (bytesOf (t.extract 0 4)) ((0 : Nat) : Int) = rd (bytesOf t) 0 := by rw [hby]; exact rd_take _ 4 0 (by omega)
  have r1 : rd (bytesOf (t.extract 0 4)) ((1 : Nat) : Int) = rd (bytesOf t) 1 := by rw [hby]; exact rd_take _ 4 1 (by omega)
  have r2 : rd (bytesOf (t.extract 0 4)) ((2 : Nat) : Int) = rd (bytesOf t) 2 := by rw [hby]; exact rd_take _ 4 2 (by omega)
  have r3 : rd (bytesOf (t.extract 0 4)) ((3 : Nat) : Int) = rd (bytesOf t) 3 := by rw [hby]; exact rd_take _ 4 3 (by omega)
  unfold carrefourref1_R_Big.f
  rw [show (4 : Int) = ((4 : Nat) : Int) from rfl, some_ok _ t 4 h (by omega)]
  simp only [Option.bind_some]
  have e0 := rbig_step (m + 4) (t.extract 0 4) (t.extract 4 t.size) false 0 0 (by omega) (by omega) (by omega) (by omega)
  rw [r0] at e0
  have e1 := rbig_step (m + 3) (t.extract 0 4) (t.extract 4 t.size) false (0 * 256 + rd (bytesOf t) 0) 1 (by omega) (by omega) (by omega) (by omega)
  rw [r1] at e1
  have e2 := rbig_step (m + 2) (t.extract 0 4) (t.extract 4 t.size) false ((0 * 256 + rd (bytesOf t) 0) * 256 + rd (bytesOf t) 1) 2 (by omega) (by omega) (by omega) (by omega)
  rw [r2] at e2
  have e3 := rbig_step (m + 1) (t.extract 0 4) (t.extract 4 t.size) false (((0 * 256 + rd (bytesOf t) 0) * 256 + rd (bytesOf t) 1) * 256 + rd (bytesOf t) 2) 3 (by omega) (by omega) (by omega) (by omega)
  rw [r3] at e3
  have e4 := rbig_end m (t.extract 0 4) (t.extract 4 t.size) false ((((0 * 256 + rd (bytesOf t) 0) * 256 + rd (bytesOf t) 1) * 256 + rd (bytesOf t) 2) * 256 + rd (bytesOf t) 3) 4 (by omega)
  have e : carrefourref1_R_Big.l1 (m + 5) (t.extract 0 4) 0 0 (t.extract 4 t.size) false = some ((((0 * 256 + rd (bytesOf t) 0) * 256 + rd (bytesOf t) 1) * 256 + rd (bytesOf t) 2) * 256 + rd (bytesOf t) 3, t.extract 4 t.size, false) := (((e0.trans e1).trans e2).trans e3).trans e4
  rw [e]
  unfold num4
  simp

/-! ### When a record is ahead -/
theorem take6 (b : List Int) (hb : Oct b) (h : 6 ≤ b.length) : b.take 6 = hdr (num b) (num4 (b.drop 2)) := by
  match b, h with
  | b0 :: b1 :: b2 :: b3 :: b4 :: b5 :: rest, _ =>
    have h0 := hb b0 (by simp)
    have h1 := hb b1 (by simp)
    have h2 := hb b2 (by simp)
    have h3 := hb b3 (by simp)
    have h4 := hb b4 (by simp)
    have h5 := hb b5 (by simp)
    have en : num (b0 :: b1 :: b2 :: b3 :: b4 :: b5 :: rest) = b0 * 256 + b1 := rfl
    have e4 : num4 ((b0 :: b1 :: b2 :: b3 :: b4 :: b5 :: rest).drop 2) = ((b2 * 256 + b3) * 256 + b4) * 256 + b5 := rfl
    rw [en, e4]
    show [b0, b1, b2, b3, b4, b5] = _
    simp only [hdr, List.cons.injEq, and_true]
    omega
theorem num4_lo (b : List Int) (hb : Oct b) : 0 ≤ num4 b ∧ num4 b < 4294967296 := by
  have h0 := hb.rd 0
  have h1 := hb.rd 1
  have h2 := hb.rd 2
  have h3 := hb.rd 3
  unfold num4
  omega
theorem good_is (b : List Int) (hb : Oct b) (h6 : 6 ≤ b.length) : good b = decide (1 ≤ num b ∧ num b ≤ 20000 ∧ num b + 6 ≤ b.length ∧ sumP ((b.drop 6).take (num b).toNat) = num4 (b.drop 2)) := by
  unfold good
  apply decide_eq_decide.mpr
  constructor
  · rintro ⟨-, h1, h2, h3, h⟩
    refine ⟨h1, h2, h3, ?_⟩
    obtain ⟨n, hn⟩ : ∃ n : Nat, num b = (n : Int) := ⟨(num b).toNat, by omega⟩
    rw [hn, Int.toNat_natCast, show ((n : Int) + 6).toNat = 6 + n by omega, List.take_add, take6 b hb h6] at h
    unfold recP at h
    have hl : (hdr (((b.drop 6).take n).length : Int) (sumP ((b.drop 6).take n))).length = (hdr (num b) (num4 (b.drop 2))).length := rfl
    have h7 := List.append_inj_left h hl
    have hln : (((b.drop 6).take n).length : Int) = num b := by rw [List.length_take, List.length_drop]; omega
    rw [hln] at h7
    rw [hn, Int.toNat_natCast]
    exact hdr_inj (sum_lo _) (num4_lo _ (hb.drop 2)) h7
  · rintro ⟨h1, h2, h3, h⟩
    refine ⟨h6, h1, h2, h3, ?_⟩
    obtain ⟨n, hn⟩ : ∃ n : Nat, num b = (n : Int) := ⟨(num b).toNat, by omega⟩
    rw [hn, Int.toNat_natCast] at h
    rw [hn, Int.toNat_natCast, show ((n : Int) + 6).toNat = 6 + n by omega, List.take_add, take6 b hb h6]
    unfold recP
    have hln : (((b.drop 6).take n).length : Int) = num b := by rw [List.length_take, List.length_drop]; omega
    rw [hln, h]
end Go.Proofs.Ytnnlmbmgaajmhaa.Sg
