/- The document's sums, records and readings, as plain numbers. -/
import Derived.Test.YtnnlmbmgaajmhaaPGrx2
import Derived.Test.YtnnlmbmgaajmhaaSgE
namespace Go.Proofs.Ytnnlmbmgaajmhaa.Sg
open Go.RowKit Go.Proofs.Ytnnlmbmgaajmhaa.PGr Go.Proofs.YtnnlmbmgaajmhaaW.PrintWords Go.Proofs.YtnnlmbmgaajmhaaW.PrintLast Go.Proofs.YtnnlmbmgaajmhaaW.PrintMore
set_option linter.unusedVariables false

theorem may_is (s : ByteArray) : carrefourref11_MayBytes.f s = some (decide (1 ≤ (bytesOf s).length ∧ (bytesOf s).length ≤ 20000)) := by
  unfold carrefourref11_MayBytes.f
  rw [bytesOf_length]
  by_cases h : (s.size : Int) ≥ 1
  · rw [if_pos h]
    congr 1
    apply decide_eq_decide.mpr
    omega
  · rw [if_neg h, decide_eq_false (by omega)]
theorem rsum_loop (s : ByteArray) (hn : s.size < 1099511627776) : ∀ (d k i : Nat) (p : Int × Int), Lo p → i + d = s.size → d < k →
    carrefourref11_Sum.l1 k s p.1 p.2 (i : Int) = some (val (run p ((bytesOf s).drop i))) := by
  have hl := bytes_by s
  have hL := bytesOf_length s
  intro d
  induction d with
  | zero =>
    intro k i p hp hi hk
    obtain ⟨m, rfl⟩ : ∃ m, k = m + 1 := ⟨k - 1, by omega⟩
    simp only [carrefourref11_Sum.l1]
    rw [if_neg (by omega), List.drop_of_length_le (by omega)]
    unfold Lo at hp
    show some _ = some (p.2 * 65536 + p.1)
    congr 1
    omega
  | succ d ih =>
    intro k i p hp hi hk
    obtain ⟨m, rfl⟩ : ∃ m, k = m + 1 := ⟨k - 1, by omega⟩
    simp only [carrefourref11_Sum.l1]
    rw [if_pos (by omega), if_pos (by omega), ← rd_bytesOf]
    have hc := hl.rd (i : Int)
    rw [drop_rd (bytesOf s) i (by omega)]
    generalize rd (bytesOf s) (i : Int) = c at hc ⊢
    unfold Lo at hp
    have e1 : (((31 * p.1 % 4294967296 + c % 4294967296) % 4294967296 + 1) % 4294967296) % 65521 = (step p c).1 := by
      show _ = (31 * p.1 + c + 1) % 65521
      rw [Int.emod_eq_of_lt (a := 31 * p.1) (by omega) (by omega), Int.emod_eq_of_lt (a := c) (by omega) (by omega), Int.emod_eq_of_lt (a := 31 * p.1 + c) (by omega) (by omega), Int.emod_eq_of_lt (a := 31 * p.1 + c + 1) (b := 4294967296) (by omega) (by omega)]
    have e3 : wrap64 ((i : Int) + 1) = ((i + 1 : Nat) : Int) := by rw [w64 _ (by omega) (by omega)]; omega
    rw [e1, e3]
    have hs := Lo.step hp c
    have e2 : (p.2 + (step p c).1) % 4294967296 % 65521 = (step p c).2 := by
      show (p.2 + (31 * p.1 + c + 1) % 65521) % 4294967296 % 65521 = (p.2 + (31 * p.1 + c + 1) % 65521) % 65521
      rw [Int.emod_eq_of_lt (a := p.2 + (31 * p.1 + c + 1) % 65521) (b := 4294967296) (by omega) (by omega)]
    rw [e2]
    exact ih m (i + 1) (step p c) hs (by omega) (by omega)
theorem rsum_is (s : ByteArray) (hn : s.size < 1099511627776) {k : Nat} (hk : s.size < k) : carrefourref11_Sum.f k s = some (sumP (bytesOf s)) :=
  rsum_loop s hn s.size k 0 (1, 0) lo0 (by omega) hk

theorem big_step (k : Nat) (v : Int) (out : List Int) (i : Int) (h0 : 0 ≤ i) (h3 : i ≤ 3) (ho : out.length < 100) :
    carrefourref1_Big.l1 (k + 1) v out i = carrefourref1_Big.l1 k v (out ++ [(v / 2 ^ (8 * i).toNat) % 256]) (i - 1) := by
  simp only [carrefourref1_Big.l1]
  have e : IntKind.u64.wrap (wrap64 (8 * i)) = 8 * i := by
    show wrap64 (8 * i) % 2 ^ 64 = _
    unfold wrap64
    omega
  have e1 : wrap64 (i - 1) = i - 1 := by
    unfold wrap64
    omega
  have e2 : shr .u64 v (8 * i) = v / 2 ^ (8 * i).toNat := by
    unfold shr
    rw [Nat.min_eq_left (show (8 * i).toNat ≤ IntKind.u64.bits from (by omega : (8 * i).toNat ≤ 64))]
  rw [if_pos (by omega), e, if_pos (by omega), if_pos (by omega), e1, e2]
theorem big_end (k : Nat) (v : Int) (out : List Int) : carrefourref1_Big.l1 (k + 1) v out (-1) = some (strOfNums out) := by
  simp only [carrefourref1_Big.l1]
  rw [if_neg (by decide)]
theorem big2 (k : Nat) (v : Int) : carrefourref1_Big.f (k + 5) v 2 = some (strOfNums [(v / 256) % 256, v % 256]) := by
  unfold carrefourref1_Big.f
  rw [show wrap64 (2 - 1) = 1 by unfold wrap64; omega, big_step _ _ _ _ (by decide) (by decide) (by simp), show (1 : Int) - 1 = 0 from rfl, big_step _ _ _ _ (by decide) (by decide) (by simp), show (0 : Int) - 1 = -1 from rfl, big_end]
  rw [show (2 : Int) ^ (8 * 0 : Int).toNat = 1 from rfl, Int.ediv_one, show (2 : Int) ^ (8 * 1 : Int).toNat = 256 from rfl]
  rfl
theorem big4 (k : Nat) (v : Int) : carrefourref1_Big.f (k + 5) v 4 = some (strOfNums [(v / 16777216) % 256, (v / 65536) % 256, (v / 256) % 256, v % 256]) := by
  unfold carrefourref1_Big.f
  rw [show wrap64 (4 - 1) = 3 by unfold wrap64; omega, big_step _ _ _ _ (by decide) (by decide) (by simp), show (3 : Int) - 1 = 2 from rfl, big_step _ _ _ _ (by decide) (by decide) (by simp), show (2 : Int) - 1 = 1 from rfl, big_step _ _ _ _ (by decide) (by decide) (by simp), show (1 : Int) - 1 = 0 from rfl, big_step _ _ _ _ (by decide) (by decide) (by simp), show (0 : Int) - 1 = -1 from rfl, big_end]
  rw [show (2 : Int) ^ (8 * 0 : Int).toNat = 1 from rfl, Int.ediv_one, show (2 : Int) ^ (8 * 1 : Int).toNat = 256 from rfl, show (2 : Int) ^ (8 * 2 : Int).toNat = 65536 from rfl, show (2 : Int) ^ (8 * 3 : Int).toNat = 16777216 from rfl]
  rfl
theorem u64_small (x : Int) (h0 : 0 ≤ x) (h : x < 18446744073709551616) : IntKind.u64.wrap x = x := by
  rw [u64_is]
  omega
theorem bytes_nums (s : ByteArray) : strOfNums (bytesOf s) = s := by
  apply ByteArray.ext
  apply Array.ext'
  simp only [strOfNums, bytesOf, List.map_map]
  have : ((fun n : Int => UInt8.ofNat n.toNat) ∘ fun b : UInt8 => (b.toNat : Int)) = id := by
    funext b
    simp
  simp [this]
theorem rrec_is (s : ByteArray) (hn : s.size < 1000000) {k : Nat} (hk : s.size + 5 < k) : carrefourref11_Record.f k s = some (strOfNums (recP (bytesOf s))) := by
  obtain ⟨m, rfl⟩ : ∃ m, k = m + 5 := ⟨k - 5, by omega⟩
  have hs := sum_lo (bytesOf s)
  unfold carrefourref11_Record.f
  rw [u64_small (s.size : Int) (by omega) (by omega), big2, rsum_is s (by omega) (by omega)]
  simp only [Option.bind_some]
  rw [u64_small _ hs.1 (by omega), big4]
  simp only [Option.bind_some]
  have z1 : (strOfNums [(s.size : Int) / 256 % 256, (s.size : Int) % 256]).size = 2 := rfl
  have z2 : (strOfNums [sumP (bytesOf s) / 16777216 % 256, sumP (bytesOf s) / 65536 % 256, sumP (bytesOf s) / 256 % 256, sumP (bytesOf s) % 256]).size = 4 := rfl
  rw [if_pos (by rw [z1, z2]; omega), if_pos (by rw [ByteArray.size_append, z1, z2]; omega)]
  rw [← nums_app, show strOfNums (_ ++ _) ++ s = strOfNums (_ ++ _) ++ strOfNums (bytesOf s) by rw [bytes_nums], ← nums_app]
  unfold recP
  rw [bytesOf_length]
  rfl
end Go.Proofs.Ytnnlmbmgaajmhaa.Sg
