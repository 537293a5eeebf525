/- A byte that is turned makes another sum; where a number points to. -/
import Derived.Test.YtnnlmbmgaajmhaaSgB
namespace Go.Proofs.Ytnnlmbmgaajmhaa.Sg
open Go.RowKit Go.Proofs.YtnnlmbmgaajmhaaW.PrintWords Go.Proofs.YtnnlmbmgaajmhaaW.PrintLast
set_option linter.unusedVariables false

theorem run_ne : ∀ (l : List Int) (p q : Int × Int), Lo p → Lo q → p.1 ≠ q.1 → (run p l).1 ≠ (run q l).1
  | [], p, q, _, _, h => h
  | c :: l, p, q, hp, hq, h => run_ne l (step p c) (step q c) (hp.step c) (hq.step c) (by
      unfold Lo at hp hq
      show (31 * p.1 + c + 1) % 65521 ≠ (31 * q.1 + c + 1) % 65521
      omega)
theorem run_app (p : Int × Int) (a b : List Int) : run p (a ++ b) = run (run p a) b := List.foldl_append
theorem sum_ne (l : List Int) (k : Nat) (hk : k < l.length) (r : Int) (hr : 0 ≤ r ∧ r < 256) (hl : 0 ≤ l[k] ∧ l[k] < 256) (hne : r ≠ l[k]) : sumP (l.set k r) ≠ sumP l := by
  have e2 : l.set k r = l.take k ++ r :: l.drop (k + 1) := by rw [List.set_eq_take_append_cons_drop, if_pos hk]
  have e1 : l = l.take k ++ l[k] :: l.drop (k + 1) := by rw [← List.drop_eq_getElem_cons hk, List.take_append_drop]
  intro h
  have hp := Lo.run (l.take k) lo0
  rw [e2] at h
  have h2 : sumP l = val (run (step (run (1, 0) (l.take k)) l[k]) (l.drop (k + 1))) := by
    unfold sumP
    rw [show run (1, 0) l = run (1, 0) (l.take k ++ l[k] :: l.drop (k + 1)) from congrArg _ e1, run_app]
    rfl
  have h1 : sumP (l.take k ++ r :: l.drop (k + 1)) = val (run (step (run (1, 0) (l.take k)) r) (l.drop (k + 1))) := by
    unfold sumP
    rw [run_app]
    rfl
  rw [h1, h2] at h
  refine run_ne (l.drop (k + 1)) _ _ (hp.step r) (hp.step l[k]) ?_ ?_
  · unfold Lo at hp
    show (31 * (run (1, 0) (l.take k)).1 + r + 1) % 65521 ≠ (31 * (run (1, 0) (l.take k)).1 + l[k] + 1) % 65521
    omega
  · have a := Lo.run (l.drop (k + 1)) (hp.step r)
    have b := Lo.run (l.drop (k + 1)) (hp.step l[k])
    unfold Lo at a b
    unfold val at h
    omega

theorem xor_u8 (a b : Nat) (ha : a < 256) (hb : b < 256) : Go.bits .xor .u8 (a : Int) (b : Int) = ((a ^^^ b : Nat) : Int) := by
  have h : a ^^^ b < 2 ^ 8 := Nat.xor_lt_two_pow ha hb
  show Go.IntKind.wrap .u8 (((BitVec.ofInt 8 (a : Int) ^^^ BitVec.ofInt 8 (b : Int)) : BitVec 8).toNat : Int) = _
  rw [BitVec.toNat_xor, BitVec.ofInt_natCast, BitVec.ofInt_natCast, BitVec.toNat_ofNat, BitVec.toNat_ofNat]
  rw [Nat.mod_eq_of_lt (by omega : a < 2^8), Nat.mod_eq_of_lt (by omega : b < 2^8)]
  show ((a ^^^ b : Nat) : Int) % 256 = _
  omega
theorem turn (x c : Int) (hx : 0 ≤ x ∧ x < 256) (hc : 0 ≤ c ∧ c < 256) : (0 ≤ Go.bits .xor .u8 x c ∧ Go.bits .xor .u8 x c < 256) ∧ (Go.bits .xor .u8 x c = x ↔ c = 0) := by
  obtain ⟨a, rfl⟩ := Int.eq_ofNat_of_zero_le hx.1
  obtain ⟨b, rfl⟩ := Int.eq_ofNat_of_zero_le hc.1
  rw [xor_u8 a b (by omega) (by omega)]
  have h : a ^^^ b < 2 ^ 8 := Nat.xor_lt_two_pow (by omega) (by omega)
  refine ⟨⟨by omega, by omega⟩, ?_⟩
  constructor
  · intro h2
    have h3 : a ^^^ b = a := by omega
    have h4 : a ^^^ (a ^^^ b) = a ^^^ a := by rw [h3]
    rw [← Nat.xor_assoc, Nat.xor_self, Nat.zero_xor] at h4
    omega
  · intro h2
    have : b = 0 := by omega
    subst this
    rw [Nat.xor_zero]
theorem u64_is (a : Int) : Go.IntKind.wrap .u64 a = a % 18446744073709551616 := rfl
/-- A number, cut down to a place. -/
theorem place (a : Int) (n : Nat) (h1 : 1 ≤ n) (h2 : n < 1099511627776) : ∃ m : Nat, wrap64 (Int.tmod (Go.IntKind.wrap .u64 a) (Go.IntKind.wrap .u64 (n : Int))) = (m : Int) ∧ m < n := by
  rw [u64_is, u64_is, Int.emod_eq_of_lt (a := (n : Int)) (by omega) (by omega)]
  have h0 : 0 ≤ a % 18446744073709551616 := Int.emod_nonneg _ (by omega)
  rw [Int.tmod_eq_emod_of_nonneg h0]
  have h3 : 0 ≤ a % 18446744073709551616 % (n : Int) := Int.emod_nonneg _ (by omega)
  have h4 : a % 18446744073709551616 % (n : Int) < (n : Int) := Int.emod_lt_of_pos _ (by omega)
  refine ⟨(a % 18446744073709551616 % (n : Int)).toNat, ?_, by omega⟩
  rw [w64 _ (by omega) (by omega)]
  omega
end Go.Proofs.Ytnnlmbmgaajmhaa.Sg
