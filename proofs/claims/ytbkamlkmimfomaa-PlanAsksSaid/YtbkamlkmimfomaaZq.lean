/-
  Turned sums of whole numbers among floats.
  Conditions: none; plain theorems.
-/
import Derived.Test.YtbkamlkmimfomaaA4
namespace Go.Proofs.Ytbkamlkmimfomaa
open Go.Proofs.YtbkamlkmimfomaaFl Go.Proofs.YtbkamlkmimfomaaIv

/-- A float stands for a whole number. -/
def IO (o : Option Nat) (i : Int) : Prop := ∃ n, o = some n ∧ IV n i
theorem io_add {a b : Option Nat} {i j : Int} (ha : IO a i) (hb : IO b j) (h : (i + j).natAbs < 9007199254740992) : IO (lift .add a b) (i + j) := by
  obtain ⟨x, rfl, hx⟩ := ha
  obtain ⟨y, rfl, hy⟩ := hb
  obtain ⟨r, hr, hi⟩ := iv_add hx hy h
  exact ⟨r, hr, hi⟩
theorem io_mul {a b : Option Nat} {i j : Int} (ha : IO a i) (hb : IO b j) (h : (i * j).natAbs < 9007199254740992) : IO (lift .mul a b) (i * j) := by
  obtain ⟨x, rfl, hx⟩ := ha
  obtain ⟨y, rfl, hy⟩ := hb
  obtain ⟨r, hr, hi⟩ := iv_mul hx hy h
  exact ⟨r, hr, hi⟩
theorem io_neg {a : Option Nat} {i : Int} (ha : IO a i) : IO (a.map neg) (-i) := by
  obtain ⟨x, rfl, hx⟩ := ha
  exact ⟨neg x, rfl, iv_neg hx⟩
theorem io_quarter {a : Option Nat} {i : Int} (ha : IO a (4 * i)) (h : i.natAbs < 9007199254740992) : IO (lift .quo a (rd 4616189618054758400)) i := by
  obtain ⟨x, rfl, hx⟩ := ha
  have h4 : rd 4616189618054758400 = some 4616189618054758400 := by kernel_rfl
  obtain ⟨r, hr, hi⟩ := iv_quarter hx h
  rw [h4]
  exact ⟨r, hr, hi⟩
theorem io_rd {n : Nat} {i : Int} (h : IO (rd n) i) : IV n i := by
  obtain ⟨m, e, hi⟩ := h
  obtain rfl := rd_some e
  exact hi
theorem io_of {n : Nat} {i : Int} (h : IV n i) : IO (rd n) i := ⟨n, iv_rd h, h⟩

/-- A complex number stands for a pair of whole ones. -/
def IC (c : C) (z : Int × Int) : Prop := IO c.1 z.1 ∧ IO c.2 z.2
def zadd (a b : Int × Int) : Int × Int := (a.1 + b.1, a.2 + b.2)
def zspin (z : Int × Int) (k : Int) : Int × Int := if k % 4 = 0 then z else if k % 4 = 2 then (-z.1, -z.2) else if k % 4 = 1 then (-z.2, z.1) else (z.2, -z.1)
theorem ic_spin {c : C} {z : Int × Int} (h : IC c z) (k : Int) : IC (cspin c k) (zspin z k) := by
  unfold cspin zspin
  split
  · exact h
  · split
    · exact ⟨io_neg h.1, io_neg h.2⟩
    · split
      · exact ⟨io_neg h.2, h.1⟩
      · exact ⟨h.2, io_neg h.1⟩
def zbd (B : Nat) (z : Int × Int) : Prop := z.1.natAbs ≤ B ∧ z.2.natAbs ≤ B
theorem zbd_spin {B : Nat} {z : Int × Int} (h : zbd B z) (k : Int) : zbd B (zspin z k) := by
  unfold zspin zbd at *
  split
  · exact h
  · split
    · exact ⟨by show (-z.1).natAbs ≤ B; omega, by show (-z.2).natAbs ≤ B; omega⟩
    · split
      · exact ⟨by show (-z.2).natAbs ≤ B; omega, h.1⟩
      · exact ⟨h.2, by show (-z.1).natAbs ≤ B; omega⟩
theorem zbd_add {A B : Nat} {a b : Int × Int} (ha : zbd A a) (hb : zbd B b) : zbd (A + B) (zadd a b) := by
  unfold zbd zadd at *
  exact ⟨by show (a.1 + b.1).natAbs ≤ A + B; omega, by show (a.2 + b.2).natAbs ≤ A + B; omega⟩
theorem ic_add {a b : C} {y z : Int × Int} (ha : IC a y) (hb : IC b z) {B : Nat} (h : zbd B (zadd y z)) (hB : B < 9007199254740992) : IC (cadd a b) (zadd y z) :=
  ⟨io_add ha.1 hb.1 (Nat.lt_of_le_of_lt h.1 hB), io_add ha.2 hb.2 (Nat.lt_of_le_of_lt h.2 hB)⟩

def zpart (x : Nat → Int × Int) (q : Int) : Nat → Int × Int
  | 0 => x 0
  | n + 1 => zadd (zpart x q n) (zspin (x (n + 1)) (q * (n + 1 : Nat)))
theorem zbd_part {x : Nat → Int × Int} {B : Nat} (h : ∀ j, j < 4 → zbd B (x j)) (q : Int) : ∀ n, n < 4 → zbd ((n + 1) * B) (zpart x q n)
  | 0, _ => by rw [Nat.zero_add, Nat.one_mul]; exact h 0 (by omega)
  | n + 1, hn => by
    have := zbd_add (zbd_part h q n (by omega)) (zbd_spin (h (n + 1) hn) (q * (n + 1 : Nat)))
    rw [show (n + 1 + 1) * B = (n + 1) * B + B from by rw [Nat.add_mul (n + 1) 1 B, Nat.one_mul]]
    exact this
theorem ic_part {x : Nat → C} {z : Nat → Int × Int} {B : Nat} (hB : 4 * B < 9007199254740992) (hb : ∀ j, j < 4 → zbd B (z j)) (h : ∀ j, j < 4 → IC (x j) (z j)) (q : Int) : ∀ n, n < 4 → IC (part x q n) (zpart z q n)
  | 0, _ => h 0 (by omega)
  | n + 1, hn => by
    refine ic_add (ic_part hB hb h q n (by omega)) (ic_spin (h (n + 1) hn) _) (zbd_part hb q (n + 1) hn) ?_
    have : (n + 1 + 1) * B ≤ 4 * B := Nat.mul_le_mul_right B (by omega)
    omega
theorem ic_eq {p r : Nat × Nat} {z : Int × Int} (hp : IC (crd p) z) (hr : IC (crd r) z) : FloatKind.f64.format.order p.1 r.1 = some .eq ∧ FloatKind.f64.format.order p.2 r.2 = some .eq := by
  have h : ∀ (i : Int), compare i i = Ordering.eq := fun i => by simp [compare, compareOfLessAndEq]
  refine ⟨(iv_order (io_rd hp.1) (io_rd hr.1)).trans (by rw [h]), (iv_order (io_rd hp.2) (io_rd hr.2)).trans (by rw [h])⟩

/-- Moved on by one place, the sums are turned. -/
theorem zshift {x y : Nat → Int × Int} (h : ∀ j, j < 4 → y ((j + 1) % 4) = x j) (k : Nat) (hk : k < 4) : zpart y (-1 * (k : Nat)) 3 = zspin (zpart x (-1 * (k : Nat)) 3) (-(k : Int)) := by
  have h1 : y 1 = x 0 := h 0 (by omega)
  have h2 : y 2 = x 1 := h 1 (by omega)
  have h3 : y 3 = x 2 := h 2 (by omega)
  have h0 : y 0 = x 3 := h 3 (by omega)
  have : k = 0 ∨ k = 1 ∨ k = 2 ∨ k = 3 := by omega
  rcases this with rfl | rfl | rfl | rfl
  all_goals
    simp [zpart, zspin, zadd, h0, h1, h2, h3]
    omega
/-- There and back. -/
theorem zback {x y : Nat → Int × Int} (h : ∀ k, k < 4 → y k = zpart x (-1 * (k : Nat)) 3) (n : Nat) (hn : n < 4) : zpart y (1 * (n : Nat)) 3 = (4 * (x n).1, 4 * (x n).2) := by
  have h0 := h 0 (by omega)
  have h1 := h 1 (by omega)
  have h2 := h 2 (by omega)
  have h3 := h 3 (by omega)
  simp [zpart, zspin, zadd] at h0 h1 h2 h3
  have : n = 0 ∨ n = 1 ∨ n = 2 ∨ n = 3 := by omega
  rcases this with rfl | rfl | rfl | rfl
  all_goals
    simp [zpart, zspin, zadd, h0, h1, h2, h3]
    omega
end Go.Proofs.Ytbkamlkmimfomaa
