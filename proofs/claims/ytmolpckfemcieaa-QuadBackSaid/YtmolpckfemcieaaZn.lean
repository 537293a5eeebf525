/-
  Norms of whole numbers among floats, and of their four sums.
  Conditions: none; plain theorems.
-/
import Derived.Test.YtmolpckfemcieaaZq
import Derived.Test.YtmolpckfemcieaaW4
namespace Go.Proofs.Ytmolpckfemcieaa
open Go.RowKit Go.Proofs.YtmolpckfemcieaaFl Go.Proofs.YtmolpckfemcieaaIv

def zq (z : Int × Int) : Int := z.1 * z.1 + z.2 * z.2
def sumsq (Z : Nat → Int × Int) : Nat → Int
  | 0 => 0
  | n + 1 => sumsq Z n + zq (Z n)
theorem zq_bd {B : Nat} {z : Int × Int} (h : zbd B z) : (z.1 * z.1).natAbs ≤ B * B ∧ (z.2 * z.2).natAbs ≤ B * B ∧ (zq z).natAbs ≤ 2 * (B * B) := by
  have h1 : (z.1 * z.1).natAbs ≤ B * B := by
    rw [Int.natAbs_mul]
    exact Nat.mul_le_mul h.1 h.1
  have h2 : (z.2 * z.2).natAbs ≤ B * B := by
    rw [Int.natAbs_mul]
    exact Nat.mul_le_mul h.2 h.2
  refine ⟨h1, h2, ?_⟩
  unfold zq
  generalize z.1 * z.1 = a at h1
  generalize z.2 * z.2 = b at h2
  generalize B * B = c at h1 h2
  omega
theorem sumsq_bd {Z : Nat → Int × Int} {B : Nat} (h : ∀ j, j < 4 → zbd B (Z j)) : ∀ n, n ≤ 4 → (sumsq Z n).natAbs ≤ n * (2 * (B * B))
  | 0, _ => by simp [sumsq]
  | n + 1, hn => by
    have h1 := sumsq_bd h n (by omega)
    have h2 := (zq_bd (h n (by omega))).2.2
    unfold sumsq
    rw [Nat.add_mul, Nat.one_mul]
    generalize sumsq Z n = a at h1
    generalize zq (Z n) = b at h2
    generalize n * (2 * (B * B)) = c at h1
    generalize 2 * (B * B) = d at h2
    omega
/-- A norm. -/
theorem norm_iv {p : Nat × Nat} {z : Int × Int} {B : Nat} (h : IC (crd p) z) (hb : zbd B z) (hB : 2 * (B * B) < 9007199254740992) {r : Nat} (hr : rd r = lift .add (lift .mul (rd p.1) (rd p.1)) (lift .mul (rd p.2) (rd p.2))) : IV r (zq z) := by
  obtain ⟨b1, b2, b3⟩ := zq_bd hb
  have i1 := io_mul h.1 h.1 (by generalize B * B = c at *; omega)
  have i2 := io_mul h.2 h.2 (by generalize B * B = c at *; omega)
  have i3 := io_add i1 i2 (Nat.lt_of_le_of_lt b3 hB)
  have e : lift .add (lift .mul (crd p).1 (crd p).1) (lift .mul (crd p).2 (crd p).2) = rd r := hr.symm
  rw [e] at i3
  exact io_rd i3
theorem acc_iv {a r n : Nat} {i j : Int} (ha : IV a i) (hr : IV r j) (hn : rd n = lift .add (rd a) (rd r)) (h : (i + j).natAbs < 9007199254740992) : IV n (i + j) := by
  have := io_add (io_of ha) (io_of hr) h
  rw [← hn] at this
  exact io_rd this

theorem sq2 (a b : Int) : (a + b) * (a + b) + (a - b) * (a - b) = 2 * (a * a) + 2 * (b * b) := by
  have e1 : (a + b) * (a + b) = a * a + 2 * (a * b) + b * b := by
    rw [Int.add_mul, Int.mul_add, Int.mul_add, Int.mul_comm b a]
    omega
  have e2 : (a - b) * (a - b) = a * a - 2 * (a * b) + b * b := by
    rw [Int.sub_mul, Int.mul_sub, Int.mul_sub, Int.mul_comm b a]
    omega
  rw [e1, e2]
  omega
/-- The norms of the four sums together are four times the norms of the numbers. -/
theorem parseval (x : Nat → Int × Int) : sumsq (fun k => zpart x (-1 * (k : Nat)) 3) 4 = 4 * sumsq x 4 := by
  obtain ⟨a0, b0, h0⟩ : ∃ a b, x 0 = (a, b) := ⟨(x 0).1, (x 0).2, rfl⟩
  obtain ⟨a1, b1, h1⟩ : ∃ a b, x 1 = (a, b) := ⟨(x 1).1, (x 1).2, rfl⟩
  obtain ⟨a2, b2, h2⟩ : ∃ a b, x 2 = (a, b) := ⟨(x 2).1, (x 2).2, rfl⟩
  obtain ⟨a3, b3, h3⟩ : ∃ a b, x 3 = (a, b) := ⟨(x 3).1, (x 3).2, rfl⟩
  have f0 : zpart x (-1 * ((0 : Nat) : Int)) 3 = ((a0 + a2) + (a1 + a3), (b0 + b2) + (b1 + b3)) := by
    simp [zpart, zspin, zadd, h0, h1, h2, h3]
    omega
  have f1 : zpart x (-1 * ((1 : Nat) : Int)) 3 = ((a0 - a2) + (b1 - b3), (b0 - b2) - (a1 - a3)) := by
    simp [zpart, zspin, zadd, h0, h1, h2, h3]
    omega
  have f2 : zpart x (-1 * ((2 : Nat) : Int)) 3 = ((a0 + a2) - (a1 + a3), (b0 + b2) - (b1 + b3)) := by
    simp [zpart, zspin, zadd, h0, h1, h2, h3]
    omega
  have f3 : zpart x (-1 * ((3 : Nat) : Int)) 3 = ((a0 - a2) - (b1 - b3), (b0 - b2) + (a1 - a3)) := by
    simp [zpart, zspin, zadd, h0, h1, h2, h3]
    omega
  show 0 + zq (zpart x (-1 * ((0 : Nat) : Int)) 3) + zq (zpart x (-1 * ((1 : Nat) : Int)) 3) + zq (zpart x (-1 * ((2 : Nat) : Int)) 3) + zq (zpart x (-1 * ((3 : Nat) : Int)) 3) = 4 * (0 + zq (x 0) + zq (x 1) + zq (x 2) + zq (x 3))
  rw [f0, f1, f2, f3, h0, h1, h2, h3]
  unfold zq
  dsimp only
  have s1 := sq2 (a0 + a2) (a1 + a3)
  have s2 := sq2 (b0 + b2) (b1 + b3)
  have s3 := sq2 (a0 - a2) (b1 - b3)
  have s4 := sq2 (b0 - b2) (a1 - a3)
  have s5 := sq2 a0 a2
  have s6 := sq2 a1 a3
  have s7 := sq2 b0 b2
  have s8 := sq2 b1 b3
  generalize (a0 + a2 + (a1 + a3)) * (a0 + a2 + (a1 + a3)) = q1 at *
  generalize (a0 + a2 - (a1 + a3)) * (a0 + a2 - (a1 + a3)) = q2 at *
  generalize (b0 + b2 + (b1 + b3)) * (b0 + b2 + (b1 + b3)) = q3 at *
  generalize (b0 + b2 - (b1 + b3)) * (b0 + b2 - (b1 + b3)) = q4 at *
  generalize (a0 - a2 + (b1 - b3)) * (a0 - a2 + (b1 - b3)) = q5 at *
  generalize (a0 - a2 - (b1 - b3)) * (a0 - a2 - (b1 - b3)) = q6 at *
  generalize (b0 - b2 + (a1 - a3)) * (b0 - b2 + (a1 - a3)) = q7 at *
  generalize (b0 - b2 - (a1 - a3)) * (b0 - b2 - (a1 - a3)) = q8 at *
  generalize (a0 + a2) * (a0 + a2) = t1 at *
  generalize (a1 + a3) * (a1 + a3) = t2 at *
  generalize (b0 + b2) * (b0 + b2) = t3 at *
  generalize (b1 + b3) * (b1 + b3) = t4 at *
  generalize (a0 - a2) * (a0 - a2) = t5 at *
  generalize (b1 - b3) * (b1 - b3) = t6 at *
  generalize (b0 - b2) * (b0 - b2) = t7 at *
  generalize (a1 - a3) * (a1 - a3) = t8 at *
  generalize a0 * a0 = u0 at *
  generalize a1 * a1 = u1 at *
  generalize a2 * a2 = u2 at *
  generalize a3 * a3 = u3 at *
  generalize b0 * b0 = u4 at *
  generalize b1 * b1 = u5 at *
  generalize b2 * b2 = u6 at *
  generalize b3 * b3 = u7 at *
  omega

/-- A float that is a whole number is told to be one. -/
theorem whole_iv {n : Nat} {i : Int} (h : IV n i) (hb : i.natAbs ≤ 1099511627776) : whole n = true ∧ (Ieee.double.read n).isNaN = false := by
  have h1 : IV 14010698440749613056 (-1099511627776) := by
    have e : floatOfInt .f64 (-1099511627776) = 14010698440749613056 := by kernel_rfl
    have := iv_of_int (-1099511627776) (by omega)
    rw [e] at this
    exact this
  have h2 : IV 4787326403894837248 1099511627776 := by
    have e : floatOfInt .f64 1099511627776 = 4787326403894837248 := by kernel_rfl
    have := iv_of_int 1099511627776 (by omega)
    rw [e] at this
    exact this
  have o1 := iv_order h h1
  have o2 := iv_order h h2
  have o3 := iv_order h (iv_trunc h (by omega))
  have c3 : compare i i = Ordering.eq := by simp [compare, compareOfLessAndEq]
  constructor
  · unfold whole
    have hd : FloatKind.f64.format = Ieee.double := rfl
    rw [hd, o1, o2, o3, c3]
    have c1 : compare i (-1099511627776) = .gt ∨ compare i (-1099511627776) = .eq := by
      simp only [compare, compareOfLessAndEq]
      rw [if_neg (by omega)]
      by_cases e : i = -1099511627776
      · rw [if_pos e]
        exact .inr rfl
      · rw [if_neg e]
        exact .inl rfl
    have c2 : compare i 1099511627776 = .lt ∨ compare i 1099511627776 = .eq := by
      simp only [compare, compareOfLessAndEq]
      by_cases e : i < 1099511627776
      · rw [if_pos e]
        exact .inl rfl
      · rw [if_neg e, if_pos (by omega)]
        exact .inr rfl
    rcases c1 with c1 | c1 <;> rcases c2 with c2 | c2 <;> rw [c1, c2] <;> rfl
  · obtain ⟨s, p, hr, _⟩ := h
    rw [hr]
    rfl
theorem csum_iv {p q : Nat × Nat} {y z : Int × Int} {B : Nat} (hp : IC (crd p) y) (hq : IC (crd q) z) (hb : zbd B (zadd y z)) (hB : B < 9007199254740992) : ∃ s : Nat × Nat, cSumBits .add .f64 p.1 p.2 q.1 q.2 = some (s.1, s.2) ∧ IC (crd s) (zadd y z) := by
  obtain ⟨r, hr, ir⟩ := iv_add (io_rd hp.1) (io_rd hq.1) (Nat.lt_of_le_of_lt hb.1 hB)
  obtain ⟨i, hi, ii⟩ := iv_add (io_rd hp.2) (io_rd hq.2) (Nat.lt_of_le_of_lt hb.2 hB)
  refine ⟨(r, i), ?_, io_of ir, io_of ii⟩
  unfold cSumBits
  rw [hr, hi]
  rfl
theorem four_iv : IV 4616189618054758400 4 := by
  have e : floatOfInt .f64 4 = 4616189618054758400 := by kernel_rfl
  have := iv_of_int 4 (by omega)
  rw [e] at this
  exact this

/-- The sums, their norms, and back: what the law asks. -/
theorem back_all {Z : Nat → Int × Int} (hZ : ∀ j, j < 4 → zbd 1000 (Z j)) {x f g : Nat → Nat × Nat} (hx : ∀ j, j < 4 → IC (crd (x j)) (Z j)) (hf : ∀ k, k < 4 → crd (f k) = part (fun j => crd (x j)) (-1 * (k : Nat)) 3)
    (hg : ∀ k, k < 4 → crd (g k) = cquart (part (fun j => crd (f j)) (1 * (k : Nat)) 3)) :
    (∀ k, k < 4 → IC (crd (f k)) (zpart Z (-1 * (k : Nat)) 3) ∧ zbd 4000 (zpart Z (-1 * (k : Nat)) 3)) ∧ ∀ k, k < 4 → IC (crd (g k)) (Z k) := by
  have h1 : ∀ k, k < 4 → IC (crd (f k)) (zpart Z (-1 * (k : Nat)) 3) ∧ zbd 4000 (zpart Z (-1 * (k : Nat)) 3) := fun k hk =>
    ⟨by rw [hf k hk]; exact ic_part (B := 1000) (by omega) hZ hx _ 3 (by omega), zbd_part hZ _ 3 (by omega)⟩
  refine ⟨h1, fun n hn => ?_⟩
  have h2 := ic_part (B := 4000) (x := fun j => crd (f j)) (z := fun k => zpart Z (-1 * (k : Nat)) 3) (by omega) (fun j hj => (h1 j hj).2) (fun j hj => (h1 j hj).1) (1 * (n : Nat)) 3 (by omega)
  rw [zback (x := Z) (fun k _ => rfl) n hn] at h2
  rw [hg n hn]
  have hb := hZ n hn
  exact ⟨io_quarter h2.1 (Nat.lt_of_le_of_lt hb.1 (by omega)), io_quarter h2.2 (Nat.lt_of_le_of_lt hb.2 (by omega))⟩
theorem whole_at (a b : Nat) (w : World) {z : Int × Int} (h : IC (crd (a, b)) z) (hb : zbd 4000 z) : Calls Try.prog 22 #[.complex .f64 a b] w fun e w' => e = .returned (.bool true) ∧ w' = w := by
  obtain ⟨a1, a2⟩ := whole_iv (io_rd h.1) (Nat.le_trans hb.1 (by omega))
  obtain ⟨b1, b2⟩ := whole_iv (io_rd h.2) (Nat.le_trans hb.2 (by omega))
  refine (Whole_is a b w a2 b2).mono ?_
  rintro e w' ⟨rfl, rfl⟩
  exact ⟨congrArg (fun t => Ending.returned (.bool t)) (by show (whole a && whole b) = true; rw [show whole a = true from a1, show whole b = true from b1]; rfl), rfl⟩
end Go.Proofs.Ytmolpckfemcieaa
