/-
  Floats, plainly: which reading a word has; NaNs alike; whole numbers among floats, their sums, products and order.
  Conditions: none; plain theorems over the given model.
-/
import Derived.Laws.FloatArith
import Derived.Laws.ComplexArith
namespace Go.Proofs.YtbkamlkmimfomaaFl
open Go Ieee

theorem d_sw : double.signWeight = 9223372036854775808 := by rfl
theorem d_bin : double.binade = 4503599627370496 := by rfl
theorem d_inf : double.infRung = 9218868437227405312 := by rfl
theorem d_lp : double.leastPlace = -1074 := by rfl

/-- A float's word, NaNs alike. -/
def rd (n : Nat) : Option Nat := if (double.read n).isNaN then none else some n

def neg (n : Nat) : Nat := n ^^^ 9223372036854775808
theorem neg_is (n : Nat) : Op.negFloat .f64 n = neg n := rfl
theorem neg_neg (n : Nat) : neg (neg n) = n := by
  unfold neg
  rw [Nat.xor_assoc, Nat.xor_self, Nat.xor_zero]

theorem neg_mod (n : Nat) : neg n % 9223372036854775808 = n % 9223372036854775808 := by
  have e : (9223372036854775808 : Nat) = 2 ^ 63 := by rfl
  unfold neg
  rw [e]
  apply Nat.eq_of_testBit_eq
  intro i
  rw [Nat.testBit_mod_two_pow, Nat.testBit_mod_two_pow, Nat.testBit_xor, Nat.testBit_two_pow]
  by_cases h : i < 63
  · have : ¬ 63 = i := by omega
    simp [h, this]
  · simp [h]
theorem neg_div (n : Nat) : (neg n / 9223372036854775808 % 2 == 1) = !(n / 9223372036854775808 % 2 == 1) := by
  have e : (9223372036854775808 : Nat) = 2 ^ 63 := by rfl
  have h1 : ∀ m : Nat, (m / 9223372036854775808 % 2 == 1) = m.testBit 63 := by
    intro m
    rw [Nat.testBit_eq_decide_div_mod_eq, e]
    by_cases h : m / 2 ^ 63 % 2 = 1 <;> simp [h]
  rw [h1, h1]
  unfold neg
  rw [Nat.testBit_xor, e, Nat.testBit_two_pow]
  simp
theorem read_neg (n : Nat) : double.read (neg n) = (double.read n).opposite := by
  unfold Format.read
  simp only [d_sw, neg_mod, neg_div]
  split
  · rfl
  · split
    · rfl
    · split
      · rfl
      · rfl
theorem rd_neg (n : Nat) : rd (neg n) = (rd n).map neg := by
  unfold rd
  rw [read_neg]
  cases double.read n <;> simp [Datum.opposite, Datum.isNaN]
theorem rd_some {n m : Nat} (h : rd n = some m) : n = m := by
  unfold rd at h
  split at h
  · cases h
  · exact Option.some.inj h

/-- A word whose lower bits are no more than infinity's is none of a NaN. -/
theorem rd_word (s : Bool) (r : Nat) (h : r ≤ 9218868437227405312) : rd (double.word s r) = some (double.word s r) := by
  have : (double.read (double.word s r)).isNaN = false := by
    unfold Format.read Format.word
    simp only [d_sw, d_bin, d_inf]
    cases s
    · simp only [Bool.false_eq_true, if_false]
      have : r % 9223372036854775808 = r := by omega
      rw [this]
      repeat' split
      all_goals first | rfl | (exfalso; omega)
    · simp only [if_true]
      have : (9223372036854775808 + r) % 9223372036854775808 = r := by omega
      rw [this]
      repeat' split
      all_goals first | rfl | (exfalso; omega)
  unfold rd
  rw [this]
  rfl
theorem rd_nearest (s : Bool) (m : Nat) (p : Int) : rd (double.nearest s m p) = some (double.nearest s m p) := by
  unfold Format.nearest
  dsimp only
  split
  · exact rd_word _ _ (by omega)
  · exact rd_word _ _ (by rw [d_inf]; exact Nat.min_le_right _ _)
theorem sum_notNaN {a b d : Datum} (h : a.sum b = some d) : d.isNaN = false := by
  cases a <;> cases b <;> simp only [Datum.sum] at h <;> first | cases h | skip
  all_goals first | rfl | (split at h <;> first | cases h | skip)
  all_goals first | rfl | (injection h with h; subst h; rfl)
theorem product_notNaN {a b d : Datum} (h : a.product b = some d) : d.isNaN = false := by
  cases a <;> cases b <;> simp only [Datum.product] at h <;> first | cases h | skip
  all_goals first | rfl | (split at h <;> first | cases h | skip)
  all_goals first | rfl | (injection h with h; subst h; rfl)
theorem quotient_notNaN {k : Nat} {a b d : Datum} (h : a.quotient k b = some d) : d.isNaN = false := by
  cases a <;> cases b <;> simp only [Datum.quotient] at h <;> first | cases h | skip
  all_goals first | rfl | skip
  split at h
  · split at h
    · cases h
    · injection h with h; subst h; rfl
  · injection h with h; subst h; rfl
theorem rd_write {d : Datum} (h : d.isNaN = false) : rd (double.write d) = some (double.write d) := by
  cases d with
  | number s m p => exact rd_nearest s m p
  | infinity s => exact rd_word _ _ (by rw [d_inf]; omega)
  | nan s t => cases h
theorem rd_map {o : Option Datum} (h : ∀ d, o = some d → d.isNaN = false) {r : Nat} (hr : o.map double.write = some r) : rd r = some r := by
  cases o with
  | none => cases hr
  | some d =>
    obtain rfl := Option.some.inj hr
    exact rd_write (h d rfl)

/-- An operation on floats, NaNs alike. -/
def lift (op : BinOp) (a b : Option Nat) : Option Nat := a.bind fun x => b.bind fun y => floatBits op .f64 x y

theorem nan_left {n : Nat} (h : rd n = none) : ∃ s t, double.read n = .nan s t := by
  unfold rd at h
  cases hd : double.read n with
  | nan s t => exact ⟨s, t, rfl⟩
  | number s m p => rw [hd] at h; cases h
  | infinity s => rw [hd] at h; cases h

theorem floatBits_nan {op : BinOp} {x y : Nat} (h : rd x = none ∨ rd y = none) : floatBits op .f64 x y = none := by
  have hr : ∀ n, FloatKind.f64.format.read n = double.read n := fun _ => rfl
  rcases h with h | h
  · obtain ⟨s, t, e⟩ := nan_left h
    cases op <;> simp only [floatBits] <;> first | rfl | skip
    all_goals simp only [Format.add, Format.sub, Format.mul, Format.div, hr, e, Datum.sum, Datum.product, Datum.quotient, Option.map_none]
  · obtain ⟨s, t, e⟩ := nan_left h
    cases op <;> simp only [floatBits] <;> first | rfl | skip
    all_goals simp only [Format.add, Format.sub, Format.mul, Format.div, hr, e, Datum.opposite]
    all_goals cases double.read x <;> simp only [Datum.sum, Datum.product, Datum.quotient, Option.map_none]
theorem lift_rd (op : BinOp) (x y : Nat) : lift op (rd x) (rd y) = floatBits op .f64 x y := by
  cases hx : rd x with
  | none => rw [floatBits_nan (.inl hx)]; rfl
  | some a =>
    obtain rfl := rd_some hx
    cases hy : rd y with
    | none => rw [floatBits_nan (.inr hy)]; rfl
    | some b =>
      obtain rfl := rd_some hy
      rfl
theorem floatBits_rd {op : BinOp} {x y r : Nat} (h : floatBits op .f64 x y = some r) : rd r = some r := by
  cases op <;> simp only [floatBits] at h <;> first | cases h | skip
  · exact rd_map (fun d hd => sum_notNaN hd) h
  · exact rd_map (fun d hd => sum_notNaN hd) h
  · exact rd_map (fun d hd => product_notNaN hd) h
  · exact rd_map (fun d hd => quotient_notNaN hd) h

/-- What the model draws for a NaN is one. -/
theorem rd_drawn (x y t : Nat) : rd ((Question.nanBits .f64 x y).cut t) = none := by
  show rd ((t % 2) * 2 ^ 63 + 0x7ff0000000000000 + 1 + (t / 2) % (2 ^ 52 - 1)) = none
  have h1 : t % 2 = 0 ∨ t % 2 = 1 := by omega
  have h2 : (t / 2) % (2 ^ 52 - 1) < 2 ^ 52 - 1 := Nat.mod_lt _ (by omega)
  generalize (t / 2) % (2 ^ 52 - 1) = u at h2 ⊢
  have : (double.read ((t % 2) * 2 ^ 63 + 0x7ff0000000000000 + 1 + u)).isNaN = true := by
    unfold Format.read
    simp only [d_sw, d_bin, d_inf]
    have : ((t % 2) * 2 ^ 63 + 0x7ff0000000000000 + 1 + u) % 9223372036854775808 = 0x7ff0000000000000 + 1 + u := by omega
    rw [this]
    repeat' split
    all_goals first | rfl | (exfalso; omega)
  unfold rd
  rw [this]
  rfl

theorem order_self (n : Nat) : (FloatKind.f64.format.order n n != some .eq) = (rd n).isNone := by
  have hr : FloatKind.f64.format = double := rfl
  unfold rd Format.order
  rw [hr]
  cases double.read n with
  | nan s t => rfl
  | infinity s => cases s <;> rfl
  | number s m p =>
    simp only [Datum.order, Datum.isNaN]
    simp [compare, compareOfLessAndEq]
theorem alike_iff (a b : Nat) : ((rd a).isNone && (rd b).isNone || ((a : Int) == (b : Int))) = decide (rd a = rd b) := by
  have hi : ((a : Int) == (b : Int)) = decide (a = b) := by
    by_cases h : a = b
    · subst h; simp
    · rw [decide_eq_false h]
      exact beq_eq_false_iff_ne.mpr (by omega)
  rw [hi]
  cases ha : rd a with
  | none =>
    cases hb : rd b with
    | none => simp
    | some y =>
      have : a ≠ b := by
        intro h
        rw [h, hb] at ha
        cases ha
      simp [this]
  | some x =>
    cases hb : rd b with
    | none =>
      have : a ≠ b := by
        intro h
        rw [h, hb] at ha
        cases ha
      simp [this]
    | some y =>
      obtain rfl := rd_some ha
      obtain rfl := rd_some hb
      simp

theorem alike_nan {a b : Nat} (h1 : ¬ FloatKind.f64.format.order a a = some .eq) (h2 : ¬ FloatKind.f64.format.order b b = some .eq) : decide (rd a = rd b) = true := by
  have e1 := order_self a
  have e2 := order_self b
  rw [bne_iff_ne.mpr h1] at e1
  rw [bne_iff_ne.mpr h2] at e2
  rw [← alike_iff, ← e1, ← e2]
  rfl
theorem alike_num {a b : Nat} (h : FloatKind.f64.format.order a a = some .eq ∨ FloatKind.f64.format.order b b = some .eq) : decide (rd a = rd b) = ((a : Int) == (b : Int)) := by
  rw [← alike_iff, ← order_self, ← order_self]
  rcases h with h | h
  · rw [h]
    rfl
  · rw [h]
    simp

section
variable {P : Program}
/-- Arithmetic on floats: what it yields, NaNs alike; the heap stays. -/
theorem run_float (op : BinOp) (hop : op = .add ∨ op = .sub ∨ op = .mul ∨ op = .quo) (t : TypeId) (x y : Nat) (w : World) :
    ∃ n w', (binOp op t (.float .f64 x) (.float .f64 y)).run P w = .ok (.float .f64 n) w' ∧ rd n = lift op (rd x) (rd y) ∧ (w' = w ∨ w' = { w with drawn := w.drawn + 1 }) := by
  rw [lift_rd]
  cases h : floatBits op .f64 x y with
  | some r => exact ⟨r, w, run_float_arith w op t .f64 x y r h, floatBits_rd h, .inl rfl⟩
  | none =>
    refine ⟨(Question.nanBits .f64 x y).cut (w.tape w.drawn (.nanBits .f64 x y)), { w with drawn := w.drawn + 1 }, ?_, rd_drawn _ _ _, .inr rfl⟩
    rcases hop with rfl | rfl | rfl | rfl <;> simp only [floatBits] at h <;> simp [binOp, Op.floatArith, h, choose, Sem.run, Question.forced]
end
end Go.Proofs.YtbkamlkmimfomaaFl
