/-
  Rows of four complex numbers, whole: loads, stores, new ones, in a region that draws its order.
  Conditions: none.
-/
import Derived.Test.YtmolpckfemcieaaW7
import Derived.Deep.CutRange
namespace Go.Proofs.Ytmolpckfemcieaa
open Go.RowKit Go.Proofs.YtmolpckfemcieaaFl Go.Proofs.YtmolpckfemcieaaG
set_option maxHeartbeats 1000000

/-- Four numbers, as a value. -/
abbrev agg4 (x : Nat → Nat × Nat) : Value := .agg #[.complex .f64 (x 0).1 (x 0).2, .complex .f64 (x 1).1 (x 1).2, .complex .f64 (x 2).1 (x 2).2, .complex .f64 (x 3).1 (x 3).2]

/-- A row that lies from block lo on. -/
def New4 (lo : Nat) (w : World) (b : Nat) : Prop := lo ≤ b ∧ ∃ z, Four w b z
theorem Four.lt {w : World} {b : Nat} {x : Nat → Nat × Nat} (h : Four w b x) : b < w.heap.size := World.block_lt_of_cell? w _ (h.cell 0 (by omega))
theorem new4_drew {lo : Nat} {w : World} {b : Nat} (h : New4 lo w b) : New4 lo w.drew b := ⟨h.1, h.2.imp fun _ hz => hz.drew⟩
theorem new4_drewN {lo : Nat} {w : World} {b : Nat} (h : New4 lo w b) (k : Nat) : New4 lo (w.drewN k) b := ⟨h.1, h.2.imp fun _ hz => hz.drewN k⟩
theorem new4_alloc {lo : Nat} {w : World} {b : Nat} (h : New4 lo w b) (o : Obj) : New4 lo (w.alloc o) b := ⟨h.1, h.2.imp fun _ hz => hz.old hz.lt o⟩
theorem new4_new {lo : Nat} (w : World) (h : lo ≤ w.heap.size) : New4 lo (w.alloc (.cells #[.complex .f64 0 0, .complex .f64 0 0, .complex .f64 0 0, .complex .f64 0 0] 33)) w.heap.size := ⟨h, fun _ => (0, 0), Four.new w _ rfl (fun _ => (0, 0)) 33⟩
theorem new4_call {lo : Nat} {w w' : World} (hb : Below w.heap.size w w') {b : Nat} (h : New4 lo w b) : New4 lo w' b := ⟨h.1, h.2.imp fun _ hz => hz.below hb hz.lt⟩

/-- A row written. -/
def put4 (w : World) (b : Nat) (x : Nat → Nat × Nat) : World :=
  (((w.setCell ⟨b, 0, none⟩ (.complex .f64 (x 0).1 (x 0).2)).setCell ⟨b, 1, none⟩ (.complex .f64 (x 1).1 (x 1).2)).setCell ⟨b, 2, none⟩ (.complex .f64 (x 2).1 (x 2).2)).setCell ⟨b, 3, none⟩ (.complex .f64 (x 3).1 (x 3).2)
theorem put4_size (w : World) (b : Nat) (x : Nat → Nat × Nat) : (put4 w b x).heap.size = w.heap.size := by
  unfold put4
  simp only [World.size_setCell]
theorem put4_four {w : World} {b : Nat} {z : Nat → Nat × Nat} (h : Four w b z) (x : Nat → Nat × Nat) : Four (put4 w b x) b x := h.put4 x
theorem put4_other {w : World} {b c : Nat} {z : Nat → Nat × Nat} (h : Four w c z) (hne : b ≠ c) (x : Nat → Nat × Nat) : Four (put4 w b x) c z :=
  (((h.keep (by exact hne) _).keep (by exact hne) _).keep (by exact hne) _).keep (by exact hne) _
theorem put4_below {B : Nat} {w0 w : World} (h : Below B w0 w) {b : Nat} (hb : B ≤ b) (x : Nat → Nat × Nat) : Below B w0 (put4 w b x) :=
  (((h.setCell (by exact hb) _).setCell (by exact hb) _).setCell (by exact hb) _).setCell (by exact hb) _
theorem load4 {w : World} {b : Nat} {x : Nat → Nat × Nat} (h : Four w b x) : (Instr.loadAt 33 (.pointer (some ⟨b, 0, none⟩))).run Try.prog w = .ok (agg4 x) w := by
  have hc0 := h.cell 0 (by omega)
  have hc1 := h.cell 1 (by omega)
  have hc2 := h.cell 2 (by omega)
  have hc3 := h.cell 3 (by omega)
  simp [go_sem, hc0, hc1, hc2, hc3]
theorem store4 {w : World} {b : Nat} {z : Nat → Nat × Nat} (h : Four w b z) (x : Nat → Nat × Nat) : (Instr.storeAt 33 (.pointer (some ⟨b, 0, none⟩)) (agg4 x)).run Try.prog w = .ok () (put4 w b x) := by
  have hc0 := h.cell 0 (by omega)
  have hc1 := h.cell 1 (by omega)
  have hc2 := h.cell 2 (by omega)
  have hc3 := h.cell 3 (by omega)
  have hf0 := h.free 0
  have hf1 := h.free 1
  have hf2 := h.free 2
  have hf3 := h.free 3
  unfold put4
  simp [go_sem, hc0, hc1, hc2, hc3, hf0, hf1, hf2, hf3]

theorem four_mk {w : World} {b : Nat} {x : Nat → Nat × Nat} (h0 : w.cell? ⟨b, 0, none⟩ = some (.complex .f64 (x 0).1 (x 0).2)) (h1 : w.cell? ⟨b, 1, none⟩ = some (.complex .f64 (x 1).1 (x 1).2))
    (h2 : w.cell? ⟨b, 2, none⟩ = some (.complex .f64 (x 2).1 (x 2).2)) (h3 : w.cell? ⟨b, 3, none⟩ = some (.complex .f64 (x 3).1 (x 3).2)) (hf : ∀ j, w.frozen? ⟨b, j, none⟩ = false) : Four w b x := by
  refine ⟨fun j hj => ?_, hf⟩
  have : j = 0 ∨ j = 1 ∨ j = 2 ∨ j = 3 := by omega
  rcases this with rfl | rfl | rfl | rfl <;> assumption

/-- Two rows that the call reads, in a world behind its beginning. -/
structure Hold2 (w0 : World) (B D : Nat) (x y : Nat → Nat × Nat) (w : World) : Prop where
  a : Four w B x
  b : Four w D y
  below : Below w0.heap.size w0 w
  size : w0.heap.size + 2 ≤ w.heap.size
theorem Hold2.drew {w0 : World} {B D : Nat} {x y : Nat → Nat × Nat} {w : World} (h : Hold2 w0 B D x y w) : Hold2 w0 B D x y w.drew := ⟨h.a.drew, h.b.drew, h.below.drew, h.size⟩
theorem Hold2.alloc {w0 : World} {B D : Nat} {x y : Nat → Nat × Nat} {w : World} (h : Hold2 w0 B D x y w) (o : Obj) : Hold2 w0 B D x y (w.alloc o) :=
  ⟨h.a.old h.a.lt o, h.b.old h.b.lt o, h.below.alloc (by have := h.size; omega) o, by have := h.size; rw [World.size_alloc]; omega⟩
theorem Hold2.call {w0 : World} {B D : Nat} {x y : Nat → Nat × Nat} {w w' : World} (h : Hold2 w0 B D x y w) (hb : Below w.heap.size w w') : Hold2 w0 B D x y w' :=
  ⟨h.a.below hb h.a.lt, h.b.below hb h.b.lt, h.below.trans (hb.mono (by have := h.size; omega)), Nat.le_trans h.size hb.size⟩
theorem Hold2.put {w0 : World} {B D : Nat} {x y : Nat → Nat × Nat} {w : World} (h : Hold2 w0 B D x y w) (hB : B < w0.heap.size + 2) (hD : D < w0.heap.size + 2) {b : Nat} (hb : w0.heap.size + 2 ≤ b) (z : Nat → Nat × Nat) : Hold2 w0 B D x y (put4 w b z) :=
  ⟨put4_other h.a (by omega) z, put4_other h.b (by omega) z, put4_below h.below (by omega) z, by rw [put4_size]; exact h.size⟩
theorem Hold2.set1 {w0 : World} {B D : Nat} {x y : Nat → Nat × Nat} {w : World} (h : Hold2 w0 B D x y w) (hB : B < w0.heap.size + 2) (hD : D < w0.heap.size + 2) {b j : Nat} (hb : w0.heap.size + 2 ≤ b) (v : Value) : Hold2 w0 B D x y (w.setCell ⟨b, j, none⟩ v) :=
  ⟨h.a.keep (by show b ≠ B; omega) v, h.b.keep (by show b ≠ D; omega) v, h.below.setCell (by show w0.heap.size ≤ b; omega) v, by rw [World.size_setCell]; exact h.size⟩
/-- What a load of the two reads. -/
theorem Hold2.all {w0 : World} {B D : Nat} {x y : Nat → Nat × Nat} {w : World} (h : Hold2 w0 B D x y w) : Hold2 w0 B D x y w ∧
    w.cell? ⟨B, 0, none⟩ = some (.complex .f64 (x 0).1 (x 0).2) ∧ w.cell? ⟨B, 1, none⟩ = some (.complex .f64 (x 1).1 (x 1).2) ∧ w.cell? ⟨B, 2, none⟩ = some (.complex .f64 (x 2).1 (x 2).2) ∧ w.cell? ⟨B, 3, none⟩ = some (.complex .f64 (x 3).1 (x 3).2) ∧
    w.cell? ⟨D, 0, none⟩ = some (.complex .f64 (y 0).1 (y 0).2) ∧ w.cell? ⟨D, 1, none⟩ = some (.complex .f64 (y 1).1 (y 1).2) ∧ w.cell? ⟨D, 2, none⟩ = some (.complex .f64 (y 2).1 (y 2).2) ∧ w.cell? ⟨D, 3, none⟩ = some (.complex .f64 (y 3).1 (y 3).2) :=
  ⟨h, h.a.cell 0 (by omega), h.a.cell 1 (by omega), h.a.cell 2 (by omega), h.a.cell 3 (by omega), h.b.cell 0 (by omega), h.b.cell 1 (by omega), h.b.cell 2 (by omega), h.b.cell 3 (by omega)⟩

/-- A slice of whole numbers that came in. -/
def LiesI (w : World) (a : Option Addr) (l : List Int) : Prop := ∀ j v, l[j]? = some v → ∃ b off, a = some ⟨b, off, none⟩ ∧ w.cell? ⟨b, off + j, none⟩ = some (.int .i64 v)
theorem LiesI.first {w : World} {a : Option Addr} {l : List Int} (h : LiesI w a l) (hl : 0 < l.length) : ∃ b off, a = some ⟨b, off, none⟩ := by
  obtain ⟨b, off, e, _⟩ := h 0 (l[0]'hl) (List.getElem?_eq_getElem hl)
  exact ⟨b, off, e⟩
theorem LiesI.at_ {w w' : World} {b off : Nat} {l : List Int} (h : LiesI w (some ⟨b, off, none⟩) l) (hb : Below w.heap.size w w') {j : Nat} (hj : j < l.length) : w'.cell? ⟨b, off + j, none⟩ = some (.int .i64 (l.getD j 0)) := by
  obtain ⟨b', off', e, hc⟩ := h j (l.getD j 0) (by rw [List.getElem?_eq_getElem hj, List.getD_eq_getElem?_getD, List.getElem?_eq_getElem hj]; rfl)
  injection e with e
  injection e with e1 e2
  subst e1 e2
  rw [hb.cell (World.block_lt_of_cell? w _ hc)]
  exact hc

/-- A number brought to -1,000 to 1,000. -/
def small (z : Int) : Int := wrap64 (wrap64 ((IntKind.u64.wrap z).tmod 2001) - 1000)
theorem small_bd (m : Int) : -1000 ≤ small m ∧ small m ≤ 1000 := by
  unfold small
  rw [IntKind.wrap_u64]
  unfold wrap64
  have : 0 ≤ m % 18446744073709551616 := Int.emod_nonneg _ (by omega)
  rw [Int.tmod_eq_emod_of_nonneg this]
  omega
end Go.Proofs.Ytmolpckfemcieaa
