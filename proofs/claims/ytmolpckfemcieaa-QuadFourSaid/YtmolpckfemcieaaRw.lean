/-
  Rows of complex numbers that the call itself has made: appends, sums.
  Conditions: none.
-/
import Derived.Test.YtmolpckfemcieaaW7
import Derived.Test.YtmolpckfemcieaaZs
import Derived.Deep.AppendLies
namespace Go.Proofs.Ytmolpckfemcieaa
open Go.RowKit Go.Proofs.YtmolpckfemcieaaFl Go.Proofs.YtmolpckfemcieaaG Go.Proofs.YtmolpckfemcieaaIv

theorem info23 : ∃ i, Try.prog.info? 23 = some i ∧ i.zero = some (.complex .f64 0 0) ∧ i.size = 1 ∧ i.bytes = 16 := by
  have h : (Try.prog.info? 23).map (fun i => (i.zero, i.size, i.bytes)) = some (some (.complex .f64 0 0), 1, 16) := by kernel_rfl
  cases hi : Try.prog.info? 23 with
  | none => rw [hi] at h; cases h
  | some i =>
    rw [hi] at h
    have h := Option.some.inj h
    exact ⟨i, rfl, congrArg (·.1) h, congrArg (·.2.1) h, congrArg (·.2.2) h⟩
def enc (l : List (Nat × Nat)) : List Value := l.map fun p => .complex .f64 p.1 p.2
theorem enc_one (l : List (Nat × Nat)) : ∀ u ∈ enc l, u.oneCell' = true := by
  intro u hu
  obtain ⟨p, _, rfl⟩ := List.mem_map.mp hu
  rfl

/-- An owned row of numbers. -/
def Row (lo : Nat) (w : World) (v : Value) (l : List (Nat × Nat)) : Prop := w.ownsRow lo 23 1 v l.length (enc l)
theorem Row.lies {lo : Nat} {w : World} {v : Value} {l : List (Nat × Nat)} (h : Row lo w v l) : ∃ a cap, v = .slice a l.length cap ∧ Lies w a l := by
  rcases Nat.eq_zero_or_pos l.length with h0 | h0
  · obtain rfl := List.eq_nil_of_length_eq_zero h0
    rcases h.2 with ⟨rfl, _⟩ | ⟨g, cap, cur, rfl, _⟩
    · exact ⟨none, 0, rfl, fun j v hj => by simp at hj⟩
    · exact ⟨some ⟨g, 0, none⟩, cap, rfl, fun j v hj => by simp at hj⟩
  · obtain ⟨g, cap, rfl, _, _⟩ := World.ownsRow.form h h0
    refine ⟨some ⟨g, 0, none⟩, cap, rfl, fun j v hj => ⟨_, rfl, ?_⟩⟩
    have hj' : j < l.length := (List.getElem?_eq_some_iff.1 hj).1
    have hc := World.ownsRow.cellAt h j (by omega)
    rw [add_plain, Nat.zero_add, hc]
    unfold enc
    rw [List.getElem?_map, hj]
    rfl

theorem Row.lies_n {lo : Nat} {w : World} {v : Value} {l : List (Nat × Nat)} {n : Nat} (h : Row lo w v l) (hn : l.length = n) : ∃ a cap, v = .slice a n cap ∧ Lies w a l := by
  subst hn
  exact h.lies
theorem Lies.below {w w' : World} {a : Option Addr} {l : List (Nat × Nat)} (h : Lies w a l) (hb : Below w.heap.size w w') : Lies w' a l := by
  intro j v hj
  obtain ⟨ad, rfl, hc⟩ := h j v hj
  exact ⟨ad, rfl, by rw [hb.cell (World.block_lt_of_cell? w _ hc)]; exact hc⟩
theorem Sum_at (a : Option Addr) (cap : Nat) (l : List (Nat × Nat)) (N : Nat) (hN : l.length = N) (hl : N < 9223372036854775807) (S : Nat × Nat) (hS : csum (crd (0, 0)) l = (some S.1, some S.2)) (w : World) (h : Lies w a l) :
    Calls Try.prog 16 #[.slice a N cap] w fun e w' => e = .returned (.complex .f64 S.1 S.2) ∧ ∃ m, w' = w.drewN m := by
  subst hN
  refine (Sum_is a cap l hl w h).mono ?_
  rintro e w' ⟨r, i, m, rfl, rfl, hs⟩
  rw [hS] at hs
  have := crd_some hs
  injection this with h1 h2
  subst h1 h2
  exact ⟨rfl, m, rfl⟩
theorem ic_some {c : C} {z : Int × Int} (h : IC c z) : ∃ S : Nat × Nat, c = (some S.1, some S.2) ∧ crd S = c := by
  obtain ⟨⟨x, hx, ix⟩, ⟨y, hy, iy⟩⟩ := h
  refine ⟨(x, y), Prod.ext hx hy, ?_⟩
  exact Prod.ext (by show rd x = c.1; rw [hx]; exact iv_rd ix) (by show rd y = c.2; rw [hy]; exact iv_rd iy)

/-- A walk halts here. -/
theorem halt_here {p : Prop} (h : Hid p) : p := h

section
variable {ops : Array Oper} {rest : List Oper} {o : Oper} {a : Act} {w : World} {Q : Exit → Act → World → Prop}
theorem append_one (hgd : o.guard = none) (s x : Operand) (ho : o.op = .call { callee := .builtin .append, args := #[s, x], argTypes := #[36, 36] }) (lo : Nat) (v : Value) (l : List (Nat × Nat)) (hs : a.eval s = v) (hr : Row lo w v l)
    (p : Nat × Nat) (B : Nat) (hx : a.eval x = .slice (some ⟨B, 0, none⟩) 1 1) (hc : w.cell? ⟨B, 0, none⟩ = some (.complex .f64 p.1 p.2)) (hn : l.length ≤ 1000) (hlo : lo ≤ w.heap.size)
    (h : ∀ v' w', Row lo w' v' (l ++ [p]) → w.grownBy w' v.ownBlock → (v'.ownBlock = v.ownBlock ∨ v'.ownBlock = some w.heap.size) → wpList Try.prog ops Q rest (a.put o.dst v') w') : wpList Try.prog ops Q (o :: rest) a w := by
  obtain ⟨i0, hi, hz0, hz1, hz2⟩ := info23
  refine wpList_append_lies w hgd s x 36 ho lo 23 i0 (.complex .f64 0 0) 1 16 Try.underlying36 hi hz0 hz1 hz2 rfl (by decide) v l.length (enc l) hs hr ⟨B, 0, none⟩ 1 1 [.complex .f64 p.1 p.2] hx rfl ?_ ?_ (by omega) (by unfold maxLen; omega) (by omega) hlo _ rfl ?_
  · intro j u hj
    have : j = 0 := by
      have := (List.getElem?_eq_some_iff.1 hj).1
      simpa using this
    subst this
    obtain rfl := Option.some.inj hj
    rw [add_plain]
    exact hc
  · intro u hu
    obtain rfl := List.mem_singleton.mp hu
    rfl
  · intro g cap w1 hown hgrow hat hlt
    refine h _ _ ?_ hgrow ?_
    · unfold Row
      have e : enc (l ++ [p]) = enc l ++ [.complex .f64 p.1 p.2] := by unfold enc; rw [List.map_append]; rfl
      rw [e, List.length_append]
      exact hown
    · rcases hat with hat | hat
      · exact .inl hat.symm
      · exact .inr (by rw [hat]; rfl)
/-- A row behind one number, in new memory. -/
theorem append_row (hgd : o.guard = none) (s x : Operand) (ho : o.op = .call { callee := .builtin .append, args := #[s, x], argTypes := #[36, 36] }) (lo : Nat) (l : List (Nat × Nat)) (p : Nat × Nat) (B : Nat) (hs : a.eval s = .slice (some ⟨B, 0, none⟩) 1 1)
    (hr : Row lo w (.slice (some ⟨B, 0, none⟩) 1 1) [p]) (g0 cap0 : Nat) (n : Nat) (hx : a.eval x = .slice (some ⟨g0, 0, none⟩) n cap0) (hn0 : l.length = n) (hl : Row lo w (.slice (some ⟨g0, 0, none⟩) n cap0) l) (h0 : 0 < n) (hn : n ≤ 1000) (hlo : lo ≤ w.heap.size)
    (h : ∀ v' w', Row lo w' v' (p :: l) → w.grownBy w' (some B) → (v'.ownBlock = some B ∨ v'.ownBlock = some w.heap.size) → wpList Try.prog ops Q rest (a.put o.dst v') w') : wpList Try.prog ops Q (o :: rest) a w := by
  subst hn0
  obtain ⟨i0, hi, hz0, hz1, hz2⟩ := info23
  refine wpList_append_lies w hgd s x 36 ho lo 23 i0 (.complex .f64 0 0) 1 16 Try.underlying36 hi hz0 hz1 hz2 rfl (by decide) _ 1 [.complex .f64 p.1 p.2] hs hr ⟨g0, 0, none⟩ l.length cap0 (enc l) hx (by unfold enc; simp) ?_ (enc_one l) h0 (by unfold maxLen; omega) (by omega) hlo _ rfl ?_
  · intro j u hj
    have hj' : j < l.length := by
      have := (List.getElem?_eq_some_iff.1 hj).1
      unfold enc at this
      simpa using this
    have := World.ownsRow.cellAt hl j (by omega)
    rw [add_plain, Nat.zero_add, this, hj]
  · intro g cap w1 hown hgrow hat hlt
    refine h _ _ ?_ hgrow ?_
    · unfold Row
      rw [show (p :: l).length = 1 + l.length from by rw [List.length_cons, Nat.add_comm]]
      exact hown
    · rcases hat with hat | hat
      · exact .inl (show some g = some B from hat.symm)
      · exact .inr (by rw [hat]; rfl)
end
/-- Rows that share no block. -/
def Dj (v v' : Value) : Prop := v.ownBlock = v'.ownBlock → v.ownBlock = none
theorem Dj.symm {v v' : Value} (h : Dj v v') : Dj v' v := fun e => by rw [e]; exact h e.symm
theorem Dj.ne {v v' : Value} (h : Dj v v') : v.ownBlock = none ∨ v.ownBlock ≠ v'.ownBlock := by
  by_cases e : v.ownBlock = v'.ownBlock
  · exact .inl (h e)
  · exact .inr e
theorem Row.lt {lo : Nat} {w : World} {v : Value} {l : List (Nat × Nat)} (h : Row lo w v l) : ∀ k, v.ownBlock = some k → lo ≤ k ∧ k < w.heap.size := World.ownsRow.lt h
theorem Dj.step {v v' u : Value} {H : Nat} (h : Dj v u) (hv : v'.ownBlock = v.ownBlock ∨ v'.ownBlock = some H) (hu : ∀ k, u.ownBlock = some k → k < H) : Dj v' u := by
  intro e
  rcases hv with hv | hv
  · rw [hv]
    exact h (by rw [← hv]; exact e)
  · exfalso
    have := hu H (by rw [← e]; exact hv)
    omega
theorem Dj.fresh {v u : Value} {H : Nat} (hv : ∃ k, v.ownBlock = some k ∧ H ≤ k) (hu : ∀ k, u.ownBlock = some k → k < H) : Dj v u := by
  intro e
  obtain ⟨k, hk, hH⟩ := hv
  exfalso
  have := hu k (by rw [← e]; exact hk)
  omega
theorem Row.kept {lo : Nat} {w w' : World} {v u : Value} {l : List (Nat × Nat)} (h : Row lo w v l) (hg : w.grownBy w' u.ownBlock) (hd : Dj v u) : Row lo w' v l := World.ownsRow.kept h hg hd.ne
theorem Row.alloc {lo : Nat} {w : World} {v : Value} {l : List (Nat × Nat)} (h : Row lo w v l) (o : Obj) : Row lo (w.alloc o) v l := World.ownsRow.alloc h o
theorem Row.lit {lo : Nat} (w : World) (hlo : lo ≤ w.heap.size) (p : Nat × Nat) : Row lo (w.alloc (.cells #[.complex .f64 p.1 p.2] 23)) (.slice (some ⟨w.heap.size, 0, none⟩) 1 1) [p] :=
  World.ownsRow_lit w #[.complex .f64 p.1 p.2] 1 hlo (by unfold maxLen; omega) rfl
end Go.Proofs.Ytmolpckfemcieaa
