/-
  The log behind a pointer: its three fields, and its methods' contracts.
  Conditions: none.
-/
import Derived.Test.YtnnlmbmgaajmhaaPGax1
import Derived.Deep.RegionWith
import Derived.Deep.RegionHeld3
namespace Go.Proofs.Ytnnlmbmgaajmhaa.Seg
open Go.RowKit Go.Proofs.YtnnlmbmgaajmhaaW.PrintWords Go.Proofs.YtnnlmbmgaajmhaaW.PrintLast Go.Proofs.YtnnlmbmgaajmhaaW.PrintMore Go.Proofs.YtnnlmbmgaajmhaaG Go.Proofs.Ytnnlmbmgaajmhaa.PGa
set_option linter.unusedVariables false
set_option linter.unusedSimpArgs false

/-- Rows that share no block. -/
def Dj (v v' : Value) : Prop := v.ownBlock = v'.ownBlock → v.ownBlock = none
theorem Dj.symm {v v' : Value} (h : Dj v v') : Dj v' v := fun e => by rw [e]; exact h e.symm
theorem Dj.step {v v' u : Value} {H : Nat} (h : Dj v u) (hv : v'.ownBlock = v.ownBlock ∨ ∃ b, v'.ownBlock = some b ∧ H ≤ b) (hu : ∀ k, u.ownBlock = some k → k < H) : Dj v' u := by
  intro e
  rcases hv with hv | ⟨b, hv, hb⟩
  · rw [hv]
    exact h (by rw [← hv]; exact e)
  · exfalso
    have := hu b (by rw [← e]; exact hv)
    omega
theorem Dj.nil (u : Value) : Dj (.slice none 0 0) u := fun _ => rfl
theorem Dj.nil' (u : Value) : Dj u (.slice none 0 0) := fun e => e

/-- A walk halts here. -/
structure Hid (p : Prop) : Prop where
  out : p
theorem halt_here {p : Prop} (h : Hid p) : p := h.out

/-- A row of bytes of one's own, all blocks from N on. -/
abbrev By (N : Nat) (w : World) (v : Value) (l : List Int) : Prop := Kd.R (Kd.int .u8) 5 w N (fun _ => True) v l

/-- The log: what is synced, what waits, whether it is all. -/
structure Lg (N : Nat) (w : World) (lp : Nat) (s t : List Int) (b : Bool) (vs vt : Value) : Prop where
  le : N ≤ lp
  blk : w.heap[lp]? = some (.cells #[vs, vt, .bool b] 73 (0, 0))
  rs : By N w vs s
  rt : By N w vt t
  dj : Dj vs vt
section
variable {N : Nat} {w w1 : World} {lp : Nat} {s t : List Int} {b : Bool} {vs vt : Value}
theorem Lg.lt (h : Lg N w lp s t b vs vt) : lp < w.heap.size := blk_lt h.blk
theorem Lg.c0 (h : Lg N w lp s t b vs vt) : w.cell? ⟨lp, 0, none⟩ = some vs := cell_of_row w lp 0 _ 73 (0, 0) h.blk
theorem Lg.c1 (h : Lg N w lp s t b vs vt) : w.cell? ⟨lp, 1, none⟩ = some vt := cell_of_row w lp 1 _ 73 (0, 0) h.blk
theorem Lg.c2 (h : Lg N w lp s t b vs vt) : w.cell? ⟨lp, 2, none⟩ = some (.bool b) := cell_of_row w lp 2 _ 73 (0, 0) h.blk
theorem Lg.fr (h : Lg N w lp s t b vs vt) (i : Nat) : w.frozen? ⟨lp, i, none⟩ = false := by
  have := h.blk
  simp [World.frozen?, this]
theorem Lg.below (h : Lg N w lp s t b vs vt) (hb : Below w.heap.size w w1) : Lg N w1 lp s t b vs vt :=
  ⟨h.le, (hb.block lp h.lt).trans h.blk, Kd.R_below h.rs hb, Kd.R_below h.rt hb, h.dj⟩
theorem Lg.drew (h : Lg N w lp s t b vs vt) : Lg N w.drew lp s t b vs vt := h.below (Below.refl _ _).drew
theorem Lg.lower {M : Nat} (h : Lg N w lp s t b vs vt) (hm : M ≤ N) : Lg M w lp s t b vs vt :=
  ⟨Nat.le_trans hm h.le, h.blk, Kd.R_lower h.rs hm, Kd.R_lower h.rt hm, h.dj⟩
end

section
variable {N : Nat} {w w1 : World} {lp : Nat} {s t t' : List Int} {b : Bool} {vs vt v1 : Value}
theorem By.lt {N : Nat} {w : World} {v : Value} {l : List Int} (h : By N w v l) : ∀ k, v.ownBlock = some k → k < w.heap.size := Kd.R_lt h
theorem Dj.ne {v u : Value} (h : Dj v u) : ∀ k, u.ownBlock = some k → some k ≠ v.ownBlock := fun k hk e => by
  have := h (by rw [← e, hk])
  rw [this] at e
  cases e
theorem Lg.grown_t (h : Lg N w lp s t b vs vt) (hg : w.grownBy w1 vt.ownBlock) : w1.heap[lp]? = some (.cells #[vs, vt, .bool b] 73 (0, 0)) ∧ By N w1 vs s :=
  ⟨(hg.block lp h.lt (Kd.R_ne h.rt h.blk (by decide))).trans h.blk, Kd.R_grown2 h.rs rfl hg h.dj.ne⟩
theorem Lg.grown_s (h : Lg N w lp s t b vs vt) (hg : w.grownBy w1 vs.ownBlock) : w1.heap[lp]? = some (.cells #[vs, vt, .bool b] 73 (0, 0)) ∧ By N w1 vt t :=
  ⟨(hg.block lp h.lt (Kd.R_ne h.rs h.blk (by decide))).trans h.blk, Kd.R_grown2 h.rt rfl hg h.dj.symm.ne⟩
theorem blk_set {w : World} {g t : Nat} {cs : Array Value} (h : w.heap[g]? = some (.cells cs t (0, 0))) (i : Nat) (u : Value) : (w.setCell ⟨g, i, none⟩ u).heap[g]? = some (.cells (cs.setIfInBounds i u) t (0, 0)) := by
  simp [World.setCell, Array.getElem?_modify, h]
theorem blk_c {w : World} {g t : Nat} {cs : Array Value} (h : w.heap[g]? = some (.cells cs t (0, 0))) (i : Nat) : w.cell? ⟨g, i, none⟩ = cs[i]? := cell_of_row w g i _ t (0, 0) h
theorem blk_f {w : World} {g t : Nat} {cs : Array Value} (h : w.heap[g]? = some (.cells cs t (0, 0))) (i : Nat) : w.frozen? ⟨g, i, none⟩ = false := by
  simp [World.frozen?, h]
theorem Lg.put (h : Lg N w lp s t b vs vt) (hg : w.grownBy w1 vt.ownBlock) (hr : By N w1 v1 t') (hat : v1.ownBlock = vt.ownBlock ∨ ∃ b, v1.ownBlock = some b ∧ w.heap.size ≤ b) :
    Lg N (w1.setCell ⟨lp, 1, none⟩ v1) lp s t' b vs v1 := by
  obtain ⟨hb, hs⟩ := h.grown_t hg
  exact ⟨h.le, blk_set hb 1 v1, Kd.R_set hs hb (by intro q hq; obtain rfl := List.mem_singleton.mp hq; decide) 1 v1, Kd.R_set hr hb (by intro q hq; obtain rfl := List.mem_singleton.mp hq; decide) 1 v1, (Dj.step h.dj.symm hat (By.lt h.rs)).symm⟩
theorem below_setN {M : Nat} {w W : World} {g j : Nat} {v : Value} (h : Below M w W) (hg : M ≤ g) : Below M w (W.setCell ⟨g, j, none⟩ v) := h.setCell hg _
end
section
variable {ops : Array Oper} {rest : List Oper} {o : Oper} {a : Act} {w : World} {Q : Exit → Act → World → Prop}
/-- append(v, ys...), bytes. -/
theorem append_by (hgd : o.guard = none) (s x : Operand) (ho : o.op = .call { callee := .builtin .append, args := #[s, x], argTypes := #[22, 22] }) (N : Nat) (v : Value) (xs ys : List Int) (A : Option Addr) (c : Nat)
    (hs : a.eval s = v) (hx : a.eval x = .slice A ys.length c) (hr : By N w v xs) (hy : Kd.C (Kd.int .u8) w A ys.length ys) (hN : N ≤ w.heap.size) (hl : xs.length + ys.length ≤ 140737488355328)
    (h : ∀ v1 w1, By N w1 v1 (xs ++ ys) → w.grownBy w1 v.ownBlock → Below N w w1 → (v1.ownBlock = v.ownBlock ∨ ∃ b, v1.ownBlock = some b ∧ w.heap.size ≤ b) → wpList Try.prog ops Q rest (a.put o.dst v1) w1) : wpList Try.prog ops Q (o :: rest) a w :=
  Kd.R_append_rows (Kd.int .u8) (w0 := w) N hgd s x 22 5 (.int .u8 0) 1 ho Try.underlying22 info5 rfl (by decide) (by omega) v xs ys A _ c (fun _ => True) (fun _ => False) hs hx hr hy (fun _ _ h => h) (fun _ h => h.elim) (fun _ _ => trivial) (Below.refl _ _) hN (by rw [Nat.mul_one]; exact hl)
    (fun v1 w1 h1 h2 h3 h4 => h v1 w1 h1 h3 h2 h4)
/-- .. in a region that draws its order. -/
theorem append_by_step {Kc : Act → World → Prop} (hw : Region.wanted o (yielded ops a.tmps) = true) (s x : Operand) (ho : o.op = .call { callee := .builtin .append, args := #[s, x], argTypes := #[22, 22] }) (N : Nat) (v : Value) (xs ys : List Int) (A : Option Addr) (c : Nat)
    (hs : a.eval s = v) (hx : a.eval x = .slice A ys.length c) (hr : By N w v xs) (hy : Kd.C (Kd.int .u8) w A ys.length ys) (hN : N ≤ w.heap.size) (hl : xs.length + ys.length ≤ 140737488355328)
    (h : ∀ v1 w1, By N w1 v1 (xs ++ ys) → w.grownBy w1 v.ownBlock → Below N w w1 → (v1.ownBlock = v.ownBlock ∨ ∃ b, v1.ownBlock = some b ∧ w.heap.size ≤ b) → Kc (a.put o.dst v1) w1) :
    if Region.wanted o (yielded ops a.tmps) = true then Oper.wp Try.prog o a w Kc Q else Kc (a.put o.dst undef) w :=
  Kd.R_append_rows_step (Kd.int .u8) (w0 := w) N hw s x 22 5 (.int .u8 0) 1 ho Try.underlying22 info5 rfl (by decide) (by omega) v xs ys A _ c (fun _ => True) (fun _ => False) hs hx hr hy (fun _ _ h => h) (fun _ h => h.elim) (fun _ _ => trivial) (Below.refl _ _) hN (by rw [Nat.mul_one]; exact hl)
    (fun v1 w1 h1 h2 h3 h4 => h v1 w1 h1 h3 h2 h4)
end

/-! ### Waits -/
theorem Waits_nil (w : World) : Calls Try.prog 21 #[.pointer none] w fun e w' => e = .returned (.int .i64 0) ∧ w' = w := by
  go_enter Try.func21, Try.ntmps21
  go_wp2
  go_ret
  exact ⟨rfl, rfl⟩
theorem Waits_is {N : Nat} {w : World} {lp : Nat} {s t : List Int} {b : Bool} {vs vt : Value} (h : Lg N w lp s t b vs vt) :
    Calls Try.prog 21 #[.pointer (some ⟨lp, 0, none⟩)] w fun e w' => e = .returned (.int .i64 t.length) ∧ w' = w := by
  obtain ⟨A, c, rfl, -, -⟩ := Kd.R_reads h.rt
  have h1 := h.c1
  clear h
  go_enter Try.func21, Try.ntmps21
  go_wp2
  go_ret
  exact ⟨rfl, rfl⟩

/-! ### Bytes -/
theorem Bytes_nil (w : World) : Calls Try.prog 20 #[.pointer none] w fun e w' => e = .returned (.slice none 0 0) ∧ w' = w := by
  go_enter Try.func20, Try.ntmps20
  go_wp2
  go_ret
  exact ⟨rfl, rfl⟩
theorem Clone_f (l : List Int) (h : l.length < 140737488355328) : bytes_Clone.f l = some l := by
  simp [bytes_Clone.f, h]
theorem Bytes_is {N : Nat} {w : World} {lp : Nat} {s t : List Int} {b : Bool} {vs vt : Value} (h : Lg N w lp s t b vs vt) (hl : s.length < 140737488355328) :
    Calls Try.prog 20 #[.pointer (some ⟨lp, 0, none⟩)] w fun e w' => ∃ v, e = .returned v ∧ By w.heap.size w' v s ∧ Below w.heap.size w w' := by
  obtain ⟨A, c, rfl, hc, hr⟩ := Kd.R_reads h.rs
  have h1 := h.c0
  clear h
  have HR := Aside0.mk hr
  have HC := Aside0.mk hc
  have HF := Aside0.mk (Clone_f s hl)
  clear hr hc hl
  go_enter Try.func20, Try.ntmps20
  go_wp2_with (go_at_call 33; refine (bytes_Clone.calls A c s s _ HR.out HC.out HF.out).mono ?_; rintro e w' ⟨v, rfl, hv, hb⟩; have HV := Aside0.mk hv; have HB := Aside0.mk hb; clear hv hb)
  go_ret
  exact ⟨v, rfl, HV.out, HB.out⟩

/-! ### Put -/
theorem Put_nil (v : Value) (w : World) : Calls Try.prog 23 #[.pointer none, v] w fun e w' => e = .returned (.int .i64 7) ∧ w' = w := by
  go_enter Try.func23, Try.ntmps23
  go_wp2
  go_ret
  exact ⟨rfl, rfl⟩
theorem Put_is {N : Nat} {w : World} {lp : Nat} {s t : List Int} {b : Bool} {vs vt : Value} (h : Lg N w lp s t b vs vt) (hN : N ≤ w.heap.size)
    (A : Option Addr) (c : Nat) (l r : List Int) (x : Int) (k : Nat) (hr : Kd.C (Kd.int .u8) w A l.length l) (hc : l.length ≤ c) (hf : seg_Record.f k l = some (r, x)) (hm : t.length + r.length ≤ 140737488355328) :
    Calls Try.prog 23 #[.pointer (some ⟨lp, 0, none⟩), .slice A l.length c] w fun e w' => e = .returned (.int .i64 x) ∧ Below N w w' ∧ ∃ vt', Lg N w' lp s (t ++ r) b vs vt' := by
  have HL := Aside0.mk h
  have HR := Aside0.mk hr
  have HC := Aside0.mk hc
  have HF := Aside0.mk hf
  have HM := Aside0.mk hm
  have HN := Aside0.mk hN
  clear h hr hc hf hm hN
  go_enter Try.func23, Try.ntmps23
  go_upto_region 4 with (go_at_call 11; refine (seg_Record.calls k A c l r x _ HR.out HC.out HF.out).mono ?_; rintro e w' ⟨v, rfl, hv, hb⟩; have HV := Aside0.mk hv; have HB := Aside0.mk hb; clear hv hb)
  have hL := HL.out.below HB.out
  have h1 := hL.c1
  have hf1 := hL.fr 1
  obtain ⟨A1, c1, rfl, hc1, hr1⟩ := Kd.R_reads HV.out
  have HR1 := Aside0.mk hr1
  have HL1 := Aside0.mk hL
  clear HV HL hr1 hL hc1
  go_wp2_with (at_builtin; refine halt_here ?_)
  refine Hid.mk ?_
  refine append_by rfl (.tmp 18) (.tmp 19) rfl N vt t r A1 c1 rfl rfl HL1.out.rt HR1.out (Nat.le_trans HN.out HB.out.size) HM.out ?_
  intro v1 w1 ho hg hb hat
  have hL := HL1.out.put hg ho hat
  have hb1 := blk_c (HL1.out.grown_t hg).1 1
  have hf1' := blk_f (HL1.out.grown_t hg).1 1
  have hbe : Below N w (w1.setCell ⟨lp, 1, none⟩ v1) := below_setN (Below.trans (HB.out.mono HN.out) hb) HL1.out.le
  have hb1 : w1.cell? ⟨lp, 1, none⟩ = some vt := hb1
  obtain ⟨u, hu⟩ : ∃ u : List Int, u = t ++ r := ⟨_, rfl⟩
  rw [← hu] at ho hL
  have HU := Aside0.mk hu
  clear hu
  obtain ⟨A2, c2, rfl, -, -⟩ := Kd.R_reads ho
  have HL2 := Aside0.mk hL
  have HBE := Aside0.mk hbe
  clear hL hbe hat hb hg ho HL1 HR1 hf1 h1
  go_wp2
  go_ret
  exact ⟨rfl, HBE.out, by rw [← HU.out]; exact ⟨_, HL2.out⟩⟩

/-! ### Begin -/
theorem Lg.begin_ {N : Nat} {w : World} {lp : Nat} {s t r : List Int} {b : Bool} {vs vt v : Value} (h : Lg N w lp s t b vs vt) (hv : By N w v r) (hd : Dj vs v) :
    Lg N ((w.setCell ⟨lp, 1, none⟩ v).setCell ⟨lp, 2, none⟩ (.bool true)) lp s r true vs v := by
  have h1 := blk_set h.blk 1 v
  have h2 := blk_set h1 2 (.bool true)
  have hty : ∀ q, q ∈ (5 :: (Kd.int .u8).E) → q ≠ 73 := by intro q hq; obtain rfl := List.mem_singleton.mp hq; decide
  exact ⟨h.le, h2, Kd.R_set (Kd.R_set h.rs h.blk hty 1 v) h1 hty 2 _, Kd.R_set (Kd.R_set hv h.blk hty 1 v) h1 hty 2 _, hd⟩
theorem Begin_ok {N : Nat} {w : World} {lp : Nat} {s t : List Int} {b : Bool} {vs vt : Value} (h : Lg N w lp s t b vs vt) (hN : N ≤ w.heap.size)
    (A : Option Addr) (c : Nat) (l r : List Int) (k : Nat) (hr : Kd.C (Kd.int .u8) w A l.length l) (hc : l.length ≤ c) (hf : seg_Record.f k l = some (r, 0)) :
    Calls Try.prog 27 #[.pointer (some ⟨lp, 0, none⟩), .slice A l.length c] w fun e w' => e = .returned (.int .i64 0) ∧ Below N w w' ∧ ∃ vt', Lg N w' lp s r true vs vt' := by
  have HL := Aside0.mk h
  have HR := Aside0.mk hr
  have HC := Aside0.mk hc
  have HF := Aside0.mk hf
  have HN := Aside0.mk hN
  clear h hr hc hf hN
  go_enter Try.func27, Try.ntmps27
  go_upto_region 5 with (go_at_call 11; refine (seg_Record.calls k A c l r 0 _ HR.out HC.out HF.out).mono ?_; rintro e w' ⟨v, rfl, hv, hb⟩; have HV := Aside0.mk hv; have HB := Aside0.mk hb; clear hv hb)
  have hL := HL.out.below HB.out
  have h1 : w'.cell? ⟨lp, 1, none⟩ = some vt := hL.c1
  have h2 : w'.cell? ⟨lp, 2, none⟩ = some (.bool b) := hL.c2
  have hf1 := hL.fr 1
  have hf2 := hL.fr 2
  have hL2 := hL.begin_ (Kd.R_lower HV.out HN.out) (fun e => by
    rcases hk : vs.ownBlock with _ | j
    · rfl
    · have a1 := By.lt HL.out.rs j hk
      have a2 := Kd.R_base HV.out j (e ▸ hk)
      omega)
  have HBE := Aside0.mk (below_setN (j := 2) (v := .bool true) (below_setN (j := 1) (v := v) (HB.out.mono HN.out) HL.out.le) HL.out.le)
  have HL2 := Aside0.mk hL2
  clear hL hL2
  obtain ⟨A1, c1, rfl, -, -⟩ := Kd.R_reads HV.out
  clear HV
  go_wp2
  go_ret
  exact ⟨rfl, HBE.out, _, HL2.out⟩
theorem Begin_err {N : Nat} {w : World} {lp : Nat} {s t : List Int} {b : Bool} {vs vt : Value} (h : Lg N w lp s t b vs vt) (hN : N ≤ w.heap.size)
    (A : Option Addr) (c : Nat) (l r : List Int) (x : Int) (hx : x ≠ 0) (k : Nat) (hr : Kd.C (Kd.int .u8) w A l.length l) (hc : l.length ≤ c) (hf : seg_Record.f k l = some (r, x)) :
    Calls Try.prog 27 #[.pointer (some ⟨lp, 0, none⟩), .slice A l.length c] w fun e w' => e = .returned (.int .i64 x) ∧ Below N w w' ∧ Lg N w' lp s t b vs vt := by
  have HL := Aside0.mk h
  have HR := Aside0.mk hr
  have HC := Aside0.mk hc
  have HF := Aside0.mk hf
  have HN := Aside0.mk hN
  clear h hr hc hf hN
  have hx' : (x == 0) = false := beq_eq_false_iff_ne.mpr hx
  clear hx
  go_enter Try.func27, Try.ntmps27
  go_wp2_with (go_at_call 11; refine (seg_Record.calls k A c l r x _ HR.out HC.out HF.out).mono ?_; rintro e w' ⟨v, rfl, hv, hb⟩; have HV := Aside0.mk hv; have HB := Aside0.mk hb; clear hv hb)
  go_ret
  exact ⟨rfl, HB.out.mono HN.out, HL.out.below HB.out⟩

/-! ### Sync -/
theorem Sync_nil (w : World) : Calls Try.prog 22 #[.pointer none] w fun e w' => (∃ v, e = .returned v) ∧ w' = w := by
  go_enter Try.func22, Try.ntmps22
  go_wp2
  refine bodyPost_ret (results_list (rs := []) (vs := []) rfl (by decide) .nil) rfl ?_
  exact ⟨⟨_, rfl⟩, rfl⟩
theorem Lg.cleared {N : Nat} {w : World} {lp : Nat} {s t : List Int} {b : Bool} {vs vt : Value} (h : Lg N w lp s t b vs vt) :
    Lg N (w.setCell ⟨lp, 0, none⟩ (.slice none 0 0)) lp [] t b (.slice none 0 0) vt := by
  have hty : ∀ q, q ∈ (5 :: (Kd.int .u8).E) → q ≠ 73 := by intro q hq; obtain rfl := List.mem_singleton.mp hq; decide
  exact ⟨h.le, blk_set h.blk 0 _, Kd.R_nil _ _ _ _ _, Kd.R_set h.rt h.blk hty 0 _, Dj.nil _⟩
theorem Lg.sync_ {N : Nat} {w w1 : World} {lp : Nat} {s t s' : List Int} {b : Bool} {vs vt v1 : Value} (h : Lg N w lp s t b vs vt) (hg : w.grownBy w1 vs.ownBlock) (hr : By N w1 v1 s') :
    Lg N (((w1.setCell ⟨lp, 0, none⟩ v1).setCell ⟨lp, 1, none⟩ (.slice none 0 0)).setCell ⟨lp, 2, none⟩ (.bool false)) lp s' [] false v1 (.slice none 0 0) := by
  have hty : ∀ q, q ∈ (5 :: (Kd.int .u8).E) → q ≠ 73 := by intro q hq; obtain rfl := List.mem_singleton.mp hq; decide
  have h0 := (h.grown_s hg).1
  have h1 := blk_set h0 0 v1
  have h2 := blk_set h1 1 (.slice none 0 0)
  exact ⟨h.le, blk_set h2 2 (.bool false), Kd.R_set (Kd.R_set (Kd.R_set hr h0 hty 0 _) h1 hty 1 _) h2 hty 2 _, Kd.R_nil _ _ _ _ _, Dj.nil' _⟩
theorem Sync_plain {N : Nat} {w : World} {lp : Nat} {s t : List Int} {vs vt : Value} (h : Lg N w lp s t false vs vt) (hN : N ≤ w.heap.size) (hm : s.length + t.length ≤ 140737488355328) :
    Calls Try.prog 22 #[.pointer (some ⟨lp, 0, none⟩)] w fun e w' => (∃ v, e = .returned v) ∧ Below N w w' ∧ ∃ vs', Lg N w' lp (s ++ t) [] false vs' (.slice none 0 0) := by
  have HL := Aside0.mk h
  have HNN := Aside0.mk hN
  have HM := Aside0.mk hm
  have h0 : w.cell? ⟨lp, 0, none⟩ = some vs := h.c0
  have h1 : w.cell? ⟨lp, 1, none⟩ = some vt := h.c1
  have h2 : w.cell? ⟨lp, 2, none⟩ = some (.bool false) := h.c2
  have hf0 := h.fr 0
  have hf1 := h.fr 1
  have hf2 := h.fr 2
  clear h hN hm
  have HBW := Aside0.mk (Below.refl N w)
  obtain ⟨A1, c1, rfl, hc1, hr1⟩ := Kd.R_reads HL.out.rt
  go_enter Try.func22, Try.ntmps22
  go_upto_region 3 with fail
  have hr2 := Aside0.mk hr1
  clear hr1 hc1
  go_region_law ((refine append_by_step (by rfl) (.tmp 15) (.tmp 19) rfl N vs s t A1 c1 rfl rfl (by repeat (first | exact HL.out.rs | apply Kd.R_drew)) (by repeat (first | exact hr2.out | apply Kd.C_drew)) HNN.out HM.out ?_; intro v1 w1 ho hg hb hat; have hW := HL.out.drew.grown_s hg; have hk0 := blk_c hW.1 0; have hk0 : w1.cell? ⟨lp, 0, none⟩ = some vs := hk0; have hkf := blk_f hW.1 0; have hk1 := blk_c hW.1 1; have hk1 : w1.cell? ⟨lp, 1, none⟩ = some (.slice A1 t.length c1) := hk1; have hkf1 := blk_f hW.1 1; have hk2 := blk_c hW.1 2; have hk2 : w1.cell? ⟨lp, 2, none⟩ = some (.bool false) := hk2; have hkf2 := blk_f hW.1 2; have HS := Aside0.mk (Lg.sync_ HL.out.drew hg ho); have HBE := Aside0.mk (below_setN (j := 2) (v := .bool false) (below_setN (j := 1) (v := .slice none 0 0) (below_setN (j := 0) (v := v1) (Below.trans HBW.out.drew hb) HL.out.le) HL.out.le) HL.out.le); obtain ⟨u, hu⟩ : ∃ u : List Int, u = s ++ t := ⟨_, rfl⟩; rw [← hu] at ho HS; have HU := Aside0.mk hu; clear hu; obtain ⟨A2, c2, rfl, -, -⟩ := Kd.R_reads ho; clear hat hb hg ho hW))
  all_goals
   go_wp2
   refine bodyPost_end (results_list (rs := []) (vs := []) rfl (by decide) .nil) rfl ?_
   exact ⟨⟨_, rfl⟩, HBE.out, _, by rw [← HU.out]; exact HS.out⟩
theorem Sync_anew {N : Nat} {w : World} {lp : Nat} {s t : List Int} {vs vt : Value} (h : Lg N w lp s t true vs vt) (hN : N ≤ w.heap.size) (hm : t.length ≤ 140737488355328) :
    Calls Try.prog 22 #[.pointer (some ⟨lp, 0, none⟩)] w fun e w' => (∃ v, e = .returned v) ∧ Below N w w' ∧ ∃ vs', Lg N w' lp t [] false vs' (.slice none 0 0) := by
  have HL0 := Aside0.mk h
  have HNN := Aside0.mk hN
  have HM : Aside0 (([] : List Int).length + t.length ≤ 140737488355328) := Aside0.mk (by simpa using hm)
  have h0 : w.cell? ⟨lp, 0, none⟩ = some vs := h.c0
  have h1 : w.cell? ⟨lp, 1, none⟩ = some vt := h.c1
  have h2 : w.cell? ⟨lp, 2, none⟩ = some (.bool true) := h.c2
  have hf0 := h.fr 0
  have hf1 := h.fr 1
  have hf2 := h.fr 2
  clear h hN hm
  have HBW := Aside0.mk (below_setN (j := 0) (v := .slice none 0 0) (Below.refl N w) HL0.out.le)
  have HL := Aside0.mk HL0.out.cleared
  clear HL0
  obtain ⟨A1, c1, rfl, hc1, hr1⟩ := Kd.R_reads HL.out.rt
  go_enter Try.func22, Try.ntmps22
  go_upto_region 3 with fail
  have hr2 := Aside0.mk hr1
  clear hr1 hc1
  go_region_law ((refine append_by_step (by rfl) (.tmp 15) (.tmp 19) rfl N (.slice none 0 0) [] t A1 c1 rfl rfl (by repeat (first | exact HL.out.rs | apply Kd.R_drew)) (by repeat (first | exact hr2.out | apply Kd.C_drew)) (Nat.le_trans HNN.out HBW.out.size) HM.out ?_; intro v1 w1 ho hg hb hat; have hW := HL.out.drew.grown_s hg; have hk0 := blk_c hW.1 0; have hk0 : w1.cell? ⟨lp, 0, none⟩ = some (.slice none 0 0) := hk0; have hkf := blk_f hW.1 0; have hk1 := blk_c hW.1 1; have hk1 : w1.cell? ⟨lp, 1, none⟩ = some (.slice A1 t.length c1) := hk1; have hkf1 := blk_f hW.1 1; have hk2 := blk_c hW.1 2; have hk2 : w1.cell? ⟨lp, 2, none⟩ = some (.bool true) := hk2; have hkf2 := blk_f hW.1 2; have HS := Aside0.mk (Lg.sync_ HL.out.drew hg ho); have HBE := Aside0.mk (below_setN (j := 2) (v := .bool false) (below_setN (j := 1) (v := .slice none 0 0) (below_setN (j := 0) (v := v1) (Below.trans HBW.out.drew hb) HL.out.le) HL.out.le) HL.out.le); obtain ⟨u, hu⟩ : ∃ u : List Int, u = [] ++ t := ⟨_, rfl⟩; rw [← hu] at ho HS; have HU := Aside0.mk hu; clear hu; obtain ⟨A2, c2, rfl, -, -⟩ := Kd.R_reads ho; clear hat hb hg ho hW))
  all_goals
   go_wp2
   refine bodyPost_end (results_list (rs := []) (vs := []) rfl (by decide) .nil) rfl ?_
   exact ⟨⟨_, rfl⟩, HBE.out, _, by have h := HS.out; have hu : u = t := HU.out; subst hu; exact h⟩
end Go.Proofs.Ytnnlmbmgaajmhaa.Seg
