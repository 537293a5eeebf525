/-
  The credit's Take, Open, Free: their contracts.
  Conditions: none.
-/
import Derived.Test.YtcgfjjpnjoinkaaCr
namespace Go.Proofs.Ytcgfjjpnjoinkaa.Cr
open Go.RowKit Go.Proofs.YtcgfjjpnjoinkaaW.PrintWords Go.Proofs.YtcgfjjpnjoinkaaW.PrintLast Go.Proofs.YtcgfjjpnjoinkaaG Go.Proofs.Ytcgfjjpnjoinkaa.PCa
set_option linter.unusedVariables false
set_option linter.unusedSimpArgs false

def mx (x : Int) : Int := if x < 0 then 0 else x
theorem mx_max (ats : Array TypeId) (ty : TypeId) (x : Int) : Builtin.max_ ats ty #[.int .i64 x, .int .i64 0] = pure (.int .i64 (mx x)) := by
  rw [Go.Proofs.YtcgfjjpnjoinkaaW.PrintMore.max_two, Go.Proofs.YtcgfjjpnjoinkaaW.PrintMore.max2_int]
  rfl
attribute [local go_sem] mx_max
theorem C_lit1 (w : World) (x : Int) (fr : Nat × Nat) : Kd.C (Kd.int .u64) (w.alloc (.cells #[.int .u64 x] 26 fr)) (some ⟨w.heap.size, 0, none⟩) 1 [x] := by
  refine ⟨rfl, by decide, fun _ => ⟨_, rfl, fun j p hj => ⟨[.int .u64 p], rfl, rfl, fun i u hu => ?_⟩⟩⟩
  have hi : i = 0 := by
    have := (List.getElem?_eq_some_iff.1 hu).1
    simpa using this
  subst hi
  have hj0 : j = 0 := by
    have := (List.getElem?_eq_some_iff.1 hj).1
    simpa using this
  subst hj0
  have hp : x = p := by simpa using hj
  subst hp
  have hu' : .int .u64 x = u := by simpa using hu
  subst hu'
  exact World.cell?_alloc_mark w _ 26 fr 0
/-- append(l, xs...), tags. -/
theorem append_tg {ops : Array Oper} {rest : List Oper} {o : Oper} {a : Act} {w : World} {Q : Exit → Act → World → Prop} (hgd : o.guard = none) (s x : Operand) (ho : o.op = .call { callee := .builtin .append, args := #[s, x], argTypes := #[27, 27] }) (N : Nat) (v : Value) (xs ys : List Int) (A : Option Addr) (n c : Nat)
    (hs : a.eval s = v) (hx : a.eval x = .slice A n c) (hn : n = ys.length) (hr : Tg N w v xs) (hy : Kd.C (Kd.int .u64) w A ys.length ys) (hN : N ≤ w.heap.size) (hl : (xs.length + ys.length) * 8 ≤ 140737488355328)
    (h : ∀ v1 w1, Tg N w1 v1 (xs ++ ys) → w.grownBy w1 v.ownBlock → Below N w w1 → wpList Try.prog ops Q rest (a.put o.dst v1) w1) : wpList Try.prog ops Q (o :: rest) a w := by
  subst hn
  exact Kd.R_append_rows (Kd.int .u64) (w0 := w) N hgd s x 27 26 (.int .u64 0) 8 ho Try.underlying27 (by kernel_rfl) rfl (by decide) (by omega) v xs ys A _ c (fun _ => True) (fun _ => False) hs hx hr hy (fun _ _ h => h) (fun _ h => h.elim) (fun _ _ => trivial) (Below.refl _ _) hN hl
    (fun v1 w1 h1 h2 h3 h4 => h v1 w1 h1 h3 h2)
theorem Tg.grown {N cp : Nat} {w w1 : World} {v : Value} {l : List Int} {cs : Array Value} (h : Tg N w v l) (hb : w.heap[cp]? = some (.cells cs 38 (0, 0))) (hg : w.grownBy w1 v.ownBlock) : w1.heap[cp]? = some (.cells cs 38 (0, 0)) :=
  (hg.block cp (blk_lt hb) (Kd.R_ne h hb (by decide))).trans hb
theorem Tg.set {N cp : Nat} {w : World} {v : Value} {l : List Int} {cs : Array Value} (h : Tg N w v l) (hb : w.heap[cp]? = some (.cells cs 38 (0, 0))) (i : Nat) (u : Value) : Tg N (w.setCell ⟨cp, i, none⟩ u) v l :=
  Kd.R_set h hb (by intro q hq; obtain rfl := List.mem_singleton.mp hq; decide) i u

theorem Take_full {N : Nat} {w : World} {cp : Nat} {m last : Int} {l : List Int} {v : Value} (h : Cr N w cp m last l v) (t : Int) (ht : last < t) (hl : mostP m ≤ l.length) :
    Calls Try.prog 6 #[.pointer (some ⟨cp, 0, none⟩), .int .u64 t] w fun e w' => e = .returned (.int .i64 4) ∧ Below w.heap.size w w' := by
  obtain ⟨A, c, rfl, -, -⟩ := Kd.R_reads h.ro
  have HC := Aside0.mk h
  have hc1 := h.c1
  have hc2 := h.c2
  obtain ⟨k, hk⟩ : ∃ k, mostP m = k := ⟨_, rfl⟩
  rw [hk] at hl
  have HK := Aside0.mk hk
  have ht2 : ¬ (t ≤ last) := by omega
  clear h hk
  go_enter Try.func6, Try.ntmps6
  go_upto_region 5 with fail
  go_region_held3 (fun w' => Below w.heap.size w w' ∧ w'.cell? ⟨cp, 2, none⟩ = some (.slice A l.length c)) (exact ⟨by repeat (first | exact Below.refl _ _ | apply Below.drew), hc2⟩) ((go_at_call 14; refine (most_is (HC.out.below (by repeat (first | exact Below.refl _ _ | apply Below.drew))) k HK.out).mono ?_; rintro e w3 ⟨rfl, rfl⟩))
  all_goals
   go_wp2
   go_ret
   exact ⟨rfl, by repeat (first | exact Below.refl _ _ | apply Below.drew)⟩
theorem Take_ok {N : Nat} {w : World} {cp : Nat} {m last : Int} {l : List Int} {v : Value} (h : Cr N w cp m last l v) (t : Int) (ht : last < t) (hl : (l.length : Int) < mostP m) (hs : l.length ≤ 1000000) :
    Calls Try.prog 6 #[.pointer (some ⟨cp, 0, none⟩), .int .u64 t] w fun e w' => e = .returned (.int .i64 0) ∧ (∃ v', Cr N w' cp m t (l ++ [t]) v') ∧ Below N w w' := by
  obtain ⟨A, c, rfl, -, -⟩ := Kd.R_reads h.ro
  have HC := Aside0.mk h
  have hc1 := h.c1
  have hc2 := h.c2
  obtain ⟨k, hk⟩ : ∃ k, mostP m = k := ⟨_, rfl⟩
  rw [hk] at hl
  have HK := Aside0.mk hk
  have HS := Aside0.mk hs
  have ht2 : ¬ (t ≤ last) := by omega
  clear h hk hs
  go_enter Try.func6, Try.ntmps6
  go_upto_region 5 with fail
  go_region_held3 (fun w' => Below w.heap.size w w' ∧ w'.cell? ⟨cp, 2, none⟩ = some (.slice A l.length c)) (exact ⟨by repeat (first | exact Below.refl _ _ | apply Below.drew), hc2⟩) ((go_at_call 14; refine (most_is (HC.out.below (by repeat (first | exact Below.refl _ _ | apply Below.drew))) k HK.out).mono ?_; rintro e w3 ⟨rfl, rfl⟩))
  all_goals
   have HC2 := Aside0.mk (HC.out.below (Below.refl w.heap.size w).drew)
   go_wp2_with (at_builtin; refine halt_here ?_)
   refine Hid.mk ?_
   have HC3 := Aside0.mk (HC2.out.below (below_alloc (Below.refl w.drew.heap.size w.drew) (.cells #[.int .u64 t] 26)))
   refine append_tg rfl (.tmp 30) (.tmp 32) rfl N (.slice A l.length c) l [t] (some ⟨w.heap.size, 0, none⟩) 1 1 rfl rfl rfl HC3.out.ro (C_lit1 w.drew t (0, 0)) HC3.out.base (by have := HS.out; rw [List.length_singleton]; omega) ?_
   intro v1 w1 ho hg hb
   have hbk := Tg.grown HC3.out.ro HC3.out.blk hg
   have h1 : w1.cell? ⟨cp, 1, none⟩ = some (.int .u64 last) := blk_c hbk 1
   have h2 : w1.cell? ⟨cp, 2, none⟩ = some (.slice A l.length c) := blk_c hbk 2
   have hf1 := blk_f hbk 1
   have hf2 := blk_f hbk 2
   have hnew : Cr N ((w1.setCell ⟨cp, 1, none⟩ (.int .u64 t)).setCell ⟨cp, 2, none⟩ v1) cp m t (l ++ [t]) v1 :=
     ⟨HC3.out.le, blk_set (blk_set hbk 1 (.int .u64 t)) 2 v1, Tg.set (Tg.set ho hbk 1 _) (blk_set hbk 1 (.int .u64 t)) 2 _⟩
   have HNW := Aside0.mk hnew
   have HBE := Aside0.mk (below_setN (j := 2) (v := v1) (below_setN (j := 1) (v := .int .u64 t) ((below_alloc (Below.refl w.heap.size w).drew (.cells #[.int .u64 t] 26)).mono HC.out.base |>.trans hb) HC.out.le) HC.out.le)
   obtain ⟨u, hu⟩ : ∃ u : List Int, u = l ++ [t] := ⟨_, rfl⟩
   rw [← hu] at ho HNW
   obtain ⟨A2, c2, rfl, -, -⟩ := Kd.R_reads ho
   have HU := Aside0.mk hu
   clear hnew hu hbk ho hg hb hc1 hc2
   go_wp2
   go_ret
   exact ⟨rfl, by rw [← HU.out]; exact ⟨_, HNW.out⟩, HBE.out⟩
end Go.Proofs.Ytcgfjjpnjoinkaa.Cr
