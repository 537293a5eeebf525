/-
  What is left behind a crash: its contract.
  Conditions: none.
-/
import Derived.Test.YtnnlmbmgaajmhaaLi
namespace Go.Proofs.Ytnnlmbmgaajmhaa.Seg
open Go.RowKit Go.Proofs.YtnnlmbmgaajmhaaW.PrintWords Go.Proofs.YtnnlmbmgaajmhaaW.PrintLast Go.Proofs.YtnnlmbmgaajmhaaW.PrintMore Go.Proofs.YtnnlmbmgaajmhaaG Go.Proofs.Ytnnlmbmgaajmhaa.PGa
set_option linter.unusedVariables false
set_option linter.unusedSimpArgs false

def mx (x : Int) : Int := if x < 0 then 0 else x
def mn (x y : Int) : Int := if y < x then y else x
theorem mx_max (ats : Array TypeId) (ty : TypeId) (x : Int) : Builtin.max_ ats ty #[.int .i64 x, .int .i64 0] = pure (.int .i64 (mx x)) := by
  rw [max_two, max2_int]
  rfl
theorem mn_min (ats : Array TypeId) (ty : TypeId) (x y : Int) : Builtin.min_ ats ty #[.int .i64 x, .int .i64 y] = pure (.int .i64 (mn x y)) := by
  rw [min_two, min2_int]
  rfl
attribute [local go_sem] mx_max mn_min
theorem mn_lo (x : Int) (n : Nat) : 0 ≤ mn (mx x) n := by
  unfold mn mx
  split <;> split <;> omega
theorem mn_hi (x : Int) (n : Nat) : mn (mx x) n ≤ n := by
  unfold mn mx
  split <;> split <;> omega

theorem Concat_take (A0 A1 : Option Addr) (c0 c1 : Nat) (s t : List Int) (n g : Nat) (w U : World) (hg : U.heap[g]? = some (.cells #[.slice A0 s.length c0, .slice A1 n c1] 22 (0, 0))) (hb : Below w.heap.size w U) (hx : Kd.C (Kd.int .u8) w A0 s.length s) (hy : Kd.C (Kd.int .u8) w A1 t.length t) (hn : n ≤ t.length) (hl : s.length + t.length ≤ 140737488355328) :
    Calls Try.prog 37 #[.slice (some ⟨g, 0, none⟩) 2 2] U fun e w' => ∃ v, e = .returned v ∧ By w.heap.size w' v (s ++ t.take n) ∧ Below w.heap.size w w' := by
  have hlt : (t.take n).length = n := by rw [List.length_take]; omega
  have h := Concat_is g A0 A1 c0 c1 s (t.take n) U (by rw [hlt]; exact hg) (Kd.C_below hx hb) (Kd.C_below (Kd.C_take hy hn) hb) (by rw [hlt]; omega)
  refine h.mono ?_
  rintro e w' ⟨v, rfl, hv, hb2⟩
  have hsz : w.heap.size ≤ U.heap.size := hb.size
  exact ⟨v, rfl, Kd.R_lower hv hsz, hb.trans (hb2.mono hsz)⟩
theorem Crash_nil (keep : Int) (w : World) : Calls Try.prog 24 #[.pointer none, .int .i64 keep] w fun e w' => e = .returned (.slice none 0 0) ∧ w' = w := by
  go_enter Try.func24, Try.ntmps24
  go_wp2
  go_ret
  exact ⟨rfl, rfl⟩
/-- What the log's two rows are, whatever is laid besides. -/
theorem still {w : World} {lp : Nat} {vs vt : Value} (hlt : lp < w.heap.size) (h0 : w.cell? ⟨lp, 0, none⟩ = some vs) (h1 : w.cell? ⟨lp, 1, none⟩ = some vt) {w' : World} (hb : Below w.heap.size w w') :
    Below w.heap.size w w' ∧ w'.cell? ⟨lp, 0, none⟩ = some vs ∧ w'.cell? ⟨lp, 1, none⟩ = some vt :=
  ⟨hb, (hb.cell (p := ⟨lp, 0, none⟩) hlt).trans h0, (hb.cell (p := ⟨lp, 1, none⟩) hlt).trans h1⟩
set_option maxHeartbeats 400000 in
theorem Crash_plain {N : Nat} {w : World} {lp : Nat} {s t : List Int} {vs vt : Value} (h : Lg N w lp s t false vs vt) (keep k : Int) (hk : mn (mx keep) t.length = k) (hm : s.length + t.length ≤ 140737488355328) :
    Calls Try.prog 24 #[.pointer (some ⟨lp, 0, none⟩), .int .i64 keep] w fun e w' => ∃ v, e = .returned v ∧ By w.heap.size w' v (s ++ t.take k.toNat) ∧ Below w.heap.size w w' := by
  have h0 : w.cell? ⟨lp, 0, none⟩ = some vs := h.c0
  have h1 : w.cell? ⟨lp, 1, none⟩ = some vt := h.c1
  have h2 : w.cell? ⟨lp, 2, none⟩ = some (.bool false) := h.c2
  obtain ⟨A1, c1, rfl, hc1, hr1⟩ := Kd.R_reads h.rt
  obtain ⟨A0, c0, rfl, hc0, hr0⟩ := Kd.R_reads h.rs
  have hk0 : 0 ≤ k := by rw [← hk]; exact mn_lo _ _
  have hk1 : k ≤ (t.length : Int) := by rw [← hk]; exact mn_hi _ _
  have hk2 : k ≤ (c1 : Int) := by omega
  have HLT := Aside0.mk h.lt
  have HR1 := Aside0.mk hr1
  have HR0 := Aside0.mk hr0
  have HM := Aside0.mk hm
  have HK := Aside0.mk hk1
  clear h hm hr1 hr0 hk1 hc1 hc0
  go_enter Try.func24, Try.ntmps24
  go_upto_region 5 with fail
  have HKN := Aside0.mk (show k.toNat ≤ t.length by have := HK.out; omega)
  go_region_held3 (fun w' => Below w.heap.size w w' ∧ w'.cell? ⟨lp, 0, none⟩ = some (.slice A0 s.length c0) ∧ w'.cell? ⟨lp, 1, none⟩ = some (.slice A1 t.length c1)) (exact still HLT.out h0 h1 (by repeat (first | exact HB.out | exact Below.refl _ _ | exact Nat.le_refl _ | apply Below.drew | refine Below.alloc ?_ ?_ _))) ((go_at_call 37; refine (Concat_take A0 A1 c0 c1 s t k.toNat w.heap.size w _ ?hg ?hb HR0.out HR1.out HKN.out HM.out).mono ?_; (case hg => exact heap_alloc_new _ _); (case hb => (repeat (first | exact Below.refl _ _ | exact Nat.le_refl _ | apply Below.drew | refine Below.alloc ?_ ?_ _))); rintro e w' ⟨v, rfl, hv, hb⟩; have HV := Aside0.mk hv; have HB := Aside0.mk hb; clear hv hb))
  all_goals
   go_wp2
   go_ret
   exact ⟨_, rfl, HV.out, HB.out⟩
set_option maxHeartbeats 400000 in
theorem Crash_anew {N : Nat} {w : World} {lp : Nat} {s t : List Int} {vs vt : Value} (h : Lg N w lp s t true vs vt) (keep k : Int) (hk : mn (mx 0) t.length = k) (hm : s.length + t.length ≤ 140737488355328) :
    Calls Try.prog 24 #[.pointer (some ⟨lp, 0, none⟩), .int .i64 keep] w fun e w' => ∃ v, e = .returned v ∧ By w.heap.size w' v (s ++ t.take k.toNat) ∧ Below w.heap.size w w' := by
  have h0 : w.cell? ⟨lp, 0, none⟩ = some vs := h.c0
  have h1 : w.cell? ⟨lp, 1, none⟩ = some vt := h.c1
  have h2 : w.cell? ⟨lp, 2, none⟩ = some (.bool true) := h.c2
  obtain ⟨A1, c1, rfl, hc1, hr1⟩ := Kd.R_reads h.rt
  obtain ⟨A0, c0, rfl, hc0, hr0⟩ := Kd.R_reads h.rs
  have hk0 : 0 ≤ k := by rw [← hk]; exact mn_lo _ _
  have hk1 : k ≤ (t.length : Int) := by rw [← hk]; exact mn_hi _ _
  have hk2 : k ≤ (c1 : Int) := by omega
  have HLT := Aside0.mk h.lt
  have HR1 := Aside0.mk hr1
  have HR0 := Aside0.mk hr0
  have HM := Aside0.mk hm
  have HK := Aside0.mk hk1
  clear h hm hr1 hr0 hk1 hc1 hc0
  go_enter Try.func24, Try.ntmps24
  go_upto_region 5 with fail
  have HKN := Aside0.mk (show k.toNat ≤ t.length by have := HK.out; omega)
  go_region_held3 (fun w' => Below w.heap.size w w' ∧ w'.cell? ⟨lp, 0, none⟩ = some (.slice A0 s.length c0) ∧ w'.cell? ⟨lp, 1, none⟩ = some (.slice A1 t.length c1)) (exact still HLT.out h0 h1 (by repeat (first | exact HB.out | exact Below.refl _ _ | exact Nat.le_refl _ | apply Below.drew | refine Below.alloc ?_ ?_ _))) ((go_at_call 37; refine (Concat_take A0 A1 c0 c1 s t k.toNat w.heap.size w _ ?hg ?hb HR0.out HR1.out HKN.out HM.out).mono ?_; (case hg => exact heap_alloc_new _ _); (case hb => (repeat (first | exact Below.refl _ _ | exact Nat.le_refl _ | apply Below.drew | refine Below.alloc ?_ ?_ _))); rintro e w' ⟨v, rfl, hv, hb⟩; have HV := Aside0.mk hv; have HB := Aside0.mk hb; clear hv hb))
  all_goals
   go_wp2
   go_ret
   exact ⟨_, rfl, HV.out, HB.out⟩
end Go.Proofs.Ytnnlmbmgaajmhaa.Seg
