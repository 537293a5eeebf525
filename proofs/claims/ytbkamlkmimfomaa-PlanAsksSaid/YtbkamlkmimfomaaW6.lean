/-
  The walks of the sums of a row.
  Conditions: none.
-/
import Derived.Test.YtbkamlkmimfomaaW5
namespace Go.Proofs.Ytbkamlkmimfomaa
open Go.RowKit Go.Proofs.YtbkamlkmimfomaaFl Go.Proofs.YtbkamlkmimfomaaG
set_option maxHeartbeats 4000000

/-- A slice of complex numbers. -/
def Lies (w : World) (a : Option Addr) (l : List (Nat × Nat)) : Prop := ∀ j v, l[j]? = some v → ∃ ad, a = some ad ∧ w.cell? (ad.add j) = some (.complex .f64 v.1 v.2)
def csum (c : C) (l : List (Nat × Nat)) : C := l.foldl (fun c p => cadd c (crd p)) c
theorem csum_snoc (c : C) (l : List (Nat × Nat)) (n : Nat) (v : Nat × Nat) (h : l[n]? = some v) : csum c (l.take (n + 1)) = cadd (csum c (l.take n)) (crd v) := by
  unfold csum
  rw [List.take_add_one, h, List.foldl_append]
  rfl

theorem Sum_is (a : Option Addr) (cap : Nat) (l : List (Nat × Nat)) (hl : l.length < 9223372036854775807) (w : World) (h : Lies w a l) :
    Calls Try.prog 33 #[.slice a l.length cap] w fun e w' => ∃ r i m, e = .returned (.complex .f64 r i) ∧ w' = w.drewN m ∧ crd (r, i) = csum (crd (0, 0)) l := by
  obtain ⟨L, hL⟩ : ∃ L, L = l.length := ⟨_, rfl⟩
  rw [← hL]
  rw [← hL] at hl
  have HL : Hid (L = l.length) := hL
  clear hL
  go_enter Try.func33, Try.ntmps33
  go_wp2
  refine wp_scope_g ?_
  intro G hG
  go_wp2
  refine wp_label ?_
  go_step
  go_step
  (try simp only [Act.put, List.setIfInBounds_toArray, List.set_cons_zero, List.set_cons_succ])
  refine rest_loop hG 0 (by rfl) [false, false, false, true, true, true, true, true, true, true, true, true, true, true, true, true, true] ?hm L (fun kq us wr => ∃ (n r i m : Nat), us.getD 0 undef = .complex .f64 r i ∧ us.getD 1 undef = .int .i64 n ∧ kq + n = L ∧ wr = w.drewN m ∧ crd (r, i) = csum (crd (0, 0)) (l.take n)) ?atStart ?round
  case hm => rfl
  case atStart => exact ⟨0, 0, 0, 0, rfl, rfl, rfl, rfl, rfl⟩
  case round =>
    intro u3 u4 u5 u6 u7 u8 u9 u10 u11 u12 u13 u14 u15 u16 kq wr hrel IH
    dsimp only [fillM]
    obtain ⟨n, r, i, m, e3, e4, hn, rfl, hs⟩ := hrel
    have e3 : u3 = .complex .f64 r i := e3
    have e4 : u4 = .int .i64 n := e4
    subst e3 e4
    clear e3 e4
    have hn0 : (0 : Int) ≤ (n : Int) := by omega
    by_cases hlt : n < L
    · have hlt' : (n : Int) < (L : Int) := by omega
      obtain ⟨v, hv⟩ : ∃ v, l[n]? = some v := ⟨l[n]'(by have := HL.out; omega), List.getElem?_eq_getElem (by have := HL.out; omega)⟩
      obtain ⟨ad, rfl, hc⟩ := h n v hv
      go_wp2_with (go_at_call 53; refine (plus_is _ _ _ _ _).mono ?_; rintro e w' ⟨r_, i_, m_, rfl, rfl, hr_, hi_⟩)
      refine wp_goto ?_
      change G 0 _ _
      refine IH.out (kq - 1) _ _ ?_ rfl ⟨n + 1, r_, i_, m + m_, rfl, rfl, by omega, rfl, ?_⟩
      · omega
      · rw [csum_snoc _ _ _ _ hv, ← hs]
        unfold crd cadd
        rw [hr_, hi_]
    · have hlt' : ¬ (n : Int) < (L : Int) := by omega
      have HS : Hid (crd (r, i) = csum (crd (0, 0)) (l.take n)) := hs
      clear hs
      go_wp2
      try rw [scoped_ret]
      go_ret
      refine ⟨r, i, m, rfl, rfl, ?_⟩
      rw [HS.out, List.take_of_length_le (by have := HL.out; omega)]
end Go.Proofs.Ytbkamlkmimfomaa
