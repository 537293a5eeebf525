/-
  slices.IndexFunc and slices.DeleteFunc, at the closure in Settle: their contracts.
  Conditions: none.
-/
import Derived.Test.YtcgfjjpnjoinkaaCt
namespace Go.Proofs.Ytcgfjjpnjoinkaa.Cr
open Go.RowKit Go.Proofs.YtcgfjjpnjoinkaaW.PrintWords Go.Proofs.YtcgfjjpnjoinkaaW.PrintLast Go.Proofs.YtcgfjjpnjoinkaaG Go.Proofs.Ytcgfjjpnjoinkaa.PCa
set_option linter.unusedVariables false
set_option linter.unusedSimpArgs false

theorem e17 (args : Array Value) (w : World) : (callFunc 17 args).run Try.prog w = .ok (.enter 17 args) w := enters_ Try.func17 (by kernel_rfl) rfl args w

theorem snoc_take (l : List Int) (i : Nat) (y : Int) (h : l[i]? = some y) : l.take (i + 1) = l.take i ++ [y] := by
  rw [List.take_add_one, h]
  rfl

set_option maxHeartbeats 4000000 in
theorem IndexFunc_is (A : Option Addr) (c : Nat) (l : List Int) (lp : Nat) (B : Option Addr) (d : Nat) (s : List Int) (w : World) (hr : Kd.C (Kd.int .u64) w A l.length l) (hl : l.length ≤ 1000000)
    (hp : w.cell? ⟨lp, 0, none⟩ = some (.slice B s.length d)) (hs : Kd.C (Kd.int .u64) w B s.length s) (hsl : s.length ≤ 1000000) :
    Calls Try.prog 19 #[.slice A l.length c, .func (.func 17) #[] #[.pointer (some ⟨lp, 0, none⟩)]] w fun e w' =>
      ((e = .returned (.int .i64 (-1)) ∧ ∀ x ∈ l, x ∉ s) ∨ ∃ k : Nat, e = .returned (.int .i64 k) ∧ (∃ y, l[k]? = some y ∧ y ∈ s) ∧ ∀ x ∈ l.take k, x ∉ s) ∧ w' = w := by
  have HR := Aside0.mk hr
  have HL := Aside0.mk hl
  have HP := Aside0.mk hp
  have HS := Aside0.mk hs
  have HT := Aside0.mk hsl
  have e17 := e17
  clear hr hl hp hs hsl
  go_enter Try.func19, Try.ntmps19
  go_wp2
  go_loopg [5, 8] l.length (fun g v5 v8 wr => ∃ (i : Nat), v8 = .int .i64 i ∧ g + i = l.length ∧ wr = w ∧ Aside0 (∀ x ∈ l.take i, x ∉ s))
  case atStart => exact ⟨0, rfl, by omega, rfl, ⟨by simp⟩⟩
  case round =>
    obtain ⟨i, rfl, hgi, rfl, HX⟩ := hrel
    cases gk with
    | zero =>
      have hi : ¬ ((i : Int) < (l.length : Int)) := by omega
      have HI := Aside0.mk hgi
      clear hgi
      go_wp2
      go_ret
      refine ⟨.inl ⟨rfl, ?_⟩, rfl⟩
      have := HX.out
      rwa [List.take_of_length_le (by have := HI.out; omega)] at this
    | succ g1 =>
      have hi : (i : Int) < (l.length : Int) := by omega
      have hi0 : 0 ≤ (i : Int) := by omega
      have hin : i < l.length := by omega
      obtain ⟨ad, e1, hx⟩ := Kd.at_int HR.out i hi0 hi
      cases e1
      obtain ⟨y, hy⟩ : ∃ y, rd l (i : Int) = y := ⟨_, rfl⟩
      rw [hy, Int.toNat_natCast] at hx
      rw [rd_in l i hin] at hy
      have HI := Aside0.mk hgi
      have HN := Aside0.mk hin
      have HY : Aside0 (l[i]? = some y) := ⟨by rw [List.getElem?_eq_getElem hin, hy]⟩
      have hw : wrap64 ((i : Int) + 1) = (i : Int) + 1 := w64 _ (by omega) (by have := HL.out; omega)
      clear hgi hy
      clear hin
      by_cases c1 : y ∈ s
      · have C1 := Aside0.mk c1
        have hd := Aside0.mk (decide_eq_true c1)
        clear c1
        go_wp2_with (go_at_call 17; refine (Sel_is lp B d s y _ HP.out HS.out HT.out).mono ?_; rintro e w1 ⟨rfl, rfl⟩; rw [hd.out])
        go_ret
        exact ⟨.inr ⟨i, rfl, ⟨y, HY.out, C1.out⟩, HX.out⟩, rfl⟩
      · have C1 := Aside0.mk c1
        have hd := Aside0.mk (decide_eq_false c1)
        clear c1
        go_wp2_with (go_at_call 17; refine (Sel_is lp B d s y _ HP.out HS.out HT.out).mono ?_; rintro e w1 ⟨rfl, rfl⟩; rw [hd.out])
        go_roundg g1
        case measure => omega
        case rel => 
          refine ⟨i + 1, by rw [hw, Int.natCast_add]; rfl, by have := HI.out; omega, rfl, ⟨?_⟩⟩
          rw [snoc_take l i y HY.out]
          intro x hx
          rcases List.mem_append.1 hx with h | h
          · exact HX.out x h
          · obtain rfl := List.mem_singleton.1 h
            exact C1.out
end Go.Proofs.Ytcgfjjpnjoinkaa.Cr
