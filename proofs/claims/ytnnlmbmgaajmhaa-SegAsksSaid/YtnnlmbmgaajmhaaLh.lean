/-
  A log is opened: its contract, and what is left behind a crash.
  Conditions: none.
-/
import Derived.Test.YtnnlmbmgaajmhaaLg
namespace Go.Proofs.Ytnnlmbmgaajmhaa.Seg
open Go.RowKit Go.Proofs.YtnnlmbmgaajmhaaW.PrintWords Go.Proofs.YtnnlmbmgaajmhaaW.PrintLast Go.Proofs.YtnnlmbmgaajmhaaW.PrintMore Go.Proofs.YtnnlmbmgaajmhaaG Go.Proofs.Ytnnlmbmgaajmhaa.PGa
set_option linter.unusedVariables false
set_option linter.unusedSimpArgs false

/-! ### Open -/
theorem Lg.new {w : World} {N : Nat} {v : Value} {l : List Int} (hr : By N w v l) (hN : N ≤ w.heap.size) : Lg N (w.alloc (.cells #[v, .slice none 0 0, .bool false] 73)) w.heap.size l [] false v (.slice none 0 0) :=
  ⟨hN, heap_alloc_new _ _, Kd.R_alloc hr _, Kd.R_nil _ _ _ _ _, Dj.nil' _⟩
theorem Clone_take (A : Option Addr) (c : Nat) (l : List Int) (n : Nat) (w : World) (hr : Kd.C (Kd.int .u8) w A l.length l) (hc : n ≤ c) (hn : n ≤ l.length) (hlen : l.length < 140737488355328) :
    Calls Try.prog 33 #[.slice A n c] w fun e w' => ∃ A2 c2, e = .returned (.slice A2 n c2) ∧ By w.heap.size w' (.slice A2 n c2) (l.take n) ∧ Below w.heap.size w w' := by
  have hlt : (l.take n).length = n := by rw [List.length_take]; omega
  have hcl := bytes_Clone.calls A c (l.take n) (l.take n) w (Kd.C_take hr hn) (by rw [hlt]; exact hc) (Clone_f _ (by rw [hlt]; omega))
  rw [hlt] at hcl
  refine hcl.mono ?_
  rintro e w2 ⟨v2, rfl, hv2, hb2⟩
  obtain ⟨A2, c2, rfl⟩ := Kd.R_slice hv2
  rw [hlt] at hv2 ⊢
  exact ⟨A2, c2, rfl, hv2, hb2⟩
theorem Open_is (A : Option Addr) (c : Nat) (l : List Int) (rs : List (List Int)) (n : Int) (k : Nat) (w : World) (hr : Kd.C (Kd.int .u8) w A l.length l) (hc : l.length ≤ c)
    (hf : seg_Read.f k l = some (rs, n)) (h0 : 0 ≤ n) (hn : n ≤ l.length) (hlen : l.length < 140737488355328) :
    Calls Try.prog 16 #[.slice A l.length c] w fun e w' => ∃ v vs N lp, e = .returned (.tuple #[.pointer (some ⟨lp, 0, none⟩), v]) ∧ Below w.heap.size w w' ∧ w.heap.size ≤ N ∧ N ≤ w'.heap.size ∧
      Kd.S (Kd.slice 5 (Kd.int .u8)) 22 w' w.heap.size (fun k => k < N) v rs ∧ Lg N w' lp (l.take n.toNat) [] false vs (.slice none 0 0) := by
  have HR := Aside0.mk hr
  have HC := Aside0.mk hc
  have HF := Aside0.mk hf
  have HLEN := Aside0.mk hlen
  have hnc : n ≤ (c : Int) := by omega
  have HNL := Aside0.mk hn
  clear hr hc hf hlen hn
  go_enter Try.func16, Try.ntmps16
  go_upto_region 2 with (go_at_call 14; refine (seg_Read.calls k A c l rs n _ HR.out HC.out HF.out).mono ?_; rintro e w1 ⟨v, rfl, hv, hb⟩; have HB := Aside0.mk hb; obtain ⟨A1, c1, rfl⟩ := Kd.S_slice hv; have HV := Aside0.mk hv; clear hv hb)
  have HN1 := Aside0.mk (show n.toNat ≤ l.length by have := HNL.out; omega)
  have HC1 := Aside0.mk (show n.toNat ≤ c by omega)
  go_wp2_with (go_at_call 33; refine (Clone_take A c l n.toNat w1 (Kd.C_below HR.out HB.out) HC1.out HN1.out HLEN.out).mono ?_; rintro e w2 ⟨A2, c2, rfl, hv2, hb2⟩; have HB2 := Aside0.mk hb2; have HV1 := Aside0.mk (Kd.S_old HV.out hb2); have HV2 := Aside0.mk hv2; clear hv2 hb2)
  go_ret2
  have hN : w1.heap.size ≤ w2.heap.size := HB2.out.size
  have hN0 : w.heap.size ≤ w1.heap.size := HB.out.size
  have hbb := (HB.out.trans (HB2.out.mono hN0)).alloc (Nat.le_trans hN0 hN) (.cells #[.slice A2 n.toNat c2, .slice none 0 0, .bool false] 73)
  refine ⟨_, _, w1.heap.size, _, rfl, hbb, hN0, ?_, Kd.S_alloc (Kd.S_mono HV1.out (fun k hk => hk.2)) _, Lg.new HV2.out hN⟩
  rw [World.size_alloc]
  omega
end Go.Proofs.Ytnnlmbmgaajmhaa.Seg
