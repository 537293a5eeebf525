/-
  told: what the program tells of a few is what the document says.
  Conditions: none.
-/
import Derived.Test.YtcgfjjpnjoinkaaCw
namespace Go.Proofs.Ytcgfjjpnjoinkaa.Cr
open Go.RowKit Go.Proofs.YtcgfjjpnjoinkaaW.PrintWords Go.Proofs.YtcgfjjpnjoinkaaW.PrintLast Go.Proofs.YtcgfjjpnjoinkaaG Go.Proofs.Ytcgfjjpnjoinkaa.PCa
set_option linter.unusedVariables false
set_option linter.unusedSimpArgs false

theorem Settle_yes {N : Nat} {w : World} {cp : Nat} {m last : Int} {l : List Int} {v : Value} (h : Cr N w cp m last l v) (t : Int) (ht : 0 ≤ t) (all : Bool) (hs : l.length ≤ 1000000) (s r : List Int) (h1 : sel t all l = s) (h2 : stay s l = r) (h3 : ¬ (s = [] ∧ (all = false ∨ 0 < t))) :
    Calls Try.prog 9 #[.pointer (some ⟨cp, 0, none⟩), .int .u64 t, .bool all] w fun e w' => ∃ lv v', e = .returned (.tuple #[lv, .int .i64 0]) ∧ Tg w.heap.size w' lv s ∧ Cr N w' cp m last r v' ∧ Below N w w' := by
  subst h1 h2
  refine (Settle_is h t ht all hs).mono ?_
  rintro e w' (⟨a, b, -⟩ | ⟨-, c⟩)
  · exact absurd ⟨a, b⟩ h3
  · exact c
theorem Settle_no {N : Nat} {w : World} {cp : Nat} {m last : Int} {l : List Int} {v : Value} (h : Cr N w cp m last l v) (t : Int) (ht : 0 ≤ t) (all : Bool) (hs : l.length ≤ 1000000) (h3 : sel t all l = [] ∧ (all = false ∨ 0 < t)) :
    Calls Try.prog 9 #[.pointer (some ⟨cp, 0, none⟩), .int .u64 t, .bool all] w fun e w' => e = .returned (.tuple #[.slice none 0 0, .int .i64 406]) ∧ Below w.heap.size w w' := by
  refine (Settle_is h t ht all hs).mono ?_
  rintro e w' (⟨-, -, c⟩ | ⟨c, -⟩)
  · exact c
  · exact absurd h3 c

theorem Free_at {N : Nat} {w : World} {cp : Nat} {m last : Int} {l : List Int} {v : Value} (h : Cr N w cp m last l v) (hs : l.length ≤ 1000000) (h0 : 0 ≤ m) (h1 : m ≤ 65535) (k : Int) (hk : mx (mostP m - l.length) = k) :
    Calls Try.prog 8 #[.pointer (some ⟨cp, 0, none⟩)] w fun e w' => e = .returned (.int .i64 k) ∧ Below w.heap.size w w' := by
  subst hk
  exact Free_is h hs h0 h1
theorem at0 {N : Nat} {w : World} {g d : Nat} {x : Int} {r : List Int} {n : Nat} (h : Tg N w (.slice (some ⟨g, 0, none⟩) n d) (x :: r)) : w.cell? ⟨g, 0, none⟩ = some (.int .u64 x) := by
  obtain ⟨hn, -, -⟩ := Kd.R_reads' h
  have := (Kd.R_celln 0 h 0 (by decide) (by rw [hn, List.length_cons]; omega)).1
  exact this

set_option maxHeartbeats 8000000 in
theorem told_is (w : World) : Calls Try.prog 10 #[] w fun e w' => e = .returned (.bool true) ∧ Below w.heap.size w w' := by
  go_enter Try.func10, Try.ntmps10
  go_wp2_with (first
    | (go_at_call 5; with_reducible refine (New_ok 1 (by decide) (by decide) _).mono ?_; rintro e w1 ⟨cp, rfl, -, hc, hb⟩; have HCa := Aside0.mk hc; have HBa := Aside0.mk hb; clear hc hb)
    | (go_at_call 5; with_reducible refine (New_no (-1) (by decide) _).mono ?_; rintro e w8 ⟨rfl, hb⟩; have HBh := Aside0.mk (thn HBg.out hb); clear hb)
    | (go_at_call 6; with_reducible refine (Take_ok HCa.out 5 (by decide) (by decide) (by decide)).mono ?_; rintro e w2 ⟨rfl, ⟨v2, hc⟩, hb⟩; replace hc : Cr _ _ _ 1 5 [5] v2 := hc; have HCb := Aside0.mk hc; have HBb := Aside0.mk (HBa.out.trans hb); clear hc hb)
    | (go_at_call 6; with_reducible refine (Take_full HCb.out 6 (by decide) (by decide)).mono ?_; rintro e w3 ⟨rfl, hb⟩; have HCc := Aside0.mk (HCb.out.below hb); have HBc := Aside0.mk (thn HBb.out hb); clear hb)
    | (go_at_call 9; with_reducible refine (Settle_yes HCc.out 9 (by decide) true (by decide) [5] [] (by decide) (by decide) (by decide)).mono ?_; rintro e w4 ⟨lv, v4, rfl, hv, hc, hb⟩; have HCd := Aside0.mk hc; have HBd := Aside0.mk (HBc.out.trans hb); clear hb hc; obtain ⟨g, d, hf⟩ : ∃ g d, lv = .slice (some ⟨g, 0, none⟩) 1 d := by { obtain ⟨g, d, rfl, -⟩ := Kd.R_form hv (by decide); exact ⟨g, d, rfl⟩ }; subst hf; have HVd := Aside0.mk hv; clear hv)
    | (go_at_call 9; with_reducible refine (Settle_no HCd.out 5 (by decide) false (by decide) ⟨rfl, .inl rfl⟩).mono ?_; rintro e w5 ⟨rfl, hb⟩; have HCe := Aside0.mk (HCd.out.below hb); have HBe := Aside0.mk (thn HBd.out hb); have hx : w5.cell? ⟨g, 0, none⟩ = some (.int .u64 5) := at0 (Kd.R_below HVd.out hb); clear hb)
    | (go_at_call 6; with_reducible refine (Take_old HCe.out 5 (by decide)).mono ?_; rintro e w6 ⟨rfl, rfl⟩)
    | (go_at_call 8; with_reducible refine (Free_at HCe.out (by decide) (by decide) (by decide) 1 (by decide)).mono ?_; rintro e w10 ⟨rfl, hb⟩; have HCf := Aside0.mk (HCe.out.below hb); have HBf := Aside0.mk (thn HBe.out hb); clear hb)
    | (go_at_call 7; with_reducible refine (Open_is HCf.out (by decide)).mono ?_; rintro e w7 ⟨v7, rfl, hv, hb⟩; obtain ⟨A7, c7, rfl, -, -⟩ := Kd.R_reads hv; have HBg := Aside0.mk (thn HBf.out hb); clear hb hv)
    | (go_at_call 6; with_reducible refine (Take_nil 1 _).mono ?_; rintro e w9 ⟨rfl, rfl⟩)
    | (go_at_call 8; with_reducible refine (Free_nil _).mono ?_; rintro e w9 ⟨rfl, rfl⟩)
    | (go_at_call 12; with_reducible refine (Limit_nil 1 _).mono ?_; rintro e w9 ⟨rfl, rfl⟩))
  go_ret
  exact ⟨rfl, HBh.out⟩
end Go.Proofs.Ytcgfjjpnjoinkaa.Cr
