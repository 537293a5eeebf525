/-
  The credit's Open and Free; slices.Clone, Index, Contains, the closure in Settle: their contracts.
  Conditions: none.
-/
import Derived.Test.YtcgfjjpnjoinkaaCs
import Derived.Lib.SliceRun
namespace Go.Proofs.Ytcgfjjpnjoinkaa.Cr
open Go.RowKit Go.Proofs.YtcgfjjpnjoinkaaW.PrintWords Go.Proofs.YtcgfjjpnjoinkaaW.PrintLast Go.Proofs.YtcgfjjpnjoinkaaG Go.Proofs.Ytcgfjjpnjoinkaa.PCa
set_option linter.unusedVariables false
set_option linter.unusedSimpArgs false
attribute [local go_sem] mx_max

/-! ### slices.Clone -/
theorem Clone_is (A : Option Addr) (c : Nat) (l : List Int) (w : World) (hr : Kd.C (Kd.int .u64) w A l.length l) (hl : l.length ≤ 1000000) :
    Calls Try.prog 15 #[.slice A l.length c] w fun e w' => ∃ v, e = .returned v ∧ Tg w.heap.size w' v l ∧ Below w.heap.size w w' := by
  have HR := Aside0.mk hr
  have HL := Aside0.mk hl
  have q27 : ∀ (w : World) (a : Option Addr) (n c n' c' : Nat), (binOp .eql 27 (.slice a n c) (.slice none n' c')).run Try.prog w = .ok (.bool a.isNone) w := fun w a n c n' c' => Lib.run_eql_slice_nil w _ _ a n c n' c' Try.underlying27
  clear hr hl
  cases A with
  | none =>
    obtain rfl : l = [] := by
      have := HR.out
      cases l with
      | nil => rfl
      | cons x r => 
        obtain ⟨ad, h, _⟩ := Kd.at_int HR.out 0 (by decide) (by simp)
        cases h
    go_enter Try.func15, Try.ntmps15
    go_wp2
    go_ret
    exact ⟨_, rfl, Kd.R_nil _ _ _ _ _, Below.refl _ _⟩
  | some ad =>
    go_enter Try.func15, Try.ntmps15
    go_wp2_with (at_builtin; refine halt_here ?_)
    refine Hid.mk ?_
    have h0 : Tg w.heap.size (w.alloc (.cells #[] 26)) (.slice (some ⟨w.heap.size, 0, none⟩) 0 0) [] := Kd.R_of_own (World.ownsRow_made w #[] 0 (Nat.le_refl _) (Nat.zero_le _) (by simp)) (fun _ _ => trivial)
    refine append_tg rfl (.tmp 5) (.tmp 6) rfl w.heap.size _ [] l (some ad) l.length c rfl rfl rfl h0 (Kd.C_alloc HR.out _) (below_alloc (Below.refl w.heap.size w) _).size (by have := HL.out; simp; omega) ?_
    intro v1 w1 ho hg hb
    rw [List.nil_append] at ho
    have HO := Aside0.mk ho
    have HB := Aside0.mk ((below_alloc (Below.refl w.heap.size w) (.cells #[] 26)).trans hb)
    obtain ⟨A2, c2, rfl, -, -⟩ := Kd.R_reads ho
    clear ho hb hg h0
    go_wp2
    go_ret
    exact ⟨_, rfl, HO.out, HB.out⟩

/-! ### Open, Free -/
theorem Open_is {N : Nat} {w : World} {cp : Nat} {m last : Int} {l : List Int} {v : Value} (h : Cr N w cp m last l v) (hs : l.length ≤ 1000000) :
    Calls Try.prog 7 #[.pointer (some ⟨cp, 0, none⟩)] w fun e w' => ∃ v', e = .returned v' ∧ Tg w.heap.size w' v' l ∧ Below w.heap.size w w' := by
  obtain ⟨A, c, rfl, -, hC⟩ := Kd.R_reads h.ro
  have HC := Aside0.mk hC
  have HS := Aside0.mk hs
  have hc2 := h.c2
  clear h hC hs
  go_enter Try.func7, Try.ntmps7
  go_wp2_with (go_at_call 15; refine (Clone_is A c l _ HC.out HS.out).mono ?_; rintro e w1 ⟨v1, rfl, ho, hb⟩; have HO := Aside0.mk ho; have HB := Aside0.mk hb; clear hb; obtain ⟨A2, c2, rfl, -, -⟩ := Kd.R_reads ho; clear ho)
  go_ret
  exact ⟨_, rfl, HO.out, HB.out⟩
theorem Free_is {N : Nat} {w : World} {cp : Nat} {m last : Int} {l : List Int} {v : Value} (h : Cr N w cp m last l v) (hs : l.length ≤ 1000000) (h0 : 0 ≤ m) (h1 : m ≤ 65535) :
    Calls Try.prog 8 #[.pointer (some ⟨cp, 0, none⟩)] w fun e w' => e = .returned (.int .i64 (mx (mostP m - l.length))) ∧ Below w.heap.size w w' := by
  obtain ⟨A, c, rfl, -, -⟩ := Kd.R_reads h.ro
  have HC := Aside0.mk h
  have hc2 := h.c2
  obtain ⟨k, hk⟩ : ∃ k, mostP m = k := ⟨_, rfl⟩
  rw [hk]
  have hw : IntKind.i64.wrap (k - (l.length : Int)) = k - l.length := by
    rw [show IntKind.i64.wrap (k - (l.length : Int)) = wrap64 (k - l.length) from by simp [IntKind.wrap, wrap64, IntKind.bits, IntKind.signed]; split <;> omega]
    exact w64 _ (by unfold mostP at hk; split at hk <;> omega) (by unfold mostP at hk; split at hk <;> omega)
  have HK := Aside0.mk hk
  clear h hk hs h0 h1
  go_enter Try.func8, Try.ntmps8
  go_upto_region 3 with fail
  go_region_held3 (fun w' => Below w.heap.size w w' ∧ w'.cell? ⟨cp, 2, none⟩ = some (.slice A l.length c)) (exact ⟨by repeat (first | exact Below.refl _ _ | apply Below.drew), hc2⟩) ((go_at_call 14; refine (most_is (HC.out.below (by repeat (first | exact Below.refl _ _ | apply Below.drew))) k HK.out).mono ?_; rintro e w3 ⟨rfl, rfl⟩))
  all_goals
   go_wp2
   go_ret
   exact ⟨rfl, by repeat (first | exact Below.refl _ _ | apply Below.drew)⟩

/-! ### slices.Index, slices.Contains -/
/-- Where x first stands, or -1. -/
def ixI (x : Int) : List Int → Int → Int
  | [], _ => -1
  | y :: r, i => if x = y then i else ixI x r (i + 1)
theorem rd_in (l : List Int) (i : Nat) (h : i < l.length) : rd l (i : Int) = l[i] := by
  simp [rd, rdOf, h]
theorem Index_is (A : Option Addr) (c : Nat) (l : List Int) (x : Int) (w : World) (hr : Kd.C (Kd.int .u64) w A l.length l) (hl : l.length ≤ 1000000) :
    Calls Try.prog 20 #[.slice A l.length c, .int .u64 x] w fun e w' => (∃ r : Int, e = .returned (.int .i64 r) ∧ (0 ≤ r ↔ x ∈ l)) ∧ w' = w := by
  have HR := Aside0.mk hr
  have HL := Aside0.mk hl
  clear hr hl
  go_enter Try.func20, Try.ntmps20
  go_wp2
  go_loopg [5, 8] l.length (fun g v5 v8 wr => ∃ (i : Nat), v8 = .int .i64 i ∧ g + i = l.length ∧ wr = w ∧ Aside0 (x ∉ l.take i))
  case atStart => exact ⟨0, rfl, by omega, rfl, ⟨by simp⟩⟩
  case round =>
    obtain ⟨i, rfl, hgi, rfl, HX⟩ := hrel
    cases gk with
    | zero =>
      have hi : ¬ ((i : Int) < (l.length : Int)) := by omega
      have HI := Aside0.mk hgi
      clear hgi
      go_wp2
      go_ret
      refine ⟨⟨-1, rfl, ?_⟩, rfl⟩
      have := HX.out
      rw [List.take_of_length_le (by have := HI.out; omega)] at this
      exact ⟨fun h => absurd h (by decide), fun h => absurd h this⟩
    | succ g1 =>
      have hi : (i : Int) < (l.length : Int) := by omega
      have hi0 : 0 ≤ (i : Int) := by omega
      have hin : i < l.length := by omega
      obtain ⟨ad, e1, hx⟩ := Kd.at_int HR.out i hi0 hi
      cases e1
      obtain ⟨y, hy⟩ : ∃ y, rd l (i : Int) = y := ⟨_, rfl⟩
      rw [hy, Int.toNat_natCast] at hx
      rw [rd_in l i hin] at hy
      have HI := Aside0.mk hgi
      have HN := Aside0.mk hin
      have HY : Aside0 (l[i]? = some y) := ⟨by rw [List.getElem?_eq_getElem hin, hy]⟩
      have hw : wrap64 ((i : Int) + 1) = (i : Int) + 1 := w64 _ (by omega) (by have := HL.out; omega)
      clear hgi hy
      clear hin
      by_cases c1 : x = y
      · subst c1
        go_wp2
        go_ret
        exact ⟨⟨(i : Int), rfl, ⟨fun _ => List.mem_of_getElem? HY.out, fun _ => by omega⟩⟩, rfl⟩
      · have C1 := Aside0.mk c1
        have c2 : (x == y) = false := beq_eq_false_iff_ne.2 c1
        clear c1
        go_wp2
        go_roundg g1
        case measure => omega
        case rel => 
          refine ⟨i + 1, by rw [hw, Int.natCast_add]; rfl, by have := HI.out; omega, rfl, ⟨?_⟩⟩
          rw [List.take_add_one, HY.out]
          simp only [Option.toList_some, List.mem_append, List.mem_singleton, not_or]
          exact ⟨HX.out, C1.out⟩
theorem Contains_is (A : Option Addr) (c : Nat) (l : List Int) (x : Int) (w : World) (hr : Kd.C (Kd.int .u64) w A l.length l) (hl : l.length ≤ 1000000) :
    Calls Try.prog 18 #[.slice A l.length c, .int .u64 x] w fun e w' => e = .returned (.bool (decide (x ∈ l))) ∧ w' = w := by
  have HR := Aside0.mk hr
  have HL := Aside0.mk hl
  clear hr hl
  obtain ⟨b, HB⟩ : ∃ b, Aside0 (b = decide (x ∈ l)) := ⟨_, ⟨rfl⟩⟩
  rw [← HB.out]
  go_enter Try.func18, Try.ntmps18
  cases b with
  | true =>
    have hb : x ∈ l := by simpa using HB.out.symm
    have HH := Aside0.mk hb
    clear hb HB
    go_wp2_with (go_at_call 20; refine (Index_is A c l x _ HR.out HL.out).mono ?_; rintro e w1 ⟨⟨r, rfl, hr⟩, rfl⟩; have hr0 : (0 ≤ r) = True := eq_true (hr.2 HH.out); clear hr)
    go_ret
    exact ⟨rfl, rfl⟩
  | false =>
    have hb : ¬ x ∈ l := by simpa using HB.out.symm
    have HH := Aside0.mk hb
    clear hb HB
    go_wp2_with (go_at_call 20; refine (Index_is A c l x _ HR.out HL.out).mono ?_; rintro e w1 ⟨⟨r, rfl, hr⟩, rfl⟩; have hr0 : (0 ≤ r) = False := eq_false (fun h => HH.out (hr.1 h)); clear hr)
    go_ret
    exact ⟨rfl, rfl⟩

/-! ### the closure in Settle -/
theorem Sel_is (lp : Nat) (A : Option Addr) (c : Nat) (l : List Int) (x : Int) (w : World) (hp : w.cell? ⟨lp, 0, none⟩ = some (.slice A l.length c)) (hr : Kd.C (Kd.int .u64) w A l.length l) (hl : l.length ≤ 1000000) :
    Calls Try.prog 17 #[.int .u64 x, .pointer (some ⟨lp, 0, none⟩)] w fun e w' => e = .returned (.bool (decide (x ∈ l))) ∧ w' = w := by
  have HR := Aside0.mk hr
  have HL := Aside0.mk hl
  clear hr hl
  obtain ⟨b, HB⟩ : ∃ b, Aside0 (b = decide (x ∈ l)) := ⟨_, ⟨rfl⟩⟩
  rw [← HB.out]
  go_enter Try.func17, Try.ntmps17
  go_wp2_with (go_at_call 18; refine (Contains_is A c l x _ HR.out HL.out).mono ?_; rintro e w1 ⟨rfl, rfl⟩; rw [← HB.out])
  go_ret
  exact ⟨rfl, rfl⟩
end Go.Proofs.Ytcgfjjpnjoinkaa.Cr
