/-
  The table's May: its closure, slices.IndexFunc and ContainsFunc at it; their contracts.
  Conditions: none.
-/
import Derived.Test.YtbkamlkmimfomaaPb
import Derived.Test.YtbkamlkmimfomaaPGax0
import Derived.Test.YtbkamlkmimfomaaPGax1
import Derived.Lib.SliceRun
import Derived.Deep.RegionWith
namespace Go.Proofs.Ytbkamlkmimfomaa
open Go.RowKit Go.Proofs.YtbkamlkmimfomaaW.PrintWords Go.Proofs.YtbkamlkmimfomaaW.PrintLast Go.Proofs.YtbkamlkmimfomaaFl Go.Proofs.YtbkamlkmimfomaaG Go.Proofs.Ytbkamlkmimfomaa.PGa
set_option linter.unusedVariables false
set_option linter.unusedSimpArgs false

theorem wr64 (x : Int) (h0 : -1099511627776 ≤ x) (h1 : x ≤ 1099511627776) : wrap64 x = x := by
  unfold wrap64
  omega
/-- Where the first such element stands, or -1. -/
def idxI {α : Type} (p : α → Bool) (l : List α) : Int := match l.findIdx? p with
  | some k => (k : Int)
  | none => -1
theorem idxI_none {α : Type} {p : α → Bool} {l : List α} (h : ∀ x ∈ l, p x = false) : idxI p l = -1 := by
  unfold idxI
  rw [List.findIdx?_eq_none_iff.2 h]
theorem idxI_at {α : Type} {p : α → Bool} {l : List α} {k : Nat} {y : α} (hy : l[k]? = some y) (h1 : p y = true) (h0 : ∀ x ∈ l.take k, p x = false) : idxI p l = k := by
  have hk := (List.getElem?_eq_some_iff.1 hy).1
  have e : l.findIdx? p = some k := by
    rw [List.findIdx?_eq_some_iff_getElem]
    refine ⟨hk, ?_, ?_⟩
    · rw [← h1, ← (List.getElem?_eq_some_iff.1 hy).2]
    · intro j hj
      have := h0 (l[j]'(Nat.lt_trans hj hk)) (by rw [List.mem_take_iff_getElem]; exact ⟨j, by omega, rfl⟩)
      simp [this]
  unfold idxI
  rw [e]
theorem idxI_any {α : Type} (p : α → Bool) (l : List α) : decide (idxI p l ≥ 0) = l.any p := by
  unfold idxI
  cases h : l.findIdx? p with
  | none =>
    have := List.findIdx?_eq_none_iff.1 h
    rw [List.any_eq_false.2 (fun x hx => by simp [this x hx])]
    rfl
  | some k =>
    obtain ⟨hk, h1, -⟩ := List.findIdx?_eq_some_iff_getElem.1 h
    rw [List.any_eq_true.2 ⟨_, List.getElem_mem hk, h1⟩]
    simp
theorem rd46_at (l : List S46) (i : Nat) (h : i < l.length) : l[i]? = some (rd_T46 l (i : Int)) := by
  simp [rd_T46, h]
theorem take_snoc {α : Type} (l : List α) (i : Nat) (y : α) (h : l[i]? = some y) : l.take (i + 1) = l.take i ++ [y] := by
  rw [List.take_add_one, h]
  rfl
theorem none_snoc {α : Type} {p : α → Bool} {l : List α} {i : Nat} {y : α} (h : ∀ x ∈ l.take i, p x = false) (hy : l[i]? = some y) (hp : p y = false) : ∀ x ∈ l.take (i + 1), p x = false := by
  rw [take_snoc l i y hy]
  intro x hx
  rcases List.mem_append.1 hx with h1 | h1
  · exact h x h1
  · obtain rfl := List.mem_singleton.1 h1
    exact hp
abbrev vA (x : S46) : Value := .agg #[.int .u32 x.f0, .int .i64 x.f1]
abbrev cT (ep : Int) (A1 : Option Addr) (n1 c1 : Nat) (A2 : Option Addr) (n2 c2 : Nat) : Array Value := #[.int .i64 ep, .slice A1 n1 c1, .slice A2 n2 c2]
/-- An arc of a shard that no node has. -/
def mayArc (ns : List Int) (x : S46) : Bool := decide ((ns.length : Int) ≤ x.f1) || decide (rd ns x.f1 < 0)

set_option maxHeartbeats 4000000 in
theorem May2_is (gb : Nat) (ep : Int) (A1 : Option Addr) (n1 c1 : Nat) (A2 : Option Addr) (c2 : Nat) (ns : List Int) (x : S46) (w : World) (hp : w.heap[gb]? = some (.cells (cT ep A1 n1 c1 A2 ns.length c2) 25 (0, 0))) (hr : Kd.C (Kd.int .i64) w A2 ns.length ns) (hx : 0 ≤ x.f1) :
    Calls Try.prog 46 #[vA x, .pointer (some ⟨gb, 0, none⟩)] w fun e w' => e = .returned (.bool (mayArc ns x)) ∧ Below w.heap.size w w' := by
  have HP := Aside0.mk hp
  have HR := Aside0.mk hr
  have hu := Try.underlying25
  have hu46 := Try.underlying46
  have HF : Aside0 (mayArc ns x = (decide ((ns.length : Int) ≤ x.f1) || decide (rd ns x.f1 < 0))) := ⟨rfl⟩
  clear hp hr
  by_cases c : (ns.length : Int) ≤ x.f1
  · rw [decide_eq_true c, Bool.true_or] at HF
    rw [HF.out]
    have d : decide ((ns.length : Int) ≤ x.f1) = true := decide_eq_true c
    go_enter Try.func46, Try.ntmps46
    go_wp2_with (first | ((with_reducible refine gate_dst (N := 2) rfl ?_); refine box_event ?hg (N := 2) ?hd (cs := #[.int .u32 x.f0, .int .i64 x.f1]) (t := 46) ?hr ?_; (case hd => rfl); (case hg => rfl); (case hr => first | (go_simp; done) | (go_simp; rfl)); intro g2 hg w2 hbox hb; have HB := Aside0.mk hb; have hX := (hb.block gb (blk_lt HP.out)).trans HP.out; have h0 : w2.cell? ⟨g2, 1, none⟩ = some (.int .i64 x.f1) := (blk_cell hbox 1).trans rfl; have h1 : w2.cell? ⟨gb, 2, none⟩ = some (.slice A2 ns.length c2) := (blk_cell hX 2).trans rfl; clear hb hbox hg hX))
    go_ret
    exact ⟨rfl, HB.out⟩
  · have d : decide ((ns.length : Int) ≤ x.f1) = false := decide_eq_false c
    rw [d, Bool.false_or] at HF
    rw [HF.out]
    have hlt : x.f1 < (ns.length : Int) := by omega
    obtain ⟨ad, e2, hc⟩ := Kd.at_int HR.out x.f1 hx hlt
    cases e2
    have HC := Aside0.mk hc
    have hx' := eq_true hx
    have hlt' := eq_true hlt
    have he : (x.f1 < 0) = False := eq_false (by omega)
    clear hc c
    go_enter Try.func46, Try.ntmps46
    go_wp2_with (first | ((with_reducible refine gate_dst (N := 2) rfl ?_); refine box_event ?hg (N := 2) ?hd (cs := #[.int .u32 x.f0, .int .i64 x.f1]) (t := 46) ?hr ?_; (case hd => rfl); (case hg => rfl); (case hr => first | (go_simp; done) | (go_simp; rfl)); intro g2 hg w2 hbox hb; have HB := Aside0.mk hb; have hX := (hb.block gb (blk_lt HP.out)).trans HP.out; have h0 : w2.cell? ⟨g2, 1, none⟩ = some (.int .i64 x.f1) := (blk_cell hbox 1).trans rfl; have h1 : w2.cell? ⟨gb, 2, none⟩ = some (.slice (some ad) ns.length c2) := (blk_cell hX 2).trans rfl; have h2 := (hb.cell (World.block_lt_of_cell? w _ HC.out)).trans HC.out; clear hb hbox hg hX))
    go_ret
    exact ⟨rfl, HB.out⟩
theorem eMay2 (args : Array Value) (w : World) : (callFunc 46 args).run Try.prog w = .ok (.enter 46 args) w := enters_ Try.func46 (by kernel_rfl) rfl args w
set_option maxHeartbeats 4000000 in
theorem IxMay2_is (A : Option Addr) (c : Nat) (l : List S46) (gb : Nat) (ep : Int) (A1 : Option Addr) (n1 c1 : Nat) (A2 : Option Addr) (c2 : Nat) (ns : List Int) (w : World) (hr : Kd.C k46 w A l.length l) (hl : l.length ≤ 1000000) (hp : w.heap[gb]? = some (.cells (cT ep A1 n1 c1 A2 ns.length c2) 25 (0, 0))) (hrn : Kd.C (Kd.int .i64) w A2 ns.length ns) (hxs : ∀ x ∈ l, 0 ≤ x.f1) :
    Calls Try.prog 58 #[.slice A l.length c, .func (.func 46) #[] #[.pointer (some ⟨gb, 0, none⟩)]] w fun e w' => e = .returned (.int .i64 (idxI (mayArc ns) l)) ∧ Below w.heap.size w w' := by
  have HR := Aside0.mk hr
  have HL := Aside0.mk hl
  have HP := Aside0.mk hp
  have HRN := Aside0.mk hrn
  have HXS := Aside0.mk hxs
  have e17 := eMay2
  have hu := Try.underlying46
  clear hr hl hp hrn hxs
  go_enter Try.func58, Try.ntmps58
  go_wp2
  go_loopg [5, 8] l.length (fun g v5 v8 wr => ∃ (i : Nat), v8 = .int .i64 i ∧ g + i = l.length ∧ Aside0 (Below w.heap.size w wr) ∧ Aside0 (∀ x ∈ l.take i, mayArc ns x = false))
  case atStart => exact ⟨0, rfl, by omega, ⟨Below.refl _ _⟩, ⟨by simp⟩⟩
  case round =>
    obtain ⟨i, rfl, hgi, HB, HX⟩ := hrel
    cases gk with
    | zero =>
      have hi : ¬ ((i : Int) < (l.length : Int)) := by omega
      have HI := Aside0.mk hgi
      clear hgi
      go_wp2
      go_ret
      refine ⟨?_, HB.out⟩
      have := HX.out
      rw [List.take_of_length_le (by have := HI.out; omega)] at this
      rw [idxI_none this]
      rfl
    | succ g1 =>
      have hi : (i : Int) < (l.length : Int) := by omega
      have hi0 : 0 ≤ (i : Int) := by omega
      have hin : i < l.length := by omega
      obtain ⟨ad, e1, hx0, hx1⟩ := at_T46 HR.out i hi0 hi
      cases e1
      obtain ⟨y, hy⟩ : ∃ y, rd_T46 l (i : Int) = y := ⟨_, rfl⟩
      have HY : Aside0 (l[i]? = some y) := ⟨by rw [← hy]; exact rd46_at l i hin⟩
      have HY0 : Aside0 (0 ≤ y.f1) := ⟨HXS.out y (List.mem_of_getElem? HY.out)⟩
      rw [hy, Int.toNat_natCast] at hx0 hx1
      replace hx0 := (HB.out.cell (World.block_lt_of_cell? w _ hx0)).trans hx0
      replace hx1 := (HB.out.cell (World.block_lt_of_cell? w _ hx1)).trans hx1
      have HI := Aside0.mk hgi
      have HN := Aside0.mk hin
      have hw : wrap64 ((i : Int) + 1) = (i : Int) + 1 := wr64 _ (by omega) (by have := HL.out; omega)
      clear hgi hy hin
      cases c1 : mayArc ns y with
      | true =>
        have C1 := Aside0.mk c1
        clear c1
        go_wp2_with (go_at_call 46; refine (May2_is gb ep A1 n1 _ A2 c2 ns y _ ((HB.out.block gb (blk_lt HP.out)).trans HP.out) (Kd.C_below HRN.out HB.out) HY0.out).mono ?_; rintro e w1 ⟨rfl, hb⟩; have HB1 := Aside0.mk (thn5 HB.out hb); clear hb; rw [C1.out])
        go_ret
        exact ⟨by rw [idxI_at HY.out C1.out HX.out]; rfl, HB1.out⟩
      | false =>
        have C1 := Aside0.mk c1
        clear c1
        go_wp2_with (go_at_call 46; refine (May2_is gb ep A1 n1 _ A2 c2 ns y _ ((HB.out.block gb (blk_lt HP.out)).trans HP.out) (Kd.C_below HRN.out HB.out) HY0.out).mono ?_; rintro e w1 ⟨rfl, hb⟩; have HB1 := Aside0.mk (thn5 HB.out hb); clear hb; rw [C1.out])
        go_roundg g1
        case measure => omega
        case rel => exact ⟨i + 1, by rw [hw, Int.natCast_add]; rfl, by have := HI.out; omega, HB1, ⟨none_snoc HX.out HY.out C1.out⟩⟩
theorem CfMay2_is (A : Option Addr) (c : Nat) (l : List S46) (gb : Nat) (ep : Int) (A1 : Option Addr) (n1 c1 : Nat) (A2 : Option Addr) (c2 : Nat) (ns : List Int) (w : World) (hr : Kd.C k46 w A l.length l) (hl : l.length ≤ 1000000) (hp : w.heap[gb]? = some (.cells (cT ep A1 n1 c1 A2 ns.length c2) 25 (0, 0))) (hrn : Kd.C (Kd.int .i64) w A2 ns.length ns) (hxs : ∀ x ∈ l, 0 ≤ x.f1) :
    Calls Try.prog 45 #[.slice A l.length c, .func (.func 46) #[] #[.pointer (some ⟨gb, 0, none⟩)]] w fun e w' => e = .returned (.bool (l.any (mayArc ns))) ∧ Below w.heap.size w w' := by
  have HR := Aside0.mk hr
  have HL := Aside0.mk hl
  have HP := Aside0.mk hp
  have HRN := Aside0.mk hrn
  have HXS := Aside0.mk hxs
  have HA : Aside0 (decide (idxI (mayArc ns) l ≥ 0) = l.any (mayArc ns)) := ⟨idxI_any _ _⟩
  clear hr hl hp hrn hxs
  rw [← HA.out]
  go_enter Try.func45, Try.ntmps45
  go_wp2_with (go_at_call 58; refine (IxMay2_is A c l gb ep A1 n1 c1 A2 c2 ns _ HR.out HL.out HP.out HRN.out HXS.out).mono ?_; rintro e w1 ⟨rfl, hb⟩; have HB1 := Aside0.mk hb; clear hb)
  go_ret
  exact ⟨rfl, HB1.out⟩

/-! ### May -/
instance ltAll (n : Nat) (p : Nat → Prop) [DecidablePred p] : Decidable (∀ i, i < n → p i) := decidable_of_iff ((List.range n).all (fun i => decide (p i)) = true) (by simp)
/-- An arc that may be where it stands. -/
def ringAt (l : List S46) (i : Nat) : Bool := !(decide ((rd_T46 l (i : Int)).f1 < 0) || decide (16 ≤ (rd_T46 l (i : Int)).f1) || (decide (0 < i) && decide ((rd_T46 l (i : Int)).f0 ≤ (rd_T46 l ((i : Int) - 1)).f0)))
def ringB (l : List S46) : Bool := decide (1 ≤ l.length ∧ l.length ≤ 1024) && decide (∀ i, i < l.length → ringAt l i = true)
theorem ring_loop (l : List S46) (hl : l.length ≤ 1024) : ∀ n i : Nat, i + n = l.length → (∀ j, j < i → ringAt l j = true) → ∃ k, ring_May.l1 k l l (l.length : Int) (i : Int) = some (decide (∀ i, i < l.length → ringAt l i = true))
  | 0, i, hi, hj => ⟨1, by
    have h0 : ¬ ((i : Int) < (l.length : Int)) := by omega
    unfold ring_May.l1
    rw [if_neg h0, decide_eq_true]
    intro j h
    exact hj j (by omega)⟩
  | n + 1, i, hi, hj => by
    have h0 : (i : Int) < (l.length : Int) := by omega
    have h1 : (0 : Int) ≤ (i : Int) := by omega
    have hw : wrap64 ((i : Int) - 1) = (i : Int) - 1 := wr64 _ (by omega) (by omega)
    have hw1 : wrap64 ((i : Int) + 1) = ((i + 1 : Nat) : Int) := (wr64 _ (by omega) (by omega)).trans (by omega)
    -- the test's answer
    have hT : ∀ k, ring_May.l1 (k + 1) l l (l.length : Int) (i : Int) = ring_May.j2 k l l (l.length : Int) (i : Int) (!ringAt l i) := by
      intro k
      rw [ring_May.l1, if_pos h0, if_pos h1, if_pos h0]
      unfold ringAt
      by_cases a : (rd_T46 l (i : Int)).f1 < 0
      · rw [if_pos a, decide_eq_true a]
        rfl
      · rw [if_neg a, decide_eq_false a]
        by_cases b : (16 : Int) ≤ (rd_T46 l (i : Int)).f1
        · rw [if_pos b, decide_eq_true b]
          rfl
        · rw [if_neg b, decide_eq_false b]
          by_cases c : 0 < i
          · rw [if_pos (show (i : Int) > 0 by omega), hw, if_pos (show (0 : Int) ≤ (i : Int) - 1 by omega), if_pos (show (i : Int) - 1 < (l.length : Int) by omega), decide_eq_true c]
            simp
          · rw [if_neg (show ¬ (i : Int) > 0 by omega), decide_eq_false c]
            rfl
    cases hr : ringAt l i with
    | false =>
      refine ⟨2, ?_⟩
      rw [hT, hr, ring_May.j2, if_pos (by decide), decide_eq_false]
      intro h
      have := h i (by omega)
      rw [hr] at this
      cases this
    | true =>
      obtain ⟨k, hk⟩ := ring_loop l hl n (i + 1) (by omega) (fun j h => by
        rcases Nat.lt_succ_iff_lt_or_eq.1 h with h2 | rfl
        · exact hj j h2
        · exact hr)
      refine ⟨k + 2, ?_⟩
      rw [hT, hr, ring_May.j2, if_neg (by decide), hw1, hk]
theorem ring_f (l : List S46) : ∃ k, ring_May.f k l = some (ringB l) := by
  unfold ringB
  by_cases a : l.length < 1
  · refine ⟨1, ?_⟩
    rw [ring_May.f, if_pos (show (l.length : Int) < 1 by omega), ring_May.j0, if_pos rfl, decide_eq_false (fun h => by omega)]
    rfl
  · by_cases b : 1024 < l.length
    · refine ⟨1, ?_⟩
      rw [ring_May.f, if_neg (show ¬ (l.length : Int) < 1 by omega), ring_May.j0, if_pos (decide_eq_true (show (l.length : Int) > 1024 by omega)), decide_eq_false (fun h => by omega)]
      rfl
    · obtain ⟨k, hk⟩ := ring_loop l (by omega) l.length 0 (by omega) (fun j h => absurd h (by omega))
      refine ⟨k + 1, ?_⟩
      rw [ring_May.f, if_neg (show ¬ (l.length : Int) < 1 by omega), ring_May.j0, if_neg (by rw [decide_eq_false (show ¬ (l.length : Int) > 1024 by omega)]; decide), decide_eq_true (show 1 ≤ l.length ∧ l.length ≤ 1024 by omega)]
      exact hk
theorem Ring_is (A : Option Addr) (c : Nat) (l : List S46) (w : World) (hr : Kd.C k46 w A l.length l) (hc : l.length ≤ c) :
    Calls Try.prog 42 #[.slice A l.length c] w fun e w' => e = .returned (.bool (ringB l)) ∧ Below w.heap.size w w' := by
  obtain ⟨k, hk⟩ := ring_f l
  exact ring_May.calls k A c l _ w hr hc hk
theorem ringB_f1 {l : List S46} (h : ringB l = true) : (1 ≤ l.length ∧ l.length ≤ 1024) ∧ ∀ x ∈ l, 0 ≤ x.f1 ∧ x.f1 < 16 := by
  unfold ringB at h
  rw [Bool.and_eq_true] at h
  refine ⟨of_decide_eq_true h.1, fun x hx => ?_⟩
  obtain ⟨i, hi, rfl⟩ := List.mem_iff_getElem.1 hx
  have h2 := of_decide_eq_true h.2 i hi
  have e : rd_T46 l (i : Int) = l[i] := by
    have := rd46_at l i hi
    rw [List.getElem?_eq_getElem hi] at this
    exact (Option.some.inj this).symm
  unfold ringAt at h2
  rw [e] at h2
  simp only [Bool.not_eq_true', Bool.or_eq_false_iff, decide_eq_false_iff_not] at h2
  omega
/-- A node that none can be. -/
def badN (n : Int) : Bool := decide (n < -1) || decide (4 ≤ n)
theorem bad_f (n : Int) : table_May_1.f n = some (badN n) := by
  unfold table_May_1.f badN
  by_cases h : n < -1
  · rw [if_pos h, decide_eq_true h]
    rfl
  · rw [if_neg h, decide_eq_false h]
    rfl
theorem nodes_loop (l : List Int) (hl : l.length ≤ 1000000) : ∀ n i : Nat, i + n = l.length → (∀ x ∈ l.take i, badN x = false) → ∃ k, slices_IndexFunc_int_int__table_May_1.l1 k l (l.length : Int) (i : Int) = some (idxI badN l)
  | 0, i, hi, hj => ⟨1, by
    have h0 : ¬ ((i : Int) < (l.length : Int)) := by omega
    rw [List.take_of_length_le (by omega)] at hj
    unfold slices_IndexFunc_int_int__table_May_1.l1
    rw [if_neg h0, idxI_none hj]⟩
  | n + 1, i, hi, hj => by
    have h0 : (i : Int) < (l.length : Int) := by omega
    have h1 : (0 : Int) ≤ (i : Int) := by omega
    have hw1 : wrap64 ((i : Int) + 1) = ((i + 1 : Nat) : Int) := (wr64 _ (by omega) (by omega)).trans (by omega)
    have hy : l[i]? = some (YtbkamlkmimfomaaW.PrintWords.rd l (i : Int)) := by simp [YtbkamlkmimfomaaW.PrintWords.rd, show i < l.length by omega]
    have hT : ∀ k, slices_IndexFunc_int_int__table_May_1.l1 (k + 1) l (l.length : Int) (i : Int) = if badN (rd l (i : Int)) = true then some (i : Int) else slices_IndexFunc_int_int__table_May_1.l1 k l (l.length : Int) ((i + 1 : Nat) : Int) := by
      intro k
      rw [slices_IndexFunc_int_int__table_May_1.l1, if_pos h0, if_pos h1, if_pos h0, bad_f, hw1]
      rfl
    cases hr : badN (rd l (i : Int)) with
    | true => exact ⟨1, by rw [hT, hr, if_pos rfl, idxI_at hy hr hj]⟩
    | false =>
      obtain ⟨k, hk⟩ := nodes_loop l hl n (i + 1) (by omega) (none_snoc hj hy hr)
      exact ⟨k + 1, by rw [hT, hr, if_neg (by decide), hk]⟩
theorem Nodes_is (A : Option Addr) (c : Nat) (l : List Int) (w : World) (hr : Kd.C (Kd.int .i64) w A l.length l) (hc : l.length ≤ c) (hl : l.length ≤ 1000000) :
    Calls Try.prog 43 #[.slice A l.length c, .func (.func 44) #[] #[]] w fun e w' => e = .returned (.bool (l.any badN)) ∧ Drawn0 w w' := by
  obtain ⟨k, hk⟩ := nodes_loop l hl l.length 0 (by omega) (by simp)
  refine slices_ContainsFunc_int_int__table_May_1.calls k A c l _ w hr hc ?_
  rw [slices_ContainsFunc_int_int__table_May_1.f, slices_IndexFunc_int_int__table_May_1.f]
  rw [show slices_IndexFunc_int_int__table_May_1.l1 k l (l.length : Int) 0 = _ from hk]
  exact congrArg some (idxI_any _ _)
/-- May a table be? -/
def mayT (ep : Int) (l : List S46) (ns : List Int) : Bool := !(decide (ep < 1) || (decide (1073741824 < ep) || (!ringB l || (decide ((ns.length : Int) < 1) || decide (16 < (ns.length : Int)))))) && (!ns.any badN && !l.any (mayArc ns))
set_option maxHeartbeats 8000000 in
theorem May_is (ep : Int) (A1 : Option Addr) (c1 : Nat) (l : List S46) (A2 : Option Addr) (c2 : Nat) (ns : List Int) (w : World) (hr1 : Kd.C k46 w A1 l.length l) (hc1 : l.length ≤ c1) (hr2 : Kd.C (Kd.int .i64) w A2 ns.length ns) (hc2 : ns.length ≤ c2) :
    Calls Try.prog 17 #[.agg (cT ep A1 l.length c1 A2 ns.length c2)] w fun e w' => e = .returned (.bool (mayT ep l ns)) ∧ Below w.heap.size w w' := by
  have HR1 := Aside0.mk hr1
  have HC1 := Aside0.mk hc1
  have HR2 := Aside0.mk hr2
  have HC2 := Aside0.mk hc2
  have hu := Try.underlying25
  have HF : Aside0 (Hid2 (mayT ep l ns = (!(decide (ep < 1) || (decide (1073741824 < ep) || (!ringB l || (decide ((ns.length : Int) < 1) || decide (16 < (ns.length : Int)))))) && (!ns.any badN && !l.any (mayArc ns))))) := ⟨⟨rfl⟩⟩
  clear hr1 hc1 hr2 hc2
  by_cases a1 : ep < 1
  · have d1 : decide (ep < 1) = true := decide_eq_true a1
    have HM : Aside0 (false = mayT ep l ns) := ⟨by rw [HF.out.out, d1]; rfl⟩
    clear a1
    go_enter Try.func17, Try.ntmps17
    go_wp2_with (first
      | ((with_reducible refine gate_dst (N := 1) rfl ?_); refine box_event ?hg (N := 1) ?hd (cs := cT ep A1 l.length c1 A2 ns.length c2) (t := 25) ?hr ?_; (case hd => rfl); (case hg => rfl); (case hr => first | (go_simp; done) | (go_simp; rfl)); intro g2 hg w2 hbox hb; have HB := Aside0.mk hb; have HX := Aside0.mk hbox; have h0 : w2.cell? ⟨g2, 0, none⟩ = some (.int .i64 ep) := (blk_cell hbox 0).trans rfl; have h1 : w2.cell? ⟨g2, 1, none⟩ = some (.slice A1 l.length c1) := (blk_cell hbox 1).trans rfl; have h2 : w2.cell? ⟨g2, 2, none⟩ = some (.slice A2 ns.length c2) := (blk_cell hbox 2).trans rfl; clear hb hbox hg))
    go_ret
    exact ⟨by rw [← HM.out]; rfl, HB.out⟩
  have d1 : decide (ep < 1) = false := decide_eq_false a1
  clear a1
  by_cases a2 : 1073741824 < ep
  · have d2 : decide (1073741824 < ep) = true := decide_eq_true a2
    have HM : Aside0 (false = mayT ep l ns) := ⟨by rw [HF.out.out, d1, d2]; rfl⟩
    clear a2
    go_enter Try.func17, Try.ntmps17
    go_wp2_with (first
      | ((with_reducible refine gate_dst (N := 1) rfl ?_); refine box_event ?hg (N := 1) ?hd (cs := cT ep A1 l.length c1 A2 ns.length c2) (t := 25) ?hr ?_; (case hd => rfl); (case hg => rfl); (case hr => first | (go_simp; done) | (go_simp; rfl)); intro g2 hg w2 hbox hb; have HB := Aside0.mk hb; have HX := Aside0.mk hbox; have h0 : w2.cell? ⟨g2, 0, none⟩ = some (.int .i64 ep) := (blk_cell hbox 0).trans rfl; have h1 : w2.cell? ⟨g2, 1, none⟩ = some (.slice A1 l.length c1) := (blk_cell hbox 1).trans rfl; have h2 : w2.cell? ⟨g2, 2, none⟩ = some (.slice A2 ns.length c2) := (blk_cell hbox 2).trans rfl; clear hb hbox hg))
    go_ret
    exact ⟨by rw [← HM.out]; rfl, HB.out⟩
  have d2 : decide (1073741824 < ep) = false := decide_eq_false a2
  clear a2
  cases a3 : ringB l with
  | false =>
    have CR := Aside0.mk a3
    have HM : Aside0 (false = mayT ep l ns) := ⟨by rw [HF.out.out, d1, d2, a3]; rfl⟩
    clear a3
    go_enter Try.func17, Try.ntmps17
    go_wp2_with (first
      | ((with_reducible refine gate_dst (N := 1) rfl ?_); refine box_event ?hg (N := 1) ?hd (cs := cT ep A1 l.length c1 A2 ns.length c2) (t := 25) ?hr ?_; (case hd => rfl); (case hg => rfl); (case hr => first | (go_simp; done) | (go_simp; rfl)); intro g2 hg w2 hbox hb; have HB := Aside0.mk hb; have HX := Aside0.mk hbox; have h0 : w2.cell? ⟨g2, 0, none⟩ = some (.int .i64 ep) := (blk_cell hbox 0).trans rfl; have h1 : w2.cell? ⟨g2, 1, none⟩ = some (.slice A1 l.length c1) := (blk_cell hbox 1).trans rfl; have h2 : w2.cell? ⟨g2, 2, none⟩ = some (.slice A2 ns.length c2) := (blk_cell hbox 2).trans rfl; clear hb hbox hg)
      | (go_at_call 42; with_reducible refine (Ring_is A1 c1 l _ (Kd.C_below HR1.out HB.out) HC1.out).mono ?_; rintro e w3 ⟨rfl, hb⟩; have HB3 := Aside0.mk (thn5 HB.out hb); have HX3 := Aside0.mk ((hb.block g2 (blk_lt HX.out)).trans HX.out); have k0 : w3.cell? ⟨g2, 0, none⟩ = some (.int .i64 ep) := (blk_cell HX3.out 0).trans rfl; have k1 : w3.cell? ⟨g2, 1, none⟩ = some (.slice A1 l.length c1) := (blk_cell HX3.out 1).trans rfl; have k2 : w3.cell? ⟨g2, 2, none⟩ = some (.slice A2 ns.length c2) := (blk_cell HX3.out 2).trans rfl; clear hb; rw [CR.out]))
    go_ret
    exact ⟨by rw [← HM.out]; rfl, HB3.out⟩
  | true =>
  have CR := Aside0.mk a3
  have HP1 : Aside0 (∀ x ∈ l, 0 ≤ x.f1) := ⟨fun x hx => ((ringB_f1 a3).2 x hx).1⟩
  have HL1 : Aside0 (l.length ≤ 1000000) := ⟨by have := (ringB_f1 a3).1; omega⟩
  clear a3
  by_cases a4 : (ns.length : Int) < 1
  · have d4 : decide ((ns.length : Int) < 1) = true := decide_eq_true a4
    have HM : Aside0 (false = mayT ep l ns) := ⟨by rw [HF.out.out, d1, d2, CR.out, d4]; rfl⟩
    clear a4
    go_enter Try.func17, Try.ntmps17
    go_wp2_with (first
      | ((with_reducible refine gate_dst (N := 1) rfl ?_); refine box_event ?hg (N := 1) ?hd (cs := cT ep A1 l.length c1 A2 ns.length c2) (t := 25) ?hr ?_; (case hd => rfl); (case hg => rfl); (case hr => first | (go_simp; done) | (go_simp; rfl)); intro g2 hg w2 hbox hb; have HB := Aside0.mk hb; have HX := Aside0.mk hbox; have h0 : w2.cell? ⟨g2, 0, none⟩ = some (.int .i64 ep) := (blk_cell hbox 0).trans rfl; have h1 : w2.cell? ⟨g2, 1, none⟩ = some (.slice A1 l.length c1) := (blk_cell hbox 1).trans rfl; have h2 : w2.cell? ⟨g2, 2, none⟩ = some (.slice A2 ns.length c2) := (blk_cell hbox 2).trans rfl; clear hb hbox hg)
      | (go_at_call 42; with_reducible refine (Ring_is A1 c1 l _ (Kd.C_below HR1.out HB.out) HC1.out).mono ?_; rintro e w3 ⟨rfl, hb⟩; have HB3 := Aside0.mk (thn5 HB.out hb); have HX3 := Aside0.mk ((hb.block g2 (blk_lt HX.out)).trans HX.out); have k0 : w3.cell? ⟨g2, 0, none⟩ = some (.int .i64 ep) := (blk_cell HX3.out 0).trans rfl; have k1 : w3.cell? ⟨g2, 1, none⟩ = some (.slice A1 l.length c1) := (blk_cell HX3.out 1).trans rfl; have k2 : w3.cell? ⟨g2, 2, none⟩ = some (.slice A2 ns.length c2) := (blk_cell HX3.out 2).trans rfl; clear hb; rw [CR.out]))
    go_ret
    exact ⟨by rw [← HM.out]; rfl, HB3.out⟩
  have d4 : decide ((ns.length : Int) < 1) = false := decide_eq_false a4
  clear a4
  by_cases a5 : 16 < (ns.length : Int)
  · have d5 : decide (16 < (ns.length : Int)) = true := decide_eq_true a5
    have HM : Aside0 (false = mayT ep l ns) := ⟨by rw [HF.out.out, d1, d2, CR.out, d4, d5]; rfl⟩
    clear a5
    go_enter Try.func17, Try.ntmps17
    go_wp2_with (first
      | ((with_reducible refine gate_dst (N := 1) rfl ?_); refine box_event ?hg (N := 1) ?hd (cs := cT ep A1 l.length c1 A2 ns.length c2) (t := 25) ?hr ?_; (case hd => rfl); (case hg => rfl); (case hr => first | (go_simp; done) | (go_simp; rfl)); intro g2 hg w2 hbox hb; have HB := Aside0.mk hb; have HX := Aside0.mk hbox; have h0 : w2.cell? ⟨g2, 0, none⟩ = some (.int .i64 ep) := (blk_cell hbox 0).trans rfl; have h1 : w2.cell? ⟨g2, 1, none⟩ = some (.slice A1 l.length c1) := (blk_cell hbox 1).trans rfl; have h2 : w2.cell? ⟨g2, 2, none⟩ = some (.slice A2 ns.length c2) := (blk_cell hbox 2).trans rfl; clear hb hbox hg)
      | (go_at_call 42; with_reducible refine (Ring_is A1 c1 l _ (Kd.C_below HR1.out HB.out) HC1.out).mono ?_; rintro e w3 ⟨rfl, hb⟩; have HB3 := Aside0.mk (thn5 HB.out hb); have HX3 := Aside0.mk ((hb.block g2 (blk_lt HX.out)).trans HX.out); have k0 : w3.cell? ⟨g2, 0, none⟩ = some (.int .i64 ep) := (blk_cell HX3.out 0).trans rfl; have k1 : w3.cell? ⟨g2, 1, none⟩ = some (.slice A1 l.length c1) := (blk_cell HX3.out 1).trans rfl; have k2 : w3.cell? ⟨g2, 2, none⟩ = some (.slice A2 ns.length c2) := (blk_cell HX3.out 2).trans rfl; clear hb; rw [CR.out]))
    go_ret
    exact ⟨by rw [← HM.out]; rfl, HB3.out⟩
  have d5 : decide (16 < (ns.length : Int)) = false := decide_eq_false a5
  have HL2 : Aside0 (ns.length ≤ 1000000) := ⟨by omega⟩
  clear a5
  cases a6 : ns.any badN with
  | true =>
    have C6 := Aside0.mk a6
    have HM : Aside0 (false = mayT ep l ns) := ⟨by rw [HF.out.out, d1, d2, CR.out, d4, d5, a6]; rfl⟩
    clear a6
    go_enter Try.func17, Try.ntmps17
    go_wp2_with (first
      | ((with_reducible refine gate_dst (N := 1) rfl ?_); refine box_event ?hg (N := 1) ?hd (cs := cT ep A1 l.length c1 A2 ns.length c2) (t := 25) ?hr ?_; (case hd => rfl); (case hg => rfl); (case hr => first | (go_simp; done) | (go_simp; rfl)); intro g2 hg w2 hbox hb; have HB := Aside0.mk hb; have HX := Aside0.mk hbox; have h0 : w2.cell? ⟨g2, 0, none⟩ = some (.int .i64 ep) := (blk_cell hbox 0).trans rfl; have h1 : w2.cell? ⟨g2, 1, none⟩ = some (.slice A1 l.length c1) := (blk_cell hbox 1).trans rfl; have h2 : w2.cell? ⟨g2, 2, none⟩ = some (.slice A2 ns.length c2) := (blk_cell hbox 2).trans rfl; clear hb hbox hg)
      | (go_at_call 42; with_reducible refine (Ring_is A1 c1 l _ (Kd.C_below HR1.out HB.out) HC1.out).mono ?_; rintro e w3 ⟨rfl, hb⟩; have HB3 := Aside0.mk (thn5 HB.out hb); have HX3 := Aside0.mk ((hb.block g2 (blk_lt HX.out)).trans HX.out); have k0 : w3.cell? ⟨g2, 0, none⟩ = some (.int .i64 ep) := (blk_cell HX3.out 0).trans rfl; have k1 : w3.cell? ⟨g2, 1, none⟩ = some (.slice A1 l.length c1) := (blk_cell HX3.out 1).trans rfl; have k2 : w3.cell? ⟨g2, 2, none⟩ = some (.slice A2 ns.length c2) := (blk_cell HX3.out 2).trans rfl; clear hb; rw [CR.out])
      | (go_at_call 43; with_reducible refine (Nodes_is A2 c2 ns _ (Kd.C_below HR2.out HB3.out) HC2.out HL2.out).mono ?_; rintro e w4 ⟨rfl, ⟨nd4, rfl⟩⟩; have HX4 := Aside0.mk (blk_below HX3.out (pw_below_drewN (Below.refl _ w3) nd4)); rw [C6.out]))
    go_ret
    exact ⟨by rw [← HM.out]; rfl, pw_below_drewN HB3.out _⟩
  | false =>
    have C6 := Aside0.mk a6
    have HM : Aside0 ((!l.any (mayArc ns)) = mayT ep l ns) := ⟨by rw [HF.out.out, d1, d2, CR.out, d4, d5, a6]; rfl⟩
    clear a6
    go_enter Try.func17, Try.ntmps17
    go_wp2_with (first
      | ((with_reducible refine gate_dst (N := 1) rfl ?_); refine box_event ?hg (N := 1) ?hd (cs := cT ep A1 l.length c1 A2 ns.length c2) (t := 25) ?hr ?_; (case hd => rfl); (case hg => rfl); (case hr => first | (go_simp; done) | (go_simp; rfl)); intro g2 hg w2 hbox hb; have HB := Aside0.mk hb; have HX := Aside0.mk hbox; have h0 : w2.cell? ⟨g2, 0, none⟩ = some (.int .i64 ep) := (blk_cell hbox 0).trans rfl; have h1 : w2.cell? ⟨g2, 1, none⟩ = some (.slice A1 l.length c1) := (blk_cell hbox 1).trans rfl; have h2 : w2.cell? ⟨g2, 2, none⟩ = some (.slice A2 ns.length c2) := (blk_cell hbox 2).trans rfl; clear hb hbox hg)
      | (go_at_call 42; with_reducible refine (Ring_is A1 c1 l _ (Kd.C_below HR1.out HB.out) HC1.out).mono ?_; rintro e w3 ⟨rfl, hb⟩; have HB3 := Aside0.mk (thn5 HB.out hb); have HX3 := Aside0.mk ((hb.block g2 (blk_lt HX.out)).trans HX.out); have k0 : w3.cell? ⟨g2, 0, none⟩ = some (.int .i64 ep) := (blk_cell HX3.out 0).trans rfl; have k1 : w3.cell? ⟨g2, 1, none⟩ = some (.slice A1 l.length c1) := (blk_cell HX3.out 1).trans rfl; have k2 : w3.cell? ⟨g2, 2, none⟩ = some (.slice A2 ns.length c2) := (blk_cell HX3.out 2).trans rfl; clear hb; rw [CR.out])
      | (go_at_call 43; with_reducible refine (Nodes_is A2 c2 ns _ (Kd.C_below HR2.out HB3.out) HC2.out HL2.out).mono ?_; rintro e w4 ⟨rfl, ⟨nd4, rfl⟩⟩; have HX4 := Aside0.mk (blk_below HX3.out (pw_below_drewN (Below.refl _ w3) nd4)); rw [C6.out])
      | (go_at_call 45; (with_reducible refine (CfMay2_is A1 c1 l g2 ep A1 l.length c1 A2 c2 ns _ (Kd.C_drewN (Kd.C_below HR1.out HB3.out) _) HL1.out HX4.out (Kd.C_drewN (Kd.C_below HR2.out HB3.out) _) HP1.out).mono ?_; rintro e w5 ⟨rfl, hb⟩; have HB5 := Aside0.mk (thn5 (pw_below_drewN HB3.out _) hb); clear hb)))
    go_ret
    exact ⟨by rw [← HM.out]; rfl, HB5.out⟩
end Go.Proofs.Ytbkamlkmimfomaa
