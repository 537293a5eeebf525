/-
  Exchanges' Find with its closure; slices.IndexFunc at it; slices.Clone of exchanges and of bindings: their contracts.
  Conditions: none.
-/
import Derived.Test.YtpmalfabeajepaaDoorPGax0
import Derived.Lib.SliceRun
import Derived.Deep.RegionWith
import Derived.LoopN
namespace Go.Proofs.YtpmalfabeajepaaDoor.Rt
open Go.RowKit Go.Proofs.YtpmalfabeajepaaDoorW.PrintWords Go.Proofs.YtpmalfabeajepaaDoorW.PrintLast Go.Proofs.YtpmalfabeajepaaDoorG Go.Proofs.YtpmalfabeajepaaDoor.PGa
set_option linter.unusedVariables false
set_option linter.unusedSimpArgs false

/-- A walk halts here. -/
structure Hid (p : Prop) : Prop where
  out : p
theorem halt_here {p : Prop} (h : Hid p) : p := h.out
theorem w64 (x : Int) (h0 : -1099511627776 ≤ x) (h1 : x ≤ 1099511627776) : wrap64 x = x := by
  unfold wrap64
  omega
theorem thn {w W w' : World} (h : Below w.heap.size w W) (hb : Below W.heap.size W w') : Below w.heap.size w w' := h.trans (hb.mono h.size)
/-- Where the first such element stands, or -1. -/
def idxI {α : Type} (p : α → Bool) (l : List α) : Int := match l.findIdx? p with
  | some k => (k : Int)
  | none => -1
theorem idxI_none {α : Type} {p : α → Bool} {l : List α} (h : ∀ x ∈ l, p x = false) : idxI p l = -1 := by
  unfold idxI
  rw [List.findIdx?_eq_none_iff.2 h]
theorem idxI_at {α : Type} {p : α → Bool} {l : List α} {k : Nat} {y : α} (hy : l[k]? = some y) (h1 : p y = true) (h0 : ∀ x ∈ l.take k, p x = false) : idxI p l = k := by
  have hk := (List.getElem?_eq_some_iff.1 hy).1
  have e : l.findIdx? p = some k := by
    rw [List.findIdx?_eq_some_iff_getElem]
    refine ⟨hk, ?_, ?_⟩
    · rw [← h1, ← (List.getElem?_eq_some_iff.1 hy).2]
    · intro j hj
      have := h0 (l[j]'(Nat.lt_trans hj hk)) (by rw [List.mem_take_iff_getElem]; exact ⟨j, by omega, rfl⟩)
      simp [this]
  unfold idxI
  rw [e]
theorem rdT_Ex_at (l : List S25) (i : Nat) (h : i < l.length) : l[i]? = some (rd_T25 l (i : Int)) := by
  simp [rd_T25, h]
theorem take_snoc {α : Type} (l : List α) (i : Nat) (y : α) (h : l[i]? = some y) : l.take (i + 1) = l.take i ++ [y] := by
  rw [List.take_add_one, h]
  rfl
theorem none_snoc {α : Type} {p : α → Bool} {l : List α} {i : Nat} {y : α} (h : ∀ x ∈ l.take i, p x = false) (hy : l[i]? = some y) (hp : p y = false) : ∀ x ∈ l.take (i + 1), p x = false := by
  rw [take_snoc l i y hy]
  intro x hx
  rcases List.mem_append.1 hx with h1 | h1
  · exact h x h1
  · obtain rfl := List.mem_singleton.1 h1
    exact hp

/-! ### Find -/
def nameIs (name : ByteArray) (x : S25) : Bool := x.f0.toList == name.toList
theorem Find1_is (gb : Nat) (name : ByteArray) (x : S25) (w : World) (hp : w.heap[gb]? = some (.cells #[.string name] 9 (0, 0))) :
    Calls Tryd.prog 31 #[.agg #[.string x.f0, .int .i64 x.f1], .pointer (some ⟨gb, 0, none⟩)] w fun e w' => e = .returned (.bool (nameIs name x)) ∧ Below w.heap.size w w' := by
  have HP := Aside0.mk hp
  clear hp
  go_enter Tryd.func31, Tryd.ntmps31
  go_wp2_with (first | ((with_reducible refine gate_dst (N := 2) rfl ?_); refine box_event ?hg (N := 2) ?hd (cs := #[.string x.f0, .int .i64 x.f1]) (t := 25) ?hr ?_; (case hd => rfl); (case hg => rfl); (case hr => first | (go_simp; done) | (go_simp; rfl)); intro g2 hg w2 hbox hb; have HB := Aside0.mk hb; have h0 : w2.cell? ⟨g2, 0, none⟩ = some (.string x.f0) := (blk_cell hbox 0).trans rfl; have h1 : w2.cell? ⟨gb, 0, none⟩ = some (.string name) := (blk_cell ((hb.block gb (blk_lt HP.out)).trans HP.out) 0).trans rfl; clear hb hbox hg))
  go_ret
  exact ⟨rfl, HB.out⟩
theorem eFind1 (args : Array Value) (w : World) : (callFunc 31 args).run Tryd.prog w = .ok (.enter 31 args) w := enters_ Tryd.func31 (by kernel_rfl) rfl args w

set_option maxHeartbeats 4000000 in
theorem IxX_is (A : Option Addr) (c : Nat) (l : List S25) (gb : Nat) (name : ByteArray) (w : World) (hr : Kd.C k25 w A l.length l) (hl : l.length ≤ 1000000) (hp : w.heap[gb]? = some (.cells #[.string name] 9 (0, 0))) :
    Calls Tryd.prog 30 #[.slice A l.length c, .func (.func 31) #[] #[.pointer (some ⟨gb, 0, none⟩)]] w fun e w' => e = .returned (.int .i64 (idxI (nameIs name) l)) ∧ Below w.heap.size w w' := by
  have HR := Aside0.mk hr
  have HL := Aside0.mk hl
  have HP := Aside0.mk hp
  have e17 := eFind1
  have hu := Tryd.underlying25
  clear hr hl hp
  go_enter Tryd.func30, Tryd.ntmps30
  go_wp2
  go_loopg [5, 8] l.length (fun g v5 v8 wr => ∃ (i : Nat), v8 = .int .i64 i ∧ g + i = l.length ∧ Aside0 (Below w.heap.size w wr) ∧ Aside0 (∀ x ∈ l.take i, nameIs name x = false))
  case atStart => exact ⟨0, rfl, by omega, ⟨Below.refl _ _⟩, ⟨by simp⟩⟩
  case round =>
    obtain ⟨i, rfl, hgi, HB, HX⟩ := hrel
    cases gk with
    | zero =>
      have hi : ¬ ((i : Int) < (l.length : Int)) := by omega
      have HI := Aside0.mk hgi
      clear hgi
      go_wp2
      go_ret
      refine ⟨?_, HB.out⟩
      have := HX.out
      rw [List.take_of_length_le (by have := HI.out; omega)] at this
      rw [idxI_none this]
      rfl
    | succ g1 =>
      have hi : (i : Int) < (l.length : Int) := by omega
      have hi0 : 0 ≤ (i : Int) := by omega
      have hin : i < l.length := by omega
      obtain ⟨ad, e1, hx0, hx1⟩ := at_T25 HR.out i hi0 hi
      cases e1
      obtain ⟨y, hy⟩ : ∃ y, rd_T25 l (i : Int) = y := ⟨_, rfl⟩
      have HY : Aside0 (l[i]? = some y) := ⟨by rw [← hy]; exact rdT_Ex_at l i hin⟩
      rw [hy, Int.toNat_natCast] at hx0 hx1
      replace hx0 := (HB.out.cell (World.block_lt_of_cell? w _ hx0)).trans hx0
      replace hx1 := (HB.out.cell (World.block_lt_of_cell? w _ hx1)).trans hx1
      have HI := Aside0.mk hgi
      have HN := Aside0.mk hin
      have hw : wrap64 ((i : Int) + 1) = (i : Int) + 1 := w64 _ (by omega) (by have := HL.out; omega)
      clear hgi hy hin
      cases c1 : nameIs name y with
      | true =>
        have C1 := Aside0.mk c1
        clear c1
        go_wp2_with (go_at_call 31; refine (Find1_is gb name y _ ((HB.out.block gb (blk_lt HP.out)).trans HP.out)).mono ?_; rintro e w1 ⟨rfl, hb⟩; have HB1 := Aside0.mk (thn HB.out hb); clear hb; rw [C1.out])
        go_ret
        exact ⟨by rw [idxI_at HY.out C1.out HX.out]; rfl, HB1.out⟩
      | false =>
        have C1 := Aside0.mk c1
        clear c1
        go_wp2_with (go_at_call 31; refine (Find1_is gb name y _ ((HB.out.block gb (blk_lt HP.out)).trans HP.out)).mono ?_; rintro e w1 ⟨rfl, hb⟩; have HB1 := Aside0.mk (thn HB.out hb); clear hb; rw [C1.out])
        go_roundg g1
        case measure => omega
        case rel => exact ⟨i + 1, by rw [hw, Int.natCast_add]; rfl, by have := HI.out; omega, HB1, ⟨none_snoc HX.out HY.out C1.out⟩⟩
theorem Find_is (A : Option Addr) (c : Nat) (l : List S25) (name : ByteArray) (w : World) (hr : Kd.C k25 w A l.length l) (hl : l.length ≤ 1000000) :
    Calls Tryd.prog 14 #[.slice A l.length c, .string name] w fun e w' => e = .returned (.int .i64 (idxI (nameIs name) l)) ∧ Below w.heap.size w w' := by
  have HR := Aside0.mk hr
  have HL := Aside0.mk hl
  clear hr hl
  go_enter Tryd.func14, Tryd.ntmps14
  go_wp2_with (first
    | ((with_reducible refine gate_dst (N := 3) rfl ?_); refine box_event ?hg (N := 3) ?hd (cs := #[.string name]) (t := 9) ?hr ?_; (case hd => rfl); (case hg => rfl); (case hr => first | (go_simp; done) | (go_simp; rfl)); intro g2 hg w2 hbox hb; have HB := Aside0.mk hb; have HX := Aside0.mk hbox; clear hb hbox hg)
    | (go_at_call 30; refine (IxX_is A c l g2 name _ (Kd.C_below HR.out HB.out) HL.out HX.out).mono ?_; rintro e w1 ⟨rfl, hb⟩; have HB1 := Aside0.mk (thn HB.out hb); clear hb))
  go_ret
  exact ⟨rfl, HB1.out⟩

/-! ### Clone -/
theorem C_none {α : Type} {d : Kd α} {w : World} {l : List α} {n : Nat} (z : α) (h : Kd.C d w none n l) (hn : n = l.length) : l = [] := by
  cases l with
  | nil => rfl
  | cons x r =>
    obtain ⟨ad, c, e, _⟩ := Kd.C_get h z 0 (by decide) (by rw [hn, List.length_cons]; omega)
    cases e
set_option maxHeartbeats 4000000 in
theorem ClX_is (A : Option Addr) (c : Nat) (l : List S25) (w : World) (hr : Kd.C k25 w A l.length l) (hl : l.length ≤ 1000000) :
    Calls Tryd.prog 29 #[.slice A l.length c] w fun e w' => ∃ v, e = .returned v ∧ Kd.R k25 25 w' w.heap.size (fun _ => True) v l ∧ Below w.heap.size w w' := by
  have HR := Aside0.mk hr
  have HL := Aside0.mk hl
  have q27 : ∀ (w : World) (a : Option Addr) (n c n' c' : Nat), (binOp .eql 26 (.slice a n c) (.slice none n' c')).run Tryd.prog w = .ok (.bool a.isNone) w := fun w a n c n' c' => Lib.run_eql_slice_nil w _ _ a n c n' c' Tryd.underlying26
  clear hr hl
  cases A with
  | none =>
    obtain rfl : l = [] := C_none z25 HR.out rfl
    go_enter Tryd.func29, Tryd.ntmps29
    go_wp2
    go_ret
    exact ⟨_, rfl, Kd.R_nil _ _ _ _ _, Below.refl _ _⟩
  | some ad =>
    go_enter Tryd.func29, Tryd.ntmps29
    go_wp2_with (at_builtin; refine halt_here ?_)
    refine Hid.mk ?_
    have h0 : Kd.R k25 25 (w.alloc (.cells #[] 25)) w.heap.size (fun _ => True) (.slice (some ⟨w.heap.size, 0, none⟩) 0 0) [] := ⟨fun _ _ => trivial, OwnRow.lit w w.heap.size (ps := []) (inner := []) ⟨rfl, fun j p h => by simp at h⟩ (Nat.le_refl _) (by decide)⟩
    refine Kd.R_append_rows k25 (w0 := w) w.heap.size rfl (.tmp 5) (.tmp 6) 26 25 (.agg #[.string ⟨#[]⟩, .int .i64 0]) 24 rfl Tryd.underlying26 (by kernel_rfl) rfl (by decide) (by decide) _ [] l (some ad) l.length c (fun _ => True) (fun _ => False) rfl rfl h0 (Kd.C_alloc HR.out _) (fun _ _ h => h) (fun _ h => h.elim) (fun _ _ => trivial) (below_alloc (Below.refl _ _) _) (below_alloc (Below.refl w.heap.size w) _).size (by have := HL.out; simp; omega) ?_
    intro v1 w1 ho hb hg _
    rw [List.nil_append] at ho
    have HO := Aside0.mk ho
    have HB := Aside0.mk hb
    obtain ⟨A2, c2, rfl, -, -⟩ := Kd.R_reads ho
    clear ho hb hg h0
    go_wp2
    go_ret
    exact ⟨_, rfl, HO.out, HB.out⟩
set_option maxHeartbeats 4000000 in
theorem ClB_is (A : Option Addr) (c : Nat) (l : List S28) (w : World) (hr : Kd.C k28 w A l.length l) (hl : l.length ≤ 1000000) :
    Calls Tryd.prog 28 #[.slice A l.length c] w fun e w' => ∃ v, e = .returned v ∧ Kd.R k28 28 w' w.heap.size (fun _ => True) v l ∧ Below w.heap.size w w' := by
  have HR := Aside0.mk hr
  have HL := Aside0.mk hl
  have q27 : ∀ (w : World) (a : Option Addr) (n c n' c' : Nat), (binOp .eql 22 (.slice a n c) (.slice none n' c')).run Tryd.prog w = .ok (.bool a.isNone) w := fun w a n c n' c' => Lib.run_eql_slice_nil w _ _ a n c n' c' Tryd.underlying22
  clear hr hl
  cases A with
  | none =>
    obtain rfl : l = [] := C_none z28 HR.out rfl
    go_enter Tryd.func28, Tryd.ntmps28
    go_wp2
    go_ret
    exact ⟨_, rfl, Kd.R_nil _ _ _ _ _, Below.refl _ _⟩
  | some ad =>
    go_enter Tryd.func28, Tryd.ntmps28
    go_wp2_with (at_builtin; refine halt_here ?_)
    refine Hid.mk ?_
    have h0 : Kd.R k28 28 (w.alloc (.cells #[] 28)) w.heap.size (fun _ => True) (.slice (some ⟨w.heap.size, 0, none⟩) 0 0) [] := ⟨fun _ _ => trivial, OwnRow.lit w w.heap.size (ps := []) (inner := []) ⟨rfl, fun j p h => by simp at h⟩ (Nat.le_refl _) (by decide)⟩
    refine Kd.R_append_rows k28 (w0 := w) w.heap.size rfl (.tmp 5) (.tmp 6) 22 28 (.agg #[.string ⟨#[]⟩, .string ⟨#[]⟩, .string ⟨#[]⟩, .int .i64 0]) 56 rfl Tryd.underlying22 (by kernel_rfl) rfl (by decide) (by decide) _ [] l (some ad) l.length c (fun _ => True) (fun _ => False) rfl rfl h0 (Kd.C_alloc HR.out _) (fun _ _ h => h) (fun _ h => h.elim) (fun _ _ => trivial) (below_alloc (Below.refl _ _) _) (below_alloc (Below.refl w.heap.size w) _).size (by have := HL.out; simp; omega) ?_
    intro v1 w1 ho hb hg _
    rw [List.nil_append] at ho
    have HO := Aside0.mk ho
    have HB := Aside0.mk hb
    obtain ⟨A2, c2, rfl, -, -⟩ := Kd.R_reads ho
    clear ho hb hg h0
    go_wp2
    go_ret
    exact ⟨_, rfl, HO.out, HB.out⟩
end Go.Proofs.YtpmalfabeajepaaDoor.Rt
