/-
  Bindings alike; slices.IndexFunc and ContainsFunc of bindings at the closures of May and of Bind: their contracts.
  Conditions: none.
-/
import Derived.Test.YtpmalfabeajepaaDoorFa
namespace Go.Proofs.YtpmalfabeajepaaDoor.Rt
open Go.RowKit Go.Proofs.YtpmalfabeajepaaDoorW.PrintWords Go.Proofs.YtpmalfabeajepaaDoorW.PrintLast Go.Proofs.YtpmalfabeajepaaDoorG Go.Proofs.YtpmalfabeajepaaDoor.PGa
set_option linter.unusedVariables false
set_option linter.unusedSimpArgs false

def alikeB (a b : S28) : Bool := a.f0.toList == b.f0.toList && (a.f1.toList == b.f1.toList && a.f2.toList == b.f2.toList)
abbrev vB (a : S28) : Value := .agg #[.string a.f0, .string a.f1, .string a.f2, .int .i64 a.f3]
abbrev cB (a : S28) : Array Value := #[.string a.f0, .string a.f1, .string a.f2, .int .i64 a.f3]
theorem rdT_Bd_at (l : List S28) (i : Nat) (h : i < l.length) : l[i]? = some (rd_T28 l (i : Int)) := by
  simp [rd_T28, h]
set_option maxHeartbeats 4000000 in
theorem Alike_is (a b : S28) (w : World) : Calls Tryd.prog 18 #[vB a, vB b] w fun e w' => e = .returned (.bool (alikeB a b)) ∧ Below w.heap.size w w' := by
  cases c0 : (a.f0.toList == b.f0.toList) <;> cases c1 : (a.f1.toList == b.f1.toList) <;> cases c2 : (a.f2.toList == b.f2.toList)
  all_goals
    have HF : Aside0 (alikeB a b = (a.f0.toList == b.f0.toList && (a.f1.toList == b.f1.toList && a.f2.toList == b.f2.toList))) := ⟨rfl⟩
    rw [c0, c1, c2] at HF
    rw [HF.out]
    go_enter Tryd.func18, Tryd.ntmps18
    go_wp2_with (first
      | ((with_reducible refine gate_dst (N := 2) rfl ?_); refine box_event ?hg (N := 2) ?hd (cs := cB a) (t := 28) ?hr ?_; (case hd => rfl); (case hg => rfl); (case hr => first | (go_simp; done) | (go_simp; rfl)); intro g2 hg w2 hbox hb; have HB := Aside0.mk hb; have HX := Aside0.mk hbox; clear hb hbox hg)
      | ((with_reducible refine gate_dst (N := 3) rfl ?_); refine box_event ?hg (N := 3) ?hd (cs := cB b) (t := 28) ?hr ?_; (case hd => rfl); (case hg => rfl); (case hr => first | (go_simp; done) | (go_simp; rfl)); intro g3 hg w3 hbox hb; have HB3 := Aside0.mk (thn HB.out hb); have hX := (hb.block g2 (blk_lt HX.out)).trans HX.out; have h0 : w3.cell? ⟨g2, 0, none⟩ = some (.string a.f0) := (blk_cell hX 0).trans rfl; have h1 : w3.cell? ⟨g2, 1, none⟩ = some (.string a.f1) := (blk_cell hX 1).trans rfl; have h2 : w3.cell? ⟨g2, 2, none⟩ = some (.string a.f2) := (blk_cell hX 2).trans rfl; have k0 : w3.cell? ⟨g3, 0, none⟩ = some (.string b.f0) := (blk_cell hbox 0).trans rfl; have k1 : w3.cell? ⟨g3, 1, none⟩ = some (.string b.f1) := (blk_cell hbox 1).trans rfl; have k2 : w3.cell? ⟨g3, 2, none⟩ = some (.string b.f2) := (blk_cell hbox 2).trans rfl; clear hb hbox hg hX))
    go_ret
    exact ⟨rfl, HB3.out⟩

/-! ### May1, and IndexFunc at it -/
set_option maxHeartbeats 4000000 in
theorem May1_is (gb : Nat) (y x : S28) (w : World) (hp : w.heap[gb]? = some (.cells (cB y) 28 (0, 0))) :
    Calls Tryd.prog 17 #[vB x, .pointer (some ⟨gb, 0, none⟩)] w fun e w' => e = .returned (.bool (alikeB y x)) ∧ Below w.heap.size w w' := by
  have HP := Aside0.mk hp
  have hu := Tryd.underlying28
  clear hp
  go_enter Tryd.func17, Tryd.ntmps17
  go_wp2_with (first
    | ((with_reducible refine gate_dst (N := 2) rfl ?_); refine box_event ?hg (N := 2) ?hd (cs := cB x) (t := 28) ?hr ?_; (case hd => rfl); (case hg => rfl); (case hr => first | (go_simp; done) | (go_simp; rfl)); intro g3 hg w3 hbox hb; have HB := Aside0.mk hb; have hX := (hb.block gb (blk_lt HP.out)).trans HP.out; have h0 : w3.cell? ⟨gb, 0, none⟩ = some (.string y.f0) := (blk_cell hX 0).trans rfl; have h1 : w3.cell? ⟨gb, 1, none⟩ = some (.string y.f1) := (blk_cell hX 1).trans rfl; have h2 : w3.cell? ⟨gb, 2, none⟩ = some (.string y.f2) := (blk_cell hX 2).trans rfl; have h3 : w3.cell? ⟨gb, 3, none⟩ = some (.int .i64 y.f3) := (blk_cell hX 3).trans rfl; have k0 : w3.cell? ⟨g3, 0, none⟩ = some (.string x.f0) := (blk_cell hbox 0).trans rfl; have k1 : w3.cell? ⟨g3, 1, none⟩ = some (.string x.f1) := (blk_cell hbox 1).trans rfl; have k2 : w3.cell? ⟨g3, 2, none⟩ = some (.string x.f2) := (blk_cell hbox 2).trans rfl; have k3 : w3.cell? ⟨g3, 3, none⟩ = some (.int .i64 x.f3) := (blk_cell hbox 3).trans rfl; clear hb hbox hg hX)
    | (go_at_call 18; refine (Alike_is y x _).mono ?_; rintro e w1 ⟨rfl, hb⟩; have HB1 := Aside0.mk (thn HB.out hb); clear hb))
  go_ret
  exact ⟨rfl, HB1.out⟩
theorem eMay1 (args : Array Value) (w : World) : (callFunc 17 args).run Tryd.prog w = .ok (.enter 17 args) w := enters_ Tryd.func17 (by kernel_rfl) rfl args w
def tMay1 (y x : S28) : Bool := alikeB y x
set_option maxHeartbeats 4000000 in
theorem IxBMay1_is (A : Option Addr) (c : Nat) (l : List S28) (gb : Nat) (y : S28) (w : World) (hr : Kd.C k28 w A l.length l) (hl : l.length ≤ 1000000) (hp : w.heap[gb]? = some (.cells (cB y) 28 (0, 0))) :
    Calls Tryd.prog 16 #[.slice A l.length c, .func (.func 17) #[] #[.pointer (some ⟨gb, 0, none⟩)]] w fun e w' => e = .returned (.int .i64 (idxI (tMay1 y) l)) ∧ Below w.heap.size w w' := by
  have HR := Aside0.mk hr
  have HL := Aside0.mk hl
  have HP := Aside0.mk hp
  have e17 := eMay1
  have hu := Tryd.underlying28
  clear hr hl hp
  go_enter Tryd.func16, Tryd.ntmps16
  go_wp2
  go_loopg [5, 8] l.length (fun g v5 v8 wr => ∃ (i : Nat), v8 = .int .i64 i ∧ g + i = l.length ∧ Aside0 (Below w.heap.size w wr) ∧ Aside0 (∀ x ∈ l.take i, tMay1 y x = false))
  case atStart => exact ⟨0, rfl, by omega, ⟨Below.refl _ _⟩, ⟨by simp⟩⟩
  case round =>
    obtain ⟨i, rfl, hgi, HB, HX⟩ := hrel
    cases gk with
    | zero =>
      have hi : ¬ ((i : Int) < (l.length : Int)) := by omega
      have HI := Aside0.mk hgi
      clear hgi
      go_wp2
      go_ret
      refine ⟨?_, HB.out⟩
      have := HX.out
      rw [List.take_of_length_le (by have := HI.out; omega)] at this
      rw [idxI_none this]
      rfl
    | succ g1 =>
      have hi : (i : Int) < (l.length : Int) := by omega
      have hi0 : 0 ≤ (i : Int) := by omega
      have hin : i < l.length := by omega
      obtain ⟨ad, e1, hx0, hx1, hx2, hx3⟩ := at_T28 HR.out i hi0 hi
      cases e1
      obtain ⟨x, hx⟩ : ∃ x, rd_T28 l (i : Int) = x := ⟨_, rfl⟩
      have HY : Aside0 (l[i]? = some x) := ⟨by rw [← hx]; exact rdT_Bd_at l i hin⟩
      rw [hx, Int.toNat_natCast] at hx0 hx1 hx2 hx3
      replace hx0 := (HB.out.cell (World.block_lt_of_cell? w _ hx0)).trans hx0
      replace hx1 := (HB.out.cell (World.block_lt_of_cell? w _ hx1)).trans hx1
      replace hx2 := (HB.out.cell (World.block_lt_of_cell? w _ hx2)).trans hx2
      replace hx3 := (HB.out.cell (World.block_lt_of_cell? w _ hx3)).trans hx3
      have HI := Aside0.mk hgi
      have HN := Aside0.mk hin
      have hw : wrap64 ((i : Int) + 1) = (i : Int) + 1 := w64 _ (by omega) (by have := HL.out; omega)
      clear hgi hx hin
      have HT : Aside0 (tMay1 y x = (alikeB y x)) := ⟨rfl⟩
      cases c1 : tMay1 y x with
      | true =>
        have C1 := Aside0.mk c1
        clear c1
        go_wp2_with (go_at_call 17; refine (May1_is gb y x _ ((HB.out.block gb (blk_lt HP.out)).trans HP.out)).mono ?_; rintro e w1 ⟨rfl, hb⟩; have HB1 := Aside0.mk (thn HB.out hb); clear hb; rw [← HT.out, C1.out])
        go_ret
        exact ⟨by rw [idxI_at HY.out C1.out HX.out]; rfl, HB1.out⟩
      | false =>
        have C1 := Aside0.mk c1
        clear c1
        go_wp2_with (go_at_call 17; refine (May1_is gb y x _ ((HB.out.block gb (blk_lt HP.out)).trans HP.out)).mono ?_; rintro e w1 ⟨rfl, hb⟩; have HB1 := Aside0.mk (thn HB.out hb); clear hb; rw [← HT.out, C1.out])
        go_roundg g1
        case measure => omega
        case rel => exact ⟨i + 1, by rw [hw, Int.natCast_add]; rfl, by have := HI.out; omega, HB1, ⟨none_snoc HX.out HY.out C1.out⟩⟩

/-! ### Bind1, and IndexFunc at it -/
set_option maxHeartbeats 4000000 in
theorem Bind1_is (gb : Nat) (y x : S28) (w : World) (hp : w.heap[gb]? = some (.cells (cB y) 28 (0, 0))) :
    Calls Tryd.prog 27 #[vB x, .pointer (some ⟨gb, 0, none⟩)] w fun e w' => e = .returned (.bool (alikeB x y)) ∧ Below w.heap.size w w' := by
  have HP := Aside0.mk hp
  have hu := Tryd.underlying28
  clear hp
  go_enter Tryd.func27, Tryd.ntmps27
  go_wp2_with (first
    | ((with_reducible refine gate_dst (N := 2) rfl ?_); refine box_event ?hg (N := 2) ?hd (cs := cB x) (t := 28) ?hr ?_; (case hd => rfl); (case hg => rfl); (case hr => first | (go_simp; done) | (go_simp; rfl)); intro g3 hg w3 hbox hb; have HB := Aside0.mk hb; have hX := (hb.block gb (blk_lt HP.out)).trans HP.out; have h0 : w3.cell? ⟨gb, 0, none⟩ = some (.string y.f0) := (blk_cell hX 0).trans rfl; have h1 : w3.cell? ⟨gb, 1, none⟩ = some (.string y.f1) := (blk_cell hX 1).trans rfl; have h2 : w3.cell? ⟨gb, 2, none⟩ = some (.string y.f2) := (blk_cell hX 2).trans rfl; have h3 : w3.cell? ⟨gb, 3, none⟩ = some (.int .i64 y.f3) := (blk_cell hX 3).trans rfl; have k0 : w3.cell? ⟨g3, 0, none⟩ = some (.string x.f0) := (blk_cell hbox 0).trans rfl; have k1 : w3.cell? ⟨g3, 1, none⟩ = some (.string x.f1) := (blk_cell hbox 1).trans rfl; have k2 : w3.cell? ⟨g3, 2, none⟩ = some (.string x.f2) := (blk_cell hbox 2).trans rfl; have k3 : w3.cell? ⟨g3, 3, none⟩ = some (.int .i64 x.f3) := (blk_cell hbox 3).trans rfl; clear hb hbox hg hX)
    | (go_at_call 18; refine (Alike_is x y _).mono ?_; rintro e w1 ⟨rfl, hb⟩; have HB1 := Aside0.mk (thn HB.out hb); clear hb))
  go_ret
  exact ⟨rfl, HB1.out⟩
theorem eBind1 (args : Array Value) (w : World) : (callFunc 27 args).run Tryd.prog w = .ok (.enter 27 args) w := enters_ Tryd.func27 (by kernel_rfl) rfl args w
def tBind1 (y x : S28) : Bool := alikeB x y
set_option maxHeartbeats 4000000 in
theorem IxBBind1_is (A : Option Addr) (c : Nat) (l : List S28) (gb : Nat) (y : S28) (w : World) (hr : Kd.C k28 w A l.length l) (hl : l.length ≤ 1000000) (hp : w.heap[gb]? = some (.cells (cB y) 28 (0, 0))) :
    Calls Tryd.prog 16 #[.slice A l.length c, .func (.func 27) #[] #[.pointer (some ⟨gb, 0, none⟩)]] w fun e w' => e = .returned (.int .i64 (idxI (tBind1 y) l)) ∧ Below w.heap.size w w' := by
  have HR := Aside0.mk hr
  have HL := Aside0.mk hl
  have HP := Aside0.mk hp
  have e17 := eBind1
  have hu := Tryd.underlying28
  clear hr hl hp
  go_enter Tryd.func16, Tryd.ntmps16
  go_wp2
  go_loopg [5, 8] l.length (fun g v5 v8 wr => ∃ (i : Nat), v8 = .int .i64 i ∧ g + i = l.length ∧ Aside0 (Below w.heap.size w wr) ∧ Aside0 (∀ x ∈ l.take i, tBind1 y x = false))
  case atStart => exact ⟨0, rfl, by omega, ⟨Below.refl _ _⟩, ⟨by simp⟩⟩
  case round =>
    obtain ⟨i, rfl, hgi, HB, HX⟩ := hrel
    cases gk with
    | zero =>
      have hi : ¬ ((i : Int) < (l.length : Int)) := by omega
      have HI := Aside0.mk hgi
      clear hgi
      go_wp2
      go_ret
      refine ⟨?_, HB.out⟩
      have := HX.out
      rw [List.take_of_length_le (by have := HI.out; omega)] at this
      rw [idxI_none this]
      rfl
    | succ g1 =>
      have hi : (i : Int) < (l.length : Int) := by omega
      have hi0 : 0 ≤ (i : Int) := by omega
      have hin : i < l.length := by omega
      obtain ⟨ad, e1, hx0, hx1, hx2, hx3⟩ := at_T28 HR.out i hi0 hi
      cases e1
      obtain ⟨x, hx⟩ : ∃ x, rd_T28 l (i : Int) = x := ⟨_, rfl⟩
      have HY : Aside0 (l[i]? = some x) := ⟨by rw [← hx]; exact rdT_Bd_at l i hin⟩
      rw [hx, Int.toNat_natCast] at hx0 hx1 hx2 hx3
      replace hx0 := (HB.out.cell (World.block_lt_of_cell? w _ hx0)).trans hx0
      replace hx1 := (HB.out.cell (World.block_lt_of_cell? w _ hx1)).trans hx1
      replace hx2 := (HB.out.cell (World.block_lt_of_cell? w _ hx2)).trans hx2
      replace hx3 := (HB.out.cell (World.block_lt_of_cell? w _ hx3)).trans hx3
      have HI := Aside0.mk hgi
      have HN := Aside0.mk hin
      have hw : wrap64 ((i : Int) + 1) = (i : Int) + 1 := w64 _ (by omega) (by have := HL.out; omega)
      clear hgi hx hin
      have HT : Aside0 (tBind1 y x = (alikeB x y)) := ⟨rfl⟩
      cases c1 : tBind1 y x with
      | true =>
        have C1 := Aside0.mk c1
        clear c1
        go_wp2_with (go_at_call 27; refine (Bind1_is gb y x _ ((HB.out.block gb (blk_lt HP.out)).trans HP.out)).mono ?_; rintro e w1 ⟨rfl, hb⟩; have HB1 := Aside0.mk (thn HB.out hb); clear hb; rw [← HT.out, C1.out])
        go_ret
        exact ⟨by rw [idxI_at HY.out C1.out HX.out]; rfl, HB1.out⟩
      | false =>
        have C1 := Aside0.mk c1
        clear c1
        go_wp2_with (go_at_call 27; refine (Bind1_is gb y x _ ((HB.out.block gb (blk_lt HP.out)).trans HP.out)).mono ?_; rintro e w1 ⟨rfl, hb⟩; have HB1 := Aside0.mk (thn HB.out hb); clear hb; rw [← HT.out, C1.out])
        go_roundg g1
        case measure => omega
        case rel => exact ⟨i + 1, by rw [hw, Int.natCast_add]; rfl, by have := HI.out; omega, HB1, ⟨none_snoc HX.out HY.out C1.out⟩⟩

theorem CfB_is (A : Option Addr) (c : Nat) (l : List S28) (gb : Nat) (y : S28) (w : World) (hr : Kd.C k28 w A l.length l) (hl : l.length ≤ 1000000) (hp : w.heap[gb]? = some (.cells (cB y) 28 (0, 0))) :
    Calls Tryd.prog 26 #[.slice A l.length c, .func (.func 27) #[] #[.pointer (some ⟨gb, 0, none⟩)]] w fun e w' => e = .returned (.bool (decide (0 ≤ idxI (tBind1 y) l))) ∧ Below w.heap.size w w' := by
  have HR := Aside0.mk hr
  have HL := Aside0.mk hl
  have HP := Aside0.mk hp
  clear hr hl hp
  go_enter Tryd.func26, Tryd.ntmps26
  go_wp2_with (go_at_call 16; refine (IxBBind1_is A c l gb y _ HR.out HL.out HP.out).mono ?_; rintro e w1 ⟨rfl, hb⟩; have HB1 := Aside0.mk hb; clear hb)
  go_ret
  exact ⟨rfl, HB1.out⟩
end Go.Proofs.YtpmalfabeajepaaDoor.Rt
