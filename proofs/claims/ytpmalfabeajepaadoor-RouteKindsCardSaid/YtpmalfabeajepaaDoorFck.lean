/-
  Whether exchanges and bindings may be: May's contract.
  Conditions: none.
-/
import Derived.Test.YtpmalfabeajepaaDoorFb
import Derived.Test.YtpmalfabeajepaaDoorPGbx2
namespace Go.Proofs.YtpmalfabeajepaaDoor.Rt
open Go.RowKit Go.Proofs.YtpmalfabeajepaaDoorW.PrintWords Go.Proofs.YtpmalfabeajepaaDoorW.PrintLast Go.Proofs.YtpmalfabeajepaaDoorG Go.Proofs.YtpmalfabeajepaaDoor.PGa Go.Proofs.YtpmalfabeajepaaDoorH
set_option linter.unusedVariables false
set_option linter.unusedSimpArgs false

def ExOk (x : List S25) (i : Nat) : Prop := 1 ≤ (rd_T25 x i).f0.size ∧ (rd_T25 x i).f0.size ≤ 40 ∧ 1 ≤ (rd_T25 x i).f1 ∧ (rd_T25 x i).f1 ≤ 4 ∧ idxI (nameIs (rd_T25 x i).f0) x = i
noncomputable abbrev MB (k : Nat) (x : List S25) (b : S28) : Option Bool := PGb.route_mayBinding.f k x b.f0 b.f1 b.f2 b.f3
def BOk (k : Nat) (x : List S25) (l : List S28) (i : Nat) : Prop := MB k x (rd_T28 l i) = some true ∧ idxI (tMay1 (rd_T28 l i)) l = i
def BNo (k : Nat) (x : List S25) (l : List S28) (i : Nat) : Prop := MB k x (rd_T28 l i) = some false ∨ (MB k x (rd_T28 l i) = some true ∧ idxI (tMay1 (rd_T28 l i)) l ≠ i)
/-- What May answers. -/
def MayR (k : Nat) (x : List S25) (l : List S28) (r : Bool) : Prop :=
  (r = true ∧ x.length ≤ 16 ∧ l.length ≤ 64 ∧ (∀ i, i < x.length → ExOk x i) ∧ ∀ i, i < l.length → BOk k x l i) ∨
  (r = false ∧ (16 < x.length ∨ 64 < l.length ∨ (∃ i, i < x.length ∧ ¬ ExOk x i) ∨ ((∀ i, i < x.length → ExOk x i) ∧ ∃ i, i < l.length ∧ (∀ j, j < i → BOk k x l j) ∧ BNo k x l i)))
section
variable {k : Nat} {x : List S25} {l : List S28} {r : Bool}
theorem mayr_long (h : MayR k x l r) (hn : 16 < x.length ∨ 64 < l.length) : r = false := by
  rcases h with ⟨_, a, b, _⟩ | ⟨h, _⟩
  · omega
  · exact h
theorem mayr_ex (h : MayR k x l r) {i : Nat} (hi : i < x.length) (hn : ¬ ExOk x i) : r = false := by
  rcases h with ⟨_, _, _, a, _⟩ | ⟨h, _⟩
  · exact absurd (a i hi) hn
  · exact h
theorem BNo.not {i : Nat} (h : BNo k x l i) : ¬ BOk k x l i := by
  rintro ⟨a, b⟩
  rcases h with h | ⟨_, h⟩
  · rw [a] at h
    cases h
  · exact h b
theorem mayr_step (h : MayR k x l r) (h16 : x.length ≤ 16) (h64 : l.length ≤ 64) (hx : ∀ i, i < x.length → ExOk x i) {i : Nat} (hi : i < l.length) (hp : ∀ j, j < i → BOk k x l j) : BOk k x l i ∨ (BNo k x l i ∧ r = false) := by
  rcases h with ⟨_, _, _, _, a⟩ | ⟨hr, a | a | ⟨j, hj, a⟩ | ⟨_, j, hj, a, b⟩⟩
  · exact .inl (a i hi)
  · omega
  · omega
  · exact absurd (hx j hj) a
  · rcases Nat.lt_trichotomy i j with c | rfl | c
    · exact .inl (a i c)
    · exact .inr ⟨b, hr⟩
    · exact absurd (hp j c) b.not
theorem mayr_all (h : MayR k x l r) (h16 : x.length ≤ 16) (h64 : l.length ≤ 64) (hx : ∀ i, i < x.length → ExOk x i) (hb : ∀ i, i < l.length → BOk k x l i) : r = true := by
  rcases h with ⟨h, _⟩ | ⟨_, a | a | ⟨j, hj, a⟩ | ⟨_, j, hj, _, b⟩⟩
  · exact h
  · omega
  · omega
  · exact absurd (hx j hj) a
  · exact absurd (hb j hj) b.not
theorem upto_snoc {p : Nat → Prop} {i : Nat} (h : ∀ j, j < i → p j) (hi : p i) : ∀ j, j < i + 1 → p j := by
  intro j hj
  rcases Nat.lt_succ_iff_lt_or_eq.1 hj with h1 | rfl
  · exact h j h1
  · exact hi
end

set_option maxHeartbeats 16000000 in
theorem May_is (k : Nat) (A : Option Addr) (c : Nat) (x : List S25) (B : Option Addr) (d : Nat) (l : List S28) (r : Bool) (w : World) (hx : Kd.C k25 w A x.length x) (hxc : x.length ≤ c) (hl : Kd.C k28 w B l.length l) (hgl : Gl w) (h : MayR k x l r) :
    Calls Tryd.prog 8 #[.slice A x.length c, .slice B l.length d] w fun e w' => e = .returned (.bool r) ∧ Below w.heap.size w w' := by
  have HX := Aside0.mk hx
  have HGL := Aside0.mk hgl
  have HL := Aside0.mk hl
  have HXC := Aside0.mk hxc
  have HM := Aside0.mk h
  have hu := Tryd.underlying25
  have hv := Tryd.underlying28
  clear hx hl hxc h hgl
  by_cases n16 : x.length ≤ 16
  rotate_left
  · have n1 : (16 : Int) < (x.length : Int) := by omega
    obtain rfl := mayr_long HM.out (.inl (by omega))
    clear n16
    go_enter Tryd.func8, Tryd.ntmps8
    go_wp2
    go_ret
    exact ⟨rfl, Below.refl _ _⟩
  by_cases n64 : l.length ≤ 64
  rotate_left
  · have n1 : ¬ (16 : Int) < (x.length : Int) := by omega
    have n2 : (64 : Int) < (l.length : Int) := by omega
    obtain rfl := mayr_long HM.out (.inr (by omega))
    clear n16 n64
    go_enter Tryd.func8, Tryd.ntmps8
    go_wp2
    go_ret
    exact ⟨rfl, Below.refl _ _⟩
  have n1 : ¬ (16 : Int) < (x.length : Int) := by omega
  have n2 : ¬ (64 : Int) < (l.length : Int) := by omega
  have N16 := Aside0.mk n16
  have N64 := Aside0.mk n64
  have HXL := Aside0.mk (show x.length ≤ 1000000 by omega)
  have HLL := Aside0.mk (show l.length ≤ 1000000 by omega)
  clear n16 n64
  go_enter Tryd.func8, Tryd.ntmps8
  go_wp2
  go_loopg [19] x.length (fun g v19 wr => ∃ (i : Nat), v19 = .int .i64 i ∧ g + i = x.length ∧ Aside0 (Below w.heap.size w wr) ∧ Aside0 (∀ j, j < i → ExOk x j))
  case atStart => exact ⟨0, rfl, by omega, ⟨Below.refl _ _⟩, ⟨fun j hj => absurd hj (Nat.not_lt_zero _)⟩⟩
  case round =>
    clear n1 n2
    obtain ⟨i, rfl, hgi, HB, HE⟩ := hrel
    cases gk with
    | succ g1 =>
      have hi : (i : Int) < (x.length : Int) := by omega
      have hi0 : 0 ≤ (i : Int) := by omega
      have hin : i < x.length := by omega
      obtain ⟨ad, e1, hx0, hx1⟩ := at_T25 HX.out i hi0 hi
      cases e1
      obtain ⟨y, hy⟩ : ∃ y, rd_T25 x (i : Int) = y := ⟨_, rfl⟩
      rw [hy, Int.toNat_natCast] at hx0 hx1
      replace hx0 := (HB.out.cell (World.block_lt_of_cell? w _ hx0)).trans hx0
      replace hx1 := (HB.out.cell (World.block_lt_of_cell? w _ hx1)).trans hx1
      have HI := Aside0.mk hgi
      have HN := Aside0.mk hin
      have HOK : Aside0 (ExOk x i ↔ (1 ≤ y.f0.size ∧ y.f0.size ≤ 40 ∧ 1 ≤ y.f1 ∧ y.f1 ≤ 4 ∧ idxI (nameIs y.f0) x = i)) := ⟨by unfold ExOk; rw [hy]⟩
      have hw : wrap64 ((i : Int) + 1) = (i : Int) + 1 := w64 _ (by omega) (by have := N16.out; omega)
      obtain ⟨q, hq⟩ : ∃ q, idxI (nameIs y.f0) x = q := ⟨_, rfl⟩
      rw [hq] at HOK
      have HQ := Aside0.mk hq
      clear hgi hy hin hq
      by_cases a0 : (y.f0.size : Int) < 1
      · obtain rfl := mayr_ex HM.out HN.out (fun h => by have := HOK.out.1 h; clear hw; omega)
        go_wp2_with (first 
          | ((with_reducible refine gate_dst (N := 6) rfl ?_); refine box_event ?hg (N := 6) ?hd (cs := #[.string ⟨#[]⟩, .int .i64 0]) (t := 25) ?hr ?_; (case hd => rfl); (case hg => rfl); (case hr => first | (go_simp; done) | (go_simp; rfl)); intro g1_ hg w9 hbox hb; have HB1 := Aside0.mk (thn HB.out hb); have GE1 := Aside0.mk (show w.heap.size ≤ g1_ by rw [hg]; exact HB.out.size); have z0 : w9.cell? ⟨g1_, 0, none⟩ = some (.string ⟨#[]⟩) := (blk_cell hbox 0).trans rfl; have z1 : w9.cell? ⟨g1_, 1, none⟩ = some (.int .i64 0) := (blk_cell hbox 1).trans rfl; have f0_ := blk_frozen hbox 0; have f1_ := blk_frozen hbox 1; clear hb hbox hg)
          | (go_at_call 14; refine (Find_is (some ad) c x y.f0 _ (Kd.C_below HX.out (by repeat (first | exact HB1.out | refine below_set ?_ GE1.out))) HXL.out).mono ?_; rintro e w1 ⟨rfl, hb⟩; have HB2 := Aside0.mk (thn (show Below w.heap.size w _ from (by repeat (first | exact HB1.out | refine below_set ?_ GE1.out))) hb); clear hb; rw [HQ.out]))
        go_ret
        exact ⟨rfl, by repeat (first | exact HB1.out | refine below_set ?_ GE1.out)⟩
      by_cases a1 : (40 : Int) < (y.f0.size : Int)
      · obtain rfl := mayr_ex HM.out HN.out (fun h => by have := HOK.out.1 h; clear hw; omega)
        go_wp2_with (first 
          | ((with_reducible refine gate_dst (N := 6) rfl ?_); refine box_event ?hg (N := 6) ?hd (cs := #[.string ⟨#[]⟩, .int .i64 0]) (t := 25) ?hr ?_; (case hd => rfl); (case hg => rfl); (case hr => first | (go_simp; done) | (go_simp; rfl)); intro g1_ hg w9 hbox hb; have HB1 := Aside0.mk (thn HB.out hb); have GE1 := Aside0.mk (show w.heap.size ≤ g1_ by rw [hg]; exact HB.out.size); have z0 : w9.cell? ⟨g1_, 0, none⟩ = some (.string ⟨#[]⟩) := (blk_cell hbox 0).trans rfl; have z1 : w9.cell? ⟨g1_, 1, none⟩ = some (.int .i64 0) := (blk_cell hbox 1).trans rfl; have f0_ := blk_frozen hbox 0; have f1_ := blk_frozen hbox 1; clear hb hbox hg)
          | (go_at_call 14; refine (Find_is (some ad) c x y.f0 _ (Kd.C_below HX.out (by repeat (first | exact HB1.out | refine below_set ?_ GE1.out))) HXL.out).mono ?_; rintro e w1 ⟨rfl, hb⟩; have HB2 := Aside0.mk (thn (show Below w.heap.size w _ from (by repeat (first | exact HB1.out | refine below_set ?_ GE1.out))) hb); clear hb; rw [HQ.out]))
        go_ret
        exact ⟨rfl, by repeat (first | exact HB1.out | refine below_set ?_ GE1.out)⟩
      by_cases a2 : y.f1 < 1
      · obtain rfl := mayr_ex HM.out HN.out (fun h => by have := HOK.out.1 h; clear hw; omega)
        go_wp2_with (first 
          | ((with_reducible refine gate_dst (N := 6) rfl ?_); refine box_event ?hg (N := 6) ?hd (cs := #[.string ⟨#[]⟩, .int .i64 0]) (t := 25) ?hr ?_; (case hd => rfl); (case hg => rfl); (case hr => first | (go_simp; done) | (go_simp; rfl)); intro g1_ hg w9 hbox hb; have HB1 := Aside0.mk (thn HB.out hb); have GE1 := Aside0.mk (show w.heap.size ≤ g1_ by rw [hg]; exact HB.out.size); have z0 : w9.cell? ⟨g1_, 0, none⟩ = some (.string ⟨#[]⟩) := (blk_cell hbox 0).trans rfl; have z1 : w9.cell? ⟨g1_, 1, none⟩ = some (.int .i64 0) := (blk_cell hbox 1).trans rfl; have f0_ := blk_frozen hbox 0; have f1_ := blk_frozen hbox 1; clear hb hbox hg)
          | (go_at_call 14; refine (Find_is (some ad) c x y.f0 _ (Kd.C_below HX.out (by repeat (first | exact HB1.out | refine below_set ?_ GE1.out))) HXL.out).mono ?_; rintro e w1 ⟨rfl, hb⟩; have HB2 := Aside0.mk (thn (show Below w.heap.size w _ from (by repeat (first | exact HB1.out | refine below_set ?_ GE1.out))) hb); clear hb; rw [HQ.out]))
        go_ret
        exact ⟨rfl, by repeat (first | exact HB1.out | refine below_set ?_ GE1.out)⟩
      by_cases a3 : (4 : Int) < y.f1
      · obtain rfl := mayr_ex HM.out HN.out (fun h => by have := HOK.out.1 h; clear hw; omega)
        go_wp2_with (first 
          | ((with_reducible refine gate_dst (N := 6) rfl ?_); refine box_event ?hg (N := 6) ?hd (cs := #[.string ⟨#[]⟩, .int .i64 0]) (t := 25) ?hr ?_; (case hd => rfl); (case hg => rfl); (case hr => first | (go_simp; done) | (go_simp; rfl)); intro g1_ hg w9 hbox hb; have HB1 := Aside0.mk (thn HB.out hb); have GE1 := Aside0.mk (show w.heap.size ≤ g1_ by rw [hg]; exact HB.out.size); have z0 : w9.cell? ⟨g1_, 0, none⟩ = some (.string ⟨#[]⟩) := (blk_cell hbox 0).trans rfl; have z1 : w9.cell? ⟨g1_, 1, none⟩ = some (.int .i64 0) := (blk_cell hbox 1).trans rfl; have f0_ := blk_frozen hbox 0; have f1_ := blk_frozen hbox 1; clear hb hbox hg)
          | (go_at_call 14; refine (Find_is (some ad) c x y.f0 _ (Kd.C_below HX.out (by repeat (first | exact HB1.out | refine below_set ?_ GE1.out))) HXL.out).mono ?_; rintro e w1 ⟨rfl, hb⟩; have HB2 := Aside0.mk (thn (show Below w.heap.size w _ from (by repeat (first | exact HB1.out | refine below_set ?_ GE1.out))) hb); clear hb; rw [HQ.out]))
        go_ret
        exact ⟨rfl, by repeat (first | exact HB1.out | refine below_set ?_ GE1.out)⟩
      by_cases a4 : q = (i : Int)
      · have HKK := Aside0.mk (HOK.out.2 ⟨by clear hw; omega, by clear hw; omega, by clear hw; omega, by clear hw; omega, a4⟩)
        subst a4
        go_wp2_with (first 
          | ((with_reducible refine gate_dst (N := 6) rfl ?_); refine box_event ?hg (N := 6) ?hd (cs := #[.string ⟨#[]⟩, .int .i64 0]) (t := 25) ?hr ?_; (case hd => rfl); (case hg => rfl); (case hr => first | (go_simp; done) | (go_simp; rfl)); intro g1_ hg w9 hbox hb; have HB1 := Aside0.mk (thn HB.out hb); have GE1 := Aside0.mk (show w.heap.size ≤ g1_ by rw [hg]; exact HB.out.size); have z0 : w9.cell? ⟨g1_, 0, none⟩ = some (.string ⟨#[]⟩) := (blk_cell hbox 0).trans rfl; have z1 : w9.cell? ⟨g1_, 1, none⟩ = some (.int .i64 0) := (blk_cell hbox 1).trans rfl; have f0_ := blk_frozen hbox 0; have f1_ := blk_frozen hbox 1; clear hb hbox hg)
          | (go_at_call 14; refine (Find_is (some ad) c x y.f0 _ (Kd.C_below HX.out (by repeat (first | exact HB1.out | refine below_set ?_ GE1.out))) HXL.out).mono ?_; rintro e w1 ⟨rfl, hb⟩; have HB2 := Aside0.mk (thn (show Below w.heap.size w _ from (by repeat (first | exact HB1.out | refine below_set ?_ GE1.out))) hb); clear hb; rw [HQ.out]))
        go_roundg g1
        case measure => omega
        case rel => exact ⟨i + 1, by rw [hw, Int.natCast_add]; rfl, by have := HI.out; omega, HB2, ⟨upto_snoc HE.out HKK.out⟩⟩
      · obtain rfl := mayr_ex HM.out HN.out (fun h => a4 (HOK.out.1 h).2.2.2.2)
        have a5 : (q != (i : Int)) = true := bne_iff_ne.2 a4
        have a6 : (q = (i : Int)) = False := eq_false a4
        clear a4
        go_wp2_with (first 
          | ((with_reducible refine gate_dst (N := 6) rfl ?_); refine box_event ?hg (N := 6) ?hd (cs := #[.string ⟨#[]⟩, .int .i64 0]) (t := 25) ?hr ?_; (case hd => rfl); (case hg => rfl); (case hr => first | (go_simp; done) | (go_simp; rfl)); intro g1_ hg w9 hbox hb; have HB1 := Aside0.mk (thn HB.out hb); have GE1 := Aside0.mk (show w.heap.size ≤ g1_ by rw [hg]; exact HB.out.size); have z0 : w9.cell? ⟨g1_, 0, none⟩ = some (.string ⟨#[]⟩) := (blk_cell hbox 0).trans rfl; have z1 : w9.cell? ⟨g1_, 1, none⟩ = some (.int .i64 0) := (blk_cell hbox 1).trans rfl; have f0_ := blk_frozen hbox 0; have f1_ := blk_frozen hbox 1; clear hb hbox hg)
          | (go_at_call 14; refine (Find_is (some ad) c x y.f0 _ (Kd.C_below HX.out (by repeat (first | exact HB1.out | refine below_set ?_ GE1.out))) HXL.out).mono ?_; rintro e w1 ⟨rfl, hb⟩; have HB2 := Aside0.mk (thn (show Below w.heap.size w _ from (by repeat (first | exact HB1.out | refine below_set ?_ GE1.out))) hb); clear hb; rw [HQ.out]))
        go_ret
        exact ⟨rfl, HB2.out⟩
    | zero =>
      obtain rfl : i = x.length := by omega
      have h1 : ¬ ((x.length : Int) < (x.length : Int)) := by omega
      clear hgi
      go_wp2
      go_loopg [55] l.length (fun g v55 wr => ∃ (i : Nat), v55 = .int .i64 i ∧ g + i = l.length ∧ Aside0 (Below w.heap.size w wr) ∧ Aside0 (∀ j, j < i → BOk k x l j))
      case atStart => exact ⟨0, rfl, by omega, HB, ⟨fun j hj => absurd hj (Nat.not_lt_zero _)⟩⟩
      case round =>
        clear HB h1
        obtain ⟨i, rfl, hgi, HB, HO⟩ := hrel
        cases gk with
        | zero =>
          obtain rfl : i = l.length := by omega
          have h1 : ¬ ((l.length : Int) < (l.length : Int)) := by omega
          obtain rfl := mayr_all HM.out N16.out N64.out HE.out HO.out
          clear hgi
          go_wp2
          go_ret
          exact ⟨rfl, HB.out⟩
        | succ g1 =>
          have hi : (i : Int) < (l.length : Int) := by omega
          have hi0 : 0 ≤ (i : Int) := by omega
          have hin : i < l.length := by omega
          obtain ⟨ad, e1, hx0, hx1, hx2, hx3⟩ := at_T28 HL.out i hi0 hi
          cases e1
          obtain ⟨y, hy⟩ : ∃ y, rd_T28 l (i : Int) = y := ⟨_, rfl⟩
          rw [hy, Int.toNat_natCast] at hx0 hx1 hx2 hx3
          replace hx0 := (HB.out.cell (World.block_lt_of_cell? w _ hx0)).trans hx0
          replace hx1 := (HB.out.cell (World.block_lt_of_cell? w _ hx1)).trans hx1
          replace hx2 := (HB.out.cell (World.block_lt_of_cell? w _ hx2)).trans hx2
          replace hx3 := (HB.out.cell (World.block_lt_of_cell? w _ hx3)).trans hx3
          have HI := Aside0.mk hgi
          have hw : wrap64 ((i : Int) + 1) = (i : Int) + 1 := w64 _ (by omega) (by have := N64.out; omega)
          have HST := mayr_step HM.out N16.out N64.out HE.out hin HO.out
          have HOK := Aside0.mk (show BOk k x l i → BOk k x l i from id)
          unfold BNo BOk at HST
          rw [hy] at HST
          have HBK : Aside0 (MB k x y = some true ∧ idxI (tMay1 y) l = i → BOk k x l i) := ⟨fun h => by unfold BOk; rw [hy]; exact h⟩
          clear hgi hy hin HOK
          obtain ⟨q, hq⟩ : ∃ q, idxI (tMay1 y) l = q := ⟨_, rfl⟩
          rw [hq] at HST HBK
          have HQ := Aside0.mk hq
          clear hq
          rcases HST with ⟨hm, hqi⟩ | ⟨hm | ⟨hm, hqi⟩, rfl⟩
          · have HMB := Aside0.mk hm
            have HKK := Aside0.mk (HBK.out ⟨hm, hqi⟩)
            have hqe : (q == (i : Int)) = true := beq_iff_eq.2 hqi
            have hqn : (q != (i : Int)) = false := by simp [hqi]
            subst hqi
            clear hm HBK
            go_wp2_with (first
              | ((with_reducible refine gate_dst (N := 8) rfl ?_); refine box_event ?hg (N := 8) ?hd (cs := #[.string ⟨#[]⟩, .string ⟨#[]⟩, .string ⟨#[]⟩, .int .i64 0]) (t := 28) ?hr ?_; (case hd => rfl); (case hg => rfl); (case hr => first | (go_simp; done) | (go_simp; rfl)); intro g1_ hg w9 hbox hb; have HB1 := Aside0.mk (thn HB.out hb); have GE1 := Aside0.mk (show w.heap.size ≤ g1_ by rw [hg]; exact HB.out.size); have HX1 := Aside0.mk hbox; have z0 : w9.cell? ⟨g1_, 0, none⟩ = some (.string ⟨#[]⟩) := (blk_cell hbox 0).trans rfl; have z1 : w9.cell? ⟨g1_, 1, none⟩ = some (.string ⟨#[]⟩) := (blk_cell hbox 1).trans rfl; have z2 : w9.cell? ⟨g1_, 2, none⟩ = some (.string ⟨#[]⟩) := (blk_cell hbox 2).trans rfl; have z3 : w9.cell? ⟨g1_, 3, none⟩ = some (.int .i64 0) := (blk_cell hbox 3).trans rfl; have f0_ := blk_frozen hbox 0; have f1_ := blk_frozen hbox 1; have f2_ := blk_frozen hbox 2; have f3_ := blk_frozen hbox 3; clear hb hbox hg)
              | (go_at_call 15; refine (PGb.route_mayBinding.calls k A c x y.f0 y.f1 y.f2 y.f3 _ _ (Gl.below HGL.out (by repeat (first | exact HB1.out | refine below_set ?_ GE1.out))) (Kd.C_below HX.out (by repeat (first | exact HB1.out | refine below_set ?_ GE1.out))) HXC.out HMB.out).mono ?_; rintro e w1 ⟨rfl, hb⟩; have HB2 := Aside0.mk (thn (show Below w.heap.size w _ from (by repeat (first | exact HB1.out | refine below_set ?_ GE1.out))) hb); have HX2 : Aside0 (w1.heap[g1_]? = some (.cells (cB y) 28 (0, 0))) := ⟨(hb.block g1_ (blk_lt (blk_set (blk_set (blk_set (blk_set HX1.out 0 (.string y.f0)) 1 (.string y.f1)) 2 (.string y.f2)) 3 (.int .i64 y.f3)))).trans (blk_set (blk_set (blk_set (blk_set HX1.out 0 (.string y.f0)) 1 (.string y.f1)) 2 (.string y.f2)) 3 (.int .i64 y.f3))⟩; clear hb)
              | (go_at_call 16; refine (IxBMay1_is (some ad) d l g1_ y _ (Kd.C_below HL.out HB2.out) HLL.out HX2.out).mono ?_; rintro e w1 ⟨rfl, hb⟩; have HB3 := Aside0.mk (thn HB2.out hb); clear hb; rw [HQ.out]))
            go_roundg g1
            case measure => omega
            case rel => exact ⟨i + 1, by rw [hw, Int.natCast_add]; rfl, by have := HI.out; omega, HB3, ⟨upto_snoc HO.out HKK.out⟩⟩
          · have HMB := Aside0.mk hm
            clear hm HBK
            go_wp2_with (first
              | ((with_reducible refine gate_dst (N := 8) rfl ?_); refine box_event ?hg (N := 8) ?hd (cs := #[.string ⟨#[]⟩, .string ⟨#[]⟩, .string ⟨#[]⟩, .int .i64 0]) (t := 28) ?hr ?_; (case hd => rfl); (case hg => rfl); (case hr => first | (go_simp; done) | (go_simp; rfl)); intro g1_ hg w9 hbox hb; have HB1 := Aside0.mk (thn HB.out hb); have GE1 := Aside0.mk (show w.heap.size ≤ g1_ by rw [hg]; exact HB.out.size); have HX1 := Aside0.mk hbox; have z0 : w9.cell? ⟨g1_, 0, none⟩ = some (.string ⟨#[]⟩) := (blk_cell hbox 0).trans rfl; have z1 : w9.cell? ⟨g1_, 1, none⟩ = some (.string ⟨#[]⟩) := (blk_cell hbox 1).trans rfl; have z2 : w9.cell? ⟨g1_, 2, none⟩ = some (.string ⟨#[]⟩) := (blk_cell hbox 2).trans rfl; have z3 : w9.cell? ⟨g1_, 3, none⟩ = some (.int .i64 0) := (blk_cell hbox 3).trans rfl; have f0_ := blk_frozen hbox 0; have f1_ := blk_frozen hbox 1; have f2_ := blk_frozen hbox 2; have f3_ := blk_frozen hbox 3; clear hb hbox hg)
              | (go_at_call 15; refine (PGb.route_mayBinding.calls k A c x y.f0 y.f1 y.f2 y.f3 _ _ (Gl.below HGL.out (by repeat (first | exact HB1.out | refine below_set ?_ GE1.out))) (Kd.C_below HX.out (by repeat (first | exact HB1.out | refine below_set ?_ GE1.out))) HXC.out HMB.out).mono ?_; rintro e w1 ⟨rfl, hb⟩; have HB2 := Aside0.mk (thn (show Below w.heap.size w _ from (by repeat (first | exact HB1.out | refine below_set ?_ GE1.out))) hb); have HX2 : Aside0 (w1.heap[g1_]? = some (.cells (cB y) 28 (0, 0))) := ⟨(hb.block g1_ (blk_lt (blk_set (blk_set (blk_set (blk_set HX1.out 0 (.string y.f0)) 1 (.string y.f1)) 2 (.string y.f2)) 3 (.int .i64 y.f3)))).trans (blk_set (blk_set (blk_set (blk_set HX1.out 0 (.string y.f0)) 1 (.string y.f1)) 2 (.string y.f2)) 3 (.int .i64 y.f3))⟩; clear hb)
              | (go_at_call 16; refine (IxBMay1_is (some ad) d l g1_ y _ (Kd.C_below HL.out HB2.out) HLL.out HX2.out).mono ?_; rintro e w1 ⟨rfl, hb⟩; have HB3 := Aside0.mk (thn HB2.out hb); clear hb; rw [HQ.out]))
            go_ret
            exact ⟨rfl, HB2.out⟩
          · have HMB := Aside0.mk hm
            have hqn : (q != (i : Int)) = true := bne_iff_ne.2 hqi
            have hqd : (q = (i : Int)) = False := eq_false hqi
            clear hm HBK hqi
            go_wp2_with (first
              | ((with_reducible refine gate_dst (N := 8) rfl ?_); refine box_event ?hg (N := 8) ?hd (cs := #[.string ⟨#[]⟩, .string ⟨#[]⟩, .string ⟨#[]⟩, .int .i64 0]) (t := 28) ?hr ?_; (case hd => rfl); (case hg => rfl); (case hr => first | (go_simp; done) | (go_simp; rfl)); intro g1_ hg w9 hbox hb; have HB1 := Aside0.mk (thn HB.out hb); have GE1 := Aside0.mk (show w.heap.size ≤ g1_ by rw [hg]; exact HB.out.size); have HX1 := Aside0.mk hbox; have z0 : w9.cell? ⟨g1_, 0, none⟩ = some (.string ⟨#[]⟩) := (blk_cell hbox 0).trans rfl; have z1 : w9.cell? ⟨g1_, 1, none⟩ = some (.string ⟨#[]⟩) := (blk_cell hbox 1).trans rfl; have z2 : w9.cell? ⟨g1_, 2, none⟩ = some (.string ⟨#[]⟩) := (blk_cell hbox 2).trans rfl; have z3 : w9.cell? ⟨g1_, 3, none⟩ = some (.int .i64 0) := (blk_cell hbox 3).trans rfl; have f0_ := blk_frozen hbox 0; have f1_ := blk_frozen hbox 1; have f2_ := blk_frozen hbox 2; have f3_ := blk_frozen hbox 3; clear hb hbox hg)
              | (go_at_call 15; refine (PGb.route_mayBinding.calls k A c x y.f0 y.f1 y.f2 y.f3 _ _ (Gl.below HGL.out (by repeat (first | exact HB1.out | refine below_set ?_ GE1.out))) (Kd.C_below HX.out (by repeat (first | exact HB1.out | refine below_set ?_ GE1.out))) HXC.out HMB.out).mono ?_; rintro e w1 ⟨rfl, hb⟩; have HB2 := Aside0.mk (thn (show Below w.heap.size w _ from (by repeat (first | exact HB1.out | refine below_set ?_ GE1.out))) hb); have HX2 : Aside0 (w1.heap[g1_]? = some (.cells (cB y) 28 (0, 0))) := ⟨(hb.block g1_ (blk_lt (blk_set (blk_set (blk_set (blk_set HX1.out 0 (.string y.f0)) 1 (.string y.f1)) 2 (.string y.f2)) 3 (.int .i64 y.f3)))).trans (blk_set (blk_set (blk_set (blk_set HX1.out 0 (.string y.f0)) 1 (.string y.f1)) 2 (.string y.f2)) 3 (.int .i64 y.f3))⟩; clear hb)
              | (go_at_call 16; refine (IxBMay1_is (some ad) d l g1_ y _ (Kd.C_below HL.out HB2.out) HLL.out HX2.out).mono ?_; rintro e w1 ⟨rfl, hb⟩; have HB3 := Aside0.mk (thn HB2.out hb); clear hb; rw [HQ.out]))
            go_ret
            exact ⟨rfl, HB3.out⟩
end Go.Proofs.YtpmalfabeajepaaDoor.Rt
