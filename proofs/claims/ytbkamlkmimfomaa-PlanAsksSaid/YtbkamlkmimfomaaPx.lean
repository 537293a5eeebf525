/-
  PlanAsks: the document's numbers over tables and loads are the program's; the walk of the statement.
  Conditions: none.
-/
import Derived.Test.YtbkamlkmimfomaaPo
import Derived.Test.YtbkamlkmimfomaaPGax3
import Derived.Test.YtbkamlkmimfomaaPGax4
import Derived.Test.YtbkamlkmimfomaaPGax5
import Derived.Deep.QuietTactic
import Derived.BigQuiet
import Derived.Deep.RegionHeld3
namespace Go.Proofs.Ytbkamlkmimfomaa
open Go.RowKit Go.Proofs.YtbkamlkmimfomaaW.PrintWords Go.Proofs.YtbkamlkmimfomaaW.PrintLast Go.Proofs.YtbkamlkmimfomaaFl Go.Proofs.YtbkamlkmimfomaaG Go.Proofs.YtbkamlkmimfomaaIv Go.Proofs.Ytbkamlkmimfomaa.PGa
set_option linter.unusedVariables false
set_option linter.unusedSimpArgs false

/-- From some number of rounds on the answer is r. -/
def Ev {α : Type} (F : Nat → Option α) (r : α) : Prop := ∃ K, ∀ k, K ≤ k → F k = some r
theorem Ev.step {α : Type} {F G : Nat → Option α} {r : α} (h : Ev G r) (hs : ∀ k, F (k + 1) = G k) : Ev F r := by
  obtain ⟨K, hK⟩ := h
  refine ⟨K + 1, fun k hk => ?_⟩
  obtain ⟨m, rfl⟩ : ∃ m, k = m + 1 := ⟨k - 1, by omega⟩
  rw [hs]
  exact hK m (by omega)
theorem Ev.same {α : Type} {F G : Nat → Option α} {r : α} (h : Ev G r) (hs : ∀ k, F k = G k) : Ev F r := by
  obtain ⟨K, hK⟩ := h
  exact ⟨K, fun k hk => (hs k).trans (hK k hk)⟩
theorem Ev.pure {α : Type} (r : α) : Ev (fun _ => some r) r := ⟨0, fun _ _ => rfl⟩
theorem Ev.bind {α β : Type} {F : Nat → Option α} {G : Nat → α → Option β} {x : α} {r : β} (h : Ev F x) (h2 : Ev (fun k => G k x) r) : Ev (fun k => (F k).bind (G k)) r := by
  obtain ⟨K, hK⟩ := h
  obtain ⟨L, hL⟩ := h2
  exact ⟨K + L, fun k hk => by show (F k).bind (G k) = _; rw [hK k (by omega)]; exact hL k (by omega)⟩
theorem Ev.at {α : Type} {F : Nat → Option α} {r : α} (h : Ev F r) : ∃ k, F k = some r := by
  obtain ⟨K, hK⟩ := h
  exact ⟨K, hK K (Nat.le_refl _)⟩
theorem drop46 (l : List S46) (i : Nat) (h : i < l.length) : l.drop i = rd_T46 l (i : Int) :: l.drop (i + 1) := by
  have := rd46_at l i h
  rw [List.getElem?_eq_getElem h] at this
  rw [List.drop_eq_getElem_cons h, Option.some.inj this]
theorem dropI (l : List Int) (i : Nat) (h : i < l.length) : l.drop i = YtbkamlkmimfomaaW.PrintWords.rd l (i : Int) :: l.drop (i + 1) := by
  rw [List.drop_eq_getElem_cons h]
  congr 1
  simp [YtbkamlkmimfomaaW.PrintWords.rd, h]

theorem load_ev (l : List Int) (a : Int) (h0 : 0 ≤ a) : Ev (fun k => carrefourref1_load.f k l a) (ldP l a) := by
  refine ⟨1, fun k hk => ?_⟩
  obtain ⟨m, rfl⟩ : ∃ m, k = m + 1 := ⟨k - 1, by omega⟩
  show carrefourref1_load.f (m + 1) l a = _
  unfold carrefourref1_load.f ldP
  rw [if_neg (by omega)]
  by_cases h1 : (l.length : Int) ≤ a
  · rw [if_pos h1, if_pos h1]
    rfl
  · rw [if_neg h1, if_neg h1, if_pos h0, if_pos (by omega)]
    unfold sz
    by_cases h2 : YtbkamlkmimfomaaW.PrintWords.rd l a < 0
    · rw [if_pos h2, if_pos (.inl h2)]
      rfl
    · rw [if_neg h2]
      by_cases h3 : 1073741824 < YtbkamlkmimfomaaW.PrintWords.rd l a
      · rw [if_pos (.inr h3), decide_eq_true (show YtbkamlkmimfomaaW.PrintWords.rd l a > 1073741824 from h3)]
        rfl
      · rw [if_neg (by omega), decide_eq_false (show ¬ YtbkamlkmimfomaaW.PrintWords.rd l a > 1073741824 from h3), carrefourref1_load.j0, if_neg (by decide), if_pos h0, if_pos (by omega)]
theorem arcs_ev (l : List S46) (hl : l.length ≤ 1000000) (s : Nat) : ∀ n i : Nat, i + n = l.length → Ev (fun k => carrefourref1_arcs.l1 k l (s : Int) ((cntA (l.take i) s : Nat) : Int) (i : Int)) ((cntA l s : Nat) : Int)
  | 0, i, hi => by
    have e : i = l.length := by omega
    subst e
    rw [List.take_length]
    refine (Ev.pure _).step (fun k => ?_)
    show carrefourref1_arcs.l1 (k + 1) _ _ _ _ = _
    rw [carrefourref1_arcs.l1, if_neg (by omega)]
  | n + 1, i, hi => by
    have h0 : (i : Int) < (l.length : Int) := by omega
    have hw1 : wrap64 ((i : Int) + 1) = ((i + 1 : Nat) : Int) := (wr64 _ (by omega) (by omega)).trans (by omega)
    have ih := arcs_ev l hl s n (i + 1) (by omega)
    rw [take_snoc l i _ (rd46_at l i (by omega))] at ih
    have hc : cntA (l.take i ++ [rd_T46 l (i : Int)]) s = cntA (l.take i) s + if (rd_T46 l (i : Int)).f1 = (s : Int) then 1 else 0 := by
      unfold cntA
      rw [List.countP_append, List.countP_singleton]
      simp
    rw [hc] at ih
    have hle := cntA_le (l.take i) s
    have hle2 := List.length_take_le i l
    refine ih.step (fun k => ?_)
    show carrefourref1_arcs.l1 (k + 1) _ _ _ _ = _
    rw [carrefourref1_arcs.l1, if_pos h0, if_pos (by omega), hw1]
    by_cases e : (rd_T46 l (i : Int)).f1 = (s : Int)
    · rw [if_pos e, if_pos e, wr64 _ (by omega) (by omega), Int.natCast_add]
      rfl
    · rw [if_neg e, if_neg e]
      rfl
theorem arcs_all (l : List S46) (hl : l.length ≤ 1000000) (s : Nat) : Ev (fun k => carrefourref1_arcs.f k l (s : Int)) ((cntA l s : Nat) : Int) := arcs_ev l hl s l.length 0 (by omega)
theorem has_ev (l : List S46) (hl : l.length ≤ 1000000) (s : Int) : ∀ n i : Nat, i + n = l.length → Ev (fun k => carrefourref1_has.l1 k l s (i : Int)) ((l.drop i).any fun x => decide (x.f1 = s))
  | 0, i, hi => by
    rw [List.drop_of_length_le (by omega)]
    refine (Ev.pure _).step (fun k => ?_)
    show carrefourref1_has.l1 (k + 1) _ _ _ = _
    rw [carrefourref1_has.l1, if_neg (by omega)]
    rfl
  | n + 1, i, hi => by
    have h0 : (i : Int) < (l.length : Int) := by omega
    have hw1 : wrap64 ((i : Int) + 1) = ((i + 1 : Nat) : Int) := (wr64 _ (by omega) (by omega)).trans (by omega)
    rw [drop46 l i (by omega), List.any_cons]
    by_cases e : (rd_T46 l (i : Int)).f1 = s
    · refine (Ev.pure _).step (fun k => ?_)
      show carrefourref1_has.l1 (k + 1) _ _ _ = _
      rw [carrefourref1_has.l1, if_pos h0, if_pos (by omega), if_pos e, decide_eq_true e, Bool.true_or]
    · rw [decide_eq_false e, Bool.false_or]
      refine (has_ev l hl s n (i + 1) (by omega)).step (fun k => ?_)
      show carrefourref1_has.l1 (k + 1) _ _ _ = _
      rw [carrefourref1_has.l1, if_pos h0, if_pos (by omega), if_neg e, hw1]
theorem has_all (l : List S46) (hl : l.length ≤ 1000000) (s : Nat) : Ev (fun k => carrefourref1_has.f k l (s : Int)) (decide (0 < cntA l s)) := by
  have h := has_ev l hl (s : Int) l.length 0 (by omega)
  have e : ((l.drop 0).any fun x => decide (x.f1 = (s : Int))) = decide (0 < cntA l s) := by
    rw [List.drop_zero, Bool.eq_iff_iff, List.any_eq_true, decide_eq_true_eq]
    unfold cntA
    rw [List.countP_pos_iff]
  rw [e] at h
  exact h

/-! ### What tables may be -/
theorem mayarcs_ev (l : List S46) (hl : l.length ≤ 1024) : ∀ n i : Nat, i + n = l.length → (∀ j, j < i → ringAt l j = true) → Ev (fun k => carrefourref1_MayArcs.l1 k l (i : Int)) (decide (∀ i, i < l.length → ringAt l i = true))
  | 0, i, hi, hj => by
    refine (Ev.pure _).step (fun k => ?_)
    show carrefourref1_MayArcs.l1 (k + 1) _ _ = _
    rw [carrefourref1_MayArcs.l1, if_neg (by omega), decide_eq_true]
    intro j h
    exact hj j (by omega)
  | n + 1, i, hi, hj => by
    have h0 : (i : Int) < (l.length : Int) := by omega
    have h1 : (0 : Int) ≤ (i : Int) := by omega
    have hw : wrap64 ((i : Int) - 1) = (i : Int) - 1 := wr64 _ (by omega) (by omega)
    have hw1 : wrap64 ((i : Int) + 1) = ((i + 1 : Nat) : Int) := (wr64 _ (by omega) (by omega)).trans (by omega)
    have hT : ∀ k, carrefourref1_MayArcs.l1 (k + 1) l (i : Int) = carrefourref1_MayArcs.j2 k l (i : Int) (!ringAt l i) := by
      intro k
      rw [carrefourref1_MayArcs.l1, if_pos h0, if_pos h1]
      unfold ringAt
      by_cases a : (rd_T46 l (i : Int)).f1 < 0
      · rw [if_pos a, decide_eq_true a]
        rfl
      · rw [if_neg a, decide_eq_false a]
        by_cases b : (16 : Int) ≤ (rd_T46 l (i : Int)).f1
        · rw [if_pos b, decide_eq_true b]
          rfl
        · rw [if_neg b, decide_eq_false b]
          by_cases c : 0 < i
          · rw [if_pos (show (i : Int) > 0 by omega), hw, if_pos (show (0 : Int) ≤ (i : Int) - 1 by omega), if_pos (show (i : Int) - 1 < (l.length : Int) by omega), decide_eq_true c]
            simp
          · rw [if_neg (show ¬ (i : Int) > 0 by omega), decide_eq_false c]
            rfl
    cases hr : ringAt l i with
    | false =>
      have e : decide (∀ i, i < l.length → ringAt l i = true) = false := decide_eq_false (fun h => by
        have := h i (by omega)
        rw [hr] at this
        cases this)
      rw [e]
      refine Ev.step (G := fun k => carrefourref1_MayArcs.j2 k l (i : Int) true) ((Ev.pure _).step (fun k => ?_)) (fun k => ?_)
      · show carrefourref1_MayArcs.j2 (k + 1) _ _ _ = _
        rw [carrefourref1_MayArcs.j2, if_pos rfl]
      · show carrefourref1_MayArcs.l1 (k + 1) _ _ = _
        rw [hT, hr]
        rfl
    | true =>
      have ih := mayarcs_ev l hl n (i + 1) (by omega) (fun j h => by
        rcases Nat.lt_succ_iff_lt_or_eq.1 h with h2 | rfl
        · exact hj j h2
        · exact hr)
      refine Ev.step (G := fun k => carrefourref1_MayArcs.j2 k l (i : Int) false) (ih.step (fun k => ?_)) (fun k => ?_)
      · show carrefourref1_MayArcs.j2 (k + 1) _ _ _ = _
        rw [carrefourref1_MayArcs.j2, if_neg (by decide), hw1]
      · show carrefourref1_MayArcs.l1 (k + 1) _ _ = _
        rw [hT, hr]
        rfl
theorem mayarcs_all (l : List S46) : Ev (fun k => carrefourref1_MayArcs.f k l) (ringB l) := by
  unfold ringB
  by_cases a : l.length < 1
  · rw [decide_eq_false (fun h => by omega), Bool.false_and]
    refine (Ev.pure _).step (fun k => ?_)
    show carrefourref1_MayArcs.f (k + 1) l = _
    rw [carrefourref1_MayArcs.f, if_pos (by omega), carrefourref1_MayArcs.j0, if_pos rfl]
  · by_cases b : l.length ≤ 1024
    · rw [decide_eq_true (show 1 ≤ l.length ∧ l.length ≤ 1024 by omega), Bool.true_and]
      refine (mayarcs_ev l b l.length 0 (by omega) (fun j h => by omega)).step (fun k => ?_)
      show carrefourref1_MayArcs.f (k + 1) l = _
      rw [carrefourref1_MayArcs.f, if_neg (by omega), decide_eq_false (by omega), carrefourref1_MayArcs.j0, if_neg (by decide)]
      rfl
    · rw [decide_eq_false (fun h => by omega), Bool.false_and]
      refine (Ev.pure _).step (fun k => ?_)
      show carrefourref1_MayArcs.f (k + 1) l = _
      rw [carrefourref1_MayArcs.f, if_neg (by omega), decide_eq_true (by omega), carrefourref1_MayArcs.j0, if_pos rfl]
theorem tab_l3 (ep : Int) (l : List S46) (ns : List Int) (hl : l.length ≤ 1000000) (hx : ∀ x ∈ l, 0 ≤ x.f1) : ∀ n i : Nat, i + n = l.length → Ev (fun k => carrefourref1_MayTable.l3 k (i : Int) ep l ns) (!(l.drop i).any (mayArc ns))
  | 0, i, hi => by
    rw [List.drop_of_length_le (by omega)]
    refine (Ev.pure _).step (fun k => ?_)
    show carrefourref1_MayTable.l3 (k + 1) _ _ _ _ = _
    rw [carrefourref1_MayTable.l3, if_neg (by omega)]
    rfl
  | n + 1, i, hi => by
    have h0 : (i : Int) < (l.length : Int) := by omega
    have hw1 : wrap64 ((i : Int) + 1) = ((i + 1 : Nat) : Int) := (wr64 _ (by omega) (by omega)).trans (by omega)
    have hx0 := hx _ (rdT_mem (show i < l.length by omega))
    have hT : ∀ k, carrefourref1_MayTable.l3 (k + 1) (i : Int) ep l ns = carrefourref1_MayTable.j4 k (i : Int) (mayArc ns (rd_T46 l (i : Int))) ep l ns := by
      intro k
      rw [carrefourref1_MayTable.l3, if_pos h0, if_pos (by omega)]
      unfold mayArc
      by_cases a : (ns.length : Int) ≤ (rd_T46 l (i : Int)).f1
      · rw [if_pos a, decide_eq_true a, Bool.true_or]
      · rw [if_neg a, decide_eq_false a, Bool.false_or, if_pos hx0, if_pos (by omega)]
    rw [drop46 l i (by omega), List.any_cons]
    cases hr : mayArc ns (rd_T46 l (i : Int)) with
    | true =>
      refine Ev.step (G := fun k => carrefourref1_MayTable.j4 k (i : Int) true ep l ns) ((Ev.pure _).step (fun k => ?_)) (fun k => ?_)
      · show carrefourref1_MayTable.j4 (k + 1) _ _ _ _ _ = _
        rw [carrefourref1_MayTable.j4, if_pos rfl]
        rfl
      · show carrefourref1_MayTable.l3 (k + 1) _ _ _ _ = _
        rw [hT, hr]
    | false =>
      rw [Bool.false_or]
      refine Ev.step (G := fun k => carrefourref1_MayTable.j4 k (i : Int) false ep l ns) ((tab_l3 ep l ns hl hx n (i + 1) (by omega)).step (fun k => ?_)) (fun k => ?_)
      · show carrefourref1_MayTable.j4 (k + 1) _ _ _ _ _ = _
        rw [carrefourref1_MayTable.j4, if_neg (by decide), hw1]
      · show carrefourref1_MayTable.l3 (k + 1) _ _ _ _ = _
        rw [hT, hr]
theorem tab_l2 (ep : Int) (l : List S46) (ns : List Int) (hn : ns.length ≤ 1000000) (hl : l.length ≤ 1000000) (hx : ∀ x ∈ l, 0 ≤ x.f1) : ∀ n i : Nat, i + n = ns.length → Ev (fun k => carrefourref1_MayTable.l2 k (i : Int) ep l ns) (!(ns.drop i).any badN && !l.any (mayArc ns))
  | 0, i, hi => by
    rw [List.drop_of_length_le (by omega), List.any_nil, Bool.not_false, Bool.true_and]
    have h := tab_l3 ep l ns hl hx l.length 0 (by omega)
    rw [List.drop_zero] at h
    refine h.step (fun k => ?_)
    show carrefourref1_MayTable.l2 (k + 1) _ _ _ _ = _
    rw [carrefourref1_MayTable.l2, if_neg (by omega)]
    rfl
  | n + 1, i, hi => by
    have h0 : (i : Int) < (ns.length : Int) := by omega
    have hw1 : wrap64 ((i : Int) + 1) = ((i + 1 : Nat) : Int) := (wr64 _ (by omega) (by omega)).trans (by omega)
    have hT : ∀ k, carrefourref1_MayTable.l2 (k + 1) (i : Int) ep l ns = carrefourref1_MayTable.j2 k (i : Int) (badN (YtbkamlkmimfomaaW.PrintWords.rd ns (i : Int))) ep l ns := by
      intro k
      rw [carrefourref1_MayTable.l2, if_pos h0, if_pos (by omega)]
      unfold badN
      by_cases a : YtbkamlkmimfomaaW.PrintWords.rd ns (i : Int) < -1
      · rw [if_pos a, decide_eq_true a, Bool.true_or]
      · rw [if_neg a, decide_eq_false a, Bool.false_or]
    rw [dropI ns i (by omega), List.any_cons]
    cases hr : badN (YtbkamlkmimfomaaW.PrintWords.rd ns (i : Int)) with
    | true =>
      refine Ev.step (G := fun k => carrefourref1_MayTable.j2 k (i : Int) true ep l ns) ((Ev.pure _).step (fun k => ?_)) (fun k => ?_)
      · show carrefourref1_MayTable.j2 (k + 1) _ _ _ _ _ = _
        rw [carrefourref1_MayTable.j2, if_pos rfl]
        rfl
      · show carrefourref1_MayTable.l2 (k + 1) _ _ _ _ = _
        rw [hT, hr]
    | false =>
      rw [Bool.false_or]
      refine Ev.step (G := fun k => carrefourref1_MayTable.j2 k (i : Int) false ep l ns) ((tab_l2 ep l ns hn hl hx n (i + 1) (by omega)).step (fun k => ?_)) (fun k => ?_)
      · show carrefourref1_MayTable.j2 (k + 1) _ _ _ _ _ = _
        rw [carrefourref1_MayTable.j2, if_neg (by decide), hw1]
      · show carrefourref1_MayTable.l2 (k + 1) _ _ _ _ = _
        rw [hT, hr]
theorem table_ev (ep : Int) (l : List S46) (ns : List Int) : Ev (fun k => carrefourref1_MayTable.f k ep l ns) (mayT ep l ns) := by
  have no : Ev (fun k => carrefourref1_MayTable.j0 k true ep l ns) false := (Ev.pure _).step (fun k => by
    show carrefourref1_MayTable.j0 (k + 1) _ _ _ _ = _
    rw [carrefourref1_MayTable.j0, if_pos rfl])
  unfold mayT
  by_cases a : ep < 1
  · rw [decide_eq_true a, Bool.true_or, Bool.not_true, Bool.false_and]
    exact no.same (fun k => by show carrefourref1_MayTable.f k ep l ns = _; rw [carrefourref1_MayTable.f, if_pos a])
  by_cases b : 1073741824 < ep
  · rw [decide_eq_true b, Bool.true_or, Bool.or_true, Bool.not_true, Bool.false_and]
    exact no.same (fun k => by show carrefourref1_MayTable.f k ep l ns = _; rw [carrefourref1_MayTable.f, if_neg a, if_pos b])
  rw [decide_eq_false a, decide_eq_false b, Bool.false_or, Bool.false_or]
  refine Ev.same (G := fun k => (carrefourref1_MayArcs.f k l).bind fun t139 => (if t139 = true then (if (ns.length : Int) < 1 then (carrefourref1_MayTable.j0 k true ep l ns) else (carrefourref1_MayTable.j0 k (decide ((ns.length : Int) > 16)) ep l ns)) else (carrefourref1_MayTable.j0 k true ep l ns))) ?_ (fun k => by show carrefourref1_MayTable.f k ep l ns = _; rw [carrefourref1_MayTable.f, if_neg a, if_neg b])
  refine (mayarcs_all l).bind ?_
  cases hr : ringB l with
  | false =>
    rw [Bool.not_false, Bool.true_or, Bool.not_true, Bool.false_and]
    exact no.same (fun k => if_neg (by decide))
  | true =>
    rw [Bool.not_true, Bool.false_or]
    by_cases c : (ns.length : Int) < 1
    · rw [decide_eq_true c, Bool.true_or, Bool.not_true, Bool.false_and]
      exact no.same (fun k => by rw [if_pos rfl, if_pos c])
    by_cases d : 16 < (ns.length : Int)
    · rw [decide_eq_true d, Bool.or_true, Bool.not_true, Bool.false_and]
      exact no.same (fun k => by rw [if_pos rfl, if_neg c])
    rw [decide_eq_false c, decide_eq_false d, Bool.or_false, Bool.not_false, Bool.true_and]
    have h := tab_l2 ep l ns (by omega) (by have := (ringB_f1 hr).1.2; omega) (fun x hx => ((ringB_f1 hr).2 x hx).1) ns.length 0 (by omega)
    rw [List.drop_zero] at h
    refine h.step (fun k => ?_)
    rw [if_pos rfl, if_neg c, carrefourref1_MayTable.j0, if_neg (by decide)]
    rfl

/-! ### The document's Cold -/
theorem cold_l3 (ep : Int) (l : List S46) (ns loads : List Int) (nodes best least : Int) (d : Int) (hl : l.length ≤ 1000000) (hn : ns.length ≤ 1000) (r : Int)
    (hr : Ev (fun k => if best < 0 then (carrefourref1_Cold.j4 k loads nodes best least d (coldS loads ns l ns.length d) true ep l ns) else (carrefourref1_Cold.j4 k loads nodes best least d (coldS loads ns l ns.length d) (decide (coldS loads ns l ns.length d < least)) ep l ns)) r) :
    ∀ n i : Nat, i + n = ns.length → Ev (fun k => carrefourref1_Cold.l3 k loads nodes best least d (coldS loads ns l i d) (i : Int) ep l ns) r
  | 0, i, hi => by
    have e : i = ns.length := by omega
    subst e
    refine hr.step (fun k => ?_)
    show carrefourref1_Cold.l3 (k + 1) _ _ _ _ _ _ _ _ _ _ = _
    rw [carrefourref1_Cold.l3, if_neg (by omega)]
  | n + 1, i, hi => by
    have h0 : (i : Int) < (ns.length : Int) := by omega
    have hw1 : wrap64 ((i : Int) + 1) = ((i + 1 : Nat) : Int) := (wr64 _ (by omega) (by omega)).trans (by omega)
    have ih := cold_l3 ep l ns loads nodes best least d hl hn r hr n (i + 1) (by omega)
    have hrg := coldS_range loads ns l d i
    have hld := ldP_range loads (i : Int)
    by_cases e : YtbkamlkmimfomaaW.PrintWords.rd ns (i : Int) = d
    · refine Ev.step (G := fun k => (carrefourref1_has.f k l (i : Int)).bind fun t151 => (carrefourref1_Cold.j3 k loads nodes best least d (coldS loads ns l i d) (i : Int) t151 ep l ns)) ?_ (fun k => by
        show carrefourref1_Cold.l3 (k + 1) _ _ _ _ _ _ _ _ _ _ = _
        rw [carrefourref1_Cold.l3, if_pos h0, if_pos (by omega), if_pos e])
      refine (has_all l hl i).bind ?_
      by_cases c : 0 < cntA l i
      · rw [decide_eq_true c]
        have hs : coldS loads ns l (i + 1) d = coldS loads ns l i d + ldP loads (i : Int) := by rw [coldS, if_pos ⟨c, e⟩]
        refine Ev.step (G := fun k => (carrefourref1_load.f k loads (i : Int)).bind fun t152 => (carrefourref1_Cold.l3 k loads nodes best least d (wrap64 (coldS loads ns l i d + t152)) (wrap64 ((i : Int) + 1)) ep l ns)) ?_ (fun k => by
          show carrefourref1_Cold.j3 (k + 1) _ _ _ _ _ _ _ _ _ _ _ = _
          rw [carrefourref1_Cold.j3, if_pos rfl])
        refine (load_ev loads (i : Int) (by omega)).bind ?_
        refine ih.same (fun k => ?_)
        rw [hs, hw1, wr64 _ (by omega) (by omega)]
      · rw [decide_eq_false c]
        have hs : coldS loads ns l (i + 1) d = coldS loads ns l i d := by rw [coldS, if_neg (fun h => c h.1)]
        rw [hs] at ih
        refine ih.step (fun k => ?_)
        show carrefourref1_Cold.j3 (k + 1) _ _ _ _ _ _ _ _ _ _ _ = _
        rw [carrefourref1_Cold.j3, if_neg (by decide), hw1]
    · have hs : coldS loads ns l (i + 1) d = coldS loads ns l i d := by rw [coldS, if_neg (fun h => e h.2)]
      rw [hs] at ih
      refine Ev.step (G := fun k => carrefourref1_Cold.j3 k loads nodes best least d (coldS loads ns l i d) (i : Int) false ep l ns) (ih.step (fun k => ?_)) (fun k => by
        show carrefourref1_Cold.l3 (k + 1) _ _ _ _ _ _ _ _ _ _ = _
        rw [carrefourref1_Cold.l3, if_pos h0, if_pos (by omega), if_neg e])
      show carrefourref1_Cold.j3 (k + 1) _ _ _ _ _ _ _ _ _ _ _ = _
      rw [carrefourref1_Cold.j3, if_neg (by decide), hw1]
theorem cold_l2 (ep : Int) (l : List S46) (ns loads : List Int) (N : Nat) (hN : N ≤ 4) (hl : l.length ≤ 1000000) (hn : ns.length ≤ 1000) (S : Int → Int) (hS : coldS loads ns l ns.length = S) :
    ∀ m n : Nat, n + m = N → 1 ≤ n → Ev (fun k => carrefourref1_Cold.l2 k loads (N : Int) (coldBest S n : Nat) (S (coldBest S n : Nat)) (n : Int) ep l ns) ((coldBest S N : Nat) : Int)
  | 0, n, hi, h1 => by
    have e : n = N := by omega
    subst e
    refine (Ev.pure _).step (fun k => ?_)
    show carrefourref1_Cold.l2 (k + 1) _ _ _ _ _ _ _ _ = _
    rw [carrefourref1_Cold.l2, if_neg (by omega)]
  | m + 1, n, hi, h1 => by
    have ih := cold_l2 ep l ns loads N hN hl hn S hS m (n + 1) (by omega) (by omega)
    have hw1 : wrap64 ((n : Int) + 1) = ((n + 1 : Nat) : Int) := (wr64 _ (by omega) (by omega)).trans (by omega)
    have h3 := cold_l3 ep l ns loads (N : Int) (coldBest S n : Nat) (S (coldBest S n : Nat)) (n : Int) hl hn ((coldBest S N : Nat) : Int) ?_ ns.length 0 (by omega)
    · refine h3.step (fun k => ?_)
      show carrefourref1_Cold.l2 (k + 1) _ _ _ _ _ _ _ _ = _
      rw [carrefourref1_Cold.l2, if_pos (by omega)]
      rfl
    · rw [hS]
      by_cases c : S (n : Int) < S (coldBest S n : Nat)
      · have e : coldBest S (n + 1) = n := if_pos c
        rw [e] at ih
        refine ih.step (fun k => ?_)
        rw [if_neg (by omega), decide_eq_true c, carrefourref1_Cold.j4, if_pos rfl, hw1]
      · have e : coldBest S (n + 1) = coldBest S n := if_neg c
        rw [e] at ih
        refine ih.step (fun k => ?_)
        rw [if_neg (by omega), decide_eq_false c, carrefourref1_Cold.j4, if_neg (by decide), hw1]
theorem cold_ev (ep : Int) (l : List S46) (ns loads : List Int) (nodes : Int) : Ev (fun k => carrefourref1_Cold.f k ep l ns loads nodes) (coldP ep l ns loads nodes) := by
  have no : Ev (fun k => carrefourref1_Cold.j0 k loads nodes true ep l ns) (-1) := (Ev.pure _).step (fun k => by
    show carrefourref1_Cold.j0 (k + 1) _ _ _ _ _ _ = _
    rw [carrefourref1_Cold.j0, if_pos rfl])
  unfold coldP
  refine Ev.same (G := fun k => (carrefourref1_MayTable.f k ep l ns).bind fun t149 => (if t149 = true then (if nodes < 1 then (carrefourref1_Cold.j0 k loads nodes true ep l ns) else (carrefourref1_Cold.j0 k loads nodes (decide (nodes > 4)) ep l ns)) else (carrefourref1_Cold.j0 k loads nodes true ep l ns))) ?_ (fun k => rfl)
  refine (table_ev ep l ns).bind ?_
  cases hm : mayT ep l ns with
  | false =>
    rw [if_neg (fun h => by cases h.1)]
    exact no.same (fun k => if_neg (by decide))
  | true =>
    by_cases a : nodes < 1
    · rw [if_neg (fun h => by omega)]
      exact no.same (fun k => by rw [if_pos rfl, if_pos a])
    by_cases b : nodes > 4
    · rw [if_neg (fun h => by omega)]
      exact no.same (fun k => by rw [if_pos rfl, if_neg a, decide_eq_true b])
    rw [if_pos ⟨rfl, by omega, by omega⟩]
    obtain ⟨N, rfl⟩ : ∃ N : Nat, nodes = (N : Int) := ⟨nodes.toNat, by omega⟩
    rw [Int.toNat_natCast]
    obtain ⟨b1, b2, b3, b4, b5, b6⟩ := mayT_facts hm
    obtain ⟨S, hS⟩ : ∃ S, coldS loads ns l ns.length = S := ⟨_, rfl⟩
    rw [hS]
    have h2 := cold_l2 ep l ns loads N (by omega) (by omega) (by omega) S hS (N - 1) 1 (by omega) (by omega)
    have e1 : coldBest S 1 = 0 := by
      show (if S 0 < S 0 then 0 else 0) = 0
      split <;> rfl
    rw [e1] at h2
    have h3 := cold_l3 ep l ns loads (N : Int) (-1) 0 0 (by omega) (by omega) ((coldBest S N : Nat) : Int) (by
      rw [hS]
      refine h2.step (fun k => ?_)
      rw [if_pos (by decide), carrefourref1_Cold.j4, if_pos rfl, wr64 _ (by omega) (by omega)]
      rfl) ns.length 0 (by omega)
    refine Ev.step (G := fun k => carrefourref1_Cold.l2 k loads (N : Int) (-1) 0 0 ep l ns) (h3.step (fun k => ?_)) (fun k => ?_)
    · show carrefourref1_Cold.l2 (k + 1) _ _ _ _ _ _ _ _ = _
      rw [carrefourref1_Cold.l2, if_pos (by omega)]
      rfl
    · rw [if_pos rfl, if_neg a, decide_eq_false b, carrefourref1_Cold.j0, if_neg (by decide)]

/-! ### Contracts -/
theorem RTable_is (ep : Int) (A1 : Option Addr) (c1 : Nat) (l : List S46) (A2 : Option Addr) (c2 : Nat) (ns : List Int) (w : World) (hr1 : Kd.C k46 w A1 l.length l) (hc1 : l.length ≤ c1) (hr2 : Kd.C (Kd.int .i64) w A2 ns.length ns) (hc2 : ns.length ≤ c2) :
    Calls Try.prog 34 #[.agg (cT ep A1 l.length c1 A2 ns.length c2)] w fun e w' => e = .returned (.bool (mayT ep l ns)) ∧ Below w.heap.size w w' := by
  obtain ⟨k, hk⟩ := (table_ev ep l ns).at
  exact carrefourref1_MayTable.calls k ep A1 c1 l A2 c2 ns _ w hr1 hc1 hr2 hc2 hk
theorem RCold_is (ep : Int) (A1 : Option Addr) (c1 : Nat) (l : List S46) (A2 : Option Addr) (c2 : Nat) (ns : List Int) (A3 : Option Addr) (c3 : Nat) (loads : List Int) (nodes : Int) (w : World) (hr1 : Kd.C k46 w A1 l.length l) (hc1 : l.length ≤ c1) (hr2 : Kd.C (Kd.int .i64) w A2 ns.length ns) (hc2 : ns.length ≤ c2) (hr3 : Kd.C (Kd.int .i64) w A3 loads.length loads) (hc3 : loads.length ≤ c3) :
    Calls Try.prog 16 #[.agg (cT ep A1 l.length c1 A2 ns.length c2), .slice A3 loads.length c3, .int .i64 nodes] w fun e w' => e = .returned (.int .i64 (coldP ep l ns loads nodes)) ∧ Below w.heap.size w w' := by
  obtain ⟨k, hk⟩ := (cold_ev ep l ns loads nodes).at
  exact carrefourref1_Cold.calls k ep A1 c1 l A2 c2 ns A3 c3 loads nodes _ w hr1 hc1 hr2 hc2 hr3 hc3 hk
theorem RLoad_is (A : Option Addr) (c : Nat) (l : List Int) (a : Int) (w : World) (hr : Kd.C (Kd.int .i64) w A l.length l) (hc : l.length ≤ c) (ha : 0 ≤ a) :
    Calls Try.prog 26 #[.slice A l.length c, .int .i64 a] w fun e w' => e = .returned (.int .i64 (ldP l a)) ∧ Drawn0 w w' := by
  obtain ⟨k, hk⟩ := (load_ev l a ha).at
  exact carrefourref1_load.calls k A c l a _ w hr hc hk
theorem RArcs_is (A : Option Addr) (c : Nat) (l : List S46) (s : Nat) (w : World) (hr : Kd.C k46 w A l.length l) (hc : l.length ≤ c) (hl : l.length ≤ 1000000) :
    Calls Try.prog 37 #[.slice A l.length c, .int .i64 (s : Int)] w fun e w' => e = .returned (.int .i64 ((cntA l s : Nat) : Int)) ∧ Drawn0 w w' := by
  obtain ⟨k, hk⟩ := (arcs_all l hl s).at
  exact carrefourref1_arcs.calls k A c l (s : Int) _ w hr hc hk
theorem RDir_is (p : Int) (w : World) : Calls Try.prog 40 #[.int .u32 p] w fun e w' => e = .returned (.int .i64 (dirP p)) ∧ Drawn0 w w' := carrefourref1_Dir.calls p _ w rfl
theorem RNorm_is (a b : Nat) (w : World) : Calls Try.prog 28 #[.complex .f64 a b] w fun e w' => ∃ r k, e = .returned (.float .f64 r) ∧ w' = w.drewN k ∧ rd r = lift .add (lift .mul (rd a) (rd a)) (lift .mul (rd b) (rd b)) := by
  go_enter Try.func28, Try.ntmps28
  go_wp2_with (refine goesB_ _ rfl rfl (.float .f64 _) (.float .f64 _) rfl rfl rfl rfl ((float_yields _ (by simp) _ _ _ _).mono ?_); rintro e w' ⟨n_, k_, rfl, rfl, hn_⟩; refine ⟨_, rfl, ?_⟩)
  go_ret
  exact ⟨_, _, rfl, rfl, by simp only [*]⟩
theorem RSize_is (y : Nat) (j : Int) (hy : IV y j) (w : World) : Calls Try.prog 56 #[.float .f64 y] w fun e w' => ∃ m, e = .returned (.float .f64 m) ∧ IV m (j.natAbs : Int) ∧ w' = w := by
  have hl := lt_iv hy iv_zero
  have HY := Aside0.mk hy
  clear hy
  by_cases h : j < 0
  · rw [decide_eq_true h] at hl
    have HN : Aside0 (IV (neg y) (j.natAbs : Int)) := ⟨by have := iv_neg HY.out; rw [show ((j.natAbs : Nat) : Int) = -j by omega]; exact this⟩
    clear h
    go_enter Try.func56, Try.ntmps56
    go_wp2
    go_ret
    exact ⟨_, rfl, HN.out, rfl⟩
  · rw [decide_eq_false h] at hl
    have HN : Aside0 (IV y (j.natAbs : Int)) := ⟨by have := HY.out; rw [show ((j.natAbs : Nat) : Int) = j by omega]; exact this⟩
    clear h
    go_enter Try.func56, Try.ntmps56
    go_wp2
    go_ret
    exact ⟨_, rfl, HN.out, rfl⟩
set_option maxHeartbeats 4000000 in
theorem RWay_is (a b : Nat) (z : Int × Int) (hz : IC (crd (a, b)) z) (w : World) : Calls Try.prog 39 #[.complex .f64 a b] w fun e w' => e = .returned (.int .i64 (zway z)) ∧ w' = w := by
  have ha : IV a z.1 := io_rd hz.1
  have hb : IV b z.2 := io_rd hz.2
  have HA := Aside0.mk ha
  have HB := Aside0.mk hb
  have q1 := eq_iv ha iv_zero
  have q2 := eq_iv hb iv_zero
  have q3 := gt_iv ha iv_zero
  have q6 := gt_iv hb iv_zero
  have q8 := lt_iv ha iv_zero
  clear ha hb hz
  go_enter Try.func39, Try.ntmps39
  go_wp2_with (go_at_call 56; first
    | (with_reducible refine (RSize_is b _ HB.out _).mono ?_; rintro e w1 ⟨m, rfl, hm, rfl⟩; have q4 := gt_iv HA.out hm; have q5 := eq_iv HA.out hm; have q9 := gt_iv (iv_neg HA.out) hm; have q0 := eq_iv (iv_neg HA.out) hm; clear hm)
    | (with_reducible refine (RSize_is a _ HA.out _).mono ?_; rintro e w1 ⟨m2, rfl, hm, rfl⟩; have q7 := gt_iv HB.out hm; clear hm))
  all_goals
    clear HA HB
    go_ret
    refine ⟨?_, rfl⟩
    show Ending.returned (Value.int .i64 _) = Ending.returned (Value.int .i64 (zway z))
    congr 2
    unfold zway
    (try simp only [Bool.and_eq_true, Bool.or_eq_true, decide_eq_true_eq, not_and, not_or, Bool.and_eq_false_iff, Bool.or_eq_false_iff, decide_eq_false_iff_not] at *)
    repeat' split
    all_goals omega
set_option maxHeartbeats 4000000 in
theorem RLean_is (p load : Int) (w : World) : Calls Try.prog 36 #[.int .u32 p, .int .i64 load] w fun e w' => e = .returned (.complex .f64 (pLean p load).1 (pLean p load).2) ∧ Drawn0 w w' := by
  by_cases h : load < 0
  · have hp : pLean p load = (0, 0) := if_pos (.inl h)
    rw [hp]
    have d : decide (load < 0) = true := decide_eq_true h
    clear h hp
    go_enter Try.func36, Try.ntmps36
    go_wp2
    go_ret
    exact ⟨rfl, by repeat (first | exact Drawn0.refl _ | apply Drawn0.step)⟩
  · by_cases h2 : 1099511627776 < load
    · have hp : pLean p load = (0, 0) := if_pos (.inr h2)
      rw [hp]
      have d : decide (load < 0) = false := decide_eq_false h
      have d2 : decide (1099511627776 < load) = true := decide_eq_true h2
      clear h h2 hp
      go_enter Try.func36, Try.ntmps36
      go_wp2
      go_ret
      exact ⟨rfl, by repeat (first | exact Drawn0.refl _ | apply Drawn0.step)⟩
    · have hp : pLean p load = spin (floatOfInt .f64 load, 0) (dirP p) := if_neg (by omega)
      rw [hp]
      have d : decide (load < 0) = false := decide_eq_false h
      have d2 : decide (1099511627776 < load) = false := decide_eq_false h2
      clear h h2 hp
      go_enter Try.func36, Try.ntmps36
      go_wp2_with (first
        | (go_at_call 40; with_reducible refine (RDir_is p _).mono ?_; rintro e w' ⟨rfl, ⟨nd, rfl⟩⟩)
        | (go_at_call 51; with_reducible refine (ref_spin_is _ _ _ _).mono ?_; rintro e w' ⟨rfl, rfl⟩))
      go_ret
      exact ⟨rfl, _, rfl⟩
/-- A sum of whole numbers. -/
theorem RPlus_at {p q : Nat × Nat} {y z : Int × Int} (hp : IC (crd p) y) (hq : IC (crd q) z) {B : Nat} (hb : zbd B (zadd y z)) (hB : B < 9007199254740992) : ∃ s : Nat × Nat, crd s = cadd (crd p) (crd q) ∧ ∀ w, Calls Try.prog 35 #[.complex .f64 p.1 p.2, .complex .f64 q.1 q.2] w fun e w' => e = .returned (.complex .f64 s.1 s.2) ∧ Drawn0 w w' := by
  obtain ⟨h1, h2⟩ := ic_add hp hq hb hB
  obtain ⟨r, hr, ir⟩ := h1
  obtain ⟨i, hi, ii⟩ := h2
  refine ⟨(r, i), ?_, fun w => (ref_plus_is p.1 p.2 q.1 q.2 w).mono ?_⟩
  · show (rd r, rd i) = _
    rw [iv_rd ir, iv_rd ii, ← hr, ← hi]
  · rintro e w' ⟨r2, i2, k, rfl, rfl, h3, h4⟩
    have e1 := rd_some (h3.trans hr)
    have e2 := rd_some (h4.trans hi)
    subst e1 e2
    exact ⟨rfl, ⟨k, rfl⟩⟩

theorem lean_take {ep : Int} {l : List S46} {ns loads : List Int} (hm : mayT ep l ns = true) (i : Nat) : IC (csum (crd (0, 0)) ((l.take i).map (leanOf loads l))) (zsum (0, 0) ((l.take i).map (leanZof loads l))) ∧ zbd 1099511627776 (zsum (0, 0) ((l.take i).map (leanZof loads l))) := by
  obtain ⟨b1, b2, b3, b4, b5, b6⟩ := mayT_facts hm
  have hlen := List.length_take_le i l
  have hlen2 : (l.take i).length ≤ l.length := by rw [List.length_take]; omega
  have h := ic_sum (leanOf loads l) (leanZof loads l) 1073741824 (l.take i) (crd (0, 0)) (0, 0) 0 (fun x hx => by
    have hx := List.mem_of_mem_take hx
    have hp := leanZ_part loads l x hx (b5 x hx).1
    refine ⟨ic_pLean _ _ hp.1 hp.2, ?_⟩
    unfold leanZof
    exact zbd_spin (show zbd 1073741824 (ldP loads x.f1 / (cntA l x.f1.toNat : Nat), 0) from ⟨by show Int.natAbs (ldP loads x.f1 / (cntA l x.f1.toNat : Nat)) ≤ 1073741824; omega, by show Int.natAbs 0 ≤ _; decide⟩) _) ⟨io_of iv_zero, io_of iv_zero⟩ ⟨Nat.le_refl 0, Nat.le_refl 0⟩ (by omega)
  refine ⟨h.1, Nat.le_trans h.2.1 ?_, Nat.le_trans h.2.2 ?_⟩ <;> omega
/-- One more arc. -/
theorem lean_one {ep : Int} {l : List S46} {ns loads : List Int} (hm : mayT ep l ns = true) {i : Nat} {x : S46} (hx : l[i]? = some x) {p : Nat × Nat} (hp : crd p = csum (crd (0, 0)) ((l.take i).map (leanOf loads l))) :
    ∃ s : Nat × Nat, crd s = csum (crd (0, 0)) ((l.take (i + 1)).map (leanOf loads l)) ∧ ∀ w, Calls Try.prog 35 #[.complex .f64 p.1 p.2, .complex .f64 (leanOf loads l x).1 (leanOf loads l x).2] w fun e w' => e = .returned (.complex .f64 s.1 s.2) ∧ Drawn0 w w' := by
  have h1 := lean_take (loads := loads) hm i
  have h2 := lean_take (loads := loads) hm (i + 1)
  obtain ⟨b1, b2, b3, b4, b5, b6⟩ := mayT_facts hm
  have hxm := List.mem_of_getElem? hx
  have hpp := leanZ_part loads l x hxm (b5 x hxm).1
  have e1 : csum (crd (0, 0)) ((l.take (i + 1)).map (leanOf loads l)) = cadd (csum (crd (0, 0)) ((l.take i).map (leanOf loads l))) (crd (leanOf loads l x)) := by
    rw [map_snoc _ _ _ _ hx]
    unfold csum
    rw [List.foldl_append]
    rfl
  have e2 : zsum (0, 0) ((l.take (i + 1)).map (leanZof loads l)) = zadd (zsum (0, 0) ((l.take i).map (leanZof loads l))) (leanZof loads l x) := by
    rw [map_snoc _ _ _ _ hx]
    unfold zsum
    rw [List.foldl_append]
    rfl
  have h3 := h2.2
  rw [e2] at h3
  rw [e1, ← hp]
  exact RPlus_at (hp ▸ h1.1) (ic_pLean _ _ hpp.1 hpp.2) h3 (by decide)
set_option maxHeartbeats 8000000 in
set_option maxRecDepth 100000 in
theorem RLT_is (ep : Int) (A1 : Option Addr) (c1 : Nat) (l : List S46) (A2 : Option Addr) (c2 : Nat) (ns : List Int) (A3 : Option Addr) (c3 : Nat) (loads : List Int) (w : World) (hr1 : Kd.C k46 w A1 l.length l) (hc1 : l.length ≤ c1) (hr2 : Kd.C (Kd.int .i64) w A2 ns.length ns) (hc2 : ns.length ≤ c2) (hr3 : Kd.C (Kd.int .i64) w A3 loads.length loads) (hc3 : loads.length ≤ c3) :
    Calls Try.prog 12 #[.agg (cT ep A1 l.length c1 A2 ns.length c2), .slice A3 loads.length c3] w fun e w' => ∃ r i, e = .returned (.complex .f64 r i) ∧ crd (r, i) = leanC ep l ns loads ∧ Below w.heap.size w w' := by
  have HR1 := Aside0.mk hr1
  have HC1 := Aside0.mk hc1
  have HR2 := Aside0.mk hr2
  have HC2 := Aside0.mk hc2
  have HR3 := Aside0.mk hr3
  have HC3 := Aside0.mk hc3
  have hu := Try.underlying25
  have hu46 := Try.underlying46
  clear hr1 hc1 hr2 hc2 hr3 hc3
  cases hm : mayT ep l ns with
  | false =>
    have HM := Aside0.mk hm
    have HV : Aside0 (leanC ep l ns loads = crd (0, 0)) := ⟨if_neg (by rw [hm]; decide)⟩
    clear hm
    go_enter Try.func12, Try.ntmps12
    go_wp2_with (first
      | ((with_reducible refine gate_dst (N := 2) rfl ?_); refine box_event ?hg (N := 2) ?hd (cs := cT ep A1 l.length c1 A2 ns.length c2) (t := 25) ?hr ?_; (case hd => rfl); (case hg => rfl); (case hr => first | (go_simp; done) | (go_simp; rfl)); intro g2 hg w2 hbox hb; have HB := Aside0.mk hb; have HX := Aside0.mk hbox; have h0 : w2.cell? ⟨g2, 0, none⟩ = some (.int .i64 ep) := (blk_cell hbox 0).trans rfl; have h1 : w2.cell? ⟨g2, 1, none⟩ = some (.slice A1 l.length c1) := (blk_cell hbox 1).trans rfl; have h2 : w2.cell? ⟨g2, 2, none⟩ = some (.slice A2 ns.length c2) := (blk_cell hbox 2).trans rfl; clear hb hbox hg)
      | (go_at_call 34; with_reducible refine (RTable_is ep A1 c1 l A2 c2 ns _ (Kd.C_below HR1.out HB.out) HC1.out (Kd.C_below HR2.out HB.out) HC2.out).mono ?_; rintro e w3 ⟨rfl, hb⟩; have HB3 := Aside0.mk (thn5 HB.out hb); clear hb; rw [HM.out]))
    go_ret
    exact ⟨0, 0, rfl, HV.out.symm, HB3.out⟩
  | true =>
    have HM := Aside0.mk hm
    have HV : Aside0 (leanC ep l ns loads = csum (crd (0, 0)) (l.map (leanOf loads l))) := ⟨if_pos hm⟩
    have HL : Aside0 (1 ≤ l.length ∧ l.length ≤ 1024 ∧ 1 ≤ ns.length ∧ ns.length ≤ 16) := ⟨by have := mayT_facts hm; exact ⟨this.1, this.2.1, this.2.2.1, this.2.2.2.1⟩⟩
    clear hm
    go_enter Try.func12, Try.ntmps12
    go_wp2_with (first
      | ((with_reducible refine gate_dst (N := 2) rfl ?_); refine box_event ?hg (N := 2) ?hd (cs := cT ep A1 l.length c1 A2 ns.length c2) (t := 25) ?hr ?_; (case hd => rfl); (case hg => rfl); (case hr => first | (go_simp; done) | (go_simp; rfl)); intro g2 hg w2 hbox hb; have HB := Aside0.mk hb; have HX := Aside0.mk hbox; have h0 : w2.cell? ⟨g2, 0, none⟩ = some (.int .i64 ep) := (blk_cell hbox 0).trans rfl; have h1 : w2.cell? ⟨g2, 1, none⟩ = some (.slice A1 l.length c1) := (blk_cell hbox 1).trans rfl; have h2 : w2.cell? ⟨g2, 2, none⟩ = some (.slice A2 ns.length c2) := (blk_cell hbox 2).trans rfl; clear hb hbox hg)
      | (go_at_call 34; with_reducible refine (RTable_is ep A1 c1 l A2 c2 ns _ (Kd.C_below HR1.out HB.out) HC1.out (Kd.C_below HR2.out HB.out) HC2.out).mono ?_; rintro e w3 ⟨rfl, hb⟩; have HB3 := Aside0.mk (thn5 HB.out hb); have HX3 := Aside0.mk (blk_below HX.out hb); clear hb h0 h1 h2; rw [HM.out]))
    go_loopg [5, 6, 7] l.length (fun g v5 v6 v7 wr => ∃ (i r im : Nat), v6 = .int .i64 i ∧ v5 = .complex .f64 r im ∧ g + i = l.length ∧ Aside0 (crd (r, im) = csum (crd (0, 0)) ((l.take i).map (leanOf loads l))) ∧ Aside0 (Below w3.heap.size w3 wr))
    case atStart => exact ⟨0, 0, 0, rfl, rfl, by omega, ⟨rfl⟩, ⟨Below.refl _ _⟩⟩
    case round =>
      obtain ⟨i, r, im, rfl, rfl, hgi, HS, HBR⟩ := hrel
      have hX := blk_below HX3.out HBR.out
      have k1 : wr.cell? ⟨g2, 1, none⟩ = some (.slice A1 l.length c1) := (blk_cell hX 1).trans rfl
      clear hX
      cases gk with
      | zero =>
        have hi : ¬ ((i : Int) < (l.length : Int)) := by omega
        have hil : i = l.length := by omega
        subst hil
        clear hgi
        go_wp2
        go_ret
        exact ⟨r, im, rfl, by rw [HV.out, HS.out, List.take_length], thn5 HB3.out HBR.out⟩
      | succ g1 =>
        have hi : (i : Int) < (l.length : Int) := by omega
        have hi0 : 0 ≤ (i : Int) := by omega
        have hin : i < l.length := by omega
        obtain ⟨ad, e1, hx0, hx1⟩ := at_T46 HR1.out i hi0 hi
        cases e1
        obtain ⟨x, hx⟩ : ∃ x, rd_T46 l (i : Int) = x := ⟨_, rfl⟩
        have HY : Aside0 (l[i]? = some x) := ⟨by rw [← hx]; exact rd46_at l i hin⟩
        have hxm : x ∈ l := List.mem_of_getElem? HY.out
        rw [hx, Int.toNat_natCast] at hx0 hx1
        replace hx0 := ((thn5 HB3.out HBR.out).cell (World.block_lt_of_cell? w _ hx0)).trans hx0
        replace hx1 := ((thn5 HB3.out HBR.out).cell (World.block_lt_of_cell? w _ hx1)).trans hx1
        have hmf := (mayT_facts HM.out).2.2.2.2.1 x hxm
        obtain ⟨s, hs, hsum⟩ := lean_one HM.out HY.out HS.out
        have HSS := Aside0.mk hs
        have HSM := Aside0.mk hsum
        obtain ⟨pl, hpl⟩ : ∃ pl, leanOf loads l x = pl := ⟨_, rfl⟩
        rw [hpl] at HSM
        have hpl2 := hpl
        unfold leanOf at hpl2
        obtain ⟨k, hk⟩ : ∃ k : Nat, x.f1 = (k : Int) := ⟨x.f1.toNat, by omega⟩
        rw [hk, Int.toNat_natCast] at hpl2
        rw [hk] at hx1
        obtain ⟨cn, hcn⟩ : ∃ cn : Int, ((cntA l k : Nat) : Int) = cn := ⟨_, rfl⟩
        obtain ⟨ld, hld⟩ : ∃ ld, ldP loads (k : Int) = ld := ⟨_, rfl⟩
        rw [hcn, hld] at hpl2
        have hcp := cntA_pos hxm hmf.1
        rw [hk, Int.toNat_natCast] at hcp
        have hcz : (cn = 0) = False := eq_false (by omega)
        have hcz2 : ¬ cn = 0 := by omega
        have hqw : IntKind.i64.wrap (ld.tdiv cn) = ld / cn := IntWalk.i64_quo ld cn ⟨by have := (ldP_range loads (k : Int)).1; omega, by have := (ldP_range loads (k : Int)).2; omega, by omega⟩
        have HCN := Aside0.mk hcn
        have HLD := Aside0.mk hld
        have HPL := Aside0.mk hpl2
        have HI := Aside0.mk hgi
        have hw : wrap64 ((i : Int) + 1) = (i : Int) + 1 := wr64 _ (by omega) (by have := HL.out; omega)
        obtain ⟨f0, hf0⟩ : ∃ f0, x.f0 = f0 := ⟨_, rfl⟩
        rw [hf0] at hx0 HPL
        obtain ⟨s1, s2⟩ := s
        obtain ⟨pl1, pl2⟩ := pl
        clear hgi hin hx hxm hmf hs hsum hpl hpl2 hk hcn hld hcp hf0
        go_wp2
        go_quiet ((first
          | (go_at_call 26; (with_reducible refine (RLoad_is A3 c3 loads (k : Int) _ (Kd.C_drewN (Kd.C_below HR3.out (thn5 HB3.out HBR.out)) _) HC3.out (Int.natCast_nonneg k)).mono ?_); rintro e w' ⟨rfl, ⟨nd, rfl⟩⟩; rw [HLD.out]; (try first | exact ⟨rfl, _, World.drewN_drewN _ _ _⟩ | exact ⟨rfl, _, Eq.trans (World.drewN_drewN _ _ _) (congrArg (World.drewN _) (Nat.add_assoc _ _ _))⟩))
          | (go_at_call 37; (with_reducible refine (RArcs_is _ c1 l k _ (Kd.C_drewN (Kd.C_below HR1.out (thn5 HB3.out HBR.out)) _) HC1.out (by have := HL.out; omega)).mono ?_); rintro e w' ⟨rfl, ⟨nd, rfl⟩⟩; rw [HCN.out]; (try first | exact ⟨rfl, _, World.drewN_drewN _ _ _⟩ | exact ⟨rfl, _, Eq.trans (World.drewN_drewN _ _ _) (congrArg (World.drewN _) (Nat.add_assoc _ _ _))⟩))
          | (go_at_call 36; (with_reducible refine (RLean_is f0 (ld / cn) _).mono ?_); rintro e w' ⟨rfl, ⟨nd, rfl⟩⟩; rw [HPL.out]; (try first | exact ⟨rfl, _, World.drewN_drewN _ _ _⟩ | exact ⟨rfl, _, Eq.trans (World.drewN_drewN _ _ _) (congrArg (World.drewN _) (Nat.add_assoc _ _ _))⟩))
          | (go_at_call 35; (with_reducible refine (HSM.out _).mono ?_); rintro e w' ⟨rfl, ⟨nd, rfl⟩⟩; (try first | exact ⟨rfl, _, World.drewN_drewN _ _ _⟩ | exact ⟨rfl, _, Eq.trans (World.drewN_drewN _ _ _) (congrArg (World.drewN _) (Nat.add_assoc _ _ _))⟩))))
        go_wp2
        go_roundg g1
        case measure => omega
        case rel => exact ⟨i + 1, s1, s2, by first | rfl | (rw [hw, Int.natCast_add]; rfl), rfl, by have := HI.out; omega, HSS, ⟨pw_below_drewN HBR.out nq⟩⟩

/-- Is there, among the first arcs, one of the shard where loads lean? -/
def okA (d : Int) (s : Nat) (l : List S46) : Bool := l.any fun x => decide (x.f1 = (s : Int)) && hotAt d x
theorem okA_snoc (d : Int) (s : Nat) (l : List S46) (i : Nat) (x : S46) (hx : l[i]? = some x) : okA d s (l.take (i + 1)) = (okA d s (l.take i) || (decide (x.f1 = (s : Int)) && hotAt d x)) := by
  unfold okA
  rw [take_snoc l i x hx, List.any_append, List.any_cons, List.any_nil, Bool.or_false]
theorem okA_sel (d : Int) (n : Nat) (l : List S46) (s : Nat) (hs : s < n) : (hotSel d n l).getD s false = okA d s l := by
  unfold okA
  simp [hotSel, hs]
set_option maxHeartbeats 8000000 in
set_option maxRecDepth 100000 in
theorem RHot_is (ep : Int) (A1 : Option Addr) (c1 : Nat) (l : List S46) (A2 : Option Addr) (c2 : Nat) (ns : List Int) (A3 : Option Addr) (c3 : Nat) (loads : List Int) (w : World) (hr1 : Kd.C k46 w A1 l.length l) (hc1 : l.length ≤ c1) (hr2 : Kd.C (Kd.int .i64) w A2 ns.length ns) (hc2 : ns.length ≤ c2) (hr3 : Kd.C (Kd.int .i64) w A3 loads.length loads) (hc3 : loads.length ≤ c3) (hf : ∀ x ∈ l, 0 ≤ x.f0 ∧ x.f0 < 4294967296) :
    Calls Try.prog 14 #[.agg (cT ep A1 l.length c1 A2 ns.length c2), .slice A3 loads.length c3] w fun e w' => e = .returned (.int .i64 (hotP ep l ns loads)) ∧ Below w.heap.size w w' := by
  have HR1 := Aside0.mk hr1
  have HC1 := Aside0.mk hc1
  have HR2 := Aside0.mk hr2
  have HC2 := Aside0.mk hc2
  have HR3 := Aside0.mk hr3
  have HC3 := Aside0.mk hc3
  have HF := Aside0.mk hf
  have hu := Try.underlying25
  have hu46 := Try.underlying46
  clear hr1 hc1 hr2 hc2 hr3 hc3 hf
  cases hm : mayT ep l ns with
  | false =>
    have HM := Aside0.mk hm
    have HV : Aside0 (hotP ep l ns loads = -1) := ⟨if_neg (by rw [hm]; decide)⟩
    clear hm
    go_enter Try.func14, Try.ntmps14
    go_wp2_with (first
      | ((with_reducible refine gate_dst (N := 2) rfl ?_); refine box_event ?hg (N := 2) ?hd (cs := cT ep A1 l.length c1 A2 ns.length c2) (t := 25) ?hr ?_; (case hd => rfl); (case hg => rfl); (case hr => first | (go_simp; done) | (go_simp; rfl)); intro g2 hg w2 hbox hb; have HB := Aside0.mk hb; have HX := Aside0.mk hbox; have h0 : w2.cell? ⟨g2, 0, none⟩ = some (.int .i64 ep) := (blk_cell hbox 0).trans rfl; have h1 : w2.cell? ⟨g2, 1, none⟩ = some (.slice A1 l.length c1) := (blk_cell hbox 1).trans rfl; have h2 : w2.cell? ⟨g2, 2, none⟩ = some (.slice A2 ns.length c2) := (blk_cell hbox 2).trans rfl; clear hb hbox hg)
      | (go_at_call 34; with_reducible refine (RTable_is ep A1 c1 l A2 c2 ns _ (Kd.C_below HR1.out HB.out) HC1.out (Kd.C_below HR2.out HB.out) HC2.out).mono ?_; rintro e w3 ⟨rfl, hb⟩; have HB3 := Aside0.mk (thn5 HB.out hb); clear hb; rw [HM.out]))
    go_ret
    exact ⟨by rw [HV.out]; rfl, HB3.out⟩
  | true =>
    have HM := Aside0.mk hm
    have HL : Aside0 (1 ≤ l.length ∧ l.length ≤ 1024 ∧ 1 ≤ ns.length ∧ ns.length ≤ 16) := ⟨by have := mayT_facts hm; exact ⟨this.1, this.2.1, this.2.2.1, this.2.2.2.1⟩⟩
    have hh := hot_facts loads hm HF.out
    have hv0 : hotP ep l ns loads = hotBest loads (hotSel (zway (leanZ loads l)) ns.length l) ns.length := if_pos hm
    have HIC := Aside0.mk (leanC_is (loads := loads) hm).1
    obtain ⟨z, hz⟩ : ∃ z, leanZ loads l = z := ⟨_, rfl⟩
    rw [hz] at hv0 HIC
    obtain ⟨d, hd⟩ : ∃ d, zway z = d := ⟨_, rfl⟩
    have HD := Aside0.mk hd
    rw [hd] at hv0
    obtain ⟨hn, hhn⟩ : ∃ hn : Nat, hotP ep l ns loads = (hn : Int) := ⟨(hotP ep l ns loads).toNat, (Int.toNat_of_nonneg hh.1).symm⟩
    have HV := Aside0.mk hhn
    rw [hhn] at hv0
    have HV0 := Aside0.mk hv0
    have HSA : Aside0 (∀ s, s < ns.length → (hotSel d ns.length l).getD s false = okA d s l) := ⟨fun s hs => okA_sel d _ l s hs⟩
    obtain ⟨sel, hsel⟩ : ∃ sel, hotSel d ns.length l = sel := ⟨_, rfl⟩
    rw [hsel] at HV0 HSA
    clear hm hh hv0 hz hd hhn hsel
    go_enter Try.func14, Try.ntmps14
    go_wp2_with (first
      | ((with_reducible refine gate_dst (N := 2) rfl ?_); refine box_event ?hg (N := 2) ?hd (cs := cT ep A1 l.length c1 A2 ns.length c2) (t := 25) ?hr ?_; (case hd => rfl); (case hg => rfl); (case hr => first | (go_simp; done) | (go_simp; rfl)); intro g2 hg w2 hbox hb; have HB := Aside0.mk hb; have HX := Aside0.mk hbox; have h0 : w2.cell? ⟨g2, 0, none⟩ = some (.int .i64 ep) := (blk_cell hbox 0).trans rfl; have h1 : w2.cell? ⟨g2, 1, none⟩ = some (.slice A1 l.length c1) := (blk_cell hbox 1).trans rfl; have h2 : w2.cell? ⟨g2, 2, none⟩ = some (.slice A2 ns.length c2) := (blk_cell hbox 2).trans rfl; clear hb hbox hg)
      | (go_at_call 34; with_reducible refine (RTable_is ep A1 c1 l A2 c2 ns _ (Kd.C_below HR1.out HB.out) HC1.out (Kd.C_below HR2.out HB.out) HC2.out).mono ?_; rintro e w3 ⟨rfl, hb⟩; have HB3 := Aside0.mk (thn5 HB.out hb); have HX3 := Aside0.mk (blk_below HX.out hb); clear h0 h1 h2; have h0 : w3.cell? ⟨g2, 0, none⟩ = some (.int .i64 ep) := (blk_cell HX3.out 0).trans rfl; have h1 : w3.cell? ⟨g2, 1, none⟩ = some (.slice A1 l.length c1) := (blk_cell HX3.out 1).trans rfl; have h2 : w3.cell? ⟨g2, 2, none⟩ = some (.slice A2 ns.length c2) := (blk_cell HX3.out 2).trans rfl; clear hb; rw [HM.out])
      | (go_at_call 12; with_reducible refine (RLT_is ep A1 c1 l A2 c2 ns A3 c3 loads _ (Kd.C_below HR1.out HB3.out) HC1.out (Kd.C_below HR2.out HB3.out) HC2.out (Kd.C_below HR3.out HB3.out) HC3.out).mono ?_; rintro e w4 ⟨r_, i_, rfl, hl_, hb⟩; have HB4 := Aside0.mk (thn5 HB3.out hb); have HX4 := Aside0.mk (blk_below HX3.out hb); have HIC2 := Aside0.mk (hl_ ▸ HIC.out : IC (crd (r_, i_)) z); clear hb hl_ h0 h1 h2)
      | (go_at_call 39; with_reducible refine (RWay_is r_ i_ z HIC2.out _).mono ?_; rintro e w5 ⟨rfl, hw5⟩; subst hw5; rw [HD.out]))
    go_loopg [6, 7, 8, 9, 10] 1 (fun g v6 v7 v8 v9 v10 wr => (g = 1 ∧ v6 = .int .i64 (-1) ∧ v7 = .int .i64 0 ∨ g = 0 ∧ v6 = .int .i64 (hn : Int) ∧ v7 = .int .i64 1) ∧ Aside0 (Below w5.heap.size w5 wr))
    case atStart => exact ⟨.inl ⟨rfl, rfl, rfl⟩, ⟨Below.refl _ _⟩⟩
    case round =>
      obtain ⟨hor, HBR⟩ := hrel
      cases gk with
      | zero =>
        obtain ⟨rfl, rfl⟩ : u6 = .int .i64 (hn : Int) ∧ u7 = .int .i64 1 := by
          rcases hor with ⟨h, -⟩ | ⟨-, h⟩
          · exact absurd h (by decide)
          · exact h
        have b1 : decide ((hn : Int) < 0) = false := decide_eq_false (by omega)
        clear hor
        go_wp2
        go_ret
        exact ⟨by rw [HV.out]; rfl, thn5 HB4.out HBR.out⟩
      | succ g1 =>
        obtain ⟨hg1, rfl, rfl⟩ : g1 = 0 ∧ u6 = .int .i64 (-1) ∧ u7 = .int .i64 0 := by
          rcases hor with ⟨h1, h2, h3⟩ | ⟨h, -⟩
          · exact ⟨by omega, h2, h3⟩
          · exact absurd h (by omega)
        have HG1 := Aside0.mk hg1
        clear hor hg1
        go_wp2
        obtain ⟨wq, hwq⟩ : ∃ wq, wq = wr := ⟨_, rfl⟩
        subst hwq
        go_loopg [6, 8, 9, 10] ns.length (fun g v6 v8 v9 v10 wr => ∃ (s : Nat) (b : Int), v8 = .int .i64 s ∧ v6 = .int .i64 b ∧ g + s = ns.length ∧ Aside0 (hotBest loads sel s = b) ∧ Aside0 (Below w5.heap.size w5 wr))
        case atStart => exact ⟨0, -1, rfl, rfl, by omega, ⟨rfl⟩, HBR⟩
        case round =>
          obtain ⟨s, b, rfl, rfl, hgs, HBB, HBR2⟩ := hrel
          have hX := blk_below HX4.out HBR2.out
          have k1 : wr.cell? ⟨g2, 1, none⟩ = some (.slice A1 l.length c1) := (blk_cell hX 1).trans rfl
          have k2 : wr.cell? ⟨g2, 2, none⟩ = some (.slice A2 ns.length c2) := (blk_cell hX 2).trans rfl
          clear hX
          cases gk with
          | zero =>
            have hi : ¬ ((s : Int) < (ns.length : Int)) := by omega
            have hil : s = ns.length := by omega
            subst hil
            obtain rfl : b = (hn : Int) := by rw [← HBB.out, HV0.out]
            clear hgs
            go_wp2
            go_roundg 0
            case measure => have := HG1.out; omega
            case rel => exact ⟨.inr ⟨rfl, rfl, rfl⟩, HBR2⟩
          | succ g3 =>
            have hi : (s : Int) < (ns.length : Int) := by omega
            have hi0 : 0 ≤ (s : Int) := by omega
            have hsn : s < ns.length := by omega
            have HI := Aside0.mk hgs
            have HSN := Aside0.mk hsn
            have HBRG : Aside0 (-1 ≤ b ∧ b < (s : Int)) := ⟨by rw [← HBB.out]; exact hotBest_range loads sel s⟩
            have hw : wrap64 ((s : Int) + 1) = (s : Int) + 1 := wr64 _ (by omega) (by have := HL.out; omega)
            clear hgs hsn
            go_wp2
            obtain ⟨wp, hwp⟩ : ∃ wp, wp = wr := ⟨_, rfl⟩
            subst hwp
            go_loopg [9, 10] l.length (fun g v9 v10 wr => ∃ (i : Nat), v10 = .int .i64 i ∧ v9 = .bool (okA d s (l.take i)) ∧ g + i = l.length ∧ Aside0 (Below w5.heap.size w5 wr))
            case atStart => exact ⟨0, rfl, rfl, by omega, HBR2⟩
            case round =>
              obtain ⟨i, rfl, rfl, hgi, HB5⟩ := hrel
              have hX := blk_below HX4.out HB5.out
              have k1 : wr.cell? ⟨g2, 1, none⟩ = some (.slice A1 l.length c1) := (blk_cell hX 1).trans rfl
              have k2 : wr.cell? ⟨g2, 2, none⟩ = some (.slice A2 ns.length c2) := (blk_cell hX 2).trans rfl
              clear hX
              cases gk with
              | zero =>
                have hj : ¬ ((i : Int) < (l.length : Int)) := by omega
                have hil : i = l.length := by omega
                subst hil
                rw [List.take_length]
                clear hgi
                obtain ⟨ok, hok⟩ : ∃ ok, okA d s l = ok := ⟨_, rfl⟩
                have HST : Aside0 (hotBest loads sel (s + 1) = if ok = true ∧ (b < 0 ∨ ldP loads b < ldP loads (s : Int)) then (s : Int) else b) := ⟨by rw [hotBest, HSA.out s HSN.out, hok, HBB.out]⟩
                rw [hok]
                clear hok
                cases ok with
                | false =>
                  have HST2 : Aside0 (hotBest loads sel (s + 1) = b) := ⟨by rw [HST.out, if_neg (fun h => by cases h.1)]⟩
                  go_wp2
                  go_roundg g3
                  case measure => omega
                  case rel => exact ⟨s + 1, b, by first | rfl | (rw [hw, Int.natCast_add]; rfl), rfl, by have := HI.out; omega, HST2, HB5⟩
                | true =>
                  by_cases hb0 : b < 0
                  · have HST2 : Aside0 (hotBest loads sel (s + 1) = (s : Int)) := ⟨by rw [HST.out, if_pos ⟨rfl, .inl hb0⟩]⟩
                    have hbd : decide (b < 0) = true := decide_eq_true hb0
                    clear hb0
                    go_wp2
                    go_roundg g3
                    case measure => omega
                    case rel => exact ⟨s + 1, (s : Int), by first | rfl | (rw [hw, Int.natCast_add]; rfl), rfl, by have := HI.out; omega, HST2, HB5⟩
                  · have hbd : decide (b < 0) = false := decide_eq_false hb0
                    have HB0 : Aside0 (0 ≤ b) := ⟨by omega⟩
                    obtain ⟨x1, hx1⟩ : ∃ x1, ldP loads (s : Int) = x1 := ⟨_, rfl⟩
                    obtain ⟨x2, hx2⟩ : ∃ x2, ldP loads b = x2 := ⟨_, rfl⟩
                    have HX1 := Aside0.mk hx1
                    have HX2 := Aside0.mk hx2
                    have HST1 : Aside0 (hotBest loads sel (s + 1) = if x2 < x1 then (s : Int) else b) := ⟨by
                      rw [HST.out, hx1, hx2]
                      by_cases h : x2 < x1
                      · rw [if_pos ⟨rfl, .inr h⟩, if_pos h]
                      · rw [if_neg (fun h2 => by rcases h2.2 with h3 | h3 <;> omega), if_neg h]⟩
                    clear hb0 hx1 hx2
                    by_cases hlt : x2 < x1
                    · have HST2 : Aside0 (hotBest loads sel (s + 1) = (s : Int)) := ⟨by rw [HST1.out, if_pos hlt]⟩
                      have hld : decide (x2 < x1) = true := decide_eq_true hlt
                      clear hlt
                      go_wp2_with (go_at_call 26; first
                        | (with_reducible refine (RLoad_is A3 c3 loads (s : Int) _ (Kd.C_below HR3.out (thn5 HB4.out HB5.out)) HC3.out (Int.natCast_nonneg s)).mono ?_; rintro e w' ⟨rfl, ⟨nd, rfl⟩⟩; rw [HX1.out]; have HB6 := Aside0.mk (pw_below_drewN HB5.out nd))
                        | (with_reducible refine (RLoad_is A3 c3 loads b _ (Kd.C_below HR3.out (thn5 HB4.out HB6.out)) HC3.out HB0.out).mono ?_; rintro e w' ⟨rfl, ⟨nd2, rfl⟩⟩; rw [HX2.out]; have HB7 := Aside0.mk (pw_below_drewN HB6.out nd2)))
                      go_roundg g3
                      case measure => omega
                      case rel => exact ⟨s + 1, (s : Int), by first | rfl | (rw [hw, Int.natCast_add]; rfl), rfl, by have := HI.out; omega, HST2, by first | exact HB7 | exact ⟨by rw [← World.drewN_drewN]; exact HB7.out⟩⟩
                    · have HST2 : Aside0 (hotBest loads sel (s + 1) = b) := ⟨by rw [HST1.out, if_neg hlt]⟩
                      have hld : decide (x2 < x1) = false := decide_eq_false hlt
                      clear hlt
                      go_wp2_with (go_at_call 26; first
                        | (with_reducible refine (RLoad_is A3 c3 loads (s : Int) _ (Kd.C_below HR3.out (thn5 HB4.out HB5.out)) HC3.out (Int.natCast_nonneg s)).mono ?_; rintro e w' ⟨rfl, ⟨nd, rfl⟩⟩; rw [HX1.out]; have HB6 := Aside0.mk (pw_below_drewN HB5.out nd))
                        | (with_reducible refine (RLoad_is A3 c3 loads b _ (Kd.C_below HR3.out (thn5 HB4.out HB6.out)) HC3.out HB0.out).mono ?_; rintro e w' ⟨rfl, ⟨nd2, rfl⟩⟩; rw [HX2.out]; have HB7 := Aside0.mk (pw_below_drewN HB6.out nd2)))
                      go_roundg g3
                      case measure => omega
                      case rel => exact ⟨s + 1, b, by first | rfl | (rw [hw, Int.natCast_add]; rfl), rfl, by have := HI.out; omega, HST2, by first | exact HB7 | exact ⟨by rw [← World.drewN_drewN]; exact HB7.out⟩⟩
              | succ g4 =>
                have hj : (i : Int) < (l.length : Int) := by omega
                have hj0 : 0 ≤ (i : Int) := by omega
                have hin : i < l.length := by omega
                have HJ := Aside0.mk hgi
                have hw2 : wrap64 ((i : Int) + 1) = (i : Int) + 1 := wr64 _ (by omega) (by have := HL.out; omega)
                obtain ⟨ad, e1, hx0, hx1⟩ := at_T46 HR1.out i hj0 hj
                cases e1
                obtain ⟨x, hx⟩ : ∃ x, rd_T46 l (i : Int) = x := ⟨_, rfl⟩
                have hsn := okA_snoc d s l i x (by rw [← hx]; exact rd46_at l i hin)
                rw [hx, Int.toNat_natCast] at hx0 hx1
                replace hx0 := ((thn5 HB4.out HB5.out).cell (World.block_lt_of_cell? w _ hx0)).trans hx0
                replace hx1 := ((thn5 HB4.out HB5.out).cell (World.block_lt_of_cell? w _ hx1)).trans hx1
                obtain ⟨ok, hok⟩ : ∃ ok, okA d s (l.take i) = ok := ⟨_, rfl⟩
                rw [hok] at hsn ⊢
                obtain ⟨f0, hf0⟩ : ∃ f0, x.f0 = f0 := ⟨_, rfl⟩
                obtain ⟨f1, hf1⟩ : ∃ f1, x.f1 = f1 := ⟨_, rfl⟩
                unfold hotAt at hsn
                rw [hf0] at hx0 hsn
                rw [hf1] at hx1 hsn
                obtain ⟨dx, hdx⟩ : ∃ dx, dirP f0 = dx := ⟨_, rfl⟩
                rw [hdx] at hsn
                have HDX := Aside0.mk hdx
                have HSNC := Aside0.mk hsn
                clear hgi hin hx hok hf0 hf1 hdx hsn
                cases ok with
                | true =>
                  go_wp2
                  go_roundg g4
                  case measure => omega
                  case rel => exact ⟨i + 1, by first | rfl | (rw [hw2, Int.natCast_add]; rfl), by rw [HSNC.out]; rfl, by have := HJ.out; omega, HB5⟩
                | false =>
                  by_cases h1 : f1 = (s : Int)
                  · have e1 : (f1 == (s : Int)) = true := beq_iff_eq.mpr h1
                    have HS2 : Aside0 (okA d s (l.take (i + 1)) = (decide (d < 0) || decide (dx = d))) := ⟨by rw [HSNC.out, decide_eq_true h1, Bool.false_or, Bool.true_and]⟩
                    clear h1
                    by_cases h2 : d < 0
                    · have e2 : decide (d < 0) = true := decide_eq_true h2
                      have HS3 : Aside0 (okA d s (l.take (i + 1)) = true) := ⟨by rw [HS2.out, e2, Bool.true_or]⟩
                      clear h2
                      go_wp2
                      go_roundg g4
                      case measure => omega
                      case rel => exact ⟨i + 1, by first | rfl | (rw [hw2, Int.natCast_add]; rfl), by rw [HS3.out], by have := HJ.out; omega, HB5⟩
                    · have e2 : decide (d < 0) = false := decide_eq_false h2
                      have HS3 : Aside0 (okA d s (l.take (i + 1)) = decide (dx = d)) := ⟨by rw [HS2.out, e2, Bool.false_or]⟩
                      clear h2
                      by_cases h3 : dx = d
                      · have e3 : ((dx : Int) == d) = true := beq_iff_eq.mpr h3
                        have HS4 : Aside0 (okA d s (l.take (i + 1)) = true) := ⟨by rw [HS3.out, decide_eq_true h3]⟩
                        clear h3
                        go_wp2_with (go_at_call 40; with_reducible refine (RDir_is f0 _).mono ?_; rintro e w' ⟨rfl, ⟨nd, rfl⟩⟩; rw [HDX.out])
                        go_roundg g4
                        case measure => omega
                        case rel => exact ⟨i + 1, by first | rfl | (rw [hw2, Int.natCast_add]; rfl), by rw [HS4.out], by have := HJ.out; omega, ⟨pw_below_drewN HB5.out nd⟩⟩
                      · have e3 : ((dx : Int) == d) = false := beq_eq_false_iff_ne.mpr h3
                        have HS4 : Aside0 (okA d s (l.take (i + 1)) = false) := ⟨by rw [HS3.out, decide_eq_false h3]⟩
                        clear h3
                        go_wp2_with (go_at_call 40; with_reducible refine (RDir_is f0 _).mono ?_; rintro e w' ⟨rfl, ⟨nd, rfl⟩⟩; rw [HDX.out])
                        go_roundg g4
                        case measure => omega
                        case rel => exact ⟨i + 1, by first | rfl | (rw [hw2, Int.natCast_add]; rfl), by rw [HS4.out], by have := HJ.out; omega, ⟨pw_below_drewN HB5.out nd⟩⟩
                  · have e1 : (f1 == (s : Int)) = false := beq_eq_false_iff_ne.mpr h1
                    have HS2 : Aside0 (okA d s (l.take (i + 1)) = false) := ⟨by rw [HSNC.out, decide_eq_false h1, Bool.false_or, Bool.false_and]⟩
                    clear h1
                    go_wp2
                    go_roundg g4
                    case measure => omega
                    case rel => exact ⟨i + 1, by first | rfl | (rw [hw2, Int.natCast_add]; rfl), by rw [HS2.out], by have := HJ.out; omega, HB5⟩

theorem row4 {w : World} {g : Nat} {t : TypeId} {a0 a1 a2 a3 : Int} (h : w.heap[g]? = some (.cells #[.int .i64 a0, .int .i64 a1, .int .i64 a2, .int .i64 a3] t (0, 0))) : Kd.C (Kd.int .i64) w (some ⟨g, 0, none⟩) 4 [a0, a1, a2, a3] := by
  refine ⟨rfl, by decide, fun _ => ⟨⟨g, 0, none⟩, rfl, fun j p hj => ⟨[.int .i64 p], rfl, rfl, fun i u hi => ?_⟩⟩⟩
  have hi0 : i = 0 := by
    have := (List.getElem?_eq_some_iff.1 hi).1
    simpa using this
  subst hi0
  obtain rfl := Option.some.inj hi
  have hj4 : j < 4 := (List.getElem?_eq_some_iff.1 hj).1
  have e : (Addr.add ⟨g, 0, none⟩ (j * (Kd.int .i64).sz + 0)) = ⟨g, j, none⟩ := by
    show Addr.add ⟨g, 0, none⟩ (j * 1 + 0) = _
    rw [add_plain, Nat.mul_one, Nat.add_zero]
  rw [e, blk_cell h j]
  rcases j with _ | _ | _ | _ | j
  · obtain rfl := Option.some.inj hj; rfl
  · obtain rfl := Option.some.inj hj; rfl
  · obtain rfl := Option.some.inj hj; rfl
  · obtain rfl := Option.some.inj hj; rfl
  · omega
theorem blk_set_ne {w : World} {g g' : Nat} {t : TypeId} {cs : Array Value} (h : w.heap[g]? = some (.cells cs t (0, 0))) (hne : g ≠ g') (i : Nat) (u : Value) : (w.setCell ⟨g', i, none⟩ u).heap[g]? = some (.cells cs t (0, 0)) := by
  unfold World.setCell
  simp [Array.getElem?_modify, h, Ne.symm hne]
theorem ld4 (a0 a1 a2 a3 : Int) (i : Nat) (hi : i < 4) : ldP [a0, a1, a2, a3] (i : Int) = sz (YtbkamlkmimfomaaW.PrintWords.rd [a0, a1, a2, a3] (i : Int)) := if_neg (by show ¬ ((4 : Nat) : Int) ≤ (i : Int); omega)
theorem RLoad4 {w : World} {g : Nat} {a0 a1 a2 a3 : Int} (h : Kd.C (Kd.int .i64) w (some ⟨g, 0, none⟩) 4 [a0, a1, a2, a3]) (i : Nat) (hi : i < 4) :
    Calls Try.prog 26 #[.slice (some ⟨g, 0, none⟩) 4 4, .int .i64 (i : Int)] w fun e w' => e = .returned (.int .i64 (sz (YtbkamlkmimfomaaW.PrintWords.rd [a0, a1, a2, a3] (i : Int)))) ∧ ∃ k, w' = w.drewN k :=
  (RLoad_is (some ⟨g, 0, none⟩) 4 [a0, a1, a2, a3] (i : Int) w h (Nat.le_refl _) (Int.natCast_nonneg i)).mono fun e w' ⟨h1, ⟨k, h2⟩⟩ => ⟨by rw [h1, ld4 _ _ _ _ _ hi], k, h2⟩
theorem RLoad4_2 {w : World} {g : Nat} {a0 a1 a2 a3 : Int} (h : Kd.C (Kd.int .i64) w (some ⟨g, 0, none⟩) 4 [a0, a1, a2, a3]) :
    Calls Try.prog 26 #[.slice (some ⟨g, 0, none⟩) 4 4, .int .i64 2] w fun e w' => e = .returned (.int .i64 (sz a2)) ∧ ∃ k, w' = w.drewN k := RLoad4 h 2 (by decide)
theorem RLoad4_3 {w : World} {g : Nat} {a0 a1 a2 a3 : Int} (h : Kd.C (Kd.int .i64) w (some ⟨g, 0, none⟩) 4 [a0, a1, a2, a3]) :
    Calls Try.prog 26 #[.slice (some ⟨g, 0, none⟩) 4 4, .int .i64 3] w fun e w' => e = .returned (.int .i64 (sz a3)) ∧ ∃ k, w' = w.drewN k := RLoad4 h 3 (by decide)
abbrev q4 (S : Nat → Nat × Nat) : Array Value := #[.complex .f64 (S 0).1 (S 0).2, .complex .f64 (S 1).1 (S 1).2, .complex .f64 (S 2).1 (S 2).2, .complex .f64 (S 3).1 (S 3).2]
theorem q4_set (S S' : Nat → Nat × Nat) {d : Nat} (hd : d < 4) (h : ∀ j : Nat, j < 4 → j ≠ d → S' j = S j) : (q4 S).setIfInBounds d (.complex .f64 (S' d).1 (S' d).2) = q4 S' := by
  have h0 : 0 < 4 → 0 ≠ d → S' 0 = S 0 := h 0
  have h1 : 1 < 4 → 1 ≠ d → S' 1 = S 1 := h 1
  have h2 : 2 < 4 → 2 ≠ d → S' 2 = S 2 := h 2
  have h3 : 3 < 4 → 3 ≠ d → S' 3 = S 3 := h 3
  unfold q4
  rcases d with _ | _ | _ | _ | d
  · rw [← h1 (by decide) (by decide), ← h2 (by decide) (by decide), ← h3 (by decide) (by decide)]; rfl
  · rw [← h0 (by decide) (by decide), ← h2 (by decide) (by decide), ← h3 (by decide) (by decide)]; rfl
  · rw [← h0 (by decide) (by decide), ← h1 (by decide) (by decide), ← h3 (by decide) (by decide)]; rfl
  · rw [← h0 (by decide) (by decide), ← h1 (by decide) (by decide), ← h2 (by decide) (by decide)]; rfl
  · omega
/-- The first i loads as numbers. -/
def xI (a0 a1 a2 a3 : Int) (i j : Nat) : Nat × Nat := if j < i then (floatOfInt .f64 (sz (YtbkamlkmimfomaaW.PrintWords.rd [a0, a1, a2, a3] (j : Int))), 0) else (0, 0)
theorem xI_4 (a0 a1 a2 a3 : Int) : q4 (xI a0 a1 a2 a3 4) = #[.complex .f64 (floatOfInt .f64 (sz a0)) 0, .complex .f64 (floatOfInt .f64 (sz a1)) 0, .complex .f64 (floatOfInt .f64 (sz a2)) 0, .complex .f64 (floatOfInt .f64 (sz a3)) 0] := rfl
theorem RFour_at (b0 b1 b2 b3 : Nat) (w : World) : Calls Try.prog 27 #[.agg #[.complex .f64 b0 0, .complex .f64 b1 0, .complex .f64 b2 0, .complex .f64 b3 0]] w fun e w' => ∃ o : Nat → Nat × Nat, e = .returned (.agg #[.complex .f64 (o 0).1 (o 0).2, .complex .f64 (o 1).1 (o 1).2, .complex .f64 (o 2).1 (o 2).2, .complex .f64 (o 3).1 (o 3).2]) ∧
        (∀ k, k < 4 → crd (o k) = part (fun j => crd (xs4 b0 b1 b2 b3 j)) (-1 * (k : Nat)) 3) ∧ Below w.heap.size w w' := ref_Four_is (xs4 b0 b1 b2 b3) w
theorem RNorm_at (a b : Nat) (w : World) : Calls Try.prog 28 #[.complex .f64 a b] w fun e w' => ∃ r k, e = .returned (.float .f64 r) ∧ w' = w.drewN k ∧ rd r = normC (crd (a, b)) := RNorm_is a b w
set_option maxHeartbeats 8000000 in
set_option maxRecDepth 100000 in
theorem RBeat_is (a0 a1 a2 a3 : Int) (w : World) : Calls Try.prog 9 #[.agg #[.int .i64 a0, .int .i64 a1, .int .i64 a2, .int .i64 a3]] w fun e w' => ∃ r i, e = .returned (.tuple #[.complex .f64 r i, .bool (beatB a0 a1 a2 a3)]) ∧ crd (r, i) = beatC a0 a1 a2 a3 ∧ Below w.heap.size w w' := by
  have hu28 := Try.underlying28
  have hu50 := Try.underlying50
  go_enter Try.func9, Try.ntmps9
  go_wp2_with (first
    | ((with_reducible refine gate_dst (N := 1) rfl ?_); refine box_event ?hg (N := 1) ?hd (cs := #[.int .i64 a0, .int .i64 a1, .int .i64 a2, .int .i64 a3]) (t := 28) ?hr ?_; (case hd => rfl); (case hg => rfl); (case hr => first | (go_simp; done) | (go_simp; rfl)); intro g1 hg w2 hbox hb; have HB := Aside0.mk hb; have HX := Aside0.mk hbox; have HG1 : Aside0 (w.heap.size ≤ g1) := ⟨by rw [hg]; exact Nat.le_refl _⟩; clear hb hbox hg)
    | ((with_reducible refine gate_dst (N := 4) rfl ?_); refine box_event ?hg (N := 4) ?hd (cs := #[.complex .f64 0 0, .complex .f64 0 0, .complex .f64 0 0, .complex .f64 0 0]) (t := 50) ?hr ?_; (case hd => rfl); (case hg => rfl); (case hr => first | (go_simp; done) | (go_simp; rfl)); intro g4 hg w4 hbox hb; have HB4 := Aside0.mk (thn5 HB.out hb); have HX4 := Aside0.mk (blk_below HX.out hb); have HS4 := Aside0.mk hbox; have HG4 : Aside0 (w.heap.size ≤ g4 ∧ g1 ≠ g4) := ⟨by rw [hg]; exact ⟨HB.out.size, Nat.ne_of_lt (blk_lt HX.out)⟩⟩; clear hb hbox hg))
  go_loopg [5] 4 (fun g v5 wr => ∃ (i : Nat), v5 = .int .i64 i ∧ g + i = 4 ∧ Aside0 (wr.heap[g4]? = some (.cells (q4 (xI a0 a1 a2 a3 i)) 50 (0, 0))) ∧ Aside0 (wr.heap[g1]? = some (.cells #[.int .i64 a0, .int .i64 a1, .int .i64 a2, .int .i64 a3] 28 (0, 0))) ∧ Aside0 (Below w.heap.size w wr))
  case atStart => exact ⟨0, rfl, by omega, HS4, HX4, HB4⟩
  case round =>
    obtain ⟨i, rfl, hgi, HS5, HX5, HB5⟩ := hrel
    cases gk with
    | succ g =>
      have hi : (i : Int) < 4 := by omega
      have hin : i < 4 := by omega
      have HI := Aside0.mk hgi
      have HIN := Aside0.mk hin
      have i1 : (0 ≤ (i : Int)) = True := eq_true (by omega)
      have i2 : ((i : Int) < 4) = True := eq_true hi
      have i3 : ((i : Int) < 0) = False := eq_false (by omega)
      have hw : wrap64 ((i : Int) + 1) = (i : Int) + 1 := wr64 _ (by omega) (by omega)
      obtain ⟨F, hF⟩ : ∃ F, floatOfInt .f64 (sz (YtbkamlkmimfomaaW.PrintWords.rd [a0, a1, a2, a3] (i : Int))) = F := ⟨_, rfl⟩
      have HST : Aside0 ((q4 (xI a0 a1 a2 a3 i)).setIfInBounds i (.complex .f64 F 0) = q4 (xI a0 a1 a2 a3 (i + 1))) := ⟨by
        have e : xI a0 a1 a2 a3 (i + 1) i = (F, 0) := by unfold xI; rw [if_pos (by omega), hF]
        have h := q4_set (xI a0 a1 a2 a3 i) (xI a0 a1 a2 a3 (i + 1)) hin (fun j hj hjd => by
          unfold xI
          by_cases h : j < i
          · rw [if_pos h, if_pos (by omega)]
          · rw [if_neg h, if_neg (by omega)])
        rw [e] at h
        exact h⟩
      obtain ⟨sv, hsv⟩ : ∃ sv, sz (YtbkamlkmimfomaaW.PrintWords.rd [a0, a1, a2, a3] (i : Int)) = sv := ⟨_, rfl⟩
      rw [hsv] at hF
      have HSV := Aside0.mk hsv
      obtain ⟨ov, hov⟩ : ∃ ov, (q4 (xI a0 a1 a2 a3 i))[i]? = some ov := ⟨_, Array.getElem?_eq_getElem (by show i < 4; exact hin)⟩
      have q1 : ∀ n, (wr.drewN n).cell? ⟨g4, i, none⟩ = some ov := fun n => (blk_cell (blk_drewN HS5.out n) i).trans hov
      have q2 : ∀ n, (wr.drewN n).frozen? ⟨g4, i, none⟩ = false := fun n => blk_frozen (blk_drewN HS5.out n) i
      clear hgi hin hsv hov
      go_wp2_with (go_at_call 26; with_reducible refine (RLoad4 (row4 HX5.out) i HIN.out).mono ?_; rintro e w6 ⟨rfl, n6, rfl⟩; rw [HSV.out])
      go_roundg g
      case measure => omega
      case rel => exact ⟨i + 1, by first | rfl | (rw [hw, Int.natCast_add]; rfl), by have := HI.out; omega, ⟨by first | exact blk_put (blk_drewN HS5.out n6) i _ (by first | exact HST.out | (rw [hF]; exact HST.out))⟩, ⟨(blk_set_ne (blk_drewN HX5.out n6) HG4.out.2 i _)⟩, ⟨below_set (pw_below_drewN HB5.out n6) HG4.out.1⟩⟩
    | zero =>
      have hil : i = 4 := by omega
      subst hil
      rw [xI_4] at HS5
      clear hgi
      have y0 := (blk_cell HS5.out 0).trans rfl
      have y1 := (blk_cell HS5.out 1).trans rfl
      have y2 := (blk_cell HS5.out 2).trans rfl
      have y3 := (blk_cell HS5.out 3).trans rfl
      go_upto_region 7 with (first
        | (go_at_call 27; refine (RFour_at _ _ _ _ _).mono ?_; rintro e w5 ⟨o, rfl, ho, hb⟩; have HO := Aside0.mk ho; have HX6 := Aside0.mk (blk_below HX5.out hb); have HB6 := Aside0.mk (thn5 HB5.out hb); clear hb ho y0 y1 y2 y3)
        | ((with_reducible refine gate_dst (N := 6) rfl ?_); refine box_event ?hg (N := 6) ?hd (cs := #[.complex .f64 0 0, .complex .f64 0 0, .complex .f64 0 0, .complex .f64 0 0]) (t := 50) ?hr ?_; (case hd => rfl); (case hg => rfl); (case hr => first | (go_simp; done) | (go_simp; rfl)); intro g6 hg w7 hbox hb; have HB7 := Aside0.mk (thn5 HB6.out hb); have HX7 := Aside0.mk (blk_below HX6.out hb); have HS7 := Aside0.mk hbox; have HG6 : Aside0 (w.heap.size ≤ g6 ∧ g1 ≠ g6) := ⟨by rw [hg]; exact ⟨HB6.out.size, Nat.ne_of_lt (blk_lt HX6.out)⟩⟩; have z0 := (blk_cell hbox 0).trans rfl; have z1 := (blk_cell hbox 1).trans rfl; have z2 := (blk_cell hbox 2).trans rfl; have z3 := (blk_cell hbox 3).trans rfl; have f0 := blk_frozen hbox 0; have f1 := blk_frozen hbox 1; have f2 := blk_frozen hbox 2; have f3 := blk_frozen hbox 3; clear hb hbox hg))
      refine wp_gen (fun W => W.heap[g6]? = some (.cells (q4 o) 50 (0, 0)) ∧ W.heap[g1]? = some (.cells #[.int .i64 a0, .int .i64 a1, .int .i64 a2, .int .i64 a3] 28 (0, 0)) ∧ Below w.heap.size w W) ⟨?_, ?_, ?_⟩ (fun W hW => ?_)
      · exact blk_put (blk_put (blk_put (blk_put HS7.out 0 _ rfl) 1 _ rfl) 2 _ rfl) 3 _ rfl
      · exact blk_set_ne (blk_set_ne (blk_set_ne (blk_set_ne HX7.out HG6.out.2 0 _) HG6.out.2 1 _) HG6.out.2 2 _) HG6.out.2 3 _
      · exact below_set (below_set (below_set (below_set HB7.out HG6.out.1) HG6.out.1) HG6.out.1) HG6.out.1
      have BKW := Aside0.mk hW.1
      have HXW := Aside0.mk hW.2.1
      have HBW := Aside0.mk hW.2.2
      clear hW HS7 HX7 HB7 z0 z1 z2 z3 f0 f1 f2 f3
      have p1 : W.cell? ⟨g6, 1, none⟩ = some (.complex .f64 (o 1).1 (o 1).2) := (blk_cell BKW.out 1).trans rfl
      have p2 : W.cell? ⟨g6, 2, none⟩ = some (.complex .f64 (o 2).1 (o 2).2) := (blk_cell BKW.out 2).trans rfl
      have p3 : W.cell? ⟨g6, 3, none⟩ = some (.complex .f64 (o 3).1 (o 3).2) := (blk_cell BKW.out 3).trans rfl
      have e2 : crd (o 2) = beatF a0 a1 a2 a3 2 := HO.out 2 (by decide)
      have e1 : crd (o 1) = beatF a0 a1 a2 a3 1 := HO.out 1 (by decide)
      have e3 : crd (o 3) = beatF a0 a1 a2 a3 3 := HO.out 3 (by decide)
      have E1 := Aside0.mk e1
      have E2 := Aside0.mk e2
      have E3 := Aside0.mk e3
      clear e1 e2 e3
      rcases Bool.eq_false_or_eq_true (gtO (normC (crd (o 2))) (normC (crd (o 1)))) with g1_ | g1_
      · have G1 := Aside0.mk g1_
        have F1 : Aside0 (best2 (crd (o 1)) (crd (o 2)) = crd (o 2)) := ⟨by unfold best2; rw [g1_]; rfl⟩
        clear g1_
        rcases Bool.eq_false_or_eq_true (gtO (normC (crd (o 3))) (normC (crd (o 2)))) with g2_ | g2_
        · have G2 := Aside0.mk g2_
          have F2 : Aside0 (best2 (crd (o 2)) (crd (o 3)) = crd (o 3)) := ⟨by unfold best2; rw [g2_]; rfl⟩
          clear g2_
          have FB : Aside0 (crd ((o 3).1, (o 3).2) = beatC a0 a1 a2 a3) := ⟨by unfold beatC; rw [← E1.out, ← E2.out, ← E3.out, F1.out, F2.out]⟩
          obtain ⟨ZB, hZ⟩ : ∃ ZB, gtO (normC (crd ((o 3).1, (o 3).2))) (some 0) = ZB := ⟨_, rfl⟩
          have HZ := Aside0.mk hZ
          clear hZ
          by_cases hg : sz a2 < sz a3
          · have HBB : Aside0 (beatB a0 a1 a2 a3 = ZB) := ⟨by unfold beatB; rw [decide_eq_true hg, ← FB.out, HZ.out]; rfl⟩
            have hgd : decide (sz a2 < sz a3) = true := decide_eq_true hg
            clear hg
            go_wp2
            refine wp_loop_rounds 3 ?_
            rw [rounds_succ]
            go_wp2_with (first
              | (go_at_call 28; with_reducible refine (RNorm_at (o 2).1 (o 2).2 _).mono ?_; rintro e w6 ⟨ra, ka, rfl, rfl, hra⟩; have HRA := Aside0.mk hra; clear hra)
              | (go_at_call 28; with_reducible refine (RNorm_at (o 1).1 (o 1).2 _).mono ?_; rintro e w6 ⟨rb, kb, rfl, rfl, hrb⟩; have hh : (FloatKind.f64.format.order ra rb == some .gt) = true := (gt_rd ra rb).trans (by rw [HRA.out, hrb]; exact G1.out); clear hrb))
            rw [rounds_succ]
            go_wp2_with (first
              | (go_at_call 28; with_reducible refine (RNorm_at (o 3).1 (o 3).2 _).mono ?_; rintro e w6 ⟨rc, kc, rfl, rfl, hrc⟩; have HRC := Aside0.mk hrc; clear hrc)
              | (go_at_call 28; with_reducible refine (RNorm_at (o 2).1 (o 2).2 _).mono ?_; rintro e w6 ⟨rd_, kd, rfl, rfl, hrd⟩; have hh2 : (FloatKind.f64.format.order rc rd_ == some .gt) = true := (gt_rd rc rd_).trans (by rw [HRC.out, hrd]; exact G2.out); clear hrd))
            rw [rounds_succ]
            go_wp2
            refine wp_gen (fun W' => Kd.C (Kd.int .i64) W' (some ⟨g1, 0, none⟩) 4 [a0, a1, a2, a3] ∧ Below w.heap.size w W') ⟨row4 (by repeat (first | exact HXW.out | refine blk_drewN ?_ _)), by repeat (first | exact HBW.out | refine pw_below_drewN ?_ _)⟩ (fun W' hW' => ?_)
            have HCW := Aside0.mk hW'.1
            have HBX := Aside0.mk hW'.2
            clear hW' p1 p2 p3
            go_region_held3 (fun w' => Kd.C (Kd.int .i64) w' (some ⟨g1, 0, none⟩) 4 [a0, a1, a2, a3] ∧ Below w.heap.size w w') (exact ⟨by repeat (first | exact HCW.out | refine Kd.C_drewN ?_ _ | refine Kd.C_below HCW.out ?_ | exact Below.refl _ _ | refine pw_below_drewN ?_ _ | refine below_drew1 ?_), by repeat (first | exact HBX.out | refine pw_below_drewN ?_ _ | refine below_drew1 ?_)⟩) (first
              | (go_at_call 26; with_reducible refine (RLoad4_3 (by repeat (first | exact HCW.out | refine Kd.C_drewN ?_ _ | refine Kd.C_below HCW.out ?_ | exact Below.refl _ _ | refine pw_below_drewN ?_ _ | refine below_drew1 ?_))).mono ?_; rintro e w7 ⟨rfl, k7, rfl⟩)
              | (go_at_call 26; with_reducible refine (RLoad4_2 (by repeat (first | exact HCW.out | refine Kd.C_drewN ?_ _ | refine Kd.C_below HCW.out ?_ | exact Below.refl _ _ | refine pw_below_drewN ?_ _ | refine below_drew1 ?_))).mono ?_; rintro e w7 ⟨rfl, k7, rfl⟩)
              | (go_at_call 28; with_reducible refine (RNorm_at (o 3).1 (o 3).2 _).mono ?_; rintro e w8 ⟨re, ke, rfl, rfl, hre⟩; have hz : (FloatKind.f64.format.order re 0 == some .gt) = ZB := (gt_rd re 0).trans (by rw [hre, rd_zero]; exact HZ.out); clear hre))
            all_goals
              go_wp2
              go_ret2
              exact ⟨_, _, by rw [HBB.out]; rfl, FB.out, by repeat (first | assumption | exact HBX.out | refine pw_below_drewN ?_ _ | refine below_drew1 ?_)⟩
          · have HBB : Aside0 (beatB a0 a1 a2 a3 = false) := ⟨by unfold beatB; rw [decide_eq_false hg, ← FB.out, HZ.out]; rfl⟩
            have hgd : decide (sz a2 < sz a3) = false := decide_eq_false hg
            clear hg
            go_wp2
            refine wp_loop_rounds 3 ?_
            rw [rounds_succ]
            go_wp2_with (first
              | (go_at_call 28; with_reducible refine (RNorm_at (o 2).1 (o 2).2 _).mono ?_; rintro e w6 ⟨ra, ka, rfl, rfl, hra⟩; have HRA := Aside0.mk hra; clear hra)
              | (go_at_call 28; with_reducible refine (RNorm_at (o 1).1 (o 1).2 _).mono ?_; rintro e w6 ⟨rb, kb, rfl, rfl, hrb⟩; have hh : (FloatKind.f64.format.order ra rb == some .gt) = true := (gt_rd ra rb).trans (by rw [HRA.out, hrb]; exact G1.out); clear hrb))
            rw [rounds_succ]
            go_wp2_with (first
              | (go_at_call 28; with_reducible refine (RNorm_at (o 3).1 (o 3).2 _).mono ?_; rintro e w6 ⟨rc, kc, rfl, rfl, hrc⟩; have HRC := Aside0.mk hrc; clear hrc)
              | (go_at_call 28; with_reducible refine (RNorm_at (o 2).1 (o 2).2 _).mono ?_; rintro e w6 ⟨rd_, kd, rfl, rfl, hrd⟩; have hh2 : (FloatKind.f64.format.order rc rd_ == some .gt) = true := (gt_rd rc rd_).trans (by rw [HRC.out, hrd]; exact G2.out); clear hrd))
            rw [rounds_succ]
            go_wp2
            refine wp_gen (fun W' => Kd.C (Kd.int .i64) W' (some ⟨g1, 0, none⟩) 4 [a0, a1, a2, a3] ∧ Below w.heap.size w W') ⟨row4 (by repeat (first | exact HXW.out | refine blk_drewN ?_ _)), by repeat (first | exact HBW.out | refine pw_below_drewN ?_ _)⟩ (fun W' hW' => ?_)
            have HCW := Aside0.mk hW'.1
            have HBX := Aside0.mk hW'.2
            clear hW' p1 p2 p3
            go_quiet (first
              | (go_at_call 26; (with_reducible refine (RLoad4_3 (by first | exact HCW.out | exact Kd.C_drewN HCW.out _)).mono ?_); rintro e w7 ⟨rfl, k7, rfl⟩; (first | exact ⟨rfl, _, World.drewN_drewN _ _ _⟩ | exact ⟨rfl, _, rfl⟩))
              | (go_at_call 26; (with_reducible refine (RLoad4_2 (by first | exact HCW.out | exact Kd.C_drewN HCW.out _)).mono ?_); rintro e w7 ⟨rfl, k7, rfl⟩; (first | exact ⟨rfl, _, World.drewN_drewN _ _ _⟩ | exact ⟨rfl, _, rfl⟩)))
            go_wp2
            go_ret2
            exact ⟨_, _, by rw [HBB.out]; rfl, FB.out, by repeat (first | exact HBX.out | refine pw_below_drewN ?_ _)⟩
        · have G2 := Aside0.mk g2_
          have F2 : Aside0 (best2 (crd (o 2)) (crd (o 3)) = crd (o 2)) := ⟨by unfold best2; rw [g2_]; rfl⟩
          clear g2_
          have FB : Aside0 (crd ((o 2).1, (o 2).2) = beatC a0 a1 a2 a3) := ⟨by unfold beatC; rw [← E1.out, ← E2.out, ← E3.out, F1.out, F2.out]⟩
          obtain ⟨ZB, hZ⟩ : ∃ ZB, gtO (normC (crd ((o 2).1, (o 2).2))) (some 0) = ZB := ⟨_, rfl⟩
          have HZ := Aside0.mk hZ
          clear hZ
          by_cases hg : sz a2 < sz a3
          · have HBB : Aside0 (beatB a0 a1 a2 a3 = ZB) := ⟨by unfold beatB; rw [decide_eq_true hg, ← FB.out, HZ.out]; rfl⟩
            have hgd : decide (sz a2 < sz a3) = true := decide_eq_true hg
            clear hg
            go_wp2
            refine wp_loop_rounds 3 ?_
            rw [rounds_succ]
            go_wp2_with (first
              | (go_at_call 28; with_reducible refine (RNorm_at (o 2).1 (o 2).2 _).mono ?_; rintro e w6 ⟨ra, ka, rfl, rfl, hra⟩; have HRA := Aside0.mk hra; clear hra)
              | (go_at_call 28; with_reducible refine (RNorm_at (o 1).1 (o 1).2 _).mono ?_; rintro e w6 ⟨rb, kb, rfl, rfl, hrb⟩; have hh : (FloatKind.f64.format.order ra rb == some .gt) = true := (gt_rd ra rb).trans (by rw [HRA.out, hrb]; exact G1.out); clear hrb))
            rw [rounds_succ]
            go_wp2_with (first
              | (go_at_call 28; with_reducible refine (RNorm_at (o 3).1 (o 3).2 _).mono ?_; rintro e w6 ⟨rc, kc, rfl, rfl, hrc⟩; have HRC := Aside0.mk hrc; clear hrc)
              | (go_at_call 28; with_reducible refine (RNorm_at (o 2).1 (o 2).2 _).mono ?_; rintro e w6 ⟨rd_, kd, rfl, rfl, hrd⟩; have hh2 : (FloatKind.f64.format.order rc rd_ == some .gt) = false := (gt_rd rc rd_).trans (by rw [HRC.out, hrd]; exact G2.out); clear hrd))
            rw [rounds_succ]
            go_wp2
            refine wp_gen (fun W' => Kd.C (Kd.int .i64) W' (some ⟨g1, 0, none⟩) 4 [a0, a1, a2, a3] ∧ Below w.heap.size w W') ⟨row4 (by repeat (first | exact HXW.out | refine blk_drewN ?_ _)), by repeat (first | exact HBW.out | refine pw_below_drewN ?_ _)⟩ (fun W' hW' => ?_)
            have HCW := Aside0.mk hW'.1
            have HBX := Aside0.mk hW'.2
            clear hW' p1 p2 p3
            go_region_held3 (fun w' => Kd.C (Kd.int .i64) w' (some ⟨g1, 0, none⟩) 4 [a0, a1, a2, a3] ∧ Below w.heap.size w w') (exact ⟨by repeat (first | exact HCW.out | refine Kd.C_drewN ?_ _ | refine Kd.C_below HCW.out ?_ | exact Below.refl _ _ | refine pw_below_drewN ?_ _ | refine below_drew1 ?_), by repeat (first | exact HBX.out | refine pw_below_drewN ?_ _ | refine below_drew1 ?_)⟩) (first
              | (go_at_call 26; with_reducible refine (RLoad4_3 (by repeat (first | exact HCW.out | refine Kd.C_drewN ?_ _ | refine Kd.C_below HCW.out ?_ | exact Below.refl _ _ | refine pw_below_drewN ?_ _ | refine below_drew1 ?_))).mono ?_; rintro e w7 ⟨rfl, k7, rfl⟩)
              | (go_at_call 26; with_reducible refine (RLoad4_2 (by repeat (first | exact HCW.out | refine Kd.C_drewN ?_ _ | refine Kd.C_below HCW.out ?_ | exact Below.refl _ _ | refine pw_below_drewN ?_ _ | refine below_drew1 ?_))).mono ?_; rintro e w7 ⟨rfl, k7, rfl⟩)
              | (go_at_call 28; with_reducible refine (RNorm_at (o 2).1 (o 2).2 _).mono ?_; rintro e w8 ⟨re, ke, rfl, rfl, hre⟩; have hz : (FloatKind.f64.format.order re 0 == some .gt) = ZB := (gt_rd re 0).trans (by rw [hre, rd_zero]; exact HZ.out); clear hre))
            all_goals
              go_wp2
              go_ret2
              exact ⟨_, _, by rw [HBB.out]; rfl, FB.out, by repeat (first | assumption | exact HBX.out | refine pw_below_drewN ?_ _ | refine below_drew1 ?_)⟩
          · have HBB : Aside0 (beatB a0 a1 a2 a3 = false) := ⟨by unfold beatB; rw [decide_eq_false hg, ← FB.out, HZ.out]; rfl⟩
            have hgd : decide (sz a2 < sz a3) = false := decide_eq_false hg
            clear hg
            go_wp2
            refine wp_loop_rounds 3 ?_
            rw [rounds_succ]
            go_wp2_with (first
              | (go_at_call 28; with_reducible refine (RNorm_at (o 2).1 (o 2).2 _).mono ?_; rintro e w6 ⟨ra, ka, rfl, rfl, hra⟩; have HRA := Aside0.mk hra; clear hra)
              | (go_at_call 28; with_reducible refine (RNorm_at (o 1).1 (o 1).2 _).mono ?_; rintro e w6 ⟨rb, kb, rfl, rfl, hrb⟩; have hh : (FloatKind.f64.format.order ra rb == some .gt) = true := (gt_rd ra rb).trans (by rw [HRA.out, hrb]; exact G1.out); clear hrb))
            rw [rounds_succ]
            go_wp2_with (first
              | (go_at_call 28; with_reducible refine (RNorm_at (o 3).1 (o 3).2 _).mono ?_; rintro e w6 ⟨rc, kc, rfl, rfl, hrc⟩; have HRC := Aside0.mk hrc; clear hrc)
              | (go_at_call 28; with_reducible refine (RNorm_at (o 2).1 (o 2).2 _).mono ?_; rintro e w6 ⟨rd_, kd, rfl, rfl, hrd⟩; have hh2 : (FloatKind.f64.format.order rc rd_ == some .gt) = false := (gt_rd rc rd_).trans (by rw [HRC.out, hrd]; exact G2.out); clear hrd))
            rw [rounds_succ]
            go_wp2
            refine wp_gen (fun W' => Kd.C (Kd.int .i64) W' (some ⟨g1, 0, none⟩) 4 [a0, a1, a2, a3] ∧ Below w.heap.size w W') ⟨row4 (by repeat (first | exact HXW.out | refine blk_drewN ?_ _)), by repeat (first | exact HBW.out | refine pw_below_drewN ?_ _)⟩ (fun W' hW' => ?_)
            have HCW := Aside0.mk hW'.1
            have HBX := Aside0.mk hW'.2
            clear hW' p1 p2 p3
            go_quiet (first
              | (go_at_call 26; (with_reducible refine (RLoad4_3 (by first | exact HCW.out | exact Kd.C_drewN HCW.out _)).mono ?_); rintro e w7 ⟨rfl, k7, rfl⟩; (first | exact ⟨rfl, _, World.drewN_drewN _ _ _⟩ | exact ⟨rfl, _, rfl⟩))
              | (go_at_call 26; (with_reducible refine (RLoad4_2 (by first | exact HCW.out | exact Kd.C_drewN HCW.out _)).mono ?_); rintro e w7 ⟨rfl, k7, rfl⟩; (first | exact ⟨rfl, _, World.drewN_drewN _ _ _⟩ | exact ⟨rfl, _, rfl⟩)))
            go_wp2
            go_ret2
            exact ⟨_, _, by rw [HBB.out]; rfl, FB.out, by repeat (first | exact HBX.out | refine pw_below_drewN ?_ _)⟩
      · have G1 := Aside0.mk g1_
        have F1 : Aside0 (best2 (crd (o 1)) (crd (o 2)) = crd (o 1)) := ⟨by unfold best2; rw [g1_]; rfl⟩
        clear g1_
        rcases Bool.eq_false_or_eq_true (gtO (normC (crd (o 3))) (normC (crd (o 1)))) with g2_ | g2_
        · have G2 := Aside0.mk g2_
          have F2 : Aside0 (best2 (crd (o 1)) (crd (o 3)) = crd (o 3)) := ⟨by unfold best2; rw [g2_]; rfl⟩
          clear g2_
          have FB : Aside0 (crd ((o 3).1, (o 3).2) = beatC a0 a1 a2 a3) := ⟨by unfold beatC; rw [← E1.out, ← E2.out, ← E3.out, F1.out, F2.out]⟩
          obtain ⟨ZB, hZ⟩ : ∃ ZB, gtO (normC (crd ((o 3).1, (o 3).2))) (some 0) = ZB := ⟨_, rfl⟩
          have HZ := Aside0.mk hZ
          clear hZ
          by_cases hg : sz a2 < sz a3
          · have HBB : Aside0 (beatB a0 a1 a2 a3 = ZB) := ⟨by unfold beatB; rw [decide_eq_true hg, ← FB.out, HZ.out]; rfl⟩
            have hgd : decide (sz a2 < sz a3) = true := decide_eq_true hg
            clear hg
            go_wp2
            refine wp_loop_rounds 3 ?_
            rw [rounds_succ]
            go_wp2_with (first
              | (go_at_call 28; with_reducible refine (RNorm_at (o 2).1 (o 2).2 _).mono ?_; rintro e w6 ⟨ra, ka, rfl, rfl, hra⟩; have HRA := Aside0.mk hra; clear hra)
              | (go_at_call 28; with_reducible refine (RNorm_at (o 1).1 (o 1).2 _).mono ?_; rintro e w6 ⟨rb, kb, rfl, rfl, hrb⟩; have hh : (FloatKind.f64.format.order ra rb == some .gt) = false := (gt_rd ra rb).trans (by rw [HRA.out, hrb]; exact G1.out); clear hrb))
            rw [rounds_succ]
            go_wp2_with (first
              | (go_at_call 28; with_reducible refine (RNorm_at (o 3).1 (o 3).2 _).mono ?_; rintro e w6 ⟨rc, kc, rfl, rfl, hrc⟩; have HRC := Aside0.mk hrc; clear hrc)
              | (go_at_call 28; with_reducible refine (RNorm_at (o 1).1 (o 1).2 _).mono ?_; rintro e w6 ⟨rd_, kd, rfl, rfl, hrd⟩; have hh2 : (FloatKind.f64.format.order rc rd_ == some .gt) = true := (gt_rd rc rd_).trans (by rw [HRC.out, hrd]; exact G2.out); clear hrd))
            rw [rounds_succ]
            go_wp2
            refine wp_gen (fun W' => Kd.C (Kd.int .i64) W' (some ⟨g1, 0, none⟩) 4 [a0, a1, a2, a3] ∧ Below w.heap.size w W') ⟨row4 (by repeat (first | exact HXW.out | refine blk_drewN ?_ _)), by repeat (first | exact HBW.out | refine pw_below_drewN ?_ _)⟩ (fun W' hW' => ?_)
            have HCW := Aside0.mk hW'.1
            have HBX := Aside0.mk hW'.2
            clear hW' p1 p2 p3
            go_region_held3 (fun w' => Kd.C (Kd.int .i64) w' (some ⟨g1, 0, none⟩) 4 [a0, a1, a2, a3] ∧ Below w.heap.size w w') (exact ⟨by repeat (first | exact HCW.out | refine Kd.C_drewN ?_ _ | refine Kd.C_below HCW.out ?_ | exact Below.refl _ _ | refine pw_below_drewN ?_ _ | refine below_drew1 ?_), by repeat (first | exact HBX.out | refine pw_below_drewN ?_ _ | refine below_drew1 ?_)⟩) (first
              | (go_at_call 26; with_reducible refine (RLoad4_3 (by repeat (first | exact HCW.out | refine Kd.C_drewN ?_ _ | refine Kd.C_below HCW.out ?_ | exact Below.refl _ _ | refine pw_below_drewN ?_ _ | refine below_drew1 ?_))).mono ?_; rintro e w7 ⟨rfl, k7, rfl⟩)
              | (go_at_call 26; with_reducible refine (RLoad4_2 (by repeat (first | exact HCW.out | refine Kd.C_drewN ?_ _ | refine Kd.C_below HCW.out ?_ | exact Below.refl _ _ | refine pw_below_drewN ?_ _ | refine below_drew1 ?_))).mono ?_; rintro e w7 ⟨rfl, k7, rfl⟩)
              | (go_at_call 28; with_reducible refine (RNorm_at (o 3).1 (o 3).2 _).mono ?_; rintro e w8 ⟨re, ke, rfl, rfl, hre⟩; have hz : (FloatKind.f64.format.order re 0 == some .gt) = ZB := (gt_rd re 0).trans (by rw [hre, rd_zero]; exact HZ.out); clear hre))
            all_goals
              go_wp2
              go_ret2
              exact ⟨_, _, by rw [HBB.out]; rfl, FB.out, by repeat (first | assumption | exact HBX.out | refine pw_below_drewN ?_ _ | refine below_drew1 ?_)⟩
          · have HBB : Aside0 (beatB a0 a1 a2 a3 = false) := ⟨by unfold beatB; rw [decide_eq_false hg, ← FB.out, HZ.out]; rfl⟩
            have hgd : decide (sz a2 < sz a3) = false := decide_eq_false hg
            clear hg
            go_wp2
            refine wp_loop_rounds 3 ?_
            rw [rounds_succ]
            go_wp2_with (first
              | (go_at_call 28; with_reducible refine (RNorm_at (o 2).1 (o 2).2 _).mono ?_; rintro e w6 ⟨ra, ka, rfl, rfl, hra⟩; have HRA := Aside0.mk hra; clear hra)
              | (go_at_call 28; with_reducible refine (RNorm_at (o 1).1 (o 1).2 _).mono ?_; rintro e w6 ⟨rb, kb, rfl, rfl, hrb⟩; have hh : (FloatKind.f64.format.order ra rb == some .gt) = false := (gt_rd ra rb).trans (by rw [HRA.out, hrb]; exact G1.out); clear hrb))
            rw [rounds_succ]
            go_wp2_with (first
              | (go_at_call 28; with_reducible refine (RNorm_at (o 3).1 (o 3).2 _).mono ?_; rintro e w6 ⟨rc, kc, rfl, rfl, hrc⟩; have HRC := Aside0.mk hrc; clear hrc)
              | (go_at_call 28; with_reducible refine (RNorm_at (o 1).1 (o 1).2 _).mono ?_; rintro e w6 ⟨rd_, kd, rfl, rfl, hrd⟩; have hh2 : (FloatKind.f64.format.order rc rd_ == some .gt) = true := (gt_rd rc rd_).trans (by rw [HRC.out, hrd]; exact G2.out); clear hrd))
            rw [rounds_succ]
            go_wp2
            refine wp_gen (fun W' => Kd.C (Kd.int .i64) W' (some ⟨g1, 0, none⟩) 4 [a0, a1, a2, a3] ∧ Below w.heap.size w W') ⟨row4 (by repeat (first | exact HXW.out | refine blk_drewN ?_ _)), by repeat (first | exact HBW.out | refine pw_below_drewN ?_ _)⟩ (fun W' hW' => ?_)
            have HCW := Aside0.mk hW'.1
            have HBX := Aside0.mk hW'.2
            clear hW' p1 p2 p3
            go_quiet (first
              | (go_at_call 26; (with_reducible refine (RLoad4_3 (by first | exact HCW.out | exact Kd.C_drewN HCW.out _)).mono ?_); rintro e w7 ⟨rfl, k7, rfl⟩; (first | exact ⟨rfl, _, World.drewN_drewN _ _ _⟩ | exact ⟨rfl, _, rfl⟩))
              | (go_at_call 26; (with_reducible refine (RLoad4_2 (by first | exact HCW.out | exact Kd.C_drewN HCW.out _)).mono ?_); rintro e w7 ⟨rfl, k7, rfl⟩; (first | exact ⟨rfl, _, World.drewN_drewN _ _ _⟩ | exact ⟨rfl, _, rfl⟩)))
            go_wp2
            go_ret2
            exact ⟨_, _, by rw [HBB.out]; rfl, FB.out, by repeat (first | exact HBX.out | refine pw_below_drewN ?_ _)⟩
        · have G2 := Aside0.mk g2_
          have F2 : Aside0 (best2 (crd (o 1)) (crd (o 3)) = crd (o 1)) := ⟨by unfold best2; rw [g2_]; rfl⟩
          clear g2_
          have FB : Aside0 (crd ((o 1).1, (o 1).2) = beatC a0 a1 a2 a3) := ⟨by unfold beatC; rw [← E1.out, ← E2.out, ← E3.out, F1.out, F2.out]⟩
          obtain ⟨ZB, hZ⟩ : ∃ ZB, gtO (normC (crd ((o 1).1, (o 1).2))) (some 0) = ZB := ⟨_, rfl⟩
          have HZ := Aside0.mk hZ
          clear hZ
          by_cases hg : sz a2 < sz a3
          · have HBB : Aside0 (beatB a0 a1 a2 a3 = ZB) := ⟨by unfold beatB; rw [decide_eq_true hg, ← FB.out, HZ.out]; rfl⟩
            have hgd : decide (sz a2 < sz a3) = true := decide_eq_true hg
            clear hg
            go_wp2
            refine wp_loop_rounds 3 ?_
            rw [rounds_succ]
            go_wp2_with (first
              | (go_at_call 28; with_reducible refine (RNorm_at (o 2).1 (o 2).2 _).mono ?_; rintro e w6 ⟨ra, ka, rfl, rfl, hra⟩; have HRA := Aside0.mk hra; clear hra)
              | (go_at_call 28; with_reducible refine (RNorm_at (o 1).1 (o 1).2 _).mono ?_; rintro e w6 ⟨rb, kb, rfl, rfl, hrb⟩; have hh : (FloatKind.f64.format.order ra rb == some .gt) = false := (gt_rd ra rb).trans (by rw [HRA.out, hrb]; exact G1.out); clear hrb))
            rw [rounds_succ]
            go_wp2_with (first
              | (go_at_call 28; with_reducible refine (RNorm_at (o 3).1 (o 3).2 _).mono ?_; rintro e w6 ⟨rc, kc, rfl, rfl, hrc⟩; have HRC := Aside0.mk hrc; clear hrc)
              | (go_at_call 28; with_reducible refine (RNorm_at (o 1).1 (o 1).2 _).mono ?_; rintro e w6 ⟨rd_, kd, rfl, rfl, hrd⟩; have hh2 : (FloatKind.f64.format.order rc rd_ == some .gt) = false := (gt_rd rc rd_).trans (by rw [HRC.out, hrd]; exact G2.out); clear hrd))
            rw [rounds_succ]
            go_wp2
            refine wp_gen (fun W' => Kd.C (Kd.int .i64) W' (some ⟨g1, 0, none⟩) 4 [a0, a1, a2, a3] ∧ Below w.heap.size w W') ⟨row4 (by repeat (first | exact HXW.out | refine blk_drewN ?_ _)), by repeat (first | exact HBW.out | refine pw_below_drewN ?_ _)⟩ (fun W' hW' => ?_)
            have HCW := Aside0.mk hW'.1
            have HBX := Aside0.mk hW'.2
            clear hW' p1 p2 p3
            go_region_held3 (fun w' => Kd.C (Kd.int .i64) w' (some ⟨g1, 0, none⟩) 4 [a0, a1, a2, a3] ∧ Below w.heap.size w w') (exact ⟨by repeat (first | exact HCW.out | refine Kd.C_drewN ?_ _ | refine Kd.C_below HCW.out ?_ | exact Below.refl _ _ | refine pw_below_drewN ?_ _ | refine below_drew1 ?_), by repeat (first | exact HBX.out | refine pw_below_drewN ?_ _ | refine below_drew1 ?_)⟩) (first
              | (go_at_call 26; with_reducible refine (RLoad4_3 (by repeat (first | exact HCW.out | refine Kd.C_drewN ?_ _ | refine Kd.C_below HCW.out ?_ | exact Below.refl _ _ | refine pw_below_drewN ?_ _ | refine below_drew1 ?_))).mono ?_; rintro e w7 ⟨rfl, k7, rfl⟩)
              | (go_at_call 26; with_reducible refine (RLoad4_2 (by repeat (first | exact HCW.out | refine Kd.C_drewN ?_ _ | refine Kd.C_below HCW.out ?_ | exact Below.refl _ _ | refine pw_below_drewN ?_ _ | refine below_drew1 ?_))).mono ?_; rintro e w7 ⟨rfl, k7, rfl⟩)
              | (go_at_call 28; with_reducible refine (RNorm_at (o 1).1 (o 1).2 _).mono ?_; rintro e w8 ⟨re, ke, rfl, rfl, hre⟩; have hz : (FloatKind.f64.format.order re 0 == some .gt) = ZB := (gt_rd re 0).trans (by rw [hre, rd_zero]; exact HZ.out); clear hre))
            all_goals
              go_wp2
              go_ret2
              exact ⟨_, _, by rw [HBB.out]; rfl, FB.out, by repeat (first | assumption | exact HBX.out | refine pw_below_drewN ?_ _ | refine below_drew1 ?_)⟩
          · have HBB : Aside0 (beatB a0 a1 a2 a3 = false) := ⟨by unfold beatB; rw [decide_eq_false hg, ← FB.out, HZ.out]; rfl⟩
            have hgd : decide (sz a2 < sz a3) = false := decide_eq_false hg
            clear hg
            go_wp2
            refine wp_loop_rounds 3 ?_
            rw [rounds_succ]
            go_wp2_with (first
              | (go_at_call 28; with_reducible refine (RNorm_at (o 2).1 (o 2).2 _).mono ?_; rintro e w6 ⟨ra, ka, rfl, rfl, hra⟩; have HRA := Aside0.mk hra; clear hra)
              | (go_at_call 28; with_reducible refine (RNorm_at (o 1).1 (o 1).2 _).mono ?_; rintro e w6 ⟨rb, kb, rfl, rfl, hrb⟩; have hh : (FloatKind.f64.format.order ra rb == some .gt) = false := (gt_rd ra rb).trans (by rw [HRA.out, hrb]; exact G1.out); clear hrb))
            rw [rounds_succ]
            go_wp2_with (first
              | (go_at_call 28; with_reducible refine (RNorm_at (o 3).1 (o 3).2 _).mono ?_; rintro e w6 ⟨rc, kc, rfl, rfl, hrc⟩; have HRC := Aside0.mk hrc; clear hrc)
              | (go_at_call 28; with_reducible refine (RNorm_at (o 1).1 (o 1).2 _).mono ?_; rintro e w6 ⟨rd_, kd, rfl, rfl, hrd⟩; have hh2 : (FloatKind.f64.format.order rc rd_ == some .gt) = false := (gt_rd rc rd_).trans (by rw [HRC.out, hrd]; exact G2.out); clear hrd))
            rw [rounds_succ]
            go_wp2
            refine wp_gen (fun W' => Kd.C (Kd.int .i64) W' (some ⟨g1, 0, none⟩) 4 [a0, a1, a2, a3] ∧ Below w.heap.size w W') ⟨row4 (by repeat (first | exact HXW.out | refine blk_drewN ?_ _)), by repeat (first | exact HBW.out | refine pw_below_drewN ?_ _)⟩ (fun W' hW' => ?_)
            have HCW := Aside0.mk hW'.1
            have HBX := Aside0.mk hW'.2
            clear hW' p1 p2 p3
            go_quiet (first
              | (go_at_call 26; (with_reducible refine (RLoad4_3 (by first | exact HCW.out | exact Kd.C_drewN HCW.out _)).mono ?_); rintro e w7 ⟨rfl, k7, rfl⟩; (first | exact ⟨rfl, _, World.drewN_drewN _ _ _⟩ | exact ⟨rfl, _, rfl⟩))
              | (go_at_call 26; (with_reducible refine (RLoad4_2 (by first | exact HCW.out | exact Kd.C_drewN HCW.out _)).mono ?_); rintro e w7 ⟨rfl, k7, rfl⟩; (first | exact ⟨rfl, _, World.drewN_drewN _ _ _⟩ | exact ⟨rfl, _, rfl⟩)))
            go_wp2
            go_ret2
            exact ⟨_, _, by rw [HBB.out]; rfl, FB.out, by repeat (first | exact HBX.out | refine pw_below_drewN ?_ _)⟩

theorem wf32a {x : Int} (h : (Lit.int .u32 x).wf = true) : 0 ≤ x ∧ x < 4294967296 := by
  simp [Lit.wf, IntKind.min, IntKind.max, IntKind.signed, IntKind.bits] at h
  omega
def fewC (l : List S46) (ns : List Int) : Bool := decide ((l.length : Int) ≤ 60) && decide ((ns.length : Int) ≤ 20)
theorem FewC_is (ep : Int) (A1 : Option Addr) (c1 : Nat) (l : List S46) (A2 : Option Addr) (c2 : Nat) (ns : List Int) (w : World) (hr1 : Kd.C k46 w A1 l.length l) (hc1 : l.length ≤ c1) (hr2 : Kd.C (Kd.int .i64) w A2 ns.length ns) (hc2 : ns.length ≤ c2) :
    Calls Try.prog 6 #[.agg (cT ep A1 l.length c1 A2 ns.length c2)] w fun e w' => e = .returned (.bool (fewC l ns)) ∧ Below w.heap.size w w' := by
  refine carrefourlaw10_Few.calls ep A1 c1 l A2 c2 ns _ w hr1 hc1 hr2 hc2 ?_
  unfold carrefourlaw10_Few.f carrefourlaw9_Few.f fewC
  by_cases h : (l.length : Int) ≤ 60
  · rw [decide_eq_true h]; rfl
  · rw [decide_eq_false h]; rfl
theorem Same_at {a b c d : Nat} (h : crd (a, b) = crd (c, d)) (w : World) : Calls Try.prog 10 #[.complex .f64 a b, .complex .f64 c d] w fun e w' => e = .returned (.bool true) ∧ w' = w := by
  refine (Same_is a b c d w).mono ?_
  rintro e w' ⟨rfl, rfl⟩
  have h1 : rd a = rd c := congrArg Prod.fst h
  have h2 : rd b = rd d := congrArg Prod.snd h
  exact ⟨by rw [decide_eq_true h1, decide_eq_true h2]; rfl, rfl⟩
/-- The loads that are told last, as they come. -/
def lastS (loads : List Int) (i : Nat) (j : Int) : Int := if j < (i : Int) then YtbkamlkmimfomaaW.PrintWords.rd loads j else 0
set_option maxHeartbeats 8000000 in
set_option maxRecDepth 100000 in
theorem PlanAsks_is (ep : Int) (A1 : Option Addr) (c1 : Nat) (l : List S46) (A2 : Option Addr) (c2 : Nat) (ns : List Int) (A3 : Option Addr) (c3 : Nat) (loads : List Int) (nodes : Int) (w : World) (hr1 : Kd.C k46 w A1 l.length l) (hc1 : l.length ≤ c1) (hr2 : Kd.C (Kd.int .i64) w A2 ns.length ns) (hc2 : ns.length ≤ c2) (hr3 : Kd.C (Kd.int .i64) w A3 loads.length loads) (hc3 : loads.length ≤ c3) (hf : ∀ x ∈ l, 0 ≤ x.f0 ∧ x.f0 < 4294967296) :
    Calls Try.prog 3 #[.agg (cT ep A1 l.length c1 A2 ns.length c2), .slice A3 loads.length c3, .int .i64 nodes] w fun e w' => e = .returned (.bool true) ∧ Below w.heap.size w w' := by
  have HR1 := Aside0.mk hr1
  have HC1 := Aside0.mk hc1
  have HR2 := Aside0.mk hr2
  have HC2 := Aside0.mk hc2
  have HR3 := Aside0.mk hr3
  have HC3 := Aside0.mk hc3
  have HF := Aside0.mk hf
  have hu := Try.underlying25
  have hu46 := Try.underlying46
  have hu28 := Try.underlying28
  clear hr1 hc1 hr2 hc2 hr3 hc3 hf
  cases hfw : fewC l ns with
  | false =>
    have HFW := Aside0.mk hfw
    clear hfw
    go_enter Try.func3, Try.ntmps3
    go_wp2_with (first
      | ((with_reducible refine gate_dst (N := 3) rfl ?_); refine box_event ?hg (N := 3) ?hd (cs := cT ep A1 l.length c1 A2 ns.length c2) (t := 25) ?hr ?_; (case hd => rfl); (case hg => rfl); (case hr => first | (go_simp; done) | (go_simp; rfl)); intro g2 hg w2 hbox hb; have HB := Aside0.mk hb; have HX := Aside0.mk hbox; have h0 : w2.cell? ⟨g2, 0, none⟩ = some (.int .i64 ep) := (blk_cell hbox 0).trans rfl; have h1 : w2.cell? ⟨g2, 1, none⟩ = some (.slice A1 l.length c1) := (blk_cell hbox 1).trans rfl; have h2 : w2.cell? ⟨g2, 2, none⟩ = some (.slice A2 ns.length c2) := (blk_cell hbox 2).trans rfl; clear hb hbox hg)
      | (go_at_call 6; with_reducible refine (FewC_is ep A1 c1 l A2 c2 ns _ (Kd.C_below HR1.out HB.out) HC1.out (Kd.C_below HR2.out HB.out) HC2.out).mono ?_; rintro e w3 ⟨rfl, hb⟩; have HB3 := Aside0.mk (thn5 HB.out hb); clear h0 h1 h2 hb; rw [HFW.out])
      | (go_at_call 7; with_reducible refine (told_is _).mono ?_; rintro e w9 ⟨rfl, hb⟩; have HBT := Aside0.mk (thn5 HB3.out hb); clear hb))
    go_ret
    exact ⟨rfl, HBT.out⟩
  | true =>
    have HFW := Aside0.mk hfw
    clear hfw
    by_cases n2 : 20 < loads.length
    · have d2 : decide (20 < (loads.length : Int)) = true := decide_eq_true (by omega)
      clear n2
      go_enter Try.func3, Try.ntmps3
      go_wp2_with (first
        | ((with_reducible refine gate_dst (N := 3) rfl ?_); refine box_event ?hg (N := 3) ?hd (cs := cT ep A1 l.length c1 A2 ns.length c2) (t := 25) ?hr ?_; (case hd => rfl); (case hg => rfl); (case hr => first | (go_simp; done) | (go_simp; rfl)); intro g2 hg w2 hbox hb; have HB := Aside0.mk hb; have HX := Aside0.mk hbox; have h0 : w2.cell? ⟨g2, 0, none⟩ = some (.int .i64 ep) := (blk_cell hbox 0).trans rfl; have h1 : w2.cell? ⟨g2, 1, none⟩ = some (.slice A1 l.length c1) := (blk_cell hbox 1).trans rfl; have h2 : w2.cell? ⟨g2, 2, none⟩ = some (.slice A2 ns.length c2) := (blk_cell hbox 2).trans rfl; clear hb hbox hg)
        | (go_at_call 6; with_reducible refine (FewC_is ep A1 c1 l A2 c2 ns _ (Kd.C_below HR1.out HB.out) HC1.out (Kd.C_below HR2.out HB.out) HC2.out).mono ?_; rintro e w3 ⟨rfl, hb⟩; have HB3 := Aside0.mk (thn5 HB.out hb); clear h0 h1 h2 hb; rw [HFW.out])
        | (go_at_call 7; with_reducible refine (told_is _).mono ?_; rintro e w9 ⟨rfl, hb⟩; have HBT := Aside0.mk (thn5 HB3.out hb); clear hb))
      go_ret
      exact ⟨rfl, HBT.out⟩
    have d2 : decide (20 < (loads.length : Int)) = false := decide_eq_false (by omega)
    have HLL : Aside0 (loads.length ≤ 20) := ⟨by omega⟩
    clear n2
    go_enter Try.func3, Try.ntmps3
    go_wp2_with (first
      | ((with_reducible refine gate_dst (N := 3) rfl ?_); refine box_event ?hg (N := 3) ?hd (cs := cT ep A1 l.length c1 A2 ns.length c2) (t := 25) ?hr ?_; (case hd => rfl); (case hg => rfl); (case hr => first | (go_simp; done) | (go_simp; rfl)); intro g2 hg w2 hbox hb; have HB := Aside0.mk hb; have HX := Aside0.mk hbox; have h0 : w2.cell? ⟨g2, 0, none⟩ = some (.int .i64 ep) := (blk_cell hbox 0).trans rfl; have h1 : w2.cell? ⟨g2, 1, none⟩ = some (.slice A1 l.length c1) := (blk_cell hbox 1).trans rfl; have h2 : w2.cell? ⟨g2, 2, none⟩ = some (.slice A2 ns.length c2) := (blk_cell hbox 2).trans rfl; clear hb hbox hg)
      | (go_at_call 6; with_reducible refine (FewC_is ep A1 c1 l A2 c2 ns _ (Kd.C_below HR1.out HB.out) HC1.out (Kd.C_below HR2.out HB.out) HC2.out).mono ?_; rintro e w3 ⟨rfl, hb⟩; have HB3 := Aside0.mk (thn5 HB.out hb); have HX3 := Aside0.mk (blk_below HX.out hb); clear h0 h1 h2 hb; rw [HFW.out])
      | ((with_reducible refine gate_dst (N := 7) rfl ?_); refine box_event ?hg (N := 7) ?hd (cs := #[.int .i64 0, .int .i64 0, .int .i64 0, .int .i64 0]) (t := 28) ?hr ?_; (case hd => rfl); (case hg => rfl); (case hr => first | (go_simp; done) | (go_simp; rfl)); intro g7 hg w4 hbox hb; have HB4 := Aside0.mk (thn5 HB3.out hb); have HX4 := Aside0.mk (blk_below HX3.out hb); have HS4 := Aside0.mk hbox; have HG7 : Aside0 (w.heap.size ≤ g7 ∧ g2 ≠ g7) := ⟨by rw [hg]; exact ⟨HB3.out.size, Nat.ne_of_lt (blk_lt HX3.out)⟩⟩; clear hb hbox hg))
    obtain ⟨m, hm⟩ : ∃ m, min 4 loads.length = m := ⟨_, rfl⟩
    have HMM : Aside0 (m ≤ 4 ∧ m ≤ loads.length ∧ (m = 4 ∨ m = loads.length)) := ⟨by omega⟩
    clear hm
    go_loopg [8] m (fun g v8 wr => ∃ (i : Nat), v8 = .int .i64 i ∧ g + i = m ∧ Aside0 (wr.heap[g7]? = some (.cells (c4 (lastS loads i)) 28 (0, 0))) ∧ Aside0 (wr.heap[g2]? = some (.cells (cT ep A1 l.length c1 A2 ns.length c2) 25 (0, 0))) ∧ Aside0 (Below w.heap.size w wr))
    case atStart => exact ⟨0, rfl, by omega, HS4, HX4, HB4⟩
    case round =>
      obtain ⟨i, rfl, hgi, HS5, HX5, HB5⟩ := hrel
      cases gk with
      | succ g =>
        have hi : (i : Int) < 4 := by have := HMM.out; omega
        have hin : i < 4 := by omega
        have hil : i < loads.length := by have := HMM.out; omega
        have hi0 : 0 ≤ (i : Int) := by omega
        have e1 : decide ((i : Int) < 4) = true := decide_eq_true hi
        have e2 : decide (i < loads.length) = true := decide_eq_true hil
        obtain ⟨ad, ea, q1⟩ := Kd.at_int HR3.out (i : Int) hi0 (by omega)
        cases ea
        rw [Int.toNat_natCast] at q1
        replace q1 := (HB5.out.cell (World.block_lt_of_cell? w _ q1)).trans q1
        obtain ⟨x, hx⟩ : ∃ x, YtbkamlkmimfomaaW.PrintWords.rd loads (i : Int) = x := ⟨_, rfl⟩
        rw [hx] at q1
        have HST : Aside0 ((c4 (lastS loads i)).setIfInBounds i (.int .i64 x) = c4 (lastS loads (i + 1))) := ⟨by
          have e : lastS loads (i + 1) (i : Int) = x := by unfold lastS; rw [if_pos (by omega), hx]
          have h := c4_set (lastS loads i) (lastS loads (i + 1)) hin (fun j hj hjd => by
            unfold lastS
            by_cases h : (j : Int) < (i : Int)
            · rw [if_pos h, if_pos (by omega)]
            · rw [if_neg h, if_neg (by omega)])
          rw [e] at h
          exact h⟩
        have HI := Aside0.mk hgi
        have i1 : (0 ≤ (i : Int)) = True := eq_true (by omega)
        have i2 : ((i : Int) < 4) = True := eq_true hi
        have i3 : ((i : Int) < 0) = False := eq_false (by omega)
        have i4 : ((i : Int) < (loads.length : Int)) = True := eq_true (by omega)
        have hw : wrap64 ((i : Int) + 1) = (i : Int) + 1 := wr64 _ (by omega) (by omega)
        obtain ⟨ov, hov⟩ : ∃ ov, (c4 (lastS loads i))[i]? = some ov := ⟨_, Array.getElem?_eq_getElem (by show i < 4; exact hin)⟩
        have y1 : wr.cell? ⟨g7, i, none⟩ = some ov := (blk_cell HS5.out i).trans hov
        have y2 : wr.frozen? ⟨g7, i, none⟩ = false := blk_frozen HS5.out i
        clear hgi hin hil hx hov
        go_wp2
        go_roundg g
        case measure => omega
        case rel => exact ⟨i + 1, by first | rfl | (rw [hw, Int.natCast_add]; rfl), by have := HI.out; omega, ⟨blk_put HS5.out i _ HST.out⟩, ⟨blk_set_ne HX5.out HG7.out.2 i _⟩, ⟨below_set HB5.out HG7.out.1⟩⟩
      | zero =>
        have hil : i = m := by omega
        subst hil
        clear hgi
        obtain ⟨S, hS⟩ : ∃ S, lastS loads i = S := ⟨_, rfl⟩
        rw [hS] at HS5
        clear hS
        obtain ⟨a0, h0_⟩ : ∃ a0, S 0 = a0 := ⟨_, rfl⟩
        obtain ⟨a1, h1_⟩ : ∃ a1, S 1 = a1 := ⟨_, rfl⟩
        obtain ⟨a2, h2_⟩ : ∃ a2, S 2 = a2 := ⟨_, rfl⟩
        obtain ⟨a3, h3_⟩ : ∃ a3, S 3 = a3 := ⟨_, rfl⟩
        have HS6 : Aside0 (wr.heap[g7]? = some (.cells #[.int .i64 a0, .int .i64 a1, .int .i64 a2, .int .i64 a3] 28 (0, 0))) := ⟨by rw [← h0_, ← h1_, ← h2_, ← h3_]; exact HS5.out⟩
        clear h0_ h1_ h2_ h3_ HS5
        have y0 : wr.cell? ⟨g7, 0, none⟩ = some (.int .i64 a0) := (blk_cell HS6.out 0).trans rfl
        have y1 : wr.cell? ⟨g7, 1, none⟩ = some (.int .i64 a1) := (blk_cell HS6.out 1).trans rfl
        have y2 : wr.cell? ⟨g7, 2, none⟩ = some (.int .i64 a2) := (blk_cell HS6.out 2).trans rfl
        have y3 : wr.cell? ⟨g7, 3, none⟩ = some (.int .i64 a3) := (blk_cell HS6.out 3).trans rfl
        have hor : (i = 4) ∨ (i < 4 ∧ ¬ i < loads.length) := by
          have := HMM.out
          omega
        have HH := Aside0.mk (fun (w' : World) (hb : Below wr.heap.size wr w') => cells3 ((blk_cell HX5.out 0).trans rfl : wr.cell? ⟨g2, 0, none⟩ = some (.int .i64 ep)) ((blk_cell HX5.out 1).trans rfl : wr.cell? ⟨g2, 1, none⟩ = some (.slice A1 l.length c1)) ((blk_cell HX5.out 2).trans rfl : wr.cell? ⟨g2, 2, none⟩ = some (.slice A2 ns.length c2)) hb)
        obtain ⟨fl, hfl⟩ : ∃ fl, beatB a0 a1 a2 a3 = fl := ⟨_, rfl⟩
        have HFL := Aside0.mk hfl
        obtain ⟨hv, hhv⟩ : ∃ hv, hotP ep l ns loads = hv := ⟨_, rfl⟩
        have HHV := Aside0.mk hhv
        obtain ⟨cv, hcv⟩ : ∃ cv, coldP ep l ns loads nodes = cv := ⟨_, rfl⟩
        have HCV := Aside0.mk hcv
        have f1 : (fl == fl) = true := beq_self_eq_true fl
        have f2 : ((hv : Int) == hv) = true := beq_self_eq_true hv
        have f3 : ((cv : Int) == cv) = true := beq_self_eq_true cv
        clear hfl hhv hcv
        rcases hor with hor | hor
        · have e4 : decide ((i : Int) < 4) = false := decide_eq_false (by omega)
          clear hor
          go_wp2_with (first
            | (go_at_call 8; with_reducible refine (Beat_is a0 a1 a2 a3 _).mono ?_; rintro e w6 ⟨rb, ib, rfl, hcb, hb⟩; have HB6 := Aside0.mk hb; have HCB := Aside0.mk hcb; rw [HFL.out]; clear hb hcb; have z0 : w6.cell? ⟨g7, 0, none⟩ = some (.int .i64 a0) := (blk_cell (blk_below HS6.out HB6.out) 0).trans rfl; have z1 : w6.cell? ⟨g7, 1, none⟩ = some (.int .i64 a1) := (blk_cell (blk_below HS6.out HB6.out) 1).trans rfl; have z2 : w6.cell? ⟨g7, 2, none⟩ = some (.int .i64 a2) := (blk_cell (blk_below HS6.out HB6.out) 2).trans rfl; have z3 : w6.cell? ⟨g7, 3, none⟩ = some (.int .i64 a3) := (blk_cell (blk_below HS6.out HB6.out) 3).trans rfl)
            | (go_at_call 9; with_reducible refine (RBeat_is a0 a1 a2 a3 _).mono ?_; rintro e w7 ⟨rc, ic, rfl, hcb, hb⟩; have HB7 := Aside0.mk (thn5 HB6.out hb); have HCE : Aside0 (crd (rb, ib) = crd (rc, ic)) := ⟨HCB.out.trans hcb.symm⟩; rw [HFL.out]; clear hb hcb y0 y1 y2 y3 z0 z1 z2 z3))
          obtain ⟨t0, t1, t2⟩ := HH.out _ HB7.out
          go_region_held3 (fun w' => w'.cell? ⟨g2, 0, none⟩ = some (.int .i64 ep) ∧ w'.cell? ⟨g2, 1, none⟩ = some (.slice A1 l.length c1) ∧ w'.cell? ⟨g2, 2, none⟩ = some (.slice A2 ns.length c2)) (first | exact HH.out _ HBg.out | exact HH.out _ HBf.out | exact HH.out _ HBe.out | exact HH.out _ HBd.out | exact HH.out _ HBc.out | exact HH.out _ HBb.out | exact HH.out _ HBa.out | exact HH.out _ (below_drew1 HB7.out)) ((first
            | (go_at_call 7; with_reducible refine (told_is _).mono ?_; rintro e wa ⟨rfl, hb⟩; have HBa := Aside0.mk (thn5 (below_drew1 HB7.out) hb); clear hb)
            | (go_at_call 11; with_reducible refine (Lean_is ep A1 c1 l A2 c2 ns A3 c3 loads _ (Kd.C_below HR1.out (thn5 HB5.out HBa.out)) HC1.out (Kd.C_below HR2.out (thn5 HB5.out HBa.out)) HC2.out (Kd.C_below HR3.out (thn5 HB5.out HBa.out)) HC3.out).mono ?_; rintro e wb ⟨rl, il, rfl, hl_, hb⟩; have HBb := Aside0.mk (thn5 HBa.out hb); have HLE := Aside0.mk hl_; clear hb hl_)
            | (go_at_call 12; with_reducible refine (RLT_is ep A1 c1 l A2 c2 ns A3 c3 loads _ (Kd.C_below HR1.out (thn5 HB5.out HBb.out)) HC1.out (Kd.C_below HR2.out (thn5 HB5.out HBb.out)) HC2.out (Kd.C_below HR3.out (thn5 HB5.out HBb.out)) HC3.out).mono ?_; rintro e wc ⟨rm, im, rfl, hl_, hb⟩; have HBc := Aside0.mk (thn5 HBb.out hb); have HLE2 : Aside0 (crd (rl, il) = crd (rm, im)) := ⟨HLE.out.trans hl_.symm⟩; clear hb hl_)
            | (go_at_call 10; with_reducible refine (Same_at HLE2.out _).mono ?_; rintro e wx ⟨rfl, rfl⟩)
            | (go_at_call 10; with_reducible refine (Same_at HCE.out _).mono ?_; rintro e wx ⟨rfl, rfl⟩)
            | (go_at_call 13; with_reducible refine (Hot_is ep A1 c1 l A2 c2 ns A3 c3 loads _ (Kd.C_below HR1.out (thn5 HB5.out HBc.out)) HC1.out (Kd.C_below HR2.out (thn5 HB5.out HBc.out)) HC2.out (Kd.C_below HR3.out (thn5 HB5.out HBc.out)) HC3.out).mono ?_; rintro e wd ⟨rfl, hb⟩; have HBd := Aside0.mk (thn5 HBc.out hb); rw [HHV.out]; clear hb)
            | (go_at_call 14; with_reducible refine (RHot_is ep A1 c1 l A2 c2 ns A3 c3 loads _ (Kd.C_below HR1.out (thn5 HB5.out HBd.out)) HC1.out (Kd.C_below HR2.out (thn5 HB5.out HBd.out)) HC2.out (Kd.C_below HR3.out (thn5 HB5.out HBd.out)) HC3.out HF.out).mono ?_; rintro e we ⟨rfl, hb⟩; have HBe := Aside0.mk (thn5 HBd.out hb); rw [HHV.out]; clear hb)
            | (go_at_call 15; with_reducible refine (Cold_is ep A1 c1 l A2 c2 ns A3 c3 loads nodes _ (Kd.C_below HR1.out (thn5 HB5.out HBe.out)) HC1.out (Kd.C_below HR2.out (thn5 HB5.out HBe.out)) HC2.out (Kd.C_below HR3.out (thn5 HB5.out HBe.out)) HC3.out).mono ?_; rintro e wf ⟨rfl, hb⟩; have HBf := Aside0.mk (thn5 HBe.out hb); rw [HCV.out]; clear hb)
            | (go_at_call 16; with_reducible refine (RCold_is ep A1 c1 l A2 c2 ns A3 c3 loads nodes _ (Kd.C_below HR1.out (thn5 HB5.out HBf.out)) HC1.out (Kd.C_below HR2.out (thn5 HB5.out HBf.out)) HC2.out (Kd.C_below HR3.out (thn5 HB5.out HBf.out)) HC3.out).mono ?_; rintro e wg ⟨rfl, hb⟩; have HBg := Aside0.mk (thn5 HBf.out hb); rw [HCV.out]; clear hb)))
          go_wp2
          go_ret
          exact ⟨rfl, thn5 HB5.out HBg.out⟩
        · have e4 : decide ((i : Int) < 4) = true := decide_eq_true (by omega)
          have e5 : decide (i < loads.length) = false := decide_eq_false hor.2
          clear hor
          go_wp2_with (first
            | (go_at_call 8; with_reducible refine (Beat_is a0 a1 a2 a3 _).mono ?_; rintro e w6 ⟨rb, ib, rfl, hcb, hb⟩; have HB6 := Aside0.mk hb; have HCB := Aside0.mk hcb; rw [HFL.out]; clear hb hcb; have z0 : w6.cell? ⟨g7, 0, none⟩ = some (.int .i64 a0) := (blk_cell (blk_below HS6.out HB6.out) 0).trans rfl; have z1 : w6.cell? ⟨g7, 1, none⟩ = some (.int .i64 a1) := (blk_cell (blk_below HS6.out HB6.out) 1).trans rfl; have z2 : w6.cell? ⟨g7, 2, none⟩ = some (.int .i64 a2) := (blk_cell (blk_below HS6.out HB6.out) 2).trans rfl; have z3 : w6.cell? ⟨g7, 3, none⟩ = some (.int .i64 a3) := (blk_cell (blk_below HS6.out HB6.out) 3).trans rfl)
            | (go_at_call 9; with_reducible refine (RBeat_is a0 a1 a2 a3 _).mono ?_; rintro e w7 ⟨rc, ic, rfl, hcb, hb⟩; have HB7 := Aside0.mk (thn5 HB6.out hb); have HCE : Aside0 (crd (rb, ib) = crd (rc, ic)) := ⟨HCB.out.trans hcb.symm⟩; rw [HFL.out]; clear hb hcb y0 y1 y2 y3 z0 z1 z2 z3))
          obtain ⟨t0, t1, t2⟩ := HH.out _ HB7.out
          go_region_held3 (fun w' => w'.cell? ⟨g2, 0, none⟩ = some (.int .i64 ep) ∧ w'.cell? ⟨g2, 1, none⟩ = some (.slice A1 l.length c1) ∧ w'.cell? ⟨g2, 2, none⟩ = some (.slice A2 ns.length c2)) (first | exact HH.out _ HBg.out | exact HH.out _ HBf.out | exact HH.out _ HBe.out | exact HH.out _ HBd.out | exact HH.out _ HBc.out | exact HH.out _ HBb.out | exact HH.out _ HBa.out | exact HH.out _ (below_drew1 HB7.out)) ((first
            | (go_at_call 7; with_reducible refine (told_is _).mono ?_; rintro e wa ⟨rfl, hb⟩; have HBa := Aside0.mk (thn5 (below_drew1 HB7.out) hb); clear hb)
            | (go_at_call 11; with_reducible refine (Lean_is ep A1 c1 l A2 c2 ns A3 c3 loads _ (Kd.C_below HR1.out (thn5 HB5.out HBa.out)) HC1.out (Kd.C_below HR2.out (thn5 HB5.out HBa.out)) HC2.out (Kd.C_below HR3.out (thn5 HB5.out HBa.out)) HC3.out).mono ?_; rintro e wb ⟨rl, il, rfl, hl_, hb⟩; have HBb := Aside0.mk (thn5 HBa.out hb); have HLE := Aside0.mk hl_; clear hb hl_)
            | (go_at_call 12; with_reducible refine (RLT_is ep A1 c1 l A2 c2 ns A3 c3 loads _ (Kd.C_below HR1.out (thn5 HB5.out HBb.out)) HC1.out (Kd.C_below HR2.out (thn5 HB5.out HBb.out)) HC2.out (Kd.C_below HR3.out (thn5 HB5.out HBb.out)) HC3.out).mono ?_; rintro e wc ⟨rm, im, rfl, hl_, hb⟩; have HBc := Aside0.mk (thn5 HBb.out hb); have HLE2 : Aside0 (crd (rl, il) = crd (rm, im)) := ⟨HLE.out.trans hl_.symm⟩; clear hb hl_)
            | (go_at_call 10; with_reducible refine (Same_at HLE2.out _).mono ?_; rintro e wx ⟨rfl, rfl⟩)
            | (go_at_call 10; with_reducible refine (Same_at HCE.out _).mono ?_; rintro e wx ⟨rfl, rfl⟩)
            | (go_at_call 13; with_reducible refine (Hot_is ep A1 c1 l A2 c2 ns A3 c3 loads _ (Kd.C_below HR1.out (thn5 HB5.out HBc.out)) HC1.out (Kd.C_below HR2.out (thn5 HB5.out HBc.out)) HC2.out (Kd.C_below HR3.out (thn5 HB5.out HBc.out)) HC3.out).mono ?_; rintro e wd ⟨rfl, hb⟩; have HBd := Aside0.mk (thn5 HBc.out hb); rw [HHV.out]; clear hb)
            | (go_at_call 14; with_reducible refine (RHot_is ep A1 c1 l A2 c2 ns A3 c3 loads _ (Kd.C_below HR1.out (thn5 HB5.out HBd.out)) HC1.out (Kd.C_below HR2.out (thn5 HB5.out HBd.out)) HC2.out (Kd.C_below HR3.out (thn5 HB5.out HBd.out)) HC3.out HF.out).mono ?_; rintro e we ⟨rfl, hb⟩; have HBe := Aside0.mk (thn5 HBd.out hb); rw [HHV.out]; clear hb)
            | (go_at_call 15; with_reducible refine (Cold_is ep A1 c1 l A2 c2 ns A3 c3 loads nodes _ (Kd.C_below HR1.out (thn5 HB5.out HBe.out)) HC1.out (Kd.C_below HR2.out (thn5 HB5.out HBe.out)) HC2.out (Kd.C_below HR3.out (thn5 HB5.out HBe.out)) HC3.out).mono ?_; rintro e wf ⟨rfl, hb⟩; have HBf := Aside0.mk (thn5 HBe.out hb); rw [HCV.out]; clear hb)
            | (go_at_call 16; with_reducible refine (RCold_is ep A1 c1 l A2 c2 ns A3 c3 loads nodes _ (Kd.C_below HR1.out (thn5 HB5.out HBf.out)) HC1.out (Kd.C_below HR2.out (thn5 HB5.out HBf.out)) HC2.out (Kd.C_below HR3.out (thn5 HB5.out HBf.out)) HC3.out).mono ?_; rintro e wg ⟨rfl, hb⟩; have HBg := Aside0.mk (thn5 HBf.out hb); rw [HCV.out]; clear hb)))
          go_wp2
          go_ret
          exact ⟨rfl, thn5 HB5.out HBg.out⟩
end Go.Proofs.Ytbkamlkmimfomaa
