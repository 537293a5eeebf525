/-
  Exchanges of the three kinds find their queues: the plain law, with no program in sight.
  Conditions: none.
-/
import Derived.Test.YtpmalfabeajepaaDoorPGdx6
namespace Go.Proofs.YtpmalfabeajepaaDoor.Kq
open Go.RowKit Go.Proofs.YtpmalfabeajepaaDoor.PGd Go.Proofs.YtpmalfabeajepaaDoor.PGb Go.Proofs.YtpmalfabeajepaaDoor.PGc Go.Proofs.YtpmalfabeajepaaDoorW.PrintWords Go.Proofs.YtpmalfabeajepaaDoorW.PrintLast Go.Proofs.YtpmalfabeajepaaDoor.PGa Go.Proofs.YtpmalfabeajepaaDoorH Go.Proofs.YtpmalfabeajepaaDoor.Rt
set_option linter.unusedVariables false

abbrev sE : ByteArray := ⟨#[101]⟩
def eB (b : S28) : S28 := ⟨sE, b.f1, b.f2, 0⟩
theorem rd28 (l : List S28) (i : Nat) (h : i < l.length) : rd_T28 l (i : Int) = l[i] := by
  simp [rd_T28, List.getD_eq_getElem?_getD, List.getElem?_eq_getElem h]
theorem rdw (p : List ByteArray) (i : Nat) (h : i < p.length) : rdOf ByteArray.empty p (i : Int) = p[i] := by
  simp [rdOf, List.getD_eq_getElem?_getD, List.getElem?_eq_getElem h]
theorem up1 (i n : Nat) (h : i < n) (hn : n ≤ 1000) : wrap64 ((i : Int) + 1) = ((i + 1 : Nat) : Int) := by
  unfold wrap64
  omega
theorem upL (i : Nat) (h : i < 9223372036854775807) : wrap64 ((i : Int) + 1) = ((i + 1 : Nat) : Int) := by
  unfold wrap64
  omega

/-! ### the bindings are laid anew -/
theorem set_mid (P Q : List S28) (a b : S28) : (P ++ b :: Q).set P.length a = P ++ a :: Q := by
  simp
theorem rd_mid (P Q : List S28) (b : S28) : rd_T28 (P ++ b :: Q) (P.length : Int) = b := by
  simp [rd_T28]
noncomputable def fin (k : Nat) (key : ByteArray) (kd : Int) (x : List S25) (m : List S28) : Option Bool :=
  (carrefourlaw8_Few.f k x m).bind fun t159 => (if t159 = true then (if (key.size : Int) > 100 then (RK.j1 k key kd x m true) else ((route_May.f x m).bind fun t160 => (RK.j1 k key kd x m (!t160)))) else (RK.j1 k key kd x m true))
theorem l7_is (key : ByteArray) (kd : Int) (x : List S25) : ∀ (Q P : List S28) (k : Nat), P.length + Q.length < 9223372036854775807 → RK.l7 (k + Q.length + 1) key kd x (P ++ Q) (P.length : Int) = fin k key kd x (P ++ Q.map eB) := by
  intro Q
  induction Q with
  | nil =>
    intro P k h
    show RK.l7 (k + 1) key kd x (P ++ []) (P.length : Int) = fin k key kd x (P ++ [])
    rw [List.append_nil, RK.l7, if_neg (by omega)]
    rfl
  | cons b Q ih =>
    intro P k h
    rw [List.length_cons] at h
    have hl : (P.length : Int) < ((P ++ b :: Q).length : Int) := by rw [List.length_append, List.length_cons]; omega
    have e0 : ((P.length : Int)).toNat = P.length := Int.toNat_natCast _
    obtain ⟨m, hm⟩ : ∃ m, k + Q.length + 1 = m := ⟨_, rfl⟩
    show RK.l7 (k + Q.length + 1 + 1) key kd x (P ++ b :: Q) (P.length : Int) = _
    rw [hm, RK.l7, if_pos hl, if_pos (by omega)]
    simp only [Option.bind_some]
    rw [e0, rd_mid, set_mid, rd_mid, set_mid, upL _ (by omega)]
    have := ih (P ++ [eB b]) k (by rw [List.length_append, List.length_singleton]; omega)
    rw [List.length_append, List.length_singleton, List.append_assoc, List.singleton_append, hm] at this
    rw [show (P ++ List.map eB (b :: Q)) = P ++ [eB b] ++ List.map eB Q from by simp]
    exact this

/-! ### few -/
theorem few3 (m : List S28) (hm : m.length ≤ 20) : ∀ (d k i : Nat), i + d = m.length → 2 * d < k → ∃ b, carrefourlaw8_Few.l3 k m (i : Int) = some b ∧ (b = true → ∀ j, i ≤ j → (h : j < m.length) → m[j].f2.size ≤ 300) := by
  intro d
  induction d with
  | zero =>
    intro k i hi hk
    obtain ⟨n, rfl⟩ : ∃ n, k = n + 1 := ⟨k - 1, by omega⟩
    exact ⟨true, by rw [carrefourlaw8_Few.l3, if_neg (by omega)], fun _ j hj h => absurd h (by omega)⟩
  | succ d ih =>
    intro k i hi hk
    obtain ⟨n, rfl⟩ : ∃ n, k = n + 1 + 1 := ⟨k - 2, by omega⟩
    have hlt : i < m.length := by omega
    obtain ⟨b, h1, h2⟩ := ih n (i + 1) (by omega) (by omega)
    rw [carrefourlaw8_Few.l3, if_pos (by omega), if_pos (by omega), rd28 m i hlt]
    have jt : carrefourlaw8_Few.j3 (n + 1) m (i : Int) true = some false := by rw [carrefourlaw8_Few.j3, if_pos rfl]
    have jf : carrefourlaw8_Few.j3 (n + 1) m (i : Int) false = some b := by rw [carrefourlaw8_Few.j3, if_neg (by simp), up1 i _ hlt (by omega), h1]
    by_cases c0 : ((m[i].f0.size : Int) > 60)
    · rw [if_pos c0, jt]; exact ⟨false, rfl, fun h => by cases h⟩
    by_cases c1 : ((m[i].f1.size : Int) > 60)
    · rw [if_neg c0, if_pos c1, jt]; exact ⟨false, rfl, fun h => by cases h⟩
    rw [if_neg c0, if_neg c1]
    by_cases c2 : ((m[i].f2.size : Int) > 300)
    · rw [decide_eq_true c2, jt]; exact ⟨false, rfl, fun h => by cases h⟩
    rw [decide_eq_false c2, jf]
    refine ⟨b, rfl, fun hb j hj h => ?_⟩
    rcases Nat.eq_or_lt_of_le hj with rfl | hj
    · omega
    · exact h2 hb j hj h
theorem few_is (kd : Int) (m : List S28) (k : Nat) (hk : 100 ≤ k) : ∃ b, carrefourlaw8_Few.f k [⟨sE, kd⟩] m = some b ∧ (b = true → m.length ≤ 20 ∧ ∀ y ∈ m, y.f2.size ≤ 300) := by
  obtain ⟨n, rfl⟩ : ∃ n, k = n + 1 + 1 + 1 := ⟨k - 3, by omega⟩
  unfold carrefourlaw8_Few.f
  rw [if_neg (by simp)]
  by_cases hm : ((m.length : Int) > 20)
  · rw [decide_eq_true hm, carrefourlaw8_Few.j0, if_pos rfl]
    exact ⟨false, rfl, fun h => by cases h⟩
  · obtain ⟨b, h1, h2⟩ := few3 m (by omega) m.length n 0 (by omega) (by omega)
    refine ⟨b, ?_, fun hb => ⟨by omega, fun y hy => ?_⟩⟩
    · rw [decide_eq_false hm, carrefourlaw8_Few.j0, if_neg (by simp), carrefourlaw8_Few.l2, if_pos (by simp), if_pos (by omega), if_neg (by show ¬ ((sE.size : Nat) : Int) > 60; decide), show wrap64 ((0 : Int) + 1) = 1 from w64 _ (by omega) (by omega), carrefourlaw8_Few.l2, if_neg (by simp)]
      exact h1
    · obtain ⟨j, hj, rfl⟩ := List.mem_iff_getElem.1 hy
      exact h2 hb j (Nat.zero_le _) hj

/-! ### May answers -/
theorem find0 (kd : Int) : idxI (nameIs sE) [(⟨sE, kd⟩ : S25)] = 0 :=
  idxI_at (k := 0) (y := ⟨sE, kd⟩) rfl (beq_iff_eq.2 rfl) (fun x h => by cases h)
theorem mb_is (kd : Int) (b : S28) (h0 : b.f0 = sE) (h2 : b.f2.size ≤ 300) : ∃ c, MB 10 [⟨sE, kd⟩] b = some c := by
  have hf : route_Find.f [⟨sE, kd⟩] b.f0 = some 0 := by
    unfold route_Find.f
    rw [if_pos (by simp), h0, find0]
  have hm : topic_May.f b.f2 = some (mayT b.f2) := if_pos (by omega)
  have hj : ∀ q, ∃ c, PGb.route_mayBinding.j0 10 [⟨sE, kd⟩] 0 q b.f0 b.f1 b.f2 b.f3 = some c := by
    intro q
    rw [PGb.route_mayBinding.j0]
    by_cases c0 : q = true
    · exact ⟨_, if_pos c0⟩
    rw [if_neg c0, if_pos (by omega), if_pos (by simp)]
    by_cases c1 : (rd_T25 [⟨sE, kd⟩] 0).f1 = 4
    · rw [if_pos c1]
      by_cases c2 : b.f3 ≥ 1
      · exact ⟨_, if_pos c2⟩
      · exact ⟨_, if_neg c2⟩
    rw [if_neg c1]
    by_cases c3 : (rd_T25 [⟨sE, kd⟩] 0).f1 = 3
    · rw [if_pos c3]
      by_cases c2 : b.f3 = 0
      · exact ⟨_, by rw [if_pos c2, hm]; rfl⟩
      · exact ⟨_, if_neg c2⟩
    · exact ⟨_, if_neg c3⟩
  show ∃ c, PGb.route_mayBinding.f 10 [⟨sE, kd⟩] b.f0 b.f1 b.f2 b.f3 = some c
  unfold PGb.route_mayBinding.f
  rw [hf]
  simp only [Option.bind_some]
  rw [if_neg (by omega)]
  split
  · exact hj _
  · split
    · exact hj _
    · exact hj _
theorem may_ans (kd : Int) (hk : 1 ≤ kd ∧ kd ≤ 3) (m : List S28) (hm : m.length ≤ 20) (h : ∀ b ∈ m, b.f0 = sE ∧ b.f2.size ≤ 300) : ∃ r, route_May.f [⟨sE, kd⟩] m = some r := by
  have hx : ∀ i, i < [(⟨sE, kd⟩ : S25)].length → ExOk [⟨sE, kd⟩] i := by
    intro i hi
    obtain rfl : i = 0 := by simp at hi; exact hi
    exact ⟨(by decide : 1 ≤ sE.size), (by decide : sE.size ≤ 40), hk.1, by have := hk.2; show kd ≤ 4; omega, find0 kd⟩
  have hs : ∀ n, n ≤ m.length → (∀ j, j < n → BOk 10 [⟨sE, kd⟩] m j) ∨ ∃ i, i < m.length ∧ (∀ j, j < i → BOk 10 [⟨sE, kd⟩] m j) ∧ BNo 10 [⟨sE, kd⟩] m i := by
    intro n
    induction n with
    | zero => exact fun _ => .inl fun j hj => absurd hj (by omega)
    | succ n ih =>
      intro hn
      rcases ih (by omega) with h1 | h1
      · have hl : n < m.length := by omega
        have hb := h m[n] (List.getElem_mem hl)
        obtain ⟨c, hc⟩ := mb_is kd m[n] hb.1 hb.2
        rw [← rd28 m n hl] at hc
        cases c with
        | false => exact .inr ⟨n, hl, h1, .inl hc⟩
        | true =>
          by_cases he : idxI (tMay1 (rd_T28 m n)) m = n
          · exact .inl (upto_snoc h1 ⟨hc, he⟩)
          · exact .inr ⟨n, hl, h1, .inr ⟨hc, he⟩⟩
      · exact .inr h1
  unfold route_May.f
  by_cases c1 : MayR 10 [⟨sE, kd⟩] m true
  · exact ⟨true, if_pos c1⟩
  · rw [if_neg c1]
    refine ⟨false, if_pos ?_⟩
    rcases hs m.length (Nat.le_refl _) with h1 | h1
    · exact absurd (.inl ⟨rfl, by simp, by omega, hx, h1⟩) c1
    · exact .inr ⟨rfl, .inr (.inr (.inr ⟨hx, h1⟩))⟩

/-! ### the queues -/
/-- Whether a binding wants a key. -/
noncomputable def Wn (kd : Int) (key : ByteArray) (b : S28) : Bool := if kd = 1 then (b.f2.toList == key.toList) else if kd = 3 then wantsT b.f2 key else (kd == 2)
noncomputable def stepQ (kd : Int) (key : ByteArray) (out : List ByteArray) (b : S28) : List ByteArray := if (Wn kd key b && !(out.any fun q => b.f1.toList == q.toList)) = true then out ++ [b.f1] else out
noncomputable def Qs (kd : Int) (key : ByteArray) (out : List ByteArray) (bs : List S28) : List ByteArray := bs.foldl (stepQ kd key) out
theorem idx_is (l : List ByteArray) (a : ByteArray) (hl : l.length ≤ 1000) : ∀ (d k i : Nat), i + d = l.length → d < k → ∃ r, slices_Index_string_string.l1 k l a (l.length : Int) (i : Int) = some r ∧ decide (r ≥ 0) = (l.drop i).any fun q => a.toList == q.toList := by
  intro d
  induction d with
  | zero =>
    intro k i hi hk
    obtain ⟨n, rfl⟩ : ∃ n, k = n + 1 := ⟨k - 1, by omega⟩
    refine ⟨-1, by rw [slices_Index_string_string.l1, if_neg (by omega)], ?_⟩
    rw [List.drop_eq_nil_of_le (by omega)]
    rfl
  | succ d ih =>
    intro k i hi hk
    obtain ⟨n, rfl⟩ : ∃ n, k = n + 1 := ⟨k - 1, by omega⟩
    have hlt : i < l.length := by omega
    obtain ⟨r, h1, h2⟩ := ih n (i + 1) (by omega) (by omega)
    rw [slices_Index_string_string.l1, if_pos (by omega), if_pos (by omega), if_pos (by omega), rdw l i hlt, List.drop_eq_getElem_cons hlt, List.any_cons]
    by_cases he : a.toList = l[i].toList
    · exact ⟨i, if_pos he, by rw [beq_iff_eq.2 he]; simp⟩
    · refine ⟨r, by rw [if_neg he, up1 i _ hlt hl, h1], ?_⟩
      rw [h2, beq_eq_false_iff_ne.2 he, Bool.false_or]
theorem contains_is (l : List ByteArray) (a : ByteArray) (hl : l.length ≤ 1000) (k : Nat) (hk : l.length < k) : slices_Contains_string_string.f k l a = some (l.any fun q => a.toList == q.toList) := by
  obtain ⟨r, h1, h2⟩ := idx_is l a hl l.length k 0 (by omega) hk
  unfold slices_Contains_string_string.f slices_Index_string_string.f
  rw [show ((0 : Nat) : Int) = 0 from rfl] at h1
  rw [h1, Option.bind_some, h2]
  rfl
theorem wants_is (kd : Int) (key : ByteArray) (b : S28) (h2 : b.f2.size ≤ 300) (hk : key.size ≤ 100) : route_wants.f kd b.f0 b.f1 b.f2 b.f3 key = some (Wn kd key b) := by
  unfold route_wants.f Wn
  have ht : topic_Match.f b.f2 key = some (wantsT b.f2 key) := if_pos ⟨by omega, by omega⟩
  by_cases c1 : kd = 1
  · rw [if_pos c1, if_pos c1]
  · rw [if_neg c1, if_neg c1]
    by_cases c3 : kd = 3
    · rw [if_pos c3, if_pos c3, ht]; rfl
    · rw [if_neg c3, if_neg c3]
theorem qs_loop (kd : Int) (key : ByteArray) (hk : key.size ≤ 100) (m : List S28) (hm : m.length ≤ 20) (h : ∀ b ∈ m, b.f0 = sE ∧ b.f2.size ≤ 300) : ∀ (d k i : Nat) (out : List ByteArray), i + d = m.length → out.length ≤ i → 2 * d + 40 < k → route_Queues.l500 k m sE key out kd (i : Int) = some (Qs kd key out (m.drop i), 0) := by
  intro d
  induction d with
  | zero =>
    intro k i out hi ho hk
    obtain ⟨n, rfl⟩ : ∃ n, k = n + 1 := ⟨k - 1, by omega⟩
    rw [route_Queues.l500, if_pos (by omega), List.drop_eq_nil_of_le (by omega)]
    rfl
  | succ d ih =>
    intro k i out hi ho hkk
    obtain ⟨n, rfl⟩ : ∃ n, k = n + 1 + 1 := ⟨k - 2, by omega⟩
    have hlt : i < m.length := by omega
    have hb := h m[i] (List.getElem_mem hlt)
    have jt : ∀ a b c e, route_Queues.j1 (n + 1) m sE key out kd (i : Int) true a b c e = some (Qs kd key (out ++ [b]) (m.drop (i + 1)), 0) := by
      intro a b c e
      rw [route_Queues.j1, if_pos rfl, if_pos (by omega), up1 i _ hlt (by omega)]
      exact ih n (i + 1) _ (by omega) (by rw [List.length_append, List.length_singleton]; omega) (by omega)
    have jf : ∀ a b c e, route_Queues.j1 (n + 1) m sE key out kd (i : Int) false a b c e = some (Qs kd key out (m.drop (i + 1)), 0) := by
      intro a b c e
      rw [route_Queues.j1, if_neg (by simp), up1 i _ hlt (by omega)]
      exact ih n (i + 1) _ (by omega) (by omega) (by omega)
    rw [route_Queues.l500, if_neg (by omega), if_pos (by omega), if_pos (by omega), rd28 m i hlt, if_pos (by rw [hb.1]), wants_is kd key _ hb.2 hk, Option.bind_some, contains_is out _ (by omega) _ (by omega), Option.bind_some, List.drop_eq_getElem_cons hlt]
    show _ = some (Qs kd key (stepQ kd key out m[i]) (m.drop (i + 1)), 0)
    unfold stepQ
    cases hw : Wn kd key m[i] with
    | false => rw [if_neg (by simp), if_neg (by simp), jf]
    | true =>
      rw [if_pos rfl]
      cases ha : out.any (fun q => m[i].f1.toList == q.toList) with
      | false => rw [if_pos (by simp)]; exact jt _ _ _ _
      | true => rw [if_neg (by simp)]; exact jf _ _ _ _
def Ap (l : List ByteArray) : Prop := l.Pairwise fun a b => a.toList ≠ b.toList
theorem q_apart (kd : Int) (key : ByteArray) : ∀ (bs : List S28) (out : List ByteArray), Ap out → Ap (Qs kd key out bs) := by
  intro bs
  induction bs with
  | nil => exact fun out h => h
  | cons b bs ih =>
    intro out h
    refine ih _ ?_
    unfold stepQ
    split
    · rename_i hc
      rw [Bool.and_eq_true, Bool.not_eq_true', List.any_eq_false] at hc
      unfold Ap
      rw [List.pairwise_append]
      refine ⟨h, List.pairwise_singleton _ _, fun a ha b' hb' => ?_⟩
      obtain rfl := List.mem_singleton.1 hb'
      exact fun e => hc.2 a ha (beq_iff_eq.2 e.symm)
    · exact h
theorem q_keeps (kd : Int) (key : ByteArray) : ∀ (bs : List S28) (out : List ByteArray) (q : ByteArray), q ∈ out → q ∈ Qs kd key out bs := by
  intro bs
  induction bs with
  | nil => exact fun out q h => h
  | cons b bs ih =>
    intro out q h
    refine ih _ _ ?_
    unfold stepQ
    split
    · exact List.mem_append_left _ h
    · exact h
theorem q_all (kd : Int) (key : ByteArray) : ∀ (bs : List S28) (out : List ByteArray) (b : S28), b ∈ bs → Wn kd key b = true → ∃ q ∈ Qs kd key out bs, q.toList = b.f1.toList := by
  intro bs
  induction bs with
  | nil => exact fun out b h => by cases h
  | cons c bs ih =>
    intro out b h hw
    rcases List.mem_cons.1 h with rfl | h
    · show ∃ q ∈ Qs kd key (stepQ kd key out b) bs, _
      unfold stepQ
      rw [hw, Bool.true_and]
      cases ha : out.any (fun q => b.f1.toList == q.toList) with
      | false =>
        rw [if_pos (by rfl)]
        exact ⟨b.f1, q_keeps _ _ _ _ _ (List.mem_append_right _ (List.mem_singleton.2 rfl)), rfl⟩
      | true =>
        rw [if_neg (by simp)]
        obtain ⟨q, hq, he⟩ := List.any_eq_true.1 ha
        exact ⟨q, q_keeps _ _ _ _ _ hq, (beq_iff_eq.1 he).symm⟩
    · exact ih _ b h hw
theorem q_from (kd : Int) (key : ByteArray) : ∀ (bs : List S28) (out : List ByteArray) (q : ByteArray), q ∈ Qs kd key out bs → q ∈ out ∨ ∃ b ∈ bs, Wn kd key b = true ∧ b.f1 = q := by
  intro bs
  induction bs with
  | nil => exact fun out q h => .inl h
  | cons c bs ih =>
    intro out q h
    rcases ih _ _ h with h | ⟨b, hb, hw, e⟩
    · unfold stepQ at h
      split at h
      · rename_i hc
        rw [Bool.and_eq_true] at hc
        rcases List.mem_append.1 h with h | h
        · exact .inl h
        · exact .inr ⟨c, List.mem_cons_self, hc.1, (List.mem_singleton.1 h).symm⟩
      · exact .inl h
    · exact .inr ⟨b, List.mem_cons_of_mem _ hb, hw, e⟩
theorem q_len (kd : Int) (key : ByteArray) : ∀ (bs : List S28) (out : List ByteArray), (Qs kd key out bs).length ≤ out.length + bs.length := by
  intro bs
  induction bs with
  | nil => exact fun out => Nat.le_refl _
  | cons c bs ih =>
    intro out
    refine Nat.le_trans (ih _) ?_
    have : (stepQ kd key out c).length ≤ out.length + 1 := by
      unfold stepQ
      split
      · rw [List.length_append, List.length_singleton]
        exact Nat.le_refl _
      · omega
    rw [List.length_cons]
    omega

/-! ### the three checks -/
section
variable (key : ByteArray) (kd : Int) (m : List S28) (q : List ByteArray)
theorem l13_is (hk : key.size ≤ 100) (hm : m.length ≤ 20) (h2 : ∀ b ∈ m, b.f2.size ≤ 300) (j : Nat) (hj : j < q.length) : ∀ (d k i : Nat) (b : Bool), i + d = m.length → RK.l13 (k + d + 1) key kd m q (j : Int) b (i : Int) = if (b || (m.drop i).any fun y => decide (y.f1.toList = q[j].toList) && Wn kd key y) = true then RK.l12 k key kd m q (wrap64 ((j : Int) + 1)) else some false := by
  intro d
  induction d with
  | zero =>
    intro k i b hi
    show RK.l13 (k + 1) key kd m q (j : Int) b (i : Int) = _
    rw [RK.l13, if_neg (by omega), List.drop_eq_nil_of_le (by omega), List.any_nil, Bool.or_false]
  | succ d ih =>
    intro k i b hi
    have hlt : i < m.length := by omega
    obtain ⟨n, hn⟩ : ∃ n, k + d + 1 = n := ⟨_, rfl⟩
    show RK.l13 (k + d + 1 + 1) key kd m q (j : Int) b (i : Int) = _
    have ht : topic_Match.f m[i].f2 key = some (wantsT m[i].f2 key) := if_pos ⟨by have := h2 _ (List.getElem_mem hlt); omega, by omega⟩
    have hr : ∀ c, RK.l13 n key kd m q (j : Int) c ((i + 1 : Nat) : Int) = if (c || (m.drop (i + 1)).any fun y => decide (y.f1.toList = q[j].toList) && Wn kd key y) = true then RK.l12 k key kd m q (wrap64 ((j : Int) + 1)) else some false := by
      intro c
      rw [← hn]
      exact ih k (i + 1) c (by omega)
    rw [hn, RK.l13, if_pos (by omega), up1 i _ hlt (by omega), List.drop_eq_getElem_cons hlt, List.any_cons]
    cases b with
    | true => rw [if_pos rfl, hr, Bool.true_or, Bool.true_or]
    | false =>
      rw [if_neg (by simp), if_pos (by omega), if_pos (by omega), if_pos (by omega), rd28 m i hlt, rdw q j hj, Bool.false_or]
      by_cases he : m[i].f1.toList = q[j].toList
      · rw [if_pos he, decide_eq_true he, Bool.true_and]
        by_cases c2 : kd = 2
        · rw [if_pos c2, hr, show Wn kd key m[i] = true from by unfold Wn; rw [if_neg (by omega), if_neg (by omega), beq_iff_eq.2 c2]]
        rw [if_neg c2]
        by_cases c1 : kd = 1
        · rw [if_pos c1]
          by_cases c4 : m[i].f2.toList = key.toList
          · rw [if_pos c4, hr, show Wn kd key m[i] = true from by unfold Wn; rw [if_pos c1, beq_iff_eq.2 c4]]
          · rw [if_neg c4, if_neg (by omega), hr, show Wn kd key m[i] = false from by unfold Wn; rw [if_pos c1, beq_eq_false_iff_ne.2 c4]]
        rw [if_neg c1]
        by_cases c3 : kd = 3
        · rw [if_pos c3, ht, Option.bind_some, hr, show Wn kd key m[i] = wantsT m[i].f2 key from by unfold Wn; rw [if_neg c1, if_pos c3]]
        · rw [if_neg c3, hr, show Wn kd key m[i] = false from by unfold Wn; rw [if_neg c1, if_neg c3, beq_eq_false_iff_ne.2 c2]]
      · rw [if_neg he, decide_eq_false he, hr, Bool.false_and]
theorem l12_is (hk : key.size ≤ 100) (hm : m.length ≤ 20) (h2 : ∀ b ∈ m, b.f2.size ≤ 300) (hq : q.length ≤ 20) (hs : ∀ p ∈ q, ∃ b ∈ m, Wn kd key b = true ∧ b.f1 = p) : ∀ (d k j : Nat), j + d = q.length → 30 * d < k → RK.l12 k key kd m q (j : Int) = some true := by
  intro d
  induction d with
  | zero =>
    intro k j hj hk
    obtain ⟨n, rfl⟩ : ∃ n, k = n + 1 := ⟨k - 1, by omega⟩
    rw [RK.l12, if_neg (by omega)]
    rfl
  | succ d ih =>
    intro k j hj hkk
    obtain ⟨n, rfl⟩ : ∃ n, k = n + m.length + 1 + 1 := ⟨k - m.length - 2, by omega⟩
    have hlt : j < q.length := by omega
    obtain ⟨b, hb, hw, he⟩ := hs q[j] (List.getElem_mem hlt)
    rw [RK.l12, if_pos (by omega), show (0 : Int) = ((0 : Nat) : Int) from rfl, l13_is key kd m q hk hm h2 j hlt m.length n 0 false (by omega), if_pos ?_, up1 j _ hlt (by omega)]
    · exact ih n (j + 1) (by omega) (by omega)
    · rw [Bool.false_or, List.drop_zero, List.any_eq_true]
      exact ⟨b, hb, by rw [hw, he]; simp⟩
theorem l11_is (hq : q.length ≤ 20) (i : Nat) (hi : i < m.length) (wn : Bool) : ∀ (d k j : Nat) (b : Bool), j + d = q.length → RK.l11 (k + d + 1) key kd m q (i : Int) wn b (j : Int) = RK.j7 k key kd m q (i : Int) (wn && !(b || (q.drop j).any fun p => p.toList == m[i].f1.toList)) := by
  intro d
  induction d with
  | zero =>
    intro k j b hj
    show RK.l11 (k + 1) key kd m q (i : Int) wn b (j : Int) = _
    rw [RK.l11, if_neg (by omega), List.drop_eq_nil_of_le (by omega), List.any_nil, Bool.or_false]
    cases wn with
    | true => rw [if_pos rfl, Bool.true_and]
    | false => rw [if_neg (by simp), Bool.false_and]
  | succ d ih =>
    intro k j b hj
    have hlt : j < q.length := by omega
    obtain ⟨n, hn⟩ : ∃ n, k + d + 1 = n := ⟨_, rfl⟩
    show RK.l11 (k + d + 1 + 1) key kd m q (i : Int) wn b (j : Int) = _
    have hr : ∀ c, RK.l11 n key kd m q (i : Int) wn c ((j + 1 : Nat) : Int) = RK.j7 k key kd m q (i : Int) (wn && !(c || (q.drop (j + 1)).any fun p => p.toList == m[i].f1.toList)) := by
      intro c
      rw [← hn]
      exact ih k (j + 1) c (by omega)
    rw [hn, RK.l11, if_pos (by omega), up1 j _ hlt (by omega), List.drop_eq_getElem_cons hlt, List.any_cons]
    cases b with
    | true => rw [if_pos rfl, hr, Bool.true_or, Bool.true_or]
    | false => rw [if_neg (by simp), if_pos (by omega), if_pos (by omega), if_pos (by omega), rdw q j hlt, rd28 m i hi, hr, Bool.false_or]
theorem l10_is (hk : key.size ≤ 100) (hm : m.length ≤ 20) (h2 : ∀ b ∈ m, b.f2.size ≤ 300) (hq : q.length ≤ 20) (hs : ∀ p ∈ q, ∃ b ∈ m, Wn kd key b = true ∧ b.f1 = p) (ha : ∀ b ∈ m, Wn kd key b = true → ∃ p ∈ q, p.toList = b.f1.toList) : ∀ (d k i : Nat), i + d = m.length → 30 * d + 700 < k → RK.l10 k key kd m q (i : Int) = some true := by
  intro d
  induction d with
  | zero =>
    intro k i hi hkk
    obtain ⟨n, rfl⟩ : ∃ n, k = n + 1 := ⟨k - 1, by omega⟩
    rw [RK.l10, if_neg (by omega)]
    exact l12_is key kd m q hk hm h2 hq hs q.length n 0 (by omega) (by omega)
  | succ d ih =>
    intro k i hi hkk
    obtain ⟨n, rfl⟩ : ∃ n, k = n + 1 + q.length + 1 + 1 + 1 := ⟨k - q.length - 4, by omega⟩
    have hlt : i < m.length := by omega
    have ht : topic_Match.f m[i].f2 key = some (wantsT m[i].f2 key) := if_pos ⟨by have := h2 _ (List.getElem_mem hlt); omega, by omega⟩
    have hj : ∀ c, (c = true → Wn kd key m[i] = true) → RK.j5 (n + 1 + q.length + 1 + 1) key kd m q (i : Int) c = some true := by
      intro c hc
      rw [RK.j5, show (0 : Int) = ((0 : Nat) : Int) from rfl, l11_is key kd m q hq i hlt c q.length (n + 1) 0 false (by omega), RK.j7, if_neg ?_, up1 i _ hlt (by omega)]
      · exact ih n (i + 1) (by omega) (by omega)
      · cases c with
        | false => simp
        | true =>
          obtain ⟨p, hp, he⟩ := ha m[i] (List.getElem_mem hlt) (hc rfl)
          have : (q.drop 0).any (fun p => p.toList == m[i].f1.toList) = true := List.any_eq_true.2 ⟨p, hp, beq_iff_eq.2 he⟩
          rw [this]
          simp
    obtain ⟨n5, hn5⟩ : ∃ n5, n + 1 + q.length + 1 + 1 = n5 := ⟨_, rfl⟩
    rw [hn5] at hj ⊢
    rw [RK.l10, if_pos (by omega)]
    by_cases c2 : kd = 2
    · rw [if_pos c2]
      exact hj _ fun _ => by unfold Wn; rw [if_neg (by omega), if_neg (by omega), beq_iff_eq.2 c2]
    rw [if_neg c2]
    by_cases c1 : kd = 1
    · rw [if_pos c1, if_pos (by omega), rd28 m i hlt]
      by_cases c4 : m[i].f2.toList = key.toList
      · rw [if_pos c4]
        exact hj _ fun _ => by unfold Wn; rw [if_pos c1, beq_iff_eq.2 c4]
      · rw [if_neg c4, if_neg (by omega)]
        exact hj _ fun h => by cases h
    rw [if_neg c1]
    by_cases c3 : kd = 3
    · rw [if_pos c3, if_pos (by omega), rd28 m i hlt, ht, Option.bind_some]
      exact hj _ fun h => by unfold Wn; rw [if_neg c1, if_pos c3, h]
    · rw [if_neg c3]
      exact hj _ fun h => by cases h
theorem l9_is (hq : q.length ≤ 20) (hd : Ap q) (i : Nat) (hi : i < q.length) : ∀ (d k j : Nat), j + d = i → RK.l9 (k + d + 1) key kd m q (i : Int) (j : Int) = RK.l8 k key kd m q ((i + 1 : Nat) : Int) := by
  intro d
  induction d with
  | zero =>
    intro k j hj
    show RK.l9 (k + 1) key kd m q (i : Int) (j : Int) = _
    rw [RK.l9, if_neg (by omega), up1 i _ hi (by omega)]
  | succ d ih =>
    intro k j hj
    have hlt : j < q.length := by omega
    have hne : q[j].toList ≠ q[i].toList := List.pairwise_iff_getElem.1 hd j i hlt hi (by omega)
    obtain ⟨n, hn⟩ : ∃ n, k + d + 1 = n := ⟨_, rfl⟩
    show RK.l9 (k + d + 1 + 1) key kd m q (i : Int) (j : Int) = _
    rw [hn, RK.l9, if_pos (by omega), if_pos (by omega), if_pos (by omega), if_pos (by omega), if_pos (by omega), rdw q j hlt, rdw q i hi, if_neg hne, up1 j _ hlt (by omega), ← hn]
    exact ih k (j + 1) (by omega)
theorem l8_is (hk : key.size ≤ 100) (hm : m.length ≤ 20) (h2 : ∀ b ∈ m, b.f2.size ≤ 300) (hq : q.length ≤ 20) (hs : ∀ p ∈ q, ∃ b ∈ m, Wn kd key b = true ∧ b.f1 = p) (ha : ∀ b ∈ m, Wn kd key b = true → ∃ p ∈ q, p.toList = b.f1.toList) (hd : Ap q) : ∀ (d k i : Nat), i + d = q.length → 30 * d + 1400 < k → RK.l8 k key kd m q (i : Int) = some true := by
  intro d
  induction d with
  | zero =>
    intro k i hi hkk
    obtain ⟨n, rfl⟩ : ∃ n, k = n + 1 := ⟨k - 1, by omega⟩
    rw [RK.l8, if_neg (by omega)]
    exact l10_is key kd m q hk hm h2 hq hs ha m.length n 0 (by omega) (by omega)
  | succ d ih =>
    intro k i hi hkk
    obtain ⟨n, rfl⟩ : ∃ n, k = n + i + 1 + 1 := ⟨k - i - 2, by omega⟩
    have hlt : i < q.length := by omega
    rw [RK.l8, if_pos (by omega), show (0 : Int) = ((0 : Nat) : Int) from rfl, l9_is key kd m q hq hd i hlt i n 0 (by omega)]
    exact ih n (i + 1) (by omega) (by omega)
end

/-! ### the law -/
theorem fin_is (key : ByteArray) (kd : Int) (hkd : 1 ≤ kd ∧ kd ≤ 3) (m : List S28) (h0 : ∀ b ∈ m, b.f0 = sE) (k : Nat) (hk : 3000 ≤ k) : fin k key kd [⟨sE, kd⟩] m = some true := by
  have jt : ∀ n, RK.j1 (n + 1) key kd [⟨sE, kd⟩] m true = some true := by
    intro n
    rw [RK.j1, if_pos rfl]
    rfl
  obtain ⟨n, rfl⟩ : ∃ n, k = n + 1 := ⟨k - 1, by omega⟩
  obtain ⟨b, h1, h2⟩ := few_is kd m (n + 1) (by omega)
  unfold fin
  rw [h1, Option.bind_some]
  cases b with
  | false => rw [if_neg (by simp), jt]
  | true =>
    obtain ⟨hm, h3⟩ := h2 rfl
    rw [if_pos rfl]
    by_cases hs : (key.size : Int) > 100
    · rw [if_pos hs, jt]
    have hks : key.size ≤ 100 := by omega
    obtain ⟨r, hr⟩ := may_ans kd hkd m hm fun b hb => ⟨h0 b hb, h3 b hb⟩
    rw [if_neg hs, hr, Option.bind_some]
    cases r with
    | false => exact jt n
    | true =>
      have hq : route_Queues.f n [⟨sE, kd⟩] m sE key = some (Qs kd key [] m, 0) := by
        unfold route_Queues.f
        have hf : route_Find.f [⟨sE, kd⟩] sE = some 0 := by
          unfold route_Find.f
          rw [if_pos (by simp), find0]
        rw [if_neg (by decide +kernel), hf, Option.bind_some, if_pos (by omega), if_pos (by omega), if_pos (by simp), if_neg (by show ¬ kd = 4; omega)]
        exact qs_loop kd key hks m hm (fun b hb => ⟨h0 b hb, h3 b hb⟩) m.length n 0 [] (by omega) (Nat.le_refl _) (by omega)
      show RK.j1 (n + 1) key kd [⟨sE, kd⟩] m false = some true
      rw [RK.j1, if_neg (by simp), hq, Option.bind_some, if_pos rfl]
      have hl : (Qs kd key [] m).length ≤ 20 := Nat.le_trans (q_len kd key m []) (by rw [List.length_nil]; omega)
      exact l8_is key kd m _ hks hm h3 hl (fun p hp => by
        rcases q_from kd key m [] p hp with h | h
        · cases h
        · exact h) (fun b hb hw => q_all kd key m [] b hb hw) (q_apart kd key m [] List.Pairwise.nil) (Qs kd key [] m).length n 0 (by omega) (by omega)
theorem kd_is (a : Int) : ∃ kd : Int, wrap64 (1 + (wrap64 (Int.tmod (IntKind.u64.wrap a) 3))) = kd ∧ 1 ≤ kd ∧ kd ≤ 3 := by
  have h0 : 0 ≤ IntKind.u64.wrap a := by
    show 0 ≤ a % _
    exact Int.emod_nonneg _ (by decide)
  obtain ⟨u, hu⟩ : ∃ u : Nat, IntKind.u64.wrap a = u := ⟨(IntKind.u64.wrap a).toNat, by omega⟩
  rw [hu]
  have : Int.tmod (u : Int) 3 = ((u % 3 : Nat) : Int) := rfl
  rw [this]
  have h3 : u % 3 < 3 := Nat.mod_lt _ (by decide)
  refine ⟨1 + ((u % 3 : Nat) : Int), ?_, by omega, by omega⟩
  unfold wrap64
  omega
theorem kinds_hold (l0 : List S28) (a1 : Int) (a2 : ByteArray) (hl : l0.length * 56 ≤ 140737488351232) : ∃ k, RK.f k l0 a1 a2 = some true := by
  obtain ⟨kd, hk, hkd⟩ := kd_is a1
  refine ⟨3000 + l0.length + 1, ?_⟩
  unfold RK.f
  rw [Option.bind_some, if_pos (by rw [List.length_nil]; omega), hk]
  have := l7_is a2 kd [⟨sE, kd⟩] l0 [] 3000 (by rw [List.length_nil]; omega)
  refine Eq.trans this ?_
  rw [List.nil_append]
  exact fin_is a2 kd hkd _ (fun b hb => by obtain ⟨c, _, rfl⟩ := List.mem_map.1 hb; rfl) 3000 (by omega)
end Go.Proofs.YtpmalfabeajepaaDoor.Kq
