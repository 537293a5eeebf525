/-
  Regions whose order is drawn: the checks of the second pass, and a step in any order.
  Conditions: none; plain theorems.
-/
import Derived.Test.YtfcebfbdodeecaaGreatDoorEngEo
namespace Go.Eng
open Go Go.RowKit
set_option linter.unusedVariables false
set_option linter.unusedSimpArgs false
theorem edgesB_sound {i : Nat} : ∀ {l : List Edge}, edgesB i l = true → ∀ e ∈ l, bindsB e = true → e.on < i
  | [], h, e, he, hb => by cases he
  | e0 :: l, h, e, he, hb => by
    have h : (cond (bindsB e0) (Nat.blt e0.on i) true && edgesB i l) = true := h
    rw [Bool.and_eq_true] at h
    rcases List.mem_cons.1 he with rfl | he
    · rw [hb] at h
      exact Nat.le_of_ble_eq_true h.1
    · exact edgesB_sound h.2 e he hb
theorem possB_true {rs : List DR} {i m e : Nat} : ∀ {l : List Nat} {q0 : Nat}, (∀ q k, l[q]? = some k → (q0 + q < e → ∀ R, rs[k]? = some R → R.m.testBit i = false) ∧ (e ≤ q0 + q → m.testBit k = false)) → possB rs i m e l q0 = true
  | [], q0, h => rfl
  | k :: l, q0, h => by
    unfold possB
    rw [Bool.and_eq_true]
    refine ⟨?_, possB_true fun q k' hk => by
      have := h (q + 1) k' (by simpa using hk)
      rw [← Nat.add_assoc, Nat.add_right_comm] at this
      exact this⟩
    obtain ⟨h1, h2⟩ := h 0 k rfl
    rw [Nat.add_zero] at h1 h2
    cases hb : Nat.blt q0 e with
    | true =>
      rw [cond_true]
      have := h1 (Nat.le_of_ble_eq_true hb)
      cases hr : rs[k]? with
      | none => rfl
      | some R =>
        dsimp only
        rw [this R hr]
        rfl
    | false =>
      rw [cond_false, h2 (by
        rcases Nat.lt_or_ge q0 e with h' | h'
        · rw [show Nat.blt q0 e = true from Nat.ble_eq_true_of_le h'] at hb
          cases hb
        · exact h')]
      rfl
theorem chkH_sound {P : Program} {S : DS} {o : Oper} {R : DR} {i : Nat} : ∀ {l : List AH} {e0 : Nat}, chkH P S o R i l e0 = true → ∀ k H, l[k]? = some H → possB S.rs i R.m (e0 + k) S.es 0 = true → e0 + k = R.e ∨ ∃ H', opA P R.f o H = some (R.v, H')
  | [], e0, h, k, H, hk, hp => by simp at hk
  | H0 :: l, e0, h, k, H, hk, hp => by
    have h : (cond (possB S.rs i R.m e0 S.es 0) (cond (Nat.beq e0 R.e) true (match opA P R.f o H0 with | some (v, _) => eqV v R.v | none => false)) true && chkH P S o R i l (e0 + 1)) = true := h
    rw [Bool.and_eq_true] at h
    cases k with
    | zero =>
      obtain rfl : H0 = H := Option.some.inj hk
      rw [show e0 + 0 = e0 from rfl] at hp
      rw [hp, cond_true] at h
      cases hb : Nat.beq e0 R.e with
      | true => exact .inl (Nat.eq_of_beq_eq_true hb)
      | false =>
        rw [hb, cond_false] at h
        cases hop : opA P R.f o H0 with
        | none => rw [hop] at h; cases h.1
        | some x =>
          obtain ⟨v, H'⟩ := x
          rw [hop] at h
          exact .inr ⟨H', by rw [eqV_sound h.1]⟩
    | succ k =>
      have := chkH_sound h.2 k H (by simpa using hk) (by rw [show e0 + 1 + k = e0 + (k + 1) by omega]; exact hp)
      rw [show e0 + 1 + k = e0 + (k + 1) by omega] at this
      exact this
theorem chk2_sound {P : Program} {all : List Oper} {a : Fr} {S : DS} : ∀ {l : List Oper} {i : Nat}, chk2 P all a S l i = true → ∀ k o, l[k]? = some o →
    (∀ e ∈ o.after.toList, bindsB e = true → e.on < i + k) ∧ dstB all a (i + k) o.dst = true ∧ ∃ R, S.rs[i + k]? = some R ∧ (R.w = true → isEff o.op = false → chkH P S o R (i + k) S.hs 0 = true)
  | [], i, h, k, o, hk => by simp at hk
  | o0 :: l, i, h, k, o, hk => by
    have h : (edgesB i o0.after.toList && dstB all a i o0.dst && (match S.rs[i]? with | some R => cond R.w (cond (isEff o0.op) true (chkH P S o0 R i S.hs 0)) true | none => false) && chk2 P all a S l (i + 1)) = true := h
    simp only [Bool.and_eq_true] at h
    obtain ⟨⟨⟨h1, h2⟩, h3⟩, h4⟩ := h
    cases k with
    | zero =>
      obtain rfl : o0 = o := Option.some.inj hk
      refine ⟨edgesB_sound h1, h2, ?_⟩
      rw [Nat.add_zero]
      cases hR : S.rs[i]? with
      | none => rw [hR] at h3; cases h3
      | some R =>
        rw [hR] at h3
        refine ⟨R, rfl, fun hw he => ?_⟩
        dsimp only at h3
        rw [hw, he] at h3
        exact h3
    | succ k =>
      have := chk2_sound h4 k o (by simpa using hk)
      rw [show i + 1 + k = i + (k + 1) by omega] at this
      exact this
structure DI (P : Program) (N : Nat → Prop) (all : Array Oper) (a : Fr) (S : DS) (r : Rn) (w0 : World) (D : Array Bool) (s : Rn) (c : Act) (w : World) : Prop where
  size : D.size = all.size
  down : Down all D
  tm : c.tmps.size = a.m
  df : c.defers = []
  don : ∀ (t j : Nat) (R : DR), t < a.m → dstIx t all.toList 0 = some j → D.getD j false = true → S.rs[j]? = some R → VR s R.v (c.tmps.getD t undef)
  und : ∀ (t : Nat), t < a.m → (∀ (j : Nat), dstIx t all.toList 0 = some j → D.getD j false = false) → VR s (slot a t) (c.tmps.getD t undef)
  mem : ∃ (e : Nat) (H : AH), (∀ (q k : Nat), S.es[q]? = some k → (D.getD k false = true ↔ q < e)) ∧ S.hs[e]? = some H ∧ Inv P N s H w
  le : Rn.le r s
  bel : Bel N w0 w
section
variable {P : Program} {N : Nat → Prop} {all : Array Oper} {a : Fr} {S : DS} {r s s' : Rn} {w0 w w' : World} {D : Array Bool} {c : Act} {i : Nat} {o : Oper} {R : DR}
theorem getD_self {D : Array Bool} {i : Nat} (h : i < D.size) : (D.setIfInBounds i true).getD i false = true := by
  simp [h]
theorem getD_both {D : Array Bool} {i : Nat} (h : i < D.size) : D.getD i true = D.getD i false := by
  simp [h]
theorem DI.step (hd : DI P N all a S r w0 D s c w) (hi : all[i]? = some o) (hR : S.rs[i]? = some R) (hpre : ∀ ed ∈ o.after.toList, bindsB ed = true → D.getD ed.on false = true) (hdst : dstB all.toList a i o.dst = true) (hle : Rn.le s s') {v' : Value} (hv : VR s' R.v v')
    (hmem : ∃ (e : Nat) (H : AH), (∀ (q k : Nat), S.es[q]? = some k → ((D.setIfInBounds i true).getD k false = true ↔ q < e)) ∧ S.hs[e]? = some H ∧ Inv P N s' H w') (hb : Bel N w w') : DI P N all a S r w0 (D.setIfInBounds i true) s' (c.put o.dst v') w' := by
  have hil : i < D.size := by rw [hd.size]; exact (Array.getElem?_eq_some_iff.1 hi).1
  have hput : ∀ t, (c.put o.dst v').tmps.getD t undef = (if o.dst = some t ∧ t < a.m then v' else c.tmps.getD t undef) := by
    intro t
    cases hod : o.dst with
    | none => rfl
    | some d =>
      unfold Act.put
      dsimp only
      by_cases e : d = t
      · subst e
        by_cases hdm : d < a.m
        · rw [if_pos ⟨rfl, hdm⟩, Array.getD_eq_getD_getElem?, Array.getElem?_setIfInBounds_self_of_lt (by rw [hd.tm]; exact hdm)]
          rfl
        · rw [if_neg (fun h => hdm h.2)]
          rw [Array.getD_eq_getD_getElem?, Array.getD_eq_getD_getElem?, Array.getElem?_eq_none (by rw [Array.size_setIfInBounds, hd.tm]; exact Nat.le_of_not_lt hdm), Array.getElem?_eq_none (by rw [hd.tm]; exact Nat.le_of_not_lt hdm)]
      · rw [if_neg (fun h => e (Option.some.inj h.1)), Array.getD_eq_getD_getElem?, Array.getD_eq_getD_getElem?, Array.getElem?_setIfInBounds_ne e]
  have hix : ∀ t, o.dst = some t → dstIx t all.toList 0 = some i := by
    intro t ht
    rw [ht] at hdst
    unfold dstB at hdst
    rw [Bool.and_eq_true] at hdst
    cases hx : dstIx t all.toList 0 with
    | none => rw [hx] at hdst; cases hdst.2
    | some j =>
      rw [hx] at hdst
      rw [Nat.eq_of_beq_eq_true hdst.2]
  refine ⟨by rw [Array.size_setIfInBounds]; exact hd.size, fun j oj hj hoj ed hed hbd => ?_, ?_, ?_, fun t j R' ht hj hDj hR' => ?_, fun t ht hno => ?_, hmem, Rn.le_trans hd.le hle, hd.bel.trans hb⟩
  · by_cases e : i = j
    · subst e
      obtain rfl := Option.some.inj (hoj.symm.trans hi)
      exact getD_set_true (hpre ed hed hbd)
    · rw [getD_set_ne false e] at hj
      exact getD_set_true (hd.down j oj hj hoj ed hed hbd)
  · cases o.dst with
    | none => exact hd.tm
    | some d =>
      show (c.tmps.setIfInBounds d v').size = a.m
      rw [Array.size_setIfInBounds]
      exact hd.tm
  · cases o.dst <;> exact hd.df
  · rw [hput]
    by_cases e : i = j
    · subst e
      obtain rfl := Option.some.inj (hR'.symm.trans hR)
      obtain ⟨i', o', e1, e2, e3⟩ := dstIx_some hj
      rw [Nat.zero_add] at e1
      subst e1
      rw [Array.getElem?_toList] at e2
      obtain rfl := Option.some.inj (e2.symm.trans hi)
      rw [if_pos ⟨e3, ht⟩]
      exact hv
    · rw [getD_set_ne false e] at hDj
      rw [if_neg (fun h => e (Option.some.inj ((hix t h.1).symm.trans hj)))]
      exact (hd.don t j R' ht hj hDj hR').mono hle
  · rw [hput]
    by_cases e : o.dst = some t ∧ t < a.m
    · have := hno i (hix t e.1)
      rw [getD_self hil] at this
      cases this
    · rw [if_neg e]
      refine (hd.und t ht fun j hj => ?_).mono hle
      have := hno j hj
      by_cases e2 : i = j
      · subst e2
        rw [getD_self hil] at this
        cases this
      · rw [getD_set_ne false e2] at this
        exact this
/-- The act with the operands' slots alone. -/
def maskC (c : Act) (m : Nat) (l : List Nat) : Act := { tmps := (Array.range m).map fun t => if t ∈ l then c.tmps.getD t undef else undef, defers := [] }
theorem maskC_get (c : Act) (m : Nat) (l : List Nat) (t : Nat) (h : t < m) : (maskC c m l).tmps.getD t undef = if t ∈ l then c.tmps.getD t undef else undef := by
  unfold maskC
  simp [Array.getD_eq_getD_getElem?, h]
theorem DI.frame (hd : DI P N all a S r w0 D s c w) {K : CallF} (ham : a.m ≤ 512) (hF : Fact P K all a S i o R) (hi : all[i]? = some o) (hpre : ∀ ed ∈ o.after.toList, bindsB ed = true → D.getD ed.on false = true) : FrR s R.f (maskC c a.m (Oper.looksAt all o)) := by
  refine ⟨by rw [hF.fm]; simp [maskC], by rw [hF.fm]; exact ham, fun t ht => ?_⟩
  rw [hF.fm] at ht
  rw [maskC_get _ _ _ _ ht]
  by_cases hl : t ∈ Oper.looksAt all o
  · rw [if_pos hl]
    obtain ⟨-, h | ⟨j, R', g1, g2, g3, g4⟩⟩ := hF.inS t hl
    · rw [h.2]
      exact hd.und t ht fun j hj => by rw [h.1] at hj; cases hj
    · rw [g4]
      refine hd.don t j R' ht g1 (pre_in hd.down (hF.mask j g2) fun o' ho' => ?_) g3
      obtain rfl := Option.some.inj (ho'.symm.trans hi)
      exact hpre
  · rw [if_neg hl, hF.out t hl]
    exact undef_VR
end
end Go.Eng
