/-
  Regions whose order is drawn: in every order our machine's answer.
  Conditions: none; plain theorems.
-/
import Derived.Test.YtfcebfbdodeecaaGreatDoorEngEp
namespace Go.Eng
open Go Go.RowKit
set_option linter.unusedVariables false
set_option linter.unusedSimpArgs false
theorem slot_put {a : Fr} {d t : Nat} {v : Value} (ham : a.m ≤ 512) (ht : t < a.m) : slot (putD a (some d) v) t = if d = t then v else slot a t := by
  unfold putD
  dsimp only
  cases hb : Nat.blt d a.m with
  | false =>
    rw [cond_false, if_neg (fun e => by rw [e, show Nat.blt t a.m = true from Nat.ble_eq_true_of_le ht] at hb; cases hb)]
  | true =>
    have hd : d < a.m := Nat.le_of_ble_eq_true hb
    rw [cond_true]
    unfold slot
    dsimp only
    rw [show Nat.blt t a.m = true from Nat.ble_eq_true_of_le ht, cond_true, cond_true]
    by_cases e : d = t
    · subst e
      rw [if_pos rfl, get_set_eq]
    · rw [if_neg e, get_set_ne _ _ _ _ _ (by show d < 2 ^ 9; omega) (by show t < 2 ^ 9; omega) e]
theorem putD_m (a : Fr) (d : Option Nat) (v : Value) : (putD a d v).m = a.m := by
  cases d with
  | none => rfl
  | some d =>
    unfold putD
    dsimp only
    cases Nat.blt d a.m <;> rfl
theorem finD_m : ∀ (l : List Oper) (rs : List DR) (a : Fr), (finD l rs a).m = a.m
  | [], [], _ => rfl
  | [], _ :: _, _ => rfl
  | _ :: _, [], _ => rfl
  | o :: l, R :: rs, a => by
    show (finD l rs (putD a o.dst R.v)).m = a.m
    rw [finD_m, putD_m]
theorem finD_slot {t : Nat} : ∀ (l : List Oper) (rs : List DR) (k : Nat) (a : Fr), t < a.m → a.m ≤ 512 → l.length = rs.length → (∀ i o, l[i]? = some o → o.dst = some t → dstIx t l k = some (k + i)) →
    (∀ j R, dstIx t l k = some j → rs[j - k]? = some R → slot (finD l rs a) t = R.v) ∧ (dstIx t l k = none → slot (finD l rs a) t = slot a t)
  | [], [], k, a, ht, ham, hl, hu => ⟨fun j R h => (by cases h), fun _ => rfl⟩
  | [], _ :: _, k, a, ht, ham, hl, hu => by cases hl
  | _ :: _, [], k, a, ht, ham, hl, hu => by cases hl
  | o :: l, R :: rs, k, a, ht, ham, hl, hu => by
    have hm := putD_m a o.dst R.v
    have hlen : l.length = rs.length := Nat.succ.inj hl
    by_cases hd : o.dst = some t
    · have h0 := hu 0 o rfl hd
      have hno : ∀ (i : Nat) (o' : Oper), l[i]? = some o' → o'.dst = some t → False := fun i o' h1 h2 => by
        have h3 := hu (i + 1) o' (by simpa using h1) h2
        have := Option.some.inj (h0.symm.trans h3)
        omega
      have hn : dstIx t l (k + 1) = none := by
        cases hx : dstIx t l (k + 1) with
        | none => rfl
        | some j =>
          obtain ⟨i, o', -, h2, h3⟩ := dstIx_some hx
          exact (hno i o' h2 h3).elim
      have ih := (finD_slot l rs (k + 1) (putD a o.dst R.v) (by rw [hm]; exact ht) (by rw [hm]; exact ham) hlen (fun i o' h1 h2 => (hno i o' h1 h2).elim)).2 hn
      have e : slot (finD (o :: l) (R :: rs) a) t = R.v := by
        show slot (finD l rs (putD a o.dst R.v)) t = _
        rw [ih, hd, slot_put ham ht, if_pos rfl]
      refine ⟨fun j R' h1 h2 => ?_, fun h => ?_⟩
      · obtain rfl := Option.some.inj (h0.symm.trans h1)
        rw [show k + 0 - k = 0 by omega] at h2
        rw [e, ← Option.some.inj h2]
      · rw [h] at h0
        cases h0
    · have hx : dstIx t (o :: l) k = dstIx t l (k + 1) := by
        show (match o.dst with | some d => cond (Nat.beq d t) (some k) (dstIx t l (k + 1)) | none => dstIx t l (k + 1)) = _
        cases hod : o.dst with
        | none => rfl
        | some d =>
          dsimp only
          cases hb : Nat.beq d t with
          | false => rfl
          | true => exact absurd (by rw [hod, Nat.eq_of_beq_eq_true hb]) hd
      have ih := finD_slot l rs (k + 1) (putD a o.dst R.v) (by rw [hm]; exact ht) (by rw [hm]; exact ham) hlen (fun i o' h1 h2 => by
        have := hu (i + 1) o' (by simpa using h1) h2
        rw [hx] at this
        rw [this]
        congr 1
        omega)
      have e : slot (putD a o.dst R.v) t = slot a t := by
        cases hod : o.dst with
        | none => rfl
        | some d => rw [slot_put ham ht, if_neg (fun e => hd (by rw [hod, e]))]
      refine ⟨fun j R' h1 h2 => ?_, fun h => ?_⟩
      · rw [hx] at h1
        obtain ⟨i, o', rfl, h3, h4⟩ := dstIx_some h1
        refine ih.1 _ R' h1 ?_
        rw [show k + 1 + i - k = i + 1 by omega] at h2
        rw [show k + 1 + i - (k + 1) = i by omega]
        simpa using h2
      · rw [hx] at h
        show slot (finD l rs (putD a o.dst R.v)) t = _
        rw [ih.2 h, e]
section
variable {P : Program} {K : CallF} {N : Nat → Prop} {all : Array Oper} {a : Fr} {S : DS} {r s : Rn} {w0 w : World} {D : Array Bool} {c : Act} {H0 Hf : AH} {Q : Exit → Act → World → Prop}
theorem any_end (ham : a.m ≤ 512) (hD : DF P K all a H0 S all.size) (hc : chk2 P all.toList a S all.toList 0 = true) (hf : S.hs.getLast? = some Hf) (hq : ∀ s c w, Rn.le r s → AF s (finD all.toList S.rs a) c → Inv P N s Hf w → Bel N w0 w → Q .normal c w)
    (hd : DI P N all a S r w0 D s c w) (hall : ∀ i, i < all.size → D.getD i false = true) : Q .normal c w := by
  obtain ⟨e, H, he1, he2, hI⟩ := hd.mem
  have hen : e = S.es.length := by
    have h1 := (List.getElem?_eq_some_iff.1 he2).1
    rw [hD.hl] at h1
    rcases Nat.lt_or_ge e S.es.length with h | h
    · have hk : S.es[e]? = some S.es[e] := List.getElem?_eq_getElem h
      obtain ⟨R, o, -, ho, -⟩ := hD.el e _ hk
      have := (he1 e _ hk).1 (hall _ (Array.getElem?_eq_some_iff.1 ho).1)
      omega
    · omega
  have hHf : H = Hf := by
    rw [List.getLast?_eq_getElem?, hD.hl, Nat.add_sub_cancel, ← hen, he2] at hf
    exact Option.some.inj hf
  subst hHf
  refine hq s c w hd.le ⟨⟨by rw [finD_m]; exact hd.tm, by rw [finD_m]; exact ham, fun t ht => ?_⟩, hd.df⟩ hI hd.bel
  rw [finD_m] at ht
  have hu : ∀ i o, all.toList[i]? = some o → o.dst = some t → dstIx t all.toList 0 = some (0 + i) := fun i o h1 h2 => by
    obtain ⟨-, h3, -⟩ := chk2_sound hc i o h1
    rw [h2] at h3
    unfold dstB at h3
    rw [Bool.and_eq_true] at h3
    cases hx : dstIx t all.toList 0 with
    | none => rw [hx] at h3; cases h3.2
    | some j =>
      rw [hx] at h3
      rw [Nat.eq_of_beq_eq_true h3.2]
  obtain ⟨f1, f2⟩ := finD_slot all.toList S.rs 0 a ht ham (by rw [Array.length_toList, hD.len]) hu
  cases hx : dstIx t all.toList 0 with
  | none =>
    rw [f2 hx]
    exact hd.und t ht fun j hj => by rw [hx] at hj; cases hj
  | some j =>
    obtain ⟨i, o, rfl, h2, h3⟩ := dstIx_some hx
    have hjl : 0 + i < all.size := by
      rw [Nat.zero_add, ← Array.length_toList]
      exact (List.getElem?_eq_some_iff.1 h2).1
    have hR : S.rs[0 + i]? = some (S.rs[0 + i]'(by rw [hD.len]; exact hjl)) := List.getElem?_eq_getElem _
    rw [f1 _ _ hx (by rw [Nat.sub_zero]; exact hR)]
    exact hd.don t _ _ ht hx (hall _ hjl) hR
theorem ready_nil (hc : chk2 P all.toList a S all.toList 0 = true) (hsz : D.size = all.size) (h : Region.ready .any all D = []) : ∀ i, i < all.size → D.getD i false = true := by
  intro i
  induction i using Nat.strongRecOn with
  | _ i ih =>
    intro hi
    cases hx : D.getD i false with
    | true => rfl
    | false =>
      have ho : all[i]? = some all[i] := Array.getElem?_eq_getElem hi
      have : i ∈ Region.ready .any all D := by
        rw [mem_ready]
        refine ⟨by rw [getD_both (by rw [hsz]; exact hi)]; exact hx, all[i], ho, fun e he hb => ?_⟩
        have := (chk2_sound hc i all[i] (by rw [Array.getElem?_toList]; exact ho)).1 e (Array.mem_toList_iff.2 he) (by rw [binds_eq]; exact hb)
        rw [Nat.zero_add] at this
        exact ih _ this (Nat.lt_trans this hi)
      rw [h] at this
      cases this
theorem countP_lt {p q : Nat → Bool} {i : Nat} : ∀ {l : List Nat}, (∀ x, q x = true → p x = true) → i ∈ l → p i = true → q i = false → l.countP q < l.countP p
  | x :: l, h, hi, hp, hq => by
    have hle : l.countP q ≤ l.countP p := List.countP_mono_left fun x _ => h x
    rw [List.countP_cons, List.countP_cons]
    by_cases e : i = x
    · subst e
      rw [hp, hq]
      simp
      omega
    · have := countP_lt (l := l) h (by
        rcases List.mem_cons.1 hi with h' | h'
        · exact absurd h' e
        · exact h') hp hq
      cases hqx : q x with
      | false => cases p x <;> simp <;> omega
      | true => rw [h x hqx]; simp; omega
  | [], _, hi, _, _ => by cases hi
end
end Go.Eng
