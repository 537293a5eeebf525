/-
  Regions whose order is drawn: the facts of the first pass.
  Conditions: none; plain theorems.
-/
import Derived.Test.YtfcebfbdodeecaaGreatDoorEngEn
namespace Go.Eng
open Go Go.RowKit
set_option linter.unusedVariables false
set_option linter.unusedSimpArgs false
structure Fact (P : Program) (K : CallF) (all : Array Oper) (a : Fr) (S : DS) (i : Nat) (o : Oper) (R : DR) : Prop where
  fm : R.f.m = a.m
  inS : ∀ s, s ∈ Oper.looksAt all o → s < a.m ∧ ((dstIx s all.toList 0 = none ∧ slot R.f s = slot a s) ∨ ∃ j R', dstIx s all.toList 0 = some j ∧ R.m.testBit j = true ∧ S.rs[j]? = some R' ∧ slot R.f s = R'.v)
  out : ∀ s, s ∉ Oper.looksAt all o → slot R.f s = undef
  mask : ∀ j, R.m.testBit j = true → Pre all i j
  want : wantA all.toList R.f o = R.w
  unw : R.w = false → R.v = undef
  eff : R.w = true → isEff o.op = true → ∃ q H H', S.es[q]? = some i ∧ S.hs[q]? = some H ∧ S.hs[q + 1]? = some H' ∧ stepO P K R.f o H = .ok R.v H' ∧ ∀ k, q = k + 1 → ∃ j, S.es[k]? = some j ∧ R.m.testBit j = true
  qui : R.w = true → isEff o.op = false → ∃ H H', S.hs[R.e]? = some H ∧ opA P R.f o H = some (R.v, H')
structure DF (P : Program) (K : CallF) (all : Array Oper) (a : Fr) (H0 : AH) (S : DS) (n : Nat) : Prop where
  len : S.rs.length = n
  fact : ∀ (i : Nat) (o : Oper) (R : DR), all[i]? = some o → S.rs[i]? = some R → Fact P K all a S i o R
  hl : S.hs.length = S.es.length + 1
  h0 : S.hs[0]? = some H0
  el : ∀ (q i : Nat), S.es[q]? = some i → ∃ (R : DR) (o : Oper), S.rs[i]? = some R ∧ all[i]? = some o ∧ R.w = true ∧ isEff o.op = true
  inj : ∀ (q q' i : Nat), S.es[q]? = some i → S.es[q']? = some i → q = q'
theorem get_app {α : Type} {l : List α} {i : Nat} {x : α} (h : l[i]? = some x) (m : List α) : (l ++ m)[i]? = some x := by
  rw [List.getElem?_append_left (List.getElem?_eq_some_iff.1 h).1]
  exact h
theorem get_app_one {α : Type} {l : List α} {i : Nat} {x y : α} (h : (l ++ [y])[i]? = some x) : l[i]? = some x ∨ i = l.length ∧ x = y := by
  rcases Nat.lt_trichotomy i l.length with h' | h' | h'
  · rw [List.getElem?_append_left h'] at h
    exact .inl h
  · subst h'
    rw [List.getElem?_append_right (Nat.le_refl _), Nat.sub_self] at h
    exact .inr ⟨rfl, (Option.some.inj h).symm⟩
  · have := (List.getElem?_eq_some_iff.1 h).1
    rw [List.length_append, List.length_singleton] at this
    omega
theorem get_last {α : Type} (l : List α) (y : α) : (l ++ [y])[l.length]? = some y := by
  rw [List.getElem?_append_right (Nat.le_refl _), Nat.sub_self]
  rfl
section
variable {P : Program} {K : CallF} {all : Array Oper} {a : Fr} {H0 : AH} {S S' : DS} {n : Nat}
theorem Fact.ext (hrs : ∀ (i : Nat) (R : DR), S.rs[i]? = some R → S'.rs[i]? = some R) (hes : ∀ (i k : Nat), S.es[i]? = some k → S'.es[i]? = some k) (hhs : ∀ (i : Nat) (H : AH), S.hs[i]? = some H → S'.hs[i]? = some H) {i : Nat} {o : Oper} {R : DR} (h : Fact P K all a S i o R) : Fact P K all a S' i o R := by
  refine ⟨h.fm, fun s hs => ?_, h.out, h.mask, h.want, h.unw, fun hw he => ?_, fun hw he => (h.qui hw he).elim fun H g => g.elim fun H' g => ⟨H, H', hhs _ _ g.1, g.2⟩⟩
  · obtain ⟨h1, h2⟩ := h.inS s hs
    refine ⟨h1, ?_⟩
    rcases h2 with h2 | ⟨j, R', g1, g2, g3, g4⟩
    · exact .inl h2
    · exact .inr ⟨j, R', g1, g2, hrs _ _ g3, g4⟩
  · obtain ⟨q, H, H', g1, g2, g3, g4, g5⟩ := h.eff hw he
    exact ⟨q, H, H', hes _ _ g1, hhs _ _ g2, hhs _ _ g3, g4, fun k hk => (g5 k hk).elim fun j hj => ⟨j, hes _ _ hj.1, hj.2⟩⟩
theorem DF.push (hS : DF P K all a H0 S n) {o : Oper} (ho : all[n]? = some o) {R : DR} {es : List Nat} {hs : List AH}
    (hcase : (es = S.es ∧ hs = S.hs ∧ (R.w = true → isEff o.op = false)) ∨ ∃ H H', es = S.es ++ [n] ∧ hs = S.hs ++ [H'] ∧ S.hs.getLast? = some H ∧ R.w = true ∧ isEff o.op = true ∧ stepO P K R.f o H = .ok R.v H' ∧ chainB S.es R.m = true)
    (hfm : R.f.m = a.m) (hin : (∀ s, s ∈ Oper.looksAt all o → s < a.m ∧ ((dstIx s all.toList 0 = none ∧ slot R.f s = slot a s) ∨ ∃ j R', dstIx s all.toList 0 = some j ∧ R.m.testBit j = true ∧ S.rs[j]? = some R' ∧ slot R.f s = R'.v)) ∧ ∀ s, s ∉ Oper.looksAt all o → slot R.f s = undef)
    (hm : R.m = maskE S.rs o.after.toList) (hw : wantA all.toList R.f o = R.w) (hu : R.w = false → R.v = undef) (hqui : R.w = true → isEff o.op = false → ∃ H H', S.hs[R.e]? = some H ∧ opA P R.f o H = some (R.v, H')) : DF P K all a H0 ⟨S.rs ++ [R], es, hs⟩ (n + 1) := by
  have xrs : ∀ (i : Nat) (R' : DR), S.rs[i]? = some R' → (S.rs ++ [R])[i]? = some R' := fun i R' h => get_app h _
  have xes : ∀ (i k : Nat), S.es[i]? = some k → es[i]? = some k := fun i k h => by
    rcases hcase with ⟨rfl, -, -⟩ | ⟨H, H', rfl, -⟩
    · exact h
    · exact get_app h _
  have xhs : ∀ (i : Nat) (H : AH), S.hs[i]? = some H → hs[i]? = some H := fun i k h => by
    rcases hcase with ⟨-, rfl, -⟩ | ⟨H, H', -, rfl, -⟩
    · exact h
    · exact get_app h _
  have hnew : Fact P K all a ⟨S.rs ++ [R], es, hs⟩ n o R := by
    refine ⟨hfm, fun s hs => ?_, hin.2, ?_, hw, hu, fun h1 h2 => ?_, fun h1 h2 => (hqui h1 h2).elim fun H g => g.elim fun H' g => ⟨H, H', xhs _ _ g.1, g.2⟩⟩
    · obtain ⟨h1, h2⟩ := hin.1 s hs
      refine ⟨h1, ?_⟩
      rcases h2 with h2 | ⟨j, R', g1, g2, g3, g4⟩
      · exact .inl h2
      · exact .inr ⟨j, R', g1, g2, xrs _ _ g3, g4⟩
    · rw [hm]
      refine fun j => mask_sound (rs := S.rs) (fun k R' hk j hj => ?_) ho (fun e he => he)
      have hkl := (List.getElem?_eq_some_iff.1 hk).1
      have hnl : n < all.size := (Array.getElem?_eq_some_iff.1 ho).1
      have hkl2 : k < all.size := by
        have := hS.len
        omega
      have hka : all[k]? = some all[k] := Array.getElem?_eq_getElem hkl2
      exact (hS.fact k _ R' hka hk).mask j hj
    · rcases hcase with ⟨-, -, h3⟩ | ⟨H, H', rfl, rfl, g1, g2, g3, g4, g5⟩
      · rw [h3 h1] at h2
        cases h2
      · rw [List.getLast?_eq_getElem?] at g1
        have hl := hS.hl
        rw [hl, Nat.add_sub_cancel] at g1
        refine ⟨S.es.length, H, H', get_last _ _, get_app g1 _, ?_, g4, fun k hk => ?_⟩
        · show (S.hs ++ [H'])[S.es.length + 1]? = _
          rw [← hl]
          exact get_last _ _
        · unfold chainB at g5
          rw [List.getLast?_eq_getElem?, hk, Nat.add_sub_cancel] at g5
          cases hj : S.es[k]? with
          | none =>
            have := List.getElem?_eq_none_iff.1 hj
            omega
          | some j =>
            rw [hj] at g5
            exact ⟨j, get_app hj _, g5⟩
  refine ⟨by rw [List.length_append, hS.len]; rfl, fun i o' R' hi hR => ?_, ?_, xhs _ _ hS.h0, fun q i hq => ?_, fun q q' i h1 h2 => ?_⟩
  · rcases get_app_one hR with hR | ⟨rfl, rfl⟩
    · exact (hS.fact i o' R' hi hR).ext xrs xes xhs
    · rw [hS.len] at hi ⊢
      obtain rfl := Option.some.inj (hi.symm.trans ho)
      exact hnew
  · rcases hcase with ⟨rfl, rfl, -⟩ | ⟨H, H', rfl, rfl, -⟩
    · exact hS.hl
    · show (S.hs ++ [H']).length = (S.es ++ [n]).length + 1
      rw [List.length_append, List.length_append, hS.hl]
      rfl
  · rcases hcase with ⟨rfl, -, -⟩ | ⟨H, H', rfl, -, -, g2, g3, -⟩
    · obtain ⟨R', o', k1, k2⟩ := hS.el q i hq
      exact ⟨R', o', xrs _ _ k1, k2⟩
    · rcases get_app_one hq with hq | ⟨-, rfl⟩
      · obtain ⟨R', o', k1, k2⟩ := hS.el q i hq
        exact ⟨R', o', xrs _ _ k1, k2⟩
      · refine ⟨R, o, ?_, ho, g2, g3⟩
        have := get_last S.rs R
        rw [hS.len] at this
        exact this
  · rcases hcase with ⟨rfl, -, -⟩ | ⟨H, H', rfl, -, -, g2, g3, -⟩
    · exact hS.inj q q' i h1 h2
    · have hlt : ∀ q, S.es[q]? = some n → False := fun q hq => by
        obtain ⟨R', o', k1, -⟩ := hS.el q n hq
        have := (List.getElem?_eq_some_iff.1 k1).1
        rw [hS.len] at this
        omega
      rcases get_app_one h1 with k1 | ⟨e1, e4⟩ <;> rcases get_app_one h2 with k2 | ⟨e2, e3⟩
      · exact hS.inj q q' i k1 k2
      · rw [e3] at k1
        exact (hlt q k1).elim
      · rw [e4] at k2
        exact (hlt q' k2).elim
      · rw [e1, e2]
theorem d1_sound (ham : a.m ≤ 512) : ∀ {l : List Oper} {n : Nat} {S S' : DS}, l = all.toList.drop n → DF P K all a H0 S n → n ≤ all.size → d1 P K all a l n S = some S' → DF P K all a H0 S' all.size
  | [], n, S, S', hl, hS, hn, h => by
    obtain rfl := Option.some.inj h
    have := congrArg List.length hl
    have e : n = all.size := by
      simp at this
      omega
    exact e ▸ hS
  | o :: l, n, S, S', hl, hS, hn, h => by
    have hlt : n < all.size := by
      have := congrArg List.length hl
      simp at this
      omega
    have ho : all[n]? = some o := by
      have : (o :: l)[0]? = (all.toList.drop n)[0]? := by rw [hl]
      rw [List.getElem?_drop, Nat.add_zero, Array.getElem?_toList (xs := all)] at this
      exact this.symm
    have hl' : l = all.toList.drop (n + 1) := by
      have := congrArg List.tail hl
      rw [List.tail_cons, List.tail_drop] at this
      exact this
    unfold d1 at h
    cases ht : maskT all.toList a S.rs (maskE S.rs o.after.toList) (Oper.looksAt all o) with
    | none => rw [ht] at h; cases h
    | some t =>
      rw [ht] at h
      dsimp only at h
      have hin := maskT_sound ham ht
      cases hw : wantA all.toList ⟨a.m, t⟩ o with
      | false =>
        rw [hw, cond_false] at h
        exact d1_sound ham hl' (hS.push ho (R := ⟨⟨a.m, t⟩, false, undef, maskE S.rs o.after.toList, S.es.length⟩) (.inl ⟨rfl, rfl, fun h => by cases h⟩) rfl hin rfl hw (fun _ => rfl) (fun h => by cases h)) hlt h
      | true =>
        rw [hw, cond_true] at h
        cases hg : S.hs.getLast? with
        | none => rw [hg] at h; cases h
        | some H =>
          rw [hg] at h
          dsimp only at h
          cases he : isEff o.op with
          | true =>
            rw [he, cond_true] at h
            cases hc : chainB S.es (maskE S.rs o.after.toList) with
            | false => rw [hc] at h; cases h
            | true =>
              rw [hc, cond_true] at h
              cases hst : stepO P K ⟨a.m, t⟩ o H with
              | bad l' => rw [hst] at h; cases h
              | ok v H' =>
                rw [hst] at h
                exact d1_sound ham hl' (hS.push ho (R := ⟨⟨a.m, t⟩, true, v, maskE S.rs o.after.toList, S.es.length⟩) (.inr ⟨H, H', rfl, rfl, hg, rfl, he, hst, hc⟩) rfl hin rfl hw (fun h => by cases h) (fun _ h2 => by rw [he] at h2; cases h2)) hlt h
          | false =>
            rw [he, cond_false] at h
            cases hop : opA P ⟨a.m, t⟩ o H with
            | none => rw [hop] at h; cases h
            | some x =>
              obtain ⟨v, H'⟩ := x
              rw [hop] at h
              exact d1_sound ham hl' (hS.push ho (R := ⟨⟨a.m, t⟩, true, v, maskE S.rs o.after.toList, S.es.length⟩) (.inl ⟨rfl, rfl, fun _ => he⟩) rfl hin rfl hw (fun h => by cases h) (fun _ _ => ⟨H, H', by rw [List.getLast?_eq_getElem?, hS.hl, Nat.add_sub_cancel] at hg; exact hg, hop⟩)) hlt h
theorem DF.start : DF P K all a H0 ⟨[], [], [H0]⟩ 0 :=
  ⟨rfl, fun i o R _ h => (by cases h), rfl, rfl, fun q i h => (by cases h), fun q q' i h => (by cases h)⟩
end
end Go.Eng
