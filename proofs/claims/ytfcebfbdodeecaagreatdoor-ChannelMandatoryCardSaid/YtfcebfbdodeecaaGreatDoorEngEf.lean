/-
  Our machine's operations, further: maps.
  Conditions: none; plain theorems.
-/
import Derived.Test.YtfcebfbdodeecaaGreatDoorEngEe
import Derived.MapKept
namespace Go.Eng
open Go Go.RowKit
set_option linter.unusedVariables false
set_option linter.unusedSimpArgs false
theorem keyEq_sound {d : TypeDesc} {k k' : Value} {b : Bool} (hk : isKeyB (some d) k = true) (h : keyEq k k' = some b) : Instr.sameNow d k k' = some b ∧ (b = true → k' = k) := by
  cases d <;> cases k <;> try (cases hk; done)
  case bool.bool x =>
    cases k' <;> try (cases h; done)
    case bool y =>
      obtain rfl := Option.some.inj h
      exact ⟨rfl, fun e => by rw [eq_of_beq e]⟩
  case int.int j j1 x =>
    cases k' <;> try (cases h; done)
    case int j2 y =>
      have h : (if j1 = j2 then some (decide (x = y)) else none) = some b := h
      by_cases e : j1 = j2
      · rw [if_pos e] at h
        obtain rfl := Option.some.inj h
        subst e
        refine ⟨by simp [Instr.sameNow]; by_cases e : x = y <;> simp [e], fun e => by rw [of_decide_eq_true e]⟩
      · rw [if_neg e] at h
        cases h
  case string.string x =>
    cases k' <;> try (cases h; done)
    case string y =>
      obtain rfl := Option.some.inj h
      exact ⟨rfl, fun e => by rw [(MapKept.bytes_beq _ _).1 e]⟩
theorem isKey_of {d : TypeDesc} {k : Value} (hk : isKeyB (some d) k = true) : MapKept.IsKey d k := by
  cases d <;> cases k <;> first | (cases hk; done) | trivial | (show _ = _; exact of_decide_eq_true (by exact hk))
theorem find_sound {r : Rn} {d : TypeDesc} {k : Value} (hk : isKeyB (some d) k = true) : ∀ {es : List (Value × Value)} {l : List MapEntry} {x : Option Value} (n : Nat), ER r es l → findE k es = some x →
    (x = none ∧ Instr.findNow d k l n = some none) ∨ ∃ (v : Value) (j : Nat) (e : MapEntry), x = some v ∧ Instr.findNow d k l n = some (some (n + j, e.val)) ∧ VR r v e.val
  | _, _, x, n, .nil, h => .inl ⟨by unfold findE at h; exact (Option.some.inj h).symm, rfl⟩
  | _, _, x, n, .cons k' v e es l hke hp hv hl, h => by
    unfold findE at h
    cases hq : keyEq k k' with
    | none => rw [hq] at h; cases h
    | some b =>
      rw [hq] at h
      obtain ⟨g1, g2⟩ := keyEq_sound hk hq
      rw [← hke] at g1
      cases b with
      | true =>
        dsimp only at h
        exact .inr ⟨v, 0, e, (Option.some.inj h).symm, by simp [Instr.findNow, g1], hv⟩
      | false =>
        dsimp only at h
        rcases find_sound hk (n + 1) hl h with ⟨q1, q2⟩ | ⟨v1, j, e1, q1, q2, q3⟩
        · exact .inl ⟨q1, by simp [Instr.findNow, g1, q2]⟩
        · exact .inr ⟨v1, j + 1, e1, q1, by simp [Instr.findNow, g1, q2]; omega, q3⟩
theorem put_sound {r : Rn} {d : TypeDesc} {k : Value} (hk : isKeyB (some d) k = true) (hpl : plain1 k = true) {v v' : Value} (hv : VR r v v') : ∀ {es es2 : List (Value × Value)} {l : List MapEntry} (n : Nat), ER r es l → putE k v es = some es2 →
    (Instr.findNow d k l n = some none ∧ ∀ b, ER r es2 (l ++ [⟨k, v', b⟩])) ∨ ∃ (j : Nat) (e : MapEntry), Instr.findNow d k l n = some (some (n + j, e.val)) ∧ l[j]? = some e ∧ e.key = k ∧ ER r es2 (l.modify j fun e => { e with key := k, val := v' })
  | _, _, _, n, .nil, h => by
    obtain rfl := Option.some.inj h
    exact .inl ⟨rfl, fun b => .cons k v _ _ _ rfl hpl hv .nil⟩
  | _, _, _, n, .cons k1 v1 e es l hke hp hv1 hl, h => by
    unfold putE at h
    cases hq : keyEq k k1 with
    | none => rw [hq] at h; cases h
    | some b =>
      rw [hq] at h
      obtain ⟨g1, g2⟩ := keyEq_sound hk hq
      rw [← hke] at g1
      cases b with
      | true =>
        obtain rfl := Option.some.inj h
        exact .inr ⟨0, e, by simp [Instr.findNow, g1], rfl, by rw [hke, g2 rfl], .cons k v _ _ _ rfl hpl hv hl⟩
      | false =>
        dsimp only at h
        cases hr : putE k v es with
        | none => rw [hr] at h; cases h
        | some es3 =>
          rw [hr] at h
          obtain rfl := Option.some.inj h
          rcases put_sound hk hpl hv (n + 1) hl hr with ⟨q1, q2⟩ | ⟨j, e1, q1, q2, q3, q4⟩
          · exact .inl ⟨by simp [Instr.findNow, g1, q1], fun b => .cons k1 v1 e _ _ hke hp hv1 (q2 b)⟩
          · exact .inr ⟨j + 1, e1, by simp [Instr.findNow, g1, q1]; omega, by simpa using q2, q3, .cons k1 v1 e _ _ hke hp hv1 q4⟩
section
variable {P : Program} {N : Nat → Prop} {r : Rn} {H H' : AH} {w : World} {a : Fr} {c : Act} {o : Oper} {v : Value}
/-- A block of ours is changed. -/
theorem Inv.put (hI : Inv P N r H w) {i : Nat} {p : Pl} (hp : r i = some p) {ob o' : AObj} (ho : H.obj i = some ob) (hod : isDead ob = false) {w' : World} (hsz : w.heap.size ≤ w'.heap.size)
    (hold : ∀ k, k ≠ p.b → w'.heap[k]? = w.heap[k]?) (ho' : ObjR P r p o' w') : Inv P N r (H.put i o') w' := by
  have hit := obj_lt ho
  obtain ⟨q, hq, hN, -⟩ := hI.obj i _ hit ho
  obtain rfl : q = p := Option.some.inj (hq.symm.trans hp)
  refine ⟨fun j oj hj hjo => ?_, fun j k oj ok pj pk hj hk a1 a2 a3 a4 a5 a6 a7 => ?_, hI.new, hI.top, fun k hk => Nat.lt_of_lt_of_le (hI.low k hk) hsz⟩
  · by_cases e : i = j
    · subst e
      rw [obj_put_eq hit] at hjo
      obtain rfl := Option.some.inj hjo
      exact ⟨q, hq, hN, ho'⟩
    · rw [obj_put_ne _ hit hj e] at hjo
      obtain ⟨qj, hqj, hNj, hoj⟩ := hI.obj j oj hj hjo
      refine ⟨qj, hqj, hNj, ?_⟩
      cases hdd : isDead oj with
      | true =>
        cases oj with
        | dead => exact Nat.lt_of_lt_of_le hoj hsz
        | cells c t g => cases hdd
        | map es => cases hdd
      | false => exact hoj.world (hold qj.b fun e2 => e (hI.sep i j _ oj q qj hit hj ho hjo hod hdd hq hqj e2.symm))
  · have f : ∀ k ok, k < 2 ^ hd → (H.put i o').obj k = some ok → isDead ok = false → ∃ ok', H.obj k = some ok' ∧ isDead ok' = false := by
      intro k ok hk hko hkd
      by_cases e : i = k
      · subst e
        exact ⟨_, ho, hod⟩
      · rw [obj_put_ne _ hit hk e] at hko
        exact ⟨ok, hko, hkd⟩
    obtain ⟨oj', b1, b2⟩ := f j oj hj a1 a3
    obtain ⟨ok', b3, b4⟩ := f k ok hk a2 a4
    exact hI.sep j k oj' ok' pj pk hj hk b1 b3 b2 b4 a5 a6 a7
theorem map_inv {x : Operand} {i : Nat} (hF : FrR r a c) (h : ev a x = some (.map (some i))) : ∃ p, r i = some p ∧ c.eval x = .map (some p.b) := by
  have hx := ev_sound hF h
  obtain ⟨b, hb⟩ : ∃ b, c.eval x = b := ⟨_, rfl⟩
  rw [hb] at hx ⊢
  cases hx with
  | map _ p hp => exact ⟨p, hp, rfl⟩
theorem mapObj (hI : Inv P N r H w) {i : Nat} {p : Pl} (hp : r i = some p) {es : List (Value × Value)} (ho : H.obj i = some (.map es)) : ¬ N p.b ∧ p.o = 0 ∧ p.x = 0 ∧ ∃ es' clock, w.heap[p.b]? = some (.map es' clock) ∧ ER r es es'.toList := by
  obtain ⟨q, hq, hN, h1, h2, h3⟩ := hI.obj i _ (obj_lt ho) ho
  obtain rfl : q = p := Option.some.inj (hq.symm.trans hp)
  exact ⟨hN, h1, h2, h3⟩
theorem s_insert (hI : Inv P N r H w) (hF : FrR r a c) {t : TypeId} {m k x : Operand} (ho : o.op = .insert t m k x ∨ o.op = .mapUpdate t m k x) (h : opA P a o H = some (v, H')) : Good P N r c o w v H' := by
  have he : (execOp c.eval o) = ((fun _ => Next.skip) <$> (Instr.mapUpdate t (c.eval m) (c.eval k) (c.eval x))) := by
    unfold execOp
    rcases ho with ho | ho <;> rw [ho] <;> rfl
  have h : (match ev a m, ev a k, ev a x with
    | some (.map (some r)), some kv, some v => match H.obj r, P.underlying t with
      | some (.map es), some (.map kt _) => cond (plain1 kv && isKeyB (P.underlying kt) kv) (match putE kv v es with | some es' => some (undef, H.put r (.map es')) | none => none) none
      | _, _ => none
    | _, _, _ => none) = some (v, H') := by
    unfold opA at h
    rcases ho with ho | ho <;> rw [ho] at h <;> exact h
  cases hm : ev a m with
  | none => rw [hm] at h; (split at h <;> simp_all)
  | some u =>
    rw [hm] at h
    cases hk : ev a k with
    | none => rw [hk] at h; (split at h <;> simp_all)
    | some kv =>
      rw [hk] at h
      cases hx : ev a x with
      | none => rw [hx] at h; (split at h <;> simp_all)
      | some z =>
        rw [hx] at h
        cases u <;> try (cases h; done)
        case map q =>
          cases q with
          | none => cases h
          | some i =>
            dsimp only at h
            cases hob : H.obj i with
            | none => rw [hob] at h; (split at h <;> simp_all)
            | some ob =>
              rw [hob] at h
              cases ob <;> try (cases h; done)
              case map es =>
                cases hu : P.underlying t with
                | none => rw [hu] at h; (split at h <;> simp_all)
                | some d =>
                  rw [hu] at h
                  cases d <;> try (cases h; done)
                  case map kt et =>
                    dsimp only at h
                    cases hb : (plain1 kv && isKeyB (P.underlying kt) kv) with
                    | false => rw [hb] at h; cases h
                    | true =>
                      rw [hb] at h
                      dsimp only [cond_true] at h
                      rw [Bool.and_eq_true] at hb
                      cases hpe : putE kv z es with
                      | none => rw [hpe] at h; cases h
                      | some es2 =>
                        rw [hpe] at h
                        have := Option.some.inj h
                        obtain ⟨rfl, rfl⟩ := Prod.mk.inj this
                        obtain ⟨p, hp, hce⟩ := map_inv hF hm
                        obtain ⟨hN, hp1, hp2, es', clock, hw, hER⟩ := mapObj hI hp hob
                        have hkv : c.eval k = kv := plain1_eq hb.1 (ev_sound hF hk)
                        cases hd : P.underlying kt with
                        | none => rw [hd] at hb; cases hb.2
                        | some d =>
                          rw [hd] at hb
                          have hlt := (Array.getElem?_eq_some_iff.1 hw).1
                          have hik := isKey_of hb.2
                          rcases put_sound hb.2 hb.1 (ev_sound hF hx) 0 hER hpe with ⟨q1, q2⟩ | ⟨j, e, q1, q2, q3, q4⟩
                          · refine ⟨r, undef, { w with heap := w.heap.setIfInBounds p.b (.map (es'.push ⟨kv, c.eval x, clock⟩) (clock + 1)) }, .skip, Rn.le_refl _, ?_, .inr ⟨rfl, rfl⟩, undef_VR, ?_, ?_⟩
                            · rw [he]
                              simp [hce, hkv, Instr.mapUpdate, run_underlying hu, MapKept.run_getObj_map hw, MapKept.run_checkKey hd hik, MapKept.run_findKey hd q1, MapKept.run_setObj_map _ hw, Sem.run_bind, Result.andThen]
                            · refine hI.put hp hob rfl (by simp) (fun k hk => by simp [Ne.symm hk]) ⟨hp1, hp2, es'.push ⟨kv, c.eval x, clock⟩, clock + 1, by simp [hlt], ?_⟩
                              rw [Array.toList_push]
                              exact q2 clock
                            · exact ⟨rfl, rfl, rfl, by simp, fun k hk => by simp [show p.b ≠ k from fun e => hN (e ▸ hk)]⟩
                          · rw [Nat.zero_add] at q1
                            have q2' : es'[j]? = some e := by rw [← Array.getElem?_toList]; exact q2
                            refine ⟨r, undef, { w with heap := w.heap.setIfInBounds p.b (.map (es'.modify j fun e => { e with key := kv, val := c.eval x }) clock) }, .skip, Rn.le_refl _, ?_, .inr ⟨rfl, rfl⟩, undef_VR, ?_, ?_⟩
                            · rw [he]
                              simp [hce, hkv, Instr.mapUpdate, run_underlying hu, MapKept.run_getObj_map hw, MapKept.run_checkKey hd hik, MapKept.run_findKey hd q1, q2', q3, MapKept.run_keyThatStays hik, MapKept.run_setObj_map _ hw, Sem.run_bind, Result.andThen]
                            · refine hI.put hp hob rfl (by simp) (fun k hk => by simp [Ne.symm hk]) ⟨hp1, hp2, es'.modify j fun e => { e with key := kv, val := c.eval x }, clock, by simp [hlt], ?_⟩
                              rw [Array.toList_modify]
                              exact q4
                            · exact ⟨rfl, rfl, rfl, by simp, fun k hk => by simp [show p.b ≠ k from fun e => hN (e ▸ hk)]⟩
theorem s_lookup (hI : Inv P N r H w) (hF : FrR r a c) {t : TypeId} {m k : Operand} {ok : Bool} (ho : o.op = .lookup t m k ok) (h : opA P a o H = some (v, H')) : Good P N r c o w v H' := by
  unfold opA at h
  rw [ho] at h
  dsimp only at h
  cases hm : ev a m with
  | none => rw [hm] at h; (split at h <;> simp_all)
  | some u =>
    rw [hm] at h
    cases hk : ev a k with
    | none => rw [hk] at h; (split at h <;> simp_all)
    | some kv =>
      rw [hk] at h
      cases hu : P.underlying t with
      | none => rw [hu] at h; (split at h <;> simp_all)
      | some d =>
        rw [hu] at h
        cases d <;> try (cases h; done)
        case map kt et =>
          dsimp only at h
          cases hes : entriesA H u with
          | none => rw [hes] at h; cases h
          | some es =>
            rw [hes] at h
            dsimp only at h
            cases hb : (plain1 kv && isKeyB (P.underlying kt) kv) with
            | false => rw [hb] at h; cases h
            | true =>
              rw [hb] at h
              dsimp only [cond_true] at h
              rw [Bool.and_eq_true] at hb
              have hkv : c.eval k = kv := plain1_eq hb.1 (ev_sound hF hk)
              cases hd : P.underlying kt with
              | none => rw [hd] at hb; cases hb.2
              | some d =>
                rw [hd] at hb
                have hik := isKey_of hb.2
                obtain ⟨x', es', hx', hER, hrun⟩ : ∃ (x' : Value) (es' : Array MapEntry), c.eval m = x' ∧ ER r es es'.toList ∧ (x' = .map none ∧ es' = #[] ∨ ∃ b clock, x' = .map (some b) ∧ w.heap[b]? = some (.map es' clock)) := by
                  cases u <;> try (cases hes; done)
                  case map q =>
                    cases q with
                    | none =>
                      obtain rfl := Option.some.inj hes
                      have hv := ev_sound hF hm
                      obtain ⟨b', hb'⟩ : ∃ b', c.eval m = b' := ⟨_, rfl⟩
                      rw [hb'] at hv
                      cases hv
                      exact ⟨_, #[], hb', .nil, .inl ⟨rfl, rfl⟩⟩
                    | some i =>
                      unfold entriesA at hes
                      dsimp only at hes
                      cases hob : H.obj i with
                      | none => rw [hob] at hes; cases hes
                      | some ob =>
                        rw [hob] at hes
                        cases ob <;> try (cases hes; done)
                        case map es0 =>
                          obtain rfl := Option.some.inj hes
                          obtain ⟨p, hp, hce⟩ := map_inv hF hm
                          obtain ⟨hN, hp1, hp2, es', clock, hw, hER⟩ := mapObj hI hp hob
                          exact ⟨_, es', hce, hER, .inr ⟨_, _, rfl, hw⟩⟩
                cases hfe : findE kv es with
                | none => rw [hfe] at h; cases h
                | some fx =>
                  rw [hfe] at h
                  rcases find_sound hb.2 0 hER hfe with ⟨rfl, q1⟩ | ⟨v0, j, e, rfl, q1, q2⟩
                  · dsimp only at h
                    cases hz : zeroT P et with
                    | none => rw [hz] at h; cases h
                    | some z =>
                      rw [hz] at h
                      have := Option.some.inj h
                      obtain ⟨rfl, rfl⟩ := Prod.mk.inj this
                      obtain ⟨ti, hti, hzi, hpz⟩ := zeroT_some hz
                      refine Good.same hI (v' := if ok then .tuple #[z, .bool false] else z) ?_ ?_
                      · unfold execOp
                        rw [ho]
                        rcases hrun with ⟨rfl, rfl⟩ | ⟨b, clock, rfl, hw⟩
                        · cases ok <;> simp [hx', hkv, Instr.lookup, run_underlying hu, MapKept.run_checkKey hd hik, MapKept.run_findKey hd q1, run_zero hti hzi, Sem.run_bind, Result.andThen]
                        · cases ok <;> simp [hx', hkv, Instr.lookup, run_underlying hu, MapKept.run_getObj_map hw, MapKept.run_checkKey hd hik, MapKept.run_findKey hd q1, run_zero hti hzi, Sem.run_bind, Result.andThen]
                      · cases ok with
                        | true => exact .tuple _ _ (.cons _ _ _ _ (plain_refl hpz) (.cons _ _ _ _ (.bool _) .nil))
                        | false => exact plain_refl hpz
                  · have := Option.some.inj h
                    obtain ⟨rfl, rfl⟩ := Prod.mk.inj this
                    refine Good.same hI (v' := if ok then .tuple #[e.val, .bool true] else e.val) ?_ ?_
                    · unfold execOp
                      rw [ho]
                      rcases hrun with ⟨rfl, rfl⟩ | ⟨b, clock, rfl, hw⟩
                      · cases ok <;> simp [hx', hkv, Instr.lookup, run_underlying hu, MapKept.run_checkKey hd hik, MapKept.run_findKey hd q1, Sem.run_bind, Result.andThen]
                      · cases ok <;> simp [hx', hkv, Instr.lookup, run_underlying hu, MapKept.run_getObj_map hw, MapKept.run_checkKey hd hik, MapKept.run_findKey hd q1, Sem.run_bind, Result.andThen]
                    · cases ok with
                      | true => exact .tuple _ _ (.cons _ _ _ _ q2 (.cons _ _ _ _ (.bool _) .nil))
                      | false => exact q2
end
end Go.Eng
