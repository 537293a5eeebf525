/-
  Our machine's operations, further: makeSlice, lengths, clear and the builtins of plain values.
  Conditions: none; plain theorems.
-/
import Derived.Test.YtfcebfbdodeecaaGreatDoorEngEf
import Derived.Laws.MakeOwn
namespace Go.Eng
open Go Go.RowKit
set_option linter.unusedVariables false
set_option linter.unusedSimpArgs false
section
variable {P : Program} {N : Nat → Prop} {r : Rn} {H H' : AH} {w : World} {a : Fr} {c : Act} {o : Oper} {v : Value}
theorem cellsOf_eq (z : Value) : z.cells.toList = cellsOf z := by cases z <;> rfl
theorem s_makeSlice (hI : Inv P N r H w) (hF : FrR r a c) {t : TypeId} {x y : Operand} (ho : o.op = .makeSlice t x y) (h : opA P a o H = some (v, H')) : Good P N r c o w v H' := by
  unfold opA at h
  rw [ho] at h
  dsimp only at h
  cases hx : ev a x with
  | none => rw [hx] at h; (split at h <;> simp_all)
  | some u =>
    rw [hx] at h
    cases hy : ev a y with
    | none => rw [hy] at h; (split at h <;> simp_all)
    | some z =>
      rw [hy] at h
      cases hu : P.underlying t with
      | none => rw [hu] at h; (split at h <;> simp_all)
      | some d =>
        rw [hu] at h
        cases u <;> try (cases h; done)
        case int k1 i1 =>
          cases i1 <;> try (cases h; done)
          case ofNat n =>
            cases z <;> try (cases h; done)
            case int k2 i2 =>
              cases i2 <;> try (cases h; done)
              case ofNat m =>
                cases d <;> try (cases h; done)
                case slice e =>
                  dsimp only at h
                  cases hi : P.info? e with
                  | none => rw [hi] at h; cases h
                  | some i =>
                    rw [hi] at h
                    dsimp only at h
                    cases hz : zeroT P e with
                    | none => rw [hz] at h; cases h
                    | some zz =>
                      rw [hz] at h
                      dsimp only at h
                      cases hb : (Nat.ble n m && Nat.ble (i.bytes * m) 140737488355328 && Nat.beq (cellsOf zz).length i.size && Nat.blt 0 i.size && Nat.ble m 140737488355328) with
                      | false => rw [hb] at h; cases h
                      | true =>
                        rw [hb, cond_true] at h
                        simp only [Bool.and_eq_true] at hb
                        obtain ⟨⟨⟨⟨b1, b2⟩, b3⟩, b4⟩, b5⟩ := hb
                        have b1 := Nat.le_of_ble_eq_true b1
                        have b2 := Nat.le_of_ble_eq_true b2
                        have b3 := Nat.eq_of_beq_eq_true b3
                        have b4 : 0 < i.size := Nat.le_of_ble_eq_true b4
                        have b5 := Nat.le_of_ble_eq_true b5
                        obtain ⟨ti, hti, hzi, hpz⟩ := zeroT_some hz
                        obtain rfl : i = ti := Option.some.inj (hi.symm.trans hti)
                        obtain ⟨ht, rfl, rfl⟩ := newO_some h
                        have hby : (i.bytes : Int) * (m : Int) ≤ 281474976710656 := by
                          have e : (i.bytes : Int) * (m : Int) = ((i.bytes * m : Nat) : Int) := by simp
                          rw [e]
                          omega
                        have hr := run_make (P := P) w t e i zz hu hi hzi k1 k2 (n : Int) (m : Int) (Int.natCast_nonneg n) (by omega) hby (by omega)
                        rw [Int.toNat_natCast, Int.toNat_natCast] at hr
                        refine ⟨r.add H.next ⟨w.heap.size, 0, 0⟩, .slice (some ⟨w.heap.size, 0, none⟩) n m, _, _, hI.le_add ht _, ?_, .inl rfl, .sl H.next 0 n m ⟨w.heap.size, 0, 0⟩ (Rn.add_at _ _ _), hI.alloc ht (c' := madeCells zz.cells (m * i.size)) ?_ false, (Bel.refl N w).alloc hI.low _⟩
                        · unfold execOp
                          rw [ho]
                          have e1 := int_inv hF hx
                          have e2 := int_inv hF hy
                          have e1 : c.eval x = .int k1 (n : Int) := e1
                          have e2 : c.eval y = .int k2 (m : Int) := e2
                          simp [e1, e2, hr, Sem.run_bind]
                        · exact repl_range m zz i.size b3 b4 hpz
theorem run_builtin {cl : Call} {b : Builtin} (ho : o.op = .call cl) (hc : cl.callee = .builtin b) (ρ : Operand → Value) : ∃ cs, (execOp ρ o).run P w = (builtin b cl.argTypes o.type cs (cl.args.map ρ)).run P w := by
  refine ⟨cl.args.map fun | .const _ => true | _ => false, ?_⟩
  unfold execOp
  rw [ho]
  simp [resolve, hc, invoke]
  rfl
theorem args_sound (hF : FrR r a c) {cl : Call} {vs : List Value} (h : evs a cl.args.toList = some vs) : ∃ vs', cl.args.map c.eval = vs'.toArray ∧ LR r vs vs' :=
  ⟨_, by apply Array.ext'; simp, evs_sound hF h⟩
theorem one_inv {vs' : List Value} {x : Value} (h : LR r [x] vs') : ∃ x', vs' = [x'] ∧ VR r x x' := by
  cases h with
  | cons _ v' _ l' h hl =>
    cases hl
    exact ⟨v', rfl, h⟩
theorem two_inv {vs' : List Value} {x y : Value} (h : LR r [x, y] vs') : ∃ x' y', vs' = [x', y'] ∧ VR r x x' ∧ VR r y y' := by
  cases h with
  | cons _ v' _ l' h hl =>
    obtain ⟨y', rfl, hy⟩ := one_inv hl
    exact ⟨v', y', rfl, h, hy⟩
theorem types_one {cl : Call} {t : TypeId} (h : cl.argTypes.toList = [t]) : cl.argTypes = #[t] := by
  apply Array.ext'
  exact h
theorem types_two {cl : Call} {t t2 : TypeId} (h : cl.argTypes.toList = [t, t2]) : cl.argTypes = #[t, t2] := by
  apply Array.ext'
  exact h
theorem s_len (hI : Inv P N r H w) (hF : FrR r a c) {cl : Call} (ho : o.op = .call cl) (hc : cl.callee = .builtin .len) (h : opA P a o H = some (v, H')) : Good P N r c o w v H' := by
  unfold opA at h
  rw [ho] at h
  dsimp only at h
  rw [hc] at h
  dsimp only at h
  cases hx : evs a cl.args.toList with
  | none => rw [hx] at h; cases h
  | some vs =>
    rw [hx] at h
    cases ht : cl.argTypes.toList with
    | nil => rw [ht] at h; rcases vs with _ | ⟨_, _ | ⟨_, _⟩⟩ <;> cases h
    | cons t ts =>
      rw [ht] at h
      cases ts with
      | cons _ _ => rcases vs with _ | ⟨_, _ | ⟨_, _⟩⟩ <;> cases h
      | nil =>
        cases vs with
        | nil => cases h
        | cons x xs =>
          cases xs with
          | cons _ _ => cases h
          | nil =>
            dsimp only at h
            obtain ⟨hl, rfl⟩ := okV_some h
            obtain ⟨vs', e1, e2⟩ := args_sound hF hx
            obtain ⟨x', rfl, hx'⟩ := one_inv e2
            have key : ∃ n : Nat, v = goInt n ∧ ((Builtin.len_ #[t] o.type #[x']).run P w = .ok (goInt n) w) := by
              unfold lenA at hl
              cases hu : P.underlying t with
              | none => rw [hu] at hl; (split at hl <;> simp_all)
              | some d =>
                rw [hu] at hl
                cases x <;> try (cases hl; done)
                case string s =>
                  cases d <;> try (cases hl; done)
                  obtain rfl := Option.some.inj hl
                  cases hx'
                  exact ⟨_, rfl, by simp [Builtin.len_, run_underlying hu, Sem.run_bind]⟩
                case iface n f =>
                  cases f <;> try (cases hl; done)
                  cases d <;> try (cases hl; done)
                  obtain rfl := Option.some.inj hl
                  cases hx' with
                  | sym _ p hp hn => exact ⟨n, rfl, by simp [Builtin.len_, run_underlying hu, Sem.run_bind, hn]⟩
                case slice b n cap =>
                  cases d <;> try (cases hl; done)
                  obtain rfl := Option.some.inj hl
                  cases hx' <;> exact ⟨_, rfl, by simp [Builtin.len_, run_underlying hu, Sem.run_bind]⟩
                case map q =>
                  cases q with
                  | none =>
                    cases d <;> try (cases hl; done)
                    obtain rfl := Option.some.inj hl
                    cases hx'
                    exact ⟨0, rfl, by simp [Builtin.len_, run_underlying hu, Sem.run_bind]⟩
                  | some i =>
                    cases d <;> try (cases hl; done)
                    dsimp only at hl
                    cases hob : H'.obj i with
                    | none => rw [hob] at hl; cases hl
                    | some ob =>
                      rw [hob] at hl
                      cases ob <;> try (cases hl; done)
                      case map es =>
                        obtain rfl := Option.some.inj hl
                        cases hx' with
                        | map _ p hp =>
                          obtain ⟨hN, hp1, hp2, es', clock, hw, hER⟩ := mapObj hI hp hob
                          have hlen : es.length = es'.size := by
                            have : ∀ {l : List (Value × Value)} {l' : List MapEntry}, ER r l l' → l.length = l'.length := by
                              intro l l' h
                              induction h with
                              | nil => rfl
                              | cons _ _ _ _ _ _ _ _ _ ih => simp [ih]
                            rw [this hER, Array.length_toList]
                          exact ⟨es.length, rfl, by simp [Builtin.len_, run_underlying hu, MapKept.run_getObj_map hw, Sem.run_bind, hlen]⟩
            obtain ⟨n, rfl, hrun⟩ := key
            refine Good.same hI (v' := goInt n) ?_ (.int _ _)
            obtain ⟨cs, hcs⟩ := run_builtin (P := P) (w := w) ho hc c.eval
            rw [hcs, e1, types_one ht]
            simp [builtin, hrun, Sem.run_bind]
theorem plains_eq {vs vs' : List Value} (hl : LR r vs vs') (hp : vs.all plain = true) : vs' = vs := by
  induction vs generalizing vs' with
  | nil => exact hl.nil_inv
  | cons x xs ih =>
    cases hl with
    | cons _ v' _ l' h hl =>
      rw [List.all_cons, Bool.and_eq_true] at hp
      rw [ih hl hp.2, plain_eq hp.1 h]
theorem s_plainB (hI : Inv P N r H w) (hF : FrR r a c) {cl : Call} {b : Builtin} (ho : o.op = .call cl) (hc : cl.callee = .builtin b) {f : Array TypeId → TypeId → Array Value → Sem Value} (hb : ∀ ts ty cs as, builtin b ts ty cs as = (do pure (.value (← f ts ty as))))
    {vs : List Value} (hx : evs a cl.args.toList = some vs) (hp : vs.all plain = true) (h : okP (pureRun P (f cl.argTypes o.type vs.toArray)) H = some (v, H')) : Good P N r c o w v H' := by
  obtain ⟨h1, rfl, hpl⟩ := okP_some h
  obtain ⟨vs', e1, e2⟩ := args_sound hF hx
  obtain rfl := plains_eq e2 hp
  refine Good.same hI (v' := v) ?_ (plain_refl hpl)
  obtain ⟨cs, hcs⟩ := run_builtin (P := P) (w := w) ho hc c.eval
  rw [hcs, e1, hb]
  simp [pure_sound h1 w, Sem.run_bind]
end
end Go.Eng
