/-
  Our machine's operations, further: indices, slices, maps, lengths.
  Conditions: none; plain theorems.
-/
import Derived.Test.YtfcebfbdodeecaaGreatDoorEngEd
namespace Go.Eng
open Go Go.RowKit
set_option linter.unusedVariables false
set_option linter.unusedSimpArgs false
section
variable {P : Program} {N : Nat → Prop} {r : Rn} {H H' : AH} {w : World} {a : Fr} {c : Act} {o : Oper} {v : Value}
theorem slice_inv {x : Operand} {p0 : Addr} {l k : Nat} (hF : FrR r a c) (h : ev a x = some (.slice (some p0) l k)) : ∃ i off p, p0 = ⟨i, off, none⟩ ∧ r i = some p ∧ c.eval x = .slice (some ⟨p.b, p.o + off, none⟩) l (k + p.x) := by
  have hx := ev_sound hF h
  obtain ⟨b, hb⟩ : ∃ b, c.eval x = b := ⟨_, rfl⟩
  rw [hb] at hx ⊢
  cases hx with
  | sl i off _ _ p hp => exact ⟨i, off, p, rfl, hp, rfl⟩
theorem s_indexAddr (hI : Inv P N r H w) (hF : FrR r a c) {t : TypeId} {x ix : Operand} (ho : o.op = .indexAddr t x ix) (h : opA P a o H = some (v, H')) : Good P N r c o w v H' := by
  unfold opA at h
  rw [ho] at h
  dsimp only at h
  cases hx : ev a x with
  | none => rw [hx] at h; cases h
  | some u =>
    rw [hx] at h
    cases hy : ev a ix with
    | none => rw [hy] at h; (split at h <;> simp_all)
    | some z =>
      rw [hy] at h
      cases u <;> try (cases h; done)
      case slice q len cap =>
        cases q with
        | none => cases h
        | some p0 =>
          cases z <;> try (cases h; done)
          case int k n =>
            cases hu : P.underlying t with
            | none => rw [hu] at h; cases h
            | some d =>
              rw [hu] at h
              cases d <;> try (cases h; done)
              case slice e =>
                dsimp only at h
                cases hb : inB n len with
                | none => rw [hb] at h; cases h
                | some j =>
                  rw [hb] at h
                  cases hs : sizeT P e with
                  | none => rw [hs] at h; cases h
                  | some size =>
                    rw [hs] at h
                    have := Option.some.inj h
                    obtain ⟨rfl, rfl⟩ := Prod.mk.inj this
                    obtain ⟨i, off, p, rfl, hp, he⟩ := slice_inv hF hx
                    obtain ⟨rfl, hj⟩ := inB_some hb
                    have hi := int_inv hF hy
                    refine Good.same hI (v' := .pointer (some ⟨p.b, p.o + off + j * size, none⟩)) ?_ ?_
                    · unfold execOp
                      rw [ho]
                      have h0 : (0 : Int) ≤ (j : Int) := Int.natCast_nonneg j
                      have h1 : (j : Int) < (len : Int) := by omega
                      simp [he, hi, Instr.indexAt, asIntOf, run_underlying hu, run_size hs, hj, Addr.add_lit, Sem.run_bind]
                    · unfold addA
                      rw [Addr.add_lit, Nat.add_assoc]
                      exact .ptr i (off + j * size) p hp
      case pointer q =>
        cases q with
        | none => cases h
        | some p0 =>
          cases z <;> try (cases h; done)
          case int k n =>
            cases hu : P.underlying t with
            | none => rw [hu] at h; cases h
            | some d =>
              rw [hu] at h
              cases d <;> try (cases h; done)
              case array len e =>
                dsimp only at h
                cases hb : inB n len with
                | none => rw [hb] at h; cases h
                | some j =>
                  rw [hb] at h
                  cases hs : sizeT P e with
                  | none => rw [hs] at h; cases h
                  | some size =>
                    rw [hs] at h
                    have := Option.some.inj h
                    obtain ⟨rfl, rfl⟩ := Prod.mk.inj this
                    obtain ⟨i, off, p, rfl, hp, he⟩ := ptr_inv hF hx
                    obtain ⟨rfl, hj⟩ := inB_some hb
                    have hi := int_inv hF hy
                    refine Good.same hI (v' := .pointer (some ⟨p.b, p.o + off + j * size, none⟩)) ?_ ?_
                    · unfold execOp
                      rw [ho]
                      simp [he, hi, Instr.indexAt, asIntOf, run_underlying hu, run_size hs, Instr.sureAddr, hj, Addr.add_lit, Sem.run_bind]
                    · unfold addA
                      rw [Addr.add_lit, Nat.add_assoc]
                      exact .ptr i (off + j * size) p hp
theorem bytes_get (s : ByteArray) (k : Nat) (b : UInt8) (h : s.data.toList[k]? = some b) : s[k]? = some b := by
  rw [Array.getElem?_toList] at h
  obtain ⟨hk, hb⟩ := Array.getElem?_eq_some_iff.1 h
  have hk2 : k < s.size := hk
  rw [getElem?_pos s k hk2]
  exact congrArg some hb
theorem s_index (hI : Inv P N r H w) (hF : FrR r a c) {t : TypeId} {x ix : Operand} (ho : o.op = .index t x ix) (h : opA P a o H = some (v, H')) : Good P N r c o w v H' := by
  unfold opA at h
  rw [ho] at h
  dsimp only at h
  cases hx : ev a x with
  | none => rw [hx] at h; cases h
  | some u =>
    rw [hx] at h
    cases hy : ev a ix with
    | none => rw [hy] at h; (split at h <;> simp_all)
    | some z =>
      rw [hy] at h
      cases u <;> try (cases h; done)
      case string s =>
        cases z <;> try (cases h; done)
        case int k n =>
          cases hu : P.underlying t with
          | none => rw [hu] at h; cases h
          | some d =>
            rw [hu] at h
            cases d <;> try (cases h; done)
            case string =>
              dsimp only at h
              cases hb : inB n s.size with
              | none => rw [hb] at h; cases h
              | some j =>
                rw [hb] at h
                dsimp only at h
                cases hg : s.data.toList[j]? with
                | none => rw [hg] at h; cases h
                | some b =>
                  rw [hg] at h
                  have := Option.some.inj h
                  obtain ⟨rfl, rfl⟩ := Prod.mk.inj this
                  obtain ⟨rfl, hj⟩ := inB_some hb
                  have hi := int_inv hF hy
                  have hs : c.eval x = .string s := plain_eq rfl (ev_sound hF hx)
                  refine Good.same hI (v' := .int .u8 b.toNat) ?_ (.int _ _)
                  unfold execOp
                  rw [ho]
                  simp [hs, hi, Instr.index, asIntOf, run_underlying hu, bytes_get s j b hg, Sem.run_bind]
      case agg cs =>
        cases z <;> try (cases h; done)
        case int k n =>
          cases hu : P.underlying t with
          | none => rw [hu] at h; cases h
          | some d =>
            rw [hu] at h
            cases d <;> try (cases h; done)
            case array len e =>
              dsimp only at h
              obtain ⟨cs', he, hl⟩ := agg_inv hF hx
              have hi := int_inv hF hy
              cases hb : inB n len with
              | none => rw [hb] at h; cases h
              | some j =>
                rw [hb] at h
                obtain ⟨rfl, hj⟩ := inB_some hb
                cases ha : isAggT P e with
                | none => rw [ha] at h; cases h
                | some bb =>
                  rw [ha] at h
                  cases hs : sizeT P e with
                  | none => rw [hs] at h; cases bb <;> cases h
                  | some size =>
                    rw [hs] at h
                    cases bb with
                    | true =>
                      dsimp only at h
                      cases htk : takeN cs.toList (j * size) size with
                      | none => rw [htk] at h; cases h
                      | some l =>
                        rw [htk] at h
                        have := Option.some.inj h
                        obtain ⟨rfl, rfl⟩ := Prod.mk.inj this
                        obtain ⟨v', h1, h2⟩ := part_agg hl ha hs htk w
                        refine Good.same hI (v' := v') ?_ h2
                        unfold execOp
                        rw [ho]
                        simp [he, hi, Instr.index, asIntOf, run_underlying hu, run_size hs, hj, h1, Sem.run_bind]
                    | false =>
                      dsimp only at h
                      cases hg : cs.toList[j * size]? with
                      | none => rw [hg] at h; cases h
                      | some u =>
                        rw [hg] at h
                        have := Option.some.inj h
                        obtain ⟨rfl, rfl⟩ := Prod.mk.inj this
                        obtain ⟨v', h1, h2⟩ := part_one hl ha hg w
                        refine Good.same hI (v' := v') ?_ h2
                        unfold execOp
                        rw [ho]
                        simp [he, hi, Instr.index, asIntOf, run_underlying hu, run_size hs, hj, h1, Sem.run_bind]
/-- Bounds of a slice. -/
theorem bound_sound (hF : FrR r a c) {x : Option Operand} {d n m : Nat} (h : boundO a x d n = some m) : (x = none ∧ m = d) ∨ ∃ y k, x = some y ∧ c.eval y = .int k (m : Int) ∧ m ≤ n := by
  unfold boundO at h
  cases x with
  | none => exact .inl ⟨rfl, (Option.some.inj h).symm⟩
  | some y =>
    dsimp only at h
    cases hy : ev a y with
    | none => rw [hy] at h; cases h
    | some u =>
      rw [hy] at h
      cases u <;> try (cases h; done)
      case int k i =>
        dsimp only at h
        obtain ⟨rfl, hm⟩ := leB_some h
        exact .inr ⟨y, k, rfl, int_inv hF hy, hm⟩
theorem run_bounds (hF : FrR r a c) {lo hi : Option Operand} {isS : Bool} {len cap cap' h l : Nat} (hcap : cap ≤ cap') (hh : boundO a hi len cap = some h) (hl : boundO a lo 0 h = some l) (w : World) :
    (Instr.sliceBounds isS len cap' (lo.map c.eval) (hi.map c.eval) none).run P w = .ok (l, h, cap') w := by
  rcases bound_sound hF hh with ⟨rfl, rfl⟩ | ⟨y, k, rfl, e1, g1⟩
  · rcases bound_sound hF hl with ⟨rfl, rfl⟩ | ⟨y2, k2, rfl, e2, g2⟩
    · simp [Instr.sliceBounds, Sem.run_bind]
    · simp [Instr.sliceBounds, Instr.sliceBound, asIntOf, e2, g2, Sem.run_bind]
  · have g1' : h ≤ cap' := Nat.le_trans g1 hcap
    rcases bound_sound hF hl with ⟨rfl, rfl⟩ | ⟨y2, k2, rfl, e2, g2⟩
    · simp [Instr.sliceBounds, Instr.sliceBound, asIntOf, e1, g1', Sem.run_bind]
    · simp [Instr.sliceBounds, Instr.sliceBound, asIntOf, e1, g1', e2, g2, Sem.run_bind]
theorem s_slice (hI : Inv P N r H w) (hF : FrR r a c) {t : TypeId} {x : Operand} {lo hi : Option Operand} (ho : o.op = .slice t x lo hi none) (h : opA P a o H = some (v, H')) : Good P N r c o w v H' := by
  unfold opA at h
  rw [ho] at h
  dsimp only at h
  cases hx : ev a x with
  | none => rw [hx] at h; cases h
  | some u =>
    rw [hx] at h
    cases hu : P.underlying t with
    | none => rw [hu] at h; (split at h <;> simp_all)
    | some d =>
      rw [hu] at h
      cases u <;> try (cases h; done)
      case string s =>
        cases d <;> try (cases h; done)
        case string =>
          dsimp only at h
          cases hh : boundO a hi s.size s.size with
          | none => rw [hh] at h; cases h
          | some hb =>
            rw [hh] at h
            dsimp only at h
            cases hl : boundO a lo 0 hb with
            | none => rw [hl] at h; cases h
            | some lb =>
              rw [hl] at h
              have := Option.some.inj h
              obtain ⟨rfl, rfl⟩ := Prod.mk.inj this
              have hs : c.eval x = .string s := plain_eq rfl (ev_sound hF hx)
              refine Good.same hI (v' := .string (s.extract lb hb)) ?_ (.string _)
              unfold execOp
              rw [ho]
              have hr := run_bounds (P := P) (isS := false) hF (Nat.le_refl _) hh hl w
              simp [hs, Instr.sliceAt, Instr.slice, run_underlying hu, hr, Sem.run_bind]
      case slice base len cap =>
        cases d <;> try (cases h; done)
        case slice e =>
          dsimp only at h
          cases hs : sizeT P e with
          | none => rw [hs] at h; cases h
          | some size =>
            rw [hs] at h
            cases hh : boundO a hi len cap with
            | none => rw [hh] at h; cases h
            | some hb =>
              rw [hh] at h
              dsimp only at h
              cases hl : boundO a lo 0 hb with
              | none => rw [hl] at h; cases h
              | some lb =>
                rw [hl] at h
                dsimp only at h
                have hlh : lb ≤ hb := by
                  rcases bound_sound hF hl with ⟨rfl, rfl⟩ | ⟨_, _, _, _, g⟩
                  · omega
                  · exact g
                cases hcb : Nat.ble hb cap with
                | false => rw [hcb] at h; cases h
                | true =>
                rw [hcb, cond_true] at h
                have hhc := Nat.le_of_ble_eq_true hcb
                cases base with
                | none =>
                  have hv := ev_sound hF hx
                  obtain ⟨b', hb'⟩ : ∃ b', c.eval x = b' := ⟨_, rfl⟩
                  rw [hb'] at hv
                  cases hv
                  have hr := run_bounds (P := P) (isS := true) hF (Nat.le_refl _) hh hl w
                  have e2 : v = .slice none (hb - lb) (cap - lb) ∧ H' = H := by
                    cases hc : Nat.beq lb cap with
                    | true =>
                      rw [hc] at h
                      have := Option.some.inj h
                      obtain ⟨e1, e2⟩ := Prod.mk.inj this
                      exact ⟨e1.symm, e2.symm⟩
                    | false =>
                      rw [hc] at h
                      have := Option.some.inj h
                      obtain ⟨e1, e2⟩ := Prod.mk.inj this
                      exact ⟨e1.symm, e2.symm⟩
                  obtain ⟨rfl, rfl⟩ := e2
                  refine Good.same hI (v' := .slice none (hb - lb) (cap - lb)) ?_ (.sl0 _ _)
                  unfold execOp
                  rw [ho]
                  simp [hb', Instr.sliceAt, Instr.slice, run_underlying hu, run_size hs, hr, Sem.run_bind]
                | some p0 =>
                  obtain ⟨i, off, p, rfl, hp, he⟩ := slice_inv hF hx
                  have hr := run_bounds (P := P) (isS := true) hF (Nat.le_add_right cap p.x) hh hl w
                  cases hc : Nat.beq lb cap with
                  | true =>
                    rw [hc] at h
                    have hlc := Nat.eq_of_beq_eq_true hc
                    dsimp only [cond_true] at h
                    cases hob : H.obj i with
                    | none => rw [hob] at h; cases h
                    | some ob =>
                      rw [hob] at h
                      cases ob with
                      | dead => cases h
                      | map es => cases h
                      | cells cc tt g =>
                        cases g with
                        | true => cases h
                        | false =>
                          have := Option.some.inj h
                          obtain ⟨rfl, rfl⟩ := Prod.mk.inj this
                          obtain ⟨q, hq, hN, g1, -⟩ := hI.obj i _ (obj_lt hob) hob
                          obtain rfl : q = p := Option.some.inj (hq.symm.trans hp)
                          obtain ⟨z1, z2⟩ := g1 rfl
                          refine Good.same hI (v' := .slice (some ⟨q.b, q.o + off, none⟩) (hb - lb) (cap - lb + q.x)) ?_ (.sl i off _ _ q hp)
                          unfold execOp
                          rw [ho]
                          rw [z2, Nat.add_zero] at he hr
                          simp [he, Instr.sliceAt, Instr.slice, run_underlying hu, run_size hs, hr, hlc, z2, Sem.run_bind]
                  | false =>
                    rw [hc] at h
                    have := Option.some.inj h
                    obtain ⟨rfl, rfl⟩ := Prod.mk.inj this
                    have hlc : lb ≠ cap := fun e => by rw [e] at hc; simp at hc
                    have hlc2 : lb ≤ cap := Nat.le_trans hlh hhc
                    refine Good.same hI (v' := .slice (some ⟨p.b, p.o + off + lb * size, none⟩) (hb - lb) (cap + p.x - lb)) ?_ ?_
                    · unfold execOp
                      rw [ho]
                      have hne : ¬ (cap + p.x = lb) := by omega
                      simp [he, Instr.sliceAt, Instr.slice, run_underlying hu, run_size hs, hr, hne, Addr.add_lit, Sem.run_bind]
                    · show VR r (.slice (some (addA ⟨i, off, none⟩ (lb * size))) _ _) _
                      unfold addA
                      rw [Addr.add_lit, Nat.add_assoc, show cap + p.x - lb = cap - lb + p.x by omega]
                      exact .sl i (off + lb * size) _ _ p hp
      case pointer q =>
        cases q with
        | none => cases h
        | some p0 =>
          cases d <;> try (cases h; done)
          case array n e =>
            dsimp only at h
            obtain ⟨i, off, p, rfl, hp, he⟩ := ptr_inv hF hx
            cases hs : sizeT P e with
            | none => rw [hs] at h; cases h
            | some size =>
              rw [hs] at h
              cases hh : boundO a hi n n with
              | none => rw [hh] at h; cases h
              | some hb =>
                rw [hh] at h
                dsimp only at h
                cases hl : boundO a lo 0 hb with
                | none => rw [hl] at h; cases h
                | some lb =>
                  rw [hl] at h
                  dsimp only at h
                  have hr := run_bounds (P := P) (isS := false) hF (Nat.le_refl _) hh hl w
                  cases hc : Nat.beq lb n with
                  | true => rw [hc] at h; cases h
                  | false =>
                    rw [hc] at h
                    dsimp only [cond_false] at h
                    have hlc : n ≠ lb := fun e => by rw [e] at hc; simp at hc
                    cases hob : H.obj i with
                    | none => rw [hob] at h; cases h
                    | some ob =>
                      rw [hob] at h
                      cases ob with
                      | dead => cases h
                      | map es => cases h
                      | cells cc tt g =>
                        cases g with
                        | true => cases h
                        | false =>
                          have := Option.some.inj h
                          obtain ⟨rfl, rfl⟩ := Prod.mk.inj this
                          obtain ⟨q, hq, hN, g1, -⟩ := hI.obj i _ (obj_lt hob) hob
                          obtain rfl : q = p := Option.some.inj (hq.symm.trans hp)
                          obtain ⟨z1, z2⟩ := g1 rfl
                          refine Good.same hI (v' := .slice (some ⟨q.b, q.o + off + lb * size, none⟩) (hb - lb) (n - lb + q.x)) ?_ ?_
                          · unfold execOp
                            rw [ho]
                            simp [he, Instr.sliceAt, Instr.sureAddr, run_underlying hu, run_size hs, hr, hlc, z2, Addr.add_lit, Sem.run_bind]
                          · show VR r (.slice (some (addA ⟨i, off, none⟩ (lb * size))) _ _) _
                            unfold addA
                            rw [Addr.add_lit, Nat.add_assoc]
                            exact .sl i (off + lb * size) _ _ q hp
end
end Go.Eng
