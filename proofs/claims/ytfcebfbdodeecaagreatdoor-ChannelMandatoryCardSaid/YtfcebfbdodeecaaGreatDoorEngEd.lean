/-
  Our machine's operations: each does what the given model's does.
  Conditions: none; plain theorems.
-/
import Derived.Test.YtfcebfbdodeecaaGreatDoorEngEc
import Derived.WalkKit
import Derived.Laws.Tables
import Derived.Great.BuildSlice
namespace Go.Eng
open Go Go.RowKit
set_option linter.unusedVariables false
set_option linter.unusedSimpArgs false

theorem undef_VR {r : Rn} : VR r undef undef := .tuple _ _ .nil
/-- A call's slots are alike. -/
def FrR (r : Rn) (a : Fr) (c : Act) : Prop := c.tmps.size = a.m ∧ a.m ≤ 512 ∧ ∀ s, s < a.m → VR r (slot a s) (c.tmps.getD s undef)
theorem FrR.mono {r s : Rn} (hle : r.le s) {a : Fr} {c : Act} (h : FrR r a c) : FrR s a c := ⟨h.1, h.2.1, fun k hk => (h.2.2 k hk).mono hle⟩
theorem FrR.slot {r : Rn} {a : Fr} {c : Act} (h : FrR r a c) (s : Nat) : VR r (slot a s) (c.tmps.getD s undef) := by
  by_cases hs : s < a.m
  · exact h.2.2 s hs
  · have e1 : Go.Eng.slot a s = undef := by
      unfold Go.Eng.slot
      have : Nat.blt s a.m = false := by rw [Bool.eq_false_iff]; intro hb; exact hs (Nat.le_of_ble_eq_true hb)
      rw [this]
      rfl
    have e2 : c.tmps.getD s undef = undef := by
      rw [Array.getD_eq_getD_getElem?, Array.getElem?_eq_none (by rw [h.1]; omega)]
      rfl
    rw [e1, e2]
    exact undef_VR
theorem ev_sound {r : Rn} {a : Fr} {c : Act} (h : FrR r a c) {x : Operand} {v : Value} (hv : ev a x = some v) : VR r v (c.eval x) := by
  cases x with
  | tmp t =>
    obtain rfl : slot a t = v := Option.some.inj hv
    exact h.slot t
  | const u =>
    unfold ev at hv
    dsimp only at hv
    cases hp : plain u with
    | true =>
      rw [hp] at hv
      obtain rfl : u = v := Option.some.inj hv
      exact plain_refl hp
    | false => rw [hp] at hv; cases hv
  | func f =>
    obtain rfl : Value.func (.func f) #[] #[] = v := Option.some.inj hv
    exact .func _ _ _ _ _ .nil .nil
  | global g => cases hv
theorem evs_sound {r : Rn} {a : Fr} {c : Act} (h : FrR r a c) : ∀ {xs : List Operand} {vs : List Value}, evs a xs = some vs → LR r vs (xs.map c.eval)
  | [], vs, hv => by
    obtain rfl : [] = vs := Option.some.inj hv
    exact .nil
  | x :: xs, vs, hv => by
    unfold evs at hv
    cases h1 : ev a x with
    | none => rw [h1] at hv; cases hv
    | some v =>
      rw [h1] at hv
      dsimp only at hv
      cases h2 : evs a xs with
      | none => rw [h2] at hv; cases hv
      | some us =>
        rw [h2] at hv
        obtain rfl := Option.some.inj hv
        exact .cons _ _ _ _ (ev_sound h h1) (evs_sound h h2)
theorem putD_sound {r : Rn} {a : Fr} {c : Act} (h : FrR r a c) (d : Option Nat) {v v' : Value} (hv : VR r v v') : FrR r (putD a d v) (c.put d v') := by
  cases d with
  | none => exact h
  | some t =>
    unfold putD Act.put
    dsimp only
    by_cases ht : t < a.m
    · have e : Nat.blt t a.m = true := Nat.ble_eq_true_of_le ht
      rw [e]
      refine ⟨?_, h.2.1, fun s hs => ?_⟩
      · show (c.tmps.setIfInBounds t v').size = a.m
        rw [Array.size_setIfInBounds, h.1]
      · have hs : s < a.m := hs
        have e2 : Nat.blt s a.m = true := Nat.ble_eq_true_of_le hs
        show VR r (Go.Eng.slot ⟨a.m, a.t.set fd t v⟩ s) ((c.tmps.setIfInBounds t v').getD s undef)
        have hm := h.2.1
        by_cases es : t = s
        · subst es
          have e3 : Go.Eng.slot ⟨a.m, a.t.set fd t v⟩ t = v := by
            unfold Go.Eng.slot
            dsimp only
            rw [e2, get_set_eq]
            rfl
          have e4 : (c.tmps.setIfInBounds t v').getD t undef = v' := by
            rw [Array.getD_eq_getD_getElem?, Array.getElem?_setIfInBounds_self_of_lt (by rw [h.1]; exact ht)]
            rfl
          rw [e3, e4]
          exact hv
        · have e3 : Go.Eng.slot ⟨a.m, a.t.set fd t v⟩ s = Go.Eng.slot a s := by
            unfold Go.Eng.slot
            dsimp only
            rw [get_set_ne fd a.t t s v (Nat.lt_of_lt_of_le ht hm) (Nat.lt_of_lt_of_le hs hm) es]
          have e4 : (c.tmps.setIfInBounds t v').getD s undef = c.tmps.getD s undef := by
            rw [Array.getD_eq_getD_getElem?, Array.getD_eq_getD_getElem?, Array.getElem?_setIfInBounds_ne es]
          rw [e3, e4]
          exact h.2.2 s hs
    · have e : Nat.blt t a.m = false := by rw [Bool.eq_false_iff]; intro hb; exact ht (Nat.le_of_ble_eq_true hb)
      rw [e]
      refine ⟨?_, h.2.1, fun s hs => ?_⟩
      · show (c.tmps.setIfInBounds t v').size = a.m
        rw [Array.size_setIfInBounds, h.1]
      · have e4 : (c.tmps.setIfInBounds t v').getD s undef = c.tmps.getD s undef := by
          rw [Array.getD_eq_getD_getElem?, Array.getD_eq_getD_getElem?, Array.getElem?_setIfInBounds_ne (by have : s < a.m := hs; omega)]
        show VR r (Go.Eng.slot a s) _
        rw [e4]
        exact h.2.2 s hs
theorem pure_sound {P : Program} {α : Type} {s : Sem α} {x : α} (h : pureRun P s = some x) (w : World) : s.run P w = .ok x w := by
  induction s with
  | pure a =>
    obtain rfl : a = x := Option.some.inj h
    rfl
  | program k ih => exact ih P h
  | mark m k ih => exact ih h
  | _ => cases h

/-- An operation of ours and the model's come to the same. -/
def Good (P : Program) (N : Nat → Prop) (r : Rn) (c : Act) (o : Oper) (w : World) (v : Value) (H' : AH) : Prop :=
  ∃ s v' w' nx, Rn.le r s ∧ (execOp c.eval o).run P w = .ok nx w' ∧ (nx = .value v' ∨ nx = .skip ∧ v' = undef) ∧ VR s v v' ∧ Inv P N s H' w' ∧ Bel N w w'
section
variable {P : Program} {N : Nat → Prop} {r : Rn} {H H' : AH} {w : World} {a : Fr} {c : Act} {o : Oper} {v : Value}
theorem Good.same (hI : Inv P N r H w) {v' : Value} (hr : (execOp c.eval o).run P w = .ok (.value v') w) (hv : VR r v v') : Good P N r c o w v H :=
  ⟨r, v', w, _, Rn.le_refl _, hr, .inl rfl, hv, hI, Bel.refl _ _⟩
theorem okV_some {x : Option Value} (h : okV x H = some (v, H')) : x = some v ∧ H' = H := by
  unfold okV at h
  cases x with
  | none => cases h
  | some u =>
    have := Option.some.inj h
    exact ⟨by rw [(Prod.mk.inj this).1], (Prod.mk.inj this).2.symm⟩
theorem okP_some {x : Option Value} (h : okP x H = some (v, H')) : x = some v ∧ H' = H ∧ plain v = true := by
  unfold okP at h
  cases x with
  | none => cases h
  | some u =>
    dsimp only at h
    cases hp : plain u with
    | false => rw [hp] at h; cases h
    | true =>
      rw [hp] at h
      have := Option.some.inj h
      obtain ⟨rfl, rfl⟩ := Prod.mk.inj this
      exact ⟨rfl, rfl, hp⟩
theorem s_move (hI : Inv P N r H w) (hF : FrR r a c) {x : Operand} (ho : o.op = .move x ∨ o.op = .assign x) (h : okV (ev a x) H = some (v, H')) : Good P N r c o w v H' := by
  obtain ⟨h1, rfl⟩ := okV_some h
  refine Good.same hI (v' := c.eval x) ?_ (ev_sound hF h1)
  unfold execOp
  rcases ho with ho | ho <;> rw [ho] <;> rfl
theorem s_pick (hI : Inv P N r H w) (hF : FrR r a c) {x y z : Operand} (ho : o.op = .pick x y z) (h : opA P a o H = some (v, H')) : Good P N r c o w v H' := by
  unfold opA at h
  rw [ho] at h
  dsimp only at h
  cases h1 : ev a x with
  | none => rw [h1] at h; cases h
  | some u =>
    rw [h1] at h
    cases u with
    | bool t =>
      dsimp only at h
      obtain ⟨h2, rfl⟩ := okV_some h
      have hx := ev_sound hF h1
      obtain ⟨b, hb⟩ : ∃ b, c.eval x = b := ⟨_, rfl⟩
      rw [hb] at hx
      cases hx
      cases t with
      | true =>
        refine Good.same hI (v' := c.eval y) ?_ (ev_sound hF h2)
        unfold execOp
        rw [ho]
        simp [hb, asBool, Sem.run_bind]
      | false =>
        refine Good.same hI (v' := c.eval z) ?_ (ev_sound hF h2)
        unfold execOp
        rw [ho]
        simp [hb, asBool, Sem.run_bind]
    | _ => cases h
theorem cells_VR {u u' : Value} (h : VR r u u') : LR r (cellsOf u) u'.cells.toList := by
  cases h with
  | agg x x' hl => exact hl
  | bool b => exact .cons _ _ _ _ (.bool b) .nil
  | int k n => exact .cons _ _ _ _ (.int k n) .nil
  | float k n => exact .cons _ _ _ _ (.float k n) .nil
  | complex k n m => exact .cons _ _ _ _ (.complex k n m) .nil
  | string s => exact .cons _ _ _ _ (.string s) .nil
  | ptr0 => exact .cons _ _ _ _ .ptr0 .nil
  | ptr i x p hp => exact .cons _ _ _ _ (.ptr i x p hp) .nil
  | sl0 x y => exact .cons _ _ _ _ (.sl0 x y) .nil
  | sl i x l y p hp => exact .cons _ _ _ _ (.sl i x l y p hp) .nil
  | map0 => exact .cons _ _ _ _ .map0 .nil
  | map i p hp => exact .cons _ _ _ _ (.map i p hp) .nil
  | chan0 => exact .cons _ _ _ _ .chan0 .nil
  | func fn f x f' x' hf hc => exact .cons _ _ _ _ (.func fn f x f' x' hf hc) .nil
  | nilFunc => exact .cons _ _ _ _ .nilFunc .nil
  | nilIface => exact .cons _ _ _ _ .nilIface .nil
  | sym n p hp hn => exact .cons _ _ _ _ (.sym n p hp hn) .nil
  | tuple x x' hl => exact .cons _ _ _ _ (.tuple x x' hl) .nil
theorem zeroT_some {t : TypeId} {z : Value} (h : zeroT P t = some z) : ∃ i, P.info? t = some i ∧ i.zero = some z ∧ plain z = true := by
  unfold zeroT at h
  cases hi : P.info? t with
  | none => rw [hi] at h; cases h
  | some i =>
    rw [hi] at h
    dsimp only at h
    cases hz : i.zero with
    | none => rw [hz] at h; cases h
    | some u =>
      rw [hz] at h
      dsimp only at h
      cases hp : plain u with
      | false => rw [hp] at h; cases h
      | true =>
        rw [hp] at h
        obtain rfl : u = z := Option.some.inj h
        exact ⟨i, rfl, hz, hp⟩
theorem sizeT_some {t : TypeId} {n : Nat} (h : sizeT P t = some n) : ∃ i, P.info? t = some i ∧ i.size = n := by
  unfold sizeT at h
  cases hi : P.info? t with
  | none => rw [hi] at h; cases h
  | some i =>
    rw [hi] at h
    exact ⟨i, rfl, Option.some.inj h⟩
theorem newO_some {l : List Value} {t : TypeId} {f : Addr → Value} (h : newO H l t f = some (v, H')) : H.next < 2 ^ hd ∧ v = f ⟨H.next, 0, none⟩ ∧ H' = H.new (.cells l t false) := by
  unfold newO at h
  cases hb : Nat.blt H.next 1048576 with
  | false => rw [hb] at h; cases h
  | true =>
    rw [hb] at h
    have := Option.some.inj h
    exact ⟨Nat.le_of_ble_eq_true hb, (Prod.mk.inj this).1.symm, (Prod.mk.inj this).2.symm⟩
theorem Good.make (hI : Inv P N r H w) {l : List Value} {l' : Array Value} {t : TypeId} {f f' : Addr → Value} (hn : newO H l t f = some (v, H')) (hl : LR r l l'.toList)
    (hr : (execOp c.eval o).run P w = .ok (.value (f' ⟨w.heap.size, 0, none⟩)) (w.alloc (.cells l' t))) (hf : ∀ s : Rn, s H.next = some ⟨w.heap.size, 0, 0⟩ → VR s (f ⟨H.next, 0, none⟩) (f' ⟨w.heap.size, 0, none⟩)) : Good P N r c o w v H' := by
  obtain ⟨ht, rfl, rfl⟩ := newO_some hn
  exact ⟨_, _, _, _, hI.le_add ht _, hr, .inl rfl, hf _ (Rn.add_at _ _ _), hI.alloc ht hl false, (Bel.refl N w).alloc hI.low _⟩
theorem run_zero {t : TypeId} {i : TypeInfo} {z : Value} (hi : P.info? t = some i) (hz : i.zero = some z) (w : World) : (zeroValue t).run P w = .ok z w := by
  simp [zeroValue, typeInfo, hi, hz, Sem.run_bind]
theorem run_newVar (t : TypeId) (u : Value) (w : World) : (newVar t u).run P w = .ok ⟨w.heap.size, 0, none⟩ (w.alloc (.cells u.cells t)) := rfl
theorem s_alloc (hI : Inv P N r H w) (hF : FrR r a c) {t : TypeId} (ho : o.op = .alloc t) (h : opA P a o H = some (v, H')) : Good P N r c o w v H' := by
  unfold opA at h
  rw [ho] at h
  dsimp only at h
  cases hz : zeroT P t with
  | none => rw [hz] at h; cases h
  | some z =>
    rw [hz] at h
    obtain ⟨i, hi, hz0, hp⟩ := zeroT_some hz
    refine Good.make hI (f' := fun p => .pointer (some p)) h (cells_VR (plain_refl hp)) ?_ (fun s hs => .ptr H.next 0 ⟨w.heap.size, 0, 0⟩ hs)
    unfold execOp
    rw [ho]
    simp [Instr.alloc, run_zero hi hz0, run_newVar, Sem.run_bind]
theorem s_box (hI : Inv P N r H w) (hF : FrR r a c) {t : TypeId} {x : Operand} (ho : o.op = .box t x) (h : opA P a o H = some (v, H')) : Good P N r c o w v H' := by
  unfold opA at h
  rw [ho] at h
  dsimp only at h
  cases hx : ev a x with
  | none => rw [hx] at h; cases h
  | some u =>
    rw [hx] at h
    refine Good.make hI (f' := fun p => .pointer (some p)) h (cells_VR (ev_sound hF hx)) ?_ (fun s hs => .ptr H.next 0 ⟨w.heap.size, 0, 0⟩ hs)
    unfold execOp
    rw [ho]
    simp [Instr.box, run_newVar, Sem.run_bind]
/-- Parts alike. -/
inductive PR (r : Rn) : List (Nat × Value) → List (Nat × Value) → Prop
  | nil : PR r [] []
  | cons (i : Nat) (u u' : Value) (l l' : List (Nat × Value)) (h : VR r u u') (hl : PR r l l') : PR r ((i, u) :: l) ((i, u') :: l')
theorem evps_sound (hF : FrR r a c) : ∀ {xs : List (Nat × Operand)} {vs : List (Nat × Value)}, evps a xs = some vs → PR r vs (xs.map fun (i, x) => (i, c.eval x))
  | [], vs, hv => by
    obtain rfl : [] = vs := Option.some.inj hv
    exact .nil
  | (i, x) :: xs, vs, hv => by
    unfold evps at hv
    cases h1 : ev a x with
    | none => rw [h1] at hv; cases hv
    | some u =>
      rw [h1] at hv
      dsimp only at hv
      cases h2 : evps a xs with
      | none => rw [h2] at hv; cases hv
      | some us =>
        rw [h2] at hv
        obtain rfl := Option.some.inj hv
        exact .cons _ _ _ _ _ (ev_sound hF h1) (evps_sound hF h2)
theorem foldl_set : ∀ (l : List Value) (k off : Nat) (A : Array Value), ((l.zipIdx k).foldl (fun cs (x : Value × Nat) => cs.setIfInBounds (off + x.2) x.1) A).toList = setN A.toList (off + k) l
  | [], k, off, A => rfl
  | v :: l, k, off, A => by
    rw [List.zipIdx_cons, List.foldl_cons, foldl_set l (k + 1) off]
    show setN (A.setIfInBounds (off + k) v).toList (off + (k + 1)) l = setN (A.toList.set (off + k) v) (off + k + 1) l
    rw [Array.toList_setIfInBounds]
    rfl
theorem fill_sound {pl pl' : Nat → Option (Nat × Nat)} (hpl : ∀ i, pl' i = pl i) : ∀ {ps ps' : List (Nat × Value)} {l out : List Value} {l' : Array Value}, PR r ps ps' → LR r l l'.toList → fillL pl ps l = some out → ∃ out', Instr.fill pl' l' ps' = some out' ∧ LR r out out'.toList
  | _, _, l, out, l', .nil, hl, h => by
    obtain rfl : l = out := Option.some.inj h
    exact ⟨l', rfl, hl⟩
  | _, _, l, out, l', .cons i u u' ps ps' hu hps, hl, h => by
    unfold fillL at h
    cases hi : pl i with
    | none => rw [hi] at h; cases h
    | some q =>
      obtain ⟨off, size⟩ := q
      rw [hi] at h
      dsimp only at h
      cases hb : (Nat.beq (cellsOf u).length size && Nat.ble (off + size) l.length) with
      | false => rw [hb] at h; cases h
      | true =>
        rw [hb] at h
        rw [Bool.and_eq_true] at hb
        have h1 := Nat.eq_of_beq_eq_true hb.1
        have h2 := Nat.le_of_ble_eq_true hb.2
        have hc := cells_VR hu
        have hcl := hc.length
        have hll := hl.length
        have e : (u'.cells.zipIdx.foldl (fun cs (x, j) => cs.setIfInBounds (off + j) x) l').toList = setN l'.toList off u'.cells.toList := by
          rw [← Array.foldl_toList, Array.toList_zipIdx]
          exact foldl_set u'.cells.toList 0 off l'
        obtain ⟨out', ho, hr⟩ := fill_sound hpl (l' := u'.cells.zipIdx.foldl (fun cs (x, j) => cs.setIfInBounds (off + j) x) l') hps (by rw [e]; exact LR.setN off hc hl) h
        refine ⟨out', ?_, hr⟩
        unfold Instr.fill
        rw [hpl, hi]
        dsimp only
        have z1 : u'.cells.size = size := by rw [← Array.length_toList, ← hcl, h1]
        have z2 : l.length = l'.size := hll.trans Array.length_toList
        rw [if_neg]
        · exact ho
        · rw [z1]
          simp
          omega
theorem fieldPl_eq : ∀ {fs : List Field} {l : List (Nat × Nat)}, fieldPl P fs = some l → fs.mapM (fun f => (P.info? f.type).map fun i => (f.offset, i.size)) = some l
  | [], l, h => by
    obtain rfl : [] = l := Option.some.inj h
    rfl
  | f :: fs, l, h => by
    unfold fieldPl at h
    cases h1 : sizeT P f.type with
    | none => rw [h1] at h; cases h
    | some n =>
      rw [h1] at h
      dsimp only at h
      cases h2 : fieldPl P fs with
      | none => rw [h2] at h; cases h
      | some l2 =>
        rw [h2] at h
        obtain rfl := Option.some.inj h
        obtain ⟨i, hi, hn⟩ := sizeT_some h1
        simp [List.mapM_cons, hi, hn, fieldPl_eq h2]
theorem s_build (hI : Inv P N r H w) (hF : FrR r a c) {t : TypeId} {parts : Array (Nat × Operand)} (ho : o.op = .build t parts) (h : opA P a o H = some (v, H')) : Good P N r c o w v H' := by
  unfold opA at h
  rw [ho] at h
  dsimp only at h
  cases hz : zeroT P t with
  | none => rw [hz] at h; cases h
  | some z =>
    rw [hz] at h
    cases hp : evps a parts.toList with
    | none => rw [hp] at h; cases h
    | some ps =>
      rw [hp] at h
      dsimp only at h
      have hps := evps_sound hF hp
      obtain ⟨i, hi, hz0, hpl⟩ := zeroT_some hz
      have hzl := cells_VR (r := r) (plain_refl hpl)
      have fin : ∀ (pl pl' : Nat → Option (Nat × Nat)), (∀ i, pl' i = pl i) → (∀ cs, Instr.fill pl' z.cells (parts.toList.map fun (i, x) => (i, c.eval x)) = some cs → P.built t (parts.map fun (i, x) => (i, c.eval x)).toList = some cs) → (match fillL pl ps (cellsOf z) with | some c => some (Value.agg c.toArray, H) | none => none) = some (v, H') → Good P N r c o w v H' := by
        intro pl pl' he hb hh
        cases hf : fillL pl ps (cellsOf z) with
        | none => rw [hf] at hh; cases hh
        | some out =>
          rw [hf] at hh
          have := Option.some.inj hh
          obtain ⟨rfl, rfl⟩ := Prod.mk.inj this
          obtain ⟨out', h1, h2⟩ := fill_sound he hps hzl hf
          refine Good.same hI (v' := .agg out') ?_ (.agg _ _ h2)
          unfold execOp
          rw [ho]
          simp [run_build w t _ out' (hb _ h1), Sem.run_bind]
      cases hu : P.underlying t with
      | none => rw [hu] at h; cases h
      | some d =>
        rw [hu] at h
        cases d <;> try (cases h; done)
        case struct fields =>
          dsimp only at h
          cases hfp : fieldPl P fields.toList with
          | none => rw [hfp] at h; cases h
          | some pl =>
            rw [hfp] at h
            refine fin (fun i => pl[i]?) (pl.toArray[·]?) (fun i => by simp) (fun cs hcs => ?_) h
            unfold Program.built
            rw [hi, hu]
            dsimp only
            rw [hz0, fieldPl_eq hfp]
            dsimp only
            rw [Array.toList_map]
            exact hcs
        case array n e =>
          dsimp only at h
          cases hs : sizeT P e with
          | none => rw [hs] at h; cases h
          | some size =>
            rw [hs] at h
            obtain ⟨ie, hie, hsz⟩ := sizeT_some hs
            refine fin (fun i => some (i * size, size)) (fun i => some (i * ie.size, ie.size)) (fun i => by rw [hsz]) (fun cs hcs => ?_) h
            unfold Program.built
            rw [hi, hu]
            dsimp only
            rw [hz0, hie]
            dsimp only
            rw [Array.toList_map]
            exact hcs
theorem repl_length (n : Nat) (z : List Value) : (repl n z).length = n * z.length := by
  induction n with
  | zero => show 0 = 0 * _; omega
  | succ n ih =>
    show (z ++ repl n z).length = _
    rw [List.length_append, ih, Nat.succ_mul, Nat.add_comm]
theorem repl_get (n : Nat) (z : List Value) (k : Nat) (hk : k < n * z.length) : (repl n z)[k]? = z[k % z.length]? := by
  induction n generalizing k with
  | zero => omega
  | succ n ih =>
    show (z ++ repl n z)[k]? = _
    rw [Nat.succ_mul] at hk
    by_cases h : k < z.length
    · rw [List.getElem?_append_left h, Nat.mod_eq_of_lt h]
    · rw [List.getElem?_append_right (by omega), ih (k - z.length) (by omega), Nat.mod_eq_sub_mod (a := k) (by omega)]
theorem repl_range (n : Nat) (z : Value) (size : Nat) (hs : (cellsOf z).length = size) (h0 : 0 < size) (hp : plain z = true) : LR r (repl n (cellsOf z)) ((Array.range (n * size)).map (z.cells[· % z.cells.size]!)).toList := by
  have hc := cells_VR (r := r) (plain_refl hp)
  have hcl := hc.length
  have hsz : z.cells.size = size := by rw [← Array.length_toList, ← hcl, hs]
  refine LR.of_get ?_ (fun k u hk => ?_)
  · rw [repl_length, hs]
    simp
  · have hlt : k < n * size := by
      have := (List.getElem?_eq_some_iff.1 hk).1
      rw [repl_length, hs] at this
      exact this
    rw [repl_get n _ k (by rw [hs]; exact hlt), hs] at hk
    obtain ⟨u', hu', hr⟩ := hc.get _ _ hk
    refine ⟨u', ?_, hr⟩
    have hm : k % size < size := Nat.mod_lt _ h0
    rw [Array.getElem?_toList, Array.getElem?_map]
    simp [hlt, hsz]
    rw [Array.getElem?_toList] at hu'
    simp [getElem!_def, hu']
theorem s_buildSlice (hI : Inv P N r H w) (hF : FrR r a c) {t : TypeId} {len : Nat} {parts : Array (Nat × Operand)} (ho : o.op = .buildSlice t len parts) (h : opA P a o H = some (v, H')) : Good P N r c o w v H' := by
  unfold opA at h
  rw [ho] at h
  dsimp only at h
  cases hu : P.underlying t with
  | none => rw [hu] at h; cases h
  | some d =>
    rw [hu] at h
    cases d <;> try (cases h; done)
    case slice e =>
      cases hp : evps a parts.toList with
      | none => rw [hp] at h; cases h
      | some ps =>
        rw [hp] at h
        dsimp only at h
        cases hs : sizeT P e with
        | none => rw [hs] at h; cases h
        | some size =>
          rw [hs] at h
          cases hz : zeroT P e with
          | none => rw [hz] at h; cases h
          | some z =>
            rw [hz] at h
            dsimp only at h
            cases hb : (Nat.beq (cellsOf z).length size && Nat.blt 0 size && Nat.ble (len * size) 16777216) with
            | false => rw [hb] at h; cases h
            | true =>
              rw [hb] at h
              rw [Bool.and_eq_true, Bool.and_eq_true] at hb
              have h1 := Nat.eq_of_beq_eq_true hb.1.1
              have h2 : 0 < size := Nat.le_of_ble_eq_true hb.1.2
              have h3 := Nat.le_of_ble_eq_true hb.2
              obtain ⟨i, hi, hz0, hpl⟩ := zeroT_some hz
              obtain ⟨i2, hi2, hsz⟩ := sizeT_some hs
              obtain rfl : i2 = i := Option.some.inj (hi2.symm.trans hi)
              dsimp only [cond_true] at h
              cases hf : fillL (fun i => some (i * size, size)) ps (repl len (cellsOf z)) with
              | none => rw [hf] at h; cases h
              | some out =>
                rw [hf] at h
                obtain ⟨out', g1, g2⟩ := fill_sound (pl' := fun i => some (i * i2.size, i2.size)) (fun i => by rw [hsz]) (evps_sound hF hp) (repl_range (r := r) len z size h1 h2 hpl) hf
                refine Good.make hI (f' := fun p => .slice (some p) len len) h g2 ?_ (fun s hs => .sl H.next 0 len len ⟨w.heap.size, 0, 0⟩ hs)
                unfold execOp
                rw [ho]
                by_cases h0 : len * i2.size = 0
                · have hl0 : len = 0 := by
                    rw [hsz] at h0
                    rcases Nat.mul_eq_zero.1 h0 with h | h
                    · exact h
                    · omega
                  subst hl0
                  have e0 : ∀ f : Nat → Value, Array.map f (Array.range 0) = #[] := fun f => by rw [show Array.range 0 = #[] from rfl]; simp
                  have g3 : Instr.fill (fun i => some (i * i2.size, i2.size)) #[] (parts.toList.map fun x => (x.fst, c.eval x.snd)) = some out' := by
                    rw [Nat.zero_mul, e0] at g1
                    exact g1
                  simp [Instr.buildSlice, run_underlying hu, sizeOf, typeInfo, hi, e0, g3, newRow, Sem.run_bind]
                · simp [run_buildSlice w t e len _ out' i2 z hu hi hz0 (by rw [hsz]; omega) h0 (by rw [hsz, Array.toList_map]; rw [hsz] at g1; exact g1), Sem.run_bind]
theorem run_isAgg {t : TypeId} {b : Bool} (h : isAggT P t = some b) (w : World) : (isAgg t).run P w = .ok b w := by
  unfold isAggT at h
  cases hu : P.underlying t with
  | none => rw [hu] at h; cases h
  | some d =>
    rw [hu] at h
    cases d <;> (obtain rfl := Option.some.inj h; simp [isAgg, run_underlying hu, Sem.run_bind])
theorem loadV_sound (hI : Inv P N r H w) {t : TypeId} {i off : Nat} {p : Pl} (hp : r i = some p) (h : loadV P H t ⟨i, off, none⟩ = some v) : ∃ v', (loadVar t ⟨p.b, p.o + off, none⟩).run P w = .ok v' w ∧ VR r v v' := by
  unfold loadV at h
  cases ha : isAggT P t with
  | none => rw [ha] at h; cases h
  | some b =>
    rw [ha] at h
    cases b with
    | true =>
      dsimp only at h
      cases hs : sizeT P t with
      | none => rw [hs] at h; cases h
      | some n =>
        rw [hs] at h
        dsimp only at h
        cases hl : loadC H ⟨i, off, none⟩ n with
        | none => rw [hl] at h; cases h
        | some cs =>
          rw [hl] at h
          obtain rfl := Option.some.inj h
          obtain ⟨cs', h1, h2, h3, h4⟩ := load_sound hI hp hl
          obtain ⟨ti, hi, hn⟩ := sizeT_some hs
          refine ⟨.agg cs'.toArray, ?_, .agg _ _ h2⟩
          subst hn
          simp [loadVar, run_isAgg ha, sizeOf, typeInfo, hi, h1, Sem.run_bind]
    | false =>
      dsimp only at h
      cases hl : loadC H ⟨i, off, none⟩ 1 with
      | none => rw [hl] at h; cases h
      | some cs =>
        rw [hl] at h
        obtain ⟨cs', h1, h2, h3, h4⟩ := load_sound hI hp hl
        cases h2 with
        | nil => simp at h3
        | cons u u' l l' hu hl2 =>
          cases hl2 with
          | cons _ _ _ _ _ _ => simp at h3
          | nil =>
            obtain rfl := Option.some.inj h
            have hc := h4 0 u' rfl
            rw [Addr.add_lit, Nat.add_zero] at hc
            refine ⟨u', ?_, hu⟩
            have hl3 : (load ⟨p.b, p.o + off, none⟩).run P w = .ok u' w := by
              unfold load Sem.run
              rw [hc]
              rfl
            simp [loadVar, run_isAgg ha, hl3, hc, Sem.run_bind]
theorem ptr_inv {x : Operand} {p0 : Addr} (hF : FrR r a c) (h : ev a x = some (.pointer (some p0))) : ∃ i off p, p0 = ⟨i, off, none⟩ ∧ r i = some p ∧ c.eval x = .pointer (some ⟨p.b, p.o + off, none⟩) := by
  have hx := ev_sound hF h
  obtain ⟨b, hb⟩ : ∃ b, c.eval x = b := ⟨_, rfl⟩
  rw [hb] at hx ⊢
  cases hx with
  | ptr i off p hp => exact ⟨i, off, p, rfl, hp, rfl⟩
theorem s_load (hI : Inv P N r H w) (hF : FrR r a c) {t : TypeId} {x : Operand} (ho : o.op = .load t x) (h : opA P a o H = some (v, H')) : Good P N r c o w v H' := by
  unfold opA at h
  rw [ho] at h
  dsimp only at h
  cases hx : ev a x with
  | none => rw [hx] at h; cases h
  | some u =>
    rw [hx] at h
    cases u <;> try (cases h; done)
    case pointer q =>
      cases q with
      | none => cases h
      | some p0 =>
        dsimp only at h
        obtain ⟨i, off, p, rfl, hp, he⟩ := ptr_inv hF hx
        obtain ⟨h1, rfl⟩ := okV_some h
        obtain ⟨v', h2, h3⟩ := loadV_sound hI hp h1
        refine Good.same hI (v' := v') ?_ h3
        unfold execOp
        rw [ho]
        simp [he, Instr.loadAt, Instr.sureAddr, h2, Sem.run_bind]
theorem s_store (hI : Inv P N r H w) (hF : FrR r a c) {t : TypeId} {x y : Operand} (ho : o.op = .store t x y) (h : opA P a o H = some (v, H')) : Good P N r c o w v H' := by
  unfold opA at h
  rw [ho] at h
  dsimp only at h
  cases hx : ev a x with
  | none => rw [hx] at h; cases h
  | some u =>
    rw [hx] at h
    cases u <;> try (cases h; done)
    case pointer q =>
      cases q with
      | none => cases h
      | some p0 =>
        cases hy : ev a y with
        | none => rw [hy] at h; cases h
        | some z =>
          rw [hy] at h
          dsimp only at h
          obtain ⟨i, off, p, rfl, hp, he⟩ := ptr_inv hF hx
          have hz := cells_VR (ev_sound hF hy)
          cases hs : sizeT P t with
          | none => rw [hs] at h; cases h
          | some n =>
            rw [hs] at h
            dsimp only at h
            cases hb : (Nat.beq (cellsOf z).length n && (cellsOf z).all oneB) with
            | false => rw [hb] at h; cases h
            | true =>
              rw [hb] at h
              rw [Bool.and_eq_true] at hb
              have h1 := Nat.eq_of_beq_eq_true hb.1
              dsimp only [cond_true] at h
              cases hst : storeC H ⟨i, off, none⟩ (cellsOf z) with
              | none => rw [hst] at h; cases h
              | some H2 =>
                rw [hst] at h
                have := Option.some.inj h
                obtain ⟨rfl, rfl⟩ := Prod.mk.inj this
                obtain ⟨w', g1, g2, g3, -, -⟩ := store_sound hI hp hz (oneB_LR hz hb.2) hst
                obtain ⟨ti, hi, hn⟩ := sizeT_some hs
                have hcl := hz.length
                refine ⟨r, undef, w', .skip, Rn.le_refl _, ?_, .inr ⟨rfl, rfl⟩, undef_VR, g2, g3⟩
                unfold execOp
                rw [ho]
                have hn2 : (c.eval y).cells.size = ti.size := by rw [hn, ← h1, hcl, Array.length_toList]
                simp [he, Instr.storeAt, Instr.sureAddr, storeVar, sizeOf, typeInfo, hi, hn2, g1, Sem.run_bind]
theorem s_nilCheck (hI : Inv P N r H w) (hF : FrR r a c) {x : Operand} (ho : o.op = .nilCheck x) (h : opA P a o H = some (v, H')) : Good P N r c o w v H' := by
  unfold opA at h
  rw [ho] at h
  dsimp only at h
  cases hx : ev a x with
  | none => rw [hx] at h; cases h
  | some u =>
    rw [hx] at h
    cases u <;> try (cases h; done)
    case pointer q =>
      cases q with
      | none => cases h
      | some p0 =>
        have := Option.some.inj h
        obtain ⟨rfl, rfl⟩ := Prod.mk.inj this
        have hv := ev_sound hF hx
        obtain ⟨i, off, p, rfl, hp, he⟩ := ptr_inv hF hx
        refine Good.same hI (v' := c.eval x) ?_ hv
        unfold execOp
        rw [ho]
        simp [he, Sem.run_bind]
theorem s_unOp (hI : Inv P N r H w) (hF : FrR r a c) {op : UnOp} {t : TypeId} {x : Operand} (ho : o.op = .unOp op t x) (h : opA P a o H = some (v, H')) : Good P N r c o w v H' := by
  unfold opA at h
  rw [ho] at h
  dsimp only at h
  cases hx : ev a x with
  | none => rw [hx] at h; cases h
  | some u =>
    rw [hx] at h
    dsimp only at h
    cases hp : plain u with
    | false => rw [hp] at h; cases h
    | true =>
      rw [hp] at h
      obtain ⟨h1, rfl, hv⟩ := okP_some h
      have e := plain_eq hp (ev_sound hF hx)
      refine Good.same hI (v' := v) ?_ (plain_refl hv)
      unfold execOp
      rw [ho]
      simp [e, pure_sound h1 w, Sem.run_bind]
theorem s_convert (hI : Inv P N r H w) (hF : FrR r a c) {s t : TypeId} {x : Operand} (ho : o.op = .convert s t x) (h : opA P a o H = some (v, H')) : Good P N r c o w v H' := by
  unfold opA at h
  rw [ho] at h
  dsimp only at h
  cases hx : ev a x with
  | none => rw [hx] at h; cases h
  | some u =>
    rw [hx] at h
    dsimp only at h
    cases hp : plain u with
    | false => rw [hp] at h; cases h
    | true =>
      rw [hp] at h
      obtain ⟨h1, rfl, hv⟩ := okP_some h
      have e := plain_eq hp (ev_sound hF hx)
      refine Good.same hI (v' := v) ?_ (plain_refl hv)
      unfold execOp
      rw [ho]
      simp [e, pure_sound h1 w, Sem.run_bind]
theorem nil_sound {u z u' z' : Value} {t : TypeId} {b : Bool} (hu : VR r u u') (hz : VR r z z') (h : nilEq (P.underlying t) u z = some b) (w : World) :
    (Op.equal t u' z').run P w = .ok b w ∧ ∀ op x y, (eqGuard op t x y u' z').run P w = .ok () w := by
  unfold nilEq at h
  cases hd : P.underlying t with
  | none => rw [hd] at h; cases h
  | some d =>
    rw [hd] at h
    cases d <;> try (cases h; done)
    all_goals
      dsimp only at h
      cases hu <;> cases hz <;> first | (cases h; done) | skip
      all_goals
        dsimp only at h
        obtain rfl := Option.some.inj h
        refine ⟨?_, fun op x y => ?_⟩
        · obtain ⟨m, hm⟩ : ∃ m, Op.maxDepth = m + 1 := ⟨9999, rfl⟩
          rw [Op.equal, hm, Op.equalIn, Sem.run_bind, run_underlying hd]
          rfl
        · cases op <;> rfl
theorem symEq_some {u z : Value} {b : Bool} (h : symEq u z = some b) : ∃ n, u = .iface n .nilFunc ∧ z = .iface n .nilFunc ∧ b = true := by
  unfold symEq at h
  split at h
  · rename_i n m
    cases hb : Nat.beq n m with
    | false => rw [hb] at h; cases h
    | true =>
      rw [hb] at h
      obtain rfl := Nat.eq_of_beq_eq_true hb
      exact ⟨n, rfl, rfl, (Option.some.inj h).symm⟩
  · cases h
theorem sym_inv {n : Nat} {u z : Value} (hu : VR r (.iface n .nilFunc) u) (hz : VR r (.iface n .nilFunc) z) : ∃ s, u = .string s ∧ z = .string s := by
  cases hu with
  | sym _ p hp _ =>
    cases hz with
    | sym _ q hq _ =>
      obtain rfl := Option.some.inj (hq.symm.trans hp)
      exact ⟨_, rfl, rfl⟩
theorem run_symEql (t : TypeId) (x y : Operand) (s : ByteArray) (w : World) : (do eqGuard .eql t x y (.string s) (.string s); binOp .eql t (.string s) (.string s) : Sem Value).run P w = .ok (.bool true) w := by
  have h : binOp .eql t (.string s) (.string s) = pure (.bool (s.toList == s.toList)) := rfl
  rw [h, beq_self_eq_true]
  rfl
theorem run_symNeq (t : TypeId) (x y : Operand) (s : ByteArray) (w : World) : (do eqGuard .neq t x y (.string s) (.string s); binOp .neq t (.string s) (.string s) : Sem Value).run P w = .ok (.bool false) w := by
  have h : binOp .neq t (.string s) (.string s) = pure (.bool !(s.toList == s.toList)) := rfl
  rw [h, beq_self_eq_true]
  rfl
theorem s_binOp (hI : Inv P N r H w) (hF : FrR r a c) {op : BinOp} {t t2 : TypeId} {x y : Operand} (ho : o.op = .binOp op t x y t2) (h : opA P a o H = some (v, H')) : Good P N r c o w v H' := by
  unfold opA at h
  rw [ho] at h
  dsimp only at h
  cases hx : ev a x with
  | none => rw [hx] at h; cases h
  | some u =>
    rw [hx] at h
    cases hy : ev a y with
    | none => rw [hy] at h; cases h
    | some z =>
      rw [hy] at h
      dsimp only at h
      obtain ⟨h1, rfl⟩ := okV_some h
      unfold binA at h1
      have hu := ev_sound hF hx
      have hz := ev_sound hF hy
      cases hp : (plain u && plain z) with
      | true =>
        rw [hp] at h1
        rw [Bool.and_eq_true] at hp
        rw [cond_true] at h1
        cases hr : pureRun P (do eqGuard op t x y u z; binOp op t u z) with
        | none => rw [hr] at h1; cases h1
        | some v1 =>
          rw [hr] at h1
          dsimp only at h1
          cases hpv : plain v1 with
          | false => rw [hpv] at h1; cases h1
          | true =>
            rw [hpv] at h1
            obtain rfl := Option.some.inj h1
            have e1 := plain_eq hp.1 hu
            have e2 := plain_eq hp.2 hz
            have hrun := pure_sound hr w
            refine Good.same hI (v' := v1) ?_ (plain_refl hpv)
            unfold execOp
            rw [ho]
            dsimp only
            rw [e1, e2, Sem.run_bind, hrun]
            rfl
      | false =>
        rw [hp] at h1
        rw [cond_false] at h1
        cases op <;> try (cases h1; done)
        case eql =>
          dsimp only at h1
          cases hse : symEq u z with
          | some b =>
            rw [hse] at h1
            obtain rfl := Option.some.inj h1
            obtain ⟨n, rfl, rfl, rfl⟩ := symEq_some hse
            obtain ⟨s, e1, e2⟩ := sym_inv hu hz
            refine Good.same hI (v' := .bool true) ?_ (.bool _)
            unfold execOp
            rw [ho]
            dsimp only
            rw [e1, e2, Sem.run_bind, run_symEql]
            rfl
          | none =>
          rw [hse] at h1
          dsimp only at h1
          cases hn : nilEq (P.underlying t) u z with
          | none => rw [hn] at h1; cases h1
          | some b =>
            rw [hn] at h1
            obtain rfl := Option.some.inj h1
            obtain ⟨g1, g2⟩ := nil_sound hu hz hn w
            refine Good.same hI (v' := .bool b) ?_ (.bool b)
            unfold execOp
            rw [ho]
            dsimp only
            have hb : binOp .eql t (c.eval x) (c.eval y) = (do pure (.bool (← Op.equal t (c.eval x) (c.eval y)))) := by
              unfold nilEq at hn
              cases hd : P.underlying t with
              | none => rw [hd] at hn; cases hn
              | some d =>
                rw [hd] at hn
                obtain ⟨u', hu'⟩ : ∃ u', c.eval x = u' := ⟨_, rfl⟩
                obtain ⟨z', hz'⟩ : ∃ z', c.eval y = z' := ⟨_, rfl⟩
                rw [hu'] at hu ⊢
                rw [hz'] at hz ⊢
                cases d <;> try (cases hn; done)
                all_goals
                  dsimp only at hn
                  cases hu <;> cases hz <;> first | (cases hn; done) | rfl
            simp [hb, g1, g2, Sem.run_bind]
        case neq =>
          dsimp only at h1
          cases hse : symEq u z with
          | some b =>
            rw [hse] at h1
            obtain rfl := Option.some.inj h1
            obtain ⟨n, rfl, rfl, rfl⟩ := symEq_some hse
            obtain ⟨s, e1, e2⟩ := sym_inv hu hz
            refine Good.same hI (v' := .bool false) ?_ (.bool _)
            unfold execOp
            rw [ho]
            dsimp only
            rw [e1, e2, Sem.run_bind, run_symNeq]
            rfl
          | none =>
          rw [hse] at h1
          dsimp only at h1
          cases hn : nilEq (P.underlying t) u z with
          | none => rw [hn] at h1; cases h1
          | some b =>
            rw [hn] at h1
            obtain rfl := Option.some.inj h1
            obtain ⟨g1, g2⟩ := nil_sound hu hz hn w
            refine Good.same hI (v' := .bool !b) ?_ (.bool _)
            unfold execOp
            rw [ho]
            dsimp only
            have hb : binOp .neq t (c.eval x) (c.eval y) = (do pure (.bool (!(← Op.equal t (c.eval x) (c.eval y))))) := by
              unfold nilEq at hn
              cases hd : P.underlying t with
              | none => rw [hd] at hn; cases hn
              | some d =>
                rw [hd] at hn
                obtain ⟨u', hu'⟩ : ∃ u', c.eval x = u' := ⟨_, rfl⟩
                obtain ⟨z', hz'⟩ : ∃ z', c.eval y = z' := ⟨_, rfl⟩
                rw [hu'] at hu ⊢
                rw [hz'] at hz ⊢
                cases d <;> try (cases hn; done)
                all_goals
                  dsimp only at hn
                  cases hu <;> cases hz <;> first | (cases hn; done) | rfl
            simp [hb, g1, g2, Sem.run_bind]
theorem agg_inv {x : Operand} {cs : Array Value} (hF : FrR r a c) (h : ev a x = some (.agg cs)) : ∃ cs', c.eval x = .agg cs' ∧ LR r cs.toList cs'.toList := by
  have hx := ev_sound hF h
  obtain ⟨b, hb⟩ : ∃ b, c.eval x = b := ⟨_, rfl⟩
  rw [hb] at hx ⊢
  cases hx with
  | agg _ cs' hl => exact ⟨cs', rfl, hl⟩
theorem int_inv {x : Operand} {k : IntKind} {n : Int} (hF : FrR r a c) (h : ev a x = some (.int k n)) : c.eval x = .int k n := plain_eq rfl (ev_sound hF h)
theorem run_size {t : TypeId} {n : Nat} (h : sizeT P t = some n) (w : World) : (sizeOf t).run P w = .ok n w := by
  obtain ⟨i, hi, hn⟩ := sizeT_some h
  subst hn
  simp [sizeOf, typeInfo, hi, Sem.run_bind]
theorem take_extract (cs : Array Value) (o n : Nat) : ((cs.toList.drop o).take n) = (cs.extract o (o + n)).toList := by
  rw [Array.toList_extract]
  simp [List.extract]
theorem part_agg {t : TypeId} {cs cs' : Array Value} (hl : LR r cs.toList cs'.toList) {off n : Nat} (ha : isAggT P t = some true) (hs : sizeT P t = some n) {l : List Value} (h : takeN cs.toList off n = some l) (w : World) :
    ∃ v', (part t cs' off).run P w = .ok v' w ∧ VR r (.agg l.toArray) v' := by
  obtain ⟨h1, rfl⟩ := takeN_some h
  refine ⟨.agg (cs'.extract off (off + n)), ?_, .agg _ _ ?_⟩
  · simp [part, run_isAgg ha, run_size hs, Sem.run_bind]
  · show LR r ((cs.toList.drop off).take n) _
    rw [← take_extract]
    exact (hl.drop off).take n
theorem part_one {t : TypeId} {cs cs' : Array Value} (hl : LR r cs.toList cs'.toList) {off : Nat} (ha : isAggT P t = some false) {u : Value} (h : cs.toList[off]? = some u) (w : World) :
    ∃ v', (part t cs' off).run P w = .ok v' w ∧ VR r u v' := by
  obtain ⟨u', h1, h2⟩ := hl.get _ _ h
  rw [Array.getElem?_toList] at h1
  refine ⟨u', ?_, h2⟩
  simp [part, run_isAgg ha, h1, Sem.run_bind]
theorem s_extract (hI : Inv P N r H w) (hF : FrR r a c) {x : Operand} {i : Nat} (ho : o.op = .extract x i) (h : opA P a o H = some (v, H')) : Good P N r c o w v H' := by
  unfold opA at h
  rw [ho] at h
  dsimp only at h
  cases hx : ev a x with
  | none => rw [hx] at h; cases h
  | some u =>
    rw [hx] at h
    cases u <;> try (cases h; done)
    case tuple vs =>
      dsimp only at h
      have hv := ev_sound hF hx
      obtain ⟨b, hb⟩ : ∃ b, c.eval x = b := ⟨_, rfl⟩
      rw [hb] at hv
      cases hv with
      | tuple _ vs' hl =>
        cases hg : vs.toList[i]? with
        | none => rw [hg] at h; cases h
        | some u =>
          rw [hg] at h
          have := Option.some.inj h
          obtain ⟨rfl, rfl⟩ := Prod.mk.inj this
          obtain ⟨u', h1, h2⟩ := hl.get _ _ hg
          rw [Array.getElem?_toList] at h1
          refine Good.same hI (v' := u') ?_ h2
          unfold execOp
          rw [ho]
          simp [hb, Instr.extract, h1, Sem.run_bind]
theorem s_field (hI : Inv P N r H w) (hF : FrR r a c) {t : TypeId} {x : Operand} {f : Nat} (ho : o.op = .field t x f) (h : opA P a o H = some (v, H')) : Good P N r c o w v H' := by
  unfold opA at h
  rw [ho] at h
  dsimp only at h
  cases hx : ev a x with
  | none => rw [hx] at h; cases h
  | some u =>
    rw [hx] at h
    cases u <;> try (cases h; done)
    case agg cs =>
      cases hu : P.underlying t with
      | none => rw [hu] at h; cases h
      | some d =>
        rw [hu] at h
        cases d <;> try (cases h; done)
        case struct fields =>
          dsimp only at h
          obtain ⟨cs', he, hl⟩ := agg_inv hF hx
          cases hf : fields[f]? with
          | none => rw [hf] at h; cases h
          | some fl =>
            rw [hf] at h
            dsimp only at h
            cases ha : isAggT P fl.type with
            | none => rw [ha] at h; cases h
            | some b =>
              rw [ha] at h
              cases b with
              | true =>
                cases hs : sizeT P fl.type with
                | none => rw [hs] at h; cases h
                | some n =>
                  rw [hs] at h
                  dsimp only at h
                  cases htk : takeN cs.toList fl.offset n with
                  | none => rw [htk] at h; cases h
                  | some l =>
                    rw [htk] at h
                    have := Option.some.inj h
                    obtain ⟨rfl, rfl⟩ := Prod.mk.inj this
                    obtain ⟨v', h1, h2⟩ := part_agg hl ha hs htk w
                    refine Good.same hI (v' := v') ?_ h2
                    unfold execOp
                    rw [ho]
                    simp [he, Instr.field, run_underlying hu, hf, asAgg, h1, Sem.run_bind]
              | false =>
                dsimp only at h
                cases hg : cs.toList[fl.offset]? with
                | none => rw [hg] at h; cases h
                | some u =>
                  rw [hg] at h
                  have := Option.some.inj h
                  obtain ⟨rfl, rfl⟩ := Prod.mk.inj this
                  obtain ⟨v', h1, h2⟩ := part_one hl ha hg w
                  refine Good.same hI (v' := v') ?_ h2
                  unfold execOp
                  rw [ho]
                  simp [he, Instr.field, run_underlying hu, hf, asAgg, h1, Sem.run_bind]
theorem inB_some {i : Int} {n k : Nat} (h : inB i n = some k) : i = (k : Int) ∧ k < n := by
  unfold inB at h
  cases i with
  | ofNat m =>
    dsimp only at h
    cases hb : Nat.blt m n with
    | false => rw [hb] at h; cases h
    | true =>
      rw [hb] at h
      obtain rfl := Option.some.inj h
      exact ⟨rfl, Nat.le_of_ble_eq_true hb⟩
  | negSucc m => cases h
theorem leB_some {i : Int} {n k : Nat} (h : leB i n = some k) : i = (k : Int) ∧ k ≤ n := by
  unfold leB at h
  cases i with
  | ofNat m =>
    dsimp only at h
    cases hb : Nat.ble m n with
    | false => rw [hb] at h; cases h
    | true =>
      rw [hb] at h
      obtain rfl := Option.some.inj h
      exact ⟨rfl, Nat.le_of_ble_eq_true hb⟩
  | negSucc m => cases h
theorem s_fieldAddr (hI : Inv P N r H w) (hF : FrR r a c) {t : TypeId} {x : Operand} {f : Nat} (ho : o.op = .fieldAddr t x f) (h : opA P a o H = some (v, H')) : Good P N r c o w v H' := by
  unfold opA at h
  rw [ho] at h
  dsimp only at h
  cases hx : ev a x with
  | none => rw [hx] at h; cases h
  | some u =>
    rw [hx] at h
    cases u <;> try (cases h; done)
    case pointer q =>
      cases q with
      | none => cases h
      | some p0 =>
        obtain ⟨i, off, p, rfl, hp, he⟩ := ptr_inv hF hx
        cases hu : P.underlying t with
        | none => rw [hu] at h; cases h
        | some d =>
          rw [hu] at h
          cases d <;> try (cases h; done)
          case struct fields =>
            dsimp only at h
            cases hf : fields[f]? with
            | none => rw [hf] at h; cases h
            | some fl =>
              rw [hf] at h
              dsimp only at h
              cases hs : sizeT P fl.type with
              | none => rw [hs] at h; cases h
              | some n =>
                rw [hs] at h
                dsimp only at h
                cases hb : Nat.blt 0 n with
                | false => rw [hb] at h; cases h
                | true =>
                  rw [hb] at h
                  have := Option.some.inj h
                  obtain ⟨rfl, rfl⟩ := Prod.mk.inj this
                  have hn : ¬ n = 0 := by have : 0 < n := Nat.le_of_ble_eq_true hb; omega
                  refine Good.same hI (v' := .pointer (some ⟨p.b, p.o + off + fl.offset, none⟩)) ?_ ?_
                  · unfold execOp
                    rw [ho]
                    simp [he, Instr.fieldAt, run_underlying hu, hf, Instr.sureAddr, fieldPlace, run_size hs, hn, Addr.add_lit, Sem.run_bind]
                  · unfold addA
                    rw [Addr.add_lit, Nat.add_assoc]
                    exact .ptr i (off + fl.offset) p hp
theorem s_makeFunc (hI : Inv P N r H w) (hF : FrR r a c) {fn : Fn} {f g : Array Operand} (ho : o.op = .makeFunc fn f g) (h : opA P a o H = some (v, H')) : Good P N r c o w v H' := by
  unfold opA at h
  rw [ho] at h
  dsimp only at h
  cases h1 : evs a f.toList with
  | none => rw [h1] at h; cases h
  | some fs =>
    rw [h1] at h
    cases h2 : evs a g.toList with
    | none => rw [h2] at h; cases h
    | some cs =>
      rw [h2] at h
      have := Option.some.inj h
      obtain ⟨rfl, rfl⟩ := Prod.mk.inj this
      refine Good.same hI (v' := .func fn (f.map c.eval) (g.map c.eval)) ?_ (.func _ _ _ _ _ (by rw [Array.toList_map]; exact evs_sound hF h1) (by rw [Array.toList_map]; exact evs_sound hF h2))
      unfold execOp
      rw [ho]
      simp [Instr.makeFunc, Sem.run_bind]
theorem s_makeMap (hI : Inv P N r H w) (hF : FrR r a c) {t : TypeId} (ho : o.op = .makeMap t none) (h : opA P a o H = some (v, H')) : Good P N r c o w v H' := by
  unfold opA at h
  rw [ho] at h
  dsimp only at h
  cases hb : Nat.blt H.next 1048576 with
  | false => rw [hb] at h; cases h
  | true =>
    rw [hb] at h
    have := Option.some.inj h
    obtain ⟨rfl, rfl⟩ := Prod.mk.inj this
    have ht : H.next < 2 ^ hd := Nat.le_of_ble_eq_true hb
    refine ⟨r.add H.next ⟨w.heap.size, 0, 0⟩, .map (some w.heap.size), w.alloc (.map #[] 0), _, hI.le_add ht _, ?_, .inl rfl, .map H.next ⟨w.heap.size, 0, 0⟩ (Rn.add_at _ _ _), ?_, (Bel.refl N w).alloc hI.low _⟩
    · unfold execOp
      rw [ho]
      rfl
    · refine hI.make ht hI.fresh (by rw [World.size_alloc]; omega) (fun i oi pi hi ho hdd hp => ?_) ⟨rfl, rfl, #[], 0, ?_, .nil⟩
      · obtain ⟨q, hq, -, hqo⟩ := hI.obj i oi hi ho
        obtain rfl : q = pi := Option.some.inj (hq.symm.trans hp)
        have := hqo.lt hdd
        exact ⟨by show q.b ≠ w.heap.size; omega, Below.heap_alloc w _ _ this⟩
      · show (w.heap.push _)[w.heap.size]? = _
        simp
end
end Go.Eng
