/-
  Our machine's memory and the given model's: what is made, read and written stays alike.
  Conditions: none; plain theorems.
-/
import Derived.Test.YtfcebfbdodeecaaGreatDoorEngEb
import Derived.Deep.Draws
namespace Go.Eng
open Go Go.RowKit
set_option linter.unusedVariables false
set_option linter.unusedSimpArgs false

inductive ER (r : Rn) : List (Value × Value) → List MapEntry → Prop
  | nil : ER r [] []
  | cons (k v : Value) (e : MapEntry) (l : List (Value × Value)) (l' : List MapEntry) (hk : e.key = k) (hp : plain1 k = true) (hv : VR r v e.val) (hl : ER r l l') : ER r ((k, v) :: l) (e :: l')
theorem ER.mono {r s : Rn} (hle : r.le s) : ∀ {l : List (Value × Value)} {l' : List MapEntry}, ER r l l' → ER s l l'
  | _, _, .nil => .nil
  | _, _, .cons k v e l l' hk hp hv hl => .cons k v e l l' hk hp (hv.mono hle) (hl.mono hle)
def isDead : AObj → Bool
  | .dead => true
  | _ => false
/-- A block of ours and where it lies. -/
def ObjR (P : Program) (r : Rn) (p : Pl) (o : AObj) (w : World) : Prop := match o with
  | .dead => p.b < w.heap.size
  | .cells c t g => (g = false → p.o = 0 ∧ p.x = 0) ∧ ∃ c' : Array Value, w.heap[p.b]? = some (.cells c' t (0, 0)) ∧ c'.size = p.o + c.length + p.x * (sizeT P t).getD 0 ∧ LR r c ((c'.toList.drop p.o).take c.length)
  | .map es => p.o = 0 ∧ p.x = 0 ∧ ∃ es' clock, w.heap[p.b]? = some (.map es' clock) ∧ ER r es es'.toList
/-- Blocks that stay as they are. -/
structure Bel (F : Nat → Prop) (w w' : World) : Prop where
  os : w'.os = w.os
  tape : w'.tape = w.tape
  output : w'.output = w.output
  size : w.heap.size ≤ w'.heap.size
  block : ∀ k, F k → w'.heap[k]? = w.heap[k]?
theorem Bel.refl (F : Nat → Prop) (w : World) : Bel F w w := ⟨rfl, rfl, rfl, Nat.le_refl _, fun _ _ => rfl⟩
theorem Bel.trans {F : Nat → Prop} {a b c : World} (h : Bel F a b) (k : Bel F b c) : Bel F a c :=
  ⟨k.os.trans h.os, k.tape.trans h.tape, k.output.trans h.output, Nat.le_trans h.size k.size, fun i hi => (k.block i hi).trans (h.block i hi)⟩
theorem Bel.alloc {F : Nat → Prop} {a w : World} (h : Bel F a w) (hF : ∀ k, F k → k < w.heap.size) (o : Obj) : Bel F a (w.alloc o) :=
  h.trans ⟨rfl, rfl, rfl, by simp, fun k hk => Below.heap_alloc _ _ _ (hF k hk)⟩
structure Inv (P : Program) (N : Nat → Prop) (r : Rn) (H : AH) (w : World) : Prop where
  obj : ∀ i o, i < 2 ^ hd → H.obj i = some o → ∃ p, r i = some p ∧ ¬ N p.b ∧ ObjR P r p o w
  sep : ∀ i j oi oj pi pj, i < 2 ^ hd → j < 2 ^ hd → H.obj i = some oi → H.obj j = some oj → isDead oi = false → isDead oj = false → r i = some pi → r j = some pj → pi.b = pj.b → i = j
  new : ∀ i, H.next ≤ i → i < 2 ^ hd → r i = none
  top : H.next ≤ 2 ^ hd
  low : ∀ k, N k → k < w.heap.size
section
variable {P : Program} {N : Nat → Prop} {r : Rn} {H : AH} {w : World}
theorem ObjR.mono {s : Rn} {p : Pl} {o : AObj} (hle : r.le s) (h : ObjR P r p o w) : ObjR P s p o w := by
  cases o with
  | dead => exact h
  | cells c t g =>
    obtain ⟨h1, c', h2, h3, h4⟩ := h
    exact ⟨h1, c', h2, h3, h4.mono hle⟩
  | map es =>
    obtain ⟨h1, h2, es', k, h3, h4⟩ := h
    exact ⟨h1, h2, es', k, h3, h4.mono hle⟩
theorem ObjR.world {w' : World} {p : Pl} {o : AObj} (hw : w'.heap[p.b]? = w.heap[p.b]?) (h : ObjR P r p o w) : ObjR P r p o w' := by
  cases o with
  | dead =>
    have h : p.b < w.heap.size := h
    have e := Array.getElem?_eq_getElem h
    rw [← hw] at e
    exact (Array.getElem?_eq_some_iff.1 e).1
  | cells c t g =>
    obtain ⟨h1, c', h2, h3, h4⟩ := h
    exact ⟨h1, c', hw.trans h2, h3, h4⟩
  | map es =>
    obtain ⟨h1, h2, es', k, h3, h4⟩ := h
    exact ⟨h1, h2, es', k, hw.trans h3, h4⟩
/-- A block that is there lies below the world's end. -/
theorem ObjR.lt {p : Pl} {o : AObj} (hd : isDead o = false) (h : ObjR P r p o w) : p.b < w.heap.size := by
  cases o with
  | dead => cases hd
  | cells c t g =>
    obtain ⟨h1, c', h2, h3, h4⟩ := h
    exact (Array.getElem?_eq_some_iff.1 h2).1
  | map es =>
    obtain ⟨h1, h2, es', k, h3, h4⟩ := h
    exact (Array.getElem?_eq_some_iff.1 h3).1
theorem ObjR.lt' {p : Pl} {o : AObj} (h : ObjR P r p o w) : p.b < w.heap.size := by
  cases o with
  | dead => exact h
  | cells c t g => exact h.lt rfl
  | map es => exact h.lt rfl
theorem obj_of_lt {i : Nat} (h : i < 2 ^ hd) : H.obj i = H.t.get hd i := by
  unfold AH.obj
  rw [show Nat.blt i 1048576 = true from Nat.ble_eq_true_of_le h]
theorem obj_lt {i : Nat} {o : AObj} (h : H.obj i = some o) : i < 2 ^ hd := by
  unfold AH.obj at h
  cases hb : Nat.blt i 1048576 with
  | false => rw [hb] at h; cases h
  | true => exact Nat.le_of_ble_eq_true hb
theorem obj_nil (n i : Nat) : (⟨.nil, n⟩ : AH).obj i = none := by
  unfold AH.obj
  cases Nat.blt i 1048576 with
  | false => rfl
  | true => exact get_nil hd i
theorem Inv.lt (hI : Inv P N r H w) {i : Nat} {p : Pl} (h : r i = some p) (hi : i < 2 ^ hd) : i < H.next := by
  rcases Nat.lt_or_ge i H.next with h' | h'
  · exact h'
  · rw [hI.new i h' hi] at h
    cases h
theorem Inv.fresh (hI : Inv P N r H w) : ¬ N w.heap.size := fun h => Nat.lt_irrefl _ (hI.low _ h)
theorem obj_put_eq {i : Nat} (hi : i < 2 ^ hd) (o : AObj) : (H.put i o).obj i = some o := by
  rw [obj_of_lt hi]
  exact get_set_eq _ _ _ _
theorem obj_put_ne {i j : Nat} (o : AObj) (hi : i < 2 ^ hd) (hj : j < 2 ^ hd) (hne : i ≠ j) : (H.put i o).obj j = H.obj j := by
  rw [obj_of_lt hj, obj_of_lt hj]
  exact get_set_ne _ _ _ _ _ hi hj hne
theorem Inv.drawn (hI : Inv P N r H w) (n : Nat) : Inv P N r H (w.drewN n) := ⟨fun i o hl h => by
    obtain ⟨p, h1, h2, h3⟩ := hI.obj i o hl h
    exact ⟨p, h1, h2, h3.world rfl⟩, hI.sep, hI.new, hI.top, hI.low⟩
theorem Bel.drawn {B : Nat → Prop} {a w : World} (h : Bel B a w) (n : Nat) : Bel B a (w.drewN n) := ⟨h.os, h.tape, h.output, h.size, h.block⟩
/-- A block that is no more used. -/
theorem Inv.kill (hI : Inv P N r H w) {i : Nat} {p : Pl} (hi : r i = some p) {o : AObj} (ho : H.obj i = some o) : Inv P N r (H.put i .dead) w := by
  have hit := obj_lt ho
  obtain ⟨p', hp', hN, hO⟩ := hI.obj i o hit ho
  refine ⟨fun j oj hj h => ?_, fun j k oj ok pj pk hj hk h1 h2 h3 h4 h5 h6 h7 => ?_, hI.new, hI.top, hI.low⟩
  · by_cases e : i = j
    · subst e
      rw [obj_put_eq hit] at h
      obtain rfl := Option.some.inj h
      exact ⟨p', hp', hN, hO.lt'⟩
    · rw [obj_put_ne _ hit hj e] at h
      exact hI.obj j oj hj h
  · have e1 : i ≠ j := fun e => by
      subst e
      rw [obj_put_eq hit] at h1
      obtain rfl := Option.some.inj h1
      cases h3
    have e2 : i ≠ k := fun e => by
      subst e
      rw [obj_put_eq hit] at h2
      obtain rfl := Option.some.inj h2
      cases h4
    rw [obj_put_ne _ hit hj e1] at h1
    rw [obj_put_ne _ hit hk e2] at h2
    exact hI.sep j k oj ok pj pk hj hk h1 h2 h3 h4 h5 h6 h7
/-- A block that is made anew, wherever. -/
def Rn.add (r : Rn) (i : Nat) (p : Pl) : Rn := fun j => if j = i then some p else r j
theorem Inv.le_add (hI : Inv P N r H w) (ht : H.next < 2 ^ hd) (p : Pl) : r.le (r.add H.next p) := fun i q h => by
  unfold Rn.add
  rw [if_neg (fun e => by rw [e, hI.new _ (Nat.le_refl _) ht] at h; cases h)]
  exact h
theorem Rn.add_at (r : Rn) (i : Nat) (p : Pl) : r.add i p i = some p := if_pos rfl
theorem Inv.make (hI : Inv P N r H w) {w' : World} (ht : H.next < 2 ^ hd) {o : AObj} {p : Pl} (hN : ¬ N p.b) (hlow : w.heap.size ≤ w'.heap.size)
    (hold : ∀ i oi pi, i < 2 ^ hd → H.obj i = some oi → isDead oi = false → r i = some pi → pi.b ≠ p.b ∧ w'.heap[pi.b]? = w.heap[pi.b]?) (ho : ObjR P (r.add H.next p) p o w') : Inv P N (r.add H.next p) (H.new o) w' := by
  have hle := hI.le_add ht p
  have hob : ∀ j, j < 2 ^ hd → j ≠ H.next → (H.new o).obj j = H.obj j := fun j hj hne => by
    rw [obj_of_lt hj, obj_of_lt hj]
    exact get_set_ne _ _ _ _ _ ht hj (Ne.symm hne)
  have hoe : (H.new o).obj H.next = some o := by
    rw [obj_of_lt ht]
    exact get_set_eq _ _ _ _
  refine ⟨fun j oj hj h => ?_, fun j k oj ok pj pk hj hk h1 h2 h3 h4 h5 h6 h7 => ?_, fun i hi hi2 => ?_, ht, fun k hk => Nat.lt_of_lt_of_le (hI.low k hk) hlow⟩
  · by_cases e : j = H.next
    · subst e
      rw [hoe] at h
      obtain rfl := Option.some.inj h
      exact ⟨p, Rn.add_at _ _ _, hN, ho⟩
    · rw [hob j hj e] at h
      obtain ⟨q, hq, hqN, hqo⟩ := hI.obj j oj hj h
      refine ⟨q, hle _ _ hq, hqN, ?_⟩
      cases hd_ : isDead oj with
      | true =>
        cases oj with
        | dead => exact Nat.lt_of_lt_of_le hqo hlow
        | cells c t g => cases hd_
        | map es => cases hd_
      | false => exact (hqo.world (hold j oj q hj h hd_ hq).2).mono hle
  · by_cases e1 : j = H.next <;> by_cases e2 : k = H.next
    · rw [e1, e2]
    · subst e1
      rw [hob k hk e2] at h2
      rw [Rn.add_at] at h5
      obtain rfl := Option.some.inj h5
      unfold Rn.add at h6
      rw [if_neg e2] at h6
      exact absurd h7.symm (hold k ok pk hk h2 h4 h6).1
    · subst e2
      rw [hob j hj e1] at h1
      rw [Rn.add_at] at h6
      obtain rfl := Option.some.inj h6
      unfold Rn.add at h5
      rw [if_neg e1] at h5
      exact absurd h7 (hold j oj pj hj h1 h3 h5).1
    · rw [hob j hj e1] at h1
      rw [hob k hk e2] at h2
      unfold Rn.add at h5 h6
      rw [if_neg e1] at h5
      rw [if_neg e2] at h6
      exact hI.sep j k oj ok pj pk hj hk h1 h2 h3 h4 h5 h6 h7
  · have hi : H.next + 1 ≤ i := hi
    unfold Rn.add
    rw [if_neg (by omega)]
    exact hI.new i (by omega) hi2
/-- A new block of the world's own. -/
theorem Inv.alloc (hI : Inv P N r H w) (ht : H.next < 2 ^ hd) {c : List Value} {c' : Array Value} {t : TypeId} (hc : LR r c c'.toList) (g : Bool) :
    Inv P N (r.add H.next ⟨w.heap.size, 0, 0⟩) (H.new (.cells c t g)) (w.alloc (.cells c' t)) := by
  refine hI.make ht hI.fresh (by rw [World.size_alloc]; omega) (fun i oi pi hi ho hdd hp => ?_) ⟨fun _ => ⟨rfl, rfl⟩, c', ?_, ?_, ?_⟩
  · obtain ⟨q, hq, -, hqo⟩ := hI.obj i oi hi ho
    obtain rfl : q = pi := Option.some.inj (hq.symm.trans hp)
    have := hqo.lt hdd
    exact ⟨by show q.b ≠ w.heap.size; omega, Below.heap_alloc w _ _ this⟩
  · show (w.alloc (.cells c' t)).heap[w.heap.size]? = _
    show (w.heap.push _)[w.heap.size]? = _
    simp
  · have h1 : c.length = c'.size := hc.length.trans Array.length_toList
    show c'.size = 0 + c.length + 0 * _
    rw [Nat.zero_mul, h1, Nat.zero_add, Nat.add_zero]
  · show LR _ c ((c'.toList.drop 0).take c.length)
    rw [List.drop_zero, List.take_of_length_le (by have := hc.length; omega)]
    exact hc.mono (hI.le_add ht _)
theorem takeN_some {c l : List Value} {off n : Nat} (h : takeN c off n = some l) : off + n ≤ c.length ∧ l = (c.drop off).take n := by
  unfold takeN at h
  cases hb : Nat.ble (off + n) c.length with
  | true =>
    rw [hb] at h
    exact ⟨Nat.le_of_ble_eq_true hb, (Option.some.inj h).symm⟩
  | false =>
    rw [hb] at h
    cases h
/-- Cells that are read. -/
theorem load_sound (hI : Inv P N r H w) {i o n : Nat} {p : Pl} (hp : r i = some p) {cs : List Value} (h : loadC H ⟨i, o, none⟩ n = some cs) :
    ∃ cs' : List Value, (loadCells ⟨p.b, p.o + o, none⟩ n).run P w = .ok cs'.toArray w ∧ LR r cs cs' ∧ cs.length = n ∧ ∀ j v, cs'[j]? = some v → w.cell? ((⟨p.b, p.o + o, none⟩ : Addr).add j) = some v := by
  unfold loadC at h
  dsimp only at h
  cases ho : H.obj i with
  | none => rw [ho] at h; cases h
  | some ob =>
    have hit := obj_lt ho
    rw [ho] at h
    cases ob with
    | dead => cases h
    | map es => cases h
    | cells c t g =>
      dsimp only at h
      obtain ⟨hle, rfl⟩ := takeN_some h
      obtain ⟨q, hq, hN, h1, c', h2, h3, h4⟩ := hI.obj i _ hit ho
      obtain rfl : q = p := Option.some.inj (hq.symm.trans hp)
      have hl : LR r ((c.drop o).take n) ((((c'.toList.drop q.o).take c.length).drop o).take n) := (h4.drop o).take n
      have hlen : ((c.drop o).take n).length = n := by rw [List.length_take, List.length_drop]; omega
      refine ⟨_, ?_, hl, hlen, ?_⟩
      · have := run_loadCells_list (P := P) w ⟨q.b, q.o + o, none⟩ _ (?_ : ∀ j v, ((((c'.toList.drop q.o).take c.length).drop o).take n)[j]? = some v → w.cell? ((⟨q.b, q.o + o, none⟩ : Addr).add j) = some v)
        · rw [← hl.length, hlen] at this
          exact this
        · intro j v hv
          rw [Addr.add_lit]
          unfold World.cell?
          dsimp only
          rw [h2]
          simp only [Option.isSome_none, Bool.false_eq_true, if_false]
          rw [List.getElem?_take] at hv
          split at hv
          · rw [List.getElem?_drop, List.getElem?_take] at hv
            split at hv
            · rw [List.getElem?_drop] at hv
              rw [← Array.getElem?_toList, ← hv]
              congr 1
              omega
            · cases hv
          · cases hv
      · intro j v hv
        rw [Addr.add_lit]
        unfold World.cell?
        dsimp only
        rw [h2]
        simp only [Option.isSome_none, Bool.false_eq_true, if_false]
        rw [List.getElem?_take] at hv
        split at hv
        · rw [List.getElem?_drop, List.getElem?_take] at hv
          split at hv
          · rw [List.getElem?_drop] at hv
            rw [← Array.getElem?_toList, ← hv]
            congr 1
            omega
          · cases hv
        · cases hv
theorem setN_length : ∀ (vs c : List Value) (off : Nat), (setN c off vs).length = c.length
  | [], c, off => rfl
  | v :: vs, c, off => by
    unfold setN
    rw [setN_length vs, List.length_set]
theorem setN_get : ∀ (vs c : List Value) (off k : Nat), off + vs.length ≤ c.length → (setN c off vs)[k]? = if off ≤ k ∧ k < off + vs.length then vs[k - off]? else c[k]?
  | [], c, off, k, h => by
    unfold setN
    rw [if_neg (fun hh => by simp at hh; omega)]
  | v :: vs, c, off, k, h => by
    rw [List.length_cons] at h ⊢
    unfold setN
    rw [setN_get vs (c.set off v) (off + 1) k (by rw [List.length_set]; omega)]
    by_cases h1 : off + 1 ≤ k ∧ k < off + 1 + vs.length
    · rw [if_pos h1, if_pos (by omega)]
      have : k - off = (k - (off + 1)) + 1 := by omega
      rw [this, List.getElem?_cons_succ]
    · rw [if_neg h1]
      by_cases h2 : k = off
      · subst h2
        rw [if_pos (by omega), Nat.sub_self, List.getElem?_set_self (by omega)]
        rfl
      · rw [if_neg (by omega), List.getElem?_set_ne (by omega)]
theorem LR.setN {l l' vs vs' : List Value} (off : Nat) (hv : LR r vs vs') (hl : LR r l l') : LR r (setN l off vs) (setN l' off vs') := by
  induction vs generalizing vs' l l' off with
  | nil =>
    obtain rfl := hv.nil_inv
    exact hl
  | cons v vs ih =>
    cases hv with
    | cons _ v' _ ws h1 h2 => exact ih (off + 1) h2 (hl.set off h1)
theorem oneB_VR {v v' : Value} (h : VR r v v') (ho : oneB v = true) : v'.oneCell' = true := by
  cases h <;> first | rfl | (simp [oneB] at ho)
theorem oneB_LR : ∀ {l l' : List Value}, LR r l l' → l.all oneB = true → ∀ v ∈ l', v.oneCell' = true
  | _, _, .nil, _, v, h => by simp at h
  | _, _, .cons v v' l l' hv hl, h, u, hu => by
    simp only [List.all_cons, Bool.and_eq_true] at h
    rcases List.mem_cons.1 hu with rfl | hu
    · exact oneB_VR hv h.1
    · exact oneB_LR hl h.2 u hu
/-- Cells that are written. -/
theorem store_sound (hI : Inv P N r H w) {i o : Nat} {p : Pl} (hp : r i = some p) {vs vs' : List Value} (hv : LR r vs vs') (h1 : ∀ v ∈ vs', v.oneCell' = true) {H' : AH} (h : storeC H ⟨i, o, none⟩ vs = some H') :
    ∃ w', (storeCells ⟨p.b, p.o + o, none⟩ vs' 0).run P w = .ok () w' ∧ Inv P N r H' w' ∧ Bel N w w' ∧ (∃ c', w' = w.setRow p.b c') ∧ p.b < w.heap.size := by
  unfold storeC at h
  dsimp only at h
  cases ho : H.obj i with
  | none => rw [ho] at h; cases h
  | some ob =>
    have hit := obj_lt ho
    rw [ho] at h
    cases ob with
    | dead => cases h
    | map es => cases h
    | cells c t g =>
      dsimp only at h
      cases hb : Nat.ble (o + vs.length) c.length with
      | false => rw [hb] at h; cases h
      | true =>
        rw [hb] at h
        obtain rfl := Option.some.inj h
        have hle := Nat.le_of_ble_eq_true hb
        obtain ⟨q, hq, hN, g1, c', h2, h3, h4⟩ := hI.obj i _ hit ho
        obtain rfl : q = p := Option.some.inj (hq.symm.trans hp)
        have hvl := hv.length
        have hlt := (Array.getElem?_eq_some_iff.1 h2).1
        have hst := run_storeCells_at (P := P) q.b (q.o + o) t vs' 0 c' w h2 (by omega) h1
        rw [Nat.add_zero] at hst
        refine ⟨_, hst, ?_, ?_, ⟨_, rfl⟩, hlt⟩
        · refine ⟨fun j oj hj hjo => ?_, fun j k oj ok pj pk hj hk a1 a2 a3 a4 a5 a6 a7 => ?_, hI.new, hI.top, fun k hk => by rw [setRow_size]; exact hI.low k hk⟩
          · by_cases e : i = j
            · subst e
              rw [obj_put_eq hit] at hjo
              obtain rfl := Option.some.inj hjo
              refine ⟨q, hq, hN, g1, _, setRow_heap w q.b c' _ t (0, 0) h2, ?_, ?_⟩
              · rw [List.size_toArray, setN_length, List.length_append, List.length_append, List.length_take, List.length_drop, Array.length_toList (xs := c')]
                omega
              · rw [setN_length]
                have := LR.setN o hv h4
                refine LR.of_get ?_ ?_
                · rw [setN_length, List.length_take, List.length_drop, List.length_append, List.length_append, List.length_take, List.length_drop, Array.length_toList (xs := c')]
                  omega
                · intro k v hk
                  obtain ⟨v', hv', hr⟩ := this.get k v hk
                  refine ⟨v', ?_, hr⟩
                  have hkl : k < c.length := by
                    have := (List.getElem?_eq_some_iff.1 hk).1
                    rw [setN_length] at this
                    exact this
                  rw [setN_get vs' _ o k (by rw [List.length_take, List.length_drop, Array.length_toList (xs := c')]; omega)] at hv'
                  rw [List.getElem?_take, if_pos hkl, List.getElem?_drop]
                  show (List.take (q.o + o) c'.toList ++ vs' ++ List.drop (q.o + o + vs'.length) c'.toList)[q.o + k]? = some v'
                  by_cases hin : o ≤ k ∧ k < o + vs'.length
                  · rw [if_pos hin] at hv'
                    rw [List.getElem?_append_left (by rw [List.length_append, List.length_take, Array.length_toList (xs := c')]; omega), List.getElem?_append_right (by rw [List.length_take, Array.length_toList (xs := c')]; omega), List.length_take, Array.length_toList (xs := c'), ← hv']
                    congr 1
                    omega
                  · rw [if_neg hin] at hv'
                    rw [List.getElem?_take, if_pos hkl, List.getElem?_drop] at hv'
                    by_cases hlo : k < o
                    · rw [List.getElem?_append_left (by rw [List.length_append, List.length_take, Array.length_toList (xs := c')]; omega), List.getElem?_append_left (by rw [List.length_take, Array.length_toList (xs := c')]; omega), List.getElem?_take, if_pos (by omega)]
                      exact hv'
                    · rw [List.getElem?_append_right (by rw [List.length_append, List.length_take, Array.length_toList (xs := c')]; omega), List.getElem?_drop, ← hv']
                      congr 1
                      rw [List.length_append, List.length_take, Array.length_toList (xs := c')]
                      omega
            · rw [obj_put_ne _ hit hj e] at hjo
              obtain ⟨qj, hqj, hNj, hoj⟩ := hI.obj j oj hj hjo
              refine ⟨qj, hqj, hNj, ?_⟩
              cases hdd : isDead oj with
              | true =>
                cases oj with
                | dead => exact Nat.lt_of_lt_of_le hoj (Nat.le_of_eq (setRow_size _ _ _).symm)
                | cells c t g => cases hdd
                | map es => cases hdd
              | false =>
                refine hoj.world (setRow_other w q.b qj.b _ (fun e2 => e ?_))
                exact hI.sep i j _ oj q qj hit hj ho hjo rfl hdd hq hqj e2.symm
          · have f : ∀ k ok, k < 2 ^ hd → (H.put i (.cells (setN c o vs) t g)).obj k = some ok → isDead ok = false → ∃ ok', H.obj k = some ok' ∧ isDead ok' = false := by
              intro k ok hk hko hkd
              by_cases e : i = k
              · subst e
                exact ⟨_, ho, rfl⟩
              · rw [obj_put_ne _ hit hk e] at hko
                exact ⟨ok, hko, hkd⟩
            obtain ⟨oj', b1, b2⟩ := f j oj hj a1 a3
            obtain ⟨ok', b3, b4⟩ := f k ok hk a2 a4
            exact hI.sep j k oj' ok' pj pk hj hk b1 b3 b2 b4 a5 a6 a7
        · exact ⟨rfl, rfl, rfl, by rw [setRow_size]; exact Nat.le_refl _, fun k hk => setRow_other w q.b k _ (fun e => hN (e ▸ hk))⟩
end
end Go.Eng
