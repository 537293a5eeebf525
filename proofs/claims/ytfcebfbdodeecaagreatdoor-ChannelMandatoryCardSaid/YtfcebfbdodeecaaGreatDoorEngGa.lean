/-
  A state of our machine in a shorter form: what is no more looked at is left out, blocks are numbered anew.
  Conditions: none; plain theorems.
-/
import Derived.Test.YtfcebfbdodeecaaGreatDoorEngY
namespace Go.Eng
open Go Go.RowKit
set_option linter.unusedVariables false
set_option linter.unusedSimpArgs false
section
noncomputable def mapA (f : Nat → Nat) (a : Addr) : Addr := ⟨f a.block, a.off, a.spot⟩
noncomputable def map1 (f : Nat → Nat) : Value → Value
  | .pointer (some a) => .pointer (some (mapA f a))
  | .slice (some a) l c => .slice (some (mapA f a)) l c
  | .map (some i) => .map (some (f i))
  | v => v
noncomputable def mapV (f : Nat → Nat) : Value → Value
  | .agg cs => .agg (cs.toList.map (map1 f)).toArray
  | .tuple cs => .tuple (cs.toList.map (map1 f)).toArray
  | v => map1 f v
noncomputable def mapO (f : Nat → Nat) : AObj → AObj
  | .cells c t g => .cells (c.map (mapV f)) t g
  | .map es => .map (es.map fun e => (e.1, mapV f e.2))
  | .dead => .dead
/-- Whether an address is one that is kept. -/
noncomputable def keptB (n i : Nat) : Bool := Nat.blt i n || Nat.beq i 1048576
noncomputable def ok1 (n : Nat) : Value → Bool
  | .pointer (some a) => keptB n a.block
  | .slice (some a) _ _ => keptB n a.block
  | .map (some i) => keptB n i
  | .func _ x y => x.toList.isEmpty && y.toList.isEmpty
  | .agg _ => false
  | .tuple _ => false
  | _ => true
noncomputable def okW (n : Nat) : Value → Bool
  | .agg cs => cs.toList.all (ok1 n)
  | .tuple cs => cs.toList.all (ok1 n)
  | v => ok1 n v
noncomputable def okO (n : Nat) : AObj → Bool
  | .cells c _ _ => c.all (okW n)
  | .map es => es.all fun e => okW n e.2
  | .dead => false
/-- The new numbers: of the blocks that are kept, of one that is foreign, of the others. -/
noncomputable def reN (n : Nat) (f : Nat → Nat) (r : Rn) : Rn := fun i => if i < n then r (f i) else if i < 2 ^ hd then none else if i = 2 ^ hd then r (2 ^ hd) else r (i - (2 ^ hd + 1))
/-- A way to number: the list, and the foreign block stays. -/
noncomputable def nums (l : List Nat) (i : Nat) : Nat := match l[i]? with | some j => j | none => 1048576
section
variable {r : Rn} {n : Nat} {f : Nat → Nat}
theorem kept_reN (hf : f 1048576 = 1048576) (hn : n ≤ 2 ^ hd) {i : Nat} (h : keptB n i = true) : reN n f r i = r (f i) := by
  unfold keptB at h
  rw [Bool.or_eq_true] at h
  unfold reN
  rcases h with h | h
  · have h : i < n := Nat.le_of_ble_eq_true h
    rw [if_pos h]
  · obtain rfl := Nat.eq_of_beq_eq_true h
    have e : (1048576 : Nat) = 2 ^ hd := rfl
    rw [if_neg (by rw [e]; exact Nat.not_lt.2 hn), if_neg (by rw [e]; exact Nat.lt_irrefl _), if_pos e, hf]
    rfl
theorem map1_VR (hf : f 1048576 = 1048576) (hn : n ≤ 2 ^ hd) {v w : Value} (hk : ok1 n v = true) (h : VR r (map1 f v) w) : VR (reN n f r) v w := by
  cases v with
  | pointer a => cases a with
    | none => cases h; exact .ptr0
    | some a =>
      obtain ⟨b, o, s⟩ := a
      have hr := kept_reN (r := r) hf hn (show keptB n b = true from hk)
      have h : VR r (.pointer (some ⟨f b, o, s⟩)) w := h
      cases h with
      | ptr i o p hp => exact .ptr _ _ _ (hr.trans hp)
  | slice a l c => cases a with
    | none => cases h; exact .sl0 _ _
    | some a =>
      obtain ⟨b, o, s⟩ := a
      have hr := kept_reN (r := r) hf hn (show keptB n b = true from hk)
      have h : VR r (.slice (some ⟨f b, o, s⟩) l c) w := h
      cases h with
      | sl i o l c p hp => exact .sl _ _ _ _ _ (hr.trans hp)
  | map a => cases a with
    | none => cases h; exact .map0
    | some i =>
      have hr := kept_reN (r := r) hf hn (show keptB n i = true from hk)
      have h : VR r (.map (some (f i))) w := h
      cases h with
      | map i p hp => exact .map _ _ (hr.trans hp)
  | func fn x y =>
    have hk : (x.toList.isEmpty && y.toList.isEmpty) = true := hk
    rw [Bool.and_eq_true] at hk
    have h : VR r (.func fn x y) w := h
    cases h with
    | func _ _ _ x' y' hx hy =>
      have e1 : x.toList = [] := List.isEmpty_iff.1 hk.1
      have e2 : y.toList = [] := List.isEmpty_iff.1 hk.2
      refine .func _ _ _ _ _ ?_ ?_
      · rw [e1] at hx ⊢
        rw [hx.nil_inv]
        exact .nil
      · rw [e2] at hy ⊢
        rw [hy.nil_inv]
        exact .nil
  | bool b => cases h; exact .bool _
  | int k m => cases h; exact .int _ _
  | float k m => cases h; exact .float _ _
  | complex k m l => cases h; exact .complex _ _ _
  | string s => cases h; exact .string _
  | chan a => cases h; exact .chan0
  | nilFunc => cases h; exact .nilFunc
  | nilIface => cases h; exact .nilIface
  | iface t v =>
    have h : VR r (.iface t v) w := h
    cases h with
    | sym _ p hp hn2 =>
      refine .sym _ p ?_ hn2
      have e : (1048576 : Nat) = 2 ^ hd := rfl
      unfold reN
      rw [if_neg (by rw [e]; exact Nat.not_lt.2 hn), if_neg (by rw [e]; exact Nat.lt_irrefl _), if_pos e]
      exact hp
  | agg c => cases hk
  | tuple c => cases hk
theorem map1_LR (hf : f 1048576 = 1048576) (hn : n ≤ 2 ^ hd) : ∀ {l m : List Value}, l.all (ok1 n) = true → LR r (l.map (map1 f)) m → LR (reN n f r) l m
  | [], m, _, h => by
    rw [h.nil_inv]
    exact .nil
  | v :: l, m, hk, h => by
    simp only [List.all_cons, Bool.and_eq_true] at hk
    rw [List.map_cons] at h
    cases h with
    | cons _ w _ ws h1 h2 => exact .cons _ _ _ _ (map1_VR hf hn hk.1 h1) (map1_LR hf hn hk.2 h2)
theorem mapV_VR (hf : f 1048576 = 1048576) (hn : n ≤ 2 ^ hd) {v w : Value} (hk : okW n v = true) (h : VR r (mapV f v) w) : VR (reN n f r) v w := by
  cases v with
  | agg c =>
    have h : VR r (.agg (c.toList.map (map1 f)).toArray) w := h
    cases h with
    | agg _ c' hl => exact .agg _ _ (map1_LR hf hn hk hl)
  | tuple c =>
    have h : VR r (.tuple (c.toList.map (map1 f)).toArray) w := h
    cases h with
    | tuple _ c' hl => exact .tuple _ _ (map1_LR hf hn hk hl)
  | pointer a => exact map1_VR hf hn hk h
  | slice a l c => exact map1_VR hf hn hk h
  | map a => exact map1_VR hf hn hk h
  | func fn x y => exact map1_VR hf hn hk h
  | bool b => exact map1_VR hf hn hk h
  | int k m => exact map1_VR hf hn hk h
  | float k m => exact map1_VR hf hn hk h
  | complex k m l => exact map1_VR hf hn hk h
  | string s => exact map1_VR hf hn hk h
  | chan a => exact map1_VR hf hn hk h
  | nilFunc => exact map1_VR hf hn hk h
  | nilIface => exact map1_VR hf hn hk h
  | iface t v => exact map1_VR hf hn hk h
theorem mapV_LR (hf : f 1048576 = 1048576) (hn : n ≤ 2 ^ hd) : ∀ {l m : List Value}, l.all (okW n) = true → LR r (l.map (mapV f)) m → LR (reN n f r) l m
  | [], m, _, h => by
    rw [h.nil_inv]
    exact .nil
  | v :: l, m, hk, h => by
    simp only [List.all_cons, Bool.and_eq_true] at hk
    rw [List.map_cons] at h
    cases h with
    | cons _ w _ ws h1 h2 => exact .cons _ _ _ _ (mapV_VR hf hn hk.1 h1) (mapV_LR hf hn hk.2 h2)
theorem mapE_ER (hf : f 1048576 = 1048576) (hn : n ≤ 2 ^ hd) : ∀ {l : List (Value × Value)} {m : List MapEntry}, (l.all fun e => okW n e.2) = true → ER r (l.map fun e => (e.1, mapV f e.2)) m → ER (reN n f r) l m
  | [], m, _, h => by
    cases h
    exact .nil
  | (k, v) :: l, m, hk, h => by
    simp only [List.all_cons, Bool.and_eq_true] at hk
    rw [List.map_cons] at h
    cases h with
    | cons _ _ e _ l' h1 h2 h3 h4 => exact .cons _ _ _ _ _ h1 h2 (mapV_VR hf hn hk.1 h3) (mapE_ER hf hn hk.2 h4)
theorem mapO_R {P : Program} (hf : f 1048576 = 1048576) (hn : n ≤ 2 ^ hd) {o : AObj} {p : Pl} {w : World} (hk : okO n o = true) (h : ObjR P r p (mapO f o) w) : ObjR P (reN n f r) p o w := by
  cases o with
  | dead => cases hk
  | cells c t g =>
    obtain ⟨h1, c', h2, h3, h4⟩ := h
    rw [List.length_map] at h3 h4
    exact ⟨h1, c', h2, h3, mapV_LR hf hn hk h4⟩
  | map es =>
    obtain ⟨h1, h2, es', k, h3, h4⟩ := h
    exact ⟨h1, h2, es', k, h3, mapE_ER hf hn hk h4⟩
/-! What is not kept is told by far numbers. -/
mutual
theorem VR.far {s : Rn} (hs : ∀ i p, r i = some p → ∃ j, s j = some p) (h2 : ∀ p, r 1048576 = some p → s 1048576 = some p) : ∀ {v w : Value}, VR r v w → ∃ u, VR s u w
  | _, _, .bool b => ⟨_, .bool b⟩
  | _, _, .int k n => ⟨_, .int k n⟩
  | _, _, .float k n => ⟨_, .float k n⟩
  | _, _, .complex k n m => ⟨_, .complex k n m⟩
  | _, _, .string t => ⟨_, .string t⟩
  | _, _, .ptr0 => ⟨_, .ptr0⟩
  | _, _, .ptr i o p h => (hs i p h).elim fun j hj => ⟨_, .ptr j o p hj⟩
  | _, _, .sl0 l c => ⟨_, .sl0 l c⟩
  | _, _, .sl i o l c p h => (hs i p h).elim fun j hj => ⟨_, .sl j o l c p hj⟩
  | _, _, .map0 => ⟨_, .map0⟩
  | _, _, .map i p h => (hs i p h).elim fun j hj => ⟨_, .map j p hj⟩
  | _, _, .chan0 => ⟨_, .chan0⟩
  | _, _, .func fn f c f' c' hf hc => (LR.far hs h2 hf).elim fun x hx => (LR.far hs h2 hc).elim fun y hy => ⟨_, .func fn x.toArray y.toArray f' c' hx hy⟩
  | _, _, .nilFunc => ⟨_, .nilFunc⟩
  | _, _, .nilIface => ⟨_, .nilIface⟩
  | _, _, .sym n p h hn => ⟨_, .sym n p (h2 p h) hn⟩
  | _, _, .agg c c' h => (LR.far hs h2 h).elim fun x hx => ⟨_, .agg x.toArray c' hx⟩
  | _, _, .tuple c c' h => (LR.far hs h2 h).elim fun x hx => ⟨_, .tuple x.toArray c' hx⟩
theorem LR.far {s : Rn} (hs : ∀ i p, r i = some p → ∃ j, s j = some p) (h2 : ∀ p, r 1048576 = some p → s 1048576 = some p) : ∀ {l m : List Value}, LR r l m → ∃ u, LR s u m
  | _, _, .nil => ⟨_, .nil⟩
  | _, _, .cons v v' l l' h hl => (VR.far hs h2 h).elim fun x hx => (LR.far hs h2 hl).elim fun y hy => ⟨_, .cons x v' y l' hx hy⟩
end
theorem reN_far (hn : n ≤ 2 ^ hd) : ∀ i p, r i = some p → ∃ j, reN n f r j = some p := fun i p h => ⟨i + (2 ^ hd + 1), by
  unfold reN
  rw [if_neg (by omega), if_neg (by omega), if_neg (by omega), Nat.add_sub_cancel]
  exact h⟩
end
theorem reN_far2 {r : Rn} {n : Nat} {f : Nat → Nat} (hn : n ≤ 2 ^ hd) : ∀ p, r 1048576 = some p → reN n f r 1048576 = some p := fun p h => by
  have e : (1048576 : Nat) = 2 ^ hd := rfl
  unfold reN
  rw [if_neg (by rw [e]; exact Nat.not_lt.2 hn), if_neg (by rw [e]; exact Nat.lt_irrefl _), if_pos e]
  exact h
/-! ### Short states -/
structure Cn where
  next : Nat
  live : List (Nat × Value)
  objs : List AObj
noncomputable def pickL (l : List (Nat × Value)) (x : Nat → Value) (s : Nat) : Value := List.rec (motive := fun _ => Value) (x s) (fun e _ ih => Bool.rec (motive := fun _ => Value) ih e.2 (Nat.beq e.1 s)) l
noncomputable def frT (g : Nat → Value) (m : Nat) : Tr Value := Nat.rec (motive := fun _ => Tr Value) .nil (fun s t => t.set fd s (g s)) m
noncomputable def hT (l : List AObj) : Nat → Tr AObj → Tr AObj := List.rec (motive := fun _ => Nat → Tr AObj → Tr AObj) (fun _ t => t) (fun o _ ih i t => ih (i + 1) (t.set hd i o)) l
noncomputable def Cn.fr (C : Cn) (m : Nat) (x : Nat → Value) : Fr := ⟨m, frT (pickL C.live x) m⟩
noncomputable def Cn.h (C : Cn) : AH := ⟨hT C.objs 0 .nil, C.next⟩
theorem frT_get (g : Nat → Value) : ∀ (m s : Nat), m ≤ 512 → s < 512 → (frT g m).get fd s = if s < m then some (g s) else none
  | 0, s, h, hs => by
    rw [if_neg (by omega)]
    exact get_nil _ _
  | m + 1, s, h, hs => by
    show ((frT g m).set fd m (g m)).get fd s = _
    by_cases e : m = s
    · subst e
      rw [if_pos (by omega)]
      exact get_set_eq _ _ _ _
    · rw [get_set_ne _ _ _ _ _ (by show m < 2 ^ 9; omega) (by show s < 2 ^ 9; omega) e, frT_get g m s (by omega) hs]
      by_cases h2 : s < m
      · rw [if_pos h2, if_pos (by omega)]
      · rw [if_neg h2, if_neg (by omega)]
theorem hT_get : ∀ (l : List AObj) (i : Nat) (t : Tr AObj) (s : Nat), i + l.length ≤ 2 ^ hd → s < 2 ^ hd → (hT l i t).get hd s = if i ≤ s ∧ s < i + l.length then l[s - i]? else t.get hd s
  | [], i, t, s, h, hs => by
    rw [if_neg (by rw [List.length_nil]; omega)]
    rfl
  | v :: vs, i, t, s, h, hs => by
    show (hT vs (i + 1) (t.set hd i v)).get hd s = _
    rw [List.length_cons] at h ⊢
    rw [hT_get vs (i + 1) (t.set hd i v) s (by omega) hs]
    by_cases h1 : i + 1 ≤ s ∧ s < i + 1 + vs.length
    · rw [if_pos h1, if_pos (by omega), show s - i = (s - (i + 1)) + 1 by omega, List.getElem?_cons_succ]
    · rw [if_neg h1]
      by_cases h2 : i = s
      · subst h2
        rw [if_pos (by omega), Nat.sub_self, List.getElem?_cons_zero]
        exact get_set_eq _ _ _ _
      · rw [if_neg (by omega)]
        exact get_set_ne _ _ _ _ _ (by omega) hs h2
theorem Cn.obj (C : Cn) (hl : C.objs.length ≤ 2 ^ hd) {i : Nat} {o : AObj} (h : C.h.obj i = some o) : C.objs[i]? = some o := by
  have hi := obj_lt h
  rw [obj_of_lt hi] at h
  have e := hT_get C.objs 0 .nil i (by omega) hi
  have h : (hT C.objs 0 .nil).get hd i = some o := h
  rw [h] at e
  by_cases hc : 0 ≤ i ∧ i < 0 + C.objs.length
  · rw [if_pos hc, Nat.sub_zero] at e
    exact e.symm
  · rw [if_neg hc, get_nil] at e
    cases e
theorem pickL_some {l : List (Nat × Value)} {x : Nat → Value} {s : Nat} {v : Value} (h : pickL l x s = v) : (∃ e ∈ l, e.1 = s ∧ e.2 = v) ∨ x s = v := by
  induction l with
  | nil => exact .inr h
  | cons e l ih =>
    have h : Bool.rec (motive := fun _ => Value) (pickL l x s) e.2 (Nat.beq e.1 s) = v := h
    cases hb : Nat.beq e.1 s with
    | false =>
      rw [hb] at h
      rcases ih h with ⟨q, h1, h2⟩ | h2
      · exact .inl ⟨q, .tail _ h1, h2⟩
      · exact .inr h2
    | true =>
      rw [hb] at h
      exact .inl ⟨e, .head _, Nat.eq_of_beq_eq_true hb, h⟩
/-- What is seen of a state: the slots and the blocks of such numbers. -/
noncomputable def seen (S : List Nat) (I : List Nat) (a : Fr) (H : AH) : Nat × List Value × List (Option AObj) := (a.m, S.map (slotB a), I.map H.obj)
noncomputable def Cn.view (C : Cn) (m : Nat) (I : List Nat) : Nat × List Value × List (Option AObj) := (m, C.live.map fun e => mapV (nums I) e.2, C.objs.map fun o => some (mapO (nums I) o))
/-- No number twice. -/
noncomputable def onceB (l : List Nat) : Bool := List.rec (motive := fun _ => Bool) true (fun i l ih => !(l.contains i) && ih) l
/-- What a short state must be like. -/
noncomputable def Cn.okB (C : Cn) (I : List Nat) : Bool := Nat.beq C.objs.length I.length && Nat.ble C.objs.length C.next && Nat.ble C.next 1048576 && (C.live.all fun e => okW C.objs.length e.2) && C.objs.all (okO C.objs.length) && onceB I
theorem onceB_inj : ∀ {l : List Nat}, onceB l = true → ∀ (i j k : Nat), l[i]? = some k → l[j]? = some k → i = j
  | [], _, i, j, k, h, _ => by simp at h
  | a :: l, h0, i, j, k, h1, h2 => by
    have h0 : (!(l.contains a) && onceB l) = true := h0
    rw [Bool.and_eq_true] at h0
    have hno : ∀ q, l[q]? = some a → False := fun q hq => by
      have : a ∈ l := List.mem_of_getElem? hq
      simp [this] at h0
    cases i with
    | zero =>
      cases j with
      | zero => rfl
      | succ j =>
        have e : a = k := Option.some.inj h1
        subst e
        exact (hno j (by simpa using h2)).elim
    | succ i =>
      cases j with
      | zero =>
        have e : a = k := Option.some.inj h2
        subst e
        exact (hno i (by simpa using h1)).elim
      | succ j => rw [onceB_inj h0.2 i j k (by simpa using h1) (by simpa using h2)]
theorem isDead_mapO (f : Nat → Nat) (o : AObj) : isDead (mapO f o) = isDead o := by cases o <;> rfl
/-- THE SHORT STATE DOES FOR THE LONG ONE. -/
theorem canon {P : Program} {N : Nat → Prop} {r : Rn} {H : AH} {a : Fr} {c : Act} {w : World} (C : Cn) {m : Nat} {I : List Nat} (hI : Inv P N r H w) (hF : AF r a c) (hok : C.okB I = true)
    (hv : seen (C.live.map Prod.fst) I a H = C.view m I) : ∃ (s : Rn) (x : Nat → Value), Inv P N s C.h w ∧ AF s (C.fr m x) c ∧ s (2 ^ hd) = r (2 ^ hd) := by
  unfold Cn.okB at hok
  simp only [Bool.and_eq_true] at hok
  obtain ⟨⟨⟨⟨⟨k1, k2⟩, k3⟩, k4⟩, k5⟩, k6⟩ := hok
  have k1 := Nat.eq_of_beq_eq_true k1
  have k2 := Nat.le_of_ble_eq_true k2
  have k3 : C.next ≤ 2 ^ hd := Nat.le_of_ble_eq_true k3
  have hn : C.objs.length ≤ 2 ^ hd := Nat.le_trans k2 k3
  have hv1 : a.m = m := congrArg Prod.fst hv
  have hv2 : (C.live.map Prod.fst).map (slotB a) = C.live.map fun e => mapV (nums I) e.2 := congrArg (fun q => q.2.1) hv
  have hv3 : I.map H.obj = C.objs.map fun o => some (mapO (nums I) o) := congrArg (fun q => q.2.2) hv
  have hf : nums I 1048576 = 1048576 := by
    unfold nums
    rw [List.getElem?_eq_none (by rw [← k1]; exact hn)]
  have hlive : ∀ e ∈ C.live, slot a e.1 = mapV (nums I) e.2 := by
    intro e he
    obtain ⟨i, hi, hie⟩ := List.getElem_of_mem he
    have h1 := congrArg (fun l => l[i]?) hv2
    have h2 : C.live[i]? = some e := by rw [List.getElem?_eq_getElem hi, hie]
    simp only [List.getElem?_map, h2, Option.map_some] at h1
    rw [← slotB_eq]
    exact Option.some.inj h1
  have hobj : ∀ i o, C.objs[i]? = some o → ∃ j, I[i]? = some j ∧ nums I i = j ∧ H.obj j = some (mapO (nums I) o) := by
    intro i o ho
    have h1 := congrArg (fun l => l[i]?) hv3
    simp only [List.getElem?_map, ho, Option.map_some] at h1
    cases hj : I[i]? with
    | none => rw [hj] at h1; cases h1
    | some j =>
      rw [hj] at h1
      refine ⟨j, rfl, ?_, Option.some.inj h1⟩
      unfold nums
      rw [hj]
  have hkept : ∀ i o, C.objs[i]? = some o → reN C.objs.length (nums I) r i = r (nums I i) := fun i o h => by
    unfold reN
    rw [if_pos (List.getElem?_eq_some_iff.1 h).1]
  have hx : ∀ t, t < a.m → ∃ u, VR (reN C.objs.length (nums I) r) u (c.tmps.getD t undef) := fun t ht => VR.far (reN_far hn) (reN_far2 hn) (hF.1.2.2 t ht)
  have hx2 : ∀ t, ∃ u, t < a.m → VR (reN C.objs.length (nums I) r) u (c.tmps.getD t undef) := fun t => by
    by_cases ht : t < a.m
    · exact (hx t ht).elim fun u hu => ⟨u, fun _ => hu⟩
    · exact ⟨undef, fun h => absurd h ht⟩
  refine ⟨reN C.objs.length (nums I) r, fun t => Classical.choose (hx2 t), ⟨fun i o hi ho => ?_, fun i j oi oj pi pj hi hj h1 h2 h3 h4 h5 h6 h7 => ?_, fun i hi hi2 => ?_, k3, hI.low⟩, ⟨⟨?_, ?_, fun t ht => ?_⟩, hF.2⟩, ?_⟩
  · have ho := C.obj hn ho
    obtain ⟨j, j1, j2, j3⟩ := hobj i o ho
    obtain ⟨p, p1, p2, p3⟩ := hI.obj j _ (obj_lt j3) j3
    refine ⟨p, ?_, p2, mapO_R hf hn ?_ p3⟩
    · rw [hkept i o ho, j2]
      exact p1
    · exact List.all_eq_true.1 k5 o (List.mem_of_getElem? ho)
  · have h1 := C.obj hn h1
    have h2 := C.obj hn h2
    obtain ⟨i', i1, i2, i3⟩ := hobj i oi h1
    obtain ⟨j', j1, j2, j3⟩ := hobj j oj h2
    rw [hkept i oi h1, i2] at h5
    rw [hkept j oj h2, j2] at h6
    have := hI.sep i' j' _ _ pi pj (obj_lt i3) (obj_lt j3) i3 j3 (by rw [isDead_mapO]; exact h3) (by rw [isDead_mapO]; exact h4) h5 h6 h7
    subst this
    exact onceB_inj k6 i j i' i1 j1
  · have hi : C.next ≤ i := hi
    unfold reN
    rw [if_neg (by omega), if_pos hi2]
  · show c.tmps.size = m
    rw [← hv1]
    exact hF.1.1
  · show m ≤ 512
    rw [← hv1]
    exact hF.1.2.1
  · have ht : t < m := ht
    have hm : m ≤ 512 := by rw [← hv1]; exact hF.1.2.1
    have ha : t < a.m := by rw [hv1]; exact ht
    have e : slot (C.fr m fun t => Classical.choose (hx2 t)) t = pickL C.live (fun t => Classical.choose (hx2 t)) t := by
      unfold slot
      show cond (Nat.blt t m) (match (frT (pickL C.live fun t => Classical.choose (hx2 t)) m).get fd t with | some v => v | none => undef) undef = _
      rw [show Nat.blt t m = true from Nat.ble_eq_true_of_le ht, cond_true, frT_get _ m t hm (by omega), if_pos ht]
    rw [e]
    rcases pickL_some (l := C.live) (x := fun t => Classical.choose (hx2 t)) (s := t) rfl with ⟨q, q1, q2, q3⟩ | q
    · rw [← q3]
      refine mapV_VR hf hn (List.all_eq_true.1 k4 q q1) ?_
      rw [← hlive q q1, q2]
      exact hF.1.2.2 t ha
    · rw [← q]
      exact Classical.choose_spec (hx2 t) ha
  · unfold reN
    rw [if_neg (by omega), if_neg (Nat.lt_irrefl _), if_pos rfl]
end
end Go.Eng
