/-
  Our machine's memory and the given model's: how they are alike.
  Conditions: none; plain theorems.
-/
import Derived.Test.YtfcebfbdodeecaaGreatDoorEngEa
import Derived.Below
import Derived.Laws.CopyRow
import Derived.Deep.AppendSrc
namespace Go.Eng
open Go
set_option linter.unusedVariables false
set_option linter.unusedSimpArgs false

/-! ### Tables -/
theorem way_zero (k : Nat) : way 0 k = [] := rfl
theorem way_succ (d k : Nat) : way (d + 1) k = if k = 0 then [] else if k % 2 = 0 then false :: way d ((k - 2) / 2) else true :: way d ((k - 1) / 2) := by
  show Bool.rec (motive := fun _ => List Bool) (Bool.rec (motive := fun _ => List Bool) (true :: way d ((k - 1) / 2)) (false :: way d ((k - 2) / 2)) (Nat.beq (k % 2) 0)) [] (Nat.beq k 0) = _
  by_cases h : k = 0
  · subst h
    rfl
  · rw [if_neg h]
    have h1 : Nat.beq k 0 = false := by
      cases hb : Nat.beq k 0 with
      | false => rfl
      | true => exact absurd (Nat.eq_of_beq_eq_true hb) h
    rw [h1]
    by_cases h2 : k % 2 = 0
    · rw [if_pos h2, show Nat.beq (k % 2) 0 = true from by rw [h2]; rfl]
    · rw [if_neg h2]
      have h3 : Nat.beq (k % 2) 0 = false := by
        cases hb : Nat.beq (k % 2) 0 with
        | false => rfl
        | true => exact absurd (Nat.eq_of_beq_eq_true hb) h2
      rw [h3]
theorem way_inj : ∀ (d k j : Nat), k < 2 ^ d → j < 2 ^ d → way d k = way d j → k = j
  | 0, k, j, hk, hj, h => by
    have : (2 : Nat) ^ 0 = 1 := rfl
    omega
  | d + 1, k, j, hk, hj, h => by
    have e2 : (2 : Nat) ^ (d + 1) = 2 * 2 ^ d := by rw [Nat.pow_succ, Nat.mul_comm]
    rw [way_succ, way_succ] at h
    by_cases h1 : k = 0
    · rw [if_pos h1] at h
      by_cases h2 : j = 0
      · omega
      · rw [if_neg h2] at h
        split at h <;> cases h
    · rw [if_neg h1] at h
      by_cases h2 : j = 0
      · rw [if_pos h2] at h
        split at h <;> cases h
      · rw [if_neg h2] at h
        by_cases h3 : k % 2 = 0
        · rw [if_pos h3] at h
          by_cases h4 : j % 2 = 0
          · rw [if_pos h4] at h
            have := way_inj d _ _ (by omega) (by omega) (List.cons.inj h).2
            omega
          · rw [if_neg h4] at h
            have := (List.cons.inj h).1
            cases this
        · rw [if_neg h3] at h
          by_cases h4 : j % 2 = 0
          · rw [if_pos h4] at h
            have := (List.cons.inj h).1
            cases this
          · rw [if_neg h4] at h
            have := way_inj d _ _ (by omega) (by omega) (List.cons.inj h).2
            omega
theorem getP_nil {α : Type} (p : List Bool) : (Tr.nil : Tr α).getP p = none := by cases p <;> rfl
theorem getP_setP_eq {α : Type} : ∀ (p : List Bool) (t : Tr α) (a : α), (t.setP p a).getP p = some a
  | [], .nil, a => rfl
  | [], .node v l r, a => rfl
  | true :: p, .nil, a => getP_setP_eq p .nil a
  | false :: p, .nil, a => getP_setP_eq p .nil a
  | true :: p, .node v l r, a => getP_setP_eq p r a
  | false :: p, .node v l r, a => getP_setP_eq p l a
theorem getP_setP_ne {α : Type} : ∀ (p q : List Bool) (t : Tr α) (a : α), p ≠ q → (t.setP p a).getP q = t.getP q
  | [], [], t, a, h => absurd rfl h
  | [], true :: q, .nil, a, h => getP_nil q
  | [], false :: q, .nil, a, h => getP_nil q
  | [], true :: q, .node v l r, a, h => rfl
  | [], false :: q, .node v l r, a, h => rfl
  | true :: p, [], .nil, a, h => rfl
  | false :: p, [], .nil, a, h => rfl
  | true :: p, [], .node v l r, a, h => rfl
  | false :: p, [], .node v l r, a, h => rfl
  | true :: p, true :: q, .nil, a, h => (getP_setP_ne p q .nil a (fun e => h (by rw [e]))).trans (getP_nil q)
  | true :: p, false :: q, .nil, a, h => getP_nil q
  | false :: p, true :: q, .nil, a, h => getP_nil q
  | false :: p, false :: q, .nil, a, h => (getP_setP_ne p q .nil a (fun e => h (by rw [e]))).trans (getP_nil q)
  | true :: p, true :: q, .node v l r, a, h => getP_setP_ne p q r a (fun e => h (by rw [e]))
  | true :: p, false :: q, .node v l r, a, h => rfl
  | false :: p, true :: q, .node v l r, a, h => rfl
  | false :: p, false :: q, .node v l r, a, h => getP_setP_ne p q l a (fun e => h (by rw [e]))
theorem get_nil {α : Type} (d k : Nat) : (Tr.nil : Tr α).get d k = none := getP_nil _
theorem get_set_eq {α : Type} (d : Nat) (t : Tr α) (k : Nat) (a : α) : (t.set d k a).get d k = some a := getP_setP_eq _ _ _
theorem get_set_ne {α : Type} (d : Nat) (t : Tr α) (k j : Nat) (a : α) (hk : k < 2 ^ d) (hj : j < 2 ^ d) (h : k ≠ j) : (t.set d k a).get d j = t.get d j :=
  getP_setP_ne _ _ _ _ fun e => h (way_inj d k j hk hj e)

/-! ### Values alike -/
/-- Where a block of ours lies: its block, from which cell on, with how many elements behind it. -/
structure Pl where
  b : Nat
  o : Nat
  x : Nat
abbrev Rn := Nat → Option Pl
def Rn.le (r s : Rn) : Prop := ∀ i p, r i = some p → s i = some p
theorem Rn.le_refl (r : Rn) : r.le r := fun _ _ h => h
theorem Rn.le_trans {r s t : Rn} (h : r.le s) (k : s.le t) : r.le t := fun i p e => k i p (h i p e)

/-- A text by a number. -/
def encL : List UInt8 → Nat
  | [] => 0
  | b :: l => encL l * 257 + (b.toNat + 1)
theorem encL_inj : ∀ (l m : List UInt8), encL l = encL m → l = m
  | [], [], _ => rfl
  | [], b :: m, h => by
    have h : 0 = encL m * 257 + (b.toNat + 1) := h
    omega
  | b :: l, [], h => by
    have h : encL l * 257 + (b.toNat + 1) = 0 := h
    omega
  | b :: l, c :: m, h => by
    have h : encL l * 257 + (b.toNat + 1) = encL m * 257 + (c.toNat + 1) := h
    have hb := b.toNat_lt
    have hc := c.toNat_lt
    have h1 : b.toNat = c.toNat := by omega
    have h2 : encL l = encL m := by omega
    rw [UInt8.toNat_inj.1 h1, encL_inj l m h2]
noncomputable def dec (n : Nat) : ByteArray := Classical.epsilon fun s => encL s.data.toList = n
theorem dec_enc (s : ByteArray) : dec (encL s.data.toList) = s := by
  have h : encL (dec (encL s.data.toList)).data.toList = encL s.data.toList := Classical.epsilon_spec (p := fun t : ByteArray => encL t.data.toList = encL s.data.toList) ⟨s, rfl⟩
  have h1 := encL_inj _ _ h
  obtain ⟨d, hd⟩ : ∃ d, dec (encL s.data.toList) = d := ⟨_, rfl⟩
  rw [hd] at h1 ⊢
  cases d
  cases s
  congr 1
  exact Array.toList_inj.1 h1

mutual
inductive VR (r : Rn) : Value → Value → Prop
  | bool (b : Bool) : VR r (.bool b) (.bool b)
  | int (k : IntKind) (n : Int) : VR r (.int k n) (.int k n)
  | float (k : FloatKind) (n : Nat) : VR r (.float k n) (.float k n)
  | complex (k : FloatKind) (n m : Nat) : VR r (.complex k n m) (.complex k n m)
  | string (s : ByteArray) : VR r (.string s) (.string s)
  | ptr0 : VR r (.pointer none) (.pointer none)
  | ptr (i o : Nat) (p : Pl) (h : r i = some p) : VR r (.pointer (some ⟨i, o, none⟩)) (.pointer (some ⟨p.b, p.o + o, none⟩))
  | sl0 (l c : Nat) : VR r (.slice none l c) (.slice none l c)
  | sl (i o l c : Nat) (p : Pl) (h : r i = some p) : VR r (.slice (some ⟨i, o, none⟩) l c) (.slice (some ⟨p.b, p.o + o, none⟩) l (c + p.x))
  | map0 : VR r (.map none) (.map none)
  | map (i : Nat) (p : Pl) (h : r i = some p) : VR r (.map (some i)) (.map (some p.b))
  | chan0 : VR r (.chan none) (.chan none)
  | func (fn : Fn) (f c f' c' : Array Value) (hf : LR r f.toList f'.toList) (hc : LR r c.toList c'.toList) : VR r (.func fn f c) (.func fn f' c')
  | nilFunc : VR r .nilFunc .nilFunc
  | nilIface : VR r .nilIface .nilIface
  | sym (n : Nat) (p : Pl) (h : r 1048576 = some p) (hn : (dec p.x).size = n) : VR r (.iface n .nilFunc) (.string (dec p.x))
  | agg (c c' : Array Value) (h : LR r c.toList c'.toList) : VR r (.agg c) (.agg c')
  | tuple (c c' : Array Value) (h : LR r c.toList c'.toList) : VR r (.tuple c) (.tuple c')
inductive LR (r : Rn) : List Value → List Value → Prop
  | nil : LR r [] []
  | cons (v v' : Value) (l l' : List Value) (h : VR r v v') (hl : LR r l l') : LR r (v :: l) (v' :: l')
end
mutual
theorem VR.mono {r s : Rn} (hle : r.le s) : ∀ {v v' : Value}, VR r v v' → VR s v v'
  | _, _, .bool b => .bool b
  | _, _, .int k n => .int k n
  | _, _, .float k n => .float k n
  | _, _, .complex k n m => .complex k n m
  | _, _, .string t => .string t
  | _, _, .ptr0 => .ptr0
  | _, _, .ptr i o p h => .ptr i o p (hle _ _ h)
  | _, _, .sl0 l c => .sl0 l c
  | _, _, .sl i o l c p h => .sl i o l c p (hle _ _ h)
  | _, _, .map0 => .map0
  | _, _, .map i p h => .map i p (hle _ _ h)
  | _, _, .chan0 => .chan0
  | _, _, .func fn f c f' c' hf hc => .func fn f c f' c' (LR.mono hle hf) (LR.mono hle hc)
  | _, _, .nilFunc => .nilFunc
  | _, _, .nilIface => .nilIface
  | _, _, .sym n p h hn => .sym n p (hle _ _ h) hn
  | _, _, .agg c c' h => .agg c c' (LR.mono hle h)
  | _, _, .tuple c c' h => .tuple c c' (LR.mono hle h)
theorem LR.mono {r s : Rn} (hle : r.le s) : ∀ {l l' : List Value}, LR r l l' → LR s l l'
  | _, _, .nil => .nil
  | _, _, .cons v v' l l' h hl => .cons v v' l l' (VR.mono hle h) (LR.mono hle hl)
end
theorem LR.length {r : Rn} : ∀ {l l' : List Value}, LR r l l' → l.length = l'.length
  | _, _, .nil => rfl
  | _, _, .cons v v' l l' h hl => by rw [List.length_cons, List.length_cons, hl.length]
theorem LR.append {r : Rn} : ∀ {l l' m m' : List Value}, LR r l l' → LR r m m' → LR r (l ++ m) (l' ++ m')
  | _, _, _, _, .nil, hm => hm
  | _, _, _, _, .cons v v' l l' h hl, hm => .cons v v' _ _ h (hl.append hm)
theorem LR.get {r : Rn} : ∀ {l l' : List Value}, LR r l l' → ∀ (i : Nat) (v : Value), l[i]? = some v → ∃ v', l'[i]? = some v' ∧ VR r v v'
  | _, _, .nil, i, v, h => by simp at h
  | _, _, .cons v v' l l' h hl, 0, u, hu => by
    simp at hu
    subst hu
    exact ⟨v', rfl, h⟩
  | _, _, .cons v v' l l' h hl, i + 1, u, hu => by
    simp at hu
    obtain ⟨w, hw, hr⟩ := hl.get i u hu
    exact ⟨w, by simpa using hw, hr⟩
theorem LR.of_get {r : Rn} : ∀ {l l' : List Value}, l.length = l'.length → (∀ (i : Nat) (v : Value), l[i]? = some v → ∃ v', l'[i]? = some v' ∧ VR r v v') → LR r l l'
  | [], [], _, _ => .nil
  | v :: l, [], h, _ => by simp at h
  | [], v :: l, h, _ => by simp at h
  | v :: l, v' :: l', h, hg => by
    obtain ⟨u, hu, hr⟩ := hg 0 v rfl
    obtain rfl : v' = u := by simpa using hu
    exact .cons _ _ _ _ hr (LR.of_get (by simpa using h) (fun i x hx => by
      obtain ⟨y, hy, hr⟩ := hg (i + 1) x (by simpa using hx)
      exact ⟨y, by simpa using hy, hr⟩))
theorem LR.drop {r : Rn} : ∀ {l l' : List Value} (n : Nat), LR r l l' → LR r (l.drop n) (l'.drop n)
  | _, _, 0, h => h
  | _, _, n + 1, .nil => .nil
  | _, _, n + 1, .cons v v' l l' h hl => hl.drop n
theorem LR.take {r : Rn} : ∀ {l l' : List Value} (n : Nat), LR r l l' → LR r (l.take n) (l'.take n)
  | _, _, 0, h => .nil
  | _, _, n + 1, .nil => .nil
  | _, _, n + 1, .cons v v' l l' h hl => .cons _ _ _ _ h (hl.take n)
theorem LR.set {r : Rn} : ∀ {l l' : List Value} (n : Nat) {v v' : Value}, LR r l l' → VR r v v' → LR r (l.set n v) (l'.set n v')
  | _, _, n, v, v', .nil, _ => .nil
  | _, _, 0, v, v', .cons _ _ l l' h hl, hv => .cons _ _ _ _ hv hl
  | _, _, n + 1, v, v', .cons _ _ l l' h hl, hv => .cons _ _ _ _ h (hl.set n hv)
theorem LR.nil_inv {r : Rn} {l : List Value} (h : LR r [] l) : l = [] := by
  cases h
  rfl
/-- A value without addresses is like itself alone. -/
theorem plain1_eq {r : Rn} {v v' : Value} (h : plain1 v = true) (hr : VR r v v') : v' = v := by
  cases hr <;> first | rfl | (simp [plain1] at h; done) | skip
  case func fn f c f' c' hf hc =>
    simp [plain1] at h
    obtain ⟨h1, h2⟩ := h
    subst h1 h2
    have e1 : f'.toList = [] := hf.nil_inv
    have e2 : c'.toList = [] := hc.nil_inv
    have e3 : f' = #[] := by simpa using e1
    have e4 : c' = #[] := by simpa using e2
    rw [e3, e4]
theorem plain1_refl {r : Rn} {v : Value} (h : plain1 v = true) : VR r v v := by
  cases v with
  | bool b => exact .bool b
  | int k n => exact .int k n
  | float k n => exact .float k n
  | complex k n m => exact .complex k n m
  | string s => exact .string s
  | pointer a => cases a with
    | none => exact .ptr0
    | some a => simp [plain1] at h
  | slice a l c => cases a with
    | none => exact .sl0 l c
    | some a => simp [plain1] at h
  | map a => cases a with
    | none => exact .map0
    | some a => simp [plain1] at h
  | chan a => cases a with
    | none => exact .chan0
    | some a => simp [plain1] at h
  | func fn f c =>
    simp [plain1] at h
    obtain ⟨h1, h2⟩ := h
    subst h1 h2
    exact .func fn _ _ _ _ .nil .nil
  | nilFunc => exact .nilFunc
  | nilIface => exact .nilIface
  | iface t v => simp [plain1] at h
  | agg c => simp [plain1] at h
  | tuple c => simp [plain1] at h
theorem plainL_refl {r : Rn} : ∀ {l : List Value}, l.all plain1 = true → LR r l l
  | [], _ => .nil
  | v :: l, h => by
    simp only [List.all_cons, Bool.and_eq_true] at h
    exact .cons _ _ _ _ (plain1_refl h.1) (plainL_refl h.2)
theorem plainL_eq {r : Rn} : ∀ {l l' : List Value}, LR r l l' → l.all plain1 = true → l' = l
  | _, _, .nil, _ => rfl
  | _, _, .cons v v' l l' hv hl, h => by
    simp only [List.all_cons, Bool.and_eq_true] at h
    rw [plain1_eq h.1 hv, plainL_eq hl h.2]
theorem plain_refl {r : Rn} {v : Value} (h : plain v = true) : VR r v v := by
  cases v with
  | agg c => exact .agg c c (plainL_refl h)
  | tuple c => exact .tuple c c (plainL_refl h)
  | _ => exact plain1_refl h
theorem plain_eq {r : Rn} {v v' : Value} (h : plain v = true) (hr : VR r v v') : v' = v := by
  cases hr
  case agg c c' hl =>
    have := plainL_eq hl h
    rw [Array.toList_inj.1 this]
  case tuple c c' hl =>
    have := plainL_eq hl h
    rw [Array.toList_inj.1 this]
  all_goals first | rfl | (exact plain1_eq h (by constructor <;> assumption)) | (simp [plain, plain1] at h; done)
end Go.Eng
