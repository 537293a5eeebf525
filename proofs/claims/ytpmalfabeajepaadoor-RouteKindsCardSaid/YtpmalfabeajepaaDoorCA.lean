import Derived.Test.YtpmalfabeajepaaDoorShelf
import Derived.Test.YtpmalfabeajepaaDoorWMore
import Derived.Test.YtpmalfabeajepaaDoorG
import Derived.Laws.RangeAny
import Derived.Lib.DecodeN
import Derived.Deep.LoopGhost
import Derived.WalkKit
namespace Go.Proofs.YtpmalfabeajepaaDoorCA
open Go.RowKit Go.Lib
set_option maxHeartbeats 4000000
set_option maxRecDepth 1000000
theorem rune_plain (r : Int) (h0 : 128 ≤ r) (h1 : r ≤ 2147483647) (hn : r ≠ 65533) (N : ByteArray) (hN : Utf8.encode r = N) (h3 : 3 ≤ N.size) (h4 : N.size ≤ 4) (w : World) :
    Calls Tryd.prog 46 #[.string ⟨#[42, 35]⟩, .int .i32 r] w fun e w' => e = .returned (.int .i64 (-1)) ∧ Below w.heap.size w w' := by
  have z0 : decide ((0 : Int) ≤ r) = true := decide_eq_true (by omega)
  have z1 : decide (r < 128) = false := decide_eq_false (by omega)
  have z2 : (r == 65533) = false := beq_eq_false_iff_ne.mpr hn
  have hc := fun w => run_convert_int_string (P := Tryd.prog) w 21 9 .i32 r (by rw [Tryd.underlying21]; rfl) Tryd.underlying9
  rw [hN] at hc
  go_enter Tryd.func46, Tryd.ntmps46
  go_wp2_with (go_at_call 58; refine (Tryd.utf8_ValidRune _ _).mono ?_; rintro e w' ⟨rfl, hw⟩; rw [hw])
  · go_ret
    exact ⟨rfl, Below.refl _ _⟩
  · have t9 := Tryd.underlying9
    have t21 := Tryd.underlying21
    have t3 := Tryd.underlying3
    have t5 := Tryd.underlying5
    refine Go.Proofs.YtpmalfabeajepaaDoorG.wp_scope_g ?_
    intro G hG
    go_wp2
    go_loopg [9] 1 (fun g v9 wx => v9 = .int .i64 ((N.size : Int) - 1) ∧ wx = w)
    case atStart => exact ⟨by first | rfl | (rw [show wrap64 ((N.size : Int) - 1) = (N.size : Int) - 1 from by (unfold wrap64; omega)]), rfl⟩
    case round =>
      obtain ⟨rfl, rfl⟩ := hrel
      have hz : decide (((N.size : Int) - 1) < ((⟨#[42, 35]⟩ : ByteArray).size : Int)) = false := decide_eq_false (by have : (⟨#[42, 35]⟩ : ByteArray).size = 2 := rfl; omega)
      go_wp2
      rw [Go.Proofs.YtpmalfabeajepaaDoorG.scoped_ret]
      go_ret
      exact ⟨rfl, Below.refl _ _⟩
theorem rune_two (r : Int) (h0 : 128 ≤ r) (h1 : r ≤ 2147483647) (hn : r ≠ 65533) (a b : UInt8) (hN : Utf8.encode r = ⟨#[a, b]⟩) (hb : 128 ≤ b.toNat) (w : World) :
    Calls Tryd.prog 46 #[.string ⟨#[42, 35]⟩, .int .i32 r] w fun e w' => e = .returned (.int .i64 (-1)) ∧ Below w.heap.size w w' := by
  have z0 : decide ((0 : Int) ≤ r) = true := decide_eq_true (by omega)
  have z1 : decide (r < 128) = false := decide_eq_false (by omega)
  have z2 : (r == 65533) = false := beq_eq_false_iff_ne.mpr hn
  have hc := fun w => run_convert_int_string (P := Tryd.prog) w 21 9 .i32 r (by rw [Tryd.underlying21]; rfl) Tryd.underlying9
  rw [hN] at hc
  go_enter Tryd.func46, Tryd.ntmps46
  go_wp2_with (go_at_call 58; refine (Tryd.utf8_ValidRune _ _).mono ?_; rintro e w' ⟨rfl, hw⟩; rw [hw])
  · go_ret
    exact ⟨rfl, Below.refl _ _⟩
  · have t9 := Tryd.underlying9
    have t21 := Tryd.underlying21
    have t3 := Tryd.underlying3
    have t5 := Tryd.underlying5
    refine Go.Proofs.YtpmalfabeajepaaDoorG.wp_scope_g ?_
    intro G hG
    go_wp2
    go_loopg [9] 1 (fun g v9 wx => v9 = .int .i64 1 ∧ wx = w)
    case atStart => exact ⟨by rfl, rfl⟩
    case round =>
      obtain ⟨rfl, rfl⟩ := hrel
      go_wp2
      refine Go.Proofs.YtpmalfabeajepaaDoorG.wp_scope_g ?_
      intro G2 hG2
      go_wp2
      have hne : ((35 : Int) != (b.toNat : Int)) = true := bne_iff_ne.mpr (by omega)
      have w2 : IntKind.i64.wrap 2 = 2 := by decide
      have z2 : (⟨#[42, 35]⟩ : ByteArray).size = 2 := rfl
      have x2 : (⟨#[42, 35]⟩ : ByteArray).extract 2 2 = ⟨#[]⟩ := by decide
      have i2 : Lib.indexByte ([] : List UInt8) b = -1 := rfl
      have hne2 : ((((⟨#[42, 35]⟩ : ByteArray)[1]'(by decide)).toNat : Int) != (((⟨#[a, b]⟩ : ByteArray)[1]'(show 1 < 2 by decide)).toNat : Int)) = true := hne
      go_region
      go_wp2_with (go_at_call 57; refine (Tryd.strings_IndexByte _ _ _).mono ?_; rintro e w' ⟨rfl, hw⟩; rw [hw])
      go_quiet ((go_at_call 57; refine (Tryd.strings_IndexByte _ _ _).mono ?_; rintro e w' ⟨rfl, rfl⟩; exact ⟨rfl, _, rfl⟩))
      go_wp2
      all_goals (rw [Go.Proofs.YtpmalfabeajepaaDoorG.scoped_ret]; simp only [Exit.then, Exit.inBlock, Go.Proofs.YtpmalfabeajepaaDoorG.scoped_ret])
      all_goals go_ret
      all_goals (subst hw; exact ⟨rfl, Go.Proofs.YtpmalfabeajepaaDoorW.PrintWords.pw_below_drewN (Below.refl _ _) _⟩)

theorem rune_err (s : ByteArray) (ha : ∀ (j : Nat) b, s.data.toList[j]? = some b → b.toNat < 128) (w : World) :
    Calls Tryd.prog 46 #[.string s, .int .i32 65533] w fun e w' => e = .returned (.int .i64 (-1)) ∧ Below w.heap.size w w' := by
  have HA : Aside (∀ (j : Nat) b, s.data.toList[j]? = some b → b.toNat < 128) := ha
  clear ha
  have z0 : decide ((0 : Int) ≤ 65533) = true := rfl
  have z1 : decide ((65533 : Int) < 128) = false := rfl
  have t9 := Tryd.underlying9
  have t21 := Tryd.underlying21
  have t3 := Tryd.underlying3
  have t5 := Tryd.underlying5
  go_enter Tryd.func46, Tryd.ntmps46
  go_wp2
  go_loopg [5, 6] s.size (fun g _ _ wx => ∃ i : Nat, i + g = s.size ∧ wx = w.iter s i)
  case atStart => exact ⟨0, by omega, rfl⟩
  case round =>
    obtain ⟨i, hig, rfl⟩ := hrel
    cases gk with
    | zero =>
      obtain rfl : i = s.size := by omega
      have hnx := run_next_end (P := Tryd.prog) w s s.size
      go_wp2
      go_ret
      exact ⟨rfl, (Below.refl _ _).alloc (Nat.le_refl _) _⟩
    | succ g =>
      have hi : i < s.size := by omega
      obtain ⟨x, hx⟩ : ∃ x : UInt8, s[i]'hi = x := ⟨_, rfl⟩
      have hxl : s.data.toList[i]? = some x := by rw [← hx]; exact Lib.data_getElem? s i hi
      have hx128 : x.toNat < 128 := HA.out i x hxl
      have hnx := fun ty => run_next_ascii (P := Tryd.prog) w s i ty hi (by rw [hx]; exact hx128)
      rw [hx] at hnx
      have hne : ((x.toNat : Int) == 65533) = false := beq_eq_false_iff_ne.mpr (by omega)
      clear hxl hx
      go_wp2
      go_roundg g
      case measure => omega
      case rel => exact ⟨i + 1, by omega, rfl⟩
/-- What a rune of 128 and more is as bytes. -/
theorem encode_two (r : Int) (h0 : 128 ≤ r) (h1 : r < 2048) : ∃ a b : UInt8, Utf8.encode r = ⟨#[a, b]⟩ ∧ 128 ≤ b.toNat := by
  have hv : Utf8.valid r = true := by
    unfold Utf8.valid
    simp
    omega
  have h2 : ¬ r.toNat < 128 := by omega
  have h3 : r.toNat < 2048 := by omega
  refine ⟨UInt8.ofNat (192 + r.toNat / 64), UInt8.ofNat (128 + r.toNat % 64), ?_, ?_⟩
  · unfold Utf8.encode
    simp only [hv, if_true]
    rw [if_neg h2, if_pos h3]
  · rw [UInt8.toNat_ofNat']
    omega
theorem encode_more (r : Int) (h0 : 2048 ≤ r) : 3 ≤ (Utf8.encode r).size ∧ (Utf8.encode r).size ≤ 4 := by
  unfold Utf8.encode
  cases hv : Utf8.valid r with
  | false =>
    simp only [Bool.false_eq_true, if_false]
    exact ⟨by decide, by decide⟩
  | true =>
    simp only [if_true]
    rw [if_neg (by omega), if_neg (by omega)]
    split
    · exact ⟨Nat.le_refl 3, show 3 ≤ 4 by decide⟩
    · exact ⟨show 3 ≤ 4 by decide, Nat.le_refl 4⟩
theorem signs_ascii : ∀ (j : Nat) b, (⟨#[42, 35]⟩ : ByteArray).data.toList[j]? = some b → b.toNat < 128 := by
  intro j b h
  match j, h with
  | 0, h => cases h; decide
  | 1, h => cases h; decide
  | n + 2, h => simp at h
theorem rune_any (r : Int) (h0 : 128 ≤ r) (h1 : r ≤ 2147483647) (w : World) :
    Calls Tryd.prog 46 #[.string ⟨#[42, 35]⟩, .int .i32 r] w fun e w' => e = .returned (.int .i64 (-1)) ∧ Below w.heap.size w w' := by
  by_cases he : r = 65533
  · subst he
    exact rune_err _ signs_ascii w
  · by_cases h2 : r < 2048
    · obtain ⟨a, b, hN, hb⟩ := encode_two r h0 h2
      exact rune_two r h0 h1 he a b hN hb w
    · obtain ⟨h3, h4⟩ := encode_more r (by omega)
      exact rune_plain r h0 h1 he _ rfl h3 h4 w
/-- What a rune takes beyond its first byte are high bytes. -/
theorem decode_rest (s : ByteArray) (pos : Nat) (h : pos < s.size) : pos + (Utf8.decode s pos).2 ≤ s.size ∧ 1 ≤ (Utf8.decode s pos).2 ∧ ∀ k, 1 ≤ k → k < (Utf8.decode s pos).2 → 128 ≤ (s.get! (pos + k)).toNat := by
  have hb : ∀ k, (s.get! (pos + k)).toNat < 256 := fun k => (s.get! (pos + k)).toNat_lt
  have c1 : ∀ k, (decide (pos + k < s.size) && (s.get! (pos + k)).toNat / 64 == 2) = true → pos + k < s.size ∧ 128 ≤ (s.get! (pos + k)).toNat := fun k hk => by
    rw [Bool.and_eq_true, decide_eq_true_eq, beq_iff_eq] at hk
    exact ⟨hk.1, by omega⟩
  simp only [Utf8.decode]
  split
  · exact ⟨by omega, Nat.le_refl 1, fun k k1 k2 => by omega⟩
  · split
    · rename_i hc
      rw [Bool.and_eq_true] at hc
      have g1 := c1 1 hc.2
      split
      · exact ⟨by omega, by omega, fun k k1 k2 => by
          obtain rfl : k = 1 := by omega
          exact g1.2⟩
      · exact ⟨by omega, Nat.le_refl 1, fun k k1 k2 => by omega⟩
    · split
      · rename_i hc
        rw [Bool.and_eq_true, Bool.and_eq_true] at hc
        have g1 := c1 1 hc.1.2
        have g2 := c1 2 hc.2
        split
        · exact ⟨by omega, by omega, fun k k1 k2 => by
            obtain rfl | rfl : k = 1 ∨ k = 2 := by omega
            · exact g1.2
            · exact g2.2⟩
        · exact ⟨by omega, Nat.le_refl 1, fun k k1 k2 => by omega⟩
      · split
        · rename_i hc
          rw [Bool.and_eq_true, Bool.and_eq_true, Bool.and_eq_true] at hc
          have g1 := c1 1 hc.1.1.2
          have g2 := c1 2 hc.1.2
          have g3 := c1 3 hc.2
          split
          · exact ⟨by omega, by omega, fun k k1 k2 => by
              obtain rfl | rfl | rfl : k = 1 ∨ k = 2 ∨ k = 3 := by omega
              · exact g1.2
              · exact g2.2
              · exact g3.2⟩
          · exact ⟨by omega, Nat.le_refl 1, fun k k1 k2 => by omega⟩
        · exact ⟨by omega, Nat.le_refl 1, fun k k1 k2 => by omega⟩
/-- The iterator of a range over a text, wherever it lies. -/
def stepW (w : World) (k : Nat) (s : ByteArray) (i : Nat) : World := { w with heap := w.heap.setIfInBounds k (.stringIter s i) }
theorem run_next_in {P : Program} (w : World) (k : Nat) (s : ByteArray) (pos : Nat) (ty : TypeId) (hk : w.heap[k]? = some (.stringIter s pos)) (h : pos < s.size) :
    (Instr.next (.pointer (some ⟨k, 0, none⟩)) true ty).run P w = .ok (.tuple #[.bool true, .int .i64 pos, .int .i32 (Utf8.decode s pos).1]) (stepW w k s (pos + (Utf8.decode s pos).2)) := by
  simp only [Instr.next, getObj, setObj, Sem.run_bind, Sem.run, hk, Result.andThen, h, if_true]
  simp [goInt, stepW]
theorem run_next_over {P : Program} (w : World) (k : Nat) (s : ByteArray) (pos : Nat) (ty : TypeId) (hk : w.heap[k]? = some (.stringIter s pos)) (h : ¬ pos < s.size) :
    (Instr.next (.pointer (some ⟨k, 0, none⟩)) true ty).run P w = .ok (.tuple #[.bool false]) w := by
  simp [Instr.next, getObj, Sem.run, hk, h]
structure ItAt (w wx : World) (s : ByteArray) (i : Nat) : Prop where
  at_ : wx.heap[w.heap.size]? = some (.stringIter s i)
  bel : Below w.heap.size w wx
theorem ItAt.start (w : World) (s : ByteArray) : ItAt w (w.iter s 0) s 0 := ⟨World.iter_heap w s 0, (Below.refl _ _).alloc (Nat.le_refl _) _⟩
theorem ItAt.step {w wx : World} {s : ByteArray} {i : Nat} (h : ItAt w wx s i) (j : Nat) : ItAt w (stepW wx w.heap.size s j) s j := by
  have hlt := (Array.getElem?_eq_some_iff.1 h.at_).1
  refine ⟨?_, ⟨h.bel.os, h.bel.tape, h.bel.output, ?_, fun k hk => ?_⟩⟩
  · show (wx.heap.setIfInBounds w.heap.size _)[w.heap.size]? = _
    rw [Array.getElem?_setIfInBounds_self_of_lt hlt]
  · show w.heap.size ≤ (wx.heap.setIfInBounds _ _).size
    rw [Array.size_setIfInBounds]
    exact h.bel.size
  · show (wx.heap.setIfInBounds w.heap.size _)[k]? = _
    rw [Array.getElem?_setIfInBounds_ne (by omega)]
    exact h.bel.block k hk
theorem ItAt.below {w wx w' : World} {s : ByteArray} {i : Nat} (h : ItAt w wx s i) (hb : Below wx.heap.size wx w') : ItAt w w' s i := by
  have hlt := (Array.getElem?_eq_some_iff.1 h.at_).1
  exact ⟨(hb.block _ hlt).trans h.at_, ⟨hb.os.trans h.bel.os, hb.tape.trans h.bel.tape, hb.output.trans h.bel.output, Nat.le_trans h.bel.size hb.size, fun k hk => (hb.block k (by omega)).trans (h.bel.block k hk)⟩⟩
theorem get_byte (s : ByteArray) (k : Nat) (x : UInt8) (h : s.data.toList[k]? = some x) : s.get! k = x := by
  have hk : k < s.size := by
    have := (List.getElem?_eq_some_iff.1 h).1
    rw [Array.length_toList] at this
    exact this
  have h1 := get_at s k hk
  rw [Nat.add_zero] at h1
  rw [h1]
  have h2 := Lib.data_getElem? s k hk
  rw [h] at h2
  exact (Option.some.inj h2).symm
theorem no_high {x : UInt8} (h : 128 ≤ x.toNat) : ([42, 35] : List UInt8).contains x = false := by
  have e1 : x ≠ 42 := fun e => by
    subst e
    exact absurd h (by decide)
  have e2 : x ≠ 35 := fun e => by
    subst e
    exact absurd h (by decide)
  simp [e1, e2]
theorem noAny_rune {s : ByteArray} {i : Nat} (hno : Lib.NoAny s.data.toList [42, 35] i) (h : ∀ k, 0 ≤ k → k < (Utf8.decode s i).2 → 128 ≤ (s.get! (i + k)).toNat) : Lib.NoAny s.data.toList [42, 35] (i + (Utf8.decode s i).2) := by
  intro j b hj hb
  by_cases e : j < i
  · exact hno j b e hb
  · obtain ⟨k, rfl⟩ : ∃ k, j = i + k := ⟨j - i, by omega⟩
    have := h k (Nat.zero_le _) (by omega)
    rw [get_byte s _ b hb] at this
    exact no_high this
set_option maxHeartbeats 8000000 in
theorem index_short (s : ByteArray) (w : World) (h8 : s.size ≤ 8) :
    Calls Tryd.prog 43 #[.string s, .string ⟨#[42, 35]⟩] w fun e w' => e = .returned (.int .i64 (Lib.indexAny s.data.toList [42, 35])) ∧ Below w.heap.size w w' := by
  have hemp : (⟨#[42, 35]⟩ : ByteArray).toList.isEmpty = false := by
    rw [Lib.toList_data]
    rfl
  have zc : (⟨#[42, 35]⟩ : ByteArray).size = 2 := rfl
  have h8z : decide ((8 : Int) < (s.size : Int)) = false := decide_eq_false (by omega)
  have t3 := Tryd.underlying3
  have t4 := Tryd.underlying4
  have t5 := Tryd.underlying5
  have t9 := Tryd.underlying9
  have t21 := Tryd.underlying21
  go_enter Tryd.func43, Tryd.ntmps43
  go_wp2_with (go_at_call 47; refine (Tryd.strings_shouldUseASCIISet _ _).mono ?_; rintro e w' ⟨rfl, hw⟩; rw [hw, h8z])
  go_loopg [9, 10] s.size (fun g _ _ wx => ∃ i : Nat, i + g = s.size ∧ ItAt w wx s i ∧ Lib.NoAny s.data.toList [42, 35] i)
  case atStart => exact ⟨0, by omega, ItAt.start w s, Lib.NoAny.zero _ _⟩
  case round =>
    obtain ⟨i, hig, hit, hno⟩ := hrel
    have HN : Aside (Lib.NoAny s.data.toList [42, 35] i) := hno
    have HI : Aside (ItAt w wr s i) := hit
    clear hno hit
    cases gk with
    | zero =>
      obtain rfl : i = s.size := by omega
      have hnx := fun ty => run_next_over (P := Tryd.prog) wr w.heap.size s s.size ty HI.out.at_ (Nat.lt_irrefl _)
      go_wp2
      go_ret
      exact ⟨by rw [Lib.indexAny_none (by rw [← Lib.size_eq]; exact HN.out)]; rfl, HI.out.bel⟩
    | succ g =>
      have hi : i < s.size := by omega
      obtain ⟨rn, hrn⟩ : ∃ rn, (Utf8.decode s i).1 = rn := ⟨_, rfl⟩
      obtain ⟨wd, hwd⟩ : ∃ wd, (Utf8.decode s i).2 = wd := ⟨_, rfl⟩
      obtain ⟨d1, d2, d3⟩ := decode_rest s i hi
      have hnx := fun ty => run_next_in (P := Tryd.prog) wr w.heap.size s i ty HI.out.at_ hi
      rw [hrn, hwd] at hnx
      rw [hwd] at d1 d2 d3
      obtain ⟨wy, hwy⟩ : ∃ wy, stepW wr w.heap.size s (i + wd) = wy := ⟨_, rfl⟩
      rw [hwy] at hnx
      have HY : Aside (ItAt w wy s (i + wd)) := hwy ▸ HI.out.step (i + wd)
      clear hwy
      by_cases h128 : 128 ≤ (s[i]'hi).toNat
      · obtain ⟨k1, -⟩ := decode_high s i hi h128
        have k2 := decode_le s i
        rw [hrn] at k1 k2
        have HM : Aside (Lib.NoAny s.data.toList [42, 35] (i + wd)) := by
          have := noAny_rune HN.out (fun k _ hk => by
            rw [hwd] at hk
            by_cases e : k = 0
            · subst e
              rw [get_at s i hi]
              exact h128
            · exact d3 k (by omega) hk)
          rw [hwd] at this
          exact this
        have hlt : ¬ ((0 : Int) ≤ -1) := by omega
        clear d3 hrn hwd h128
        go_wp2_with (go_at_call 46; refine (rune_any _ (by omega) (by omega) _).mono ?_; rintro e w' ⟨rfl, hw⟩; have HW : Aside (Below wy.heap.size wy w') := hw; clear hw)
        go_roundg (s.size - (i + wd))
        case measure => omega
        case rel => exact ⟨i + wd, by omega, HY.out.below HW.out, HM.out⟩
      · have hd := decode_ascii s i hi (by omega)
        obtain ⟨x, hx⟩ : ∃ x : UInt8, s[i]'hi = x := ⟨_, rfl⟩
        rw [hx] at hd h128
        rw [hd] at hrn hwd
        obtain rfl : rn = x.toNat := hrn.symm
        obtain rfl : wd = 1 := hwd.symm
        have hxl : s.data.toList[i]? = some x := by rw [← hx]; exact Lib.data_getElem? s i hi
        have Hx : Aside (s.data.toList[i]? = some x) := hxl
        clear hxl hx hd d3 hrn hwd
        have hcon := Lib.contains_iff_indexByte [42, 35] x
        have hback : ((x.toNat : Int)).toNat.toUInt8 = x := by simp
        have hdl : (⟨#[42, 35]⟩ : ByteArray).data.toList = [42, 35] := rfl
        cases hin : ([42, 35] : List UInt8).contains x
        · rw [hin] at hcon
          have hlt : ¬ ((0 : Int) ≤ Lib.indexByte [42, 35] x) := of_decide_eq_false hcon.symm
          clear hcon
          go_wp2_with (go_at_call 46; refine (Tryd.strings_IndexRune_ascii _ _ _ (by omega) (by omega)).mono ?_; rintro e w' ⟨rfl, hw⟩; rw [hw, hback, hdl])
          go_roundg g
          case measure => omega
          case rel => exact ⟨i + 1, by omega, HY.out, HN.out.succ Hx.out hin⟩
        · rw [hin] at hcon
          have hge : (0 : Int) ≤ Lib.indexByte [42, 35] x := of_decide_eq_true hcon.symm
          clear hcon
          go_wp2_with (go_at_call 46; refine (Tryd.strings_IndexRune_ascii _ _ _ (by omega) (by omega)).mono ?_; rintro e w' ⟨rfl, hw⟩; rw [hw, hback, hdl])
          go_ret
          exact ⟨by rw [Lib.indexAny_hit HN.out Hx.out hin]; rfl, HY.out.bel⟩
theorem index_any (s : ByteArray) (w : World) (hs : s.size < 4294967281) :
    Calls Tryd.prog 43 #[.string s, .string ⟨#[42, 35]⟩] w fun e w' => e = .returned (.int .i64 (Lib.indexAny s.data.toList [42, 35])) ∧ Below w.heap.size w w' := by
  by_cases h8 : s.size ≤ 8
  · exact index_short s w h8
  · have h116 : (Tryd.prog.info? 74).map (fun i => (i.zero, i.size)) = some (some (.agg (Array.replicate 256 (.bool false))), 256) := by kernel_rfl
    refine (Tryd.strings_IndexAny_long (zero_of_info h116).1 s ⟨#[42, 35]⟩ w (Nat.le_refl 2) (by omega) hs (show 2 < 4294967281 by decide) signs_ascii).mono fun e w' ⟨h1, h2⟩ => ⟨h1, ?_⟩
    rw [h2]
    exact ((Below.refl _ _).alloc (Nat.le_refl _) _).alloc (by simp) _
theorem contains_any (s : ByteArray) (w : World) (hs : s.size < 4294967281) :
    Calls Tryd.prog 38 #[.string s, .string ⟨#[42, 35]⟩] w fun e w' => e = .returned (.bool (Lib.containsAny s.data.toList [42, 35])) ∧ Below w.heap.size w w' := by
  have t3 := Tryd.underlying3
  have t4 := Tryd.underlying4
  have t9 := Tryd.underlying9
  go_enter Tryd.func38, Tryd.ntmps38
  go_wp2_with (go_at_call 43; refine (index_any s _ hs).mono ?_; rintro e w' ⟨rfl, hw⟩)
  go_ret
  exact ⟨rfl, hw⟩
end Go.Proofs.YtpmalfabeajepaaDoorCA
