/-
  The document's log: its methods' contracts.
  Conditions: none.
-/
import Derived.Test.YtnnlmbmgaajmhaaAk
namespace Go.Proofs.Ytnnlmbmgaajmhaa.Seg
open Go.RowKit Go.Proofs.YtnnlmbmgaajmhaaW.PrintWords Go.Proofs.YtnnlmbmgaajmhaaW.PrintLast Go.Proofs.YtnnlmbmgaajmhaaG Go.Proofs.Ytnnlmbmgaajmhaa.PGr Go.Proofs.Ytnnlmbmgaajmhaa.Sg
set_option linter.unusedVariables false
set_option linter.unusedSimpArgs false

/-- The document's log behind a pointer. -/
def RL (w : World) (rp : Nat) (s t : ByteArray) (b : Bool) : Prop := w.heap[rp]? = some (.cells #[.string s, .string t, .bool b] 60 (0, 0))
section
variable {w w1 : World} {rp : Nat} {s t : ByteArray} {b : Bool}
theorem RL.c0 (h : RL w rp s t b) : w.cell? ⟨rp, 0, none⟩ = some (.string s) := cell_of_row w rp 0 _ 60 (0, 0) h
theorem RL.c1 (h : RL w rp s t b) : w.cell? ⟨rp, 1, none⟩ = some (.string t) := cell_of_row w rp 1 _ 60 (0, 0) h
theorem RL.c2 (h : RL w rp s t b) : w.cell? ⟨rp, 2, none⟩ = some (.bool b) := cell_of_row w rp 2 _ 60 (0, 0) h
theorem RL.fr (h : RL w rp s t b) (i : Nat) : w.frozen? ⟨rp, i, none⟩ = false := blk_f h i
theorem RL.below (h : RL w rp s t b) (hb : Below w.heap.size w w1) : RL w1 rp s t b := (hb.block rp (blk_lt h)).trans h
theorem RL.set0 (h : RL w rp s t b) (x : ByteArray) : RL (w.setCell ⟨rp, 0, none⟩ (.string x)) rp x t b := blk_set h 0 _
theorem RL.set1 (h : RL w rp s t b) (x : ByteArray) : RL (w.setCell ⟨rp, 1, none⟩ (.string x)) rp s x b := blk_set h 1 _
theorem RL.set2 (h : RL w rp s t b) (x : Bool) : RL (w.setCell ⟨rp, 2, none⟩ (.bool x)) rp s t x := blk_set h 2 _
end
theorem max_zero (ats : Array TypeId) (ty : TypeId) (x : Int) : Builtin.max_ ats ty #[.int .i64 0, .int .i64 x] = pure (.int .i64 (mx x)) := by
  rw [Go.Proofs.YtnnlmbmgaajmhaaW.PrintMore.max_two, Go.Proofs.YtnnlmbmgaajmhaaW.PrintMore.max2_int]
  unfold mx
  by_cases h : x < 0
  · rw [if_pos h, if_neg (by omega)]
    rfl
  · rw [if_neg h]
    by_cases h2 : 0 < x
    · rw [if_pos h2]
      rfl
    · rw [if_neg h2, show x = 0 by omega]
      rfl
attribute [local go_sem] max_zero mn_min
theorem clamp (k : Int) (n : Nat) : mx (mn k n) = mn (mx k) n := by
  by_cases h : k < 0
  · have e1 : ¬ ((n : Int) < k) := by omega
    simp only [mx, mn, if_neg e1, if_pos h]
    rw [if_neg (by omega)]
  · by_cases h2 : (n : Int) < k
    · simp only [mx, mn, if_pos h2, if_neg h]
      rw [if_neg (by omega)]
    · simp only [mx, mn, if_neg h2, if_neg h]
theorem keep_below {w w1 : World} (h : Below w.heap.size w w1) (g : Nat) : KeepBut w w1 g none := KeepBut.of_below h g none
theorem keep_then {w w1 w2 : World} {g : Nat} (h : KeepBut w w1 g none) (h2 : Below w1.heap.size w1 w2) : KeepBut w w2 g none := h.trans (keep_below h2 g) (.inl rfl)

theorem thn {w W w' : World} (h : Below w.heap.size w W) (hb : Below W.heap.size W w') : Below w.heap.size w w' := h.trans (hb.mono h.size)
theorem rec_T (s : ByteArray) (w : World) (hs : s.size < 1000000) (r : ByteArray) (h : strOfNums (recP (bytesOf s)) = r) : Calls Try.prog 13 #[.string s] w fun e w' => e = .returned (.string r) ∧ Below w.heap.size w w' := by
  subst h
  exact ref_rec s w hs
theorem rput_no {w : World} {rp : Nat} {s t : ByteArray} {b : Bool} (h : RL w rp s t b) (x : ByteArray) (hm : decide (1 ≤ (bytesOf x).length ∧ (bytesOf x).length ≤ 20000) = false) :
    Calls Try.prog 26 #[.pointer (some ⟨rp, 0, none⟩), .string x] w fun e w' => e = .returned (.int .i64 1) ∧ RL w' rp s t b ∧ KeepBut w w' rp none ∧ Below rp w w' := by
  have HL := Aside0.mk h
  have HM := Aside0.mk hm
  clear h hm
  go_enter Try.func26, Try.ntmps26
  go_wp2_with (go_at_call 12; refine (ref_mayT x _ false HM.out).mono ?_; rintro e w2 ⟨rfl, hb⟩; have HB2 := Aside0.mk hb; clear hb)
  go_ret
  exact ⟨rfl, HL.out.below HB2.out, keep_below HB2.out rp, HB2.out.mono (Nat.le_of_lt (blk_lt HL.out))⟩
set_option maxHeartbeats 1000000 in
theorem rput_ok {w : World} {rp : Nat} {s t : ByteArray} {b : Bool} (h : RL w rp s t b) (x : ByteArray) (hm : decide (1 ≤ (bytesOf x).length ∧ (bytesOf x).length ≤ 20000) = true) (r : ByteArray) (hr : strOfNums (recP (bytesOf x)) = r) (u : ByteArray) (hu : t ++ r = u) (hl : t.size + r.size ≤ 9223372036854775807) :
    Calls Try.prog 26 #[.pointer (some ⟨rp, 0, none⟩), .string x] w fun e w' => e = .returned (.int .i64 0) ∧ RL w' rp s u b ∧ KeepBut w w' rp none ∧ Below rp w w' := by
  have HL := Aside0.mk h
  have HM := Aside0.mk hm
  have HR := Aside0.mk hr
  have HX := Aside0.mk (show x.size < 1000000 by have := (of_decide_eq_true hm).2; rw [bytesOf_length] at this; omega)
  have hsz : (9223372036854775807 < t.size + r.size) = False := eq_false (by omega)
  clear h hm hr hl
  go_enter Try.func26, Try.ntmps26
  go_upto_region 3 with (go_at_call 12; refine (ref_mayT x _ true HM.out).mono ?_; rintro e w2 ⟨rfl, hb⟩; have HB2 := Aside0.mk hb; clear hb)
  have HL2 := Aside0.mk (HL.out.below HB2.out)
  have hc1 := HL2.out.c1
  have hf1 := HL2.out.fr 1
  go_region_with (go_at_call 13; refine (rec_T x _ HX.out r HR.out).mono ?_; rintro e w3 ⟨rfl, hb⟩; have HB3 := Aside0.mk (thn (show Below w2.heap.size w2 _ from (by repeat (first | exact Below.refl _ _ | apply Below.drew))) hb); have hc3 := (HL2.out.below HB3.out).c1; have hf3 := (HL2.out.below HB3.out).fr 1; clear hb)
  all_goals
   go_wp2
   go_ret
   exact ⟨rfl, (HL2.out.below HB3.out).set1 _, KeepBut.set_ (keep_then (keep_below HB2.out rp) HB3.out) 1 _, below_setN ((thn HB2.out HB3.out).mono (Nat.le_of_lt (blk_lt HL.out))) (Nat.le_refl rp)⟩
theorem rbegin_no {w : World} {rp : Nat} {s t : ByteArray} {b : Bool} (h : RL w rp s t b) (x : ByteArray) (hm : decide (1 ≤ (bytesOf x).length ∧ (bytesOf x).length ≤ 20000) = false) :
    Calls Try.prog 28 #[.pointer (some ⟨rp, 0, none⟩), .string x] w fun e w' => e = .returned (.int .i64 1) ∧ RL w' rp s t b ∧ KeepBut w w' rp none ∧ Below rp w w' := by
  have HL := Aside0.mk h
  have HM := Aside0.mk hm
  clear h hm
  go_enter Try.func28, Try.ntmps28
  go_wp2_with (go_at_call 12; refine (ref_mayT x _ false HM.out).mono ?_; rintro e w2 ⟨rfl, hb⟩; have HB2 := Aside0.mk hb; clear hb)
  go_ret
  exact ⟨rfl, HL.out.below HB2.out, keep_below HB2.out rp, HB2.out.mono (Nat.le_of_lt (blk_lt HL.out))⟩
theorem rbegin_ok {w : World} {rp : Nat} {s t : ByteArray} {b : Bool} (h : RL w rp s t b) (x : ByteArray) (hm : decide (1 ≤ (bytesOf x).length ∧ (bytesOf x).length ≤ 20000) = true) (r : ByteArray) (hr : strOfNums (recP (bytesOf x)) = r) :
    Calls Try.prog 28 #[.pointer (some ⟨rp, 0, none⟩), .string x] w fun e w' => e = .returned (.int .i64 0) ∧ RL w' rp s r true ∧ KeepBut w w' rp none ∧ Below rp w w' := by
  have HL := Aside0.mk h
  have HM := Aside0.mk hm
  have HR := Aside0.mk hr
  have HX := Aside0.mk (show x.size < 1000000 by have := (of_decide_eq_true hm).2; rw [bytesOf_length] at this; omega)
  clear h hm hr
  go_enter Try.func28, Try.ntmps28
  go_wp2_with (first | (go_at_call 12; refine (ref_mayT x _ true HM.out).mono ?_; rintro e w2 ⟨rfl, hb⟩; have HB2 := Aside0.mk hb; clear hb) | (go_at_call 13; refine (rec_T x _ HX.out r HR.out).mono ?_; rintro e w3 ⟨rfl, hb⟩; have HB3 := Aside0.mk (thn HB2.out hb); have hc1 := (HL.out.below (thn HB2.out hb)).c1; have hf1 := (HL.out.below (thn HB2.out hb)).fr 1; have hc2 := (HL.out.below (thn HB2.out hb)).c2; have hf2 := (HL.out.below (thn HB2.out hb)).fr 2; clear hb))
  go_ret
  exact ⟨rfl, ((HL.out.below HB3.out).set1 _).set2 _, KeepBut.set_ (KeepBut.set_ (keep_below HB3.out rp) 1 _) 2 _, below_setN (below_setN (HB3.out.mono (Nat.le_of_lt (blk_lt HL.out))) (Nat.le_refl rp)) (Nat.le_refl rp)⟩
theorem rsync_plain {w : World} {rp : Nat} {s t : ByteArray} (h : RL w rp s t false) (u : ByteArray) (hu : s ++ t = u) (hl : s.size + t.size ≤ 9223372036854775807) :
    Calls Try.prog 29 #[.pointer (some ⟨rp, 0, none⟩)] w fun e w' => (∃ v, e = .returned v) ∧ RL w' rp u ⟨#[]⟩ false ∧ KeepBut w w' rp none ∧ Below rp w w' := by
  have HL := Aside0.mk h
  have hc0 := h.c0
  have hc1 := h.c1
  have hc2 := h.c2
  have hf0 := h.fr 0
  have hf1 := h.fr 1
  have hf2 := h.fr 2
  have hsz : (9223372036854775807 < s.size + t.size) = False := eq_false (by omega)
  clear h hl
  go_enter Try.func29, Try.ntmps29
  go_upto_region 2 with fail
  go_region
  all_goals
   go_wp2
   refine bodyPost_end (results_list (rs := []) (vs := []) rfl (by decide) .nil) rfl ?_
   exact ⟨⟨_, rfl⟩, ((HL.out.below (Below.refl _ _).drew).set0 _).set1 _ |>.set2 _, KeepBut.set_ (KeepBut.set_ (KeepBut.set_ (keep_below (Below.refl _ _).drew rp) 0 _) 1 _) 2 _, below_setN (below_setN (below_setN (Below.refl rp w).drew (Nat.le_refl rp)) (Nat.le_refl rp)) (Nat.le_refl rp)⟩
theorem rsync_anew {w : World} {rp : Nat} {s t : ByteArray} (h : RL w rp s t true) (hl : t.size ≤ 1000000000) :
    Calls Try.prog 29 #[.pointer (some ⟨rp, 0, none⟩)] w fun e w' => (∃ v, e = .returned v) ∧ RL w' rp t ⟨#[]⟩ false ∧ KeepBut w w' rp none ∧ Below rp w w' := by
  have HL := Aside0.mk h
  have hc0 := h.c0
  have hc1 := h.c1
  have hc2 := h.c2
  have hf0 := h.fr 0
  have hf1 := h.fr 1
  have hf2 := h.fr 2
  have hu : (⟨#[]⟩ : ByteArray) ++ t = t := by
    apply ByteArray.ext
    simp
  have hsz : (9223372036854775807 < t.size) = False := eq_false (by omega)
  clear h hl
  go_enter Try.func29, Try.ntmps29
  go_upto_region 2 with fail
  go_region
  all_goals
   go_wp2
   refine bodyPost_end (results_list (rs := []) (vs := []) rfl (by decide) .nil) rfl ?_
   exact ⟨⟨_, rfl⟩, (((HL.out.set0 _).below (Below.refl _ _).drew).set0 _).set1 _ |>.set2 _, KeepBut.set_ (KeepBut.set_ (KeepBut.set_ (keep_then (KeepBut.set_ (KeepBut.refl w rp none) 0 _) (Below.refl _ _).drew) 0 _) 1 _) 2 _, below_setN (below_setN (below_setN (below_setN (Below.refl rp w) (Nat.le_refl rp)).drew (Nat.le_refl rp)) (Nat.le_refl rp)) (Nat.le_refl rp)⟩
theorem rcrash_anew {w : World} {rp : Nat} {s t : ByteArray} (h : RL w rp s t true) (keep : Int) :
    Calls Try.prog 30 #[.pointer (some ⟨rp, 0, none⟩), .int .i64 keep] w fun e w' => e = .returned (.string s) ∧ Below w.heap.size w w' := by
  have hc0 := h.c0
  have hc2 := h.c2
  clear h
  go_enter Try.func30, Try.ntmps30
  go_wp2
  go_ret
  exact ⟨rfl, Below.refl _ _⟩
theorem rcrash_plain {w : World} {rp : Nat} {s t : ByteArray} (h : RL w rp s t false) (keep k : Int) (hk : mx (mn keep t.size) = k) (u : ByteArray) (hu : s ++ t.extract 0 k.toNat = u) (hl : s.size + t.size ≤ 9223372036854775807) :
    Calls Try.prog 30 #[.pointer (some ⟨rp, 0, none⟩), .int .i64 keep] w fun e w' => e = .returned (.string u) ∧ Below w.heap.size w w' := by
  have hc0 := h.c0
  have hc1 := h.c1
  have hc2 := h.c2
  have hk0 : 0 ≤ k := by rw [← hk, clamp]; exact mn_lo _ _
  have hk1 : k ≤ (t.size : Int) := by rw [← hk, clamp]; exact mn_hi _ _
  have hsz : (9223372036854775807 < s.size + (t.extract 0 k.toNat).size) = False := eq_false (by rw [ByteArray.size_extract]; omega)
  have hsz2 : (9223372036854775807 < s.size + (min k.toNat t.size)) = False := eq_false (by omega)
  have hsz4 : (9223372036854775807 < s.size + k.toNat) = False := eq_false (by omega)
  have hsz3 : (9223372036854775807 < u.size) = False := eq_false (by rw [← hu, ByteArray.size_append, ByteArray.size_extract]; omega)
  clear h hl
  go_enter Try.func30, Try.ntmps30
  go_upto_region 3 with fail
  go_quiet (fail)
  go_wp2
  go_ret
  exact ⟨rfl, pw_below_drewN (Below.refl _ _) _⟩
theorem ropen (s : ByteArray) (w : World) (hs : s.size < 1073741824) (T : List ByteArray) (m : Int) (h1 : (readP (bytesOf s)).1.map strOfNums = T) (h2 : (readP (bytesOf s)).2 = m) (u : ByteArray) (hu : s.extract 0 m.toNat = u) :
    Calls Try.prog 25 #[.string s] w fun e w' => ∃ A c rp, e = .returned (.tuple #[.pointer (some ⟨rp, 0, none⟩), .slice A T.length c]) ∧ w.heap.size ≤ rp ∧ RL w' rp u ⟨#[]⟩ false ∧ T.length ≤ c ∧ Kd.C Kd.string w' A T.length T ∧ Below w.heap.size w w' := by
  have hm := readP_lo (bytesOf s)
  rw [h2, bytesOf_length] at hm
  obtain ⟨hm0, hm1⟩ := hm
  have H1 := Aside0.mk h1
  have H2 := Aside0.mk h2
  have HS := Aside0.mk hs
  clear h1 h2 hs
  go_enter Try.func25, Try.ntmps25
  go_wp2_with (go_at_call 15; refine (ref_read_call s _ HS.out T m H1.out H2.out).mono ?_; rintro e w2 ⟨A, c, rfl, hv, hb⟩; have HB := Aside0.mk hb; have HV := Aside0.mk (Kd.R_reads' hv).2; clear hv hb)
  go_ret2
  exact ⟨A, c, _, rfl, HB.out.size, heap_alloc_new _ _, HV.out.1, Kd.C_alloc HV.out.2 _, HB.out.alloc HB.out.size _⟩
end Go.Proofs.Ytnnlmbmgaajmhaa.Seg
