/-
  ChannelModes: for every row of numbers the law's call returns true.
  Conditions: none.
-/
import Derived.Test.YtfcebfbdodeecaaGreatDoorEngMc
namespace Go.Eng
open Go Go.Lib Go.RowKit
set_option linter.unusedVariables false
set_option maxRecDepth 20000
section
theorem mP_31 (j : Nat) (cf tx b : Bool) (l c : Nat) (x : Nat → Value) : slot ((mP (j : Int) cf tx b l c).fr 111 x) 31 = .bool b := by kernel_rfl
theorem wrap_next {j : Nat} (h : j ≤ 20) : IntKind.i64.wrap ((j : Int) + 1) = ((j + 1 : Nat) : Int) := by
  rw [IntKind.wrap_i64]
  omega
variable {N : Nat → Prop} {W : World} {p : Pl} {l cap : Nat} {R : Ending → World → Prop}
theorem turn {j : Nat} {cf tx : Bool} (hm : (cf && tx) = false) {k : Int} (hk : k = 0 ∨ k = 1 ∨ k = 2 ∨ k = 3) {x : Nat → Value} {r : Rn} {a : Act} {w : World} {Q : Exit → Act → World → Prop}
    (hI : Inv p16 N r (mD (j : Int) cf tx k l cap).h w) (hF : AF r ((mD (j : Int) cf tx k l cap).fr 111 x) a) (hp : r (2 ^ hd) = some p)
    (hR : ∀ w', Bel N w w' → R (.returned (.bool true)) w') (hq1 : ∀ c' w', bodyPost p16 Go.Proofs.Tryz.f3 R .ret c' w' → Q .ret c' w')
    (hq : ∀ cf' tx' s x' c' w', (cf' && tx') = false → Inv p16 N s (mC (j : Int) cf' tx' l cap).h w' → AF s ((mC (j : Int) cf' tx' l cap).fr 111 x') c' → s (2 ^ hd) = some p → Bel N w w' → Q .normal c' w') : q3o.wp p16 Q a w := by
  cases cf <;> cases tx
  · rcases hk with rfl | rfl | rfl | rfl
    · exact wp_short (C' := mC (j : Int) true false l cap) (eS 1000000) (mt000 j l cap x) (mC_ok1 true false l cap j) hI hF fun s x' c' w' i f h e => hq true false s x' c' w' rfl i f (h _ hp) e
    · exact wp_short (C' := mC (j : Int) false true l cap) (eS 1000000) (mt001 j l cap x) (mC_ok1 false true l cap j) hI hF fun s x' c' w' i f h e => hq false true s x' c' w' rfl i f (h _ hp) e
    · exact wp_retq (eS 1000000) (mt002 j l cap x) hI hF hR hq1
    · exact wp_retq (eS 1000000) (mt003 j l cap x) hI hF hR hq1
  · rcases hk with rfl | rfl | rfl | rfl
    · exact wp_retq (eS 1000000) (mt010 j l cap x) hI hF hR hq1
    · exact wp_short (C' := mC (j : Int) false true l cap) (eS 1000000) (mt011 j l cap x) (mC_ok1 false true l cap j) hI hF fun s x' c' w' i f h e => hq false true s x' c' w' rfl i f (h _ hp) e
    · exact wp_short (C' := mC (j : Int) false true l cap) (eS 1000000) (mt012 j l cap x) (mC_ok1 false true l cap j) hI hF fun s x' c' w' i f h e => hq false true s x' c' w' rfl i f (h _ hp) e
    · exact wp_short (C' := mC (j : Int) false true l cap) (eS 1000000) (mt013 j l cap x) (mC_ok1 false true l cap j) hI hF fun s x' c' w' i f h e => hq false true s x' c' w' rfl i f (h _ hp) e
  · rcases hk with rfl | rfl | rfl | rfl
    · exact wp_short (C' := mC (j : Int) true false l cap) (eS 1000000) (mt100 j l cap x) (mC_ok1 true false l cap j) hI hF fun s x' c' w' i f h e => hq true false s x' c' w' rfl i f (h _ hp) e
    · exact wp_retq (eS 1000000) (mt101 j l cap x) hI hF hR hq1
    · exact wp_retq (eS 1000000) (mt102 j l cap x) hI hF hR hq1
    · exact wp_retq (eS 1000000) (mt103 j l cap x) hI hF hR hq1
  · cases hm
theorem rounds3 (hcell : ∀ j, j < l → ∃ n, ∀ w', Bel N W w' → w'.cell? ⟨p.b, p.o + j, none⟩ = some (.int .i64 n)) (hR : ∀ w', Bel N W w' → R (.returned (.bool true)) w') :
    ∀ (n j : Nat), j + n = 20 → ∀ (cf tx : Bool), (cf && tx) = false → ∀ (r : Rn) (x : Nat → Value) (a : Act) (w : World), Inv p16 N r (mC (j : Int) cf tx l cap).h w → AF r ((mC (j : Int) cf tx l cap).fr 111 x) a → r (2 ^ hd) = some p → Bel N W w →
      InL p16 q3j (Exit.inBlock 0 (Exit.then (q3g.wp p16 (bodyPost p16 Go.Proofs.Tryz.f3 R)) (bodyPost p16 Go.Proofs.Tryz.f3 R))) a w := by
  intro n
  induction n with
  | zero =>
    intro j hj cf tx hm r x a w hI hF hp hB
    refine inL_round ?_
    rw [q3j_cut]
    refine wp_seq (wp_seq (head hI hF fun s x' c' w' i f h e => ?_))
    have hb : (decide ((j : Int) < (l : Int)) && decide ((j : Int) < 20)) = false := by
      rw [show decide ((j : Int) < 20) = false from decide_eq_false (by omega), Bool.and_false]
    rw [hb] at i f
    show q3k.wp p16 _ c' w'
    rw [q3k_eq]
    refine wp_cond (eval_bool f (mP_31 j cf tx false l cap x')) (wp_exit ?_)
    show q3g.wp p16 _ c' w'
    exact wp_fin (eS 1000000) (last_run j cf tx l cap x') i f fun w2 b => hR w2 (hB.trans (e.trans b))
  | succ n ih =>
    intro j hj cf tx hm r x a w hI hF hp hB
    refine inL_round ?_
    rw [q3j_cut]
    refine wp_seq (wp_seq (head hI hF fun s x' c' w' i f h e => ?_))
    show q3k.wp p16 _ c' w'
    rw [q3k_eq]
    cases hb : (decide ((j : Int) < (l : Int)) && decide ((j : Int) < 20)) with
    | false =>
      rw [hb] at i f
      refine wp_cond (eval_bool f (mP_31 j cf tx false l cap x')) (wp_exit ?_)
      show q3g.wp p16 _ c' w'
      exact wp_fin (eS 1000000) (last_run j cf tx l cap x') i f fun w2 b => hR w2 (hB.trans (e.trans b))
    | true =>
      rw [hb] at i f
      have hjl : j < l := by
        rw [Bool.and_eq_true] at hb
        have := of_decide_eq_true hb.1
        omega
      refine wp_cond (eval_bool f (mP_31 j cf tx true l cap x')) (wp_skip ?_)
      show ((Code.block 1 q3l).seq q3m).wp p16 _ c' w'
      refine wp_seq (wp_block ?_)
      rw [q3l_cut]
      obtain ⟨v, hv⟩ := hcell j hjl
      refine wp_seq (reads (p := p) (n := v) (h _ hp) hjl (hv w' (hB.trans e)) (fun w2 b => hv w2 (hB.trans (e.trans b))) i f fun s2 x2 c2 w2 i2 f2 h2 e2 => ?_)
      show q3o.wp p16 _ c2 w2
      refine turn (p := p) (R := R) hm (e9_some v) i2 f2 h2 (fun w3 b => hR w3 (hB.trans (e.trans (e2.trans b)))) (fun c3 w3 h3 => h3) fun cf' tx' s3 x3 c3 w3 hm3 i3 f3 h3 e3 => ?_
      show q3m.wp p16 _ c3 w3
      refine wp_short (C' := mC (IntKind.i64.wrap ((j : Int) + 1)) cf' tx' l cap) (eS 1000000) (next_run j cf' tx' l cap x3) (mC_ok1 cf' tx' l cap _) i3 f3 fun s4 x4 c4 w4 i4 f4 h4 e4 => ?_
      rw [wrap_next (by omega)] at i4 f4
      exact ih (j + 1) (by omega) cf' tx' hm3 s4 x4 c4 w4 i4 f4 (h4 _ h3) (hB.trans (e.trans (e2.trans (e3.trans e4))))
theorem nil_run (c : Nat) : endsB p16 Go.Proofs.Tryz.f3 (execB p16 K17 1000000 none q3 (initF [.slice none 0 c] 111) ⟨.nil, 0⟩) = true := by kernel_rfl
theorem modes_some (W : World) (b o l cap : Nat) (hcell : ∀ j, j < l → ∃ n, W.cell? ⟨b, o + j, none⟩ = some (.int .i64 n)) : Calls p16 3 #[.slice (some ⟨b, o, none⟩) l cap] W fun e w' => e = .returned (.bool true) ∧ Below W.heap.size W w' := by
  refine calls_of_wp Go.Proofs.Tryz.func3 q3_eq ?_
  have hI : Inv p16 (fun k => k < W.heap.size) (fun i => if i = 2 ^ hd then some ⟨b, o, 0⟩ else none) ⟨.nil, 0⟩ W := by
    refine ⟨fun i o hi ho => ?_, fun i j oi oj pi pj hi hj ho => ?_, fun i hi h2 => if_neg (Nat.ne_of_lt h2), Nat.zero_le _, fun k hk => hk⟩
    · rw [obj_nil] at ho
      cases ho
    · rw [obj_nil] at ho
      cases ho
  have hv : VR (fun i => if i = 2 ^ hd then some (⟨b, o, 0⟩ : Pl) else none) (.slice (some ⟨1048576, 0, none⟩) l cap) (.slice (some ⟨b, o, none⟩) l cap) := VR.sl 1048576 0 l cap ⟨b, o, 0⟩ (if_pos rfl)
  have hF : AF (fun i => if i = 2 ^ hd then some (⟨b, o, 0⟩ : Pl) else none) (m0 l cap) _ := initF_sound (args := [.slice (some ⟨1048576, 0, none⟩) l cap]) (args' := [.slice (some ⟨b, o, none⟩) l cap]) (n := 111) (.cons _ _ _ _ hv .nil) (show (111 : Nat) ≤ 512 by decide)
  rw [q3_cut]
  refine wp_cut (eS 1000000) (mn1 l cap) hI hF fun s1 c1 w1 g1 f1 i1 e1 => ?_
  refine wp_cut (eS 1000000) (mn2 l cap) i1 f1 fun s2 c2 w2 g2 f2 i2 e2 => ?_
  refine wp_cut (eS 1000000) (mn3 l cap) i2 f2 fun s3 c3 w3 g3 f3 i3 e3 => ?_
  refine wp_cut (eS 1000000) (mn4 l cap) i3 f3 fun s4 c4 w4 g4 f4 i4 e4 => ?_
  refine wp_cut (eS 1000000) (mn5 l cap) i4 f4 fun s5 c5 w5 g5 f5 i5 e5 => ?_
  refine wp_seq (wp_seq (wp_short (C' := mC 0 false false l cap) (eS 1000000) (m_start l cap) (mC_ok6 false false l cap 0) i5 f5 fun s6 x6 c6 w6 i6 f6 h6 e6 => ?_))
  show (Code.block 0 (.loop q3j)).wp p16 _ c6 w6
  have hp : s6 (2 ^ hd) = some ⟨b, o, 0⟩ := h6 _ (g5 _ _ (g4 _ _ (g3 _ _ (g2 _ _ (g1 _ _ (if_pos rfl))))))
  have hB := e1.trans (e2.trans (e3.trans (e4.trans (e5.trans e6))))
  refine wp_block (wp_loop_in (rounds3 (N := fun k => k < W.heap.size) (W := W) (p := ⟨b, o, 0⟩) (l := l) (cap := cap) (fun j hj => ?_) (fun w' h => ⟨rfl, bel_below h⟩) 20 0 rfl false false rfl s6 x6 c6 w6 i6 f6 hp hB))
  obtain ⟨n, hn⟩ := hcell j hj
  exact ⟨n, fun w' h => h.cell hn⟩
theorem modes_none (W : World) (cap : Nat) : Calls p16 3 #[.slice none 0 cap] W fun e w' => e = .returned (.bool true) ∧ Below W.heap.size W w' := by
  refine calls_of_wp Go.Proofs.Tryz.func3 q3_eq ?_
  have hF : AF (fun _ => none) (initF [.slice none 0 cap] 111) _ := initF_sound (args := [.slice none 0 cap]) (args' := [.slice none 0 cap]) (n := 111) (.cons _ _ _ _ (.sl0 _ _) .nil) (show (111 : Nat) ≤ 512 by decide)
  exact wp_fin (eS 1000000) (nil_run cap) (empty_inv W) hF fun w' h => ⟨rfl, bel_below h⟩
end
end Go.Eng
