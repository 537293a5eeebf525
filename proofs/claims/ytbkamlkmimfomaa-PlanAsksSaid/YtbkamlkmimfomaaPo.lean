/-
  The plain law of what is hot and what is cold.
  Conditions: none.
-/
import Derived.Test.YtbkamlkmimfomaaPj
import Derived.Test.YtbkamlkmimfomaaPGax6
namespace Go.Proofs.Ytbkamlkmimfomaa
open Go.RowKit Go.Proofs.YtbkamlkmimfomaaW.PrintWords Go.Proofs.YtbkamlkmimfomaaFl Go.Proofs.YtbkamlkmimfomaaG Go.Proofs.YtbkamlkmimfomaaIv Go.Proofs.Ytbkamlkmimfomaa.PGa
set_option linter.unusedVariables false
set_option linter.unusedSimpArgs false

/-! ### Shares -/
def wdP (l : List S46) (k : Nat) : Int := if l.length = 1 then 4294967296 else ((rd_T46 l (((k + 1) % l.length : Nat) : Int)).f0 - (rd_T46 l (k : Int)).f0) % 4294967296
def shP (l : List S46) (s : Int) : Nat → Int
  | 0 => 0
  | i + 1 => if (rd_T46 l (i : Int)).f1 = s then shP l s i + wdP l i else shP l s i
theorem wdP_range (l : List S46) (k : Nat) : 0 ≤ wdP l k ∧ wdP l k ≤ 4294967296 := by
  unfold wdP
  split <;> omega
theorem shP_range (l : List S46) (s : Int) : ∀ i : Nat, 0 ≤ shP l s i ∧ shP l s i ≤ (i : Int) * 4294967296
  | 0 => ⟨Int.le_refl _, by unfold shP; omega⟩
  | i + 1 => by
    have h := shP_range l s i
    have h2 := wdP_range l i
    unfold shP
    split <;> omega
theorem uw (x : Int) (h0 : 0 ≤ x) (h1 : x ≤ 4611686018427387904) : IntKind.u64.wrap x = x := Int.emod_eq_of_lt h0 (show x < 18446744073709551616 by omega)
theorem width_f (l : List S46) (hl : l.length ≤ 1024) (k : Nat) (hk : k < l.length) : ring_width.f l (k : Int) = some (wdP l k) := by
  unfold ring_width.f wdP
  by_cases h1 : l.length = 1
  · rw [if_pos (show (l.length : Int) = 1 by omega), if_pos h1]
  · rw [if_neg (show ¬ (l.length : Int) = 1 by omega), if_neg h1]
    have e : Int.tmod (wrap64 ((k : Int) + 1)) (l.length : Int) = (((k + 1) % l.length : Nat) : Int) := by
      rw [wr64 _ (by omega) (by omega)]
      exact Int.ofNat_tmod (k + 1) l.length
    have hm : (k + 1) % l.length < l.length := Nat.mod_lt _ (by omega)
    rw [if_pos (show (0 : Int) ≤ (k : Int) by omega), if_pos (show (k : Int) < (l.length : Int) by omega), if_neg (show ¬ (l.length : Int) = 0 by omega), e, if_pos (show (0 : Int) ≤ (((k + 1) % l.length : Nat) : Int) by omega), if_pos (show (((k + 1) % l.length : Nat) : Int) < (l.length : Int) by omega)]
    unfold point_Way.f
    rw [Option.bind_some, uw _ (by omega) (by omega)]
theorem share_loop (l : List S46) (s : Int) (hl : l.length ≤ 1024) : ∀ n i : Nat, i + n = l.length → ∃ k, ring_Share.l1 k l s (shP l s i) l (l.length : Int) (i : Int) = some (shP l s l.length)
  | 0, i, hi => ⟨1, by
    have h0 : ¬ ((i : Int) < (l.length : Int)) := by omega
    have e : i = l.length := by omega
    unfold ring_Share.l1
    rw [if_neg h0, e]⟩
  | n + 1, i, hi => by
    have h0 : (i : Int) < (l.length : Int) := by omega
    have h1 : (0 : Int) ≤ (i : Int) := by omega
    have hw1 : wrap64 ((i : Int) + 1) = ((i + 1 : Nat) : Int) := (wr64 _ (by omega) (by omega)).trans (by omega)
    obtain ⟨k, hk⟩ := share_loop l s hl n (i + 1) (by omega)
    have hr := shP_range l s i
    have hr2 := wdP_range l i
    have hT : ∀ k, ring_Share.l1 (k + 1) l s (shP l s i) l (l.length : Int) (i : Int) = ring_Share.l1 k l s (shP l s (i + 1)) l (l.length : Int) ((i + 1 : Nat) : Int) := by
      intro k
      rw [ring_Share.l1, if_pos h0, if_pos h1, if_pos h0, hw1, shP]
      by_cases e : (rd_T46 l (i : Int)).f1 = s
      · rw [if_pos e, if_pos e, width_f l hl i (by omega), Option.bind_some, uw _ (by omega) (by omega)]
      · rw [if_neg e, if_neg e]
    exact ⟨k + 1, by rw [hT, hk]⟩
theorem may_mono : ∀ (j k : Nat) (l : List S46) (r : Bool), ring_May.f k l = some r → ring_May.f (k + j) l = some r
  | 0, k, l, r, h => h
  | j + 1, k, l, r, h => ring_May.mono _ _ _ (may_mono j k l r h)
theorem shl1_mono (j k : Nat) (l : List S46) (a b c d e r : _) (h : ring_Share.l1 k l a b c d e = some r) : ring_Share.l1 (k + j) l a b c d e = some r := by
  induction j with
  | zero => exact h
  | succ j ih => exact ring_Share.mono_l _ _ _ _ _ _ _ _ ih
theorem share_f (l : List S46) (s : Int) (h : ringB l = true) : ∃ k, ring_Share.f k l s = some (shP l s l.length) := by
  obtain ⟨k1, h1⟩ := ring_f l
  obtain ⟨k2, h2⟩ := share_loop l s (ringB_f1 h).1.2 l.length 0 (by omega)
  rw [h] at h1
  refine ⟨k1 + k2, ?_⟩
  have e1 := may_mono k2 k1 l _ h1
  have e2 := shl1_mono k1 k2 l _ _ _ _ _ _ h2
  rw [Nat.add_comm k2 k1] at e2
  unfold ring_Share.f
  rw [e1, Option.bind_some, if_pos rfl]
  exact e2
theorem Share_is (A : Option Addr) (c : Nat) (l : List S46) (s : Int) (w : World) (hr : Kd.C k46 w A l.length l) (hc : l.length ≤ c) (h : ringB l = true) :
    Calls Try.prog 18 #[.slice A l.length c, .int .i64 s] w fun e w' => e = .returned (.int .u64 (shP l s l.length)) ∧ Below w.heap.size w w' := by
  obtain ⟨k, hk⟩ := share_f l s h
  exact ring_Share.calls k A c l s _ w hr hc hk
theorem ringB_f0 {l : List S46} (h : ringB l = true) (i : Nat) (hi : i + 1 < l.length) : (rd_T46 l (i : Int)).f0 < (rd_T46 l ((i + 1 : Nat) : Int)).f0 := by
  unfold ringB at h
  rw [Bool.and_eq_true] at h
  have h2 := of_decide_eq_true h.2 (i + 1) hi
  unfold ringAt at h2
  simp only [Bool.not_eq_true', Bool.or_eq_false_iff, Bool.and_eq_false_imp, decide_eq_false_iff_not, decide_eq_true_eq] at h2
  have h3 := h2.2 (by omega)
  rw [show (((i + 1 : Nat) : Int) - 1) = (i : Int) by omega] at h3
  omega
theorem ringB_up {l : List S46} (h : ringB l = true) : ∀ j i : Nat, i + j + 1 < l.length → (rd_T46 l (i : Int)).f0 < (rd_T46 l ((i + j + 1 : Nat) : Int)).f0
  | 0, i, hi => ringB_f0 h i hi
  | j + 1, i, hi => Int.lt_trans (ringB_up h j i (by omega)) (ringB_f0 h (i + j + 1) hi)
theorem rdT_mem {l : List S46} {i : Nat} (h : i < l.length) : rd_T46 l (i : Int) ∈ l := List.mem_of_getElem? (rd46_at l i h)
theorem wdP_pos {l : List S46} (h : ringB l = true) (hf : ∀ x ∈ l, 0 ≤ x.f0 ∧ x.f0 < 4294967296) (k : Nat) (hk : k < l.length) : 0 < wdP l k := by
  unfold wdP
  split
  · omega
  · have h1 := hf _ (rdT_mem hk)
    by_cases hl : k + 1 < l.length
    · rw [Nat.mod_eq_of_lt hl]
      have h2 := hf _ (rdT_mem hl)
      have := ringB_f0 h k hl
      omega
    · have e : k + 1 = l.length := by omega
      rw [e, Nat.mod_self]
      have h2 := hf _ (rdT_mem (show 0 < l.length by omega))
      have := ringB_up h (k - 1) 0 (by omega)
      rw [show 0 + (k - 1) + 1 = k by omega] at this
      omega
theorem shP_pos {l : List S46} (h : ringB l = true) (hf : ∀ x ∈ l, 0 ≤ x.f0 ∧ x.f0 < 4294967296) (s : Int) : ∀ n, n ≤ l.length → (0 < shP l s n ↔ ∃ x ∈ l.take n, x.f1 = s)
  | 0, _ => by
    constructor
    · intro h0
      unfold shP at h0
      omega
    · rintro ⟨x, hx, -⟩
      simp at hx
  | n + 1, hn => by
    have ih := shP_pos h hf s n (by omega)
    have hr := shP_range l s n
    have hp := wdP_pos h hf n (by omega)
    rw [take_snoc l n _ (rd46_at l n (by omega))]
    unfold shP
    by_cases e : (rd_T46 l (n : Int)).f1 = s
    · rw [if_pos e]
      exact ⟨fun _ => ⟨_, List.mem_append_right _ (List.mem_singleton_self _), e⟩, fun _ => by omega⟩
    · rw [if_neg e, ih]
      constructor
      · rintro ⟨x, hx, he⟩
        exact ⟨x, List.mem_append_left _ hx, he⟩
      · rintro ⟨x, hx, he⟩
        rcases List.mem_append.1 hx with hx | hx
        · exact ⟨x, hx, he⟩
        · rw [List.mem_singleton.1 hx] at he
          exact absurd he e
theorem share_pos {l : List S46} (h : ringB l = true) (hf : ∀ x ∈ l, 0 ≤ x.f0 ∧ x.f0 < 4294967296) (s : Nat) : 0 < shP l (s : Int) l.length ↔ 0 < cntA l s := by
  rw [shP_pos h hf _ _ (Nat.le_refl _), List.take_length]
  unfold cntA
  rw [List.countP_pos_iff]
  simp
theorem mayT_ring {ep : Int} {l : List S46} {ns : List Int} (h : mayT ep l ns = true) : ringB l = true := by
  unfold mayT at h
  cases e : ringB l with
  | true => rfl
  | false => rw [e] at h; simp at h

/-! ### Hot -/
theorem hotBest_max (loads : List Int) (sel : List Bool) : ∀ i : Nat, (∀ s : Nat, s < i → sel.getD s false = true → 0 ≤ hotBest loads sel i ∧ ldP loads (s : Int) ≤ ldP loads (hotBest loads sel i)) ∧ (0 ≤ hotBest loads sel i → sel.getD (hotBest loads sel i).toNat false = true)
  | 0 => ⟨fun s hs => by omega, fun h => by unfold hotBest at h; omega⟩
  | i + 1 => by
    obtain ⟨h1, h2⟩ := hotBest_max loads sel i
    have hr := hotBest_range loads sel i
    by_cases hc : sel.getD i false = true ∧ (hotBest loads sel i < 0 ∨ ldP loads (hotBest loads sel i) < ldP loads (i : Int))
    · have e : hotBest loads sel (i + 1) = (i : Int) := if_pos hc
      rw [e]
      refine ⟨fun s hs hsel => ⟨by omega, ?_⟩, fun _ => by rw [Int.toNat_natCast]; exact hc.1⟩
      rcases Nat.lt_succ_iff_lt_or_eq.1 hs with h | rfl
      · have := h1 s h hsel
        rcases hc.2 with h3 | h3 <;> omega
      · exact Int.le_refl _
    · have e : hotBest loads sel (i + 1) = hotBest loads sel i := if_neg hc
      rw [e]
      refine ⟨fun s hs hsel => ?_, h2⟩
      rcases Nat.lt_succ_iff_lt_or_eq.1 hs with h | rfl
      · exact h1 s h hsel
      · have h3 : ¬ (hotBest loads sel s < 0 ∨ ldP loads (hotBest loads sel s) < ldP loads (s : Int)) := fun h => hc ⟨hsel, h⟩
        omega
theorem sel_iff (dir : Int) (n : Nat) (l : List S46) (s : Nat) (hs : s < n) : (hotSel dir n l).getD s false = true ↔ ∃ x ∈ l, x.f1 = (s : Int) ∧ hotAt dir x = true := by
  have e : (hotSel dir n l).getD s false = l.any (fun x => decide (x.f1 = ((s : Nat) : Int)) && hotAt dir x) := by simp [hotSel, hs]
  rw [e, List.any_eq_true]
  simp
theorem zsum_le (φ : Int × Int → Int) (hφ : ∀ a b, φ (zadd a b) = φ a + φ b) (g : S46 → Int × Int) : ∀ (l : List S46) (z : Int × Int), (∀ x ∈ l, φ (g x) ≤ 0) → φ (zsum z (l.map g)) ≤ φ z
  | [], z, _ => Int.le_refl _
  | x :: l, z, h => by
    have := zsum_le φ hφ g l (zadd z (g x)) (fun y hy => h y (List.mem_cons_of_mem _ hy))
    rw [hφ] at this
    have h2 := h x (List.mem_cons_self ..)
    show φ (zsum (zadd z (g x)) (l.map g)) ≤ φ z
    omega
theorem dirP_range (p : Int) (h0 : 0 ≤ p) (h1 : p < 4294967296) : 0 ≤ dirP p ∧ dirP p < 4 := by
  unfold dirP
  rw [wr64 _ (by omega) (by omega)]
  omega
/-- Where loads lean, there is an arc. -/
theorem lean_arc (loads : List Int) {l : List S46} (hf : ∀ x ∈ l, 0 ≤ x.f0 ∧ x.f0 < 4294967296) (hx : ∀ x ∈ l, 0 ≤ x.f1) (hne : leanZ loads l ≠ (0, 0)) : ∃ x ∈ l, dirP x.f0 = zway (leanZ loads l) := by
  apply Classical.byContradiction
  intro hno
  have hno : ∀ x ∈ l, dirP x.f0 ≠ zway (leanZ loads l) := fun x hxl h => hno ⟨x, hxl, h⟩
  obtain ⟨z, hz⟩ : ∃ z, leanZ loads l = z := ⟨_, rfl⟩
  rw [hz] at hno hne
  have key : ∀ (φ : Int × Int → Int) (hφ : ∀ a b, φ (zadd a b) = φ a + φ b) (h0 : φ (0, 0) = 0) (hd : ∀ n d : Int, 0 ≤ n → 0 ≤ d → d < 4 → d ≠ zway z → φ (zspin (n, 0) d) ≤ 0), φ z ≤ 0 := by
    intro φ hφ h0 hd
    rw [← hz, ← h0]
    unfold leanZ
    refine zsum_le φ hφ _ l (0, 0) (fun x hxl => ?_)
    have hr := dirP_range x.f0 (hf x hxl).1 (hf x hxl).2
    exact hd _ _ (leanZ_part loads l x hxl (hx x hxl)).1 hr.1 hr.2 (hno x hxl)
  have hz2 : z.1 ≠ 0 ∨ z.2 ≠ 0 := by
    by_cases h1 : z.1 = 0
    · by_cases h2 : z.2 = 0
      · exact absurd (Prod.ext h1 h2) hne
      · exact .inr h2
    · exact .inl h1
  have hw : zway z = 0 ∧ 0 < z.1 ∨ zway z = 1 ∧ 0 < z.2 ∨ zway z = 2 ∧ z.1 < 0 ∨ zway z = 3 ∧ z.2 < 0 := by
    unfold zway
    split
    · omega
    · split
      · omega
      · split
        · omega
        · split <;> omega
  have spin : ∀ n d : Int, 0 ≤ d → d < 4 → zspin (n, 0) d = if d = 0 then (n, 0) else if d = 1 then (0, n) else if d = 2 then (-n, 0) else (0, -n) := by
    intro n d h0 h1
    have : d = 0 ∨ d = 1 ∨ d = 2 ∨ d = 3 := by omega
    rcases this with rfl | rfl | rfl | rfl <;> rfl
  rcases hw with ⟨h, hp⟩ | ⟨h, hp⟩ | ⟨h, hp⟩ | ⟨h, hp⟩
  · have := key (fun a => a.1) (fun _ _ => rfl) rfl (fun n d hn h0 h1 hd => by
      rw [spin n d h0 h1]
      show Prod.fst _ ≤ _
      repeat' split
      all_goals first | omega | (show (0 : Int) ≤ 0; omega) | (show -n ≤ 0; omega))
    have : z.1 ≤ 0 := this
    omega
  · have := key (fun a => a.2) (fun _ _ => rfl) rfl (fun n d hn h0 h1 hd => by
      rw [spin n d h0 h1]
      show Prod.snd _ ≤ _
      repeat' split
      all_goals first | omega | (show (0 : Int) ≤ 0; omega) | (show -n ≤ 0; omega))
    have : z.2 ≤ 0 := this
    omega
  · have := key (fun a => -a.1) (fun _ _ => by show -(_ + _) = -_ + -_; omega) rfl (fun n d hn h0 h1 hd => by
      rw [spin n d h0 h1]
      show -Prod.fst _ ≤ _
      repeat' split
      all_goals first | omega | (show -(0 : Int) ≤ 0; omega) | (show -n ≤ 0; omega))
    have : -z.1 ≤ 0 := this
    omega
  · have := key (fun a => -a.2) (fun _ _ => by show -(_ + _) = -_ + -_; omega) rfl (fun n d hn h0 h1 hd => by
      rw [spin n d h0 h1]
      show -Prod.snd _ ≤ _
      repeat' split
      all_goals first | omega | (show -(0 : Int) ≤ 0; omega) | (show -n ≤ 0; omega))
    have : -z.2 ≤ 0 := this
    omega
theorem zway_none {z : Int × Int} (h : zway z < 0) : z = (0, 0) := by
  unfold zway at h
  by_cases hz : z.1 = 0 ∧ z.2 = 0
  · exact Prod.ext hz.1 hz.2
  · rw [if_neg hz] at h
    repeat' split at h
    all_goals omega
theorem hot_facts {ep : Int} {l : List S46} {ns : List Int} (loads : List Int) (hm : mayT ep l ns = true) (hf : ∀ x ∈ l, 0 ≤ x.f0 ∧ x.f0 < 4294967296) :
    0 ≤ hotP ep l ns loads ∧ hotP ep l ns loads < (ns.length : Int) ∧ 0 < cntA l (hotP ep l ns loads).toNat ∧ ∀ x ∈ l, hotAt (zway (leanZ loads l)) x = true → ldP loads x.f1 ≤ ldP loads (hotP ep l ns loads) := by
  obtain ⟨b1, b2, b3, b4, b5, b6⟩ := mayT_facts hm
  have e : hotP ep l ns loads = hotBest loads (hotSel (zway (leanZ loads l)) ns.length l) ns.length := if_pos hm
  rw [e]
  obtain ⟨h1, h2⟩ := hotBest_max loads (hotSel (zway (leanZ loads l)) ns.length l) ns.length
  have hr := hotBest_range loads (hotSel (zway (leanZ loads l)) ns.length l) ns.length
  have hall : ∀ x ∈ l, hotAt (zway (leanZ loads l)) x = true → 0 ≤ hotBest loads (hotSel (zway (leanZ loads l)) ns.length l) ns.length ∧ ldP loads x.f1 ≤ ldP loads (hotBest loads (hotSel (zway (leanZ loads l)) ns.length l) ns.length) := by
    intro x hx ha
    have h3 := b5 x hx
    have := h1 x.f1.toNat (by omega) ((sel_iff _ _ _ _ (by omega)).2 ⟨x, hx, by omega, ha⟩)
    rw [Int.toNat_of_nonneg h3.1] at this
    exact this
  have hsome : ∃ x ∈ l, hotAt (zway (leanZ loads l)) x = true := by
    by_cases hz : leanZ loads l = (0, 0)
    · obtain ⟨x, hx⟩ := List.exists_mem_of_length_pos (show 0 < l.length by omega)
      refine ⟨x, hx, ?_⟩
      rw [hz]
      rfl
    · obtain ⟨x, hx, h⟩ := lean_arc loads hf (fun x hx => (b5 x hx).1) hz
      refine ⟨x, hx, ?_⟩
      unfold hotAt
      rw [decide_eq_true h, Bool.or_true]
  obtain ⟨x0, hx0, ha0⟩ := hsome
  have h0 := (hall x0 hx0 ha0).1
  refine ⟨h0, hr.2, ?_, fun x hx ha => (hall x hx ha).2⟩
  obtain ⟨y, hy, hy1, -⟩ := (sel_iff _ _ _ _ (by omega)).1 (h2 h0)
  unfold cntA
  rw [List.countP_pos_iff]
  exact ⟨y, hy, decide_eq_true hy1⟩

/-! ### Cold -/
theorem coldBest_min (S : Int → Int) : ∀ i : Nat, (∀ n : Nat, n < i → S (coldBest S i : Nat) ≤ S (n : Int)) ∧ (∀ n : Nat, n < coldBest S i → S (coldBest S i : Nat) < S (n : Int))
  | 0 => ⟨fun n h => by omega, fun n h => by unfold coldBest at h; omega⟩
  | i + 1 => by
    obtain ⟨h1, h2⟩ := coldBest_min S i
    have hle := coldBest_le S i
    by_cases hc : S (i : Int) < S (coldBest S i : Nat)
    · have e : coldBest S (i + 1) = i := if_pos hc
      rw [e]
      refine ⟨fun n hn => ?_, fun n hn => ?_⟩
      · rcases Nat.lt_succ_iff_lt_or_eq.1 hn with h | rfl
        · have := h1 n h
          omega
        · exact Int.le_refl _
      · have := h1 n hn
        omega
    · have e : coldBest S (i + 1) = coldBest S i := if_neg hc
      rw [e]
      refine ⟨fun n hn => ?_, h2⟩
      rcases Nat.lt_succ_iff_lt_or_eq.1 hn with h | rfl
      · exact h1 n h
      · omega

/-! ### The way that is best -/
def bestW (z : Int × Int) : Nat → (Int × Int) × Int
  | 0 => (zspin z 0, 0)
  | 1 => (zspin z 0, 0)
  | k + 1 => if (bestW z k).1.1 < (zspin z (-(k : Nat))).1 then (zspin z (-(k : Nat)), (k : Int)) else bestW z k
theorem best_way (z : Int × Int) (h1 : (bestW z 4).1.2 < (bestW z 4).1.1) (h2 : -(bestW z 4).1.2 < (bestW z 4).1.1) : zway z = (bestW z 4).2 := by
  obtain ⟨x, y⟩ := z
  have s0 : zspin (x, y) 0 = (x, y) := rfl
  have s1 : zspin (x, y) (-((1 : Nat) : Int)) = (y, -x) := rfl
  have s2 : zspin (x, y) (-((2 : Nat) : Int)) = (-x, -y) := rfl
  have s3 : zspin (x, y) (-((3 : Nat) : Int)) = (-y, x) := rfl
  have b1 : bestW (x, y) 1 = ((x, y), 0) := rfl
  have b2 : bestW (x, y) 2 = if x < y then ((y, -x), 1) else ((x, y), 0) := rfl
  have b3 : bestW (x, y) 3 = if (bestW (x, y) 2).1.1 < -x then ((-x, -y), 2) else bestW (x, y) 2 := rfl
  have b4 : bestW (x, y) 4 = if (bestW (x, y) 3).1.1 < -y then ((-y, x), 3) else bestW (x, y) 3 := rfl
  rw [b4] at h1 h2 ⊢
  rw [b3] at h1 h2 ⊢
  rw [b2] at h1 h2 ⊢
  unfold zway
  dsimp only at h1 h2 ⊢
  by_cases c1 : x < y
  · rw [if_pos c1] at h1 h2 ⊢
    by_cases c2 : y < -x
    · rw [if_pos c2] at h1 h2 ⊢
      by_cases c3 : -x < -y
      · rw [if_pos c3] at h1 h2 ⊢
        dsimp only at h1 h2 ⊢
        omega
      · rw [if_neg c3] at h1 h2 ⊢
        dsimp only at h1 h2 ⊢
        rw [if_neg (by omega), if_neg (by omega), if_neg (by omega), if_pos (by omega)]
    · rw [if_neg c2] at h1 h2 ⊢
      dsimp only at h1 h2 ⊢
      by_cases c3 : y < -y
      · rw [if_pos c3] at h1 h2 ⊢
        dsimp only at h1 h2 ⊢
        omega
      · rw [if_neg c3] at h1 h2 ⊢
        dsimp only at h1 h2 ⊢
        rw [if_neg (by omega), if_neg (by omega), if_pos (by omega)]
  · rw [if_neg c1] at h1 h2 ⊢
    dsimp only at h1 h2 ⊢
    by_cases c2 : x < -x
    · rw [if_pos c2] at h1 h2 ⊢
      dsimp only at h1 h2 ⊢
      by_cases c3 : -x < -y
      · rw [if_pos c3] at h1 h2 ⊢
        dsimp only at h1 h2 ⊢
        rw [if_neg (by omega), if_neg (by omega), if_neg (by omega), if_neg (by omega)]
      · rw [if_neg c3] at h1 h2 ⊢
        dsimp only at h1 h2 ⊢
        rw [if_neg (by omega), if_neg (by omega), if_neg (by omega), if_pos (by omega)]
    · rw [if_neg c2] at h1 h2 ⊢
      dsimp only at h1 h2 ⊢
      by_cases c3 : x < -y
      · rw [if_pos c3] at h1 h2 ⊢
        dsimp only at h1 h2 ⊢
        rw [if_neg (by omega), if_neg (by omega), if_neg (by omega), if_neg (by omega)]
      · rw [if_neg c3] at h1 h2 ⊢
        dsimp only at h1 h2 ⊢
        rw [if_neg (by omega), if_pos (by omega)]
/-! ### Whole numbers among floats -/
theorem whole_iv {n : Nat} {i : Int} (h : IV n i) (hb : i.natAbs ≤ 1099511627776) : whole n = true ∧ (Ieee.double.read n).isNaN = false := by
  have h1 : IV 14010698440749613056 (-1099511627776) := by
    have e : floatOfInt .f64 (-1099511627776) = 14010698440749613056 := by kernel_rfl
    have := iv_of_int (-1099511627776) (by omega)
    rw [e] at this
    exact this
  have h2 : IV 4787326403894837248 1099511627776 := by
    have e : floatOfInt .f64 1099511627776 = 4787326403894837248 := by kernel_rfl
    have := iv_of_int 1099511627776 (by omega)
    rw [e] at this
    exact this
  have o1 := iv_order h h1
  have o2 := iv_order h h2
  have o3 := iv_order h (iv_trunc h (by omega))
  have c3 : compare i i = Ordering.eq := by simp [compare, compareOfLessAndEq]
  constructor
  · unfold whole
    have hd : FloatKind.f64.format = Ieee.double := rfl
    rw [hd, o1, o2, o3, c3]
    have c1 : compare i (-1099511627776) = .gt ∨ compare i (-1099511627776) = .eq := by
      simp only [compare, compareOfLessAndEq]
      rw [if_neg (by omega)]
      by_cases e : i = -1099511627776
      · rw [if_pos e]
        exact .inr rfl
      · rw [if_neg e]
        exact .inl rfl
    have c2 : compare i 1099511627776 = .lt ∨ compare i 1099511627776 = .eq := by
      simp only [compare, compareOfLessAndEq]
      by_cases e : i < 1099511627776
      · rw [if_pos e]
        exact .inl rfl
      · rw [if_neg e, if_pos (by omega)]
        exact .inr rfl
    rcases c1 with c1 | c1 <;> rcases c2 with c2 | c2 <;> rw [c1, c2] <;> rfl
  · obtain ⟨s, p, hr, _⟩ := h
    rw [hr]
    rfl
theorem Whole_at (a b : Nat) (w : World) {z : Int × Int} (h : IC (crd (a, b)) z) (hb : zbd 1099511627776 z) : Calls Try.prog 19 #[.complex .f64 a b] w fun e w' => e = .returned (.bool true) ∧ w' = w := by
  obtain ⟨a1, a2⟩ := whole_iv (io_rd h.1) hb.1
  obtain ⟨b1, b2⟩ := whole_iv (io_rd h.2) hb.2
  refine (Whole_is a b w a2 b2).mono ?_
  rintro e w' ⟨rfl, rfl⟩
  exact ⟨congrArg (fun t => Ending.returned (.bool t)) (by show (whole a && whole b) = true; rw [show whole a = true from a1, show whole b = true from b1]; rfl), rfl⟩
theorem max_iv {x y : Nat} {i j : Int} (hx : IV x i) (hy : IV y j) : ∃ m, IV m (if j < i then i else j) ∧ ∀ w, (Builtin.max_ #[38, 38] 38 #[.float .f64 x, .float .f64 y]).run Try.prog w = .ok (.float .f64 m) w := by
  have ho := iv_order hx hy
  have hd : FloatKind.f64.format = Ieee.double := rfl
  by_cases h : i < j
  · have hc : compare i j = .lt := by simp [compare, compareOfLessAndEq, h]
    rw [hc] at ho
    refine ⟨y, by rw [if_neg (by omega)]; exact hy, fun w => ?_⟩
    simp [Builtin.max_, Builtin.max2, hd, ho, go_sem]
  · by_cases h2 : i = j
    · subst h2
      have hc : compare i i = .eq := by simp [compare, compareOfLessAndEq]
      rw [hc] at ho
      refine ⟨if (FloatKind.f64.decode x).neg then y else x, by rw [if_neg (Int.lt_irrefl _)]; split <;> assumption, fun w => ?_⟩
      simp [Builtin.max_, Builtin.max2, hd, ho, go_sem]
    · have hc : compare i j = .gt := by simp [compare, compareOfLessAndEq, h, h2]
      rw [hc] at ho
      refine ⟨x, by rw [if_pos (by omega)]; exact hx, fun w => ?_⟩
      simp [Builtin.max_, Builtin.max2, hd, ho, go_sem]
/-! ### The law's loads -/
def umL (x : Int) : Int := wrap64 ((IntKind.u64.wrap x).tmod 10001)
theorem umL_range (x : Int) : 0 ≤ umL x ∧ umL x ≤ 10000 := by
  unfold umL
  have h : IntKind.u64.wrap x = x % 18446744073709551616 := rfl
  have h0 : 0 ≤ x % 18446744073709551616 := Int.emod_nonneg _ (by decide)
  rw [h, Int.tmod_eq_emod_of_nonneg h0, wr64 _ (by omega) (by omega)]
  omega
theorem ld_um (loads : List Int) (s : Nat) (hs : s < loads.length) : ldP (loads.map umL) (s : Int) = YtbkamlkmimfomaaW.PrintWords.rd (loads.map umL) (s : Int) := by
  unfold ldP
  rw [if_neg (by rw [List.length_map]; omega)]
  have e : YtbkamlkmimfomaaW.PrintWords.rd (loads.map umL) (s : Int) = umL loads[s] := by simp [YtbkamlkmimfomaaW.PrintWords.rd, hs]
  rw [e]
  have := umL_range loads[s]
  exact if_neg (by omega)
end Go.Proofs.Ytbkamlkmimfomaa
