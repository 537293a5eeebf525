/-
  RouteHash: its plain law, and the calls' contracts.
  Conditions: none.
-/
import Derived.Test.YtpmalfabeajepaaDoorFh
namespace Go.Proofs.YtpmalfabeajepaaDoor.Rt
open Go.RowKit Go.Proofs.YtpmalfabeajepaaDoorW.PrintWords Go.Proofs.YtpmalfabeajepaaDoorW.PrintLast Go.Proofs.YtpmalfabeajepaaDoorG Go.Proofs.YtpmalfabeajepaaDoor.PGa Go.Proofs.YtpmalfabeajepaaDoorH
set_option linter.unusedVariables false
set_option linter.unusedSimpArgs false

def d8 : ByteArray := ⟨#[48, 49, 50, 51, 52, 53, 54, 55]⟩
abbrev sH : ByteArray := ⟨#[104]⟩
abbrev eH : S25 := ⟨sH, 4⟩
def qn (i : Nat) : ByteArray := ⟨#[113]⟩ ++ d8.extract i (i + 1)
def bh (wt : Nat → Int) (i : Nat) : S28 := ⟨sH, qn i, ⟨#[]⟩, wt i⟩
def hb (wt : Nat → Int) (n : Nat) : List S28 := (List.range n).map (bh wt)
theorem qn_eq : ∀ i j : Fin 8, ((qn i.1).toList == (qn j.1).toList) = decide (i = j) := by decide +kernel
theorem qn_sz : ∀ i : Fin 8, 1 ≤ (qn i.1).size ∧ (qn i.1).size ≤ 40 := by decide +kernel
theorem qn_ne : ∀ i : Fin 8, ((qn i.1).toList == []) = false := by decide +kernel
section
variable (wt : Nat → Int)
theorem hb_len (n : Nat) : (hb wt n).length = n := by simp [hb]
theorem hb_succ (n : Nat) : hb wt (n + 1) = hb wt n ++ [bh wt n] := by simp [hb, List.range_succ]
theorem hb_get {n j : Nat} (h : j < n) : (hb wt n)[j]? = some (bh wt j) := by simp [hb, h]
theorem hb_rd {n j : Nat} (h : j < n) : rd_T28 (hb wt n) (j : Int) = bh wt j := by
  have := rdT_Bd_at (hb wt n) j (by rw [hb_len]; exact h)
  rw [hb_get wt h] at this
  exact (Option.some.inj this).symm
theorem hb_mem {n : Nat} {x : S28} (h : x ∈ hb wt n) : ∃ j, j < n ∧ x = bh wt j := by
  simp only [hb, List.mem_map, List.mem_range] at h
  obtain ⟨j, h1, h2⟩ := h
  exact ⟨j, h1, h2.symm⟩
theorem hb_take {n j : Nat} (h : j ≤ n) : (hb wt n).take j = hb wt j := by
  unfold hb
  rw [← List.map_take, List.take_range, Nat.min_eq_left h]
theorem bh_eq {i j : Nat} (hi : i < 8) (hj : j < 8) : alikeB (bh wt i) (bh wt j) = decide (i = j) := by
  have := qn_eq ⟨i, hi⟩ ⟨j, hj⟩
  unfold alikeB
  show ((sH.toList == sH.toList) && ((qn i).toList == (qn j).toList && ((⟨#[]⟩ : ByteArray).toList == (⟨#[]⟩ : ByteArray).toList))) = _
  rw [this]
  simp
theorem idx_hb {n j : Nat} (h : j < n) (hn : n ≤ 8) : idxI (tMay1 (bh wt j)) (hb wt n) = j := by
  refine idxI_at (hb_get wt h) (by show alikeB (bh wt j) (bh wt j) = true; rw [bh_eq wt (by omega) (by omega)]; exact decide_eq_true rfl) ?_
  rw [hb_take wt (by omega)]
  intro x hx
  obtain ⟨i, hi, rfl⟩ := hb_mem wt hx
  show alikeB (bh wt j) (bh wt i) = false
  rw [bh_eq wt (by omega) (by omega)]
  exact decide_eq_false (by omega)
theorem idx_hb_no {n : Nat} (hn : n < 8) : idxI (tBind1 (bh wt n)) (hb wt n) = -1 := by
  refine idxI_none fun x hx => ?_
  obtain ⟨i, hi, rfl⟩ := hb_mem wt hx
  show alikeB (bh wt i) (bh wt n) = false
  rw [bh_eq wt (by omega) (by omega)]
  exact decide_eq_false (by omega)
variable (hw : ∀ i, i < 8 → 1 ≤ wt i ∧ wt i ≤ 4)
include hw
theorem mb_h {i : Nat} (hi : i < 8) : MB 100 [eH] (bh wt i) = some true := by
  have hs := qn_sz ⟨i, hi⟩
  rw [mb_of 99 [eH] (bh wt i) 0 (idx_one (name_self sH 4)) (by rw [List.length_singleton]; decide) (by rw [List.length_singleton]; decide) hs.1 hs.2 (by show (⟨#[]⟩ : ByteArray).size ≤ 255; decide)]
  rw [if_pos (show (rd_T25 [eH] ((0 : Nat) : Int)).f1 = 4 from rfl), if_pos (show (bh wt i).f3 ≥ 1 from (hw i hi).1), decide_eq_true (show (bh wt i).f3 ≤ 4 from (hw i hi).2)]
theorem may_h {n : Nat} (hn : n ≤ 8) : MayR 100 [eH] (hb wt n) true := by
  refine .inl ⟨rfl, by rw [List.length_singleton]; decide, by rw [hb_len]; omega, exok_one sH 4 (by decide) (by decide) (by decide) (by decide), fun i hi => ?_⟩
  rw [hb_len] at hi
  unfold BOk
  rw [hb_rd wt hi]
  exact ⟨mb_h wt hw (by omega), idx_hb wt hi hn⟩
theorem bind_h {i : Nat} (h : i < 8) : BindR 100 [eH] (hb wt i) (bh wt i) (hb wt (i + 1)) 0 :=
  .inr ⟨0, idx_one (name_self sH 4), .inr ⟨at_none 100 (bh wt i) (hb wt i) (by
    intro x hx
    obtain ⟨j, hj, rfl⟩ := hb_mem wt hx
    rw [bh_eq wt h (by omega)]
    exact decide_eq_false (by omega)) (by rw [hb_len]; omega) (by rw [hb_len]; omega), .inr ⟨idx_hb_no wt h, .inl ⟨by rw [← hb_succ]; exact may_h wt hw (by omega), hb_succ wt i, rfl⟩⟩⟩⟩
/-! ### the hash's state -/
omit hw in
theorem inner_old (key q p : ByteArray) (v : Int) : ∀ n, ∃ p' v', innerP key q (some (p, v)) n = some (p', v') ∧ (p' = p ∨ p' = q)
  | 0 => ⟨p, v, rfl, .inl rfl⟩
  | n + 1 => by
    obtain ⟨p', v', h, hp⟩ := inner_old key q p v n
    rw [inner_succ, h]
    unfold pickP
    by_cases c : wayP key q n < v'
    · exact ⟨q, _, if_pos c, .inr rfl⟩
    · exact ⟨p', v', if_neg c, hp⟩
omit hw in
theorem inner_new (key q : ByteArray) : ∀ n, 0 < n → ∃ v', innerP key q none n = some (q, v')
  | 0, h => absurd h (by decide)
  | 1, _ => ⟨_, rfl⟩
  | n + 2, _ => by
    obtain ⟨v', h⟩ := inner_new key q (n + 1) (by omega)
    rw [inner_succ, h]
    unfold pickP
    by_cases c : wayP key q (n + 1) < v'
    · exact ⟨_, if_pos c⟩
    · exact ⟨v', if_neg c⟩
def lastQ (st : HSt) : ByteArray := match st with
  | none => ⟨#[]⟩
  | some (p, _) => p
def stH (wt : Nat → Int) (key : ByteArray) (i : Nat) : HSt := hashedP sH key (hb wt i)
omit hw in
theorem st_zero (key : ByteArray) : stH wt key 0 = none := rfl
omit hw in
theorem st_succ (key : ByteArray) (i : Nat) : stH wt key (i + 1) = innerP key (qn i) (stH wt key i) (digitsN (bh wt i)) := by
  unfold stH
  have h := hashed_snoc sH key (hb wt (i + 1)) i (bh wt i) (hb_get wt (Nat.lt_succ_self i))
  rw [hb_take wt (Nat.le_refl _), hb_take wt (Nat.le_succ i)] at h
  rw [h]
  unfold outerP
  rw [if_pos (show ((bh wt i).f0.toList == sH.toList) = true by simp [bh])]
  rfl
theorem st_step (key : ByteArray) {i : Nat} (hi : i < 8) : ∃ v, stH wt key (i + 1) = some (lastQ (stH wt key (i + 1)), v) ∧ (lastQ (stH wt key (i + 1)) = qn i ∨ (0 < i ∧ lastQ (stH wt key (i + 1)) = lastQ (stH wt key i))) := by
  have hd : 0 < digitsN (bh wt i) := by
    have := hw i hi
    unfold digitsN lim
    show 0 < (if 10 < wt i then (10 : Int) else wt i).toNat
    split <;> omega
  rw [st_succ]
  cases hs : stH wt key i with
  | none =>
    obtain ⟨v, h⟩ := inner_new key (qn i) _ hd
    rw [h]
    exact ⟨v, rfl, .inl rfl⟩
  | some pv =>
    obtain ⟨p, u⟩ := pv
    obtain ⟨p', v', h, hp⟩ := inner_old key (qn i) p u (digitsN (bh wt i))
    rw [h]
    refine ⟨v', rfl, ?_⟩
    rcases hp with rfl | rfl
    · refine .inr ⟨?_, rfl⟩
      cases i with
      | zero => rw [st_zero] at hs; cases hs
      | succ i => exact Nat.succ_pos i
    · exact .inl rfl
theorem last_ne (key : ByteArray) : ∀ i, 0 < i → i ≤ 8 → ((lastQ (stH wt key i)).toList == []) = false
  | 0, h, _ => absurd h (by decide)
  | i + 1, _, h8 => by
    obtain ⟨v, _, h | ⟨h0, h⟩⟩ := st_step wt hw key (i := i) (by omega)
    · rw [h]
      exact qn_ne ⟨i, by omega⟩
    · rw [h]
      exact last_ne key i h0 (by omega)
/-! ### the calls -/
omit hw in
theorem queues_h (key : ByteArray) (hk : key.size ≤ 60) {i : Nat} (hi : i ≤ 8) : PGc.route_Queues.f 20 [eH] (hb wt i) sH key = some (qsP (stH wt key i), 0) := by
  have hf : route_Find.f [eH] sH = some 0 := by
    unfold route_Find.f
    rw [if_pos (by rw [List.length_singleton]; decide), idx_one (name_self sH 4)]
  have hh : route_hashed.f (hb wt i) sH key = some (qsP (stH wt key i)) := by
    unfold route_hashed.f
    rw [if_pos]
    · rfl
    · refine ⟨by rw [hb_len]; omega, by omega, fun b hb_ => ?_⟩
      obtain ⟨j, hj, rfl⟩ := hb_mem wt hb_
      have := qn_sz ⟨j, by omega⟩
      show (qn j).size ≤ 100000
      have h2 : (qn j).size ≤ 40 := this.2
      omega
  unfold PGc.route_Queues.f
  rw [if_neg (by decide +kernel), hf]
  simp only [Option.bind_some]
  rw [if_pos (by decide), if_pos (by decide), if_pos (by rw [List.length_singleton]; decide), if_pos (show (rd_T25 [eH] 0).f1 = 4 from rfl), hh]
  rfl
theorem HQ_is (key : ByteArray) (hk : key.size ≤ 60) (i : Nat) (hi : i < 8) (A B : Option Addr) (c d : Nat) (w : World) (hx : Kd.C k25 w A 1 [eH]) (hc : 1 ≤ c) (j : Nat) (hj : i + 1 = j) (hy : Kd.C k28 w B j (hb wt j)) (hd : j ≤ d) :
    Calls Tryd.prog 10 #[.slice A 1 c, .slice B j d, .string sH, .string key] w fun e w' => ∃ g c, e = .returned (.tuple #[.slice (some ⟨g, 0, none⟩) 1 c, .int .i64 0]) ∧ w'.cell? ⟨g, 0, none⟩ = some (.string (lastQ (stH wt key j))) ∧ Below w.heap.size w w' := by
  subst hj
  have h0 := queues_h wt key hk (i := i + 1) (by omega)
  obtain ⟨v, hv, _⟩ := st_step wt hw key hi
  have hqs : qsP (stH wt key (i + 1)) = [lastQ (stH wt key (i + 1))] := by
    rw [hv]
    rfl
  rw [hqs] at h0
  have := PGc.route_Queues.calls 20 A c [eH] B d (hb wt (i + 1)) sH key _ _ w hx hc (by rw [hb_len]; exact hy) (by rw [hb_len]; exact hd) h0
  rw [hb_len] at this
  exact this.mono fun e w' ⟨v, he, hr, hb⟩ => by obtain ⟨g, c, rfl, h⟩ := one_str hr; exact ⟨g, c, he, h, hb⟩
omit hw in
theorem HQ_none (key : ByteArray) (hk : key.size ≤ 60) (A : Option Addr) (c : Nat) (w : World) (hx : Kd.C k25 w A 1 [eH]) (hc : 1 ≤ c) :
    Calls Tryd.prog 10 #[.slice A 1 c, .slice none 0 0, .string sH, .string key] w fun e w' => ∃ A c, e = .returned (.tuple #[.slice A 0 c, .int .i64 0]) ∧ Below w.heap.size w w' := by
  have h0 := queues_h (fun _ => 1) key hk (i := 0) (by omega)
  exact (PGc.route_Queues.calls 20 A c [eH] none 0 [] sH key _ _ w hx hc (Kd.C_nil _ _) (Nat.le_refl _) h0).mono fun e w' ⟨v, he, hr, hb⟩ => by obtain ⟨g, c, rfl⟩ := zero_str hr; exact ⟨g, c, he, hb⟩
theorem HB_is (i : Nat) (hi : i < 8) (j : Nat) (hj : i + 1 = j) (A B : Option Addr) (c d : Nat) (w : World) (hx : Kd.C k25 w A 1 [eH]) (hc : 1 ≤ c) (hy : Kd.C k28 w B i (hb wt i)) (hd : i ≤ d) (u : Int) (hu : wt i = u) :
    Calls Tryd.prog 12 #[.slice A 1 c, .slice B i d, .agg #[.string ⟨#[104]⟩, .string (⟨#[113]⟩ ++ (⟨#[48, 49, 50, 51, 52, 53, 54, 55]⟩ : ByteArray).extract i (i + 1)), .string ⟨#[]⟩, .int .i64 u]] w fun ee w' => ∃ A' c', ee = .returned (.tuple #[.slice A' j c', .int .i64 0]) ∧ Kd.C k28 w' A' j (hb wt j) ∧ j ≤ c' ∧ Below w.heap.size w w' := by
  subst hj hu
  have := Bind_is 100 A c [eH] B d (hb wt i) (bh wt i) (hb wt (i + 1)) 0 w hx hc (by rw [List.length_singleton]; decide) (by rw [hb_len]; exact hy) (by rw [hb_len]; exact hd) (by rw [hb_len]; omega) (bind_h wt hw hi)
  rw [hb_len, hb_len] at this
  exact this
end
end Go.Proofs.YtpmalfabeajepaaDoor.Rt
