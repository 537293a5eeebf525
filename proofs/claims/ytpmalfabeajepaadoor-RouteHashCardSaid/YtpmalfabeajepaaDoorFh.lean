/-
  RouteBounds: the law's walk.
  Conditions: none.
-/
import Derived.Test.YtpmalfabeajepaaDoorFg
namespace Go.Proofs.YtpmalfabeajepaaDoor.Rt
open Go.RowKit Go.Proofs.YtpmalfabeajepaaDoorW.PrintWords Go.Proofs.YtpmalfabeajepaaDoorW.PrintLast Go.Proofs.YtpmalfabeajepaaDoorG Go.Proofs.YtpmalfabeajepaaDoor.PGa
set_option linter.unusedVariables false
set_option linter.unusedSimpArgs false

def dX : ByteArray := ⟨#[48, 49, 50, 51, 52, 53, 54, 55, 56, 57, 97, 98, 99, 100, 101, 102, 103, 104, 105]⟩
def nameP (i : Nat) : ByteArray := ⟨#[120]⟩ ++ dX.extract i (i + 1)
abbrev exP (i : Nat) : S25 := ⟨nameP i, 2⟩
def exs (n : Nat) : List S25 := (List.range n).map exP
def d10 : ByteArray := ⟨#[48, 49, 50, 51, 52, 53, 54, 55, 56, 57]⟩
abbrev x0P : ByteArray := ⟨#[120, 48]⟩
def bd (i : Nat) : S28 := ⟨x0P, ⟨#[113]⟩ ++ d10.extract (i / 10) (i / 10 + 1), d10.extract (i % 10) (i % 10 + 1), 0⟩
def bds (n : Nat) : List S28 := (List.range n).map bd
theorem name_eq : ∀ i j : Fin 17, nameIs (nameP i.1) (exP j.1) = decide (i = j) := by decide +kernel
theorem name_sz : ∀ i : Fin 17, 1 ≤ (nameP i.1).size ∧ (nameP i.1).size ≤ 40 := by decide +kernel
theorem name_x0 : nameIs x0P (exP 0) = true := by decide +kernel
theorem bd_eq : ∀ i j : Fin 65, alikeB (bd i.1) (bd j.1) = decide (i = j) := by decide +kernel
theorem bd_sz : ∀ i : Fin 65, 1 ≤ (bd i.1).f1.size ∧ (bd i.1).f1.size ≤ 40 ∧ (bd i.1).f2.size ≤ 255 := by decide +kernel
theorem exs_len (n : Nat) : (exs n).length = n := by simp [exs]
theorem exs_succ (n : Nat) : exs (n + 1) = exs n ++ [exP n] := by simp [exs, List.range_succ]
theorem bds_len (n : Nat) : (bds n).length = n := by simp [bds]
theorem bds_succ (n : Nat) : bds (n + 1) = bds n ++ [bd n] := by simp [bds, List.range_succ]
theorem exs_get {n j : Nat} (h : j < n) : (exs n)[j]? = some (exP j) := by simp [exs, h]
theorem bds_get {n j : Nat} (h : j < n) : (bds n)[j]? = some (bd j) := by simp [bds, h]
theorem exs_rd {n j : Nat} (h : j < n) : rd_T25 (exs n) (j : Int) = exP j := by
  have := rdT_Ex_at (exs n) j (by rw [exs_len]; exact h)
  rw [exs_get h] at this
  exact (Option.some.inj this).symm
theorem bds_rd {n j : Nat} (h : j < n) : rd_T28 (bds n) (j : Int) = bd j := by
  have := rdT_Bd_at (bds n) j (by rw [bds_len]; exact h)
  rw [bds_get h] at this
  exact (Option.some.inj this).symm
theorem exs_mem {n : Nat} {x : S25} (h : x ∈ exs n) : ∃ j, j < n ∧ x = exP j := by
  simp only [exs, List.mem_map, List.mem_range] at h
  obtain ⟨j, h1, h2⟩ := h
  exact ⟨j, h1, h2.symm⟩
theorem bds_mem {n : Nat} {x : S28} (h : x ∈ bds n) : ∃ j, j < n ∧ x = bd j := by
  simp only [bds, List.mem_map, List.mem_range] at h
  obtain ⟨j, h1, h2⟩ := h
  exact ⟨j, h1, h2.symm⟩
theorem exs_take {n j : Nat} (h : j ≤ n) : (exs n).take j = exs j := by
  unfold exs
  rw [← List.map_take, List.take_range, Nat.min_eq_left h]
theorem bds_take {n j : Nat} (h : j ≤ n) : (bds n).take j = bds j := by
  unfold bds
  rw [← List.map_take, List.take_range, Nat.min_eq_left h]
theorem idx_exs {n j : Nat} (h : j < n) (hn : n ≤ 17) : idxI (nameIs (nameP j)) (exs n) = j := by
  refine idxI_at (exs_get h) (by rw [name_eq ⟨j, by omega⟩ ⟨j, by omega⟩]; exact decide_eq_true rfl) ?_
  rw [exs_take (by omega)]
  intro x hx
  obtain ⟨i, hi, rfl⟩ := exs_mem hx
  rw [name_eq ⟨j, by omega⟩ ⟨i, by omega⟩]
  exact decide_eq_false (by rw [Fin.mk.injEq]; omega)
theorem idx_exs_no {n j : Nat} (h : n ≤ j) (hj : j < 17) : idxI (nameIs (nameP j)) (exs n) = -1 := by
  refine idxI_none fun x hx => ?_
  obtain ⟨i, hi, rfl⟩ := exs_mem hx
  rw [name_eq ⟨j, by omega⟩ ⟨i, by omega⟩]
  exact decide_eq_false (by rw [Fin.mk.injEq]; omega)
theorem idx_x0 {n : Nat} (h : 0 < n) : idxI (nameIs x0P) (exs n) = (0 : Nat) := idxI_at (exs_get h) name_x0 (by simp)
theorem idx_bds {n j : Nat} (h : j < n) (hn : n ≤ 65) : idxI (tMay1 (bd j)) (bds n) = j := by
  refine idxI_at (bds_get h) (by show alikeB (bd j) (bd j) = true; rw [bd_eq ⟨j, by omega⟩ ⟨j, by omega⟩]; exact decide_eq_true rfl) ?_
  rw [bds_take (by omega)]
  intro x hx
  obtain ⟨i, hi, rfl⟩ := bds_mem hx
  show alikeB (bd j) (bd i) = false
  rw [bd_eq ⟨j, by omega⟩ ⟨i, by omega⟩]
  exact decide_eq_false (by rw [Fin.mk.injEq]; omega)
theorem idx_bds_no {n j : Nat} (h : n ≤ j) (hj : j < 65) : idxI (tBind1 (bd j)) (bds n) = -1 := by
  refine idxI_none fun x hx => ?_
  obtain ⟨i, hi, rfl⟩ := bds_mem hx
  show alikeB (bd i) (bd j) = false
  rw [bd_eq ⟨i, by omega⟩ ⟨j, by omega⟩]
  exact decide_eq_false (by rw [Fin.mk.injEq]; omega)
theorem exok_all {n : Nat} (hn : n ≤ 17) : ∀ i, i < (exs n).length → ExOk (exs n) i := by
  intro i hi
  rw [exs_len] at hi
  have h := name_sz ⟨i, by omega⟩
  unfold ExOk
  rw [exs_rd hi]
  exact ⟨h.1, h.2, by show (1 : Int) ≤ 2; decide, by show (2 : Int) ≤ 4; decide, idx_exs hi hn⟩
theorem mb_all {n i : Nat} (h : 0 < n) (hn : n ≤ 17) (hi : i < 65) : MB 100 (exs n) (bd i) = some true := by
  have hs := bd_sz ⟨i, hi⟩
  rw [mb_of 99 (exs n) (bd i) 0 (idx_x0 h) (by rw [exs_len]; exact h) (by rw [exs_len]; omega) hs.1 hs.2.1 hs.2.2]
  rw [show ((0 : Nat) : Int) = ((0 : Nat) : Int) from rfl, exs_rd h]
  rfl
theorem may_all {n m : Nat} (hn : n ≤ 16) (hm : m ≤ 64) (h : m = 0 ∨ 0 < n) : MayR 100 (exs n) (bds m) true := by
  refine .inl ⟨rfl, by rw [exs_len]; exact hn, by rw [bds_len]; exact hm, exok_all (by omega), fun i hi => ?_⟩
  rw [bds_len] at hi
  unfold BOk
  rw [bds_rd hi]
  exact ⟨mb_all (by omega) (by omega) (by omega), idx_bds hi (by omega)⟩
/-- No such binding is there. -/
theorem at_loop (b : S28) (l : List S28) (h : ∀ x ∈ l, alikeB b x = false) (hl : l.length ≤ 1000) : ∀ (n : Nat) (i : Int) (k : Nat), i + n = l.length → 0 ≤ i → n < k → PGb.api_Binding_40.l1 k l (l.length : Int) i b.f0 b.f1 b.f2 b.f3 = some (-1) := by
  intro n
  induction n with
  | zero =>
    intro i k hi h0 hk
    obtain ⟨m, rfl⟩ : ∃ m, k = m + 1 := ⟨k - 1, by omega⟩
    simp only [PGb.api_Binding_40.l1]
    rw [if_neg (by omega)]
  | succ n ih =>
    intro i k hi h0 hk
    obtain ⟨m, rfl⟩ : ∃ m, k = m + 1 := ⟨k - 1, by omega⟩
    simp only [PGb.api_Binding_40.l1]
    rw [if_pos (by omega), if_pos h0, if_pos (by omega)]
    have hx := h (rd_T28 l i) (by
      have := rdT_Bd_at l i.toNat (by omega)
      rw [show ((i.toNat : Nat) : Int) = i by omega] at this
      exact List.mem_of_getElem? this)
    unfold alikeB at hx
    have hz : (b.f0.toList == ((rd_T28 l i).f0).toList && (b.f1.toList == ((rd_T28 l i).f1).toList && (b.f2.toList == ((rd_T28 l i).f2).toList && (b.f3 == (rd_T28 l i).f3)))) = false := by
      rw [← Bool.not_eq_true] at hx ⊢
      intro hh
      refine hx ?_
      simp only [Bool.and_eq_true] at hh ⊢
      exact ⟨hh.1, hh.2.1, hh.2.2.1⟩
    rw [hz, if_neg (by decide), w64 (i + 1) (by omega) (by omega)]
    exact ih (i + 1) m (by omega) (by omega) (by omega)
theorem at_none (k : Nat) (b : S28) (l : List S28) (h : ∀ x ∈ l, alikeB b x = false) (hl : l.length < k) (hk : l.length ≤ 1000) : PGb.api_Binding_25.f k l b.f0 b.f1 b.f2 b.f3 = some false := by
  unfold PGb.api_Binding_25.f PGb.api_Binding_40.f
  rw [at_loop b l h hk l.length 0 k (by omega) (by omega) hl]
  rfl
theorem dec_yes {i : Nat} (h : i < 16) : DecR 100 (exs i) (exP i) (exs (i + 1)) 0 :=
  .inr ⟨idx_exs_no (Nat.le_refl _) (by omega), .inl ⟨by rw [← exs_succ]; exact may_all (m := 0) (by omega) (by omega) (.inl rfl), exs_succ i, rfl⟩⟩
theorem dec_no : DecR 100 (exs 16) (exP 16) (exs 16) 1 :=
  .inr ⟨idx_exs_no (Nat.le_refl _) (by omega), .inr ⟨.inr ⟨rfl, .inl (by rw [← exs_succ, exs_len]; decide)⟩, rfl, rfl⟩⟩
theorem bind_yes {n i : Nat} (h0 : 0 < n) (hn : n ≤ 16) (h : i < 64) : BindR 100 (exs n) (bds i) (bd i) (bds (i + 1)) 0 :=
  .inr ⟨0, idx_x0 h0, .inr ⟨at_none 100 (bd i) (bds i) (by
    intro x hx
    obtain ⟨j, hj, rfl⟩ := bds_mem hx
    rw [bd_eq ⟨i, by omega⟩ ⟨j, by omega⟩]
    exact decide_eq_false (by rw [Fin.mk.injEq]; omega)) (by rw [bds_len]; omega) (by rw [bds_len]; omega), .inr ⟨idx_bds_no (Nat.le_refl _) (by omega), .inl ⟨by rw [← bds_succ]; exact may_all hn (by omega) (.inr h0), bds_succ i, rfl⟩⟩⟩⟩
theorem bind_no {n : Nat} (h0 : 0 < n) : BindR 100 (exs n) (bds 64) (bd 64) (bds 64) 1 :=
  .inr ⟨0, idx_x0 h0, .inr ⟨at_none 100 (bd 64) (bds 64) (by
    intro x hx
    obtain ⟨j, hj, rfl⟩ := bds_mem hx
    rw [bd_eq ⟨64, by omega⟩ ⟨j, by omega⟩]
    exact decide_eq_false (by rw [Fin.mk.injEq]; omega)) (by rw [bds_len]; omega) (by rw [bds_len]; omega), .inr ⟨idx_bds_no (Nat.le_refl _) (by omega), .inr ⟨.inr ⟨rfl, .inr (.inl (by rw [← bds_succ, bds_len]; decide))⟩, rfl, rfl⟩⟩⟩⟩

theorem next_ {g i T : Nat} (h : g + 1 + i = T) : g + (i + 1) = T := by omega
theorem mn_min (ats : Array TypeId) (ty : TypeId) (x y : Int) : Builtin.min_ ats ty #[.int .i64 x, .int .i64 y] = pure (.int .i64 (if y < x then y else x)) := by
  rw [Go.Proofs.YtpmalfabeajepaaDoorW.PrintMore.min_two, Go.Proofs.YtpmalfabeajepaaDoorW.PrintMore.min2_int]
  rfl
attribute [local go_sem] mn_min
theorem D_yes (i j : Nat) (hj : i + 1 = j) (h : i < 16) (A : Option Addr) (c : Nat) (w : World) (hx : Kd.C k25 w A i (exs i)) (hc : i ≤ c) :
    Calls Tryd.prog 13 #[.slice A i c, .agg #[.string (⟨#[120]⟩ ++ (⟨#[48, 49, 50, 51, 52, 53, 54, 55, 56, 57, 97, 98, 99, 100, 101, 102, 103, 104, 105]⟩ : ByteArray).extract i (i + 1)), .int .i64 2]] w fun ee w' => ∃ A' c', ee = .returned (.tuple #[.slice A' j c', .int .i64 0]) ∧ Kd.C k25 w' A' j (exs j) ∧ j ≤ c' ∧ Below w.heap.size w w' := by
  subst hj
  have := Declare_is 100 A c (exs i) (exP i) (exs (i + 1)) 0 w (by rw [exs_len]; exact hx) (by rw [exs_len]; exact hc) (by rw [exs_len]; omega) (dec_yes h)
  rw [exs_len, exs_len] at this
  exact this
theorem D_no (i : Nat) (h : i = 16) (A : Option Addr) (c : Nat) (w : World) (hx : Kd.C k25 w A 16 (exs 16)) (hc : 16 ≤ c) :
    Calls Tryd.prog 13 #[.slice A 16 c, .agg #[.string (⟨#[120]⟩ ++ (⟨#[48, 49, 50, 51, 52, 53, 54, 55, 56, 57, 97, 98, 99, 100, 101, 102, 103, 104, 105]⟩ : ByteArray).extract i (i + 1)), .int .i64 2]] w fun ee w' => ∃ A' c', ee = .returned (.tuple #[.slice A' 16 c', .int .i64 1]) ∧ Kd.C k25 w' A' 16 (exs 16) ∧ 16 ≤ c' ∧ Below w.heap.size w w' := by
  subst h
  have := Declare_is 100 A c (exs 16) (exP 16) (exs 16) 1 w (by rw [exs_len]; exact hx) (by rw [exs_len]; exact hc) (by rw [exs_len]; omega) dec_no
  rw [exs_len] at this
  exact this
theorem bd_at (j a b : Nat) (ha : j / 10 = a) (hb : j % 10 = b) : bd j = ⟨x0P, ⟨#[113]⟩ ++ d10.extract a (a + 1), d10.extract b (b + 1), 0⟩ := by
  subst ha hb
  rfl
theorem B_yes (n j j1 a b : Nat) (hj : j + 1 = j1) (hab : j / 10 = a ∧ j % 10 = b) (h : j < 64) (hn : 14 ≤ n ∧ n ≤ 16) (A B : Option Addr) (c d : Nat) (w : World) (hx : Kd.C k25 w A n (exs n)) (hc : n ≤ c) (hy : Kd.C k28 w B j (bds j)) (hd : j ≤ d) :
    Calls Tryd.prog 12 #[.slice A n c, .slice B j d, .agg #[.string ⟨#[120, 48]⟩, .string (⟨#[113]⟩ ++ (⟨#[48, 49, 50, 51, 52, 53, 54, 55, 56, 57]⟩ : ByteArray).extract a (a + 1)), .string ((⟨#[48, 49, 50, 51, 52, 53, 54, 55, 56, 57]⟩ : ByteArray).extract b (b + 1)), .int .i64 0]] w fun ee w' => ∃ A' c', ee = .returned (.tuple #[.slice A' j1 c', .int .i64 0]) ∧ Kd.C k28 w' A' j1 (bds j1) ∧ j1 ≤ c' ∧ Below w.heap.size w w' := by
  subst hj
  have := Bind_is 100 A c (exs n) B d (bds j) (bd j) (bds (j + 1)) 0 w (by rw [exs_len]; exact hx) (by rw [exs_len]; exact hc) (by rw [exs_len]; omega) (by rw [bds_len]; exact hy) (by rw [bds_len]; exact hd) (by rw [bds_len]; omega) (bind_yes (by omega) hn.2 h)
  rw [exs_len, bds_len, bds_len, bd_at j a b hab.1 hab.2] at this
  exact this
theorem B_no (n j a b : Nat) (hab : j / 10 = a ∧ j % 10 = b) (h : j = 64) (hn : 14 ≤ n ∧ n ≤ 16) (A B : Option Addr) (c d : Nat) (w : World) (hx : Kd.C k25 w A n (exs n)) (hc : n ≤ c) (hy : Kd.C k28 w B 64 (bds 64)) (hd : 64 ≤ d) :
    Calls Tryd.prog 12 #[.slice A n c, .slice B 64 d, .agg #[.string ⟨#[120, 48]⟩, .string (⟨#[113]⟩ ++ (⟨#[48, 49, 50, 51, 52, 53, 54, 55, 56, 57]⟩ : ByteArray).extract a (a + 1)), .string ((⟨#[48, 49, 50, 51, 52, 53, 54, 55, 56, 57]⟩ : ByteArray).extract b (b + 1)), .int .i64 0]] w fun ee w' => ∃ A' c', ee = .returned (.tuple #[.slice A' 64 c', .int .i64 1]) ∧ Kd.C k28 w' A' 64 (bds 64) ∧ 64 ≤ c' ∧ Below w.heap.size w w' := by
  subst h
  have := Bind_is 100 A c (exs n) B d (bds 64) (bd 64) (bds 64) 1 w (by rw [exs_len]; exact hx) (by rw [exs_len]; exact hc) (by rw [exs_len]; omega) (by rw [bds_len]; exact hy) (by rw [bds_len]; exact hd) (by rw [bds_len]; omega) (bind_no (by omega))
  rw [exs_len, bds_len, bd_at 64 a b hab.1 hab.2] at this
  exact this
theorem M_yes (n q : Nat) (hn : 14 ≤ n ∧ n ≤ 16) (hq : q ≤ 64) (A B : Option Addr) (c d : Nat) (w : World) (hx : Kd.C k25 w A n (exs n)) (hc : n ≤ c) (hy : Kd.C k28 w B q (bds q)) :
    Calls Tryd.prog 8 #[.slice A n c, .slice B q d] w fun ee w' => ee = .returned (.bool true) ∧ Below w.heap.size w w' := by
  have := May_is 100 A c (exs n) B d (bds q) true w (by rw [exs_len]; exact hx) (by rw [exs_len]; exact hc) (by rw [bds_len]; exact hy) (may_all hn.2 hq (.inr (by omega)))
  rw [exs_len, bds_len] at this
  exact this
set_option maxHeartbeats 16000000 in
set_option maxRecDepth 100000 in
theorem Bounds_is (n : Int) (w : World) : Calls Tryd.prog 6 #[.int .i64 n] w fun e w' => e = .returned (.bool true) ∧ Below w.heap.size w w' := by
  obtain ⟨k, hk4, hk⟩ := small_mod n 4 (by decide) (by decide)
  have hk : wrap64 ((IntKind.u64.wrap n).tmod 4) = k := hk
  have HK := Aside0.mk hk4
  obtain ⟨T1, hT1⟩ : ∃ T : Nat, T = 14 + k := ⟨_, rfl⟩
  obtain ⟨T2, hT2⟩ : ∃ T : Nat, T = 62 + k := ⟨_, rfl⟩
  have ht1 : wrap64 (14 + (k : Int)) = (T1 : Int) := (w64 _ (by clear hk; omega) (by clear hk; omega)).trans (by clear hk; omega)
  have ht2 : wrap64 (62 + (k : Int)) = (T2 : Int) := (w64 _ (by clear hk ht1; omega) (by clear hk ht1; omega)).trans (by clear hk ht1; omega)
  have HT1 := Aside0.mk (show 14 ≤ T1 ∧ T1 ≤ 17 by clear hk ht1 ht2; omega)
  have HT2 := Aside0.mk (show 62 ≤ T2 ∧ T2 ≤ 65 by clear hk ht1 ht2; omega)
  clear hk4 hT1 hT2
  go_enter Tryd.func6, Tryd.ntmps6
  go_wp2
  simp only [hk]
  go_loopg [4, 5, 6, 7] T1 (fun g v4 v5 v6 v7 wr => ∃ (i : Nat) (A : Option Addr) (m c : Nat), v4 = .slice A m c ∧ v5 = .int .i64 i ∧ g + i = T1 ∧ Aside0 (m = min i 16) ∧ Aside0 (Kd.C k25 wr A m (exs m)) ∧ Aside0 (m ≤ c) ∧ Aside0 (Below w.heap.size w wr))
  case atStart => exact ⟨0, none, 0, 0, rfl, rfl, Nat.add_zero T1, ⟨rfl⟩, ⟨Kd.C_nil _ _⟩, ⟨Nat.le_refl _⟩, ⟨Below.refl _ _⟩⟩
  case round =>
    obtain ⟨i, A, m, c, rfl, rfl, hgi, HMI, HC, HCC, HB⟩ := hrel
    cases gk with
    | succ g1 =>
      have hi : (i : Int) < (T1 : Int) := by clear hk ht1 ht2; omega
      have hi0 : 0 ≤ (i : Int) := by clear hk ht1 ht2; omega
      have hw : wrap64 ((i : Int) + 1) = (i : Int) + 1 := w64 _ (by clear hk ht1 ht2; omega) (by have := HT1.out; clear hk ht1 ht2; omega)
      have h2 : (i : Int) ≤ (i : Int) + 1 := by clear hk ht1 ht2 hw; omega
      have h3 : (i : Int) + 1 ≤ 19 := by have := HT1.out; clear hk ht1 ht2 hw; omega
      have HI := Aside0.mk hgi
      by_cases h16 : i < 16
      · obtain rfl : m = i := by have := HMI.out; clear hk ht1 ht2 hw; omega
        have h4 : (m : Int) < 16 := by clear hk ht1 ht2 hw; omega
        have H16 := Aside0.mk h16
        obtain ⟨j, hj⟩ : ∃ j, m + 1 = j := ⟨_, rfl⟩
        have HJ := Aside0.mk hj
        clear hgi h16 hj
        go_wp2_with (go_at_call 13; with_reducible refine (D_yes m j HJ.out H16.out A c _ HC.out HCC.out).mono ?_; rintro e w1 ⟨A1, c1, rfl, hc_, hl_, hb_⟩; have HC1 := Aside0.mk hc_; have HL1 := Aside0.mk hl_; have HB1 := Aside0.mk (thn HB.out hb_); clear hc_ hl_ hb_)
        go_roundg g1
        case measure => exact Nat.lt_succ_self _
        case rel => exact ⟨m + 1, A1, j, c1, rfl, by (try rw [hw]); rw [Int.natCast_add]; rfl, next_ HI.out, ⟨by have := HJ.out; have := H16.out; clear hk ht1 ht2 hw; omega⟩, HC1, HL1, HB1⟩
      · have hi16 : i = 16 := by have := HT1.out; clear hk ht1 ht2 hw; omega
        obtain rfl : m = 16 := by have := HMI.out; clear hk ht1 ht2 hw; omega
        have h4 : ¬ (i : Int) < 16 := by clear hk ht1 ht2 hw; omega
        have H16 := Aside0.mk hi16
        clear hgi h16 hi16
        go_wp2_with (go_at_call 13; with_reducible refine (D_no i H16.out A c _ HC.out HCC.out).mono ?_; rintro e w1 ⟨A1, c1, rfl, hc_, hl_, hb_⟩; have HC1 := Aside0.mk hc_; have HL1 := Aside0.mk hl_; have HB1 := Aside0.mk (thn HB.out hb_); clear hc_ hl_ hb_)
        go_roundg g1
        case measure => exact Nat.lt_succ_self _
        case rel => exact ⟨i + 1, A1, 16, c1, rfl, by (try rw [hw]); rw [Int.natCast_add]; rfl, next_ HI.out, ⟨by have := H16.out; clear hk ht1 ht2 hw; omega⟩, HC1, HL1, HB1⟩
    | zero =>
      obtain rfl : i = T1 := by clear hk ht1 ht2; omega
      have h1 : ¬ ((i : Int) < (i : Int)) := Int.lt_irrefl _
      have HM16 := Aside0.mk (show 14 ≤ m ∧ m ≤ 16 by have := HMI.out; have := HT1.out; clear hk ht1 ht2; omega)
      clear hgi
      go_wp2
      go_loopg [8, 9, 10, 11] T2 (fun g v8 v9 v10 v11 wr => ∃ (j : Nat) (B : Option Addr) (q d : Nat), v8 = .slice B q d ∧ v9 = .int .i64 j ∧ g + j = T2 ∧ Aside0 (q = min j 64) ∧ Aside0 (Kd.C k28 wr B q (bds q)) ∧ Aside0 (q ≤ d) ∧ Aside0 (Kd.C k25 wr A m (exs m)) ∧ Aside0 (Below w.heap.size w wr))
      case atStart => exact ⟨0, none, 0, 0, rfl, rfl, Nat.add_zero T2, ⟨rfl⟩, ⟨Kd.C_nil _ _⟩, ⟨Nat.le_refl _⟩, HC, HB⟩
      case round =>
        clear HC HB h1
        obtain ⟨j, B, q, d, rfl, rfl, hgj, HQJ, HD, HDD, HC, HB⟩ := hrel
        cases gk with
        | succ g1 =>
          have hi : (j : Int) < (T2 : Int) := by clear hk ht1 ht2; omega
          have hi0 : 0 ≤ (j : Int) := by clear hk ht1 ht2; omega
          have hw : wrap64 ((j : Int) + 1) = (j : Int) + 1 := w64 _ (by clear hk ht1 ht2; omega) (by have := HT2.out; clear hk ht1 ht2; omega)
          have hd1 : ((j : Int).tdiv 10) = ((j / 10 : Nat) : Int) := by rw [Int.tdiv_eq_ediv_of_nonneg hi0]; rfl
          have hd2 : ((j : Int).tmod 10) = ((j % 10 : Nat) : Int) := by rw [Int.tmod_eq_emod_of_nonneg hi0]; rfl
          obtain ⟨a, ha⟩ : ∃ a, j / 10 = a := ⟨_, rfl⟩
          obtain ⟨b, hb⟩ : ∃ b, j % 10 = b := ⟨_, rfl⟩
          rw [ha] at hd1
          rw [hb] at hd2
          have ha9 : a ≤ 6 := by have := HT2.out; clear hk ht1 ht2 hw hd1 hd2; omega
          have hb9 : b ≤ 9 := by clear hk ht1 ht2 hw hd1 hd2; omega
          have hwa : wrap64 (a : Int) = a := w64 _ (by omega) (by clear hk ht1 ht2 hw hd1 hd2; omega)
          have hwb : wrap64 (b : Int) = b := w64 _ (by omega) (by clear hk ht1 ht2 hw hd1 hd2; omega)
          have hwa1 : wrap64 ((a : Int) + 1) = (a : Int) + 1 := w64 _ (by clear hk ht1 ht2 hw hd1 hd2 hwa hwb; omega) (by clear hk ht1 ht2 hw hd1 hd2 hwa hwb; omega)
          have hwb1 : wrap64 ((b : Int) + 1) = (b : Int) + 1 := w64 _ (by clear hk ht1 ht2 hw hd1 hd2 hwa hwb; omega) (by clear hk ht1 ht2 hw hd1 hd2 hwa hwb; omega)
          have hva : IntKind.i64.wrap (a : Int) = a := (i64_w _).trans hwa
          have hvb : IntKind.i64.wrap (b : Int) = b := (i64_w _).trans hwb
          have hva1 : IntKind.i64.wrap ((a : Int) + 1) = (a : Int) + 1 := (i64_w _).trans hwa1
          have hvb1 : IntKind.i64.wrap ((b : Int) + 1) = (b : Int) + 1 := (i64_w _).trans hwb1
          have p1 : (0 : Int) ≤ (a : Int) := Int.natCast_nonneg a
          have p2 : (a : Int) ≤ (a : Int) + 1 := by clear hk ht1 ht2 hw hd1 hd2 hwa hwb hwa1 hwb1 hva hvb hva1 hvb1; (try clear s1); omega
          have p3 : (a : Int) + 1 ≤ 10 := by clear hk ht1 ht2 hw hd1 hd2 hwa hwb hwa1 hwb1 hva hvb hva1 hvb1; (try clear s1); omega
          have p4 : (0 : Int) ≤ (b : Int) := Int.natCast_nonneg b
          have p5 : (b : Int) ≤ (b : Int) + 1 := by clear hk ht1 ht2 hw hd1 hd2 hwa hwb hwa1 hwb1 hva hvb hva1 hvb1; (try clear s1); omega
          have p6 : (b : Int) + 1 ≤ 10 := by clear hk ht1 ht2 hw hd1 hd2 hwa hwb hwa1 hwb1 hva hvb hva1 hvb1; (try clear s1); omega
          have s1 : (9223372036854775807 < 1 + (min (a + 1) 10 - a)) = False := eq_false (by clear hk ht1 ht2 hw hd1 hd2 hwa hwb hwa1 hwb1 hva hvb hva1 hvb1; omega)
          have HAB := Aside0.mk (And.intro ha hb)
          have HI := Aside0.mk hgj
          clear hgj ha hb ha9 hb9
          by_cases h64 : j < 64
          · obtain rfl : q = j := by have := HQJ.out; clear hk ht1 ht2 hw hd1 hd2 hwa hwb hwa1 hwb1 hva hvb hva1 hvb1; (try clear s1); omega
            have h4 : (q : Int) < 64 := by clear hk ht1 ht2 hw hd1 hd2 hwa hwb hwa1 hwb1 hva hvb hva1 hvb1; (try clear s1); omega
            have H64 := Aside0.mk h64
            obtain ⟨j1, hj1⟩ : ∃ j1, q + 1 = j1 := ⟨_, rfl⟩
            have HJ1 := Aside0.mk hj1
            clear h64 hj1
            go_wp2
            refine start_ (n := 22) (S := fun w' => True) (ds := []) #[false, false, false, false, false, false, false, false, false, false, false, false, false, false, false, false, false, false, false, false, false, false] (by kernel_rfl) rfl rfl trivial (fun hHeld => ?_)
            refine pure_ (i := 0) (N := some 54) (v := ?_) (a' := ?_) #[true, false, false, false, false, false, false, false, false, false, false, false, false, false, false, false, false, false, false, false, false, false] rfl rfl (by kernel_rfl) (fun _ _ _ h => h) (Or.inl ⟨by rfl, ?_⟩) ?_ ?_
            rotate_left
            · intro w'
              go_simp
              with_reducible rfl
            rotate_left
            · simp only [Act.put, List.setIfInBounds_toArray, List.set_cons_zero, List.set_cons_succ]
              rfl
            refine pure_ (i := 1) (N := some 55) (v := ?_) (a' := ?_) #[true, true, false, false, false, false, false, false, false, false, false, false, false, false, false, false, false, false, false, false, false, false] rfl rfl (by kernel_rfl) (fun _ _ _ h => h) (Or.inl ⟨by rfl, ?_⟩) ?_ ?_
            rotate_left
            · intro w'
              go_simp
              with_reducible rfl
            rotate_left
            · simp only [Act.put, List.setIfInBounds_toArray, List.set_cons_zero, List.set_cons_succ]
              rfl
            refine pure_ (i := 2) (N := some 56) (v := ?_) (a' := ?_) #[true, true, true, false, false, false, false, false, false, false, false, false, false, false, false, false, false, false, false, false, false, false] rfl rfl (by kernel_rfl) (fun _ _ _ h => h) (Or.inl ⟨by rfl, ?_⟩) ?_ ?_
            rotate_left
            · intro w'
              go_simp
              with_reducible rfl
            rotate_left
            · simp only [Act.put, List.setIfInBounds_toArray, List.set_cons_zero, List.set_cons_succ]
              rfl
            refine pure_ (i := 3) (N := some 57) (v := ?_) (a' := ?_) #[true, true, true, true, false, false, false, false, false, false, false, false, false, false, false, false, false, false, false, false, false, false] rfl rfl (by kernel_rfl) (fun _ _ _ h => h) (Or.inl ⟨by rfl, ?_⟩) ?_ ?_
            rotate_left
            · intro w'
              go_simp
              with_reducible rfl
            rotate_left
            · simp only [Act.put, List.setIfInBounds_toArray, List.set_cons_zero, List.set_cons_succ]
              rfl
            refine pure_ (i := 4) (N := some 58) (v := ?_) (a' := ?_) #[true, true, true, true, true, false, false, false, false, false, false, false, false, false, false, false, false, false, false, false, false, false] rfl rfl (by kernel_rfl) (fun _ _ _ h => h) (Or.inl ⟨by rfl, ?_⟩) ?_ ?_
            rotate_left
            · intro w'
              go_simp
              with_reducible rfl
            rotate_left
            · simp only [Act.put, List.setIfInBounds_toArray, List.set_cons_zero, List.set_cons_succ]
              rfl
            refine pure_ (i := 5) (N := some 59) (v := ?_) (a' := ?_) #[true, true, true, true, true, true, false, false, false, false, false, false, false, false, false, false, false, false, false, false, false, false] rfl rfl (by kernel_rfl) (fun _ _ _ h => h) (Or.inl ⟨by rfl, ?_⟩) ?_ ?_
            rotate_left
            · intro w'
              go_simp
              with_reducible rfl
            rotate_left
            · simp only [Act.put, List.setIfInBounds_toArray, List.set_cons_zero, List.set_cons_succ]
              rfl
            refine pure_ (i := 6) (N := some 60) (v := ?_) (a' := ?_) #[true, true, true, true, true, true, true, false, false, false, false, false, false, false, false, false, false, false, false, false, false, false] rfl rfl (by kernel_rfl) (fun _ _ _ h => h) (Or.inl ⟨by rfl, ?_⟩) ?_ ?_
            rotate_left
            · intro w'
              go_simp
              with_reducible rfl
            rotate_left
            · simp only [Act.put, List.setIfInBounds_toArray, List.set_cons_zero, List.set_cons_succ]
              rfl
            refine pure_ (i := 7) (N := some 61) (v := ?_) (a' := ?_) #[true, true, true, true, true, true, true, true, false, false, false, false, false, false, false, false, false, false, false, false, false, false] rfl rfl (by kernel_rfl) (fun _ _ _ h => h) (Or.inl ⟨by rfl, ?_⟩) ?_ ?_
            rotate_left
            · intro w'
              go_simp
              with_reducible rfl
            rotate_left
            · simp only [Act.put, List.setIfInBounds_toArray, List.set_cons_zero, List.set_cons_succ]
              rfl
            refine pure_ (i := 8) (N := some 62) (v := ?_) (a' := ?_) #[true, true, true, true, true, true, true, true, true, false, false, false, false, false, false, false, false, false, false, false, false, false] rfl rfl (by kernel_rfl) (fun _ _ _ h => h) (Or.inl ⟨by rfl, ?_⟩) ?_ ?_
            rotate_left
            · intro w'
              go_simp
              with_reducible rfl
            rotate_left
            · simp only [Act.put, List.setIfInBounds_toArray, List.set_cons_zero, List.set_cons_succ]
              rfl
            refine pure_ (i := 9) (N := some 63) (v := ?_) (a' := ?_) #[true, true, true, true, true, true, true, true, true, true, false, false, false, false, false, false, false, false, false, false, false, false] rfl rfl (by kernel_rfl) (fun _ _ _ h => h) (Or.inl ⟨by rfl, ?_⟩) ?_ ?_
            rotate_left
            · intro w'
              go_simp
              with_reducible rfl
            rotate_left
            · simp only [Act.put, List.setIfInBounds_toArray, List.set_cons_zero, List.set_cons_succ]
              rfl
            refine pure_ (i := 10) (N := some 64) (v := ?_) (a' := ?_) #[true, true, true, true, true, true, true, true, true, true, true, false, false, false, false, false, false, false, false, false, false, false] rfl rfl (by kernel_rfl) (fun _ _ _ h => h) (Or.inl ⟨by rfl, ?_⟩) ?_ ?_
            rotate_left
            · intro w'
              go_simp
              with_reducible rfl
            rotate_left
            · simp only [Act.put, List.setIfInBounds_toArray, List.set_cons_zero, List.set_cons_succ]
              rfl
            refine pure_ (i := 11) (N := some 65) (v := ?_) (a' := ?_) #[true, true, true, true, true, true, true, true, true, true, true, true, false, false, false, false, false, false, false, false, false, false] rfl rfl (by kernel_rfl) (fun _ _ _ h => h) (Or.inl ⟨by rfl, ?_⟩) ?_ ?_
            rotate_left
            · intro w'
              go_simp
              with_reducible rfl
            rotate_left
            · simp only [Act.put, List.setIfInBounds_toArray, List.set_cons_zero, List.set_cons_succ]
              rfl
            refine pure_ (i := 12) (N := some 66) (v := ?_) (a' := ?_) #[true, true, true, true, true, true, true, true, true, true, true, true, true, false, false, false, false, false, false, false, false, false] rfl rfl (by kernel_rfl) (fun _ _ _ h => h) (Or.inl ⟨by rfl, ?_⟩) ?_ ?_
            rotate_left
            · intro w'
              go_simp
              with_reducible rfl
            rotate_left
            · simp only [Act.put, List.setIfInBounds_toArray, List.set_cons_zero, List.set_cons_succ]
              rfl
            refine pure_ (i := 13) (N := some 67) (v := ?_) (a' := ?_) #[true, true, true, true, true, true, true, true, true, true, true, true, true, true, false, false, false, false, false, false, false, false] rfl rfl (by kernel_rfl) (fun _ _ _ h => h) (Or.inl ⟨by rfl, ?_⟩) ?_ ?_
            rotate_left
            · intro w'
              go_simp
              with_reducible rfl
            rotate_left
            · simp only [Act.put, List.setIfInBounds_toArray, List.set_cons_zero, List.set_cons_succ]
              rfl
            refine pure_ (i := 14) (N := some 68) (v := ?_) (a' := ?_) #[true, true, true, true, true, true, true, true, true, true, true, true, true, true, true, false, false, false, false, false, false, false] rfl rfl (by kernel_rfl) (fun _ _ _ h => h) (Or.inl ⟨by rfl, ?_⟩) ?_ ?_
            rotate_left
            · intro w'
              go_simp
              with_reducible rfl
            rotate_left
            · simp only [Act.put, List.setIfInBounds_toArray, List.set_cons_zero, List.set_cons_succ]
              rfl
            refine pure_ (i := 15) (N := some 69) (v := ?_) (a' := ?_) #[true, true, true, true, true, true, true, true, true, true, true, true, true, true, true, true, false, false, false, false, false, false] rfl rfl (by kernel_rfl) (fun _ _ _ h => h) (Or.inl ⟨by rfl, ?_⟩) ?_ ?_
            rotate_left
            · intro w'
              go_simp
              with_reducible rfl
            rotate_left
            · simp only [Act.put, List.setIfInBounds_toArray, List.set_cons_zero, List.set_cons_succ]
              rfl
            refine one_ (i := 16) (N := some 70) #[true, true, true, true, true, true, true, true, true, true, true, true, true, true, true, true, true, false, false, false, false, false] rfl rfl (by kernel_rfl) (by decide) (fun K hK => ?_)
            refine goes_ Tryd.func12 (by kernel_rfl) rfl #[.slice A m c, .slice B q d, .agg #[.string ⟨#[120, 48]⟩, .string (⟨#[113]⟩ ++ (⟨#[48, 49, 50, 51, 52, 53, 54, 55, 56, 57]⟩ : ByteArray).extract a (a + 1)), .string ((⟨#[48, 49, 50, 51, 52, 53, 54, 55, 56, 57]⟩ : ByteArray).extract b (b + 1)), .int .i64 0]] (by rfl) rfl rfl (by (try simp only [List.map_toArray, List.map_cons, List.map_nil]); first | done | rfl) ?_
            refine (B_yes m q j1 a b HJ1.out HAB.out H64.out HM16.out A B c d _ (Kd.C_drew HC.out) HCC.out (Kd.C_drew HD.out) HDD.out).mono ?_
            rintro e w1 ⟨A1, c1, rfl, hc_, hl_, hb_⟩
            refine ⟨_, rfl, ?_⟩
            have HD1 := Aside0.mk hc_
            have HC1 := Aside0.mk (Kd.C_below (Kd.C_drew HC.out) hb_)
            have HL1 := Aside0.mk hl_
            have HB1 := Aside0.mk (thn (below_drew1 HB.out) hb_)
            clear hc_ hl_ hb_
            refine hK.out _ _ trivial (fun hHeld => ?_)
            clear hK K
            refine norm_ (a' := ?_) ?_ ?_
            rotate_left
            · show Act.put _ (some 70) _ = _
              simp only [Act.put, List.setIfInBounds_toArray, List.set_cons_zero, List.set_cons_succ]
              rfl
            refine pure_ (i := 17) (N := some 53) (v := ?_) (a' := ?_) #[true, true, true, true, true, true, true, true, true, true, true, true, true, true, true, true, true, true, false, false, false, false] rfl rfl (by kernel_rfl) (fun _ _ _ h => h) (Or.inl ⟨by rfl, ?_⟩) ?_ ?_
            rotate_left
            · intro w'
              go_simp
              with_reducible rfl
            rotate_left
            · simp only [Act.put, List.setIfInBounds_toArray, List.set_cons_zero, List.set_cons_succ]
              rfl
            refine pure_ (i := 18) (N := some 71) (v := ?_) (a' := ?_) #[true, true, true, true, true, true, true, true, true, true, true, true, true, true, true, true, true, true, true, false, false, false] rfl rfl (by kernel_rfl) (fun _ _ _ h => h) (Or.inl ⟨by rfl, ?_⟩) ?_ ?_
            rotate_left
            · intro w'
              go_simp
              with_reducible rfl
            rotate_left
            · simp only [Act.put, List.setIfInBounds_toArray, List.set_cons_zero, List.set_cons_succ]
              rfl
            refine pure_ (i := 19) (N := some 72) (v := ?_) (a' := ?_) #[true, true, true, true, true, true, true, true, true, true, true, true, true, true, true, true, true, true, true, true, false, false] rfl rfl (by kernel_rfl) (fun _ _ _ h => h) (Or.inl ⟨by rfl, ?_⟩) ?_ ?_
            rotate_left
            · intro w'
              go_simp
              with_reducible rfl
            rotate_left
            · simp only [Act.put, List.setIfInBounds_toArray, List.set_cons_zero, List.set_cons_succ]
              rfl
            refine pure_ (i := 20) (N := some 10) (v := ?_) (a' := ?_) #[true, true, true, true, true, true, true, true, true, true, true, true, true, true, true, true, true, true, true, true, true, false] rfl rfl (by kernel_rfl) (fun _ _ _ h => h) (Or.inl ⟨by rfl, ?_⟩) ?_ ?_
            rotate_left
            · intro w'
              go_simp
              with_reducible rfl
            rotate_left
            · simp only [Act.put, List.setIfInBounds_toArray, List.set_cons_zero, List.set_cons_succ]
              rfl
            refine pure_ (i := 21) (N := some 11) (v := ?_) (a' := ?_) #[true, true, true, true, true, true, true, true, true, true, true, true, true, true, true, true, true, true, true, true, true, true] rfl rfl (by kernel_rfl) (fun _ _ _ h => h) (Or.inl ⟨by rfl, ?_⟩) ?_ ?_
            rotate_left
            · intro w'
              go_simp
              with_reducible rfl
            rotate_left
            · simp only [Act.put, List.setIfInBounds_toArray, List.set_cons_zero, List.set_cons_succ]
              rfl
            refine done_ (by kernel_rfl) ?_
            go_wp2
            go_roundg g1
            case measure => exact Nat.lt_succ_self _
            case rel => exact ⟨q + 1, A1, j1, c1, rfl, by (try rw [hw]); rw [Int.natCast_add]; rfl, next_ HI.out, ⟨by have := HJ1.out; have := H64.out; clear hk ht1 ht2 hw hd1 hd2 hwa hwb hwa1 hwb1 hva hvb hva1 hvb1; (try clear s1); omega⟩, HD1, HL1, HC1, HB1⟩
          · have hj64 : j = 64 := by have := HT2.out; clear hk ht1 ht2 hw hd1 hd2 hwa hwb hwa1 hwb1 hva hvb hva1 hvb1; (try clear s1); omega
            obtain rfl : q = 64 := by have := HQJ.out; clear hk ht1 ht2 hw hd1 hd2 hwa hwb hwa1 hwb1 hva hvb hva1 hvb1; (try clear s1); omega
            have h4 : ¬ (j : Int) < 64 := by clear hk ht1 ht2 hw hd1 hd2 hwa hwb hwa1 hwb1 hva hvb hva1 hvb1; (try clear s1); omega
            have H64 := Aside0.mk hj64
            clear h64 hj64
            go_wp2
            refine start_ (n := 22) (S := fun w' => True) (ds := []) #[false, false, false, false, false, false, false, false, false, false, false, false, false, false, false, false, false, false, false, false, false, false] (by kernel_rfl) rfl rfl trivial (fun hHeld => ?_)
            refine pure_ (i := 0) (N := some 54) (v := ?_) (a' := ?_) #[true, false, false, false, false, false, false, false, false, false, false, false, false, false, false, false, false, false, false, false, false, false] rfl rfl (by kernel_rfl) (fun _ _ _ h => h) (Or.inl ⟨by rfl, ?_⟩) ?_ ?_
            rotate_left
            · intro w'
              go_simp
              with_reducible rfl
            rotate_left
            · simp only [Act.put, List.setIfInBounds_toArray, List.set_cons_zero, List.set_cons_succ]
              rfl
            refine pure_ (i := 1) (N := some 55) (v := ?_) (a' := ?_) #[true, true, false, false, false, false, false, false, false, false, false, false, false, false, false, false, false, false, false, false, false, false] rfl rfl (by kernel_rfl) (fun _ _ _ h => h) (Or.inl ⟨by rfl, ?_⟩) ?_ ?_
            rotate_left
            · intro w'
              go_simp
              with_reducible rfl
            rotate_left
            · simp only [Act.put, List.setIfInBounds_toArray, List.set_cons_zero, List.set_cons_succ]
              rfl
            refine pure_ (i := 2) (N := some 56) (v := ?_) (a' := ?_) #[true, true, true, false, false, false, false, false, false, false, false, false, false, false, false, false, false, false, false, false, false, false] rfl rfl (by kernel_rfl) (fun _ _ _ h => h) (Or.inl ⟨by rfl, ?_⟩) ?_ ?_
            rotate_left
            · intro w'
              go_simp
              with_reducible rfl
            rotate_left
            · simp only [Act.put, List.setIfInBounds_toArray, List.set_cons_zero, List.set_cons_succ]
              rfl
            refine pure_ (i := 3) (N := some 57) (v := ?_) (a' := ?_) #[true, true, true, true, false, false, false, false, false, false, false, false, false, false, false, false, false, false, false, false, false, false] rfl rfl (by kernel_rfl) (fun _ _ _ h => h) (Or.inl ⟨by rfl, ?_⟩) ?_ ?_
            rotate_left
            · intro w'
              go_simp
              with_reducible rfl
            rotate_left
            · simp only [Act.put, List.setIfInBounds_toArray, List.set_cons_zero, List.set_cons_succ]
              rfl
            refine pure_ (i := 4) (N := some 58) (v := ?_) (a' := ?_) #[true, true, true, true, true, false, false, false, false, false, false, false, false, false, false, false, false, false, false, false, false, false] rfl rfl (by kernel_rfl) (fun _ _ _ h => h) (Or.inl ⟨by rfl, ?_⟩) ?_ ?_
            rotate_left
            · intro w'
              go_simp
              with_reducible rfl
            rotate_left
            · simp only [Act.put, List.setIfInBounds_toArray, List.set_cons_zero, List.set_cons_succ]
              rfl
            refine pure_ (i := 5) (N := some 59) (v := ?_) (a' := ?_) #[true, true, true, true, true, true, false, false, false, false, false, false, false, false, false, false, false, false, false, false, false, false] rfl rfl (by kernel_rfl) (fun _ _ _ h => h) (Or.inl ⟨by rfl, ?_⟩) ?_ ?_
            rotate_left
            · intro w'
              go_simp
              with_reducible rfl
            rotate_left
            · simp only [Act.put, List.setIfInBounds_toArray, List.set_cons_zero, List.set_cons_succ]
              rfl
            refine pure_ (i := 6) (N := some 60) (v := ?_) (a' := ?_) #[true, true, true, true, true, true, true, false, false, false, false, false, false, false, false, false, false, false, false, false, false, false] rfl rfl (by kernel_rfl) (fun _ _ _ h => h) (Or.inl ⟨by rfl, ?_⟩) ?_ ?_
            rotate_left
            · intro w'
              go_simp
              with_reducible rfl
            rotate_left
            · simp only [Act.put, List.setIfInBounds_toArray, List.set_cons_zero, List.set_cons_succ]
              rfl
            refine pure_ (i := 7) (N := some 61) (v := ?_) (a' := ?_) #[true, true, true, true, true, true, true, true, false, false, false, false, false, false, false, false, false, false, false, false, false, false] rfl rfl (by kernel_rfl) (fun _ _ _ h => h) (Or.inl ⟨by rfl, ?_⟩) ?_ ?_
            rotate_left
            · intro w'
              go_simp
              with_reducible rfl
            rotate_left
            · simp only [Act.put, List.setIfInBounds_toArray, List.set_cons_zero, List.set_cons_succ]
              rfl
            refine pure_ (i := 8) (N := some 62) (v := ?_) (a' := ?_) #[true, true, true, true, true, true, true, true, true, false, false, false, false, false, false, false, false, false, false, false, false, false] rfl rfl (by kernel_rfl) (fun _ _ _ h => h) (Or.inl ⟨by rfl, ?_⟩) ?_ ?_
            rotate_left
            · intro w'
              go_simp
              with_reducible rfl
            rotate_left
            · simp only [Act.put, List.setIfInBounds_toArray, List.set_cons_zero, List.set_cons_succ]
              rfl
            refine pure_ (i := 9) (N := some 63) (v := ?_) (a' := ?_) #[true, true, true, true, true, true, true, true, true, true, false, false, false, false, false, false, false, false, false, false, false, false] rfl rfl (by kernel_rfl) (fun _ _ _ h => h) (Or.inl ⟨by rfl, ?_⟩) ?_ ?_
            rotate_left
            · intro w'
              go_simp
              with_reducible rfl
            rotate_left
            · simp only [Act.put, List.setIfInBounds_toArray, List.set_cons_zero, List.set_cons_succ]
              rfl
            refine pure_ (i := 10) (N := some 64) (v := ?_) (a' := ?_) #[true, true, true, true, true, true, true, true, true, true, true, false, false, false, false, false, false, false, false, false, false, false] rfl rfl (by kernel_rfl) (fun _ _ _ h => h) (Or.inl ⟨by rfl, ?_⟩) ?_ ?_
            rotate_left
            · intro w'
              go_simp
              with_reducible rfl
            rotate_left
            · simp only [Act.put, List.setIfInBounds_toArray, List.set_cons_zero, List.set_cons_succ]
              rfl
            refine pure_ (i := 11) (N := some 65) (v := ?_) (a' := ?_) #[true, true, true, true, true, true, true, true, true, true, true, true, false, false, false, false, false, false, false, false, false, false] rfl rfl (by kernel_rfl) (fun _ _ _ h => h) (Or.inl ⟨by rfl, ?_⟩) ?_ ?_
            rotate_left
            · intro w'
              go_simp
              with_reducible rfl
            rotate_left
            · simp only [Act.put, List.setIfInBounds_toArray, List.set_cons_zero, List.set_cons_succ]
              rfl
            refine pure_ (i := 12) (N := some 66) (v := ?_) (a' := ?_) #[true, true, true, true, true, true, true, true, true, true, true, true, true, false, false, false, false, false, false, false, false, false] rfl rfl (by kernel_rfl) (fun _ _ _ h => h) (Or.inl ⟨by rfl, ?_⟩) ?_ ?_
            rotate_left
            · intro w'
              go_simp
              with_reducible rfl
            rotate_left
            · simp only [Act.put, List.setIfInBounds_toArray, List.set_cons_zero, List.set_cons_succ]
              rfl
            refine pure_ (i := 13) (N := some 67) (v := ?_) (a' := ?_) #[true, true, true, true, true, true, true, true, true, true, true, true, true, true, false, false, false, false, false, false, false, false] rfl rfl (by kernel_rfl) (fun _ _ _ h => h) (Or.inl ⟨by rfl, ?_⟩) ?_ ?_
            rotate_left
            · intro w'
              go_simp
              with_reducible rfl
            rotate_left
            · simp only [Act.put, List.setIfInBounds_toArray, List.set_cons_zero, List.set_cons_succ]
              rfl
            refine pure_ (i := 14) (N := some 68) (v := ?_) (a' := ?_) #[true, true, true, true, true, true, true, true, true, true, true, true, true, true, true, false, false, false, false, false, false, false] rfl rfl (by kernel_rfl) (fun _ _ _ h => h) (Or.inl ⟨by rfl, ?_⟩) ?_ ?_
            rotate_left
            · intro w'
              go_simp
              with_reducible rfl
            rotate_left
            · simp only [Act.put, List.setIfInBounds_toArray, List.set_cons_zero, List.set_cons_succ]
              rfl
            refine pure_ (i := 15) (N := some 69) (v := ?_) (a' := ?_) #[true, true, true, true, true, true, true, true, true, true, true, true, true, true, true, true, false, false, false, false, false, false] rfl rfl (by kernel_rfl) (fun _ _ _ h => h) (Or.inl ⟨by rfl, ?_⟩) ?_ ?_
            rotate_left
            · intro w'
              go_simp
              with_reducible rfl
            rotate_left
            · simp only [Act.put, List.setIfInBounds_toArray, List.set_cons_zero, List.set_cons_succ]
              rfl
            refine one_ (i := 16) (N := some 70) #[true, true, true, true, true, true, true, true, true, true, true, true, true, true, true, true, true, false, false, false, false, false] rfl rfl (by kernel_rfl) (by decide) (fun K hK => ?_)
            refine goes_ Tryd.func12 (by kernel_rfl) rfl #[.slice A m c, .slice B 64 d, .agg #[.string ⟨#[120, 48]⟩, .string (⟨#[113]⟩ ++ (⟨#[48, 49, 50, 51, 52, 53, 54, 55, 56, 57]⟩ : ByteArray).extract a (a + 1)), .string ((⟨#[48, 49, 50, 51, 52, 53, 54, 55, 56, 57]⟩ : ByteArray).extract b (b + 1)), .int .i64 0]] (by rfl) rfl rfl (by (try simp only [List.map_toArray, List.map_cons, List.map_nil]); first | done | rfl) ?_
            refine (B_no m j a b HAB.out H64.out HM16.out A B c d _ (Kd.C_drew HC.out) HCC.out (Kd.C_drew HD.out) HDD.out).mono ?_
            rintro e w1 ⟨A1, c1, rfl, hc_, hl_, hb_⟩
            refine ⟨_, rfl, ?_⟩
            have HD1 := Aside0.mk hc_
            have HC1 := Aside0.mk (Kd.C_below (Kd.C_drew HC.out) hb_)
            have HL1 := Aside0.mk hl_
            have HB1 := Aside0.mk (thn (below_drew1 HB.out) hb_)
            clear hc_ hl_ hb_
            refine hK.out _ _ trivial (fun hHeld => ?_)
            clear hK K
            refine norm_ (a' := ?_) ?_ ?_
            rotate_left
            · show Act.put _ (some 70) _ = _
              simp only [Act.put, List.setIfInBounds_toArray, List.set_cons_zero, List.set_cons_succ]
              rfl
            refine pure_ (i := 17) (N := some 53) (v := ?_) (a' := ?_) #[true, true, true, true, true, true, true, true, true, true, true, true, true, true, true, true, true, true, false, false, false, false] rfl rfl (by kernel_rfl) (fun _ _ _ h => h) (Or.inl ⟨by rfl, ?_⟩) ?_ ?_
            rotate_left
            · intro w'
              go_simp
              with_reducible rfl
            rotate_left
            · simp only [Act.put, List.setIfInBounds_toArray, List.set_cons_zero, List.set_cons_succ]
              rfl
            refine pure_ (i := 18) (N := some 71) (v := ?_) (a' := ?_) #[true, true, true, true, true, true, true, true, true, true, true, true, true, true, true, true, true, true, true, false, false, false] rfl rfl (by kernel_rfl) (fun _ _ _ h => h) (Or.inl ⟨by rfl, ?_⟩) ?_ ?_
            rotate_left
            · intro w'
              go_simp
              with_reducible rfl
            rotate_left
            · simp only [Act.put, List.setIfInBounds_toArray, List.set_cons_zero, List.set_cons_succ]
              rfl
            refine pure_ (i := 19) (N := some 72) (v := ?_) (a' := ?_) #[true, true, true, true, true, true, true, true, true, true, true, true, true, true, true, true, true, true, true, true, false, false] rfl rfl (by kernel_rfl) (fun _ _ _ h => h) (Or.inl ⟨by rfl, ?_⟩) ?_ ?_
            rotate_left
            · intro w'
              go_simp
              with_reducible rfl
            rotate_left
            · simp only [Act.put, List.setIfInBounds_toArray, List.set_cons_zero, List.set_cons_succ]
              rfl
            refine pure_ (i := 20) (N := some 10) (v := ?_) (a' := ?_) #[true, true, true, true, true, true, true, true, true, true, true, true, true, true, true, true, true, true, true, true, true, false] rfl rfl (by kernel_rfl) (fun _ _ _ h => h) (Or.inl ⟨by rfl, ?_⟩) ?_ ?_
            rotate_left
            · intro w'
              go_simp
              with_reducible rfl
            rotate_left
            · simp only [Act.put, List.setIfInBounds_toArray, List.set_cons_zero, List.set_cons_succ]
              rfl
            refine pure_ (i := 21) (N := some 11) (v := ?_) (a' := ?_) #[true, true, true, true, true, true, true, true, true, true, true, true, true, true, true, true, true, true, true, true, true, true] rfl rfl (by kernel_rfl) (fun _ _ _ h => h) (Or.inl ⟨by rfl, ?_⟩) ?_ ?_
            rotate_left
            · intro w'
              go_simp
              with_reducible rfl
            rotate_left
            · simp only [Act.put, List.setIfInBounds_toArray, List.set_cons_zero, List.set_cons_succ]
              rfl
            refine done_ (by kernel_rfl) ?_
            go_wp2
            go_roundg g1
            case measure => exact Nat.lt_succ_self _
            case rel => exact ⟨j + 1, A1, 64, c1, rfl, by (try rw [hw]); rw [Int.natCast_add]; rfl, next_ HI.out, ⟨by have := H64.out; clear hk ht1 ht2 hw hd1 hd2 hwa hwb hwa1 hwb1 hva hvb hva1 hvb1; (try clear s1); omega⟩, HD1, HL1, HC1, HB1⟩
        | zero =>
          obtain rfl : j = T2 := by clear hk ht1 ht2; omega
          have h1 : ¬ ((j : Int) < (j : Int)) := Int.lt_irrefl _
          have HQ64 := Aside0.mk (show q ≤ 64 by have := HQJ.out; clear hk ht1 ht2; omega)
          have hm1 : (if (16 : Int) < (i : Int) then (16 : Int) else (i : Int)) = (m : Int) := by have := HMI.out; clear hk ht1 ht2; split <;> omega
          have hm2 : (if (64 : Int) < (j : Int) then (64 : Int) else (j : Int)) = (q : Int) := by have := HQJ.out; clear hk ht1 ht2 hm1; split <;> omega
          clear hgj
          go_wp2_with (first
            | (go_at_call 9; with_reducible refine (Told_is _).mono ?_; rintro e w5 ⟨rfl, hb_⟩; have HB5 := Aside0.mk (thn HB.out hb_); have HC5 := Aside0.mk (Kd.C_below HC.out hb_); have HD5 := Aside0.mk (Kd.C_below HD.out hb_); clear hb_)
            | (go_at_call 8; with_reducible refine (M_yes m q HM16.out HQ64.out A B c d _ HC5.out HCC.out HD5.out).mono ?_; rintro e w6 ⟨rfl, hb_⟩; have HB6 := Aside0.mk (thn HB5.out hb_); clear hb_))
          go_ret
          exact ⟨rfl, HB6.out⟩
end Go.Proofs.YtpmalfabeajepaaDoor.Rt
