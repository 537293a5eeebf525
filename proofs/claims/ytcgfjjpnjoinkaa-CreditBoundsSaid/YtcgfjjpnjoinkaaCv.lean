/-
  slices.DeleteFunc, at the closure in Settle: its contract.
  Conditions: none.
-/
import Derived.Test.YtcgfjjpnjoinkaaCu
namespace Go.Proofs.Ytcgfjjpnjoinkaa.Cr
open Go.RowKit Go.Proofs.YtcgfjjpnjoinkaaW.PrintWords Go.Proofs.YtcgfjjpnjoinkaaW.PrintLast Go.Proofs.YtcgfjjpnjoinkaaG Go.Proofs.Ytcgfjjpnjoinkaa.PCa
set_option linter.unusedVariables false
set_option linter.unusedSimpArgs false

theorem below_cell {w w' : World} {a : Addr} {v : Value} (h : Below w.heap.size w w') (hc : w.cell? a = some v) : w'.cell? a = some v := by
  have hlt : a.block < w.heap.size := by
    rcases Nat.lt_or_ge a.block w.heap.size with h' | h'
    · exact h'
    · simp [World.cell?, Array.getElem?_eq_none h'] at hc
  rw [h.cell hlt, hc]

/-- Those that stay. -/
def stay (s l : List Int) : List Int := l.filter fun x => decide (x ∉ s)
theorem stay_all {s l : List Int} (h : ∀ x ∈ l, x ∉ s) : stay s l = l := List.filter_eq_self.2 (fun x hx => decide_eq_true (h x hx))
/-- The row in the midst of the work: j looked at, i stay. -/
structure Mid (s l dk : List Int) (i j : Nat) : Prop where
  len : dk.length = l.length
  lt : i < j
  le : j ≤ l.length
  done : dk.take i = stay s (l.take j)
  rest : ∀ k, j ≤ k → dk[k]? = l[k]?
theorem Mid.start {s l : List Int} {k : Nat} {y : Int} (h : ∀ x ∈ l.take k, x ∉ s) (hy : l[k]? = some y) (hs : y ∈ s) : Mid s l l k (k + 1) := by
  have hk : k < l.length := (List.getElem?_eq_some_iff.1 hy).1
  refine ⟨rfl, Nat.lt_succ_self k, hk, ?_, fun _ _ => rfl⟩
  rw [snoc_take l k y hy]
  unfold stay
  rw [List.filter_append, List.filter_cons_of_neg (by simp [hs]), List.filter_nil, List.append_nil]
  exact (stay_all h).symm
theorem Mid.skip {s l dk : List Int} {i j : Nat} {y : Int} (h : Mid s l dk i j) (hy : l[j]? = some y) (hs : y ∈ s) : Mid s l dk i (j + 1) := by
  have hk : j < l.length := (List.getElem?_eq_some_iff.1 hy).1
  refine ⟨h.len, Nat.lt_succ_of_lt h.lt, hk, ?_, fun k hk => h.rest k (by omega)⟩
  rw [h.done, snoc_take l j y hy]
  unfold stay
  rw [List.filter_append, List.filter_cons_of_neg (by simp [hs]), List.filter_nil, List.append_nil]
theorem Mid.keep {s l dk : List Int} {i j : Nat} {y : Int} (h : Mid s l dk i j) (hy : l[j]? = some y) (hs : y ∉ s) : Mid s l (dk.set i y) (i + 1) (j + 1) := by
  have hk : j < l.length := (List.getElem?_eq_some_iff.1 hy).1
  have hi := h.lt
  refine ⟨by rw [List.length_set, h.len], by omega, hk, ?_, fun k hk => ?_⟩
  · rw [snoc_take (dk.set i y) i y (by rw [List.getElem?_set_self (by rw [h.len]; omega)]), List.take_set_of_le (Nat.le_refl i), h.done, snoc_take l j y hy]
    unfold stay
    rw [List.filter_append, List.filter_cons_of_pos (by simp [hs]), List.filter_nil]
  · rw [List.getElem?_set_ne (by omega)]
    exact h.rest k (by omega)
/-- Nils behind a row's place k. -/
theorem tg_clear {N g n c : Nat} {w2 : World} (hN : w2.heap.size ≤ g) : ∀ (m k : Nat) (w : World) (xs : List Int), Tg N w (.slice (some ⟨g, 0, none⟩) n c) xs → Below w2.heap.size w2 w →
    (∃ ys, Tg N (w.setCells g k (List.replicate m (.int .u64 0))) (.slice (some ⟨g, 0, none⟩) n c) ys ∧ ys.length = xs.length ∧ ys.take k = xs.take k) ∧ Below w2.heap.size w2 (w.setCells g k (List.replicate m (.int .u64 0)))
  | 0, k, w, xs, h, hb => ⟨⟨xs, h, rfl, rfl⟩, hb⟩
  | m + 1, k, w, xs, h, hb => by
    obtain ⟨h1, -⟩ := Kd.R_putg h (k : Int) 0
    simp only [Int.toNat_natCast] at h1
    obtain ⟨⟨ys, h2, h3, h4⟩, h5⟩ := tg_clear hN m (k + 1) _ _ h1 (below_set (v := .int .u64 0) (j := k) hb hN)
    refine ⟨⟨ys, h2, by rw [h3, List.length_set], ?_⟩, h5⟩
    have e := congrArg (List.take k) h4
    rw [List.take_take, List.take_take, Nat.min_eq_left (Nat.le_succ k), List.take_set_of_le (Nat.le_refl k)] at e
    exact e

set_option maxHeartbeats 4000000 in
theorem Delete_is {w2 w : World} {v : Value} {l : List Int} (hr : Tg w2.heap.size w v l) (hb : Below w2.heap.size w2 w) (hl : l.length ≤ 1000000) (lp : Nat) (B : Option Addr) (d : Nat) (s : List Int)
    (hp : w2.cell? ⟨lp, 0, none⟩ = some (.slice B s.length d)) (hs : Kd.C (Kd.int .u64) w2 B s.length s) (hsl : s.length ≤ 1000000) :
    Calls Try.prog 16 #[v, .func (.func 17) #[] #[.pointer (some ⟨lp, 0, none⟩)]] w fun e w' => ∃ v', e = .returned v' ∧ Tg w2.heap.size w' v' (stay s l) ∧ Below w2.heap.size w2 w' := by
  obtain ⟨A, c, rfl, hcap, hC⟩ := Kd.R_reads hr
  have hI := IndexFunc_is A c l lp B d s w hC hl (below_cell hb hp) (Kd.C_below hs hb) hsl
  have HR := Aside0.mk hr
  have HB := Aside0.mk hb
  have HL := Aside0.mk hl
  have HP := Aside0.mk hp
  have HS := Aside0.mk hs
  have HT := Aside0.mk hsl
  have HC := Aside0.mk hcap
  have HI := Aside0.mk hI
  have e17 := e17
  clear hr hb hl hp hs hsl hI hC hcap
  go_enter Try.func16, Try.ntmps16
  go_upto_region 1 with fail
  go_wp2_with (go_at_call 19; refine HI.out.mono ?_; rintro e w1 ⟨(⟨rfl, hall⟩ | ⟨k, rfl, hk, hpre⟩), rfl⟩)
  · go_wp2
    go_ret
    exact ⟨_, rfl, by rw [stay_all hall]; exact HR.out, HB.out⟩
  · obtain ⟨y, hky, hys⟩ := hk
    have HM := Aside0.mk (Mid.start hpre hky hys)
    clear hpre HI
    have hkl : k < l.length := (List.getElem?_eq_some_iff.1 hky).1
    clear hky hys
    obtain ⟨g, c1, e1, hg, -, -⟩ := Kd.R_form HR.out (by omega)
    cases e1
    have HG := Aside0.mk hg
    clear hg
    have hne : ((k : Int) == -1) = false := beq_eq_false_iff_ne.2 (by omega)
    have hw0 : wrap64 ((k : Int) + 1) = (k : Int) + 1 := w64 _ (by omega) (by have := HL.out; omega)
    have HK := Aside0.mk hkl
    clear hkl
    go_wp2
    go_loopg [5, 6, 7] (l.length - (k + 1)) (fun gg v5 v6 _ wr => ∃ (i j : Nat) (dk : List Int), v5 = .int .i64 i ∧ v6 = .int .i64 j ∧ gg + j = l.length ∧ Aside0 (Mid s l dk i j) ∧ Aside0 (Tg w2.heap.size wr (.slice (some ⟨g, 0, none⟩) l.length c) dk) ∧ Aside0 (Below w2.heap.size w2 wr))
    case atStart => exact ⟨k, k + 1, l, rfl, by rw [hw0, Int.natCast_add]; rfl, by have := HK.out; omega, HM, HR, HB⟩
    case round =>
      clear hne hw0 HM HR HB HK
      obtain ⟨i, j, dk, rfl, rfl, hgj, HM, HR, HB⟩ := hrel
      have hij := HM.out.lt
      have hlen := HM.out.len
      have hjl := HM.out.le
      cases gk with
      | zero =>
        obtain rfl : j = l.length := by omega
        have hlt : ¬ ((l.length : Int) < (l.length : Int)) := by omega
        have hcl : ∀ ty, (Builtin.clear_ #[27] ty #[.slice (some ⟨g, i, none⟩) (l.length - i) (c - i)]).run Try.prog wr = .ok (.tuple #[]) (wr.setCells g i (List.replicate (l.length - i) (.int .u64 0))) := fun ty =>
          Lib.run_clear_slice wr 27 26 ty (.int .u64 0) Try.underlying27 Try.zeroValue26 rfl rfl g i _ _ (by omega)
            (fun t ht => by rw [show i + t = ((i + t : Nat) : Int).toNat from (Int.toNat_natCast _).symm, (Kd.R_celln 0 HR.out ((i + t : Nat) : Int) (by omega) (by omega)).1]; rfl)
            (fun t ht => by rw [show i + t = ((i + t : Nat) : Int).toNat from (Int.toNat_natCast _).symm]; exact (Kd.R_celln 0 HR.out ((i + t : Nat) : Int) (by omega) (by omega)).2)
        obtain ⟨⟨ys, hy1, hy2, hy3⟩, hb3⟩ := tg_clear HG.out (l.length - i) i wr dk HR.out HB.out
        have HY := Aside0.mk hy1
        have HY2 := Aside0.mk hy2
        have HY3 := Aside0.mk hy3
        have HB3 := Aside0.mk hb3
        have HGJ := Aside0.mk hgj
        have p1 : (i : Int) ≤ (l.length : Int) := by omega
        have p2 : 0 ≤ (i : Int) := by omega
        clear hy1 hy2 hy3 hb3 hgj
        have p4 : ¬ c = i := by have := HC.out; omega
        have p5 : i ≤ c := by have := HC.out; omega
        have HD := Aside0.mk (show ys.take i = stay s l by rw [HY3.out, HM.out.done, List.take_of_length_le (Nat.le_refl _)])
        have HT2 := Aside0.mk (Kd.R_take HY.out (m := i) (by have := HY2.out; omega))
        rw [HD.out] at HT2
        clear HY HY2 HY3 HD hij hjl hlen
        go_wp2
        go_ret
        exact ⟨_, rfl, HT2.out, HB3.out⟩
      | succ g1 =>
        have hlt : (j : Int) < (l.length : Int) := by omega
        have hjn : j < l.length := by omega
        obtain ⟨y, hy⟩ : ∃ y, l[j] = y := ⟨_, rfl⟩
        have HY : Aside0 (l[j]? = some y) := ⟨by rw [List.getElem?_eq_getElem hjn, hy]⟩
        have hdj : dk[j]? = some y := by rw [HM.out.rest j (Nat.le_refl j)]; exact HY.out
        have cj := (Kd.R_celln 0 HR.out (j : Int) (by omega) hlt).1
        have ci := (Kd.R_celln 0 HR.out (i : Int) (by omega) (by omega)).1
        have fi := (Kd.R_celln 0 HR.out (i : Int) (by omega) (by omega)).2
        rw [Int.toNat_natCast, show rdOf 0 dk (j : Int) = y from by
          have h1 : j < dk.length := (List.getElem?_eq_some_iff.1 hdj).1
          have h2 := rd_in dk j h1
          rw [List.getElem?_eq_getElem h1] at hdj
          rw [← Option.some.inj hdj, ← h2]
          rfl] at cj
        rw [Int.toNat_natCast] at ci fi
        obtain ⟨u, hu⟩ : ∃ u, rdOf 0 dk (i : Int) = u := ⟨_, rfl⟩
        rw [hu] at ci
        have p1 : (i : Int) < (l.length : Int) := by omega
        have p2 : 0 ≤ (i : Int) := by omega
        have p3 : 0 ≤ (j : Int) := by omega
        have hwi : wrap64 ((i : Int) + 1) = (i : Int) + 1 := w64 _ (by omega) (by have := HL.out; omega)
        have hwj : wrap64 ((j : Int) + 1) = (j : Int) + 1 := w64 _ (by omega) (by have := HL.out; omega)
        have HGJ := Aside0.mk hgj
        clear hdj hu hgj hy
        clear hjn
        have HSE := Aside0.mk (Sel_is lp B d s y _ (below_cell HB.out HP.out) (Kd.C_below HS.out HB.out) HT.out)
        by_cases c1 : y ∈ s
        · have C1 := Aside0.mk c1
          have hd := Aside0.mk (decide_eq_true c1)
          clear c1
          go_wp2_with (go_at_call 17; refine HSE.out.mono ?_; rintro e w1 ⟨rfl, rfl⟩; rw [hd.out])
          go_roundg g1
          case measure => omega
          case rel => exact ⟨i, j + 1, dk, rfl, by rw [hwj, Int.natCast_add]; rfl, by have := HGJ.out; omega, ⟨HM.out.skip HY.out C1.out⟩, HR, HB⟩
        · have C1 := Aside0.mk c1
          have hd := Aside0.mk (decide_eq_false c1)
          clear c1
          go_wp2_with (go_at_call 17; refine HSE.out.mono ?_; rintro e w1 ⟨rfl, rfl⟩; rw [hd.out])
          go_roundg g1
          case measure => omega
          case rel => 
            have h1 := (Kd.R_putg HR.out (i : Int) y).1
            rw [Int.toNat_natCast] at h1
            exact ⟨i + 1, j + 1, dk.set i y, by rw [hwi, Int.natCast_add]; rfl, by rw [hwj, Int.natCast_add]; rfl, by have := HGJ.out; omega, ⟨HM.out.keep HY.out C1.out⟩, ⟨h1⟩, ⟨below_set HB.out HG.out⟩⟩
end Go.Proofs.Ytcgfjjpnjoinkaa.Cr
