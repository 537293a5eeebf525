/-
  The document's reading of records: its walk.
  Conditions: none.
-/
import Derived.Test.YtnnlmbmgaajmhaaRr
namespace Go.Proofs.Ytnnlmbmgaajmhaa.Seg
open Go.RowKit Go.Proofs.YtnnlmbmgaajmhaaW.PrintWords Go.Proofs.YtnnlmbmgaajmhaaW.PrintLast Go.Proofs.YtnnlmbmgaajmhaaW.PrintMore Go.Proofs.YtnnlmbmgaajmhaaG Go.Proofs.Ytnnlmbmgaajmhaa.PGr Go.Proofs.Ytnnlmbmgaajmhaa.Sg
set_option linter.unusedVariables false
set_option linter.unusedSimpArgs false

/-- What is still to come adds up to the whole. -/
def Togo (b : List Int) (i : Nat) (acc : List ByteArray) : Prop := ∃ d, b.length - i ≤ d ∧ acc ++ (readN d (b.drop i)).1.map strOfNums = (readP b).1.map strOfNums ∧ (i : Int) + (readN d (b.drop i)).2 = (readP b).2
theorem Togo.start (b : List Int) : Togo b 0 [] := ⟨b.length, by omega, by simp [readP], by simp [readP]⟩
theorem Togo.stop {b : List Int} {i : Nat} {acc : List ByteArray} (h : Togo b i acc) (hg : good (b.drop i) = false) : acc = (readP b).1.map strOfNums ∧ (i : Int) = (readP b).2 := by
  obtain ⟨d, -, h1, h2⟩ := h
  rw [read_bad d _ hg] at h1 h2
  exact ⟨by simpa using h1, by simpa using h2⟩
theorem Togo.step {b : List Int} {i n : Nat} {acc : List ByteArray} (h : Togo b i acc) (hi : i < b.length) (hg : good (b.drop i) = true) (hn : num (b.drop i) = (n : Int)) (x : ByteArray) (hx : bytesOf x = ((b.drop i).drop 6).take n) : Togo b (i + 6 + n) (acc ++ [x]) := by
  obtain ⟨d, hd, h1, h2⟩ := h
  obtain ⟨m, rfl⟩ : ∃ m, d = m + 1 := ⟨d - 1, by omega⟩
  simp only [readN] at h1 h2
  rw [if_pos hg, hn, Int.toNat_natCast, show ((n : Int) + 6).toNat = 6 + n by omega, List.drop_drop (j := i) (i := 6 + n), show i + (6 + n) = i + 6 + n by omega] at h1 h2
  refine ⟨m, by omega, ?_, ?_⟩
  · rw [← h1, ← hx, List.map_cons, bytes_nums, List.append_assoc]
    rfl
  · rw [← h2]
    show ((i + 6 + n : Nat) : Int) + _ = (i : Int) + ((n : Int) + 6 + _)
    omega
theorem acc_len {b : List Int} {i : Nat} {acc : List ByteArray} (h : Togo b i acc) : acc.length ≤ (readP b).1.length := by
  obtain ⟨d, -, h1, -⟩ := h
  have := congrArg List.length h1
  simp at this
  omega
theorem readN_few : ∀ (d : Nat) (b : List Int), (readN d b).1.length ≤ b.length
  | 0, b => Nat.zero_le _
  | d + 1, b => by
    simp only [readN]
    by_cases h : good b = true
    · rw [if_pos h]
      obtain ⟨h1, h2, h3, h4, -⟩ := good_of h
      have := readN_few d (b.drop (num b + 6).toNat)
      rw [List.length_drop] at this
      show (_ :: _).length ≤ _
      rw [List.length_cons]
      omega
    · rw [if_neg h]
      exact Nat.zero_le _
theorem ref_mayT (s : ByteArray) (w : World) (b : Bool) (h : decide (1 ≤ (bytesOf s).length ∧ (bytesOf s).length ≤ 20000) = b) : Calls Try.prog 12 #[.string s] w fun e w' => e = .returned (.bool b) ∧ Below w.heap.size w w' := by
  subst h
  exact ref_may s w
theorem ref_sumT (s : ByteArray) (w : World) (hs : s.size < 1099511627776) (v : Int) (h : sumP (bytesOf s) = v) : Calls Try.prog 18 #[.string s] w fun e w' => e = .returned (.int .u32 v) ∧ Below w.heap.size w w' := by
  subst h
  exact ref_sum s w hs
set_option maxHeartbeats 1000000 in
theorem ref_read (s : ByteArray) (w : World) (hs : s.size < 1073741824) :
    Calls Try.prog 15 #[.string s] w fun e w' => ∃ v, e = .returned (.tuple #[v, .int .i64 (readP (bytesOf s)).2]) ∧ Ts w.heap.size w' v ((readP (bytesOf s)).1.map strOfNums) ∧ Below w.heap.size w w' := by
  have HS := Aside0.mk hs
  have hL := bytesOf_length s
  have HL := Aside0.mk hL
  clear hL hs
  go_enter Try.func15, Try.ntmps15
  go_wp2
  go_loopg [4, 5] s.size (fun g v4 v5 wr => ∃ (i : Nat) (acc : List ByteArray), v5 = .int .i64 i ∧ g + i = s.size ∧ Aside0 (Togo (bytesOf s) i acc) ∧ Aside0 (Ts w.heap.size wr v4 acc) ∧ Aside0 (Below w.heap.size w wr))
  case atStart => exact ⟨0, [], rfl, by omega, ⟨Togo.start _⟩, ⟨Kd.R_nil _ _ _ _ _⟩, ⟨Below.refl _ _⟩⟩
  case round =>
    obtain ⟨i, acc, rfl, hgi, HT, HA, HB⟩ := hrel
    have hw6 : wrap64 ((i : Int) + 6) = (i : Int) + 6 := w64 _ (by omega) (by have := HS.out; omega)
    by_cases c1 : (i : Int) + 6 ≤ (s.size : Int)
    · have hi1 : (i : Int) ≤ (s.size : Int) := by omega
      have hi0 : 0 ≤ (i : Int) := by omega
      obtain ⟨t, ht⟩ : ∃ t, t = s.extract i s.size := ⟨_, rfl⟩
      have htz : t.size = s.size - i := by rw [ht, ByteArray.size_extract]; omega
      have htb : bytesOf t = (bytesOf s).drop i := by rw [ht, bytes_cut, List.take_of_length_le (by rw [HL.out]; omega)]
      obtain ⟨t2, ht2⟩ : ∃ t2, t2 = t.extract 2 t.size := ⟨_, rfl⟩
      have hz2 : t2.size = s.size - i - 2 := by rw [ht2, ByteArray.size_extract]; omega
      have hb2 : bytesOf t2 = ((bytesOf s).drop i).drop 2 := by rw [ht2, bytes_cut, List.take_of_length_le (by rw [bytesOf_length]; omega), htb]
      obtain ⟨t6, ht6⟩ : ∃ t6, t6 = t2.extract 4 t2.size := ⟨_, rfl⟩
      have hz6 : t6.size = s.size - i - 6 := by rw [ht6, ByteArray.size_extract]; omega
      have hb6 : bytesOf t6 = ((bytesOf s).drop i).drop 6 := by rw [ht6, bytes_cut, List.take_of_length_le (by rw [bytesOf_length]; omega), hb2, List.drop_drop]
      have hob : Oct ((bytesOf s).drop i) := (bytes_by s).drop i
      have hbl : ((bytesOf s).drop i).length = s.size - i := by rw [List.length_drop, HL.out]
      have hgood := good_is ((bytesOf s).drop i) hob (by omega)
      have hn0 : 0 ≤ num ((bytesOf s).drop i) ∧ num ((bytesOf s).drop i) < 65536 := by
        have a := hob.rd 0
        have b := hob.rd 1
        unfold num
        omega
      obtain ⟨n, hn⟩ : ∃ n : Nat, num ((bytesOf s).drop i) = (n : Int) := ⟨(num ((bytesOf s).drop i)).toNat, by omega⟩
      obtain ⟨q, hq⟩ : ∃ q, num4 (bytesOf t2) = q := ⟨_, rfl⟩
      have hq4 : num4 (((bytesOf s).drop i).drop 2) = q := by rw [← hb2]; exact hq
      have hql := num4_lo (bytesOf t2) (bytes_by t2)
      rw [hq] at hql
      rw [hn, Int.toNat_natCast, hq4, hbl] at hgood
      have H2 := Aside0.mk (show num (bytesOf t) = (n : Int) by rw [htb]; exact hn)
      have HN := Aside0.mk hn
      have HG := Aside0.mk hgood
      have HQ := Aside0.mk hq
      have HZ := Aside0.mk (show t.size = s.size - i ∧ t2.size = s.size - i - 2 ∧ t6.size = s.size - i - 6 from ⟨htz, hz2, hz6⟩)
      have HB6 := Aside0.mk hb6
      have HT2 := Aside0.mk ht2
      have HT6 := Aside0.mk ht6
      have HNL := Aside0.mk (show n < 65536 by omega)
      have HI6 := Aside0.mk (show i + 6 ≤ s.size by omega)
      have HA1 := Aside0.mk HA.out.ahead
      have hqu : IntKind.u32.wrap q = q := by rw [IntKind.wrap_u32]; omega
      clear htz htb ht2 hz2 hb2 ht6 hz6 hb6 hob hbl hgood hn0 hn hq hq4 hql HA
      go_upto_region 5 with fail
      rw [← ht]
      clear ht hi1 hi0
      have HI0 := Aside0.mk (IsS69.new w wr t false HB.out)
      have HB0 := Aside0.mk (below_alloc HB.out (.cells #[.string t, .bool false] 69))
      have HA2 := Aside0.mk (Kd.R_alloc HA1.out (.cells #[.string t, .bool false] 69))
      go_upto_region 6 with (go_at_call 34; refine (ref_int2 wr.heap.size t w _ HI0.out HB0.out (by have := HZ.out; have := HI6.out; omega) n H2.out t2 HT2.out).mono ?_; rintro e w2 ⟨rfl, hi, hb, hk⟩; have HI2 := Aside0.mk hi; have HB2 := Aside0.mk hb; have HA3 := Aside0.mk (Tn.keep HA2.out hk); clear hi hb hk)
      clear HI0 HB0 HA2 HA1
      go_upto_region 7 with (go_at_call 35; refine (ref_big4 wr.heap.size t2 w _ HI2.out HB2.out (by have := HZ.out; have := HI6.out; omega) q HQ.out t6 HT6.out).mono ?_; rintro e w3 ⟨rfl, hi, hb, hk⟩; have HI3 := Aside0.mk hi; have HB3 := Aside0.mk hb; have HA4 := Aside0.mk (Tn.keep HA3.out hk); clear hi hb hk)
      clear HI2 HB2 HA3
      by_cases c2 : n ≤ t6.size
      · obtain ⟨x, hx⟩ : ∃ x, x = t6.extract 0 n := ⟨_, rfl⟩
        have hxb : bytesOf x = (((bytesOf s).drop i).drop 6).take n := by rw [hx, bytes_cut, List.drop_zero, HB6.out]
        have hxl : (bytesOf x).length = n := by rw [bytesOf_length, hx, ByteArray.size_extract]; omega
        have HX := Aside0.mk hx
        have HXB := Aside0.mk hxb
        have HXZ := Aside0.mk (show x.size < 1099511627776 by rw [← bytesOf_length, hxl]; have := HNL.out; omega)
        have HC2 := Aside0.mk c2
        have HGX := Aside0.mk (show good ((bytesOf s).drop i) = decide (1 ≤ (n : Int) ∧ (n : Int) ≤ 20000 ∧ (n : Int) + 6 ≤ (s.size - i : Nat) ∧ sumP (bytesOf x) = q) by rw [hxb]; exact HG.out)
        clear hx hxb c2 HG
        by_cases hm : 1 ≤ n ∧ n ≤ 20000
        · have HMY := Aside0.mk (show decide (1 ≤ (bytesOf x).length ∧ (bytesOf x).length ≤ 20000) = true from decide_eq_true (by rw [hxl]; exact hm))
          by_cases hv : sumP (bytesOf x) = q
          · have HV := Aside0.mk hv
            have HGT := Aside0.mk (HGX.out.trans (decide_eq_true ⟨by omega, by omega, by have := HZ.out; have := HC2.out; omega, hv⟩))
            have HTS := Aside0.mk (HT.out.step (by rw [HL.out]; have := HI6.out; omega) HGT.out HN.out x HXB.out)
            have hwn : wrap64 ((i : Int) + 6 + (n : Int)) = (i : Int) + 6 + (n : Int) := w64 _ (by omega) (by have := HS.out; have := HNL.out; have := HI6.out; omega)
            have hgi2 : i + 6 + n ≤ s.size := by have := HZ.out; have := HC2.out; have := HI6.out; omega
            clear hv hxl HGX
            go_wp2_with (first | (go_at_call 36; refine (ref_some wr.heap.size t6 w _ HI3.out HB3.out n HC2.out x HX.out).mono ?_; rintro e w4 ⟨rfl, ⟨t9, hi⟩, hb, hk⟩; have hc1 := S69_c1 hi; have HB4 := Aside0.mk hb; have HA5 := Aside0.mk (Tn.keep HA4.out hk); clear hi hb hk) | (go_at_call 12; refine (ref_mayT x _ true HMY.out).mono ?_; rintro e w5 ⟨rfl, hb⟩; have HB5 := Aside0.mk (HB4.out.trans (hb.mono HB4.out.size)); have HA6 := Aside0.mk (Kd.R_below HA5.out hb); clear hb) | (go_at_call 18; refine (ref_sumT x _ HXZ.out q HV.out).mono ?_; rintro e w6 ⟨rfl, hb⟩; have HB6b := Aside0.mk (HB5.out.trans (hb.mono HB5.out.size)); have HA7 := Aside0.mk (Tn.back (Kd.R_below HA6.out hb)); clear hb) | (at_builtin; refine halt_here ?_))
            refine Hid.mk ?_
            have hac := acc_len HT.out
            have hrf := readN_few (bytesOf s).length (bytesOf s)
            refine append_str rfl (.tmp 43) (.tmp 45) rfl w.heap.size u4 acc [x] (some ⟨w6.heap.size, 0, none⟩) 1 1 rfl rfl rfl (Kd.R_alloc HA7.out _) (C_lit_str w6 x (0, 0)) (Nat.le_trans HB6b.out.size (below_alloc (Below.refl w6.heap.size w6) _).size) (by
              have a : (readP (bytesOf s)).1.length ≤ (bytesOf s).length := hrf
              have b := HL.out
              have c := HS.out
              rw [List.length_singleton]
              omega) ?_
            intro v1 w7 ho hb
            have HA8 := Aside0.mk ho
            have HB8 := Aside0.mk ((below_alloc HB6b.out _).trans hb)
            clear ho hb hac hrf
            go_wp2
            go_roundg (s.size - (i + 6 + n))
            case measure => omega
            case rel => exact ⟨i + 6 + n, acc ++ [x], (by first | rfl | (rw [hwn]; rfl)), by omega, HTS, HA8, HB8⟩
          · have HST := Aside0.mk (HT.out.stop (HGX.out.trans (decide_eq_false fun h => hv h.2.2.2)))
            obtain ⟨v, hvv⟩ : ∃ v, sumP (bytesOf x) = v := ⟨_, rfl⟩
            rw [hvv] at hv
            have HVV := Aside0.mk hvv
            clear hvv hxl HGX
            go_wp2_with (first | (go_at_call 36; refine (ref_some wr.heap.size t6 w _ HI3.out HB3.out n HC2.out x HX.out).mono ?_; rintro e w4 ⟨rfl, ⟨t9, hi⟩, hb, hk⟩; have hc1 := S69_c1 hi; have HB4 := Aside0.mk hb; have HA5 := Aside0.mk (Tn.keep HA4.out hk); clear hi hb hk) | (go_at_call 12; refine (ref_mayT x _ true HMY.out).mono ?_; rintro e w5 ⟨rfl, hb⟩; have HB5 := Aside0.mk (HB4.out.trans (hb.mono HB4.out.size)); have HA6 := Aside0.mk (Kd.R_below HA5.out hb); clear hb) | (go_at_call 18; refine (ref_sumT x _ HXZ.out v HVV.out).mono ?_; rintro e w6 ⟨rfl, hb⟩; have HB6b := Aside0.mk (HB5.out.trans (hb.mono HB5.out.size)); have HA7 := Aside0.mk (Tn.back (Kd.R_below HA6.out hb)); clear hb))
            go_ret2
            refine ⟨_, ?_, by rw [← HST.out.1]; exact HA7.out, HB6b.out⟩
            rw [← HST.out.2]
            rfl
        · have HMY := Aside0.mk (show decide (1 ≤ (bytesOf x).length ∧ (bytesOf x).length ≤ 20000) = false from decide_eq_false (by rw [hxl]; exact hm))
          have HST := Aside0.mk (HT.out.stop (HGX.out.trans (decide_eq_false fun h => hm ⟨by omega, by omega⟩)))
          clear hxl HGX
          go_wp2_with (first | (go_at_call 36; refine (ref_some wr.heap.size t6 w _ HI3.out HB3.out n HC2.out x HX.out).mono ?_; rintro e w4 ⟨rfl, ⟨t9, hi⟩, hb, hk⟩; have hc1 := S69_c1 hi; have HB4 := Aside0.mk hb; have HA5 := Aside0.mk (Tn.keep HA4.out hk); clear hi hb hk) | (go_at_call 12; refine (ref_mayT x _ false HMY.out).mono ?_; rintro e w5 ⟨rfl, hb⟩; have HB5 := Aside0.mk (HB4.out.trans (hb.mono HB4.out.size)); have HA6 := Aside0.mk (Tn.back (Kd.R_below HA5.out hb)); clear hb))
          go_ret2
          refine ⟨_, ?_, by rw [← HST.out.1]; exact HA6.out, HB5.out⟩
          rw [← HST.out.2]
          rfl
      · have HST := Aside0.mk (HT.out.stop (HG.out.trans (decide_eq_false fun h => by have := h.2.2.1; have := HZ.out; have := HI6.out; omega)))
        have HC2 := Aside0.mk (show (t6.size : Int) < (n : Int) by omega)
        clear c2 HG
        go_wp2_with (go_at_call 36; refine (ref_none wr.heap.size t6 w _ HI3.out HB3.out n HC2.out).mono ?_; rintro e w4 ⟨rfl, hi, hb, hk⟩; have hc1 := S69_c1 hi; have HB4 := Aside0.mk hb; have HA5 := Aside0.mk (Tn.back (Tn.keep HA4.out hk)); clear hi hb hk)
        go_ret2
        refine ⟨_, ?_, by rw [← HST.out.1]; exact HA5.out, HB4.out⟩
        rw [← HST.out.2]
        rfl
    · have HST := Aside0.mk (HT.out.stop (decide_eq_false fun h => by have := h.1; rw [List.length_drop, HL.out] at this; omega))
      go_wp2
      go_ret2
      refine ⟨_, ?_, by rw [← HST.out.1]; exact HA.out, HB.out⟩
      rw [← HST.out.2]
      rfl
end Go.Proofs.Ytnnlmbmgaajmhaa.Seg
