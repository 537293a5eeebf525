/- Which frames may be, their bytes, what bytes begin with, is what the document says: for all frames, all bytes. No conditions. -/
import Derived.Test.YtcfideolgkjhmaaPGsx7
import Derived.Test.YtcfideolgkjhmaaFsB
namespace Go.Proofs.Ytcfideolgkjhmaa.Pure
open Go.RowKit Go.Proofs.Ytcfideolgkjhmaa.PGs Go.Proofs.YtcfideolgkjhmaaW.PrintWords Go.Proofs.YtcfideolgkjhmaaW.PrintLast Go.Proofs.YtcfideolgkjhmaaW.PrintMore Go.Proofs.Ytcfideolgkjhmaa.FsB

theorem nums_bytes {l : List Int} (h : By l) : bytesOf (strOfNums l) = l := by
  induction l with
  | nil => rfl
  | cons x l ih =>
    have hx := h x (by simp)
    have := ih fun y hy => h y (by simp [hy])
    simp only [bytesOf, strOfNums, List.map_cons] at this ⊢
    rw [this]
    congr 1
    simp only [UInt8.toNat_ofNat']
    omega
theorem nums_app (a b : List Int) : strOfNums (a ++ b) = strOfNums a ++ strOfNums b := by
  apply ByteArray.ext
  simp [strOfNums]
theorem nums_size (a : List Int) : (strOfNums a).size = a.length := by
  simp [strOfNums, ByteArray.size]
theorem bytes_by (s : ByteArray) : By (bytesOf s) := by
  intro y hy
  simp only [bytesOf, List.mem_map] at hy
  obtain ⟨b, _, rfl⟩ := hy
  have := b.toNat_lt
  omega
theorem bytes_cut (s : ByteArray) (a b : Nat) : bytesOf (s.extract a b) = ((bytesOf s).take b).drop a := by
  simp [bytesOf, ByteArray.data_extract, List.map_take, List.map_drop]
  rw [List.drop_take]

/-- What is told from seven bytes on. -/
def rest7 (l : List Int) : Ans := if ln l > 4096 ∨ (rd l 0 = 8 ∧ ln l > 0) then bad else if (l.length : Int) ≤ 7 + ln l then no3
  else if rd l (7 + ln l) ≠ 206 then bad else (rd l 0, hi l, (l.take (7 + ln l).toNat).drop 7, 8 + ln l, 0)

theorem ref_j1 (k : Nat) (s : ByteArray) (hl : s.size < 1000000) : carrefourref3_Next.j1 (k + 2) s false = some (if (bytesOf s).length < 7 then no3 else rest7 (bytesOf s)) := by
  have hb := bytes_by s
  have L := bytesOf_length s
  simp only [carrefourref3_Next.j1, ← rd_bytesOf, ← L]
  rw [ln_is hb, if_neg (by simp)]
  by_cases c5 : (bytesOf s).length < 7
  · rw [if_pos (by omega), if_pos c5]; rfl
  rw [if_neg (by omega), if_neg c5, if_pos (by omega), if_pos (by omega), if_pos (by omega), if_pos (by omega)]
  have hn := ln_bound hb
  have j2t : carrefourref3_Next.j2 (k + 1) s (ln (bytesOf s)) true = some bad := rfl
  have j2 : ln (bytesOf s) ≤ 4096 → carrefourref3_Next.j2 (k + 1) s (ln (bytesOf s)) false = some (if ((bytesOf s).length : Int) ≤ 7 + ln (bytesOf s) then no3
      else if rd (bytesOf s) (7 + ln (bytesOf s)) ≠ 206 then bad else (rd (bytesOf s) 0, hi (bytesOf s), ((bytesOf s).take (7 + ln (bytesOf s)).toNat).drop 7, 8 + ln (bytesOf s), 0)) := by
    intro cc
    simp only [carrefourref3_Next.j2, ← rd_bytesOf, ← L]
    rw [hi_is hb, w_rd hb, if_neg (by simp)]
    have e7 : wrap64 (7 + ln (bytesOf s)) = 7 + ln (bytesOf s) := by
      unfold wrap64; omega
    have e8 : wrap64 (8 + ln (bytesOf s)) = 8 + ln (bytesOf s) := by
      unfold wrap64; omega
    rw [e7, e8]
    by_cases c6 : ((bytesOf s).length : Int) ≤ 7 + ln (bytesOf s)
    · rw [if_pos (by omega), if_pos c6]; rfl
    rw [if_neg (by omega), if_neg c6, if_pos (by omega), if_pos (by omega)]
    by_cases c7 : rd (bytesOf s) (7 + ln (bytesOf s)) = 206
    · have sz : (s.extract 7 (7 + ln (bytesOf s)).toNat).size ≤ 9223372036854775807 := by
        rw [ByteArray.size_extract]
        omega
      rw [if_pos c7, if_pos (by omega), if_pos (by omega), if_pos (by omega), if_pos (by omega), if_pos (by omega), if_pos sz, if_neg (show ¬ (rd (bytesOf s) (7 + ln (bytesOf s)) ≠ 206) by simpa using c7)]
      unfold bytes_of_9_22.f
      rw [if_pos sz, bytes_cut]
      rfl
    · rw [if_neg c7, if_pos c7]; rfl
  unfold rest7
  by_cases c8 : ln (bytesOf s) > 4096
  · rw [if_pos c8, if_pos (Or.inl c8), j2t]
  rw [if_neg c8, if_pos (by omega)]
  by_cases c9 : rd (bytesOf s) 0 = 8
  · rw [if_pos c9]
    by_cases c10 : ln (bytesOf s) > 0
    · rw [if_pos (Or.inr ⟨c9, c10⟩), decide_eq_true c10, j2t]
    · rw [if_neg (by omega), decide_eq_false c10, j2 (by omega)]
  · rw [if_neg c9, if_neg (by omega), j2 (by omega)]

theorem ref_next (k : Nat) (s : ByteArray) (hl : s.size < 1000000) : carrefourref3_Next.f (k + 3) s = some (nextS (bytesOf s)) := by
  have hb := bytes_by s
  have L := bytesOf_length s
  have r0 := hb.rd 0
  have r1 := hb.rd 1
  have r2 := hb.rd 2
  have j1t : carrefourref3_Next.j1 (k + 2) s true = some bad := rfl
  have j0t : carrefourref3_Next.j0 (k + 3) s true = some bad := rfl
  have j0 : carrefourref3_Next.j0 (k + 3) s false = some (if (bytesOf s).length ≥ 3 ∧ rd (bytesOf s) 0 = 8 ∧ hi (bytesOf s) ≠ 0 then bad else if (bytesOf s).length < 7 then no3 else rest7 (bytesOf s)) := by
    simp only [carrefourref3_Next.j0, ← rd_bytesOf, ← L]
    rw [if_neg (by simp)]
    by_cases c3 : (bytesOf s).length ≥ 3
    · rw [if_pos (by omega), if_pos (by omega)]
      by_cases c8 : rd (bytesOf s) 0 = 8
      · rw [if_pos c8, if_pos (by omega)]
        by_cases c1 : rd (bytesOf s) 1 = 0
        · rw [if_pos c1, if_pos (by omega)]
          by_cases c2 : rd (bytesOf s) 2 = 0
          · rw [show (rd (bytesOf s) 2 != 0) = false by simp [c2], ref_j1 k s hl, if_neg (show ¬ ((bytesOf s).length ≥ 3 ∧ rd (bytesOf s) 0 = 8 ∧ hi (bytesOf s) ≠ 0) by unfold hi; omega)]
          · rw [show (rd (bytesOf s) 2 != 0) = true by simp [c2], j1t, if_pos (show ((bytesOf s).length ≥ 3 ∧ rd (bytesOf s) 0 = 8 ∧ hi (bytesOf s) ≠ 0) by unfold hi; omega)]
        · rw [if_neg c1, j1t, if_pos (show ((bytesOf s).length ≥ 3 ∧ rd (bytesOf s) 0 = 8 ∧ hi (bytesOf s) ≠ 0) by unfold hi; omega)]
      · rw [if_neg c8, ref_j1 k s hl, if_neg (show ¬ ((bytesOf s).length ≥ 3 ∧ rd (bytesOf s) 0 = 8 ∧ hi (bytesOf s) ≠ 0) by omega)]
    · rw [if_neg (by omega), ref_j1 k s hl, if_neg (show ¬ ((bytesOf s).length ≥ 3 ∧ rd (bytesOf s) 0 = 8 ∧ hi (bytesOf s) ≠ 0) by omega)]
  have whole : nextS (bytesOf s) = if (bytesOf s).length < 1 then no3 else if kin (rd (bytesOf s) 0) = false then bad else (if (bytesOf s).length ≥ 3 ∧ rd (bytesOf s) 0 = 8 ∧ hi (bytesOf s) ≠ 0 then bad else if (bytesOf s).length < 7 then no3 else rest7 (bytesOf s)) := by
    unfold nextS rest7
    by_cases a1 : (bytesOf s).length < 1
    · rw [if_pos a1, if_pos a1]
    rw [if_neg a1, if_neg a1]
    by_cases a2 : kin (rd (bytesOf s) 0) = false
    · rw [if_pos a2, if_pos a2]
    rw [if_neg a2, if_neg a2]
    by_cases a3 : (bytesOf s).length < 3
    · rw [if_pos a3, if_neg (by omega), if_pos (by omega)]
    rw [if_neg a3]
    by_cases a4 : rd (bytesOf s) 0 = 8 ∧ hi (bytesOf s) ≠ 0
    · rw [if_pos a4, if_pos ⟨by omega, a4⟩]
    · rw [if_neg a4, if_neg (show ¬ ((bytesOf s).length ≥ 3 ∧ rd (bytesOf s) 0 = 8 ∧ hi (bytesOf s) ≠ 0) from fun h => a4 h.2)]
  unfold carrefourref3_Next.f
  simp only [← rd_bytesOf, ← L]
  rw [whole]
  by_cases c0 : (bytesOf s).length < 1
  · rw [if_neg (by omega), if_pos c0, j0, if_neg (by omega), if_pos (by omega)]
  rw [if_pos (by omega), if_pos (by omega), if_neg c0]
  by_cases ck : kin (rd (bytesOf s) 0) = false
  · rw [if_pos ck]
    have ck' := ck
    unfold kin at ck'
    have := of_decide_eq_false ck'
    have e : (rd (bytesOf s) 0 != 8) = true := by simp; omega
    rw [e, j0t]
    by_cases d1 : rd (bytesOf s) 0 < 1
    · rw [if_pos d1]
    · rw [if_neg d1, if_pos (by omega)]
  · rw [if_neg ck, ← j0]
    unfold kin at ck
    have ck' : ¬ (decide (rd (bytesOf s) 0 = 1 ∨ rd (bytesOf s) 0 = 2 ∨ rd (bytesOf s) 0 = 3 ∨ rd (bytesOf s) 0 = 8) = false) := ck
    rw [decide_eq_false_iff_not, Classical.not_not] at ck'
    rw [if_neg (by omega)]
    by_cases d8 : rd (bytesOf s) 0 = 8
    · rw [if_pos (by omega), show (rd (bytesOf s) 0 != 8) = false by simp [d8]]
    · rw [if_neg (by omega)]

theorem next_len {l : List Int} (hb : By l) (h : (nextS l).2.2.2.2 = 0) : 8 ≤ (nextS l).2.2.2.1 ∧ (nextS l).2.2.2.1 ≤ l.length := by
  have hn := ln_bound hb
  unfold nextS at h ⊢
  by_cases a1 : l.length < 1
  · rw [if_pos a1] at h; exact absurd h (by decide)
  rw [if_neg a1] at h ⊢
  by_cases a2 : kin (rd l 0) = false
  · rw [if_pos a2] at h; exact absurd h (by decide)
  rw [if_neg a2] at h ⊢
  by_cases a3 : l.length < 3
  · rw [if_pos a3] at h; exact absurd h (by decide)
  rw [if_neg a3] at h ⊢
  by_cases a4 : rd l 0 = 8 ∧ hi l ≠ 0
  · rw [if_pos a4] at h; exact absurd h (by decide)
  rw [if_neg a4] at h ⊢
  by_cases a5 : l.length < 7
  · rw [if_pos a5] at h; exact absurd h (by decide)
  rw [if_neg a5] at h ⊢
  by_cases a6 : ln l > 4096 ∨ (rd l 0 = 8 ∧ ln l > 0)
  · rw [if_pos a6] at h; exact absurd h (by decide)
  rw [if_neg a6] at h ⊢
  by_cases a7 : (l.length : Int) ≤ 7 + ln l
  · rw [if_pos a7] at h; exact absurd h (by decide)
  rw [if_neg a7] at h ⊢
  by_cases a8 : rd l (7 + ln l) ≠ 206
  · rw [if_pos a8] at h; exact absurd h (by decide)
  rw [if_neg a8]
  exact ⟨by show (8 : Int) ≤ 8 + ln l; omega, by show 8 + ln l ≤ (l.length : Int); omega⟩

theorem all_same (l : List Int) (hb : By l) (hl : l.length ≤ 400) (d : Nat) : ∀ (k : Nat) (acc : List S24) (i : Nat), i + d = l.length → acc.length ≤ i →
    ∃ r, frame_All.l500 (k + d + 4) l acc (i : Int) = some r ∧ carrefourref3_All.l1 (k + d + 4) (strOfNums l) acc (i : Int) = some r ∧ r.1.length ≤ l.length := by
  have ls := nums_size l
  have drop_s : ∀ i : Nat, i ≤ l.length → bytesOf ((strOfNums l).extract i (strOfNums l).size) = l.drop i := by
    intro i _
    rw [bytes_cut, nums_bytes hb, ls, List.take_of_length_le (by omega)]
  induction d using Nat.strongRecOn with
  | _ d ih =>
    intro k acc i hi ha
    obtain ⟨m, hm⟩ : ∃ m, m = k + d + 3 := ⟨_, rfl⟩
    rw [show k + d + 4 = m + 1 by omega]
    simp only [frame_All.l500, carrefourref3_All.l1]
    rw [ls]
    by_cases he : i = l.length
    · refine ⟨(acc, (i : Int), 0), ?_, ?_, ?_⟩
      · rw [if_pos (by omega)]
      · rw [if_neg (by omega)]
      · show acc.length ≤ l.length
        omega
    rw [if_neg (by omega), if_pos (by omega), if_pos (by omega), if_pos (by omega), if_pos (by omega), if_pos (by omega)]
    have ei : ((i : Int)).toNat = i := by omega
    have n1 := next_spec (m - 2) (hb.drop i) (by rw [List.length_drop]; omega)
    have n2 := ref_next (m - 3) ((strOfNums l).extract i (strOfNums l).size) (by rw [ByteArray.size_extract]; omega)
    rw [show m - 2 + 2 = m by omega] at n1
    rw [show m - 3 + 3 = m by omega, drop_s i (by omega), ls] at n2
    rw [ei, n1, n2]
    simp only [Option.bind_some]
    have nl := next_len (hb.drop i)
    rw [List.length_drop] at nl
    generalize nextS (l.drop i) = a at nl ⊢
    by_cases h0 : a.2.2.2.2 = 0
    · obtain ⟨n1, n2⟩ := nl h0
      rw [if_pos h0, if_pos h0, if_pos (by omega), if_pos (by omega)]
      obtain ⟨n, hn⟩ := Int.eq_ofNat_of_zero_le (by omega : 0 ≤ a.2.2.2.1)
      have w : wrap64 ((i : Int) + a.2.2.2.1) = ((i + n : Nat) : Int) := by
        rw [hn]
        unfold wrap64
        omega
      rw [w, show m = (k + n - 1) + (d - n) + 4 by omega]
      exact ih (d - n) (by omega) (k + n - 1) _ (i + n) (by omega) (by simp; omega)
    · rw [if_neg h0, if_neg h0]
      exact ⟨_, rfl, rfl, by show acc.length ≤ l.length; omega⟩

theorem big_step (k : Nat) (v : Int) (out : List Int) (i : Int) (h0 : 0 ≤ i) (h3 : i ≤ 3) (ho : out.length < 100) :
    carrefourref1_Big.l1 (k + 1) v out i = carrefourref1_Big.l1 k v (out ++ [(v / 2 ^ (8 * i).toNat) % 256]) (i - 1) := by
  simp only [carrefourref1_Big.l1]
  have e : IntKind.u64.wrap (wrap64 (8 * i)) = 8 * i := by
    show wrap64 (8 * i) % 2 ^ 64 = _
    unfold wrap64
    omega
  have e1 : wrap64 (i - 1) = i - 1 := by
    unfold wrap64
    omega
  have e2 : shr .u64 v (8 * i) = v / 2 ^ (8 * i).toNat := by
    unfold shr
    rw [Nat.min_eq_left (show (8 * i).toNat ≤ IntKind.u64.bits from (by omega : (8 * i).toNat ≤ 64))]
  rw [if_pos (by omega), e, if_pos (by omega), if_pos (by omega), e1, e2]
theorem big_end (k : Nat) (v : Int) (out : List Int) : carrefourref1_Big.l1 (k + 1) v out (-1) = some (strOfNums out) := by
  simp only [carrefourref1_Big.l1]
  rw [if_neg (by decide)]
theorem big1 (k : Nat) (v : Int) : carrefourref1_Big.f (k + 5) v 1 = some (strOfNums [v % 256]) := by
  unfold carrefourref1_Big.f
  rw [show wrap64 (1 - 1) = 0 by unfold wrap64; omega, big_step _ _ _ _ (by decide) (by decide) (by simp), show (0 : Int) - 1 = -1 from rfl, big_end]
  rw [show (2 : Int) ^ (8 * 0 : Int).toNat = 1 from rfl, Int.ediv_one]
  rfl
theorem big2 (k : Nat) (v : Int) : carrefourref1_Big.f (k + 5) v 2 = some (strOfNums [(v / 256) % 256, v % 256]) := by
  unfold carrefourref1_Big.f
  rw [show wrap64 (2 - 1) = 1 by unfold wrap64; omega, big_step _ _ _ _ (by decide) (by decide) (by simp), show (1 : Int) - 1 = 0 from rfl, big_step _ _ _ _ (by decide) (by decide) (by simp), show (0 : Int) - 1 = -1 from rfl, big_end]
  rw [show (2 : Int) ^ (8 * 0 : Int).toNat = 1 from rfl, Int.ediv_one, show (2 : Int) ^ (8 * 1 : Int).toNat = 256 from rfl]
  rfl
theorem big4 (k : Nat) (v : Int) : carrefourref1_Big.f (k + 5) v 4 = some (strOfNums [(v / 16777216) % 256, (v / 65536) % 256, (v / 256) % 256, v % 256]) := by
  unfold carrefourref1_Big.f
  rw [show wrap64 (4 - 1) = 3 by unfold wrap64; omega, big_step _ _ _ _ (by decide) (by decide) (by simp), show (3 : Int) - 1 = 2 from rfl, big_step _ _ _ _ (by decide) (by decide) (by simp), show (2 : Int) - 1 = 1 from rfl, big_step _ _ _ _ (by decide) (by decide) (by simp), show (1 : Int) - 1 = 0 from rfl, big_step _ _ _ _ (by decide) (by decide) (by simp), show (0 : Int) - 1 = -1 from rfl, big_end]
  rw [show (2 : Int) ^ (8 * 0 : Int).toNat = 1 from rfl, Int.ediv_one, show (2 : Int) ^ (8 * 1 : Int).toNat = 256 from rfl, show (2 : Int) ^ (8 * 2 : Int).toNat = 65536 from rfl, show (2 : Int) ^ (8 * 3 : Int).toNat = 16777216 from rfl]
  rfl
theorem wrap_u (x : Int) (h0 : 0 ≤ x) (h : x < 1000000) : IntKind.u64.wrap x = x := by
  show x % 2 ^ 64 = x
  omega

theorem ref_put (k : Nat) {kd ch : Int} {l : List Int} (h : mayB kd ch l = true) : carrefourref3_PutFrame.f (k + 5) kd ch l = some (strOfNums (fby kd ch l)) := by
  have p := may_parts h
  unfold carrefourref3_PutFrame.f
  rw [wrap_u kd (by omega) (by omega), wrap_u ch (by omega) (by omega), wrap_u (l.length : Int) (by omega) (by omega), big1, big2, big4]
  simp only [Option.bind_some, ByteArray.size_append, nums_size, List.length_cons, List.length_nil]
  rw [if_pos (by omega), if_pos (by omega), if_pos (by omega), if_pos (by omega)]
  rw [show (⟨#[206]⟩ : ByteArray) = strOfNums [206] from rfl, ← nums_app, ← nums_app, ← nums_app, ← nums_app]
  rfl

theorem ref_may (kd ch : Int) (l : List Int) : carrefourref3_MayFrame.f kd ch l = some (mayB kd ch l) := by
  unfold carrefourref3_MayFrame.f mayB kin
  rw [← Bool.decide_and]
  by_cases h8 : kd = 8
  · rw [if_pos h8]
    by_cases h0 : ch = 0
    · rw [if_pos h0]
      by_cases hl : l.length = 0
      · rw [decide_eq_true (by omega)]
        simp [hl]
      · rw [decide_eq_false (by omega)]
        simp
        intro e
        exact hl (by simp [e])
    · rw [if_neg h0, decide_eq_false (by omega)]
  rw [if_neg h8]
  by_cases h1 : kd ≥ 1
  · rw [if_pos h1]
    by_cases h3 : kd ≤ 3
    · rw [if_pos h3]
      by_cases c0 : ch ≥ 0
      · rw [if_pos c0]
        by_cases c1 : ch ≤ 65535
        · rw [if_pos c1]
          exact congrArg some (decide_eq_decide.mpr (by omega))
        · rw [if_neg c1, decide_eq_false (by omega)]
      · rw [if_neg c0, decide_eq_false (by omega)]
    · rw [if_neg h3, decide_eq_false (by omega)]
  · rw [if_neg h1, decide_eq_false (by omega)]

theorem same_ref (a b : Int) (l : List Int) (c d : Int) (m : List Int) : frame_Same.f a b l c d m = carrefourref3_SameFrame.f a b l c d m := by
  unfold frame_Same.f carrefourref3_SameFrame.f bytes_Equal.f
  rfl
theorem same_tells (a b : Int) (l : List Int) (c d : Int) (m : List Int) : ∃ t, carrefourref3_SameFrame.f a b l c d m = some t := by
  unfold carrefourref3_SameFrame.f
  by_cases h : a = c
  · rw [if_pos h]
    by_cases h2 : b = d
    · rw [if_pos h2]
      exact ⟨_, rfl⟩
    · rw [if_neg h2]
      exact ⟨_, rfl⟩
  · rw [if_neg h]
    exact ⟨_, rfl⟩
theorem same_one (a b : Int) (l : List Int) : carrefourref3_SameFrame.f a b l a b l = some true := by
  unfold carrefourref3_SameFrame.f
  rw [if_pos rfl, if_pos rfl, beq_self_eq_true]

theorem told_at {n : Nat} (h : 20 ≤ n) : carrefourlaw4_told.f n = some true := by
  obtain ⟨k, rfl⟩ : ∃ k, n = k + 20 := ⟨n - 20, by omega⟩
  exact told_may k

theorem asks_loop (a b : Int) (fs : List S24) (hl : fs.length ≤ 400) (p q : Int) (x y : Int) (m : List Int) (x' y' : Int) (m' : List Int) (u v : Int) (z : List Int) (d : Nat) :
    ∀ (k i : Nat), i + d = fs.length → d + 21 ≤ k → carrefourlaw4_FrameAsks.l1 k a b a b fs p q fs p q (i : Int) x y m x' y' m' u v z u v z = some true := by
  induction d with
  | zero =>
    intro k i hi hk
    obtain ⟨n, rfl⟩ : ∃ n, k = n + 1 := ⟨k - 1, by omega⟩
    simp only [carrefourlaw4_FrameAsks.l1]
    rw [if_neg (by omega), told_at (by omega), same_one, same_ref]
    obtain ⟨t, ht⟩ := same_tells x y m x' y' m'
    rw [ht]
    cases t <;> rfl
  | succ d ih =>
    intro k i hi hk
    obtain ⟨n, rfl⟩ : ∃ n, k = n + 1 := ⟨k - 1, by omega⟩
    simp only [carrefourlaw4_FrameAsks.l1]
    rw [if_pos (by omega), if_pos (by omega), if_pos (by omega), same_one]
    simp only [Option.bind_some, if_true]
    rw [show wrap64 ((i : Int) + 1) = ((i + 1 : Nat) : Int) by unfold wrap64; omega]
    exact ih n (i + 1) (by omega) (by omega)

theorem asks_rest (n : Nat) (hn : 1000 ≤ n) (b : List Int) (hb : By b) (hl : b.length ≤ 400) (x y : Int) (m : List Int) (x' y' : Int) (m' : List Int) :
    carrefourlaw4_FrameAsks.j1 n b false x y m x' y' m' = some true := by
  obtain ⟨k, rfl⟩ : ∃ k, n = k + 1 := ⟨n - 1, by omega⟩
  simp only [carrefourlaw4_FrameAsks.j1]
  have e1 := next_spec (k - 2) hb (by omega)
  have e2 := ref_next (k - 3) (strOfNums b) (by rw [nums_size]; omega)
  rw [nums_bytes hb] at e2
  rw [show k - 2 + 2 = k by omega] at e1
  rw [show k - 3 + 3 = k by omega] at e2
  obtain ⟨r, r1, r2, r3⟩ := all_same b hb hl b.length (k - b.length - 4) [] 0 (by omega) (by simp)
  rw [show k - b.length - 4 + b.length + 4 = k by omega] at r1 r2
  have e3 : frame_All.f k b = some r := r1
  have e4 : carrefourref3_All.f k (strOfNums b) = some r := r2
  rw [if_neg (by simp), e1, e2, e3, e4]
  simp only [Option.bind_some, if_true]
  exact asks_loop _ _ r.1 (by omega) _ _ _ _ _ _ _ _ _ _ _ r.1.length k 0 (by omega) (by omega)

theorem FrameAsks : carrefourlaw4_FrameAsks.Pure := by
  intro x y m x' y' m' b hx hy hm hx' hy' hm' hb
  refine ⟨2000, ?_⟩
  have out : carrefourlaw4_FrameAsks.j0 2000 b true x y m x' y' m' = some true := by
    obtain ⟨n, hn⟩ : ∃ n, 2000 = n + 1 := ⟨1999, rfl⟩
    rw [hn]
    simp only [carrefourlaw4_FrameAsks.j0, if_true]
    rw [told_at (by omega)]
    rfl
  unfold carrefourlaw4_FrameAsks.f
  by_cases c1 : (m.length : Int) > 5000
  · rw [if_pos c1]; exact out
  rw [if_neg c1]
  by_cases c2 : (m'.length : Int) > 5000
  · rw [if_pos c2]; exact out
  rw [if_neg c2]
  by_cases c3 : (b.length : Int) > 400
  · rw [decide_eq_true c3]; exact out
  rw [decide_eq_false c3]
  obtain ⟨n, hn⟩ : ∃ n, 2000 = n + 5 + 1 := ⟨1994, rfl⟩
  rw [hn]
  have rest := asks_rest (n + 5) (by omega) b (fun z hz => u8_of (hb.2 z hz)) (by omega) x y m x' y' m'
  simp only [carrefourlaw4_FrameAsks.j0]
  rw [if_neg (by simp), ref_may, put_tells, may_tells]
  simp only [Option.bind_some]
  by_cases h : mayB x y m = true
  · rw [ref_put n h, h]
    simp only [if_true, Option.bind_some]
    exact rest
  · rw [if_neg h, if_neg h, if_neg h]
    rw [if_pos rfl]
    exact rest

end Go.Proofs.Ytcfideolgkjhmaa.Pure
