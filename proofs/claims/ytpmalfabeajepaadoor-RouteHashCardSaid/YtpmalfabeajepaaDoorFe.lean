/-
  The queue of a hashed key: its contract.
  Conditions: none.
-/
import Derived.Test.YtpmalfabeajepaaDoorFd
import Derived.Test.YtpmalfabeajepaaDoorShelf
namespace Go.Proofs.YtpmalfabeajepaaDoor.Rt
open Go.RowKit Go.Proofs.YtpmalfabeajepaaDoorW.PrintWords Go.Proofs.YtpmalfabeajepaaDoorW.PrintLast Go.Proofs.YtpmalfabeajepaaDoorG Go.Proofs.YtpmalfabeajepaaDoor.PGa
set_option linter.unusedVariables false
set_option linter.unusedSimpArgs false

/-! ### points -/
theorem of_runs (s : ByteArray) : ∀ (n : Nat) (h i : Int) (k : Nat), i + n = s.size → 0 ≤ i → s.size ≤ 1000000 → n < k → ∃ r, PGb.point_Of.l500 k s h i = some r := by
  intro n
  induction n with
  | zero =>
    intro h i k hi h0 hs hk
    obtain ⟨m, rfl⟩ : ∃ m, k = m + 1 := ⟨k - 1, by omega⟩
    simp only [PGb.point_Of.l500]
    rw [if_neg (by omega)]
    exact ⟨_, rfl⟩
  | succ n ih =>
    intro h i k hi h0 hs hk
    obtain ⟨m, rfl⟩ : ∃ m, k = m + 1 := ⟨k - 1, by omega⟩
    simp only [PGb.point_Of.l500]
    rw [if_pos (by omega), if_pos h0, w64 (i + 1) (by omega) (by omega)]
    exact ih _ _ m (by omega) (by omega) hs (by omega)
/-- A text's point. -/
def OF (s : ByteArray) : Int := (PGb.point_Of.f (s.size + 1) s).getD 0
theorem of_is (s : ByteArray) (h : s.size ≤ 1000000) : PGb.point_Of.f (s.size + 1) s = some (OF s) := by
  obtain ⟨r, hr⟩ := of_runs s s.size 2166136261 0 (s.size + 1) (by omega) (by omega) h (by omega)
  unfold OF
  rw [show PGb.point_Of.f (s.size + 1) s = some r from hr]
  rfl
theorem Of_is (s : ByteArray) (h : s.size ≤ 1000000) (w : World) : Calls Tryd.prog 32 #[.string s] w fun e w' => e = .returned (.int .u32 (OF s)) ∧ ∃ n, w' = w.drewN n :=
  (PGb.point_Of.calls (s.size + 1) s (OF s) w (of_is s h)).mono fun e w' ⟨a, ⟨n, b⟩⟩ => ⟨a, n, b⟩
def tagB (q : ByteArray) (i : Nat) : ByteArray := q ++ ⟨#[35]⟩ ++ ⟨(Lib.decDigits i).toArray⟩
def wayP (key q : ByteArray) (i : Nat) : Int := (OF (tagB q i) - OF key) % 4294967296
theorem Way_is (a b : Int) (w : World) : Calls Tryd.prog 33 #[.int .u32 a, .int .u32 b] w fun e w' => e = .returned (.int .u32 ((b - a) % 4294967296)) ∧ ∃ n, w' = w.drewN n :=
  (PGb.point_Way.calls a b _ w rfl).mono fun e w' ⟨c, ⟨n, d⟩⟩ => ⟨c, n, d⟩

theorem dec_len (j : Nat) (h : j < 100) : (⟨(Lib.decDigits j).toArray⟩ : ByteArray).size ≤ 10 := by
  show (Lib.decDigits j).toArray.size ≤ 10
  rw [List.size_toArray, Lib.decDigits]
  split
  · rw [List.length_singleton]
    decide
  · rw [Lib.decDigits, dif_pos (by omega), List.length_append, List.length_singleton, List.length_singleton]
    decide

/-! ### hashed -/
abbrev HSt := Option (ByteArray × Int)
def pickP (key q : ByteArray) (st : HSt) (i : Nat) : HSt := match st with
  | none => some (q, wayP key q i)
  | some (p, v) => if wayP key q i < v then some (q, wayP key q i) else some (p, v)
def innerP (key q : ByteArray) (st : HSt) (n : Nat) : HSt := (List.range n).foldl (pickP key q) st
theorem inner_succ (key q : ByteArray) (st : HSt) (n : Nat) : innerP key q st (n + 1) = pickP key q (innerP key q st n) n := by
  unfold innerP
  rw [List.range_succ, List.foldl_append]
  rfl
def lim (x : Int) : Int := if 10 < x then 10 else x
theorem lim_min (ats : Array TypeId) (ty : TypeId) (x : Int) : Builtin.min_ ats ty #[.int .i64 x, .int .i64 10] = pure (.int .i64 (lim x)) := by
  rw [Go.Proofs.YtpmalfabeajepaaDoorW.PrintMore.min_two, Go.Proofs.YtpmalfabeajepaaDoorW.PrintMore.min2_int]
  rfl
attribute [local go_sem] lim_min
def digitsN (b : S28) : Nat := (lim b.f3).toNat
def outerP (ex key : ByteArray) (st : HSt) (b : S28) : HSt := if (b.f0.toList == ex.toList) = true then innerP key b.f1 st (digitsN b) else st
def hashedP (ex key : ByteArray) (l : List S28) : HSt := l.foldl (outerP ex key) none
theorem hashed_snoc (ex key : ByteArray) (l : List S28) (i : Nat) (b : S28) (h : l[i]? = some b) : hashedP ex key (l.take (i + 1)) = outerP ex key (hashedP ex key (l.take i)) b := by
  unfold hashedP
  rw [take_snoc l i b h, List.foldl_append]
  rfl
def qsP (st : HSt) : List ByteArray := match st with
  | none => []
  | some (q, _) => [q]
/-- The slots that hold the state. -/
def StIs (N : Nat) (w : World) (st : HSt) (v7 v8 : Value) : Prop := match st with
  | none => v7 = .slice none 0 0 ∧ v8 = .int .u32 0
  | some (q, b) => v8 = .int .u32 b ∧ ∃ A c, v7 = .slice (some A) 1 c ∧ Kd.R Kd.string 9 w N (fun _ => True) v7 [q]
theorem StIs.below {N : Nat} {w w' : World} {st : HSt} {v7 v8 : Value} (h : StIs N w st v7 v8) (hb : Below w.heap.size w w') : StIs N w' st v7 v8 := by
  unfold StIs at h ⊢
  cases st with
  | none => exact h
  | some p => exact ⟨h.1, by obtain ⟨A, c, e, hr⟩ := h.2; exact ⟨A, c, e, Kd.R_below hr hb⟩⟩
theorem StIs.reads {N : Nat} {w : World} {st : HSt} {v7 v8 : Value} (h : StIs N w st v7 v8) : Kd.R Kd.string 9 w N (fun _ => True) v7 (qsP st) := by
  unfold StIs at h
  cases st with
  | none => rw [h.1]; exact Kd.R_nil _ _ _ _ _
  | some p => obtain ⟨A, c, _, hr⟩ := h.2; exact hr
set_option maxHeartbeats 16000000 in
set_option maxRecDepth 100000 in
theorem Hashed_is (A : Option Addr) (c : Nat) (l : List S28) (ex key : ByteArray) (w : World) (hl : Kd.C k28 w A l.length l) (hll : l.length ≤ 1000) (hk : key.size ≤ 100000) (hq : ∀ b ∈ l, b.f1.size ≤ 100000) :
    Calls Tryd.prog 19 #[.slice A l.length c, .string ex, .string key] w fun e w' => ∃ v, e = .returned v ∧ Kd.R Kd.string 9 w' w.heap.size (fun _ => True) v (qsP (hashedP ex key l)) ∧ Below w.heap.size w w' := by
  have HL := Aside0.mk hl
  have HLL := Aside0.mk hll
  have HK := Aside0.mk hk
  have HQ := Aside0.mk hq
  have hu := Tryd.underlying28
  have qn : ∀ (w : World) (a : Option Addr) (n c n' c' : Nat), (binOp .eql 31 (.slice a n c) (.slice none n' c')).run Tryd.prog w = .ok (.bool a.isNone) w := fun w a n c n' c' => Lib.run_eql_slice_nil w _ _ a n c n' c' Tryd.underlying31
  clear hl hll hk hq
  go_enter Tryd.func19, Tryd.ntmps19
  go_wp2_with (go_at_call 32; refine (Of_is key (Nat.le_trans HK.out (by decide)) _).mono ?_; rintro e w1 ⟨rfl, nd, rfl⟩)
  go_loopg [7, 8, 18] l.length (fun g v7 v8 v18 wr => ∃ (i : Nat), v18 = .int .i64 i ∧ g + i = l.length ∧ Aside0 (StIs w.heap.size wr (hashedP ex key (l.take i)) v7 v8) ∧ Aside0 (Below w.heap.size w wr))
  case atStart => exact ⟨0, rfl, by omega, ⟨rfl, rfl⟩, ⟨pw_below_drewN (Below.refl _ _) _⟩⟩
  case round =>
    obtain ⟨i, rfl, hgi, HST, HB⟩ := hrel
    cases gk with
    | zero =>
      obtain rfl : i = l.length := by omega
      have h1 : ¬ ((l.length : Int) < (l.length : Int)) := by omega
      clear hgi
      go_wp2
      go_ret
      have := HST.out.reads
      rw [List.take_length] at this
      exact ⟨_, rfl, this, HB.out⟩
    | succ g1 =>
      have hi : (i : Int) < (l.length : Int) := by omega
      have hi0 : 0 ≤ (i : Int) := by omega
      have hin : i < l.length := by omega
      obtain ⟨ad, e1, hx0, hx1, hx2, hx3⟩ := at_T28 HL.out i hi0 hi
      cases e1
      obtain ⟨b, hb⟩ : ∃ b, rd_T28 l (i : Int) = b := ⟨_, rfl⟩
      have HY : Aside0 (l[i]? = some b) := ⟨by rw [← hb]; exact rdT_Bd_at l i hin⟩
      have HQS := Aside0.mk (HQ.out b (List.mem_of_getElem? HY.out))
      rw [hb, Int.toNat_natCast] at hx0 hx1 hx2 hx3
      replace hx0 := (HB.out.cell (World.block_lt_of_cell? w _ hx0)).trans hx0
      replace hx1 := (HB.out.cell (World.block_lt_of_cell? w _ hx1)).trans hx1
      replace hx2 := (HB.out.cell (World.block_lt_of_cell? w _ hx2)).trans hx2
      replace hx3 := (HB.out.cell (World.block_lt_of_cell? w _ hx3)).trans hx3
      have HI := Aside0.mk hgi
      have hw : wrap64 ((i : Int) + 1) = (i : Int) + 1 := w64 _ (by omega) (by have := HLL.out; omega)
      clear hgi hb hin
      obtain ⟨st, hst⟩ : ∃ st, hashedP ex key (l.take i) = st := ⟨_, rfl⟩
      rw [hst] at HST
      have HSN : Aside0 (hashedP ex key (l.take (i + 1)) = outerP ex key st b) := ⟨by rw [hashed_snoc ex key l i b HY.out, hst]⟩
      clear hst
      by_cases he : (b.f0.toList == ex.toList) = true
      rotate_left
      · have he2 : (b.f0.toList == ex.toList) = false := Bool.eq_false_iff.2 he
        have he3 : (b.f0.toList != ex.toList) = true := by simp [bne, he2]
        have HOUT : Aside0 (outerP ex key st b = st) := ⟨if_neg he⟩
        clear he
        go_wp2_with (first
          | ((with_reducible refine gate_dst (N := 11) rfl ?_); refine box_event ?hg (N := 11) ?hd (cs := #[.string ⟨#[]⟩, .string ⟨#[]⟩, .string ⟨#[]⟩, .int .i64 0]) (t := 28) ?hr ?_; (case hd => rfl); (case hg => rfl); (case hr => first | (go_simp; done) | (go_simp; rfl)); intro g1_ hg w9 hbox hb; have HB1 := Aside0.mk hb; have HX1 := Aside0.mk hbox; have GE1 := Aside0.mk (show wr.heap.size ≤ g1_ by rw [hg]; exact Nat.le_refl _); have z0 : w9.cell? ⟨g1_, 0, none⟩ = some (.string ⟨#[]⟩) := (blk_cell hbox 0).trans rfl; have z1 : w9.cell? ⟨g1_, 1, none⟩ = some (.string ⟨#[]⟩) := (blk_cell hbox 1).trans rfl; have z2 : w9.cell? ⟨g1_, 2, none⟩ = some (.string ⟨#[]⟩) := (blk_cell hbox 2).trans rfl; have z3 : w9.cell? ⟨g1_, 3, none⟩ = some (.int .i64 0) := (blk_cell hbox 3).trans rfl; have f0_ := blk_frozen hbox 0; have f1_ := blk_frozen hbox 1; have f2_ := blk_frozen hbox 2; have f3_ := blk_frozen hbox 3; clear hb hbox hg))
        go_roundg g1
        case measure => omega
        case rel =>
          exact ⟨i + 1, by rw [hw, Int.natCast_add]; rfl, by have := HI.out; omega, ⟨by rw [HSN.out, HOUT.out]; exact HST.out.below (by repeat (first | exact HB1.out | refine below_set ?_ GE1.out))⟩, ⟨thn HB.out (by repeat (first | exact HB1.out | refine below_set ?_ GE1.out))⟩⟩
      · have he5 : b.f0.toList = ex.toList := eq_of_beq he
        have HOUT : Aside0 (outerP ex key st b = innerP key b.f1 st (digitsN b)) := ⟨if_pos he⟩
        obtain ⟨D, hD⟩ : ∃ D, lim b.f3 = D := ⟨_, rfl⟩
        have HD10 : Aside0 (D ≤ 10) := ⟨by rw [← hD]; unfold lim; split <;> omega⟩
        have HDN : Aside0 (digitsN b = D.toNat) := ⟨by unfold digitsN; rw [hD]⟩
        clear he
        go_wp2_with (first
          | ((with_reducible refine gate_dst (N := 11) rfl ?_); refine box_event ?hg (N := 11) ?hd (cs := #[.string ⟨#[]⟩, .string ⟨#[]⟩, .string ⟨#[]⟩, .int .i64 0]) (t := 28) ?hr ?_; (case hd => rfl); (case hg => rfl); (case hr => first | (go_simp; done) | (go_simp; rfl)); intro g1_ hg w9 hbox hb; have HB1 := Aside0.mk hb; have HX1 := Aside0.mk hbox; have GE1 := Aside0.mk (show wr.heap.size ≤ g1_ by rw [hg]; exact Nat.le_refl _); have z0 : w9.cell? ⟨g1_, 0, none⟩ = some (.string ⟨#[]⟩) := (blk_cell hbox 0).trans rfl; have z1 : w9.cell? ⟨g1_, 1, none⟩ = some (.string ⟨#[]⟩) := (blk_cell hbox 1).trans rfl; have z2 : w9.cell? ⟨g1_, 2, none⟩ = some (.string ⟨#[]⟩) := (blk_cell hbox 2).trans rfl; have z3 : w9.cell? ⟨g1_, 3, none⟩ = some (.int .i64 0) := (blk_cell hbox 3).trans rfl; have f0_ := blk_frozen hbox 0; have f1_ := blk_frozen hbox 1; have f2_ := blk_frozen hbox 2; have f3_ := blk_frozen hbox 3; clear hb hbox hg))
        go_loopg [7, 8, 29] D.toNat (fun g v7 v8 v29 wi => ∃ (j : Nat), v29 = .int .i64 j ∧ g + j = D.toNat ∧ Aside0 (StIs w.heap.size wi (innerP key b.f1 st j) v7 v8) ∧ Aside0 (Below wr.heap.size wr wi) ∧ Aside0 (wi.heap[g1_]? = some (.cells (cB b) 28 (0, 0))))
        case atStart =>
          exact ⟨0, rfl, by omega, ⟨HST.out.below (by repeat (first | exact HB1.out | refine below_set ?_ GE1.out))⟩, ⟨by repeat (first | exact HB1.out | refine below_set ?_ GE1.out)⟩, ⟨blk_set (blk_set (blk_set (blk_set HX1.out 0 (.string b.f0)) 1 (.string b.f1)) 2 (.string b.f2)) 3 (.int .i64 b.f3)⟩⟩
        case round =>
          clear z0 z1 z2 z3 f0_ f1_ f2_ f3_ hx0 hx1 hx2 hx3
          obtain ⟨j, rfl, hgj, HSI, HBI, HXI⟩ := hrel
          cases gk with
          | zero =>
            have hj : ¬ ((j : Int) < D) := by clear hw hD; omega
            have HJ : Aside0 (D.toNat = j) := ⟨by clear hw hD; omega⟩
            clear hgj
            go_wp2
            go_roundg g1
            case measure => omega
            case rel => exact ⟨i + 1, by rw [Int.natCast_add]; rfl, by have := HI.out; omega, ⟨by rw [HSN.out, HOUT.out, HDN.out, HJ.out]; exact HSI.out⟩, ⟨thn HB.out HBI.out⟩⟩
          | succ g2 =>
            have hj : (j : Int) < D := by clear hw hD; omega
            have HJ10 : Aside0 (j < 100) := ⟨by have := HD10.out; clear hw hD; omega⟩
            have hw2 : wrap64 ((j : Int) + 1) = (j : Int) + 1 := w64 _ (by clear hw hD; omega) (by have := HJ10.out; clear hw hD; omega)
            have HGJ := Aside0.mk hgj
            have k1 : wr.cell? ⟨g1_, 1, none⟩ = some (.string b.f1) := (blk_cell HXI.out 1).trans rfl
            obtain ⟨v, hv⟩ : ∃ v, wayP key b.f1 j = v := ⟨_, rfl⟩
            have HV := Aside0.mk hv
            clear hgj hv
            obtain ⟨sj, hsj⟩ : ∃ sj, innerP key b.f1 st j = sj := ⟨_, rfl⟩
            rw [hsj] at HSI
            have HIN : Aside0 (innerP key b.f1 st (j + 1) = pickP key b.f1 sj j) := ⟨by rw [inner_succ, hsj]⟩
            clear hsj
            have hs1 : b.f1.size + 1 ≤ 9223372036854775807 := by have := HQS.out; clear hw hD hw2; omega
            obtain ⟨dj, hdj⟩ : ∃ dj : ByteArray, (⟨(Lib.decDigits j).toArray⟩ : ByteArray) = dj := ⟨_, rfl⟩
            have hds : dj.size ≤ 10 := by rw [← hdj]; exact dec_len j HJ10.out
            have hs2 : b.f1.size + 1 + dj.size ≤ 9223372036854775807 := by have := HQS.out; clear hw hD hw2; omega
            have hs3 : (b.f1 ++ (⟨#[35]⟩ : ByteArray)).size + dj.size ≤ 9223372036854775807 := by rw [ByteArray.size_append]; exact hs2
            have HSZ : Aside0 ((b.f1 ++ (⟨#[35]⟩ : ByteArray) ++ dj).size ≤ 1000000) := ⟨by rw [ByteArray.size_append, ByteArray.size_append]; have := HQS.out; show b.f1.size + 1 + dj.size ≤ 1000000; clear hw hD hw2; omega⟩
            obtain ⟨o, ho⟩ : ∃ o, OF (b.f1 ++ (⟨#[35]⟩ : ByteArray) ++ dj) = o := ⟨_, rfl⟩
            have HOF := Aside0.mk ho
            have HOV : Aside0 ((o - OF key) % 4294967296 = v) := ⟨by rw [← HV.out, ← ho, ← hdj]; rfl⟩
            clear ho
            cases sj with
            | none =>
              obtain ⟨rfl, rfl⟩ := HSI.out
              go_wp2
              go_quiet (first
                | (go_at_call 34; refine (Tryd.strconv_Itoa_small j HJ10.out _).mono ?_; rintro e w' ⟨rfl, rfl⟩; rw [hdj]; exact ⟨rfl, _, rfl⟩)
                | (go_at_call 32; refine (Of_is (b.f1 ++ (⟨#[35]⟩ : ByteArray) ++ dj) HSZ.out _).mono ?_; rintro e w' ⟨rfl, n, rfl⟩; rw [HOF.out]; exact ⟨rfl, _, World.drewN_drewN _ _ _⟩)
                | (go_at_call 33; refine (Way_is (OF key) o _).mono ?_; rintro e w' ⟨rfl, n, rfl⟩; rw [HOV.out]; exact ⟨rfl, _, World.drewN_drewN _ _ _⟩))
              go_wp2
              go_roundg g2
              case measure => omega
              case rel => exact ⟨j + 1, by rw [hw2, Int.natCast_add]; rfl, by have := HGJ.out; omega, ⟨by rw [HIN.out]; show StIs _ _ (some (b.f1, wayP key b.f1 j)) _ _; rw [HV.out]; exact ⟨rfl, _, _, rfl, ⟨fun _ _ => trivial, OwnRow.lit _ w.heap.size (ps := [b.f1]) (inner := [.string b.f1]) (Kd.reps_scalar [b.f1]) (thn HB.out (pw_below_drewN HBI.out nq)).size (by rw [List.length_singleton]; decide)⟩⟩⟩, ⟨below_alloc (pw_below_drewN HBI.out nq) _⟩, ⟨blk_alloc (blk_drewN HXI.out nq) _⟩⟩
            | some pr =>
              obtain ⟨p, u⟩ := pr
              obtain ⟨rfl, A7, c7, rfl, -⟩ := HSI.out
              by_cases hvu : v < u
              · have HPK : Aside0 (pickP key b.f1 (some (p, u)) j = some (b.f1, v)) := ⟨by unfold pickP; rw [HV.out]; exact if_pos hvu⟩
                go_wp2
                go_quiet (first
                  | (go_at_call 34; refine (Tryd.strconv_Itoa_small j HJ10.out _).mono ?_; rintro e w' ⟨rfl, rfl⟩; rw [hdj]; exact ⟨rfl, _, rfl⟩)
                  | (go_at_call 32; refine (Of_is (b.f1 ++ (⟨#[35]⟩ : ByteArray) ++ dj) HSZ.out _).mono ?_; rintro e w' ⟨rfl, n, rfl⟩; rw [HOF.out]; exact ⟨rfl, _, World.drewN_drewN _ _ _⟩)
                  | (go_at_call 33; refine (Way_is (OF key) o _).mono ?_; rintro e w' ⟨rfl, n, rfl⟩; rw [HOV.out]; exact ⟨rfl, _, World.drewN_drewN _ _ _⟩))
                go_wp2
                go_roundg g2
                case measure => omega
                case rel => exact ⟨j + 1, by rw [hw2, Int.natCast_add]; rfl, by have := HGJ.out; omega, ⟨by rw [HIN.out]; rw [HPK.out]; exact ⟨rfl, _, _, rfl, ⟨fun _ _ => trivial, OwnRow.lit _ w.heap.size (ps := [b.f1]) (inner := [.string b.f1]) (Kd.reps_scalar [b.f1]) (thn HB.out (pw_below_drewN HBI.out nq)).size (by rw [List.length_singleton]; decide)⟩⟩⟩, ⟨below_alloc (pw_below_drewN HBI.out nq) _⟩, ⟨blk_alloc (blk_drewN HXI.out nq) _⟩⟩
              · have HPK : Aside0 (pickP key b.f1 (some (p, u)) j = some (p, u)) := ⟨by unfold pickP; rw [HV.out]; exact if_neg hvu⟩
                go_wp2
                go_quiet (first
                  | (go_at_call 34; refine (Tryd.strconv_Itoa_small j HJ10.out _).mono ?_; rintro e w' ⟨rfl, rfl⟩; rw [hdj]; exact ⟨rfl, _, rfl⟩)
                  | (go_at_call 32; refine (Of_is (b.f1 ++ (⟨#[35]⟩ : ByteArray) ++ dj) HSZ.out _).mono ?_; rintro e w' ⟨rfl, n, rfl⟩; rw [HOF.out]; exact ⟨rfl, _, World.drewN_drewN _ _ _⟩)
                  | (go_at_call 33; refine (Way_is (OF key) o _).mono ?_; rintro e w' ⟨rfl, n, rfl⟩; rw [HOV.out]; exact ⟨rfl, _, World.drewN_drewN _ _ _⟩))
                go_wp2
                go_roundg g2
                case measure => omega
                case rel => exact ⟨j + 1, by rw [hw2, Int.natCast_add]; rfl, by have := HGJ.out; omega, ⟨by rw [HIN.out]; rw [HPK.out]; exact HSI.out.below (pw_below_drewN (Below.refl _ _) nq)⟩, ⟨pw_below_drewN HBI.out nq⟩, ⟨blk_drewN HXI.out nq⟩⟩
end Go.Proofs.YtpmalfabeajepaaDoor.Rt
