/-
  The log's methods once more: what else stands.
  Conditions: none.
-/
import Derived.Test.YtnnlmbmgaajmhaaLm
namespace Go.Proofs.Ytnnlmbmgaajmhaa.Seg
open Go.RowKit Go.Proofs.YtnnlmbmgaajmhaaW.PrintWords Go.Proofs.YtnnlmbmgaajmhaaW.PrintLast Go.Proofs.YtnnlmbmgaajmhaaW.PrintMore Go.Proofs.YtnnlmbmgaajmhaaG Go.Proofs.Ytnnlmbmgaajmhaa.PGa
set_option linter.unusedVariables false
set_option linter.unusedSimpArgs false

/-- What is no row of bytes, and no log, is as it was. -/
def Other (w w' : World) : Prop := ∀ (k : Nat) (cs : Array Value) (t : TypeId), w.heap[k]? = some (.cells cs t (0, 0)) → t ≠ 5 → t ≠ 73 → w'.heap[k]? = some (.cells cs t (0, 0))
theorem Other.refl (w : World) : Other w w := fun _ _ _ h _ _ => h
theorem Other.trans {a b c : World} (h : Other a b) (h2 : Other b c) : Other a c := fun k cs t hk h5 h7 => h2 k cs t (h k cs t hk h5 h7) h5 h7
theorem Other.below {w w' : World} (h : Below w.heap.size w w') : Other w w' := fun k cs t hk _ _ => (h.block k (blk_lt hk)).trans hk
theorem Other.drew {a w : World} (h : Other a w) : Other a w.drew := h
theorem Other.grown {N : Nat} {w w1 : World} {v : Value} {l : List Int} (hr : By N w v l) (hg : w.grownBy w1 v.ownBlock) : Other w w1 := fun k cs t hk h5 _ => (hg.block k (blk_lt hk) (Kd.R_ne hr hk (fun h => h5 h.symm))).trans hk
theorem Other.set {a w : World} (h : Other a w) {lp : Nat} {cs : Array Value} (hb : w.heap[lp]? = some (.cells cs 73 (0, 0))) (j : Nat) (v : Value) : Other a (w.setCell ⟨lp, j, none⟩ v) := fun k ds t hk h5 h7 => by
  have h2 := h k ds t hk h5 h7
  rw [Below.heap_setCell w ⟨lp, j, none⟩ v k (fun he => by
    have he : k = lp := he
    subst he
    rw [hb] at h2
    simp only [Option.some.injEq, Obj.cells.injEq] at h2
    exact h7 h2.2.1.symm)]
  exact h2

theorem Put_o {N : Nat} {w : World} {lp : Nat} {s t : List Int} {b : Bool} {vs vt : Value} (h : Lg N w lp s t b vs vt) (hN : N ≤ w.heap.size)
    (A : Option Addr) (c : Nat) (l r : List Int) (x : Int) (k : Nat) (hr : Kd.C (Kd.int .u8) w A l.length l) (hc : l.length ≤ c) (hf : seg_Record.f k l = some (r, x)) (hm : t.length + r.length ≤ 140737488355328) :
    Calls Try.prog 23 #[.pointer (some ⟨lp, 0, none⟩), .slice A l.length c] w fun e w' => e = .returned (.int .i64 x) ∧ Below N w w' ∧ Other w w' ∧ ∃ vt', Lg N w' lp s (t ++ r) b vs vt' := by
  have HL := Aside0.mk h
  have HR := Aside0.mk hr
  have HC := Aside0.mk hc
  have HF := Aside0.mk hf
  have HM := Aside0.mk hm
  have HN := Aside0.mk hN
  clear h hr hc hf hm hN
  go_enter Try.func23, Try.ntmps23
  go_upto_region 4 with (go_at_call 11; refine (seg_Record.calls k A c l r x _ HR.out HC.out HF.out).mono ?_; rintro e w' ⟨v, rfl, hv, hb⟩; have HV := Aside0.mk hv; have HB := Aside0.mk hb; clear hv hb)
  have hL := HL.out.below HB.out
  have h1 := hL.c1
  have hf1 := hL.fr 1
  obtain ⟨A1, c1, rfl, hc1, hr1⟩ := Kd.R_reads HV.out
  have HR1 := Aside0.mk hr1
  have HL1 := Aside0.mk hL
  clear HV HL hr1 hL hc1
  go_wp2_with (at_builtin; refine halt_here ?_)
  refine Hid.mk ?_
  refine append_by rfl (.tmp 18) (.tmp 19) rfl N vt t r A1 c1 rfl rfl HL1.out.rt HR1.out (Nat.le_trans HN.out HB.out.size) HM.out ?_
  intro v1 w1 ho hg hb hat
  have hL := HL1.out.put hg ho hat
  have hb1 := blk_c (HL1.out.grown_t hg).1 1
  have hf1' := blk_f (HL1.out.grown_t hg).1 1
  have hbe : Below N w (w1.setCell ⟨lp, 1, none⟩ v1) := below_setN (Below.trans (HB.out.mono HN.out) hb) HL1.out.le
  have hb1 : w1.cell? ⟨lp, 1, none⟩ = some vt := hb1
  have HOT := Aside0.mk (Other.set ((Other.below HB.out).trans (Other.grown HL1.out.rt hg)) (HL1.out.grown_t hg).1 1 v1)
  obtain ⟨u, hu⟩ : ∃ u : List Int, u = t ++ r := ⟨_, rfl⟩
  rw [← hu] at ho hL
  have HU := Aside0.mk hu
  clear hu
  obtain ⟨A2, c2, rfl, -, -⟩ := Kd.R_reads ho
  have HL2 := Aside0.mk hL
  have HBE := Aside0.mk hbe
  clear hL hbe hat hb hg ho HL1 HR1 hf1 h1
  go_wp2
  go_ret
  exact ⟨rfl, HBE.out, HOT.out, by rw [← HU.out]; exact ⟨_, HL2.out⟩⟩

theorem Begin_ok_o {N : Nat} {w : World} {lp : Nat} {s t : List Int} {b : Bool} {vs vt : Value} (h : Lg N w lp s t b vs vt) (hN : N ≤ w.heap.size)
    (A : Option Addr) (c : Nat) (l r : List Int) (k : Nat) (hr : Kd.C (Kd.int .u8) w A l.length l) (hc : l.length ≤ c) (hf : seg_Record.f k l = some (r, 0)) :
    Calls Try.prog 27 #[.pointer (some ⟨lp, 0, none⟩), .slice A l.length c] w fun e w' => e = .returned (.int .i64 0) ∧ Below N w w' ∧ Other w w' ∧ ∃ vt', Lg N w' lp s r true vs vt' := by
  have HL := Aside0.mk h
  have HR := Aside0.mk hr
  have HC := Aside0.mk hc
  have HF := Aside0.mk hf
  have HN := Aside0.mk hN
  clear h hr hc hf hN
  go_enter Try.func27, Try.ntmps27
  go_upto_region 5 with (go_at_call 11; refine (seg_Record.calls k A c l r 0 _ HR.out HC.out HF.out).mono ?_; rintro e w' ⟨v, rfl, hv, hb⟩; have HV := Aside0.mk hv; have HB := Aside0.mk hb; clear hv hb)
  have hL := HL.out.below HB.out
  have h1 : w'.cell? ⟨lp, 1, none⟩ = some vt := hL.c1
  have h2 : w'.cell? ⟨lp, 2, none⟩ = some (.bool b) := hL.c2
  have hf1 := hL.fr 1
  have hf2 := hL.fr 2
  have hL2 := hL.begin_ (Kd.R_lower HV.out HN.out) (fun e => by
    rcases hk : vs.ownBlock with _ | j
    · rfl
    · have a1 := By.lt HL.out.rs j hk
      have a2 := Kd.R_base HV.out j (e ▸ hk)
      omega)
  have HBE := Aside0.mk (below_setN (j := 2) (v := .bool true) (below_setN (j := 1) (v := v) (HB.out.mono HN.out) HL.out.le) HL.out.le)
  have HOT := Aside0.mk (Other.set (Other.set (Other.below HB.out) (HL.out.below HB.out).blk 1 v) (blk_set (HL.out.below HB.out).blk 1 v) 2 (.bool true))
  have HL2 := Aside0.mk hL2
  clear hL hL2
  obtain ⟨A1, c1, rfl, -, -⟩ := Kd.R_reads HV.out
  clear HV
  go_wp2
  go_ret
  exact ⟨rfl, HBE.out, HOT.out, _, HL2.out⟩
theorem Begin_err_o {N : Nat} {w : World} {lp : Nat} {s t : List Int} {b : Bool} {vs vt : Value} (h : Lg N w lp s t b vs vt) (hN : N ≤ w.heap.size)
    (A : Option Addr) (c : Nat) (l r : List Int) (x : Int) (hx : x ≠ 0) (k : Nat) (hr : Kd.C (Kd.int .u8) w A l.length l) (hc : l.length ≤ c) (hf : seg_Record.f k l = some (r, x)) :
    Calls Try.prog 27 #[.pointer (some ⟨lp, 0, none⟩), .slice A l.length c] w fun e w' => e = .returned (.int .i64 x) ∧ Below N w w' ∧ Other w w' ∧ Lg N w' lp s t b vs vt := by
  have HL := Aside0.mk h
  have HR := Aside0.mk hr
  have HC := Aside0.mk hc
  have HF := Aside0.mk hf
  have HN := Aside0.mk hN
  clear h hr hc hf hN
  have hx' : (x == 0) = false := beq_eq_false_iff_ne.mpr hx
  clear hx
  go_enter Try.func27, Try.ntmps27
  go_wp2_with (go_at_call 11; refine (seg_Record.calls k A c l r x _ HR.out HC.out HF.out).mono ?_; rintro e w' ⟨v, rfl, hv, hb⟩; have HV := Aside0.mk hv; have HB := Aside0.mk hb; clear hv hb)
  go_ret
  exact ⟨rfl, HB.out.mono HN.out, Other.below HB.out, HL.out.below HB.out⟩

theorem Sync_plain_o {N : Nat} {w : World} {lp : Nat} {s t : List Int} {vs vt : Value} (h : Lg N w lp s t false vs vt) (hN : N ≤ w.heap.size) (hm : s.length + t.length ≤ 140737488355328) :
    Calls Try.prog 22 #[.pointer (some ⟨lp, 0, none⟩)] w fun e w' => (∃ v, e = .returned v) ∧ Below N w w' ∧ Other w w' ∧ ∃ vs', Lg N w' lp (s ++ t) [] false vs' (.slice none 0 0) := by
  have HL := Aside0.mk h
  have HNN := Aside0.mk hN
  have HM := Aside0.mk hm
  have h0 : w.cell? ⟨lp, 0, none⟩ = some vs := h.c0
  have h1 : w.cell? ⟨lp, 1, none⟩ = some vt := h.c1
  have h2 : w.cell? ⟨lp, 2, none⟩ = some (.bool false) := h.c2
  have hf0 := h.fr 0
  have hf1 := h.fr 1
  have hf2 := h.fr 2
  clear h hN hm
  have HBW := Aside0.mk (Below.refl N w)
  obtain ⟨A1, c1, rfl, hc1, hr1⟩ := Kd.R_reads HL.out.rt
  go_enter Try.func22, Try.ntmps22
  go_upto_region 3 with fail
  have hr2 := Aside0.mk hr1
  clear hr1 hc1
  go_region_law ((refine append_by_step (by rfl) (.tmp 15) (.tmp 19) rfl N vs s t A1 c1 rfl rfl (by repeat (first | exact HL.out.rs | apply Kd.R_drew)) (by repeat (first | exact hr2.out | apply Kd.C_drew)) HNN.out HM.out ?_; intro v1 w1 ho hg hb hat; have hW := HL.out.drew.grown_s hg; have hk0 := blk_c hW.1 0; have hk0 : w1.cell? ⟨lp, 0, none⟩ = some vs := hk0; have hkf := blk_f hW.1 0; have hk1 := blk_c hW.1 1; have hk1 : w1.cell? ⟨lp, 1, none⟩ = some (.slice A1 t.length c1) := hk1; have hkf1 := blk_f hW.1 1; have hk2 := blk_c hW.1 2; have hk2 : w1.cell? ⟨lp, 2, none⟩ = some (.bool false) := hk2; have hkf2 := blk_f hW.1 2; have HOT := Aside0.mk (Other.set (Other.set (Other.set ((Other.drew (Other.refl w)).trans (Other.grown HL.out.drew.rs hg)) (HL.out.drew.grown_s hg).1 0 v1) (blk_set (HL.out.drew.grown_s hg).1 0 v1) 1 (.slice none 0 0)) (blk_set (blk_set (HL.out.drew.grown_s hg).1 0 v1) 1 (.slice none 0 0)) 2 (.bool false)); have HS := Aside0.mk (Lg.sync_ HL.out.drew hg ho); have HBE := Aside0.mk (below_setN (j := 2) (v := .bool false) (below_setN (j := 1) (v := .slice none 0 0) (below_setN (j := 0) (v := v1) (Below.trans HBW.out.drew hb) HL.out.le) HL.out.le) HL.out.le); obtain ⟨u, hu⟩ : ∃ u : List Int, u = s ++ t := ⟨_, rfl⟩; rw [← hu] at ho HS; have HU := Aside0.mk hu; clear hu; obtain ⟨A2, c2, rfl, -, -⟩ := Kd.R_reads ho; clear hat hb hg ho hW))
  all_goals
   go_wp2
   refine bodyPost_end (results_list (rs := []) (vs := []) rfl (by decide) .nil) rfl ?_
   exact ⟨⟨_, rfl⟩, HBE.out, HOT.out, _, by rw [← HU.out]; exact HS.out⟩
theorem Sync_anew_o {N : Nat} {w : World} {lp : Nat} {s t : List Int} {vs vt : Value} (h : Lg N w lp s t true vs vt) (hN : N ≤ w.heap.size) (hm : t.length ≤ 140737488355328) :
    Calls Try.prog 22 #[.pointer (some ⟨lp, 0, none⟩)] w fun e w' => (∃ v, e = .returned v) ∧ Below N w w' ∧ Other w w' ∧ ∃ vs', Lg N w' lp t [] false vs' (.slice none 0 0) := by
  have HL0 := Aside0.mk h
  have HNN := Aside0.mk hN
  have HM : Aside0 (([] : List Int).length + t.length ≤ 140737488355328) := Aside0.mk (by simpa using hm)
  have h0 : w.cell? ⟨lp, 0, none⟩ = some vs := h.c0
  have h1 : w.cell? ⟨lp, 1, none⟩ = some vt := h.c1
  have h2 : w.cell? ⟨lp, 2, none⟩ = some (.bool true) := h.c2
  have hf0 := h.fr 0
  have hf1 := h.fr 1
  have hf2 := h.fr 2
  clear h hN hm
  have HBW := Aside0.mk (below_setN (j := 0) (v := .slice none 0 0) (Below.refl N w) HL0.out.le)
  have HB0 := Aside0.mk HL0.out.blk
  have HL := Aside0.mk HL0.out.cleared
  clear HL0
  obtain ⟨A1, c1, rfl, hc1, hr1⟩ := Kd.R_reads HL.out.rt
  go_enter Try.func22, Try.ntmps22
  go_upto_region 3 with fail
  have hr2 := Aside0.mk hr1
  clear hr1 hc1
  go_region_law ((refine append_by_step (by rfl) (.tmp 15) (.tmp 19) rfl N (.slice none 0 0) [] t A1 c1 rfl rfl (by repeat (first | exact HL.out.rs | apply Kd.R_drew)) (by repeat (first | exact hr2.out | apply Kd.C_drew)) (Nat.le_trans HNN.out HBW.out.size) HM.out ?_; intro v1 w1 ho hg hb hat; have hW := HL.out.drew.grown_s hg; have hk0 := blk_c hW.1 0; have hk0 : w1.cell? ⟨lp, 0, none⟩ = some (.slice none 0 0) := hk0; have hkf := blk_f hW.1 0; have hk1 := blk_c hW.1 1; have hk1 : w1.cell? ⟨lp, 1, none⟩ = some (.slice A1 t.length c1) := hk1; have hkf1 := blk_f hW.1 1; have hk2 := blk_c hW.1 2; have hk2 : w1.cell? ⟨lp, 2, none⟩ = some (.bool true) := hk2; have hkf2 := blk_f hW.1 2; have HOT := Aside0.mk (Other.set (Other.set (Other.set ((Other.drew (Other.set (Other.refl w) HB0.out 0 (.slice none 0 0))).trans (Other.grown HL.out.drew.rs hg)) (HL.out.drew.grown_s hg).1 0 v1) (blk_set (HL.out.drew.grown_s hg).1 0 v1) 1 (.slice none 0 0)) (blk_set (blk_set (HL.out.drew.grown_s hg).1 0 v1) 1 (.slice none 0 0)) 2 (.bool false)); have HS := Aside0.mk (Lg.sync_ HL.out.drew hg ho); have HBE := Aside0.mk (below_setN (j := 2) (v := .bool false) (below_setN (j := 1) (v := .slice none 0 0) (below_setN (j := 0) (v := v1) (Below.trans HBW.out.drew hb) HL.out.le) HL.out.le) HL.out.le); obtain ⟨u, hu⟩ : ∃ u : List Int, u = [] ++ t := ⟨_, rfl⟩; rw [← hu] at ho HS; have HU := Aside0.mk hu; clear hu; obtain ⟨A2, c2, rfl, -, -⟩ := Kd.R_reads ho; clear hat hb hg ho hW))
  all_goals
   go_wp2
   refine bodyPost_end (results_list (rs := []) (vs := []) rfl (by decide) .nil) rfl ?_
   exact ⟨⟨_, rfl⟩, HBE.out, HOT.out, _, by have h := HS.out; have hu : u = t := HU.out; subst hu; exact h⟩
end Go.Proofs.Ytnnlmbmgaajmhaa.Seg
