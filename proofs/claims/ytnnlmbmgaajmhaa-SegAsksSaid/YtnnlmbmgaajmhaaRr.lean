/-
  The document's reading of records: its contract.
  Conditions: none.
-/
import Derived.Test.YtnnlmbmgaajmhaaLm
import Derived.Test.YtnnlmbmgaajmhaaSgS
namespace Go.Proofs.Ytnnlmbmgaajmhaa.Seg
open Go.RowKit Go.Proofs.YtnnlmbmgaajmhaaW.PrintWords Go.Proofs.YtnnlmbmgaajmhaaW.PrintLast Go.Proofs.YtnnlmbmgaajmhaaW.PrintMore Go.Proofs.YtnnlmbmgaajmhaaG Go.Proofs.Ytnnlmbmgaajmhaa.PGr Go.Proofs.Ytnnlmbmgaajmhaa.Sg
set_option linter.unusedVariables false
set_option linter.unusedSimpArgs false

/-- A row of texts of one's own. -/
abbrev Ts (N : Nat) (w : World) (v : Value) (l : List ByteArray) : Prop := Kd.R Kd.string 9 w N (fun _ => True) v l
theorem C_lit_str (w : World) (x : ByteArray) (fr : Nat × Nat) : Kd.C Kd.string (w.alloc (.cells #[.string x] 9 fr)) (some ⟨w.heap.size, 0, none⟩) 1 [x] := by
  refine ⟨rfl, by decide, fun _ => ⟨_, rfl, fun j p hj => ⟨[.string p], rfl, rfl, fun i u hu => ?_⟩⟩⟩
  have hi : i = 0 := by
    have := (List.getElem?_eq_some_iff.1 hu).1
    simpa using this
  subst hi
  have hj0 : j = 0 := by
    have := (List.getElem?_eq_some_iff.1 hj).1
    simpa using this
  subst hj0
  have hp : x = p := by simpa using hj
  subst hp
  have hu' : .string x = u := by simpa using hu
  subst hu'
  exact World.cell?_alloc_mark w _ 9 fr 0
/-- append(l, x), texts. -/
theorem append_str {ops : Array Oper} {rest : List Oper} {o : Oper} {a : Act} {w : World} {Q : Exit → Act → World → Prop} (hgd : o.guard = none) (s x : Operand) (ho : o.op = .call { callee := .builtin .append, args := #[s, x], argTypes := #[31, 31] }) (N : Nat) (v : Value) (xs ys : List ByteArray) (A : Option Addr) (n c : Nat)
    (hs : a.eval s = v) (hx : a.eval x = .slice A n c) (hn : n = ys.length) (hr : Ts N w v xs) (hy : Kd.C Kd.string w A ys.length ys) (hN : N ≤ w.heap.size) (hl : (xs.length + ys.length) * 16 ≤ 140737488355328)
    (h : ∀ v1 w1, Ts N w1 v1 (xs ++ ys) → Below N w w1 → wpList Try.prog ops Q rest (a.put o.dst v1) w1) : wpList Try.prog ops Q (o :: rest) a w := by
  subst hn
  exact Kd.R_append_rows Kd.string (w0 := w) N hgd s x 31 9 (.string ⟨#[]⟩) 16 ho Try.underlying31 (by kernel_rfl) rfl (by decide) (by omega) v xs ys A _ c (fun _ => True) (fun _ => False) hs hx hr hy (fun _ _ h => h) (fun _ h => h.elim) (fun _ _ => trivial) (Below.refl _ _) hN hl
    (fun v1 w1 h1 h2 h3 h4 => h v1 w1 h1 h2)
theorem S69_c1 {w0 W : World} {g : Nat} {f0 : ByteArray} {f1 : Bool} (h : IsS69 w0 W g f0 f1) : W.cell? ⟨g, 1, none⟩ = some (.bool f1) := cell_of_row W g 1 _ 69 (0, 0) h.1
/-- A row of texts lies ahead of a block n. -/
abbrev Tn (n N : Nat) (w : World) (v : Value) (l : List ByteArray) : Prop := Kd.R Kd.string 9 w N (fun k => k < n) v l
theorem Ts.ahead {N : Nat} {w : World} {v : Value} {l : List ByteArray} (h : Ts N w v l) : Tn w.heap.size N w v l := Kd.R_mono (Kd.R_bound h) (fun k hk => hk.2.2.1)
theorem Tn.keep {n N : Nat} {w w1 : World} {v : Value} {l : List ByteArray} (h : Tn n N w v l) (hk : KeepBut w w1 n none) : Tn n N w1 v l := Kd.R_keep h hk (fun k hk => Nat.ne_of_lt hk)
theorem Tn.back {n N : Nat} {w : World} {v : Value} {l : List ByteArray} (h : Tn n N w v l) : Ts N w v l := Kd.R_mono h (fun _ _ => trivial)

theorem ref_int2 (g : Nat) (t : ByteArray) (w0 w : World) (hI : IsS69 w0 w g t false) (hB : Below w0.heap.size w0 w) (h : 2 ≤ t.size) (n : Int) (hn : num (bytesOf t) = n) (t2 : ByteArray) (h2 : t2 = t.extract 2 t.size) :
    Calls Try.prog 34 #[.pointer (some ⟨g, 0, none⟩), .int .i64 2] w fun e w' => e = .returned (.int .i64 n) ∧ IsS69 w0 w' g t2 false ∧ Below w0.heap.size w0 w' ∧ KeepBut w w' g none := by
  subst hn
  subst h2
  exact carrefourref1_R_Int.calls 6 g t false 2 _ _ _ w0 w hI hB (int2 t h 6 (by decide))
theorem ref_big4 (g : Nat) (t : ByteArray) (w0 w : World) (hI : IsS69 w0 w g t false) (hB : Below w0.heap.size w0 w) (h : 4 ≤ t.size) (n : Int) (hn : num4 (bytesOf t) = n) (t2 : ByteArray) (h2 : t2 = t.extract 4 t.size) :
    Calls Try.prog 35 #[.pointer (some ⟨g, 0, none⟩), .int .i64 4] w fun e w' => e = .returned (.int .u64 n) ∧ IsS69 w0 w' g t2 false ∧ Below w0.heap.size w0 w' ∧ KeepBut w w' g none := by
  subst hn
  subst h2
  exact carrefourref1_R_Big.calls 8 g t false 4 _ _ _ w0 w hI hB (rbig4 t h 8 (by decide))
theorem ref_some (g : Nat) (t : ByteArray) (w0 w : World) (hI : IsS69 w0 w g t false) (hB : Below w0.heap.size w0 w) (n : Nat) (h : n ≤ t.size) (x : ByteArray) (hx : x = t.extract 0 n) :
    Calls Try.prog 36 #[.pointer (some ⟨g, 0, none⟩), .int .i64 (n : Int)] w fun e w' => e = .returned (.string x) ∧ (∃ t2, IsS69 w0 w' g t2 false) ∧ Below w0.heap.size w0 w' ∧ KeepBut w w' g none := by
  subst hx
  refine (carrefourref1_R_Some.calls 1 g t false n _ _ _ w0 w hI hB (some_ok 1 t n h (by decide))).mono ?_
  rintro e w' ⟨rfl, hi, hb, hk⟩
  exact ⟨rfl, ⟨_, hi⟩, hb, hk⟩
theorem ref_none (g : Nat) (t : ByteArray) (w0 w : World) (hI : IsS69 w0 w g t false) (hB : Below w0.heap.size w0 w) (n : Int) (h : (t.size : Int) < n) :
    Calls Try.prog 36 #[.pointer (some ⟨g, 0, none⟩), .int .i64 n] w fun e w' => e = .returned (.string ⟨#[]⟩) ∧ IsS69 w0 w' g ⟨#[]⟩ true ∧ Below w0.heap.size w0 w' ∧ KeepBut w w' g none :=
  carrefourref1_R_Some.calls 1 g t false n _ _ _ w0 w hI hB (some_bad 1 t n h (by decide))
theorem ref_may (s : ByteArray) (w : World) : Calls Try.prog 12 #[.string s] w fun e w' => e = .returned (.bool (decide (1 ≤ (bytesOf s).length ∧ (bytesOf s).length ≤ 20000))) ∧ Below w.heap.size w w' := by
  refine (carrefourref11_MayBytes.calls s _ w (may_is s)).mono ?_
  rintro e w' ⟨rfl, nd, rfl⟩
  exact ⟨rfl, pw_below_drewN (Below.refl _ _) _⟩
theorem ref_sum (s : ByteArray) (w : World) (hs : s.size < 1099511627776) : Calls Try.prog 18 #[.string s] w fun e w' => e = .returned (.int .u32 (sumP (bytesOf s))) ∧ Below w.heap.size w w' := by
  refine (carrefourref11_Sum.calls (s.size + 1) s _ w (rsum_is s hs (by omega))).mono ?_
  rintro e w' ⟨rfl, nd, rfl⟩
  exact ⟨rfl, pw_below_drewN (Below.refl _ _) _⟩
theorem ref_rec (s : ByteArray) (w : World) (hs : s.size < 1000000) : Calls Try.prog 13 #[.string s] w fun e w' => e = .returned (.string (strOfNums (recP (bytesOf s)))) ∧ Below w.heap.size w w' :=
  carrefourref11_Record.calls (s.size + 6) s _ w (rrec_is s hs (by omega))
end Go.Proofs.Ytnnlmbmgaajmhaa.Seg
