/-
  What the document tells of a few exchanges: told's walk.
  Conditions: none.
-/
import Derived.Test.YtpmalfabeajepaaDoorH2k
import Derived.Test.YtpmalfabeajepaaDoorFdk
import Derived.Test.YtpmalfabeajepaaDoorPGcx1
namespace Go.Proofs.YtpmalfabeajepaaDoor.Rt
open Go.RowKit Go.Proofs.YtpmalfabeajepaaDoorW.PrintWords Go.Proofs.YtpmalfabeajepaaDoorW.PrintLast Go.Proofs.YtpmalfabeajepaaDoorG Go.Proofs.YtpmalfabeajepaaDoor.PGa Go.Proofs.YtpmalfabeajepaaDoorH
set_option linter.unusedVariables false
set_option linter.unusedSimpArgs false

abbrev sA : ByteArray := ⟨#[97]⟩
abbrev sB : ByteArray := ⟨#[98]⟩
abbrev sQ : ByteArray := ⟨#[113]⟩
abbrev sK : ByteArray := ⟨#[107]⟩
abbrev ea : S25 := ⟨sA, 1⟩
abbrev ba : S28 := ⟨sA, sQ, sK, 0⟩
abbrev bb : S28 := ⟨sB, sQ, ⟨#[]⟩, 0⟩
abbrev CX (w : World) (A : Option Addr) (x : List S25) : Prop := Kd.C k25 w A x.length x
abbrev CB (w : World) (A : Option Addr) (l : List S28) : Prop := Kd.C k28 w A l.length l
theorem t1 (w : World) (hgl : Gl w) : Calls Tryd.prog 13 #[.slice none 0 0, .agg #[.string sA, .int .i64 1]] w fun ee w' => ∃ A' c', ee = .returned (.tuple #[.slice A' 1 c', .int .i64 0]) ∧ Kd.C k25 w' A' 1 [ea] ∧ 1 ≤ c' ∧ Below w.heap.size w w' :=
  Declare_is 10 none 0 [] ea [ea] 0 w (Kd.C_nil _ _) (Nat.le_refl _) (by decide +kernel) hgl (.inr ⟨by decide +kernel, .inl ⟨by decide +kernel, rfl, rfl⟩⟩)
theorem t2 (A : Option Addr) (c : Nat) (w : World) (hx : Kd.C k25 w A 1 [ea]) (hc : 1 ≤ c) (hgl : Gl w) : Calls Tryd.prog 13 #[.slice A 1 c, .agg #[.string sA, .int .i64 2]] w fun ee w' => ∃ A' c', ee = .returned (.tuple #[.slice A' 1 c', .int .i64 406]) ∧ Kd.C k25 w' A' 1 [ea] ∧ 1 ≤ c' ∧ Below w.heap.size w w' :=
  Declare_is 10 A c [ea] ⟨sA, 2⟩ [ea] 406 w hx hc (by decide +kernel) hgl (.inl ⟨0, by decide +kernel, by decide +kernel, rfl, .inr ⟨by decide +kernel, rfl⟩⟩)
theorem t3 (A : Option Addr) (c : Nat) (w : World) (hx : Kd.C k25 w A 1 [ea]) (hc : 1 ≤ c) (hgl : Gl w) : Calls Tryd.prog 12 #[.slice A 1 c, .slice none 0 0, .agg #[.string sA, .string sQ, .string sK, .int .i64 0]] w fun ee w' => ∃ A' c', ee = .returned (.tuple #[.slice A' 1 c', .int .i64 0]) ∧ Kd.C k28 w' A' 1 [ba] ∧ 1 ≤ c' ∧ Below w.heap.size w w' :=
  Bind_is 10 A c [ea] none 0 [] ba [ba] 0 w hx hc (by decide +kernel) (Kd.C_nil _ _) (Nat.le_refl _) (by decide +kernel) hgl (.inr ⟨0, by decide +kernel, .inr ⟨by decide +kernel, .inr ⟨by decide +kernel, .inl ⟨by decide +kernel, rfl, rfl⟩⟩⟩⟩)
theorem t4 (A : Option Addr) (c : Nat) (w : World) (hx : Kd.C k25 w A 1 [ea]) (hc : 1 ≤ c) (hgl : Gl w) : Calls Tryd.prog 12 #[.slice A 1 c, .slice none 0 0, .agg #[.string sB, .string sQ, .string ⟨#[]⟩, .int .i64 0]] w fun ee w' => ∃ A' c', ee = .returned (.tuple #[.slice A' 0 c', .int .i64 404]) ∧ Kd.C k28 w' A' 0 [] ∧ 0 ≤ c' ∧ Below w.heap.size w w' :=
  Bind_is 10 A c [ea] none 0 [] bb [] 404 w hx hc (by decide +kernel) (Kd.C_nil _ _) (Nat.le_refl _) (by decide +kernel) hgl (.inl ⟨by decide +kernel, rfl, rfl⟩)
theorem q1 : PGc.route_Queues.f 20 [ea] [ba] sA sK = some ([sQ], 0) := by kernel_rfl
theorem q2 : PGc.route_Queues.f 20 [] [] ⟨#[]⟩ sQ = some ([sQ], 0) := by kernel_rfl
theorem q3 : PGc.route_Queues.f 20 [ea] [ba] sB sK = some ([], 404) := by kernel_rfl
theorem f1_ : idxI (nameIs sA) [ea] = 0 := by decide +kernel
theorem f2_ : idxI (nameIs sB) [ea] = -1 := by decide +kernel
theorem m1_ : MayR 10 [ea] [ba] true := by decide +kernel
theorem one_str {w : World} {v : Value} {N : Nat} {q : ByteArray} (h : Kd.R Kd.string 9 w N (fun _ => True) v [q]) : ∃ g c, v = .slice (some ⟨g, 0, none⟩) 1 c ∧ w.cell? ⟨g, 0, none⟩ = some (.string q) := by
  obtain ⟨g, c, rfl, -⟩ := Kd.R_form h (by rw [List.length_singleton]; decide)
  obtain ⟨-, -, hc⟩ := Kd.R_reads' h
  obtain ⟨ad, cc, e, _, hK, hc0⟩ := Kd.C_get hc q 0 (by decide) (by rw [List.length_singleton]; decide)
  cases e
  have : cc = [.string q] := hK
  subst this
  exact ⟨g, c, rfl, hc0 0 _ rfl⟩
theorem zero_str {w : World} {v : Value} {N : Nat} (h : Kd.R Kd.string 9 w N (fun _ => True) v []) : ∃ A c, v = .slice A 0 c := by
  obtain ⟨A, c, rfl, -, hc⟩ := Kd.R_reads h
  exact ⟨A, c, rfl⟩
theorem Q1 (A B : Option Addr) (c d : Nat) (w : World) (hx : Kd.C k25 w A 1 [ea]) (hc : 1 ≤ c) (hy : Kd.C k28 w B 1 [ba]) (hd : 1 ≤ d) (hgl : Gl w) : Calls Tryd.prog 10 #[.slice A 1 c, .slice B 1 d, .string sA, .string sK] w fun e w' => ∃ g c, e = .returned (.tuple #[.slice (some ⟨g, 0, none⟩) 1 c, .int .i64 0]) ∧ w'.cell? ⟨g, 0, none⟩ = some (.string sQ) ∧ Below w.heap.size w w' :=
  (PGc.route_Queues.calls 20 A c [ea] B d [ba] sA sK _ _ w hgl hx hc hy hd q1).mono fun e w' ⟨v, he, hr, hb⟩ => by obtain ⟨g, c, rfl, h⟩ := one_str hr; exact ⟨g, c, he, h, hb⟩
theorem Q2 (w : World) (hgl : Gl w) : Calls Tryd.prog 10 #[.slice none 0 0, .slice none 0 0, .string ⟨#[]⟩, .string sQ] w fun e w' => ∃ g c, e = .returned (.tuple #[.slice (some ⟨g, 0, none⟩) 1 c, .int .i64 0]) ∧ Below w.heap.size w w' :=
  (PGc.route_Queues.calls 20 none 0 [] none 0 [] ⟨#[]⟩ sQ _ _ w hgl (Kd.C_nil _ _) (Nat.le_refl _) (Kd.C_nil _ _) (Nat.le_refl _) q2).mono fun e w' ⟨v, he, hr, hb⟩ => by obtain ⟨g, c, rfl, h⟩ := one_str hr; exact ⟨g, c, he, hb⟩
theorem Q3 (A B : Option Addr) (c d : Nat) (w : World) (hx : Kd.C k25 w A 1 [ea]) (hc : 1 ≤ c) (hy : Kd.C k28 w B 1 [ba]) (hd : 1 ≤ d) (hgl : Gl w) : Calls Tryd.prog 10 #[.slice A 1 c, .slice B 1 d, .string sB, .string sK] w fun e w' => ∃ A c, e = .returned (.tuple #[.slice A 0 c, .int .i64 404]) ∧ Below w.heap.size w w' :=
  (PGc.route_Queues.calls 20 A c [ea] B d [ba] sB sK _ _ w hgl hx hc hy hd q3).mono fun e w' ⟨v, he, hr, hb⟩ => by obtain ⟨g, c, rfl⟩ := zero_str hr; exact ⟨g, c, he, hb⟩
theorem F1 (A : Option Addr) (c : Nat) (w : World) (hx : Kd.C k25 w A 1 [ea]) : Calls Tryd.prog 14 #[.slice A 1 c, .string sA] w fun e w' => e = .returned (.int .i64 0) ∧ Below w.heap.size w w' := by
  have := Find_is A c [ea] sA w hx (by decide)
  rw [f1_] at this
  exact this
theorem F2 (A : Option Addr) (c : Nat) (w : World) (hx : Kd.C k25 w A 1 [ea]) : Calls Tryd.prog 14 #[.slice A 1 c, .string sB] w fun e w' => e = .returned (.int .i64 (-1)) ∧ Below w.heap.size w w' := by
  have := Find_is A c [ea] sB w hx (by decide)
  rw [f2_] at this
  exact this
theorem M1 (A B : Option Addr) (c d : Nat) (w : World) (hx : Kd.C k25 w A 1 [ea]) (hc : 1 ≤ c) (hy : Kd.C k28 w B 1 [ba]) (hgl : Gl w) : Calls Tryd.prog 8 #[.slice A 1 c, .slice B 1 d] w fun e w' => e = .returned (.bool true) ∧ Below w.heap.size w w' :=
  May_is 10 A c [ea] B d [ba] true w hx hc hy hgl m1_
set_option maxHeartbeats 8000000 in
theorem Told_is (w : World) (hgl : Gl w) : Calls Tryd.prog 9 #[] w fun e w' => e = .returned (.bool true) ∧ Below w.heap.size w w' := by
  have HGL := Aside0.mk hgl
  clear hgl
  go_enter Tryd.func9, Tryd.ntmps9
  go_wp2_with (first
    | (go_at_call 13; with_reducible refine (t1 _ HGL.out).mono ?_; rintro e w1 ⟨A1, c1, rfl, hc, hl, hb⟩; have HC1 := Aside0.mk hc; have HL1 := Aside0.mk hl; have HB1 := Aside0.mk hb; clear hc hl hb)
    | (go_at_call 13; with_reducible refine (t2 A1 c1 _ HC1.out HL1.out (Gl.below HGL.out HB1.out)).mono ?_; rintro e w2 ⟨A2, c2, rfl, -, -, hb⟩; have HC2 := Aside0.mk (Kd.C_below HC1.out hb); have HB2 := Aside0.mk (thn HB1.out hb); clear hb)
    | (go_at_call 12; with_reducible refine (t3 A1 c1 _ HC2.out HL1.out (Gl.below HGL.out HB2.out)).mono ?_; rintro e w3 ⟨A3, c3, rfl, hc, hl, hb⟩; have HC3 := Aside0.mk (Kd.C_below HC2.out hb); have HD3 := Aside0.mk hc; have HL3 := Aside0.mk hl; have HB3 := Aside0.mk (thn HB2.out hb); clear hb hc hl)
    | (go_at_call 12; with_reducible refine (t4 A1 c1 _ HC3.out HL1.out (Gl.below HGL.out HB3.out)).mono ?_; rintro e w4 ⟨A4, c4, rfl, -, -, hb⟩; have HC4 := Aside0.mk (Kd.C_below HC3.out hb); have HD4 := Aside0.mk (Kd.C_below HD3.out hb); have HB4 := Aside0.mk (thn HB3.out hb); clear hb)
    | (go_at_call 10; with_reducible refine (Q1 A1 A3 c1 c3 _ HC4.out HL1.out HD4.out HL3.out (Gl.below HGL.out HB4.out)).mono ?_; rintro e w5 ⟨g5, c5, rfl, hx, hb⟩; have HX5 := Aside0.mk hx; have HC5 := Aside0.mk (Kd.C_below HC4.out hb); have HD5 := Aside0.mk (Kd.C_below HD4.out hb); have HB5 := Aside0.mk (thn HB4.out hb); clear hb hx)
    | (go_at_call 10; with_reducible refine (Q2 _ (Gl.below HGL.out HB5.out)).mono ?_; rintro e w6 ⟨g6, c6, rfl, hb⟩; have HX6 := Aside0.mk ((hb.cell (World.block_lt_of_cell? _ _ HX5.out)).trans HX5.out); have HC6 := Aside0.mk (Kd.C_below HC5.out hb); have HD6 := Aside0.mk (Kd.C_below HD5.out hb); have HB6 := Aside0.mk (thn HB5.out hb); clear hb)
    | (go_at_call 10; with_reducible refine (Q3 A1 A3 c1 c3 _ HC6.out HL1.out HD6.out HL3.out (Gl.below HGL.out HB6.out)).mono ?_; rintro e w7 ⟨A7, c7, rfl, hb⟩; have hx := (hb.cell (World.block_lt_of_cell? _ _ HX6.out)).trans HX6.out; have HC7 := Aside0.mk (Kd.C_below HC6.out hb); have HD7 := Aside0.mk (Kd.C_below HD6.out hb); have HB7 := Aside0.mk (thn HB6.out hb); clear hb)
    | (go_at_call 14; with_reducible refine (F1 A1 c1 _ HC7.out).mono ?_; rintro e w8 ⟨rfl, hb⟩; have HC8 := Aside0.mk (Kd.C_below HC7.out hb); have HD8 := Aside0.mk (Kd.C_below HD7.out hb); have HB8 := Aside0.mk (thn HB7.out hb); clear hb hx)
    | (go_at_call 14; with_reducible refine (F2 A1 c1 _ HC8.out).mono ?_; rintro e w9 ⟨rfl, hb⟩; have HC9 := Aside0.mk (Kd.C_below HC8.out hb); have HD9 := Aside0.mk (Kd.C_below HD8.out hb); have HB9 := Aside0.mk (thn HB8.out hb); clear hb)
    | (go_at_call 8; with_reducible refine (M1 A1 A3 c1 c3 _ HC9.out HL1.out HD9.out (Gl.below HGL.out HB9.out)).mono ?_; rintro e w10 ⟨rfl, hb⟩; have HB10 := Aside0.mk (thn HB9.out hb); clear hb))
  go_ret
  exact ⟨rfl, HB10.out⟩
end Go.Proofs.YtpmalfabeajepaaDoor.Rt
