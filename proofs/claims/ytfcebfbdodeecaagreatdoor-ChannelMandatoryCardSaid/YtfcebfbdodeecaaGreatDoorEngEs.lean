/-
  A region whose order is drawn: a call, and beside it a new row.
  Conditions: none; plain theorems.
-/
import Derived.Test.YtfcebfbdodeecaaGreatDoorEngEr
namespace Go.Eng
open Go Go.RowKit
set_option linter.unusedVariables false
set_option linter.unusedSimpArgs false
section
variable {P : Program} {K : CallF} {N : Nat → Prop} {r s : Rn} {H H1 H2 : AH} {a : Fr} {c c0 : Act} {o : Oper} {w w0 : World} {v : Value}
/-- A new row: what it holds hangs on the slots alone. -/
theorem bs_inv {t : TypeId} {len : Nat} {parts : Array (Nat × Operand)} (ho : o.op = .buildSlice t len parts) (h : opA P a o H = some (v, H1)) :
    ∃ cs e, v = .slice (some ⟨H.next, 0, none⟩) len len ∧ H1 = H.new (.cells cs e false) ∧ H.next < 2 ^ hd ∧ ∀ (s : Rn) (c : Act) (w : World), FrR s a c → ∃ l' : Array Value, LR s cs l'.toList ∧ (execOp c.eval o).run P w = .ok (.value (.slice (some ⟨w.heap.size, 0, none⟩) len len)) (w.alloc (.cells l' e)) := by
  unfold opA at h
  rw [ho] at h
  dsimp only at h
  cases hu : P.underlying t with
  | none => rw [hu] at h; cases h
  | some d =>
    rw [hu] at h
    cases d <;> try (cases h; done)
    case slice e =>
      cases hp : evps a parts.toList with
      | none => rw [hp] at h; cases h
      | some ps =>
        rw [hp] at h
        dsimp only at h
        cases hs : sizeT P e with
        | none => rw [hs] at h; cases h
        | some size =>
          rw [hs] at h
          cases hz : zeroT P e with
          | none => rw [hz] at h; cases h
          | some z =>
            rw [hz] at h
            dsimp only at h
            cases hb : (Nat.beq (cellsOf z).length size && Nat.blt 0 size && Nat.ble (len * size) 16777216) with
            | false => rw [hb] at h; cases h
            | true =>
              rw [hb] at h
              rw [Bool.and_eq_true, Bool.and_eq_true] at hb
              have h1 := Nat.eq_of_beq_eq_true hb.1.1
              have h2 : 0 < size := Nat.le_of_ble_eq_true hb.1.2
              have h3 := Nat.le_of_ble_eq_true hb.2
              obtain ⟨i, hi, hz0, hpl⟩ := zeroT_some hz
              obtain ⟨i2, hi2, hsz⟩ := sizeT_some hs
              obtain rfl : i2 = i := Option.some.inj (hi2.symm.trans hi)
              dsimp only [cond_true] at h
              cases hf : fillL (fun i => some (i * size, size)) ps (repl len (cellsOf z)) with
              | none => rw [hf] at h; cases h
              | some out =>
                rw [hf] at h
                obtain ⟨ht, rfl, rfl⟩ := newO_some h
                refine ⟨out, e, rfl, rfl, ht, fun s c w hF => ?_⟩
                obtain ⟨out', g1, g2⟩ := fill_sound (pl' := fun i => some (i * i2.size, i2.size)) (fun i => by rw [hsz]) (evps_sound hF hp) (repl_range (r := s) len z size h1 h2 hpl) hf
                refine ⟨out', g2, ?_⟩
                unfold execOp
                rw [ho]
                by_cases h0 : len * i2.size = 0
                · have hl0 : len = 0 := by
                    rw [hsz] at h0
                    rcases Nat.mul_eq_zero.1 h0 with h | h
                    · exact h
                    · omega
                  subst hl0
                  have e0 : ∀ f : Nat → Value, Array.map f (Array.range 0) = #[] := fun f => by rw [show Array.range 0 = #[] from rfl]; simp
                  have g3 : Instr.fill (fun i => some (i * i2.size, i2.size)) #[] (parts.toList.map fun x => (x.fst, c.eval x.snd)) = some out' := by
                    rw [Nat.zero_mul, e0] at g1
                    exact g1
                  simp [Instr.buildSlice, run_underlying hu, sizeOf, typeInfo, hi, e0, g3, newRow, Sem.run_bind]
                · simp [run_buildSlice w t e len _ out' i2 z hu hi hz0 (by rw [hsz]; omega) h0 (by rw [hsz, Array.toList_map]; rw [hsz] at g1; exact g1), Sem.run_bind]
/-! ### Slots that are set -/
def pu (b : Bool) (d : Nat) (v : Value) (c : Act) : Act := cond b (c.put (some d) v) c
theorem put_swap {d d' : Nat} (h : d ≠ d') (c : Act) (v v' : Value) : (c.put (some d) v).put (some d') v' = (c.put (some d') v').put (some d) v := by
  unfold Act.put
  simp only [Array.setIfInBounds_comm v v' h]
theorem pu_put {b : Bool} {d d' : Nat} (h : d ≠ d') (c : Act) (v v' : Value) : (pu b d v c).put (some d') v' = pu b d v (c.put (some d') v') := by
  cases b with
  | false => rfl
  | true => exact put_swap h c v v'
theorem eval_put {d t : Nat} (h : t ≠ d) (c : Act) (v : Value) : (c.put (some d) v).eval (.tmp t) = c.eval (.tmp t) := by
  show (c.tmps.setIfInBounds d v).getD t undef = c.tmps.getD t undef
  rw [Array.getD_eq_getD_getElem?, Array.getD_eq_getD_getElem?, Array.getElem?_setIfInBounds_ne (Ne.symm h)]
theorem exec_put {all : Array Oper} {d : Nat} (hs : ∀ cs b, o.op ≠ .select cs b) (hf : (Oper.looksAt all o).contains d = false) (c : Act) (v : Value) : execOp (c.put (some d) v).eval o = execOp c.eval o := by
  refine execOp_congr o hs fun x hx => ?_
  cases x with
  | tmp t =>
    refine eval_put (fun e => ?_) c v
    subst e
    have hm : t ∈ Oper.looksAt all o := by
      unfold Oper.looksAt
      exact List.mem_append_left _ (List.mem_filterMap.2 ⟨.tmp t, by simpa using hx, rfl⟩)
    simp [hm] at hf
  | const v => rfl
  | global g => rfl
  | func f => rfl
theorem exec_pu {all : Array Oper} {b : Bool} {d : Nat} (hs : ∀ cs b, o.op ≠ .select cs b) (hf : (Oper.looksAt all o).contains d = false) (c : Act) (v : Value) : execOp (pu b d v c).eval o = execOp c.eval o := by
  cases b with
  | false => rfl
  | true => exact exec_put hs hf c v
theorem onsB_mem {n : Nat} : n ∈ onsB o ↔ ∃ e ∈ o.after, Region.binds .any e = true ∧ e.on = n := by
  unfold onsB
  rw [List.mem_map]
  constructor
  · rintro ⟨e, he, rfl⟩
    rw [List.mem_filter] at he
    exact ⟨e, Array.mem_toList_iff.1 he.1, by rw [← binds_eq]; exact he.2, rfl⟩
  · rintro ⟨e, he, hb, rfl⟩
    exact ⟨e, List.mem_filter.2 ⟨Array.mem_toList_iff.2 he, by rw [binds_eq]; exact hb⟩, rfl⟩
/-! ### The memory in between -/
def GM (P : Program) (N : Nat → Prop) (H H1 H2 : AH) (cs : List Value) (e : TypeId) (len : Nat) (v3 : Value) (b1 b3 : Bool) (s : Rn) (w : World) (w3 : Value) : Prop := match b3, b1 with
  | false, b1 => Inv P N s (cond b1 H1 H) w
  | true, true => Inv P N s H2 w ∧ VR s v3 w3
  | true, false => ∃ blk l', ¬ N blk ∧ Inv P (fun k => N k ∨ k = blk) s H w ∧ w.heap[blk]? = some (.cells l' e (0, 0)) ∧ LR s cs l'.toList ∧ w3 = .slice (some ⟨blk, 0, none⟩) len len
theorem Inv.more (hI : Inv P N s H w) (o : Obj) : Inv P (fun k => N k ∨ k = w.heap.size) s H (w.alloc o) := by
  refine ⟨fun i oi hi ho => ?_, hI.sep, hI.new, hI.top, fun k hk => ?_⟩
  · obtain ⟨p, h1, h2, h3⟩ := hI.obj i oi hi ho
    have h4 := h3.lt'
    refine ⟨p, h1, fun h => ?_, h3.world (Below.heap_alloc w o _ h4)⟩
    rcases h with h | h
    · exact h2 h
    · omega
  · rw [World.size_alloc]
    rcases hk with hk | hk
    · have := hI.low k hk
      omega
    · omega
theorem Inv.less {N' : Nat → Prop} (hN : ∀ k, N k → N' k) (hI : Inv P N' s H w) : Inv P N s H w := by
  refine ⟨fun i oi hi ho => ?_, hI.sep, hI.new, hI.top, fun k hk => hI.low k (hN k hk)⟩
  obtain ⟨p, h1, h2, h3⟩ := hI.obj i oi hi ho
  exact ⟨p, h1, fun h => h2 (hN _ h), h3⟩
theorem Bel.less {N' : Nat → Prop} {u u' : World} (hN : ∀ k, N k → N' k) (h : Bel N' u u') : Bel N u u' := ⟨h.os, h.tape, h.output, h.size, fun k hk => h.block k (hN k hk)⟩
/-- The row finds its place behind the call. -/
theorem Inv.place {blk : Nat} {l' : Array Value} {cs : List Value} {e : TypeId} (hN : ¬ N blk) (hI : Inv P (fun k => N k ∨ k = blk) s H1 w) (ht : H1.next < 2 ^ hd) (hb : w.heap[blk]? = some (.cells l' e (0, 0))) (hl : LR s cs l'.toList) :
    Inv P N (s.add H1.next ⟨blk, 0, 0⟩) (H1.new (.cells cs e false)) w := by
  have hI' : Inv P N s H1 w := hI.less fun k h => .inl h
  refine hI'.make ht hN (Nat.le_refl _) (fun i oi pi hi ho hdd hp => ⟨fun e2 => ?_, rfl⟩) ⟨fun _ => ⟨rfl, rfl⟩, l', hb, ?_, ?_⟩
  · obtain ⟨q, q1, q2, q3⟩ := hI.obj i oi hi ho
    obtain rfl : q = pi := Option.some.inj (q1.symm.trans hp)
    exact q2 (.inr e2)
  · have h1 : cs.length = l'.size := hl.length.trans Array.length_toList
    show l'.size = 0 + cs.length + 0 * _
    rw [Nat.zero_mul, h1, Nat.zero_add, Nat.add_zero]
  · show LR _ cs ((l'.toList.drop 0).take cs.length)
    rw [List.drop_zero, List.take_of_length_le (by have := hl.length; omega)]
    exact hl.mono (hI'.le_add ht _)
/-! ### The region -/
structure AP (all : Array Oper) (m : Nat) (o0 o1 o2 o3 o4 o5 : Oper) (d0 d1 d2 d3 : Nat) : Prop where
  g0 : o0.guard = none
  g1 : o1.guard = none
  g2 : o2.guard = none
  g3 : o3.guard = none
  g4 : o4.guard = none
  g5 : o5.guard = none
  r0 : onsB o0 = []
  r1 : onsB o1 = [0]
  r2 : onsB o2 = []
  r3 : onsB o3 = [2]
  r4 : (∀ n ∈ onsB o4, n < 4) ∧ 1 ∈ onsB o4 ∧ 3 ∈ onsB o4
  r5 : (∀ n ∈ onsB o5, n < 5) ∧ 4 ∈ onsB o5
  q0 : isEff o0.op = false
  q2 : isEff o2.op = false
  q1 : (isCallF o1.op).isSome = true
  q3 : isBS o3.op = true
  l0 : d0 < m
  l1 : d1 < m
  l2 : d2 < m
  l3 : d3 < m
  n01 : d0 ≠ d1
  n02 : d0 ≠ d2
  n03 : d0 ≠ d3
  n12 : d1 ≠ d2
  n13 : d1 ≠ d3
  n23 : d2 ≠ d3
  f01 : (Oper.looksAt all o0).contains d1 = false
  f02 : (Oper.looksAt all o0).contains d2 = false
  f03 : (Oper.looksAt all o0).contains d3 = false
  f12 : (Oper.looksAt all o1).contains d2 = false
  f13 : (Oper.looksAt all o1).contains d3 = false
  f20 : (Oper.looksAt all o2).contains d0 = false
  f21 : (Oper.looksAt all o2).contains d1 = false
  f23 : (Oper.looksAt all o2).contains d3 = false
  f30 : (Oper.looksAt all o3).contains d0 = false
  f31 : (Oper.looksAt all o3).contains d1 = false
theorem apB_sound {all : Array Oper} {m : Nat} {o0 o1 o2 o3 o4 o5 : Oper} {d0 d1 d2 d3 : Nat} (h : apB all m o0 o1 o2 o3 o4 o5 d0 d1 d2 d3 = true) : AP all m o0 o1 o2 o3 o4 o5 d0 d1 d2 d3 := by
  unfold apB freeB at h
  simp only [List.all_cons, List.all_nil, Bool.and_true, Bool.and_eq_true, Option.isNone_iff_eq_none, List.isEmpty_iff, beq_iff_eq, Bool.not_eq_true', List.all_eq_true] at h
  obtain ⟨⟨⟨⟨⟨⟨⟨⟨⟨⟨g0, g1⟩, g2⟩, g3⟩, g4⟩, g5⟩, ⟨⟨⟨⟨⟨r0, r1⟩, r2⟩, r3⟩, ⟨⟨r4, r4b⟩, r4c⟩⟩, ⟨r5, r5b⟩⟩⟩, ⟨⟨⟨q0, q2⟩, q1⟩, q3⟩⟩, ⟨⟨⟨l0, l1⟩, l2⟩, l3⟩⟩, ⟨⟨⟨⟨⟨n01, n02⟩, n03⟩, n12⟩, n13⟩, n23⟩⟩, ⟨⟨⟨⟨f01, f02, f03⟩, ⟨f12, f13⟩⟩, ⟨f20, f21, f23⟩⟩, ⟨f30, f31⟩⟩⟩ := h
  have ne : ∀ {x y : Nat}, Nat.beq x y = false → x ≠ y := fun h e => by
    subst e
    rw [Nat.beq_refl] at h
    cases h
  exact ⟨g0, g1, g2, g3, g4, g5, r0, r1, r2, r3, ⟨fun n hn => Nat.le_of_ble_eq_true (r4 n hn), List.contains_iff_mem.1 r4b, List.contains_iff_mem.1 r4c⟩, ⟨fun n hn => Nat.le_of_ble_eq_true (r5 n hn), List.contains_iff_mem.1 r5b⟩, q0, q2, q1, q3, Nat.le_of_ble_eq_true l0, Nat.le_of_ble_eq_true l1, Nat.le_of_ble_eq_true l2, Nat.le_of_ble_eq_true l3, ne n01, ne n02, ne n03, ne n12, ne n13, ne n23, f01, f02, f03, f12, f13, f20, f21, f23, f30, f31⟩
def GS (P : Program) (N : Nat → Prop) (r : Rn) (c0 : Act) (u : World) (H H1 H2 : AH) (cs : List Value) (e : TypeId) (len d0 d1 d2 d3 : Nat) (v0 v1 v2 v3 : Value) (b0 b1 b2 b3 : Bool) (c : Act) (w : World) : Prop :=
  ∃ (s : Rn) (x0 x1 x2 x3 : Value), Rn.le r s ∧ Bel N u w ∧ c = pu b3 d3 x3 (pu b2 d2 x2 (pu b1 d1 x1 (pu b0 d0 x0 c0))) ∧ (b0 = true → VR s v0 x0) ∧ (b1 = true → VR s v1 x1) ∧ (b2 = true → VR s v2 x2) ∧ GM P N H H1 H2 cs e len v3 b1 b3 s w x3
variable {all : Array Oper} {m : Nat} {o0 o1 o2 o3 o4 o5 : Oper} {d0 d1 d2 d3 : Nat} {v0 v1 v2 v3 : Value} {cs : List Value} {e : TypeId} {len : Nat} {u : World} {b0 b1 b2 b3 : Bool} {next : Act → World → Prop} {Q : Exit → Act → World → Prop}
theorem no_sel {b : Bool} (h : isEff o.op = b) (hb : (isCallF o.op).isSome = true ∨ (∃ v' H', opA P a o H = some (v', H'))) : ∀ cs b, o.op ≠ .select cs b := fun cs b e => by
  rcases hb with hb | ⟨v', H', hb⟩
  · unfold isCallF at hb
    rw [e] at hb
    cases hb
  · unfold opA at hb
    rw [e] at hb
    cases hb
theorem t0 (hK : KS P K) (hp : AP all m o0 o1 o2 o3 o4 o5 d0 d1 d2 d3) (hd0 : o0.dst = some d0) (hF : AF r a c0) (h0 : opA P a o0 H = some (v0, H)) (hG : GS P N r c0 u H H1 H2 cs e len d0 d1 d2 d3 v0 v1 v2 v3 false false b2 b3 c w)
    (hn : ∀ c' w', GS P N r c0 u H H1 H2 cs e len d0 d1 d2 d3 v0 v1 v2 v3 true false b2 b3 c' w' → next c' w') : o0.wp P c w next Q := by
  obtain ⟨s, x0, x1, x2, x3, hle, hb, rfl, -, -, hx2, hM⟩ := hG
  have hs : ∀ cs b, o0.op ≠ .select cs b := no_sel rfl (.inr ⟨_, _, h0⟩)
  have he : execOp (pu b3 d3 x3 (pu b2 d2 x2 (pu false d1 x1 (pu false d0 x0 c0)))).eval o0 = execOp c0.eval o0 := by
    rw [exec_pu hs hp.f03, exec_pu hs hp.f02]
    rfl
  have hput : ∀ v', (pu b3 d3 x3 (pu b2 d2 x2 (pu false d1 x1 (pu false d0 x0 c0)))).put o0.dst v' = pu b3 d3 x3 (pu b2 d2 x2 (pu false d1 x1 (pu true d0 v' c0))) := fun v' => by
    rw [hd0, pu_put (Ne.symm hp.n03), pu_put (Ne.symm hp.n02)]
    rfl
  unfold Oper.wp
  rw [he]
  cases b3 with
  | false =>
    have hI : Inv P N s H w := hM
    refine stepO_sound hK hI (hF.mono hle).1 (quiet_step hp.q0 h0) _ fun s' v' w' k1 k2 k3 k4 => ?_
    rw [hput]
    exact hn _ _ ⟨s', v', x1, x2, x3, Rn.le_trans hle k1, hb.trans k4, rfl, fun _ => k2, (fun h => by cases h), fun h => (hx2 h).mono k1, k3⟩
  | true =>
    obtain ⟨blk, l', hN, hI, hbk, hl, hx3⟩ := hM
    refine stepO_sound hK hI (hF.mono hle).1 (quiet_step hp.q0 h0) _ fun s' v' w' k1 k2 k3 k4 => ?_
    rw [hput]
    exact hn _ _ ⟨s', v', x1, x2, x3, Rn.le_trans hle k1, hb.trans (k4.less fun k h => .inl h), rfl, fun _ => k2, (fun h => by cases h), fun h => (hx2 h).mono k1, blk, l', hN, k3, (k4.block blk (.inr rfl)).trans hbk, hl.mono k1, hx3⟩
theorem t1 (hK : KS P K) (hp : AP all m o0 o1 o2 o3 o4 o5 d0 d1 d2 d3) (hd1 : o1.dst = some d1) (hF : AF r a c0) (h1 : stepO P K (putD a (some d0) v0) o1 H = .ok v1 H1) (hH2 : H2 = H1.new (.cells cs e false)) (hv3 : v3 = .slice (some ⟨H1.next, 0, none⟩) len len) (ht : H1.next < 2 ^ hd)
    (hG : GS P N r c0 u H H1 H2 cs e len d0 d1 d2 d3 v0 v1 v2 v3 true false b2 b3 c w)
    (hn : ∀ c' w', GS P N r c0 u H H1 H2 cs e len d0 d1 d2 d3 v0 v1 v2 v3 true true b2 b3 c' w' → next c' w') : o1.wp P c w next Q := by
  obtain ⟨s, x0, x1, x2, x3, hle, hb, rfl, hx0, -, hx2, hM⟩ := hG
  have hs : ∀ cs b, o1.op ≠ .select cs b := no_sel (P := P) (a := a) (H := H) rfl (.inl hp.q1)
  have he : execOp (pu b3 d3 x3 (pu b2 d2 x2 (pu false d1 x1 (pu true d0 x0 c0)))).eval o1 = execOp (c0.put (some d0) x0).eval o1 := by
    rw [exec_pu hs hp.f13, exec_pu hs hp.f12]
    rfl
  have hput : ∀ v', (pu b3 d3 x3 (pu b2 d2 x2 (pu false d1 x1 (pu true d0 x0 c0)))).put o1.dst v' = pu b3 d3 x3 (pu b2 d2 x2 (pu true d1 v' (pu true d0 x0 c0))) := fun v' => by
    rw [hd1, pu_put (Ne.symm hp.n13), pu_put (Ne.symm hp.n12)]
    rfl
  have hF1 := (hF.mono hle).put (some d0) (hx0 rfl)
  unfold Oper.wp
  rw [he]
  cases b3 with
  | false =>
    have hI : Inv P N s H w := hM
    refine stepO_sound hK hI hF1.1 h1 _ fun s' v' w' k1 k2 k3 k4 => ?_
    rw [hput]
    exact hn _ _ ⟨s', x0, v', x2, x3, Rn.le_trans hle k1, hb.trans k4, rfl, fun h => (hx0 h).mono k1, fun _ => k2, fun h => (hx2 h).mono k1, k3⟩
  | true =>
    obtain ⟨blk, l', hN, hI, hbk, hl, rfl⟩ := hM
    refine stepO_sound hK hI hF1.1 h1 _ fun s' v' w' k1 k2 k3 k4 => ?_
    rw [hput]
    have hbk' := (k4.block blk (.inr rfl)).trans hbk
    have hpl := Inv.place hN k3 ht hbk' (hl.mono k1)
    have hle2 := (k3.less (N := N) fun k h => .inl h).le_add ht ⟨blk, 0, 0⟩
    refine hn _ _ ⟨s'.add H1.next ⟨blk, 0, 0⟩, x0, v', x2, _, Rn.le_trans hle (Rn.le_trans k1 hle2), hb.trans (k4.less fun k h => .inl h), rfl, fun h => (hx0 h).mono (Rn.le_trans k1 hle2), fun _ => k2.mono hle2, fun h => (hx2 h).mono (Rn.le_trans k1 hle2), ?_, ?_⟩
    · rw [hH2]
      exact hpl
    · rw [hv3]
      exact .sl H1.next 0 len len ⟨blk, 0, 0⟩ (Rn.add_at _ _ _)
theorem t2 (hK : KS P K) (hp : AP all m o0 o1 o2 o3 o4 o5 d0 d1 d2 d3) (hd2 : o2.dst = some d2) (hF : AF r a c0) (h2 : opA P a o2 (cond b1 H1 H) = some (v2, cond b1 H1 H)) (hG : GS P N r c0 u H H1 H2 cs e len d0 d1 d2 d3 v0 v1 v2 v3 b0 b1 false false c w)
    (hn : ∀ c' w', GS P N r c0 u H H1 H2 cs e len d0 d1 d2 d3 v0 v1 v2 v3 b0 b1 true false c' w' → next c' w') : o2.wp P c w next Q := by
  obtain ⟨s, x0, x1, x2, x3, hle, hb, rfl, hx0, hx1, -, hM⟩ := hG
  have hs : ∀ cs b, o2.op ≠ .select cs b := no_sel rfl (.inr ⟨_, _, h2⟩)
  have he : execOp (pu false d3 x3 (pu false d2 x2 (pu b1 d1 x1 (pu b0 d0 x0 c0)))).eval o2 = execOp c0.eval o2 := by
    show execOp (pu b1 d1 x1 (pu b0 d0 x0 c0)).eval o2 = _
    rw [exec_pu hs hp.f21, exec_pu hs hp.f20]
  unfold Oper.wp
  rw [he]
  have hI : Inv P N s (cond b1 H1 H) w := hM
  refine stepO_sound hK hI (hF.mono hle).1 (quiet_step hp.q2 h2) _ fun s' v' w' k1 k2 k3 k4 => ?_
  rw [hd2]
  exact hn _ _ ⟨s', x0, x1, v', x3, Rn.le_trans hle k1, hb.trans k4, rfl, fun h => (hx0 h).mono k1, fun h => (hx1 h).mono k1, fun _ => k2, k3⟩
theorem t3 (hp : AP all m o0 o1 o2 o3 o4 o5 d0 d1 d2 d3) (hd3 : o3.dst = some d3) (hF : AF r a c0) (hH2 : H2 = H1.new (.cells cs e false)) (hv3 : v3 = .slice (some ⟨H1.next, 0, none⟩) len len) (ht : H1.next < 2 ^ hd)
    (hbs : ∀ (s : Rn) (c : Act) (w : World), FrR s (putD a (some d2) v2) c → ∃ l' : Array Value, LR s cs l'.toList ∧ (execOp c.eval o3).run P w = .ok (.value (.slice (some ⟨w.heap.size, 0, none⟩) len len)) (w.alloc (.cells l' e)))
    (hG : GS P N r c0 u H H1 H2 cs e len d0 d1 d2 d3 v0 v1 v2 v3 b0 b1 true false c w)
    (hn : ∀ c' w', GS P N r c0 u H H1 H2 cs e len d0 d1 d2 d3 v0 v1 v2 v3 b0 b1 true true c' w' → next c' w') : o3.wp P c w next Q := by
  obtain ⟨s, x0, x1, x2, x3, hle, hb, rfl, hx0, hx1, hx2, hM⟩ := hG
  have hs : ∀ cs b, o3.op ≠ .select cs b := fun cs b e => by
    have h := hp.q3
    unfold isBS at h
    rw [e] at h
    cases h
  have he : execOp (pu false d3 x3 (pu true d2 x2 (pu b1 d1 x1 (pu b0 d0 x0 c0)))).eval o3 = execOp (c0.put (some d2) x2).eval o3 := by
    show execOp ((pu b1 d1 x1 (pu b0 d0 x0 c0)).put (some d2) x2).eval o3 = _
    rw [pu_put hp.n12, pu_put hp.n02, exec_pu hs hp.f31, exec_pu hs hp.f30]
  unfold Oper.wp
  rw [he]
  have hF2 := (hF.mono hle).put (some d2) (hx2 rfl)
  obtain ⟨l', hl, hr⟩ := hbs s _ w hF2.1
  rw [hr]
  show next ((pu false d3 x3 (pu true d2 x2 (pu b1 d1 x1 (pu b0 d0 x0 c0)))).put o3.dst _) _
  rw [hd3]
  cases b1 with
  | true =>
    have hI : Inv P N s H1 w := hM
    have hle2 := hI.le_add ht ⟨w.heap.size, 0, 0⟩
    refine hn _ _ ⟨s.add H1.next ⟨w.heap.size, 0, 0⟩, x0, x1, x2, _, Rn.le_trans hle hle2, hb.alloc ?_ _, rfl, fun h => (hx0 h).mono hle2, fun h => (hx1 h).mono hle2, fun h => (hx2 h).mono hle2, ?_, ?_⟩
    · exact hI.low
    · rw [hH2]
      exact hI.alloc ht hl false
    · rw [hv3]
      exact .sl H1.next 0 len len ⟨w.heap.size, 0, 0⟩ (Rn.add_at _ _ _)
  | false =>
    have hI : Inv P N s H w := hM
    refine hn _ _ ⟨s, x0, x1, x2, _, hle, hb.alloc hI.low _, rfl, hx0, hx1, hx2, w.heap.size, l', hI.fresh, hI.more _, ?_, hl, rfl⟩
    show (w.heap.push _)[w.heap.size]? = _
    simp
theorem wpOp_of {i : Nat} {K : Act → World → Prop} (ho : all[i]? = some o) (hg : o.guard = none) (h : o.wp P c w K Q) : wpOp P all Q i K c w := by
  unfold wpOp
  rw [ho]
  dsimp only
  rw [if_pos (by simp [Region.wanted, hg])]
  exact .inl h
/-- What is ready, and what is not. -/
theorem ready_of {D : Array Bool} {i : Nat} (ho : all[i]? = some o) (hD : D.getD i true = false) (h : ∀ n ∈ onsB o, D.getD n false = true) : i ∈ Region.ready .any all D :=
  mem_ready.2 ⟨hD, o, ho, fun e he hb => h _ (onsB_mem.2 ⟨e, he, hb, rfl⟩)⟩
theorem ready_inv {D : Array Bool} {i : Nat} (hi : i ∈ Region.ready .any all D) (ho : all[i]? = some o) : D.getD i true = false ∧ ∀ n ∈ onsB o, D.getD n false = true := by
  obtain ⟨h1, o', ho', h2⟩ := mem_ready.1 hi
  obtain rfl := Option.some.inj (ho'.symm.trans ho)
  refine ⟨h1, fun n hn => ?_⟩
  obtain ⟨e, he, hb, rfl⟩ := onsB_mem.1 hn
  exact h2 e he hb
/-- The last two. -/
theorem lastC (hK : KS P K) (hp : AP all m o0 o1 o2 o3 o4 o5 d0 d1 d2 d3) (hall : all = #[o0, o1, o2, o3, o4, o5]) {a4 a' : Fr} {H' : AH} (hI : Inv P N s H2 w) (hF : AF s a4 c) (h : opsA P K all.toList [o4, o5] a4 H2 = .ok a' H')
    (hq : ∀ s' c' w', Rn.le s s' → AF s' a' c' → Inv P N s' H' w' → Bel N w w' → Q .normal c' w') (f : Nat) : wpAny P .any all Q (f + 2) #[true, true, true, true, false, false] c w := by
  have i4 : all[4]? = some o4 := by rw [hall]; rfl
  have i5 : all[5]? = some o5 := by rw [hall]; rfl
  have hw4 : ∀ a, wantA all.toList a o4 = true := fun a => by
    unfold wantA
    rw [hp.g4]
  have hw5 : ∀ a, wantA all.toList a o5 = true := fun a => by
    unfold wantA
    rw [hp.g5]
  have h : cond (wantA all.toList a4 o4) (match stepO P K a4 o4 H2 with
    | .ok v H' => opsA P K all.toList [o5] (putD a4 o4.dst v) H'
    | .bad l => .bad (o4.pos :: l)) (opsA P K all.toList [o5] (putD a4 o4.dst undef) H2) = .ok a' H' := h
  rw [hw4, cond_true] at h
  cases hs4 : stepO P K a4 o4 H2 with
  | bad l => rw [hs4] at h; cases h
  | ok v4 H4 =>
    rw [hs4] at h
    have h : cond (wantA all.toList (putD a4 o4.dst v4) o5) (match stepO P K (putD a4 o4.dst v4) o5 H4 with
      | .ok v H' => opsA P K all.toList [] (putD (putD a4 o4.dst v4) o5.dst v) H'
      | .bad l => .bad (o5.pos :: l)) (opsA P K all.toList [] (putD (putD a4 o4.dst v4) o5.dst undef) H4) = .ok a' H' := h
    rw [hw5, cond_true] at h
    cases hs5 : stepO P K (putD a4 o4.dst v4) o5 H4 with
    | bad l => rw [hs5] at h; cases h
    | ok v5 H5 =>
      rw [hs5] at h
      have h : OpsR.ok (putD (putD a4 o4.dst v4) o5.dst v5) H5 = OpsR.ok a' H' := h
      cases h
      refine ⟨fun hr => ?_, fun i hi => ?_⟩
      · have := ready_of (D := #[true, true, true, true, false, false]) i4 rfl (fun n hn => by
          have := hp.r4.1 n hn
          match n, this with
          | 0, _ => rfl
          | 1, _ => rfl
          | 2, _ => rfl
          | 3, _ => rfl)
        rw [hr] at this
        cases this
      · match i, hi with
        | 0, hi =>
          have := (ready_inv hi (show all[0]? = some o0 by rw [hall]; rfl)).1
          cases this
        | 1, hi =>
          have := (ready_inv hi (show all[1]? = some o1 by rw [hall]; rfl)).1
          cases this
        | 2, hi =>
          have := (ready_inv hi (show all[2]? = some o2 by rw [hall]; rfl)).1
          cases this
        | 3, hi =>
          have := (ready_inv hi (show all[3]? = some o3 by rw [hall]; rfl)).1
          cases this
        | 5, hi =>
          have := (ready_inv hi i5).2 4 hp.r5.2
          cases this
        | n + 6, hi =>
          obtain ⟨-, o', ho', -⟩ := mem_ready.1 hi
          rw [hall] at ho'
          simp at ho'
        | 4, hi =>
          refine wpOp_of i4 hp.g4 ?_
          unfold Oper.wp
          refine stepO_sound hK hI hF.1 hs4 c fun s4 u4 w4 k1 k2 k3 k4 => ?_
          have hF4 := (hF.mono k1).put o4.dst k2
          show wpAny P .any all Q (f + 1) #[true, true, true, true, true, false] _ _
          refine ⟨fun hr => ?_, fun i hi => ?_⟩
          · have := ready_of (D := #[true, true, true, true, true, false]) i5 rfl (fun n hn => by
              have := hp.r5.1 n hn
              match n, this with
              | 0, _ => rfl
              | 1, _ => rfl
              | 2, _ => rfl
              | 3, _ => rfl
              | 4, _ => rfl)
            rw [hr] at this
            cases this
          · match i, hi with
            | 0, hi =>
              have := (ready_inv hi (show all[0]? = some o0 by rw [hall]; rfl)).1
              cases this
            | 1, hi =>
              have := (ready_inv hi (show all[1]? = some o1 by rw [hall]; rfl)).1
              cases this
            | 2, hi =>
              have := (ready_inv hi (show all[2]? = some o2 by rw [hall]; rfl)).1
              cases this
            | 3, hi =>
              have := (ready_inv hi (show all[3]? = some o3 by rw [hall]; rfl)).1
              cases this
            | 4, hi =>
              have := (ready_inv hi i4).1
              cases this
            | n + 6, hi =>
              obtain ⟨-, o', ho', -⟩ := mem_ready.1 hi
              rw [hall] at ho'
              simp at ho'
            | 5, hi =>
              refine wpOp_of i5 hp.g5 ?_
              unfold Oper.wp
              refine stepO_sound hK k3 hF4.1 hs5 _ fun s5 u5 w5 m1 m2 m3 m4 => ?_
              have hF5 := (hF4.mono m1).put o5.dst m2
              have hQ := hq s5 _ w5 (Rn.le_trans k1 m1) hF5 m3 (k4.trans m4)
              show wpAny P .any all Q f #[true, true, true, true, true, true] _ _
              have hno : Region.ready .any all #[true, true, true, true, true, true] = [] := by
                rw [List.eq_nil_iff_forall_not_mem]
                intro j hj
                obtain ⟨h1, o', ho', -⟩ := mem_ready.1 hj
                rw [hall] at ho'
                have hlt := (Array.getElem?_eq_some_iff.1 ho').1
                match j, hlt, h1 with
                | 0, _, h1 => cases h1
                | 1, _, h1 => cases h1
                | 2, _, h1 => cases h1
                | 3, _, h1 => cases h1
                | 4, _, h1 => cases h1
                | 5, _, h1 => cases h1
                | n + 6, hlt, _ => exact absurd hlt (by simp)
              cases f with
              | zero => exact ⟨hno, hQ⟩
              | succ f => exact ⟨fun _ => hQ, fun i hi => by rw [hno] at hi; cases hi⟩
theorem goC (hK : KS P K) (hp : AP all a.m o0 o1 o2 o3 o4 o5 d0 d1 d2 d3) (hall : all = #[o0, o1, o2, o3, o4, o5]) (hd0 : o0.dst = some d0) (hd1 : o1.dst = some d1) (hd2 : o2.dst = some d2) (hd3 : o3.dst = some d3) (hF : AF r a c0)
    (h0 : opA P a o0 H = some (v0, H)) (h1 : stepO P K (putD a (some d0) v0) o1 H = .ok v1 H1) (h2 : ∀ b, opA P a o2 (cond b H1 H) = some (v2, cond b H1 H)) (hH2 : H2 = H1.new (.cells cs e false)) (hv3 : v3 = .slice (some ⟨H1.next, 0, none⟩) len len) (ht : H1.next < 2 ^ hd)
    (hbs : ∀ (s : Rn) (c : Act) (w : World), FrR s (putD a (some d2) v2) c → ∃ l' : Array Value, LR s cs l'.toList ∧ (execOp c.eval o3).run P w = .ok (.value (.slice (some ⟨w.heap.size, 0, none⟩) len len)) (w.alloc (.cells l' e)))
    {a' : Fr} {H' : AH} (hops : opsA P K all.toList [o4, o5] (putD (putD (putD (putD a (some d0) v0) (some d1) v1) (some d2) v2) (some d3) v3) H2 = .ok a' H')
    (hq : ∀ s c' w', Rn.le r s → AF s a' c' → Inv P N s H' w' → Bel N u w' → Q .normal c' w') :
    ∀ (fuel : Nat) (b0 b1 b2 b3 : Bool) (c : Act) (w : World), (b1 = true → b0 = true) → (b3 = true → b2 = true) → cond b0 0 1 + cond b1 0 1 + cond b2 0 1 + cond b3 0 1 + 2 ≤ fuel → GS P N r c0 u H H1 H2 cs e len d0 d1 d2 d3 v0 v1 v2 v3 b0 b1 b2 b3 c w →
      wpAny P .any all Q fuel #[b0, b1, b2, b3, false, false] c w := by
  have i0 : all[0]? = some o0 := by rw [hall]; rfl
  have i1 : all[1]? = some o1 := by rw [hall]; rfl
  have i2 : all[2]? = some o2 := by rw [hall]; rfl
  have i3 : all[3]? = some o3 := by rw [hall]; rfl
  have i4 : all[4]? = some o4 := by rw [hall]; rfl
  have i5 : all[5]? = some o5 := by rw [hall]; rfl
  intro fuel
  induction fuel with
  | zero => intro b0 b1 b2 b3 c w _ _ h; omega
  | succ f ih =>
    intro b0 b1 b2 b3 c w hb1 hb3 hf hG
    by_cases hend : b0 = true ∧ b1 = true ∧ b2 = true ∧ b3 = true
    · obtain ⟨rfl, rfl, rfl, rfl⟩ := hend
      obtain ⟨f, rfl⟩ : ∃ g, f = g + 1 := ⟨f - 1, by simp at hf; omega⟩
      obtain ⟨s, x0, x1, x2, x3, hle, hb, rfl, hx0, hx1, hx2, hI, hx3⟩ := hG
      have hF4 := ((((hF.mono hle).put (some d0) (hx0 rfl)).put (some d1) (hx1 rfl)).put (some d2) (hx2 rfl)).put (some d3) hx3
      exact lastC hK hp hall hI hF4 hops (fun s' c' w' k1 k2 k3 k4 => hq s' c' w' (Rn.le_trans hle k1) k2 k3 (hb.trans k4)) f
    · refine ⟨fun hr => ?_, fun i hi => ?_⟩
      · exfalso
        have hex : ∃ i, i ∈ Region.ready .any all #[b0, b1, b2, b3, false, false] := by
          cases b0 with
          | false => exact ⟨0, ready_of i0 rfl (fun n hn => by rw [hp.r0] at hn; cases hn)⟩
          | true =>
            cases b1 with
            | false => exact ⟨1, ready_of i1 rfl (fun n hn => by rw [hp.r1] at hn; cases hn with | head => rfl | tail _ h => cases h)⟩
            | true =>
              cases b2 with
              | false => exact ⟨2, ready_of i2 rfl (fun n hn => by rw [hp.r2] at hn; cases hn)⟩
              | true =>
                cases b3 with
                | false => exact ⟨3, ready_of i3 rfl (fun n hn => by rw [hp.r3] at hn; cases hn with | head => rfl | tail _ h => cases h)⟩
                | true => exact absurd ⟨rfl, rfl, rfl, rfl⟩ hend
        obtain ⟨i, hi⟩ := hex
        rw [hr] at hi
        cases hi
      · match i, hi with
        | 0, hi =>
          obtain ⟨k1, k2⟩ := ready_inv hi i0
          obtain rfl : b0 = false := k1
          obtain rfl : b1 = false := by
            cases b1 with
            | false => rfl
            | true => cases hb1 rfl
          refine wpOp_of i0 hp.g0 (t0 hK hp hd0 hF h0 hG fun c' w' hG' => ?_)
          exact ih true false b2 b3 c' w' (fun h => by cases h) hb3 (by simp at hf ⊢; omega) hG'
        | 1, hi =>
          obtain ⟨k1, k2⟩ := ready_inv hi i1
          obtain rfl : b1 = false := k1
          obtain rfl : b0 = true := k2 0 (by rw [hp.r1]; exact .head _)
          refine wpOp_of i1 hp.g1 (t1 hK hp hd1 hF h1 hH2 hv3 ht hG fun c' w' hG' => ?_)
          exact ih true true b2 b3 c' w' (fun _ => rfl) hb3 (by simp at hf ⊢; omega) hG'
        | 2, hi =>
          obtain ⟨k1, k2⟩ := ready_inv hi i2
          obtain rfl : b2 = false := k1
          obtain rfl : b3 = false := by
            cases b3 with
            | false => rfl
            | true => cases hb3 rfl
          refine wpOp_of i2 hp.g2 (t2 hK hp hd2 hF (h2 b1) hG fun c' w' hG' => ?_)
          exact ih b0 b1 true false c' w' hb1 (fun h => by cases h) (by simp at hf ⊢; omega) hG'
        | 3, hi =>
          obtain ⟨k1, k2⟩ := ready_inv hi i3
          obtain rfl : b3 = false := k1
          obtain rfl : b2 = true := k2 2 (by rw [hp.r3]; exact .head _)
          refine wpOp_of i3 hp.g3 (t3 hp hd3 hF hH2 hv3 ht hbs hG fun c' w' hG' => ?_)
          exact ih b0 b1 true true c' w' hb1 (fun _ => rfl) (by simp at hf ⊢; omega) hG'
        | 4, hi =>
          obtain ⟨k1, k2⟩ := ready_inv hi i4
          obtain rfl : b1 = true := k2 1 hp.r4.2.1
          obtain rfl : b3 = true := k2 3 hp.r4.2.2
          exact absurd ⟨hb1 rfl, rfl, hb3 rfl, rfl⟩ hend
        | 5, hi =>
          have := (ready_inv hi i5).2 4 hp.r5.2
          cases this
        | n + 6, hi =>
          obtain ⟨-, o', ho', -⟩ := mem_ready.1 hi
          rw [hall] at ho'
          simp at ho'
theorem drawC_sound (hm : P.follows .mixedOrders = true) (hK : KS P K) {id : Nat} {a' : Fr} {H' : AH} (hap : apB all a.m o0 o1 o2 o3 o4 o5 d0 d1 d2 d3 = true) (hall : all = #[o0, o1, o2, o3, o4, o5]) (hd0 : o0.dst = some d0) (hd1 : o1.dst = some d1) (hd2 : o2.dst = some d2) (hd3 : o3.dst = some d3)
    (hI : Inv P N r H w) (hF : AF r a c) (h : drawC P K all.toList a H o0 o1 o2 o3 o4 o5 d0 d1 d2 d3 = .ok a' H')
    (hq : ∀ s c' w', Rn.le r s → AF s a' c' → Inv P N s H' w' → Bel N w w' → Q .normal c' w') : (Code.region id all true).wp P Q c w := by
  have hp := apB_sound hap
  unfold drawC at h
  cases h0 : opA P a o0 H with
  | none => rw [h0] at h; cases h
  | some y0 =>
    obtain ⟨v0, G0⟩ := y0
    rw [h0] at h
    dsimp only at h
    obtain rfl : G0 = H := same_of_quiet hp.q0 h0
    cases h1 : stepO P K (putD a (some d0) v0) o1 G0 with
    | bad l => rw [h1] at h; cases h
    | ok v1 H1 =>
      rw [h1] at h
      dsimp only at h
      cases h2 : opA P a o2 G0 with
      | none => rw [h2] at h; cases h
      | some y2 =>
        obtain ⟨v2, G2⟩ := y2
        obtain rfl : G2 = G0 := same_of_quiet hp.q2 h2
        rw [h2] at h
        cases h2' : opA P a o2 H1 with
        | none => rw [h2'] at h; cases h
        | some y3 =>
          obtain ⟨u2, G3⟩ := y3
          obtain rfl : G3 = H1 := same_of_quiet hp.q2 h2'
          rw [h2'] at h
          dsimp only at h
          cases hev : eqV u2 v2 with
          | false => rw [hev] at h; cases h
          | true =>
            rw [hev, cond_true] at h
            obtain rfl := eqV_sound hev
            cases h3 : opA P (putD a (some d2) u2) o3 G3 with
            | none => rw [h3] at h; cases h
            | some y4 =>
              obtain ⟨v3, H2⟩ := y4
              rw [h3] at h
              dsimp only at h
              obtain ⟨t, len, parts, ho3⟩ : ∃ t len parts, o3.op = .buildSlice t len parts := by
                have := hp.q3
                unfold isBS at this
                cases ho : o3.op <;> rw [ho] at this <;> first | (cases this; done) | exact ⟨_, _, _, rfl⟩
              obtain ⟨cs, e, k1, k2, k3, k4⟩ := bs_inv ho3 h3
              refine wp_region_any hm ?_
              have hsz : all.size = 6 := by rw [hall]; rfl
              rw [hsz]
              show wpAny P .any all Q 6 #[false, false, false, false, false, false] c { w with drawn := w.drawn + 1 }
              refine goC (u := w) hK hp hall hd0 hd1 hd2 hd3 hF h0 h1 (fun b => by cases b <;> assumption) k2 k1 k3 k4 h hq 6 false false false false c _ (fun h => by cases h) (fun h => by cases h) (by simp) ?_
              exact ⟨r, undef, undef, undef, undef, Rn.le_refl _, ⟨rfl, rfl, rfl, Nat.le_refl _, fun _ _ => rfl⟩, rfl, (fun h => by cases h), (fun h => by cases h), (fun h => by cases h), hI.drawn 1⟩
theorem drawD_sound (hm : P.follows .mixedOrders = true) (hK : KS P K) {id : Nat} {a' : Fr} {H' : AH} (hI : Inv P N r H w) (hF : AF r a c) (h : drawD P K all a H = .ok a' H')
    (hq : ∀ s c' w', Rn.le r s → AF s a' c' → Inv P N s H' w' → Bel N w w' → Q .normal c' w') : (Code.region id all true).wp P Q c w := by
  unfold drawD at h
  split at h
  · rename_i o0 o1 o2 o3 o4 o5 hl
    split at h
    · rename_i d0 d1 d2 d3 hd0 hd1 hd2 hd3
      cases hap : apB all a.m o0 o1 o2 o3 o4 o5 d0 d1 d2 d3 with
      | true =>
        rw [hap, cond_true] at h
        exact drawC_sound hm hK hap (Array.ext' hl) hd0 hd1 hd2 hd3 hI hF h hq
      | false =>
        rw [hap, cond_false] at h
        exact drawA_sound hm hK hI hF h hq
    · exact drawA_sound hm hK hI hF h hq
  · exact drawA_sound hm hK hI hF h hq
end
end Go.Eng
