/-
  Our machine's operations, further: append and clear.
  Conditions: none; plain theorems.
-/
import Derived.Test.YtfcebfbdodeecaaGreatDoorEngEg
import Derived.Deep.AppendSrc
import GoSem.Builtin.Clear
namespace Go.Eng
open Go Go.RowKit
set_option linter.unusedVariables false
set_option linter.unusedSimpArgs false
section
variable {P : Program} {N : Nat → Prop} {r : Rn} {H H' : AH} {w : World} {a : Fr} {c : Act} {o : Oper} {v : Value}
theorem src_sound (hI : Inv P N r H w) {size n : Nat} {x x' : Value} {news : List Value} (hx : VR r x x') {tx : TypeId} (hk : srcK P tx x = true) (h : srcA H size x = some (n, news)) :
    ∃ news', LR r news news' ∧ Src P size tx x' n news' w := by
  unfold srcA at h
  unfold srcK at hk
  cases hu : P.underlying tx with
  | none => rw [hu] at hk; (split at hk <;> simp_all)
  | some d =>
    rw [hu] at hk
    cases x <;> try (cases h; done)
    case string s =>
      cases d <;> try (cases hk; done)
      dsimp only at h
      cases hb : Nat.beq size 1 with
      | false => rw [hb] at h; cases h
      | true =>
        rw [hb] at h
        obtain rfl := Nat.eq_of_beq_eq_true hb
        have := Option.some.inj h
        obtain ⟨rfl, rfl⟩ := Prod.mk.inj this
        cases hx
        refine ⟨byteCells s, ?_, Src.ofString w hu s⟩
        refine plainL_refl ?_
        rw [List.all_eq_true]
        intro y hy
        obtain ⟨_, _, rfl⟩ := List.mem_map.1 hy
        rfl
    case slice b m cap =>
      cases d <;> try (cases hk; done)
      case slice e =>
        cases b with
        | none =>
          dsimp only at h
          cases hb : Nat.beq m 0 with
          | false => rw [hb] at h; cases h
          | true =>
            rw [hb] at h
            obtain rfl := Nat.eq_of_beq_eq_true hb
            have := Option.some.inj h
            obtain ⟨rfl, rfl⟩ := Prod.mk.inj this
            cases hx
            exact ⟨[], .nil, Src.ofNil w hu cap⟩
        | some b =>
          dsimp only at h
          cases hx with
          | sl i off _ _ p hp =>
            cases hl : loadC H ⟨i, off, none⟩ (m * size) with
            | none => rw [hl] at h; cases h
            | some cs =>
              rw [hl] at h
              dsimp only at h
              cases hb : cs.all oneB with
              | false => rw [hb] at h; cases h
              | true =>
                rw [hb] at h
                have := Option.some.inj h
                obtain ⟨rfl, rfl⟩ := Prod.mk.inj this
                obtain ⟨cs', g1, g2, g3, g4⟩ := load_sound hI hp hl
                exact ⟨cs', g2, Src.ofSlice w hu _ _ _ cs' (by rw [← g2.length]; exact g3) g4 (oneB_LR g2 hb)⟩
theorem run_room {t tx ty e : TypeId} {i : TypeInfo} (ht : P.underlying t = some (.slice e)) (hi : P.info? e = some i) {b off sLen sCap : Nat} {x : Value} {n : Nat} {news : List Value} (hs : Src P i.size tx x n news w)
    (hroom : sLen + n ≤ sCap) {w' : World} (hst : (storeCells ⟨b, off + sLen * i.size, none⟩ news 0).run P w = .ok () w') :
    (Builtin.append_ #[t, tx] ty #[.slice (some ⟨b, off, none⟩) sLen sCap, x]).run P w = .ok (.slice (some ⟨b, off, none⟩) (sLen + n) sCap) w' := by
  rcases hs.kind with ⟨e', hk⟩ | hk <;> simp [Builtin.append_, run_underlying ht, run_underlying hk, sizeOf, typeInfo, hi, hs.len, hroom, hs.cells, Addr.add_lit, hst]
theorem cut_append {α : Type} (l news rest : List α) (po m : Nat) (h : po + m ≤ l.length) : ((l.take (po + m) ++ news ++ rest).drop po).take (m + news.length) = (l.drop po).take m ++ news := by
  rw [List.append_assoc, List.drop_append_of_le_length (by rw [List.length_take]; omega), List.drop_take, show po + m - po = m by omega]
  have hl : ((l.drop po).take m).length = m := by rw [List.length_take, List.length_drop]; omega
  rw [List.take_append, hl, List.take_of_length_le (by omega), show m + news.length - m = news.length by omega, List.take_append_of_le_length (Nat.le_refl _), List.take_length]
theorem cut_cut {α : Type} (l : List α) (n off m : Nat) (h : off + m ≤ n) : ((l.take n).drop off).take m = (l.drop off).take m := by
  rw [List.drop_take, List.take_take, Nat.min_eq_left (by omega)]
theorem repl_mem {y : Value} {l : List Value} : ∀ {n : Nat}, y ∈ repl n l → y ∈ l
  | 0, h => by cases h
  | n + 1, h => by
    have h : y ∈ l ++ repl n l := h
    rcases List.mem_append.1 h with h | h
    · exact h
    · exact repl_mem h
/-- A row that has grown. -/
theorem Inv.grow (hI : Inv P N r H w) (ht : H.next < 2 ^ hd) {L L' : List Value} (hL : LR r L L') {size k : Nat} {e : TypeId} (hs : sizeT P e = some size) {zz : Array Value} (hzz : zz.size = k * size) :
    Inv P N (r.add H.next ⟨w.heap.size, 0, k⟩) (H.new (.cells L e true)) (w.drew.alloc (.cells (L'.toArray ++ zz) e)) := by
  refine (hI.drawn 1).make ht hI.fresh (by rw [World.size_alloc]; exact Nat.le_succ _) (fun j oj pj hj ho hdd hp => ?_) ⟨fun e => by (cases e), L'.toArray ++ zz, ?_, ?_, ?_⟩
  · obtain ⟨q, hq, -, hqo⟩ := hI.obj j oj hj ho
    obtain rfl : q = pj := Option.some.inj (hq.symm.trans hp)
    have := hqo.lt hdd
    exact ⟨by show q.b ≠ w.heap.size; omega, Below.heap_alloc w.drew _ _ this⟩
  · show (w.drew.heap.push _)[w.heap.size]? = _
    exact Array.getElem?_push_size
  · rw [hs, Array.size_append, List.size_toArray, hzz, ← hL.length]
    dsimp only [Option.getD]
    omega
  · rw [Array.toList_append, List.drop_zero, hL.length, List.take_append_of_le_length (Nat.le_refl _), List.take_length]
    exact hL.mono (hI.le_add ht _)
theorem VR.grown {q : Rn} {k : Nat} {p : Pl} (hp : q k = some p) {n m : Nat} (hm : m = n + p.x) : VR q (.slice (some ⟨k, 0, none⟩) n n) (.slice (some ⟨p.b, p.o, none⟩) n m) := by
  have := VR.sl k 0 n n p hp
  rw [hm]
  exact this
/-- What append answers. -/
theorem append_sound (hI : Inv P N r H w) {t tx ty : TypeId} {s x s' x' : Value} (hs : VR r s s') (hx : VR r x x') (hk : srcK P tx x = true) (h : appendA P H t s x = some (v, H')) :
    ∃ q v' w', Rn.le r q ∧ (Builtin.append_ #[t, tx] ty #[s', x']).run P w = .ok v' w' ∧ VR q v v' ∧ Inv P N q H' w' ∧ Bel N w w' := by
  unfold appendA at h
  cases hu : P.underlying t with
  | none => rw [hu] at h; (split at h <;> simp_all)
  | some d =>
    rw [hu] at h
    cases d <;> try (cases h; done)
    case slice e =>
      dsimp only at h
      cases hi : P.info? e with
      | none => rw [hi] at h; cases h
      | some i =>
        rw [hi] at h
        dsimp only at h
        cases hsr : srcA H i.size x with
        | none => rw [hsr] at h; cases h
        | some nn =>
          obtain ⟨n, news⟩ := nn
          rw [hsr] at h
          cases s <;> try (cases h; done)
          case slice base len cap =>
            dsimp only at h
            obtain ⟨news', hn, hS⟩ := src_sound hI hx hk hsr
            have hnl := hn.length
            have hnl2 := hS.newsLen
            cases hb : Nat.ble (len + n) cap with
            | true =>
              rw [hb] at h
              have hroom := Nat.le_of_ble_eq_true hb
              cases base with
              | none => cases h
              | some ad =>
                dsimp only [cond_true] at h
                cases hs with
                | sl ib off _ _ p hp =>
                  unfold addA at h
                  rw [Addr.add_lit] at h
                  cases hst : storeC H ⟨ib, off + len * i.size, none⟩ news with
                  | none => rw [hst] at h; cases h
                  | some H2 =>
                    rw [hst] at h
                    have := Option.some.inj h
                    obtain ⟨rfl, rfl⟩ := Prod.mk.inj this
                    obtain ⟨w', g1, g2, g3, -, -⟩ := store_sound hI hp hn hS.one hst
                    rw [← Nat.add_assoc] at g1
                    exact ⟨r, _, w', Rn.le_refl _, run_room hu hi hS (Nat.le_trans hroom (Nat.le_add_right _ _)) g1, .sl ib off _ _ p hp, g2, g3⟩
            | false =>
              rw [hb] at h
              dsimp only [cond_false] at h
              have hroom : cap < len + n := by
                rcases Nat.lt_or_ge cap (len + n) with h' | h'
                · exact h'
                · rw [Nat.ble_eq_true_of_le h'] at hb
                  cases hb
              cases hcd : (Nat.blt H.next 1048576 && zeroOk i && Nat.ble ((len + n) * i.bytes) 140737488355328 && Nat.ble (len + n) 140737488355328) with
              | false => rw [hcd] at h; cases h
              | true =>
                rw [hcd, cond_true] at h
                simp only [Bool.and_eq_true] at hcd
                obtain ⟨⟨⟨c1, c2⟩, c3⟩, c4⟩ := hcd
                have c1 : H.next < 2 ^ hd := Nat.le_of_ble_eq_true c1
                have c3 := Nat.le_of_ble_eq_true c3
                have c4 := Nat.le_of_ble_eq_true c4
                unfold zeroOk at c2
                cases hz : i.zero with
                | none => rw [hz] at c2; cases c2
                | some z =>
                  rw [hz] at c2
                  have c2 : (cellsOf z).length = i.size := Nat.eq_of_beq_eq_true c2
                  have hzs : z.cells.size = i.size := by rw [← c2, ← cellsOf_eq, Array.length_toList]
                  have hsz : sizeT P e = some i.size := by
                    unfold sizeT
                    rw [hi]
                  have hfit : ∀ old, old < len + n → Builtin.nextslicecap (len + n) old * i.bytes ≤ 281474976710656 := fun old ho => by
                    have h1 := Nat.mul_le_mul_right i.bytes (nextslicecap_le ho)
                    have h2 : 2 * (len + n) * i.bytes = 2 * ((len + n) * i.bytes) := Nat.mul_assoc _ _ _
                    omega
                  cases base with
                  | none =>
                    dsimp only at h
                    cases hb0 : (Nat.beq len 0 && Nat.beq cap 0) with
                    | false => rw [hb0] at h; cases h
                    | true =>
                      rw [hb0, cond_true] at h
                      rw [Bool.and_eq_true] at hb0
                      obtain rfl := Nat.eq_of_beq_eq_true hb0.1
                      obtain rfl := Nat.eq_of_beq_eq_true hb0.2
                      have := Option.some.inj h
                      obtain ⟨rfl, rfl⟩ := Prod.mk.inj this
                      cases hs
                      have hr := run_append_grow_src (P := P) w t tx ty e i z hu hi hz none 0 0 [] (run_firstCells_none w.drew i.size 0 0 0) x' n news' hS hroom (by omega) (hfit 0 hroom)
                      have hgc := grownCap_ge w (0 + n) 0 e
                      obtain ⟨gc, hgce⟩ : ∃ gc, grownCap w (0 + n) 0 e = gc := ⟨_, rfl⟩
                      rw [hgce] at hr hgc
                      rw [Nat.zero_add] at hgc hr
                      exact ⟨r.add H.next ⟨w.heap.size, 0, gc - n⟩, _, _, hI.le_add c1 _, hr, VR.grown (Rn.add_at _ _ _) (by dsimp only; omega), hI.grow c1 hn hsz (by rw [size_zeroCells, hzs]), ⟨rfl, rfl, rfl, by rw [World.size_alloc]; exact Nat.le_succ _, fun k hk => Below.heap_alloc w.drew _ k (hI.low k hk)⟩⟩
                  | some ad =>
                    cases hs with
                    | sl ib off _ _ p hp =>
                      dsimp only at h
                      cases hob : H.obj ib with
                      | none => rw [hob] at h; cases h
                      | some ob =>
                        rw [hob] at h
                        cases ob <;> try (cases h; done)
                        case cells cl te g =>
                          dsimp only at h
                          cases hb1 : (Nat.beq (off + cap * i.size) cl.length && Nat.beq te e) with
                          | false => rw [hb1] at h; cases h
                          | true =>
                            rw [hb1, cond_true] at h
                            rw [Bool.and_eq_true] at hb1
                            have d1 := Nat.eq_of_beq_eq_true hb1.1
                            obtain rfl := Nat.eq_of_beq_eq_true hb1.2
                            cases htk : takeN cl off (len * i.size) with
                            | none => rw [htk] at h; cases h
                            | some olds =>
                              rw [htk] at h
                              have := Option.some.inj h
                              obtain ⟨rfl, rfl⟩ := Prod.mk.inj this
                              have hlo : loadC H ⟨ib, off, none⟩ (len * i.size) = some olds := by
                                unfold loadC
                                dsimp only
                                rw [hob]
                                exact htk
                              obtain ⟨q, hq, hN, g1, c', h2, h3, h4⟩ := hI.obj ib _ (obj_lt hob) hob
                              obtain rfl : q = p := Option.some.inj (hq.symm.trans hp)
                              have hI2 : Inv P N r (cond g (H.put ib .dead) H) w := by
                                cases g with
                                | true => exact hI.kill hp hob
                                | false => exact hI
                              have hnx : (cond g (H.put ib .dead) H).next = H.next := by cases g <;> rfl
                              rcases Nat.lt_or_ge (cap + q.x) (len + n) with hgr | hin
                              · obtain ⟨olds', o1, o2, o3, o4⟩ := load_sound (hI.drawn 1) hp hlo
                                have hr := run_append_grow_src (P := P) w t tx ty te i z hu hi hz (some ⟨q.b, q.o + off, none⟩) len (cap + q.x) olds' o1 x' n news' hS hgr (by omega) (hfit _ hgr)
                                have hgc := grownCap_ge w (len + n) (cap + q.x) te
                                obtain ⟨gc, hgce⟩ : ∃ gc, grownCap w (len + n) (cap + q.x) te = gc := ⟨_, rfl⟩
                                rw [hgce] at hr hgc
                                have := hI2.grow (by rw [hnx]; exact c1) (o2.append hn) hsz (zz := Builtin.zeroCells z.cells (gc - (len + n))) (k := gc - (len + n)) (by rw [size_zeroCells, hzs])
                                rw [hnx] at this
                                exact ⟨r.add H.next ⟨w.heap.size, 0, gc - (len + n)⟩, _, _, hI.le_add c1 _, hr, VR.grown (Rn.add_at _ _ _) (by dsimp only; omega), this, ⟨rfl, rfl, rfl, by rw [World.size_alloc]; exact Nat.le_succ _, fun k hk => Below.heap_alloc w.drew _ k (hI.low k hk)⟩⟩
                              · have hg : g = true := by
                                  cases g with
                                  | true => rfl
                                  | false =>
                                    have := (g1 rfl).2
                                    omega
                                subst hg
                                obtain ⟨t1, t2⟩ := takeN_some htk
                                have hm : (len + n) * i.size ≤ (cap + q.x) * i.size := Nat.mul_le_mul_right i.size hin
                                rw [Nat.add_mul, Nat.add_mul] at hm
                                rw [hsz] at h3
                                dsimp only [Option.getD] at h3
                                have hst := run_storeCells_at (P := P) q.b (q.o + off + len * i.size) te news' 0 c' w h2 (by omega) hS.one
                                rw [Nat.add_zero] at hst
                                have hr := run_room (ty := ty) hu hi hS hin hst
                                refine ⟨r.add H.next ⟨q.b, q.o + off, cap + q.x - (len + n)⟩, _, _, hI.le_add c1 _, hr, VR.grown (Rn.add_at _ _ ⟨q.b, q.o + off, cap + q.x - (len + n)⟩) (by dsimp only; omega), ?_, ⟨rfl, rfl, rfl, by rw [setRow_size]; exact Nat.le_refl _, fun k hk => setRow_other w q.b k _ (fun e => hN (e ▸ hk))⟩⟩
                                have hit := obj_lt hob
                                refine (hI.kill hp hob).make (H := H.put ib .dead) c1 hN (by rw [setRow_size]; exact Nat.le_refl _) (fun j oj pj hj ho hdd hpj => ?_) ⟨fun e => by (cases e), _, setRow_heap w q.b c' _ te (0, 0) h2, ?_, ?_⟩
                                · have hne : ib ≠ j := fun e => by
                                    subst e
                                    rw [obj_put_eq hit] at ho
                                    obtain rfl := Option.some.inj ho
                                    cases hdd
                                  rw [obj_put_ne _ hit hj hne] at ho
                                  have hb : pj.b ≠ q.b := fun e => hne (hI.sep ib j _ oj q pj hit hj hob ho rfl hdd hp hpj e.symm)
                                  exact ⟨hb, setRow_other w q.b pj.b _ hb⟩
                                · have hsub : (cap + q.x - (len + n)) * i.size = (cap + q.x) * i.size - (len + n) * i.size := Nat.sub_mul _ _ _
                                  rw [Nat.add_mul, Nat.add_mul] at hsub
                                  rw [hsz, List.size_toArray, List.length_append, List.length_append, List.length_append, List.length_take, List.length_drop, Array.length_toList (xs := c'), t2, List.length_take, List.length_drop]
                                  dsimp only [Option.getD]
                                  omega
                                · have hol : olds.length = len * i.size := by
                                    rw [t2, List.length_take, List.length_drop]
                                    omega
                                  show LR _ (olds ++ news) (List.take (olds ++ news).length (List.drop (q.o + off) (List.take (q.o + off + len * i.size) c'.toList ++ news' ++ List.drop (q.o + off + len * i.size + news'.length) c'.toList)))
                                  rw [List.length_append, hol, hnl, cut_append _ _ _ _ _ (by rw [Array.length_toList (xs := c')]; omega)]
                                  refine LR.mono (hI.le_add c1 _) (LR.append ?_ hn)
                                  have := (h4.drop off).take (len * i.size)
                                  rw [cut_cut _ _ _ _ t1, List.drop_drop, ← t2] at this
                                  exact this
theorem s_append (hI : Inv P N r H w) (hF : FrR r a c) {cl : Call} (ho : o.op = .call cl) (hc : cl.callee = .builtin .append) (h : opA P a o H = some (v, H')) : Good P N r c o w v H' := by
  unfold opA at h
  rw [ho] at h
  dsimp only at h
  rw [hc] at h
  dsimp only at h
  cases hx : evs a cl.args.toList with
  | none => rw [hx] at h; cases h
  | some vs =>
    rw [hx] at h
    rcases vs with _ | ⟨s, _ | ⟨x, _ | ⟨_, _⟩⟩⟩ <;> try (cases h; done)
    cases ht : cl.argTypes.toList with
    | nil => rw [ht] at h; cases h
    | cons t ts =>
      rw [ht] at h
      rcases ts with _ | ⟨tx, _ | ⟨_, _⟩⟩ <;> try (cases h; done)
      dsimp only at h
      cases hk : srcK P tx x with
      | false => rw [hk] at h; cases h
      | true =>
        rw [hk, cond_true] at h
        obtain ⟨vs', e1, e2⟩ := args_sound hF hx
        obtain ⟨s', x', rfl, hs, hx'⟩ := two_inv e2
        obtain ⟨q, v', w', hq, hr, hv, hI', hB⟩ := append_sound (ty := o.type) hI hs hx' hk h
        obtain ⟨cs, hcs⟩ := run_builtin (P := P) (w := w) ho hc c.eval
        refine ⟨q, v', w', _, hq, ?_, .inl rfl, hv, hI', hB⟩
        rw [hcs, e1, types_two ht]
        simp [builtin, hr, Sem.run_bind]
theorem s_clear (hI : Inv P N r H w) (hF : FrR r a c) {cl : Call} (ho : o.op = .call cl) (hc : cl.callee = .builtin .clear) (h : opA P a o H = some (v, H')) : Good P N r c o w v H' := by
  unfold opA at h
  rw [ho] at h
  dsimp only at h
  rw [hc] at h
  dsimp only at h
  cases hx : evs a cl.args.toList with
  | none => rw [hx] at h; cases h
  | some vs =>
    rw [hx] at h
    rcases vs with _ | ⟨x, _ | ⟨_, _⟩⟩ <;> try (cases h; done)
    cases ht : cl.argTypes.toList with
    | nil => rw [ht] at h; cases h
    | cons t ts =>
      rw [ht] at h
      rcases ts with _ | ⟨tx, ts⟩ <;> try (cases h; done)
      dsimp only at h
      obtain ⟨vs', e1, e2⟩ := args_sound hF hx
      obtain ⟨x', rfl, hx'⟩ := one_inv e2
      obtain ⟨cs, hcs⟩ := run_builtin (P := P) (w := w) ho hc c.eval
      rw [e1, types_one ht] at hcs
      unfold clearA at h
      cases hu : P.underlying t with
      | none => rw [hu] at h; cases h
      | some d =>
        rw [hu] at h
        cases d <;> try (cases h; done)
        case slice e =>
          dsimp only at h
          cases hz : zeroT P e with
          | none => rw [hz] at h; cases h
          | some z =>
            rw [hz] at h
            cases x <;> try (cases h; done)
            case slice b n cap =>
              cases b with
              | none =>
                have := Option.some.inj h
                obtain ⟨rfl, rfl⟩ := Prod.mk.inj this
                cases hx'
                refine Good.same hI (v' := undef) ?_ undef_VR
                rw [hcs]
                simp [builtin, Builtin.clear_, run_underlying hu, Sem.run_bind, undef]
              | some b =>
                dsimp only at h
                cases hb : ((cellsOf z).all oneB && Nat.blt 0 (cellsOf z).length) with
                | false => rw [hb] at h; cases h
                | true =>
                  rw [hb, cond_true] at h
                  cases hx' with
                  | sl i off _ _ p hp =>
                    cases hst : storeC H ⟨i, off, none⟩ (repl n (cellsOf z)) with
                    | none => rw [hst] at h; cases h
                    | some H2 =>
                      rw [hst] at h
                      have := Option.some.inj h
                      obtain ⟨rfl, rfl⟩ := Prod.mk.inj this
                      obtain ⟨ti, hti, hzi, hpz⟩ := zeroT_some hz
                      rw [Bool.and_eq_true] at hb
                      have hpos : 0 < (cellsOf z).length := Nat.le_of_ble_eq_true hb.2
                      have hzs : z.cells.size = (cellsOf z).length := by rw [← cellsOf_eq, Array.length_toList]
                      have hL := repl_range (r := r) n z (cellsOf z).length rfl hpos hpz
                      have hone : ∀ y ∈ ((Array.range (n * (cellsOf z).length)).map (z.cells[· % z.cells.size]!)).toList, y.oneCell' = true := by
                        refine oneB_LR hL ?_
                        rw [List.all_eq_true] at hb ⊢
                        intro y hy
                        exact hb.1 y (repl_mem hy)
                      obtain ⟨w', g1, g2, g3, -, -⟩ := store_sound hI hp hL hone hst
                      refine ⟨r, undef, w', .value undef, Rn.le_refl _, ?_, .inl rfl, undef_VR, g2, g3⟩
                      rw [hcs]
                      have hzc : (Builtin.zeroCells z.cells n).toList = ((Array.range (n * (cellsOf z).length)).map (z.cells[· % z.cells.size]!)).toList := by
                        unfold Builtin.zeroCells
                        rw [hzs]
                      cases n with
                      | zero =>
                        have e : w = w' := by
                          rw [Nat.zero_mul] at g1
                          rw [show ((Array.range 0).map (z.cells[· % z.cells.size]!)).toList = [] by simp] at g1
                          have : (Result.ok () w : Result Unit) = .ok () w' := g1
                          cases this
                          rfl
                        subst e
                        simp [builtin, Builtin.clear_, run_underlying hu, Sem.run_bind, undef]
                      | succ n =>
                        rw [← hzc] at g1
                        simp [builtin, Builtin.clear_, run_underlying hu, run_zero hti hzi, g1, Sem.run_bind, undef]
end
end Go.Eng
