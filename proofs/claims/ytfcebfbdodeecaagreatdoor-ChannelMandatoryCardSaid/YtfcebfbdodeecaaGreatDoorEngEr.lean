/-
  Regions whose order is drawn: the theorem.
  Conditions: none; plain theorems.
-/
import Derived.Test.YtfcebfbdodeecaaGreatDoorEngEq
namespace Go.Eng
open Go Go.RowKit
set_option linter.unusedVariables false
set_option linter.unusedSimpArgs false
section
variable {P : Program} {K : CallF} {N : Nat → Prop} {all : Array Oper} {a : Fr} {S : DS} {r s : Rn} {w0 w : World} {D : Array Bool} {c : Act} {H0 Hf : AH} {Q : Exit → Act → World → Prop} {i : Nat} {o : Oper} {R : DR}
theorem at_some {c : Array Value} {t : Nat} (h : t < c.size) : c[t]? = some (c.getD t undef) := by
  simp [h]
theorem wanted_mask (hd : DI P N all a S r w0 D s c w) (hF : Fact P K all a S i o R) (hF2 : FrR s R.f (maskC c a.m (Oper.looksAt all o))) : Region.wanted o (yielded all c.tmps) = R.w := by
  rw [← hF.want, ← want_sound hF2 all o]
  unfold Region.wanted
  cases hg : o.guard with
  | none => rfl
  | some gw =>
    obtain ⟨g, want⟩ := gw
    dsimp only
    have : yielded all c.tmps g = yielded all (maskC c a.m (Oper.looksAt all o)).tmps g := by
      unfold yielded
      cases hx : (all[g]?).bind (·.dst) with
      | none => rfl
      | some d =>
        have hm : d ∈ Oper.looksAt all o := by
          unfold Oper.looksAt
          rw [hg]
          dsimp only
          rw [hx]
          exact List.mem_append_right _ (by simp)
        have hlt := (hF.inS d hm).1
        dsimp only [Option.bind_some]
        rw [at_some (c := c.tmps) (by rw [hd.tm]; exact hlt), at_some (c := (maskC c a.m (Oper.looksAt all o)).tmps) (by simp [maskC]; exact hlt), maskC_get _ _ _ _ hlt, if_pos hm]
    rw [this]
theorem exec_mask (hF : Fact P K all a S i o R) (hs : ∀ cs b, o.op ≠ .select cs b) : execOp c.eval o = execOp (maskC c a.m (Oper.looksAt all o)).eval o := by
  refine execOp_congr o hs fun x hx => ?_
  cases x with
  | tmp t =>
    have hm : t ∈ Oper.looksAt all o := by
      unfold Oper.looksAt
      exact List.mem_append_left _ (List.mem_filterMap.2 ⟨.tmp t, by simpa using hx, rfl⟩)
    show c.tmps.getD t undef = (maskC c a.m (Oper.looksAt all o)).tmps.getD t undef
    rw [maskC_get _ _ _ _ (hF.inS t hm).1, if_pos hm]
  | const v => rfl
  | global g => rfl
  | func f => rfl
theorem quiet_step (he : isEff o.op = false) {v : Value} {H H' : AH} (h : opA P a o H = some (v, H')) : stepO P K a o H = .ok v H' := by
  unfold stepO
  have : isCallF o.op = none := by
    unfold isCallF
    cases ho : o.op <;> try rfl
    case call cl =>
      dsimp only
      cases hc : cl.callee with
      | value f =>
        rw [ho] at he
        unfold isEff at he
        dsimp only at he
        rw [hc] at he
        cases he
      | invoke x n => rfl
      | builtin b => rfl
  rw [this]
  dsimp only
  rw [h]
theorem any_sound (hK : KS P K) (ham : a.m ≤ 512) (hD : DF P K all a H0 S all.size) (hc : chk2 P all.toList a S all.toList 0 = true) (hf : S.hs.getLast? = some Hf) (hq : ∀ s c w, Rn.le r s → AF s (finD all.toList S.rs a) c → Inv P N s Hf w → Bel N w0 w → Q .normal c w) :
    ∀ (fuel : Nat) (D : Array Bool) (s : Rn) (c : Act) (w : World), DI P N all a S r w0 D s c w → (List.range all.size).countP (fun i => !D.getD i true) ≤ fuel → wpAny P .any all Q fuel D c w
  | 0, D, s, c, w, hd, hcnt => by
    have hall : ∀ i, i < all.size → D.getD i false = true := fun i hi => by
      have := List.countP_eq_zero.1 (Nat.le_zero.1 hcnt) i (List.mem_range.2 hi)
      rw [← getD_both (by rw [hd.size]; exact hi)]
      cases hx : D.getD i true with
      | true => rfl
      | false => rw [hx] at this; exact absurd rfl this
    refine ⟨?_, any_end ham hD hc hf hq hd hall⟩
    rw [List.eq_nil_iff_forall_not_mem]
    intro j hj
    obtain ⟨h1, o, ho, -⟩ := mem_ready.1 hj
    have hj := (Array.getElem?_eq_some_iff.1 ho).1
    rw [getD_both (by rw [hd.size]; exact hj), hall j hj] at h1
    cases h1
  | fuel + 1, D, s, c, w, hd, hcnt => by
    refine ⟨fun h => any_end ham hD hc hf hq hd (ready_nil hc hd.size h), fun i hi => ?_⟩
    obtain ⟨h1, o, ho, hpre0⟩ := mem_ready.1 hi
    have hil := (Array.getElem?_eq_some_iff.1 ho).1
    have hilD : i < D.size := by rw [hd.size]; exact hil
    have hDi : D.getD i false = false := by rw [← getD_both hilD]; exact h1
    have hpre : ∀ ed ∈ o.after.toList, bindsB ed = true → D.getD ed.on false = true := fun ed he hb => hpre0 ed (Array.mem_toList_iff.1 he) (by rw [← binds_eq]; exact hb)
    obtain ⟨-, hdst, R, hR, hquiet⟩ := chk2_sound hc i o (by rw [Array.getElem?_toList]; exact ho)
    rw [Nat.zero_add] at hdst hR hquiet
    have hF := hD.fact i o R ho hR
    have hfr := hd.frame ham hF ho hpre
    have hfuel : (List.range all.size).countP (fun k => !(D.setIfInBounds i true).getD k true) ≤ fuel := by
      have : (List.range all.size).countP (fun k => !(D.setIfInBounds i true).getD k true) < (List.range all.size).countP (fun k => !D.getD k true) := by
        refine countP_lt (i := i) (fun x hx => ?_) (List.mem_range.2 hil) (by rw [h1]; rfl) ?_
        · by_cases e : i = x
          · subst e
            rw [h1]
            rfl
          · rw [getD_set_ne true e] at hx
            exact hx
        · rw [getD_both (by rw [Array.size_setIfInBounds]; exact hilD), getD_self hilD]
          rfl
      omega
    obtain ⟨e, H, he1, he2, hI⟩ := hd.mem
    have hpin : ∀ j, Pre all i j → D.getD j false = true := fun j hj => pre_in hd.down hj fun o' ho' => by
      obtain rfl := Option.some.inj (ho'.symm.trans ho)
      exact hpre
    unfold wpOp
    rw [ho]
    dsimp only
    rw [wanted_mask hd hF hfr]
    -- what stays as it was where nothing is done to the memory
    have hsame : (R.w = true → isEff o.op = false) → ∀ s' w', Inv P N s' H w' → ∃ (e : Nat) (H : AH), (∀ (q k : Nat), S.es[q]? = some k → ((D.setIfInBounds i true).getD k false = true ↔ q < e)) ∧ S.hs[e]? = some H ∧ Inv P N s' H w' := fun hn s' w' hI' => by
      refine ⟨e, H, fun q k hqk => ?_, he2, hI'⟩
      obtain ⟨R', o', k1, k2, k3, k4⟩ := hD.el q k hqk
      have hne : i ≠ k := fun e => by
        subst e
        obtain rfl := Option.some.inj (k1.symm.trans hR)
        obtain rfl := Option.some.inj (k2.symm.trans ho)
        rw [hn k3] at k4
        cases k4
      rw [getD_set_ne false hne]
      exact he1 q k hqk
    cases hw : R.w with
    | false =>
      rw [if_neg (by simp)]
      exact any_sound hK ham hD hc hf hq fuel _ s _ w (hd.step ho hR hpre hdst (Rn.le_refl _) (by rw [hF.unw hw]; exact undef_VR) (hsame (fun h => by rw [hw] at h; cases h) s w hI) (Bel.refl _ _)) hfuel
    | true =>
      rw [if_pos rfl]
      refine .inl ?_
      unfold Oper.wp
      cases hee : isEff o.op with
      | false =>
        have hpos : possB S.rs i R.m (0 + e) S.es 0 = true := possB_true fun q k hqk => by
          rw [Nat.zero_add, Nat.zero_add]
          refine ⟨fun hlt Rk hRk => ?_, fun hge => ?_⟩
          · cases hx : Rk.m.testBit i with
            | false => rfl
            | true =>
              obtain ⟨R', o', k1, k2, -⟩ := hD.el q k hqk
              have := pre_in hd.down ((hD.fact k o' Rk k2 hRk).mask i hx) (hd.down k · ((he1 q k hqk).2 hlt))
              rw [hDi] at this
              cases this
          · cases hx : R.m.testBit k with
            | false => rfl
            | true =>
              have := (he1 q k hqk).1 (hpin k (hF.mask k hx))
              omega
        obtain ⟨H', hop⟩ : ∃ H', opA P R.f o H = some (R.v, H') := by
          rcases chkH_sound (hquiet hw hee) e H he2 hpos with he3 | h3
          · obtain ⟨H3, H', g1, g2⟩ := hF.qui hw hee
            rw [Nat.zero_add] at he3
            rw [← he3, he2] at g1
            obtain rfl := Option.some.inj g1
            exact ⟨H', g2⟩
          · exact h3
        obtain rfl := same_of_quiet hee hop
        rw [exec_mask hF (fun cs b e => by unfold opA at hop; rw [e] at hop; cases hop)]
        exact stepO_sound hK hI hfr (quiet_step hee hop) c fun s' v' w' g1 g2 g3 g4 =>
          any_sound hK ham hD hc hf hq fuel _ s' _ w' (hd.step ho hR hpre hdst g1 g2 (hsame (fun _ => hee) s' w' g3) g4) hfuel
      | true =>
        obtain ⟨q, Hq, H', f1, f2, f3, f4, f5⟩ := hF.eff hw hee
        have hqe : e = q := by
          have h1 : ¬ q < e := fun h => by
            rw [(he1 q i f1).2 h] at hDi
            cases hDi
          have h2 : q ≤ e := by
            cases q with
            | zero => exact Nat.zero_le _
            | succ k =>
              obtain ⟨j, j1, j2⟩ := f5 k rfl
              exact (he1 k j j1).1 (hpin j (hF.mask j j2))
          omega
        subst hqe
        obtain rfl := Option.some.inj (he2.symm.trans f2)
        rw [exec_mask hF (fun cs b e => by rw [e] at hee; cases hee)]
        refine stepO_sound hK hI hfr f4 c fun s' v' w' g1 g2 g3 g4 =>
          any_sound hK ham hD hc hf hq fuel _ s' _ w' (hd.step ho hR hpre hdst g1 g2 ⟨e + 1, H', fun q k hqk => ?_, f3, g3⟩ g4) hfuel
        by_cases ek : i = k
        · subst ek
          rw [getD_self hilD, hD.inj q e i hqk f1]
          simp
        · rw [getD_set_ne false ek, he1 q k hqk]
          have : q ≠ e := fun h => ek (by subst h; exact Option.some.inj (f1.symm.trans hqk))
          omega
theorem drawA_sound (hm : P.follows .mixedOrders = true) (hK : KS P K) {id : Nat} {a' : Fr} {H H' : AH} (hI : Inv P N r H w) (hF : AF r a c) (h : drawA P K all a H = .ok a' H')
    (hq : ∀ s c' w', Rn.le r s → AF s a' c' → Inv P N s H' w' → Bel N w w' → Q .normal c' w') : (Code.region id all true).wp P Q c w := by
  have ham := hF.1.2.1
  unfold drawA at h
  cases hd : d1 P K all a all.toList 0 ⟨[], [], [H]⟩ with
  | none => rw [hd] at h; cases h
  | some S =>
    rw [hd] at h
    dsimp only at h
    cases hc : chk2 P all.toList a S all.toList 0 with
    | false => rw [hc] at h; cases h
    | true =>
      rw [hc, cond_true] at h
      cases hf : S.hs.getLast? with
      | none => rw [hf] at h; cases h
      | some Hf =>
        rw [hf] at h
        cases h
        have hD := d1_sound (P := P) (K := K) (all := all) (a := a) (H0 := H) ham (n := 0) rfl DF.start (Nat.zero_le _) hd
        refine wp_region_any hm (any_sound (w0 := w) hK ham hD hc hf hq all.size _ r c { w with drawn := w.drawn + 1 } ?_ ?_)
        · have hfalse : ∀ i d, (Array.replicate all.size false).getD i d = true → i < all.size → False := fun i d h hi => by
            simp [hi] at h
          have hfalse2 : ∀ i, (Array.replicate all.size false).getD i false = false := fun i => by
            by_cases hi : i < all.size <;> simp [hi]
          refine ⟨by simp, fun i o h => ?_, hF.1.1, hF.2, fun t j R ht hj hDj => ?_, fun t ht _ => hF.1.2.2 t ht, ⟨0, H, fun q k hqk => ?_, hD.h0, hI.drawn 1⟩, Rn.le_refl _, ⟨rfl, rfl, rfl, Nat.le_refl _, fun _ _ => rfl⟩⟩
          · rw [hfalse2] at h
            cases h
          · rw [hfalse2] at hDj
            cases hDj
          · rw [hfalse2]
            simp
        · exact Nat.le_trans List.countP_le_length (by simp)
end
end Go.Eng
