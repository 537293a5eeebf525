/-
  What comes in, opened: a reading of an argument, of whatever depth (numbers, bools, strings, slices, structs), as a plain Lean value whose cells are told by a kind, with its bounds.
  Conditions: none; plain theorems over the given model.
-/
import Derived.Test.YtpmalfabeajepaaDoorWWords
import Derived.ProofKit
import Derived.OpenShut
import Derived.SizedLaws
namespace Go.Proofs.YtpmalfabeajepaaDoorO
open Go Go.Proofs.YtpmalfabeajepaaDoorW.PrintWords Go.ChangeShapes Go.WideShapes Go.ChangeAt

/-- Whatever reads at type t is told by the kind d, and is in bounds, if its parts weigh no more than the reach. -/
def Opens {α : Type} (P : Program) (t : TypeId) (d : Kd α) (ok : α → Prop) : Prop :=
  P.cellsOf t = d.sz ∧ ∀ {H : Type} (enc : TypeId × Value → H) (w : World) (fuel : Nat) (cs : List Value) (x : DataW H × List MemPlace),
    DataW.trod enc P w 0 (fun _ => true) true fuel t cs = some x → (∀ n ∈ x.1.weights P t, n ≤ reachBytes) → ∃ a, d.K w a cs ∧ ok a

theorem opens_int {P : Program} {t : TypeId} {k : IntKind} (hu : P.underlying t = some (.int k)) (hc : P.cellsOf t = 1) : Opens P t (Kd.int k) (fun n => (Lit.int k n).wf = true) :=
  ⟨hc, fun enc w fuel cs x h _ => by
    obtain ⟨n, rfl, _, hw⟩ := DataW.trod_int hu h
    exact ⟨n, rfl, hw⟩⟩
theorem opens_bool {P : Program} {t : TypeId} (hu : P.underlying t = some .bool) (hc : P.cellsOf t = 1) : Opens P t Kd.bool (fun _ => True) :=
  ⟨hc, fun enc w fuel cs x h _ => by
    cases fuel with
    | zero => simp [DataW.trod] at h
    | succ n =>
      unfold DataW.trod at h
      rw [hu] at h
      split at h <;> simp_all
      rename_i b
      cases b
      · exact .inl rfl
      · exact .inr rfl⟩
theorem opens_string {P : Program} {t : TypeId} (hu : P.underlying t = some .string) (hc : P.cellsOf t = 1) : Opens P t Kd.string (fun s => s.size ≤ 140737488351232) :=
  ⟨hc, fun enc w fuel cs x h hw => by
    obtain ⟨s, rfl, rfl, hs⟩ := DataW.trod_string hu h
    refine ⟨s, rfl, ?_⟩
    have := hw s.data.toList.length (by simp [DataW.weights])
    rw [Array.length_toList] at this
    exact this⟩

theorem weights_all_mem {H : Type} {P : Program} {e : TypeId} : ∀ {l : List (DataW H)} {d : DataW H}, d ∈ l → ∀ n ∈ d.weights P e, n ∈ DataW.weightsAll P e l
  | d0 :: l, d, hd, n, hn => by
    simp only [DataW.weightsAll, List.mem_append]
    rcases List.mem_cons.1 hd with rfl | hd
    · exact .inl hn
    · exact .inr (weights_all_mem hd n hn)

theorem mapM_get {α β : Type} {f : α → Option β} : ∀ {l : List α} {ys : List β}, l.mapM f = some ys → ys.length = l.length ∧ ∀ i (hi : i < l.length), ∃ y, ys[i]? = some y ∧ f (l[i]'hi) = some y
  | [], ys, h => by simp at h; subst h; exact ⟨rfl, fun i hi => absurd hi (by simp)⟩
  | a :: l, ys, h => by
    simp only [List.mapM_cons, Option.pure_def, Option.bind_eq_bind, Option.bind_eq_some_iff] at h
    obtain ⟨y, hy, zs, hz, h⟩ := h
    obtain rfl : y :: zs = ys := by simpa using h
    obtain ⟨hl, hg⟩ := mapM_get hz
    refine ⟨by simp [hl], fun i hi => ?_⟩
    cases i with
    | zero => exact ⟨y, rfl, hy⟩
    | succ i => obtain ⟨z, h1, h2⟩ := hg i (by simpa using hi); exact ⟨z, by simpa using h1, by simpa using h2⟩

theorem cells_reads {w : World} {a : Addr} {n : Nat} {cs : List Value} (h : w.cells? 0 a n = some cs) : cs.length = n ∧ ∀ j u, cs[j]? = some u → w.cell? (a.add j) = some u := by
  unfold World.cells? at h
  rw [if_pos (Nat.zero_le _)] at h
  obtain ⟨hl, hg⟩ := mapM_get h
  rw [List.length_range] at hl
  refine ⟨hl, fun j u hu => ?_⟩
  have hj : j < n := by rw [← hl]; exact (List.getElem?_eq_some_iff.1 hu).1
  obtain ⟨y, h1, h2⟩ := hg j (by rw [List.length_range]; exact hj)
  rw [hu] at h1
  obtain rfl := Option.some.inj h1
  simpa using h2

theorem exists_list {α : Type} (n : Nat) {p : Nat → α → Prop} (h : ∀ i, i < n → ∃ a, p i a) : ∃ l : List α, l.length = n ∧ ∀ i a, l[i]? = some a → p i a := by
  induction n with
  | zero => exact ⟨[], rfl, fun i a hi => by simp at hi⟩
  | succ n ih =>
    obtain ⟨l, hl, hp⟩ := ih fun i hi => h i (by omega)
    obtain ⟨a, ha⟩ := h n (by omega)
    refine ⟨l ++ [a], by simp [hl], fun i b hb => ?_⟩
    by_cases hi : i < n
    · rw [List.getElem?_append_left (by omega)] at hb
      exact hp i b hb
    · have hi' : i = n := by
        have := (List.getElem?_eq_some_iff.1 hb).1
        simp [hl] at this
        omega
      subst hi'
      rw [List.getElem?_append_right (by omega), hl, Nat.sub_self] at hb
      simp at hb
      subst hb
      exact ha

theorem opens_slice {α : Type} {P : Program} {t e : TypeId} {d : Kd α} {ok : α → Prop} (hu : P.underlying t = some (.slice e)) (hc : P.cellsOf t = 1) (he : Opens P e d ok) {B : Nat} (hB : P.bytesOf e = B) :
    Opens P t (Kd.slice e d) (fun l => l.length * B ≤ 140737488351232 ∧ ∀ y ∈ l, ok y) := by
  refine ⟨hc, fun enc w fuel cs x h hw => ?_⟩
  rcases DataW.trod_slice hu h with ⟨rfl, rfl⟩ | ⟨a, len, cap, elems, rest, n, _, rfl, rfl, _, hl, hm, hlen, hel, hsp, _⟩
  · exact ⟨[], ⟨none, 0, rfl, Nat.le_refl _, ⟨rfl, by simp⟩⟩, by simp, by simp⟩
  · have hw0 : (elems.length + rest.length) * B ≤ 140737488351232 := by
      have := hw ((elems.length + rest.length) * P.bytesOf e) (by simp [DataW.weights, hu])
      rw [hB] at this
      exact this
    have hwe : ∀ y ∈ elems, ∀ k ∈ y.1.weights P e, k ≤ reachBytes := fun y hy k hk =>
      hw k (by
        simp only [DataW.weights, hu, List.mem_cons, List.mem_append]
        exact .inr (.inl (weights_all_mem (List.mem_map_of_mem hy) k hk)))
    have each : ∀ i, i < len → ∃ b, ok b ∧ ∃ cs, d.K w b cs ∧ ∀ j u, cs[j]? = some u → w.cell? ((a.add (i * P.cellsOf e)).add j) = some u := by
      intro i hi
      have h1 := hel i hi
      obtain ⟨y, hy⟩ : ∃ y, elems[i]? = some y := ⟨elems[i]'(by omega), List.getElem?_eq_getElem (by omega)⟩
      rw [hy, Option.bind_eq_some_iff] at h1
      obtain ⟨cs, hcs, ht⟩ := h1
      obtain ⟨b, hb, hok⟩ := he.2 enc w n cs y ht (hwe y (List.mem_of_getElem? hy))
      exact ⟨b, hok, cs, hb, (cells_reads hcs).2⟩
    obtain ⟨l, hll, hp⟩ := exists_list len each
    refine ⟨l, ⟨some a, cap, by rw [hll], by omega, ?_⟩, ?_, ?_⟩
    · refine ⟨rfl, by unfold maxLen at hm; omega, fun _ => ⟨a, rfl, fun i b hb => ?_⟩⟩
      obtain ⟨_, cs, hK, hcell⟩ := hp i b hb
      refine ⟨cs, d.K_len hK, hK, fun j u hu => ?_⟩
      rw [he.1] at hcell
      have := hcell j u hu
      rwa [Addr.add_add] at this
    · refine Nat.le_trans (Nat.mul_le_mul_right _ ?_) hw0
      omega
    · intro y hy
      obtain ⟨i, hi⟩ := List.getElem?_of_mem hy
      exact (hp i y hi).1

/-- The fields of a struct, from a place on. -/
def OpensF {β : Type} (P : Program) (fs : List Field) (off : Nat) (d : Kd β) (ok : β → Prop) : Prop :=
  ∀ (H : Type) (enc : TypeId × Value → H) (w : World) (fuel : Nat) (cs : List Value) (ys : List (DataW H × List MemPlace)), cs.length = off + d.sz →
    (fs.mapM fun f => DataW.trod enc P w 0 (fun _ => true) true fuel f.type ((cs.drop f.offset).take (P.cellsOf f.type))) = some ys →
    (∀ n ∈ DataW.weightsEach P (fs.map (·.type)) (ys.map (·.1)), n ≤ reachBytes) → ∃ b, d.K w b (cs.drop off) ∧ ok b

theorem opensF_one {β : Type} {P : Program} {f : Field} {off : Nat} {d : Kd β} {ok : β → Prop} (hf : f.offset = off) (h : Opens P f.type d ok) : OpensF P [f] off d ok := by
  intro H enc w fuel cs ys hl hm hw
  simp only [List.mapM_cons, List.mapM_nil, Option.pure_def, Option.bind_eq_bind, Option.bind_eq_some_iff] at hm
  obtain ⟨y, hy, zs, hz, hm⟩ := hm
  obtain rfl : zs = [] := by simpa using hz.symm
  obtain rfl : [y] = ys := by simpa using hm
  rw [hf, h.1, List.take_of_length_le (by rw [List.length_drop]; omega)] at hy
  exact h.2 enc w fuel _ y hy (fun n hn => hw n (by simp [DataW.weightsEach, hn]))

theorem opensF_cons {β γ : Type} {P : Program} {f : Field} {fs : List Field} {off : Nat} {d : Kd β} {d' : Kd γ} {ok : β → Prop} {ok' : γ → Prop} (hf : f.offset = off) (h : Opens P f.type d ok) (h' : OpensF P fs (off + d.sz) d' ok') :
    OpensF P (f :: fs) off (Kd.pair d d') (fun p => ok p.1 ∧ ok' p.2) := by
  intro H enc w fuel cs ys hl hm hw
  simp only [List.mapM_cons, Option.pure_def, Option.bind_eq_bind, Option.bind_eq_some_iff] at hm
  obtain ⟨y, hy, zs, hz, hm⟩ := hm
  obtain rfl : y :: zs = ys := by simpa using hm
  rw [hf, h.1] at hy
  have hl' : cs.length = off + d.sz + d'.sz := by rw [hl]; show off + (d.sz + d'.sz) = _; omega
  obtain ⟨a, ha, hoa⟩ := h.2 enc w fuel _ y hy (fun n hn => hw n (by simp [DataW.weightsEach, hn]))
  obtain ⟨b, hb, hob⟩ := h' H enc w fuel cs zs hl' hz (fun n hn => hw n (by simp only [List.map_cons, DataW.weightsEach, List.mem_append]; exact .inr hn))
  refine ⟨(a, b), ⟨_, _, ?_, ha, hb⟩, hoa, hob⟩
  rw [← List.drop_drop, List.take_append_drop]

theorem opens_struct {β : Type} {P : Program} {t : TypeId} {fs : Array Field} {d : Kd β} {ok : β → Prop} (hu : P.underlying t = some (.struct fs)) (hc : P.cellsOf t = d.sz) (h : OpensF P fs.toList 0 d ok) : Opens P t d ok := by
  refine ⟨hc, fun enc w fuel cs x hx hw => ?_⟩
  cases fuel with
  | zero => simp [DataW.trod] at hx
  | succ n =>
    unfold DataW.trod at hx
    rw [hu] at hx
    simp only at hx
    by_cases hl : cs.length = P.cellsOf t
    · rw [if_pos hl, Option.map_eq_some_iff] at hx
      obtain ⟨ys, hm, rfl⟩ := hx
      obtain ⟨b, hb, hob⟩ := h _ enc w n cs ys (by rw [hl, hc, Nat.zero_add]) hm (fun k hk => hw k (by simpa [DataW.weights, hu] using hk))
      exact ⟨b, by simpa using hb, hob⟩
    · rw [if_neg hl] at hx
      cases hx

theorem opens_iso {α β : Type} {P : Program} {t : TypeId} {d : Kd α} {ok : α → Prop} (h : Opens P t d ok) (f : β → α) (g : α → β) (hfg : ∀ a, f (g a) = a) : Opens P t (Kd.iso d f) (fun b => ok (f b)) :=
  ⟨h.1, fun enc w fuel cs x hx hw => by
    obtain ⟨a, ha, ho⟩ := h.2 enc w fuel cs x hx hw
    exact ⟨g a, show d.K w (f (g a)) cs by rw [hfg]; exact ha, show ok (f (g a)) by rw [hfg]; exact ho⟩⟩

theorem Opens.imp {α : Type} {P : Program} {t : TypeId} {d : Kd α} {ok ok' : α → Prop} (h : Opens P t d ok) (hi : ∀ a, ok a → ok' a) : Opens P t d ok' :=
  ⟨h.1, fun enc w fuel cs x hx hw => by
    obtain ⟨a, ha, ho⟩ := h.2 enc w fuel cs x hx hw
    exact ⟨a, ha, hi a ho⟩⟩

section
variable {H : Type} {enc : TypeId × Value → H} {P : Program} {w : World} {t : TypeId} {ts : List TypeId} {ds : List (DataW H)} {y : DataW H} {p : List MemPlace}
theorem weigh (hsz : (DataW.weightsEach P ts ds).all (· ≤ reachBytes) = true) {j : Nat} (ht : ts[j]? = some t) (hd : ds[j]? = some y) : ∀ n ∈ y.weights P t, n ≤ reachBytes := fun n hn => by
  have := List.all_eq_true.1 hsz n (DataW.weights_mem_each ht hd n hn)
  simpa using this

/-- An argument that is a slice. -/
theorem arg_slice {α : Type} {e : TypeId} {d : Kd α} {ok : List α → Prop} (ho : Opens P t (Kd.slice e d) ok) {a : Option Addr} {len cap : Nat} (h : DataW.Trod enc P w 0 (fun _ => true) true t (.slice a len cap) y p) (hw : ∀ n ∈ y.weights P t, n ≤ reachBytes) :
    ∃ l : List α, len = l.length ∧ d.C w a l.length l ∧ l.length ≤ cap ∧ ok l := by
  obtain ⟨fuel, hf⟩ := h
  obtain ⟨l, ⟨A, c, hcs, hle, hC⟩, hok⟩ := ho.2 enc w fuel _ _ hf hw
  simp [Value.cells] at hcs
  obtain ⟨rfl, rfl, rfl⟩ := hcs
  exact ⟨l, rfl, hC, hle, hok⟩

/-- An argument that is a struct. -/
theorem arg_struct {β : Type} {d : Kd β} {ok : β → Prop} (ho : Opens P t d ok) {cs : Array Value} (h : DataW.Trod enc P w 0 (fun _ => true) true t (.agg cs) y p) (hw : ∀ n ∈ y.weights P t, n ≤ reachBytes) :
    ∃ b, d.K w b cs.toList ∧ ok b := by
  obtain ⟨fuel, hf⟩ := h
  exact ho.2 enc w fuel _ _ hf hw
end
end Go.Proofs.YtpmalfabeajepaaDoorO
