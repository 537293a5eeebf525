/-
  Labels and gotos in a walk: what holds at a label of a scope, and a loop that is made by a goto back to a label.
  Conditions: none; plain theorems over the given model.
-/
import Derived.ScopeJumps
import Derived.WalkMore
import Derived.Deep.LoopGhost
import Derived.Test.YtpmalfabeajepaaDoorWLast
import Derived.Test.YtpmalfabeajepaaDoorWMore
import Derived.Lib.LazyBuf
namespace Go.Proofs.YtpmalfabeajepaaDoorG
open Go

/-- A fact that the walk's simp does not see (it is data, not a proposition). -/
structure Later (p : Prop) : Type where
  out : p

/-- From label l of the scope c, in whatever context, the run comes to Q. -/
def FromLabel (P : Program) (c : Code) (Q : Exit → Act → World → Prop) (l : Nat) (a : Act) (w : World) : Prop :=
  ∀ (b : Frame) (k : List Item) (cs : List Frame), ∃ rest, findLabel c l = some rest ∧
    ∃ e a' w', Q e a' w' ∧ Arrives P (lone (b.at a (.code rest :: .inScope c :: k)) cs w) b k cs e a' w'

/-- As Q; by a goto to label l: G l. -/
def Exit.scoped (G : Nat → Act → World → Prop) (Q : Exit → Act → World → Prop) : Exit → Act → World → Prop
  | .goto l, a, w => G l a w
  | e, a, w => Q e a w

@[go_sem] theorem scoped_normal (G : Nat → Act → World → Prop) (Q : Exit → Act → World → Prop) (a : Act) (w : World) : Exit.scoped G Q .normal a w = Q .normal a w := rfl
@[go_sem] theorem scoped_exit (G : Nat → Act → World → Prop) (Q : Exit → Act → World → Prop) (i : Nat) (a : Act) (w : World) : Exit.scoped G Q (.exit i) a w = Q (.exit i) a w := rfl
@[go_sem] theorem scoped_ret (G : Nat → Act → World → Prop) (Q : Exit → Act → World → Prop) (a : Act) (w : World) : Exit.scoped G Q .ret a w = Q .ret a w := rfl
@[go_sem] theorem scoped_panic (G : Nat → Act → World → Prop) (Q : Exit → Act → World → Prop) (ch : List PanicEntry) (a : Act) (w : World) : Exit.scoped G Q (.panic ch) a w = Q (.panic ch) a w := rfl

/-- What stands behind the letter G. -/
structure ScopeBox (P : Program) (c : Code) (Q : Exit → Act → World → Prop) (G : Nat → Act → World → Prop) : Type where
  out : ∀ l a w, G l a w ↔ FromLabel P c Q l a w

section
variable {P : Program} {c : Code} {Q : Exit → Act → World → Prop} {a : Act} {w : World}

theorem arrives_scope {m : Machine} {b : Frame} {k : List Item} {cs : List Frame} {e : Exit} {a' : Act} {w' : World}
    (hq : Exit.scoped (FromLabel P c Q) Q e a' w') (harr : Arrives P m b (.inScope c :: k) cs e a' w') :
    ∃ e a' w', Q e a' w' ∧ Arrives P m b k cs e a' w' := by
  cases e with
  | normal => exact ⟨.normal, a', w', hq, Steps.trans harr (.one step_inScope)⟩
  | exit id => exact ⟨.exit id, a', w', hq, fun k' hk => harr k' (by simp [exitTo, hk])⟩
  | goto l =>
    obtain ⟨rest, hf, e₂, a₂, w₂, hq₂, harr₂⟩ := hq b k cs
    have hg : gotoIn l (.inScope c :: k) = some (.code rest :: .inScope c :: k) := by simp [gotoIn, hf]
    exact ⟨e₂, a₂, w₂, hq₂, .of_steps (harr _ hg) harr₂⟩
  | ret => exact ⟨_, a', w', hq, harr⟩
  | panic ch => exact ⟨_, a', w', hq, harr⟩
  | outgrown => exact ⟨_, a', w', hq, harr⟩

theorem wp_scope_from (h : c.wp P (Exit.scoped (FromLabel P c Q) Q) a w) : (Code.scope c).wp P Q a w := by
  intro b k cs
  obtain ⟨e, a₁, w₁, hq, harr⟩ := h b (.inScope c :: k) cs
  obtain ⟨e₂, a₂, w₂, hq₂, harr₂⟩ := arrives_scope hq harr
  exact ⟨e₂, a₂, w₂, hq₂, .of_steps (.one step_scope) harr₂⟩

/-- A scope: what holds at its labels stands behind a letter. -/
theorem wp_scope_g (h : ∀ G : Nat → Act → World → Prop, ScopeBox P c Q G → c.wp P (Exit.scoped G Q) a w) : (Code.scope c).wp P Q a w :=
  wp_scope_from (h (FromLabel P c Q) ⟨fun _ _ _ => Iff.rfl⟩)

theorem FromLabel.of_wp {l : Nat} {rest : Code} (hf : findLabel c l = some rest) (h : rest.wp P (Exit.scoped (FromLabel P c Q) Q) a w) : FromLabel P c Q l a w := by
  intro b k cs
  obtain ⟨e, a₁, w₁, hq, harr⟩ := h b (.inScope c :: k) cs
  exact ⟨rest, hf, arrives_scope hq harr⟩

theorem scoped_mono {G G' : Nat → Act → World → Prop} (h : ∀ l a w, G l a w → G' l a w) : ∀ e a w, Exit.scoped G Q e a w → Exit.scoped G' Q e a w := by
  intro e a w hq
  cases e with
  | goto l => exact h _ _ _ hq
  | normal => exact hq
  | exit id => exact hq
  | ret => exact hq
  | panic ch => exact hq
  | outgrown => exact hq

/-- By a goto to a label one comes to what stands behind it. -/
theorem at_label {G : Nat → Act → World → Prop} (B : ScopeBox P c Q G) {l : Nat} {rest : Code} (hf : findLabel c l = some (Code.seq .skip rest))
    (h : rest.wp P (Exit.scoped G Q) a w) : G l a w :=
  (B.out l a w).2 (FromLabel.of_wp hf (wp_seq (wp_skip (wp_mono h (scoped_mono fun l a w g => (B.out l a w).1 g)))))

/-- The slots that are marked hold what 'us' tells, one by one; the others hold what 'xs' tells. -/
def fillM : List Bool → List Value → List Value → List Value
  | true :: m, _ :: xs, u :: us => u :: fillM m xs us
  | true :: m, x :: xs, [] => x :: fillM m xs []
  | false :: m, x :: xs, us => x :: fillM m xs us
  | [], xs, _ => xs
  | _ :: _, [], _ => []
def pickM : List Bool → List Value → List Value
  | true :: m, x :: xs => x :: pickM m xs
  | false :: m, _ :: xs => pickM m xs
  | [], _ => []
  | _ :: _, [] => []
theorem fill_pick : ∀ (m : List Bool) (xs : List Value), fillM m xs (pickM m xs) = xs
  | [], xs => by cases xs <;> rfl
  | true :: m, [] => rfl
  | false :: m, [] => rfl
  | true :: m, x :: xs => by simp [fillM, pickM, fill_pick m xs]
  | false :: m, x :: xs => by simp [fillM, pickM, fill_pick m xs]
/-- So many marks. -/
def marksM : List Bool → Nat
  | true :: m => marksM m + 1
  | false :: m => marksM m
  | [] => 0
/-- For all lists of so many values, letter by letter. -/
def AllV : Nat → (List Value → Prop) → Prop
  | 0, p => p []
  | n + 1, p => ∀ u, AllV n fun us => p (u :: us)
theorem AllV.at_ : ∀ {n : Nat} {p : List Value → Prop}, AllV n p → ∀ us : List Value, us.length = n → p us
  | 0, p, h, [], _ => h
  | n + 1, p, h, u :: us, hl => AllV.at_ (h u) us (by simpa using hl)
theorem pick_length : ∀ (m : List Bool) (xs : List Value), m.length ≤ xs.length → (pickM m xs).length = marksM m
  | [], xs, _ => by cases xs <;> rfl
  | true :: m, [], h => by simp at h
  | false :: m, [], h => by simp at h
  | true :: m, x :: xs, h => by simp [pickM, marksM, pick_length m xs (by simpa using h)]
  | false :: m, x :: xs, h => by simp [pickM, marksM, pick_length m xs (by simpa using h)]

/-- A LABEL TO WHICH THE RUN COMES BACK: a relation that bears a number, which each round lowers. The frame's marked slots may change. -/
theorem rest_loop {G : Nat → Act → World → Prop} {xs : List Value} {df : List (Deferred)} (B : ScopeBox P c Q G) (l : Nat) {rest : Code} (hf : findLabel c l = some (Code.seq .skip rest))
    (m : List Bool) (hm : Nat.ble m.length xs.length = true) (n₀ : Nat) (R : Nat → List Value → World → Prop) (h₀ : R n₀ (pickM m xs) w)
    (round : AllV (marksM m) fun us => ∀ n w', R n us w' →
      Later (∀ n' xs' w'', n' < n → xs' = fillM m xs (pickM m xs') → R n' (pickM m xs') w'' → G l { tmps := xs'.toArray, defers := df } w'') →
      rest.wp P (Exit.scoped G Q) { tmps := (fillM m xs us).toArray, defers := df } w') :
    rest.wp P (Exit.scoped G Q) { tmps := xs.toArray, defers := df } w := by
  have hm' : m.length ≤ xs.length := Nat.le_of_ble_eq_true hm
  have hfl : ∀ xs' : List Value, xs' = fillM m xs (pickM m xs') → m.length ≤ xs'.length := by
    intro xs' h
    have : ∀ (m : List Bool) (xs us : List Value), (fillM m xs us).length = xs.length := by
      intro m
      induction m with
      | nil => intro xs us; cases xs <;> rfl
      | cons b m ih =>
        intro xs us
        cases b <;> cases xs <;> cases us <;> simp [fillM, ih]
    rw [h, this]
    exact hm'
  have key : ∀ n xs' w', xs' = fillM m xs (pickM m xs') → R n (pickM m xs') w' → rest.wp P (Exit.scoped G Q) { tmps := xs'.toArray, defers := df } w' := by
    intro n
    induction n using Nat.strongRecOn with
    | _ n ih =>
      intro xs' w' hx hR
      have h := AllV.at_ round (pickM m xs') (pick_length m xs' (hfl xs' hx)) n w' hR ⟨fun n' xs'' w'' hn hx' hR' => at_label B hf (ih n' hn xs'' w'' hx' hR')⟩
      rw [← hx] at h
      exact h
  exact key n₀ xs w (fill_pick m xs).symm h₀

/-- The operation is a call of what a slot holds. -/
theorem gate_calleeT {ops : Array Oper} {rest : List Oper} {o : Oper} {Q : Exit → Act → World → Prop} {t : Tmp} {as : Array Operand} {ts : Array TypeId} (_ho : o.op = .call { callee := .value (.tmp t), args := as, argTypes := ts })
    (h : wpList P ops Q (o :: rest) a w) : wpList P ops Q (o :: rest) a w := h

/-- A call of the function whose name a slot holds. -/
theorem goesT_ {ops : Array Oper} {rest : List Oper} {oi : Oper} (N : Option Tmp) (hd : oi.dst = N) (hg : oi.guard = none) {t : Tmp} {f : FuncId} (ht : a.eval (.tmp t) = .func (.func f) #[] #[]) {fn : Func} {as : Array Operand} {ts : Array TypeId} (hf : P.funcs[f]? = some fn)
    (hname : (fn.name == "runtime.NumGoroutine") = false) (hb : fn.body.isSome = true) (args : Array Value)
    (hop : oi.op = .call { callee := .value (.tmp t), args := as, argTypes := ts }) (hargs : as.map a.eval = args)
    (h : Calls P f args w fun e w' => ∃ v, e = .returned v ∧ wpList P ops Q rest (a.put N v) w') : wpList P ops Q (oi :: rest) a w := by
  refine wpList_plain hg fun K hK => ?_
  have he := Go.Proofs.YtpmalfabeajepaaDoorW.PrintLast.enters_ hf hname hb args w
  have hrun : (execOp a.eval oi).run P w = .ok (.enter f args) w := by
    unfold execOp
    simp only [Act.eval] at ht
    simp [hop, resolve, Deferred.ofValue, invoke, Act.eval, ht, hargs, he]
  unfold Oper.wp
  rw [hrun, Oper.upon_enter]
  refine h.mono fun e w'' hh => ?_
  obtain ⟨v, rfl, hk⟩ := hh
  subst hd
  exact hK _ _ hk

/-- An operation that yields a value, as a call of a function would. -/
def YieldsTo (P : Program) (s : Sem Value) (w : World) (Q : Ending → World → Prop) : Prop := ∃ v w', s.run P w = .ok v w' ∧ Q (.returned v) w'
theorem YieldsTo.mono {s : Sem Value} {Q Q' : Ending → World → Prop} (h : YieldsTo P s w Q) (hi : ∀ e w', Q e w' → Q' e w') : YieldsTo P s w Q' := by
  obtain ⟨v, w', hr, hq⟩ := h
  exact ⟨v, w', hr, hi _ _ hq⟩

/-- A conversion of a string into bytes, as a call. -/
theorem goesC_ {ops : Array Oper} {rest : List Oper} {oi : Oper} (N : Option Tmp) (hd : oi.dst = N) (hg : oi.guard = none) {S D : TypeId} {x : Operand} (args : Value)
    (hop : oi.op = .convert S D x) (hargs : a.eval x = args)
    (h : YieldsTo P (convert S D args) w fun e w' => ∃ v, e = .returned v ∧ wpList P ops Q rest (a.put N v) w') : wpList P ops Q (oi :: rest) a w := by
  refine wpList_plain hg fun K hK => ?_
  obtain ⟨v, w', hr, v', he, hk⟩ := h
  obtain rfl : v = v' := by simpa using he
  have hrun : (execOp a.eval oi).run P w = .ok (.value v) w' := by
    unfold execOp
    simp [hop, hargs, hr]
  unfold Oper.wp
  rw [hrun]
  subst hd
  exact hK _ _ hk

/-- The same, in a region that draws. -/
theorem goesD_ {ops : Array Oper} {oi : Oper} {N : Option Tmp} {a : Act} {w : World} {K : Act → World → Prop} {Q : Exit → Act → World → Prop} {S D : TypeId} {x : Operand} (args : Value)
    (hw : Region.wanted oi (yielded ops a.tmps) = true) (hN : oi.dst = N) (hop : oi.op = .convert S D x) (hargs : a.eval x = args)
    (h : YieldsTo P (convert S D args) w fun e w' => ∃ v, e = .returned v ∧ K (a.put N v) w') : if Region.wanted oi (yielded ops a.tmps) = true then Oper.wp P oi a w K Q else K (a.put N undef) w := by
  rw [if_pos hw]
  obtain ⟨v, w', hr, v', he, hk⟩ := h
  obtain rfl : v = v' := by simpa using he
  have hrun : (execOp a.eval oi).run P w = .ok (.value v) w' := by
    unfold execOp
    simp [hop, hargs, hr]
  subst hN
  unfold Oper.wp
  rw [hrun]
  exact hk

open Go.Proofs.YtpmalfabeajepaaDoorW.PrintWords Go.RowKit in
/-- The bytes of a string, in new memory: read, by whatever world has that memory. -/
theorem bytes_yields {S D E : TypeId} {u : TypeDesc} (hs : P.underlying S = some u) (hd : P.underlying D = some (.slice E)) (he : P.underlying E = some (.int .u8)) (s : ByteArray) (hn : s.size ≤ 9223372036854775807) (w : World) :
    YieldsTo P (convert S D (.string s)) w fun e w' => ∃ v0_ : Value, e = .returned v0_ ∧ Kd.V (Kd.int .u8) E w' w.heap.size (fun k_ => (w.heap.size ≤ k_)) v0_ (bytesOf s) ∧ Below w.heap.size w w' := by
  refine ⟨_, _, print_bytes S D E hs hd he s w, _, rfl, ?_, bytes_below (Below.refl _ _) (Nat.le_refl _) E s⟩
  have hlen := bytesOf_length s
  refine ⟨some ⟨w.heap.size, 0, none⟩, grownCap w s.size 0 E, by rw [hlen], by rw [hlen]; exact grownCap_ge _ _ _ _, ?_⟩
  rw [hlen]
  intro W hW
  have hb : W.heap[w.heap.size]? = (Lib.bytesWorld w E s).heap[w.heap.size]? := hW w.heap.size (Nat.le_refl _) (by rw [Lib.bytesWorld_size]; omega)
  have hr := bytes_reads w E s hn
  refine Kd.C_of_reads (d := (0 : Int)) (h1 := fun _ => rfl) ⟨hr.1, hr.2.1, fun hp => ?_⟩
  obtain ⟨ad, e, hc⟩ := hr.2.2 hp
  refine ⟨ad, e, fun j hj => ?_⟩
  obtain rfl : ad = ⟨w.heap.size, 0, none⟩ := by simpa using e.symm
  have h1 := hc j hj
  rw [add_plain] at h1 ⊢
  simpa [World.cell?, hb] using h1
end
end Go.Proofs.YtpmalfabeajepaaDoorG
