/-
  Our machine again, in smaller pieces: the kernel runs it faster.
  Conditions: none; definitions.
-/
import Derived.Test.YtfcebfbdodeecaaGreatDoorEngEa
namespace Go.Eng
open Go
set_option linter.unusedVariables false
set_option linter.unusedSimpArgs false
noncomputable section
def slotB (a : Fr) (t : Nat) : Value := Fr.rec (motive := fun _ => Value) (fun m x => Bool.rec (motive := fun _ => Value) undef (Option.rec (motive := fun _ => Value) undef (fun v => v) (x.get fd t)) (Nat.blt t m)) a
def constB (v : Value) : Option Value := Bool.rec (motive := fun _ => Option Value) none (some v) (plain v)
def funcB (f : FuncId) : Option Value := some (.func (.func f) #[] #[])
def evB (a : Fr) (x : Operand) : Option Value := Operand.rec (motive := fun _ => Option Value) (fun t => some (slotB a t)) constB (fun _ => none) funcB x
def putM (t : Nat) (v : Value) (m : Nat) (x : Tr Value) : Fr := Bool.rec (motive := fun _ => Fr) ⟨m, x⟩ ⟨m, x.set fd t v⟩ (Nat.blt t m)
def putT (a : Fr) (v : Value) (t : Nat) : Fr := Fr.rec (motive := fun _ => Fr) (putM t v) a
def putB (a : Fr) (d : Option Nat) (v : Value) : Fr := Option.rec (motive := fun _ => Fr) a (putT a v) d
theorem slotB_eq (a : Fr) (t : Nat) : slotB a t = slot a t := by
  obtain ⟨m, x⟩ := a
  show Bool.rec (motive := fun _ => Value) undef (Option.rec (motive := fun _ => Value) undef (fun v => v) (x.get fd t)) (Nat.blt t m) = cond (Nat.blt t m) (match x.get fd t with | some v => v | none => undef) undef
  cases Nat.blt t m with
  | false => rfl
  | true => cases x.get fd t <;> rfl
theorem evB_eq (a : Fr) (x : Operand) : evB a x = ev a x := by
  cases x with
  | tmp t => exact congrArg some (slotB_eq a t)
  | const v =>
    show Bool.rec (motive := fun _ => Option Value) none (some v) (plain v) = cond (plain v) (some v) none
    cases plain v <;> rfl
  | global g => rfl
  | func f => rfl
theorem putB_eq (a : Fr) (d : Option Nat) (v : Value) : putB a d v = putD a d v := by
  cases d with
  | none => rfl
  | some t =>
    obtain ⟨m, x⟩ := a
    show Bool.rec (motive := fun _ => Fr) ⟨m, x⟩ ⟨m, x.set fd t v⟩ (Nat.blt t m) = cond (Nat.blt t m) ⟨m, x.set fd t v⟩ ⟨m, x⟩
    cases Nat.blt t m <;> rfl
def evsC (x : Option Value) (r : Option (List Value)) : Option (List Value) :=
  Option.rec (motive := fun _ => Option (List Value)) none (fun v => Option.rec (motive := fun _ => Option (List Value)) none (fun vs => some (v :: vs)) r) x
def evsB (a : Fr) (l : List Operand) : Option (List Value) := List.rec (motive := fun _ => Option (List Value)) (some []) (fun x _ ih => evsC (evB a x) ih) l
theorem evsB_eq (a : Fr) : ∀ l : List Operand, evsB a l = evs a l
  | [] => rfl
  | x :: l => by
    show evsC (evB a x) (evsB a l) = (match ev a x with | some v => (match evs a l with | some vs => some (v :: vs) | none => none) | none => none)
    rw [evsB_eq a l, evB_eq]
    cases ev a x with
    | none => rfl
    | some v => cases evs a l <;> rfl
def o_move (P : Program) (a : Fr) (H : AH) (x : Operand) : Option (Value × AH) := okV (evB a x) H
def o_pick (P : Program) (a : Fr) (H : AH) (c x y : Operand) : Option (Value × AH) := match evB a c with
  | some (.bool t) => okV (cond t (evB a x) (evB a y)) H
  | _ => none
def o_alloc (P : Program) (a : Fr) (H : AH) (t : TypeId) : Option (Value × AH) := match zeroT P t with | some z => newO H (cellsOf z) t (fun p => .pointer (some p)) | none => none
def o_box (P : Program) (a : Fr) (H : AH) (t : TypeId) (x : Operand) : Option (Value × AH) := match evB a x with | some v => newO H (cellsOf v) t (fun p => .pointer (some p)) | none => none
def o_build (P : Program) (a : Fr) (H : AH) (t : TypeId) (parts : Array (Nat × Operand)) : Option (Value × AH) := match zeroT P t, evps a parts.toList with
  | some z, some ps => match P.underlying t with
    | some (.struct fields) => match fieldPl P fields.toList with
      | some pl => match fillL (fun i => pl[i]?) ps (cellsOf z) with | some c => some (.agg c.toArray, H) | none => none
      | none => none
    | some (.array _ e) => match sizeT P e with
      | some size => match fillL (fun i => some (i * size, size)) ps (cellsOf z) with | some c => some (.agg c.toArray, H) | none => none
      | none => none
    | _ => none
  | _, _ => none
def o_buildSlice (P : Program) (a : Fr) (H : AH) (t : TypeId) (len : Nat) (parts : Array (Nat × Operand)) : Option (Value × AH) := match P.underlying t, evps a parts.toList with
  | some (.slice e), some ps => match sizeT P e, zeroT P e with
    | some size, some z => cond (Nat.beq (cellsOf z).length size && Nat.blt 0 size && Nat.ble (len * size) 16777216)
        (match fillL (fun i => some (i * size, size)) ps (repl len (cellsOf z)) with
          | some c => newO H c e (fun p => .slice (some p) len len)
          | none => none) none
    | _, _ => none
  | _, _ => none
def o_load (P : Program) (a : Fr) (H : AH) (t : TypeId) (x : Operand) : Option (Value × AH) := match evB a x with
  | some (.pointer (some p)) => okV (loadV P H t p) H
  | _ => none
def o_store (P : Program) (a : Fr) (H : AH) (t : TypeId) (x y : Operand) : Option (Value × AH) := match evB a x, evB a y with
  | some (.pointer (some p)), some v => match sizeT P t with
    | some n => cond (Nat.beq (cellsOf v).length n && (cellsOf v).all oneB) (match storeC H p (cellsOf v) with | some H' => some (undef, H') | none => none) none
    | none => none
  | _, _ => none
def o_nilCheck (P : Program) (a : Fr) (H : AH) (x : Operand) : Option (Value × AH) := match evB a x with
  | some (.pointer (some p)) => some (.pointer (some p), H)
  | _ => none
def o_binOp (P : Program) (a : Fr) (H : AH) (op : BinOp) (t : TypeId) (x y : Operand) (_ : TypeId) : Option (Value × AH) := match evB a x, evB a y with
  | some u, some v => okV (binA P op t x y u v) H
  | _, _ => none
def o_unOp (P : Program) (a : Fr) (H : AH) (op : UnOp) (_ : TypeId) (x : Operand) : Option (Value × AH) := match evB a x with
  | some v => cond (plain v) (okP (pureRun P (Op.unary op v)) H) none
  | none => none
def o_convert (P : Program) (a : Fr) (H : AH) (s d : TypeId) (x : Operand) : Option (Value × AH) := match evB a x with
  | some v => cond (plain v) (okP (pureRun P (convert s d v)) H) none
  | none => none
def o_makeFunc (P : Program) (a : Fr) (H : AH) (fn : Fn) (f c : Array Operand) : Option (Value × AH) := match evsB a f.toList, evsB a c.toList with
  | some fs, some cs => some (.func fn fs.toArray cs.toArray, H)
  | _, _ => none
def o_insert (P : Program) (a : Fr) (H : AH) (t : TypeId) (m k x : Operand) : Option (Value × AH) := match evB a m, evB a k, evB a x with
  | some (.map (some r)), some kv, some v => match H.obj r, P.underlying t with
    | some (.map es), some (.map kt _) => cond (plain1 kv && isKeyB (P.underlying kt) kv) (match putE kv v es with | some es' => some (undef, H.put r (.map es')) | none => none) none
    | _, _ => none
  | _, _, _ => none
def o_lookup (P : Program) (a : Fr) (H : AH) (t : TypeId) (m k : Operand) (ok : Bool) : Option (Value × AH) := match evB a m, evB a k, P.underlying t with
  | some mv, some kv, some (.map kt e) => match entriesA H mv with
    | some es => cond (plain1 kv && isKeyB (P.underlying kt) kv) (match findE kv es with
      | some (some v) => some (cond ok (.tuple #[v, .bool true]) v, H)
      | some none => match zeroT P e with
        | some z => some (cond ok (.tuple #[z, .bool false]) z, H)
        | none => none
      | none => none) none
    | none => none
  | _, _, _ => none
def o_makeSlice (P : Program) (a : Fr) (H : AH) (t : TypeId) (l c : Operand) : Option (Value × AH) := match evB a l, evB a c, P.underlying t with
  | some (.int _ (.ofNat n)), some (.int _ (.ofNat m)), some (.slice e) => match P.info? e with
    | some i => match zeroT P e with
      | some z => cond (Nat.ble n m && Nat.ble (i.bytes * m) 140737488355328 && Nat.beq (cellsOf z).length i.size && Nat.blt 0 i.size && Nat.ble m 140737488355328) (newO H (repl m (cellsOf z)) e (fun p => .slice (some p) n m)) none
      | none => none
    | none => none
  | _, _, _ => none
def o_fieldAddr (P : Program) (a : Fr) (H : AH) (s : TypeId) (x : Operand) (f : Nat) : Option (Value × AH) := match evB a x, P.underlying s with
  | some (.pointer (some p)), some (.struct fields) => match fields[f]?, p.spot with
    | some fl, none => match sizeT P fl.type with
      | some n => cond (Nat.blt 0 n) (some (.pointer (some (addA p fl.offset)), H)) none
      | none => none
    | _, _ => none
  | _, _ => none
def o_indexAddr (P : Program) (a : Fr) (H : AH) (t : TypeId) (x ix : Operand) : Option (Value × AH) := match evB a x, evB a ix, P.underlying t with
  | some (.slice (some p) len _), some (.int _ i), some (.slice e) => match inB i len, sizeT P e with
    | some k, some size => some (.pointer (some (addA p (k * size))), H)
    | _, _ => none
  | some (.pointer (some p)), some (.int _ i), some (.array len e) => match inB i len, sizeT P e with
    | some k, some size => some (.pointer (some (addA p (k * size))), H)
    | _, _ => none
  | _, _, _ => none
def o_field (P : Program) (a : Fr) (H : AH) (t : TypeId) (x : Operand) (f : Nat) : Option (Value × AH) := match evB a x, P.underlying t with
  | some (.agg cs), some (.struct fields) => match fields[f]? with
    | some fl => match isAggT P fl.type, sizeT P fl.type with
      | some true, some n => match takeN cs.toList fl.offset n with | some l => some (.agg l.toArray, H) | none => none
      | some false, _ => match cs.toList[fl.offset]? with | some v => some (v, H) | none => none
      | _, _ => none
    | none => none
  | _, _ => none
def o_index (P : Program) (a : Fr) (H : AH) (t : TypeId) (x ix : Operand) : Option (Value × AH) := match evB a x, evB a ix, P.underlying t with
  | some (.string s), some (.int _ i), some .string => match inB i s.size with
    | some k => match s.data.toList[k]? with | some b => some (.int .u8 b.toNat, H) | none => none
    | none => none
  | some (.agg cs), some (.int _ i), some (.array len e) => match inB i len, isAggT P e, sizeT P e with
    | some k, some true, some n => match takeN cs.toList (k * n) n with | some l => some (.agg l.toArray, H) | none => none
    | some k, some false, some n => match cs.toList[k * n]? with | some v => some (v, H) | none => none
    | _, _, _ => none
  | _, _, _ => none
def o_extract (P : Program) (a : Fr) (H : AH) (x : Operand) (i : Nat) : Option (Value × AH) := match evB a x with
  | some (.tuple vs) => match vs.toList[i]? with | some v => some (v, H) | none => none
  | _ => none
def o_makeMap (H : AH) (_ : TypeId) (r : Option Operand) : Option (Value × AH) := match r with
  | none => cond (Nat.blt H.next 1048576) (some (.map (some H.next), H.new (.map []))) none
  | some _ => none
def o_slice_string (P : Program) (a : Fr) (H : AH) (t : TypeId) (lo hi : Option Operand) (s : ByteArray) : Option (Value × AH) := match P.underlying t with
  | some .string => match boundO a hi s.size s.size with
    | some h => match boundO a lo 0 h with
      | some l => some (.string (s.extract l h), H)
      | none => none
    | none => none
  | _ => none
def o_slice_slice (P : Program) (a : Fr) (H : AH) (t : TypeId) (lo hi : Option Operand) (base : Option Addr) (len cap : Nat) : Option (Value × AH) := match P.underlying t with
  | some (.slice e) => match sizeT P e, boundO a hi len cap with
    | some size, some h => match boundO a lo 0 h with
      | some l => cond (Nat.ble h cap) (cond (Nat.beq l cap) (match base with
          | none => some (.slice none (h - l) (cap - l), H)
          | some p => match H.obj p.block with
            | some (.cells _ _ false) => some (.slice base (h - l) (cap - l), H)
            | _ => none) (some (.slice (base.map (addA · (l * size))) (h - l) (cap - l), H))) none
      | none => none
    | _, _ => none
  | _ => none
def o_slice_pointer (P : Program) (a : Fr) (H : AH) (t : TypeId) (lo hi : Option Operand) (p : Addr) : Option (Value × AH) := match P.underlying t with
  | some (.array n e) => match sizeT P e, boundO a hi n n with
    | some size, some h => match boundO a lo 0 h with
      | some l => cond (Nat.beq l n) none (match H.obj p.block with
        | some (.cells _ _ false) => some (.slice (some (addA p (l * size))) (h - l) (n - l), H)
        | _ => none)
      | none => none
    | _, _ => none
  | _ => none
def o_slice (P : Program) (a : Fr) (H : AH) (t : TypeId) (x : Operand) (lo hi mx : Option Operand) : Option (Value × AH) := match mx with
  | some _ => none
  | none => match evB a x with
    | some (.string s) => o_slice_string P a H t lo hi s
    | some (.slice base len cap) => o_slice_slice P a H t lo hi base len cap
    | some (.pointer (some p)) => o_slice_pointer P a H t lo hi p
    | _ => none
def o_b_len (P : Program) (a : Fr) (H : AH) (c : Call) : Option (Value × AH) := match evsB a c.args.toList, c.argTypes.toList with
  | some [x], [t] => okV (lenA P H t x) H
  | _, _ => none
def o_b_append (P : Program) (a : Fr) (H : AH) (c : Call) : Option (Value × AH) := match evsB a c.args.toList, c.argTypes.toList with
  | some [s, x], [t, tx] => cond (srcK P tx x) (appendA P H t s x) none
  | _, _ => none
def o_b_clear (P : Program) (a : Fr) (H : AH) (c : Call) : Option (Value × AH) := match evsB a c.args.toList, c.argTypes.toList with
  | some [x], [t] => clearA P H t x
  | _, _ => none
def o_b_more (P : Program) (a : Fr) (H : AH) (ty : TypeId) (b : Builtin) (c : Call) : Option (Value × AH) := match evsB a c.args.toList with
  | some vs => cond (vs.all plain) (match b with
    | .max => okP (pureRun P (Builtin.max_ c.argTypes ty vs.toArray)) H
    | .min => okP (pureRun P (Builtin.min_ c.argTypes ty vs.toArray)) H
    | .real => okP (pureRun P (Builtin.real_ c.argTypes ty vs.toArray)) H
    | .imag => okP (pureRun P (Builtin.imag_ c.argTypes ty vs.toArray)) H
    | .complex => okP (pureRun P (Builtin.complex_ c.argTypes ty vs.toArray)) H
    | _ => none) none
  | none => none
def o_b (P : Program) (a : Fr) (H : AH) (ty : TypeId) (c : Call) (b : Builtin) : Option (Value × AH) := match b with
  | .len => o_b_len P a H c
  | .append => o_b_append P a H c
  | .clear => o_b_clear P a H c
  | b => o_b_more P a H ty b c
def o_call (P : Program) (a : Fr) (H : AH) (ty : TypeId) (c : Call) : Option (Value × AH) := match c.callee with
  | .builtin b => o_b P a H ty c b
  | _ => none
def opB (P : Program) (a : Fr) (H : AH) (ty : TypeId) (o : Op) : Option (Value × AH) :=
  Op.rec (motive := fun _ => Option (Value × AH))
    (o_move P a H) (o_move P a H) (o_pick P a H) (o_alloc P a H) (o_box P a H) (o_build P a H) (o_buildSlice P a H) (o_insert P a H)
    (o_load P a H) (o_store P a H) (fun _ => none) (fun _ => none) (o_nilCheck P a H) (o_binOp P a H) (o_unOp P a H) (o_convert P a H)
    (fun _ _ => none) (fun _ _ => none) (o_makeFunc P a H) (o_makeMap H) (fun _ _ => none) (o_makeSlice P a H) (o_slice P a H)
    (o_fieldAddr P a H) (o_field P a H) (o_indexAddr P a H) (o_index P a H) (o_lookup P a H) (o_insert P a H) (fun _ _ _ => none) (fun _ _ _ _ => none)
    (fun _ _ => none) (fun _ _ => none) (fun _ => none) (fun _ _ _ _ => none) (o_extract P a H) (o_call P a H ty) (fun _ => none) (fun _ => none)
    (fun _ => none) (fun _ _ => none) (fun _ _ _ => none) (fun _ _ => none) o
theorem opB_eq (P : Program) (a : Fr) (o : Oper) (H : AH) : opB P a H o.type o.op = opA P a o H := by
  unfold opA
  cases h : o.op <;> try rfl
  case move x => exact congrArg (okV · H) (evB_eq a x)
  case assign x => exact congrArg (okV · H) (evB_eq a x)
  case pick c x y =>
    show o_pick P a H c x y = _
    unfold o_pick
    simp only [evB_eq, evsB_eq]
    rfl
  case box t x =>
    show o_box P a H t x = _
    unfold o_box
    simp only [evB_eq, evsB_eq]
    rfl
  case load t x =>
    show o_load P a H t x = _
    unfold o_load
    simp only [evB_eq, evsB_eq]
    rfl
  case store t x y =>
    show o_store P a H t x y = _
    unfold o_store
    simp only [evB_eq, evsB_eq]
    rfl
  case nilCheck x =>
    show o_nilCheck P a H x = _
    unfold o_nilCheck
    simp only [evB_eq, evsB_eq]
    rfl
  case binOp op t x y t2 =>
    show o_binOp P a H op t x y t2 = _
    unfold o_binOp
    simp only [evB_eq, evsB_eq]
    rfl
  case unOp op t x =>
    show o_unOp P a H op t x = _
    unfold o_unOp
    simp only [evB_eq, evsB_eq]
    rfl
  case convert s d x =>
    show o_convert P a H s d x = _
    unfold o_convert
    simp only [evB_eq, evsB_eq]
    rfl
  case makeFunc fn f c =>
    show o_makeFunc P a H fn f c = _
    unfold o_makeFunc
    simp only [evB_eq, evsB_eq]
    rfl
  case insert t m k x =>
    show o_insert P a H t m k x = _
    unfold o_insert
    simp only [evB_eq, evsB_eq]
    rfl
  case mapUpdate t m k x =>
    show o_insert P a H t m k x = _
    unfold o_insert
    simp only [evB_eq, evsB_eq]
    rfl
  case lookup t m k ok =>
    show o_lookup P a H t m k ok = _
    unfold o_lookup
    simp only [evB_eq, evsB_eq]
    rfl
  case makeSlice t l c =>
    show o_makeSlice P a H t l c = _
    unfold o_makeSlice
    simp only [evB_eq, evsB_eq]
    rfl
  case fieldAddr s x f =>
    show o_fieldAddr P a H s x f = _
    unfold o_fieldAddr
    simp only [evB_eq, evsB_eq]
    rfl
  case indexAddr t x ix =>
    show o_indexAddr P a H t x ix = _
    unfold o_indexAddr
    simp only [evB_eq, evsB_eq]
    rfl
  case field t x f =>
    show o_field P a H t x f = _
    unfold o_field
    simp only [evB_eq, evsB_eq]
    rfl
  case index t x ix =>
    show o_index P a H t x ix = _
    unfold o_index
    simp only [evB_eq, evsB_eq]
    rfl
  case extract x i =>
    show o_extract P a H x i = _
    unfold o_extract
    simp only [evB_eq, evsB_eq]
    rfl
  case makeMap t r => cases r <;> rfl
  case slice t x lo hi mx =>
    cases mx with
    | some q => rfl
    | none =>
      show o_slice P a H t x lo hi none = _
      unfold o_slice o_slice_string o_slice_slice o_slice_pointer
      simp only [evB_eq, evsB_eq]
      rfl
  case call c =>
    obtain ⟨ce, args, tys⟩ := c
    cases ce with
    | value f => rfl
    | invoke r m => rfl
    | builtin b =>
      show o_b P a H o.type ⟨.builtin b, args, tys⟩ b = _
      cases b
      all_goals (unfold o_b; try unfold o_b_len); try unfold o_b_append
      all_goals (try unfold o_b_clear); try unfold o_b_more
      all_goals simp only [evB_eq, evsB_eq]
      all_goals rfl
def callB0 (K : CallF) (H : AH) (f : Value) (vs : List Value) : CR := match f with
  | .func (.func g) fs cs => K g (fs.toList ++ vs ++ cs.toList) H
  | _ => .bad []
def callB1 (K : CallF) (H : AH) (f : Option Value) (vs : Option (List Value)) : CR := match f, vs with
  | some f, some vs => callB0 K H f vs
  | _, _ => .bad []
def callB (K : CallF) (a : Fr) (H : AH) (c : Call) : CR := match c.callee with
  | .value f => callB1 K H (evB a f) (evsB a c.args.toList)
  | _ => .bad []
def crO (x : Option (Value × AH)) : CR := Option.rec (motive := fun _ => CR) (.bad []) (fun p => Prod.rec (motive := fun _ => CR) (fun v H => .ok v H) p) x
def stepB (P : Program) (K : CallF) (a : Fr) (H : AH) (ty : TypeId) (op : Op) : CR :=
  Option.rec (motive := fun _ => CR) (crO (opB P a H ty op)) (fun c => callB K a H c) (isCallF op)
def opsC (ih : Fr → AH → OpsR) (a : Fr) (o : Oper) (x : CR) : OpsR :=
  CR.rec (motive := fun _ => OpsR) (fun v H' => ih (putB a o.dst v) H') (fun l => .bad (o.pos :: l)) x
def opsS (P : Program) (K : CallF) (all : List Oper) (o : Oper) (ih : Fr → AH → OpsR) (a : Fr) (H : AH) : OpsR :=
  Bool.rec (motive := fun _ => OpsR) (ih (putB a o.dst undef) H) (opsC ih a o (stepB P K a H o.type o.op)) (wantA all a o)
def opsB (P : Program) (K : CallF) (all : List Oper) (l : List Oper) : Fr → AH → OpsR :=
  List.rec (motive := fun _ => Fr → AH → OpsR) (fun a H => .ok a H) (fun o _ ih => opsS P K all o ih) l
abbrev ExF := Option Code → Code → Fr → AH → ExR
def exThen (f : Fr → AH → ExR) (r : ExR) : ExR := ExR.rec (motive := fun _ => ExR) (fun l => .bad l) (fun a H => f a H) (fun i a H => .exit i a H) (fun l a H => .goto l a H) (fun a H => .ret a H) r
def exRest (ih : ExF) (b : Code) (a : Fr) (H : AH) (l : Nat) (x : Option Code) : ExR := Option.rec (motive := fun _ => ExR) (.bad []) (fun rest => ih (some b) rest a H) x
def exScope (ih : ExF) (b : Code) (r : ExR) : ExR := ExR.rec (motive := fun _ => ExR) (fun l => .bad l) (fun a H => .normal a H) (fun i a H => .exit i a H) (fun l a H => exRest ih b a H l (findLabel b l)) (fun a H => .ret a H) r
def exBlock (i : Nat) (r : ExR) : ExR := ExR.rec (motive := fun _ => ExR) (fun l => .bad l) (fun a H => .normal a H) (fun j a H => Bool.rec (motive := fun _ => ExR) (.exit j a H) (.normal a H) (Nat.beq j i)) (fun l a H => .goto l a H) (fun a H => .ret a H) r
def exCond (ih : ExF) (a : Fr) (H : AH) (p q : Code) (x : Option Value) : ExR := match x with
  | some (.bool t) => Bool.rec (motive := fun _ => ExR) (ih none q a H) (ih none p a H) t
  | _ => .bad []
def exOps (x : OpsR) : ExR := OpsR.rec (motive := fun _ => ExR) (fun l => .bad l) (fun a H => .normal a H) x
def exReg (P : Program) (K : CallF) (a : Fr) (H : AH) (ops : Array Oper) (draw : Bool) : ExR := exOps (Bool.rec (motive := fun _ => OpsR) (opsB P K ops.toList ops.toList a H) (drawD P K ops a H) draw)
def exN (P : Program) (K : CallF) (ih : ExF) (a : Fr) (H : AH) (c : Code) : ExR :=
  Code.rec (motive := fun _ => ExR) (.normal a H) (fun _ => exReg P K a H) (fun x y _ _ => exThen (ih none y) (ih none x a H)) (fun x p q _ _ => exCond ih a H p q (evB a x))
    (fun i b _ => exBlock i (ih none b a H)) (fun b _ => exThen (ih none (.loop b)) (ih none b a H)) (fun _ _ _ _ _ _ => .bad []) (fun i => .exit i a H)
    (fun b _ => ih (some b) b a H) (fun _ => .normal a H) (fun l => .goto l a H) (.ret a H) (fun _ => .bad []) c
def exS (P : Program) (K : CallF) (ih : ExF) (s : Option Code) (c : Code) (a : Fr) (H : AH) : ExR :=
  Option.rec (motive := fun _ => ExR) (exN P K ih a H c) (fun b => exScope ih b (ih none c a H)) s
def execB (P : Program) (K : CallF) (n : Nat) : ExF := Nat.rec (motive := fun _ => ExF) (fun _ _ _ _ => .bad []) (fun _ ih => exS P K ih) n
def finB0 (x : Option (List Value)) (H : AH) : CR := match x with
  | some [v] => .ok v H
  | some vs => .ok (.tuple vs.toArray) H
  | none => .bad []
def callB2 (P : Program) (fn : Func) (r : ExR) : CR := match r with
  | .normal a H => finA P fn a H
  | .ret a H => finA P fn a H
  | .bad l => .bad l
  | _ => .bad []
def callB3 (P : Program) (X : FuncId → List Value → Option Value) (ex : ExF) (f : FuncId) (args : List Value) (H : AH) (fn : Func) (b : Option Code) : CR := match b with
  | some c => callB2 P fn (Bool.rec (motive := fun _ => ExR) (.bad []) (ex none c (initF args fn.ntmps) H) (Nat.ble (initF args fn.ntmps).m 512))
  | none => match X f args with
    | some v => .ok v H
    | none => .bad [fn.name]
def callB4 (P : Program) (X : FuncId → List Value → Option Value) (ex : ExF) (f : FuncId) (args : List Value) (H : AH) (x : Option Func) : CR := match x with
  | some fn => callB3 P X ex f args H fn fn.body
  | none => .bad []
def callF (P : Program) (X : FuncId → List Value → Option Value) (n : Nat) (d : Nat) : CallF :=
  Nat.rec (motive := fun _ => CallF) (fun _ _ _ => .bad []) (fun _ ih f args H => callB4 P X (execB P ih n) f args H P.funcs[f]?) d
theorem callB_eq (K : CallF) (a : Fr) (H : AH) (c : Call) : callB K a H c = callO K a c H := by
  unfold callB callO
  cases c.callee with
  | value f =>
    dsimp only
    rw [evB_eq, evsB_eq]
    cases ev a f with
    | none => rfl
    | some u =>
      cases evs a c.args.toList with
      | none =>
        cases u <;> try rfl
        case func fn x y => cases fn <;> rfl
      | some vs =>
        cases u <;> try rfl
        case func fn x y => cases fn <;> rfl
  | invoke r m => rfl
  | builtin b => rfl
theorem stepB_eq (P : Program) (K : CallF) (a : Fr) (H : AH) (o : Oper) : stepB P K a H o.type o.op = stepO P K a o H := by
  unfold stepB stepO
  rw [opB_eq]
  cases isCallF o.op with
  | some c => exact callB_eq K a H c
  | none =>
    cases opA P a o H with
    | none => rfl
    | some p => rfl
theorem opsB_eq (P : Program) (K : CallF) (all : List Oper) : ∀ (l : List Oper) (a : Fr) (H : AH), opsB P K all l a H = opsA P K all l a H
  | [], a, H => rfl
  | o :: l, a, H => by
    have ih := opsB_eq P K all l
    have e : opsB P K all (o :: l) a H = Bool.rec (motive := fun _ => OpsR) (opsB P K all l (putB a o.dst undef) H) (opsC (opsB P K all l) a o (stepB P K a H o.type o.op)) (wantA all a o) := rfl
    have e2 : opsA P K all (o :: l) a H = cond (wantA all a o) (match stepO P K a o H with
      | .ok v H' => opsA P K all l (putD a o.dst v) H'
      | .bad l => .bad (o.pos :: l)) (opsA P K all l (putD a o.dst undef) H) := rfl
    rw [e, e2, stepB_eq]
    cases wantA all a o with
    | false =>
      show opsB P K all l (putB a o.dst undef) H = opsA P K all l (putD a o.dst undef) H
      rw [putB_eq, ih]
    | true =>
      cases stepO P K a o H with
      | bad l => rfl
      | ok v H' =>
        show opsB P K all l (putB a o.dst v) H' = opsA P K all l (putD a o.dst v) H'
        rw [putB_eq, ih]
theorem exReg_eq (P : Program) (K : CallF) (a : Fr) (H : AH) (ops : Array Oper) (draw : Bool) : exReg P K a H ops draw = (match cond draw (drawD P K ops a H) (opsA P K ops.toList ops.toList a H) with
        | .ok a H => .normal a H
        | .bad l => .bad l) := by
  unfold exReg
  cases draw with
  | false =>
    show exOps (opsB P K ops.toList ops.toList a H) = (match opsA P K ops.toList ops.toList a H with | .ok a H => ExR.normal a H | .bad l => .bad l)
    rw [opsB_eq]
    cases opsA P K ops.toList ops.toList a H <;> rfl
  | true =>
    show exOps (drawD P K ops a H) = (match drawD P K ops a H with | .ok a H => ExR.normal a H | .bad l => .bad l)
    cases drawD P K ops a H <;> rfl
theorem execB_eq (P : Program) (K : CallF) : ∀ (n : Nat) (s : Option Code) (c : Code) (a : Fr) (H : AH), execB P K n s c a H = execA P K n s c a H
  | 0, s, c, a, H => rfl
  | n + 1, some b, c, a, H => by
    have ih := execB_eq P K n
    have e : execB P K (n + 1) (some b) c a H = exScope (execB P K n) b (execB P K n none c a H) := rfl
    have e2 : execA P K (n + 1) (some b) c a H = (match execA P K n none c a H with
        | .goto l a H => match findLabel b l with
          | some rest => execA P K n (some b) rest a H
          | none => .bad []
        | r => r) := rfl
    rw [e, e2, ih]
    cases execA P K n none c a H <;> try rfl
    case goto l a1 H1 =>
      show exRest (execB P K n) b a1 H1 l (findLabel b l) = (match findLabel b l with | some rest => execA P K n (some b) rest a1 H1 | none => .bad [])
      cases findLabel b l with
      | none => rfl
      | some rest => exact ih (some b) rest a1 H1
  | n + 1, none, c, a, H => by
    have ih := execB_eq P K n
    have hth : ∀ (r : ExR) (y : Code), exThen (execB P K n none y) r = r.then (execA P K n none y) := fun r y => by
      cases r <;> try rfl
      case normal a1 H1 => exact ih none y a1 H1
    cases c with
    | seq x y =>
      show exThen (execB P K n none y) (execB P K n none x a H) = (execA P K n none x a H).then (execA P K n none y)
      rw [ih, hth]
    | loop b =>
      show exThen (execB P K n none (.loop b)) (execB P K n none b a H) = (execA P K n none b a H).then (execA P K n none (.loop b))
      rw [ih, hth]
    | cond x p q =>
      show exCond (execB P K n) a H p q (evB a x) = (match ev a x with
        | some (.bool t) => execA P K n none (cond t p q) a H
        | _ => .bad [])
      rw [evB_eq]
      cases ev a x with
      | none => rfl
      | some v =>
        cases v <;> try rfl
        case bool t => cases t <;> exact ih none _ a H
    | block i b =>
      show exBlock i (execB P K n none b a H) = (match execA P K n none b a H with
        | .exit j a H => cond (Nat.beq j i) (.normal a H) (.exit j a H)
        | r => r)
      rw [ih]
      cases execA P K n none b a H <;> try rfl
      case exit j a1 H1 =>
        show Bool.rec (motive := fun _ => ExR) (.exit j a1 H1) (.normal a1 H1) (Nat.beq j i) = cond (Nat.beq j i) (.normal a1 H1) (.exit j a1 H1)
        cases Nat.beq j i <;> rfl
    | scope b => exact ih (some b) b a H
    | region i ops draw => exact exReg_eq P K a H ops draw
    | _ => rfl
theorem callF_eq (P : Program) (X : FuncId → List Value → Option Value) (n : Nat) : ∀ (d : Nat) (f : FuncId) (args : List Value) (H : AH), callF P X n d f args H = callA P X n d f args H
  | 0, f, args, H => rfl
  | d + 1, f, args, H => by
    have ih : callF P X n d = callA P X n d := funext fun f => funext fun args => funext fun H => callF_eq P X n d f args H
    have e : callF P X n (d + 1) f args H = callB4 P X (execB P (callF P X n d) n) f args H P.funcs[f]? := rfl
    have e2 : callA P X n (d + 1) f args H = (match P.funcs[f]? with
      | some fn => match fn.body with
        | some c => match (cond (Nat.ble (initF args fn.ntmps).m 512) (execA P (callA P X n d) n none c (initF args fn.ntmps) H) (.bad [])) with
          | .normal a H => finA P fn a H
          | .ret a H => finA P fn a H
          | .bad l => .bad l
          | _ => .bad []
        | none => match X f args with
          | some v => .ok v H
          | none => .bad [fn.name]
      | none => .bad []) := rfl
    rw [e, e2, ih]
    unfold callB4
    cases P.funcs[f]? with
    | none => rfl
    | some fn =>
      dsimp only
      unfold callB3
      cases fn.body with
      | none => rfl
      | some c =>
        dsimp only
        rw [execB_eq]
        cases Nat.ble (initF args fn.ntmps).m 512 with
        | false => rfl
        | true =>
          show callB2 P fn (execA P (callA P X n d) n none c (initF args fn.ntmps) H) = _
          unfold callB2
          rw [cond_true]
end
end Go.Eng
