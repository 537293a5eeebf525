/-
  A machine of our own for calls with known arguments: what it tells is proved elsewhere to be what the given model does.
  Conditions: none; definitions.
-/
import Derived.Orders
namespace Go.Eng
open Go
set_option linter.unusedVariables false
noncomputable section

/-- A table by numbers. -/
inductive Tr (α : Type) : Type where
  | nil
  | node (v : Option α) (l r : Tr α)
/-- The way to a number's place. -/
def way (d : Nat) : Nat → List Bool :=
  Nat.rec (motive := fun _ => Nat → List Bool) (fun _ => [])
    (fun _ ih k => Bool.rec (motive := fun _ => List Bool) (Bool.rec (motive := fun _ => List Bool) (true :: ih ((k - 1) / 2)) (false :: ih ((k - 2) / 2)) (Nat.beq (k % 2) 0)) [] (Nat.beq k 0)) d
def Tr.getP {α : Type} (p : List Bool) : Tr α → Option α :=
  List.rec (motive := fun _ => Tr α → Option α)
    (fun t => Tr.rec (motive := fun _ => Option α) none (fun v _ _ _ _ => v) t)
    (fun b _ ih t => Tr.rec (motive := fun _ => Option α) none (fun _ l r _ _ => Bool.rec (motive := fun _ => Option α) (ih l) (ih r) b) t) p
def Tr.setP {α : Type} (p : List Bool) : Tr α → α → Tr α :=
  List.rec (motive := fun _ => Tr α → α → Tr α)
    (fun t a => Tr.rec (motive := fun _ => Tr α) (.node (some a) .nil .nil) (fun _ l r _ _ => .node (some a) l r) t)
    (fun b _ ih t a => Tr.rec (motive := fun _ => Tr α)
      (Bool.rec (motive := fun _ => Tr α) (.node none (ih .nil a) .nil) (.node none .nil (ih .nil a)) b)
      (fun v l r _ _ => Bool.rec (motive := fun _ => Tr α) (.node v (ih l a) r) (.node v l (ih r a)) b) t) p
def Tr.get {α : Type} (d : Nat) (t : Tr α) (k : Nat) : Option α := t.getP (way d k)
def Tr.set {α : Type} (d : Nat) (t : Tr α) (k : Nat) (a : α) : Tr α := t.setP (way d k) a

/-- A block of our memory. -/
inductive AObj : Type where
  | dead
  | cells (c : List Value) (ty : TypeId) (grown : Bool)
  | map (es : List (Value × Value))

structure AH where
  t : Tr AObj
  next : Nat

abbrev hd : Nat := 20
abbrev fd : Nat := 9
def AH.obj (H : AH) (i : Nat) : Option AObj := Bool.rec (motive := fun _ => Option AObj) none (H.t.get hd i) (Nat.blt i 1048576)
def AH.put (H : AH) (i : Nat) (o : AObj) : AH := ⟨H.t.set hd i o, H.next⟩
def AH.new (H : AH) (o : AObj) : AH := ⟨H.t.set hd H.next o, H.next + 1⟩

/-- A call's slots: how many, and what they hold. -/
structure Fr where
  m : Nat
  t : Tr Value
/-- A value without addresses. -/
def plain1 : Value → Bool
  | .bool _ | .int _ _ | .float _ _ | .complex _ _ _ | .string _ | .nilFunc | .nilIface => true
  | .pointer none | .map none | .chan none => true
  | .slice none _ _ => true
  | .func _ f c => f.toList.isEmpty && c.toList.isEmpty
  | _ => false
def plain : Value → Bool
  | .agg cs => cs.toList.all plain1
  | .tuple cs => cs.toList.all plain1
  | v => plain1 v

def oneB : Value → Bool
  | .agg _ | .tuple _ => false
  | _ => true
def slot (a : Fr) (t : Nat) : Value := cond (Nat.blt t a.m) (match a.t.get fd t with | some v => v | none => undef) undef
def ev (a : Fr) : Operand → Option Value
  | .tmp t => some (slot a t)
  | .const v => cond (plain v) (some v) none
  | .func f => some (.func (.func f) #[] #[])
  | .global _ => none
def putD (a : Fr) (d : Option Nat) (v : Value) : Fr := match d with
  | some t => Fr.rec (motive := fun _ => Fr) (fun m x => cond (Nat.blt t m) ⟨m, x.set fd t v⟩ ⟨m, x⟩) a
  | none => a

/-- What a computation that looks at no memory answers. -/
def pureRun (P : Program) {α : Type} : Sem α → Option α :=
  Sem.rec (motive := fun _ => Option α) (fun a => some a) (fun _ _ _ _ => none) (fun _ _ _ _ _ => none) (fun _ _ _ => none) (fun _ _ _ => none) (fun _ _ _ _ => none) (fun _ _ _ => none) (fun _ _ _ => none) (fun _ _ _ _ => none) (fun _ _ _ => none) (fun _ _ _ => none) (fun _ ih => ih P) (fun _ _ ih => ih) (fun _ => none)

def isAggT (P : Program) (t : TypeId) : Option Bool := match P.underlying t with
  | some (.struct _) | some (.array _ _) => some true
  | some _ => some false
  | none => none
def sizeT (P : Program) (t : TypeId) : Option Nat := match P.info? t with | some i => some i.size | none => none
def zeroT (P : Program) (t : TypeId) : Option Value := match P.info? t with
  | some i => match i.zero with | some z => cond (plain z) (some z) none | none => none
  | none => none
def cellsOf : Value → List Value
  | .agg cs => cs.toList
  | v => [v]

/-- The cells from a place on. -/
def takeN (c : List Value) (off n : Nat) : Option (List Value) :=
  cond (Nat.ble (off + n) c.length) (some ((c.drop off).take n)) none
def loadC (H : AH) (a : Addr) (n : Nat) : Option (List Value) := match a.spot with
  | some _ => none
  | none => match H.obj a.block with
    | some (.cells c _ _) => takeN c a.off n
    | _ => none
def setN : List Value → Nat → List Value → List Value
  | c, _, [] => c
  | c, off, v :: vs => setN (c.set off v) (off + 1) vs
def storeC (H : AH) (a : Addr) (vs : List Value) : Option AH := match a.spot with
  | some _ => none
  | none => match H.obj a.block with
    | some (.cells c t g) => cond (Nat.ble (a.off + vs.length) c.length) (some (H.put a.block (.cells (setN c a.off vs) t g))) none
    | _ => none
def loadV (P : Program) (H : AH) (t : TypeId) (a : Addr) : Option Value := match isAggT P t with
  | some true => match sizeT P t with
    | some n => match loadC H a n with
      | some cs => some (.agg cs.toArray)
      | none => none
    | none => none
  | some false => match loadC H a 1 with
    | some [v] => some v
    | _ => none
  | none => none
def evs (a : Fr) : List Operand → Option (List Value)
  | [] => some []
  | x :: xs => match ev a x with
    | some v => match evs a xs with
      | some vs => some (v :: vs)
      | none => none
    | none => none
def evps (a : Fr) : List (Nat × Operand) → Option (List (Nat × Value))
  | [] => some []
  | (i, x) :: xs => match ev a x with
    | some v => match evps a xs with
      | some vs => some ((i, v) :: vs)
      | none => none
    | none => none
def fillL (place : Nat → Option (Nat × Nat)) : List (Nat × Value) → List Value → Option (List Value)
  | [], cells => some cells
  | (i, v) :: rest, cells => match place i with
    | none => none
    | some (off, size) => cond (Nat.beq (cellsOf v).length size && Nat.ble (off + size) cells.length) (fillL place rest (setN cells off (cellsOf v))) none
def fieldPl (P : Program) : List Field → Option (List (Nat × Nat))
  | [] => some []
  | f :: fs => match sizeT P f.type with
    | some n => match fieldPl P fs with
      | some l => some ((f.offset, n) :: l)
      | none => none
    | none => none
def repl (n : Nat) (z : List Value) : List Value := Nat.rec [] (fun _ ih => z ++ ih) n
def intV : Value → Option Int
  | .int _ n => some n
  | _ => none
/-- An index within its bounds. -/
def inB (i : Int) (n : Nat) : Option Nat := match i with
  | .ofNat k => cond (Nat.blt k n) (some k) none
  | .negSucc _ => none
def leB (i : Int) (n : Nat) : Option Nat := match i with
  | .ofNat k => cond (Nat.ble k n) (some k) none
  | .negSucc _ => none
def boundO (a : Fr) (x : Option Operand) (dflt n : Nat) : Option Nat := match x with
  | none => some dflt
  | some o => match ev a o with
    | some (.int _ i) => leB i n
    | _ => none
def addA (a : Addr) (n : Nat) : Addr := a.add n
def keyEq : Value → Value → Option Bool
  | .int k a, .int k' b => if k = k' then some (decide (a = b)) else none
  | .string a, .string b => some (a == b)
  | .bool a, .bool b => some (a == b)
  | _, _ => none
def findE (k : Value) : List (Value × Value) → Option (Option Value)
  | [] => some none
  | (k', v) :: es => match keyEq k k' with
    | some true => some (some v)
    | some false => findE k es
    | none => none
def putE (k v : Value) : List (Value × Value) → Option (List (Value × Value))
  | [] => some [(k, v)]
  | (k', v') :: es => match keyEq k k' with
    | some true => some ((k, v) :: es)
    | some false => match putE k v es with
      | some l => some ((k', v') :: l)
      | none => none
    | none => none

def okV (o : Option Value) (H : AH) : Option (Value × AH) := match o with | some v => some (v, H) | none => none
def okP (o : Option Value) (H : AH) : Option (Value × AH) := match o with | some v => cond (plain v) (some (v, H)) none | none => none
def newO (H : AH) (c : List Value) (t : TypeId) (f : Addr → Value) : Option (Value × AH) := cond (Nat.blt H.next 1048576) (some (f ⟨H.next, 0, none⟩, H.new (.cells c t false))) none

/-- A key of such a type. -/
def isKeyB (d : Option TypeDesc) (k : Value) : Bool := match d, k with
  | some .bool, .bool _ => true
  | some (.int j), .int j' _ => decide (j' = j)
  | some .string, .string _ => true
  | _, _ => false
def entriesA (H : AH) (m : Value) : Option (List (Value × Value)) := match m with
  | .map none => some []
  | .map (some r) => match H.obj r with | some (.map es) => some es | _ => none
  | _ => none
/-- What an append appends. -/
def srcA (H : AH) (size : Nat) (x : Value) : Option (Nat × List Value) := match x with
  | .slice none n _ => cond (Nat.beq n 0) (some (0, [])) none
  | .slice (some b) n _ => match loadC H b (n * size) with | some cs => cond (cs.all oneB) (some (n, cs)) none | none => none
  | .string str => cond (Nat.beq size 1) (some (str.size, str.data.toList.map fun b => Value.int .u8 b.toNat)) none
  | _ => none
def zeroOk (i : TypeInfo) : Bool := match i.zero with
  | some z => Nat.beq (cellsOf z).length i.size
  | none => false
/-- append(s, x...) -/
def appendA (P : Program) (H : AH) (t : TypeId) (s x : Value) : Option (Value × AH) :=
  match P.underlying t with
  | some (.slice e) => match P.info? e with
    | none => none
    | some i => match srcA H i.size x with
      | none => none
      | some (n, news) => match s with
        | .slice base len cap => cond (Nat.ble (len + n) cap)
            (match base with
              | none => none
              | some a => match storeC H (addA a (len * i.size)) news with
                | some H' => some (.slice base (len + n) cap, H')
                | none => none)
            (cond (Nat.blt H.next 1048576 && zeroOk i && Nat.ble ((len + n) * i.bytes) 140737488355328 && Nat.ble (len + n) 140737488355328) (match base with
              | none => cond (Nat.beq len 0 && Nat.beq cap 0) (some (.slice (some ⟨H.next, 0, none⟩) n n, H.new (.cells news e true))) none
              | some a => match a.spot, H.obj a.block with
                | none, some (.cells c te g) => cond (Nat.beq (a.off + cap * i.size) c.length && Nat.beq te e)
                    (match takeN c a.off (len * i.size) with
                      | some olds => some (.slice (some ⟨H.next, 0, none⟩) (len + n) (len + n), (cond g (H.put a.block .dead) H).new (.cells (olds ++ news) e true))
                      | none => none) none
                | _, _ => none) none)
        | _ => none
  | _ => none
/-- What is appended is of such a type. -/
def srcK (P : Program) (tx : TypeId) (x : Value) : Bool := match P.underlying tx, x with
  | some (.slice _), .slice _ _ _ => true
  | some .string, .string _ => true
  | _, _ => false
/-- clear(x) -/
def clearA (P : Program) (H : AH) (t : TypeId) (x : Value) : Option (Value × AH) := match P.underlying t with
  | some (.slice e) => match zeroT P e with
    | some z => match x with
      | .slice none _ _ => some (undef, H)
      | .slice (some b) n _ => cond ((cellsOf z).all oneB && Nat.blt 0 (cellsOf z).length) (match storeC H b (repl n (cellsOf z)) with | some H' => some (undef, H') | none => none) none
      | _ => none
    | none => none
  | _ => none
def lenA (P : Program) (H : AH) (t : TypeId) (x : Value) : Option Value :=
  match x with
  | .string s => match P.underlying t with | some .string => some (goInt s.size) | _ => none
  | .slice _ n _ => match P.underlying t with | some (.slice _) => some (goInt n) | _ => none
  | .iface n .nilFunc => match P.underlying t with | some .string => some (goInt n) | _ => none
  | .map none => match P.underlying t with | some (.map _ _) => some (goInt 0) | _ => none
  | .map (some r) => match P.underlying t with
    | some (.map _ _) => match H.obj r with | some (.map es) => some (goInt es.length) | _ => none
    | _ => none
  | _ => none
def nilEq (d : Option TypeDesc) (x y : Value) : Option Bool := match d with
  | some (.slice _) => match x, y with
    | .slice a _ _, .slice none _ _ => some a.isNone
    | .slice none _ _, .slice b _ _ => some b.isNone
    | _, _ => none
  | some (.pointer _) => match x, y with
    | .pointer a, .pointer none => some a.isNone
    | .pointer none, .pointer b => some b.isNone
    | _, _ => none
  | some (.map _ _) => match x, y with
    | .map a, .map none => some a.isNone
    | .map none, .map b => some b.isNone
    | _, _ => none
  | some (.func _ _ _) => match x, y with
    | .func _ _ _, .nilFunc => some false
    | .nilFunc, .func _ _ _ => some false
    | _, _ => none
  | _ => none
/-- A text that we know by its length alone. -/
def symEq : Value → Value → Option Bool
  | .iface n .nilFunc, .iface m .nilFunc => cond (Nat.beq n m) (some true) none
  | _, _ => none
def binA (P : Program) (op : BinOp) (t : TypeId) (x y : Operand) (a b : Value) : Option Value :=
  cond (plain a && plain b) (match pureRun P (do eqGuard op t x y a b; binOp op t a b) with
      | some v => cond (plain v) (some v) none
      | none => none)
    (match op with
      | .eql => match symEq a b with
        | some r => some (.bool r)
        | none => match nilEq (P.underlying t) a b with | some r => some (.bool r) | none => none
      | .neq => match symEq a b with
        | some r => some (.bool !r)
        | none => match nilEq (P.underlying t) a b with | some r => some (.bool !r) | none => none
      | _ => none)
def opA (P : Program) (a : Fr) (o : Oper) (H : AH) : Option (Value × AH) := match o.op with
  | .move x | .assign x => okV (ev a x) H
  | .pick c x y => match ev a c with
    | some (.bool t) => okV (cond t (ev a x) (ev a y)) H
    | _ => none
  | .alloc t => match zeroT P t with | some z => newO H (cellsOf z) t (fun p => .pointer (some p)) | none => none
  | .box t x => match ev a x with | some v => newO H (cellsOf v) t (fun p => .pointer (some p)) | none => none
  | .build t parts => match zeroT P t, evps a parts.toList with
    | some z, some ps => match P.underlying t with
      | some (.struct fields) => match fieldPl P fields.toList with
        | some pl => match fillL (fun i => pl[i]?) ps (cellsOf z) with | some c => some (.agg c.toArray, H) | none => none
        | none => none
      | some (.array _ e) => match sizeT P e with
        | some size => match fillL (fun i => some (i * size, size)) ps (cellsOf z) with | some c => some (.agg c.toArray, H) | none => none
        | none => none
      | _ => none
    | _, _ => none
  | .buildSlice t len parts => match P.underlying t, evps a parts.toList with
    | some (.slice e), some ps => match sizeT P e, zeroT P e with
      | some size, some z => cond (Nat.beq (cellsOf z).length size && Nat.blt 0 size && Nat.ble (len * size) 16777216)
          (match fillL (fun i => some (i * size, size)) ps (repl len (cellsOf z)) with
            | some c => newO H c e (fun p => .slice (some p) len len)
            | none => none) none
      | _, _ => none
    | _, _ => none
  | .load t x => match ev a x with
    | some (.pointer (some p)) => okV (loadV P H t p) H
    | _ => none
  | .store t x y => match ev a x, ev a y with
    | some (.pointer (some p)), some v => match sizeT P t with
      | some n => cond (Nat.beq (cellsOf v).length n && (cellsOf v).all oneB) (match storeC H p (cellsOf v) with | some H' => some (undef, H') | none => none) none
      | none => none
    | _, _ => none
  | .nilCheck x => match ev a x with
    | some (.pointer (some p)) => some (.pointer (some p), H)
    | _ => none
  | .binOp op t x y _ => match ev a x, ev a y with
    | some u, some v => okV (binA P op t x y u v) H
    | _, _ => none
  | .unOp op _ x => match ev a x with
    | some v => cond (plain v) (okP (pureRun P (Op.unary op v)) H) none
    | none => none
  | .convert s d x => match ev a x with
    | some v => cond (plain v) (okP (pureRun P (convert s d v)) H) none
    | none => none
  | .makeFunc fn f c => match evs a f.toList, evs a c.toList with
    | some fs, some cs => some (.func fn fs.toArray cs.toArray, H)
    | _, _ => none
  | .makeMap _ none => cond (Nat.blt H.next 1048576) (some (.map (some H.next), H.new (.map []))) none
  | .insert t m k x | .mapUpdate t m k x => match ev a m, ev a k, ev a x with
    | some (.map (some r)), some kv, some v => match H.obj r, P.underlying t with
      | some (.map es), some (.map kt _) => cond (plain1 kv && isKeyB (P.underlying kt) kv) (match putE kv v es with | some es' => some (undef, H.put r (.map es')) | none => none) none
      | _, _ => none
    | _, _, _ => none
  | .lookup t m k ok => match ev a m, ev a k, P.underlying t with
    | some mv, some kv, some (.map kt e) => match entriesA H mv with
      | some es => cond (plain1 kv && isKeyB (P.underlying kt) kv) (match findE kv es with
        | some (some v) => some (cond ok (.tuple #[v, .bool true]) v, H)
        | some none => match zeroT P e with
          | some z => some (cond ok (.tuple #[z, .bool false]) z, H)
          | none => none
        | none => none) none
      | none => none
    | _, _, _ => none
  | .makeSlice t l c => match ev a l, ev a c, P.underlying t with
    | some (.int _ (.ofNat n)), some (.int _ (.ofNat m)), some (.slice e) => match P.info? e with
      | some i => match zeroT P e with
        | some z => cond (Nat.ble n m && Nat.ble (i.bytes * m) 140737488355328 && Nat.beq (cellsOf z).length i.size && Nat.blt 0 i.size && Nat.ble m 140737488355328) (newO H (repl m (cellsOf z)) e (fun p => .slice (some p) n m)) none
        | none => none
      | none => none
    | _, _, _ => none
  | .slice t x lo hi none => match ev a x with
    | some (.string s) => match P.underlying t with
      | some .string => match boundO a hi s.size s.size with
        | some h => match boundO a lo 0 h with
          | some l => some (.string (s.extract l h), H)
          | none => none
        | none => none
      | _ => none
    | some (.slice base len cap) => match P.underlying t with
      | some (.slice e) => match sizeT P e, boundO a hi len cap with
        | some size, some h => match boundO a lo 0 h with
          | some l => cond (Nat.ble h cap) (cond (Nat.beq l cap) (match base with
              | none => some (.slice none (h - l) (cap - l), H)
              | some p => match H.obj p.block with
                | some (.cells _ _ false) => some (.slice base (h - l) (cap - l), H)
                | _ => none) (some (.slice (base.map (addA · (l * size))) (h - l) (cap - l), H))) none
          | none => none
        | _, _ => none
      | _ => none
    | some (.pointer (some p)) => match P.underlying t with
      | some (.array n e) => match sizeT P e, boundO a hi n n with
        | some size, some h => match boundO a lo 0 h with
          | some l => cond (Nat.beq l n) none (match H.obj p.block with
            | some (.cells _ _ false) => some (.slice (some (addA p (l * size))) (h - l) (n - l), H)
            | _ => none)
          | none => none
        | _, _ => none
      | _ => none
    | _ => none
  | .fieldAddr s x f => match ev a x, P.underlying s with
    | some (.pointer (some p)), some (.struct fields) => match fields[f]?, p.spot with
      | some fl, none => match sizeT P fl.type with
        | some n => cond (Nat.blt 0 n) (some (.pointer (some (addA p fl.offset)), H)) none
        | none => none
      | _, _ => none
    | _, _ => none
  | .indexAddr t x ix => match ev a x, ev a ix, P.underlying t with
    | some (.slice (some p) len _), some (.int _ i), some (.slice e) => match inB i len, sizeT P e with
      | some k, some size => some (.pointer (some (addA p (k * size))), H)
      | _, _ => none
    | some (.pointer (some p)), some (.int _ i), some (.array len e) => match inB i len, sizeT P e with
      | some k, some size => some (.pointer (some (addA p (k * size))), H)
      | _, _ => none
    | _, _, _ => none
  | .field t x f => match ev a x, P.underlying t with
    | some (.agg cs), some (.struct fields) => match fields[f]? with
      | some fl => match isAggT P fl.type, sizeT P fl.type with
        | some true, some n => match takeN cs.toList fl.offset n with | some l => some (.agg l.toArray, H) | none => none
        | some false, _ => match cs.toList[fl.offset]? with | some v => some (v, H) | none => none
        | _, _ => none
      | none => none
    | _, _ => none
  | .index t x ix => match ev a x, ev a ix, P.underlying t with
    | some (.string s), some (.int _ i), some .string => match inB i s.size with
      | some k => match s.data.toList[k]? with | some b => some (.int .u8 b.toNat, H) | none => none
      | none => none
    | some (.agg cs), some (.int _ i), some (.array len e) => match inB i len, isAggT P e, sizeT P e with
      | some k, some true, some n => match takeN cs.toList (k * n) n with | some l => some (.agg l.toArray, H) | none => none
      | some k, some false, some n => match cs.toList[k * n]? with | some v => some (v, H) | none => none
      | _, _, _ => none
    | _, _, _ => none
  | .extract x i => match ev a x with
    | some (.tuple vs) => match vs.toList[i]? with | some v => some (v, H) | none => none
    | _ => none
  | .call c => match c.callee with
    | .builtin .len => match evs a c.args.toList, c.argTypes.toList with
      | some [x], [t] => okV (lenA P H t x) H
      | _, _ => none
    | .builtin .append => match evs a c.args.toList, c.argTypes.toList with
      | some [s, x], [t, tx] => cond (srcK P tx x) (appendA P H t s x) none
      | _, _ => none
    | .builtin .clear => match evs a c.args.toList, c.argTypes.toList with
      | some [x], [t] => clearA P H t x
      | _, _ => none
    | .builtin b => match evs a c.args.toList with
      | some vs => cond (vs.all plain) (match b with
        | .max => okP (pureRun P (Builtin.max_ c.argTypes o.type vs.toArray)) H
        | .min => okP (pureRun P (Builtin.min_ c.argTypes o.type vs.toArray)) H
        | .real => okP (pureRun P (Builtin.real_ c.argTypes o.type vs.toArray)) H
        | .imag => okP (pureRun P (Builtin.imag_ c.argTypes o.type vs.toArray)) H
        | .complex => okP (pureRun P (Builtin.complex_ c.argTypes o.type vs.toArray)) H
        | _ => none) none
      | none => none
    | _ => none
  | _ => none

/-- What a call answers; or where it stops. -/
inductive CR : Type where
  | ok (v : Value) (H : AH)
  | bad (at_ : List String)
abbrev CallF := FuncId → List Value → AH → CR
/-- A call of a function. -/
def callO (K : CallF) (a : Fr) (c : Call) (H : AH) : CR := match c.callee with
  | .value f => match ev a f, evs a c.args.toList with
    | some (.func (.func g) fs cs), some vs => K g (fs.toList ++ vs ++ cs.toList) H
    | _, _ => .bad []
  | _ => .bad []
def isCallF (o : Op) : Option Call := match o with
  | .call c => match c.callee with | .value _ => some c | _ => none
  | _ => none
def yieldA (ops : List Oper) (a : Fr) (j : Nat) : Option Bool := match ops[j]? with
  | some o => match o.dst with
    | some d => match slot a d with | .bool b => some b | _ => none
    | none => none
  | none => none
def wantA (ops : List Oper) (a : Fr) (o : Oper) : Bool := match o.guard with
  | none => true
  | some (j, want) => match yieldA ops a j with | some b => b == want | none => false
inductive OpsR : Type where
  | bad (at_ : List String)
  | ok (a : Fr) (H : AH)
def stepO (P : Program) (K : CallF) (a : Fr) (o : Oper) (H : AH) : CR := match isCallF o.op with
  | some c => callO K a c H
  | none => match opA P a o H with
    | some (v, H') => .ok v H'
    | none => .bad []
def opsA (P : Program) (K : CallF) (all : List Oper) : List Oper → Fr → AH → OpsR :=
  List.rec (motive := fun _ => Fr → AH → OpsR) (fun a H => .ok a H) (fun o _ ih a H =>
    cond (wantA all a o) (match stepO P K a o H with
      | .ok v H' => ih (putD a o.dst v) H'
      | .bad l => .bad (o.pos :: l)) (ih (putD a o.dst undef) H))
/-- Whether an operation may change the memory. -/
def isEff (o : Op) : Bool := match o with
  | .store _ _ _ | .alloc _ | .box _ _ | .buildSlice _ _ _ | .makeMap _ _ | .makeSlice _ _ _ | .insert _ _ _ _ | .mapUpdate _ _ _ _ => true
  | .call c => match c.callee with
    | .value _ | .builtin .append | .builtin .clear => true
    | _ => false
  | _ => false
/-- Likeness of two values, by looking. -/
def eq1 : Value → Value → Bool
  | .bool a, .bool b => a == b
  | .int k a, .int j b => decide (k = j) && decide (a = b)
  | .string a, .string b => a == b
  | .pointer none, .pointer none => true
  | .pointer (some ⟨b, o, none⟩), .pointer (some ⟨b', o', none⟩) => Nat.beq b b' && Nat.beq o o'
  | .slice none l c, .slice none l' c' => Nat.beq l l' && Nat.beq c c'
  | .slice (some ⟨b, o, none⟩) l c, .slice (some ⟨b', o', none⟩) l' c' => Nat.beq b b' && Nat.beq o o' && Nat.beq l l' && Nat.beq c c'
  | .map none, .map none => true
  | .map (some r), .map (some r') => Nat.beq r r'
  | .nilFunc, .nilFunc => true
  | .func (.func f) a b, .func (.func g) a' b' => Nat.beq f g && a.toList.isEmpty && a'.toList.isEmpty && b.toList.isEmpty && b'.toList.isEmpty
  | _, _ => false
def eqL : List Value → List Value → Bool
  | [], [] => true
  | x :: xs, y :: ys => eq1 x y && eqL xs ys
  | _, _ => false
def eqV : Value → Value → Bool
  | .agg a, .agg b => eqL a.toList b.toList
  | .tuple a, .tuple b => eqL a.toList b.toList
  | x, y => eq1 x y
/-- What is known of an operation of a region whose order is drawn. -/
structure DR where
  f : Fr
  w : Bool
  v : Value
  m : Nat
  e : Nat
structure DS where
  rs : List DR
  es : List Nat
  hs : List AH
def bindsB (e : Edge) : Bool := match e.ground with | .textOnly _ | .gcOnly _ => false | _ => true
/-- What must come before, as bits. -/
def maskE (rs : List DR) : List Edge → Nat
  | [] => 0
  | e :: l => cond (bindsB e) ((2 ^ e.on ||| (match rs[e.on]? with | some R => R.m | none => 0)) ||| maskE rs l) (maskE rs l)
/-- The operation that writes a slot. -/
def dstIx (s : Nat) : List Oper → Nat → Option Nat
  | [], _ => none
  | o :: l, i => match o.dst with
    | some d => cond (Nat.beq d s) (some i) (dstIx s l (i + 1))
    | none => dstIx s l (i + 1)
def maskT (all : List Oper) (a : Fr) (rs : List DR) (m : Nat) : List Nat → Option (Tr Value)
  | [] => some .nil
  | s :: l => match maskT all a rs m l with
    | none => none
    | some t => cond (Nat.blt s a.m) (match dstIx s all 0 with
      | none => some (t.set fd s (slot a s))
      | some j => cond (Nat.testBit m j) (match rs[j]? with | some R => some (t.set fd s R.v) | none => none) none) none
def chainB (es : List Nat) (m : Nat) : Bool := match es.getLast? with | none => true | some k => Nat.testBit m k
def d1 (P : Program) (K : CallF) (all : Array Oper) (a : Fr) : List Oper → Nat → DS → Option DS
  | [], _, S => some S
  | o :: l, i, S => match maskT all.toList a S.rs (maskE S.rs o.after.toList) (Oper.looksAt all o) with
    | none => none
    | some t => cond (wantA all.toList ⟨a.m, t⟩ o)
      (match S.hs.getLast? with
        | none => none
        | some H => cond (isEff o.op)
          (cond (chainB S.es (maskE S.rs o.after.toList)) (match stepO P K ⟨a.m, t⟩ o H with
            | .ok v H' => d1 P K all a l (i + 1) ⟨S.rs ++ [⟨⟨a.m, t⟩, true, v, maskE S.rs o.after.toList, S.es.length⟩], S.es ++ [i], S.hs ++ [H']⟩
            | .bad _ => none) none)
          (match opA P ⟨a.m, t⟩ o H with
            | some (v, _) => d1 P K all a l (i + 1) ⟨S.rs ++ [⟨⟨a.m, t⟩, true, v, maskE S.rs o.after.toList, S.es.length⟩], S.es, S.hs⟩
            | none => none))
      (d1 P K all a l (i + 1) ⟨S.rs ++ [⟨⟨a.m, t⟩, false, undef, maskE S.rs o.after.toList, S.es.length⟩], S.es, S.hs⟩)
/-- Whether e effects may have come when operation i runs. -/
def possB (rs : List DR) (i m e : Nat) : List Nat → Nat → Bool
  | [], _ => true
  | k :: l, q => cond (Nat.blt q e) (match rs[k]? with | some R => !(Nat.testBit R.m i) | none => true) (!(Nat.testBit m k)) && possB rs i m e l (q + 1)
def chkH (P : Program) (S : DS) (o : Oper) (R : DR) (i : Nat) : List AH → Nat → Bool
  | [], _ => true
  | H :: l, e => cond (possB S.rs i R.m e S.es 0) (cond (Nat.beq e R.e) true (match opA P R.f o H with | some (v, _) => eqV v R.v | none => false)) true && chkH P S o R i l (e + 1)
def edgesB (i : Nat) : List Edge → Bool
  | [] => true
  | e :: l => cond (bindsB e) (Nat.blt e.on i) true && edgesB i l
def dstB (all : List Oper) (a : Fr) (i : Nat) : Option Nat → Bool
  | none => true
  | some d => Nat.blt d a.m && (match dstIx d all 0 with | some j => Nat.beq j i | none => false)
def chk2 (P : Program) (all : List Oper) (a : Fr) (S : DS) : List Oper → Nat → Bool
  | [], _ => true
  | o :: l, i => edgesB i o.after.toList && dstB all a i o.dst && (match S.rs[i]? with | some R => cond R.w (cond (isEff o.op) true (chkH P S o R i S.hs 0)) true | none => false) && chk2 P all a S l (i + 1)
def finD : List Oper → List DR → Fr → Fr
  | o :: l, R :: rs, a => finD l rs (putD a o.dst R.v)
  | _, _, a => a
/-- A region whose order is drawn: every order comes to the same. -/
def drawA (P : Program) (K : CallF) (ops : Array Oper) (a : Fr) (H : AH) : OpsR := match d1 P K ops a ops.toList 0 ⟨[], [], [H]⟩ with
  | none => .bad ["drawn"]
  | some S => cond (chk2 P ops.toList a S ops.toList 0) (match S.hs.getLast? with
    | some H' => .ok (finD ops.toList S.rs a) H'
    | none => .bad []) (.bad ["drawn; reads"])
/-! A call, and beside it a new row: then both are used. -/
def onsB (o : Oper) : List Nat := (o.after.toList.filter bindsB).map (·.on)
def isBS (o : Op) : Bool := match o with | .buildSlice _ _ _ => true | _ => false
def freeB (all : Array Oper) (o : Oper) (l : List Nat) : Bool := l.all fun d => !((Oper.looksAt all o).contains d)
def apB (all : Array Oper) (m : Nat) (o0 o1 o2 o3 o4 o5 : Oper) (d0 d1 d2 d3 : Nat) : Bool :=
  (o0.guard.isNone && o1.guard.isNone && o2.guard.isNone && o3.guard.isNone && o4.guard.isNone && o5.guard.isNone) &&
  ((onsB o0).isEmpty && onsB o1 == [0] && (onsB o2).isEmpty && onsB o3 == [2] && ((onsB o4).all (Nat.blt · 4) && (onsB o4).contains 1 && (onsB o4).contains 3) && ((onsB o5).all (Nat.blt · 5) && (onsB o5).contains 4)) &&
  (!isEff o0.op && !isEff o2.op && (isCallF o1.op).isSome && isBS o3.op) &&
  (Nat.blt d0 m && Nat.blt d1 m && Nat.blt d2 m && Nat.blt d3 m) &&
  (!(Nat.beq d0 d1) && !(Nat.beq d0 d2) && !(Nat.beq d0 d3) && !(Nat.beq d1 d2) && !(Nat.beq d1 d3) && !(Nat.beq d2 d3)) &&
  (freeB all o0 [d1, d2, d3] && freeB all o1 [d2, d3] && freeB all o2 [d0, d1, d3] && freeB all o3 [d0, d1])
def drawC (P : Program) (K : CallF) (all : List Oper) (a : Fr) (H : AH) (o0 o1 o2 o3 o4 o5 : Oper) (d0 d1 d2 d3 : Nat) : OpsR := match opA P a o0 H with
  | some (v0, _) => match stepO P K (putD a (some d0) v0) o1 H with
    | .ok v1 H1 => match opA P a o2 H, opA P a o2 H1 with
      | some (v2, _), some (u2, _) => cond (eqV u2 v2) (match opA P (putD a (some d2) v2) o3 H1 with
        | some (v3, H2) => opsA P K all [o4, o5] (putD (putD (putD (putD a (some d0) v0) (some d1) v1) (some d2) v2) (some d3) v3) H2
        | none => .bad ["drawn: row"]) (.bad ["drawn: read"])
      | _, _ => .bad ["drawn: load"]
    | .bad l => .bad l
  | none => .bad ["drawn: move"]
def drawD (P : Program) (K : CallF) (ops : Array Oper) (a : Fr) (H : AH) : OpsR := match ops.toList with
  | [o0, o1, o2, o3, o4, o5] => match o0.dst, o1.dst, o2.dst, o3.dst with
    | some d0, some d1, some d2, some d3 => cond (apB ops a.m o0 o1 o2 o3 o4 o5 d0 d1 d2 d3) (drawC P K ops.toList a H o0 o1 o2 o3 o4 o5 d0 d1 d2 d3) (drawA P K ops a H)
    | _, _, _, _ => drawA P K ops a H
  | _ => drawA P K ops a H
inductive ExR : Type where
  | bad (at_ : List String)
  | normal (a : Fr) (H : AH)
  | exit (i : Nat) (a : Fr) (H : AH)
  | goto (l : Nat) (a : Fr) (H : AH)
  | ret (a : Fr) (H : AH)
def ExR.then (r : ExR) (f : Fr → AH → ExR) : ExR := match r with
  | .normal a H => f a H
  | r => r
/-- A code's run; (some b): in a scope with body b. -/
def execA (P : Program) (K : CallF) (n : Nat) : Option Code → Code → Fr → AH → ExR :=
  Nat.rec (motive := fun _ => Option Code → Code → Fr → AH → ExR) (fun _ _ _ _ => .bad []) (fun _ ih s c a H => match s with
    | some b => match ih none c a H with
      | .goto l a H => match findLabel b l with
        | some rest => ih (some b) rest a H
        | none => .bad []
      | r => r
    | none => match c with
      | .skip => .normal a H
      | .label _ => .normal a H
      | .seq x y => (ih none x a H).then (ih none y)
      | .cond x p q => match ev a x with
        | some (.bool t) => ih none (cond t p q) a H
        | _ => .bad []
      | .block i b => match ih none b a H with
        | .exit j a H => cond (Nat.beq j i) (.normal a H) (.exit j a H)
        | r => r
      | .loop b => (ih none b a H).then (ih none (.loop b))
      | .scope b => ih (some b) b a H
      | .exit i => .exit i a H
      | .goto l => .goto l a H
      | .ret => .ret a H
      | .region _ ops draw => match cond draw (drawD P K ops a H) (opsA P K ops.toList ops.toList a H) with
        | .ok a H => .normal a H
        | .bad l => .bad l
      | _ => .bad []) n
def initT (args : List Value) : Nat → Tr Value → Tr Value :=
  List.rec (motive := fun _ => Nat → Tr Value → Tr Value) (fun _ t => t) (fun v _ ih i t => ih (i + 1) (t.set fd i v)) args
def initF (args : List Value) (n : Nat) : Fr := ⟨cond (Nat.ble args.length n) n args.length, initT args 0 .nil⟩
def resA (P : Program) (a : Fr) (H : AH) : List ResultVar → Option (List Value)
  | [] => some []
  | .tmp t :: rs => match ev a (.tmp t), resA P a H rs with
    | some v, some vs => some (v :: vs)
    | _, _ => none
  | .cell x t :: rs => match ev a (.tmp x), resA P a H rs with
    | some (.pointer (some p)), some vs => match loadV P H t p with | some v => some (v :: vs) | none => none
    | _, _ => none
def finA (P : Program) (fn : Func) (a : Fr) (H : AH) : CR := match resA P a H fn.results.toList with
  | some [v] => .ok v H
  | some vs => .ok (.tuple vs.toArray) H
  | none => .bad []
def callA (P : Program) (X : FuncId → List Value → Option Value) (n : Nat) (d : Nat) : CallF :=
  Nat.rec (motive := fun _ => CallF) (fun _ _ _ => .bad []) (fun _ ih f args H => match P.funcs[f]? with
    | some fn => match fn.body with
      | some c => match (cond (Nat.ble (initF args fn.ntmps).m 512) (execA P ih n none c (initF args fn.ntmps) H) (.bad [])) with
        | .normal a H => finA P fn a H
        | .ret a H => finA P fn a H
        | .bad l => .bad l
        | _ => .bad []
      | none => match X f args with
        | some v => .ok v H
        | none => .bad [fn.name]
    | none => .bad []) d
end
end Go.Eng
