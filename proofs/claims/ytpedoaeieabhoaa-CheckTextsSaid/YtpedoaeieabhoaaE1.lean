/- Lemmas for the seat: the conditions of code, and contracts of functions, part 1. Condition: none. -/
import Derived.WalkKit
import Derived.Defers
import Derived.Recover
import Derived.Great.BuildSlice
import Derived.Still
import Derived.Deep.LoopGhost
import Derived.Below

/- A verification-condition generator for the model's code, by symbolic execution: the definitions. Condition: none (definitions only). -/
namespace Go.Vc
open Go

/-! ## Strings as lists of bytes; slices as records -/

abbrev Bytes := List UInt8
def bs (l : Bytes) : ByteArray := ⟨l.toArray⟩
theorem bs_data (l : Bytes) : (bs l).data.toList = l := rfl
theorem bs_eta (s : ByteArray) : bs s.data.toList = s := rfl

structure Sl where
  a : Option Addr
  len : Nat
  cap : Nat

/-- A byte of a text as an int; 0 where there is none. -/
def byteAt (l : Bytes) (i : Nat) : Int := ((l.getD i 0).toNat : Int)

def imax (x y : Int) : Int := if y > x then y else x
def imin (x y : Int) : Int := if y < x then y else x

/-- The ints of 64 bits. -/
def InI64 (z : Int) : Prop := -9223372036854775808 ≤ z ∧ z ≤ 9223372036854775807
def InK (k : IntKind) (z : Int) : Prop := k.min ≤ z ∧ z ≤ k.max

def br (b : Bool) (A B : Prop) : Prop := match b with | true => A | false => B
theorem br_intro {b : Bool} {A B : Prop} (h : b = true → A) (h' : b = false → B) : br b A B := by
  cases b
  · exact h' rfl
  · exact h rfl
theorem br_true {A B : Prop} (h : A) : br true A B := h
theorem br_false {A B : Prop} (h : B) : br false A B := h

/-! ## Worlds -/

/-- The world is as it was but for the blocks B, and there may be new blocks. -/
structure LocB (B : List Nat) (w w' : World) : Prop where
  os : w'.os = w.os
  tape : w'.tape = w.tape
  output : w'.output = w.output
  size : w.heap.size ≤ w'.heap.size
  block : ∀ k, k < w.heap.size → k ∉ B → w'.heap[k]? = w.heap[k]?
  mem : ∀ b, b ∈ B → b < w'.heap.size

/-- The cells from an address on hold these values. -/
def CellsAt (w : World) (a : Addr) (vs : List Value) : Prop := ∀ i v, vs[i]? = some v → w.cell? (a.add i) = some v

/-- n cells from an address on are there and may be written. -/
def StoreOk (w : World) (a : Addr) (n : Nat) : Prop := ∀ i, i < n → (∃ v, w.cell? (a.add i) = some v) ∧ w.frozen? (a.add i) = false

def setCellsFrom (w : World) (a : Addr) : Nat → List Value → World
  | _, [] => w
  | i, v :: r => setCellsFrom (w.setCell (a.add i) v) a (i + 1) r
/-- These cells written from an address on. -/
def setCells (w : World) (a : Addr) (vs : List Value) : World := setCellsFrom w a 0 vs

/-- The blocks are as they were. -/
def keepB : List Nat → World → World → Prop
  | [], _, _ => True
  | [b], w, w' => w'.heap[b]? = w.heap[b]?
  | b :: r, w, w' => w'.heap[b]? = w.heap[b]? ∧ keepB r w w'

def oneB : Value → Bool
  | .agg _ => false
  | .tuple _ => false
  | _ => true

/-- What an append asks: 'old' are the cells of the slice's elements. -/
structure AppPre (w : World) (s : Sl) (sz bytes n : Nat) (old : List Value) : Prop where
  len : old.length = s.len * sz
  cells : ∀ a, s.a = some a → CellsAt w a old
  none : s.a = none → old = []
  store : s.len + n ≤ s.cap → ∀ a, s.a = some a → StoreOk w (a.add (s.len * sz)) (n * sz)
  room : (2 * (s.len + n) + 1024) * bytes ≤ 281474976710656

def appIn (w : World) (a : Option Addr) (o : Nat) (vs : List Value) : World :=
  match a with
  | some a => setCells w (a.add o) vs
  | none => w

/-- What an append does. -/
def AppRes (w : World) (s : Sl) (sz : Nat) (elem : TypeId) (vs : List Value) (n : Nat) (old : List Value) (s' : Sl) (w' : World) : Prop :=
  (s.len + n ≤ s.cap ∧ s' = ⟨s.a, s.len + n, s.cap⟩ ∧ w' = appIn w s.a (s.len * sz) vs) ∨
  (s.cap < s.len + n ∧ ∃ (c : Nat) (rest : List Value), s.len + n ≤ c ∧ rest.length = (c - (s.len + n)) * sz ∧ s' = ⟨some ⟨w.heap.size, 0, none⟩, s.len + n, c⟩ ∧
    w' = (w.drew).alloc (.cells (old ++ vs ++ rest).toArray elem))

/-- The cells of a slice's elements. -/
structure SlCells (w : World) (a : Option Addr) (n : Nat) (vs : List Value) : Prop where
  len : vs.length = n
  some : ∀ ad, a = some ad → CellsAt w ad vs
  none : a = none → vs = []

def bytesV (l : Bytes) : List Value := l.map fun b => Value.int .u8 (b.toNat : Int)

/-- 'p', where the blocks are as they were. -/
def keepAnd : List Nat → World → World → Prop → Prop
  | [], _, _, p => p
  | b :: r, w, w', p => w'.heap[b]? = w.heap[b]? ∧ keepAnd r w w' p

/-- 'p', where the address lies in none of the blocks. -/
def offAnd : List Nat → Addr → Prop → Prop
  | [], _, p => p
  | b :: r, a, p => a.block ≠ b ∧ offAnd r a p
def offSAnd : List Nat → Option Addr → Prop → Prop
  | [], _, p => p
  | b :: r, a, p => (∀ ad, a = some ad → ad.block ≠ b) ∧ offSAnd r a p

/-! ## Symbolic values and states -/

inductive SV where
  | val (v : Value)
  | box (base off : Nat)
  | row (base len : Nat)
  | junk

abbrev Env := List (Nat × SV)

def look : Env → Nat → SV
  | [], _ => .junk
  | (k, v) :: r, i => match Nat.beq k i with | true => v | false => look r i

structure Box where
  base : Nat
  block : Nat
  elem : TypeId
  size : Nat

structure St where
  env : Env
  bm : List Box
  w : World
  dirty : Bool
  defers : List Deferred

inductive Cls where
  | t
  | bl (base : Nat)
  | h
  | bst (base : Nat)
  | e
  | g
  deriving DecidableEq

structure Ann where
  /-- allocations that are kept as pseudo-slots: the slot that gets the address, the pseudo-slots' base -/
  boxes : List (Nat × Nat)
  /-- loops, by the number of the block around: the slots that a round changes and that are read later, with a zero value of their shape -/
  loops : List (Nat × List (Nat × Value) × List Nat)
  /-- where ways meet again: before the region of that number -/
  cuts : List (Nat × List (Nat × Value) × List Nat)
  /-- calls that may panic: the slot that gets the result is named, or the function's number -/
  pans : List Nat
  /-- regions that draw: an order, and each operation's class -/
  draws : List (Nat × List Nat × List Cls)

structure Cx where
  P : Program
  N : Nat
  an : Ann
  env : Env
  bm : List Box
  dfs : List Deferred

def assoc {α : Type} : List (Nat × α) → Nat → Option α
  | [], _ => none
  | (k, v) :: r, i => match Nat.beq k i with | true => some v | false => assoc r i

def memN : List Nat → Nat → Bool
  | [], _ => false
  | k :: r, i => match Nat.beq k i with | true => true | false => memN r i

def blocksOf : List Box → List Nat
  | [] => []
  | x :: r => x.block :: blocksOf r

def findBox : List Box → Nat → Option Box
  | [], _ => none
  | x :: r, i => match Nat.beq x.base i with | true => some x | false => findBox r i

section
variable (cx : Cx)

def get (st : St) (i : Nat) : SV := match Nat.blt i cx.N with
  | true => look (st.env ++ cx.env) i
  | false => .junk

def ev (st : St) : Operand → SV
  | .tmp t => get cx st t
  | .const v => .val v
  | .global g => .val (.pointer (some ⟨g, 0, none⟩))
  | .func f => .val (.func (.func f) #[] #[])

/-- The visible world is brought up to date. -/
def flush (st : St) (K : St → Prop) : Prop :=
  match st.dirty with
  | false => K st
  | true => ∀ w' : World, LocB (blocksOf (st.bm ++ cx.bm)) st.w w' → K { st with w := w', dirty := false }

def putD (dst : Option Tmp) (v : SV) (st : St) (K : St → Prop) : Prop :=
  match dst with
  | none => K st
  | some d => match Nat.blt d cx.N with
    | true => K { st with env := (d, v) :: st.env }
    | false => False

end

/-! ## Shapes: 'for some values of this zero value's shape' -/

def exCell (z : Value) (K : Value → Prop) : Prop :=
  match z with
  | .int k _ => ∃ n : Int, K (.int k n)
  | .bool _ => ∃ b : Bool, K (.bool b)
  | .string _ => ∃ l : Bytes, K (.string (bs l))
  | .slice _ _ _ => ∃ s : Sl, K (.slice s.a s.len s.cap)
  | .pointer _ => ∃ a : Addr, K (.pointer (some a))
  | .nilFunc => ∃ (g : FuncId) (first caps : Array Value), K (.func (.func g) first caps)
  | _ => ∃ v : Value, K v

def exCells : List Value → (List Value → Prop) → Prop
  | [], K => K []
  | z :: r, K => exCell z fun v => exCells r fun vs => K (v :: vs)

def exComp (z : Value) (K : Value → Prop) : Prop :=
  match z with
  | .agg cs => exCells cs.toList fun vs => K (.agg vs.toArray)
  | z => exCell z K

def exComps : List Value → (List Value → Prop) → Prop
  | [], K => K []
  | z :: r, K => exComp z fun v => exComps r fun vs => K (v :: vs)

def exTop (z : Value) (K : Value → Prop) : Prop :=
  match z with
  | .tuple cs => exComps cs.toList fun vs => K (.tuple vs.toArray)
  | z => exComp z K

/-- A curried predicate over values of such shapes. -/
def Shaped (R : Type) : List Value → Type
  | [] => R
  | z :: r => match z with
    | .int _ _ => Int → Shaped R r
    | .bool _ => Bool → Shaped R r
    | .string _ => Bytes → Shaped R r
    | .slice _ _ _ => Sl → Shaped R r
    | .pointer _ => Addr → Shaped R r
    | _ => Value → Shaped R r

/-- Applied to values; 'dflt' where a value has another shape. -/
def Shaped.app {R : Type} (dflt : R) : (zs : List Value) → Shaped R zs → List Value → R
  | [], f, _ => f
  | _ :: _, _, [] => dflt
  | .int k _ :: r, f, v :: vs => match v with
    | .int k' n => if k = k' then Shaped.app dflt r (f n) vs else dflt
    | _ => dflt
  | .bool _ :: r, f, v :: vs => match v with
    | .bool b => Shaped.app dflt r (f b) vs
    | _ => dflt
  | .string _ :: r, f, v :: vs => match v with
    | .string s => Shaped.app dflt r (f s.data.toList) vs
    | _ => dflt
  | .slice _ _ _ :: r, f, v :: vs => match v with
    | .slice a l c => Shaped.app dflt r (f ⟨a, l, c⟩) vs
    | _ => dflt
  | .pointer _ :: r, f, v :: vs => match v with
    | .pointer (some a) => Shaped.app dflt r (f a) vs
    | _ => dflt
  | .float _ _ :: r, f, v :: vs => Shaped.app dflt r (f v) vs
  | .complex _ _ _ :: r, f, v :: vs => Shaped.app dflt r (f v) vs
  | .map _ :: r, f, v :: vs => Shaped.app dflt r (f v) vs
  | .chan _ :: r, f, v :: vs => Shaped.app dflt r (f v) vs
  | .func _ _ _ :: r, f, v :: vs => Shaped.app dflt r (f v) vs
  | .nilFunc :: r, f, v :: vs => Shaped.app dflt r (f v) vs
  | .iface _ _ :: r, f, v :: vs => Shaped.app dflt r (f v) vs
  | .nilIface :: r, f, v :: vs => Shaped.app dflt r (f v) vs
  | .agg _ :: r, f, v :: vs => Shaped.app dflt r (f v) vs
  | .tuple _ :: r, f, v :: vs => Shaped.app dflt r (f v) vs

/-- For all values of such shapes. -/
def allCell (z : Value) (K : Value → Prop) : Prop :=
  match z with
  | .int k _ => ∀ n : Int, K (.int k n)
  | .bool _ => ∀ b : Bool, K (.bool b)
  | .string _ => ∀ l : Bytes, K (.string (bs l))
  | .slice _ _ _ => ∀ s : Sl, K (.slice s.a s.len s.cap)
  | .pointer _ => ∀ a : Addr, K (.pointer (some a))
  | _ => ∀ v : Value, K v

def allCells : List Value → (List Value → Prop) → Prop
  | [], K => K []
  | z :: r, K => allCell z fun v => allCells r fun vs => K (v :: vs)

end Go.Vc

/- The operations that hang on no world: their conditions, and that these suffice. -/
namespace Go.Vc
open Go

/-- The values of operands, all plain. -/
def valsOf (f : Operand → SV) : List Operand → Option (List Value)
  | [] => some []
  | x :: r => match f x with
    | .val v => match valsOf f r with
      | some vs => some (v :: vs)
      | none => none
    | _ => none

def partsOf (f : Operand → SV) : List (Nat × Operand) → Option (List (Nat × Value))
  | [] => some []
  | (i, x) :: r => match f x with
    | .val v => match partsOf f r with
      | some vs => some ((i, v) :: vs)
      | none => none
    | _ => none

def vArith (k : IntKind) (z : Int) (K : SV → Prop) : Prop :=
  match k with
  | .i64 => InI64 z ∧ K (.val (.int .i64 z))
  | k => K (.val (.int k (k.wrap z)))

def vBin (P : Program) (op : BinOp) (t : TypeId) (u v : Value) (K : SV → Prop) : Prop :=
  match u, v with
  | .int k a, .int k' b =>
    if k = k' then
      match op with
      | .add => vArith k (a + b) K
      | .sub => vArith k (a - b) K
      | .mul => vArith k (a * b) K
      | .eql => K (.val (.bool (decide (a = b))))
      | .neq => K (.val (.bool (!decide (a = b))))
      | .lss => K (.val (.bool (decide (a < b))))
      | .leq => K (.val (.bool (decide (a ≤ b))))
      | .gtr => K (.val (.bool (decide (b < a))))
      | .geq => K (.val (.bool (decide (b ≤ a))))
      | op => ∃ r : Int, (∀ w, (binOp op t (.int k a) (.int k b)).run P w = .ok (.int k r) w) ∧ K (.val (.int k r))
    else False
  | .string a, .string b =>
    match op with
    | .add => a.data.toList.length + b.data.toList.length ≤ 9223372036854775807 ∧ K (.val (.string (bs (a.data.toList ++ b.data.toList))))
    | .eql => K (.val (.bool (decide (a.data.toList = b.data.toList))))
    | .neq => K (.val (.bool (!decide (a.data.toList = b.data.toList))))
    | .lss => K (.val (.bool (Op.bytesLess a.data.toList b.data.toList)))
    | _ => False
  | .bool a, .bool b =>
    match P.underlying t with
    | some .bool => match op with
      | .eql => K (.val (.bool (a == b)))
      | .neq => K (.val (.bool (!(a == b))))
      | _ => False
    | _ => False
  | .slice a _ _, .slice none _ _ =>
    match P.underlying t with
    | some (.slice _) => match op with
      | .eql => K (.val (.bool a.isNone))
      | .neq => K (.val (.bool (!a.isNone)))
      | _ => False
    | _ => False
  | _, _ => False

def cutA (a : Option Addr) (l m sz : Nat) : Option Addr := if m = l then a else a.map (·.add (l * sz))

/-- The integer that an operand is. -/
def intOf? : SV → Option Int
  | .val (.int _ n) => some n
  | _ => none

def vSlice (P : Program) (f : Operand → SV) (t : TypeId) (x : Operand) (lo hi mx : Option Operand) (K : SV → Prop) : Prop :=
  match f x with
  | .val (.string s) =>
    match P.underlying t with
    | some .string => match lo, hi, mx with
      | some lo, none, none => match intOf? (f lo) with
        | some l => 0 ≤ l ∧ l ≤ s.data.toList.length ∧ K (.val (.string (bs (s.data.toList.drop l.toNat))))
        | none => False
      | none, some hi, none => match intOf? (f hi) with
        | some h => 0 ≤ h ∧ h ≤ s.data.toList.length ∧ K (.val (.string (bs (s.data.toList.take h.toNat))))
        | none => False
      | some lo, some hi, none => match intOf? (f lo), intOf? (f hi) with
        | some l, some h => 0 ≤ l ∧ l ≤ h ∧ h ≤ s.data.toList.length ∧ K (.val (.string (bs ((s.data.toList.take h.toNat).drop l.toNat))))
        | _, _ => False
      | _, _, _ => False
    | _ => False
  | .val (.slice a len cap) =>
    match P.underlying t with
    | some (.slice e) => match P.info? e with
      | some ie => match lo, hi, mx with
        | some lo, none, none => match intOf? (f lo) with
          | some l => 0 ≤ l ∧ l ≤ len ∧ K (.val (.slice (cutA a l.toNat cap ie.size) (len - l.toNat) (cap - l.toNat)))
          | none => False
        | none, some hi, none => match intOf? (f hi) with
          | some h => 0 ≤ h ∧ h ≤ cap ∧ K (.val (.slice a h.toNat cap))
          | none => False
        | some lo, some hi, none => match intOf? (f lo), intOf? (f hi) with
          | some l, some h => 0 ≤ l ∧ l ≤ h ∧ h ≤ cap ∧ K (.val (.slice (cutA a l.toNat cap ie.size) (h.toNat - l.toNat) (cap - l.toNat)))
          | _, _ => False
        | none, some hi, some mx => match intOf? (f hi), intOf? (f mx) with
          | some h, some m => 0 ≤ h ∧ h ≤ m ∧ m ≤ cap ∧ K (.val (.slice a h.toNat m.toNat))
          | _, _ => False
        | _, _, _ => False
      | none => False
    | _ => False
  | _ => False

def isIfaceT (P : Program) (t : TypeId) : Bool :=
  match P.underlying t with
  | some (.interface _) => true
  | some _ => false
  | none => true

/-- Cells of a field out of an aggregate's. -/
def partL (z : Value) (size off : Nat) (cs : List Value) : Option Value :=
  match z with
  | .agg _ => some (.agg ((cs.drop off).take size).toArray)
  | _ => cs[off]?

def vCallT (P : Program) (f : Operand → SV) (c : Call) (K : SV → Prop) : Prop :=
  match c.callee with
  | .builtin .len =>
    match c.args.toList, c.argTypes.toList with
    | [x], [t] => match P.underlying t, f x with
      | some .string, .val (.string s) => K (.val (.int .i64 s.data.toList.length))
      | some (.slice _), .val (.slice _ n _) => K (.val (.int .i64 n))
      | some (.slice _), .row _ n => K (.val (.int .i64 n))
      | _, _ => False
    | _, _ => False
  | .builtin .max =>
    match c.args.toList with
    | [x, y] => match f x, f y with
      | .val (.int k a), .val (.int _ b) => K (.val (.int k (imax a b)))
      | _, _ => False
    | _ => False
  | .builtin .min =>
    match c.args.toList with
    | [x, y] => match f x, f y with
      | .val (.int k a), .val (.int _ b) => K (.val (.int k (imin a b)))
      | _, _ => False
    | _ => False
  | _ => False

/-- An operation that hangs on no world. 'f': what the operands are. -/
def vT (P : Program) (f : Operand → SV) (op : Op) (K : SV → Prop) : Prop :=
  match op with
  | .move x => K (f x)
  | .assign x => K (f x)
  | .pick c a b => match f c with
    | .val (.bool t) => br t (K (f a)) (K (f b))
    | _ => False
  | .nilCheck x => match f x with
    | .box b o => K (.box b o)
    | .val (.pointer (some a)) => K (.val (.pointer (some a)))
    | _ => False
  | .binOp o t x y _ => match f x, f y with
    | .val u, .val v => vBin P o t u v K
    | _, _ => False
  | .unOp o _ x => match o, f x with
    | .not, .val (.bool b) => K (.val (.bool (!b)))
    | .neg, .val (.int k n) => vArith k (0 - n) K
    | _, _ => False
  | .build t parts => match partsOf f parts.toList with
    | some vs => match P.built t vs with
      | some cells => K (.val (.agg cells))
      | none => False
    | none => False
  | .convert src dst x => match P.underlying src, P.underlying dst, f x with
    | some (.int _), some (.int k), .val (.int k₀ n) => match k₀ with
      | .u8 => InK k n ∧ K (.val (.int k n))
      | _ => K (.val (.int k (k.wrap n)))
    | some .string, some .string, .val (.string s) => K (.val (.string s))
    | _, _, _ => False
  | .makeInterface t x => match f x with
    | .val v => match P.concrete t with
      | true => K (.val (.iface t v))
      | false => False
    | _ => False
  | .makeFunc fn first caps => match valsOf f first.toList, valsOf f caps.toList with
    | some vs, some cs => K (.val (.func fn vs.toArray cs.toArray))
    | _, _ => False
  | .slice t x lo hi mx => vSlice P f t x lo hi mx K
  | .fieldAddr t x i => match P.underlying t with
    | some (.struct fields) => match fields.toList[i]? with
      | some fd => match P.info? fd.type with
        | some ti => match ti.size with
          | 0 => False
          | _ + 1 => match f x with
            | .box b o => K (.box b (o + fd.offset))
            | .val (.pointer (some a)) => K (.val (.pointer (some (a.add fd.offset))))
            | _ => False
        | none => False
      | none => False
    | _ => False
  | .field t x i => match P.underlying t, f x with
    | some (.struct fields), .val (.agg cs) => match fields.toList[i]? with
      | some fd => match P.info? fd.type, P.underlying fd.type with
        | some ti, some d => match d with
          | .struct _ => K (.val (.agg ((cs.toList.drop fd.offset).take ti.size).toArray))
          | .array _ _ => K (.val (.agg ((cs.toList.drop fd.offset).take ti.size).toArray))
          | _ => match cs.toList[fd.offset]? with
            | some v => K (.val v)
            | none => False
        | _, _ => False
      | none => False
    | _, _ => False
  | .indexAddr t x i => match P.underlying t with
    | some (.slice e) => match P.info? e with
      | some ie => match f x, intOf? (f i) with
        | .val (.slice a len _), some n => 0 ≤ n ∧ n < len ∧ ∃ ad, a = some ad ∧ K (.val (.pointer (some (ad.add (n.toNat * ie.size)))))
        | _, _ => False
      | none => False
    | _ => False
  | .index t x i => match P.underlying t with
    | some .string => match f x, intOf? (f i) with
      | .val (.string s), some n => 0 ≤ n ∧ n < s.data.toList.length ∧ K (.val (.int .u8 (byteAt s.data.toList n.toNat)))
      | _, _ => False
    | _ => False
  | .extract x i => match f x with
    | .val (.tuple vs) => match vs.toList[i]? with
      | some v => K (.val v)
      | none => False
    | _ => False
  | .call c => vCallT P f c K
  | _ => False

/-- Is it one of these? (By its look alone; a load or a store is another thing.) -/
def isT : Op → Bool
  | .move _ | .assign _ | .pick .. | .nilCheck _ | .binOp .. | .unOp .. | .build .. | .makeInterface .. | .makeFunc .. | .slice ..
  | .fieldAddr .. | .field .. | .indexAddr .. | .index .. | .extract .. => true
  | .convert .. => true
  | .call { callee := .builtin .len, .. } | .call { callee := .builtin .max, .. } | .call { callee := .builtin .min, .. } => true
  | _ => false
end Go.Vc

/- The operations that hang on no world: soundness. -/
namespace Go.Vc
open Go

def SVok (bl : Nat → Option Nat) : SV → Value → Prop
  | .val u, v => v = u
  | .box base off, v => ∃ b, bl base = some b ∧ v = .pointer (some ⟨b, off, none⟩)
  | .row base len, v => ∃ b, bl base = some b ∧ v = .slice (some ⟨b, 0, none⟩) len len
  | .junk, _ => True

section
variable {P : Program} {bl : Nat → Option Nat} {f : Operand → SV} {ρ : Operand → Value}

theorem valsOf_ok (hf : ∀ x, SVok bl (f x) (ρ x)) : ∀ (l : List Operand) vs, valsOf f l = some vs → l.map ρ = vs
  | [], vs, h => by simp [valsOf] at h; subst h; rfl
  | x :: r, vs, h => by
    simp only [valsOf] at h
    have hx := hf x
    cases hfx : f x with
    | val v =>
      rw [hfx] at h hx
      cases hr : valsOf f r with
      | none => simp [hr] at h
      | some ws =>
        simp only [hr, Option.some.injEq] at h
        subst h
        simp only [SVok] at hx
        simp [hx, valsOf_ok hf r ws hr]
    | box => simp [hfx] at h
    | row => simp [hfx] at h
    | junk => simp [hfx] at h

theorem partsOf_ok (hf : ∀ x, SVok bl (f x) (ρ x)) : ∀ (l : List (Nat × Operand)) vs, partsOf f l = some vs → l.map (fun (i, x) => (i, ρ x)) = vs
  | [], vs, h => by simp [partsOf] at h; subst h; rfl
  | (i, x) :: r, vs, h => by
    simp only [partsOf] at h
    have hx := hf x
    cases hfx : f x with
    | val v =>
      rw [hfx] at h hx
      cases hr : partsOf f r with
      | none => simp [hr] at h
      | some ws =>
        simp only [hr, Option.some.injEq] at h
        subst h
        simp only [SVok] at hx
        simp [hx, partsOf_ok hf r ws hr]
    | box => simp [hfx] at h
    | row => simp [hfx] at h
    | junk => simp [hfx] at h

theorem intOf?_ok {sv : SV} {v : Value} {n : Int} (h : intOf? sv = some n) (hv : SVok bl sv v) : ∃ k, v = .int k n := by
  cases sv with
  | val u =>
    simp only [SVok] at hv
    subst hv
    cases v <;> simp [intOf?] at h
    subst h
    exact ⟨_, rfl⟩
  | box => simp [intOf?] at h
  | row => simp [intOf?] at h
  | junk => simp [intOf?] at h

theorem wrap_in {z : Int} (h : InI64 z) : IntKind.i64.wrap z = z := by
  obtain ⟨h1, h2⟩ := h
  exact IntWalk.i64_in _ (by omega)

theorem vArith_ok {k : IntKind} {z : Int} {K : SV → Prop} (h : vArith k z K) : K (.val (.int k (k.wrap z))) := by
  unfold vArith at h
  split at h
  · rw [wrap_in h.1]; exact h.2
  · exact h


theorem InK_wrap {k : IntKind} {n : Int} (h : InK k n) : k.wrap n = n := by
  obtain ⟨h1, h2⟩ := h
  cases k <;> simp [IntKind.min, IntKind.max, IntKind.wrap, IntKind.bits, IntKind.signed] at * <;> omega

/-- What an operation of this kind comes to. -/
def RunsT (P : Program) (bl : Nat → Option Nat) (ρ : Operand → Value) (op : Op) (K : SV → Prop) : Prop :=
  ∃ sv v, K sv ∧ SVok bl sv v ∧ ∀ o : Oper, o.op = op → ∀ w, (execOp ρ o).run P w = .ok (.value v) w

theorem RunsT.mk {op : Op} {K : SV → Prop} {sv : SV} {v : Value} (hK : K sv) (hv : SVok bl sv v) {s : Sem Value}
    (he : ∀ o : Oper, o.op = op → execOp ρ o = (do pure (.value (← s)) : Sem Next)) (hs : ∀ w, s.run P w = .ok v w) : RunsT P bl ρ op K :=
  ⟨sv, v, hK, hv, fun o ho w => by rw [he o ho]; simp [hs w]⟩

theorem run_eqGuard_int (op : BinOp) (t : TypeId) (x y : Operand) (k k' : IntKind) (a b : Int) (w : World) : (eqGuard op t x y (.int k a) (.int k' b)).run P w = .ok () w := by
  unfold eqGuard; split <;> simp
theorem run_eqGuard_string (op : BinOp) (t : TypeId) (x y : Operand) (a b : ByteArray) (w : World) : (eqGuard op t x y (.string a) (.string b)).run P w = .ok () w := by
  unfold eqGuard; split <;> simp
theorem run_eqGuard_bool (op : BinOp) (t : TypeId) (x y : Operand) (a b : Bool) (w : World) : (eqGuard op t x y (.bool a) (.bool b)).run P w = .ok () w := by
  unfold eqGuard; split <;> simp
theorem run_eqGuard_slice (op : BinOp) (t : TypeId) (x y : Operand) (a b : Option Addr) (l c l' c' : Nat) (w : World) : (eqGuard op t x y (.slice a l c) (.slice b l' c')).run P w = .ok () w := by
  unfold eqGuard; split <;> simp

theorem run_equalIn_bool {t : TypeId} (hu : P.underlying t = some .bool) (d : Nat) (a b : Bool) (w : World) : (Op.equalIn (d + 1) t (.bool a) (.bool b)).run P w = .ok (a == b) w := by
  simp [Op.equalIn, run_underlying hu]
theorem run_equalIn_slice {t e : TypeId} (hu : P.underlying t = some (.slice e)) (d : Nat) (a : Option Addr) (l c l' c' : Nat) (w : World) :
    (Op.equalIn (d + 1) t (.slice a l c) (.slice none l' c')).run P w = .ok a.isNone w := by
  cases a <;> simp [Op.equalIn, run_underlying hu]
theorem run_eqlB {t : TypeId} {u v : Value} {r : Bool} (hb : binOp .eql t u v = (do pure (.bool (← Op.equal t u v)) : Sem Value))
    (h : ∀ d w, (Op.equalIn (d + 1) t u v).run P w = .ok r w) (w : World) : (binOp .eql t u v).run P w = .ok (.bool r) w := by
  have := h 9999 w
  rw [hb]
  show ((do pure (.bool (← Op.equalIn (9999 + 1) t u v)) : Sem Value)).run P w = _
  rw [Sem.run_bind, this]
  rfl
theorem run_neqB {t : TypeId} {u v : Value} {r : Bool} (hb : binOp .neq t u v = (do pure (.bool (!(← Op.equal t u v))) : Sem Value))
    (h : ∀ d w, (Op.equalIn (d + 1) t u v).run P w = .ok r w) (w : World) : (binOp .neq t u v).run P w = .ok (.bool (!r)) w := by
  have := h 9999 w
  rw [hb]
  show ((do pure (.bool (!(← Op.equalIn (9999 + 1) t u v))) : Sem Value)).run P w = _
  rw [Sem.run_bind, this]
  rfl

theorem list_beq (a b : List UInt8) : (a == b) = decide (a = b) := by rw [Bool.eq_iff_iff]; simp

theorem vBin_ok {o : BinOp} {t : TypeId} {u v : Value} {K : SV → Prop} (h : vBin P o t u v K) :
    ∃ r : Value, K (.val r) ∧ ∀ (x y : Operand) w, (do eqGuard o t x y u v; binOp o t u v : Sem Value).run P w = .ok r w := by
  unfold vBin at h
  split at h
  · rename_i k a k' b
    split at h
    · rename_i hk
      subst hk
      split at h
      · exact ⟨_, vArith_ok h, fun x y w => by simp [run_eqGuard_int, binOp, Op.intArith]⟩
      · exact ⟨_, vArith_ok h, fun x y w => by simp [run_eqGuard_int, binOp, Op.intArith]⟩
      · exact ⟨_, vArith_ok h, fun x y w => by simp [run_eqGuard_int, binOp, Op.intArith]⟩
      · exact ⟨_, h, fun x y w => by simp only [Sem.run_bind, run_eqGuard_int, Result.andThen_ok, binOp_eql]; rfl⟩
      · exact ⟨_, h, fun x y w => by simp only [Sem.run_bind, run_eqGuard_int, Result.andThen_ok, binOp_neq]; rfl⟩
      · exact ⟨_, h, fun x y w => by simp only [Sem.run_bind, run_eqGuard_int, Result.andThen_ok, binOp_lss]; rfl⟩
      · exact ⟨_, h, fun x y w => by simp only [Sem.run_bind, run_eqGuard_int, Result.andThen_ok, binOp_leq]; rfl⟩
      · exact ⟨_, h, fun x y w => by simp only [Sem.run_bind, run_eqGuard_int, Result.andThen_ok, binOp_gtr]; rfl⟩
      · exact ⟨_, h, fun x y w => by simp only [Sem.run_bind, run_eqGuard_int, Result.andThen_ok, binOp_geq]; rfl⟩
      · obtain ⟨r, h1, h2⟩ := h
        exact ⟨_, h2, fun x y w => by simp [run_eqGuard_int, h1 w]⟩
    · exact h.elim
  · rename_i a b
    split at h
    · obtain ⟨h1, h2⟩ := h
      refine ⟨_, h2, fun x y w => ?_⟩
      have e : a ++ b = bs (a.data.toList ++ b.data.toList) := by
        apply ByteArray.ext
        apply Array.ext'
        simp [bs, ByteArray.data_append]
      have hs : ¬ ((a.size + b.size : Nat) : Int) > IntKind.i64.max := by
        have : a.size = a.data.toList.length := rfl
        have : b.size = b.data.toList.length := rfl
        simp only [IntKind.max, IntKind.signed, IntKind.bits]
        simp
        omega
      simp only [Sem.run_bind, run_eqGuard_string, Result.andThen_ok, binOp, Op.stringOp, if_neg hs, Sem.run_pure, e]
    · refine ⟨_, h, fun x y w => ?_⟩
      simp only [Sem.run_bind, run_eqGuard_string, Result.andThen_ok, binOp, Op.stringOp, ByteArray.toList_eq, Sem.run_pure, list_beq]
    · refine ⟨_, h, fun x y w => ?_⟩
      simp only [Sem.run_bind, run_eqGuard_string, Result.andThen_ok, binOp, Op.stringOp, ByteArray.toList_eq, Sem.run_pure, list_beq]
    · exact ⟨_, h, fun x y w => by simp [run_eqGuard_string, binOp, Op.stringOp, ByteArray.toList_eq]⟩
    · exact h.elim
  · rename_i a b
    split at h
    · rename_i hu
      split at h
      · exact ⟨_, h, fun x y w => by rw [Sem.run_bind, run_eqGuard_bool, Result.andThen_ok, run_eqlB rfl (fun d w => run_equalIn_bool hu d a b w)]⟩
      · exact ⟨_, h, fun x y w => by rw [Sem.run_bind, run_eqGuard_bool, Result.andThen_ok, run_neqB rfl (fun d w => run_equalIn_bool hu d a b w)]⟩
      · exact h.elim
    · exact h.elim
  · rename_i a l c l' c'
    split at h
    · rename_i e hu
      split at h
      · exact ⟨_, h, fun x y w => by rw [Sem.run_bind, run_eqGuard_slice, Result.andThen_ok, run_eqlB rfl (fun d w => run_equalIn_slice hu d a l c l' c' w)]⟩
      · exact ⟨_, h, fun x y w => by rw [Sem.run_bind, run_eqGuard_slice, Result.andThen_ok, run_neqB rfl (fun d w => run_equalIn_slice hu d a l c l' c' w)]⟩
      · exact h.elim
    · exact h.elim
  · exact h.elim


theorem bs_extract (s : ByteArray) (l h : Nat) : s.extract l h = bs ((s.data.toList.take h).drop l) := by
  apply ByteArray.ext
  apply Array.ext'
  simp only [bs, ByteArray.data_extract, Array.toList_extract, List.extract]
  rw [List.drop_take]
theorem size_toList (s : ByteArray) : s.data.toList.length = s.size := rfl

theorem elem_of {t e : TypeId} (hu : P.underlying t = some (.slice e)) : P.underlying t = some (.slice (P.elem t)) ∧ P.elem t = e := by
  simp [Program.elem, hu]

theorem cutA_zero (a : Option Addr) (m sz : Nat) : cutA a 0 m sz = a := by
  unfold cutA
  split
  · rfl
  · cases a <;> simp [Addr.add]

theorem run_sizeOf {e : TypeId} {ie : TypeInfo} (hi : P.info? e = some ie) (w : World) : (sizeOf e).run P w = .ok ie.size w := by
  simp [sizeOf, typeInfo, hi]

theorem vSlice_ok (hf : ∀ x, SVok bl (f x) (ρ x)) {t : TypeId} {x : Operand} {lo hi mx : Option Operand} {K : SV → Prop} (h : vSlice P f t x lo hi mx K) :
    ∃ r : Value, K (.val r) ∧ ∀ w, (Instr.sliceAt t (ρ x) (lo.map ρ) (hi.map ρ) (mx.map ρ)).run P w = .ok r w := by
  have hx := hf x
  unfold vSlice at h
  split at h
  · rename_i s hfx
    rw [hfx] at hx
    simp only [SVok] at hx
    split at h
    · rename_i hu
      split at h
      · rename_i lo
        split at h
        · rename_i l hl
          obtain ⟨kl, hkl⟩ := intOf?_ok hl (hf lo)
          obtain ⟨h1, h2, hK⟩ := h
          refine ⟨_, hK, fun w => ?_⟩
          have e := bs_extract s l.toNat s.size
          rw [List.take_of_length_le (by rw [size_toList]; exact Nat.le_refl _)] at e
          rw [size_toList] at h2
          simp [run_sliceAt_string _ _ _ _ _ _ hu, hx, hkl, Instr.slice, run_underlying hu, Instr.sliceBounds, run_sliceBound, h1, h2, e]
        · exact h.elim
      · rename_i hi
        split at h
        · rename_i l hl
          obtain ⟨kl, hkl⟩ := intOf?_ok hl (hf hi)
          obtain ⟨h1, h2, hK⟩ := h
          refine ⟨_, hK, fun w => ?_⟩
          have e := bs_extract s 0 l.toNat
          rw [List.drop_zero] at e
          rw [size_toList] at h2
          simp [run_sliceAt_string _ _ _ _ _ _ hu, hx, hkl, Instr.slice, run_underlying hu, Instr.sliceBounds, run_sliceBound, h1, h2, e]
        · exact h.elim
      · rename_i lo hi
        split at h
        · rename_i l hh hl hhh
          obtain ⟨kl, hkl⟩ := intOf?_ok hl (hf lo)
          obtain ⟨kh, hkh⟩ := intOf?_ok hhh (hf hi)
          obtain ⟨h1, h2, h3, hK⟩ := h
          refine ⟨_, hK, fun w => ?_⟩
          have e := bs_extract s l.toNat hh.toNat
          rw [size_toList] at h3
          have eh : (hh.toNat : Int) = hh := Int.toNat_of_nonneg (by omega)
          have h0 : 0 ≤ hh := by omega
          simp [run_sliceAt_string _ _ _ _ _ _ hu, hx, hkl, hkh, Instr.slice, run_underlying hu, Instr.sliceBounds, run_sliceBound, h1, h2, h3, h0, eh, e]
        · exact h.elim
      · exact h.elim
    · exact h.elim
  · rename_i a len cap hfx
    rw [hfx] at hx
    simp only [SVok] at hx
    split at h
    · rename_i e hu
      obtain ⟨hu', he⟩ := elem_of hu
      split at h
      · rename_i ie hie
        have hsz := fun w => run_sizeOf (P := P) hie w
        split at h
        · rename_i lo
          split at h
          · rename_i l hl
            obtain ⟨kl, hkl⟩ := intOf?_ok hl (hf lo)
            obtain ⟨h1, h2, hK⟩ := h
            refine ⟨_, hK, fun w => ?_⟩
            simp [run_sliceAt_slice _ _ _ _ _ _ hu', hx, hkl, Instr.slice, run_underlying hu, Instr.sliceBounds, run_sliceBound, h1, h2, hsz, cutA]
          · exact h.elim
        · rename_i hi
          split at h
          · rename_i l hl
            obtain ⟨kl, hkl⟩ := intOf?_ok hl (hf hi)
            obtain ⟨h1, h2, hK⟩ := h
            refine ⟨_, hK, fun w => ?_⟩
            have ez := cutA_zero a cap ie.size
            simp only [cutA] at ez
            simp [run_sliceAt_slice _ _ _ _ _ _ hu', hx, hkl, Instr.slice, run_underlying hu, Instr.sliceBounds, run_sliceBound, h1, h2, hsz]
            simpa using ez
          · exact h.elim
        · rename_i lo hi
          split at h
          · rename_i l hh hl hhh
            obtain ⟨kl, hkl⟩ := intOf?_ok hl (hf lo)
            obtain ⟨kh, hkh⟩ := intOf?_ok hhh (hf hi)
            obtain ⟨h1, h2, h3, hK⟩ := h
            refine ⟨_, hK, fun w => ?_⟩
            have eh : (hh.toNat : Int) = hh := Int.toNat_of_nonneg (by omega)
            have h0 : 0 ≤ hh := by omega
            simp [run_sliceAt_slice _ _ _ _ _ _ hu', hx, hkl, hkh, Instr.slice, run_underlying hu, Instr.sliceBounds, run_sliceBound, h1, h2, h3, h0, eh, hsz, cutA]
          · exact h.elim
        · rename_i hi mx
          split at h
          · rename_i hh m hl hm
            obtain ⟨kh, hkh⟩ := intOf?_ok hl (hf hi)
            obtain ⟨km, hkm⟩ := intOf?_ok hm (hf mx)
            obtain ⟨h1, h2, h3, hK⟩ := h
            refine ⟨_, hK, fun w => ?_⟩
            have em : (m.toNat : Int) = m := Int.toNat_of_nonneg (by omega)
            have h0 : 0 ≤ m := by omega
            have ez := cutA_zero a m.toNat ie.size
            simp only [cutA] at ez
            simp [run_sliceAt_slice _ _ _ _ _ _ hu', hx, hkh, hkm, Instr.slice, run_underlying hu, Instr.sliceBounds, run_sliceBound, h1, h2, h3, h0, em, hsz]
            simpa using ez
          · exact h.elim
        · exact h.elim
      · exact h.elim
    · exact h.elim
  · exact h.elim


theorem args_one {c : Call} {x : Operand} (h : c.args.toList = [x]) : c.args = #[x] := by
  apply Array.ext'; simpa using h
theorem args_two {c : Call} {x y : Operand} (h : c.args.toList = [x, y]) : c.args = #[x, y] := by
  apply Array.ext'; simpa using h

theorem vCallT_ok (hf : ∀ x, SVok bl (f x) (ρ x)) {c : Call} {K : SV → Prop} (h : vCallT P f c K) : RunsT P bl ρ (.call c) K := by
  unfold vCallT at h
  split at h
  · rename_i hc
    split at h
    · rename_i x t hx ht
      have hxs := hf x
      have e1 := args_one hx
      have e2 : c.argTypes = #[t] := by apply Array.ext'; simpa using ht
      split at h
      · rename_i s hu hfx
        rw [hfx] at hxs
        simp only [SVok] at hxs
        refine ⟨_, _, h, rfl, fun o ho w => ?_⟩
        simp [execOp, ho, resolve, hc, e1, e2, invoke, builtin, Builtin.len_, hxs, run_underlying hu, goInt]
      · rename_i e a n cap hu hfx
        rw [hfx] at hxs
        simp only [SVok] at hxs
        refine ⟨_, _, h, rfl, fun o ho w => ?_⟩
        simp [execOp, ho, resolve, hc, e1, e2, invoke, builtin, Builtin.len_, hxs, run_underlying hu, goInt]
      · rename_i e a n hu hfx
        rw [hfx] at hxs
        simp only [SVok] at hxs
        obtain ⟨b, _, hxs⟩ := hxs
        refine ⟨_, _, h, rfl, fun o ho w => ?_⟩
        simp [execOp, ho, resolve, hc, e1, e2, invoke, builtin, Builtin.len_, hxs, run_underlying hu, goInt]
      · exact h.elim
    · exact h.elim
  · rename_i hc
    split at h
    · rename_i x y hx
      have hxs := hf x
      have hys := hf y
      have e1 := args_two hx
      split at h
      · rename_i k a k' b hfx hfy
        rw [hfx] at hxs
        rw [hfy] at hys
        simp only [SVok] at hxs hys
        refine ⟨_, _, h, rfl, fun o ho w => ?_⟩
        simp [execOp, ho, resolve, hc, e1, invoke, builtin, Builtin.max_, Builtin.max2, hxs, hys, imax]
      · exact h.elim
    · exact h.elim
  · rename_i hc
    split at h
    · rename_i x y hx
      have hxs := hf x
      have hys := hf y
      have e1 := args_two hx
      split at h
      · rename_i k a k' b hfx hfy
        rw [hfx] at hxs
        rw [hfy] at hys
        simp only [SVok] at hxs hys
        refine ⟨_, _, h, rfl, fun o ho w => ?_⟩
        simp [execOp, ho, resolve, hc, e1, invoke, builtin, Builtin.min_, Builtin.min2, hxs, hys, imin]
      · exact h.elim
    · exact h.elim
  · exact h.elim

theorem addr_add (b off n : Nat) : (⟨b, off, none⟩ : Addr).add n = ⟨b, off + n, none⟩ := by
  unfold Addr.add
  split
  · rename_i h; subst h; rfl
  · rfl

theorem vT_ok (hf : ∀ x, SVok bl (f x) (ρ x)) {op : Op} {K : SV → Prop} (h : vT P f op K) : RunsT P bl ρ op K := by
  unfold vT at h
  split at h
  · rename_i x
    exact ⟨_, _, h, hf x, fun o ho w => by simp [execOp, ho]⟩
  · rename_i x
    exact ⟨_, _, h, hf x, fun o ho w => by simp [execOp, ho]⟩
  · rename_i c a b
    split at h
    · rename_i t hc
      have hcs := hf c
      rw [hc] at hcs
      simp only [SVok] at hcs
      cases t
      · exact ⟨_, _, h, hf b, fun o ho w => by simp [execOp, ho, hcs, asBool]⟩
      · exact ⟨_, _, h, hf a, fun o ho w => by simp [execOp, ho, hcs, asBool]⟩
    · exact h.elim
  · rename_i x
    have hx := hf x
    split at h
    · rename_i b off hb
      rw [hb] at hx
      obtain ⟨g, hg, hx'⟩ := hx
      exact ⟨_, _, h, ⟨g, hg, rfl⟩, fun o ho w => by simp [execOp, ho, hx']⟩
    · rename_i a hb
      rw [hb] at hx
      simp only [SVok] at hx
      exact ⟨_, _, h, rfl, fun o ho w => by simp [execOp, ho, hx]⟩
    · exact h.elim
  · rename_i o' t x y yt
    have hx := hf x
    have hy := hf y
    split at h
    · rename_i u v hu hv
      rw [hu] at hx
      rw [hv] at hy
      simp only [SVok] at hx hy
      obtain ⟨r, hK, hr⟩ := vBin_ok h
      refine RunsT.mk hK rfl (s := do eqGuard o' t x y u v; binOp o' t u v) (fun o ho => by simp only [execOp, ho, hx, hy]) (hr x y)
    · exact h.elim
  · rename_i o' t x
    have hx := hf x
    split at h
    · rename_i b hb
      rw [hb] at hx
      simp only [SVok] at hx
      exact ⟨_, _, h, rfl, fun o ho w => by simp [execOp, ho, hx, Op.unary]⟩
    · rename_i k n hb
      rw [hb] at hx
      simp only [SVok] at hx
      exact ⟨_, _, vArith_ok h, rfl, fun o ho w => by simp [execOp, ho, hx, Op.unary, Op.intArith]⟩
    · exact h.elim
  · rename_i t parts
    split at h
    · rename_i vs hvs
      have e := partsOf_ok hf _ _ hvs
      split at h
      · rename_i cells hc
        refine RunsT.mk h rfl (s := Instr.build t (parts.map fun (i, x) => (i, ρ x))) (fun o ho => by simp only [execOp, ho]) (fun w => run_build w t _ cells ?_)
        rw [Array.toList_map, e]
        exact hc
      · exact h.elim
    · exact h.elim
  · rename_i src dst x
    have hx := hf x
    split at h
    · rename_i k k' k'' n hs hd hfx
      rw [hfx] at hx
      simp only [SVok] at hx
      split at h
      · obtain ⟨h1, h2⟩ := h
        refine RunsT.mk h2 rfl (s := convert src dst (ρ x)) (fun o ho => by simp only [execOp, ho]) (fun w => ?_)
        rw [hx]
        simp [convert, run_underlying hs, run_underlying hd, Conv.intToInt, InK_wrap h1]
      · refine RunsT.mk h rfl (s := convert src dst (ρ x)) (fun o ho => by simp only [execOp, ho]) (fun w => ?_)
        rw [hx]
        simp [convert, run_underlying hs, run_underlying hd, Conv.intToInt]
    · rename_i s hs hd hfx
      rw [hfx] at hx
      simp only [SVok] at hx
      refine RunsT.mk h rfl (s := convert src dst (ρ x)) (fun o ho => by simp only [execOp, ho]) (fun w => ?_)
      rw [hx]
      simp [convert, run_underlying hs, run_underlying hd]
    · exact h.elim
  · rename_i t x
    have hx := hf x
    split at h
    · rename_i v hv
      rw [hv] at hx
      simp only [SVok] at hx
      split at h
      · rename_i hc
        exact RunsT.mk h rfl (s := Instr.makeInterface t (ρ x)) (fun o ho => by simp only [execOp, ho]) (fun w => by rw [hx]; exact run_makeInterface w t v hc)
      · exact h.elim
    · exact h.elim
  · rename_i fn first caps
    split at h
    · rename_i vs cs hvs hcs
      have e1 := valsOf_ok hf _ _ hvs
      have e2 := valsOf_ok hf _ _ hcs
      refine RunsT.mk h rfl (s := Instr.makeFunc fn (first.map ρ) (caps.map ρ)) (fun o ho => by simp only [execOp, ho]) (fun w => ?_)
      have e1' : first.map ρ = vs.toArray := by apply Array.ext'; simp [e1]
      have e2' : caps.map ρ = cs.toArray := by apply Array.ext'; simp [e2]
      rw [e1', e2']
      rfl
    · exact h.elim
  · rename_i t x lo hi mx
    obtain ⟨r, hK, hr⟩ := vSlice_ok hf h
    exact RunsT.mk hK rfl (s := Instr.sliceAt t (ρ x) (lo.map ρ) (hi.map ρ) (mx.map ρ)) (fun o ho => by simp only [execOp, ho]) hr
  · rename_i t x i
    have hx := hf x
    split at h
    · rename_i fields hu
      split at h
      · rename_i fd hfd
        have hfd' : fields[i]? = some fd := by simpa using hfd
        split at h
        · rename_i ti hti
          split at h
          · exact h.elim
          · rename_i n hn
            have hsz := fun w => run_sizeOf (P := P) hti w
            have hne : ¬ (ti.size = 0) := by rw [hn]; omega
            split at h
            · rename_i b off hb
              rw [hb] at hx
              obtain ⟨g, hg, hx'⟩ := hx
              refine RunsT.mk h (v := .pointer (some ⟨g, off + fd.offset, none⟩)) ⟨g, hg, rfl⟩ (s := Instr.fieldAt t (ρ x) i) (fun o ho => by simp only [execOp, ho]) (fun w => ?_)
              rw [hx']
              simp [Instr.fieldAt, run_underlying hu, hfd', Instr.sureAddr, fieldPlace, hsz, hne, addr_add]
            · rename_i a hb
              rw [hb] at hx
              simp only [SVok] at hx
              refine RunsT.mk h rfl (s := Instr.fieldAt t (ρ x) i) (fun o ho => by simp only [execOp, ho]) (fun w => ?_)
              rw [hx]
              simp [Instr.fieldAt, run_underlying hu, hfd', Instr.sureAddr, fieldPlace, hsz, hne]
            · exact h.elim
        · exact h.elim
      · exact h.elim
    · exact h.elim
  · rename_i t x i
    have hx := hf x
    split at h
    · rename_i fields cs hu hfx
      rw [hfx] at hx
      simp only [SVok] at hx
      split at h
      · rename_i fd hfd
        have hfd' : fields[i]? = some fd := by simpa using hfd
        split at h
        · rename_i ti d hti hd
          have hsz := fun w => run_sizeOf (P := P) hti w
          have hagg : ∀ w, (part fd.type cs fd.offset).run P w = ((if (match d with | .struct _ | .array _ _ => true | _ => false) then Result.ok (.agg (cs.extract fd.offset (fd.offset + ti.size))) w
              else match cs[fd.offset]? with | some v => .ok v w | none => .halt (.stuck "part: no such cell") w) : Result Value) := by
            intro w
            cases d <;> simp [part, isAgg, run_underlying hd, hsz] <;> (cases cs[fd.offset]? <;> simp)
          have eagg : cs.extract fd.offset (fd.offset + ti.size) = ((cs.toList.drop fd.offset).take ti.size).toArray := by
            apply Array.ext'
            simp [Array.toList_extract, List.extract]
          refine (?_ : RunsT P bl ρ _ K)
          split at h
          · refine RunsT.mk h rfl (s := Instr.field t (ρ x) i) (fun o ho => by simp only [execOp, ho]) (fun w => ?_)
            rw [hx]
            simp [Instr.field, run_underlying hu, hfd', asAgg, hagg, eagg]
          · refine RunsT.mk h rfl (s := Instr.field t (ρ x) i) (fun o ho => by simp only [execOp, ho]) (fun w => ?_)
            rw [hx]
            simp [Instr.field, run_underlying hu, hfd', asAgg, hagg, eagg]
          · rename_i hn1 hn2
            split at h
            · rename_i v hv
              have hv' : cs[fd.offset]? = some v := by simpa using hv
              refine RunsT.mk h rfl (s := Instr.field t (ρ x) i) (fun o ho => by simp only [execOp, ho]) (fun w => ?_)
              rw [hx]
              have := hagg w
              cases d <;> first
                | (exact absurd rfl (hn1 _))
                | (exact absurd rfl (hn2 _ _))
                | simp [Instr.field, run_underlying hu, hfd', asAgg, hagg, hv']
            · exact h.elim
        · exact h.elim
      · exact h.elim
    · exact h.elim
  · rename_i t x i
    have hx := hf x
    split at h
    · rename_i e hu
      obtain ⟨hu', he⟩ := elem_of hu
      split at h
      · rename_i ie hie
        have hsz := fun w => run_sizeOf (P := P) hie w
        split at h
        · rename_i a len cap n hfx hn
          rw [hfx] at hx
          simp only [SVok] at hx
          obtain ⟨k, hk⟩ := intOf?_ok hn (hf i)
          obtain ⟨h1, h2, ad, rfl, hK⟩ := h
          refine RunsT.mk hK rfl (s := Instr.indexAt t (ρ x) (ρ i)) (fun o ho => by simp only [execOp, ho]) (fun w => ?_)
          rw [hx, hk, run_indexAt_slice w t ad len cap k n hu', if_pos ⟨h1, h2⟩, he, hsz w]
          rfl
        · exact h.elim
      · exact h.elim
    · exact h.elim
  · rename_i t x i
    have hx := hf x
    split at h
    · rename_i hu
      split at h
      · rename_i s n hfx hn
        rw [hfx] at hx
        simp only [SVok] at hx
        obtain ⟨k, hk⟩ := intOf?_ok hn (hf i)
        obtain ⟨h1, h2, hK⟩ := h
        refine RunsT.mk hK rfl (s := Instr.index t (ρ x) (ρ i)) (fun o ho => by simp only [execOp, ho]) (fun w => ?_)
        rw [hx, hk]
        have hlt : n.toNat < s.size := by rw [← size_toList]; omega
        have hb : s[n.toNat]? = some (s.data.toList.getD n.toNat 0) := by
          rw [getElem?_pos s n.toNat hlt]
          congr 1
          show s.data[n.toNat] = _
          have hd : n.toNat < s.data.size := hlt
          have hg : s.data[n.toNat]? = some s.data[n.toNat] := getElem?_pos s.data n.toNat hd
          simp [List.getD, hg]
        simp [Instr.index, run_underlying hu, asIntOf, h1, hb, byteAt]
      · exact h.elim
    · exact h.elim
  · rename_i x i
    have hx := hf x
    split at h
    · rename_i vs hfx
      rw [hfx] at hx
      simp only [SVok] at hx
      split at h
      · rename_i v hv
        have hv' : vs[i]? = some v := by simpa using hv
        refine RunsT.mk h rfl (s := Instr.extract (ρ x) i) (fun o ho => by simp only [execOp, ho]) (fun w => ?_)
        rw [hx]
        simp [Instr.extract, hv']
      · exact h.elim
    · exact h.elim
  · rename_i c
    exact vCallT_ok hf h
  · exact h.elim

end
end Go.Vc

/- How a symbolic state stands to the model's: the relation, and how steps keep it. -/
namespace Go.Vc
open Go

def blM (M : List Box) (base : Nat) : Option Nat := (findBox M base).map (·.block)

structure BoxOk (E : Env) (M : List Box) (w : World) (x : Box) : Prop where
  ok : ∃ cells : Array Value, w.heap[x.block]? = some (.cells cells x.elem (0, 0)) ∧ cells.size = x.size ∧
    ∀ j, j < x.size → SVok (blM M) (look E (x.base + j)) (cells.getD j undef)

/-- The boxes' pseudo-slots are apart from the slots and from each other. -/
def apart : Nat → List Box → Prop
  | _, [] => True
  | N, x :: r => N ≤ x.base ∧ (∀ y ∈ r, x.base + x.size ≤ y.base ∨ y.base + y.size ≤ x.base) ∧ (∀ y ∈ r, x.base ≠ y.base) ∧ (∀ y ∈ r, x.block ≠ y.block) ∧ apart N r

structure RelC (N : Nat) (E : Env) (M : List Box) (a : Act) (w : World) : Prop where
  size : a.tmps.size = N
  slots : ∀ i, i < N → SVok (blM M) (look E i) (a.tmps.getD i undef)
  boxes : ∀ x, x ∈ M → BoxOk E M w x
  apart : apart N M

structure Rel (cx : Cx) (st : St) (a : Act) (w : World) : Prop where
  core : RelC cx.N (st.env ++ cx.env) (st.bm ++ cx.bm) a w
  defers : a.defers = st.defers ++ cx.dfs
  world : match st.dirty with
    | true => LocB (blocksOf (st.bm ++ cx.bm)) st.w w
    | false => w = st.w

structure RelP (cx : Cx) (st : St) (a : Act) (w : World) : Prop where
  size : a.tmps.size = cx.N
  slots : ∀ i, i < cx.N → SVok (blM (st.bm ++ cx.bm)) (look (st.env ++ cx.env) i) (a.tmps.getD i undef)
  defers : a.defers = st.defers ++ cx.dfs
  clean : st.dirty = false
  world : w = st.w

/-! ## LocB -/

theorem LocB.refl (B : List Nat) (w : World) (h : ∀ b, b ∈ B → b < w.heap.size) : LocB B w w := ⟨rfl, rfl, rfl, Nat.le_refl _, fun _ _ _ => rfl, h⟩

theorem mem_blocksOf {M : List Box} {b : Nat} : b ∈ blocksOf M ↔ ∃ x, x ∈ M ∧ x.block = b := by
  induction M with
  | nil => simp [blocksOf]
  | cons x r ih =>
    simp only [blocksOf, List.mem_cons, ih]
    constructor
    · rintro (rfl | ⟨y, h1, h2⟩)
      · exact ⟨x, .inl rfl, rfl⟩
      · exact ⟨y, .inr h1, h2⟩
    · rintro ⟨y, rfl | h, rfl⟩
      · exact .inl rfl
      · exact .inr ⟨y, h, rfl⟩

theorem heap_lt {w : World} {b : Nat} {o : Obj} (h : w.heap[b]? = some o) : b < w.heap.size := by
  rcases Nat.lt_or_ge b w.heap.size with h' | h'
  · exact h'
  · simp [Array.getElem?_eq_none h'] at h

theorem RelC.block_lt {N : Nat} {E : Env} {M : List Box} {a : Act} {w : World} (h : RelC N E M a w) {x : Box} (hx : x ∈ M) : x.block < w.heap.size := by
  obtain ⟨_, hc, _⟩ := (h.boxes x hx).ok
  exact heap_lt hc

/-- The relation to the visible world, as it is after a flush. -/
theorem Rel.loc {cx : Cx} {st : St} {a : Act} {w : World} (h : Rel cx st a w) : LocB (blocksOf (st.bm ++ cx.bm)) st.w w := by
  have hw := h.world
  cases hd : st.dirty with
  | true => rw [hd] at hw; exact hw
  | false =>
    rw [hd] at hw
    subst hw
    exact LocB.refl _ _ fun b hb => by
      obtain ⟨x, hx, rfl⟩ := mem_blocksOf.1 hb
      exact h.core.block_lt hx

/-- FLUSH. -/
theorem flush_ok {cx : Cx} {st : St} {a : Act} {w : World} {K : St → Prop} (h : flush cx st K) (hR : Rel cx st a w) :
    ∃ st', K st' ∧ Rel cx st' a w ∧ st'.w = w ∧ st'.dirty = false ∧ st'.env = st.env ∧ st'.bm = st.bm ∧ st'.defers = st.defers := by
  unfold flush at h
  have hw := hR.world
  split at h
  · rename_i hd
    rw [hd] at hw
    exact ⟨st, h, hR, hw.symm, hd, rfl, rfl, rfl⟩
  · rename_i hd
    rw [hd] at hw
    exact ⟨_, h w hw, ⟨hR.core, hR.defers, rfl⟩, rfl, rfl, rfl, rfl, rfl⟩

/-! ## look -/

theorem look_cons_same (k : Nat) (v : SV) (r : Env) : look ((k, v) :: r) k = v := by
  have : Nat.beq k k = true := by simp
  simp only [look, this]
theorem look_cons_ne {k i : Nat} (v : SV) (r : Env) (h : k ≠ i) : look ((k, v) :: r) i = look r i := by
  have : Nat.beq k i = false := by
    cases hb : Nat.beq k i with
    | false => rfl
    | true => exact absurd (Nat.eq_of_beq_eq_true hb) h
  simp only [look, this]

/-- Cells at pseudo-slots from a base on. -/
def cellsEnv (base : Nat) : List Value → Env
  | [] => []
  | v :: r => (base, .val v) :: cellsEnv (base + 1) r

theorem look_cellsEnv (vs : List Value) : ∀ (base i : Nat) (r : Env), look (cellsEnv base vs ++ r) i =
    (if base ≤ i ∧ i < base + vs.length then .val (vs.getD (i - base) undef) else look r i) := by
  induction vs with
  | nil => intro base i r; simp only [cellsEnv, List.nil_append, List.length_nil]; rw [if_neg (by omega)]
  | cons v vs ih =>
    intro base i r
    simp only [cellsEnv, List.cons_append]
    by_cases hb : base = i
    · subst hb
      rw [look_cons_same, if_pos (by simp)]
      simp
    · rw [look_cons_ne _ _ hb, ih]
      by_cases h : base + 1 ≤ i ∧ i < base + 1 + vs.length
      · rw [if_pos h, if_pos (by simp; omega)]
        have : i - base = (i - (base + 1)) + 1 := by omega
        rw [this]
        simp
      · rw [if_neg h, if_neg (by simp; omega)]

/-! ## putting -/

theorem put_some (a : Act) (d : Nat) (v : Value) : a.put (some d) v = { a with tmps := a.tmps.setIfInBounds d v } := rfl


theorem getD_set (t : Array Value) (d i : Nat) (v : Value) (hd : d < t.size) : (t.setIfInBounds d v).getD i undef = if d = i then v else t.getD i undef := by
  simp only [Array.getD_eq_getD_getElem?, Array.getElem?_setIfInBounds]
  by_cases h : d = i
  · subst h; simp [hd]
  · simp [h]

theorem apart_base {N : Nat} : ∀ {M : List Box}, apart N M → ∀ x, x ∈ M → N ≤ x.base
  | y :: r, h, x, hx => by
    rcases List.mem_cons.1 hx with rfl | hx'
    · exact h.1
    · exact apart_base h.2.2.2.2 x hx'
theorem apart_two {N : Nat} : ∀ {M : List Box}, apart N M → ∀ x y, x ∈ M → y ∈ M → x = y ∨ (x.block ≠ y.block ∧ x.base ≠ y.base ∧ (x.base + x.size ≤ y.base ∨ y.base + y.size ≤ x.base))
  | z :: r, h, x, y, hx, hy => by
    obtain ⟨_, h1, h2, h3, h4⟩ := h
    rcases List.mem_cons.1 hx with rfl | hx'
    · rcases List.mem_cons.1 hy with rfl | hy'
      · exact .inl rfl
      · exact .inr ⟨h3 y hy', h2 y hy', h1 y hy'⟩
    · rcases List.mem_cons.1 hy with rfl | hy'
      · exact .inr ⟨(h3 x hx').symm, (h2 x hx').symm, (h1 x hx').symm⟩
      · exact apart_two h4 x y hx' hy'

theorem findBox_mem : ∀ {M : List Box} {base : Nat} {x : Box}, findBox M base = some x → x ∈ M ∧ x.base = base
  | y :: r, base, x, h => by
    unfold findBox at h
    split at h
    · rename_i hb
      simp only [Option.some.injEq] at h
      subst h
      exact ⟨List.mem_cons_self, Nat.eq_of_beq_eq_true hb⟩
    · obtain ⟨h1, h2⟩ := findBox_mem h
      exact ⟨List.mem_cons_of_mem _ h1, h2⟩

theorem RelC.putN {N : Nat} {E : Env} {M : List Box} {a : Act} {w : World} (h : RelC N E M a w) {d : Nat} (hd : d < N) {sv : SV} {v : Value} (hv : SVok (blM M) sv v) :
    RelC N ((d, sv) :: E) M (a.put (some d) v) w := by
  refine ⟨by simp [put_some, h.size], fun i hi => ?_, fun x hx => ⟨?_⟩, h.apart⟩
  · rw [put_some]
    simp only
    rw [getD_set _ _ _ _ (by rw [h.size]; exact hd)]
    by_cases hdi : d = i
    · subst hdi; rw [look_cons_same, if_pos rfl]; exact hv
    · rw [look_cons_ne _ _ hdi, if_neg hdi]; exact h.slots i hi
  · obtain ⟨cells, h1, h2, h3⟩ := (h.boxes x hx).ok
    refine ⟨cells, h1, h2, fun j hj => ?_⟩
    have hx' := apart_base h.apart x hx
    rw [look_cons_ne _ _ (by omega)]
    exact h3 j hj

/-- A slot's value, told once more. -/
theorem RelC.tell {N : Nat} {E : Env} {M : List Box} {a : Act} {w : World} (h : RelC N E M a w) {d : Nat} (hd : d < N) {sv : SV} (hv : SVok (blM M) sv (a.tmps.getD d undef)) :
    RelC N ((d, sv) :: E) M a w := by
  refine ⟨h.size, fun i hi => ?_, fun x hx => ⟨?_⟩, h.apart⟩
  · by_cases hdi : d = i
    · subst hdi; rw [look_cons_same]; exact hv
    · rw [look_cons_ne _ _ hdi]; exact h.slots i hi
  · obtain ⟨cells, h1, h2, h3⟩ := (h.boxes x hx).ok
    refine ⟨cells, h1, h2, fun j hj => ?_⟩
    have hx' := apart_base h.apart x hx
    rw [look_cons_ne _ _ (by omega)]
    exact h3 j hj

/-- Another world in which the boxes are as they were. -/
theorem RelC.world {N : Nat} {E : Env} {M : List Box} {a : Act} {w w' : World} (h : RelC N E M a w) (hb : ∀ x, x ∈ M → w'.heap[x.block]? = w.heap[x.block]?) : RelC N E M a w' :=
  ⟨h.size, h.slots, fun x hx => ⟨by rw [hb x hx]; exact (h.boxes x hx).ok⟩, h.apart⟩

/-- An act with the same slots. -/
theorem RelC.act {N : Nat} {E : Env} {M : List Box} {a a' : Act} {w : World} (h : RelC N E M a w) (ht : a'.tmps = a.tmps) : RelC N E M a' w :=
  ⟨by rw [ht]; exact h.size, fun i hi => by rw [ht]; exact h.slots i hi, h.boxes, h.apart⟩

/-! ## cells written -/

theorem setCellsFrom_other (a : Addr) (k : Nat) (hk : k ≠ a.block) : ∀ (vs : List Value) (i : Nat) (w : World), (setCellsFrom w a i vs).heap[k]? = w.heap[k]?
  | [], _, _ => rfl
  | v :: r, i, w => by
    rw [setCellsFrom, setCellsFrom_other a k hk r (i + 1)]
    refine RowKit.Below.heap_setCell _ _ _ _ ?_
    unfold Addr.add
    split <;> exact hk
theorem setCellsFrom_env (a : Addr) : ∀ (vs : List Value) (i : Nat) (w : World), (setCellsFrom w a i vs).os = w.os ∧ (setCellsFrom w a i vs).tape = w.tape ∧ (setCellsFrom w a i vs).output = w.output ∧ (setCellsFrom w a i vs).heap.size = w.heap.size
  | [], _, _ => ⟨rfl, rfl, rfl, rfl⟩
  | v :: r, i, w => by
    obtain ⟨h1, h2, h3, h4⟩ := setCellsFrom_env a r (i + 1) (w.setCell (a.add i) v)
    rw [setCellsFrom]
    exact ⟨h1, h2, h3, by rw [h4]; simp⟩

theorem heap_setCell_same {w : World} {b o : Nat} {v : Value} {c : Array Value} {e : TypeId} {fz : Nat × Nat} (h : w.heap[b]? = some (.cells c e fz)) :
    (w.setCell ⟨b, o, none⟩ v).heap[b]? = some (.cells (c.setIfInBounds o v) e fz) := by
  simp [World.setCell, Array.getElem?_modify, h]

theorem setCellsFrom_block (b off : Nat) : ∀ (vs : List Value) (i : Nat) (w : World) (c : Array Value) (e : TypeId) (fz : Nat × Nat), w.heap[b]? = some (.cells c e fz) → off + i + vs.length ≤ c.size →
    ∃ c' : Array Value, (setCellsFrom w ⟨b, off, none⟩ i vs).heap[b]? = some (.cells c' e fz) ∧ c'.size = c.size ∧
      ∀ j, c'.getD j undef = if off + i ≤ j ∧ j < off + i + vs.length then vs.getD (j - (off + i)) undef else c.getD j undef
  | [], i, w, c, e, fz, h, _ => ⟨c, h, rfl, fun j => by rw [if_neg (by simp only [List.length_nil]; omega)]⟩
  | v :: r, i, w, c, e, fz, h, hl => by
    rw [setCellsFrom, addr_add]
    simp only [List.length_cons] at hl
    obtain ⟨c', h1, h2, h3⟩ := setCellsFrom_block b off r (i + 1) _ _ e fz (heap_setCell_same (o := off + i) (v := v) h) (by simp; omega)
    refine ⟨c', h1, by simpa using h2, fun j => ?_⟩
    rw [h3, getD_set _ _ _ _ (by omega)]
    by_cases hj : off + i = j
    · subst hj
      rw [if_neg (by omega), if_pos rfl, if_pos (by simp only [List.length_cons]; omega)]
      simp
    · rw [if_neg hj]
      by_cases hk : off + (i + 1) ≤ j ∧ j < off + (i + 1) + r.length
      · rw [if_pos hk, if_pos (by simp; omega)]
        have : j - (off + i) = (j - (off + (i + 1))) + 1 := by omega
        rw [this]
        simp
      · rw [if_neg hk, if_neg (by simp; omega)]

theorem cell?_setCell_some {w : World} {p q : Addr} {v u : Value} (h : w.cell? q = some u) : ∃ u', (w.setCell p v).cell? q = some u' := by
  by_cases hpq : p = q
  · subst hpq; exact ⟨v, World.cell?_setCell_same w p v h⟩
  · exact ⟨u, by rw [World.cell?_setCell_other w p q v hpq]; exact h⟩

theorem run_storeCells' {P : Program} (a : Addr) : ∀ (vs : List Value) (i : Nat) (w : World), (∀ v, v ∈ vs → v.oneCell' = true) →
    (∀ j, j < vs.length → (∃ v, w.cell? (a.add (i + j)) = some v) ∧ w.frozen? (a.add (i + j)) = false) →
    (storeCells a vs i).run P w = .ok () (setCellsFrom w a i vs)
  | [], _, _, _, _ => rfl
  | v :: r, i, w, h1, h2 => by
    obtain ⟨⟨u, hu⟩, hz⟩ := h2 0 (by simp)
    simp only [Nat.add_zero] at hu hz
    have hs : (store (a.add i) v).run P w = .ok () (w.setCell (a.add i) v) := by
      rw [run_store P w (a.add i) v .plain (h1 v (by simp)), hu]
      simp [hz]
    rw [storeCells, Sem.run_bind, hs, Result.andThen_ok, setCellsFrom]
    refine run_storeCells' a r (i + 1) _ (fun x hx => h1 x (by simp [hx])) (fun j hj => ?_)
    obtain ⟨⟨u', hu'⟩, hz'⟩ := h2 (j + 1) (by simp; omega)
    have e : i + (j + 1) = i + 1 + j := by omega
    rw [e] at hu' hz'
    exact ⟨cell?_setCell_some hu', by rw [World.frozen?_setCell]; exact hz'⟩

theorem oneB_ok {v : Value} (h : oneB v = true) : v.oneCell' = true := by
  cases v <;> simp_all [oneB, Value.oneCell']

/-- A STORE INTO A BOX. -/
theorem RelC.store {P : Program} {N : Nat} {E : Env} {M : List Box} {a : Act} {w : World} (h : RelC N E M a w) {base off : Nat} {x : Box} (hx : findBox M base = some x) {vs : List Value}
    (hl : off + vs.length ≤ x.size) (h1 : ∀ v, v ∈ vs → v.oneCell' = true) :
    ∃ w', (storeCells ⟨x.block, off, none⟩ vs).run P w = .ok () w' ∧ RelC N (cellsEnv (base + off) vs ++ E) M a w' ∧ LocB [x.block] w w' := by
  obtain ⟨hm, hbase⟩ := findBox_mem hx
  subst hbase
  obtain ⟨cells, hc1, hc2, hc3⟩ := (h.boxes x hm).ok
  obtain ⟨c', hn1, hn2, hn3⟩ := setCellsFrom_block x.block off vs 0 w cells x.elem (0, 0) hc1 (by omega)
  obtain ⟨e1, e2, e3, e4⟩ := setCellsFrom_env ⟨x.block, off, none⟩ vs 0 w
  refine ⟨setCellsFrom w ⟨x.block, off, none⟩ 0 vs, ?_, ?_, ?_⟩
  · refine run_storeCells' _ vs 0 w h1 fun j hj => ?_
    rw [addr_add]
    refine ⟨⟨cells.getD (off + (0 + j)) undef, ?_⟩, ?_⟩
    · have hlt : off + (0 + j) < cells.size := by omega
      have : cells[off + (0 + j)]? = some cells[off + (0 + j)] := getElem?_pos cells _ hlt
      simp only [World.cell?, hc1, Option.isSome_none, Bool.false_eq_true, if_false, this, Array.getD_eq_getD_getElem?, Option.getD_some]
    · simp [World.frozen?, hc1]
  · refine ⟨h.size, fun i hi => ?_, fun y hy => ⟨?_⟩, h.apart⟩
    · rw [look_cellsEnv, if_neg (by have := apart_base h.apart x hm; omega)]
      exact h.slots i hi
    · rcases apart_two h.apart x y hm hy with rfl | ⟨hb, _, hd⟩
      · refine ⟨c', hn1, by rw [hn2]; exact hc2, fun j hj => ?_⟩
        rw [look_cellsEnv, hn3]
        by_cases hin : off + 0 ≤ j ∧ j < off + 0 + vs.length
        · rw [if_pos hin, if_pos (by omega)]
          have : x.base + j - (x.base + off) = j - (off + 0) := by omega
          rw [this]
          rfl
        · rw [if_neg hin, if_neg (by omega)]
          exact hc3 j hj
      · obtain ⟨cy, hy1, hy2, hy3⟩ := (h.boxes y hy).ok
        refine ⟨cy, ?_, hy2, fun j hj => ?_⟩
        · rw [setCellsFrom_other _ _ (by simpa using fun e => hb e.symm)]
          exact hy1
        · rw [look_cellsEnv, if_neg (by omega)]
          exact hy3 j hj
  · refine ⟨e1, e2, e3, by rw [e4]; exact Nat.le_refl _, fun k hk hkb => ?_, fun b hb => ?_⟩
    · exact setCellsFrom_other _ _ (by simpa using hkb) _ _ _
    · have : b = x.block := by simpa using hb
      rw [this, e4]
      exact heap_lt hc1

theorem blM_cons_ne {M : List Box} {x : Box} {base : Nat} (h : x.base ≠ base) : blM (x :: M) base = blM M base := by
  unfold blM
  simp only [findBox]
  have : Nat.beq x.base base = false := by
    cases hb : Nat.beq x.base base with
    | false => rfl
    | true => exact absurd (Nat.eq_of_beq_eq_true hb) h
  rw [this]
theorem blM_cons_same {M : List Box} {x : Box} : blM (x :: M) x.base = some x.block := by
  unfold blM
  simp only [findBox]
  have : Nat.beq x.base x.base = true := by simp
  rw [this]
  rfl
theorem SVok.grow {M : List Box} {x : Box} {sv : SV} {v : Value} (h : SVok (blM M) sv v) (hx : ∀ y, y ∈ M → x.base ≠ y.base) : SVok (blM (x :: M)) sv v := by
  have key : ∀ base b, blM M base = some b → blM (x :: M) base = some b := fun base b hb => by
    have hb0 := hb
    unfold blM at hb
    cases hf : findBox M base with
    | none => simp [hf] at hb
    | some y =>
      obtain ⟨hm, he⟩ := findBox_mem hf
      rw [blM_cons_ne (by rw [← he]; exact hx y hm)]
      exact hb0
  cases sv with
  | val u => exact h
  | box base off => obtain ⟨b, h1, h2⟩ := h; exact ⟨b, key _ _ h1, h2⟩
  | row base len => obtain ⟨b, h1, h2⟩ := h; exact ⟨b, key _ _ h1, h2⟩
  | junk => trivial

/-- Is there room for a box's pseudo-slots? -/
def roomB (N base n : Nat) : List Box → Bool
  | [] => Nat.ble N base
  | y :: r => (Nat.ble (base + n) y.base || Nat.ble (y.base + y.size) base) && (!(Nat.beq base y.base)) && roomB N base n r

theorem roomB_ok {N base n : Nat} : ∀ {M : List Box}, roomB N base n M = true → N ≤ base ∧ (∀ y ∈ M, base + n ≤ y.base ∨ y.base + y.size ≤ base) ∧ ∀ y ∈ M, base ≠ y.base
  | [], h => ⟨Nat.le_of_ble_eq_true h, by simp, by simp⟩
  | y :: r, h => by
    simp only [roomB, Bool.and_eq_true, Bool.or_eq_true, Bool.not_eq_true'] at h
    obtain ⟨⟨h1, h2⟩, h3⟩ := h
    obtain ⟨g1, g2, g3⟩ := roomB_ok h3
    refine ⟨g1, fun z hz => ?_, fun z hz => ?_⟩
    · rcases List.mem_cons.1 hz with rfl | hz'
      · exact h1.imp Nat.le_of_ble_eq_true Nat.le_of_ble_eq_true
      · exact g2 z hz'
    · rcases List.mem_cons.1 hz with rfl | hz'
      · intro e
        subst e
        simp at h2
      · exact g3 z hz'

/-- A NEW BOX. -/
theorem RelC.alloc {N : Nat} {E : Env} {M : List Box} {a : Act} {w : World} (h : RelC N E M a w) {base : Nat} {e : TypeId} {vs : List Value}
    (hr : roomB N base vs.length M = true) :
    RelC N (cellsEnv base vs ++ E) (⟨base, w.heap.size, e, vs.length⟩ :: M) a (w.alloc (.cells vs.toArray e)) := by
  obtain ⟨r1, r2, r3⟩ := roomB_ok hr
  have hlt := fun x (hx : x ∈ M) => h.block_lt hx
  refine ⟨h.size, fun i hi => ?_, fun y hy => ⟨?_⟩, ⟨r1, r2, r3, fun y hy => Nat.ne_of_gt (hlt y hy), h.apart⟩⟩
  · rw [look_cellsEnv, if_neg (by omega)]
    exact (h.slots i hi).grow r3
  · rcases List.mem_cons.1 hy with rfl | hy'
    · refine ⟨vs.toArray, ?_, by simp, fun j hj => ?_⟩
      · show (w.heap.push _)[w.heap.size]? = _
        simp
      · simp only at hj ⊢
        rw [look_cellsEnv, if_pos (by omega)]
        have : base + j - base = j := by omega
        rw [this]
        simp [SVok, List.getD]
    · obtain ⟨cy, hy1, hy2, hy3⟩ := (h.boxes y hy').ok
      refine ⟨cy, ?_, hy2, fun j hj => ?_⟩
      · rw [RowKit.Below.heap_alloc _ _ _ (hlt y hy')]
        exact hy1
      · rw [look_cellsEnv, if_neg (by have := r2 y hy'; omega)]
        exact (hy3 j hj).grow r3

end Go.Vc

/- The operations that read or write memory, or call: their conditions. -/
namespace Go.Vc
open Go

def cellsL : Value → List Value
  | .agg cs => cs.toList
  | v => [v]

/-- n cells of a box. -/
def boxCells (E : Env) (base : Nat) : Nat → Option (List Value)
  | 0 => some []
  | n + 1 => match look E base with
    | .val v => match boxCells E (base + 1) n with
      | some vs => some (v :: vs)
      | none => none
    | _ => none

def isAggD : TypeDesc → Bool
  | .struct _ => true
  | .array _ _ => true
  | _ => false

def allOne : List Value → Bool
  | [] => true
  | v :: r => match oneB v with
    | true => allOne r
    | false => false

section
variable (cx : Cx)

def vLoad (st : St) (dst : Option Tmp) (t : TypeId) (x : Operand) (K : St → Prop) : Prop :=
  match cx.P.info? t with
  | none => False
  | some ti => match cx.P.underlying t with
    | none => False
    | some d => match ev cx st x with
      | .box base off => match findBox (st.bm ++ cx.bm) base with
        | none => False
        | some b => match isAggD d with
          | true => match Nat.ble (off + ti.size) b.size with
            | true => match boxCells (st.env ++ cx.env) (base + off) ti.size with
              | some vs => putD cx dst (.val (.agg vs.toArray)) st K
              | none => False
            | false => False
          | false => match Nat.ble (off + 1) b.size with
            | true => putD cx dst (look (st.env ++ cx.env) (base + off)) st K
            | false => False
      | .val (.pointer (some a)) => match ti.zero with
        | none => False
        | some z => match isAggD d with
          | true => match Nat.beq (cellsL z).length ti.size with
            | true => flush cx st fun st => exCells (cellsL z) fun vs => CellsAt st.w a vs ∧ putD cx dst (.val (.agg vs.toArray)) st K
            | false => False
          | false => flush cx st fun st => exCell z fun v => CellsAt st.w a [v] ∧ putD cx dst (.val v) st K
      | _ => False

def vStore (st : St) (dst : Option Tmp) (t : TypeId) (x y : Operand) (K : St → Prop) : Prop :=
  match cx.P.info? t with
  | none => False
  | some ti => match ev cx st y with
    | .val v => match Nat.beq (cellsL v).length ti.size with
      | true => match allOne (cellsL v) with
        | true => match ev cx st x with
          | .box base off => match findBox (st.bm ++ cx.bm) base with
            | none => False
            | some b => match Nat.ble (off + ti.size) b.size with
              | true => putD cx dst (.val undef) { st with env := cellsEnv (base + off) (cellsL v) ++ st.env, dirty := true } K
              | false => False
          | .val (.pointer (some a)) => flush cx st fun st => StoreOk st.w a (cellsL v).length ∧ offAnd (blocksOf (st.bm ++ cx.bm)) a
              (putD cx dst (.val undef) { st with w := setCells st.w a (cellsL v) } K)
          | _ => False
        | false => False
      | false => False
    | _ => False

def rowSV (row : Option Nat) (base : Nat) : SV := match row with
  | none => .box base 0
  | some n => .row base n
def rowV (row : Option Nat) (b : Nat) : Value := match row with
  | none => .pointer (some ⟨b, 0, none⟩)
  | some n => .slice (some ⟨b, 0, none⟩) n n

/-- A new variable with these cells, of that type. 'sv': what its box is (the address, or a row). -/
def vNew (st : St) (dst : Option Tmp) (t : TypeId) (vs : List Value) (row : Option Nat) (K : St → Prop) : Prop :=
  match dst with
  | none => False
  | some d => match assoc cx.an.boxes d with
    | some base => match roomB cx.N base vs.length (st.bm ++ cx.bm) with
      | true => ∀ b : Nat, st.w.heap.size ≤ b →
        putD cx (some d) (rowSV row base)
          { st with env := cellsEnv base vs ++ st.env, bm := ⟨base, b, t, vs.length⟩ :: st.bm, dirty := true } K
      | false => False
    | none => flush cx st fun st =>
        putD cx (some d) (.val (rowV row st.w.heap.size))
          { st with w := st.w.alloc (.cells vs.toArray t) } K

def vBuildSlice (st : St) (dst : Option Tmp) (t : TypeId) (len : Nat) (parts : Array (Nat × Operand)) (K : St → Prop) : Prop :=
  match cx.P.underlying t with
  | some (.slice e) => match cx.P.info? e with
    | some ie => match ie.zero with
      | some z => match Nat.ble 1 (len * ie.size) && Nat.ble (len * ie.size) 65536 with
        | true => match partsOf (ev cx st) parts.toList with
          | some vs => match Instr.fill (fun i => some (i * ie.size, ie.size)) ((Array.range (len * ie.size)).map (z.cells[· % z.cells.size]!)) vs with
            | some cells => vNew cx st dst e cells.toList (some len) K
            | none => False
          | none => False
        | false => False
      | none => False
    | none => False
  | _ => False

def enterable (P : Program) (g : FuncId) : Bool :=
  match P.funcs[g]? with
  | some fn => (!(fn.name == "runtime.NumGoroutine")) && fn.body.isSome
  | none => false

/-- What is asked of a call's end. -/
def vPost (st : St) (dst : Option Tmp) (z : Value) (pan : Bool) (K : St → Prop) (QP : List PanicEntry → St → Prop) (e : Ending) (w' : World) : Prop :=
  match pan with
  | false => exTop z fun v => e = .returned v ∧ keepAnd (blocksOf (st.bm ++ cx.bm)) st.w w' (putD cx dst (.val v) { st with w := w' } K)
  | true => (exTop z fun v => e = .returned v ∧ keepAnd (blocksOf (st.bm ++ cx.bm)) st.w w' (putD cx dst (.val v) { st with w := w' } K)) ∨
    ∃ ch, e = .panicked ch ∧ QP ch { st with w := w' }

def vCallE (st : St) (dst : Option Tmp) (ty : TypeId) (fo : Operand) (args : List Operand) (K : St → Prop) (QP : List PanicEntry → St → Prop) : Prop :=
  match (cx.P.info? ty).bind (·.zero) with
  | none => False
  | some z => match valsOf (ev cx st) args with
    | none => False
    | some vs => match fo with
      | .func g => match enterable cx.P g with
        | true => flush cx st fun st => Calls cx.P g vs.toArray st.w (vPost cx st dst z (memN cx.an.pans g) K QP)
        | false => False
      | fo => match ev cx st fo with
        | .val (.func (.func g) first caps) => flush cx st fun st => enterable cx.P g = true ∧
          Calls cx.P g (first.toList ++ vs ++ caps.toList).toArray st.w (vPost cx st dst z (memN cx.an.pans 1000000) K QP)
        | _ => False

def vAppend (st : St) (dst : Option Tmp) (c : Call) (K : St → Prop) : Prop :=
  match c.args.toList, c.argTypes.toList with
  | [x, y], [t, t2] => match cx.P.underlying t with
    | some (.slice e) => match cx.P.info? e with
      | some ie => match ie.zero with
        | some z => match Nat.ble 1 ie.bytes && Nat.beq (cellsL z).length ie.size with
          | true => match ev cx st x with
            | .val (.slice a len cap) => match cx.P.underlying t2, ev cx st y with
              | some (.slice _), .row base n => match findBox (st.bm ++ cx.bm) base with
                | some b => match Nat.ble (n * ie.size) b.size with
                  | true => match boxCells (st.env ++ cx.env) base (n * ie.size) with
                    | some vs => match allOne vs with
                      | true => flush cx st fun st => ∃ old : List Value, AppPre st.w ⟨a, len, cap⟩ ie.size ie.bytes n old ∧ offSAnd (blocksOf (st.bm ++ cx.bm)) a
                          (∀ (s' : Sl) (w' : World), AppRes st.w ⟨a, len, cap⟩ ie.size e vs n old s' w' → putD cx dst (.val (.slice s'.a s'.len s'.cap)) { st with w := w' } K)
                      | false => False
                    | none => False
                  | false => False
                | none => False
              | some (.slice _), .val (.slice a2 n _) =>
                flush cx st fun st => ∃ (old vs : List Value), SlCells st.w a2 (n * ie.size) vs ∧ allOne vs = true ∧ AppPre st.w ⟨a, len, cap⟩ ie.size ie.bytes n old ∧ offSAnd (blocksOf (st.bm ++ cx.bm)) a
                  (∀ (s' : Sl) (w' : World), AppRes st.w ⟨a, len, cap⟩ ie.size e vs n old s' w' → putD cx dst (.val (.slice s'.a s'.len s'.cap)) { st with w := w' } K)
              | some .string, .val (.string s) => match Nat.beq ie.size 1 with
                | true => flush cx st fun st => ∃ old : List Value, AppPre st.w ⟨a, len, cap⟩ ie.size ie.bytes s.data.toList.length old ∧ offSAnd (blocksOf (st.bm ++ cx.bm)) a
                    (∀ (s' : Sl) (w' : World), AppRes st.w ⟨a, len, cap⟩ ie.size e (bytesV s.data.toList) s.data.toList.length old s' w' → putD cx dst (.val (.slice s'.a s'.len s'.cap)) { st with w := w' } K)
                | false => False
              | _, _ => False
            | _ => False
          | false => False
        | none => False
      | none => False
    | _ => False
  | _, _ => False

/-- string(b) -/
def vToString (st : St) (dst : Option Tmp) (e : TypeId) (x : Operand) (K : St → Prop) : Prop :=
  match cx.P.underlying e, ev cx st x with
  | some (.int .u8), .val (.slice a n _) => flush cx st fun st => ∃ l : Bytes, SlCells st.w a n (bytesV l) ∧ putD cx dst (.val (.string (bs l))) st K
  | _, _ => False

/-- What []byte(s) makes. -/
structure ToBytes (w : World) (l : Bytes) (e : TypeId) (s' : Sl) (w' : World) : Prop where
  s : ∃ c, l.length ≤ c ∧ s' = ⟨some ⟨w.heap.size, 0, none⟩, l.length, c⟩
  old : ∀ k, k < w.heap.size → w'.heap[k]? = w.heap[k]?
  size : w'.heap.size = w.heap.size + 1
  os : w'.os = w.os
  tape : w'.tape = w.tape
  output : w'.output = w.output
  cells : ∃ (rest : List Value) (fz : Nat × Nat), w'.heap[w.heap.size]? = some (.cells (bytesV l ++ rest).toArray e fz) ∧ l.length + rest.length = s'.cap ∧ fz = ((bytesV l ++ rest).length, (bytesV l ++ rest).length + 1)

def vToBytes (st : St) (dst : Option Tmp) (e : TypeId) (x : Operand) (K : St → Prop) : Prop :=
  match cx.P.underlying e, ev cx st x with
  | some (.int .u8), .val (.string s) => flush cx st fun st => ∀ (s' : Sl) (w' : World), ToBytes st.w s.data.toList e s' w' → putD cx dst (.val (.slice s'.a s'.len s'.cap)) { st with w := w' } K
  | _, _ => False

def vMakeSlice (st : St) (dst : Option Tmp) (t : TypeId) (l c : Operand) (K : St → Prop) : Prop :=
  match cx.P.underlying t with
  | some (.slice e) => match cx.P.info? e with
    | some ie => match ie.zero with
      | some z => match Nat.beq (cellsL z).length ie.size with
        | true => match intOf? (ev cx st l), intOf? (ev cx st c) with
          | some l, some c => 0 ≤ l ∧ l ≤ c ∧ c ≤ 9223372036854775807 ∧ ie.bytes * c ≤ 281474976710656 ∧
            flush cx st fun st => putD cx dst (.val (.slice (some ⟨st.w.heap.size, 0, none⟩) l.toNat c.toNat)) { st with w := st.w.alloc (.cells (madeCells z.cells (c.toNat * ie.size)) e) } K
          | _, _ => False
        | false => False
      | none => False
    | none => False
  | _ => False

def vOp (o : Oper) (st : St) (K : St → Prop) (QP : List PanicEntry → St → Prop) : Prop :=
  match o.op with
  | .load t x => vLoad cx st o.dst t x K
  | .store t x y => vStore cx st o.dst t x y K
  | .alloc t => match (cx.P.info? t).bind (·.zero) with
    | some z => vNew cx st o.dst t (cellsL z) none K
    | none => False
  | .box t x => match ev cx st x with
    | .val v => vNew cx st o.dst t (cellsL v) none K
    | _ => False
  | .buildSlice t len parts => vBuildSlice cx st o.dst t len parts K
  | .convert src dst x => match cx.P.underlying src, cx.P.underlying dst with
    | some .string, some (.slice e) => vToBytes cx st o.dst e x K
    | some (.slice e), some .string => vToString cx st o.dst e x K
    | _, _ => vT cx.P (ev cx st) (.convert src dst x) fun sv => putD cx o.dst sv st K
  | .makeSlice t l c => vMakeSlice cx st o.dst t l c K
  | .panic x => match ev cx st x with
    | .val (.iface t v) => flush cx st fun st => QP [{ v := .iface t v, recovered := false }] st
    | _ => False
  | .defer c => match c.callee with
    | .value fo => match valsOf (ev cx st) c.args.toList with
      | none => False
      | some vs => match ev cx st fo with
        | .val (.func fn first caps) => putD cx o.dst (.val undef) { st with defers := { target := .fn fn caps, args := (first.toList ++ vs).toArray } :: st.defers } K
        | _ => False
    | _ => False
  | .call c => match c.callee with
    | .value fo => vCallE cx st o.dst o.type fo c.args.toList K QP
    | .builtin .append => vAppend cx st o.dst c K
    | _ => vT cx.P (ev cx st) (.call c) fun sv => putD cx o.dst sv st K
  | op => vT cx.P (ev cx st) op fun sv => putD cx o.dst sv st K

end
end Go.Vc

/- The operations that read or write memory, or call: soundness. -/
namespace Go.Vc
open Go

section
variable {cx : Cx} {st : St} {a : Act} {w : World}

theorem ev_ok (h : Rel cx st a w) (x : Operand) : SVok (blM (st.bm ++ cx.bm)) (ev cx st x) (a.eval x) := by
  cases x with
  | tmp t =>
    simp only [ev, get, Act.eval]
    split
    · rename_i hb
      exact h.core.slots t (by simpa [Nat.blt_eq] using hb)
    · trivial
  | const v => rfl
  | global g => rfl
  | func f => rfl

/-- What an operation's end must be. -/
def Ends (cx : Cx) (M : List Box) (K : St → Prop) : Act → World → Prop := fun a w => ∃ st, K st ∧ Rel cx st a w ∧ ∃ new, st.bm = new ++ M

/-- The box that an operation writes. -/
def tgt (cx : Cx) (st : St) (o : Oper) : Option Nat := match o.op with
  | .store _ x _ => match ev cx st x with
    | .box b _ => some b
    | _ => none
  | _ => none

/-- An operation's end, and that the boxes but the one that it writes are as they were. -/
def EndsX (cx : Cx) (st : St) (o : Oper) (w : World) (K : St → Prop) : Act → World → Prop :=
  fun a' w' => (∀ x, x ∈ st.bm ++ cx.bm → tgt cx st o ≠ some x.base → w'.heap[x.block]? = w.heap[x.block]?) ∧ Ends cx st.bm K a' w'

theorem blt_of {d N : Nat} (h : Nat.blt d N = true) : d < N := by simpa [Nat.blt_eq] using h
theorem ble_of {d N : Nat} (h : Nat.ble d N = true) : d ≤ N := Nat.le_of_ble_eq_true h
theorem beq_of {d N : Nat} (h : Nat.beq d N = true) : d = N := Nat.eq_of_beq_eq_true h

/-- A slot is written. -/
theorem putD_ok {M : List Box} {dst : Option Tmp} {sv : SV} {v : Value} {K : St → Prop} (h : putD cx dst sv st K) (hR : Rel cx st a w) (hv : SVok (blM (st.bm ++ cx.bm)) sv v) (hM : ∃ new, st.bm = new ++ M) :
    Ends cx M K (a.put dst v) w := by
  unfold putD at h
  split at h
  · exact ⟨st, h, ⟨hR.core.act rfl, hR.defers, hR.world⟩, hM⟩
  · rename_i d
    split at h
    · rename_i hd
      exact ⟨_, h, ⟨hR.core.putN (blt_of hd) hv, hR.defers, hR.world⟩, hM⟩
    · exact h.elim

/-- Another visible world, with the boxes as they were. -/
theorem Rel.go {w' : World} (hR : Rel cx st a w) (hb : ∀ x, x ∈ st.bm ++ cx.bm → w'.heap[x.block]? = w.heap[x.block]?) :
    Rel cx { st with w := w', dirty := false } a w' :=
  ⟨hR.core.world hb, hR.defers, rfl⟩

theorem vT_end {o : Oper} {op : Op} (ho : o.op = op) {K : St → Prop} {Q : Exit → Act → World → Prop} (h : vT cx.P (ev cx st) op fun sv => putD cx o.dst sv st K) (hR : Rel cx st a w) :
    o.wp cx.P a w (EndsX cx st o w K) Q := by
  obtain ⟨sv, v, hK, hv, hrun⟩ := vT_ok (ev_ok hR) h
  unfold Oper.wp
  rw [hrun o ho w]
  exact ⟨fun _ _ _ => rfl, putD_ok hK hR hv ⟨[], rfl⟩⟩

/-! ### load -/

theorem boxCells_ok {E : Env} : ∀ (n base : Nat) (vs : List Value), boxCells E base n = some vs → vs.length = n ∧ ∀ j v, vs[j]? = some v → look E (base + j) = .val v
  | 0, base, vs, h => by simp [boxCells] at h; subst h; simp
  | n + 1, base, vs, h => by
    simp only [boxCells] at h
    split at h
    · rename_i v hv
      split at h
      · rename_i ws hws
        simp only [Option.some.injEq] at h
        subst h
        obtain ⟨h1, h2⟩ := boxCells_ok n (base + 1) ws hws
        refine ⟨by simp [h1], fun j u hj => ?_⟩
        cases j with
        | zero => simp at hj; subst hj; exact hv
        | succ j => simp at hj; have := h2 j u hj; rwa [show base + 1 + j = base + (j + 1) by omega] at this
      · cases h
    · cases h

/-- The cells of a box, in memory. -/
theorem box_cells {N : Nat} {E : Env} {M : List Box} (hR : RelC N E M a w) {base off n : Nat} {b : Box} (hb : findBox M base = some b) (hl : off + n ≤ b.size) {vs : List Value} (hvs : boxCells E (base + off) n = some vs) :
    CellsAt w ⟨b.block, off, none⟩ vs := by
  obtain ⟨hm, hbase⟩ := findBox_mem hb
  subst hbase
  obtain ⟨cells, h1, h2, h3⟩ := (hR.boxes b hm).ok
  obtain ⟨hlen, hg⟩ := boxCells_ok n _ vs hvs
  intro j v hj
  have hjn : j < n := by
    rw [← hlen]
    rcases Nat.lt_or_ge j vs.length with h' | h'
    · exact h'
    · simp [List.getElem?_eq_none h'] at hj
  have := h3 (off + j) (by omega)
  rw [← Nat.add_assoc, hg j v hj] at this
  simp only [SVok] at this
  rw [addr_add]
  have hlt : off + j < cells.size := by omega
  have hc : cells[off + j]? = some v := by
    rw [← this, Array.getD_eq_getD_getElem?, getElem?_pos cells _ hlt]
    rfl
  simp [World.cell?, h1, hc]

theorem run_isAgg {P : Program} {t : TypeId} {d : TypeDesc} (hu : P.underlying t = some d) (w : World) : (isAgg t).run P w = .ok (isAggD d) w := by
  cases d <;> simp [isAgg, run_underlying hu, isAggD]

theorem run_loadVar_agg {P : Program} {t : TypeId} {d : TypeDesc} {ti : TypeInfo} {ad : Addr} {vs : List Value} (hi : P.info? t = some ti) (hu : P.underlying t = some d) (hd : isAggD d = true)
    (hl : vs.length = ti.size) (hc : CellsAt w ad vs) : (Instr.loadAt t (.pointer (some ad))).run P w = .ok (.agg vs.toArray) w := by
  have := run_loadCells_list (P := P) w ad vs hc
  rw [hl] at this
  simp [Instr.loadAt, Instr.sureAddr, loadVar, run_isAgg hu, hd, run_sizeOf hi, this]
theorem run_loadVar_one {P : Program} {t : TypeId} {d : TypeDesc} {ad : Addr} {v : Value} (hu : P.underlying t = some d) (hd : isAggD d = false)
    (hc : w.cell? ad = some v) : (Instr.loadAt t (.pointer (some ad))).run P w = .ok v w := by
  simp [Instr.loadAt, Instr.sureAddr, loadVar, run_isAgg hu, hd, hc]

theorem wp_value {P : Program} {o : Oper} {s : Sem Value} {v : Value} {K : Act → World → Prop} {Q : Exit → Act → World → Prop} {w' : World}
    (he : execOp a.eval o = (do pure (.value (← s)) : Sem Next)) (hs : s.run P w = .ok v w') (h : K (a.put o.dst v) w') : o.wp P a w K Q := by
  unfold Oper.wp
  rw [he, Sem.run_bind, hs]
  exact h
theorem wp_unit {P : Program} {o : Oper} {s : Sem Unit} {K : Act → World → Prop} {Q : Exit → Act → World → Prop} {w' : World}
    (he : execOp a.eval o = (do s; pure .skip : Sem Next)) (hs : s.run P w = .ok () w') (h : K (a.put o.dst undef) w') : o.wp P a w K Q := by
  unfold Oper.wp
  rw [he, Sem.run_bind, hs]
  exact h

theorem exCell_ok {z : Value} {K : Value → Prop} (h : exCell z K) : ∃ v, K v := by
  unfold exCell at h
  split at h
  · obtain ⟨n, h⟩ := h; exact ⟨_, h⟩
  · obtain ⟨n, h⟩ := h; exact ⟨_, h⟩
  · obtain ⟨n, h⟩ := h; exact ⟨_, h⟩
  · obtain ⟨n, h⟩ := h; exact ⟨_, h⟩
  · obtain ⟨n, h⟩ := h; exact ⟨_, h⟩
  · obtain ⟨g, f, c, h⟩ := h; exact ⟨_, h⟩
  · exact h
theorem exCells_ok : ∀ (zs : List Value) (K : List Value → Prop), exCells zs K → ∃ vs, vs.length = zs.length ∧ K vs
  | [], K, h => ⟨[], rfl, h⟩
  | z :: r, K, h => by
    obtain ⟨v, h⟩ := exCell_ok h
    obtain ⟨vs, h1, h2⟩ := exCells_ok r _ h
    exact ⟨v :: vs, by simp [h1], h2⟩

theorem vLoad_ok {o : Oper} {t : TypeId} {x : Operand} (ho : o.op = .load t x) {K : St → Prop} {Q : Exit → Act → World → Prop} (h : vLoad cx st o.dst t x K) (hR : Rel cx st a w) :
    o.wp cx.P a w (EndsX cx st o w K) Q := by
  have hx := ev_ok hR x
  have he : execOp a.eval o = (do pure (.value (← Instr.loadAt t (a.eval x))) : Sem Next) := by simp only [execOp, ho]
  unfold vLoad at h
  split at h
  · exact h.elim
  · rename_i ti hi
    split at h
    · exact h.elim
    · rename_i d hu
      split at h
      · rename_i base off hb
        rw [hb] at hx
        obtain ⟨g, hg, hx'⟩ := hx
        split at h
        · exact h.elim
        · rename_i b hf
          have hgb : g = b.block := by simp [blM, hf] at hg; exact hg.symm
          subst hgb
          split at h
          · rename_i hagg
            split at h
            · rename_i hle
              split at h
              · rename_i vs hvs
                refine wp_value he (v := .agg vs.toArray) (w' := w) ?_ ⟨fun _ _ _ => rfl, putD_ok h hR rfl ⟨[], rfl⟩⟩
                rw [hx']
                exact run_loadVar_agg hi hu hagg (boxCells_ok _ _ _ hvs).1 (box_cells hR.core hf (ble_of hle) hvs)
              · exact h.elim
            · exact h.elim
          · rename_i hagg
            split at h
            · rename_i hle
              obtain ⟨hm, hbase⟩ := findBox_mem hf
              subst hbase
              obtain ⟨cells, h1, h2, h3⟩ := (hR.core.boxes b hm).ok
              have hle' := ble_of hle
              have h4 := h3 off (by omega)
              refine wp_value he (v := cells.getD off undef) (w' := w) ?_ ⟨fun _ _ _ => rfl, putD_ok h hR h4 ⟨[], rfl⟩⟩
              rw [hx']
              refine run_loadVar_one hu hagg ?_
              have hlt : off < cells.size := by omega
              have hc : cells[off]? = some cells[off] := getElem?_pos cells _ hlt
              simp only [World.cell?, h1, Option.isSome_none, Bool.false_eq_true, if_false, Array.getD_eq_getD_getElem?, hc, Option.getD_some]
            · exact h.elim
      · rename_i ad hb
        rw [hb] at hx
        simp only [SVok] at hx
        split at h
        · exact h.elim
        · rename_i z hz
          split at h
          · rename_i hagg
            split at h
            · rename_i hle
              obtain ⟨st', h, hR', hw, _, _, hbm, _⟩ := flush_ok h hR
              obtain ⟨vs, hl, hc, h⟩ := exCells_ok _ _ h
              refine wp_value he (v := .agg vs.toArray) (w' := w) ?_ ⟨fun _ _ _ => rfl, putD_ok h hR' rfl ⟨[], hbm⟩⟩
              rw [hx]
              rw [hw] at hc
              exact run_loadVar_agg hi hu hagg (hl.trans (beq_of hle)) hc
            · exact h.elim
          · rename_i hagg
            obtain ⟨st', h, hR', hw, _, _, hbm, _⟩ := flush_ok h hR
            obtain ⟨v, hc, h⟩ := exCell_ok h
            refine wp_value he (v := v) (w' := w) ?_ ⟨fun _ _ _ => rfl, putD_ok h hR' rfl ⟨[], hbm⟩⟩
            rw [hx]
            rw [hw] at hc
            have := hc 0 v rfl
            refine run_loadVar_one hu hagg ?_
            simpa [Addr.add] using this
      · exact h.elim

/-! ### store -/

theorem cells_toList (v : Value) : v.cells.toList = cellsL v := by cases v <;> rfl

theorem allOne_ok : ∀ {vs : List Value}, allOne vs = true → ∀ v, v ∈ vs → v.oneCell' = true
  | v :: r, h, u, hu => by
    simp only [allOne] at h
    split at h
    · rename_i hv
      rcases List.mem_cons.1 hu with rfl | hu'
      · exact oneB_ok hv
      · exact allOne_ok h u hu'
    · cases h

theorem run_storeAt {P : Program} {t : TypeId} {ti : TypeInfo} {ad : Addr} {v : Value} {w' : World} (hi : P.info? t = some ti) (hl : (cellsL v).length = ti.size)
    (hs : (storeCells ad (cellsL v)).run P w = .ok () w') : (Instr.storeAt t (.pointer (some ad)) v).run P w = .ok () w' := by
  have hsz : v.cells.size = ti.size := by rw [← hl, ← cells_toList]; rfl
  simp [Instr.storeAt, Instr.sureAddr, storeVar, run_sizeOf hi, hsz, cells_toList, hs]

theorem offAnd_ok : ∀ {B : List Nat} {ad : Addr} {p : Prop}, offAnd B ad p → (∀ b, b ∈ B → ad.block ≠ b) ∧ p
  | [], _, _, h => ⟨by simp, h⟩
  | b :: r, ad, p, ⟨h1, h2⟩ => by
    obtain ⟨h3, h4⟩ := offAnd_ok h2
    exact ⟨fun c hc => by rcases List.mem_cons.1 hc with rfl | hc'; exact h1; exact h3 c hc', h4⟩
theorem offSAnd_ok : ∀ {B : List Nat} {ad : Option Addr} {p : Prop}, offSAnd B ad p → (∀ b, b ∈ B → ∀ x, ad = some x → x.block ≠ b) ∧ p
  | [], _, _, h => ⟨by simp, h⟩
  | b :: r, ad, p, ⟨h1, h2⟩ => by
    obtain ⟨h3, h4⟩ := offSAnd_ok h2
    exact ⟨fun c hc => by rcases List.mem_cons.1 hc with rfl | hc'; exact h1; exact h3 c hc', h4⟩
theorem keepAnd_ok : ∀ {B : List Nat} {w w' : World} {p : Prop}, keepAnd B w w' p → (∀ b, b ∈ B → w'.heap[b]? = w.heap[b]?) ∧ p
  | [], _, _, _, h => ⟨by simp, h⟩
  | b :: r, w, w', p, ⟨h1, h2⟩ => by
    obtain ⟨h3, h4⟩ := keepAnd_ok h2
    exact ⟨fun c hc => by rcases List.mem_cons.1 hc with rfl | hc'; exact h1; exact h3 c hc', h4⟩

theorem vStore_ok {o : Oper} {t : TypeId} {x y : Operand} (ho : o.op = .store t x y) {K : St → Prop} {Q : Exit → Act → World → Prop} (h : vStore cx st o.dst t x y K) (hR : Rel cx st a w) :
    o.wp cx.P a w (EndsX cx st o w K) Q := by
  have hx := ev_ok hR x
  have hy := ev_ok hR y
  have he : execOp a.eval o = (do Instr.storeAt t (a.eval x) (a.eval y); pure .skip : Sem Next) := by simp only [execOp, ho]
  unfold vStore at h
  split at h
  · exact h.elim
  · rename_i ti hi
    split at h
    · rename_i v hv
      rw [hv] at hy
      simp only [SVok] at hy
      split at h
      · rename_i hl
        split at h
        · rename_i hone
          split at h
          · rename_i base off hb
            rw [hb] at hx
            obtain ⟨g, hg, hx'⟩ := hx
            split at h
            · exact h.elim
            · rename_i b hf
              have hgb : g = b.block := by simp [blM, hf] at hg; exact hg.symm
              subst hgb
              split at h
              · rename_i hle
                have hlen : off + (cellsL v).length ≤ b.size := by rw [beq_of hl]; exact ble_of hle
                obtain ⟨w', hs, hC, hL⟩ := hR.core.store (P := cx.P) hf hlen (allOne_ok hone)
                refine wp_unit he (w' := w') (by rw [hx', hy]; exact run_storeAt hi (beq_of hl) hs) ⟨fun y hy hne => ?_, putD_ok h ⟨by simpa using hC, hR.defers, ?_⟩ rfl ⟨[], rfl⟩⟩
                · obtain ⟨hmb, hbb⟩ := findBox_mem hf
                  have htg : tgt cx st o = some b.base := by simp only [tgt, ho, hb, hbb]
                  refine hL.block _ (hR.core.block_lt hy) fun hk => ?_
                  have hyb : y.block = b.block := by simpa using hk
                  rcases apart_two hR.core.apart b y hmb hy with rfl | ⟨hne', _⟩
                  · exact hne htg
                  · exact hne' hyb.symm
                simp only
                have hl0 := hR.loc
                refine ⟨hL.os.trans hl0.os, hL.tape.trans hl0.tape, hL.output.trans hl0.output, Nat.le_trans hl0.size hL.size, fun k hk hkb => ?_, fun c hc => Nat.lt_of_lt_of_le (hl0.mem c hc) hL.size⟩
                rw [hL.block k (Nat.lt_of_lt_of_le hk hl0.size) ?_]
                · exact hl0.block k hk hkb
                · intro hk'
                  have : k = b.block := by simpa using hk'
                  exact hkb (mem_blocksOf.2 ⟨b, (findBox_mem hf).1, this.symm⟩)
              · exact h.elim
          · rename_i ad hb
            rw [hb] at hx
            simp only [SVok] at hx
            obtain ⟨st', h, hR', hw, hdirty, _, hbm, _⟩ := flush_ok h hR
            obtain ⟨hst, h⟩ := h
            obtain ⟨hoff, h⟩ := offAnd_ok h
            rw [hw] at hst
            have hs := run_storeCells' (P := cx.P) ad (cellsL v) 0 w (allOne_ok hone) (fun j hj => by rw [Nat.zero_add]; exact hst j hj)
            refine wp_unit he (w' := setCells w ad (cellsL v)) (by rw [hx, hy]; exact run_storeAt hi (beq_of hl) hs) ?_
            have hkeep : ∀ x, x ∈ st'.bm ++ cx.bm → (setCells w ad (cellsL v)).heap[x.block]? = w.heap[x.block]? := fun x hx =>
              setCellsFrom_other _ _ (fun e => hoff x.block (mem_blocksOf.2 ⟨x, hx, rfl⟩) e.symm) _ _ _
            refine ⟨fun x hx _ => hkeep x (by rw [hbm]; exact hx), putD_ok h ?_ rfl ⟨[], hbm⟩⟩
            rw [hw]
            exact ⟨hR'.core.world hkeep, hR'.defers, by simp only [hdirty]⟩
          · exact h.elim
        · exact h.elim
      · exact h.elim
    · exact h.elim

/-! ### new variables -/

theorem vNew_ok {o : Oper} {t : TypeId} {vs : List Value} {row : Option Nat} {K : St → Prop} {Q : Exit → Act → World → Prop} (h : vNew cx st o.dst t vs row K) (hR : Rel cx st a w)
    {s : Sem Value} (he : execOp a.eval o = (do pure (.value (← s)) : Sem Next))
    (hs : s.run cx.P w = .ok (rowV row w.heap.size) (w.alloc (.cells vs.toArray t))) :
    o.wp cx.P a w (EndsX cx st o w K) Q := by
  unfold vNew at h
  split at h
  · exact h.elim
  · rename_i d hd
    split at h
    · rename_i base hb
      split at h
      · rename_i hroom
        have hl0 := hR.loc
        have h := h w.heap.size hl0.size
        have hC := hR.core.alloc (e := t) hroom
        refine wp_value he hs ⟨fun x hx _ => RowKit.Below.heap_alloc _ _ _ (hR.core.block_lt hx), ?_⟩
        rw [hd]
        refine putD_ok h ⟨by simpa using hC, hR.defers, ?_⟩ ?_ ⟨[_], rfl⟩
        · simp only [List.cons_append, blocksOf]
          refine ⟨hl0.os, hl0.tape, hl0.output, by simp; exact Nat.le_succ_of_le hl0.size, fun k hk hkb => ?_, fun c hc => ?_⟩
          · rw [RowKit.Below.heap_alloc _ _ _ (Nat.lt_of_lt_of_le hk hl0.size)]
            exact hl0.block k hk (fun h' => hkb (List.mem_cons_of_mem _ h'))
          · rcases List.mem_cons.1 hc with rfl | hc'
            · simp
            · have := hl0.mem c hc'
              simp
              omega
        · cases row with
          | none => exact ⟨w.heap.size, blM_cons_same, rfl⟩
          | some n => exact ⟨w.heap.size, blM_cons_same, rfl⟩
      · exact h.elim
    · obtain ⟨st', h, hR', hw, hdirty, _, hbm, _⟩ := flush_ok h hR
      refine wp_value he hs ⟨fun x hx _ => RowKit.Below.heap_alloc _ _ _ (hR.core.block_lt hx), ?_⟩
      rw [hd]
      rw [hw] at h
      refine putD_ok h ⟨hR'.core.world fun x hx => ?_, hR'.defers, by simp only [hdirty]⟩ (by cases row <;> rfl) ⟨[], hbm⟩
      exact RowKit.Below.heap_alloc _ _ _ (hR'.core.block_lt hx)

end
end Go.Vc

/- The operations that read or write memory, or call: soundness, second part. -/
namespace Go.Vc
open Go

section
variable {cx : Cx} {st : St} {a : Act} {w : World}

theorem vBuildSlice_ok {o : Oper} {t : TypeId} {len : Nat} {parts : Array (Nat × Operand)} (ho : o.op = .buildSlice t len parts) {K : St → Prop} {Q : Exit → Act → World → Prop}
    (h : vBuildSlice cx st o.dst t len parts K) (hR : Rel cx st a w) : o.wp cx.P a w (EndsX cx st o w K) Q := by
  have he : execOp a.eval o = (do pure (.value (← Instr.buildSlice t len (parts.map fun (i, x) => (i, a.eval x)))) : Sem Next) := by simp only [execOp, ho]
  unfold vBuildSlice at h
  split at h
  · rename_i e hu
    split at h
    · rename_i ie hie
      split at h
      · rename_i z hz
        split at h
        · rename_i hsz
          simp only [Bool.and_eq_true] at hsz
          have h1 := ble_of hsz.1
          have h2 := ble_of hsz.2
          split at h
          · rename_i vs hvs
            have e1 := partsOf_ok (ev_ok hR) _ _ hvs
            split at h
            · rename_i cells hc
              refine vNew_ok h hR he ?_
              have := run_buildSlice (P := cx.P) w t e len (parts.map fun (i, x) => (i, a.eval x)) cells ie z hu hie hz (by omega) (by omega) (by rw [Array.toList_map, e1]; exact hc)
              simpa [rowV] using this
            · exact h.elim
          · exact h.elim
        · exact h.elim
      · exact h.elim
    · exact h.elim
  · exact h.elim

/-! ### calls -/

theorem run_callFunc_enter {P : Program} {g : FuncId} {args : Array Value} (h : enterable P g = true) (w : World) : (callFunc g args).run P w = .ok (.enter g args) w := by
  unfold enterable at h
  split at h
  · rename_i fn hf
    simp only [Bool.and_eq_true, Bool.not_eq_true'] at h
    obtain ⟨h1, h2⟩ := h
    have h3 : ¬ fn.body = none := by
      intro hb
      simp [hb] at h2
    have h1' : ¬ fn.name = "runtime.NumGoroutine" := by simpa using h1
    simp [callFunc, hf, h1', h3]
  · cases h

theorem exTop_ok {z : Value} {K : Value → Prop} (h : exTop z K) : ∃ v, K v := by
  have comp : ∀ (z : Value) (K : Value → Prop), exComp z K → ∃ v, K v := by
    intro z K h
    unfold exComp at h
    split at h
    · obtain ⟨vs, _, h⟩ := exCells_ok _ _ h; exact ⟨_, h⟩
    · exact exCell_ok h
  have comps : ∀ (zs : List Value) (K : List Value → Prop), exComps zs K → ∃ vs, K vs := by
    intro zs
    induction zs with
    | nil => intro K h; exact ⟨[], h⟩
    | cons z r ih =>
      intro K h
      obtain ⟨v, h⟩ := comp z _ h
      obtain ⟨vs, h⟩ := ih _ h
      exact ⟨v :: vs, h⟩
  unfold exTop at h
  split at h
  · obtain ⟨vs, h⟩ := comps _ _ h; exact ⟨_, h⟩
  · exact comp _ _ h

/-- What a panic's end must be. -/
def PanicsTo (cx : Cx) (QP : List PanicEntry → St → Prop) (Q : Exit → Act → World → Prop) : Prop :=
  ∀ ch st a w, QP ch st → RelP cx st a w → Q (.panic ch) a w
/-- The same at one act. -/
def PanicsAt (cx : Cx) (QP : List PanicEntry → St → Prop) (Q : Exit → Act → World → Prop) (a : Act) : Prop :=
  ∀ ch st w, QP ch st → RelP cx st a w → Q (.panic ch) a w
theorem PanicsTo.at {cx : Cx} {QP : List PanicEntry → St → Prop} {Q : Exit → Act → World → Prop} (h : PanicsTo cx QP Q) (a : Act) : PanicsAt cx QP Q a := fun ch st w => h ch st a w

theorem vPost_ok {dst : Option Tmp} {z : Value} {pan : Bool} {K : St → Prop} {QP : List PanicEntry → St → Prop} {e : Ending} {w' : World} {Q : Exit → Act → World → Prop}
    (h : vPost cx st dst z pan K QP e w') (hR : Rel cx st a w) (hw : st.w = w) (hd : st.dirty = false) (hQ : PanicsAt cx QP Q a) :
    (∃ v, e = .returned v ∧ (∀ x, x ∈ st.bm ++ cx.bm → w'.heap[x.block]? = w.heap[x.block]?) ∧ Ends cx st.bm K (a.put dst v) w') ∨ ∃ ch, e = .panicked ch ∧ Q (.panic ch) a w' := by
  have ret : (exTop z fun v => e = .returned v ∧ keepAnd (blocksOf (st.bm ++ cx.bm)) st.w w' (putD cx dst (.val v) { st with w := w' } K)) → ∃ v, e = .returned v ∧ (∀ x, x ∈ st.bm ++ cx.bm → w'.heap[x.block]? = w.heap[x.block]?) ∧ Ends cx st.bm K (a.put dst v) w' := by
    intro h
    obtain ⟨v, he, h⟩ := exTop_ok h
    obtain ⟨hk, h⟩ := keepAnd_ok h
    have hkeep : ∀ x, x ∈ st.bm ++ cx.bm → w'.heap[x.block]? = w.heap[x.block]? := fun x hx => by
      rw [← hw]
      exact hk _ (mem_blocksOf.2 ⟨x, hx, rfl⟩)
    exact ⟨v, he, hkeep, putD_ok h ⟨hR.core.world hkeep, hR.defers, by simp only [hd]⟩ rfl ⟨[], rfl⟩⟩
  unfold vPost at h
  split at h
  · exact .inl (ret h)
  · rcases h with h | ⟨ch, he, h⟩
    · exact .inl (ret h)
    · exact .inr ⟨ch, he, hQ ch _ w' h ⟨hR.core.size, hR.core.slots, hR.defers, hd, rfl⟩⟩

theorem calls_end {st₀ : St} (hbm : st.bm = st₀.bm) {o : Oper} {g : FuncId} {args : Array Value} {z : Value} {pan : Bool} {K : St → Prop} {QP : List PanicEntry → St → Prop} {Q : Exit → Act → World → Prop}
    (hrun : (execOp a.eval o).run cx.P w = .ok (.enter g args) w) (h : Calls cx.P g args st.w (vPost cx st o.dst z pan K QP)) (hR : Rel cx st a w) (hw : st.w = w) (hd : st.dirty = false) (hQ : PanicsAt cx QP Q a) :
    o.wp cx.P a w (EndsX cx st₀ o w K) Q := by
  unfold Oper.wp
  rw [hrun, Oper.upon_enter]
  rw [hw] at h
  refine h.mono fun e w' hp => ?_
  rcases vPost_ok hp hR hw hd hQ with ⟨v, rfl, hk, h⟩ | ⟨ch, rfl, h⟩
  · exact ⟨fun x hx _ => hk x (by rw [hbm]; exact hx), by rw [← hbm]; exact h⟩
  · exact h

theorem vCallE_ok {o : Oper} {c : Call} {fo : Operand} (ho : o.op = .call c) (hc : c.callee = .value fo) {K : St → Prop} {QP : List PanicEntry → St → Prop} {Q : Exit → Act → World → Prop}
    (h : vCallE cx st o.dst o.type fo c.args.toList K QP) (hR : Rel cx st a w) (hQ : PanicsAt cx QP Q a) : o.wp cx.P a w (EndsX cx st o w K) Q := by
  have hf := ev_ok hR fo
  unfold vCallE at h
  split at h
  · exact h.elim
  · rename_i z hz
    split at h
    · exact h.elim
    · rename_i vs hvs
      have e1 := valsOf_ok (ev_ok hR) _ _ hvs
      have e2 : c.args.map a.eval = vs.toArray := by apply Array.ext'; simp [e1]
      have run : ∀ (g : FuncId) (first caps : Array Value), a.eval fo = .func (.func g) first caps → enterable cx.P g = true →
          (execOp a.eval o).run cx.P w = .ok (.enter g (first.toList ++ vs ++ caps.toList).toArray) w := by
        intro g first caps hv hen
        have e3 : first ++ vs.toArray ++ caps = (first.toList ++ vs ++ caps.toList).toArray := by apply Array.ext'; simp
        simp only [execOp, ho, resolve, hc, e2, hv, Deferred.ofValue, invoke, Sem.run_bind, Sem.run_pure, Result.andThen_ok]
        rw [run_callFunc_enter hen w, e3]
      split at h
      · rename_i g
        split at h
        · rename_i hen
          obtain ⟨st', h, hR', hw, hdirty, _, hbm, _⟩ := flush_ok h hR
          have := run g #[] #[] rfl hen
          simp only [List.nil_append, List.append_nil] at this
          exact calls_end hbm this h hR' hw hdirty hQ
        · exact h.elim
      · split at h
        · rename_i g first caps hfo
          rw [hfo] at hf
          simp only [SVok] at hf
          obtain ⟨st', h, hR', hw, hdirty, _, hbm, _⟩ := flush_ok h hR
          obtain ⟨hen, h⟩ := h
          exact calls_end hbm (run g first caps hf hen) h hR' hw hdirty hQ
        · exact h.elim

/-! ### append -/

theorem zeroCells_length (zs : Array Value) (n : Nat) : (Builtin.zeroCells zs n).size = n * zs.size := by simp [Builtin.zeroCells]

theorem growBy_le (need : Nat) : ∀ (r c B : Nat), c ≤ B → need + need / 4 + 192 ≤ B → Builtin.growBy need r c ≤ B
  | 0, c, B, h, _ => h
  | r + 1, c, B, h, h' => by
    unfold Builtin.growBy
    split
    · exact h
    · exact growBy_le need r _ B (by omega) h'

theorem nextcap_le (need cap : Nat) (h : cap < need) : Builtin.nextslicecap need cap ≤ 2 * need + 1024 := by
  unfold Builtin.nextslicecap
  split
  · omega
  · split
    · omega
    · exact growBy_le need 4 cap _ (by omega) (by omega)

theorem run_append_vc {P : Program} {t t2 ty e : TypeId} {ie : TypeInfo} {z : Value} {s : Sl} {x : Value} {n : Nat} {old vs : List Value} (hu : P.underlying t = some (.slice e)) (hie : P.info? e = some ie)
    (hz : ie.zero = some z) (hzl : (cellsL z).length = ie.size) (hb : 1 ≤ ie.bytes) {d2 : TypeDesc} (hu2 : P.underlying t2 = some d2) (hd2 : (∃ e2, d2 = .slice e2) ∨ d2 = .string)
    (hlen : ∀ w, (Builtin.lenOf x).run P w = .ok n w) (hcells : ∀ w' : World, w'.heap = w.heap → (Builtin.firstCells ie.size n x).run P w' = .ok vs.toArray w')
    (hvl : vs.length = n * ie.size) (hone : ∀ v, v ∈ vs → v.oneCell' = true) (hpre : AppPre w s ie.size ie.bytes n old) :
    ∃ s' w', (Builtin.append_ #[t, t2] ty #[.slice s.a s.len s.cap, x]).run P w = .ok (.slice s'.a s'.len s'.cap) w' ∧ AppRes w s ie.size e vs n old s' w' := by
  obtain ⟨sa, sl, sc⟩ := s
  have hsz := fun w => run_sizeOf (P := P) hie w
  have hty : ∀ w, (typeInfo e).run P w = .ok ie w := fun w => by simp [typeInfo, hie]
  by_cases hcap : sl + n ≤ sc
  · refine ⟨⟨sa, sl + n, sc⟩, appIn w sa (sl * ie.size) vs, ?_, .inl ⟨hcap, rfl, rfl⟩⟩
    cases sa with
    | none =>
      rcases hd2 with ⟨e2, rfl⟩ | rfl
      all_goals simp [Builtin.append_, run_underlying hu, run_underlying hu2, hsz, hlen, hcap, hcells w rfl, appIn]
    | some ad =>
      have hst := hpre.store hcap ad rfl
      have hs := run_storeCells' (P := P) (ad.add (sl * ie.size)) vs 0 w hone (fun j hj => by rw [Nat.zero_add]; exact hst j (by omega))
      rcases hd2 with ⟨e2, rfl⟩ | rfl
      all_goals (simp [Builtin.append_, run_underlying hu, run_underlying hu2, hsz, hlen, hcap, hcells w rfl, hs]; rfl)
  · have hlt : sc < sl + n := by omega
    have hroom := hpre.room
    simp only at hroom
    have hnext : ¬ (Builtin.nextslicecap (sl + n) sc * ie.bytes > 2 ^ 48) := by
      have h1 := nextcap_le (sl + n) sc hlt
      have h2 := Nat.mul_le_mul_right ie.bytes h1
      omega
    have hold : ∀ w' : World, w'.heap = w.heap → (Builtin.firstCells ie.size sl (.slice sa sl sc)).run P w' = .ok old.toArray w' := by
      intro w' hw'
      cases sa with
      | none => have := hpre.none rfl; subst this; rfl
      | some ad =>
        have hc := hpre.cells ad rfl
        have hl := hpre.len
        simp only at hl
        rw [Builtin.firstCells, ← hl]
        refine run_loadCells_list w' ad old fun j v hj => ?_
        have := hc j v hj
        simp only [World.cell?, hw'] at this ⊢
        exact this
    let q : Question := .appendCap (sl + n) sc e
    let c := q.cut (w.tape w.drawn q)
    have hc : sl + n ≤ c := Nat.le_add_right _ _
    refine ⟨⟨some ⟨w.heap.size, 0, none⟩, sl + n, c⟩, (w.drew).alloc (.cells (old ++ vs ++ (Builtin.zeroCells z.cells (c - (sl + n))).toList).toArray e), ?_, .inr ⟨hlt, c, (Builtin.zeroCells z.cells (c - (sl + n))).toList, hc, ?_, rfl, rfl⟩⟩
    · have hch : ∀ w'' : World, w'' = w → (choose q).run P w'' = .ok c w.drew := by
        intro w'' e
        subst e
        rw [run_choose]
        rfl
      have hneg : ¬ (((sl + n : Nat) : Int) > IntKind.i64.max ∧ ie.bytes = 0) := by omega
      rcases hd2 with ⟨e2, rfl⟩ | rfl
      all_goals
          (simp [Builtin.append_, run_underlying hu, run_underlying hu2, hsz, hlen, hty, zeroValue, hz, hcap, hnext, hold w.drew rfl, hcells w.drew rfl, newRow]
           rw [if_neg (by omega), if_neg (by simp [Question.forced])]
           congr 3
           apply Array.ext'
           simp [c, q])
    · rw [Array.length_toList, zeroCells_length]
      have : z.cells.size = ie.size := by rw [← hzl, ← cells_toList]; rfl
      rw [this]

end
end Go.Vc

/- The operations that read or write memory, or call: soundness, third part; all operations. -/
namespace Go.Vc
open Go

section
variable {cx : Cx} {st : St} {a : Act} {w : World}

theorem AppRes.keeps {s s' : Sl} {sz n : Nat} {e : TypeId} {vs old : List Value} {w' : World} (h : AppRes w s sz e vs n old s' w') {k : Nat} (hk : k < w.heap.size) (hb : ∀ x, s.a = some x → x.block ≠ k) :
    w'.heap[k]? = w.heap[k]? := by
  rcases h with ⟨_, _, rfl⟩ | ⟨_, c, rest, _, _, _, rfl⟩
  · unfold appIn
    split
    · rename_i ad had
      refine setCellsFrom_other _ _ ?_ _ _ _
      have := hb ad had
      unfold Addr.add
      split <;> exact fun e => this e.symm
    · rfl
  · exact RowKit.Below.heap_alloc _ _ _ hk

theorem append_end {st₀ : St} (hbm : st.bm = st₀.bm) {o : Oper} {c : Call} (ho : o.op = .call c) (hc : c.callee = .builtin .append) {x y : Operand} {t t2 : TypeId} (hx : c.args.toList = [x, y]) (ht : c.argTypes.toList = [t, t2])
    {s : Sl} {n : Nat} {old vs : List Value} {e : TypeId} {ie : TypeInfo} {z v : Value} {K : St → Prop} {Q : Exit → Act → World → Prop} {d2 : TypeDesc}
    (hu : cx.P.underlying t = some (.slice e)) (hie : cx.P.info? e = some ie) (hz : ie.zero = some z) (hzl : (cellsL z).length = ie.size) (hb : 1 ≤ ie.bytes)
    (hu2 : cx.P.underlying t2 = some d2) (hd2 : (∃ e2, d2 = .slice e2) ∨ d2 = .string) (hxv : a.eval x = .slice s.a s.len s.cap) (hyv : a.eval y = v)
    (hlen : ∀ w, (Builtin.lenOf v).run cx.P w = .ok n w) (hcells : ∀ w' : World, w'.heap = w.heap → (Builtin.firstCells ie.size n v).run cx.P w' = .ok vs.toArray w')
    (hvl : vs.length = n * ie.size) (hone : ∀ v, v ∈ vs → v.oneCell' = true) (hpre : AppPre w s ie.size ie.bytes n old)
    (hR : Rel cx st a w) (hw : st.w = w) (hd : st.dirty = false) (hoff : ∀ b, b ∈ blocksOf (st.bm ++ cx.bm) → ∀ x, s.a = some x → x.block ≠ b)
    (h : ∀ (s' : Sl) (w' : World), AppRes st.w s ie.size e vs n old s' w' → putD cx o.dst (.val (.slice s'.a s'.len s'.cap)) { st with w := w' } K) : o.wp cx.P a w (EndsX cx st₀ o w K) Q := by
  obtain ⟨s', w', hrun, hres⟩ := run_append_vc (P := cx.P) (ty := o.type) (w := w) hu hie hz hzl hb hu2 hd2 hlen hcells hvl hone hpre
  have e1 : c.args.map a.eval = #[.slice s.a s.len s.cap, v] := by
    have := args_two hx
    rw [this]
    simp [hxv, hyv]
  have e2 : c.argTypes = #[t, t2] := by apply Array.ext'; simpa using ht
  have hrun' : (execOp a.eval o).run cx.P w = .ok (.value (.slice s'.a s'.len s'.cap)) w' := by
    simp only [execOp, ho, resolve, hc, e1, e2, invoke, builtin, Sem.run_bind, Sem.run_pure, Result.andThen_ok, hrun]
  unfold Oper.wp
  rw [hrun']
  have hkeep : ∀ x, x ∈ st.bm ++ cx.bm → w'.heap[x.block]? = w.heap[x.block]? := fun x hx =>
    hres.keeps (hR.core.block_lt hx) (hoff x.block (mem_blocksOf.2 ⟨x, hx, rfl⟩))
  exact ⟨fun x hx _ => hkeep x (by rw [hbm]; exact hx), putD_ok (h s' w' (by rw [hw]; exact hres)) ⟨hR.core.world hkeep, hR.defers, by simp only [hd]⟩ rfl ⟨[], hbm⟩⟩

theorem vAppend_ok {o : Oper} {c : Call} (ho : o.op = .call c) (hc : c.callee = .builtin .append) {K : St → Prop} {Q : Exit → Act → World → Prop}
    (h : vAppend cx st o.dst c K) (hR : Rel cx st a w) : o.wp cx.P a w (EndsX cx st o w K) Q := by
  unfold vAppend at h
  split at h
  · rename_i x y t t2 hargs htys
    have hx := ev_ok hR x
    have hy := ev_ok hR y
    split at h
    · rename_i e hu
      split at h
      · rename_i ie hie
        split at h
        · rename_i z hz
          split at h
          · rename_i hb
            simp only [Bool.and_eq_true] at hb
            have hb1 := ble_of hb.1
            have hzl := beq_of hb.2
            split at h
            · rename_i sa sl sc hfx
              rw [hfx] at hx
              simp only [SVok] at hx
              split at h
              · rename_i e2 base n hu2 hfy
                rw [hfy] at hy
                obtain ⟨g, hg, hy'⟩ := hy
                split at h
                · rename_i b hf
                  have hgb : g = b.block := by simp [blM, hf] at hg; exact hg.symm
                  subst hgb
                  split at h
                  · rename_i hle
                    split at h
                    · rename_i vs hvs
                      split at h
                      · rename_i hone
                        obtain ⟨st', h, hR', hw, hdirty, henv, hbm, _⟩ := flush_ok h hR
                        obtain ⟨old, hpre, h⟩ := h
                        obtain ⟨hoff, h⟩ := offSAnd_ok h
                        rw [hw] at hpre
                        have hcl := box_cells (off := 0) hR.core hf (by rw [Nat.zero_add]; exact ble_of hle) (by rw [Nat.add_zero]; exact hvs)
                        have hl := (boxCells_ok _ _ _ hvs).1
                        refine append_end hbm ho hc hargs htys (s := ⟨sa, sl, sc⟩) (v := .slice (some ⟨b.block, 0, none⟩) n n) hu hie hz hzl hb1 hu2 (.inl ⟨e2, rfl⟩) hx hy' (fun w => rfl) (fun w' hw' => ?_) hl (allOne_ok hone) hpre hR' hw hdirty hoff h
                        rw [Builtin.firstCells, ← hl]
                        refine run_loadCells_list w' _ vs fun j v hj => ?_
                        have := hcl j v hj
                        simp only [World.cell?, hw'] at this ⊢
                        exact this
                      · exact h.elim
                    · exact h.elim
                  · exact h.elim
                · exact h.elim
              · rename_i e2 a2 n c2 hu2 hfy
                rw [hfy] at hy
                simp only [SVok] at hy
                obtain ⟨st', h, hR', hw, hdirty, henv, hbm, _⟩ := flush_ok h hR
                obtain ⟨old, vs, hsl, hone, hpre, h⟩ := h
                obtain ⟨hoff, h⟩ := offSAnd_ok h
                rw [hw] at hpre hsl
                refine append_end hbm ho hc hargs htys (s := ⟨sa, sl, sc⟩) (v := .slice a2 n c2) hu hie hz hzl hb1 hu2 (.inl ⟨e2, rfl⟩) hx hy (fun w => rfl) (fun w' hw' => ?_) hsl.len (allOne_ok hone) hpre hR' hw hdirty hoff h
                cases a2 with
                | none =>
                  have := hsl.none rfl
                  subst this
                  rfl
                | some ad =>
                  rw [Builtin.firstCells, ← hsl.len]
                  refine run_loadCells_list w' _ vs fun j v hj => ?_
                  have := hsl.some ad rfl j v hj
                  simp only [World.cell?, hw'] at this ⊢
                  exact this
              · rename_i s hu2 hfy
                rw [hfy] at hy
                simp only [SVok] at hy
                split at h
                · rename_i hsz
                  have hsz := beq_of hsz
                  obtain ⟨st', h, hR', hw, hdirty, henv, hbm, _⟩ := flush_ok h hR
                  obtain ⟨old, hpre, h⟩ := h
                  obtain ⟨hoff, h⟩ := offSAnd_ok h
                  rw [hw] at hpre
                  refine append_end hbm ho hc hargs htys (s := ⟨sa, sl, sc⟩) (v := .string s) hu hie hz hzl hb1 hu2 (.inr rfl) hx hy (fun w => rfl) (fun w' hw' => ?_) (by simp [bytesV, hsz]) (fun v hv => ?_) hpre hR' hw hdirty hoff h
                  · simp only [Builtin.firstCells, bytesV]
                    have e1 := bs_extract s 0 s.data.toList.length
                    rw [List.take_length, List.drop_zero, bs_eta] at e1
                    have e2 : s.extract 0 s.size = s := e1
                    show Sem.run cx.P (pure (Array.map (fun b => Value.int IntKind.u8 ↑b.toNat) (s.extract 0 s.size).data)) w' = _
                    rw [e2]
                    simp only [Sem.run_pure]
                    congr 1
                    apply Array.ext'
                    simp
                  · simp only [bytesV, List.mem_map] at hv
                    obtain ⟨b, _, rfl⟩ := hv
                    rfl
                · exact h.elim
              · exact h.elim
            · exact h.elim
          · exact h.elim
        · exact h.elim
      · exact h.elim
    · exact h.elim
  · exact h.elim

/-! ### texts and bytes -/

theorem bytes_fold (l : Bytes) : ∀ acc : ByteArray, (l.map fun b => (b.toNat : Int)).foldl (fun r n => r.push (UInt8.ofNat n.toNat)) acc = acc ++ bs l := by
  induction l with
  | nil => intro acc; apply ByteArray.ext; simp [bs, ByteArray.data_append]
  | cons b r ih =>
    intro acc
    simp only [List.map_cons, List.foldl_cons, ih]
    apply ByteArray.ext
    apply Array.ext'
    simp [bs, ByteArray.data_append]

theorem bytesToString_list {P : Program} (w : World) (ad : Addr) (l : Bytes) (c : Nat) (h : CellsAt w ad (bytesV l)) :
    (Conv.bytesToString (.slice (some ad) l.length c)).run P w = .ok (.string (bs l)) w := by
  have hl : (bytesV l).length = l.length := by simp [bytesV]
  have h1 := run_loadCells_list (P := P) w ad (bytesV l) h
  rw [hl] at h1
  have e : bytesV l = (l.map fun b => (b.toNat : Int)).map (Value.int .u8) := by simp [bytesV]
  rw [e] at h1
  rw [run_bytesToString w ad l.length c _ h1, bytes_fold]
  congr 2

theorem freeze_alloc_heap (w : World) (c : Array Value) (e : TypeId) (n : Nat) : ((w.alloc (.cells c e)).freeze ⟨w.heap.size, n, none⟩ 1).heap = w.heap.push (.cells c e (n, n + 1)) := by
  apply Array.ext_getElem?
  intro k
  show ((w.heap.push (.cells c e)).modify w.heap.size _)[k]? = _
  rw [Array.getElem?_modify]
  by_cases hk : w.heap.size = k
  · subst hk
    rw [if_pos rfl, Array.getElem?_push_size, Array.getElem?_push_size]
    rfl
  · rw [if_neg hk, Array.getElem?_push, if_neg (fun e => hk e.symm), Array.getElem?_push, if_neg (fun e => hk e.symm)]

theorem vToString_ok {o : Oper} {src dst e : TypeId} {x : Operand} (ho : o.op = .convert src dst x) (hs : cx.P.underlying src = some (.slice e)) (hd : cx.P.underlying dst = some .string) {K : St → Prop} {Q : Exit → Act → World → Prop}
    (h : vToString cx st o.dst e x K) (hR : Rel cx st a w) : o.wp cx.P a w (EndsX cx st o w K) Q := by
  have hx := ev_ok hR x
  have he : execOp a.eval o = (do pure (.value (← convert src dst (a.eval x))) : Sem Next) := by simp only [execOp, ho]
  unfold vToString at h
  split at h
  · rename_i sa n c hu hfx
    rw [hfx] at hx
    simp only [SVok] at hx
    obtain ⟨st', h, hR', hw, _, _, hbm, _⟩ := flush_ok h hR
    obtain ⟨l, hsl, h⟩ := h
    rw [hw] at hsl
    refine wp_value he (v := .string (bs l)) (w' := w) ?_ ⟨fun _ _ _ => rfl, putD_ok h hR' rfl ⟨[], hbm⟩⟩
    rw [hx, run_convert_bytes_string w src dst e sa n c hs hu hd]
    have hn := hsl.len
    simp only [bytesV, List.length_map] at hn
    subst hn
    cases sa with
    | none =>
      have := hsl.none rfl
      have hl : l = [] := by simpa [bytesV] using this
      subst hl
      rfl
    | some ad => exact bytesToString_list w ad l c (hsl.some ad rfl)
  · exact h.elim

theorem vToBytes_ok {o : Oper} {src dst e : TypeId} {x : Operand} (ho : o.op = .convert src dst x) (hs : cx.P.underlying src = some .string) (hd : cx.P.underlying dst = some (.slice e)) {K : St → Prop} {Q : Exit → Act → World → Prop}
    (h : vToBytes cx st o.dst e x K) (hR : Rel cx st a w) : o.wp cx.P a w (EndsX cx st o w K) Q := by
  have hx := ev_ok hR x
  have he : execOp a.eval o = (do pure (.value (← convert src dst (a.eval x))) : Sem Next) := by simp only [execOp, ho]
  unfold vToBytes at h
  split at h
  · rename_i s hu hfx
    rw [hfx] at hx
    simp only [SVok] at hx
    obtain ⟨st', h, hR', hw, hdirty, _, hbm, _⟩ := flush_ok h hR
    let q : Question := .appendCap s.size 0 e
    let c := q.cut (w.tape w.drawn q)
    have hc : s.size ≤ c := Nat.le_add_right _ _
    let rest : List Value := List.replicate (c - s.size) (.int .u8 0)
    let cells : Array Value := (bytesV s.data.toList ++ rest).toArray
    have hcs : cells.size = (bytesV s.data.toList ++ rest).length := by simp [cells]
    let w' : World := ((w.drew).alloc (.cells cells e)).freeze ⟨w.heap.size, cells.size, none⟩ 1
    have hheap : w'.heap = w.heap.push (.cells cells e (cells.size, cells.size + 1)) := freeze_alloc_heap w.drew cells e cells.size
    have hblock : w'.heap[w.heap.size]? = some (.cells cells e (cells.size, cells.size + 1)) := by
      rw [hheap]
      exact Array.getElem?_push_size
    have hold : ∀ k, k < w.heap.size → w'.heap[k]? = w.heap[k]? := by
      intro k hk
      rw [hheap, Array.getElem?_push, if_neg (by omega)]
    have hsize : w'.heap.size = w.heap.size + 1 := by rw [hheap]; simp
    have hrun : (convert src dst (a.eval x)).run cx.P w = .ok (.slice (some ⟨w.heap.size, 0, none⟩) s.size c) w' := by
      rw [hx]
      have hq : q.forced = false := rfl
      have hch : (choose q).run cx.P w = .ok c w.drew := by rw [run_choose, hq]; rfl
      have ecells : Array.map (fun b : UInt8 => Value.int .u8 (b.toNat : Int)) s.data ++ Array.replicate (c - s.size) (Value.int .u8 0) = cells := by
        apply Array.ext'
        simp [cells, bytesV, rest]
      simp only [convert, Sem.run_bind, run_underlying hs, run_underlying hd, run_underlying hu, Result.andThen_ok, Conv.stringToBytes]
      show ((choose q).run cx.P w).andThen _ = _
      rw [hch]
      have hsh : (w.drew.alloc (.cells cells e)).shape? w.heap.size = some (e, cells.size) := by
        show (match (w.heap.push _)[w.heap.size]? with | some (.cells c elem _) => some (elem, c.size) | _ => none) = _
        rw [Array.getElem?_push_size]
      simp [newRow, ecells, markStringish, hsh, w']
    refine wp_value he hrun ?_
    have hTB : ToBytes st'.w s.data.toList e ⟨some ⟨w.heap.size, 0, none⟩, s.data.toList.length, c⟩ w' := by
      rw [hw]
      refine ⟨⟨c, hc, rfl⟩, hold, hsize, rfl, rfl, rfl, ⟨rest, _, hblock, ?_, ?_⟩⟩
      · simp [rest]; omega
      · rw [← hcs]
    exact ⟨fun x hx _ => hold _ (hR.core.block_lt hx), putD_ok (h _ w' hTB) ⟨hR'.core.world fun x hx => hold _ (hR'.core.block_lt hx), hR'.defers, by simp only [hdirty]⟩ rfl ⟨[], hbm⟩⟩
  · exact h.elim

theorem vMakeSlice_ok {o : Oper} {t : TypeId} {l c : Operand} (ho : o.op = .makeSlice t l c) {K : St → Prop} {Q : Exit → Act → World → Prop}
    (h : vMakeSlice cx st o.dst t l c K) (hR : Rel cx st a w) : o.wp cx.P a w (EndsX cx st o w K) Q := by
  have he : execOp a.eval o = (do pure (.value (← Instr.makeSlice t (a.eval l) (a.eval c))) : Sem Next) := by simp only [execOp, ho]
  unfold vMakeSlice at h
  split at h
  · rename_i e hu
    split at h
    · rename_i ie hie
      split at h
      · rename_i z hz
        split at h
        · rename_i hzl
          split at h
          · rename_i l' c' hl hc
            obtain ⟨kl, hkl⟩ := intOf?_ok hl (ev_ok hR l)
            obtain ⟨kc, hkc⟩ := intOf?_ok hc (ev_ok hR c)
            obtain ⟨h1, h2, h3, h4, h⟩ := h
            obtain ⟨st', h, hR', hw, hdirty, _, hbm, _⟩ := flush_ok h hR
            rw [hw] at h
            have hrun := run_make (P := cx.P) w t e ie z hu hie hz kl kc l' c' h1 h2 h4 h3
            refine wp_value he (by rw [hkl, hkc]; exact hrun) ?_
            exact ⟨fun x hx _ => RowKit.Below.heap_alloc _ _ _ (hR.core.block_lt hx), putD_ok h ⟨hR'.core.world fun x hx => RowKit.Below.heap_alloc _ _ _ (hR'.core.block_lt hx), hR'.defers, by simp only [hdirty]⟩ rfl ⟨[], hbm⟩⟩
          · exact h.elim
        · exact h.elim
      · exact h.elim
    · exact h.elim
  · exact h.elim


/-- EVERY OPERATION. -/
theorem vOp_ok {o : Oper} {K : St → Prop} {QP : List PanicEntry → St → Prop} {Q : Exit → Act → World → Prop} (h : vOp cx o st K QP) (hR : Rel cx st a w) (hQ : PanicsAt cx QP Q a) :
    o.wp cx.P a w (EndsX cx st o w K) Q := by
  unfold vOp at h
  split at h
  · rename_i t x ho; exact vLoad_ok ho h hR
  · rename_i t x y ho; exact vStore_ok ho h hR
  · rename_i t ho
    split at h
    · rename_i z hz
      have he : execOp a.eval o = (do pure (.value (← Instr.alloc t true (.tuple #[]))) : Sem Next) := by simp only [execOp, ho]
      refine vNew_ok h hR he ?_
      cases hi : cx.P.info? t with
      | none => simp [hi] at hz
      | some ti =>
        simp only [hi, Option.bind_some] at hz
        have e : (cellsL z).toArray = z.cells := by apply Array.ext'; simp [← cells_toList]
        simp [Instr.alloc, zeroValue, typeInfo, hi, hz, newVar, newRow, rowV, e]
    · exact h.elim
  · rename_i t x ho
    have hx := ev_ok hR x
    split at h
    · rename_i v hv
      rw [hv] at hx
      simp only [SVok] at hx
      have he : execOp a.eval o = (do pure (.value (← Instr.box t (a.eval x))) : Sem Next) := by simp only [execOp, ho]
      refine vNew_ok h hR he ?_
      have e : (cellsL v).toArray = v.cells := by apply Array.ext'; simp [← cells_toList]
      simp [Instr.box, hx, newVar, newRow, rowV, e]
    · exact h.elim
  · rename_i t len parts ho; exact vBuildSlice_ok ho h hR
  · rename_i src dst x ho
    split at h
    · rename_i e hs hd; exact vToBytes_ok ho hs hd h hR
    · rename_i e hs hd; exact vToString_ok ho hs hd h hR
    · exact vT_end ho h hR
  · rename_i t l c ho; exact vMakeSlice_ok ho h hR
  · rename_i x ho
    have hx := ev_ok hR x
    split at h
    · rename_i t v hv
      rw [hv] at hx
      simp only [SVok] at hx
      obtain ⟨st', h, hR', hw, hd, _⟩ := flush_ok h hR
      unfold Oper.wp
      have : (execOp a.eval o).run cx.P w = .halt (.panic (.iface t v)) w := by simp [execOp, ho, hx, Instr.panic]
      rw [this]
      exact hQ _ st' w h ⟨hR'.core.size, hR'.core.slots, hR'.defers, hd, hw.symm⟩
    · exact h.elim
  · rename_i c ho
    split at h
    · rename_i fo hc
      have hf := ev_ok hR fo
      split at h
      · exact h.elim
      · rename_i vs hvs
        have e1 := valsOf_ok (ev_ok hR) _ _ hvs
        have e2 : c.args.map a.eval = vs.toArray := by apply Array.ext'; simp [e1]
        split at h
        · rename_i fn first caps hfo
          rw [hfo] at hf
          simp only [SVok] at hf
          have hrun : (execOp a.eval o).run cx.P w = .ok (.defer { target := .fn fn caps, args := (first.toList ++ vs).toArray }) w := by
            have e3 : first ++ vs.toArray = (first.toList ++ vs).toArray := by apply Array.ext'; simp
            simp only [execOp, ho, resolve, hc, e2, hf, Deferred.ofValue, Sem.run_bind, Sem.run_pure, Result.andThen_ok, e3]
          unfold Oper.wp
          rw [hrun]
          refine ⟨fun _ _ _ => rfl, putD_ok h ⟨hR.core.act rfl, ?_, hR.world⟩ rfl ⟨[], rfl⟩⟩
          simp only [hR.defers, List.cons_append]
        · exact h.elim
    · exact h.elim
  · rename_i c ho
    split at h
    · rename_i fo hc; exact vCallE_ok ho hc h hR hQ
    · rename_i hc; exact vAppend_ok ho hc h hR
    · exact vT_end ho h hR
  · exact vT_end rfl h hR

end
end Go.Vc

/- Regions that draw their order: one walk, in an order of our choice, serves every order that the edges allow. -/
namespace Go.Vc
open Go

def solidB : Cls → Bool
  | .bst _ => true
  | .e => true
  | .g => true
  | _ => false

def totalB (o : Oper) : Bool := match o.op with
  | .move _ => true
  | .assign _ => true
  | _ => false

def clsAt (cls : List Cls) (i : Nat) : Cls := cls.getD i .e

/-- May the read i be done before or behind the effect j? -/
def clsOk : Cls → Cls → Bool
  | .t, _ => true
  | .bl b, .bst b' => !(Nat.beq b b')
  | .bl _, .e => true
  | .h, .bst _ => true
  | .bl _, .g => true
  | .h, .g => true
  | _, _ => false

def closureB (ops : Array Oper) (i : Nat) : List Nat :=
  (List.range ops.size).foldl (fun acc j => match ops[j]? with
    | some o => if o.after.any (fun e => Region.binds .any e && (e.on == i || acc.contains e.on)) then j :: acc else acc
    | none => acc) []

def pairB (ops : Array Oper) (cls : List Cls) (i j : Nat) : Bool :=
  match ops[i]?, ops[j]? with
  | some oi, some oj => oi.apart ops oj && (if solidB (clsAt cls i) then totalB oj && !solidB (clsAt cls j) else !solidB (clsAt cls j) || clsOk (clsAt cls i) (clsAt cls j))
  | _, _ => true

def freeX (ops : Array Oper) (cls : List Cls) (listed : Array Bool) (i : Nat) : Bool :=
  let A := closureB ops i
  A.all (fun j => !(listed.getD j true) && j != i && match ops[j]? with
    | some o => o.after.any (fun e => Region.binds .any e && (e.on == i || A.contains e.on))
    | none => false) &&
  (List.range ops.size).all fun j => j == i || listed.getD j true || A.contains j || pairB ops cls i j

def orderB (ops : Array Oper) (cls : List Cls) : List Nat → Array Bool → Bool
  | [], listed => (Region.ready .any ops listed).isEmpty
  | i :: l, listed => (Region.ready .any ops listed).contains i && freeX ops cls listed i && orderB ops cls l (listed.setIfInBounds i true)

section
variable {P : Program} {ops : Array Oper} {cls : List Cls} {Q : Exit → Act → World → Prop} {pres : Nat → Nat → Prop}

/-- The operation yields this value in every world that is the same at the blocks F. -/
def Still (P : Program) (ops : Array Oper) (o : Oper) (F : Nat → Prop) (v : Value) (a : Act) (w : World) : Prop :=
  (Region.wanted o (yielded ops a.tmps) = true ∧ ∀ w' : World, (∀ b, F b → w'.heap[b]? = w.heap[b]?) → (execOp a.eval o).run P w' = .ok (.value v) w') ∨
  (Region.wanted o (yielded ops a.tmps) = false ∧ v = undef)

def opX (P : Program) (ops : Array Oper) (cls : List Cls) (Q : Exit → Act → World → Prop) (pres : Nat → Nat → Prop) (i : Nat) (K : Act → World → Prop) (a : Act) (w : World) : Prop :=
  match ops[i]? with
  | none => K a w
  | some o =>
    if Region.wanted o (yielded ops a.tmps) then
      if solidB (clsAt cls i) then o.wp P a w (fun a' w' => (∀ b, pres i b → w'.heap[b]? = w.heap[b]?) ∧ K a' w') Q
      else ∃ v, (execOp a.eval o).run P w = .ok (.value v) w ∧ K (a.put o.dst v) w
    else K (a.put o.dst undef) w

def anyX (P : Program) (ops : Array Oper) (cls : List Cls) (Q : Exit → Act → World → Prop) (pres : Nat → Nat → Prop) : Nat → Array Bool → Act → World → Prop
  | 0, listed, a, w => Region.ready .any ops listed = [] ∧ Q .normal a w
  | fuel + 1, listed, a, w =>
    (Region.ready .any ops listed = [] → Q .normal a w) ∧
    ∀ i ∈ Region.ready .any ops listed, opX P ops cls Q pres i (anyX P ops cls Q pres fuel (listed.setIfInBounds i true)) a w

/-- The walk in the order of our choice. -/
def walkX (P : Program) (ops : Array Oper) (cls : List Cls) (Q : Exit → Act → World → Prop) (pres : Nat → Nat → Prop) : List Nat → Act → World → Prop
  | [], a, w => Q .normal a w
  | i :: l, a, w => match ops[i]? with
    | none => False
    | some o =>
      if solidB (clsAt cls i) then
        if Region.wanted o (yielded ops a.tmps) then o.wp P a w (fun a' w' => (∀ b, pres i b → w'.heap[b]? = w.heap[b]?) ∧ walkX P ops cls Q pres l a' w') Q
        else walkX P ops cls Q pres l (a.put o.dst undef) w
      else ∃ F v, Still P ops o F v a w ∧ (∀ j, solidB (clsAt cls j) = true → clsOk (clsAt cls i) (clsAt cls j) = true → ∀ b, F b → pres j b) ∧ walkX P ops cls Q pres l (a.put o.dst v) w

theorem opX_mono {i : Nat} {K K' : Act → World → Prop} {a : Act} {w : World} (h : ∀ a w, K a w → K' a w) (hh : opX P ops cls Q pres i K a w) : opX P ops cls Q pres i K' a w := by
  unfold opX at *
  split
  · rename_i ho; simp only [ho] at hh; exact h _ _ hh
  · rename_i o ho
    simp only [ho] at hh
    split
    · rename_i hw
      simp only [hw, if_true] at hh
      split
      · rename_i hs
        simp only [hs, if_true] at hh
        exact Oper.wp_mono (fun a w h' => ⟨h'.1, h _ _ h'.2⟩) hh
      · rename_i hs
        simp only [hs] at hh
        obtain ⟨v, h1, h2⟩ := hh
        exact ⟨v, h1, h _ _ h2⟩
    · rename_i hw
      simp only [hw] at hh
      exact h _ _ hh

theorem wpAny_of_anyX : ∀ (fuel : Nat) (listed : Array Bool) (a : Act) (w : World), anyX P ops cls Q pres fuel listed a w → wpAny P .any ops Q fuel listed a w
  | 0, _, _, _, h => h
  | fuel + 1, listed, a, w, h => ⟨h.1, fun i hi => by
      have h2 := opX_mono (fun a w => wpAny_of_anyX fuel (listed.setIfInBounds i true) a w) (h.2 i hi)
      unfold opX at h2
      unfold wpOp
      split
      · rename_i ho; simp only [ho] at h2; exact h2
      · rename_i o ho
        simp only [ho] at h2
        split
        · rename_i hw
          simp only [hw, if_true] at h2
          split at h2
          · exact .inl (Oper.wp_mono (fun a w h' => h'.2) h2)
          · obtain ⟨v, h3, h4⟩ := h2
            refine .inl ?_
            unfold Oper.wp
            rw [h3]
            exact h4
        · rename_i hw
          simp only [hw] at h2
          exact h2⟩

/-- The end at a panic looks at no slot. -/
def Blind (ops : Array Oper) (Q : Exit → Act → World → Prop) : Prop := ∀ (i : Nat) o, ops[i]? = some o → ∀ ch (a : Act) (v : Value) w, Q (.panic ch) a w ↔ Q (.panic ch) (a.put o.dst v) w

theorem put_defers (a : Act) (d : Option Tmp) (v : Value) : (a.put d v).defers = a.defers := by cases d <;> rfl
theorem put_defer_comm (a : Act) (d : Option Tmp) (v : Value) (x : Deferred) : ({ a.put d v with defers := x :: (a.put d v).defers } : Act) = ({ a with defers := x :: a.defers } : Act).put d v := by cases d <;> rfl

theorem wp_put {o : Oper} {a : Act} {w : World} {K : Act → World → Prop} {d : Option Tmp} {v : Value} (hB : ∀ ch (a : Act) (v : Value) w, Q (.panic ch) a w ↔ Q (.panic ch) (a.put d v) w) (hx : execOp (a.put d v).eval o = execOp a.eval o) (hd : ∀ x, d = some x → o.dst ≠ some x) :
    o.wp P (a.put d v) w K Q ↔ o.wp P a w (fun a' w' => K (a'.put d v) w') Q := by
  unfold Oper.wp
  rw [hx]
  have hc : ∀ u, (a.put d v).put o.dst u = (a.put o.dst u).put d v := fun u => Act.put_comm a v u hd
  generalize (execOp a.eval o).run P w = r
  cases r with
  | ok n w' =>
    cases n <;> simp only [Oper.upon, hc]
    case enter f args =>
      constructor
      · intro h
        refine h.mono fun e w'' he => ?_
        cases e with
        | returned u => simp only at he; exact he
        | panicked ch => exact (hB ch a v w'').2 he
        | outgrown => exact he
      · intro h
        refine h.mono fun e w'' he => ?_
        cases e with
        | returned u => simp only; exact he
        | panicked ch => exact (hB ch a v w'').1 he
        | outgrown => exact he
    case «defer» x =>
      have : ({ a.put d v with defers := x :: (a.put d v).defers } : Act).put o.dst undef = (({ a with defers := x :: a.defers } : Act).put o.dst undef).put d v := by
        rw [put_defer_comm]
        exact Act.put_comm _ v undef hd
      rw [this]
  | halt x w' =>
    cases x <;> simp only [Oper.upon]
    exact (hB _ a v w').symm

theorem Still.put {o oj : Oper} {F : Nat → Prop} {v u : Value} {a : Act} {w : World} (h : Still P ops o F v a w) (hs : ∀ cs b, o.op ≠ .select cs b) (hap : o.apart ops oj = true) : Still P ops o F v (a.put oj.dst u) w := by
  obtain ⟨h1, h2, h3⟩ := Oper.apart_spec hap
  unfold Still at *
  rw [execOp_put o hs a oj.dst u h3, wanted_put o a oj.dst u h3]
  exact h
theorem Still.world {o : Oper} {F : Nat → Prop} {v : Value} {a : Act} {w w' : World} (h : Still P ops o F v a w) (hF : ∀ b, F b → w'.heap[b]? = w.heap[b]?) : Still P ops o F v a w' := by
  rcases h with ⟨h1, h2⟩ | h
  · exact .inl ⟨h1, fun w'' hw => h2 w'' fun b hb => (hw b hb).trans (hF b hb)⟩
  · exact .inr h

/-- What is known where i is taken first. -/
structure First (ops : Array Oper) (cls : List Cls) (i : Nat) (listed : Array Bool) (A : List Nat) : Prop where
  ready : i ∈ Region.ready .any ops listed
  notA : ∀ j, j ∈ A → listed.getD j true = false ∧ j ≠ i ∧ ∃ o, ops[j]? = some o ∧ ∃ e ∈ o.after, Region.binds .any e = true ∧ (e.on = i ∨ e.on ∈ A)
  pair : ∀ j, j < ops.size → j ≠ i → listed.getD j true = false → j ∉ A → pairB ops cls i j = true

theorem First.not_ready {i : Nat} {listed : Array Bool} {A : List Nat} (h : First ops cls i listed A) {j : Nat} (hj : j ∈ Region.ready .any ops listed) : j ∉ A := by
  intro hA
  obtain ⟨_, _, o, ho, e, he, hb, hon⟩ := h.notA j hA
  obtain ⟨_, o', ho', hall⟩ := mem_ready.1 hj
  have : o' = o := by rw [ho] at ho'; exact (Option.some.inj ho').symm
  subst this
  have hl := hall e he hb
  have hf : ∀ k : Nat, listed.getD k true = false → listed.getD k false = true → False := by
    intro k h1 h2
    by_cases hk : k < listed.size
    · simp [hk] at h1 h2; rw [h1] at h2; cases h2
    · simp [Array.getElem?_eq_none (Nat.le_of_not_lt hk)] at h1
  rcases hon with rfl | hon
  · exact hf _ (mem_ready.1 h.ready).1 hl
  · exact hf _ (h.notA _ hon).1 hl

theorem First.step {i : Nat} {listed : Array Bool} {A : List Nat} (h : First ops cls i listed A) {j : Nat} (hj : j ∈ Region.ready .any ops listed) (hne : j ≠ i) : First ops cls i (listed.setIfInBounds j true) A := by
  have hjA := h.not_ready hj
  refine ⟨ready_mono h.ready (Ne.symm hne), fun k hk => ?_, fun k hk hki hkl hkA => ?_⟩
  · obtain ⟨h1, h2, h3⟩ := h.notA k hk
    refine ⟨?_, h2, h3⟩
    rw [getD_set_ne true (fun e => hjA (by subst e; exact hk))]
    exact h1
  · refine h.pair k hk hki ?_ hkA
    by_cases hjk : j = k
    · subst hjk; exact (mem_ready.1 hj).1
    · rw [getD_set_ne true hjk] at hkl; exact hkl

theorem First.pairOf {i : Nat} {listed : Array Bool} {A : List Nat} (h : First ops cls i listed A) {j : Nat} {oi oj : Oper} (hi : ops[i]? = some oi) (hoj : ops[j]? = some oj) (hj : j ∈ Region.ready .any ops listed) (hne : j ≠ i) :
    oi.apart ops oj = true ∧ (if solidB (clsAt cls i) then totalB oj && !solidB (clsAt cls j) else !solidB (clsAt cls j) || clsOk (clsAt cls i) (clsAt cls j)) = true := by
  have := h.pair j (Array.getElem?_eq_some_iff.1 hoj).1 hne (mem_ready.1 hj).1 (h.not_ready hj)
  unfold pairB at this
  rw [hi, hoj] at this
  simpa only [Bool.and_eq_true] using this

/-- A READ may be taken first. -/
theorem first_read (hB : Blind ops Q) (hns : Region.noSelect ops = true) {i : Nat} {oi : Oper} {F : Nat → Prop} {v : Value} (hi : ops[i]? = some oi) (hsi : solidB (clsAt cls i) = false)
    (hF : ∀ j, solidB (clsAt cls j) = true → clsOk (clsAt cls i) (clsAt cls j) = true → ∀ b, F b → pres j b) :
    ∀ (fuel : Nat) (listed : Array Bool) (A : List Nat) (a : Act) (w : World), First ops cls i listed A → Still P ops oi F v a w →
      anyX P ops cls Q pres fuel (listed.setIfInBounds i true) (a.put oi.dst v) w → anyX P ops cls Q pres (fuel + 1) listed a w := by
  have hself : ∀ (K : Act → World → Prop) (a : Act) (w : World), Still P ops oi F v a w → K (a.put oi.dst v) w → opX P ops cls Q pres i K a w := by
    intro K a w hS hK
    unfold opX
    simp only [hi]
    rcases hS with ⟨h1, h2⟩ | ⟨h1, rfl⟩
    · simp only [h1, if_true, hsi, Bool.false_eq_true, if_false]
      exact ⟨v, h2 w (fun _ _ => rfl), hK⟩
    · simp only [h1, Bool.false_eq_true, if_false]
      exact hK
  intro fuel
  induction fuel with
  | zero =>
    intro listed A a w hf hS H
    refine ⟨fun h => (by have := hf.ready; rw [h] at this; cases this), fun j hj => ?_⟩
    by_cases hji : j = i
    · subst hji; exact hself _ a w hS H
    · have := ready_mono hj hji
      rw [H.1] at this
      cases this
  | succ fuel ih =>
    intro listed A a w hf hS H
    refine ⟨fun h => (by have := hf.ready; rw [h] at this; cases this), fun j hj => ?_⟩
    by_cases hji : j = i
    · subst hji; exact hself _ a w hS H
    · obtain ⟨_, oj, hoj, _⟩ := mem_ready.1 hj
      obtain ⟨hap, hcl⟩ := hf.pairOf hi hoj hj hji
      simp only [hsi, Bool.false_eq_true, if_false, Bool.or_eq_true, Bool.not_eq_true'] at hcl
      obtain ⟨ap1, ap2, ap3⟩ := Oper.apart_spec hap
      have hnsi := Region.noSelect_spec hns i oi
      have hnsj := Region.noSelect_spec hns j oj
      have h1 := H.2 j (ready_mono hj hji)
      have hf' := hf.step hj hji
      have hcomm : (listed.setIfInBounds i true).setIfInBounds j true = (listed.setIfInBounds j true).setIfInBounds i true := Array.setIfInBounds_comm _ _ (Ne.symm hji)
      rw [hcomm] at h1
      unfold opX at h1 ⊢
      simp only [hoj] at h1 ⊢
      rw [wanted_put oj a oi.dst v ap1] at h1
      split
      · rename_i hw
        simp only [hw, if_true] at h1
        split
        · rename_i hsj
          simp only [hsj, if_true] at h1
          rw [wp_put (hB i oi hi) (execOp_put oj (fun cs b => hnsj cs b hoj) a oi.dst v ap1) ap2] at h1
          have hpres : ∀ b, F b → pres j b := by
            refine hF j hsj ?_
            rcases hcl with hcl | hcl
            · rw [hsj] at hcl; cases hcl
            · exact hcl
          -- the operation does not look at i's slot, and leaves i still
          have key : oj.wp P a w (fun a' w' => ((∀ b, pres j b → w'.heap[b]? = w.heap[b]?) ∧ anyX P ops cls Q pres fuel ((listed.setIfInBounds j true).setIfInBounds i true) (a'.put oi.dst v) w') ∧ Still P ops oi F v a' w) Q := by
            have still : ∀ u, Still P ops oi F v (a.put oj.dst u) w := fun u => hS.put (fun cs b => hnsi cs b hi) hap
            unfold Oper.wp at h1 ⊢
            generalize (execOp a.eval oj).run P w = r at h1
            cases r with
            | ok n w' =>
              cases n <;> simp only [Oper.upon] at h1 ⊢
              case value u => exact ⟨h1, still u⟩
              case skip => exact ⟨h1, still undef⟩
              case enter f args =>
                refine h1.mono fun e w'' he => ?_
                cases e with
                | returned u => exact ⟨he, still u⟩
                | panicked ch => exact he
                | outgrown => exact he
              case row rw' args => exact h1.mono fun u w'' he => ⟨he, still u⟩
              case «defer» x =>
                refine ⟨h1, ?_⟩
                have := still undef
                unfold Still at this ⊢
                have e1 : (({ a with defers := x :: a.defers } : Act).put oj.dst undef).tmps = (a.put oj.dst undef).tmps := by cases oj.dst <;> rfl
                have e2 : (({ a with defers := x :: a.defers } : Act).put oj.dst undef).eval = (a.put oj.dst undef).eval := by
                  funext y; cases y <;> simp only [Act.eval, e1]
                rw [e1, e2]
                exact this
            | halt x w' => cases x <;> simp only [Oper.upon] at h1 ⊢ <;> exact h1
          exact Oper.wp_mono (fun a' w' h' => ⟨h'.1.1, ih (listed.setIfInBounds j true) A a' w' hf' (h'.2.world fun b hb => h'.1.1 b (hpres b hb)) h'.1.2⟩) key
        · rename_i hsj
          simp only [hsj] at h1
          obtain ⟨u, hu, hn⟩ := h1
          rw [execOp_put oj (fun cs b => hnsj cs b hoj) a oi.dst v ap1] at hu
          rw [Act.put_comm a v u ap2] at hn
          exact ⟨u, hu, ih _ A _ _ hf' (hS.put (fun cs b => hnsi cs b hi) hap) hn⟩
      · rename_i hw
        simp only [hw] at h1
        have hn := h1
        rw [if_neg Bool.false_ne_true, Act.put_comm a v undef ap2] at hn
        exact ih _ A _ _ hf' (hS.put (fun cs b => hnsi cs b hi) hap) hn


/-- What a move is. -/
theorem total_run {o : Oper} (h : totalB o = true) (_a : Act) : ∃ x, (∀ (a' : Act) (w : World), (execOp a'.eval o).run P w = .ok (.value (a'.eval x)) w) ∧ x ∈ o.op.operands.toList := by
  unfold totalB at h
  split at h
  · rename_i x hx; exact ⟨x, fun a' w => by simp [execOp, hx], by simp [hx, Op.operands]⟩
  · rename_i x hx; exact ⟨x, fun a' w => by simp [execOp, hx], by simp [hx, Op.operands]⟩
  · cases h

theorem looks_operand {o : Oper} {x : Operand} (hx : x ∈ o.op.operands.toList) {d : Nat} (hd : d ∉ o.looksAt ops) : x ≠ .tmp d := by
  intro e
  subst e
  exact hd (List.mem_append_left _ (List.mem_filterMap.2 ⟨.tmp d, hx, rfl⟩))

/-- What a move leaves in its slot. -/
noncomputable def totalV (ops : Array Oper) (o : Oper) (x : Operand) (a : Act) : Value := if Region.wanted o (yielded ops a.tmps) then a.eval x else undef

theorem opX_total {j : Nat} {oj : Oper} (hoj : ops[j]? = some oj) (hsj : solidB (clsAt cls j) = false) {x : Operand} (hx : ∀ (a' : Act) (w : World), (execOp a'.eval oj).run P w = .ok (.value (a'.eval x)) w)
    {K : Act → World → Prop} {a : Act} {w : World} : opX P ops cls Q pres j K a w ↔ K (a.put oj.dst (totalV ops oj x a)) w := by
  unfold opX totalV
  simp only [hoj]
  split
  · simp only [hsj, Bool.false_eq_true, if_false, hx]
    constructor
    · rintro ⟨v, hv, hK⟩
      simp only [Result.ok.injEq, Next.value.injEq, and_true] at hv
      subst hv
      exact hK
    · intro hK
      exact ⟨_, rfl, hK⟩
  · rfl

/-- m numbers at most are not listed yet. -/
def Cover (ops : Array Oper) (listed : Array Bool) (m : Nat) : Prop := ∃ S : List Nat, S.length ≤ m ∧ ∀ k, k < ops.size → listed.getD k true = false → k ∈ S

theorem Cover.step {listed : Array Bool} {m j : Nat} (h : Cover ops listed (m + 1)) (hj : j < ops.size) (hl : listed.getD j true = false) : Cover ops (listed.setIfInBounds j true) m := by
  obtain ⟨S, h1, h2⟩ := h
  have hjS := h2 j hj hl
  refine ⟨S.erase j, by have := List.length_erase_of_mem hjS; omega, fun k hk hkl => ?_⟩
  by_cases hjk : j = k
  · subst hjk
    exfalso
    by_cases hs : j < listed.size
    · simp [Array.getD_eq_getD_getElem?, hs] at hkl
    · simp [Array.getD_eq_getD_getElem?, Array.getElem?_eq_none (Nat.le_of_not_lt hs)] at hl
  · rw [getD_set_ne true hjk] at hkl
    exact (List.mem_erase_of_ne (Ne.symm hjk)).2 (h2 k hk hkl)

/-- AN EFFECT may be taken first where only moves are left beside it. -/
theorem first_effect (hB : Blind ops Q) (hns : Region.noSelect ops = true) {i : Nat} {oi : Oper} (hi : ops[i]? = some oi) (hsi : solidB (clsAt cls i) = true) :
    ∀ (fuel : Nat) (listed : Array Bool) (A : List Nat) (a : Act) (w : World), First ops cls i listed A → Cover ops listed (fuel + 1) →
      opX P ops cls Q pres i (anyX P ops cls Q pres fuel (listed.setIfInBounds i true)) a w → anyX P ops cls Q pres (fuel + 1) listed a w := by
  intro fuel
  induction fuel with
  | zero =>
    intro listed A a w hf hcov H
    refine ⟨fun h => (by have := hf.ready; rw [h] at this; cases this), fun j hj => ?_⟩
    by_cases hji : j = i
    · subst hji; exact H
    · exfalso
      obtain ⟨S, h1, h2⟩ := hcov
      obtain ⟨hjl, oj, hoj, _⟩ := mem_ready.1 hj
      have hjS := h2 j (Array.getElem?_eq_some_iff.1 hoj).1 hjl
      have hiS := h2 i (Array.getElem?_eq_some_iff.1 hi).1 (mem_ready.1 hf.ready).1
      match S, h1, hjS, hiS with
      | [], _, hjS, _ => cases hjS
      | [x], _, hjS, hiS =>
        simp at hjS hiS
        exact hji (hjS.trans hiS.symm)
      | _ :: _ :: _, h1, _, _ => simp at h1
  | succ fuel ih =>
    intro listed A a w hf hcov H
    refine ⟨fun h => (by have := hf.ready; rw [h] at this; cases this), fun j hj => ?_⟩
    by_cases hji : j = i
    · subst hji; exact H
    · obtain ⟨_, oj, hoj, _⟩ := mem_ready.1 hj
      obtain ⟨hap, hcl⟩ := hf.pairOf hi hoj hj hji
      simp only [hsi, if_true, Bool.and_eq_true, Bool.not_eq_true'] at hcl
      obtain ⟨htot, hsj⟩ := hcl
      obtain ⟨ap1, ap2, ap3⟩ := Oper.apart_spec hap
      obtain ⟨x, hx, hxo⟩ := total_run (P := P) htot a
      have hjr := ready_mono hj hji
      have hf' := hf.step hj hji
      have hnsi := Region.noSelect_spec hns i oi
      rw [opX_total hoj hsj hx]
      refine ih (listed.setIfInBounds j true) A _ w hf' (hcov.step (Array.getElem?_eq_some_iff.1 hoj).1 (mem_ready.1 hj).1) ?_
      -- i first, then j: turned round
      have hcomm : (listed.setIfInBounds i true).setIfInBounds j true = (listed.setIfInBounds j true).setIfInBounds i true := Array.setIfInBounds_comm _ _ (Ne.symm hji)
      generalize hu : totalV ops oj x a = u
      have hval : ∀ (v : Value), totalV ops oj x (a.put oi.dst v) = u := by
        intro v
        rw [← hu]
        unfold totalV
        rw [wanted_put oj a oi.dst v ap1, Act.eval_put fun d hd => looks_operand hxo (ap1 d hd)]
      have after : ∀ v w', anyX P ops cls Q pres (fuel + 1) (listed.setIfInBounds i true) (a.put oi.dst v) w' → anyX P ops cls Q pres fuel ((listed.setIfInBounds j true).setIfInBounds i true) ((a.put oj.dst u).put oi.dst v) w' := by
        intro v w' h
        have h2 := h.2 j hjr
        rw [opX_total hoj hsj hx, hval v, hcomm, Act.put_comm a v u ap2] at h2
        exact h2
      unfold opX at H ⊢
      simp only [hi] at H ⊢
      rw [wanted_put oi a oj.dst u ap3]
      split
      · rename_i hw
        simp only [hw, if_true] at H
        simp only [hsi, if_true] at H ⊢
        have hd' : ∀ d, oj.dst = some d → oi.dst ≠ some d := fun d hd he => ap2 d he hd
        rw [wp_put (hB j oj hoj) (execOp_put oi (fun cs b => hnsi cs b hi) a oj.dst u ap3) hd']
        unfold Oper.wp at H ⊢
        have after' : ∀ v w', anyX P ops cls Q pres (fuel + 1) (listed.setIfInBounds i true) (a.put oi.dst v) w' → anyX P ops cls Q pres fuel ((listed.setIfInBounds j true).setIfInBounds i true) ((a.put oi.dst v).put oj.dst u) w' := by
          intro v w' h
          rw [Act.put_comm a v u ap2]
          exact after v w' h
        generalize (execOp a.eval oi).run P w = r at H
        cases r with
        | ok n w' =>
          cases n <;> simp only [Oper.upon] at H ⊢
          case value v => exact ⟨H.1, after' v w' H.2⟩
          case skip => exact ⟨H.1, after' undef w' H.2⟩
          case enter f args =>
            refine H.mono fun e w'' he => ?_
            cases e with
            | returned v => exact ⟨he.1, after' v w'' he.2⟩
            | panicked ch => exact he
            | outgrown => exact he
          case row rw' args => exact H.mono fun v w'' he => ⟨he.1, after' v w'' he.2⟩
          case «defer» y =>
            refine ⟨H.1, ?_⟩
            have h2 := H.2.2 j hjr
            rw [opX_total hoj hsj hx, hcomm] at h2
            have e1 : totalV ops oj x (({ a with defers := y :: a.defers } : Act).put oi.dst undef) = u := by
              rw [← hval undef]
              unfold totalV
              have e1 : (({ a with defers := y :: a.defers } : Act).put oi.dst undef).tmps = (a.put oi.dst undef).tmps := by cases oi.dst <;> rfl
              have e2 : (({ a with defers := y :: a.defers } : Act).put oi.dst undef).eval = (a.put oi.dst undef).eval := by
                funext z; cases z <;> simp only [Act.eval, e1]
              rw [e1, e2]
            rw [e1] at h2
            exact h2
        | halt x w' => cases x <;> simp only [Oper.upon] at H ⊢ <;> exact H
      · rename_i hw
        simp only [hw] at H
        exact after undef w (by simpa using H)


theorem freeX_first {listed : Array Bool} {i : Nat} (hr : i ∈ Region.ready .any ops listed) (h : freeX ops cls listed i = true) : First ops cls i listed (closureB ops i) := by
  simp only [freeX, Bool.and_eq_true, List.all_eq_true, Bool.not_eq_true', bne_iff_ne, Bool.or_eq_true, beq_iff_eq, List.contains_iff_mem, List.mem_range] at h
  obtain ⟨h1, h2⟩ := h
  refine ⟨hr, fun j hj => ?_, fun j hj hji hjl hjA => ?_⟩
  · obtain ⟨⟨g1, g2⟩, g3⟩ := h1 j hj
    refine ⟨g1, g2, ?_⟩
    cases ho : ops[j]? with
    | none => simp [ho] at g3
    | some o =>
      simp only [ho, Array.any_eq_true, Bool.and_eq_true, Bool.or_eq_true, beq_iff_eq, List.contains_iff_mem] at g3
      obtain ⟨k, hk, g4, g5⟩ := g3
      exact ⟨o, rfl, o.after[k], Array.getElem_mem hk, g4, g5⟩
  · rcases h2 j hj with ((h3 | h3) | h3) | h3
    · exact absurd h3 hji
    · rw [hjl] at h3; cases h3
    · exact absurd h3 hjA
    · exact h3

/-- **ONE WALK SERVES EVERY ORDER.** -/
theorem walk_any (hB : Blind ops Q) (hns : Region.noSelect ops = true) : ∀ (l : List Nat) (listed : Array Bool) (a : Act) (w : World), orderB ops cls l listed = true → Cover ops listed l.length →
    walkX P ops cls Q pres l a w → anyX P ops cls Q pres l.length listed a w
  | [], listed, a, w, h, _, hw => ⟨by simpa [orderB] using h, hw⟩
  | i :: l, listed, a, w, h, hc, hw => by
    simp only [orderB, Bool.and_eq_true, List.contains_iff_mem] at h
    obtain ⟨⟨hr, hfr⟩, hrest⟩ := h
    have hf := freeX_first hr hfr
    obtain ⟨hil, oi, hoi, _⟩ := mem_ready.1 hr
    have hi' := (Array.getElem?_eq_some_iff.1 hoi).1
    have hc' : Cover ops (listed.setIfInBounds i true) l.length := Cover.step hc hi' hil
    have ih := fun a w => walk_any hB hns l (listed.setIfInBounds i true) a w hrest hc'
    simp only [walkX, hoi] at hw
    by_cases hsi : solidB (clsAt cls i) = true
    · simp only [hsi, if_true] at hw
      refine first_effect hB hns hoi hsi l.length listed _ a w hf hc ?_
      unfold opX
      simp only [hoi, hsi, if_true]
      split
      · rename_i hwn
        simp only [hwn, if_true] at hw
        exact Oper.wp_mono (fun a w h' => ⟨h'.1, ih a w h'.2⟩) hw
      · rename_i hwn
        simp only [hwn] at hw
        exact ih _ w (by simpa using hw)
    · have hsi' : solidB (clsAt cls i) = false := by simpa using hsi
      simp only [hsi', Bool.false_eq_true, if_false] at hw
      obtain ⟨F, v, hS, hF, hw⟩ := hw
      exact first_read hB hns hoi hsi' hF l.length listed _ a w hf hS (ih _ w hw)

theorem wp_region_walk {id : Nat} {π : List Nat} {a : Act} {w : World} (hm : P.follows .mixedOrders = true) (hB : Blind ops Q) (hns : Region.noSelect ops = true)
    (ho : orderB ops cls π (Array.replicate ops.size false) = true) (hl : π.length = ops.size) (hp : (List.range ops.size).all (fun k => π.contains k) = true)
    (h : walkX P ops cls Q pres π a { w with drawn := w.drawn + 1 }) : (Code.region id ops true).wp P Q a w := by
  refine wp_region_any hm (wpAny_of_anyX (cls := cls) (pres := pres) _ _ _ _ ?_)
  rw [← hl]
  refine walk_any hB hns π _ a _ (by rw [hl]; exact ho) ⟨π, Nat.le_refl _, fun k hk _ => ?_⟩ h
  simp only [List.all_eq_true, List.mem_range, List.contains_iff_mem] at hp
  exact hp k hk

end
end Go.Vc

/- Regions and code: their conditions. -/
namespace Go.Vc
open Go

def firstReg : Code → Option Nat
  | .region id _ _ => some id
  | .seq a _ => firstReg a
  | .block _ c => firstReg c
  | .loop c => firstReg c
  | .scope c => firstReg c
  | _ => none

def keysIn (ks : List Nat) : Env → Bool
  | [] => true
  | (k, _) :: r => match memN ks k with
    | true => keysIn ks r
    | false => false

def liveEnv : List (Nat × Value) → List Value → Env
  | (i, _) :: r, v :: vs => (i, .val v) :: liveEnv r vs
  | _, _ => []

def junkEnv : List Nat → Env
  | [] => []
  | i :: r => (i, .junk) :: junkEnv r

def zerosOf : List (Nat × Value) → List Value
  | [] => []
  | (_, z) :: r => z :: zerosOf r

def slotsOf : List (Nat × Value) → List Nat
  | [] => []
  | (i, _) :: r => i :: slotsOf r

def valsAt (E : Env) : List (Nat × Value) → Option (List Value)
  | [] => some []
  | (i, _) :: r => match look E i with
    | .val v => match valsAt E r with
      | some vs => some (v :: vs)
      | none => none
    | _ => none

def isNil {α : Type} : List α → Bool
  | [] => true
  | _ :: _ => false

def dstsOf : List Oper → List Nat
  | [] => []
  | o :: r => match o.dst with
    | some d => d :: dstsOf r
    | none => dstsOf r

def dstAt (ops : List Oper) (j : Nat) : Option Tmp := match ops[j]? with
  | some o => o.dst
  | none => none

section
variable (cx : Cx)

/-- A guard: 'run' where the operation is wanted, 'skip' else. -/
def vGuard (ops : List Oper) (o : Oper) (st : St) (run skip : St → Prop) : Prop :=
  match o.guard with
  | none => run st
  | some (j, want) => match dstAt ops j with
    | none => skip st
    | some d => match get cx st d with
      | .val (.bool b) => match want with
        | true => br b (run { st with env := (d, .val (.bool true)) :: st.env }) (skip { st with env := (d, .val (.bool false)) :: st.env })
        | false => br b (skip { st with env := (d, .val (.bool true)) :: st.env }) (run { st with env := (d, .val (.bool false)) :: st.env })
      | .val (.tuple _) => skip st
      | _ => False

def vOps (ops : List Oper) : List Oper → St → (St → Prop) → (List PanicEntry → St → Prop) → Prop
  | [], st, K, _ => K st
  | o :: r, st, K, QP => vGuard cx ops o st
      (fun st => vOp cx o st (fun st => vOps ops r st K QP) QP)
      (fun st => putD cx o.dst (.val undef) st (fun st => vOps ops r st K QP))

def bstBases : List Cls → List Nat
  | [] => []
  | .bst b :: r => b :: bstBases r
  | _ :: r => bstBases r

def blocksAt (M : List Box) : List Nat → List Nat
  | [] => []
  | b :: r => match findBox M b with
    | some x => x.block :: blocksAt M r
    | none => blocksAt M r

def hasG : List Cls → Bool
  | [] => false
  | .g :: _ => true
  | _ :: r => hasG r

/-- An operation of a region that draws, by its class. 'M': the boxes at the region's beginning. -/
def vOpC (M : List Box) (w₀ : World) (cls : List Cls) (c : Cls) (o : Oper) (st : St) (K : St → Prop) (QP : List PanicEntry → St → Prop) : Prop :=
  match c with
  | .t => vT cx.P (ev cx st) o.op fun sv => putD cx o.dst sv st K
  | .bl base => match o.op with
    | .load t x => match ev cx st x with
      | .box b _ => match Nat.beq b base with
        | true => match findBox M base with
          | some _ => vLoad cx st o.dst t x K
          | none => False
        | false => False
      | _ => False
    | _ => False
  | .h => match o.op with
    | .load t x => match ev cx st x with
      | .val (.pointer (some a)) => match hasG cls with
        | true => a.block < w₀.heap.size ∧ offAnd (blocksAt M (bstBases cls)) a (vLoad cx st o.dst t x K)
        | false => offAnd (blocksAt M (bstBases cls)) a (vLoad cx st o.dst t x K)
      | _ => False
    | _ => False
  | .bst base => match o.op with
    | .store t x y => match ev cx st x with
      | .box b _ => match Nat.beq b base with
        | true => match findBox M base with
          | some _ => vStore cx st o.dst t x y K
          | none => False
        | false => False
      | _ => False
    | _ => False
  | .e => match tgt cx st o with
    | none => vOp cx o st K QP
    | some _ => False
  | .g => match tgt cx st o with
    | none => match st.dirty with
      | true => False
      | false => vOp cx o st (fun st' => match st'.dirty with
        | true => False
        | false => (∀ k, k < w₀.heap.size → st'.w.heap[k]? = st.w.heap[k]?) ∧ K st') QP
    | some _ => False

def vWalk (M : List Box) (w₀ : World) (ops : List Oper) (cls : List Cls) : List Nat → St → (St → Prop) → (List PanicEntry → St → Prop) → Prop
  | [], st, K, _ => K st
  | i :: l, st, K, QP => match ops[i]? with
    | none => False
    | some o => vGuard cx ops o st
      (fun st => vOpC cx M w₀ cls (clsAt cls i) o st (fun st => vWalk M w₀ ops cls l st K QP) QP)
      (fun st => putD cx o.dst (.val undef) st (fun st => vWalk M w₀ ops cls l st K QP))

def drawOk (ops : Array Oper) (cls : List Cls) (π : List Nat) : Bool :=
  Region.noSelect ops && orderB ops cls π (Array.replicate ops.size false) && π.length == ops.size && (List.range ops.size).all (fun k => π.contains k)

def vDraw (id : Nat) (ops : Array Oper) (st : St) (K : St → Prop) (QP : List PanicEntry → St → Prop) : Prop :=
  match assoc cx.an.draws id with
  | none => False
  | some (π, cls) => match drawOk ops cls π && cx.P.follows .mixedOrders with
    | true => flush cx { st with dirty := true } fun st => vWalk cx (st.bm ++ cx.bm) st.w ops.toList cls π st K
        (fun ch st' => QP ch { st with env := junkEnv (dstsOf ops.toList) ++ st.env, w := st'.w, defers := st'.defers })
    | false => False

end

/-- The frame around: what was inner goes out. -/
def inner (cx : Cx) (layer : Env) (st : St) : Cx := { cx with env := layer ++ (st.env ++ cx.env), bm := st.bm ++ cx.bm, dfs := st.defers ++ cx.dfs }

/-- Back out. -/
def outer (layer : Env) (st st' : St) : St := { st' with env := st'.env ++ (layer ++ st.env), bm := st'.bm ++ st.bm, defers := st'.defers ++ st.defers }

def layerOf (live : List (Nat × Value)) (junk : List Nat) (vs : List Value) : Env := liveEnv live vs ++ junkEnv junk

/-- The condition of a piece of code. 'blk': the block's number around it. -/
def vc : Code → Cx → Nat → St → (Exit → St → Prop) → Prop
  | .skip, _, _, st, Q => Q .normal st
  | .label _, _, _, st, Q => Q .normal st
  | .region id ops draw, cx, _, st, Q => match draw with
    | false => vOps cx ops.toList ops.toList st (Q .normal) (fun ch st => Q (.panic ch) st)
    | true => vDraw cx id ops st (Q .normal) (fun ch st => Q (.panic ch) st)
  | .seq x y, cx, blk, st, Q => match (firstReg y).bind (assoc cx.an.cuts) with
    | none => vc x cx blk st fun e st' => match e with
      | .normal => vc y cx blk st' Q
      | .exit i => Q (.exit i) st'
      | .goto i => Q (.goto i) st'
      | .ret => Q .ret st'
      | .panic ch => Q (.panic ch) st'
      | .outgrown => Q .outgrown st'
    | some (live, junk) => ∃ J : Shaped (World → Prop) (zerosOf live),
      (vc x (inner cx [] st) blk { st with env := [], bm := [], defers := [] } fun e st' => match e with
        | .normal => flush (inner cx [] st) st' fun st'' => match keysIn (slotsOf live ++ junk) st''.env && isNil st''.defers with
          | true => match valsAt (st''.env ++ (inner cx [] st).env) live with
            | some vs => Shaped.app (fun _ => False) (zerosOf live) J vs st''.w
            | none => False
          | false => False
        | .exit i => Q (.exit i) (outer [] st st')
        | .goto i => Q (.goto i) (outer [] st st')
        | .ret => Q .ret (outer [] st st')
        | .panic ch => Q (.panic ch) (outer [] st st')
        | .outgrown => Q .outgrown (outer [] st st')) ∧
      allCells (zerosOf live) fun vs => ∀ w : World, Shaped.app (fun _ => False) (zerosOf live) J vs w →
        vc y cx blk { st with env := layerOf live junk vs ++ st.env, w := w, dirty := false } Q
  | .cond c x y, cx, blk, st, Q => match ev cx st c with
    | .val (.bool b) => br b (vc x cx blk st Q) (vc y cx blk st Q)
    | _ => False
  | .block id c, cx, _, st, Q => vc c cx id st fun e st' => match e with
    | .normal => Q .normal st'
    | .exit i => match Nat.beq i id with
      | true => Q .normal st'
      | false => Q (.exit i) st'
    | .goto i => Q (.goto i) st'
    | .ret => Q .ret st'
    | .panic ch => Q (.panic ch) st'
    | .outgrown => Q .outgrown st'
  | .loop c, cx, blk, st, Q => match assoc cx.an.loops blk with
    | none => False
    | some (live, junk) => flush cx st fun st => ∃ (J : Shaped (Nat → World → Prop) (zerosOf live)) (n₀ : Nat),
      (match valsAt (st.env ++ cx.env) live with
        | some vs => Shaped.app (fun _ _ => False) (zerosOf live) J vs n₀ st.w
        | none => False) ∧
      allCells (zerosOf live) fun vs => ∀ (n : Nat) (w : World), Shaped.app (fun _ _ => False) (zerosOf live) J vs n w →
        vc c (inner cx (layerOf live junk vs) st) blk { st with env := [], bm := [], defers := [], w := w, dirty := false } fun e st' => match e with
          | .normal => flush (inner cx (layerOf live junk vs) st) st' fun st'' => match keysIn (slotsOf live ++ junk) st''.env && isNil st''.defers with
            | true => match valsAt (st''.env ++ (inner cx (layerOf live junk vs) st).env) live with
              | some vs' => ∃ m, m < n ∧ Shaped.app (fun _ _ => False) (zerosOf live) J vs' m st''.w
              | none => False
            | false => False
          | .exit i => Q (.exit i) (outer (layerOf live junk vs) st st')
          | .goto i => Q (.goto i) (outer (layerOf live junk vs) st st')
          | .ret => Q .ret (outer (layerOf live junk vs) st st')
          | .panic ch => Q (.panic ch) (outer (layerOf live junk vs) st st')
          | .outgrown => Q .outgrown (outer (layerOf live junk vs) st st')
  | .exit id, _, _, st, Q => Q (.exit id) st
  | .ret, _, _, st, Q => Q .ret st
  | .scope c, cx, blk, st, Q => vc c cx blk st fun e st' => match e with
    | .normal => Q .normal st'
    | .exit i => Q (.exit i) st'
    | .goto _ => False
    | .ret => Q .ret st'
    | .panic ch => Q (.panic ch) st'
    | .outgrown => Q .outgrown st'
  | _, _, _, _, _ => False

end Go.Vc

/- Regions: soundness. -/
namespace Go.Vc
open Go

section
variable {cx : Cx} {st : St} {a : Act} {w : World}

theorem Rel.tell (hR : Rel cx st a w) {d : Nat} (hd : d < cx.N) {sv : SV} (hv : SVok (blM (st.bm ++ cx.bm)) sv (a.tmps.getD d undef)) : Rel cx { st with env := (d, sv) :: st.env } a w :=
  ⟨hR.core.tell hd hv, hR.defers, hR.world⟩

theorem get_ok (hR : Rel cx st a w) {d : Nat} {v : Value} (h : get cx st d = .val v) : d < cx.N ∧ a.tmps.getD d undef = v := by
  unfold get at h
  split at h
  · rename_i hb
    have hd := blt_of hb
    have := hR.core.slots d hd
    rw [h] at this
    exact ⟨hd, this⟩
  · cases h

/-- A state with the same boxes. -/
structure Same (cx : Cx) (st st' : St) (a : Act) (w : World) : Prop where
  rel : Rel cx st' a w
  bm : st'.bm = st.bm

theorem vGuard_ok {ops : Array Oper} {o : Oper} {run skip : St → Prop} (h : vGuard cx ops.toList o st run skip) (hR : Rel cx st a w) :
    (Region.wanted o (yielded ops a.tmps) = true ∧ ∃ st', run st' ∧ Same cx st st' a w) ∨ (Region.wanted o (yielded ops a.tmps) = false ∧ ∃ st', skip st' ∧ Same cx st st' a w) := by
  unfold vGuard at h
  split at h
  · rename_i hg
    exact .inl ⟨by simp [Region.wanted, hg], st, h, hR, rfl⟩
  · rename_i j want hg
    have hw : Region.wanted o (yielded ops a.tmps) = (yielded ops a.tmps j == some want) := by simp [Region.wanted, hg]
    split at h
    · rename_i hd
      refine .inr ⟨?_, st, h, hR, rfl⟩
      rw [hw]
      unfold dstAt at hd
      unfold yielded
      cases ho : ops[j]? with
      | none => simp
      | some oj =>
        simp [ho] at hd
        simp [hd]
    · rename_i d hd
      have hy : ∀ v : Value, a.tmps.getD d undef = v → d < cx.N → yielded ops a.tmps j = (match v with | .bool b => some b | _ => none) := by
        intro v hv hdN
        unfold dstAt at hd
        unfold yielded
        cases ho : ops[j]? with
        | none => simp [ho] at hd
        | some oj =>
          simp [ho] at hd
          have hlt : d < a.tmps.size := by rw [hR.core.size]; exact hdN
          have hval : a.tmps[d]? = some v := by
            rw [← hv, Array.getD_eq_getD_getElem?, getElem?_pos a.tmps d hlt]
            rfl
          simp [hd, hval]
          cases v <;> rfl
      split at h
      · rename_i b hb
        obtain ⟨hdN, hv⟩ := get_ok hR hb
        rw [hy _ hv hdN] at hw
        simp only at hw
        cases b <;> (split at h <;> simp only [br] at h)
        · exact .inr ⟨by rw [hw]; rfl, _, h, hR.tell hdN (by rw [hv]; rfl), rfl⟩
        · exact .inl ⟨by rw [hw]; rfl, _, h, hR.tell hdN (by rw [hv]; rfl), rfl⟩
        · exact .inl ⟨by rw [hw]; rfl, _, h, hR.tell hdN (by rw [hv]; rfl), rfl⟩
        · exact .inr ⟨by rw [hw]; rfl, _, h, hR.tell hdN (by rw [hv]; rfl), rfl⟩
      · rename_i vs hb
        obtain ⟨hdN, hv⟩ := get_ok hR hb
        rw [hy _ hv hdN] at hw
        exact .inr ⟨by rw [hw]; rfl, st, h, hR, rfl⟩
      · exact h.elim

theorem vOps_ok {ops : Array Oper} {K : St → Prop} {QP : List PanicEntry → St → Prop} {Q : Exit → Act → World → Prop} (hK : ∀ st a w, K st → Rel cx st a w → Q .normal a w) (hQ : PanicsTo cx QP Q) :
    ∀ (l : List Oper) (st : St) (a : Act) (w : World), vOps cx ops.toList l st K QP → Rel cx st a w → wpList cx.P ops Q l a w
  | [], st, a, w, h, hR => hK st a w h hR
  | o :: r, st, a, w, h, hR => by
    unfold vOps at h
    unfold wpList
    rcases vGuard_ok h hR with ⟨hw, st', h, hS⟩ | ⟨hw, st', h, hS⟩
    · rw [if_pos hw]
      exact .inl (Oper.wp_mono (fun a' w' ⟨_, st'', h'', hR'', _⟩ => vOps_ok hK hQ r st'' a' w' h'' hR'') (vOp_ok h hS.rel (hQ.at a)))
    · rw [if_neg (by rw [hw]; exact Bool.false_ne_true)]
      obtain ⟨st'', h'', hR'', _⟩ := putD_ok (M := []) h hS.rel rfl ⟨_, (List.append_nil _).symm⟩
      exact vOps_ok hK hQ r st'' _ w h'' hR''

theorem region_ok {id : Nat} {ops : Array Oper} {K : St → Prop} {QP : List PanicEntry → St → Prop} {Q : Exit → Act → World → Prop} (hK : ∀ st a w, K st → Rel cx st a w → Q .normal a w) (hQ : PanicsTo cx QP Q)
    (h : vOps cx ops.toList ops.toList st K QP) (hR : Rel cx st a w) : (Code.region id ops false).wp cx.P Q a w := by
  refine wp_region ?_
  have e := congrFun (congrFun (wpOps_eq_wpList (P := cx.P) (ops := ops) (Q := Q) ops.toList 0 (fun j => by simp)) a) w
  rw [List.range_eq_range']
  have e2 : ops.toList.length = ops.size := rfl
  rw [e2] at e
  rw [e]
  exact vOps_ok hK hQ ops.toList st a w h hR

/-! ### regions that draw -/

/-- A store into a box leaves all other blocks. -/
theorem vStoreBox_ok {o : Oper} {t : TypeId} {x y : Operand} (ho : o.op = .store t x y) {base off : Nat} (hb : ev cx st x = .box base off) {K : St → Prop} {Q : Exit → Act → World → Prop} (h : vStore cx st o.dst t x y K) (hR : Rel cx st a w) :
    o.wp cx.P a w (fun a' w' => (∀ b, blM (st.bm ++ cx.bm) base ≠ some b → w'.heap[b]? = w.heap[b]?) ∧ Ends cx st.bm K a' w') Q := by
  have hx := ev_ok hR x
  have hy := ev_ok hR y
  have he : execOp a.eval o = (do Instr.storeAt t (a.eval x) (a.eval y); pure .skip : Sem Next) := by simp only [execOp, ho]
  unfold vStore at h
  split at h
  · exact h.elim
  · rename_i ti hi
    split at h
    · rename_i v hv
      rw [hv] at hy
      simp only [SVok] at hy
      split at h
      · rename_i hl
        split at h
        · rename_i hone
          rw [hb] at hx h
          simp only at h
          obtain ⟨g, hg, hx'⟩ := hx
          split at h
          · exact h.elim
          · rename_i b hf
            have hgb : g = b.block := by simp [blM, hf] at hg; exact hg.symm
            subst hgb
            split at h
            · rename_i hle
              have hlen : off + (cellsL v).length ≤ b.size := by rw [beq_of hl]; exact ble_of hle
              obtain ⟨w', hs, hC, hL⟩ := hR.core.store (P := cx.P) hf hlen (allOne_ok hone)
              have hs' : w' = setCellsFrom w ⟨b.block, off, none⟩ 0 (cellsL v) := by
                have h2 := hs
                obtain ⟨hm, hbase⟩ := findBox_mem hf
                obtain ⟨cells, hc1, hc2, hc3⟩ := (hR.core.boxes b hm).ok
                rw [run_storeCells' _ (cellsL v) 0 w (allOne_ok hone) (fun j hj => ?_)] at h2
                · simpa using h2.symm
                · rw [addr_add]
                  have hlt : off + (0 + j) < cells.size := by omega
                  have hc : cells[off + (0 + j)]? = some cells[off + (0 + j)] := getElem?_pos cells _ hlt
                  exact ⟨⟨_, by simp only [World.cell?, hc1, Option.isSome_none, Bool.false_eq_true, if_false, hc]; rfl⟩, by simp [World.frozen?, hc1]⟩
              refine wp_unit he (w' := w') (by rw [hx', hy]; exact run_storeAt hi (beq_of hl) hs) ⟨fun k hk => ?_, putD_ok h ⟨by simpa using hC, hR.defers, ?_⟩ rfl ⟨[], rfl⟩⟩
              · rw [hs']
                refine setCellsFrom_other _ _ ?_ _ _ _
                intro e
                subst e
                exact hk (by simp [blM, hf])
              · simp only
                have hl0 := hR.loc
                refine ⟨hL.os.trans hl0.os, hL.tape.trans hl0.tape, hL.output.trans hl0.output, Nat.le_trans hl0.size hL.size, fun k hk hkb => ?_, fun c hc => Nat.lt_of_lt_of_le (hl0.mem c hc) hL.size⟩
                rw [hL.block k (Nat.lt_of_lt_of_le hk hl0.size) ?_]
                · exact hl0.block k hk hkb
                · intro hk'
                  have : k = b.block := by simpa using hk'
                  exact hkb (mem_blocksOf.2 ⟨b, (findBox_mem hf).1, this.symm⟩)
            · exact h.elim
        · exact h.elim
      · exact h.elim
    · exact h.elim

/-- A load hangs on one block alone. -/
theorem vLoad_still {o : Oper} {t : TypeId} {x : Operand} (ho : o.op = .load t x) {K : St → Prop} (h : vLoad cx st o.dst t x K) (hR : Rel cx st a w) :
    ∃ (v : Value) (ad : Addr), a.eval x = .pointer (some ad) ∧ (∀ w' : World, (w'.heap[ad.block]? = w.heap[ad.block]?) → (execOp a.eval o).run cx.P w' = .ok (.value v) w') ∧ Ends cx st.bm K (a.put o.dst v) w := by
  have hx := ev_ok hR x
  have he : execOp a.eval o = (do pure (.value (← Instr.loadAt t (a.eval x))) : Sem Next) := by simp only [execOp, ho]
  have fin : ∀ (v : Value) (ad : Addr), a.eval x = .pointer (some ad) → (∀ w' : World, w'.heap[ad.block]? = w.heap[ad.block]? → (Instr.loadAt t (.pointer (some ad))).run cx.P w' = .ok v w') →
      ∀ w' : World, w'.heap[ad.block]? = w.heap[ad.block]? → (execOp a.eval o).run cx.P w' = .ok (.value v) w' := by
    intro v ad h1 h2 w' hw'
    rw [he, h1, Sem.run_bind, h2 w' hw']
    rfl
  have cell_eq : ∀ (w' : World) (ad : Addr) (i : Nat), w'.heap[ad.block]? = w.heap[ad.block]? → w'.cell? (ad.add i) = w.cell? (ad.add i) := by
    intro w' ad i hw'
    have hb : (ad.add i).block = ad.block := by unfold Addr.add; split <;> rfl
    unfold World.cell?
    rw [hb, hw']
  have cells_eq : ∀ (w' : World) (ad : Addr) (vs : List Value), w'.heap[ad.block]? = w.heap[ad.block]? → CellsAt w ad vs → CellsAt w' ad vs := by
    intro w' ad vs hw' hc j v hj
    rw [cell_eq w' ad j hw']
    exact hc j v hj
  unfold vLoad at h
  split at h
  · exact h.elim
  · rename_i ti hi
    split at h
    · exact h.elim
    · rename_i d hu
      split at h
      · rename_i base off hb
        rw [hb] at hx
        obtain ⟨g, hg, hx'⟩ := hx
        split at h
        · exact h.elim
        · rename_i b hf
          have hgb : g = b.block := by simp [blM, hf] at hg; exact hg.symm
          subst hgb
          split at h
          · rename_i hagg
            split at h
            · rename_i hle
              split at h
              · rename_i vs hvs
                refine ⟨.agg vs.toArray, ⟨b.block, off, none⟩, hx', fin _ _ hx' fun w' hw' => ?_, putD_ok h hR rfl ⟨[], rfl⟩⟩
                exact run_loadVar_agg hi hu hagg (boxCells_ok _ _ _ hvs).1 (cells_eq w' _ _ hw' (box_cells hR.core hf (ble_of hle) hvs))
              · exact h.elim
            · exact h.elim
          · rename_i hagg
            split at h
            · rename_i hle
              obtain ⟨hm, hbase⟩ := findBox_mem hf
              subst hbase
              obtain ⟨cells, h1, h2, h3⟩ := (hR.core.boxes b hm).ok
              have hle' := ble_of hle
              have h4 := h3 off (by omega)
              refine ⟨cells.getD off undef, ⟨b.block, off, none⟩, hx', fin _ _ hx' fun w' hw' => ?_, putD_ok h hR h4 ⟨[], rfl⟩⟩
              refine run_loadVar_one hu hagg ?_
              have hlt : off < cells.size := by omega
              have hc : cells[off]? = some cells[off] := getElem?_pos cells _ hlt
              simp only at hw'
              simp only [World.cell?, hw', h1, Option.isSome_none, Bool.false_eq_true, if_false, Array.getD_eq_getD_getElem?, hc, Option.getD_some]
            · exact h.elim
      · rename_i ad hb
        rw [hb] at hx
        simp only [SVok] at hx
        split at h
        · exact h.elim
        · rename_i z hz
          split at h
          · rename_i hagg
            split at h
            · rename_i hle
              obtain ⟨st', h, hR', hw, _, _, hbm, _⟩ := flush_ok h hR
              obtain ⟨vs, hl, hc, h⟩ := exCells_ok _ _ h
              rw [hw] at hc
              refine ⟨.agg vs.toArray, ad, hx, fin _ _ hx fun w' hw' => ?_, putD_ok h hR' rfl ⟨[], hbm⟩⟩
              exact run_loadVar_agg hi hu hagg (hl.trans (beq_of hle)) (cells_eq w' _ _ hw' hc)
            · exact h.elim
          · rename_i hagg
            obtain ⟨st', h, hR', hw, _, _, hbm, _⟩ := flush_ok h hR
            obtain ⟨v, hc, h⟩ := exCell_ok h
            rw [hw] at hc
            refine ⟨v, ad, hx, fin _ _ hx fun w' hw' => ?_, putD_ok h hR' rfl ⟨[], hbm⟩⟩
            have := cells_eq w' _ _ hw' hc 0 v rfl
            refine run_loadVar_one hu hagg ?_
            simpa [Addr.add] using this
      · exact h.elim

theorem mem_bstBases {cls : List Cls} {b : Nat} : ∀ {j : Nat}, cls.getD j .e = .bst b → b ∈ bstBases cls := by
  induction cls with
  | nil => intro j h; simp at h
  | cons c r ih =>
    intro j h
    cases j with
    | zero => simp at h; subst h; simp [bstBases]
    | succ j =>
      simp only [List.getD_cons_succ] at h
      have := ih h
      cases c <;> simp [bstBases, this]

theorem mem_hasG {cls : List Cls} : ∀ {j : Nat}, cls.getD j .e = .g → hasG cls = true := by
  induction cls with
  | nil => intro j h; simp at h
  | cons c r ih =>
    intro j h
    cases j with
    | zero => simp at h; subst h; rfl
    | succ j =>
      simp only [List.getD_cons_succ] at h
      have := ih h
      cases c <;> simp [hasG, this]

theorem mem_blocksAt {M : List Box} {base b : Nat} : ∀ {l : List Nat}, base ∈ l → blM M base = some b → b ∈ blocksAt M l := by
  intro l
  induction l with
  | nil => intro h; cases h
  | cons c r ih =>
    intro h hb
    unfold blocksAt
    rcases List.mem_cons.1 h with rfl | h'
    · unfold blM at hb
      cases hf : findBox M base with
      | none => simp [hf] at hb
      | some x => simp [hf] at hb; subst hb; simp
    · have := ih h' hb
      split
      · exact List.mem_cons_of_mem _ this
      · exact this

/-- What an operation of a class leaves as it was: M are the boxes at the region's beginning. -/
def presOf (M : List Box) (n : Nat) (cls : List Cls) (j b : Nat) : Prop := match clsAt cls j with
  | .bst base => blM M base ≠ some b
  | .e => b ∈ blocksOf M
  | .g => b < n ∨ b ∈ blocksOf M
  | _ => True

theorem findBox_app {N : Nat} {new M : List Box} (h : apart N (new ++ M)) {base : Nat} {x : Box} (hx : findBox M base = some x) : findBox (new ++ M) base = some x := by
  induction new with
  | nil => exact hx
  | cons y r ih =>
    simp only [List.cons_append] at h ⊢
    obtain ⟨_, _, h2, _, h4⟩ := h
    obtain ⟨hm, hb⟩ := findBox_mem hx
    have : Nat.beq y.base base = false := by
      cases hbq : Nat.beq y.base base with
      | false => rfl
      | true => exact absurd ((Nat.eq_of_beq_eq_true hbq).trans hb.symm) (h2 x (List.mem_append_right _ hm))
    unfold findBox
    rw [this]
    exact ih h4

/-- The acts are one but for a slot. -/
def Off (d : Option Tmp) (a a' : Act) : Prop := a'.tmps.size = a.tmps.size ∧ ∀ i, d ≠ some i → a'.tmps.getD i undef = a.tmps.getD i undef

theorem Off.put (a : Act) (d : Option Tmp) (v : Value) : Off d a (a.put d v) := by
  cases d with
  | none => exact ⟨rfl, fun _ _ => rfl⟩
  | some d =>
    refine ⟨by simp [put_some], fun i hi => ?_⟩
    have hne : d ≠ i := fun e => hi (by rw [e])
    simp only [put_some, Array.getD_eq_getD_getElem?, Array.getElem?_setIfInBounds_ne hne]

theorem wp_off {P : Program} {o : Oper} {K : Act → World → Prop} {Q : Exit → Act → World → Prop} (h : o.wp P a w K Q) : o.wp P a w (fun a' w' => K a' w' ∧ Off o.dst a a') Q := by
  unfold Oper.wp at h ⊢
  generalize (execOp a.eval o).run P w = r at h
  cases r with
  | ok n w' =>
    cases n <;> simp only [Oper.upon] at h ⊢
    case value u => exact ⟨h, Off.put a _ _⟩
    case skip => exact ⟨h, Off.put a _ _⟩
    case enter f args =>
      refine h.mono fun e w'' he => ?_
      cases e with
      | returned u => exact ⟨he, Off.put a _ _⟩
      | panicked ch => exact he
      | outgrown => exact he
    case row rw' args => exact h.mono fun u w'' he => ⟨he, Off.put a _ _⟩
    case «defer» x =>
      refine ⟨h, ?_⟩
      have := Off.put ({ a with defers := x :: a.defers } : Act) o.dst undef
      exact this
  | halt x w' => cases x <;> simp only [Oper.upon] at h ⊢ <;> exact h

theorem vWalk_ok {M : List Box} {w₀ : World} {ops : Array Oper} {cls : List Cls} {K : St → Prop} {QP : List PanicEntry → St → Prop} {Q : Exit → Act → World → Prop} {Inv : Act → Prop} (hK : ∀ st a w, K st → Rel cx st a w → Q .normal a w)
    (hQ : ∀ a, Inv a → PanicsAt cx QP Q a) (hInv : ∀ o ∈ ops.toList, ∀ a a', Inv a → Off o.dst a a' → Inv a') :
    ∀ (l : List Nat) (st : St) (a : Act) (w : World), vWalk cx M w₀ ops.toList cls l st K QP → Rel cx st a w → Inv a → (∃ new, st.bm ++ cx.bm = new ++ M) → walkX cx.P ops cls Q (presOf M w₀.heap.size cls) l a w
  | [], st, a, w, h, hR, _, _ => hK st a w h hR
  | i :: l, st, a, w, h, hR, hI, hM => by
    unfold vWalk at h
    unfold walkX
    have hoi : ops.toList[i]? = ops[i]? := by simp
    rw [hoi] at h
    split at h
    · exact h.elim
    · rename_i o ho
      try rw [ho]
      try dsimp only
      have hmem : o ∈ ops.toList := Array.mem_toList_iff.2 (Array.mem_of_getElem? ho)
      have ends : ∀ (st₀ : St) (K' : St → Prop), (∃ new, st₀.bm ++ cx.bm = new ++ M) → (∀ st, K' st → vWalk cx M w₀ ops.toList cls l st K QP) → ∀ a' w', Ends cx st₀.bm K' a' w' → Off o.dst a a' → walkX cx.P ops cls Q (presOf M w₀.heap.size cls) l a' w' := by
        rintro st₀ K' ⟨new, hnew⟩ hK' a' w' ⟨st', h', hR', new', hnew'⟩ hoff
        exact vWalk_ok hK hQ hInv l st' a' w' (hK' st' h') hR' (hInv o hmem a a' hI hoff) ⟨new' ++ new, by rw [hnew', List.append_assoc, hnew, List.append_assoc]⟩
      rcases vGuard_ok h hR with ⟨hw, st', h, hS⟩ | ⟨hw, st', h, hS⟩
      · have hM' : ∃ new, st'.bm ++ cx.bm = new ++ M := by rw [hS.bm]; exact hM
        obtain ⟨new, hnew⟩ := hM'
        have hap := hS.rel.core.apart
        unfold vOpC at h
        split at h
        · rename_i hc
          rw [hc]
          simp only [solidB, Bool.false_eq_true, if_false]
          obtain ⟨sv, v, hKv, hv, hrun⟩ := vT_ok (ev_ok hS.rel) h
          refine ⟨fun _ => False, v, .inl ⟨hw, fun w' _ => hrun o rfl w'⟩, fun _ _ _ _ hb => hb.elim, ?_⟩
          exact ends st' _ ⟨new, hnew⟩ (fun _ h => h) _ _ (putD_ok hKv hS.rel hv ⟨[], rfl⟩) (Off.put a _ _)
        · rename_i base hc
          rw [hc]
          simp only [solidB, Bool.false_eq_true, if_false]
          split at h
          · rename_i t x hop
            split at h
            · rename_i b off hb
              split at h
              · rename_i hbb
                have hbb := beq_of hbb
                subst hbb
                split at h
                · rename_i bx hfb
                  have hfb' := findBox_app (by rw [hnew] at hap; exact hap) hfb
                  rw [← hnew] at hfb'
                  have hx := ev_ok hS.rel x
                  rw [hb] at hx
                  obtain ⟨g, hg, hx'⟩ := hx
                  have hgb : g = bx.block := by simp [blM, hfb'] at hg; exact hg.symm
                  subst hgb
                  obtain ⟨v, ad, hx2, hst, hend⟩ := vLoad_still hop h hS.rel
                  rw [hx'] at hx2
                  simp only [Value.pointer.injEq, Option.some.injEq] at hx2
                  subst hx2
                  refine ⟨fun k => k = bx.block, v, .inl ⟨hw, fun w' hw' => hst w' (hw' _ rfl)⟩, fun j hj hok k hk => ?_, ends st' _ ⟨new, hnew⟩ (fun _ h => h) _ _ hend (Off.put a _ _)⟩
                  subst hk
                  unfold presOf
                  cases hcj : clsAt cls j with
                  | bst b' =>
                    simp only [hcj, clsOk, Bool.not_eq_true'] at hok
                    intro hb'
                    unfold blM at hb'
                    cases hf' : findBox M b' with
                    | none => simp [hf'] at hb'
                    | some y =>
                      simp [hf'] at hb'
                      have hap' : apart cx.N (new ++ M) := by rw [← hnew]; exact hap
                      obtain ⟨m1, e1⟩ := findBox_mem hfb
                      obtain ⟨m2, e2⟩ := findBox_mem hf'
                      rcases apart_two hap' bx y (List.mem_append_right _ m1) (List.mem_append_right _ m2) with rfl | ⟨hne, _⟩
                      · rw [← e1, ← e2] at hok
                        simp at hok
                      · exact hne hb'.symm
                  | e => exact mem_blocksOf.2 ⟨bx, (findBox_mem hfb).1, rfl⟩
                  | g => exact .inr (mem_blocksOf.2 ⟨bx, (findBox_mem hfb).1, rfl⟩)
                  | t => trivial
                  | bl _ => trivial
                  | h => trivial
                · exact h.elim
              · exact h.elim
            · exact h.elim
          · exact h.elim
        · rename_i hc
          rw [hc]
          simp only [solidB, Bool.false_eq_true, if_false]
          split at h
          · rename_i t x hop
            split at h
            · rename_i ad hb
              have h' : (hasG cls = true → ad.block < w₀.heap.size) ∧ offAnd (blocksAt M (bstBases cls)) ad (vLoad cx st' o.dst t x (fun st => vWalk cx M w₀ ops.toList cls l st K QP)) := by
                split at h
                · exact ⟨fun _ => h.1, h.2⟩
                · rename_i hg
                  exact ⟨fun h2 => (by rw [hg] at h2; cases h2), h⟩
              obtain ⟨hgb, h⟩ := h'
              obtain ⟨hoff, h⟩ := offAnd_ok h
              have hx := ev_ok hS.rel x
              rw [hb] at hx
              simp only [SVok] at hx
              obtain ⟨v, ad', hx2, hst, hend⟩ := vLoad_still hop h hS.rel
              rw [hx] at hx2
              simp only [Value.pointer.injEq, Option.some.injEq] at hx2
              subst hx2
              refine ⟨fun k => k = ad.block, v, .inl ⟨hw, fun w' hw' => hst w' (hw' _ rfl)⟩, fun j hj hok k hk => ?_, ends st' _ ⟨new, hnew⟩ (fun _ h => h) _ _ hend (Off.put a _ _)⟩
              subst hk
              unfold presOf
              cases hcj : clsAt cls j with
              | bst b' =>
                intro hb'
                exact hoff _ (mem_blocksAt (mem_bstBases hcj) hb') rfl
              | e => simp [hcj, clsOk] at hok
              | g => exact .inl (hgb (mem_hasG hcj))
              | t => trivial
              | bl _ => trivial
              | h => trivial
            · exact h.elim
          · exact h.elim
        · rename_i base hc
          rw [hc]
          simp only [solidB, if_true]
          rw [if_pos hw]
          split at h
          · rename_i t x y hop
            split at h
            · rename_i b off hb
              split at h
              · rename_i hbb
                have hbb := beq_of hbb
                subst hbb
                split at h
                · rename_i bx hfb
                  have hfb' := findBox_app (by rw [hnew] at hap; exact hap) hfb
                  rw [← hnew] at hfb'
                  refine Oper.wp_mono (fun a' w' h' => ⟨fun k hk => h'.1.1 k ?_, ends st' _ ⟨new, hnew⟩ (fun _ h => h) _ _ h'.1.2 h'.2⟩) (wp_off (vStoreBox_ok hop hb h hS.rel))
                  unfold presOf at hk
                  rw [hc] at hk
                  simp only [blM, hfb] at hk
                  simp only [blM, hfb']
                  exact hk
                · exact h.elim
              · exact h.elim
            · exact h.elim
          · exact h.elim
        · rename_i hc
          rw [hc]
          simp only [solidB, if_true]
          rw [if_pos hw]
          split at h
          · rename_i ht
            refine Oper.wp_mono (fun a' w' h' => ⟨fun k hk => ?_, ends st' _ ⟨new, hnew⟩ (fun _ h => h) _ _ h'.1.2 h'.2⟩) (wp_off (vOp_ok h hS.rel (hQ a hI)))
            unfold presOf at hk
            rw [hc] at hk
            obtain ⟨x, hx, rfl⟩ := mem_blocksOf.1 hk
            exact h'.1.1 x (by rw [hnew]; exact List.mem_append_right _ hx) (by rw [ht]; simp)
          · exact h.elim
        · rename_i hc
          rw [hc]
          simp only [solidB, if_true]
          rw [if_pos hw]
          split at h
          · rename_i ht
            split at h
            · exact h.elim
            · rename_i hd
              have hw0 : w = st'.w := by have := hS.rel.world; rw [hd] at this; exact this
              refine Oper.wp_mono (fun a' w' h' => ?_) (wp_off (vOp_ok h hS.rel (hQ a hI)))
              obtain ⟨⟨hkeep, st2, hK2, hR2, hM2⟩, hoff⟩ := h'
              split at hK2
              · exact hK2.elim
              · rename_i hd2
                have hw2 : w' = st2.w := by have := hR2.world; rw [hd2] at this; exact this
                refine ⟨fun k hk => ?_, ends st' _ ⟨new, hnew⟩ (fun _ h => h) _ _ ⟨st2, hK2.2, hR2, hM2⟩ hoff⟩
                unfold presOf at hk
                rw [hc] at hk
                rcases hk with hk | hk
                · rw [hw2, hw0]
                  exact hK2.1 k hk
                · obtain ⟨x, hx, rfl⟩ := mem_blocksOf.1 hk
                  exact hkeep x (by rw [hnew]; exact List.mem_append_right _ hx) (by rw [ht]; simp)
          · exact h.elim
      · obtain ⟨st'', h'', hR'', new', hnew'⟩ := putD_ok (M := st'.bm) h hS.rel rfl ⟨[], rfl⟩
        have hM' : ∃ new, st''.bm ++ cx.bm = new ++ M := by
          obtain ⟨new, hnew⟩ := hM
          exact ⟨new' ++ new, by rw [hnew', hS.bm, List.append_assoc, hnew, List.append_assoc]⟩
        have hrest := vWalk_ok hK hQ hInv l st'' _ w h'' hR'' (hInv o hmem a _ hI (Off.put a _ _)) hM'
        by_cases hs : solidB (clsAt cls i) = true
        · rw [if_pos hs, if_neg (by rw [hw]; exact Bool.false_ne_true)]
          exact hrest
        · rw [if_neg hs]
          exact ⟨fun _ => False, undef, .inr ⟨hw, rfl⟩, fun _ _ _ _ hb => hb.elim, hrest⟩

end
end Go.Vc

/- Code: soundness; and a function's call. -/
namespace Go.Vc
open Go

theorem look_append_not {E E' : Env} {i : Nat} (h : ∀ v, (i, v) ∉ E) : look (E ++ E') i = look E' i := by
  induction E with
  | nil => rfl
  | cons x r ih =>
    obtain ⟨k, v⟩ := x
    rw [List.cons_append, look_cons_ne _ _ (fun e => h v (by rw [e]; exact List.mem_cons_self))]
    exact ih fun u hu => h u (List.mem_cons_of_mem _ hu)

theorem look_junk {l : List Nat} {E : Env} {i : Nat} : look (junkEnv l ++ E) i = if i ∈ l then .junk else look E i := by
  induction l with
  | nil => rfl
  | cons k r ih =>
    simp only [junkEnv, List.cons_append]
    by_cases h : k = i
    · subst h; rw [look_cons_same]; simp
    · rw [look_cons_ne _ _ h, ih]
      have : i ≠ k := fun e => h e.symm
      simp [this]

theorem dstsOf_mem {l : List Oper} {o : Oper} {d : Nat} (ho : o ∈ l) (hd : o.dst = some d) : d ∈ dstsOf l := by
  induction l with
  | nil => cases ho
  | cons x r ih =>
    unfold dstsOf
    rcases List.mem_cons.1 ho with rfl | h
    · rw [hd]; exact List.mem_cons_self
    · split
      · exact List.mem_cons_of_mem _ (ih h)
      · exact ih h

section
variable {cx : Cx} {st : St} {a : Act} {w : World}

theorem drew_heap (w : World) : ({ w with drawn := w.drawn + 1 } : World).heap = w.heap := rfl

theorem Rel.drew (hR : Rel cx st a w) : Rel cx { st with dirty := true } a { w with drawn := w.drawn + 1 } := by
  have hl := hR.loc
  exact ⟨hR.core.world fun _ _ => rfl, hR.defers, ⟨hl.os, hl.tape, hl.output, hl.size, hl.block, hl.mem⟩⟩

theorem vDraw_ok {id : Nat} {ops : Array Oper} {K : St → Prop} {QP : List PanicEntry → St → Prop} {Q : Exit → Act → World → Prop} (hK : ∀ st a w, K st → Rel cx st a w → Q .normal a w) (hQ : PanicsTo cx QP Q)
    (h : vDraw cx id ops st K QP) (hR : Rel cx st a w) : (Code.region id ops true).wp cx.P Q a w := by
  unfold vDraw at h
  split at h
  · exact h.elim
  · rename_i π cls _
    split at h
    · rename_i hb
      simp only [Bool.and_eq_true, drawOk, beq_iff_eq] at hb
      obtain ⟨⟨⟨⟨b1, b2⟩, b3⟩, b4⟩, b5⟩ := hb
      obtain ⟨st1, h, hR1, hw, hd, he, hbm, hdf⟩ := flush_ok h hR.drew
      let Inv : Act → Prop := fun a' => a'.tmps.size = cx.N ∧ ∀ i, i ∉ dstsOf ops.toList → a'.tmps.getD i undef = a.tmps.getD i undef
      let Qr : Exit → Act → World → Prop := fun e a' w' => match e with
        | .panic ch => Inv a' ∧ ∃ ds, QP ch { st1 with env := junkEnv (dstsOf ops.toList) ++ st1.env, w := w', defers := ds } ∧ a'.defers = ds ++ cx.dfs
        | e => Q e a' w'
      have hInv : ∀ o ∈ ops.toList, ∀ a a', Inv a → Off o.dst a a' → Inv a' := by
        rintro o ho a1 a2 ⟨i1, i2⟩ ⟨o1, o2⟩
        refine ⟨o1.trans i1, fun i hi => (o2 i fun hdo => hi (dstsOf_mem ho hdo)).trans (i2 i hi)⟩
      have hoff' : ∀ o ∈ ops.toList, ∀ (a1 : Act) (v : Value), Inv (a1.put o.dst v) → Inv a1 := by
        rintro o ho a1 v ⟨i1, i2⟩
        obtain ⟨o1, o2⟩ := Off.put a1 o.dst v
        exact ⟨o1.symm.trans i1, fun i hi => (o2 i fun hdo => hi (dstsOf_mem ho hdo)).symm.trans (i2 i hi)⟩
      have hBlind : Blind ops Qr := by
        intro i o ho ch a1 v w'
        have hm : o ∈ ops.toList := Array.mem_toList_iff.2 (Array.mem_of_getElem? ho)
        constructor
        · rintro ⟨h1, ds, h2, h3⟩
          exact ⟨hInv o hm a1 _ h1 (Off.put a1 _ _), ds, h2, by rw [put_defers]; exact h3⟩
        · rintro ⟨h1, ds, h2, h3⟩
          exact ⟨hoff' o hm a1 v h1, ds, h2, by rw [put_defers] at h3; exact h3⟩
      have hwalk := vWalk_ok (Q := Qr) (Inv := Inv) (QP := fun ch st' => QP ch { st1 with env := junkEnv (dstsOf ops.toList) ++ st1.env, w := st'.w, defers := st'.defers }) hK
        (fun a' hI ch st' w' hq hp => ⟨hI, st'.defers, by rw [hp.world]; exact hq, hp.defers⟩) hInv π st1 a { w with drawn := w.drawn + 1 } h hR1 ⟨hR.core.size, fun _ _ => rfl⟩ ⟨[], rfl⟩
      refine wp_mono (wp_region_walk b5 hBlind b1 b2 b3 b4 hwalk) ?_
      intro e a' w' hq
      cases e with
      | panic ch =>
        obtain ⟨⟨i1, i2⟩, ds, h2, h3⟩ := hq
        refine hQ ch _ a' w' h2 ⟨i1, fun i hi => ?_, h3, hd, rfl⟩
        rw [List.append_assoc, look_junk]
        split
        · trivial
        · rename_i hni
          rw [i2 i hni]
          exact hR1.core.slots i hi
      | normal => exact hq
      | exit id => exact hq
      | goto l => exact hq
      | ret => exact hq
      | outgrown => exact hq
    · exact h.elim

/-! ### code -/

def RelE (cx : Cx) (st : St) (e : Exit) (a : Act) (w : World) : Prop := match e with
  | .panic _ => RelP cx st a w
  | _ => Rel cx st a w

theorem memN_iff {l : List Nat} {i : Nat} : memN l i = true ↔ i ∈ l := by
  induction l with
  | nil => simp [memN]
  | cons k r ih =>
    unfold memN
    split
    · rename_i hb; simp [Nat.eq_of_beq_eq_true hb]
    · rename_i hb
      rw [ih]
      have hki : k ≠ i := by rintro rfl; simp at hb
      simp [Ne.symm hki]

theorem keysIn_ok {ks : List Nat} : ∀ {E : Env}, keysIn ks E = true → ∀ i v, (i, v) ∈ E → i ∈ ks
  | (k, u) :: r, h, i, v, hm => by
    unfold keysIn at h
    split at h
    · rename_i hk
      rcases List.mem_cons.1 hm with he | hm'
      · cases he; exact memN_iff.1 hk
      · exact keysIn_ok h i v hm'
    · cases h

theorem valsAt_ok {E : Env} : ∀ {live : List (Nat × Value)} {vs : List Value}, valsAt E live = some vs → vs.length = live.length ∧ ∀ (R : Env) i, look (liveEnv live vs ++ R) i = if i ∈ slotsOf live then look E i else look R i
  | [], vs, h => by
    simp [valsAt] at h
    subst h
    exact ⟨rfl, fun R i => by simp [liveEnv, slotsOf]⟩
  | (k, z) :: r, vs, h => by
    unfold valsAt at h
    split at h
    · rename_i v hv
      split at h
      · rename_i ws hws
        simp only [Option.some.injEq] at h
        subst h
        obtain ⟨h1, h2⟩ := valsAt_ok hws
        refine ⟨by simp [h1], fun R i => ?_⟩
        simp only [liveEnv, List.cons_append, slotsOf]
        by_cases hki : k = i
        · subst hki; rw [look_cons_same]; simp [hv]
        · rw [look_cons_ne _ _ hki, h2]
          have : i ≠ k := fun e => hki e.symm
          simp [this]
      · cases h
    · cases h

/-- References in an environment name boxes that are there. -/
def refOk (M : List Box) : SV → Prop
  | .box b _ => (blM M b).isSome = true
  | .row b _ => (blM M b).isSome = true
  | _ => True

def WfE (N : Nat) (E : Env) (M : List Box) : Prop := ∀ i, (i < N ∨ ∃ x, x ∈ M ∧ ∃ j, j < x.size ∧ i = x.base + j) → refOk M (look E i)

theorem refOk_of {M : List Box} {sv : SV} {v : Value} (h : SVok (blM M) sv v) : refOk M sv := by
  cases sv with
  | val u => trivial
  | box b o => obtain ⟨g, hg, _⟩ := h; simp [refOk, hg]
  | row b o => obtain ⟨g, hg, _⟩ := h; simp [refOk, hg]
  | junk => trivial

theorem RelC.wf {N : Nat} {E : Env} {M : List Box} (h : RelC N E M a w) : WfE N E M := by
  rintro i (hi | ⟨x, hx, j, hj, rfl⟩)
  · exact refOk_of (h.slots i hi)
  · obtain ⟨cells, _, _, h3⟩ := (h.boxes x hx).ok
    exact refOk_of (h3 j hj)

theorem blM_app {N : Nat} {new M : List Box} (h : apart N (new ++ M)) {base : Nat} (hb : (blM M base).isSome = true) : blM (new ++ M) base = blM M base := by
  unfold blM at hb ⊢
  cases hf : findBox M base with
  | none => simp [hf] at hb
  | some x => rw [findBox_app h hf]

theorem apart_tail {N : Nat} {M : List Box} : ∀ {new : List Box}, apart N (new ++ M) → apart N M
  | [], h => h
  | _ :: r, h => apart_tail (new := r) h.2.2.2.2

/-- Less is known, and some boxes are forgotten. -/
theorem RelC.weak {N : Nat} {E E' : Env} {new M : List Box} (h : RelC N E (new ++ M) a w) (hE : ∀ i, look E' i = .junk ∨ look E' i = look E i) (hwf : ∀ i, (i < N ∨ ∃ x, x ∈ M ∧ ∃ j, j < x.size ∧ i = x.base + j) → refOk M (look E' i)) : RelC N E' M a w := by
  have key : ∀ i v, refOk M (look E' i) → SVok (blM (new ++ M)) (look E i) v → SVok (blM M) (look E' i) v := by
    intro i v hr hs
    rcases hE i with hj | he
    · rw [hj]; trivial
    · rw [he] at hr ⊢
      cases hsv : look E i with
      | val u => rw [hsv] at hs; exact hs
      | box b o =>
        rw [hsv] at hs hr
        obtain ⟨g, hg, hv⟩ := hs
        exact ⟨g, by rw [← blM_app h.apart hr]; exact hg, hv⟩
      | row b o =>
        rw [hsv] at hs hr
        obtain ⟨g, hg, hv⟩ := hs
        exact ⟨g, by rw [← blM_app h.apart hr]; exact hg, hv⟩
      | junk => trivial
  refine ⟨h.size, fun i hi => key i _ (hwf i (.inl hi)) (h.slots i hi), fun x hx => ⟨?_⟩, apart_tail h.apart⟩
  obtain ⟨cells, h1, h2, h3⟩ := (h.boxes x (List.mem_append_right _ hx)).ok
  exact ⟨cells, h1, h2, fun j hj => key _ _ (hwf _ (.inr ⟨x, hx, j, hj, rfl⟩)) (h3 j hj)⟩

/-- What a layer of new values over an environment says, where the elder layer has the same keys. -/
theorem layer_look {live : List (Nat × Value)} {junk : List Nat} {inn L E₀ : Env} {vs : List Value} (hk : ∀ i v, (i, v) ∈ inn → i ∈ slotsOf live ++ junk) (hL : ∀ i v, (i, v) ∈ L → i ∈ slotsOf live ++ junk)
    (hv : valsAt (inn ++ (L ++ E₀)) live = some vs) (i : Nat) : (look (layerOf live junk vs ++ E₀) i = .junk ∨ look (layerOf live junk vs ++ E₀) i = look (inn ++ (L ++ E₀)) i) ∧
      (i ∉ slotsOf live → i ∈ junk ∨ look (layerOf live junk vs ++ E₀) i = look E₀ i) := by
  have h1 := (valsAt_ok hv).2
  unfold layerOf
  rw [List.append_assoc, h1, look_junk]
  by_cases hs : i ∈ slotsOf live
  · rw [if_pos hs]
    exact ⟨.inr rfl, fun h => absurd hs h⟩
  · rw [if_neg hs]
    by_cases hj : i ∈ junk
    · rw [if_pos hj]
      exact ⟨.inl rfl, fun _ => .inl hj⟩
    · rw [if_neg hj]
      have hnot : i ∉ slotsOf live ++ junk := by simp [hs, hj]
      refine ⟨.inr ?_, fun _ => .inr rfl⟩
      rw [look_append_not fun v hm => hnot (hk i v hm), look_append_not fun v hm => hnot (hL i v hm)]

theorem layer_wf {N : Nat} {M : List Box} {live : List (Nat × Value)} {junk : List Nat} {E E₀ : Env} {vs : List Value} (hv : valsAt E live = some vs) (hwf : WfE N E₀ M) : WfE N (layerOf live junk vs ++ E₀) M := by
  intro i hi
  have h1 := (valsAt_ok hv).2
  unfold layerOf
  rw [List.append_assoc, h1, look_junk]
  by_cases hs : i ∈ slotsOf live
  · rw [if_pos hs]
    have : ∀ {live : List (Nat × Value)} {vs : List Value}, valsAt E live = some vs → i ∈ slotsOf live → ∃ v, look E i = .val v := by
      intro live
      induction live with
      | nil => intro vs _ h; cases h
      | cons x r ih =>
        intro vs hv hm
        obtain ⟨k, z⟩ := x
        unfold valsAt at hv
        split at hv
        · rename_i v hlv
          split at hv
          · rename_i ws hws
            rcases List.mem_cons.1 hm with rfl | hm'
            · exact ⟨v, hlv⟩
            · exact ih hws hm'
          · cases hv
        · cases hv
    obtain ⟨v, hlv⟩ := this hv hs
    rw [hlv]
    trivial
  · rw [if_neg hs]
    split
    · trivial
    · exact hwf i hi

theorem liveEnv_keys : ∀ {live : List (Nat × Value)} {vs : List Value} {i : Nat} {v : SV}, (i, v) ∈ liveEnv live vs → i ∈ slotsOf live
  | (k, z) :: r, u :: vs, i, v, h => by
    simp only [liveEnv, List.mem_cons] at h
    rcases h with he | h
    · cases he; exact List.mem_cons_self
    · exact List.mem_cons_of_mem _ (liveEnv_keys h)
  | [], _, _, _, h => by simp [liveEnv] at h
  | _ :: _, [], _, _, h => by simp [liveEnv] at h
theorem junkEnv_keys : ∀ {l : List Nat} {i : Nat} {v : SV}, (i, v) ∈ junkEnv l → i ∈ l
  | k :: r, i, v, h => by
    simp only [junkEnv, List.mem_cons] at h
    rcases h with he | h
    · cases he; exact List.mem_cons_self
    · exact List.mem_cons_of_mem _ (junkEnv_keys h)
  | [], _, _, h => by simp [junkEnv] at h
theorem layer_keys {live : List (Nat × Value)} {junk : List Nat} {vs : List Value} : ∀ i v, (i, v) ∈ layerOf live junk vs → i ∈ slotsOf live ++ junk := by
  intro i v h
  unfold layerOf at h
  rcases List.mem_append.1 h with h | h
  · exact List.mem_append_left _ (liveEnv_keys h)
  · exact List.mem_append_right _ (junkEnv_keys h)

/-! ### shapes -/

theorem allCells_app {R : Type} {dflt : R} : ∀ (zs : List Value) (J : Shaped R zs) (vs : List Value), vs.length = zs.length → ∀ (p : R → Prop), ¬ p dflt → p (Shaped.app dflt zs J vs) → ∀ F : List Value → Prop, allCells zs F → F vs
  | [], J, vs, hl, p, hd, hp, F, hF => by
    have : vs = [] := by cases vs <;> simp_all
    subst this
    exact hF
  | z :: r, J, [], hl, p, hd, hp, F, hF => by simp at hl
  | z :: r, J, v :: vs, hl, p, hd, hp, F, hF => by
    have hl' : vs.length = r.length := by simpa using hl
    cases z <;> simp only [Shaped.app] at hp <;> simp only [allCells, allCell] at hF
    case bool b =>
      cases v <;> simp only at hp <;> first
        | exact allCells_app r _ vs hl' p hd hp _ (hF _)
        | exact absurd hp hd
    case int k n =>
      cases v <;> simp only at hp <;> first
        | exact absurd hp hd
        | skip
      rename_i k' n'
      by_cases hk : k = k'
      · subst hk
        rw [if_pos rfl] at hp
        exact allCells_app r _ vs hl' p hd hp _ (hF _)
      · rw [if_neg hk] at hp
        exact absurd hp hd
    case string s =>
      cases v <;> simp only at hp <;> first
        | exact absurd hp hd
        | skip
      rename_i s'
      exact allCells_app r _ vs hl' p hd hp _ (hF s'.data.toList)
    case pointer q =>
      cases v <;> (try simp only at hp) <;> first
        | exact absurd hp hd
        | skip
      rename_i q'
      cases q' <;> simp only at hp <;> first
        | exact absurd hp hd
        | exact allCells_app r _ vs hl' p hd hp _ (hF _)
    case slice b l c =>
      cases v <;> simp only at hp <;> first
        | exact absurd hp hd
        | skip
      rename_i b' l' c'
      exact allCells_app r _ vs hl' p hd hp _ (hF ⟨b', l', c'⟩)
    all_goals exact allCells_app r _ vs hl' p hd hp _ (hF v)

theorem zerosOf_length : ∀ (live : List (Nat × Value)), (zerosOf live).length = live.length
  | [] => rfl
  | _ :: r => by simp [zerosOf, zerosOf_length r]


/-- The relation in an inner frame, and back. -/
theorem Rel.inner {layer : Env} {st' : St} :
    Rel (inner cx layer st) st' a w ↔ Rel cx (outer layer st st') a w := by
  constructor
  · rintro ⟨h1, h2, h3⟩
    refine ⟨?_, ?_, ?_⟩
    · simpa [Vc.inner, Vc.outer] using h1
    · simpa [Vc.inner, Vc.outer] using h2
    · simpa [Vc.inner, Vc.outer] using h3
  · rintro ⟨h1, h2, h3⟩
    refine ⟨?_, ?_, ?_⟩
    · simpa [Vc.inner, Vc.outer] using h1
    · simpa [Vc.inner, Vc.outer] using h2
    · simpa [Vc.inner, Vc.outer] using h3
theorem RelP.inner {layer : Env} {st' : St} (h : RelP (inner cx layer st) st' a w) : RelP cx (outer layer st st') a w := by
  obtain ⟨h1, h2, h3, h4, h5⟩ := h
  exact ⟨h1, by simpa [Vc.inner, Vc.outer] using h2, by simpa [Vc.inner, Vc.outer] using h3, h4, h5⟩

/-- **THE CONDITION OF A PIECE OF CODE SUFFICES.** -/
theorem vc_ok : ∀ (c : Code) (cx : Cx) (blk : Nat) (st : St) (Q : Exit → St → Prop) (a : Act) (w : World) (Q' : Exit → Act → World → Prop), vc c cx blk st Q → Rel cx st a w →
    (∀ e st a w, Q e st → RelE cx st e a w → Q' e a w) → c.wp cx.P Q' a w := by
  intro c
  induction c with
  | skip => intro cx blk st Q a w Q' h hR hQ; exact wp_skip (hQ .normal st a w h hR)
  | label l => intro cx blk st Q a w Q' h hR hQ; exact wp_label (hQ .normal st a w h hR)
  | exit id => intro cx blk st Q a w Q' h hR hQ; exact wp_exit (hQ (.exit id) st a w h hR)
  | ret => intro cx blk st Q a w Q' h hR hQ; exact wp_ret (hQ .ret st a w h hR)
  | region id ops draw =>
    intro cx blk st Q a w Q' h hR hQ
    unfold vc at h
    cases draw with
    | false => exact region_ok (fun st a w hk hr => hQ .normal st a w hk hr) (fun ch st a w hk hr => hQ (.panic ch) st a w hk hr) h hR
    | true => exact vDraw_ok (fun st a w hk hr => hQ .normal st a w hk hr) (fun ch st a w hk hr => hQ (.panic ch) st a w hk hr) h hR
  | seq x y ihx ihy =>
    intro cx blk st Q a w Q' h hR hQ
    unfold vc at h
    split at h
    · refine wp_seq (ihx cx blk st _ a w _ h hR ?_)
      intro e st' a' w' he hr
      cases e with
      | normal => exact ihy cx blk st' Q a' w' Q' he hr hQ
      | exit i => exact hQ (.exit i) st' a' w' he hr
      | goto i => exact hQ (.goto i) st' a' w' he hr
      | ret => exact hQ .ret st' a' w' he hr
      | panic ch => exact hQ (.panic ch) st' a' w' he hr
      | outgrown => exact hQ .outgrown st' a' w' he hr
    · rename_i live junk _
      obtain ⟨J, hx, hy⟩ := h
      have hR0 : Rel (inner cx [] st) { st with env := [], bm := [], defers := [] } a w := by
        refine Rel.inner.2 ?_
        simpa [Vc.outer] using hR
      refine wp_seq (ihx (Vc.inner cx [] st) blk _ _ a w _ hx hR0 ?_)
      intro e st' a' w' he hr
      cases e with
      | exit i => exact hQ (.exit i) _ a' w' he (Rel.inner.1 hr)
      | goto i => exact hQ (.goto i) _ a' w' he (Rel.inner.1 hr)
      | ret => exact hQ .ret _ a' w' he (Rel.inner.1 hr)
      | panic ch => exact hQ (.panic ch) _ a' w' he (RelP.inner hr)
      | outgrown => exact hQ .outgrown _ a' w' he (Rel.inner.1 hr)
      | normal =>
        obtain ⟨st2, he, hr2, hw2, hd2, henv2, hbm2, hdf2⟩ := flush_ok he hr
        split at he
        · rename_i hkeys
          simp only [Bool.and_eq_true] at hkeys
          obtain ⟨hk1, hk2⟩ := hkeys
          split at he
          · rename_i vs hvs
            rw [hw2] at he
            have hlen := (valsAt_ok hvs).1
            have hlk := layer_look (L := []) (E₀ := st.env ++ cx.env) (keysIn_ok hk1) (fun _ _ h => by cases h) (by simpa [Vc.inner] using hvs)
            have hJ := allCells_app (dflt := fun _ => False) (zerosOf live) J vs (by rw [hlen, zerosOf_length]) (fun p => p w') (fun h => h) he _ hy
            have hC := hr2.core
            refine ihy cx blk _ Q a' w' Q' (hJ w' he) ⟨?_, ?_, rfl⟩ hQ
            · have hC' : RelC cx.N (st2.env ++ ([] ++ (st.env ++ cx.env))) (st2.bm ++ (st.bm ++ cx.bm)) a' w' := by simpa [Vc.inner] using hC
              have := hC'.weak (E' := layerOf live junk vs ++ (st.env ++ cx.env)) (fun i => (hlk i).1) (layer_wf (by simpa [Vc.inner] using hvs) hR.core.wf)
              simpa using this
            · have := hr2.defers
              have hnil : st2.defers = [] := by
                cases hdl : st2.defers with
                | nil => rfl
                | cons x r => rw [hdl] at hk2; cases hk2
              rw [hnil] at this
              simpa [Vc.inner] using this
          · exact he.elim
        · exact he.elim
  | cond c x y ihx ihy =>
    intro cx blk st Q a w Q' h hR hQ
    unfold vc at h
    have hc := ev_ok hR c
    split at h
    · rename_i b hb
      rw [hb] at hc
      simp only [SVok] at hc
      cases b with
      | true => exact wp_cond hc (ihx cx blk st Q a w Q' h hR hQ)
      | false => exact wp_cond hc (ihy cx blk st Q a w Q' h hR hQ)
    · exact h.elim
  | block id c ih =>
    intro cx blk st Q a w Q' h hR hQ
    unfold vc at h
    refine wp_block (ih cx id st _ a w _ h hR ?_)
    intro e st' a' w' he hr
    cases e with
    | normal => exact hQ .normal st' a' w' he hr
    | exit i =>
      simp only [Exit.inBlock]
      simp only at he
      split at he
      · rename_i hb
        rw [if_pos (Nat.eq_of_beq_eq_true hb)]
        exact hQ .normal st' a' w' he hr
      · rename_i hb
        rw [if_neg (by rintro rfl; simp at hb)]
        exact hQ (.exit i) st' a' w' he hr
    | goto i => exact hQ (.goto i) st' a' w' he hr
    | ret => exact hQ .ret st' a' w' he hr
    | panic ch => exact hQ (.panic ch) st' a' w' he hr
    | outgrown => exact hQ .outgrown st' a' w' he hr
  | loop c ih =>
    intro cx blk st Q a w Q' h hR hQ
    unfold vc at h
    split at h
    · exact h.elim
    · rename_i live junk _
      obtain ⟨st0, h, hR0, hw0, hd0, _, _, _⟩ := flush_ok h hR
      obtain ⟨J, n₀, h0, hround⟩ := h
      split at h0
      · rename_i vs0 hvs0
        have hlen0 := (valsAt_ok hvs0).1
        -- the loop's invariant
        let E₀ := st0.env ++ cx.env
        let M := st0.bm ++ cx.bm
        have hwf : WfE cx.N E₀ M := hR0.core.wf
        let I : Nat → Act → World → Prop := fun n a w => ∃ vs, vs.length = live.length ∧ Shaped.app (fun _ _ => False) (zerosOf live) J vs n w ∧ RelC cx.N (layerOf live junk vs ++ E₀) M a w ∧ a.defers = st0.defers ++ cx.dfs
        have hI0 : I n₀ a w := by
          refine ⟨vs0, hlen0, by rw [← hw0]; exact h0, ?_, hR0.defers⟩
          have hlk := layer_look (junk := junk) (inn := []) (L := []) (E₀ := E₀) (live := live) (vs := vs0) (fun _ _ h => by cases h) (fun _ _ h => by cases h) (by simpa using hvs0)
          have := hR0.core.weak (new := []) (M := M) (E' := layerOf live junk vs0 ++ E₀) (fun i => (hlk i).1) (layer_wf hvs0 hwf)
          exact this
        refine wp_loop_ghost I n₀ hI0 ?_
        rintro n a1 w1 ⟨vs, hlen, happ, hC, hdf⟩
        have hbody := allCells_app (dflt := fun _ _ => False) (zerosOf live) J vs (by rw [hlen, zerosOf_length]) (fun p => p n w1) (fun h => h) happ _ hround n w1 happ
        have hR1 : Rel (inner cx (layerOf live junk vs) st0) { st0 with env := [], bm := [], defers := [], w := w1, dirty := false } a1 w1 :=
          ⟨by simpa [Vc.inner] using hC, by simpa [Vc.inner] using hdf, rfl⟩
        refine ih (Vc.inner cx (layerOf live junk vs) st0) blk _ _ a1 w1 _ hbody hR1 ?_
        intro e st' a' w' he hr
        cases e with
        | exit i => exact hQ (.exit i) _ a' w' he (Rel.inner.1 hr)
        | goto i => exact hQ (.goto i) _ a' w' he (Rel.inner.1 hr)
        | ret => exact hQ .ret _ a' w' he (Rel.inner.1 hr)
        | panic ch => exact hQ (.panic ch) _ a' w' he (RelP.inner hr)
        | outgrown => exact hQ .outgrown _ a' w' he (Rel.inner.1 hr)
        | normal =>
          obtain ⟨st2, he, hr2, hw2, hd2, henv2, hbm2, hdf2⟩ := flush_ok he hr
          split at he
          · rename_i hkeys
            simp only [Bool.and_eq_true] at hkeys
            obtain ⟨hk1, hk2⟩ := hkeys
            split at he
            · rename_i vs' hvs'
              obtain ⟨m, hm, he⟩ := he
              rw [hw2] at he
              have hlen' := (valsAt_ok hvs').1
              have hvs'' : valsAt (st2.env ++ (layerOf live junk vs ++ E₀)) live = some vs' := by simpa [Vc.inner, E₀] using hvs'
              have hlk := layer_look (L := layerOf live junk vs) (E₀ := E₀) (keysIn_ok hk1) layer_keys hvs''
              refine ⟨m, hm, vs', hlen', he, ?_, ?_⟩
              · have hC' : RelC cx.N (st2.env ++ (layerOf live junk vs ++ E₀)) (st2.bm ++ M) a' w' := by simpa [Vc.inner, E₀, M] using hr2.core
                exact hC'.weak (E' := layerOf live junk vs' ++ E₀) (fun i => (hlk i).1) (layer_wf hvs'' hwf)
              · have := hr2.defers
                have hnil : st2.defers = [] := by
                  cases hdl : st2.defers with
                  | nil => rfl
                  | cons x r => rw [hdl] at hk2; cases hk2
                rw [hnil] at this
                simpa [Vc.inner] using this
            · exact he.elim
          · exact he.elim
      · exact h0.elim
  | scope c ih =>
    intro cx blk st Q a w Q' h hR hQ
    unfold vc at h
    refine wp_scope_straight (ih cx blk st _ a w _ h hR ?_)
    intro e st' a' w' he hr
    cases e with
    | normal => exact hQ .normal st' a' w' he hr
    | exit i => exact hQ (.exit i) st' a' w' he hr
    | goto i => exact he.elim
    | ret => exact hQ .ret st' a' w' he hr
    | panic ch => exact hQ (.panic ch) st' a' w' he hr
    | outgrown => exact hQ .outgrown st' a' w' he hr
  | rangeFunc f ps as b => intro cx blk st Q a w Q' h hR hQ; exact h.elim
  | goto l => intro cx blk st Q a w Q' h hR hQ; exact h.elim
  | refuse why => intro cx blk st Q a w Q' h hR hQ; exact h.elim

end
end Go.Vc

/- A function's call out of its condition. -/
namespace Go.Vc
open Go

def argsEnv : Nat → List Value → Env
  | _, [] => []
  | i, v :: r => (i, .val v) :: argsEnv (i + 1) r

section
variable (cx : Cx)

/-- A result that lies in a variable. -/
def vResCell (st : St) (d : Nat) (t : TypeId) (K : Value → St → Prop) : Prop :=
  match cx.P.info? t with
  | none => False
  | some ti => match cx.P.underlying t with
    | none => False
    | some dsc => match get cx st d with
      | .box base off => match findBox (st.bm ++ cx.bm) base with
        | none => False
        | some b => match isAggD dsc with
          | true => match Nat.ble (off + ti.size) b.size with
            | true => match boxCells (st.env ++ cx.env) (base + off) ti.size with
              | some vs => K (.agg vs.toArray) st
              | none => False
            | false => False
          | false => match Nat.ble (off + 1) b.size with
            | true => match boxCells (st.env ++ cx.env) (base + off) 1 with
              | some [v] => K v st
              | _ => False
            | false => False
      | .val (.pointer (some a)) => match ti.zero with
        | none => False
        | some z => match isAggD dsc with
          | true => match Nat.beq (cellsL z).length ti.size with
            | true => flush cx st fun st => exCells (cellsL z) fun vs => CellsAt st.w a vs ∧ K (.agg vs.toArray) st
            | false => False
          | false => flush cx st fun st => exCell z fun v => CellsAt st.w a [v] ∧ K v st
      | _ => False

def vRes : List ResultVar → St → (List Value → St → Prop) → Prop
  | [], st, K => K [] st
  | .tmp t :: r, st, K => match get cx st t with
    | .val v => vRes r st fun vs st => K (v :: vs) st
    | _ => False
  | .cell d t :: r, st, K => vResCell cx st d t fun v st => vRes r st fun vs st => K (v :: vs) st

def retV : List Value → Value
  | [v] => v
  | vs => .tuple vs.toArray

def vEnd (fn : Func) (R : Ending → World → Prop) : Exit → St → Prop
  | .normal, st | .ret, st => match isNil st.defers with
    | true => vRes cx fn.results.toList st fun vs st => flush cx st fun st => R (.returned (retV vs)) st.w
    | false => False
  | .panic ch, st => match isNil st.defers with
    | true => R (.panicked ch) st.w
    | false => False
  | _, _ => False

/-- The slots that hold the results, or where they lie. -/
def resSlots : List ResultVar → List Nat
  | [] => []
  | .tmp t :: r => t :: resSlots r
  | .cell d _ :: r => d :: resSlots r

def slotVals (st : St) : List Nat → Option (List (Nat × Value))
  | [] => some []
  | i :: r => match get cx st i with
    | .val v => match slotVals st r with
      | some vs => some ((i, v) :: vs)
      | none => none
    | _ => none

def slotsHold (tmps : Array Value) : List (Nat × Value) → Prop
  | [] => True
  | (i, v) :: r => tmps.getD i undef = v ∧ slotsHold tmps r

/-- The end of a function that defers: what its deferred calls must come to. -/
def vEndD (fn : Func) (R : Ending → World → Prop) : Exit → St → Prop
  | .normal, st | .ret, st => match slotVals cx st (resSlots fn.results.toList) with
    | some l => flush cx st fun st => ∀ tmps : Array Value, slotsHold tmps l → Leaves cx.P fn tmps R st.defers .returning st.w
    | none => False
  | .panic ch, st => match slotVals cx st (resSlots fn.results.toList) with
    | some l => ∀ tmps : Array Value, slotsHold tmps l → Leaves cx.P fn tmps R st.defers (.panicking ch) st.w
    | none => False
  | _, _ => False

end

def cx0 (P : Program) (fn : Func) (an : Ann) : Cx := ⟨P, fn.ntmps, an, [], [], []⟩
def st0 (args : List Value) (w : World) : St := ⟨argsEnv 0 args, [], w, false, []⟩

section
variable {cx : Cx} {st : St} {a : Act} {w : World}

theorem argsEnv_look : ∀ (args : List Value) (k i : Nat), look (argsEnv k args) i = if k ≤ i ∧ i < k + args.length then .val (args.getD (i - k) undef) else .junk
  | [], k, i => by simp only [argsEnv, look, List.length_nil]; rw [if_neg (by omega)]
  | v :: r, k, i => by
    simp only [argsEnv]
    by_cases hk : k = i
    · subst hk; rw [look_cons_same, if_pos (by simp)]; simp
    · rw [look_cons_ne _ _ hk, argsEnv_look r (k + 1) i]
      by_cases h : k + 1 ≤ i ∧ i < k + 1 + r.length
      · rw [if_pos h, if_pos (by simp; omega)]
        have : i - k = (i - (k + 1)) + 1 := by omega
        rw [this]; simp
      · rw [if_neg h, if_neg (by simp; omega)]

theorem rel0 {P : Program} {fn : Func} {an : Ann} {args : List Value} (hn : args.length ≤ fn.ntmps) :
    Rel (cx0 P fn an) (st0 args w) { tmps := args.toArray ++ Array.replicate (fn.ntmps - args.toArray.size) undef, defers := [] } w := by
  refine ⟨⟨?_, fun i hi => ?_, fun x hx => ?_, trivial⟩, rfl, rfl⟩
  · simp [cx0]; omega
  · simp only [st0, cx0, List.append_nil]
    rw [argsEnv_look]
    split
    · rename_i h
      simp only [SVok, Nat.sub_zero]
      have hlt : i < args.length := by omega
      simp [Array.getD_eq_getD_getElem?, List.getD, Array.getElem?_append_left, hlt]
    · trivial
  · simp [st0, cx0] at hx

theorem get_sv (hR : Rel cx st a w) {d : Nat} : SVok (blM (st.bm ++ cx.bm)) (get cx st d) (a.tmps.getD d undef) := by
  have := ev_ok hR (.tmp d)
  exact this

theorem vResCell_ok {d : Nat} {t : TypeId} {K : Value → St → Prop} (h : vResCell cx st d t K) (hR : Rel cx st a w) :
    ∃ v st', K v st' ∧ Rel cx st' a w ∧ (do loadVar t (← asAddr (a.tmps.getD d undef)) : Sem Value).run cx.P w = .ok v w := by
  have hx := get_sv hR (d := d)
  have agg : ∀ {ti : TypeInfo} {dsc : TypeDesc} {ad : Addr} {vs : List Value}, cx.P.info? t = some ti → cx.P.underlying t = some dsc → isAggD dsc = true → vs.length = ti.size → CellsAt w ad vs → a.tmps.getD d undef = .pointer (some ad) →
      (do loadVar t (← asAddr (a.tmps.getD d undef)) : Sem Value).run cx.P w = .ok (.agg vs.toArray) w := by
    intro ti dsc ad vs h1 h2 h3 h4 h5 h6
    have := run_loadVar_agg h1 h2 h3 h4 h5
    rw [h6]
    simpa [asAddr, Instr.loadAt, Instr.sureAddr] using this
  have one : ∀ {dsc : TypeDesc} {ad : Addr} {v : Value}, cx.P.underlying t = some dsc → isAggD dsc = false → w.cell? ad = some v → a.tmps.getD d undef = .pointer (some ad) →
      (do loadVar t (← asAddr (a.tmps.getD d undef)) : Sem Value).run cx.P w = .ok v w := by
    intro dsc ad v h2 h3 h5 h6
    have := run_loadVar_one h2 h3 h5
    rw [h6]
    simpa [asAddr, Instr.loadAt, Instr.sureAddr] using this
  unfold vResCell at h
  split at h
  · exact h.elim
  · rename_i ti hi
    split at h
    · exact h.elim
    · rename_i dsc hu
      split at h
      · rename_i base off hb
        rw [hb] at hx
        obtain ⟨g, hg, hx'⟩ := hx
        split at h
        · exact h.elim
        · rename_i b hf
          have hgb : g = b.block := by simp [blM, hf] at hg; exact hg.symm
          subst hgb
          split at h
          · rename_i hagg
            split at h
            · rename_i hle
              split at h
              · rename_i vs hvs
                exact ⟨_, st, h, hR, agg hi hu hagg (boxCells_ok _ _ _ hvs).1 (box_cells hR.core hf (ble_of hle) hvs) hx'⟩
              · exact h.elim
            · exact h.elim
          · rename_i hagg
            split at h
            · rename_i hle
              split at h
              · rename_i v hvs
                have hc := box_cells hR.core hf (ble_of hle) hvs 0 v rfl
                exact ⟨_, st, h, hR, one hu hagg (by simpa [Addr.add] using hc) hx'⟩
              · exact h.elim
            · exact h.elim
      · rename_i ad hb
        rw [hb] at hx
        simp only [SVok] at hx
        split at h
        · exact h.elim
        · rename_i z hz
          split at h
          · rename_i hagg
            split at h
            · rename_i hle
              obtain ⟨st', h, hR', hw, _⟩ := flush_ok h hR
              obtain ⟨vs, hl, hc, h⟩ := exCells_ok _ _ h
              rw [hw] at hc
              exact ⟨_, st', h, hR', agg hi hu hagg (hl.trans (beq_of hle)) hc hx⟩
            · exact h.elim
          · rename_i hagg
            obtain ⟨st', h, hR', hw, _⟩ := flush_ok h hR
            obtain ⟨v, hc, h⟩ := exCell_ok h
            rw [hw] at hc
            have := hc 0 v rfl
            exact ⟨_, st', h, hR', one hu hagg (by simpa [Addr.add] using this) hx⟩
      · exact h.elim

def resSem (tmps : Array Value) : ResultVar → Sem Value
  | .tmp t => pure (tmps.getD t undef)
  | .cell d t => do loadVar t (← asAddr (tmps.getD d undef))

theorem vRes_ok : ∀ (l : List ResultVar) (st : St) (K : List Value → St → Prop), vRes cx l st K → Rel cx st a w → ∃ vs st', K vs st' ∧ Rel cx st' a w ∧ (l.mapM (resSem a.tmps)).run cx.P w = .ok vs w
  | [], st, K, h, hR => ⟨[], st, h, hR, by simp⟩
  | .tmp t :: r, st, K, h, hR => by
    unfold vRes at h
    have hx := get_sv hR (d := t)
    split at h
    · rename_i v hv
      rw [hv] at hx
      simp only [SVok] at hx
      obtain ⟨vs, st', h1, h2, h3⟩ := vRes_ok r st _ h hR
      refine ⟨v :: vs, st', h1, h2, ?_⟩
      rw [List.mapM_cons, Sem.run_bind]
      simp only [resSem, Sem.run_pure, Result.andThen_ok, Sem.run_bind, h3, hx]
    · exact h.elim
  | .cell d t :: r, st, K, h, hR => by
    unfold vRes at h
    obtain ⟨v, st1, h, hR1, hrun⟩ := vResCell_ok h hR
    obtain ⟨vs, st', h1, h2, h3⟩ := vRes_ok r st1 _ h hR1
    refine ⟨v :: vs, st', h1, h2, ?_⟩
    rw [List.mapM_cons, Sem.run_bind]
    have hrun' : (resSem a.tmps (.cell d t)).run cx.P w = .ok v w := hrun
    simp only [hrun', Sem.run_pure, Result.andThen_ok, Sem.run_bind, h3]

theorem run_results {P : Program} {fn : Func} {tmps : Array Value} {vs : List Value} (h : (fn.results.toList.mapM (resSem tmps)).run P w = .ok vs w) : (results fn tmps).run P w = .ok (retV vs) w := by
  have h2 : (fn.results.mapM (resSem tmps)).run P w = .ok vs.toArray w := by
    rw [Array.mapM_eq_mapM_toList, Sem.run_map, h]
    rfl
  unfold results
  rw [Sem.run_bind]
  show ((fn.results.mapM (resSem tmps)).run P w).andThen _ = _
  rw [h2]
  simp only [Result.andThen_ok, Sem.run_pure]
  congr 1
  match vs with
  | [] => rfl
  | [v] => rfl
  | v :: u :: r => simp [retV]

/-- **A FUNCTION THAT DEFERS NOTHING.** -/
theorem calls_of_vc {P : Program} {f : FuncId} {fn : Func} {c : Code} {args : List Value} {R : Ending → World → Prop} (an : Ann) (hf : P.funcs[f]? = some fn) (hb : fn.body = some c) (hn : Nat.ble args.length fn.ntmps = true)
    (h : vc c (cx0 P fn an) 0 (st0 args w) (vEnd (cx0 P fn an) fn R)) : Calls P f args.toArray w R := by
  refine calls_of_wp hf hb (vc_ok c (cx0 P fn an) 0 _ _ _ w _ h (rel0 (ble_of hn)) ?_)
  intro e st a w he hr
  have hnil : ∀ {l : List Deferred}, isNil l = true → l = [] := by
    intro l hl
    cases l with
    | nil => rfl
    | cons x r => cases hl
  have ret : (match isNil st.defers with
      | true => vRes (cx0 P fn an) fn.results.toList st fun vs st => flush (cx0 P fn an) st fun st => R (.returned (retV vs)) st.w
      | false => False) → Rel (cx0 P fn an) st a w → a.defers = [] ∧ ∃ v, (results fn a.tmps).run P w = .ok v w ∧ R (.returned v) w := by
    intro h hr
    split at h
    · rename_i hd
      obtain ⟨vs, st1, h1, h2, h3⟩ := vRes_ok _ _ _ h hr
      obtain ⟨st2, h4, _, hw, _⟩ := flush_ok h1 h2
      refine ⟨by rw [hr.defers, hnil hd]; rfl, retV vs, run_results h3, by rw [hw] at h4; exact h4⟩
    · exact h.elim
  cases e with
  | normal => exact ret he hr
  | ret => exact ret he hr
  | panic ch =>
    simp only [vEnd] at he
    split at he
    · rename_i hd
      refine ⟨by rw [hr.defers, hnil hd]; rfl, ?_⟩
      rw [hr.world]
      exact he
    · exact he.elim
  | exit id => exact he.elim
  | goto l => exact he.elim
  | outgrown => exact he.elim

theorem slotVals_ok (hs : ∀ d, SVok (blM (st.bm ++ cx.bm)) (get cx st d) (a.tmps.getD d undef)) : ∀ (l : List Nat) vs, slotVals cx st l = some vs → slotsHold a.tmps vs
  | [], vs, h => by simp [slotVals] at h; subst h; trivial
  | i :: r, vs, h => by
    unfold slotVals at h
    have hx := hs i
    split at h
    · rename_i v hv
      rw [hv] at hx
      split at h
      · rename_i ws hws
        simp only [Option.some.injEq] at h
        subst h
        exact ⟨hx, slotVals_ok hs r ws hws⟩
      · cases h
    · cases h

theorem calls_of_vc_defers {P : Program} {f : FuncId} {fn : Func} {c : Code} {args : List Value} {R : Ending → World → Prop} (an : Ann) (hf : P.funcs[f]? = some fn) (hb : fn.body = some c) (hn : Nat.ble args.length fn.ntmps = true)
    (h : vc c (cx0 P fn an) 0 (st0 args w) (vEndD (cx0 P fn an) fn R)) : Calls P f args.toArray w R := by
  refine calls_of_wp_defers hf hb (vc_ok c (cx0 P fn an) 0 _ _ _ w _ h (rel0 (ble_of hn)) ?_)
  intro e st a w he hr
  have ret : (match slotVals (cx0 P fn an) st (resSlots fn.results.toList) with
    | some l => flush (cx0 P fn an) st fun st => ∀ tmps : Array Value, slotsHold tmps l → Leaves P fn tmps R st.defers .returning st.w
    | none => False) → Rel (cx0 P fn an) st a w → Leaves P fn a.tmps R a.defers .returning w := by
    intro h hr
    split at h
    · rename_i l hl
      have hh := slotVals_ok (fun d => get_sv hr) _ _ hl
      obtain ⟨st2, h4, h5, hw, _⟩ := flush_ok h hr
      have := h4 a.tmps hh
      rw [hw] at this
      have hd : a.defers = st2.defers := by rw [h5.defers]; simp [cx0]
      rw [hd]
      exact this
    · exact h.elim
  cases e with
  | normal => exact ret he hr
  | ret => exact ret he hr
  | panic ch =>
    simp only [vEndD] at he
    split at he
    · rename_i l hl
      have hh := slotVals_ok (fun d => by
        unfold get
        split
        · rename_i hb
          exact hr.slots d (blt_of hb)
        · trivial) _ _ hl
      have := he a.tmps hh
      have hd : a.defers = st.defers := by rw [hr.defers]; simp [cx0]
      show Leaves P fn a.tmps R a.defers (.panicking ch) w
      rw [hd, hr.world]
      exact this
    · exact he.elim
  | exit id => exact he.elim
  | goto l => exact he.elim
  | outgrown => exact he.elim

end
end Go.Vc

namespace Go.Vc
open Go
def bodyOf (fn : Func) : Code := match fn.body with
  | some c => c
  | none => .skip
theorem bodyOf_some {fn : Func} (h : fn.body.isSome = true) : fn.body = some (bodyOf fn) := by
  unfold bodyOf
  cases hb : fn.body with
  | none => simp [hb] at h
  | some c => rfl
end Go.Vc

/- Small words for the proofs from the conditions. -/
namespace Go.Vc
open Go

abbrev Bel := RowKit.Below

/-- There may be new blocks; nothing that was there has turned. -/
def Grow (w w' : World) : Prop := Bel w.heap.size w w'

theorem Grow.refl (w : World) : Grow w w := RowKit.Below.refl _ _
theorem Grow.trans {a b c : World} (h : Grow a b) (k : Grow b c) : Grow a c := RowKit.Below.trans h (RowKit.Below.mono k h.size)
theorem Grow.bel {a b : World} (h : Grow a b) {n : Nat} (hn : n ≤ a.heap.size) : Bel n a b := RowKit.Below.mono h hn

theorem LocB.bel {B : List Nat} {n : Nat} {w w' : World} (h : LocB B w w') (hn : n ≤ w.heap.size) (hB : ∀ b, b ∈ B → n ≤ b) : Bel n w w' :=
  ⟨h.os, h.tape, h.output, h.size, fun k hk => h.block k (by omega) (fun hkB => by have := hB k hkB; omega)⟩
theorem LocB.grow0 {w w' : World} (h : LocB [] w w') : Grow w w' := h.bel (Nat.le_refl _) (by simp)
theorem Bel.then {n : Nat} {a b c : World} (h : Bel n a b) (k : Bel n b c) : Bel n a c := RowKit.Below.trans h k
/-- A step that only makes new blocks, behind one that keeps what lies below n. -/
theorem Bel.grow {n : Nat} {a b c : World} (h : Bel n a b) (hn : n ≤ a.heap.size) (k : Grow b c) : Bel n a c := RowKit.Below.trans h (RowKit.Below.mono k (Nat.le_trans hn h.size))

/-- The usual end: a value, and only new blocks. -/
def Ret (w : World) (v : Value) : Ending → World → Prop := fun e w' => e = .returned v ∧ Grow w w'

theorem ret_bool {b c : Bool} (h : b = c) : Ending.returned (Value.bool b) = Ending.returned (Value.bool c) := by rw [h]
theorem ret_int {k : IntKind} {b c : Int} (h : b = c) : Ending.returned (Value.int k b) = Ending.returned (Value.int k c) := by rw [h]
theorem ret_str {b c : Bytes} (h : b = c) : Ending.returned (Value.string (bs b)) = Ending.returned (Value.string (bs c)) := by rw [h]
theorem ret_int2 {k l : IntKind} {a b c d : Int} (h : a = b) (h' : c = d) : Ending.returned (Value.tuple #[Value.int k a, Value.int l c]) = Ending.returned (Value.tuple #[Value.int k b, Value.int l d]) := by rw [h, h']

theorem dec_t {p : Prop} [Decidable p] (h : p) : true = decide p := by simp [h]
theorem dec_f {p : Prop} [Decidable p] (h : ¬ p) : false = decide p := by simp [h]
theorem of_dec {p : Prop} [Decidable p] (h : decide p = true) : p := of_decide_eq_true h
theorem of_ndec {p : Prop} [Decidable p] (h : decide p = false) : ¬ p := of_decide_eq_false h

theorem br_dec {p : Prop} [Decidable p] {A B : Prop} (h : p → A) (h' : ¬ p → B) : br (decide p) A B :=
  br_intro (fun e => h (of_decide_eq_true e)) (fun e => h' (of_decide_eq_false e))
theorem br_ndec {p : Prop} [Decidable p] {A B : Prop} (h : ¬ p → A) (h' : p → B) : br (!decide p) A B :=
  br_intro (fun e => h (of_decide_eq_false (by simpa using e))) (fun e => h' (of_decide_eq_true (by simpa using e)))
theorem br_not {b : Bool} {A B : Prop} (h : b = false → A) (h' : b = true → B) : br (!b) A B := by
  cases b
  · exact h rfl
  · exact h' rfl

theorem inI64 {z : Int} (h : -9223372036854775808 ≤ z) (h' : z ≤ 9223372036854775807) : InI64 z := ⟨h, h'⟩

theorem byteAt_eq (s : Bytes) (i : Nat) (h : i < s.length) : byteAt s i = ((s[i]).toNat : Int) := by
  simp [byteAt, List.getD, h]
theorem byteAt_lt (s : Bytes) (i : Nat) : 0 ≤ byteAt s i ∧ byteAt s i < 256 := by
  unfold byteAt
  have := UInt8.toNat_lt (s.getD i 0)
  omega
theorem u8_eq {a b : UInt8} (h : (a.toNat : Int) = (b.toNat : Int)) : a = b := UInt8.toNat_inj.1 (by omega)

theorem drop_cons {s : Bytes} {k : Nat} (h : k < s.length) : s.drop k = s[k] :: s.drop (k + 1) := List.drop_eq_getElem_cons h
theorem take_snoc {s : Bytes} {k : Nat} (h : k < s.length) : s.take (k + 1) = s.take k ++ [s[k]] := by
  rw [List.take_succ_eq_append_getElem h]

end Go.Vc
namespace Go.Vc
open Go
theorem Ret.bool {w w' : World} {b c : Bool} (h : b = c) (hg : Grow w w') : Ret w (.bool c) (.returned (.bool b)) w' := ⟨ret_bool h, hg⟩
theorem Ret.int {w w' : World} {k : IntKind} {b c : Int} (h : b = c) (hg : Grow w w') : Ret w (.int k c) (.returned (.int k b)) w' := ⟨ret_int h, hg⟩
theorem Ret.str {w w' : World} {b c : Bytes} (h : b = c) (hg : Grow w w') : Ret w (.string (bs c)) (.returned (.string (bs b))) w' := ⟨ret_str h, hg⟩
theorem Ret.int2 {w w' : World} {k l : IntKind} {a b c d : Int} (h : a = b) (h' : c = d) (hg : Grow w w') : Ret w (.tuple #[.int k b, .int l d]) (.returned (.tuple #[.int k a, .int l c])) w' := ⟨ret_int2 h h', hg⟩
end Go.Vc
