/- An interpreter of the translated Go over values and blocks of rows: what it answers is what the machine answers (proved in AbSound). Definitions alone. -/
import Derived.Orders
namespace Go.Ab

/-- One cell's worth: a flag, a whole number, a text, an address (block, row, cell), a slice (block, first row; how many), a function value. -/
inductive Lf where
  | b (x : Bool)
  | i (k : IntKind) (n : Int)
  | s (x : ByteArray)
  | p (a : Option (Nat × Nat × Nat))
  | sl (a : Option (Nat × Nat)) (len : Nat)
  | fn (f : Nat) (first cap : List (Nat × Nat × Nat))
  deriving DecidableEq, Inhabited
inductive W where
  | lf (l : Lf)
  | agg (cs : List Lf)
  deriving DecidableEq, Inhabited
inductive V where
  | w (x : W)
  | tup (ws : List W)
  | bad
  deriving DecidableEq, Inhabited
/-- How a block is held: read alone; one's own; of no room. -/
inductive Md where
  | ro | wr | z
  deriving DecidableEq, Inhabited
structure Blk where
  elem : Nat
  md : Md
  rows : List (List Lf)
  deriving DecidableEq, Inhabited
abbrev Heap := List (Option Blk)

inductive TK where
  | int (k : IntKind) | bool | str | slice (e : Nat) | struct (offs : List (Nat × Nat)) | array (n e : Nat) | other
structure TI where
  size : Nat
  bytes : Nat
  kind : TK
  zero : List Lf
  eq : Bool
def TI.agg (t : TI) : Bool := match t.kind with | .struct _ | .array _ _ => true | _ => false
abbrev Tab := Nat → Option TI

def lfOf : Value → Option Lf
  | .bool b => some (.b b)
  | .int k n => some (.i k n)
  | .string s => some (.s s)
  | .pointer none => some (.p none)
  | .slice none 0 0 => some (.sl none 0)
  | _ => none
def lfsOf : List Value → Option (List Lf)
  | [] => some []
  | v :: vs => match lfOf v, lfsOf vs with
    | some l, some ls => some (l :: ls)
    | _, _ => none
def ofVal (v : Value) : V :=
  match v with
  | .agg cs => match lfsOf cs.toList with
    | some l => .w (.agg l)
    | none => .bad
  | v => match lfOf v with
    | some l => .w (.lf l)
    | none => .bad
def ev (tm : List V) : Operand → V
  | .tmp t => tm.getD t .bad
  | .const v => ofVal v
  | .func f => .w (.lf (.fn f [] []))
  | .global _ => .bad
abbrev V.int (n : Int) : V := .w (.lf (.i .i64 n))
abbrev V.bool (x : Bool) : V := .w (.lf (.b x))
abbrev V.str (x : ByteArray) : V := .w (.lf (.s x))
abbrev V.ptr (id r k : Nat) : V := .w (.lf (.p (some (id, r, k))))
abbrev V.sl (id r len : Nat) : V := .w (.lf (.sl (some (id, r)) len))
abbrev V.nilsl : V := .w (.lf (.sl none 0))
abbrev V.agg (cs : List Lf) : V := .w (.agg cs)
def V.cells : V → Option (List Lf)
  | .w (.lf l) => some [l]
  | .w (.agg cs) => some cs
  | _ => none
def mkV (agg : Bool) (cs : List Lf) : Option V :=
  if agg then some (.w (.agg cs)) else match cs with
    | [l] => some (.w (.lf l))
    | _ => none

/-! ### Blocks -/
def blkAt (H : Heap) (id : Nat) : Option Blk := match H[id]? with | some (some b) => some b | _ => none
def loadV (ti : TI) (H : Heap) (id r k : Nat) : Option V :=
  match blkAt H id with
  | none => none
  | some b => match b.rows[r]? with
    | none => none
    | some row => if k + ti.size ≤ row.length then mkV ti.agg ((row.drop k).take ti.size) else none
def putRow (row : List Lf) (k : Nat) (cs : List Lf) : List Lf := row.take k ++ cs ++ row.drop (k + cs.length)
def storeV (ti : TI) (H : Heap) (id r k : Nat) (v : V) : Option Heap :=
  match blkAt H id, v.cells with
  | some b, some cs => match b.rows[r]? with
    | none => none
    | some row => if b.md = .wr ∧ cs.length = ti.size ∧ k + cs.length ≤ row.length then some (H.set id (some { b with rows := b.rows.set r (putRow row k cs) })) else none
  | _, _ => none
/-- A new block behind all. -/
def newBlk (H : Heap) (b : Blk) : Heap := H ++ [some b]
def rowsOf (H : Heap) : Option (Nat × Nat) → Nat → Option (List (List Lf))
  | _, 0 => some []
  | none, _ + 1 => none
  | some (id, r), n + 1 => match blkAt H id with
    | some b => if r + (n + 1) ≤ b.rows.length then some ((b.rows.drop r).take (n + 1)) else none
    | none => none
def elemIs (H : Heap) (e : Nat) : Option (Nat × Nat) → Bool
  | none => true
  | some (id, _) => match blkAt H id with | some b => b.elem == e | none => false
/-- append(s, ys...): in place where there is room within what is seen; else the row is another one. -/
def appendV (τ : Tab) (e : Nat) (H : Heap) (a : Option (Nat × Nat)) (len : Nat) (ys : List (List Lf)) : Option (V × Heap) :=
  match τ e with
  | none => none
  | some te =>
    if ys = [] then some (.w (.lf (.sl a len)), H) else
    if 0 < te.bytes ∧ (len + ys.length) * te.bytes ≤ 140737488355328 then
      match a with
      | none => if len = 0 then some (.sl H.length 0 ys.length, newBlk H ⟨e, .wr, ys⟩) else none
      | some (id, r) => match blkAt H id with
        | none => none
        | some b =>
          if b.elem = e then
            match b.md with
            | .ro => none
            | .z => if len = 0 then some (.sl H.length 0 ys.length, newBlk H ⟨e, .wr, ys⟩) else none
            | .wr =>
              if r + len + ys.length ≤ b.rows.length then
                some (.sl id r (len + ys.length), H.set id (some { b with rows := b.rows.take (r + len) ++ ys ++ b.rows.drop (r + len + ys.length) }))
              else if r + len ≤ b.rows.length then
                some (.sl H.length 0 (len + ys.length), newBlk (H.set id none) ⟨e, .wr, (b.rows.drop r).take len ++ ys⟩)
              else none
          else none
    else none

/-! ### Operators -/
def cmpI (op : BinOp) (a b : Int) : Option Bool :=
  match op with
  | .eql => some (decide (a = b))
  | .neq => some (!decide (a = b))
  | .lss => some (decide (a < b))
  | .leq => some (decide (a ≤ b))
  | .gtr => some (decide (b < a))
  | .geq => some (decide (b ≤ a))
  | _ => none
def arI (op : BinOp) (k : IntKind) (a b : Int) : Option Int :=
  match op with
  | .add => some (k.wrap (a + b))
  | .sub => some (k.wrap (a - b))
  | .mul => some (k.wrap (a * b))
  | .quo => if b = 0 then none else some (k.wrap (a.tdiv b))
  | .rem => if b = 0 then none else some (a.tmod b)
  | .and => some (k.wrap (BitVec.ofInt k.bits a &&& BitVec.ofInt k.bits b).toNat)
  | .or => some (k.wrap (BitVec.ofInt k.bits a ||| BitVec.ofInt k.bits b).toNat)
  | .xor => some (k.wrap (BitVec.ofInt k.bits a ^^^ BitVec.ofInt k.bits b).toNat)
  | _ => none
def binInt (op : BinOp) (k : IntKind) (a : Int) (k' : IntKind) (b : Int) : Option V :=
  match op with
  | .shl => if 0 ≤ b then some (.w (.lf (.i k (k.wrap (a * 2 ^ (min b.toNat k.bits)))))) else none
  | .shr => if 0 ≤ b then some (.w (.lf (.i k (a.fdiv (2 ^ (min b.toNat k.bits)))))) else none
  | _ => if k = k' then
      match cmpI op a b with
      | some x => some (.bool x)
      | none => match arI op k a b with
        | some n => some (.w (.lf (.i k n)))
        | none => none
    else none
def binStr (op : BinOp) (a b : ByteArray) : Option V :=
  match op with
  | .add => if a.size + b.size ≤ 9223372036854775807 then some (.str (a ++ b)) else none
  | .eql => some (.bool (decide (a = b)))
  | .neq => some (.bool (!decide (a = b)))
  | _ => none
inductive Sh where
  | b | i (k : IntKind) | s | o
  deriving DecidableEq
def Lf.sh : Lf → Sh
  | .b _ => .b
  | .i k _ => .i k
  | .s _ => .s
  | _ => .o
def binEq (τ : Tab) (t : Nat) (x y : W) : Option Bool :=
  match τ t with
  | none => none
  | some ti => match ti.kind, x, y with
    | .bool, .lf (.b a), .lf (.b b) => some (decide (a = b))
    | .struct _, .agg xs, .agg ys => if ti.eq = true ∧ xs.map Lf.sh = ti.zero.map Lf.sh ∧ ys.map Lf.sh = ti.zero.map Lf.sh then some (decide (xs = ys)) else none
    | .slice _, .lf (.sl a _), .lf (.sl none 0) => some a.isNone
    | _, _, _ => none
def binV (τ : Tab) (op : BinOp) (t : Nat) (x y : V) : Option V :=
  match x, y with
  | .w (.lf (.i k a)), .w (.lf (.i k' b)) => binInt op k a k' b
  | .w (.lf (.s a)), .w (.lf (.s b)) => binStr op a b
  | .w a, .w b => match op with
    | .eql => (binEq τ t a b).map V.bool
    | .neq => (binEq τ t a b).map fun z => V.bool (!z)
    | _ => none
  | _, _ => none
def unV (op : UnOp) (x : V) : Option V :=
  match op, x with
  | .not, .w (.lf (.b a)) => some (.bool (!a))
  | .neg, .w (.lf (.i k n)) => some (.w (.lf (.i k (k.wrap (0 - n)))))
  | _, _ => none
def bytesV : List (List Lf) → Option (List UInt8)
  | [] => some []
  | [.i .u8 n] :: rs => if 0 ≤ n ∧ n < 256 then (bytesV rs).map (n.toNat.toUInt8 :: ·) else none
  | _ :: _ => none
def convV (τ : Tab) (src dst : Nat) (x : V) : Option V :=
  match τ src, τ dst with
  | some ts, some td => match ts.kind, td.kind, x with
    | .int _, .int k, .w (.lf (.i _ n)) => some (.w (.lf (.i k (k.wrap n))))
    | .str, .str, .w (.lf (.s a)) => some (.str a)
    | _, _, _ => none
  | _, _ => none

/-- Bytes turned to a text: outside of regions that draw their order. -/
def bytesStr (τ : Tab) (H : Heap) (src dst : Nat) (x : V) : Option V :=
  match τ src, τ dst, x with
  | some ⟨_, _, .slice e, _, _⟩, some ⟨_, _, .str, _, _⟩, .w (.lf (.sl a n)) => match τ e with
    | some ⟨1, _, .int .u8, _, _⟩ => if n = 0 ∨ elemIs H e a = true then match rowsOf H a n with
      | some ys => (bytesV ys).map fun bs => .str ⟨bs.toArray⟩
      | none => none
      else none
    | _ => none
  | _, _, _ => none
def convW (τ : Tab) (draw : Bool) (H : Heap) (src dst : Nat) (x : V) : Option V :=
  match convV τ src dst x with
  | some y => some y
  | none => if draw = true then none else bytesStr τ H src dst x
theorem convW_true (τ : Tab) (H : Heap) (src dst : Nat) (x : V) : convW τ true H src dst x = convV τ src dst x := by
  unfold convW; cases convV τ src dst x <;> rfl

/-! ### Operations -/
def fillL (cells : List Lf) : List (Nat × Nat × List Lf) → Option (List Lf)
  | [] => some cells
  | (off, size, cs) :: rest => if cs.length = size ∧ off + size ≤ cells.length then fillL (putRow cells off cs) rest else none
def placesS (tm : List V) (offs : List (Nat × Nat)) : List (Nat × Operand) → Option (List (Nat × Nat × List Lf))
  | [] => some []
  | (i, x) :: rest => match offs[i]?, (ev tm x).cells, placesS tm offs rest with
    | some (o, z), some cs, some l => some ((o, z, cs) :: l)
    | _, _, _ => none
def buildV (τ : Tab) (tm : List V) (t : Nat) (parts : List (Nat × Operand)) : Option V :=
  match τ t with
  | some ti => match ti.kind with
    | .struct offs => match placesS tm offs parts with
      | some l => (fillL ti.zero l).map .agg
      | none => none
    | .array n e => match τ e with
      | some te => match placesS tm ((List.range n).map fun i => (i * te.size, te.size)) parts with
        | some l => (fillL ti.zero l).map .agg
        | none => none
      | none => none
    | _ => none
  | none => none
def fillRows (tm : List V) (size : Nat) (rows : List (List Lf)) : List (Nat × Operand) → Option (List (List Lf))
  | [] => some rows
  | (i, x) :: rest => match (ev tm x).cells with
    | some cs => if cs.length = size ∧ i < rows.length then fillRows tm size (rows.set i cs) rest else none
    | none => none
def buildSliceR (τ : Tab) (tm : List V) (t len : Nat) (parts : List (Nat × Operand)) : Option (Nat × List (List Lf)) :=
  match τ t with
  | some ⟨_, _, .slice e, _, _⟩ => match τ e with
    | some te => if len * te.size ≤ 16777216 ∧ 0 < te.size then (fillRows tm te.size (List.replicate len te.zero) parts).map (e, ·) else none
    | none => none
  | _ => none
def buildSliceV (τ : Tab) (tm : List V) (H : Heap) (t len : Nat) (parts : List (Nat × Operand)) : Option (V × Heap) :=
  (buildSliceR τ tm t len parts).map fun r => (.sl H.length 0 len, newBlk H ⟨r.1, .wr, r.2⟩)
def makeSliceR (τ : Tab) (t : Nat) (x y : V) : Option (Nat × Nat × List Lf) :=
  match τ t, x, y with
  | some ⟨_, _, .slice e, _, _⟩, .w (.lf (.i .i64 n)), .w (.lf (.i .i64 m)) => match τ e with
    | some te => if n = m ∧ 0 ≤ n ∧ n * te.bytes ≤ 281474976710656 ∧ n ≤ 9223372036854775807 ∧ 0 < te.size then some (e, n.toNat, te.zero) else none
    | none => none
  | _, _, _ => none
def makeSliceV (τ : Tab) (H : Heap) (t : Nat) (x y : V) : Option (V × Heap) :=
  (makeSliceR τ t x y).map fun r => (.sl H.length 0 r.2.1, newBlk H ⟨r.1, .wr, List.replicate r.2.1 r.2.2⟩)
def bnd (d : Nat) (most : Nat) : Option V → Option Nat
  | none => some d
  | some (.w (.lf (.i _ n))) => if 0 ≤ n ∧ n ≤ most then some n.toNat else none
  | some _ => none
def sliceV (τ : Tab) (H : Heap) (t : Nat) (x : V) (lo hi mx : Option V) : Option (V × Heap) :=
  match τ t with
  | none => none
  | some ti => match ti.kind, x, mx with
    | .str, .w (.lf (.s a)), none => match bnd a.size a.size hi with
      | some h => match bnd 0 h lo with
        | some l => some (.str (a.extract l h), H)
        | none => none
      | none => none
    | .slice e, .w (.lf (.sl a len)), none => if elemIs H e a = true ∧ (τ e).isSome = true then match bnd len len hi with
      | some h => match bnd 0 h lo with
        | some l => match a with
          | none => some (.nilsl, H)
          | some (id, r) => some (.sl id (r + l) (h - l), H)
        | none => none
      | none => none
      else none
    | .slice e, .w (.lf (.sl a _)), some (.w (.lf (.i _ 0))) => if (τ e).isSome = true then match bnd 1 0 hi, bnd 0 0 lo with
      | some 0, some 0 => match a with
        | none => some (.nilsl, H)
        | some _ => some (.sl H.length 0 0, newBlk H ⟨e, .z, []⟩)
      | _, _ => none
      else none
    | _, _, _ => none
/-- A slice behind the slice's end, as far as its block has rows; and one with a third bound, whose answer nobody may ask for. -/
def sliceX (τ : Tab) (H : Heap) (t : Nat) (x : V) (lo hi mx : Option V) : Option (V × Heap) :=
  match τ t with
  | none => none
  | some ti => match ti.kind, x, mx with
    | .slice e, .w (.lf (.sl a len)), some (.w (.lf (.i _ m))) => if (τ e).isSome = true ∧ 0 ≤ m ∧ m ≤ len ∧ hi.isSome = true then match bnd 0 m.toNat hi with
      | some h => match bnd 0 h lo with
        | some _ => some (.bad, H)
        | none => none
      | none => none
      else none
    | .slice e, .w (.lf (.sl (some (id, r)) len)), none => match blkAt H id with
      | some b => if b.elem = e ∧ b.md = .wr ∧ (τ e).isSome = true ∧ hi.isSome = true then match bnd 0 (b.rows.length - r) hi with
        | some h => match bnd 0 h lo with
          | some l => some (.sl id (r + l) (h - l), H)
          | none => none
        | none => none
        else none
      | none => none
    | _, _, _ => none
def sliceW (τ : Tab) (draw : Bool) (H : Heap) (t : Nat) (x : V) (lo hi mx : Option V) : Option (V × Heap) :=
  match sliceV τ H t x lo hi mx with
  | some y => some y
  | none => if draw = true then none else sliceX τ H t x lo hi mx
def indexAddrV (τ : Tab) (H : Heap) (t : Nat) (x y : V) : Option V :=
  match τ t with
  | none => none
  | some ti => match ti.kind, x, y with
    | .slice e, .w (.lf (.sl (some (id, r)) len)), .w (.lf (.i _ n)) => if 0 ≤ n ∧ n < len ∧ elemIs H e (some (id, r)) = true ∧ (τ e).isSome = true then some (.ptr id (r + n.toNat) 0) else none
    | _, _, _ => none
def indexV (τ : Tab) (t : Nat) (x y : V) : Option V :=
  match τ t with
  | none => none
  | some ti => match ti.kind, x, y with
    | .str, .w (.lf (.s a)), .w (.lf (.i _ n)) => if h : 0 ≤ n ∧ n.toNat < a.size then some (.w (.lf (.i .u8 (a[n.toNat]'h.2).toNat))) else none
    | .array len e, .w (.agg cs), .w (.lf (.i _ n)) => match τ e with
      | some te => if 0 ≤ n ∧ n < len ∧ (n.toNat + 1) * te.size ≤ cs.length then mkV te.agg ((cs.drop (n.toNat * te.size)).take te.size) else none
      | none => none
    | _, _, _ => none
def fieldV (P : Program) (τ : Tab) (t : Nat) (x : V) (f : Nat) : Option V :=
  match P.underlying t, x with
  | some (.struct fs), .w (.agg cs) => match fs[f]? with
    | some fd => match τ fd.type with
      | some ti => if fd.offset + ti.size ≤ cs.length then mkV ti.agg ((cs.drop fd.offset).take ti.size) else none
      | none => none
    | none => none
  | _, _ => none
def fieldAddrV (τ : Tab) (t : Nat) (x : V) (f : Nat) : Option V :=
  match τ t with
  | none => none
  | some ti => match ti.kind, x with
    | .struct offs, .w (.lf (.p (some (id, r, k)))) => match offs[f]? with
      | some (o, z) => if z = 0 then none else some (.ptr id r (k + o))
      | none => none
    | _, _ => none
def ptrs : List V → Option (List (Nat × Nat × Nat))
  | [] => some []
  | .w (.lf (.p (some a))) :: vs => (ptrs vs).map (a :: ·)
  | _ :: _ => none
def lenV (τ : Tab) (t : Nat) (x : V) : Option V :=
  match τ t with
  | none => none
  | some ti => match ti.kind, x with
    | .slice _, .w (.lf (.sl _ n)) => some (.int n)
    | .str, .w (.lf (.s a)) => some (.int a.size)
    | _, _ => none
def foldI (f : Int → Int → Int) (k : IntKind) : Int → List V → Option V
  | a, [] => some (.w (.lf (.i k a)))
  | a, .w (.lf (.i k' b)) :: vs => if k = k' then foldI f k (f a b) vs else none
  | _, _ => none
def clearV (τ : Tab) (H : Heap) (a : Option (Nat × Nat)) (n : Nat) (e : Nat) : Option Heap :=
  if n = 0 then some H else
  match τ e, a with
  | some te, some (id, r) => match blkAt H id with
    | some b => if b.md = .wr ∧ b.elem = e ∧ r + n ≤ b.rows.length then some (H.set id (some { b with rows := b.rows.take r ++ List.replicate n te.zero ++ b.rows.drop (r + n) })) else none
    | none => none
  | _, _ => none
def pureB (τ : Tab) (b : Builtin) (ts : List Nat) (args : List V) : Option V :=
  match b, ts, args with
  | .len, [t], [x] => lenV τ t x
  | .max, _, .w (.lf (.i k a)) :: vs => foldI (fun x y => if x < y then y else x) k a vs
  | .min, _, .w (.lf (.i k a)) :: vs => foldI (fun x y => if y < x then y else x) k a vs
  | _, _, _ => none
def appendB (τ : Tab) (H : Heap) (ts : List Nat) (args : List V) : Option (V × Heap) :=
  match ts, args with
  | [t, u], [.w (.lf (.sl a len)), .w (.lf (.sl a2 n))] => match τ t, τ u with
    | some ⟨_, _, .slice e, _, _⟩, some ⟨_, _, .slice _, _, _⟩ => if n = 0 ∨ elemIs H e a2 = true then match rowsOf H a2 n with
      | some ys => appendV τ e H a len ys
      | none => none
      else none
    | _, _ => none
  | _, _ => none
def clearB (τ : Tab) (H : Heap) (ts : List Nat) (args : List V) : Option (V × Heap) :=
  match ts, args with
  | [t], [.w (.lf (.sl a n))] => match τ t with
    | some ⟨_, _, .slice e, _, _⟩ => (clearV τ H a n e).map (.tup [], ·)
    | _ => none
  | _, _ => none
def builtinV (τ : Tab) (H : Heap) (b : Builtin) (ts : List Nat) (args : List V) : Option (V × Heap) :=
  match b with
  | .append => appendB τ H ts args
  | .clear => clearB τ H ts args
  | b => (pureB τ b ts args).map (·, H)

/-- A text behind a row of bytes: outside of regions that draw their order. -/
def byteRows (s : ByteArray) : List (List Lf) := s.data.toList.map fun b => [.i .u8 b.toNat]
def appendStr (τ : Tab) (H : Heap) (ts : List Nat) (args : List V) : Option (V × Heap) :=
  match ts, args with
  | [t, u], [.w (.lf (.sl a len)), .w (.lf (.s s))] => match τ t, τ u with
    | some ⟨_, _, .slice e, _, _⟩, some ⟨_, _, .str, _, _⟩ => match τ e with
      | some ⟨1, _, .int .u8, _, _⟩ => appendV τ e H a len (byteRows s)
      | _ => none
    | _, _ => none
  | _, _ => none
def builtinW (τ : Tab) (draw : Bool) (H : Heap) (b : Builtin) (ts : List Nat) (args : List V) : Option (V × Heap) :=
  match builtinV τ H b ts args with
  | some y => some y
  | none => if draw = true then none else match b with
    | .append => appendStr τ H ts args
    | _ => none
theorem builtinW_true (τ : Tab) (H : Heap) (b : Builtin) (ts : List Nat) (args : List V) : builtinW τ true H b ts args = builtinV τ H b ts args := by
  unfold builtinW; cases builtinV τ H b ts args <;> rfl

/-- What is given (ext: functions that are not run, but told by contract): the program, its table of types, how many rounds a loop may take, which functions may write to what is not their own, which functions are run; of which elements' type is all that is written so; which pointers (by their temporaries) must not lead to one block where a region draws its order. -/
structure Env where
  P : Program
  τ : Tab
  K : Nat
  wr : Nat → Bool
  ok : Nat → Bool
  wt : Nat → Option Nat := fun _ => none
  dif : List (Nat × Nat × Nat) := []
  ext : Nat → List V → Heap → Option (V × Heap) := fun _ _ _ => none
abbrev Fun := Nat → List V → Heap → Option (V × Heap)

def optV (tm : List V) (x : Option Operand) : Option V := x.map (ev tm)
def callV (call : Fun) (H : Heap) (f : V) (args : List V) : Option (V × Heap) :=
  match f with
  | .w (.lf (.fn g first cap)) => call g (first.map (fun a => .w (.lf (.p (some a)))) ++ args ++ cap.map (fun a => .w (.lf (.p (some a))))) H
  | _ => none
/-- Of what was there only blocks of elements of this type turned. -/
def onlyT (t : Option Nat) (H H' : Heap) : Bool := match t with
  | none => true
  | some t => (List.range H.length).all fun id => decide (H'[id]? = H[id]?) || (match H[id]?, H'[id]? with
    | some (some b), some (some b') => b.elem == t && b'.elem == t
    | _, _ => false)
theorem onlyT_same {t : Nat} {H H' : Heap} (h : onlyT (some t) H H' = true) {i : Nat} (hi : i < H.length) {b : Blk} (hb : H[i]? = some (some b) ∨ H'[i]? = some (some b)) (hne : b.elem ≠ t) : H'[i]? = H[i]? := by
  unfold onlyT at h
  simp only at h
  have h1 := List.all_eq_true.1 h i (by simpa using hi)
  simp only [Bool.or_eq_true, decide_eq_true_eq] at h1
  rcases h1 with h1 | h1
  · exact h1
  · exfalso
    split at h1
    · rename_i b1 b2 e1 e2
      simp only [Bool.and_eq_true, beq_iff_eq] at h1
      rcases hb with hb | hb
      · rw [e1] at hb; injection hb with hb; injection hb with hb; subst hb; exact hne h1.1
      · rw [e2] at hb; injection hb with hb; injection hb with hb; subst hb; exact hne h1.2
    · cases h1
/-- The call of one that may not write leaves what was there as it was. -/
def guardCall (E : Env) (draw : Bool) (f : V) (H : Heap) (r : Option (V × Heap)) : Option (V × Heap) :=
  if draw = false then r else
  match f, r with
  | .w (.lf (.fn g _ _)), some (v, H') => if (E.wr g = true ∧ H.length ≤ H'.length ∧ onlyT (E.wt g) H H' = true) ∨ H'.take H.length = H then some (v, H') else none
  | _, _ => none
def opV (E : Env) (call : Fun) (draw : Bool) (tm : List V) (H : Heap) (o : Oper) : Option (V × Heap) :=
  match o.op with
  | .move x | .assign x => some (ev tm x, H)
  | .pick c a b => match ev tm c with
    | .w (.lf (.b true)) => some (ev tm a, H)
    | .w (.lf (.b false)) => some (ev tm b, H)
    | _ => none
  | .alloc t => match E.τ t with
    | some ti => some (.ptr H.length 0 0, newBlk H ⟨t, .wr, [ti.zero]⟩)
    | none => none
  | .box t x => match E.τ t, (ev tm x).cells with
    | some ti, some cs => if cs.length = ti.size then some (.ptr H.length 0 0, newBlk H ⟨t, .wr, [cs]⟩) else none
    | _, _ => none
  | .build t parts => (buildV E.τ tm t parts.toList).map (·, H)
  | .buildSlice t len parts => buildSliceV E.τ tm H t len parts.toList
  | .load t a => match E.τ t, ev tm a with
    | some ti, .w (.lf (.p (some (id, r, k)))) => (loadV ti H id r k).map (·, H)
    | _, _ => none
  | .store t a x => match E.τ t, ev tm a with
    | some ti, .w (.lf (.p (some (id, r, k)))) => (storeV ti H id r k (ev tm x)).map (.tup [], ·)
    | _, _ => none
  | .nilCheck x => match ev tm x with
    | .w (.lf (.p (some a))) => some (.w (.lf (.p (some a))), H)
    | _ => none
  | .binOp op t x y _ => (binV E.τ op t (ev tm x) (ev tm y)).map (·, H)
  | .unOp op _ x => (unV op (ev tm x)).map (·, H)
  | .convert s d x => (convW E.τ draw H s d (ev tm x)).map (·, H)
  | .makeFunc (.func f) first cap => match ptrs (first.toList.map (ev tm)), ptrs (cap.toList.map (ev tm)) with
    | some a, some b => some (.w (.lf (.fn f a b)), H)
    | _, _ => none
  | .makeSlice t x y => makeSliceV E.τ H t (ev tm x) (ev tm y)
  | .slice t x lo hi mx => sliceW E.τ draw H t (ev tm x) (optV tm lo) (optV tm hi) (optV tm mx)
  | .fieldAddr t x f => (fieldAddrV E.τ t (ev tm x) f).map (·, H)
  | .indexAddr t x y => (indexAddrV E.τ H t (ev tm x) (ev tm y)).map (·, H)
  | .index t x y => (indexV E.τ t (ev tm x) (ev tm y)).map (·, H)
  | .field t x f => (fieldV E.P E.τ t (ev tm x) f).map (·, H)
  | .extract x i => match ev tm x with
    | .tup ws => match ws[i]? with
      | some x => some (.w x, H)
      | none => none
    | _ => none
  | .call { callee := .builtin b, args, argTypes } => builtinW E.τ draw H b argTypes.toList (args.toList.map (ev tm))
  | .call { callee := .value f, args, argTypes := _ } => guardCall E draw (ev tm f) H (callV call H (ev tm f) (args.toList.map (ev tm)))
  | _ => none

structure St where
  tmps : List V
  heap : Heap
def putT (tm : List V) (d : Option Tmp) (v : V) : List V := match d with | some t => tm.set t v | none => tm
/-- Is a guarded operation wanted? 'none': it can't be told. -/
def wantV (ops : Array Oper) (tm : List V) (o : Oper) : Option Bool :=
  match o.guard with
  | none => some true
  | some (j, want) => match (ops[j]?).bind (·.dst) with
    | none => some false
    | some t => match tm.getD t .bad with
      | .w (.lf (.b x)) => some (x == want)
      | .w _ => some false
      | .tup _ => some false
      | .bad => none
/-- The element type of the block that an address made in this region leads to. -/
def lookN (t : Nat) : List (Nat × Nat) → Option Nat
  | [] => none
  | (a, b) :: r => if a = t then some b else lookN t r
def elmT (τ : Tab) (t : Nat) : Option Nat := match τ t with
  | some ti => match ti.kind with
    | .slice e => some e
    | _ => none
  | none => none
def tagA (acc : List (Nat × Nat)) (t : Nat) : Operand → Nat
  | .tmp x => (lookN x acc).getD t
  | _ => t
def addT (d : Option Nat) (g : Option Nat) (acc : List (Nat × Nat)) : List (Nat × Nat) := match d, g with
  | some d, some g => (d, g) :: acc
  | _, _ => acc
def tagD (τ : Tab) (acc : List (Nat × Nat)) : Op → Option Nat
  | .fieldAddr t x _ => some (tagA acc t x)
  | .indexAddr t _ _ => elmT τ t
  | .nilCheck (.tmp x) => lookN x acc
  | .move (.tmp x) => lookN x acc
  | _ => none
def tagsL (τ : Tab) : List Oper → List (Nat × Nat) → List (Nat × Nat)
  | [], acc => acc
  | o :: r, acc => tagsL τ r (addT o.dst (tagD τ acc o.op) acc)
def tagOp (acc : List (Nat × Nat)) : Op → Option (Operand × Nat)
  | .load t a => some (a, tagA acc t a)
  | .store t a _ => some (a, tagA acc t a)
  | _ => none
def chkV (H : Heap) (v : V) (ty : Nat) : Bool := match v with
  | .w (.lf (.p (some (id, _, _)))) => match blkAt H id with
    | some b => b.elem == ty
    | none => false
  | _ => false
def difV : V → V → Bool
  | .w (.lf (.p (some (i, _, _)))), .w (.lf (.p (some (j, _, _)))) => i != j
  | _, _ => true
def difO (E : Env) (g : Operand → V) : Op → Bool
  | .load t (.tmp x) => E.dif.all fun p => p.1 != t || p.2.2 != x || difV (g (.tmp p.2.1)) (g (.tmp x))
  | _ => true
theorem difO_none {E : Env} {g : Operand → V} {acc : List (Nat × Nat)} {op : Op} (h : tagOp acc op = none) : difO E g op = true := by
  cases op <;> first | rfl | (simp [tagOp] at h; done)
def chkO (E : Env) (ops : Array Oper) (tm : List V) (H : Heap) (o : Oper) : Bool := (match tagOp (tagsL E.τ ops.toList []) o.op with
  | none => true
  | some (a, ty) => chkV H (ev tm a) ty) && difO E (ev tm) o.op
def stepV (E : Env) (call : Fun) (draw : Bool) (ops : Array Oper) (s : St) (o : Oper) : Option St :=
  match wantV ops s.tmps o with
  | none => none
  | some q => if q = true then
      if draw = true ∧ chkO E ops s.tmps s.heap o = false then none else
      match opV E call draw s.tmps s.heap o with
      | some (v, H) => some { tmps := putT s.tmps o.dst v, heap := H }
      | none => none
    else some { s with tmps := putT s.tmps o.dst (.tup []) }
def opsV (E : Env) (call : Fun) (draw : Bool) (ops : Array Oper) : List Oper → St → Option St
  | [], s => some s
  | o :: rest, s => match stepV E call draw ops s o with
    | some s' => opsV E call draw ops rest s'
    | none => none
inductive Ex where
  | normal | exit (id : Nat) | ret
  deriving DecidableEq
def iter (g : St → Option (Ex × St)) : Nat → St → Option (Ex × St)
  | 0, _ => none
  | k + 1, s => match g s with
    | some (.normal, s') => iter g k s'
    | r => r
def exec (E : Env) (call : Fun) : Code → St → Option (Ex × St)
  | .skip, s => some (.normal, s)
  | .label _, s => some (.normal, s)
  | .region _ ops draw, s => (opsV E call draw ops ops.toList s).map (.normal, ·)
  | .seq a b, s => match exec E call a s with
    | some (.normal, s') => exec E call b s'
    | r => r
  | .cond c x y, s => match ev s.tmps c with
    | .w (.lf (.b true)) => exec E call x s
    | .w (.lf (.b false)) => exec E call y s
    | _ => none
  | .block id c, s => match exec E call c s with
    | some (.exit j, s') => if j = id then some (.normal, s') else some (.exit j, s')
    | r => r
  | .loop c, s => iter (exec E call c) E.K s
  | .exit id, s => some (.exit id, s)
  | .ret, s => some (.ret, s)
  | _, _ => none
def resW (τ : Tab) (s : St) : List ResultVar → Option (List W)
  | [] => some []
  | .tmp t :: rs => match s.tmps.getD t .bad, resW τ s rs with
    | .w x, some l => some (x :: l)
    | _, _ => none
  | .cell a t :: rs => match τ t, s.tmps.getD a .bad, resW τ s rs with
    | some ti, .w (.lf (.p (some (id, r, k)))), some l => match loadV ti s.heap id r k with
      | some (.w x) => some (x :: l)
      | _ => none
    | _, _, _ => none
def refFree : Lf → Bool
  | .b _ | .i _ _ | .s _ | .p none | .sl none _ => true
  | _ => false
def W.free : W → Bool
  | .lf l => refFree l
  | .agg cs => cs.all refFree
/-- What a call leaves: where nothing that it made is handed back and nothing that was there has turned, no more than there was. -/
def leave (H H' : Heap) (ws : List W) : Heap := if ws.all W.free = true ∧ H'.take H.length = H then H else H'
/-- Results that are read off slots alone. -/
def tmpsB (rs : List ResultVar) : Bool := rs.all fun r => match r with | .tmp _ => true | _ => false
def resV (ws : List W) : V := match ws with | [x] => .w x | ws => .tup ws
def runF (E : Env) : Nat → Fun
  | 0, _, _, _ => none
  | d + 1, f, args, H => if E.ok f = false then E.ext f args H else match E.P.funcs[f]? with
    | none => none
    | some fn => match fn.body with
      | none => none
      | some c => match exec E (runF E d) c { tmps := args ++ List.replicate (fn.ntmps - args.length) .bad, heap := H } with
        | some (.exit _, _) => none
        | some (_, s) => match resW E.τ s fn.results.toList with
          | some ws => some (resV ws, leave H s.heap ws)
          | none => if tmpsB fn.results.toList = true then some (.bad, s.heap) else none
        | none => none
end Go.Ab
