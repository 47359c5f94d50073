/- A second semantics for the code of the program: one order, values whose addresses are names of regions; what it tells is shown, in the texts behind this one, to be what every run of the machine tells. This text: its definitions alone. -/
import Derived.Orders
import Derived.LoopN
import Derived.Below
import Derived.KernelRfl
import Derived.Laws.Append
import Derived.Laws.AppendOwn
import Derived.Laws.BytesArg
import Derived.Lib.ConvBytes
import Derived.WalkKit
import Derived.Laws.BitsLemmas
namespace Go.Proofs.YtfgmmklljibbiaaDoor.Sim
open Go
set_option linter.unusedVariables false

/-- Values: what bears no address is the machine's own; addresses are a region and a place in it. A slice has no capacity, but the cells of an element. -/
inductive AV where
  | sc (v : Value)
  | ptr (r off : Nat)
  | sl (r off len sz : Nat)
  | agg (cs : List AV)
  | tup (vs : List AV)

def AV.cells : AV → List AV
  | .agg cs => cs
  | .sc (.agg cs) => cs.toList.map .sc
  | v => [v]
def AV.one : AV → Bool
  | .sc v => v.oneCell'
  | .ptr _ _ => true
  | .sl _ _ _ _ => true
  | _ => false

structure Reg where
  cs : List AV
  own : Bool
  live : Bool
abbrev AHeap := List Reg
structure St where
  ts : List AV
  H : AHeap
def und : AV := .sc undef
def setD (ts : List AV) : Option Tmp → AV → List AV
  | some d, v => ts.set d v
  | none, _ => ts
def St.put (s : St) (d : Option Tmp) (v : AV) : St := ⟨setD s.ts d v, s.H⟩

def ofV : Value → AV
  | .agg cs => .agg (cs.toList.map .sc)
  | v => .sc v
def ev (ts : List AV) : Operand → AV
  | .tmp t => ts.getD t und
  | .const v => ofV v
  | .global g => .sc (.pointer (some ⟨g, 0, none⟩))
  | .func f => .sc (.func (.func f) #[] #[])

/-! what computes -/
def intBin (op : BinOp) (k : IntKind) (a b : Int) : Option Value :=
  match op with
  | .add => some (.int k (k.wrap (a + b)))
  | .sub => some (.int k (k.wrap (a - b)))
  | .mul => some (.int k (k.wrap (a * b)))
  | .quo => if b = 0 then none else some (.int k (k.wrap (a.tdiv b)))
  | .rem => if b = 0 then none else some (.int k (a.tmod b))
  | .and => some (.int k (bits .and k a b))
  | .or => some (.int k (bits .or k a b))
  | .xor => some (.int k (bits .xor k a b))
  | .andNot => some (.int k (bits .andNot k a b))
  | .eql => some (.bool (a == b))
  | .neq => some (.bool (a != b))
  | .lss => some (.bool (decide (a < b)))
  | .leq => some (.bool (decide (a ≤ b)))
  | .gtr => some (.bool (decide (a > b)))
  | .geq => some (.bool (decide (a ≥ b)))
  | _ => none
def shiftBin (op : BinOp) (k : IntKind) (a b : Int) : Option Value :=
  if b < 0 then none else
  match op with
  | .shl => some (.int k (k.wrap (a * 2 ^ min b.toNat k.bits)))
  | .shr => some (.int k (a / 2 ^ min b.toNat k.bits))
  | _ => none
def strBin (op : BinOp) (a b : ByteArray) : Option Value :=
  match op with
  | .add => if a.size + b.size ≤ 9223372036854775807 then some (.string (a ++ b)) else none
  | .eql => some (.bool (a.toList == b.toList))
  | .neq => some (.bool (!(a.toList == b.toList)))
  | .lss => some (.bool (Op.bytesLess a.toList b.toList))
  | .leq => some (.bool (Op.bytesLess a.toList b.toList || a.toList == b.toList))
  | .gtr => some (.bool (!(Op.bytesLess a.toList b.toList || a.toList == b.toList)))
  | .geq => some (.bool (!(Op.bytesLess a.toList b.toList)))
  | _ => none
def isShift : BinOp → Bool
  | .shl | .shr => true
  | _ => false
def evBin (op : BinOp) (x y : AV) : Option Value :=
  match x, y with
  | .sc (.int k a), .sc (.int k' b) => if isShift op then shiftBin op k a b else if k = k' then intBin op k a b else none
  | .sc (.string a), .sc (.string b) => strBin op a b
  | _, _ => none
def evUn (op : UnOp) (x : AV) : Option Value :=
  match op, x with
  | .neg, .sc (.int k n) => some (.int k (k.wrap (0 - n)))
  | .not, .sc (.bool b) => some (.bool (!b))
  | _, _ => none
def tyOk (P : Program) (t : TypeId) : Bool := (P.info? t).isSome && (P.underlying t).isSome
def aggB (P : Program) (t : TypeId) : Bool :=
  match P.underlying t with
  | some (.struct _) | some (.array _ _) => true
  | _ => false
def partA (P : Program) (t : TypeId) (cs : List AV) (off : Nat) : Option AV :=
  if aggB P t then (if off + P.cellsOf t ≤ cs.length then some (.agg ((cs.drop off).take (P.cellsOf t))) else none) else cs[off]?
/-- '==' of two values of one cell. -/
def eq1 (P : Program) (t : TypeId) (a b : AV) : Option Bool :=
  match P.underlying t, a, b with
  | some (.int _), .sc (.int k a), .sc (.int j b) => if k = j then some (a == b) else none
  | some .bool, .sc (.bool a), .sc (.bool b) => some (a == b)
  | some .string, .sc (.string a), .sc (.string b) => some (a.toList == b.toList)
  | _, _, _ => none
def eqF (P : Program) (cs ds : List AV) : List Field → Option Bool
  | [] => some true
  | f :: fs =>
    if f.name ≠ "_" ∧ tyOk P f.type = true then
      match partA P f.type cs f.offset, partA P f.type ds f.offset with
      | some a, some b => match eq1 P f.type a b with
        | some true => eqF P cs ds fs
        | some false => some false
        | none => none
      | _, _ => none
    else none
def eqA (P : Program) (t : TypeId) (fs : Array Field) (cs ds : List AV) : Option Bool := if P.stoodInHeld t = false ∧ P.eqGuardType P.depth t = false then eqF P cs ds fs.toList else none
/-- '==' and '!=' of bools, and of structs of one-cell fields. -/
def boolBin (P : Program) (op : BinOp) (t : TypeId) (x y : AV) : Option Value :=
  match P.underlying t, x, y, op with
  | some .bool, .sc (.bool a), .sc (.bool b), .eql => some (.bool (a == b))
  | some .bool, .sc (.bool a), .sc (.bool b), .neq => some (.bool (a != b))
  | some (.struct fs), .agg cs, .agg ds, .eql => (eqA P t fs cs ds).map fun r => .bool r
  | some (.struct fs), .agg cs, .agg ds, .neq => (eqA P t fs cs ds).map fun r => .bool (!r)
  | _, _, _, _ => none
def overA (cells : List AV) (off : Nat) (xs : List AV) : List AV := cells.take off ++ xs ++ cells.drop (off + xs.length)
def fillA (place : Nat → Option (Nat × Nat)) (cells : List AV) : List (Nat × AV) → Option (List AV)
  | [] => some cells
  | (i, v) :: rest =>
    match place i with
    | none => none
    | some (off, size) => if v.cells.length = size ∧ off + v.cells.length ≤ cells.length then fillA place (overA cells off v.cells) rest else none
def placeS (P : Program) (fs : Array Field) (i : Nat) : Option (Nat × Nat) := (fs[i]?).map fun f => (f.offset, P.cellsOf f.type)
def zeroA (P : Program) (t : TypeId) : Option (List AV) := ((P.info? t).bind (·.zero)).map fun z => (ofV z).cells
def bnd (ts : List AV) (x : Option Operand) (d : Nat) : Option Nat :=
  match x with
  | none => some d
  | some x => match ev ts x with
    | .sc (.int _ n) => if 0 ≤ n then some n.toNat else none
    | _ => none
def evConv (P : Program) (s d : TypeId) (x : AV) : Option Value :=
  match P.underlying s, P.underlying d, x with
  | some _, some (.int k), .sc (.int _ n) => some (.int k (k.wrap n))
  | some _, some .string, .sc (.string z) => some (.string z)
  | _, _, _ => none
def minI : List AV → Option Value
  | [.sc (.int k x), .sc (.int _ y)] => some (.int k (if y < x then y else x))
  | _ => none
def maxI : List AV → Option Value
  | [.sc (.int k x), .sc (.int _ y)] => some (.int k (if x < y then y else x))
  | _ => none

/-- Operations that look into no memory. -/
def evPure (P : Program) (ts : List AV) (op : Op) : Option AV :=
  match op with
  | .move x => some (ev ts x)
  | .assign x => some (ev ts x)
  | .pick c a b => match ev ts c with
    | .sc (.bool t) => some (if t then ev ts a else ev ts b)
    | _ => none
  | .nilCheck x => match ev ts x with
    | .ptr r off => some (.ptr r off)
    | _ => none
  | .binOp op t x y _ => match evBin op (ev ts x) (ev ts y) with
    | some v => some (.sc v)
    | none => (boolBin P op t (ev ts x) (ev ts y)).map .sc
  | .unOp op _ x => (evUn op (ev ts x)).map .sc
  | .convert s d x => (evConv P s d (ev ts x)).map .sc
  | .slice t x lo hi none =>
    match P.underlying t, ev ts x with
    | some .string, .sc (.string z) => match bnd ts lo 0, bnd ts hi z.size with
      | some l, some h => if l ≤ h ∧ h ≤ z.size then some (.sc (.string (z.extract l h))) else none
      | _, _ => none
    | some (.slice e), .sl r off len sz => match bnd ts lo 0, bnd ts hi len with
      | some l, some h => if l ≤ h ∧ h ≤ len ∧ P.cellsOf e = sz ∧ tyOk P e = true then some (.sl r (off + l * sz) (h - l) sz) else none
      | _, _ => none
    | some (.slice e), .sc (.slice none 0 0) => match bnd ts lo 0, bnd ts hi 0 with
      | some 0, some 0 => if tyOk P e = true then some (.sc (.slice none 0 0)) else none
      | _, _ => none
    | _, _ => none
  | .fieldAddr s x f =>
    match P.underlying s, ev ts x with
    | some (.struct fs), .ptr r off => match fs[f]? with
      | some fd => if P.cellsOf fd.type ≠ 0 ∧ tyOk P fd.type = true then some (.ptr r (off + fd.offset)) else none
      | none => none
    | _, _ => none
  | .field s x f =>
    match P.underlying s, ev ts x with
    | some (.struct fs), .agg cs => match fs[f]? with
      | some fd => if tyOk P fd.type = true then partA P fd.type cs fd.offset else none
      | none => none
    | _, _ => none
  | .indexAddr t x i =>
    match P.underlying t, ev ts x, ev ts i with
    | some (.slice e), .sl r off len sz, .sc (.int _ n) => if 0 ≤ n ∧ n < len ∧ P.cellsOf e = sz ∧ tyOk P e = true then some (.ptr r (off + n.toNat * sz)) else none
    | some (.array len e), .ptr r off, .sc (.int _ n) => if 0 ≤ n ∧ n < len ∧ tyOk P e = true then some (.ptr r (off + n.toNat * P.cellsOf e)) else none
    | _, _, _ => none
  | .index t x i =>
    match P.underlying t, ev ts x, ev ts i with
    | some .string, .sc (.string z), .sc (.int _ n) => if h : 0 ≤ n ∧ n.toNat < z.size then some (.sc (.int .u8 (z[n.toNat]'h.2).toNat)) else none
    | some (.array len e), .agg cs, .sc (.int _ n) => if 0 ≤ n ∧ n < len ∧ tyOk P e = true then partA P e cs (n.toNat * P.cellsOf e) else none
    | _, _, _ => none
  | .extract t i => match ev ts t with
    | .tup vs => vs[i]?
    | _ => none
  | .build t parts =>
    match P.underlying t, zeroA P t with
    | some (.struct fs), some z => if fs.all (fun f => tyOk P f.type) then (fillA (placeS P fs) z (parts.toList.map fun p => (p.1, ev ts p.2))).map .agg else none
    | some (.array _ e), some z => if tyOk P e then (fillA (fun i => some (i * P.cellsOf e, P.cellsOf e)) z (parts.toList.map fun p => (p.1, ev ts p.2))).map .agg else none
    | _, _ => none
  | .makeInterface t x =>
    match P.underlying t, ev ts x with
    | some (.int _), .sc v => some (.sc (.iface t v))
    | _, _ => none
  | .call c =>
    match c.callee, c.args.toList, c.argTypes.toList with
    | .builtin .len, [x], [t] => match P.underlying t, ev ts x with
      | some .string, .sc (.string z) => some (.sc (.int .i64 z.size))
      | some (.array n _), _ => some (.sc (.int .i64 n))
      | some (.slice _), .sl _ _ len _ => some (.sc (.int .i64 len))
      | some (.slice _), .sc (.slice none 0 0) => some (.sc (.int .i64 0))
      | _, _ => none
    | .builtin .min, xs, _ => (minI (xs.map (ev ts))).map .sc
    | .builtin .max, xs, _ => (maxI (xs.map (ev ts))).map .sc
    | _, _, _ => none
  | _ => none

/-- What is read. -/
def cellsAt (H : AHeap) (r off n : Nat) : Option (List AV) :=
  match H[r]? with
  | some g => if g.live ∧ off + n ≤ g.cs.length then some ((g.cs.drop off).take n) else none
  | none => none
def isU8 (P : Program) (e : TypeId) : Bool :=
  match P.underlying e with
  | some (.int .u8) => true
  | _ => false
def noInt : TypeDesc → Bool
  | .int _ => false
  | _ => true
def byteOf : AV → Option Int
  | .sc (.int .u8 n) => some n
  | _ => none
def bytesA : List AV → Option (List Int)
  | [] => some []
  | a :: l => match byteOf a, bytesA l with
    | some n, some ns => some (n :: ns)
    | _, _ => none
def evRead (P : Program) (ts : List AV) (op : Op) (H : AHeap) : Option AV :=
  match op with
  | .load t x => match ev ts x with
    | .ptr r off =>
      if tyOk P t = true then
        if aggB P t then (cellsAt H r off (P.cellsOf t)).map .agg
        else match cellsAt H r off 1 with
          | some [v] => some v
          | _ => none
      else none
    | _ => none
  | .convert s d x =>
    match P.underlying s, P.underlying d, ev ts x with
    | some (.slice e), some .string, .sl r off len sz =>
      if isU8 P e = true ∧ sz = 1 then ((cellsAt H r off len).bind bytesA).map fun l => .sc (.string (strOfNums l)) else none
    | some (.slice e), some .string, .sc (.slice none 0 0) => if isU8 P e then some (.sc (.string ByteArray.empty)) else none
    | _, _, _ => none
  | _ => none

/-- What is made: a region's cells, and the value that leads to it. -/
def evAlloc (P : Program) (ts : List AV) (op : Op) : Option (List AV × (Nat → AV)) :=
  match op with
  | .alloc t => (zeroA P t).map fun z => (z, fun r => .ptr r 0)
  | .box _ x => some ((ev ts x).cells, fun r => .ptr r 0)
  | .buildSlice t len parts =>
    match P.underlying t with
    | some (.slice e) => match zeroA P e with
      | some z =>
        if tyOk P e = true ∧ 0 < P.cellsOf e ∧ z.length = P.cellsOf e ∧ len * P.cellsOf e ≤ 16777216 then
          (fillA (fun i => some (i * P.cellsOf e, P.cellsOf e)) ((List.replicate len z).flatten) (parts.toList.map fun p => (p.1, ev ts p.2))).map fun cs => (cs, fun r => .sl r 0 len (P.cellsOf e))
        else none
      | none => none
    | _ => none
  | .makeSlice t l c =>
    match P.underlying t, ev ts l, ev ts c with
    | some (.slice e), .sc (.int _ n), .sc (.int _ m) => match P.info? e, zeroA P e with
      | some i, some z =>
        if 0 ≤ n ∧ n = m ∧ n ≤ 140737488355328 ∧ i.bytes * n ≤ 281474976710656 ∧ 0 < P.cellsOf e ∧ z.length = P.cellsOf e then some ((List.replicate n.toNat z).flatten, fun r => .sl r 0 n.toNat (P.cellsOf e)) else none
      | _, _ => none
    | _, _, _ => none
  | .convert s d x =>
    match P.underlying s, P.underlying d, ev ts x with
    | some _, some (.slice e), .sc (.string z) => if isU8 P e = true ∧ P.cellsOf e = 1 then some (z.data.toList.map (fun b => .sc (.int .u8 b.toNat)), fun r => .sl r 0 z.size 1) else none
    | _, _, _ => none
  | _ => none

/-- What is written. -/
def setReg (H : AHeap) (r : Nat) (cs : List AV) : AHeap := H.modify r fun g => { g with cs := cs }
def killReg (H : AHeap) (r : Nat) : AHeap := H.modify r fun g => { g with live := false }
/-- A slice whose own region begins with it: its region's number (none: no cells), how many elements. -/
def srcCells (H : AHeap) (x : AV) (sz : Nat) : Option (List AV) :=
  match x with
  | .sl r off len sz' => if sz' = sz then cellsAt H r off (len * sz) else none
  | .sc (.slice none 0 0) => some []
  | .sc (.string z) => if sz = 1 then some (z.data.toList.map (fun b => .sc (.int .u8 b.toNat))) else none
  | _ => none
def evWrite (P : Program) (ts : List AV) (op : Op) (H : AHeap) : Option (AV × AHeap) :=
  match op with
  | .store t x y =>
    match ev ts x, H[(match ev ts x with | .ptr r _ => r | _ => 0)]? with
    | .ptr r off, some g =>
      if g.live ∧ g.own ∧ tyOk P t = true ∧ (ev ts y).cells.length = P.cellsOf t ∧ off + P.cellsOf t ≤ g.cs.length ∧ (ev ts y).cells.all AV.one then
        some (und, setReg H r (overA g.cs off (ev ts y).cells)) else none
    | _, _ => none
  | .call c =>
    match c.callee, c.args.toList, c.argTypes.toList with
    | .builtin .append, [s, x], [t, t'] => match P.underlying t, P.underlying t' with
      | some (.slice e), some u =>
        match P.info? e, (P.info? e).bind (·.zero), srcCells H (ev ts x) (P.cellsOf e) with
        | some i, some z, some news =>
          if 0 < P.cellsOf e ∧ z.cells.size = P.cellsOf e ∧ noInt u = true ∧ news.all AV.one = true then
            match ev ts s with
            | .sc (.slice none 0 0) =>
              if news.length / P.cellsOf e * i.bytes ≤ 140737488355328 ∧ news.length ≤ 140737488355328 then
                if news.length = 0 then some (.sc (.slice none 0 0), H)
                else some (.sl H.length 0 (news.length / P.cellsOf e) (P.cellsOf e), H ++ [⟨news, true, true⟩]) else none
            | .sl r 0 len sz =>
              match H[r]? with
              | some g =>
                if sz = P.cellsOf e ∧ g.live ∧ g.own ∧ len * sz ≤ g.cs.length ∧ (len + news.length / sz) * i.bytes ≤ 140737488355328 ∧ len + news.length ≤ 140737488355328 then
                  some (.sl H.length 0 (len + news.length / sz) sz, killReg H r ++ [⟨g.cs.take (len * sz) ++ news, true, true⟩])
                else none
              | none => none
            | _ => none
          else none
        | _, _, _ => none
      | _, _ => none
    | _, _, _ => none
  | _ => none

/-! control -/
inductive Cls where
  | pure | read | alloc | write
def clsOf (P : Program) (o : Oper) : Cls :=
  match o.op with
  | .load .. => .read
  | .convert s d _ => match P.underlying s, P.underlying d with
    | some (.slice _), some .string => .read
    | some .string, some (.slice _) => .alloc
    | _, _ => .pure
  | .alloc _ | .box .. | .buildSlice .. | .makeSlice .. => .alloc
  | .store .. => .write
  | .call c => match c.callee with
    | .builtin .len | .builtin .min | .builtin .max => .pure
    | _ => .write
  | _ => .pure

abbrev CallRel := FuncId → List AV → AHeap → AV → AHeap → Prop
def calleeOf (ts : List AV) (o : Oper) : Option (FuncId × List AV) :=
  match o.op with
  | .call c => match c.callee with
    | .value f => match ev ts f with
      | .sc (.func (.func g) a b) => if a.size = 0 ∧ b.size = 0 then some (g, c.args.toList.map (ev ts)) else none
      | _ => none
    | _ => none
  | _ => none
/-- One operation that is carried out. -/
def Eff (P : Program) (C : CallRel) (o : Oper) (s : St) (s' : St) : Prop :=
  match clsOf P o with
  | .pure => ∃ v, evPure P s.ts o.op = some v ∧ s' = s.put o.dst v
  | .read => ∃ v, evRead P s.ts o.op s.H = some v ∧ s' = s.put o.dst v
  | .alloc => ∃ cs mk, evAlloc P s.ts o.op = some (cs, mk) ∧ cs.all AV.one = true ∧ s' = ⟨setD s.ts o.dst (mk s.H.length), s.H ++ [⟨cs, true, true⟩]⟩
  | .write => match calleeOf s.ts o with
    | some (g, as) => ∃ v H', C g as s.H v H' ∧ s' = ⟨setD s.ts o.dst v, H'⟩
    | none => ∃ v H', evWrite P s.ts o.op s.H = some (v, H') ∧ s' = ⟨setD s.ts o.dst v, H'⟩
def yieldedA (ops : Array Oper) (ts : List AV) (j : Nat) : Option Bool :=
  match ((ops[j]?).bind (·.dst)).bind (ts[·]?) with
  | some (.sc (.bool b)) => some b
  | _ => none
def OpStep (P : Program) (C : CallRel) (ops : Array Oper) (i : Nat) (s s' : St) : Prop :=
  match ops[i]? with
  | none => False
  | some o => if Region.wanted o (yieldedA ops s.ts) then Eff P C o s s' else s' = s.put o.dst und
inductive OpsR (P : Program) (C : CallRel) (ops : Array Oper) : Nat → St → St → Prop where
  | done {i : Nat} {s : St} : i = ops.size → OpsR P C ops i s s
  | step {i : Nat} {s s1 s2 : St} : OpStep P C ops i s s1 → OpsR P C ops (i + 1) s1 s2 → OpsR P C ops i s s2

/-- What the order of a region must say: of two operations that write into memory the first in the text comes first; whoever reads or writes a temporary that another writes is ordered with it. -/
def isW (P : Program) (o : Oper) : Bool :=
  match clsOf P o with
  | .write => true
  | _ => false
def isR (P : Program) (o : Oper) : Bool :=
  match clsOf P o with
  | .read => true
  | _ => false
def looksAt (ops : Array Oper) (o : Oper) : List Tmp :=
  (o.op.operands.toList.filterMap fun | .tmp t => some t | _ => none) ++ (match o.guard with | some (g, _) => ((ops[g]?).bind (·.dst)).toList | none => []) ++ o.dst.toList
def bef (ops : Array Oper) : List Nat := (Region.before ops).toList
def opAt (ops : Array Oper) (i : Nat) : Oper := ops.getD i default
def befAt (ops : Array Oper) (i j : Nat) : Bool := ((bef ops).getD j 0).testBit i
def noClash (ops : Array Oper) (x y : Oper) : Bool :=
  (match x.dst with | some d => !(looksAt ops y).contains d | none => true) && (match y.dst with | some d => !(looksAt ops x).contains d | none => true)
def drawOk (P : Program) (ops : Array Oper) : Bool :=
  (List.range ops.size).all (fun j => (opAt ops j).after.toList.all fun e => !Region.binds .any e || decide (e.on < j)) &&
  (List.range ops.size).all (fun j => (List.range j).all fun i =>
    befAt ops i j || (!(isW P (opAt ops i) && isW P (opAt ops j)) && noClash ops (opAt ops i) (opAt ops j)))
/-- A moment: behind one of the writing operations, or at the start; operation j may stand there. -/
def mayAt (P : Program) (ops : Array Oper) (j k : Nat) : Bool :=
  (List.range ops.size).all fun i => !isW P (opAt ops i) || (if i < k then !befAt ops j i else !befAt ops i j)
def moment (P : Program) (ops : Array Oper) (k : Nat) : Bool := k == 0 || isW P (opAt ops (k - 1))
/-- No writer stands between the moment k and operation j. -/
def calm (P : Program) (ops : Array Oper) (j k : Nat) : Bool := decide (k ≤ j) && (List.range ops.size).all fun i => !isW P (opAt ops i) || decide (i < k) || decide (j ≤ i)
/-- What is read is the same wherever the operation may stand. -/
def ReadsOk (P : Program) (ops : Array Oper) (tr : Nat → St) : Prop :=
  ∀ j, j < ops.size → isR P (opAt ops j) = true → Region.wanted (opAt ops j) (yieldedA ops (tr j).ts) = true → ∀ k, k ≤ ops.size → moment P ops k = true → mayAt P ops j k = true →
    calm P ops j k = true ∨ evRead P (tr j).ts (opAt ops j).op (tr k).H = evRead P (tr j).ts (opAt ops j).op (tr j).H

inductive Exk where
  | normal
  | exit (id : Nat)
  | ret
inductive Ex (P : Program) (C : CallRel) : Code → St → Exk → St → Prop where
  | skip {s : St} : Ex P C .skip s .normal s
  | region {id : Nat} {ops : Array Oper} {s s' : St} : OpsR P C ops 0 s s' → Ex P C (.region id ops false) s .normal s'
  | draw {id : Nat} {ops : Array Oper} (tr : Nat → St) : P.follows .mixedOrders = true → drawOk P ops = true → (∀ i, i < ops.size → OpStep P C ops i (tr i) (tr (i + 1))) → ReadsOk P ops tr → Ex P C (.region id ops true) (tr 0) .normal (tr ops.size)
  | seq {a b : Code} {s s1 s2 : St} {e : Exk} : Ex P C a s .normal s1 → Ex P C b s1 e s2 → Ex P C (.seq a b) s e s2
  | seqx {a b : Code} {s s1 : St} {e : Exk} : Ex P C a s e s1 → e ≠ .normal → Ex P C (.seq a b) s e s1
  | cond {c : Operand} {a b : Code} {t : Bool} {s s1 : St} {e : Exk} : ev s.ts c = .sc (.bool t) → Ex P C (if t then a else b) s e s1 → Ex P C (.cond c a b) s e s1
  | block {id : Nat} {c : Code} {s s1 : St} {e : Exk} : Ex P C c s e s1 → e ≠ .exit id → Ex P C (.block id c) s e s1
  | blockx {id : Nat} {c : Code} {s s1 : St} : Ex P C c s (.exit id) s1 → Ex P C (.block id c) s .normal s1
  | loop {c : Code} {s s1 s2 : St} {e : Exk} : Ex P C c s .normal s1 → Ex P C (.loop c) s1 e s2 → Ex P C (.loop c) s e s2
  | loopx {c : Code} {s s1 : St} {e : Exk} : Ex P C c s e s1 → e ≠ .normal → Ex P C (.loop c) s e s1
  | exit {id : Nat} {s : St} : Ex P C (.exit id) s (.exit id) s
  | ret {s : St} : Ex P C .ret s .ret s

def resA (P : Program) (s : St) : ResultVar → Option AV
  | .tmp t => some (s.ts.getD t und)
  | .cell a t => evRead P s.ts (.load t (.tmp a)) s.H
def ressA (P : Program) (s : St) : List ResultVar → Option (List AV)
  | [] => some []
  | x :: l => match resA P s x, ressA P s l with
    | some v, some vs => some (v :: vs)
    | _, _ => none
def packA : List AV → AV
  | [v] => v
  | vs => .tup vs
/-- What a function's text does, its calls told by C. -/
def Body (P : Program) (C : CallRel) : CallRel := fun f args H v H' =>
  ∃ fn c e s' vs, P.funcs[f]? = some fn ∧ fn.body = some c ∧ (fn.name == "runtime.NumGoroutine") = false ∧ args.length ≤ fn.ntmps ∧
    Ex P C c ⟨args ++ List.replicate (fn.ntmps - args.length) und, H⟩ e s' ∧ (e = .normal ∨ e = .ret) ∧ ressA P s' fn.results.toList = some vs ∧ v = packA vs ∧ H' = s'.H
/-- What a call does: the least of what its text says; X: what is known of other functions. -/
def CallR (P : Program) (X : CallRel) : CallRel := fun f args H v H' =>
  ∀ C : CallRel, (∀ f args H v H', X f args H v H' → C f args H v H') → (∀ f args H v H', Body P C f args H v H' → C f args H v H') → C f args H v H'

/-! these are monotone in the calls -/
section
variable {P : Program} {C C' : CallRel}
theorem Eff.mono (h : ∀ f args H v H', C f args H v H' → C' f args H v H') {o : Oper} {s s' : St} (k : Eff P C o s s') : Eff P C' o s s' := by
  unfold Eff at *
  split
  · rename_i e; rw [e] at k; exact k
  · rename_i e; rw [e] at k; exact k
  · rename_i e; rw [e] at k; exact k
  · rename_i e
    rw [e] at k
    simp only at k ⊢
    split
    · rename_i g as e2
      rw [e2] at k
      obtain ⟨v, H', k1, k2⟩ := k
      exact ⟨v, H', h _ _ _ _ _ k1, k2⟩
    · rename_i e2
      rw [e2] at k
      exact k
theorem OpStep.mono (h : ∀ f args H v H', C f args H v H' → C' f args H v H') {ops : Array Oper} {i : Nat} {s s' : St} (k : OpStep P C ops i s s') : OpStep P C' ops i s s' := by
  unfold OpStep at *
  split
  · rename_i e; rw [e] at k; exact k
  · rename_i o e
    rw [e] at k
    simp only at k
    split
    · rename_i hw; rw [if_pos hw] at k; exact k.mono h
    · rename_i hw; rw [if_neg hw] at k; exact k
theorem OpsR.mono (h : ∀ f args H v H', C f args H v H' → C' f args H v H') {ops : Array Oper} {i : Nat} {s s' : St} (k : OpsR P C ops i s s') : OpsR P C' ops i s s' := by
  induction k with
  | done e => exact .done e
  | step a _ ih => exact .step (a.mono h) ih
theorem Ex.mono (h : ∀ f args H v H', C f args H v H' → C' f args H v H') {c : Code} {s s' : St} {e : Exk} (k : Ex P C c s e s') : Ex P C' c s e s' := by
  induction k with
  | skip => exact .skip
  | region a => exact .region (a.mono h)
  | draw tr m d a r => exact .draw tr m d (fun i hi => (a i hi).mono h) r
  | seq _ _ i j => exact .seq i j
  | seqx _ n i => exact .seqx i n
  | cond t _ i => exact .cond t i
  | block _ n i => exact .block i n
  | blockx _ i => exact .blockx i
  | loop _ _ i j => exact .loop i j
  | loopx _ n i => exact .loopx i n
  | exit => exact .exit
  | ret => exact .ret
theorem Body.mono (h : ∀ f args H v H', C f args H v H' → C' f args H v H') {f : FuncId} {args : List AV} {H : AHeap} {v : AV} {H' : AHeap} (k : Body P C f args H v H') : Body P C' f args H v H' := by
  obtain ⟨fn, c, e, s', vs, h1, h2, h3, h4, h5, h6⟩ := k
  exact ⟨fn, c, e, s', vs, h1, h2, h3, h4, h5.mono h, h6⟩
theorem CallR.intro {X : CallRel} {f : FuncId} {args : List AV} {H : AHeap} {v : AV} {H' : AHeap} (k : Body P (CallR P X) f args H v H') : CallR P X f args H v H' :=
  fun _ hX hC => hC _ _ _ _ _ (k.mono fun _ _ _ _ _ h => h _ hX hC)
theorem CallR.known {X : CallRel} {f : FuncId} {args : List AV} {H : AHeap} {v : AV} {H' : AHeap} (k : X f args H v H') : CallR P X f args H v H' :=
  fun _ hX _ => hX _ _ _ _ _ k
end
end Go.Proofs.YtfgmmklljibbiaaDoor.Sim

