/- Texts of this proof, put together and made small by a program: part 1. -/
import Derived.Orders
import Derived.LoopN
import Derived.Below
import Derived.KernelRfl
import Derived.Laws.Append
import Derived.Laws.AppendOwn
import Derived.Laws.BytesArg
import Derived.Lib.ConvBytes
import Derived.WalkKit
import Derived.Laws.BitsLemmas
import Derived.Laws.Small
import Derived.Laws.StructEq
import Derived.Laws.Build
set_option linter.all false
set_option maxRecDepth 100000
set_option maxHeartbeats 40000000
namespace Go.Proofs.YtjdajobflgkebaaGreatDoor.Sim
open Go
inductive AV where
 | sc (v:Value)
 | ptr (r off:Nat)
 | sl (r off len sz:Nat)
 | agg (cs:List AV)
 | tup (vs:List AV)
def AV.cells:AV→List AV
 | .agg cs=>cs
 | .sc (.agg cs)=>cs.toList.map .sc
 | v=>[v]
def AV.one:AV→Bool
 | .sc v=>v.oneCell'
 | .ptr _ _=>true
 | .sl _ _ _ _=>true
 | _=>false
structure Reg where
 cs:List AV
 own:Bool:=true
 live:Bool:=true
abbrev qE:=List Reg
structure St where
 ts:List AV
 H:qE
def und:AV:=.sc undef
def jH (ts:List AV):Option Tmp→AV→List AV
 | some d,v=>ts.set d v
 | none,_=>ts
def St.put (s:St)(d:Option Tmp)(v:AV):St:=⟨jH s.ts d v,s.H⟩
def ofV:Value→AV
 | .agg cs=>.agg (cs.toList.map .sc)
 | v=>.sc v
def ev (ts:List AV):Operand→AV
 | .tmp t=>ts.getD t und
 | .const v=>ofV v
 | .global g=>.sc (.pointer (some ⟨g,0,none⟩))
 | .func f=>.sc (.func (.func f) #[] #[])
def kQ (op:BinOp)(k:IntKind)(a b:Int):Option Value:=
 match op with
 | .add=>some (.int k (k.wrap (a+b)))
 | .sub=>some (.int k (k.wrap (a - b)))
 | .mul=>some (.int k (k.wrap (a*b)))
 | .quo=>if b=0 then none else some (.int k (k.wrap (a.tdiv b)))
 | .rem=>if b=0 then none else some (.int k (a.tmod b))
 | .and=>some (.int k (bits .and k a b))
 | .or=>some (.int k (bits .or k a b))
 | .xor=>some (.int k (bits .xor k a b))
 | .andNot=>some (.int k (bits .andNot k a b))
 | .eql=>some (.bool (a == b))
 | .neq=>some (.bool (a != b))
 | .lss=>some (.bool (decide (a<b)))
 | .leq=>some (.bool (decide (a≤b)))
 | .gtr=>some (.bool (decide (a>b)))
 | .geq=>some (.bool (decide (a≥b)))
 | _=>none
def shiftBin (op:BinOp)(k:IntKind)(a b:Int):Option Value:=
 if b<0 then none else
 match op with
 | .shl=>some (.int k (k.wrap (a*2 ^ min b.toNat k.bits)))
 | .shr=>some (.int k (a / 2 ^ min b.toNat k.bits))
 | _=>none
def strBin (op:BinOp)(a b:ByteArray):Option Value:=
 match op with
 | .add=>if a.size+b.size≤9223372036854775807 then some (.string (a++b)) else none
 | .eql=>some (.bool (a.toList == b.toList))
 | .neq=>some (.bool (!(a.toList == b.toList)))
 | .lss=>some (.bool (Op.bytesLess a.toList b.toList))
 | .leq=>some (.bool (Op.bytesLess a.toList b.toList||a.toList == b.toList))
 | .gtr=>some (.bool (!(Op.bytesLess a.toList b.toList||a.toList == b.toList)))
 | .geq=>some (.bool (!(Op.bytesLess a.toList b.toList)))
 | _=>none
def wD:BinOp→Bool
 | .shl | .shr=>true
 | _=>false
def kL (op:BinOp)(x y:AV):Option Value:=
 match x,y with
 | .sc (.int k a),.sc (.int k' b)=>if wD op then shiftBin op k a b else if k=k' then kQ op k a b else none
 | .sc (.string a),.sc (.string b)=>strBin op a b
 | _,_=>none
def evUn (op:UnOp)(x:AV):Option Value:=
 match op,x with
 | .neg,.sc (.int k n)=>some (.int k (k.wrap (0 - n)))
 | .not,.sc (.bool b)=>some (.bool (!b))
 | _,_=>none
def xE (P:Program)(t:TypeId):Bool:=(P.info? t).isSome&&(P.underlying t).isSome
def kB (P:Program)(t:TypeId):Bool:=
 match P.underlying t with
 | some (.struct _) | some (.array _ _)=>true
 | _=>false
def partA (P:Program)(t:TypeId)(cs:List AV)(off:Nat):Option AV:=
 if kB P t then (if off+P.cellsOf t≤cs.length then some (.agg ((cs.drop off).take (P.cellsOf t))) else none) else cs[off]?
def eq1 (P:Program)(t:TypeId)(a b:AV):Option Bool:=
 match P.underlying t,a,b with
 | some (.int _),.sc (.int k a),.sc (.int j b)=>if k=j then some (a == b) else none
 | some .bool,.sc (.bool a),.sc (.bool b)=>some (a == b)
 | some .string,.sc (.string a),.sc (.string b)=>some (a.toList == b.toList)
 | _,_,_=>none
def eqF (P:Program)(cs ds:List AV):List Field→Option Bool
 | []=>some true
 | f :: fs =>
    if f.name ≠ "_" ∧ xE P f.type = true then
   match partA P f.type cs f.offset,partA P f.type ds f.offset with
   | some a,some b=>match eq1 P f.type a b with
    | some true=>eqF P cs ds fs
    | some false=>some false
    | none=>none
   | _,_=>none
  else none
def eqA (P:Program)(t:TypeId)(fs:Array Field)(cs ds:List AV):Option Bool:=if P.stoodInHeld t=false∧P.eqGuardType P.depth t=false then eqF P cs ds fs.toList else none
def uT (P:Program)(op:BinOp)(t:TypeId)(x y:AV):Option Value:=
 match P.underlying t,x,y,op with
 | some .bool,.sc (.bool a),.sc (.bool b),.eql=>some (.bool (a == b))
 | some .bool,.sc (.bool a),.sc (.bool b),.neq=>some (.bool (a != b))
 | some (.struct fs),.agg cs,.agg ds,.eql=>(eqA P t fs cs ds).map fun r=>.bool r
 | some (.struct fs),.agg cs,.agg ds,.neq=>(eqA P t fs cs ds).map fun r=>.bool (!r)
 | _,_,_,_=>none
def qW (cells:List AV)(off:Nat)(xs:List AV):List AV:=cells.take off++xs++cells.drop (off+xs.length)
def yR (place:Nat→Option (Nat×Nat))(cells:List AV):List (Nat×AV)→Option (List AV)
 | []=>some cells
 | (i,v) :: rest =>
  match place i with
  | none=>none
  | some (off,size)=>if v.cells.length=size∧off+v.cells.length≤cells.length then yR place (qW cells off v.cells) rest else none
def yT (P:Program)(fs:Array Field)(i:Nat):Option (Nat×Nat):=(fs[i]?).map fun f=>(f.offset,P.cellsOf f.type)
def xC (P:Program)(t:TypeId):Option (List AV):=((P.info? t).bind (·.zero)).map fun z=>(ofV z).cells
def bnd (ts:List AV)(x:Option Operand)(d:Nat):Option Nat:=
 match x with
 | none=>some d
 | some x=>match ev ts x with
  | .sc (.int _ n)=>if 0≤n then some n.toNat else none
  | _=>none
def evConv (P:Program)(s d:TypeId)(x:AV):Option Value:=
 match P.underlying s,P.underlying d,x with
 | some _,some (.int k),.sc (.int _ n)=>some (.int k (k.wrap n))
 | some _,some .string,.sc (.string z)=>some (.string z)
 | _,_,_=>none
def minI:List AV→Option Value
 | [.sc (.int k x),.sc (.int _ y)]=>some (.int k (if y<x then y else x))
 | _=>none
def maxI:List AV→Option Value
 | [.sc (.int k x),.sc (.int _ y)]=>some (.int k (if x<y then y else x))
 | _=>none
def yJ (P:Program)(ts:List AV)(op:Op):Option AV:=
 match op with
 | .move x=>some (ev ts x)
 | .assign x=>some (ev ts x)
 | .pick c a b=>match ev ts c with
  | .sc (.bool t)=>some (if t then ev ts a else ev ts b)
  | _=>none
 | .nilCheck x=>match ev ts x with
  | .ptr r off=>some (.ptr r off)
  | _=>none
 | .binOp op t x y _=>match kL op (ev ts x) (ev ts y) with
  | some v=>some (.sc v)
  | none=>(uT P op t (ev ts x) (ev ts y)).map .sc
 | .unOp op _ x=>(evUn op (ev ts x)).map .sc
 | .convert s d x=>(evConv P s d (ev ts x)).map .sc
 | .slice t x lo hi none =>
  match P.underlying t,ev ts x with
  | some .string,.sc (.string z)=>match bnd ts lo 0,bnd ts hi z.size with
   | some l,some h=>if l≤h∧h≤z.size then some (.sc (.string (z.extract l h))) else none
   | _,_=>none
  | some (.slice e),.sl r off len sz=>match bnd ts lo 0,bnd ts hi len with
   | some l,some h=>if l≤h∧h≤len∧P.cellsOf e=sz∧xE P e=true then some (.sl r (off+l*sz) (h - l) sz) else none
   | _,_=>none
  | some (.slice e),.sc (.slice none 0 0)=>match bnd ts lo 0,bnd ts hi 0 with
   | some 0,some 0=>if xE P e=true then some (.sc (.slice none 0 0)) else none
   | _,_=>none
  | _,_=>none
 | .fieldAddr s x f =>
  match P.underlying s,ev ts x with
  | some (.struct fs),.ptr r off=>match fs[f]? with
   | some fd=>if P.cellsOf fd.type≠0∧xE P fd.type=true then some (.ptr r (off+fd.offset)) else none
   | none=>none
  | _,_=>none
 | .field s x f =>
  match P.underlying s,ev ts x with
  | some (.struct fs),.agg cs=>match fs[f]? with
   | some fd=>if xE P fd.type=true then partA P fd.type cs fd.offset else none
   | none=>none
  | _,_=>none
 | .indexAddr t x i =>
  match P.underlying t,ev ts x,ev ts i with
  | some (.slice e),.sl r off len sz,.sc (.int _ n)=>if 0≤n∧n<len∧P.cellsOf e=sz∧xE P e=true then some (.ptr r (off+n.toNat*sz)) else none
  | some (.array len e),.ptr r off,.sc (.int _ n)=>if 0≤n∧n<len∧xE P e=true then some (.ptr r (off+n.toNat*P.cellsOf e)) else none
  | _,_,_=>none
 | .index t x i =>
  match P.underlying t,ev ts x,ev ts i with
  | some .string,.sc (.string z),.sc (.int _ n)=>if h:0≤n∧n.toNat<z.size then some (.sc (.int .u8 (z[n.toNat]'h.2).toNat)) else none
  | some (.array len e),.agg cs,.sc (.int _ n)=>if 0≤n∧n<len∧xE P e=true then partA P e cs (n.toNat*P.cellsOf e) else none
  | _,_,_=>none
 | .extract t i=>match ev ts t with
  | .tup vs=>vs[i]?
  | _=>none
 | .build t parts =>
  match P.underlying t,xC P t with
  | some (.struct fs),some z=>if fs.all (fun f=>xE P f.type) then (yR (yT P fs) z (parts.toList.map fun p=>(p.1,ev ts p.2))).map .agg else none
  | some (.array _ e),some z=>if xE P e then (yR (fun i=>some (i*P.cellsOf e,P.cellsOf e)) z (parts.toList.map fun p=>(p.1,ev ts p.2))).map .agg else none
  | _,_=>none
 | .makeInterface t x =>
  match P.underlying t,ev ts x with
  | some (.int _),.sc v=>some (.sc (.iface t v))
  | _,_=>none
 | .call c =>
  match c.callee,c.args.toList,c.argTypes.toList with
  | .builtin .len,[x],[t]=>match P.underlying t,ev ts x with
   | some .string,.sc (.string z)=>some (.sc (.int .i64 z.size))
   | some (.array n _),_=>some (.sc (.int .i64 n))
   | some (.slice _),.sl _ _ len _=>some (.sc (.int .i64 len))
   | some (.slice _),.sc (.slice none 0 0)=>some (.sc (.int .i64 0))
   | _,_=>none
  | .builtin .min,xs,_=>(minI (xs.map (ev ts))).map .sc
  | .builtin .max,xs,_=>(maxI (xs.map (ev ts))).map .sc
  | _,_,_=>none
 | _=>none
def wR (H:qE)(r off n:Nat):Option (List AV):=
 match H[r]? with
 | some g=>if g.live∧off+n≤g.cs.length then some ((g.cs.drop off).take n) else none
 | none=>none
def isU8 (P:Program)(e:TypeId):Bool:=
 match P.underlying e with
 | some (.int .u8)=>true
 | _=>false
def noInt:TypeDesc→Bool
 | .int _=>false
 | _=>true
def byteOf:AV→Option Int
 | .sc (.int .u8 n)=>some n
 | _=>none
def vN:List AV→Option (List Int)
 | []=>some []
 | a :: l=>match byteOf a,vN l with
  | some n,some ns=>some (n :: ns)
  | _,_=>none
def xH (P:Program)(ts:List AV)(op:Op)(H:qE):Option AV:=
 match op with
 | .load t x=>match ev ts x with
  | .ptr r off =>
   if xE P t=true then
    if kB P t then (wR H r off (P.cellsOf t)).map .agg
    else match wR H r off 1 with
     | some [v]=>some v
     | _=>none
   else none
  | _=>none
 | .convert s d x =>
  match P.underlying s,P.underlying d,ev ts x with
  | some (.slice e),some .string,.sl r off len sz =>
   if isU8 P e=true∧sz=1 then ((wR H r off len).bind vN).map fun l=>.sc (.string (strOfNums l)) else none
  | some (.slice e),some .string,.sc (.slice none 0 0)=>if isU8 P e then some (.sc (.string ByteArray.empty)) else none
  | _,_,_=>none
 | _=>none
def xW (P:Program)(ts:List AV)(op:Op):Option (List AV×(Nat→AV)):=
 match op with
 | .alloc t=>(xC P t).map fun z=>(z,fun r=>.ptr r 0)
 | .box _ x=>some ((ev ts x).cells,fun r=>.ptr r 0)
 | .buildSlice t len parts =>
  match P.underlying t with
  | some (.slice e)=>match xC P e with
   | some z =>
    if xE P e=true∧0<P.cellsOf e∧z.length=P.cellsOf e∧len*P.cellsOf e≤16777216 then
     (yR (fun i=>some (i*P.cellsOf e,P.cellsOf e)) ((List.replicate len z).flatten) (parts.toList.map fun p=>(p.1,ev ts p.2))).map fun cs=>(cs,fun r=>.sl r 0 len (P.cellsOf e))
    else none
   | none=>none
  | _=>none
 | .makeSlice t l c =>
  match P.underlying t,ev ts l,ev ts c with
  | some (.slice e),.sc (.int _ n),.sc (.int _ m)=>match P.info? e,xC P e with
   | some i,some z =>
    if 0≤n∧n=m∧n≤140737488355328∧i.bytes*n≤281474976710656∧0<P.cellsOf e∧z.length=P.cellsOf e then some ((List.replicate n.toNat z).flatten,fun r=>.sl r 0 n.toNat (P.cellsOf e)) else none
   | _,_=>none
  | _,_,_=>none
 | .convert s d x =>
  match P.underlying s,P.underlying d,ev ts x with
  | some _,some (.slice e),.sc (.string z)=>if isU8 P e=true∧P.cellsOf e=1 then some (z.data.toList.map (fun b=>.sc (.int .u8 b.toNat)),fun r=>.sl r 0 z.size 1) else none
  | _,_,_=>none
 | _=>none
def setReg (H:qE)(r:Nat)(cs:List AV):qE:=H.modify r fun g=>{ g with cs:=cs }
def uM (n:Nat)(H:qE)(r:Nat):qE:=H.modify r fun g=>⟨.ptr n 0 :: g.cs,g.own,false⟩
def yG (H:qE)(r:Nat):qE:=uM H.length H r
def qU (H:qE)(x:AV)(sz:Nat):Option (List AV):=
 match x with
 | .sl r off len sz'=>if sz'=sz then wR H r off (len*sz) else none
 | .sc (.slice none 0 0)=>some []
 | .sc (.string z)=>if sz=1 then some (z.data.toList.map (fun b=>.sc (.int .u8 b.toNat))) else none
 | _=>none
def wI (P:Program)(ts:List AV)(op:Op)(H:qE):Option (AV×qE):=
 match op with
 | .store t x y =>
  match ev ts x,H[(match ev ts x with | .ptr r _=>r | _=>0)]? with
  | .ptr r off,some g =>
   if g.live∧g.own∧xE P t=true∧(ev ts y).cells.length=P.cellsOf t∧off+P.cellsOf t≤g.cs.length∧(ev ts y).cells.all AV.one then
    some (und,setReg H r (qW g.cs off (ev ts y).cells)) else none
  | _,_=>none
 | .call c =>
  match c.callee,c.args.toList,c.argTypes.toList with
  | .builtin .append,[s,x],[t,t']=>match P.underlying t,P.underlying t' with
   | some (.slice e),some u =>
    match P.info? e,(P.info? e).bind (·.zero),qU H (ev ts x) (P.cellsOf e) with
    | some i,some z,some news =>
     if 0<P.cellsOf e∧z.cells.size=P.cellsOf e∧noInt u=true∧news.all AV.one=true then
      match ev ts s with
      | .sc (.slice none 0 0) =>
       if news.length / P.cellsOf e*i.bytes≤140737488355328∧news.length≤140737488355328 then
        if news.length=0 then some (.sc (.slice none 0 0),H)
        else some (.sl H.length 0 (news.length / P.cellsOf e) (P.cellsOf e),H++[{cs:=news}]) else none
      | .sl r 0 len sz =>
       match H[r]? with
       | some g =>
        if sz=P.cellsOf e∧g.live∧g.own∧len*sz≤g.cs.length∧(len+news.length / sz)*i.bytes≤140737488355328∧len+news.length≤140737488355328 then
         some (.sl H.length 0 (len+news.length / sz) sz,yG H r++[{cs:=g.cs.take (len*sz)++news}])
        else none
       | none=>none
      | _=>none
     else none
    | _,_,_=>none
   | _,_=>none
  | _,_,_=>none
 | _=>none
inductive Cls where
 | pure | read | alloc | write
def jZ (P:Program)(o:Oper):Cls:=
 match o.op with
 | .load ..=>.read
 | .convert s d _=>match P.underlying s,P.underlying d with
  | some (.slice _),some .string=>.read
  | some .string,some (.slice _)=>.alloc
  | _,_=>.pure
 | .alloc _ | .box .. | .buildSlice .. | .makeSlice ..=>.alloc
 | .store ..=>.write
 | .call c=>match c.callee with
  | .builtin .len | .builtin .min | .builtin .max=>.pure
  | _=>.write
 | _=>.pure
abbrev kK:=FuncId→List AV→qE→AV→qE→Prop
def jF (ts:List AV)(o:Oper):Option (FuncId×List AV):=
 match o.op with
 | .call c=>match c.callee with
  | .value f=>match ev ts f with
   | .sc (.func (.func g) a b)=>if a.size=0∧b.size=0 then some (g,c.args.toList.map (ev ts)) else none
   | _=>none
  | _=>none
 | _=>none
def Eff (P:Program)(C:kK)(o:Oper)(s:St)(s':St):Prop:=
 match jZ P o with
 | .pure=>∃ v,yJ P s.ts o.op=some v∧s'=s.put o.dst v
 | .read=>∃ v,xH P s.ts o.op s.H=some v∧s'=s.put o.dst v
 | .alloc=>∃ cs mk,xW P s.ts o.op=some (cs,mk)∧cs.all AV.one=true∧s'=⟨jH s.ts o.dst (mk s.H.length),s.H++[{cs:=cs}]⟩
 | .write=>match jF s.ts o with
  | some (g,as)=>∃ v H',C g as s.H v H'∧s'=⟨jH s.ts o.dst v,H'⟩
  | none=>∃ v H',wI P s.ts o.op s.H=some (v,H')∧s'=⟨jH s.ts o.dst v,H'⟩
def wE (ops:Array Oper)(ts:List AV)(j:Nat):Option Bool:=
 match ((ops[j]?).bind (·.dst)).bind (ts[·]?) with
 | some (.sc (.bool b))=>some b
 | _=>none
def OpStep (P:Program)(C:kK)(ops:Array Oper)(i:Nat)(s s':St):Prop:=
 match ops[i]? with
 | none=>False
 | some o=>if Region.wanted o (wE ops s.ts) then Eff P C o s s' else s'=s.put o.dst und
inductive OpsR (P:Program) (C:kK) (ops:Array Oper):Nat→St→St→Prop where
 | done {i:Nat} {s:St}:i=ops.size→OpsR P C ops i s s
 | step {i:Nat} {s s1 s2:St}:OpStep P C ops i s s1→OpsR P C ops (i+1) s1 s2→OpsR P C ops i s s2
def isW (P:Program)(o:Oper):Bool:=
 match jZ P o with
 | .write=>true
 | _=>false
def isR (P:Program)(o:Oper):Bool:=
 match jZ P o with
 | .read=>true
 | _=>false
def kS (ops:Array Oper)(o:Oper):List Tmp:=
 (o.op.operands.toList.filterMap fun | .tmp t=>some t | _=>none)++(match o.guard with | some (g,_)=>((ops[g]?).bind (·.dst)).toList | none=>[])++o.dst.toList
def bef (ops:Array Oper):List Nat:=(Region.before ops).toList
def yP (ops:Array Oper)(i:Nat):Oper:=ops.getD i default
def vZ (ops:Array Oper)(i j:Nat):Bool:=((bef ops).getD j 0).testBit i
def noClash (ops:Array Oper)(x y:Oper):Bool:=
 (match x.dst with | some d=>!(kS ops y).contains d | none=>true)&&(match y.dst with | some d=>!(kS ops x).contains d | none=>true)
def drawOk (P:Program)(ops:Array Oper):Bool:=
 (List.range ops.size).all (fun j=>(yP ops j).after.toList.all fun e=>!Region.binds .any e||decide (e.on<j)) &&
 (List.range ops.size).all (fun j=>(List.range j).all fun i =>
  vZ ops i j||(!(isW P (yP ops i)&&isW P (yP ops j))&&noClash ops (yP ops i) (yP ops j)))
def mayAt (P:Program)(ops:Array Oper)(j k:Nat):Bool:=
 (List.range ops.size).all fun i=>!isW P (yP ops i)||(if i<k then !vZ ops j i else !vZ ops i j)
def moment (P:Program)(ops:Array Oper)(k:Nat):Bool:=k == 0||isW P (yP ops (k - 1))
def calm (P:Program)(ops:Array Oper)(j k:Nat):Bool:=decide (k≤j)&&(List.range ops.size).all fun i=>!isW P (yP ops i)||decide (i<k)||decide (j≤i)
def ReadsOk (P:Program)(ops:Array Oper)(tr:Nat→St):Prop:=
 ∀ j,j<ops.size→isR P (yP ops j)=true→Region.wanted (yP ops j) (wE ops (tr j).ts)=true→∀ k,k≤ops.size→moment P ops k=true→mayAt P ops j k=true →
  calm P ops j k=true∨xH P (tr j).ts (yP ops j).op (tr k).H=xH P (tr j).ts (yP ops j).op (tr j).H
inductive Exk where
 | normal
 | exit (id:Nat)
 | ret
inductive Ex (P:Program) (C:kK):Code→St→Exk→St→Prop where
 | skip {s:St}:Ex P C .skip s .normal s
 | region {id:Nat} {ops:Array Oper} {s s':St}:OpsR P C ops 0 s s'→Ex P C (.region id ops false) s .normal s'
 | draw {id:Nat} {ops:Array Oper} (tr:Nat→St):P.follows .mixedOrders=true→drawOk P ops=true→(∀ i,i<ops.size→OpStep P C ops i (tr i) (tr (i+1)))→ReadsOk P ops tr→Ex P C (.region id ops true) (tr 0) .normal (tr ops.size)
 | seq {a b:Code} {s s1 s2:St} {e:Exk}:Ex P C a s .normal s1→Ex P C b s1 e s2→Ex P C (.seq a b) s e s2
 | seqx {a b:Code} {s s1:St} {e:Exk}:Ex P C a s e s1→e≠.normal→Ex P C (.seq a b) s e s1
 | cond {c:Operand} {a b:Code} {t:Bool} {s s1:St} {e:Exk}:ev s.ts c=.sc (.bool t)→Ex P C (if t then a else b) s e s1→Ex P C (.cond c a b) s e s1
 | block {id:Nat} {c:Code} {s s1:St} {e:Exk}:Ex P C c s e s1→e≠.exit id→Ex P C (.block id c) s e s1
 | blockx {id:Nat} {c:Code} {s s1:St}:Ex P C c s (.exit id) s1→Ex P C (.block id c) s .normal s1
 | loop {c:Code} {s s1 s2:St} {e:Exk}:Ex P C c s .normal s1→Ex P C (.loop c) s1 e s2→Ex P C (.loop c) s e s2
 | loopx {c:Code} {s s1:St} {e:Exk}:Ex P C c s e s1→e≠.normal→Ex P C (.loop c) s e s1
 | exit {id:Nat} {s:St}:Ex P C (.exit id) s (.exit id) s
 | ret {s:St}:Ex P C .ret s .ret s
def uK (P:Program)(s:St):ResultVar→Option AV
 | .tmp t=>some (s.ts.getD t und)
 | .cell a t=>xH P s.ts (.load t (.tmp a)) s.H
def uX (P:Program)(s:St):List ResultVar→Option (List AV)
 | []=>some []
 | x :: l=>match uK P s x,uX P s l with
  | some v,some vs=>some (v :: vs)
  | _,_=>none
def packA:List AV→AV
 | [v]=>v
 | vs=>.tup vs
def Body (P:Program)(C:kK):kK:=fun f args H v H' =>
  ∃ fn c e s' vs, P.funcs[f]? = some fn ∧ fn.body = some c ∧ (fn.name == "runtime.NumGoroutine") = false ∧ args.length ≤ fn.ntmps ∧
  Ex P C c ⟨args++List.replicate (fn.ntmps - args.length) und,H⟩ e s'∧(e=.normal∨e=.ret)∧uX P s' fn.results.toList=some vs∧v=packA vs∧H'=s'.H
section
variable {P : Program} {C C' : kK}
end
structure Loc where
 b:Nat
 o:Nat
 n:Nat
abbrev Ren:=Nat→Option Loc
inductive VR (ρ:Ren):AV→Value→Prop where
 | sc (v:Value):VR ρ (.sc v) v
 | ptr {r off:Nat} {l:Loc}:ρ r=some l→VR ρ (.ptr r off) (.pointer (some ⟨l.b,l.o+off,none⟩))
 | sl {r off len sz cap:Nat} {l:Loc}:ρ r=some l→len≤cap→l.o+off+cap*sz≤l.n→VR ρ (.sl r off len sz) (.slice (some ⟨l.b,l.o+off,none⟩) len cap)
 | sl0 {r off sz x:Nat} {l:Loc}:ρ r=some l→VR ρ (.sl r off 0 sz) (.slice (some ⟨l.b,x,none⟩) 0 0)
 | agg {cs:List AV} {vs:Array Value}:cs.length=vs.size→(∀ (i:Nat)(a:AV)(v:Value),cs[i]?=some a→vs.toList[i]?=some v→VR ρ a v)→VR ρ (.agg cs) (.agg vs)
 | tup {cs:List AV} {vs:Array Value}:cs.length=vs.size→(∀ (i:Nat)(a:AV)(v:Value),cs[i]?=some a→vs.toList[i]?=some v→VR ρ a v)→VR ρ (.tup cs) (.tuple vs)
theorem VR.mono {ρ ρ':Ren}(hx:∀ r l,ρ r=some l→ρ' r=some l){a:AV}{v:Value}(h:VR ρ a v):VR ρ' a v:=by
 induction h with
 | sc v=>exact .sc v
 | ptr h=>exact .ptr (hx _ _ h)
 | sl h a b=>exact .sl (hx _ _ h) a b
 | sl0 h=>exact .sl0 (hx _ _ h)
 | agg h _ ih=>exact .agg h ih
 | tup h _ ih=>exact .tup h ih
def LR (ρ:Ren)(as:List AV)(vs:List Value):Prop:=as.length=vs.length∧∀ (i:Nat)(a:AV)(v:Value),as[i]?=some a→vs[i]?=some v→VR ρ a v
section
variable {ρ ρ' : Ren}
theorem LR.mono (hx:∀ r l,ρ r=some l→ρ' r=some l){as:List AV}{vs:List Value}(h:LR ρ as vs):LR ρ' as vs:=⟨h.1,fun i a v ha hv=>(h.2 i a v ha hv).mono hx⟩
theorem LR.nil:LR ρ [] []:=⟨rfl,fun i a v ha=>by simp at ha⟩
theorem LR.cons {a:AV}{v:Value}{as:List AV}{vs:List Value}(h:VR ρ a v)(hs:LR ρ as vs):LR ρ (a :: as) (v :: vs):=by
 refine⟨by simp[hs.1],fun i b u hb hu=>?_⟩
 cases i with
 | zero=>simp at hb hu;subst hb;subst hu;exact h
 | succ i=>simp at hb hu;exact hs.2 i b u hb hu
theorem LR.get {as:List AV}{vs:List Value}(h:LR ρ as vs){i:Nat}{a:AV}(ha:as[i]?=some a):∃ v,vs[i]?=some v∧VR ρ a v:=by
 have hi:i<as.length:=(List.getElem?_eq_some_iff.1 ha).1
 have hv:vs[i]?=some (vs[i]'(by rw[←h.1];exact hi)):=List.getElem?_eq_getElem _
 exact⟨_,hv,h.2 i a _ ha hv⟩
theorem LR.get' {as:List AV}{vs:List Value}(h:LR ρ as vs){i:Nat}{v:Value}(hv:vs[i]?=some v):∃ a,as[i]?=some a∧VR ρ a v:=by
 have hi:i<vs.length:=(List.getElem?_eq_some_iff.1 hv).1
 have ha:as[i]?=some (as[i]'(by rw[h.1];exact hi)):=List.getElem?_eq_getElem _
 exact⟨_,ha,h.2 i _ v ha hv⟩
theorem LR.append {as bs:List AV}{vs us:List Value}(h:LR ρ as vs)(k:LR ρ bs us):LR ρ (as++bs) (vs++us):=by
 refine⟨by simp[h.1,k.1],fun i a v ha hv=>?_⟩
 rcases Nat.lt_or_ge i as.length with hl | hl
 ·rw[List.getElem?_append_left hl] at ha
  rw[List.getElem?_append_left (by rw[←h.1];exact hl)] at hv
  exact h.2 i a v ha hv
 ·rw[List.getElem?_append_right hl] at ha
  rw[List.getElem?_append_right (by rw[←h.1];exact hl),←h.1] at hv
  exact k.2 _ a v ha hv
theorem LR.take {as:List AV}{vs:List Value}(h:LR ρ as vs)(n:Nat):LR ρ (as.take n) (vs.take n):=by
 refine⟨by simp[h.1],fun i a v ha hv=>?_⟩
 rw[List.getElem?_take] at ha hv
 split at ha
 ·rename_i hi;rw[if_pos hi] at hv;exact h.2 i a v ha hv
 ·cases ha
theorem LR.drop {as:List AV}{vs:List Value}(h:LR ρ as vs)(n:Nat):LR ρ (as.drop n) (vs.drop n):=by
 refine⟨by simp[h.1],fun i a v ha hv=>?_⟩
 rw[List.getElem?_drop] at ha hv
 exact h.2 _ a v ha hv
theorem LR.set {as:List AV}{vs:List Value}(h:LR ρ as vs){a:AV}{v:Value}(k:VR ρ a v)(d:Nat):LR ρ (as.set d a) (vs.set d v):=by
 refine⟨by simp[h.1],fun i b u hb hu=>?_⟩
 rw[List.getElem?_set] at hb hu
 split at hb
 ·rename_i e
  subst e
  rw[if_pos rfl] at hu
  split at hb
  ·split at hu
   ·injection hb with hb;injection hu with hu;subst hb;subst hu;exact k
   ·cases hu
  ·cases hb
 ·rename_i e
  rw[if_neg e] at hu
  exact h.2 i b u hb hu
theorem LR.over {as bs:List AV}{vs us:List Value}(h:LR ρ as vs)(k:LR ρ bs us)(off:Nat):LR ρ (qW as off bs) (vs.take off++us++vs.drop (off+us.length)):=by
 unfold qW
 rw[←k.1]
 exact((h.take off).append k).append (h.drop _)
theorem LR.replicate {as:List AV}{vs:List Value}(h:LR ρ as vs)(n:Nat):LR ρ (List.replicate n as).flatten (List.replicate n vs).flatten:=by
 induction n with
 | zero=>exact LR.nil
 | succ n ih=>simp only[List.replicate_succ,List.flatten_cons];exact h.append ih
theorem LR.map {α:Type}(f:α→Value)(l:List α):LR ρ (l.map fun x=>.sc (f x)) (l.map f):=by
 induction l with
 | nil=>exact LR.nil
 | cons x l ih=>exact LR.cons (.sc _) ih
theorem LR.scs (l:List Value):LR ρ (l.map .sc) l:=by
 induction l with
 | nil=>exact LR.nil
 | cons x l ih=>exact LR.cons (.sc _) ih
theorem VR.ofV (v:Value):VR ρ (ofV v) v:=by
 cases v
 case agg cs =>
  refine .agg (by simp) fun i a v ha hv=>?_
  exact(LR.scs cs.toList).2 i a v ha hv
 all_goals exact .sc _
theorem VR.cells {a:AV}{v:Value}(h:VR ρ a v):LR ρ a.cells v.cells.toList:=by
 cases h
 case agg hl hh=>exact⟨by simpa [AV.cells,Value.cells] using hl,hh⟩
 case sc =>
  cases v
  case agg cs=>exact LR.scs cs.toList
  all_goals exact LR.cons (.sc _) LR.nil
 case ptr hr=>exact LR.cons (.ptr hr) LR.nil
 case sl hr a b=>exact LR.cons (.sl hr a b) LR.nil
 case sl0 hr=>exact LR.cons (.sl0 hr) LR.nil
 case tup hl hh=>exact LR.cons (.tup hl hh) LR.nil
theorem VR.one {a:AV}{v:Value}(h:VR ρ a v):a.one=v.oneCell':=by cases h<;>rfl
theorem VR.eval {ts:List AV}{a:Act}(h:LR ρ ts a.tmps.toList)(x:Operand):VR ρ (ev ts x) (a.eval x):=by
 cases x with
 | tmp t =>
  simp only[ev,Act.eval]
  cases ht:ts[t]? with
  | none =>
   have h2:a.tmps.size≤t:=by
    have:=List.getElem?_eq_none_iff.1 ht
    rw[h.1] at this
    simpa using this
   simp[List.getD_eq_getElem?_getD,ht,h2]
   exact .sc _
  | some v =>
   obtain⟨u,hu,hr⟩:=h.get ht
   rw[Array.getElem?_toList] at hu
   simp[List.getD_eq_getElem?_getD,ht,hu]
   exact hr
 | const v=>exact .ofV v
 | global g=>exact .sc _
 | func f=>exact .sc _
theorem VR.sc_inv {v u:Value}(h:VR ρ (.sc v) u):u=v:=by cases h;rfl
theorem VR.ptr_inv {r off:Nat}{u:Value}(h:VR ρ (.ptr r off) u):∃ l,ρ r=some l∧u=.pointer (some ⟨l.b,l.o+off,none⟩):=by cases h;exact⟨_,‹_›,rfl⟩
theorem VR.agg_inv {cs:List AV}{u:Value}(h:VR ρ (.agg cs) u):∃ vs:Array Value,u=.agg vs∧LR ρ cs vs.toList:=by
 cases h with
 | agg hl hh=>exact⟨_,rfl,by simpa using hl,hh⟩
theorem VR.tup_inv {cs:List AV}{u:Value}(h:VR ρ (.tup cs) u):∃ vs:Array Value,u=.tuple vs∧LR ρ cs vs.toList:=by
 cases h with
 | tup hl hh=>exact⟨_,rfl,by simpa using hl,hh⟩
end
section
variable {P : Program} (w : World)
theorem run_intBin {op : BinOp}(t : TypeId){k : IntKind}{a b : Int}{v : Value}(hs : wD op = false)(h : kQ op k a b = some v) : (binOp op t (.int k a) (.int k b)).run P w = .ok v w := by
  cases op <;> simp only [kQ, reduceCtorEq] at h <;> first
    | (injection h with h; subst h; simp [binOp, Op.intArith, Op.intBits, Op.intCmp, bits]; done)
    | (split at h
       · cases h
       · rename_i hb; injection h with h; subst h; simp [binOp, Op.intDiv, hb])
    | (simp [wD] at hs)
theorem run_shiftBin {op:BinOp}(t:TypeId){k yk:IntKind}{a b:Int}{v:Value}(h:shiftBin op k a b=some v):(binOp op t (.int k a) (.int yk b)).run P w=.ok v w:=by
 unfold shiftBin at h
 split at h
 ·cases h
 ·rename_i hb
  cases op<;>simp only[reduceCtorEq] at h
  ·injection h with h;subst h;simp[binOp,Op.shift,hb]
  ·injection h with h;subst h
   have hp:(0:Int)≤2 ^ min b.toNat k.bits:=Int.pow_nonneg (by decide)
   simp[binOp,Op.shift,hb,Int.fdiv_eq_ediv_of_nonneg _ hp]
theorem run_strBin {op:BinOp}(t:TypeId){a b:ByteArray}{v:Value}(h:strBin op a b=some v):(binOp op t (.string a) (.string b)).run P w=.ok v w:=by
 cases op<;>simp only[strBin,reduceCtorEq] at h
 case add =>
  split at h
  ·rename_i hl
   injection h with h;subst h
   simp[binOp,Op.stringOp];omega
  ·cases h
 all_goals (injection h with h;subst h;simp[binOp,Op.stringOp])
theorem run_boolBin {op:BinOp}{t:TypeId}{x y:AV}{v:Value}(h:uT P op t x y=some v):(∃ a b:Bool,x=.sc (.bool a)∧y=.sc (.bool b)∧(binOp op t (.bool a) (.bool b)).run P w=.ok v w) ∨
  ∃ fs cs ds r,P.underlying t=some (.struct fs)∧x=.agg cs∧y=.agg ds∧P.stoodInHeld t=false∧P.eqGuardType P.depth t=false∧eqF P cs ds fs.toList=some r∧((op=.eql∧v=.bool r)∨(op=.neq∧v=.bool (!r))):=by
 have eA:∀ {fs:Array Field}{cs ds:List AV}{r:Bool},eqA P t fs cs ds=some r→P.stoodInHeld t=false∧P.eqGuardType P.depth t=false∧eqF P cs ds fs.toList=some r:=by
  intro fs cs ds r h
  unfold eqA at h
  split at h
  ·rename_i hc
   exact⟨hc.1,hc.2,h⟩
  ·cases h
 unfold uT at h
 split at h
 ·rename_i a b ht
  injection h with h;subst h
  exact .inl ⟨a,b,rfl,rfl,run_eql_bool w t a b ht⟩
 ·rename_i a b ht
  injection h with h;subst h
  exact .inl ⟨a,b,rfl,rfl,run_neq_bool w t a b ht⟩
 ·rename_i fs cs ds ht
  rw[Option.map_eq_some_iff] at h
  obtain⟨r,hr,rfl⟩:=h
  obtain⟨h1,h2,h3⟩:=eA hr
  exact .inr ⟨fs,cs,ds,r,ht,rfl,rfl,h1,h2,h3,.inl ⟨rfl,rfl⟩⟩
 ·rename_i fs cs ds ht
  rw[Option.map_eq_some_iff] at h
  obtain⟨r,hr,rfl⟩:=h
  obtain⟨h1,h2,h3⟩:=eA hr
  exact .inr ⟨fs,cs,ds,r,ht,rfl,rfl,h1,h2,h3,.inr ⟨rfl,rfl⟩⟩
 ·cases h
end
section
variable {P : Program} {ρ : Ren} {ts : List AV} {A : Act}
theorem tyOk_u {t:TypeId}(h:xE P t=true):∃ d,P.underlying t=some d:=by
 unfold xE at h;rw[Bool.and_eq_true] at h;exact Option.isSome_iff_exists.1 h.2
theorem tyOk_i {t:TypeId}(h:xE P t=true):∃ i,P.info? t=some i:=by
 unfold xE at h;rw[Bool.and_eq_true] at h;exact Option.isSome_iff_exists.1 h.1
theorem xQ {t:TypeId}(h:xE P t=true)(w:World):(sizeOf t).run P w=.ok (P.cellsOf t) w:=by
 obtain⟨i,hi⟩:=tyOk_i h
 simp[sizeOf,typeInfo,hi,Program.cellsOf]
theorem vS {t:TypeId}(h:xE P t=true)(w:World):(isAgg t).run P w=.ok (kB P t) w:=by
 obtain⟨d,hd⟩:=tyOk_u h
 simp only[isAgg,Sem.run_bind,run_underlying hd,Result.andThen_ok,kB,hd]
 cases d<;>rfl
theorem ext_list (vs:Array Value)(a b:Nat):(vs.extract a b).toList=(vs.toList.drop a).take (b - a):=by
 simp[Array.toList_extract,List.extract_eq_take_drop]
theorem run_part {t:TypeId}{cs:List AV}{vs:Array Value}{off:Nat}{v:AV}(ht:xE P t=true)(hr:LR ρ cs vs.toList)(h:partA P t cs off=some v)(w:World):∃ cv,(part t vs off).run P w=.ok cv w∧VR ρ v cv:=by
 unfold partA at h
 simp only[part,Sem.run_bind,vS ht,Result.andThen_ok]
 by_cases hb:kB P t=true
 ·rw[if_pos hb] at h
  split at h
  ·injection h with h;subst h
   rw[if_pos hb]
   simp only[Sem.run_bind,xQ ht,Result.andThen_ok,Sem.run_pure]
   refine⟨_,rfl,?_⟩
   have h2:=(hr.drop off).take (P.cellsOf t)
   refine .agg ?_ ?_
   ·have:=h2.1
    rw[this]
    have e:=congrArg List.length (ext_list vs off (off+P.cellsOf t))
    rw[Array.length_toList] at e
    rw[e]
    simp
   ·intro i a v ha hv
    rw[ext_list,Nat.add_sub_cancel_left] at hv
    exact h2.2 i a v ha hv
  ·cases h
 ·rw[if_neg hb] at h ⊢
  obtain⟨cv,hcv,hr2⟩:=hr.get h
  rw[Array.getElem?_toList] at hcv
  exact⟨cv,by simp[hcv],hr2⟩
theorem fold_set (us:List Value):∀ (k:Nat)(cells:Array Value)(off:Nat),off+k+us.length≤cells.size →
  ((us.zipIdx k).foldl (fun cs (c,j)=>cs.setIfInBounds (off+j) c) cells).toList=cells.toList.take (off+k)++us++cells.toList.drop (off+k+us.length):=by
 induction us with
 | nil=>intro k cells off h;simp
 | cons u us ih =>
  intro k cells off h
  simp only[List.length_cons] at h
  simp only[List.zipIdx_cons,List.foldl_cons]
  rw[ih (k+1) _ off (by simp;omega),Array.toList_setIfInBounds]
  have hm:off+k<cells.toList.length:=by rw[Array.length_toList];omega
  rw[List.set_eq_take_append_cons_drop,if_pos hm]
  have ht:(cells.toList.take (off+k)).length=off+k:=by rw[List.length_take];omega
  rw[show off+(k+1)=(cells.toList.take (off+k)).length+1 by omega,List.take_length_add_append,show (cells.toList.take (off+k)).length+1+us.length=(cells.toList.take (off+k)).length+(1+us.length) by omega,List.drop_length_add_append,List.take_succ_cons,List.take_zero,Nat.add_comm 1,List.drop_succ_cons,List.drop_drop]
  simp only[List.append_assoc,List.singleton_append,List.cons_append,List.length_cons,List.nil_append]
  rw[show off+k+1+us.length=off+k+(us.length+1) by omega]
theorem run_fill {place:Nat→Option (Nat×Nat)}:∀ (parts:List (Nat×AV))(vparts:List (Nat×Value))(cs:List AV)(vs:Array Value)(cs':List AV),
  parts.length=vparts.length→(∀ (i:Nat)(p:Nat×AV)(q:Nat×Value),parts[i]?=some p→vparts[i]?=some q→p.1=q.1∧LR ρ p.2.cells q.2.cells.toList) →
  LR ρ cs vs.toList→yR place cs parts=some cs'→∃ vs',Instr.fill place vs vparts=some vs'∧LR ρ cs' vs'.toList:=by
 intro parts
 induction parts with
 | nil =>
  intro vparts cs vs cs' hl _ hr h
  cases vparts with
  | nil=>simp only[yR,Option.some.injEq] at h;subst h;exact⟨vs,rfl,hr⟩
  | cons=>simp at hl
 | cons p parts ih =>
  intro vparts cs vs cs' hl hp hr h
  cases vparts with
  | nil=>simp at hl
  | cons q vparts =>
   obtain⟨i,a⟩:=p
   obtain⟨j,u⟩:=q
   obtain⟨e,hc⟩:=hp 0 _ _ rfl rfl
   simp only at e hc
   subst e
   simp only[yR] at h
   simp only[Instr.fill]
   cases hpl:place i with
   | none=>rw[hpl] at h;cases h
   | some os =>
    obtain⟨off,size⟩:=os
    rw[hpl] at h
    simp only at h
    split at h
    ·rename_i hh
     obtain⟨h1,h2⟩:=hh
     have hcl:a.cells.length=u.cells.size:=by have:=hc.1;rwa [Array.length_toList] at this
     have hcs:cs.length=vs.size:=by have:=hr.1;rwa [Array.length_toList] at this
     have hfs:=fold_set u.cells.toList 0 vs off (by rw[Array.length_toList];omega)
     simp only[Nat.add_zero] at hfs
     have hnot:(u.cells.size≠size||decide (off+u.cells.size>vs.size))=false:=by
      rw[←hcl,←hcs,h1];simp;omega
     simp only[Nat.add_zero]
     rw[if_neg (by
      intro hx
      have:(u.cells.size≠size||decide (off+u.cells.size>vs.size))=true:=by simpa using hx
      rw[hnot] at this;cases this)]
     refine ih vparts _ _ cs' (by simpa using hl) (fun i p q hp1 hq1=>hp (i+1) p q (by simpa using hp1) (by simpa using hq1)) ?_ h
     have he:(u.cells.zipIdx.foldl (fun cs (x:Value×Nat)=>cs.setIfInBounds (off+x.2) x.1) vs).toList=vs.toList.take off++u.cells.toList++vs.toList.drop (off+u.cells.toList.length):=by
      rw[←hfs,←Array.foldl_toList,Array.toList_zipIdx]
     rw[he]
     exact hr.over hc off
    ·cases h
theorem bnd_inv {x:Option Operand}{d l:Nat}(ht:LR ρ ts A.tmps.toList)(h:bnd ts x d=some l):(x=none∧l=d)∨∃ y k n,x=some y∧A.eval y=.int k n∧0≤n∧l=n.toNat:=by
 cases x with
 | none=>simp only[bnd,Option.some.injEq] at h;exact .inl ⟨rfl,h.symm⟩
 | some y =>
  have hy:=VR.eval ht y
  simp only[bnd] at h
  cases he:ev ts y with
  | sc v =>
   rw[he] at h hy
   have e:=hy.sc_inv
   cases v<;>simp only[reduceCtorEq] at h
   rename_i k n
   split at h
   ·injection h with h;exact .inr ⟨y,k,n,rfl,e,by assumption,h.symm⟩
   ·cases h
  | _=>rw[he] at h;simp at h
theorem run_bounds {isSlice:Bool}{len cap l h:Nat}{lo hi:Option Operand}(ht:LR ρ ts A.tmps.toList)(hlo:bnd ts lo 0=some l)(hhi:bnd ts hi len=some h)(hlh:l≤h)(hc:h≤cap)(w:World) :
  (Instr.sliceBounds isSlice len cap (lo.map A.eval) (hi.map A.eval) none).run P w=.ok (l,h,cap) w:=by
 rcases bnd_inv ht hlo with ⟨rfl,rfl⟩ | ⟨y,k,n,rfl,e1,n0,rfl⟩<;>rcases bnd_inv ht hhi with ⟨rfl,rfl⟩ | ⟨z,k2,m,rfl,e2,m0,rfl⟩
 ·simp[Instr.sliceBounds]
 ·have h1:0≤m∧m≤(cap:Int):=⟨m0,by omega⟩
  simp[Instr.sliceBounds,e2,Instr.sliceBound,asIntOf,h1]
 ·have h1:0≤n∧n≤(h:Int):=⟨n0,by omega⟩
  simp[Instr.sliceBounds,e1,Instr.sliceBound,asIntOf,h1]
 ·have h1:0≤m∧m≤(cap:Int):=⟨m0,by omega⟩
  have h2:0≤n∧n≤((m.toNat:Nat):Int):=⟨n0,by omega⟩
  have h2':n≤max m 0:=by omega
  simp[Instr.sliceBounds,e1,e2,Instr.sliceBound,asIntOf,h1,n0,h2']
end
section
variable {P : Program} {ρ : Ren} {ts : List AV} {A : Act}
def Yv (P:Program)(ρ:Ren)(A:Act)(o:Oper)(v:AV):Prop:=∀ w:World,∃ cv,(execOp A.eval o).run P w=.ok (.value cv) w∧VR ρ v cv
theorem wT {x:Operand}{v:Value}(ht:LR ρ ts A.tmps.toList)(h:ev ts x=.sc v):A.eval x=v:=by
 have:=VR.eval ht x;rw[h] at this;exact this.sc_inv
theorem ptr_ev {x:Operand}{r off:Nat}(ht:LR ρ ts A.tmps.toList)(h:ev ts x=.ptr r off):∃ l,ρ r=some l∧A.eval x=.pointer (some ⟨l.b,l.o+off,none⟩):=by
 have:=VR.eval ht x;rw[h] at this;exact this.ptr_inv
theorem agg_ev {x:Operand}{cs:List AV}(ht:LR ρ ts A.tmps.toList)(h:ev ts x=.agg cs):∃ vs:Array Value,A.eval x=.agg vs∧LR ρ cs vs.toList:=by
 have:=VR.eval ht x;rw[h] at this;exact this.agg_inv
theorem tup_ev {x:Operand}{cs:List AV}(ht:LR ρ ts A.tmps.toList)(h:ev ts x=.tup cs):∃ vs:Array Value,A.eval x=.tuple vs∧LR ρ cs vs.toList:=by
 have:=VR.eval ht x;rw[h] at this;exact this.tup_inv
theorem sl_ev {x:Operand}{r off len sz:Nat}(ht:LR ρ ts A.tmps.toList)(h:ev ts x=.sl r off len sz):∃ l,ρ r=some l∧((∃ cap,len≤cap∧l.o+off+cap*sz≤l.n∧A.eval x=.slice (some ⟨l.b,l.o+off,none⟩) len cap)∨(len=0∧∃ z,A.eval x=.slice (some ⟨l.b,z,none⟩) 0 0)):=by
 have h2:=VR.eval ht x
 rw[h] at h2
 generalize A.eval x=u at h2
 cases h2
 case sl h1 h3 h4=>exact⟨_,h1,.inl ⟨_,h3,h4,rfl⟩⟩
 case sl0 h1=>exact⟨_,h1,.inr ⟨rfl,_,rfl⟩⟩
theorem y_move {o:Oper}{x:Operand}{v:AV}(ho:o.op=.move x∨o.op=.assign x)(ht:LR ρ ts A.tmps.toList)(h:ev ts x=v):Yv P ρ A o v:=by
 intro w
 subst h
 refine⟨A.eval x,?_,.eval ht x⟩
 unfold execOp
 rcases ho with ho | ho<;>rw[ho]<;>rfl
theorem y_pick {o:Oper}{c a b:Operand}{v:AV}(ho:o.op=.pick c a b)(ht:LR ρ ts A.tmps.toList)(h:yJ P ts o.op=some v):Yv P ρ A o v:=by
 intro w
 rw[ho] at h
 simp only[yJ] at h
 split at h
 ·rename_i t hc
  have e:=wT ht hc
  injection h with h
  unfold execOp
  rw[ho]
  simp only[e,asBool,pure_bind]
  refine⟨_,rfl,?_⟩
  subst h
  cases t<;>exact .eval ht _
 ·cases h
theorem y_nilCheck {o:Oper}{x:Operand}{v:AV}(ho:o.op=.nilCheck x)(ht:LR ρ ts A.tmps.toList)(h:yJ P ts o.op=some v):Yv P ρ A o v:=by
 intro w
 rw[ho] at h
 simp only[yJ] at h
 split at h
 ·rename_i r off hc
  obtain⟨l,hl,e⟩:=ptr_ev ht hc
  injection h with h
  subst h
  unfold execOp
  rw[ho]
  simp only[e]
  exact⟨_,rfl,.ptr hl⟩
 ·cases h
theorem run_eq1 (d:Nat){t:TypeId}{a b:AV}{x y:Value}(hx:VR ρ a x)(hy:VR ρ b y){r:Bool}(h:eq1 P t a b=some r)(w:World):(Op.equalIn (d+1) t x y).run P w=.ok r w:=by
 unfold eq1 at h
 split at h
 ·rename_i ht
  split at h
  ·rename_i hk
   subst hk
   cases hx;cases hy
   injection h with h;subst h
   exact run_equalIn_int w d t _ _ _ _ ht
  ·cases h
 ·rename_i ht
  cases hx;cases hy
  injection h with h;subst h
  exact run_equalIn_bool' w d t _ _ ht
 ·rename_i ht
  cases hx;cases hy
  injection h with h;subst h
  exact run_equalIn_string w d t _ _ ht
 ·cases h
theorem run_eqF (d:Nat){cs ds:List AV}{vs us:Array Value}(hx:LR ρ cs vs.toList)(hy:LR ρ ds us.toList):∀ (fs:List Field)(w:World)(r:Bool),eqF P cs ds fs=some r→(Op.eqFields (d+1) vs us fs).run P w=.ok r w
 | [],w,r,h=>by
  simp only[eqF,Option.some.injEq] at h
  subst h
  rfl
 | f :: fs,w,r,h=>by
  unfold eqF at h
  split at h
  ·rename_i hc
   split at h
   ·rename_i a b ha hb
    obtain⟨x,x1,x2⟩:=run_part hc.2 hx ha w
    obtain⟨y,y1,y2⟩:=run_part hc.2 hy hb w
    unfold Op.eqFields
    rw[if_pos hc.1]
    simp only[Sem.run_bind,x1,y1,Result.andThen_ok]
    split at h
    ·rename_i e
     rw[run_eq1 d x2 y2 e w]
     simp only[Result.andThen_ok,Bool.not_true,Bool.false_eq_true,if_false]
     exact run_eqF d hx hy fs w r h
    ·rename_i e
     injection h with h;subst h
     rw[run_eq1 d x2 y2 e w]
     simp only[Result.andThen_ok,Bool.not_false,if_true,Sem.run_pure]
    ·cases h
   ·cases h
  ·cases h
theorem y_bin {o:Oper}{op:BinOp}{t u:TypeId}{x y:Operand}{v:AV}(ho:o.op=.binOp op t x y u)(ht:LR ρ ts A.tmps.toList)(h:yJ P ts o.op=some v):Yv P ρ A o v:=by
 intro w
 rw[ho] at h
 simp only[yJ] at h
 unfold execOp
 rw[ho]
 simp only
 cases he:kL op (ev ts x) (ev ts y) with
 | some z =>
  rw[he] at h
  simp only[Option.some.injEq] at h
  subst h
  refine⟨z,?_,.sc _⟩
  unfold kL at he
  split at he
  ·rename_i k a k' b hx hy
   rw[wT ht hx,wT ht hy,eqGuard_at_int]
   split at he
   ·have:=run_shiftBin (P:=P) w t (yk:=k') he
    simp[this]
   ·split at he
    ·rename_i hs hk
     subst hk
     have:=run_intBin (P:=P) w t (by simpa using hs) he
     simp[this]
    ·cases he
  ·rename_i a b hx hy
   rw[wT ht hx,wT ht hy,eqGuard_at_string]
   have:=run_strBin (P:=P) w t he
   simp[this]
  ·cases he
 | none =>
  rw[he] at h
  simp only[Option.map_eq_some_iff] at h
  obtain⟨z,hz,rfl⟩:=h
  rcases run_boolBin w hz with ⟨a,b,hx,hy,hr⟩ | ⟨fs,cs,ds,r,hu,hx,hy,hs,hg,hr,hv⟩
  ·rw[wT ht hx,wT ht hy,eqGuard_at_bool]
   exact⟨z,by simp[hr],.sc _⟩
  ·obtain⟨vs,ex,rx⟩:=agg_ev ht hx
   obtain⟨us,ey,ry⟩:=agg_ev ht hy
   have hf:P.fieldsOf t=fs:=by simp[Program.fieldsOf,hu]
   have hq:(Op.equalIn 10000 t (.agg vs) (.agg us)).run P w=.ok r w:=by
    have h1:=run_equalIn_struct (P:=P) w 9999 t vs us (by rw[hf];exact hu) hs
    rw[hf,run_eqF 9998 rx ry fs.toList w r hr] at h1
    exact h1
   rw[ex,ey]
   refine⟨z,?_,.sc _⟩
   rcases hv with ⟨rfl,rfl⟩ | ⟨rfl,rfl⟩
   ·simp[run_eqGuard_agg,hg,run_eql_struct,hq]
   ·simp[run_eqGuard_agg,hg,run_neq_struct,hq]
theorem y_un {o:Oper}{op:UnOp}{t:TypeId}{x:Operand}{v:AV}(ho:o.op=.unOp op t x)(ht:LR ρ ts A.tmps.toList)(h:yJ P ts o.op=some v):Yv P ρ A o v:=by
 intro w
 rw[ho] at h
 simp only[yJ,Option.map_eq_some_iff] at h
 obtain⟨z,hz,rfl⟩:=h
 unfold execOp
 rw[ho]
 simp only
 unfold evUn at hz
 split at hz
 ·rename_i k n hx
  injection hz with hz
  subst hz
  rw[wT ht hx]
  exact⟨_,by simp[Op.unary,Op.intArith],.sc _⟩
 ·rename_i b hx
  injection hz with hz
  subst hz
  rw[wT ht hx]
  exact⟨_,by simp[Op.unary],.sc _⟩
 ·cases hz
theorem y_conv {o:Oper}{s d:TypeId}{x:Operand}{v:AV}(ho:o.op=.convert s d x)(ht:LR ρ ts A.tmps.toList)(h:yJ P ts o.op=some v):Yv P ρ A o v:=by
 intro w
 rw[ho] at h
 simp only[yJ,Option.map_eq_some_iff] at h
 obtain⟨z,hz,rfl⟩:=h
 unfold execOp
 rw[ho]
 simp only
 unfold evConv at hz
 split at hz
 ·rename_i u k k' n hu hd hx
  injection hz with hz
  subst hz
  rw[wT ht hx]
  exact⟨_,by simp[convert,run_underlying hu,run_underlying hd,Conv.intToInt],.sc _⟩
 ·rename_i u z hu hd hx
  injection hz with hz
  subst hz
  rw[wT ht hx]
  exact⟨_,by simp[convert,run_underlying hu,run_underlying hd],.sc _⟩
 ·cases hz
theorem y_slice {o:Oper}{t:TypeId}{x:Operand}{lo hi:Option Operand}{v:AV}(ho:o.op=.slice t x lo hi none)(ht:LR ρ ts A.tmps.toList)(h:yJ P ts o.op=some v):Yv P ρ A o v:=by
 intro w
 rw[ho] at h
 simp only[yJ] at h
 unfold execOp
 rw[ho]
 simp only
 split at h
 ·rename_i z hu hx
  split at h
  ·rename_i l hh hl hhi
   split at h
   ·rename_i hc
    injection h with h;subst h
    rw[wT ht hx]
    have:=run_bounds (P:=P) (isSlice:=false) ht hl hhi hc.1 hc.2 w
    refine⟨.string (z.extract l hh),?_,.sc _⟩
    simp[Instr.sliceAt,Instr.slice,run_underlying hu,this]
   ·cases h
  ·cases h
 ·rename_i e r off len sz hu hx
  split at h
  ·rename_i l hh hl hhi
   split at h
   ·rename_i hc
    obtain⟨h1,h2,h3,h4⟩:=hc
    injection h with h;subst h
    obtain⟨lc,hρ,hcase⟩:=sl_ev ht hx
    rcases hcase with ⟨cap,hle,hfit,e1⟩ | ⟨hlen,z,e1⟩
    ·rw[e1]
     have:=run_bounds (P:=P) (isSlice:=true) (cap:=cap) ht hl hhi h1 (by omega) w
     have hrun:(Instr.sliceAt t (.slice (some ⟨lc.b,lc.o+off,none⟩) len cap) (lo.map A.eval) (hi.map A.eval) none).run P w=.ok (.slice (if cap=l then some ⟨lc.b,lc.o+off,none⟩ else some ⟨lc.b,lc.o+off+l*sz,none⟩) (hh - l) (cap - l)) w:=by
      simp[Instr.sliceAt,Instr.slice,run_underlying hu,this,xQ h4,h3,Addr.add_lit]
     refine⟨.slice (if cap=l then some ⟨lc.b,lc.o+off,none⟩ else some ⟨lc.b,lc.o+off+l*sz,none⟩) (hh - l) (cap - l),by simp only[Option.map_none];simp[hrun],?_⟩
     by_cases hcl:cap=l
     ·rw[if_pos hcl]
      rw[show hh - l=0 by omega,show cap - l=0 by omega]
      exact .sl0 hρ
     ·rw[if_neg hcl]
      have hm:l*sz+(cap - l)*sz=cap*sz:=by rw[←Nat.add_mul];congr 1;omega
      have:=VR.sl (ρ:=ρ) (r:=r) (off:=off+l*sz) (len:=hh - l) (sz:=sz) (cap:=cap - l) hρ (by omega) (by omega)
      rwa [Nat.add_assoc]
    ·subst hlen
     have hh0:hh=0:=by omega
     have hl0:l=0:=by omega
     subst hh0;subst hl0
     rw[e1]
     have:=run_bounds (P:=P) (isSlice:=true) (cap:=0) ht hl hhi h1 (by omega) w
     refine⟨.slice (some ⟨lc.b,z,none⟩) 0 0,?_,by simpa using VR.sl0 hρ⟩
     simp only[Option.map_none]
     simp[Instr.sliceAt,Instr.slice,run_underlying hu,this,xQ h4]
   ·cases h
  ·cases h
 ·rename_i e hu hx
  split at h
  ·rename_i hl hhi
   split at h
   ·rename_i h4
    injection h with h;subst h
    rw[wT ht hx]
    have:=run_bounds (P:=P) (isSlice:=true) (cap:=0) ht hl hhi (by omega) (by omega) w
    refine⟨.slice none 0 0,?_,.sc _⟩
    simp only[Option.map_none]
    simp[Instr.sliceAt,Instr.slice,run_underlying hu,this,xQ h4]
   ·cases h
  ·cases h
 ·cases h
theorem y_fieldAddr {o:Oper}{s:TypeId}{x:Operand}{f:Nat}{v:AV}(ho:o.op=.fieldAddr s x f)(ht:LR ρ ts A.tmps.toList)(h:yJ P ts o.op=some v):Yv P ρ A o v:=by
 intro w
 rw[ho] at h
 simp only[yJ] at h
 unfold execOp
 rw[ho]
 simp only
 split at h
 ·rename_i fs r off hu hx
  split at h
  ·rename_i fd hfd
   split at h
   ·rename_i hc
    injection h with h;subst h
    obtain⟨l,hl,e⟩:=ptr_ev ht hx
    refine⟨.pointer (some ⟨l.b,l.o+(off+fd.offset),none⟩),?_,.ptr hl⟩
    rw[e]
    simp[Instr.fieldAt,run_underlying hu,hfd,Instr.sureAddr,fieldPlace,xQ hc.2,hc.1,Addr.add_lit,Nat.add_assoc]
   ·cases h
  ·cases h
 ·cases h
theorem y_field {o:Oper}{s:TypeId}{x:Operand}{f:Nat}{v:AV}(ho:o.op=.field s x f)(ht:LR ρ ts A.tmps.toList)(h:yJ P ts o.op=some v):Yv P ρ A o v:=by
 intro w
 rw[ho] at h
 simp only[yJ] at h
 unfold execOp
 rw[ho]
 simp only
 split at h
 ·rename_i fs cs hu hx
  split at h
  ·rename_i fd hfd
   split at h
   ·rename_i hty
    obtain⟨vs,e,hr⟩:=agg_ev ht hx
    obtain⟨cv,h1,h2⟩:=run_part hty hr h w
    refine⟨cv,?_,h2⟩
    rw[e]
    simp[Instr.field,run_underlying hu,hfd,asAgg,h1]
   ·cases h
  ·cases h
 ·cases h
theorem y_indexAddr {o:Oper}{t:TypeId}{x i:Operand}{v:AV}(ho:o.op=.indexAddr t x i)(ht:LR ρ ts A.tmps.toList)(h:yJ P ts o.op=some v):Yv P ρ A o v:=by
 intro w
 rw[ho] at h
 simp only[yJ] at h
 unfold execOp
 rw[ho]
 simp only
 split at h
 ·rename_i e r off len sz k n hu hx hi
  split at h
  ·rename_i hc
   obtain⟨h0,h1,h2,h3⟩:=hc
   injection h with h;subst h
   obtain⟨l,hρ,hcase⟩:=sl_ev ht hx
   rcases hcase with ⟨cap,hle,hfit,e1⟩ | ⟨hlen,z,e1⟩
   ·refine⟨.pointer (some ⟨l.b,l.o+(off+n.toNat*sz),none⟩),?_,.ptr hρ⟩
    rw[e1,wT ht hi]
    simp[Instr.indexAt,run_underlying hu,asIntOf,h0,h1,xQ h3,h2,Addr.add_lit,Nat.add_assoc]
   ·subst hlen;omega
  ·cases h
 ·rename_i len e r off k n hu hx hi
  split at h
  ·rename_i hc
   obtain⟨h0,h1,h3⟩:=hc
   injection h with h;subst h
   obtain⟨l,hl,e1⟩:=ptr_ev ht hx
   refine⟨.pointer (some ⟨l.b,l.o+(off+n.toNat*P.cellsOf e),none⟩),?_,.ptr hl⟩
   rw[e1,wT ht hi]
   simp[Instr.indexAt,run_underlying hu,asIntOf,h0,h1,xQ h3,Addr.add_lit,Nat.add_assoc,Instr.sureAddr]
  ·cases h
 ·cases h
theorem y_index {o:Oper}{t:TypeId}{x i:Operand}{v:AV}(ho:o.op=.index t x i)(ht:LR ρ ts A.tmps.toList)(h:yJ P ts o.op=some v):Yv P ρ A o v:=by
 intro w
 rw[ho] at h
 simp only[yJ] at h
 unfold execOp
 rw[ho]
 simp only
 split at h
 ·rename_i z k n hu hx hi
  split at h
  ·rename_i hc
   injection h with h;subst h
   refine⟨_,?_,.sc _⟩
   rw[wT ht hx,wT ht hi]
   have h1:z[n.toNat]?=some (z[n.toNat]'hc.2):=by simp[hc.2]
   simp[Instr.index,run_underlying hu,asIntOf,hc.1,h1]
  ·cases h
 ·rename_i len e cs k n hu hx hi
  split at h
  ·rename_i hc
   obtain⟨h0,h1,h3⟩:=hc
   obtain⟨vs,e1,hr⟩:=agg_ev ht hx
   obtain⟨cv,h4,h5⟩:=run_part h3 hr h w
   refine⟨cv,?_,h5⟩
   rw[e1,wT ht hi]
   simp[Instr.index,run_underlying hu,asIntOf,h0,h1,xQ h3,h4]
  ·cases h
 ·cases h
theorem y_extract {o:Oper}{t:Operand}{i:Nat}{v:AV}(ho:o.op=.extract t i)(ht:LR ρ ts A.tmps.toList)(h:yJ P ts o.op=some v):Yv P ρ A o v:=by
 intro w
 rw[ho] at h
 simp only[yJ] at h
 unfold execOp
 rw[ho]
 simp only
 split at h
 ·rename_i vs hx
  obtain⟨us,e1,hr⟩:=tup_ev ht hx
  obtain⟨cv,h1,h2⟩:=hr.get h
  rw[Array.getElem?_toList] at h1
  refine⟨cv,?_,h2⟩
  rw[e1]
  simp[Instr.extract,h1]
 ·cases h
theorem parts_rel (ht:LR ρ ts A.tmps.toList)(parts:Array (Nat×Operand)) :
  (parts.toList.map fun p=>(p.1,ev ts p.2)).length=(parts.map fun x=>(x.1,A.eval x.2)).toList.length ∧
  ∀ (i:Nat)(p:Nat×AV)(q:Nat×Value),(parts.toList.map fun p=>(p.1,ev ts p.2))[i]?=some p→(parts.map fun x=>(x.1,A.eval x.2)).toList[i]?=some q→p.1=q.1∧LR ρ p.2.cells q.2.cells.toList:=by
 refine⟨by simp,fun i p q hp hq=>?_⟩
 rw[List.getElem?_map] at hp
 rw[Array.toList_map,List.getElem?_map] at hq
 cases hx:parts.toList[i]? with
 | none=>rw[hx] at hp;cases hp
 | some z =>
  rw[hx] at hp hq
  simp only[Option.map_some,Option.some.injEq] at hp hq
  subst hp;subst hq
  exact⟨rfl,(VR.eval ht z.2).cells⟩
theorem y_build {o:Oper}{t:TypeId}{parts:Array (Nat×Operand)}{v:AV}(ho:o.op=.build t parts)(ht:LR ρ ts A.tmps.toList)(h:yJ P ts o.op=some v):Yv P ρ A o v:=by
 intro w
 rw[ho] at h
 simp only[yJ] at h
 unfold execOp
 rw[ho]
 simp only
 obtain⟨hpl,hpr⟩:=parts_rel ht parts
 have hz:∀ z:List AV,xC P t=some z→∃ i zv,P.info? t=some i∧i.zero=some zv∧LR ρ z zv.cells.toList:=by
  intro z hz
  unfold xC at hz
  simp only[Option.map_eq_some_iff,Option.bind_eq_some_iff] at hz
  obtain⟨zv,⟨i,hi,hzv⟩,rfl⟩:=hz
  refine⟨i,zv,hi,hzv,?_⟩
  exact(VR.ofV zv).cells
 split at h
 ·rename_i fs z hu hzz
  obtain⟨i,zv,hi,hzv,hzr⟩:=hz z hzz
  split at h
  ·rename_i hall
   simp only[Option.map_eq_some_iff] at h
   obtain⟨cs',h1,rfl⟩:=h
   obtain⟨vs',h2,h3⟩:=run_fill _ _ _ zv.cells _ hpl hpr hzr h1
   have hplaces:∀ (l:List Field),l.all (fun f=>xE P f.type)=true→(l.mapM (fun f=>do pure (f.offset,←sizeOf f.type):Field→Sem (Nat×Nat))).run P w=.ok (l.map fun f=>(f.offset,P.cellsOf f.type)) w:=by
    intro l
    induction l with
    | nil=>intro _;rfl
    | cons f l ih =>
     intro hl
     rw[List.all_cons,Bool.and_eq_true] at hl
     rw[List.mapM_cons]
     simp only[Sem.run_bind,xQ hl.1,Result.andThen_ok,Sem.run_pure,ih hl.2,List.map_cons]
   have hpa:(fs.mapM (fun f=>do pure (f.offset,←sizeOf f.type):Field→Sem (Nat×Nat))).run P w=.ok (fs.map fun f=>(f.offset,P.cellsOf f.type)) w:=by
    rw[Array.mapM_eq_mapM_toList]
    have:=hplaces fs.toList (by rw[←Array.all_toList] at hall;exact hall)
    simp only[Sem.run_map,this,Result.andThen_ok]
    congr 1
    apply Array.ext'
    simp
   have hps:(fun i=>(fs.map fun f=>(f.offset,P.cellsOf f.type))[i]?)=yT P fs:=by
    funext i;simp[yT]
   refine⟨.agg vs',?_,.agg (by have:=h3.1;rwa [Array.length_toList] at this) h3.2⟩
   simp only[Instr.build,zeroValue,typeInfo,hi,hzv,run_underlying hu,Sem.run_bind,run_program,Result.andThen_ok,Sem.run_pure,hpa,hps,h2]
  ·cases h
 ·rename_i n e z hu hzz
  obtain⟨i,zv,hi,hzv,hzr⟩:=hz z hzz
  split at h
  ·rename_i hty
   simp only[Option.map_eq_some_iff] at h
   obtain⟨cs',h1,rfl⟩:=h
   obtain⟨vs',h2,h3⟩:=run_fill _ _ _ zv.cells _ hpl hpr hzr h1
   refine⟨.agg vs',?_,.agg (by have:=h3.1;rwa [Array.length_toList] at this) h3.2⟩
   simp only[Instr.build,zeroValue,typeInfo,hi,hzv,run_underlying hu,Sem.run_bind,run_program,Result.andThen_ok,Sem.run_pure,xQ hty,h2]
  ·cases h
 ·cases h
theorem y_makeInterface {o:Oper}{t:TypeId}{x:Operand}{v:AV}(ho:o.op=.makeInterface t x)(ht:LR ρ ts A.tmps.toList)(h:yJ P ts o.op=some v):Yv P ρ A o v:=by
 intro w
 rw[ho] at h
 simp only[yJ] at h
 unfold execOp
 rw[ho]
 simp only
 split at h
 ·rename_i k u hu hx
  injection h with h;subst h
  refine⟨_,?_,.sc _⟩
  rw[wT ht hx]
  simp[Instr.makeInterface,run_underlying hu]
 ·cases h
theorem y_call {o:Oper}{c:Call}{v:AV}(ho:o.op=.call c)(ht:LR ρ ts A.tmps.toList)(h:yJ P ts o.op=some v):Yv P ρ A o v:=by
 intro w
 rw[ho] at h
 simp only[yJ] at h
 unfold execOp
 rw[ho]
 simp only
 obtain⟨cal,⟨al⟩,⟨tl⟩⟩:=c
 simp only at h
 split at h
 ·rename_i x t
  have hred:∀ (u:Value),((Builtin.len_ #[t] o.type #[A.eval x]).run P w=.ok u w)→(do let d ←resolve A.eval ⟨.builtin .len,[x].toArray,[t].toArray⟩ o.type;invoke d.target d.args:Sem Next).run P w=.ok (.value u) w:=by
   intro u hu
   simp[resolve,invoke,builtin,hu]
  split at h
  ·rename_i z hu hx
   injection h with h;subst h
   refine⟨_,hred _ ?_,.sc _⟩
   rw[wT ht hx]
   simp[Builtin.len_,run_underlying hu,goInt]
  ·rename_i n e hu
   injection h with h;subst h
   refine⟨_,hred _ ?_,.sc _⟩
   simp[Builtin.len_,run_underlying hu,goInt]
  ·rename_i e r off len sz hu hx
   injection h with h;subst h
   refine⟨_,hred _ ?_,.sc _⟩
   obtain⟨l,hρ,hcase⟩:=sl_ev ht hx
   rcases hcase with ⟨cap,hle,hfit,e1⟩ | ⟨hlen,z,e1⟩
   ·rw[e1];simp[Builtin.len_,run_underlying hu,goInt]
   ·subst hlen;rw[e1];simp[Builtin.len_,run_underlying hu,goInt]
  ·rename_i e hu hx
   injection h with h;subst h
   refine⟨_,hred _ ?_,.sc _⟩
   rw[wT ht hx]
   simp[Builtin.len_,run_underlying hu,goInt]
  ·cases h
 ·simp only[Option.map_eq_some_iff] at h
  obtain⟨z,hz,rfl⟩:=h
  unfold minI at hz
  split at hz
  ·rename_i k a k' b hl
   injection hz with hz;subst hz
   have hlen:=congrArg List.length hl
   simp only[List.length_map,List.length_cons,List.length_nil] at hlen
   match al,hlen,hl with
   | [x,y],_,hl =>
    simp only[List.map_cons,List.map_nil,List.cons.injEq,and_true] at hl
    refine⟨_,?_,.sc _⟩
    simp[resolve,invoke,builtin,wT ht hl.1,wT ht hl.2,run_min_int2]
  ·cases hz
 ·simp only[Option.map_eq_some_iff] at h
  obtain⟨z,hz,rfl⟩:=h
  unfold maxI at hz
  split at hz
  ·rename_i k a k' b hl
   injection hz with hz;subst hz
   have hlen:=congrArg List.length hl
   simp only[List.length_map,List.length_cons,List.length_nil] at hlen
   match al,hlen,hl with
   | [x,y],_,hl =>
    simp only[List.map_cons,List.map_nil,List.cons.injEq,and_true] at hl
    refine⟨_,?_,.sc _⟩
    simp[resolve,invoke,builtin,wT ht hl.1,wT ht hl.2,run_max_int2]
  ·cases hz
 ·cases h
theorem evPure_sound {o:Oper}{v:AV}(ht:LR ρ ts A.tmps.toList)(h:yJ P ts o.op=some v):Yv P ρ A o v:=by
 cases hop:o.op
 case move x=>rw[hop] at h;simp only[yJ,Option.some.injEq] at h;exact y_move (.inl hop) ht h
 case assign x=>rw[hop] at h;simp only[yJ,Option.some.injEq] at h;exact y_move (.inr hop) ht h
 case pick=>exact y_pick hop ht h
 case nilCheck=>exact y_nilCheck hop ht h
 case binOp=>exact y_bin hop ht h
 case unOp=>exact y_un hop ht h
 case convert=>exact y_conv hop ht h
 case slice t x lo hi mx =>
  cases mx with
  | none=>exact y_slice hop ht h
  | some m=>rw[hop] at h;simp[yJ] at h
 case fieldAddr=>exact y_fieldAddr hop ht h
 case field=>exact y_field hop ht h
 case indexAddr=>exact y_indexAddr hop ht h
 case index=>exact y_index hop ht h
 case extract=>exact y_extract hop ht h
 case build=>exact y_build hop ht h
 case makeInterface=>exact y_makeInterface hop ht h
 case call=>exact y_call hop ht h
 all_goals (rw[hop] at h;simp[yJ] at h)
end
def hf (H:qE):Nat→Option Reg:=fun r=>H[r]?
def RegOk (ρ:Ren)(base:Nat)(w:World)(l:Loc)(g:Reg):Prop:=
 ∃ c e fz,w.heap[l.b]?=some (.cells c e fz)∧c.size=l.n∧l.o+g.cs.length≤l.n∧LR ρ g.cs ((c.toList.drop l.o).take g.cs.length) ∧
  (g.own=true→l.o=0∧base≤l.b∧∀ i,i<l.n→¬(fz.1≤i∧i<fz.2))∧(g.own=false→l.b<base)
def tabs:List (Nat×Array Value):=[(0,(([1,10,100,1000,10000,100000,1000000,10000000,100000000,1000000000,10000000000,100000000000,1000000000000,10000000000000,100000000000000,1000000000000000,10000000000000000,100000000000000000,1000000000000000000,10000000000000000000]:List Int).map fun z=>Value.int .u64 z).toArray)]
def Gl (base:Nat)(w:World):Prop:=∀ p,p∈tabs→p.1<base∧∃ e fz,w.heap[p.1]?=some (.cells p.2 e fz)
theorem Gl.keep {base:Nat}{w w':World}(h:Gl base w)(k:∀ b,b<base→w'.heap[b]?=w.heap[b]?):Gl base w':=fun p hp=>by
 obtain⟨h1,e,fz,h2⟩:=h p hp
 exact⟨h1,e,fz,(k _ h1).trans h2⟩
theorem Gl.up {base n:Nat}{w:World}(h:Gl base w)(k:base≤n):Gl n w:=fun p hp=>⟨Nat.lt_of_lt_of_le (h p hp).1 k,(h p hp).2⟩
theorem Gl.none (h:tabs=[]){n:Nat}{w:World}:Gl n w:=fun p hp=>by rw[h] at hp;cases hp
structure Rel (M:Nat) (ρ:Ren) (base:Nat) (h:Nat→Option Reg) (w:World):Prop where
 bs:base≤w.heap.size∧Gl base w
 lt:∀ r l,ρ r=some l→l.b<w.heap.size
 dom:∀ r l,ρ r=some l→(∃ g,h r=some g)∨M≤r
 top:∀ r g,h r=some g→r<M
 reg:∀ r g l,h r=some g→g.live=true→ρ r=some l→RegOk ρ base w l g
 inj:∀ r1 r2 g1 g2 l1 l2,h r1=some g1→h r2=some g2→g1.live=true→g2.live=true→g1.own=true→g2.own=true→ρ r1=some l1→ρ r2=some l2→l1.b=l2.b→r1=r2
def Lin (ρ:Ren)(h:Nat→Option Reg)(w:World)(l:Loc)(s:Nat)(cs:List AV):Prop:=
 ρ s=some l∨((∀ c gc lc,h c=some gc→gc.live=true→gc.own=true→ρ c=some lc→lc.b≠l.b)∧l.b<w.heap.size∧∃ c e fz,w.heap[l.b]?=some (.cells c e fz)∧c.size=l.n∧l.o+cs.length≤l.n∧LR ρ cs ((c.toList.drop l.o).take cs.length))
structure Grow (M N:Nat) (ρ:Ren) (h:Nat→Option Reg) (w:World) (ρ':Ren) (h':Nat→Option Reg) (w':World):Prop where
 os:w'.os=w.os
 tape:w'.tape=w.tape
 output:w'.output=w.output
 size:w.heap.size≤w'.heap.size
 frame:∀ b,b<w.heap.size→(∀ r g l,h r=some g→g.live=true→g.own=true→ρ r=some l→l.b≠b)→w'.heap[b]?=w.heap[b]?
 ext:∀ r l,ρ r=some l→ρ' r=some l
 unt:∀ r g,r<N→h r=some g→ρ r=none→ρ' r=none∧h' r=h r
 prov:∀ r l,ρ' r=some l→ρ r=none→w.heap.size≤l.b∨∃ r0 g0 l0,h r0=some g0∧g0.live=true∧g0.own=true∧ρ r0=some l0∧l0.b=l.b
 back:∀ r g g',h r=some g→h' r=some g'→g'.live=true→g.live=true∧g'.own=g.own
 per:∀ r g,h r=some g→∃ g',h' r=some g'
 res:∀ r,M≤r→ρ' r=ρ r
 ded:∀ r g,h r=some g→g.live=false→h' r=some g∧ρ' r=ρ r
 die:∀ r g' l s cs,h' r=some g'→g'.live=false→g'.own=true→(∀ g,h r=some g→g.live=true)→ρ' r=some l→g'.cs=.ptr s 0 :: cs→Lin ρ' h' w' l s cs
theorem Grow.refl (M N:Nat)(ρ:Ren)(h:Nat→Option Reg)(w:World):Grow M N ρ h w ρ h w:=
 ⟨rfl,rfl,rfl,Nat.le_refl _,fun _ _ _=>rfl,fun _ _ h=>h,fun _ _ _ _ k=>⟨k,rfl⟩,fun _ _ a b=>(by rw[a] at b;cases b),fun _ _ _ a b c=>(by rw[a] at b;injection b with b;subst b;exact⟨c,rfl⟩),fun _ g k=>⟨g,k⟩,fun _ _=>rfl,fun _ _ a _=>⟨a,rfl⟩,fun r g' _ _ _ a b _ n _ _=>(by have:=n g' a;rw[b] at this;cases this)⟩
theorem Grow.alive {ρ':Ren}{h h':Nat→Option Reg}{w':World}(hh:∀ r g',h' r=some g'→g'.live=false→h r=some g'):∀ r g' l s cs,h' r=some g'→g'.live=false→g'.own=true→(∀ g,h r=some g→g.live=true)→ρ' r=some l→g'.cs=.ptr s 0 :: cs→Lin ρ' h' w' l s cs:=fun r g' _ _ _ a b _ n _ _=>by
 have:=n g' (hh r g' a b)
 rw[b] at this
 cases this
theorem Grow.less {M M' N N':Nat}{ρ ρ':Ren}{h h':Nat→Option Reg}{w w':World}(a:Grow M N ρ h w ρ' h' w')(hM:M≤M')(hN:N'≤N):Grow M' N' ρ h w ρ' h' w':=
 ⟨a.os,a.tape,a.output,a.size,a.frame,a.ext,fun r g k=>a.unt r g (Nat.lt_of_lt_of_le k hN),a.prov,a.back,a.per,fun r k=>a.res r (Nat.le_trans hM k),a.ded,a.die⟩
theorem Grow.trans {M N base:Nat}{ρ1 ρ2 ρ3:Ren}{h1 h2 h3:Nat→Option Reg}{w1 w2 w3:World}(R1:Rel M ρ1 base h1 w1)(top2:∀ r g,h2 r=some g→r<M)(dom2:∀ r l,ρ2 r=some l→(∃ g,h2 r=some g)∨M≤r)(top3:∀ r g,h3 r=some g→r<M)(a:Grow M N ρ1 h1 w1 ρ2 h2 w2)(b:Grow M N ρ2 h2 w2 ρ3 h3 w3):Grow M N ρ1 h1 w1 ρ3 h3 w3:=by
 have up:∀ r g l,h2 r=some g→g.live=true→g.own=true→ρ2 r=some l→w1.heap.size≤l.b∨∃ r0 g0 l0,h1 r0=some g0∧g0.live=true∧g0.own=true∧ρ1 r0=some l0∧l0.b=l.b:=by
  intro r g l hg hl ho hρ
  cases h0:ρ1 r with
  | none=>exact a.prov r l hρ h0
  | some l1 =>
   have e:=a.ext r l1 h0
   rw[hρ] at e
   injection e with e
   subst e
   rcases R1.dom r _ h0 with ⟨g1,hg1⟩ | hM
   ·obtain⟨k1,k2⟩:=a.back r g1 g hg1 hg hl
    exact .inr ⟨r,g1,_,hg1,k1,by rw[←k2];exact ho,h0,rfl⟩
   ·have:=top2 r g hg
    omega
 refine⟨b.os.trans a.os,b.tape.trans a.tape,b.output.trans a.output,Nat.le_trans a.size b.size,?_,fun r l h=>b.ext _ _ (a.ext _ _ h),?_,?_,?_,?_,fun r k=>(b.res r k).trans (a.res r k),fun r g x y=>⟨(b.ded r g (a.ded r g x y).1 y).1,(b.ded r g (a.ded r g x y).1 y).2.trans (a.ded r g x y).2⟩,?_⟩
 ·intro k hk hn
  rw[b.frame k (Nat.lt_of_lt_of_le hk a.size) ?_,a.frame k hk hn]
  intro r g l hg hl ho hρ e
  subst e
  rcases up r g l hg hl ho hρ with h | ⟨r0,g0,l0,q1,q2,q3,q4,q5⟩
  ·omega
  ·exact hn r0 g0 l0 q1 q2 q3 q4 q5
 ·intro r g hr hg hn
  obtain⟨k1,k2⟩:=a.unt r g hr hg hn
  obtain⟨k3,k4⟩:=b.unt r g hr (k2.trans hg) k1
  exact⟨k3,k4.trans k2⟩
 ·intro r l h3 h1
  cases h2:ρ2 r with
  | none =>
   rcases b.prov r l h3 h2 with h | ⟨r0,g0,l0,q1,q2,q3,q4,q5⟩
   ·exact .inl (Nat.le_trans a.size h)
   ·rw[←q5]
    exact up r0 g0 l0 q1 q2 q3 q4
  | some l2 =>
   have e:=b.ext r l2 h2
   rw[h3] at e
   injection e with e
   subst e
   exact a.prov r _ h2 h1
 ·intro r g g' h1 h3 hl
  obtain⟨g2,h2⟩:=a.per r g h1
  obtain⟨k1,k2⟩:=b.back r g2 g' h2 h3 hl
  obtain⟨k3,k4⟩:=a.back r g g2 h1 h2 k1
  exact⟨k3,k2.trans k4⟩
 ·intro r g hg
  obtain⟨g2,h2⟩:=a.per r g hg
  exact b.per r g2 h2
 ·intro r g' l s cs h3r hd ho hn hρ he
  cases h2r:h2 r with
  | none=>exact b.die r g' l s cs h3r hd ho (fun g k=>by rw[h2r] at k;cases k) hρ he
  | some g2 =>
   cases hl2:g2.live with
   | true=>exact b.die r g' l s cs h3r hd ho (fun g k=>by rw[h2r] at k;cases k;exact hl2) hρ he
   | false =>
    obtain⟨k1,k2⟩:=b.ded r g2 h2r hl2
    rw[h3r] at k1
    cases k1
    rcases a.die r g' l s cs h2r hd ho hn (k2.symm.trans hρ) he with q1 | ⟨q1,q2,c,e,fz,q3,q5,q6,q4⟩
    ·exact .inl (b.ext s l q1)
    ·right
     refine⟨?_,Nat.lt_of_lt_of_le q2 b.size,c,e,fz,?_,q5,q6,q4.mono b.ext⟩
     ·intro c gc lc hc hlv how hρc eb
      cases hρ2:ρ2 c with
      | none =>
       rcases b.prov c lc hρc hρ2 with k | ⟨r0,g0,l0,p1,p2,p3,p4,p5⟩
       ·omega
       ·exact q1 r0 g0 l0 p1 p2 p3 p4 (p5.trans eb)
      | some lc2 =>
       have:=b.ext c lc2 hρ2
       rw[hρc] at this
       cases this
       rcases dom2 c _ hρ2 with ⟨g0,hg0⟩ | hM
       ·obtain⟨z1,z2⟩:=b.back c g0 gc hg0 hc hlv
        exact q1 c g0 _ hg0 z1 (z2▸how) hρ2 eb
       ·have:=top3 c gc hc
        omega
     ·rw[b.frame l.b q2 fun r0 g0 l0 p1 p2 p3 p4=>q1 r0 g0 l0 p1 p2 p3 p4]
      exact q3
theorem RegOk.mono {ρ ρ':Ren}{base:Nat}{w w':World}{l:Loc}{g:Reg}(hx:∀ r l,ρ r=some l→ρ' r=some l)(hb:w'.heap[l.b]?=w.heap[l.b]?)(k:RegOk ρ base w l g):RegOk ρ' base w' l g:=by
 obtain⟨c,e,fz,h1,h2,h3,h4,h5⟩:=k
 exact⟨c,e,fz,hb.trans h1,h2,h3,h4.mono hx,h5⟩
section
variable {P : Program} {ρ : Ren} {ts : List AV} {A : Act} {w : World} {base : Nat} {h : Nat → Option Reg}
theorem cell_at {l:Loc}{c:Array Value}{e:TypeId}{fz:Nat×Nat}(hb:w.heap[l.b]?=some (.cells c e fz))(i:Nat):w.cell? ⟨l.b,i,none⟩=c[i]?:=by
 simp[World.cell?,hb]
theorem load_run {l:Loc}{g:Reg}(hr:RegOk ρ base w l g){off n:Nat}(hn:off+n≤g.cs.length):∃ us:List Value,us.length=n∧LR ρ ((g.cs.drop off).take n) us∧(∀ j v,us[j]?=some v→w.cell? ⟨l.b,l.o+off+j,none⟩=some v):=by
 obtain⟨c,e,fz,h1,h2,h3,h4,_⟩:=hr
 have h5:=(h4.drop off).take n
 refine⟨_,?_,h5,?_⟩
 ·rw[←h5.1,List.length_take,List.length_drop];omega
 ·intro j v hj
  rw[cell_at h1]
  rw[List.getElem?_take] at hj
  split at hj
  ·rw[List.getElem?_drop,List.getElem?_take] at hj
   split at hj
   ·rw[List.getElem?_drop,Array.getElem?_toList] at hj
    rw[←hj]
    congr 1
    omega
   ·cases hj
  ·cases hj
theorem kP {l:Loc}{g:Reg}(hr:RegOk ρ base w l g){off n:Nat}(hn:off+n≤g.cs.length):∃ us:Array Value,(loadCells ⟨l.b,l.o+off,none⟩ n).run P w=.ok us w∧LR ρ ((g.cs.drop off).take n) us.toList:=by
 obtain⟨us,h1,h2,h3⟩:=load_run hr hn
 refine⟨us.toArray,?_,by simpa using h2⟩
 have:=run_loadCells_list (P:=P) w ⟨l.b,l.o+off,none⟩ us (fun j v hj=>by rw[Addr.add_lit];exact h3 j v hj)
 rw[h1] at this
 exact this
theorem load1_run {l:Loc}{g:Reg}(hr:RegOk ρ base w l g){off:Nat}(hn:off+1≤g.cs.length):∃ u a,g.cs[off]?=some a∧(load ⟨l.b,l.o+off,none⟩).run P w=.ok u w∧VR ρ a u:=by
 obtain⟨us,h1,h2,h3⟩:=load_run hr hn
 match us,h1 with
 | [u],_ =>
  have ha:g.cs[off]?=some (g.cs[off]'(by omega)):=List.getElem?_eq_getElem _
  refine⟨u,_,ha,?_,?_⟩
  ·have:=h3 0 u rfl
   rw[Nat.add_zero] at this
   simp[run_load,this]
  ·refine h2.2 0 _ u ?_ rfl
   rw[List.getElem?_take,if_pos (by omega),List.getElem?_drop,Nat.add_zero]
   exact ha
theorem uP {H:qE}{r off n:Nat}{cs:List AV}(hc:wR H r off n=some cs):∃ g,H[r]?=some g∧g.live=true∧off+n≤g.cs.length∧cs=(g.cs.drop off).take n:=by
 unfold wR at hc
 split at hc
 ·rename_i g hg
  split at hc
  ·rename_i hh
   injection hc with hc
   exact⟨g,hg,hh.1,hh.2,hc.symm⟩
  ·cases hc
 ·cases hc
theorem bytesA_run:∀ {cs:List AV}{us:List Value}{l:List Int},LR ρ cs us→vN cs=some l→us=l.map (Value.int .u8)
 | [],us,l,hr,hb=>by
  simp only[vN,Option.some.injEq] at hb
  subst hb
  have:=hr.1
  exact List.eq_nil_of_length_eq_zero this.symm
 | a :: cs,us,l,hr,hb=>by
  match us,hr with
  | [],hr=>exact absurd hr.1 (by simp)
  | u :: us,hr =>
   simp only[vN] at hb
   split at hb
   ·rename_i n ns h1 h2
    injection hb with hb
    subst hb
    have hu:=hr.2 0 a u rfl rfl
    have hs:LR ρ cs us:=⟨by have:=hr.1;simpa using this,fun i b v hb hv=>hr.2 (i+1) b v (by simpa using hb) (by simpa using hv)⟩
    rw[List.map_cons,←bytesA_run hs h2]
    congr 1
    unfold byteOf at h1
    split at h1
    ·injection h1 with h1;subst h1;exact hu.sc_inv
    ·cases h1
   ·cases hb
theorem isU8_run {e:TypeId}(he:isU8 P e=true):P.underlying e=some (.int .u8):=by
 unfold isU8 at he
 split at he
 ·assumption
 ·cases he
theorem evRead_sound {o:Oper}{v:AV}{H:qE}{M:Nat}(hR:Rel M ρ base h w)(hH:∀ r l g,ρ r=some l→H[r]?=some g→h r=some g)(ht:LR ρ ts A.tmps.toList)(hv:xH P ts o.op H=some v):∃ cv,(execOp A.eval o).run P w=.ok (.value cv) w∧VR ρ v cv:=by
 cases hop:o.op
 case load t x =>
  rw[hop] at hv
  simp only[xH] at hv
  unfold execOp
  rw[hop]
  simp only
  split at hv
  ·rename_i r off hx
   obtain⟨l,hl,e⟩:=ptr_ev ht hx
   split at hv
   ·rename_i hty
    rw[e]
    by_cases hb:kB P t=true
    ·rw[if_pos hb] at hv
     simp only[Option.map_eq_some_iff] at hv
     obtain⟨cs,hc,rfl⟩:=hv
     obtain⟨g,hg,hlive,hn,rfl⟩:=uP hc
     obtain⟨us,h1,h2⟩:=kP (P:=P) (hR.reg r g l (hH r l g hl hg) hlive hl) hn
     refine⟨.agg us,?_,.agg (by have:=h2.1;rwa [Array.length_toList] at this) h2.2⟩
     simp[Instr.loadAt,Instr.sureAddr,loadVar,vS hty,hb,xQ hty,h1]
    ·rw[if_neg hb] at hv
     split at hv
     ·rename_i v' hc
      injection hv with hv
      subst hv
      obtain⟨g,hg,hlive,hn,he⟩:=uP hc
      obtain⟨u,a,ha,h1,h2⟩:=load1_run (P:=P) (hR.reg r g l (hH r l g hl hg) hlive hl) hn
      have:v'=a:=by
       have h3:[v'][0]?=((g.cs.drop off).take 1)[0]?:=by rw[he]
       rw[List.getElem?_take,if_pos (by omega),List.getElem?_drop,Nat.add_zero,ha] at h3
       simpa using h3
      subst this
      refine⟨u,?_,h2⟩
      simp only[Instr.loadAt,Instr.sureAddr,loadVar,Sem.run_bind,Sem.run_pure,Result.andThen_ok,vS hty,if_neg hb,h1]
     ·cases hv
   ·cases hv
  ·cases hv
 case convert s d x =>
  rw[hop] at hv
  simp only[xH] at hv
  unfold execOp
  rw[hop]
  simp only
  split at hv
  ·rename_i e r off len sz hs hd hx
   split at hv
   ·rename_i hh
    obtain⟨h1,h2⟩:=hh
    subst h2
    simp only[Option.map_eq_some_iff,Option.bind_eq_some_iff] at hv
    obtain⟨ns,⟨cs,hc,hb⟩,rfl⟩:=hv
    obtain⟨g,hg,hlive,hn,rfl⟩:=uP hc
    obtain⟨l,hρ,hcase⟩:=sl_ev ht hx
    obtain⟨us,k1,k2,k3⟩:=load_run (hR.reg r g l (hH r l g hρ hg) hlive hρ) hn
    have hus:=bytesA_run k2 hb
    have hlen:ns.length=len:=by rw[←k1,hus,List.length_map]
    refine⟨.string (strOfNums ns),?_,.sc _⟩
    rcases hcase with ⟨cap,hle,hfit,e1⟩ | ⟨h0,z,e1⟩
    ·rw[e1]
     have:=run_convert_bytes_arg (P:=P) w s e hs (isU8_run h1) l.b (l.o+off) len cap ns hlen (fun i hi=>by
      refine k3 i _ ?_
      rw[hus,List.getElem?_map]
      simp[List.getD_eq_getElem?_getD,hlen,hi]) d hd
     simp[this]
    ·subst h0
     have:ns=[]:=List.eq_nil_of_length_eq_zero hlen
     subst this
     rw[e1]
     have:=run_convert_bytes_arg (P:=P) w s e hs (isU8_run h1) l.b z 0 0 [] rfl (fun i hi=>by omega) d hd
     simp[this]
   ·cases hv
  ·rename_i e hs hd hx
   split at hv
   ·rename_i h1
    injection hv with hv
    subst hv
    refine⟨_,?_,.sc _⟩
    rw[wT ht hx]
    have:=run_convert_bytes_nil (P:=P) w s e hs (isU8_run h1) 0 0 d hd
    simp[this]
   ·cases hv
  ·cases hv
 all_goals (rw[hop] at hv;simp[xH] at hv)
end
structure Made (w w':World) (c:Array Value) (e:TypeId) (fz:Nat×Nat):Prop where
 os:w'.os=w.os
 tape:w'.tape=w.tape
 output:w'.output=w.output
 size:w'.heap.size=w.heap.size+1
 old:∀ b,b<w.heap.size→w'.heap[b]?=w.heap[b]?
 new:w'.heap[w.heap.size]?=some (.cells c e fz)
theorem jU (w:World)(c:Array Value)(e:TypeId):Made w (w.alloc (.cells c e)) c e (0,0):=
 ⟨rfl,rfl,rfl,by simp,fun b hb=>RowKit.Below.heap_alloc w _ b hb,heap_alloc_new w _⟩
theorem made_drew {w w':World}{c:Array Value}{e:TypeId}{fz:Nat×Nat}(h:Made w.drew w' c e fz):Made w w' c e fz:=⟨h.os,h.tape,h.output,h.size,h.old,h.new⟩
theorem hf_snoc (H:qE)(g:Reg):hf (H++[g])=fun r=>if r=H.length then some g else hf H r:=by
 funext r
 simp only[hf]
 by_cases hr:r=H.length
 ·subst hr;simp
 ·rw[if_neg hr]
  rcases Nat.lt_or_ge r H.length with hl | hl
  ·rw[List.getElem?_append_left hl]
  ·rw[List.getElem?_eq_none (by simp;omega),List.getElem?_eq_none (by omega)]
theorem rel_made {ρ:Ren}{base:Nat}{h:Nat→Option Reg}{w w':World}{c:Array Value}{e:TypeId}{fz:Nat×Nat}{cs:List AV}{id M N:Nat}(hR:Rel M ρ base h w)(hm:Made w w' c e fz)(hρ:ρ id=none)(hid:h id=none∨h id=some {cs:=cs})(hM:id<M)(hN:N≤id)
  (hl:cs.length≤c.size) (hc:LR ρ cs (c.toList.take cs.length)) (hz:∀ i,i<c.size→¬(fz.1≤i∧i<fz.2)) :
  Rel M (fun r=>if r=id then some ⟨w.heap.size,0,c.size⟩ else ρ r) base (fun r=>if r=id then some {cs:=cs} else h r) w' ∧
  Grow M N ρ h w (fun r=>if r=id then some ⟨w.heap.size,0,c.size⟩ else ρ r) (fun r=>if r=id then some {cs:=cs} else h r) w':=by
 have ext:∀ r l,ρ r=some l→(fun r=>if r=id then some (⟨w.heap.size,0,c.size⟩:Loc) else ρ r) r=some l:=by
  intro r l hr
  have:r≠id:=by rintro rfl;rw[hρ] at hr;cases hr
  simp only[if_neg this,hr]
 have fresh:∀ r l,ρ r=some l→l.b≠w.heap.size:=fun r l hr=>Nat.ne_of_lt (hR.lt r l hr)
 refine⟨⟨⟨by rw[hm.size];have:=hR.bs.1;omega,hR.bs.2.keep fun b hb=>hm.old b (Nat.lt_of_lt_of_le hb hR.bs.1)⟩,?_,?_,?_,?_,?_⟩,hm.os,hm.tape,hm.output,by rw[hm.size];omega,fun b hb _=>hm.old b hb,ext,?_,?_,?_,?_,?_,?_,?_⟩
 ·intro r l hr
  try simp only at hr
  split at hr
  ·injection hr with hr;subst hr;rw[hm.size];exact Nat.lt_succ_self _
  ·have:=hR.lt r l hr;rw[hm.size];omega
 ·intro r l hr
  try simp only at hr ⊢
  split at hr
  ·rename_i e;rw[if_pos e];exact .inl ⟨_,rfl⟩
  ·rename_i e;rw[if_neg e];exact hR.dom r l hr
 ·intro r g hg
  by_cases e:r=id
  ·rw[e];exact hM
  ·simp only[if_neg e] at hg;exact hR.top r g hg
 ·intro r g l hg hlive hr
  try simp only at hg hr
  split at hr
  ·rename_i he
   rw[if_pos he] at hg
   injection hg with hg;subst hg
   injection hr with hr;subst hr
   refine⟨c,e,fz,hm.new,rfl,by simpa using hl,?_,fun _=>⟨rfl,hR.bs.1,hz⟩,fun k=>by cases k⟩
   simpa using hc.mono ext
  ·rename_i he
   rw[if_neg he] at hg
   exact(hR.reg r g l hg hlive hr).mono ext (hm.old _ (hR.lt r l hr))
 ·intro r1 r2 g1 g2 l1 l2 h1 h2 e1 e2 o1 o2 p1 p2 hb
  try simp only at h1 h2 p1 p2
  split at p1
  ·rename_i k1
   split at p2
   ·rename_i k2;rw[k1,k2]
   ·rename_i k2
    injection p1 with p1;subst p1
    exact absurd hb.symm (fresh r2 l2 p2)
  ·rename_i k1
   split at p2
   ·rename_i k2
    injection p2 with p2;subst p2
    exact absurd hb (fresh r1 l1 p1)
   ·rename_i k2
    rw[if_neg k1] at h1
    rw[if_neg k2] at h2
    exact hR.inj r1 r2 g1 g2 l1 l2 h1 h2 e1 e2 o1 o2 p1 p2 hb
 ·intro r g hlt hg hr
  have:r≠id:=by omega
  simp only[if_neg this]
  exact⟨hr,trivial⟩
 ·intro r l hr hn
  try simp only at hr
  split at hr
  ·injection hr with hr;subst hr;exact .inl (Nat.le_refl _)
  ·rw[hn] at hr;cases hr
 ·intro r g g' hg hg' hl'
  by_cases e:r=id
  ·subst e
   simp only[if_true,Option.some.injEq] at hg'
   subst hg'
   rcases hid with k | k
   ·rw[k] at hg;cases hg
   ·rw[k] at hg;injection hg with hg;subst hg;exact⟨rfl,rfl⟩
  ·simp only[if_neg e] at hg'
   rw[hg] at hg'
   injection hg' with hg'
   subst hg'
   exact⟨hl',rfl⟩
 ·intro r g hg
  by_cases e:r=id
  ·exact⟨_,if_pos e⟩
  ·exact⟨g,by simp only[if_neg e];exact hg⟩
 ·intro r hr
  exact if_neg (by omega)
 ·intro r g hg hl
  have:r≠id:=by
   rintro rfl
   rcases hid with k | k
   ·rw[k] at hg;cases hg
   ·rw[k] at hg;cases hg;cases hl
  exact⟨by simp only[if_neg this];exact hg,if_neg this⟩
 ·intro r g' l s cs' hg hl ho hn hr he
  by_cases e:r=id
  ·simp only[if_pos e,Option.some.injEq] at hg
   subst hg
   cases hl
  ·simp only[if_neg e] at hg
   have:=hn g' hg
   rw[hl] at this
   cases this
theorem flat_get {α:Type}(zs:List α):∀ (n i:Nat),i<n*zs.length→(List.replicate n zs).flatten[i]?=zs[i % zs.length]?:=by
 intro n
 induction n with
 | zero=>intro i hi;omega
 | succ n ih =>
  intro i hi
  rw[List.replicate_succ,List.flatten_cons]
  rcases Nat.lt_or_ge i zs.length with hl | hl
  ·rw[List.getElem?_append_left hl,Nat.mod_eq_of_lt hl]
  ·rw[List.getElem?_append_right hl,ih _ (by rw[Nat.succ_mul] at hi;omega),←Nat.mod_eq_sub_mod hl]
theorem range_flat (zs:Array Value)(n:Nat):((Array.range (n*zs.size)).map (zs[·% zs.size]!)).toList=(List.replicate n zs.toList).flatten:=by
 apply List.ext_getElem?
 intro i
 by_cases hi:i<n*zs.size
 ·rw[flat_get zs.toList n i (by simpa using hi)]
  have hz:0<zs.size:=by
   rcases Nat.eq_zero_or_pos zs.size with h | h
   ·rw[h] at hi;omega
   ·exact h
  have hm:=Nat.mod_lt i hz
  rw[Array.toList_map,List.getElem?_map,Array.toList_range,List.getElem?_range hi]
  simp[hm]
 ·rw[List.getElem?_eq_none (by simp;omega),List.getElem?_eq_none (by simp;omega)]
theorem map_range0 {α:Type}(f:Nat→α):(Array.range 0).map f=#[]:=by apply Array.ext';simp
section
variable {P : Program} {ρ : Ren} {ts : List AV} {A : Act}
theorem zeroA_inv {t:TypeId}{z:List AV}(hz:xC P t=some z):∃ i zv,P.info? t=some i∧i.zero=some zv∧LR ρ z zv.cells.toList:=by
 unfold xC at hz
 simp only[Option.map_eq_some_iff,Option.bind_eq_some_iff] at hz
 obtain⟨zv,⟨i,hi,hzv⟩,rfl⟩:=hz
 refine⟨i,zv,hi,hzv,(VR.ofV zv).cells⟩
def Ya (P:Program)(ρ:Ren)(A:Act)(o:Oper)(cs:List AV)(mk:Nat→AV):Prop:=∀ w:World,∃ cv w' c e fz,(execOp A.eval o).run P w=.ok (.value cv) w'∧Made w w' c e fz∧cs.length≤c.size∧LR ρ cs (c.toList.take cs.length) ∧
 (∀ i,i<c.size→¬(fz.1≤i∧i<fz.2))∧∀ (ρ':Ren)(r:Nat),ρ' r=some ⟨w.heap.size,0,c.size⟩→VR ρ' (mk r) cv
theorem LR.self {as:List AV}{c:Array Value}(h:LR ρ as c.toList):as.length≤c.size∧LR ρ as (c.toList.take as.length):=by
 have hk:as.length=c.size:=by simpa using h.1
 refine⟨by omega,?_⟩
 rw[List.take_of_length_le (by simp;omega)]
 exact h
theorem evAlloc_sound {o:Oper}{cs:List AV}{mk:Nat→AV}(ht:LR ρ ts A.tmps.toList)(hv:xW P ts o.op=some (cs,mk)):Ya P ρ A o cs mk:=by
 intro w
 cases hop:o.op
 case alloc t =>
  rw[hop] at hv
  simp only[xW,Option.map_eq_some_iff,Prod.mk.injEq] at hv
  obtain⟨z,hz,rfl,rfl⟩:=hv
  obtain⟨i,zv,hi,hzv,hr⟩:=zeroA_inv (ρ:=ρ) hz
  unfold execOp
  rw[hop]
  refine⟨.pointer (some ⟨w.heap.size,0,none⟩),_,zv.cells,t,(0,0),?_,jU w zv.cells t,hr.self.1,hr.self.2,by intro i hi;simp,?_⟩
  ·simp[Instr.alloc,zeroValue,typeInfo,hi,hzv,newVar,newRow]
  ·intro ρ' r hr'
   have:=VR.ptr (ρ:=ρ') (off:=0) hr'
   simpa using this
 case box t x =>
  rw[hop] at hv
  simp only[xW,Option.some.injEq,Prod.mk.injEq] at hv
  obtain⟨rfl,rfl⟩:=hv
  unfold execOp
  rw[hop]
  have hr:=(VR.eval ht x).cells
  refine⟨.pointer (some ⟨w.heap.size,0,none⟩),_,(A.eval x).cells,t,(0,0),?_,jU w (A.eval x).cells t,hr.self.1,hr.self.2,by intro i hi;simp,?_⟩
  ·simp[Instr.box,newVar,newRow]
  ·intro ρ' r hr'
   have:=VR.ptr (ρ:=ρ') (off:=0) hr'
   simpa using this
 case buildSlice t len parts =>
  rw[hop] at hv
  simp only[xW] at hv
  unfold execOp
  rw[hop]
  simp only
  split at hv
  ·rename_i e hu
   split at hv
   ·rename_i z hz
    split at hv
    ·rename_i hh
     obtain⟨hty,hs0,hzl,hbig⟩:=hh
     simp only[Option.map_eq_some_iff,Prod.mk.injEq] at hv
     obtain⟨cs',hfill,rfl,rfl⟩:=hv
     obtain⟨i,zv,hi,hzv,hr⟩:=zeroA_inv (ρ:=ρ) hz
     obtain⟨hpl,hpr⟩:=parts_rel ht parts
     have hzs:zv.cells.size=P.cellsOf e:=by rw[←hzl,hr.1,Array.length_toList]
     have hbase:LR ρ (List.replicate len z).flatten ((Array.range (len*P.cellsOf e)).map (zv.cells[·% zv.cells.size]!)).toList:=by
      rw[←hzs,range_flat]
      exact hr.replicate len
     obtain⟨vs',h2,h3⟩:=run_fill _ _ _ _ _ hpl hpr hbase hfill
     refine⟨.slice (some ⟨w.heap.size,0,none⟩) len len,_,vs',e,(0,0),?_,jU w vs' e,h3.self.1,h3.self.2,by intro i hi;simp,?_⟩
     ·have hnb:¬ (len*P.cellsOf e>2 ^ 24):=by omega
      by_cases h0:len*P.cellsOf e=0
      ·have hl0:len=0:=by
        rcases Nat.mul_eq_zero.1 h0 with h | h
        ·exact h
        ·omega
       subst hl0
       have h2':Instr.fill (fun i=>some (i*P.cellsOf e,P.cellsOf e)) #[] (parts.map fun x=>(x.1,A.eval x.2)).toList=some vs':=by
        rw[←h2]
        congr 1
        simp
       simp only[Instr.buildSlice,Sem.run_bind,run_underlying hu,Result.andThen_ok,xQ hty,Nat.zero_mul]
       simp[newRow]
       have h2q:=h2'
       simp only[Array.toList_map] at h2q
       simp[map_range0,h2q]
      ·simp only[Instr.buildSlice,Sem.run_bind,run_underlying hu,Result.andThen_ok,xQ hty,if_neg hnb,Sem.run_pure,if_neg h0,zeroValue,typeInfo,run_program,hi,hzv]
       have h2q:=h2
       simp only[Array.toList_map] at h2q
       simp[newRow,h2q]
     ·intro ρ' r hr'
      have hlen:len*P.cellsOf e≤vs'.size:=by
       have h4:cs'.length=vs'.size:=by simpa using h3.1
       have h5:cs'.length=(List.replicate len z).flatten.length:=by
        have:∀ (ps:List (Nat×AV))(a b:List AV),yR (fun i=>some (i*P.cellsOf e,P.cellsOf e)) a ps=some b→b.length=a.length:=by
         intro ps
         induction ps with
         | nil=>intro a b hab;simp only[yR,Option.some.injEq] at hab;rw[hab]
         | cons p ps ih =>
          intro a b hab
          simp only[yR] at hab
          split at hab
          ·rename_i hc
           rw[ih _ _ hab]
           simp only[qW,List.length_append,List.length_take,List.length_drop]
           omega
          ·cases hab
        exact this _ _ _ hfill
       have h6:(List.replicate len z).flatten.length=len*P.cellsOf e:=by simp[hzl]
       omega
      have:=VR.sl (ρ:=ρ') (off:=0) (len:=len) (sz:=P.cellsOf e) (cap:=len) hr' (Nat.le_refl _) (by simpa using hlen)
      simpa using this
    ·cases hv
   ·cases hv
  ·cases hv
 case makeSlice t l c =>
  rw[hop] at hv
  simp only[xW] at hv
  unfold execOp
  rw[hop]
  simp only
  split at hv
  ·rename_i e kk n k2 m hu hl hc
   split at hv
   ·rename_i i z hi hz
    split at hv
    ·rename_i hh
     obtain⟨h0,hnm,hbn,hbytes,hs0,hzl⟩:=hh
     subst hnm
     simp only[Option.some.injEq,Prod.mk.injEq] at hv
     obtain⟨rfl,rfl⟩:=hv
     obtain⟨i',zv,hi',hzv,hr⟩:=zeroA_inv (ρ:=ρ) hz
     rw[hi] at hi'
     injection hi' with hi'
     subst hi'
     rw[wT ht hl,wT ht hc]
     have hzs:zv.cells.size=P.cellsOf e:=by rw[←hzl,hr.1,Array.length_toList]
     have hcell:P.cellsOf e=i.size:=by simp[Program.cellsOf,hi]
     have hw:IntKind.i64.wrap n=n:=by rw[IntKind.wrap_i64];omega
     have hLR:LR ρ (List.replicate n.toNat z).flatten ((Array.range (n.toNat*P.cellsOf e)).map (zv.cells[·% zv.cells.size]!)).toList:=by
      rw[←hzs,range_flat]
      exact hr.replicate n.toNat
     refine⟨.slice (some ⟨w.heap.size,0,none⟩) n.toNat n.toNat,_,(Array.range (n.toNat*P.cellsOf e)).map (zv.cells[·% zv.cells.size]!),e,(0,0),?_,jU w _ e,hLR.self.1,hLR.self.2,by intro i hi;simp,?_⟩
     ·have hb2:¬ (281474976710656<(i.bytes:Int)*n):=by omega
      have hn0:¬ (n<0):=by omega
      by_cases hz0:n.toNat*i.size=0
      ·have:n.toNat=0:=by
        rcases Nat.mul_eq_zero.1 hz0 with h | h
        ·exact h
        ·omega
       simp[Instr.makeSlice,run_underlying hu,asInt,asIntOf,typeInfo,hi,hw,hb2,hn0,sizeOf,this,newRow,map_range0]
      ·simp[Instr.makeSlice,run_underlying hu,asInt,asIntOf,typeInfo,hi,hw,hb2,hn0,sizeOf,newRow,hz0,zeroValue,hzv,hcell]
     ·intro ρ' r hr'
      have:=VR.sl (ρ:=ρ') (off:=0) (len:=n.toNat) (sz:=P.cellsOf e) (cap:=n.toNat) hr' (Nat.le_refl _) (by simp)
      simpa using this
    ·cases hv
   ·cases hv
  ·cases hv
 case convert s d x =>
  rw[hop] at hv
  simp only[xW] at hv
  unfold execOp
  rw[hop]
  simp only
  split at hv
  ·rename_i u e z hs hd hx
   split at hv
   ·rename_i hh
    obtain⟨h1,h2⟩:=hh
    simp only[Option.some.injEq,Prod.mk.injEq] at hv
    obtain⟨rfl,rfl⟩:=hv
    rw[wT ht hx]
    have hrun:=Lib.run_convert_string_bytes (P:=P) w s d e z hs hd (isU8_run h1)
    have hcap:=grownCap_ge w z.size 0 e
    have hsz:(Lib.bytesCells w e z).size=grownCap w z.size 0 e:=by
     simp only[Lib.bytesCells,Array.size_append,Array.size_map,Array.size_replicate]
     have:z.data.size=z.size:=rfl
     omega
    have hLR:LR ρ (z.data.toList.map fun b=>AV.sc (.int .u8 b.toNat)) ((Lib.bytesCells w e z).toList.take (z.data.toList.map fun b=>AV.sc (.int .u8 b.toNat)).length):=by
     simp only[Lib.bytesCells,Array.toList_append,Array.toList_map,List.length_map]
     rw[List.take_append_of_le_length (by simp),List.take_of_length_le (by simp)]
     exact LR.map (fun b:UInt8=>Value.int .u8 b.toNat) _
    have hln:(z.data.toList.map fun b=>AV.sc (.int .u8 b.toNat)).length=z.size:=by rw[List.length_map,Array.length_toList];rfl
    refine⟨.slice (some ⟨w.heap.size,0,none⟩) z.size (grownCap w z.size 0 e),Lib.bytesWorld w e z,Lib.bytesCells w e z,e,((Lib.bytesCells w e z).size,(Lib.bytesCells w e z).size+1),?_,?_,by rw[hln,hsz];exact hcap,hLR,?_,?_⟩
    ·simp[hrun]
    ·exact⟨rfl,rfl,rfl,Lib.bytesWorld_size w e z,fun b hb=>Lib.bytesWorld_at_old w e z b hb,Lib.bytesWorld_at_new w e z⟩
    ·intro i hi hh
     try simp only at hh
     omega
    ·intro ρ' r hr'
     have:=VR.sl (ρ:=ρ') (off:=0) (len:=z.size) (sz:=1) (cap:=grownCap w z.size 0 e) hr' hcap (by simp[hsz])
     simpa using this
   ·cases hv
  ·cases hv
 all_goals (rw[hop] at hv;simp[xW] at hv)
end
structure Wr (w w':World) (b:Nat) (c:Array Value) (e:TypeId) (fz:Nat×Nat):Prop where
 os:w'.os=w.os
 tape:w'.tape=w.tape
 output:w'.output=w.output
 size:w'.heap.size=w.heap.size
 other:∀ k,k≠b→w'.heap[k]?=w.heap[k]?
 new:w'.heap[b]?=some (.cells c e fz)
theorem wr_one {P:Program}{w:World}{b i:Nat}{c:Array Value}{e:TypeId}{fz:Nat×Nat}{v:Value}(hb:w.heap[b]?=some (.cells c e fz))(hi:i<c.size)(hz:¬(fz.1≤i∧i<fz.2))(hv:v.oneCell'=true) :
  (store ⟨b,i,none⟩ v).run P w=.ok () (w.setCell ⟨b,i,none⟩ v)∧Wr w (w.setCell ⟨b,i,none⟩ v) b (c.setIfInBounds i v) e fz:=by
 have hc:w.cell? ⟨b,i,none⟩=some (c[i]'hi):=by simp[World.cell?,hb,hi]
 have hf:w.frozen? ⟨b,i,none⟩=false:=by
  simp only[World.frozen?,hb]
  simpa using hz
 refine⟨by rw[run_store P w _ v .plain hv,hc];simp[hf],rfl,rfl,rfl,?_,?_,?_⟩
 ·simp[World.setCell]
 ·intro k hk
  simp only[World.setCell,Array.getElem?_modify]
  rw[if_neg (Ne.symm hk)]
 ·simp only[World.setCell,Array.getElem?_modify,if_true,hb,Option.map_some]
  simp
theorem wr_all {P:Program}{b off:Nat}{e:TypeId}{fz:Nat×Nat}:∀ (vs:List Value)(i:Nat)(c:Array Value)(w:World),w.heap[b]?=some (.cells c e fz)→off+i+vs.length≤c.size→(∀ j,j<c.size→¬(fz.1≤j∧j<fz.2))→(∀ u∈vs,u.oneCell'=true) →
  ∃ w' c',(storeCells ⟨b,off,none⟩ vs i).run P w=.ok () w'∧Wr w w' b c' e fz∧c'.size=c.size∧c'.toList=c.toList.take (off+i)++vs++c.toList.drop (off+i+vs.length):=by
 intro vs
 induction vs with
 | nil=>intro i c w hb hl hz hv;exact⟨w,c,rfl,⟨rfl,rfl,rfl,rfl,fun _ _=>rfl,hb⟩,rfl,by simp⟩
 | cons v vs ih =>
  intro i c w hb hl hz hv
  simp only[List.length_cons] at hl
  obtain⟨h1,h2⟩:=wr_one (P:=P) (i:=off+i) hb (by omega) (hz _ (by omega)) (hv v (by simp))
  obtain⟨w',c',k1,k2,k3,k4⟩:=ih (i+1) _ _ h2.new (by simp;omega) (by simpa using hz) (fun u hu=>hv u (by simp[hu]))
  refine⟨w',c',?_,⟨k2.os.trans h2.os,k2.tape.trans h2.tape,k2.output.trans h2.output,k2.size.trans h2.size,fun k hk=>(k2.other k hk).trans (h2.other k hk),k2.new⟩,by simpa using k3,?_⟩
  ·simp only[storeCells,Sem.run_bind,Addr.add_lit,h1,Result.andThen_ok]
   exact k1
  ·rw[k4,Array.toList_setIfInBounds]
   have hm:off+i<c.toList.length:=by rw[Array.length_toList];omega
   rw[List.set_eq_take_append_cons_drop,if_pos hm]
   have ht:(c.toList.take (off+i)).length=off+i:=by rw[List.length_take];omega
   rw[show off+(i+1)=(c.toList.take (off+i)).length+1 by omega,List.take_length_add_append,show (c.toList.take (off+i)).length+1+vs.length=(c.toList.take (off+i)).length+(1+vs.length) by omega,List.drop_length_add_append,List.take_succ_cons,List.take_zero,Nat.add_comm 1,List.drop_succ_cons,List.drop_drop]
   simp only[List.append_assoc,List.singleton_append,List.cons_append,List.length_cons,List.nil_append]
   rw[show off+i+1+vs.length=off+i+(vs.length+1) by omega]
section
variable {ρ : Ren} {base M N : Nat} {h : Nat → Option Reg} {w w' : World}
theorem rel_store {r:Nat}{g:Reg}{l:Loc}{c':Array Value}{e:TypeId}{fz:Nat×Nat}{cs':List AV}(hR:Rel M ρ base h w)(hr:h r=some g)(hl:g.live=true)(ho:g.own=true)(hρ:ρ r=some l)(hw:Wr w w' l.b c' e fz)
  (hn:c'.size=l.n) (hc:cs'.length≤l.n) (hLR:LR ρ cs' (c'.toList.take cs'.length)) (hz:∀ i,i<l.n→¬(fz.1≤i∧i<fz.2)) :
  Rel M ρ base (fun r'=>if r'=r then some { g with cs:=cs' } else h r') w'∧Grow M N ρ h w ρ (fun r'=>if r'=r then some { g with cs:=cs' } else h r') w':=by
 obtain⟨_,_,_,_,_,_,_,hown,_⟩:=hR.reg r g l hr hl hρ
 obtain⟨hlo,hbase,_⟩:=hown ho
 have apart:∀ r' g' l',r'≠r→h r'=some g'→g'.live=true→ρ r'=some l'→l'.b≠l.b:=by
  intro r' g' l' hne h1 h2 h3 e
  cases ho':g'.own with
  | true=>exact hne (hR.inj r' r g' g l' l h1 hr h2 hl ho' ho h3 hρ e)
  | false =>
   obtain⟨_,_,_,_,_,_,_,_,hro⟩:=hR.reg r' g' l' h1 h2 h3
   have:=hro ho'
   omega
 refine⟨⟨⟨by rw[hw.size];exact hR.bs.1,hR.bs.2.keep fun b hb=>hw.other b (by omega)⟩,fun r' l' hh=>by rw[hw.size];exact hR.lt r' l' hh,?_,?_,?_,?_⟩,hw.os,hw.tape,hw.output,by rw[hw.size];exact Nat.le_refl _,?_,fun _ _ k=>k,?_,?_,?_,?_,fun _ _=>rfl,?_,?_⟩
 ·intro r' l' hh
  by_cases e:r'=r
  ·exact .inl ⟨_,if_pos e⟩
  ·rcases hR.dom r' l' hh with ⟨g',hg'⟩ | hM
   ·exact .inl ⟨g',by simp only[if_neg e];exact hg'⟩
   ·exact .inr hM
 ·intro r' g' hg
  by_cases e:r'=r
  ·rw[e];exact hR.top r g hr
  ·simp only[if_neg e] at hg;exact hR.top r' g' hg
 ·intro r' g' l' hg hlive hh
  by_cases e:r'=r
  ·subst e
   simp only[if_true,Option.some.injEq] at hg
   subst hg
   rw[hρ] at hh
   injection hh with hh
   subst hh
   refine⟨c',_,fz,hw.new,hn,by rw[hlo];simpa using hc,by rw[hlo];simpa using hLR,fun _=>⟨hlo,hbase,hz⟩,fun k=>?_⟩
   simp only at k
   rw[ho] at k
   cases k
  ·simp only[if_neg e] at hg
   exact(hR.reg r' g' l' hg hlive hh).mono (fun _ _ k=>k) (hw.other _ (apart r' g' l' e hg hlive hh))
 ·intro r1 r2 g1 g2 l1 l2 h1 h2 e1 e2 o1 o2 p1 p2 hb
  have fix:∀ r' g',(if r'=r then some { g with cs:=cs' } else h r')=some g'→g'.live=true→g'.own=true→∃ g'',h r'=some g''∧g''.live=true∧g''.own=true:=by
   intro r' g' hh q1 q2
   by_cases e:r'=r
   ·subst e;exact⟨g,hr,hl,ho⟩
   ·rw[if_neg e] at hh;exact⟨g',hh,q1,q2⟩
  obtain⟨a1,b1,c1,d1⟩:=fix r1 g1 h1 e1 o1
  obtain⟨a2,b2,c2,d2⟩:=fix r2 g2 h2 e2 o2
  exact hR.inj r1 r2 a1 a2 l1 l2 b1 b2 c1 c2 d1 d2 p1 p2 hb
 ·intro b hb hno
  exact hw.other b (fun e=>hno r g l hr hl ho hρ e.symm)
 ·intro r' g' _ hg hnone
  have:r'≠r:=by rintro rfl;rw[hρ] at hnone;cases hnone
  exact⟨hnone,if_neg this⟩
 ·intro r' l' a b
  rw[a] at b;cases b
 ·intro r' g1 g2 hg1 hg2 hlv
  by_cases e:r'=r
  ·subst e
   simp only[if_true,Option.some.injEq] at hg2
   subst hg2
   rw[hr] at hg1
   injection hg1 with hg1
   subst hg1
   exact⟨hl,rfl⟩
  ·simp only[if_neg e] at hg2
   rw[hg1] at hg2
   injection hg2 with hg2
   subst hg2
   exact⟨hlv,rfl⟩
 ·intro r' g' hg
  by_cases e:r'=r
  ·exact⟨_,if_pos e⟩
  ·exact⟨g',by simp only[if_neg e];exact hg⟩
 ·intro r' g' hg hd
  have e:r'≠r:=by rintro rfl;rw[hr] at hg;cases hg;rw[hl] at hd;cases hd
  exact⟨by simp only[if_neg e];exact hg,rfl⟩
 ·intro r' g' l' s cs'' hg hd _ hn _ _
  by_cases e:r'=r
  ·simp only[if_pos e,Option.some.injEq] at hg
   subst hg
   simp only at hd
   rw[hl] at hd
   cases hd
  ·simp only[if_neg e] at hg
   have:=hn g' hg
   rw[hd] at this
   cases this
theorem rel_room {r id:Nat}{g:Reg}{l:Loc}{c':Array Value}{e:TypeId}{fz:Nat×Nat}{cs':List AV}(hR:Rel M ρ base h w)(hr:h r=some g)(hl:g.live=true)(ho:g.own=true)(hρ:ρ r=some l)(hid:h id=none)(hρid:ρ id=none)(hM:id<M)(hw:Wr w w' l.b c' e fz)
  (hn:c'.size=l.n) (hc:cs'.length≤l.n) (hLR:LR ρ cs' (c'.toList.take cs'.length)) (hz:∀ i,i<l.n→¬(fz.1≤i∧i<fz.2)) :
  Rel M (fun r'=>if r'=id then some l else ρ r') base (fun r'=>if r'=id then some {cs:=cs'} else if r'=r then some ⟨.ptr id 0 :: g.cs,g.own,false⟩ else h r') w' ∧
  Grow M N ρ h w (fun r'=>if r'=id then some l else ρ r') (fun r'=>if r'=id then some {cs:=cs'} else if r'=r then some ⟨.ptr id 0 :: g.cs,g.own,false⟩ else h r') w':=by
 obtain⟨_,_,_,_,_,_,_,hown,_⟩:=hR.reg r g l hr hl hρ
 obtain⟨hlo,hbase,_⟩:=hown ho
 have ext:∀ r' l',ρ r'=some l'→(fun r'=>if r'=id then some l else ρ r') r'=some l':=by
  intro r' l' hh
  have:r'≠id:=by rintro rfl;rw[hρid] at hh;cases hh
  simp only[if_neg this];exact hh
 have apart:∀ r' g' l',r'≠r→h r'=some g'→g'.live=true→ρ r'=some l'→l'.b≠l.b:=by
  intro r' g' l' hne h1 h2 h3 e
  cases ho':g'.own with
  | true=>exact hne (hR.inj r' r g' g l' l h1 hr h2 hl ho' ho h3 hρ e)
  | false =>
   obtain⟨_,_,_,_,_,_,_,_,hro⟩:=hR.reg r' g' l' h1 h2 h3
   have:=hro ho'
   omega
 have olds:∀ r' g',r'≠id→(if r'=id then some {cs:=cs'} else if r'=r then some ⟨.ptr id 0 :: g.cs,g.own,false⟩ else h r')=some g'→g'.live=true→r'≠r∧h r'=some g':=by
  intro r' g' h1 h2 h3
  rw[if_neg h1] at h2
  by_cases e:r'=r
  ·rw[if_pos e] at h2
   injection h2 with h2
   subst h2
   cases h3
  ·rw[if_neg e] at h2
   exact⟨e,h2⟩
 refine⟨⟨⟨by rw[hw.size];exact hR.bs.1,hR.bs.2.keep fun b hb=>hw.other b (by omega)⟩,?_,?_,?_,?_,?_⟩,hw.os,hw.tape,hw.output,by rw[hw.size];exact Nat.le_refl _,?_,ext,?_,?_,?_,?_,fun r' hr'=>if_neg (by omega),?_,?_⟩
 ·intro r' l' hh
  rw[hw.size]
  by_cases e:r'=id
  ·simp only[if_pos e,Option.some.injEq] at hh
   subst hh
   exact hR.lt r _ hρ
  ·simp only[if_neg e] at hh
   exact hR.lt r' l' hh
 ·intro r' l' hh
  by_cases e:r'=id
  ·exact .inl ⟨_,if_pos e⟩
  ·simp only[if_neg e] at hh ⊢
   by_cases e2:r'=r
   ·exact .inl ⟨_,if_pos e2⟩
   ·rcases hR.dom r' l' hh with ⟨g',hg'⟩ | hM
    ·exact .inl ⟨g',by rw[if_neg e2];exact hg'⟩
    ·exact .inr hM
 ·intro r' g' hg
  by_cases e:r'=id
  ·rw[e];exact hM
  ·simp only[if_neg e] at hg
   by_cases e2:r'=r
   ·rw[e2];exact hR.top r g hr
   ·rw[if_neg e2] at hg;exact hR.top r' g' hg
 ·intro r' g' l' hg hlive hh
  by_cases e:r'=id
  ·simp only[if_pos e,Option.some.injEq] at hg hh
   subst hg;subst hh
   exact⟨c',_,fz,hw.new,hn,by rw[hlo];simpa using hc,by rw[hlo];simpa using hLR.mono ext,fun _=>⟨hlo,hbase,hz⟩,fun k=>by cases k⟩
  ·obtain⟨e2,hg2⟩:=olds r' g' e hg hlive
   simp only[if_neg e] at hh
   exact(hR.reg r' g' l' hg2 hlive hh).mono ext (hw.other _ (apart r' g' l' e2 hg2 hlive hh))
 ·intro r1 r2 g1 g2 l1 l2 h1 h2 e1 e2 o1 o2 p1 p2 hb
  by_cases k1:r1=id
  ·by_cases k2:r2=id
   ·rw[k1,k2]
   ·obtain⟨q1,q2⟩:=olds r2 g2 k2 h2 e2
    simp only[if_pos k1,Option.some.injEq] at p1
    simp only[if_neg k2] at p2
    subst p1
    exact absurd hb.symm (apart r2 g2 l2 q1 q2 e2 p2)
  ·obtain⟨q1,q2⟩:=olds r1 g1 k1 h1 e1
   simp only[if_neg k1] at p1
   by_cases k2:r2=id
   ·simp only[if_pos k2,Option.some.injEq] at p2
    subst p2
    exact absurd hb (apart r1 g1 l1 q1 q2 e1 p1)
   ·obtain⟨q3,q4⟩:=olds r2 g2 k2 h2 e2
    simp only[if_neg k2] at p2
    exact hR.inj r1 r2 g1 g2 l1 l2 q2 q4 e1 e2 o1 o2 p1 p2 hb
 ·intro b hb hno
  exact hw.other b (fun e=>hno r g l hr hl ho hρ e.symm)
 ·intro r' g' _ hg hnone
  have a1:r'≠id:=by rintro rfl;rw[hid] at hg;cases hg
  have a2:r'≠r:=by rintro rfl;rw[hρ] at hnone;cases hnone
  exact⟨by simp only[if_neg a1];exact hnone,by simp only[if_neg a1,if_neg a2]⟩
 ·intro r' l' a b
  by_cases e:r'=id
  ·simp only[if_pos e,Option.some.injEq] at a
   subst a
   exact .inr ⟨r,g,_,hr,hl,ho,hρ,rfl⟩
  ·simp only[if_neg e] at a
   rw[b] at a;cases a
 ·intro r' g1 g2 hg1 hg2 hlv
  have a1:r'≠id:=by rintro rfl;rw[hid] at hg1;cases hg1
  obtain⟨q1,q2⟩:=olds r' g2 a1 hg2 hlv
  rw[hg1] at q2
  injection q2 with q2
  subst q2
  exact⟨hlv,rfl⟩
 ·intro r' g' hg
  have a1:r'≠id:=by rintro rfl;rw[hid] at hg;cases hg
  by_cases e:r'=r
  ·exact⟨_,by rw[if_neg a1,if_pos e]⟩
  ·exact⟨g',by rw[if_neg a1,if_neg e];exact hg⟩
 ·intro r' g' hg hd
  have a1:r'≠id:=by rintro rfl;rw[hid] at hg;cases hg
  have a2:r'≠r:=by rintro rfl;rw[hr] at hg;cases hg;rw[hl] at hd;cases hd
  exact⟨by simp only[if_neg a1,if_neg a2];exact hg,if_neg a1⟩
 ·intro r' g' l' s cs'' hg hd _ hn hh he
  by_cases a1:r'=id
  ·simp only[if_pos a1,Option.some.injEq] at hg
   subst hg
   cases hd
  ·by_cases a2:r'=r
   ·simp only[if_neg a1,if_pos a2,Option.some.injEq] at hg
    subst hg
    simp only[List.cons.injEq,AV.ptr.injEq] at he
    obtain⟨⟨e1,_⟩,_⟩:=he
    simp only[if_neg a1] at hh
    rw[a2,hρ] at hh
    cases hh
    exact .inl (if_pos e1.symm)
   ·simp only[if_neg a1,if_neg a2] at hg
    have:=hn g' hg
    rw[hd] at this
    cases this
theorem rel_kill {r:Nat}{g:Reg}(id:Nat)(hR:Rel M ρ base h w)(hr:h r=some g)(hl:g.live=true)(ho:g.own=true) :
  Rel M ρ base (fun r'=>if r'=r then some ⟨.ptr id 0 :: g.cs,g.own,false⟩ else h r') w∧(ρ r≠none→Grow M N ρ h w ρ (fun r'=>if r'=r then some ⟨.ptr id 0 :: g.cs,g.own,false⟩ else h r') w):=by
 have olds:∀ r' g',(if r'=r then some ⟨.ptr id 0 :: g.cs,g.own,false⟩ else h r')=some g'→g'.live=true→r'≠r∧h r'=some g':=by
  intro r' g' h2 h3
  by_cases e:r'=r
  ·rw[if_pos e] at h2
   injection h2 with h2
   subst h2
   cases h3
  ·rw[if_neg e] at h2
   exact⟨e,h2⟩
 refine⟨⟨hR.bs,hR.lt,?_,?_,?_,?_⟩,fun hn=>⟨rfl,rfl,rfl,Nat.le_refl _,fun _ _ _=>rfl,fun _ _ k=>k,?_,?_,?_,?_,fun _ _=>rfl,?_,?_⟩⟩
 ·intro r' l' hh
  by_cases e:r'=r
  ·exact .inl ⟨_,if_pos e⟩
  ·rcases hR.dom r' l' hh with ⟨g',hg'⟩ | hM
   ·exact .inl ⟨g',by simp only[if_neg e];exact hg'⟩
   ·exact .inr hM
 ·intro r' g' hg
  by_cases e:r'=r
  ·rw[e];exact hR.top r g hr
  ·simp only[if_neg e] at hg;exact hR.top r' g' hg
 ·intro r' g' l' hg hlive hh
  exact hR.reg r' g' l' (olds r' g' hg hlive).2 hlive hh
 ·intro r1 r2 g1 g2 l1 l2 h1 h2 e1 e2 o1 o2 p1 p2 hb
  exact hR.inj r1 r2 g1 g2 l1 l2 (olds r1 g1 h1 e1).2 (olds r2 g2 h2 e2).2 e1 e2 o1 o2 p1 p2 hb
 ·intro r' g' _ hg hnone
  have a2:r'≠r:=by rintro rfl;exact hn hnone
  exact⟨hnone,if_neg a2⟩
 ·intro r' l' a b
  rw[a] at b;cases b
 ·intro r' g1 g2 hg1 hg2 hlv
  obtain⟨q1,q2⟩:=olds r' g2 hg2 hlv
  rw[hg1] at q2
  injection q2 with q2
  subst q2
  exact⟨hlv,rfl⟩
 ·intro r' g' hg
  by_cases e:r'=r
  ·exact⟨_,if_pos e⟩
  ·exact⟨g',by simp only[if_neg e];exact hg⟩
 ·intro r' g' hg hd
  have a2:r'≠r:=by rintro rfl;rw[hr] at hg;cases hg;rw[hl] at hd;cases hd
  exact⟨by simp only[if_neg a2];exact hg,rfl⟩
 ·intro r' g' l' s cs'' hg hd _ hm hh he
  by_cases a2:r'=r
  ·simp only[if_pos a2,Option.some.injEq] at hg
   subst hg
   simp only[List.cons.injEq] at he
   obtain⟨_,rfl⟩:=he
   rw[a2] at hh
   right
   obtain⟨c,e,fz,h1,h2,h3,h4,_⟩:=hR.reg r g l' hr hl hh
   refine⟨?_,hR.lt r l' hh,c,e,fz,h1,h2,h3,h4⟩
   intro c gc lc hc hlv how hρc eb
   obtain⟨q1,q2⟩:=olds c gc hc hlv
   exact q1 (hR.inj c r gc g lc l' q2 hr hlv hl how ho hρc hh eb)
  ·simp only[if_neg a2] at hg
   have:=hm g' hg
   rw[hd] at this
   cases this
end
theorem hf_setReg (H:qE){r:Nat}{g:Reg}(hg:H[r]?=some g)(cs:List AV):hf (setReg H r cs)=fun r'=>if r'=r then some { g with cs:=cs } else hf H r':=by
 funext r'
 simp only[hf,setReg,List.getElem?_modify]
 by_cases e:r'=r
 ·subst e;simp[hg]
 ·have e':=Ne.symm e
  simp[e,e']
theorem hf_killReg (H:qE){r:Nat}{g:Reg}(hg:H[r]?=some g):hf (yG H r)=fun r'=>if r'=r then some ⟨.ptr H.length 0 :: g.cs,g.own,false⟩ else hf H r':=by
 funext r'
 simp only[hf,yG,uM,List.getElem?_modify]
 by_cases e:r'=r
 ·subst e;simp[hg]
 ·have e':=Ne.symm e
  simp[e,e']
end Go.Proofs.YtjdajobflgkebaaGreatDoor.Sim
