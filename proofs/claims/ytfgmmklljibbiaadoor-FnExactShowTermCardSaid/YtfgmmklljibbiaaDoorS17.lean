/- The steps, one by one, for rewriting. -/
import Derived.Test.YtfgmmklljibbiaaDoorS16
namespace Go.Proofs.YtfgmmklljibbiaaDoor.Sim
open Go
set_option linter.unusedSimpArgs false
set_option linter.unusedVariables false
/-- A branch. -/
def onB (v : AV) (A B : Prop) : Prop :=
  match v with
  | .sc (.bool t) => if t = true then A else B
  | _ => False
def onS {α : Type} (v : Option α) (K : α → Prop) : Prop :=
  match v with
  | some v => K v
  | none => False
def binV (P : Program) (b : BinOp) (t : TypeId) (x y : AV) : Option AV :=
  match evBin b x y with
  | some v => some (.sc v)
  | none => (boolBin P b t x y).map .sc
section
variable {P : Program} {ops : Array Oper} {K : St → Prop} {E : Nat → St → Prop} {R : St → Prop} {n : Nat} {T : Nat → AV} {H : AHeap} {d : Tmp} {ty : TypeId} {pos : String} {af : Array Edge} {l : List Oper} {o : Oper} {s : St}
/-! control -/
theorem w_seq (a b : Code) : awp P (.seq a b) K E R ⟨tab n T, H⟩ = awp P a (fun s' => awp P b K E R s') E R ⟨tab n T, H⟩ := rfl
theorem w_skip : awp P .skip K E R ⟨tab n T, H⟩ = K ⟨tab n T, H⟩ := rfl
theorem w_ret : awp P .ret K E R ⟨tab n T, H⟩ = R ⟨tab n T, H⟩ := rfl
theorem w_exit (i : Nat) : awp P (.exit i) K E R ⟨tab n T, H⟩ = E i ⟨tab n T, H⟩ := rfl
theorem w_block (i : Nat) (c : Code) : awp P (.block i c) K E R ⟨tab n T, H⟩ = awp P c K (fun j s' => if j = i then K s' else E j s') R ⟨tab n T, H⟩ := rfl
theorem w_cond (c : Operand) (a b : Code) : awp P (.cond c a b) K E R ⟨tab n T, H⟩ = onB (ev (tab n T) c) (awp P a K E R ⟨tab n T, H⟩) (awp P b K E R ⟨tab n T, H⟩) := rfl
theorem w_region (i : Nat) (ops : Array Oper) : awp P (.region i ops false) K E R ⟨tab n T, H⟩ = opsW P ops ops.toList K ⟨tab n T, H⟩ := rfl
theorem w_draw (i : Nat) (ops : Array Oper) : awp P (.region i ops true) K E R s = (P.follows .mixedOrders = true ∧ drawOk P ops = true ∧ ∃ ps, pairs P ops = ps ∧ dopsW P ops ps K ops.toList [] s) := rfl
theorem onB_true (A B : Prop) : onB (.sc (.bool true)) A B = A := rfl
theorem onB_false (A B : Prop) : onB (.sc (.bool false)) A B = B := by simp [onB]
theorem onB_dec (p : Prop) [Decidable p] (A B : Prop) : onB (.sc (.bool (decide p))) A B = if p then A else B := by simp [onB]
theorem onB_not (b : Bool) (A B : Prop) : onB (.sc (.bool (!b))) A B = onB (.sc (.bool b)) B A := by cases b <;> simp [onB]
theorem onS_some {α : Type} (v : α) (K : α → Prop) : onS (some v) K = K v := rfl
theorem onS_ite {α : Type} (p : Prop) [Decidable p] (v : α) (K : α → Prop) : onS (if p then some v else none) K = (p ∧ K v) := by
  by_cases h : p <;> simp [h, onS]
theorem onS_not {α : Type} (p : Prop) [Decidable p] (v : α) (K : α → Prop) : onS (if p then none else some v) K = (¬ p ∧ K v) := by
  by_cases h : p <;> simp [h, onS]
theorem ops_nil : opsW P ops [] K ⟨tab n T, H⟩ = K ⟨tab n T, H⟩ := rfl
theorem ops_cons : opsW P ops (o :: l) K ⟨tab n T, H⟩ = opG P ops o (fun s' => opsW P ops l K s') ⟨tab n T, H⟩ := rfl
theorem dops_nil {ps : List (Nat × Nat)} {hs : List St} : dopsW P ops ps K [] hs s = ((∀ p, p ∈ ps → sameRead P ops (s :: hs) p) ∧ K s) := rfl
theorem dops_cons {ps : List (Nat × Nat)} {hs : List St} : dopsW P ops ps K (o :: l) hs ⟨tab n T, H⟩ = opG P ops o (fun s' => dopsW P ops ps K l (⟨tab n T, H⟩ :: hs) s') ⟨tab n T, H⟩ := rfl
/-! operations -/
theorem g_guard (dd : Option Tmp) (op : Op) (j : Nat) (want : Bool) : opG P ops ⟨dd, op, ty, pos, af, some (j, want)⟩ K s = match yieldedA ops s.ts j == some want with
    | true => opG P ops ⟨dd, op, ty, pos, af, none⟩ K s
    | false => K (s.put dd und) := rfl
theorem g_pure {op : Op} (h : clsOf P ⟨some d, op, ty, pos, af, none⟩ = .pure) : opG P ops ⟨some d, op, ty, pos, af, none⟩ K ⟨tab n T, H⟩ = onS (evPure P (tab n T) op) fun v => K ⟨tab n (upd T d v), H⟩ := by
  simp only [opG, opW, h, St.put, set_tab]
  cases evPure P (tab n T) op <;> rfl
theorem g_move (x : Operand) : opG P ops ⟨some d, .move x, ty, pos, af, none⟩ K ⟨tab n T, H⟩ = K ⟨tab n (upd T d (ev (tab n T) x)), H⟩ := by rw [g_pure rfl]; rfl
theorem g_assign (x : Operand) : opG P ops ⟨some d, .assign x, ty, pos, af, none⟩ K ⟨tab n T, H⟩ = K ⟨tab n (upd T d (ev (tab n T) x)), H⟩ := by rw [g_pure rfl]; rfl
theorem g_binOp (b : BinOp) (t u : TypeId) (x y : Operand) : opG P ops ⟨some d, .binOp b t x y u, ty, pos, af, none⟩ K ⟨tab n T, H⟩ = onS (binV P b t (ev (tab n T) x) (ev (tab n T) y)) fun v => K ⟨tab n (upd T d v), H⟩ := by rw [g_pure rfl]; rfl
theorem g_unOp (b : UnOp) (t : TypeId) (x : Operand) : opG P ops ⟨some d, .unOp b t x, ty, pos, af, none⟩ K ⟨tab n T, H⟩ = onS ((evUn b (ev (tab n T) x)).map .sc) fun v => K ⟨tab n (upd T d v), H⟩ := by rw [g_pure rfl]; rfl
def pickV (c a b : AV) : Option AV :=
  match c with
  | .sc (.bool t) => some (if t then a else b)
  | _ => none
theorem g_pick (c a b : Operand) : opG P ops ⟨some d, .pick c a b, ty, pos, af, none⟩ K ⟨tab n T, H⟩ = onS (pickV (ev (tab n T) c) (ev (tab n T) a) (ev (tab n T) b)) fun v => K ⟨tab n (upd T d v), H⟩ := by rw [g_pure rfl]; rfl
theorem pick_b (t : Bool) (a b : AV) : pickV (.sc (.bool t)) a b = some (if t then a else b) := rfl
/-- The place of an index, by what it is an index of. -/
def idxV (P : Program) (e : Option TypeDesc) (x i : AV) : Option AV :=
  match e, x, i with
  | some .string, .sc (.string z), .sc (.int _ n) => if h : 0 ≤ n ∧ n.toNat < z.size then some (.sc (.int .u8 (z[n.toNat]'h.2).toNat)) else none
  | some (.array len e), .agg cs, .sc (.int _ n) => if 0 ≤ n ∧ n < len ∧ tyOk P e = true then partA P e cs (n.toNat * P.cellsOf e) else none
  | _, _, _ => none
theorem g_index (t : TypeId) (x i : Operand) : opG P ops ⟨some d, .index t x i, ty, pos, af, none⟩ K ⟨tab n T, H⟩ = onS (idxV P (P.underlying t) (ev (tab n T) x) (ev (tab n T) i)) fun v => K ⟨tab n (upd T d v), H⟩ := by rw [g_pure rfl]; rfl
/-- A byte of a text, by its number. -/
def byteAt (z : ByteArray) (n : Nat) : Int := ((z.data[n]?).getD 0).toNat
theorem idx_str (z : ByteArray) (k : IntKind) (i : Int) : idxV P (some .string) (.sc (.string z)) (.sc (.int k i)) = if 0 ≤ i ∧ i.toNat < z.size then some (.sc (.int .u8 (byteAt z i.toNat))) else none := by
  by_cases h : 0 ≤ i ∧ i.toNat < z.size
  · have h2 : i.toNat < z.data.size := h.2
    have : z[i.toNat]'h.2 = (z.data[i.toNat]?).getD 0 := by
      rw [Array.getElem?_eq_getElem h2]
      rfl
    simp only [idxV, dif_pos h, if_pos h, this, byteAt]
  · simp only [idxV, dif_neg h, if_neg h]
def adrV (P : Program) (e : Option TypeDesc) (x i : AV) : Option AV :=
  match e, x, i with
  | some (.slice e), .sl r off len sz, .sc (.int _ n) => if 0 ≤ n ∧ n < len ∧ P.cellsOf e = sz ∧ tyOk P e = true then some (.ptr r (off + n.toNat * sz)) else none
  | some (.array len e), .ptr r off, .sc (.int _ n) => if 0 ≤ n ∧ n < len ∧ tyOk P e = true then some (.ptr r (off + n.toNat * P.cellsOf e)) else none
  | _, _, _ => none
theorem g_indexAddr (t : TypeId) (x i : Operand) : opG P ops ⟨some d, .indexAddr t x i, ty, pos, af, none⟩ K ⟨tab n T, H⟩ = onS (adrV P (P.underlying t) (ev (tab n T) x) (ev (tab n T) i)) fun v => K ⟨tab n (upd T d v), H⟩ := by rw [g_pure rfl]; rfl
theorem adr_sl (e : TypeId) (r off len sz : Nat) (k : IntKind) (i : Int) : adrV P (some (.slice e)) (.sl r off len sz) (.sc (.int k i)) = if 0 ≤ i ∧ i < len ∧ P.cellsOf e = sz ∧ tyOk P e = true then some (.ptr r (off + i.toNat * sz)) else none := rfl
theorem adr_arr (e : TypeId) (r off len : Nat) (k : IntKind) (i : Int) : adrV P (some (.array len e)) (.ptr r off) (.sc (.int k i)) = if 0 ≤ i ∧ i < len ∧ tyOk P e = true then some (.ptr r (off + i.toNat * P.cellsOf e)) else none := rfl
def fadrV (P : Program) (e : Option TypeDesc) (x : AV) (f : Nat) : Option AV :=
  match e, x with
  | some (.struct fs), .ptr r off => match fs[f]? with
    | some fd => if P.cellsOf fd.type ≠ 0 ∧ tyOk P fd.type = true then some (.ptr r (off + fd.offset)) else none
    | none => none
  | _, _ => none
theorem g_fieldAddr (t : TypeId) (x : Operand) (f : Nat) : opG P ops ⟨some d, .fieldAddr t x f, ty, pos, af, none⟩ K ⟨tab n T, H⟩ = onS (fadrV P (P.underlying t) (ev (tab n T) x) f) fun v => K ⟨tab n (upd T d v), H⟩ := by rw [g_pure rfl]; rfl
def fldV (P : Program) (e : Option TypeDesc) (x : AV) (f : Nat) : Option AV :=
  match e, x with
  | some (.struct fs), .agg cs => match fs[f]? with
    | some fd => if tyOk P fd.type = true then partA P fd.type cs fd.offset else none
    | none => none
  | _, _ => none
theorem g_field (t : TypeId) (x : Operand) (f : Nat) : opG P ops ⟨some d, .field t x f, ty, pos, af, none⟩ K ⟨tab n T, H⟩ = onS (fldV P (P.underlying t) (ev (tab n T) x) f) fun v => K ⟨tab n (upd T d v), H⟩ := by rw [g_pure rfl]; rfl
def nilV (x : AV) : Option AV :=
  match x with
  | .ptr r off => some (.ptr r off)
  | _ => none
theorem g_nilCheck (x : Operand) : opG P ops ⟨some d, .nilCheck x, ty, pos, af, none⟩ K ⟨tab n T, H⟩ = onS (nilV (ev (tab n T) x)) fun v => K ⟨tab n (upd T d v), H⟩ := by rw [g_pure rfl]; rfl
def extV (x : AV) (i : Nat) : Option AV :=
  match x with
  | .tup vs => vs[i]?
  | _ => none
theorem g_extract (t : Operand) (i : Nat) : opG P ops ⟨some d, .extract t i, ty, pos, af, none⟩ K ⟨tab n T, H⟩ = onS (extV (ev (tab n T) t) i) fun v => K ⟨tab n (upd T d v), H⟩ := by rw [g_pure rfl]; rfl
def lenV (e : Option TypeDesc) (x : AV) : Option AV :=
  match e, x with
  | some .string, .sc (.string z) => some (.sc (.int .i64 z.size))
  | some (.array n _), _ => some (.sc (.int .i64 n))
  | some (.slice _), .sl _ _ len _ => some (.sc (.int .i64 len))
  | some (.slice _), .sc (.slice none 0 0) => some (.sc (.int .i64 0))
  | _, _ => none
theorem g_len (x : Operand) (t : TypeId) : opG P ops ⟨some d, .call ⟨.builtin .len, #[x], #[t]⟩, ty, pos, af, none⟩ K ⟨tab n T, H⟩ = onS (lenV (P.underlying t) (ev (tab n T) x)) fun v => K ⟨tab n (upd T d v), H⟩ := by rw [g_pure rfl]; rfl
theorem len_str (z : ByteArray) : lenV (some .string) (.sc (.string z)) = some (.sc (.int .i64 z.size)) := rfl
theorem len_arr (k : Nat) (e : TypeId) (x : AV) : lenV (some (.array k e)) x = some (.sc (.int .i64 k)) := rfl
theorem len_sl (e : TypeId) (r off len sz : Nat) : lenV (some (.slice e)) (.sl r off len sz) = some (.sc (.int .i64 len)) := rfl
theorem len_nil (e : TypeId) : lenV (some (.slice e)) (.sc (.slice none 0 0)) = some (.sc (.int .i64 0)) := rfl
theorem g_min (xs : Array Operand) (ts : Array TypeId) : opG P ops ⟨some d, .call ⟨.builtin .min, xs, ts⟩, ty, pos, af, none⟩ K ⟨tab n T, H⟩ = onS ((minI (xs.toList.map (ev (tab n T)))).map .sc) fun v => K ⟨tab n (upd T d v), H⟩ := by rw [g_pure rfl]; rfl
theorem g_max (xs : Array Operand) (ts : Array TypeId) : opG P ops ⟨some d, .call ⟨.builtin .max, xs, ts⟩, ty, pos, af, none⟩ K ⟨tab n T, H⟩ = onS ((maxI (xs.toList.map (ev (tab n T)))).map .sc) fun v => K ⟨tab n (upd T d v), H⟩ := by rw [g_pure rfl]; rfl
def bndV (x : Option AV) (d : Nat) : Option Nat :=
  match x with
  | none => some d
  | some (.sc (.int _ n)) => if 0 ≤ n then some n.toNat else none
  | some _ => none
theorem bnd_V (ts : List AV) (x : Option Operand) (d : Nat) : bnd ts x d = bndV (x.map (ev ts)) d := by
  cases x with
  | none => rfl
  | some x =>
    simp only [bnd, bndV, Option.map_some]
    cases ev ts x with
    | sc v => cases v <;> rfl
    | _ => rfl
def cutV (P : Program) (e : Option TypeDesc) (x : AV) (lo hi : Option AV) : Option AV :=
  match e, x with
  | some .string, .sc (.string z) => match bndV lo 0, bndV hi z.size with
      | some l, some h => if l ≤ h ∧ h ≤ z.size then some (.sc (.string (z.extract l h))) else none
      | _, _ => none
  | some (.slice e), .sl r off len sz => match bndV lo 0, bndV hi len with
      | some l, some h => if l ≤ h ∧ h ≤ len ∧ P.cellsOf e = sz ∧ tyOk P e = true then some (.sl r (off + l * sz) (h - l) sz) else none
      | _, _ => none
  | some (.slice e), .sc (.slice none 0 0) => match bndV lo 0, bndV hi 0 with
      | some 0, some 0 => if tyOk P e = true then some (.sc (.slice none 0 0)) else none
      | _, _ => none
  | _, _ => none
theorem g_slice (t : TypeId) (x : Operand) (lo hi : Option Operand) : opG P ops ⟨some d, .slice t x lo hi none, ty, pos, af, none⟩ K ⟨tab n T, H⟩ = onS (cutV P (P.underlying t) (ev (tab n T) x) (lo.map (ev (tab n T))) (hi.map (ev (tab n T)))) fun v => K ⟨tab n (upd T d v), H⟩ := by
  rw [g_pure rfl]
  simp only [evPure, bnd_V]
  rfl
/-! conversions -/
def clsC (s d : Option TypeDesc) : Cls :=
  match s, d with
  | some (.slice _), some .string => .read
  | some .string, some (.slice _) => .alloc
  | _, _ => .pure
def pC (s d : Option TypeDesc) (x : AV) : Option AV :=
  (match s, d, x with
  | some _, some (.int k), .sc (.int _ n) => some (.int k (k.wrap n))
  | some _, some .string, .sc (.string z) => some (.string z)
  | _, _, _ => none : Option Value).map .sc
def rdC (P : Program) (s d : Option TypeDesc) (x : AV) (H : AHeap) : Option AV :=
    match s, d, x with
    | some (.slice e), some .string, .sl r off len sz =>
      if isU8 P e = true ∧ sz = 1 then ((cellsAt H r off len).bind bytesA).map fun l => .sc (.string (strOfNums l)) else none
    | some (.slice e), some .string, .sc (.slice none 0 0) => if isU8 P e then some (.sc (.string ByteArray.empty)) else none
    | _, _, _ => none
def alC (P : Program) (s d : Option TypeDesc) (x : AV) : Option (List AV × (Nat → AV)) :=
    match s, d, x with
    | some _, some (.slice e), .sc (.string z) => if isU8 P e = true ∧ P.cellsOf e = 1 then some (z.data.toList.map (fun b => .sc (.int .u8 b.toNat)), fun r => .sl r 0 z.size 1) else none
    | _, _, _ => none
def alK (o : Option (List AV × (Nat → AV))) (H : AHeap) (K : AV → AHeap → Prop) : Prop :=
  match o with
  | some (cs, mk) => cs.all AV.one = true ∧ K (mk H.length) (H ++ [⟨cs, true, true⟩])
  | none => False
def convW (P : Program) (s d : Option TypeDesc) (x : AV) (H : AHeap) (K : AV → AHeap → Prop) : Prop :=
  match clsC s d with
  | .pure => onS (pC s d x) fun v => K v H
  | .read => onS (rdC P s d x H) fun v => K v H
  | .alloc => alK (alC P s d x) H K
  | .write => False
theorem bytes_one (z : ByteArray) : ((z.data.toList.map (fun b => AV.sc (.int .u8 b.toNat))).all AV.one) = true := List.all_eq_true.2 fun a ha => by
    obtain ⟨b, _, rfl⟩ := List.mem_map.1 ha
    rfl
theorem g_convert (a b : TypeId) (x : Operand) : opG P ops ⟨some d, .convert a b x, ty, pos, af, none⟩ K ⟨tab n T, H⟩ = convW P (P.underlying a) (P.underlying b) (ev (tab n T) x) H fun v H' => K ⟨tab n (upd T d v), H'⟩ := by
  have e0 : clsOf P ⟨some d, .convert a b x, ty, pos, af, none⟩ = clsC (P.underlying a) (P.underlying b) := rfl
  have e1 : evPure P (tab n T) (.convert a b x) = pC (P.underlying a) (P.underlying b) (ev (tab n T) x) := rfl
  have e2 : evRead P (tab n T) (.convert a b x) H = rdC P (P.underlying a) (P.underlying b) (ev (tab n T) x) H := rfl
  have e3 : evAlloc P (tab n T) (.convert a b x) = alC P (P.underlying a) (P.underlying b) (ev (tab n T) x) := rfl
  simp only [opG, opW, e0, convW, e1, e2, e3, St.put, set_tab]
  have hw : clsC (P.underlying a) (P.underlying b) ≠ .write := by
    unfold clsC
    split <;> simp
  cases hc : clsC (P.underlying a) (P.underlying b) with
  | pure => simp only; cases pC (P.underlying a) (P.underlying b) (ev (tab n T) x) <;> rfl
  | read => simp only; cases rdC P (P.underlying a) (P.underlying b) (ev (tab n T) x) H <;> rfl
  | alloc => simp only; cases alC P (P.underlying a) (P.underlying b) (ev (tab n T) x) <;> rfl
  | write => exact absurd hc hw
theorem c_int (j k i : IntKind) (m : Int) (K : AV → AHeap → Prop) : convW P (some (.int j)) (some (.int k)) (.sc (.int i m)) H K = K (.sc (.int k (k.wrap m))) H := rfl
theorem c_str (z : ByteArray) (K : AV → AHeap → Prop) : convW P (some .string) (some .string) (.sc (.string z)) H K = K (.sc (.string z)) H := rfl
theorem c_bytes (e : TypeId) (z : ByteArray) (K : AV → AHeap → Prop) : convW P (some .string) (some (.slice e)) (.sc (.string z)) H K = ((isU8 P e = true ∧ P.cellsOf e = 1) ∧ K (.sl H.length 0 z.size 1) (H ++ [⟨z.data.toList.map (fun b => .sc (.int .u8 b.toNat)), true, true⟩])) := by
  by_cases h : isU8 P e = true ∧ P.cellsOf e = 1
  · simp only [convW, clsC, alC, alK, bytes_one, h, true_and, and_self, if_true]
  · simp only [convW, clsC, alC, alK, h, false_and, if_false]
theorem c_text (e : TypeId) (r off len sz : Nat) (K : AV → AHeap → Prop) : convW P (some (.slice e)) (some .string) (.sl r off len sz) H K = onS (if isU8 P e = true ∧ sz = 1 then ((cellsAt H r off len).bind bytesA).map fun l => AV.sc (.string (strOfNums l)) else none) fun v => K v H := rfl
/-! memory -/
def rdV (P : Program) (t : TypeId) (x : AV) (H : AHeap) : Option AV :=
  match x with
  | .ptr r off =>
      if tyOk P t = true then
        if aggB P t then (cellsAt H r off (P.cellsOf t)).map .agg
        else match cellsAt H r off 1 with
          | some [v] => some v
          | _ => none
      else none
  | _ => none
theorem g_load (t : TypeId) (x : Operand) : opG P ops ⟨some d, .load t x, ty, pos, af, none⟩ K ⟨tab n T, H⟩ = onS (rdV P t (ev (tab n T) x) H) fun v => K ⟨tab n (upd T d v), H⟩ := by
  have e : evRead P (tab n T) (.load t x) H = rdV P t (ev (tab n T) x) H := rfl
  simp only [opG, opW, clsOf, e, St.put, set_tab]
  cases rdV P t (ev (tab n T) x) H <;> rfl
def wrV (P : Program) (t : TypeId) (x y : AV) (H : AHeap) : Option AHeap :=
  match x with
  | .ptr r off => match H[r]? with
    | some g => if g.live ∧ g.own ∧ tyOk P t = true ∧ y.cells.length = P.cellsOf t ∧ off + P.cellsOf t ≤ g.cs.length ∧ y.cells.all AV.one then some (setReg H r (overA g.cs off y.cells)) else none
    | none => none
  | _ => none
theorem g_store (t : TypeId) (x y : Operand) : opG P ops ⟨none, .store t x y, ty, pos, af, none⟩ K ⟨tab n T, H⟩ = onS (wrV P t (ev (tab n T) x) (ev (tab n T) y) H) fun H' => K ⟨tab n T, H'⟩ := by
  simp only [opG, opW, clsOf, evWrite, calleeOf, setD]
  cases hx : ev (tab n T) x with
  | ptr r off =>
    simp only [wrV]
    cases H[r]? with
    | none => rfl
    | some g =>
      by_cases hc : g.live = true ∧ g.own = true ∧ tyOk P t = true ∧ (ev (tab n T) y).cells.length = P.cellsOf t ∧ off + P.cellsOf t ≤ g.cs.length ∧ (ev (tab n T) y).cells.all AV.one = true
      · simp only [if_pos hc, onS]
      · simp only [if_neg hc, onS]
  | _ => rfl
/-! calls -/
theorem g_call (f : FuncId) (xs : Array Operand) (ts : Array TypeId) : opG P ops ⟨some d, .call ⟨.value (.func f), xs, ts⟩, ty, pos, af, none⟩ K ⟨tab n T, H⟩ = ∃ v H', Sound P f (xs.toList.map (ev (tab n T))) H v H' ∧ K ⟨tab n (upd T d v), H'⟩ := by
  simp only [opG, opW, clsOf, calleeOf, set_tab, ev]
  rfl
theorem callFn {f : FuncId} {args : List AV} {v : AV} {K : AV → AHeap → Prop} (h : Fn P f args v) (k : K v H) : ∃ v H', Sound P f args H v H' ∧ K v H' := ⟨v, H, h H, k⟩
/-! loops -/
theorem opW_mono {o : Oper} {K K' : St → Prop} {s : St} (h : ∀ s, K s → K' s) (k : opW P o K s) : opW P o K' s := by
  unfold opW at *
  split at k
  · split at k
    · exact h _ k
    · exact k.elim
  · split at k
    · exact h _ k
    · exact k.elim
  · split at k
    · exact ⟨k.1, h _ k.2⟩
    · exact k.elim
  · split at k
    · obtain ⟨v, H', k1, k2⟩ := k; exact ⟨v, H', k1, h _ k2⟩
    · split at k
      · exact h _ k
      · exact k.elim
theorem opG_mono {o : Oper} {K K' : St → Prop} {s : St} (h : ∀ s, K s → K' s) (k : opG P ops o K s) : opG P ops o K' s := by
  unfold opG at *
  split at k
  · exact opW_mono h k
  · split at k
    · exact opW_mono h k
    · exact h _ k
theorem opsW_mono {K K' : St → Prop} (h : ∀ s, K s → K' s) : ∀ {l : List Oper} {s : St}, opsW P ops l K s → opsW P ops l K' s
  | [], _, k => h _ k
  | _ :: _, _, k => opG_mono (fun _ => opsW_mono h) k
theorem dopsW_mono {ps : List (Nat × Nat)} {K K' : St → Prop} (h : ∀ s, K s → K' s) : ∀ {l : List Oper} {hs : List St} {s : St}, dopsW P ops ps K l hs s → dopsW P ops ps K' l hs s
  | [], _, _, k => ⟨k.1, h _ k.2⟩
  | _ :: _, _, _, k => opG_mono (fun _ => dopsW_mono h) k
theorem awp_mono : ∀ (c : Code) {K K' : St → Prop} {E E' : Nat → St → Prop} {R R' : St → Prop} {s : St}, (∀ s, K s → K' s) → (∀ i s, E i s → E' i s) → (∀ s, R s → R' s) → awp P c K E R s → awp P c K' E' R' s
  | .skip, _, _, _, _, _, _, _, h1, _, _, k => h1 _ k
  | .region _ _ false, _, _, _, _, _, _, _, h1, _, _, k => opsW_mono h1 k
  | .region _ _ true, _, _, _, _, _, _, _, h1, _, _, ⟨k1, k2, ps, k3, k4⟩ => ⟨k1, k2, ps, k3, dopsW_mono h1 k4⟩
  | .seq a b, _, _, _, _, _, _, _, h1, h2, h3, k => awp_mono a (fun _ => awp_mono b h1 h2 h3) h2 h3 k
  | .cond c a b, _, _, _, _, _, _, s, h1, h2, h3, k => by
    simp only [awp] at k ⊢
    split at k
    · rename_i t ht
      cases t with
      | true => exact awp_mono a h1 h2 h3 k
      | false => exact awp_mono b h1 h2 h3 k
    · exact k.elim
  | .block id c, _, _, _, _, _, _, _, h1, h2, h3, k => awp_mono c h1 (fun i s h => by
      split
      · rename_i e; rw [if_pos e] at h; exact h1 _ h
      · rename_i e; rw [if_neg e] at h; exact h2 _ _ h) h3 k
  | .loop c, _, _, E, E', R, R', s, _, h2, h3, ⟨n, k⟩ => ⟨n, by
      have ih := fun K K' s => @awp_mono c K K' E E' R R' s
      induction n generalizing s with
      | zero => exact k.elim
      | succ n ihn => exact ih _ _ s (fun s => ihn s) h2 h3 k⟩
  | .exit _, _, _, _, _, _, _, _, _, h2, _, k => h2 _ _ k
  | .ret, _, _, _, _, _, _, _, _, _, h3, k => h3 _ k
  | .label _, _, _, _, _, _, _, _, _, _, _, k => (by simp [awp] at k)
  | .goto _, _, _, _, _, _, _, _, _, _, _, k => (by simp [awp] at k)
  | .scope .., _, _, _, _, _, _, _, _, _, _, k => (by simp [awp] at k)
  | .rangeFunc .., _, _, _, _, _, _, _, _, _, _, k => (by simp [awp] at k)
  | .refuse .., _, _, _, _, _, _, _, _, _, _, k => (by simp [awp] at k)
theorem w_loop {ι : Type} (I : ι → St → Prop) (μ : ι → Nat) {c : Code} (hI : ∀ i s, I i s → awp P c (fun s' => ∃ i', μ i' < μ i ∧ I i' s') E R s) {i : ι} {s : St} (h : I i s) : awp P (.loop c) K E R s := by
  have key : ∀ m i s, μ i < m → I i s → Nat.rec (motive := fun _ => St → Prop) (fun _ => False) (fun _ ih s => awp P c ih E R s) m s := by
    intro m
    induction m with
    | zero => intro i s h; omega
    | succ m ih =>
      intro i s hm hs
      exact awp_mono c (fun s' ⟨i', h1, h2⟩ => ih i' s' (by omega) h2) (fun _ _ h => h) (fun _ h => h) (hI i s hs)
  exact ⟨μ i + 1, key (μ i + 1) i s (Nat.lt_succ_self _) h⟩
end
/-! numbers -/
section
variable (P : Program) (t : TypeId) (k : IntKind) (a b : Int)
theorem nob_int (o : BinOp) (j : IntKind) : boolBin P o t (.sc (.int k a)) (.sc (.int j b)) = none := by
  unfold boolBin
  split <;> simp_all
theorem nob_str (o : BinOp) (x y : ByteArray) : boolBin P o t (.sc (.string x)) (.sc (.string y)) = none := by
  unfold boolBin
  split <;> simp_all
theorem b_add : binV P .add t (.sc (.int k a)) (.sc (.int k b)) = some (.sc (.int k (k.wrap (a + b)))) := by simp [binV, evBin, isShift, intBin]
theorem b_sub : binV P .sub t (.sc (.int k a)) (.sc (.int k b)) = some (.sc (.int k (k.wrap (a - b)))) := by simp [binV, evBin, isShift, intBin]
theorem b_mul : binV P .mul t (.sc (.int k a)) (.sc (.int k b)) = some (.sc (.int k (k.wrap (a * b)))) := by simp [binV, evBin, isShift, intBin]
theorem b_quo : binV P .quo t (.sc (.int k a)) (.sc (.int k b)) = if b = 0 then none else some (.sc (.int k (k.wrap (a.tdiv b)))) := by
  by_cases h : b = 0 <;> simp [binV, evBin, isShift, intBin, h, nob_int]
theorem b_rem : binV P .rem t (.sc (.int k a)) (.sc (.int k b)) = if b = 0 then none else some (.sc (.int k (a.tmod b))) := by
  by_cases h : b = 0 <;> simp [binV, evBin, isShift, intBin, h, nob_int]
theorem b_and : binV P .and t (.sc (.int k a)) (.sc (.int k b)) = some (.sc (.int k (bits .and k a b))) := by simp [binV, evBin, isShift, intBin]
theorem b_or : binV P .or t (.sc (.int k a)) (.sc (.int k b)) = some (.sc (.int k (bits .or k a b))) := by simp [binV, evBin, isShift, intBin]
theorem b_xor : binV P .xor t (.sc (.int k a)) (.sc (.int k b)) = some (.sc (.int k (bits .xor k a b))) := by simp [binV, evBin, isShift, intBin]
theorem b_andNot : binV P .andNot t (.sc (.int k a)) (.sc (.int k b)) = some (.sc (.int k (bits .andNot k a b))) := by simp [binV, evBin, isShift, intBin]
theorem b_eql : binV P .eql t (.sc (.int k a)) (.sc (.int k b)) = some (.sc (.bool (decide (a = b)))) := by simp [binV, evBin, isShift, intBin]; rfl
theorem b_neq : binV P .neq t (.sc (.int k a)) (.sc (.int k b)) = some (.sc (.bool (!decide (a = b)))) := by simp [binV, evBin, isShift, intBin]; rfl
theorem b_lss : binV P .lss t (.sc (.int k a)) (.sc (.int k b)) = some (.sc (.bool (decide (a < b)))) := by simp [binV, evBin, isShift, intBin]
theorem b_leq : binV P .leq t (.sc (.int k a)) (.sc (.int k b)) = some (.sc (.bool (decide (a ≤ b)))) := by simp [binV, evBin, isShift, intBin]
theorem b_gtr : binV P .gtr t (.sc (.int k a)) (.sc (.int k b)) = some (.sc (.bool (decide (b < a)))) := by simp [binV, evBin, isShift, intBin]
theorem b_geq : binV P .geq t (.sc (.int k a)) (.sc (.int k b)) = some (.sc (.bool (decide (b ≤ a)))) := by simp [binV, evBin, isShift, intBin]
theorem b_shl (j : IntKind) : binV P .shl t (.sc (.int k a)) (.sc (.int j b)) = if b < 0 then none else some (.sc (.int k (k.wrap (a * 2 ^ min b.toNat k.bits)))) := by
  by_cases h : b < 0 <;> simp [binV, evBin, isShift, shiftBin, h, nob_int]
theorem b_shr (j : IntKind) : binV P .shr t (.sc (.int k a)) (.sc (.int j b)) = if b < 0 then none else some (.sc (.int k (a / 2 ^ min b.toNat k.bits))) := by
  by_cases h : b < 0 <;> simp [binV, evBin, isShift, shiftBin, h, nob_int]
theorem t_add (x y : ByteArray) : binV P .add t (.sc (.string x)) (.sc (.string y)) = if x.size + y.size ≤ 9223372036854775807 then some (.sc (.string (x ++ y))) else none := by
  by_cases h : x.size + y.size ≤ 9223372036854775807 <;> simp [binV, evBin, strBin, h, nob_str]
theorem t_eql (x y : ByteArray) : binV P .eql t (.sc (.string x)) (.sc (.string y)) = some (.sc (.bool (x.toList == y.toList))) := rfl
theorem t_neq (x y : ByteArray) : binV P .neq t (.sc (.string x)) (.sc (.string y)) = some (.sc (.bool (!(x.toList == y.toList)))) := rfl
def isBoolT (P : Program) (t : TypeId) : Bool :=
  match P.underlying t with
  | some .bool => true
  | _ => false
theorem v_eql (x y : Bool) (h : P.underlying t = some .bool) : binV P .eql t (.sc (.bool x)) (.sc (.bool y)) = some (.sc (.bool (x == y))) := by
  simp [binV, evBin, boolBin, h]
theorem v_neq (x y : Bool) (h : P.underlying t = some .bool) : binV P .neq t (.sc (.bool x)) (.sc (.bool y)) = some (.sc (.bool (!(x == y)))) := by
  cases x <;> cases y <;> simp [binV, evBin, boolBin, h]
theorem u_not (t : Bool) : evUn .not (.sc (.bool t)) = some (.bool (!t)) := rfl
theorem u_neg (k : IntKind) (a : Int) : evUn .neg (.sc (.int k a)) = some (.int k (k.wrap (0 - a))) := rfl
theorem of_int (k : IntKind) (a : Int) : ofV (.int k a) = .sc (.int k a) := rfl
theorem of_str (z : ByteArray) : ofV (.string z) = .sc (.string z) := rfl
theorem of_bool (t : Bool) : ofV (.bool t) = .sc (.bool t) := rfl
theorem of_slice (p : Option Addr) (m c : Nat) : ofV (.slice p m c) = .sc (.slice p m c) := rfl
end
/-! ### functions -/
def retIs (P : Program) (rs : List ResultVar) (v : AV) (s : St) : Prop :=
  match ressA P s rs with
  | some vs => packA vs = v
  | none => False
theorem ret_one {P : Program} {n : Nat} {T : Nat → AV} {H : AHeap} {t : Tmp} {v : AV} (h : t < n) : retIs P [.tmp t] v ⟨tab n T, H⟩ = (T t = v) := by
  simp [retIs, ressA, resA, packA, tab, h]
theorem ret_two {P : Program} {n : Nat} {T : Nat → AV} {H : AHeap} {t u : Tmp} {v : AV} (h : t < n) (k : u < n) : retIs P [.tmp t, .tmp u] v ⟨tab n T, H⟩ = (.tup [T t, T u] = v) := by
  simp [retIs, ressA, resA, packA, tab, h, k]
theorem ret_three {P : Program} {n : Nat} {T : Nat → AV} {H : AHeap} {t u x : Tmp} {v : AV} (h : t < n) (k : u < n) (j : x < n) : retIs P [.tmp t, .tmp u, .tmp x] v ⟨tab n T, H⟩ = (.tup [T t, T u, T x] = v) := by
  simp [retIs, ressA, resA, packA, tab, h, k, j]
def par : List AV → Nat → AV := fun l t => l.getD t und
theorem par0 (a : AV) (l : List AV) : par (a :: l) 0 = a := rfl
theorem par1 (a b : AV) (l : List AV) : par (a :: b :: l) 1 = b := rfl
theorem par2 (a b c : AV) (l : List AV) : par (a :: b :: c :: l) 2 = c := rfl
theorem par3 (a b c d : AV) (l : List AV) : par (a :: b :: c :: d :: l) 3 = d := rfl
theorem par4 (a b c d e : AV) (l : List AV) : par (a :: b :: c :: d :: e :: l) 4 = e := rfl
theorem par5 (a b c d e f : AV) (l : List AV) : par (a :: b :: c :: d :: e :: f :: l) 5 = f := rfl
theorem Sound.run {P : Program} {f : FuncId} {fn : Func} {c : Code} {args : List AV} {H H' : AHeap} {v : AV} (n : Nat) (rs : List ResultVar) (hf : P.funcs[f]? = some fn) (hb : fn.body = some c) (hnt : fn.ntmps = n) (hrs : fn.results.toList = rs) (hn : (fn.name == "runtime.NumGoroutine") = false) (hl : args.length ≤ n)
    (h : awp P c (fun s => retIs P rs v s ∧ s.H = H') (fun _ _ => False) (fun s => retIs P rs v s ∧ s.H = H') ⟨tab n (par args), H⟩) : Sound P f args H v H' := by
  subst hnt
  subst hrs
  have h0 := tab_init _ _ hl
  change _ = tab fn.ntmps (par args) at h0
  rw [← h0] at h
  obtain ⟨e, s', h1, h2⟩ := awp_ex _ _ _ _ _ h
  have key : (e = .normal ∨ e = .ret) ∧ retIs P fn.results.toList v s' ∧ s'.H = H' := by
    cases e with
    | normal => exact ⟨.inl rfl, h2⟩
    | exit id => exact h2.elim
    | ret => exact ⟨.inr rfl, h2⟩
  obtain ⟨k1, k2, rfl⟩ := key
  unfold retIs at k2
  split at k2
  · rename_i vs hvs
    exact Body.sound ⟨fn, c, e, s', vs, hf, hb, hn, hl, h1, k1, hvs, k2.symm, rfl⟩
  · exact k2.elim
theorem Fn.run {P : Program} {f : FuncId} {fn : Func} {c : Code} {args : List AV} {v : AV} (n : Nat) (rs : List ResultVar) (hf : P.funcs[f]? = some fn) (hb : fn.body = some c) (hnt : fn.ntmps = n) (hrs : fn.results.toList = rs) (hn : (fn.name == "runtime.NumGoroutine") = false) (hl : args.length ≤ n) (ha : ∀ a, a ∈ args → Flat a) (hv : Flat v)
    (h : awp P c (retIs P rs v) (fun _ _ => False) (retIs P rs v) ⟨tab n (par args), []⟩) : Fn P f args v := by
  subst hnt
  subst hrs
  have h0 := tab_init _ _ hl
  change _ = tab fn.ntmps (par args) at h0
  rw [← h0] at h
  obtain ⟨e, s', h1, h2⟩ := awp_ex _ _ _ _ _ h
  have key : (e = .normal ∨ e = .ret) ∧ retIs P fn.results.toList v s' := by
    cases e with
    | normal => exact ⟨.inl rfl, h2⟩
    | exit id => exact h2.elim
    | ret => exact ⟨.inr rfl, h2⟩
  obtain ⟨k1, k2⟩ := key
  unfold retIs at k2
  split at k2
  · rename_i vs hvs
    exact Fn.of ha hv (Body.sound ⟨fn, c, e, s', vs, hf, hb, hn, hl, h1, k1, hvs, k2.symm, rfl⟩)
  · exact k2.elim
/-- What the machine does when such a function is called. -/
theorem Fn.calls {P : Program} {f : FuncId} {args : List AV} {v : Value} (h : Fn P f args (.sc v)) (w : World) (cargs : Array Value) (hA : LR (fun _ => none) args cargs.toList) (hg : Gl w.heap.size w := by exact Gl.none rfl) : Calls P f cargs w fun e w' => e = .returned v ∧ RowKit.Below w.heap.size w w' := by
  obtain ⟨_, _, h3⟩ := h []
  have hR1 : Rel 0 (fun _ => none) w.heap.size (hf []) w := ⟨⟨Nat.le_refl _, hg⟩, fun _ _ h => by (cases h), fun _ _ h => by (cases h), fun r g h => by simp [hf] at h, fun r g l h => by simp [hf] at h, fun r1 r2 g1 g2 l1 l2 h => by simp [hf] at h⟩
  refine (h3 0 (fun _ => none) w.heap.size w cargs (Nat.le_refl _) hR1 hA).mono ?_
  rintro e w' ⟨cv, ρ', rfl, hvr, hR', hG⟩
  refine ⟨by rw [hvr.sc_inv], hG.os, hG.tape, hG.output, hG.size, fun k hk => hG.frame k hk fun r g l h => by simp [hf] at h⟩
end Go.Proofs.YtfgmmklljibbiaaDoor.Sim

