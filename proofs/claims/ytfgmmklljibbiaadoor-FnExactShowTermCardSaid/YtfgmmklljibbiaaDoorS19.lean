/- More steps: guards, what is made, what is appended. -/
import Derived.Test.YtfgmmklljibbiaaDoorS18
namespace Go.Proofs.YtfgmmklljibbiaaDoor.Sim
open Go
set_option linter.unusedSimpArgs false
set_option linter.unusedVariables false
section
variable {P : Program} {ops : Array Oper} {K : St → Prop} {n : Nat} {T : Nat → AV} {H : AHeap} {d : Tmp} {ty : TypeId} {pos : String} {af : Array Edge}
/-! guards -/
def dstAt : List Oper → Nat → Option Tmp
  | [], _ => none
  | o :: _, 0 => o.dst
  | _ :: l, k + 1 => dstAt l k
theorem dstAt_0 (o : Oper) (l : List Oper) : dstAt (o :: l) 0 = o.dst := rfl
theorem dstAt_s (o : Oper) (l : List Oper) (k : Nat) : dstAt (o :: l) (k + 1) = dstAt l k := rfl
theorem dstAt_eq : ∀ (l : List Oper) (j : Nat), (l[j]?).bind (·.dst) = dstAt l j
  | [], _ => rfl
  | _ :: _, 0 => rfl
  | _ :: l, j + 1 => dstAt_eq l j
def boolOf (v : AV) : Option Bool :=
  match v with
  | .sc (.bool b) => some b
  | _ => none
theorem boolOf_b (b : Bool) : boolOf (.sc (.bool b)) = some b := rfl
def ybv (n : Nat) (T : Nat → AV) (t : Option Tmp) : Option Bool :=
  match t with
  | some t => if t < n then boolOf (T t) else none
  | none => none
theorem ybv_some (t : Tmp) (h : t < n) : ybv n T (some t) = boolOf (T t) := if_pos h
theorem yielded_tab (j : Nat) : yieldedA ops (tab n T) j = ybv n T (dstAt ops.toList j) := by
  unfold yieldedA ybv
  rw [← dstAt_eq, ← Array.getElem?_toList]
  cases ((ops.toList[j]?).bind (·.dst)) with
  | none => rfl
  | some t =>
    simp only [Option.bind_some, tab, List.getElem?_map]
    by_cases h : t < n
    · rw [List.getElem?_range h, if_pos h]
      simp only [Option.map_some, boolOf]
      cases T t with
      | sc v => cases v <;> rfl
      | _ => rfl
    · rw [List.getElem?_eq_none (by rw [List.length_range]; exact Nat.le_of_not_lt h), if_neg h]
      rfl
theorem g_guard_t {dd : Option Tmp} {op : Op} {j : Nat} {want : Bool} (h : yieldedA ops (tab n T) j = some want) : opG P ops ⟨dd, op, ty, pos, af, some (j, want)⟩ K ⟨tab n T, H⟩ = opG P ops ⟨dd, op, ty, pos, af, none⟩ K ⟨tab n T, H⟩ := by
  rw [g_guard]
  simp only [h]
  simp
theorem g_guard_f {op : Op} {j : Nat} {want : Bool} (h : yieldedA ops (tab n T) j = some (!want)) : opG P ops ⟨some d, op, ty, pos, af, some (j, want)⟩ K ⟨tab n T, H⟩ = K ⟨tab n (upd T d und), H⟩ := by
  rw [g_guard]
  simp only [h]
  have : (some (!want) == some want) = false := by cases want <;> rfl
  simp only [this, St.put, set_tab]
/-! pairs -/
theorem ext_0 (a : AV) (l : List AV) : extV (.tup (a :: l)) 0 = some a := rfl
theorem ext_1 (a b : AV) (l : List AV) : extV (.tup (a :: b :: l)) 1 = some b := rfl
theorem ext_2 (a b c : AV) (l : List AV) : extV (.tup (a :: b :: c :: l)) 2 = some c := rfl
theorem ext_3 (a b c d : AV) (l : List AV) : extV (.tup (a :: b :: c :: d :: l)) 3 = some d := rfl
/-! what is made -/
theorem g_alloc (t : TypeId) : opG P ops ⟨some d, .alloc t, ty, pos, af, none⟩ K ⟨tab n T, H⟩ = alK ((zeroA P t).map fun z => (z, fun r => .ptr r 0)) H fun v H' => K ⟨tab n (upd T d v), H'⟩ := by
  have e : evAlloc P (tab n T) (.alloc t) = (zeroA P t).map fun z => (z, fun r => .ptr r 0) := rfl
  simp only [opG, opW, clsOf, e, set_tab]
  cases (zeroA P t).map fun z => (z, fun r => AV.ptr r 0) <;> rfl
theorem g_box (t : TypeId) (x : Operand) : opG P ops ⟨some d, .box t x, ty, pos, af, none⟩ K ⟨tab n T, H⟩ = alK (some ((ev (tab n T) x).cells, fun r => .ptr r 0)) H fun v H' => K ⟨tab n (upd T d v), H'⟩ := by
  have e : evAlloc P (tab n T) (.box t x) = some ((ev (tab n T) x).cells, fun r => .ptr r 0) := rfl
  simp only [opG, opW, clsOf, e, set_tab]
  rfl
theorem alK_some (cs : List AV) (mk : Nat → AV) (Q : AV → AHeap → Prop) : alK (some (cs, mk)) H Q = (cs.all AV.one = true ∧ Q (mk H.length) (H ++ [⟨cs, true, true⟩])) := rfl
def bsV (P : Program) (e : Option TypeDesc) (len : Nat) (parts : List (Nat × AV)) : Option (List AV × (Nat → AV)) :=
    match e with
    | some (.slice e) => match zeroA P e with
      | some z =>
        if tyOk P e = true ∧ 0 < P.cellsOf e ∧ z.length = P.cellsOf e ∧ len * P.cellsOf e ≤ 16777216 then
          (fillA (fun i => some (i * P.cellsOf e, P.cellsOf e)) ((List.replicate len z).flatten) parts).map fun cs => (cs, fun r => .sl r 0 len (P.cellsOf e))
        else none
      | none => none
    | _ => none
theorem g_buildSlice (t : TypeId) (len : Nat) (parts : Array (Nat × Operand)) : opG P ops ⟨some d, .buildSlice t len parts, ty, pos, af, none⟩ K ⟨tab n T, H⟩ = alK (bsV P (P.underlying t) len (parts.toList.map fun p => (p.1, ev (tab n T) p.2))) H fun v H' => K ⟨tab n (upd T d v), H'⟩ := by
  have e : evAlloc P (tab n T) (.buildSlice t len parts) = bsV P (P.underlying t) len (parts.toList.map fun p => (p.1, ev (tab n T) p.2)) := rfl
  simp only [opG, opW, clsOf, e, set_tab]
  cases bsV P (P.underlying t) len (parts.toList.map fun p => (p.1, ev (tab n T) p.2)) <;> rfl
/-- The numbers that are laid, one by one. -/
def lay : List Int → List (Nat × Int) → List Int
  | l, [] => l
  | l, (i, v) :: r => lay (l.set i v) r
theorem fill_ints (k : IntKind) : ∀ (ps : List (Nat × Int)) (l : List Int), (∀ p, p ∈ ps → p.1 < l.length) → fillA (fun i => some (i * 1, 1)) (ints k l) (ps.map fun p => (p.1, AV.sc (.int k p.2))) = some (ints k (lay l ps))
  | [], l, _ => rfl
  | (i, v) :: ps, l, h => by
    have hi : i < l.length := h (i, v) (by simp)
    have hc : (AV.sc (.int k v)).cells = [.sc (.int k v)] := rfl
    simp only [List.map_cons, fillA, hc, List.length_singleton, ints_len, lay, true_and, Nat.mul_one]
    rw [if_pos (by omega)]
    have : overA (ints k l) i [.sc (.int k v)] = ints k (l.set i v) := by
      have hs := List.set_eq_take_append_cons_drop (l := ints k l) (i := i) (a := AV.sc (.int k v))
      rw [← ints_set, hs, if_pos (by rw [ints_len]; exact hi)]
      simp [overA]
    rw [this]
    have := fill_ints k ps (l.set i v) (fun p hp => by rw [List.length_set]; exact h p (List.mem_cons_of_mem _ hp))
    simpa using this
/-- A slice of numbers, written out. -/
theorem bs_ints (k : IntKind) (e : TypeId) (len : Nat) (ps : List (Nat × Int)) (hz : zeroA P e = some [.sc (.int k 0)]) (ht : tyOk P e = true) (hc : P.cellsOf e = 1) (hl : len ≤ 16777216) (hp : ∀ p, p ∈ ps → p.1 < len) :
    bsV P (some (.slice e)) len (ps.map fun p => (p.1, .sc (.int k p.2))) = some (ints k (lay (List.replicate len 0) ps), fun r => .sl r 0 len 1) := by
  simp only [bsV, hz, ht, hc, List.length_singleton, Nat.mul_one, true_and]
  rw [if_pos ⟨by omega, hl⟩, ints_rep]
  have := fill_ints k ps (List.replicate len 0) (by simpa using hp)
  simp only [Nat.mul_one] at this
  rw [this]
  rfl
def mkV (P : Program) (e : Option TypeDesc) (l c : AV) : Option (List AV × (Nat → AV)) :=
    match e, l, c with
    | some (.slice e), .sc (.int _ n), .sc (.int _ m) => match P.info? e, zeroA P e with
      | some i, some z =>
        if 0 ≤ n ∧ n = m ∧ n ≤ 140737488355328 ∧ i.bytes * n ≤ 281474976710656 ∧ 0 < P.cellsOf e ∧ z.length = P.cellsOf e then some ((List.replicate n.toNat z).flatten, fun r => .sl r 0 n.toNat (P.cellsOf e)) else none
      | _, _ => none
    | _, _, _ => none
theorem g_makeSlice (t : TypeId) (l c : Operand) : opG P ops ⟨some d, .makeSlice t l c, ty, pos, af, none⟩ K ⟨tab n T, H⟩ = alK (mkV P (P.underlying t) (ev (tab n T) l) (ev (tab n T) c)) H fun v H' => K ⟨tab n (upd T d v), H'⟩ := by
  have e : evAlloc P (tab n T) (.makeSlice t l c) = mkV P (P.underlying t) (ev (tab n T) l) (ev (tab n T) c) := rfl
  simp only [opG, opW, clsOf, e, set_tab]
  cases mkV P (P.underlying t) (ev (tab n T) l) (ev (tab n T) c) <;> rfl
theorem mk_ints (k : IntKind) (e : TypeId) (a b : IntKind) (m : Int) (B : Nat) (hz : zeroA P e = some [.sc (.int k 0)]) (hi : (P.info? e).map (·.bytes) = some B) (hc : P.cellsOf e = 1) (h0 : 0 ≤ m) (h1 : m ≤ 140737488355328) (h2 : B * m ≤ 281474976710656) :
    mkV P (some (.slice e)) (.sc (.int a m)) (.sc (.int b m)) = some (ints k (List.replicate m.toNat 0), fun r => .sl r 0 m.toNat 1) := by
  simp only [Option.map_eq_some_iff] at hi
  obtain ⟨i, hi, rfl⟩ := hi
  simp only [mkV, hz, hi, hc, List.length_singleton, ints_rep]
  rw [if_pos ⟨h0, trivial, h1, h2, by omega, trivial⟩]
theorem g_build (t : TypeId) (parts : Array (Nat × Operand)) : opG P ops ⟨some d, .build t parts, ty, pos, af, none⟩ K ⟨tab n T, H⟩ = onS (evPure P (tab n T) (.build t parts)) fun v => K ⟨tab n (upd T d v), H⟩ := g_pure rfl
end
end Go.Proofs.YtfgmmklljibbiaaDoor.Sim

