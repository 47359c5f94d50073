/- Regions of numbers: what reading and writing come to. -/
import Derived.Test.YtfgmmklljibbiaaDoorS17
namespace Go.Proofs.YtfgmmklljibbiaaDoor.Sim
open Go
set_option linter.unusedSimpArgs false
set_option linter.unusedVariables false
/-- Cells that hold numbers of one kind. -/
def ints (k : IntKind) (l : List Int) : List AV := l.map fun n => .sc (.int k n)
def nums (z : ByteArray) : List Int := z.data.toList.map fun b => (b.toNat : Int)
theorem ints_len (k : IntKind) (l : List Int) : (ints k l).length = l.length := by simp [ints]
theorem nums_len (z : ByteArray) : (nums z).length = z.size := by simp [nums]
theorem bytes_ints (z : ByteArray) : z.data.toList.map (fun b => AV.sc (.int .u8 b.toNat)) = ints .u8 (nums z) := by simp [ints, nums]
theorem bytesA_ints (l : List Int) : bytesA (ints .u8 l) = some l := by
  induction l with
  | nil => rfl
  | cons a l ih =>
    show bytesA (.sc (.int .u8 a) :: ints .u8 l) = _
    simp only [bytesA, byteOf, ih]
theorem ints_get (k : IntKind) (l : List Int) (i : Nat) (h : i < l.length) : (ints k l)[i]? = some (.sc (.int k (l.getD i 0))) := by
  simp [ints, h]
theorem ints_set (k : IntKind) (l : List Int) (i : Nat) (v : Int) : (ints k l).set i (.sc (.int k v)) = ints k (l.set i v) := by
  simp [ints, List.map_set]
theorem ints_append (k : IntKind) (a b : List Int) : ints k a ++ ints k b = ints k (a ++ b) := by simp [ints]
theorem ints_take (k : IntKind) (a : List Int) (n : Nat) : (ints k a).take n = ints k (a.take n) := by simp [ints, List.map_take]
theorem ints_drop (k : IntKind) (a : List Int) (n : Nat) : (ints k a).drop n = ints k (a.drop n) := by simp [ints, List.map_drop]
theorem ints_one (k : IntKind) (l : List Int) : (ints k l).all AV.one = true := List.all_eq_true.2 fun a ha => by
  obtain ⟨b, _, rfl⟩ := List.mem_map.1 ha
  rfl
theorem ints_rep (k : IntKind) (n : Nat) (v : Int) : (List.replicate n [AV.sc (.int k v)]).flatten = ints k (List.replicate n v) := by
  induction n with
  | zero => rfl
  | succ n ih => simp only [List.replicate_succ, List.flatten_cons, ih]; rfl
def rdT (ok agg : Bool) (m : Nat) (g : Option Reg) (off : Nat) : Option AV :=
  match g with
  | some g => if ok = true then if agg = true then (if g.live = true ∧ off + m ≤ g.cs.length then some (.agg ((g.cs.drop off).take m)) else none) else (if g.live = true ∧ off + 1 ≤ g.cs.length then g.cs[off]? else none) else none
  | none => none
section
variable {P : Program} {H : AHeap}
theorem rd_def (t : TypeId) (r off : Nat) : rdV P t (.ptr r off) H = rdT (tyOk P t) (aggB P t) (P.cellsOf t) H[r]? off := by
  unfold rdV rdT
  simp only
  cases hg : H[r]? with
  | none => simp [cellsAt, hg]
  | some g =>
    by_cases h1 : tyOk P t = true
    · rw [if_pos h1]
      by_cases h2 : aggB P t = true
      · simp only [h1, h2, if_true, cellsAt, hg]
        split <;> rfl
      · simp only [h1, h2, if_true, if_false, cellsAt, hg]
        by_cases h3 : g.live = true ∧ off + 1 ≤ g.cs.length
        · simp only [h3, and_self, if_true]
          have : (g.cs.drop off).take 1 = [g.cs[off]'(by omega)] := by
            rw [List.drop_eq_getElem_cons (by omega)]
            rfl
          rw [this, List.getElem?_eq_getElem (by omega)]
          rfl
        · simp only [if_neg h3]
          rfl
    · simp [h1]
theorem rd_ints (m : Nat) (k : IntKind) (l : List Int) (own : Bool) (off : Nat) : rdT true false m (some ⟨ints k l, own, true⟩) off = if off < l.length then some (.sc (.int k (l.getD off 0))) else none := by
  simp only [rdT, if_true, ints_len, true_and]
  by_cases h : off < l.length
  · rw [if_pos h]
    simp only [Bool.false_eq_true, if_false]
    rw [if_pos (by omega), ints_get k l off h]
  · rw [if_neg h]
    simp only [Bool.false_eq_true, if_false]
    rw [if_neg (by omega)]
def wrT (ok : Bool) (m : Nat) (H : AHeap) (r : Nat) (g : Option Reg) (off : Nat) (y : AV) : Option AHeap :=
  match g with
  | some g => if g.live = true ∧ g.own = true ∧ ok = true ∧ y.cells.length = m ∧ off + m ≤ g.cs.length ∧ y.cells.all AV.one = true then some (H.set r ⟨overA g.cs off y.cells, true, true⟩) else none
  | none => none
theorem wr_def (t : TypeId) (r off : Nat) (y : AV) : wrV P t (.ptr r off) y H = wrT (tyOk P t) (P.cellsOf t) H r H[r]? off y := by
  unfold wrV wrT
  simp only
  cases hg : H[r]? with
  | none => rfl
  | some g =>
    simp only
    by_cases hc : g.live = true ∧ g.own = true ∧ tyOk P t = true ∧ y.cells.length = P.cellsOf t ∧ off + P.cellsOf t ≤ g.cs.length ∧ y.cells.all AV.one = true
    · rw [if_pos hc, if_pos hc]
      congr 1
      obtain ⟨h1, h2, _⟩ := hc
      unfold setReg
      apply List.ext_getElem?
      intro i
      rw [List.getElem?_modify, List.getElem?_set]
      by_cases hi : r = i
      · subst hi
        rw [hg]
        have := (List.getElem?_eq_some_iff.1 hg).1
        simp [this, h1, h2]
      · simp [hi]
    · rw [if_neg hc, if_neg hc]
theorem wr_ints (k : IntKind) (l : List Int) (r off : Nat) (v : Int) : wrT true 1 H r (some ⟨ints k l, true, true⟩) off (.sc (.int k v)) = if off < l.length then some (H.set r ⟨ints k (l.set off v), true, true⟩) else none := by
  have h1 : (AV.sc (.int k v)).cells = [.sc (.int k v)] := rfl
  have h2 : [AV.sc (.int k v)].all AV.one = true := rfl
  simp only [wrT, h1, List.length_singleton, ints_len, h2, and_true, true_and]
  by_cases h : off < l.length
  · rw [if_pos h, if_pos (by omega)]
    congr 3
    unfold overA
    have hs := List.set_eq_take_append_cons_drop (l := ints k l) (i := off) (a := AV.sc (.int k v))
    rw [← ints_set, hs, if_pos (by rw [ints_len]; exact h)]
    simp
  · rw [if_neg h, if_neg (by omega)]
def atT (g : Option Reg) (off n : Nat) : Option (List AV) :=
  match g with
  | some g => if g.live ∧ off + n ≤ g.cs.length then some ((g.cs.drop off).take n) else none
  | none => none
theorem at_def (r off n : Nat) : cellsAt H r off n = atT H[r]? off n := rfl
theorem at_ints (k : IntKind) (l : List Int) (own : Bool) (off n : Nat) : atT (some ⟨ints k l, own, true⟩) off n = if off + n ≤ l.length then some (ints k ((l.drop off).take n)) else none := by
  simp only [atT, ints_len, true_and, ints_drop, ints_take]
end
end Go.Proofs.YtfgmmklljibbiaaDoor.Sim

