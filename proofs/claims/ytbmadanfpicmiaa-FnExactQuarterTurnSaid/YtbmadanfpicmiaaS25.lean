/- Structs. -/
import Derived.Test.YtbmadanfpicmiaaS24
namespace Go.Proofs.Ytbmadanfpicmiaa.Sim
open Go
set_option linter.unusedSimpArgs false
set_option linter.unusedVariables false
def fldT (P : Program) (t : TypeId) (x : AV) (f : Nat) : Option AV := fldV P (P.underlying t) x f
def fadrT (P : Program) (t : TypeId) (x : AV) (f : Nat) : Option AV := fadrV P (P.underlying t) x f
theorem of_agg (cs : Array Value) : ofV (.agg cs) = .agg (cs.toList.map .sc) := rfl
theorem cells_int (k : IntKind) (v : Int) : (AV.sc (.int k v)).cells = [.sc (.int k v)] := rfl
theorem cells_str (z : ByteArray) : (AV.sc (.string z)).cells = [.sc (.string z)] := rfl
theorem cells_bool (b : Bool) : (AV.sc (.bool b)).cells = [.sc (.bool b)] := rfl
theorem cells_nil (p : Option Addr) (m c : Nat) : (AV.sc (.slice p m c)).cells = [.sc (.slice p m c)] := rfl
theorem cells_sl (r off len sz : Nat) : (AV.sl r off len sz).cells = [.sl r off len sz] := rfl
theorem cells_ptr (r off : Nat) : (AV.ptr r off).cells = [.ptr r off] := rfl
theorem cells_agg (cs : List AV) : (AV.agg cs).cells = cs := rfl
theorem one_int (k : IntKind) (v : Int) : (AV.sc (.int k v)).one = true := rfl
theorem one_str (z : ByteArray) : (AV.sc (.string z)).one = true := rfl
theorem one_bool (b : Bool) : (AV.sc (.bool b)).one = true := rfl
theorem one_nil (p : Option Addr) (m c : Nat) : (AV.sc (.slice p m c)).one = true := rfl
theorem one_sl (r off len sz : Nat) : (AV.sl r off len sz).one = true := rfl
theorem one_ptr (r off : Nat) : (AV.ptr r off).one = true := rfl
theorem over_0 (a : AV) (cs : List AV) (y : AV) : overA (a :: cs) 0 [y] = y :: cs := rfl
theorem over_s (a : AV) (cs ys : List AV) (off : Nat) : overA (a :: cs) (off + 1) ys = a :: overA cs off ys := by
  simp [overA, Nat.add_right_comm]
theorem over_all (cs ys : List AV) (h : ys.length = cs.length) : overA cs 0 ys = ys := by
  simp [overA, h]
section
variable {P : Program} {ops : Array Oper} {K : St → Prop} {n : Nat} {T : Nat → AV} {H : AHeap} {d : Tmp} {ty : TypeId} {pos : String} {af : Array Edge}
theorem g_fieldT (t : TypeId) (x : Operand) (f : Nat) : opG P ops ⟨some d, .field t x f, ty, pos, af, none⟩ K ⟨tab n T, H⟩ = onS (fldT P t (ev (tab n T) x) f) fun v => K ⟨tab n (upd T d v), H⟩ := g_field t x f
theorem g_fieldAddrT (t : TypeId) (x : Operand) (f : Nat) : opG P ops ⟨some d, .fieldAddr t x f, ty, pos, af, none⟩ K ⟨tab n T, H⟩ = onS (fadrT P t (ev (tab n T) x) f) fun v => K ⟨tab n (upd T d v), H⟩ := g_fieldAddr t x f
/-- A field of one cell. -/
theorem fld_one {t ft o : Nat} {fs : Array Field} {f : Nat} (hu : P.underlying t = some (.struct fs)) (hf : (fs[f]?).map (fun fd => (fd.type, fd.offset)) = some (ft, o)) (ht : tyOk P ft = true) (ha : aggB P ft = false) (cs : List AV) : fldT P t (.agg cs) f = cs[o]? := by
  simp only [Option.map_eq_some_iff, Prod.mk.injEq] at hf
  obtain ⟨fd, hf, rfl, rfl⟩ := hf
  simp [fldT, hu, fldV, hf, ht, partA, ha]
theorem fadr_st {t ft o : Nat} {fs : Array Field} {f : Nat} (hu : P.underlying t = some (.struct fs)) (hf : (fs[f]?).map (fun fd => (fd.type, fd.offset)) = some (ft, o)) (ht : tyOk P ft = true) (hc : P.cellsOf ft ≠ 0) (r off : Nat) : fadrT P t (.ptr r off) f = some (.ptr r (off + o)) := by
  simp only [Option.map_eq_some_iff, Prod.mk.injEq] at hf
  obtain ⟨fd, hf, rfl, rfl⟩ := hf
  simp [fadrT, hu, fadrV, hf, ht, hc]
theorem rd_aggc (m : Nat) (a : AV) (cs : List AV) (own : Bool) (off : Nat) : rdT true true m (some ⟨a :: cs, own, true⟩) off = if off + m ≤ (a :: cs).length then some (.agg (((a :: cs).drop off).take m)) else none := by
  simp only [rdT, if_true, true_and]
theorem rd_onec (m : Nat) (a : AV) (cs : List AV) (own : Bool) (off : Nat) : rdT true false m (some ⟨a :: cs, own, true⟩) off = (a :: cs)[off]? := by
  simp only [rdT, if_true, true_and, Bool.false_eq_true, if_false]
  by_cases h : off + 1 ≤ (a :: cs).length
  · rw [if_pos h]
  · rw [if_neg h, List.getElem?_eq_none (by omega)]
theorem wr_c (m : Nat) (a : AV) (cs : List AV) (r off : Nat) (y : AV) : wrT true m H r (some ⟨a :: cs, true, true⟩) off y = if y.cells.length = m ∧ off + m ≤ (a :: cs).length ∧ y.cells.all AV.one = true then some (H.set r ⟨overA (a :: cs) off y.cells, true, true⟩) else none := by
  simp only [wrT, true_and]
end
end Go.Proofs.Ytbmadanfpicmiaa.Sim

