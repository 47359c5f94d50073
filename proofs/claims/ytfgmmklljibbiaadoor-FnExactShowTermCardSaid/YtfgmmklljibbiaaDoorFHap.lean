/- Heaps: all is as it was, more may be there. -/
import Derived.Test.YtfgmmklljibbiaaDoorTy
import Derived.Test.YtfgmmklljibbiaaDoorChecked
namespace Go.Proofs.YtfgmmklljibbiaaDoor.Sim
open Go
set_option linter.unusedSimpArgs false
set_option linter.unusedVariables false
theorem g_guard_v {P : Program} {ops : Array Oper} {K : St → Prop} {n : Nat} {T : Nat → AV} {H : AHeap} {d : Tmp} {ty : TypeId} {pos : String} {af : Array Edge} {op : Op} {j : Nat} {want : Bool} (h : yieldedA ops (tab n T) j = none) : opG P ops ⟨some d, op, ty, pos, af, some (j, want)⟩ K ⟨tab n T, H⟩ = K ⟨tab n (upd T d und), H⟩ := by
  rw [g_guard]
  simp only [h]
  have : ((none : Option Bool) == some want) = false := rfl
  simp only [this, St.put, set_tab]
theorem bo_v : boolOf und = none := rfl
theorem hap_0 (H Y : AHeap) : (H ++ Y)[H.length]? = Y[0]? := by
  rw [List.getElem?_append_right (Nat.le_refl _), Nat.sub_self]
theorem hap_k (H Y : AHeap) (k : Nat) : (H ++ Y)[H.length + k]? = Y[k]? := by
  rw [List.getElem?_append_right (by omega), Nat.add_sub_cancel_left]
theorem hset_0 (H Y : AHeap) (g : Reg) : (H ++ Y).set H.length g = H ++ Y.set 0 g := by
  rw [List.set_append_right _ _ (Nat.le_refl _), Nat.sub_self]
theorem hset_k (H Y : AHeap) (k : Nat) (g : Reg) : (H ++ Y).set (H.length + k) g = H ++ Y.set k g := by
  rw [List.set_append_right _ _ (by omega), Nat.add_sub_cancel_left]
theorem hkill_k (H Y : AHeap) (k : Nat) : killReg (H ++ Y) (H.length + k) = H ++ killReg Y k := by
  simp only [killReg]
  apply List.ext_getElem?
  intro i
  rw [List.getElem?_modify]
  by_cases h : i < H.length
  · have : ¬ H.length + k = i := by omega
    simp only [List.getElem?_append_left h, this, if_false]
    cases H[i]? <;> rfl
  · rw [List.getElem?_append_right (by omega), List.getElem?_append_right (by omega), List.getElem?_modify]
    have e : (H.length + k = i) = (k = i - H.length) := propext ⟨fun h => by omega, fun h => by omega⟩
    simp only [e]
theorem hkill_0 (H Y : AHeap) : killReg (H ++ Y) H.length = H ++ killReg Y 0 := hkill_k H Y 0
theorem at_lt {H : AHeap} {r : Nat} {g : Reg} (h : H[r]? = some g) : r < H.length := (List.getElem?_eq_some_iff.1 h).1
theorem kill_at (H : AHeap) (q r : Nat) (h : r ≠ q) : (killReg H q)[r]? = H[r]? := by
  simp only [killReg, List.getElem?_modify]
  have : ¬ q = r := fun e => h e.symm
  simp [this]
/-- All is as it was; more may be there. -/
def Ext (H Z : AHeap) : Prop := H.length ≤ Z.length ∧ ∀ i, i < H.length → Z[i]? = H[i]?
theorem Ext.refl (H : AHeap) : Ext H H := ⟨Nat.le_refl _, fun _ _ => _root_.rfl⟩
theorem Ext.trans {H Z Y : AHeap} (a : Ext H Z) (b : Ext Z Y) : Ext H Y := ⟨Nat.le_trans a.1 b.1, fun i h => (b.2 i (Nat.lt_of_lt_of_le h a.1)).trans (a.2 i h)⟩
theorem Ext.more (H Y : AHeap) : Ext H (H ++ Y) := ⟨by rw [List.length_append]; omega, fun i h => at_more _ _ _ h⟩
theorem Ext.kill {H Z : AHeap} (a : Ext H Z) {q : Nat} (hq : H.length ≤ q) : Ext H (killReg Z q) := ⟨by rw [kill_len]; exact a.1, fun i h => (kill_at _ _ _ (by omega)).trans (a.2 i h)⟩
theorem Ext.set {H Z : AHeap} (a : Ext H Z) {q : Nat} (hq : H.length ≤ q) (g : Reg) : Ext H (Z.set q g) := ⟨by rw [List.length_set]; exact a.1, fun i h => (List.getElem?_set_ne (by omega)).trans (a.2 i h)⟩
theorem Ext.add {H Z : AHeap} (a : Ext H Z) (Y : AHeap) : Ext H (Z ++ Y) := a.trans (.more _ _)
theorem Ext.at {H Z : AHeap} (a : Ext H Z) {r : Nat} {g : Reg} (h : H[r]? = some g) : Z[r]? = some g := (a.2 r (at_lt h)).trans h
theorem Ext.isL {H Z : AHeap} (a : Ext H Z) {y : AV} {k : IntKind} {l : List Int} (h : IsL H y k l) : IsL Z y k l := by
  rcases h with ⟨rfl, rfl⟩ | ⟨q, o, rfl, hq⟩
  · exact .nil _ _
  · exact .inr ⟨q, o, _root_.rfl, a.at hq⟩
theorem Ext.isB {H Z : AHeap} (a : Ext H Z) {y : AV} {l : List Bool} (h : IsB H y l) : IsB Z y l := by
  rcases h with ⟨rfl, rfl⟩ | ⟨q, o, rfl, hq⟩
  · exact .nil _
  · exact .inr ⟨q, o, _root_.rfl, a.at hq⟩
/-- What is read is the same, though the memory has changed elsewhere. -/
theorem same_ld {P : Program} {ops : Array Oper} {hs : List St} {j k : Nat} (t : TypeId) (x : Operand) (r off : Nat) (ho : (opAt ops j).op = .load t x) (hv : ev (hs.getD (ops.size - j) ⟨[], []⟩).ts x = .ptr r off) (h : (hs.getD (ops.size - k) ⟨[], []⟩).H[r]? = (hs.getD (ops.size - j) ⟨[], []⟩).H[r]?) : sameRead P ops hs (j, k) := fun _ => .inr <| by
  show evRead P (hs.getD (ops.size - j) ⟨[], []⟩).ts (opAt ops j).op (hs.getD (ops.size - k) ⟨[], []⟩).H = evRead P (hs.getD (ops.size - j) ⟨[], []⟩).ts (opAt ops j).op (hs.getD (ops.size - j) ⟨[], []⟩).H
  rw [ho]
  simp only [evRead, hv, cellsAt, h]
theorem ev_cv {P : Program} {ts : List AV} {H G : AHeap} (t u : TypeId) (x : Operand) (r off len sz : Nat) (hv : ev ts x = .sl r off len sz) (h : H[r]? = G[r]?) : evRead P ts (.convert t u x) H = evRead P ts (.convert t u x) G := by
  have hc : cellsAt H r off len = cellsAt G r off len := by unfold cellsAt; rw [h]
  unfold evRead
  simp only [hv]
  cases P.underlying t with
  | none => rfl
  | some D =>
    cases D <;> first | rfl | skip
    cases P.underlying u with
    | none => rfl
    | some E =>
      cases E <;> first | rfl | skip
      simp only [hc]
theorem same_cv {P : Program} {ops : Array Oper} {hs : List St} {j k : Nat} (t u : TypeId) (x : Operand) (r off len sz : Nat) (ho : (opAt ops j).op = .convert t u x) (hv : ev (hs.getD (ops.size - j) ⟨[], []⟩).ts x = .sl r off len sz) (h : (hs.getD (ops.size - k) ⟨[], []⟩).H[r]? = (hs.getD (ops.size - j) ⟨[], []⟩).H[r]?) : sameRead P ops hs (j, k) := fun _ => .inr <| by
  show evRead P (hs.getD (ops.size - j) ⟨[], []⟩).ts (opAt ops j).op (hs.getD (ops.size - k) ⟨[], []⟩).H = evRead P (hs.getD (ops.size - j) ⟨[], []⟩).ts (opAt ops j).op (hs.getD (ops.size - j) ⟨[], []⟩).H
  rw [ho]
  exact ev_cv t u x r off len sz hv h
end Go.Proofs.YtfgmmklljibbiaaDoor.Sim

