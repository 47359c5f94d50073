/- Rows of flat cells: a slice of them, whole; a row's numbers. -/
import Derived.Test.YtfgmmklljibbiaaDoorFEntryV
import Derived.Test.YtfgmmklljibbiaaDoorFHap
namespace Go.Proofs.YtfgmmklljibbiaaDoor.Sim
open Go
set_option maxRecDepth 100000
set_option linter.unusedSimpArgs false
set_option linter.unusedVariables false
section
variable {ks : List Kd}
theorem IsR.nil (H : AHeap) : IsR H (.sc (.slice none 0 0)) ([] : List (Rw ks)) := .inl ⟨rfl, rfl⟩
theorem IsR.at {H : AHeap} {r n m : Nat} {own : Bool} {l : List (Rw ks)} (h : H[r]? = some ⟨rows Rw.cs l, own, true⟩) (hn : l.length = n) (hm : ks.length = m) : IsR H (.sl r 0 n m) l := .inr ⟨r, own, by rw [hn, hm], h⟩
theorem IsR.len {H : AHeap} {x : AV} {l : List (Rw ks)} (e : TypeId) (h : IsR H x l) : lenV (some (.slice e)) x = some (.sc (.int .i64 l.length)) := by
  rcases h with ⟨rfl, rfl⟩ | ⟨r, own, rfl, _⟩ <;> rfl
theorem IsR.get {H : AHeap} {x : AV} {l : List (Rw ks)} (h : IsR H x l) {i : Nat} (hi : i < l.length) : ∃ r own, x = .sl r 0 l.length ks.length ∧ H[r]? = some ⟨rows Rw.cs l, own, true⟩ := by
  rcases h with ⟨rfl, rfl⟩ | h
  · simp at hi
  · exact h
theorem IsR.one {H : AHeap} {x : AV} {l : List (Rw ks)} (h : IsR H x l) : x.cells = [x] ∧ x.one = true := by
  rcases h with ⟨rfl, rfl⟩ | ⟨r, own, rfl, _⟩ <;> exact ⟨rfl, rfl⟩
theorem Ext.isR {H Z : AHeap} (a : Ext H Z) {y : AV} {l : List (Rw ks)} (h : IsR H y l) : IsR Z y l := by
  rcases h with ⟨rfl, rfl⟩ | ⟨q, o, rfl, hq⟩
  · exact .nil _
  · exact .inr ⟨q, o, _root_.rfl, a.at hq⟩
def Kd.zero : Kd → Value
  | .b => .bool false
  | .s => .string ByteArray.empty
  | .i k => .int k 0
theorem Kd.zero_ok (k : Kd) : k.ok k.zero := by
  cases k with
  | b => exact ⟨_, rfl⟩
  | s => exact ⟨_, rfl, by decide⟩
  | i k => exact ⟨_, rfl, by cases k <;> rfl⟩
def Rw.zero (ks : List Kd) : Rw ks := ⟨ks.map Kd.zero, by rw [List.length_map], fun i k v h1 h2 => by
  rw [List.getElem?_map, h1] at h2
  simp only [Option.map_some, Option.some.injEq] at h2
  subst h2
  exact k.zero_ok⟩
def Rw.int (r : Rw ks) (j : Nat) : Int := match r.val[j]? with | some (.int _ n) => n | _ => 0
theorem Rw.int_at (r : Rw ks) (j : Nat) {k : IntKind} (h : ks[j]? = some (.i k)) : r.cs[j]? = some (.sc (.int k (r.int j))) ∧ (Lit.int k (r.int j)).wf = true := by
  have hl : j < r.val.length := by rw [r.ok.1]; exact (List.getElem?_eq_some_iff.1 h).1
  have hv := List.getElem?_eq_getElem hl
  obtain ⟨n, hn, hw⟩ := r.ok.2 j _ _ h hv
  rw [hn] at hv
  have e : r.int j = n := by simp only [Rw.int, hv]
  rw [e]
  exact ⟨by rw [Rw.cs, List.getElem?_map, hv]; rfl, hw⟩
theorem Rw.bool_at (r : Rw ks) (j : Nat) (h : ks[j]? = some .b) : ∃ b, r.cs[j]? = some (.sc (.bool b)) := by
  have hl : j < r.val.length := by rw [r.ok.1]; exact (List.getElem?_eq_some_iff.1 h).1
  have hv := List.getElem?_eq_getElem hl
  obtain ⟨b, hb⟩ := r.ok.2 j _ _ h hv
  rw [hb] at hv
  exact ⟨b, by rw [Rw.cs, List.getElem?_map, hv]; rfl⟩
theorem Rw.cs_len (r : Rw ks) : r.cs.length = ks.length := by rw [Rw.cs, List.length_map]; exact r.ok.1
theorem Rw.flat (r : Rw ks) : Flat (.agg r.cs) := .agg fun a ha => by
  obtain ⟨v, _, rfl⟩ := List.mem_map.1 ha
  exact .sc v
theorem wf_le {n : Int} (h : (Lit.int .i64 n).wf = true) : n ≤ 9223372036854775807 := by
  simp only [Lit.wf, Bool.and_eq_true, decide_eq_true_eq] at h
  exact h.2
theorem cpy_row {α : Type} (d : α) (l : List α) (i : Nat) (a : α) (h : l[i]? = some a) : (l.take i ++ List.replicate (l.length - i) d).set i a = l.take (i + 1) ++ List.replicate (l.length - (i + 1)) d := by
  have hi : i < l.length := (List.getElem?_eq_some_iff.1 h).1
  obtain ⟨m, hm⟩ : ∃ m, l.length - i = m + 1 := ⟨l.length - i - 1, by omega⟩
  rw [hm, show l.length - (i + 1) = m by omega, List.set_append_right _ _ (by rw [List.length_take]; omega), List.length_take, Nat.min_eq_left (by omega), Nat.sub_self, List.replicate_succ, List.set_cons_zero, List.take_add_one, h, List.append_assoc]
  rfl
end
theorem ovC (a : AV) (cs : List AV) (y : AV) (ys : List AV) : overA (a :: cs) 0 (y :: ys) = y :: overA cs 0 ys := by simp [overA]
theorem ovN (cs : List AV) : overA cs 0 [] = cs := by simp [overA]
end Go.Proofs.YtfgmmklljibbiaaDoor.Sim

