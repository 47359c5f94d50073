/- A region's operations: what the order says, what stands of a text when some of it has been carried out. -/
import Derived.Test.YtfgmmklljibbiaaDoorS9
namespace Go.Proofs.YtfgmmklljibbiaaDoor.Sim
open Go
set_option linter.unusedSimpArgs false
set_option linter.unusedVariables false
/-! ### who comes before whom -/
section
variable {α β : Type}
theorem push_fold (g : Array β → α → β) : ∀ (l : List α) (acc : Array β) (k : Nat), k < acc.size → (l.foldl (fun a o => a.push (g a o)) acc)[k]? = acc[k]?
  | [], _, _, _ => rfl
  | o :: l, acc, k, h => by
    rw [List.foldl_cons, push_fold g l _ k (by simp; omega), Array.getElem?_push]
    rw [if_neg (by omega)]
theorem push_fold_size (g : Array β → α → β) : ∀ (l : List α) (acc : Array β), (l.foldl (fun a o => a.push (g a o)) acc).size = acc.size + l.length
  | [], _ => rfl
  | o :: l, acc => by rw [List.foldl_cons, push_fold_size g l]; simp; omega
theorem push_fold_at (g : Array β → α → β) (l1 : List α) (o : α) (l2 : List α) : ((l1 ++ o :: l2).foldl (fun a o => a.push (g a o)) #[])[l1.length]? = some (g (l1.foldl (fun a o => a.push (g a o)) #[]) o) := by
  rw [List.foldl_append, List.foldl_cons]
  have h := push_fold_size g l1 #[]
  simp only [Array.size_empty, Nat.zero_add] at h
  rw [push_fold g _ _ _ (by simp [h]), Array.getElem?_push, if_pos h.symm]
end
theorem bits_fold (f : Nat → Nat) (i : Nat) : ∀ (l : List Edge) (s : Nat), (l.foldl (fun s e => if Region.binds .any e then s ||| 2 ^ e.on ||| f e.on else s) s).testBit i = true → s.testBit i = true ∨ ∃ e ∈ l, Region.binds .any e = true ∧ (e.on = i ∨ (f e.on).testBit i = true)
  | [], s, h => .inl h
  | e :: l, s, h => by
    rw [List.foldl_cons] at h
    rcases bits_fold f i l _ h with k | ⟨e', h1, h2⟩
    · split at k
      · rename_i hb
        rw [Nat.testBit_or, Nat.testBit_or, Nat.testBit_two_pow] at k
        simp only [Bool.or_eq_true, decide_eq_true_eq] at k
        rcases k with (k | k) | k
        · exact .inl k
        · exact .inr ⟨e, by simp, hb, .inl k⟩
        · exact .inr ⟨e, by simp, hb, .inr k⟩
      · exact .inl k
    · exact .inr ⟨e', by simp [h1], h2⟩
def stp (acc : Array Nat) (o : Oper) : Nat := o.after.foldl (fun s e => if Region.binds .any e then s ||| 2 ^ e.on ||| acc.getD e.on 0 else s) 0
theorem before_eq (ops : Array Oper) : Region.before ops = ops.toList.foldl (fun a o => a.push (stp a o)) #[] := by
  unfold Region.before
  rw [← Array.foldl_toList]
  rfl
theorem stp_bit {acc : Array Nat} {o : Oper} {i : Nat} (h : (stp acc o).testBit i = true) : ∃ e ∈ o.after.toList, Region.binds .any e = true ∧ (e.on = i ∨ (acc.getD e.on 0).testBit i = true) := by
  unfold stp at h
  rw [← Array.foldl_toList] at h
  rcases bits_fold (fun k => acc.getD k 0) i _ _ h with k | h
  · simp at k
  · exact h
attribute [irreducible] stp
section
variable {ops : Array Oper}
theorem before_at {j : Nat} (hj : j < ops.size) : ∃ acc : Array Nat, (Region.before ops)[j]? = some (stp acc (opAt ops j)) ∧ ∀ k, k < j → acc[k]? = (Region.before ops)[k]? := by
  have hsp : ops.toList = ops.toList.take j ++ opAt ops j :: ops.toList.drop (j + 1) := by
    have : opAt ops j = ops.toList[j]'(by simpa using hj) := by simp [opAt, Array.getD, hj]
    rw [this, List.getElem_cons_drop, List.take_append_drop]
  have hlen : (ops.toList.take j).length = j := by simp; omega
  refine ⟨(ops.toList.take j).foldl (fun a o => a.push (stp a o)) #[], ?_, ?_⟩
  · have hat := push_fold_at stp (ops.toList.take j) (opAt ops j) (ops.toList.drop (j + 1))
    rw [hlen, ← hsp] at hat
    rw [before_eq]
    exact hat
  · intro k hk
    have h1 := push_fold stp (ops.toList.drop j) ((ops.toList.take j).foldl (fun a o => a.push (stp a o)) #[]) k (by rw [push_fold_size]; simp; omega)
    rw [← List.foldl_append, List.take_append_drop] at h1
    rw [before_eq]
    exact h1.symm
theorem befAt_inv {i j : Nat} (hj : j < ops.size) (hlt : ∀ e ∈ (opAt ops j).after.toList, Region.binds .any e = true → e.on < j) (h : befAt ops i j = true) : ∃ e ∈ (opAt ops j).after.toList, Region.binds .any e = true ∧ (e.on = i ∨ befAt ops i e.on = true) := by
  obtain ⟨acc, h1, h2⟩ := before_at hj
  unfold befAt bef at h
  rw [List.getD_eq_getElem?_getD, Array.getElem?_toList, h1, Option.getD_some] at h
  obtain ⟨e, k1, k2, k3⟩ := stp_bit h
  refine ⟨e, k1, k2, ?_⟩
  rcases k3 with k3 | k3
  · exact .inl k3
  · refine .inr ?_
    unfold befAt bef
    rw [List.getD_eq_getElem?_getD, Array.getElem?_toList, ← h2 e.on (hlt e k1 k2)]
    rw [Array.getD_eq_getD_getElem?] at k3
    exact k3
end
section
variable {P : Program} {ops : Array Oper}
theorem drawOk_edge (h : drawOk P ops = true) {j : Nat} (hj : j < ops.size) : ∀ e ∈ (opAt ops j).after.toList, Region.binds .any e = true → e.on < j := by
  intro e he hb
  simp only [drawOk, Bool.and_eq_true, List.all_eq_true, List.mem_range] at h
  have := h.1 j hj e he
  simpa [hb] using this
theorem drawOk_pair (h : drawOk P ops = true) {i j : Nat} (hj : j < ops.size) (hi : i < j) : befAt ops i j = true ∨ (¬(isW P (opAt ops i) = true ∧ isW P (opAt ops j) = true) ∧ (∀ d, (opAt ops i).dst = some d → d ∉ looksAt ops (opAt ops j)) ∧ ∀ d, (opAt ops j).dst = some d → d ∉ looksAt ops (opAt ops i)) := by
  simp only [drawOk, Bool.and_eq_true, List.all_eq_true, List.mem_range] at h
  have := h.2 j hj i hi
  rw [Bool.or_eq_true] at this
  rcases this with h | h
  · exact .inl h
  · refine .inr ?_
    rw [Bool.and_eq_true] at h
    obtain ⟨h1, h2⟩ := h
    refine ⟨fun k => by rw [k.1, k.2] at h1; simp at h1, ?_, ?_⟩
    · intro d hd
      simp only [noClash, hd, Bool.and_eq_true] at h2
      simpa using h2.1
    · intro d hd
      simp only [noClash, hd, Bool.and_eq_true] at h2
      simpa using h2.2
theorem dst_looks {o : Oper} {d : Tmp} (h : o.dst = some d) : d ∈ looksAt ops o := by simp [looksAt, h]
end
end Go.Proofs.YtfgmmklljibbiaaDoor.Sim

