/- Ascending numbers: put in place, kept, left. -/
import Derived.Test.YtcjjcpdfnndenaaFFlight5
namespace Go.Proofs.Ytcjjcpdfnndenaa.Sim
open Go
set_option maxRecDepth 100000
set_option maxHeartbeats 4000000
set_option linter.unusedSimpArgs false
set_option linter.unusedVariables false
def Srt (l : List Int) : Prop := l.Pairwise (· < ·) ∧ ∀ v ∈ l, 0 ≤ v ∧ v ≤ 9999
theorem srt_up {l : List Int} (h : Srt l) : UpL l := by
  intro i hi
  refine ⟨h.2 _ (get_mem l i hi), fun h0 => ?_⟩
  have := List.pairwise_iff_getElem.1 h.1 (i - 1) i (by omega) hi (by omega)
  rw [List.getD_eq_getElem?_getD, List.getD_eq_getElem?_getD, List.getElem?_eq_getElem hi, List.getElem?_eq_getElem (by omega)]
  exact this
theorem up_srt {l : List Int} (h : UpL l) : Srt l := by
  refine ⟨?_, fun v hv => ?_⟩
  · rw [List.pairwise_iff_getElem]
    intro i j hi hj hij
    have := up_lt h i (j - i - 1) (by omega)
    have e : i + (j - i - 1) + 1 = j := by omega
    rw [e] at this
    simp only [List.getD_eq_getElem?_getD, List.getElem?_eq_getElem hi, List.getElem?_eq_getElem hj, Option.getD_some] at this
    exact this
  · obtain ⟨i, hi, rfl⟩ := mem_get hv
    exact (h i hi).1
theorem up_filter {l : List Int} (h : UpL l) (p : Int → Bool) : UpL (l.filter p) := srt_up ⟨(up_srt h).1.filter p, fun v hv => (up_srt h).2 v (List.mem_filter.1 hv).1⟩
def ins (v : Int) : List Int → List Int
  | [] => [v]
  | a :: r => if v < a then v :: a :: r else a :: ins v r
theorem ins_len (v : Int) : ∀ l, (ins v l).length = l.length + 1
  | [] => rfl
  | a :: r => by
    rw [ins]
    split
    · rfl
    · rw [List.length_cons, ins_len v r, List.length_cons]
theorem ins_mem (v : Int) : ∀ (l : List Int) (x : Int), x ∈ ins v l → x = v ∨ x ∈ l
  | [], x, h => by simp [ins] at h; exact .inl h
  | a :: r, x, h => by
    rw [ins] at h
    split at h
    · simpa using h
    · rcases List.mem_cons.1 h with h | h
      · exact .inr (List.mem_cons.2 (.inl h))
      · exact (ins_mem v r x h).imp id fun h => List.mem_cons_of_mem _ h
theorem ins_srt (v : Int) : ∀ l : List Int, l.Pairwise (· < ·) → v ∉ l → (ins v l).Pairwise (· < ·)
  | [], _, _ => by simp [ins]
  | a :: r, h, hn => by
    rw [List.pairwise_cons] at h
    rw [ins]
    split
    · rename_i hv
      exact List.pairwise_cons.2 ⟨fun x hx => by
        rcases List.mem_cons.1 hx with rfl | hx
        · exact hv
        · exact Int.lt_trans hv (h.1 x hx), List.pairwise_cons.2 h⟩
    · rename_i hv
      refine List.pairwise_cons.2 ⟨fun x hx => ?_, ins_srt v r h.2 fun hm => hn (List.mem_cons_of_mem _ hm)⟩
      rcases ins_mem v r x hx with rfl | hx
      · have : x ≠ a := fun e => hn (e ▸ List.mem_cons_self ..)
        omega
      · exact h.1 x hx
theorem ins_end (v : Int) : ∀ l : List Int, (∀ x ∈ l, ¬ v < x) → ins v l = l ++ [v]
  | [], _ => rfl
  | a :: r, h => by
    rw [ins, if_neg (h a (List.mem_cons_self ..)), ins_end v r fun x hx => h x (List.mem_cons_of_mem _ hx)]
    rfl
theorem ins_here (v a : Int) (h2 : v < a) : ∀ l : List Int, (∀ x ∈ l, ¬ v < x) → ins v (l ++ [a]) = l ++ [v] ++ [a]
  | [], _ => by simp [ins, h2]
  | b :: r, h => by
    rw [List.cons_append, ins, if_neg (h b (List.mem_cons_self ..)), ins_here v a h2 r fun x hx => h x (List.mem_cons_of_mem _ hx)]
    rfl
theorem ins_past (v a : Int) : ∀ l : List Int, (∃ x ∈ l, v < x) → ins v (l ++ [a]) = ins v l ++ [a]
  | [], h => by obtain ⟨x, hx, _⟩ := h; cases hx
  | b :: r, h => by
    rw [List.cons_append, ins, ins]
    split
    · rfl
    · rename_i hb
      have : ∃ x ∈ r, v < x := by
        obtain ⟨x, hx, hv⟩ := h
        rcases List.mem_cons.1 hx with rfl | hx
        · exact absurd hv hb
        · exact ⟨x, hx, hv⟩
      rw [ins_past v a r this]
      rfl
def flStep (out : List Int) (v : Int) : List Int := if (0 ≤ v ∧ v ≤ 9999) ∧ ¬ v ∈ out then ins v out else out
def flOf (l : List Int) : List Int := l.foldl flStep []
theorem flOf_s (l : List Int) (i : Nat) (h : i < l.length) : flOf (l.take (i + 1)) = flStep (flOf (l.take i)) (l.getD i 0) := by
  rw [take_s l i h, flOf, flOf, List.foldl_append]
  rfl
theorem flStep_srt {out : List Int} (h : Srt out) (v : Int) : Srt (flStep out v) := by
  unfold flStep
  split
  · rename_i hv
    exact ⟨ins_srt v out h.1 hv.2, fun x hx => by
      rcases ins_mem v out x hx with rfl | hx
      · exact hv.1
      · exact h.2 x hx⟩
  · exact h
theorem flStep_len (out : List Int) (v : Int) : (flStep out v).length ≤ out.length + 1 := by
  unfold flStep
  split
  · rw [ins_len]; omega
  · omega
theorem flOf_ok (l : List Int) : Srt (flOf l) ∧ (flOf l).length ≤ l.length := by
  suffices h : ∀ (l out : List Int), Srt out → Srt (l.foldl flStep out) ∧ (l.foldl flStep out).length ≤ out.length + l.length by
    have := h l [] ⟨List.Pairwise.nil, fun v hv => by cases hv⟩
    simpa [flOf] using this
  intro l
  induction l with
  | nil => intro out h; exact ⟨h, by simp⟩
  | cons a l ih =>
    intro out h
    have := ih (flStep out a) (flStep_srt h a)
    have hl := flStep_len out a
    exact ⟨this.1, by rw [List.foldl_cons, List.length_cons]; omega⟩
/- What is acknowledged and what is left. -/
theorem ack_all (s g : List Int) : ackL s g (leftL s g) = s := by
  unfold ackL
  rw [List.filter_eq_self]
  intro v hv
  by_cases h : v ∈ g
  · simp [h]
  · have : v ∈ leftL s g := List.mem_filter.2 ⟨hv, by simp [h]⟩
    simp [this]
theorem left_none (s : List Int) : leftL s s = [] := by
  unfold leftL
  rw [List.filter_eq_nil_iff]
  intro v hv
  simp [hv]
theorem left_fewer (s g l : List Int) (hg : ∀ v ∈ g, v ∈ s) : (leftL s (ackL s g l)).length ≤ (leftL s g).length := by
  unfold leftL
  rw [← List.countP_eq_length_filter, ← List.countP_eq_length_filter]
  refine List.countP_mono_left fun v hv h => ?_
  simp only [decide_eq_true_eq] at h ⊢
  intro hm
  exact h (List.mem_filter.2 ⟨hg v hm, by simp [hm]⟩)
theorem left_count (s g l : List Int) : (leftL s (ackL s g l)).length + (ackL s g l).length = s.length := by
  have e : leftL s (ackL s g l) = s.filter fun v => ! decide (v ∈ g ∨ v ∈ l) := by
    unfold leftL
    apply List.filter_congr
    intro v hv
    have : (v ∈ ackL s g l) ↔ (v ∈ g ∨ v ∈ l) := by simp [ackL, List.mem_filter, hv]
    simp only [this, decide_not]
  rw [e, ackL, ← List.countP_eq_length_filter, ← List.countP_eq_length_filter]
  have := List.length_eq_countP_add_countP (p := fun v => decide (v ∈ g ∨ v ∈ l)) (l := s)
  rw [Nat.add_comm, this]
  congr 1
  apply List.countP_congr
  intro v hv
  simp
theorem ack_in (s g l : List Int) : ∀ v ∈ ackL s g l, v ∈ s := fun v hv => (List.mem_filter.1 hv).1
end Go.Proofs.Ytcjjcpdfnndenaa.Sim

