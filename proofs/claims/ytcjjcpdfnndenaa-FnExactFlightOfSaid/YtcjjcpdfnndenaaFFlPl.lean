/- Sorted, one of each: what the program makes of a list is what the reference makes. -/
import Derived.Test.YtcjjcpdfnndenaaFSrt
import Derived.Test.YtcjjcpdfnndenaaFSortSl
namespace Go.Proofs.Ytcjjcpdfnndenaa.Sim
open Go
set_option maxRecDepth 100000
set_option maxHeartbeats 4000000
set_option linter.unusedSimpArgs false
set_option linter.unusedVariables false
theorem asc_eq : ∀ (a b : List Int), a.Pairwise (· < ·) → b.Pairwise (· < ·) → (∀ x, x ∈ a ↔ x ∈ b) → a = b
  | [], [], _, _, _ => rfl
  | [], y :: b, _, _, h => by have := (h y).2 (List.mem_cons_self ..); cases this
  | x :: a, [], _, _, h => by have := (h x).1 (List.mem_cons_self ..); cases this
  | x :: a, y :: b, ha, hb, h => by
    rw [List.pairwise_cons] at ha hb
    have e : x = y := by
      rcases List.mem_cons.1 ((h x).1 (List.mem_cons_self ..)) with e | e
      · exact e
      · rcases List.mem_cons.1 ((h y).2 (List.mem_cons_self ..)) with e' | e'
        · exact e'.symm
        · have := hb.1 x e
          have := ha.1 y e'
          omega
    subst e
    rw [asc_eq a b ha.2 hb.2 fun z => ?_]
    constructor
    · intro hz
      rcases List.mem_cons.1 ((h z).1 (List.mem_cons_of_mem _ hz)) with e | e
      · have := ha.1 z hz; omega
      · exact e
    · intro hz
      rcases List.mem_cons.1 ((h z).2 (List.mem_cons_of_mem _ hz)) with e | e
      · have := hb.1 z hz; omega
      · exact e
theorem cmp_asc (d : Array Int) (hs : ∀ i j, i ≤ j → j < d.size → d[i]! ≤ d[j]!) : ∀ m, m ≤ d.size → (Lib.compactUpTo d m).Pairwise (· < ·) ∧ (∀ x, x ∈ Lib.compactUpTo d m ↔ ∃ j, j < m ∧ d[j]! = x)
  | 0, _ => by simp [Lib.compactUpTo]
  | m + 1, h => by
    obtain ⟨ih1, ih2⟩ := cmp_asc d hs m (by omega)
    rw [Lib.compactUpTo_succ]
    by_cases hk : Lib.keeps d m = true
    · rw [if_pos hk]
      constructor
      · rw [List.pairwise_append]
        refine ⟨ih1, by simp, fun a ha b hb => ?_⟩
        rw [List.mem_singleton] at hb
        subst hb
        obtain ⟨j, hj, rfl⟩ := (ih2 a).1 ha
        have hm : m ≠ 0 := by omega
        have h1 := hs j (m - 1) (by omega) (by omega)
        have h2 := hs (m - 1) m (by omega) (by omega)
        have h3 : d[m]! ≠ d[m - 1]! := by
          simp only [Lib.keeps] at hk
          rcases of_decide_eq_true hk with h | h
          · exact absurd h hm
          · exact h
        omega
      · intro x
        rw [List.mem_append, ih2, List.mem_singleton]
        constructor
        · rintro (⟨j, hj, e⟩ | rfl)
          · exact ⟨j, by omega, e⟩
          · exact ⟨m, by omega, rfl⟩
        · rintro ⟨j, hj, e⟩
          rcases Nat.lt_or_ge j m with k | k
          · exact .inl ⟨j, k, e⟩
          · exact .inr (by rw [← e, show j = m by omega])
    · rw [if_neg hk, List.append_nil]
      refine ⟨ih1, fun x => ?_⟩
      rw [ih2]
      constructor
      · rintro ⟨j, hj, e⟩
        exact ⟨j, by omega, e⟩
      · rintro ⟨j, hj, e⟩
        rcases Nat.lt_or_ge j m with k | k
        · exact ⟨j, k, e⟩
        · have h0 : j = m := by omega
          subst h0
          have hj0 : j ≠ 0 := by
            rintro rfl
            simp [Lib.keeps] at hk
          refine ⟨j - 1, by omega, ?_⟩
          simp only [Lib.keeps, decide_eq_true_eq, not_or, ne_eq, Decidable.not_not] at hk
          rw [← e, hk.2]
theorem compact_asc (l : List Int) (hs : l.Pairwise (· ≤ ·)) : (Lib.compact l).Pairwise (· < ·) ∧ ∀ x, x ∈ Lib.compact l ↔ x ∈ l := by
  obtain ⟨h1, h2⟩ := cmp_asc l.toArray (fun i j hij hj => by
    have hj : j < l.length := by simpa using hj
    have hi : i < l.length := by omega
    have e : ∀ k, k < l.length → l.toArray[k]! = l.getD k 0 := fun k hk => by simp [hk]
    rw [e i hi, e j hj]
    rcases Nat.lt_or_ge i j with k | k
    · have := List.pairwise_iff_getElem.1 hs i j hi hj k
      simpa [List.getD_eq_getElem?_getD, hi, hj] using this
    · rw [show i = j by omega]; exact Int.le_refl _) l.length (by simp)
  refine ⟨h1, fun x => (h2 x).trans ?_⟩
  constructor
  · rintro ⟨j, hj, e⟩
    rw [← e]
    have : l.toArray[j]! = l[j] := by simp [hj]
    rw [this]
    exact List.getElem_mem hj
  · intro h
    obtain ⟨j, hj, e⟩ := List.getElem_of_mem h
    exact ⟨j, hj, by rw [← e]; simp [hj]⟩
theorem ins_mem2 (v : Int) : ∀ (l : List Int) (x : Int), x ∈ ins v l ↔ x = v ∨ x ∈ l
  | [], x => by simp [ins]
  | a :: r, x => by
    rw [ins]
    split
    · simp
    · rw [List.mem_cons, ins_mem2 v r x, List.mem_cons]
      constructor
      · rintro (h | h | h) <;> simp [h]
      · rintro (h | h | h) <;> simp [h]
theorem fold_mem : ∀ (l out : List Int) (x : Int), x ∈ l.foldl flStep out ↔ x ∈ out ∨ (x ∈ l ∧ 0 ≤ x ∧ x ≤ 9999)
  | [], out, x => by simp
  | a :: r, out, x => by
    rw [List.foldl_cons, fold_mem r, flStep]
    by_cases h1 : 0 ≤ a ∧ a ≤ 9999
    · by_cases h2 : a ∈ out
      · rw [if_neg (fun h => h.2 h2)]
        constructor
        · rintro (h | ⟨h, k⟩)
          · exact .inl h
          · exact .inr ⟨List.mem_cons_of_mem _ h, k⟩
        · rintro (h | ⟨h, k⟩)
          · exact .inl h
          · rcases List.mem_cons.1 h with rfl | h
            · exact .inl h2
            · exact .inr ⟨h, k⟩
      · rw [if_pos ⟨h1, h2⟩, ins_mem2]
        constructor
        · rintro ((rfl | h) | ⟨h, k⟩)
          · exact .inr ⟨List.mem_cons_self .., h1⟩
          · exact .inl h
          · exact .inr ⟨List.mem_cons_of_mem _ h, k⟩
        · rintro (h | ⟨h, k⟩)
          · exact .inl (.inr h)
          · rcases List.mem_cons.1 h with rfl | h
            · exact .inl (.inl rfl)
            · exact .inr ⟨h, k⟩
    · rw [if_neg (fun h => h1 h.1)]
      constructor
      · rintro (h | ⟨h, k⟩)
        · exact .inl h
        · exact .inr ⟨List.mem_cons_of_mem _ h, k⟩
      · rintro (h | ⟨h, k⟩)
        · exact .inl h
        · rcases List.mem_cons.1 h with rfl | h
          · exact absurd k h1
          · exact .inr ⟨h, k⟩
def inR (l : List Int) : List Int := l.filter fun v => decide (0 ≤ v ∧ v ≤ 9999)
theorem inR_s (l : List Int) (i : Nat) (h : i < l.length) : inR (l.take (i + 1)) = if 0 ≤ l.getD i 0 ∧ l.getD i 0 ≤ 9999 then inR (l.take i) ++ [l.getD i 0] else inR (l.take i) := by
  rw [take_s l i h, inR, List.filter_append]
  by_cases c : 0 ≤ l.getD i 0 ∧ l.getD i 0 ≤ 9999
  · rw [if_pos c, List.filter_cons_of_pos (by simpa using c)]
    rfl
  · rw [if_neg c, List.filter_cons_of_neg (by simpa using c)]
    simp [inR]
theorem inR_len (l : List Int) : (inR l).length ≤ l.length := List.length_filter_le _ _
theorem srtL_len (l : List Int) : (srtL l).length = l.length := by simp [srtL]
theorem flOf_compact (l : List Int) : Lib.compact (srtL (inR l)) = flOf l := by
  have hs : (srtL (inR l)).Pairwise (· ≤ ·) := by
    have := List.pairwise_mergeSort (le := fun x y : Int => decide (x ≤ y)) (fun a b c h1 h2 => by simp only [decide_eq_true_eq] at *; omega) (fun a b => by simp only [Bool.or_eq_true, decide_eq_true_eq]; omega) (inR l)
    simpa [srtL] using this
  obtain ⟨h1, h2⟩ := compact_asc _ hs
  refine asc_eq _ _ h1 (flOf_ok l).1.1 fun x => ?_
  rw [h2, flOf, fold_mem]
  simp [srtL, inR, List.mem_mergeSort]
end Go.Proofs.Ytcjjcpdfnndenaa.Sim

