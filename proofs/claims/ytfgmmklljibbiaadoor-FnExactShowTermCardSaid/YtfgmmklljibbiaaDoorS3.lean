/- The operations that look into no memory: what the second semantics tells is what the machine yields, in every world. -/
import Derived.Test.YtfgmmklljibbiaaDoorS2
import Derived.Laws.Build
namespace Go.Proofs.YtfgmmklljibbiaaDoor.Sim
open Go
set_option linter.unusedSimpArgs false
section
variable {P : Program} {ρ : Ren} {ts : List AV} {A : Act}
theorem tyOk_u {t : TypeId} (h : tyOk P t = true) : ∃ d, P.underlying t = some d := by
  unfold tyOk at h; rw [Bool.and_eq_true] at h; exact Option.isSome_iff_exists.1 h.2
theorem tyOk_i {t : TypeId} (h : tyOk P t = true) : ∃ i, P.info? t = some i := by
  unfold tyOk at h; rw [Bool.and_eq_true] at h; exact Option.isSome_iff_exists.1 h.1
theorem run_sizeOf {t : TypeId} (h : tyOk P t = true) (w : World) : (sizeOf t).run P w = .ok (P.cellsOf t) w := by
  obtain ⟨i, hi⟩ := tyOk_i h
  simp [sizeOf, typeInfo, hi, Program.cellsOf]
theorem run_isAgg {t : TypeId} (h : tyOk P t = true) (w : World) : (isAgg t).run P w = .ok (aggB P t) w := by
  obtain ⟨d, hd⟩ := tyOk_u h
  simp only [isAgg, Sem.run_bind, run_underlying hd, Result.andThen_ok, aggB, hd]
  cases d <;> rfl
theorem ext_list (vs : Array Value) (a b : Nat) : (vs.extract a b).toList = (vs.toList.drop a).take (b - a) := by
  simp [Array.toList_extract, List.extract_eq_take_drop]
theorem run_part {t : TypeId} {cs : List AV} {vs : Array Value} {off : Nat} {v : AV} (ht : tyOk P t = true) (hr : LR ρ cs vs.toList) (h : partA P t cs off = some v) (w : World) : ∃ cv, (part t vs off).run P w = .ok cv w ∧ VR ρ v cv := by
  unfold partA at h
  simp only [part, Sem.run_bind, run_isAgg ht, Result.andThen_ok]
  by_cases hb : aggB P t = true
  · rw [if_pos hb] at h
    split at h
    · injection h with h; subst h
      rw [if_pos hb]
      simp only [Sem.run_bind, run_sizeOf ht, Result.andThen_ok, Sem.run_pure]
      refine ⟨_, rfl, ?_⟩
      have h2 := (hr.drop off).take (P.cellsOf t)
      refine .agg ?_ ?_
      · have := h2.1
        rw [this]
        have e := congrArg List.length (ext_list vs off (off + P.cellsOf t))
        rw [Array.length_toList] at e
        rw [e]
        simp
      · intro i a v ha hv
        rw [ext_list, Nat.add_sub_cancel_left] at hv
        exact h2.2 i a v ha hv
    · cases h
  · rw [if_neg hb] at h ⊢
    obtain ⟨cv, hcv, hr2⟩ := hr.get h
    rw [Array.getElem?_toList] at hcv
    exact ⟨cv, by simp [hcv], hr2⟩
theorem fold_set (us : List Value) : ∀ (k : Nat) (cells : Array Value) (off : Nat), off + k + us.length ≤ cells.size →
    ((us.zipIdx k).foldl (fun cs (c, j) => cs.setIfInBounds (off + j) c) cells).toList = cells.toList.take (off + k) ++ us ++ cells.toList.drop (off + k + us.length) := by
  induction us with
  | nil => intro k cells off h; simp
  | cons u us ih =>
    intro k cells off h
    simp only [List.length_cons] at h
    simp only [List.zipIdx_cons, List.foldl_cons]
    rw [ih (k + 1) _ off (by simp; omega), Array.toList_setIfInBounds]
    have hm : off + k < cells.toList.length := by rw [Array.length_toList]; omega
    rw [List.set_eq_take_append_cons_drop, if_pos hm]
    have ht : (cells.toList.take (off + k)).length = off + k := by rw [List.length_take]; omega
    rw [show off + (k + 1) = (cells.toList.take (off + k)).length + 1 by omega, List.take_length_add_append, show (cells.toList.take (off + k)).length + 1 + us.length = (cells.toList.take (off + k)).length + (1 + us.length) by omega, List.drop_length_add_append, List.take_succ_cons, List.take_zero, Nat.add_comm 1, List.drop_succ_cons, List.drop_drop]
    simp only [List.append_assoc, List.singleton_append, List.cons_append, List.length_cons, List.nil_append]
    rw [show off + k + 1 + us.length = off + k + (us.length + 1) by omega]
theorem run_fill {place : Nat → Option (Nat × Nat)} : ∀ (parts : List (Nat × AV)) (vparts : List (Nat × Value)) (cs : List AV) (vs : Array Value) (cs' : List AV),
    parts.length = vparts.length → (∀ (i : Nat) (p : Nat × AV) (q : Nat × Value), parts[i]? = some p → vparts[i]? = some q → p.1 = q.1 ∧ LR ρ p.2.cells q.2.cells.toList) →
    LR ρ cs vs.toList → fillA place cs parts = some cs' → ∃ vs', Instr.fill place vs vparts = some vs' ∧ LR ρ cs' vs'.toList := by
  intro parts
  induction parts with
  | nil =>
    intro vparts cs vs cs' hl _ hr h
    cases vparts with
    | nil => simp only [fillA, Option.some.injEq] at h; subst h; exact ⟨vs, rfl, hr⟩
    | cons => simp at hl
  | cons p parts ih =>
    intro vparts cs vs cs' hl hp hr h
    cases vparts with
    | nil => simp at hl
    | cons q vparts =>
      obtain ⟨i, a⟩ := p
      obtain ⟨j, u⟩ := q
      obtain ⟨e, hc⟩ := hp 0 _ _ rfl rfl
      simp only at e hc
      subst e
      simp only [fillA] at h
      simp only [Instr.fill]
      cases hpl : place i with
      | none => rw [hpl] at h; cases h
      | some os =>
        obtain ⟨off, size⟩ := os
        rw [hpl] at h
        simp only at h
        split at h
        · rename_i hh
          obtain ⟨h1, h2⟩ := hh
          have hcl : a.cells.length = u.cells.size := by have := hc.1; rwa [Array.length_toList] at this
          have hcs : cs.length = vs.size := by have := hr.1; rwa [Array.length_toList] at this
          have hfs := fold_set u.cells.toList 0 vs off (by rw [Array.length_toList]; omega)
          simp only [Nat.add_zero] at hfs
          have hnot : (u.cells.size ≠ size || decide (off + u.cells.size > vs.size)) = false := by
            rw [← hcl, ← hcs, h1]; simp; omega
          simp only [Nat.add_zero]
          rw [if_neg (by
            intro hx
            have : (u.cells.size ≠ size || decide (off + u.cells.size > vs.size)) = true := by simpa using hx
            rw [hnot] at this; cases this)]
          refine ih vparts _ _ cs' (by simpa using hl) (fun i p q hp1 hq1 => hp (i + 1) p q (by simpa using hp1) (by simpa using hq1)) ?_ h
          have he : (u.cells.zipIdx.foldl (fun cs (x : Value × Nat) => cs.setIfInBounds (off + x.2) x.1) vs).toList = vs.toList.take off ++ u.cells.toList ++ vs.toList.drop (off + u.cells.toList.length) := by
            rw [← hfs, ← Array.foldl_toList, Array.toList_zipIdx]
          rw [he]
          exact hr.over hc off
        · cases h
theorem bnd_inv {x : Option Operand} {d l : Nat} (ht : LR ρ ts A.tmps.toList) (h : bnd ts x d = some l) : (x = none ∧ l = d) ∨ ∃ y k n, x = some y ∧ A.eval y = .int k n ∧ 0 ≤ n ∧ l = n.toNat := by
  cases x with
  | none => simp only [bnd, Option.some.injEq] at h; exact .inl ⟨rfl, h.symm⟩
  | some y =>
    have hy := VR.eval ht y
    simp only [bnd] at h
    cases he : ev ts y with
    | sc v =>
      rw [he] at h hy
      have e := hy.sc_inv
      cases v <;> simp only [reduceCtorEq] at h
      rename_i k n
      split at h
      · injection h with h; exact .inr ⟨y, k, n, rfl, e, by assumption, h.symm⟩
      · cases h
    | _ => rw [he] at h; simp at h
theorem run_bounds {isSlice : Bool} {len cap l h : Nat} {lo hi : Option Operand} (ht : LR ρ ts A.tmps.toList) (hlo : bnd ts lo 0 = some l) (hhi : bnd ts hi len = some h) (hlh : l ≤ h) (hc : h ≤ cap) (w : World) :
    (Instr.sliceBounds isSlice len cap (lo.map A.eval) (hi.map A.eval) none).run P w = .ok (l, h, cap) w := by
  rcases bnd_inv ht hlo with ⟨rfl, rfl⟩ | ⟨y, k, n, rfl, e1, n0, rfl⟩ <;> rcases bnd_inv ht hhi with ⟨rfl, rfl⟩ | ⟨z, k2, m, rfl, e2, m0, rfl⟩
  · simp [Instr.sliceBounds]
  · have h1 : 0 ≤ m ∧ m ≤ (cap : Int) := ⟨m0, by omega⟩
    simp [Instr.sliceBounds, e2, Instr.sliceBound, asIntOf, h1]
  · have h1 : 0 ≤ n ∧ n ≤ (h : Int) := ⟨n0, by omega⟩
    simp [Instr.sliceBounds, e1, Instr.sliceBound, asIntOf, h1]
  · have h1 : 0 ≤ m ∧ m ≤ (cap : Int) := ⟨m0, by omega⟩
    have h2 : 0 ≤ n ∧ n ≤ ((m.toNat : Nat) : Int) := ⟨n0, by omega⟩
    have h2' : n ≤ max m 0 := by omega
    simp [Instr.sliceBounds, e1, e2, Instr.sliceBound, asIntOf, h1, n0, h2']
end
end Go.Proofs.YtfgmmklljibbiaaDoor.Sim

