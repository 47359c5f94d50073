/- Memory: writing (a store, an append). -/
import Derived.Test.YtfgmmklljibbiaaDoorS6
namespace Go.Proofs.YtfgmmklljibbiaaDoor.Sim
open Go
set_option linter.unusedSimpArgs false
set_option linter.unusedVariables false
structure Wr (w w' : World) (b : Nat) (c : Array Value) (e : TypeId) (fz : Nat × Nat) : Prop where
  os : w'.os = w.os
  tape : w'.tape = w.tape
  output : w'.output = w.output
  size : w'.heap.size = w.heap.size
  other : ∀ k, k ≠ b → w'.heap[k]? = w.heap[k]?
  new : w'.heap[b]? = some (.cells c e fz)
theorem wr_one {P : Program} {w : World} {b i : Nat} {c : Array Value} {e : TypeId} {fz : Nat × Nat} {v : Value} (hb : w.heap[b]? = some (.cells c e fz)) (hi : i < c.size) (hz : ¬(fz.1 ≤ i ∧ i < fz.2)) (hv : v.oneCell' = true) :
    (store ⟨b, i, none⟩ v).run P w = .ok () (w.setCell ⟨b, i, none⟩ v) ∧ Wr w (w.setCell ⟨b, i, none⟩ v) b (c.setIfInBounds i v) e fz := by
  have hc : w.cell? ⟨b, i, none⟩ = some (c[i]'hi) := by simp [World.cell?, hb, hi]
  have hf : w.frozen? ⟨b, i, none⟩ = false := by
    simp only [World.frozen?, hb]
    simpa using hz
  refine ⟨by rw [run_store P w _ v .plain hv, hc]; simp [hf], rfl, rfl, rfl, ?_, ?_, ?_⟩
  · simp [World.setCell]
  · intro k hk
    simp only [World.setCell, Array.getElem?_modify]
    rw [if_neg (Ne.symm hk)]
  · simp only [World.setCell, Array.getElem?_modify, if_true, hb, Option.map_some]
    simp
theorem wr_all {P : Program} {b off : Nat} {e : TypeId} {fz : Nat × Nat} : ∀ (vs : List Value) (i : Nat) (c : Array Value) (w : World), w.heap[b]? = some (.cells c e fz) → off + i + vs.length ≤ c.size → (∀ j, j < c.size → ¬(fz.1 ≤ j ∧ j < fz.2)) → (∀ u ∈ vs, u.oneCell' = true) →
    ∃ w' c', (storeCells ⟨b, off, none⟩ vs i).run P w = .ok () w' ∧ Wr w w' b c' e fz ∧ c'.size = c.size ∧ c'.toList = c.toList.take (off + i) ++ vs ++ c.toList.drop (off + i + vs.length) := by
  intro vs
  induction vs with
  | nil => intro i c w hb hl hz hv; exact ⟨w, c, rfl, ⟨rfl, rfl, rfl, rfl, fun _ _ => rfl, hb⟩, rfl, by simp⟩
  | cons v vs ih =>
    intro i c w hb hl hz hv
    simp only [List.length_cons] at hl
    obtain ⟨h1, h2⟩ := wr_one (P := P) (i := off + i) hb (by omega) (hz _ (by omega)) (hv v (by simp))
    obtain ⟨w', c', k1, k2, k3, k4⟩ := ih (i + 1) _ _ h2.new (by simp; omega) (by simpa using hz) (fun u hu => hv u (by simp [hu]))
    refine ⟨w', c', ?_, ⟨k2.os.trans h2.os, k2.tape.trans h2.tape, k2.output.trans h2.output, k2.size.trans h2.size, fun k hk => (k2.other k hk).trans (h2.other k hk), k2.new⟩, by simpa using k3, ?_⟩
    · simp only [storeCells, Sem.run_bind, Addr.add_lit, h1, Result.andThen_ok]
      exact k1
    · rw [k4, Array.toList_setIfInBounds]
      have hm : off + i < c.toList.length := by rw [Array.length_toList]; omega
      rw [List.set_eq_take_append_cons_drop, if_pos hm]
      have ht : (c.toList.take (off + i)).length = off + i := by rw [List.length_take]; omega
      rw [show off + (i + 1) = (c.toList.take (off + i)).length + 1 by omega, List.take_length_add_append, show (c.toList.take (off + i)).length + 1 + vs.length = (c.toList.take (off + i)).length + (1 + vs.length) by omega, List.drop_length_add_append, List.take_succ_cons, List.take_zero, Nat.add_comm 1, List.drop_succ_cons, List.drop_drop]
      simp only [List.append_assoc, List.singleton_append, List.cons_append, List.length_cons, List.nil_append]
      rw [show off + i + 1 + vs.length = off + i + (vs.length + 1) by omega]
section
variable {ρ : Ren} {base M N : Nat} {h : Nat → Option Reg} {w w' : World}
theorem rel_store {r : Nat} {g : Reg} {l : Loc} {c' : Array Value} {e : TypeId} {fz : Nat × Nat} {cs' : List AV} (hR : Rel M ρ base h w) (hr : h r = some g) (hl : g.live = true) (ho : g.own = true) (hρ : ρ r = some l) (hw : Wr w w' l.b c' e fz)
    (hn : c'.size = l.n) (hc : cs'.length ≤ l.n) (hLR : LR ρ cs' (c'.toList.take cs'.length)) (hz : ∀ i, i < l.n → ¬(fz.1 ≤ i ∧ i < fz.2)) :
    Rel M ρ base (fun r' => if r' = r then some { g with cs := cs' } else h r') w' ∧ Grow M N ρ h w ρ (fun r' => if r' = r then some { g with cs := cs' } else h r') w' := by
  obtain ⟨_, _, _, _, _, _, _, hown, _⟩ := hR.reg r g l hr hl hρ
  obtain ⟨hlo, hbase, _⟩ := hown ho
  have apart : ∀ r' g' l', r' ≠ r → h r' = some g' → g'.live = true → ρ r' = some l' → l'.b ≠ l.b := by
    intro r' g' l' hne h1 h2 h3 e
    cases ho' : g'.own with
    | true => exact hne (hR.inj r' r g' g l' l h1 hr h2 hl ho' ho h3 hρ e)
    | false =>
      obtain ⟨_, _, _, _, _, _, _, _, hro⟩ := hR.reg r' g' l' h1 h2 h3
      have := hro ho'
      omega
  refine ⟨⟨⟨by rw [hw.size]; exact hR.bs.1, hR.bs.2.keep fun b hb => hw.other b (by omega)⟩, fun r' l' hh => by rw [hw.size]; exact hR.lt r' l' hh, ?_, ?_, ?_, ?_⟩, hw.os, hw.tape, hw.output, by rw [hw.size]; exact Nat.le_refl _, ?_, fun _ _ k => k, ?_, ?_, ?_, ?_, fun _ _ => rfl⟩
  · intro r' l' hh
    by_cases e : r' = r
    · exact .inl ⟨_, if_pos e⟩
    · rcases hR.dom r' l' hh with ⟨g', hg'⟩ | hM
      · exact .inl ⟨g', by simp only [if_neg e]; exact hg'⟩
      · exact .inr hM
  · intro r' g' hg
    by_cases e : r' = r
    · rw [e]; exact hR.top r g hr
    · simp only [if_neg e] at hg; exact hR.top r' g' hg
  · intro r' g' l' hg hlive hh
    by_cases e : r' = r
    · subst e
      simp only [if_true, Option.some.injEq] at hg
      subst hg
      rw [hρ] at hh
      injection hh with hh
      subst hh
      refine ⟨c', _, fz, hw.new, hn, by rw [hlo]; simpa using hc, by rw [hlo]; simpa using hLR, fun _ => ⟨hlo, hbase, hz⟩, fun k => ?_⟩
      simp only at k
      rw [ho] at k
      cases k
    · simp only [if_neg e] at hg
      exact (hR.reg r' g' l' hg hlive hh).mono (fun _ _ k => k) (hw.other _ (apart r' g' l' e hg hlive hh))
  · intro r1 r2 g1 g2 l1 l2 h1 h2 e1 e2 o1 o2 p1 p2 hb
    have fix : ∀ r' g', (if r' = r then some { g with cs := cs' } else h r') = some g' → g'.live = true → g'.own = true → ∃ g'', h r' = some g'' ∧ g''.live = true ∧ g''.own = true := by
      intro r' g' hh q1 q2
      by_cases e : r' = r
      · subst e; exact ⟨g, hr, hl, ho⟩
      · rw [if_neg e] at hh; exact ⟨g', hh, q1, q2⟩
    obtain ⟨a1, b1, c1, d1⟩ := fix r1 g1 h1 e1 o1
    obtain ⟨a2, b2, c2, d2⟩ := fix r2 g2 h2 e2 o2
    exact hR.inj r1 r2 a1 a2 l1 l2 b1 b2 c1 c2 d1 d2 p1 p2 hb
  · intro b hb hno
    exact hw.other b (fun e => hno r g l hr hl ho hρ e.symm)
  · intro r' g' _ hg hnone
    have : r' ≠ r := by rintro rfl; rw [hρ] at hnone; cases hnone
    exact ⟨hnone, if_neg this⟩
  · intro r' l' a b
    rw [a] at b; cases b
  · intro r' g1 g2 hg1 hg2 hlv
    by_cases e : r' = r
    · subst e
      simp only [if_true, Option.some.injEq] at hg2
      subst hg2
      rw [hr] at hg1
      injection hg1 with hg1
      subst hg1
      exact ⟨hl, rfl⟩
    · simp only [if_neg e] at hg2
      rw [hg1] at hg2
      injection hg2 with hg2
      subst hg2
      exact ⟨hlv, rfl⟩
  · intro r' g' hg
    by_cases e : r' = r
    · exact ⟨_, if_pos e⟩
    · exact ⟨g', by simp only [if_neg e]; exact hg⟩
theorem rel_room {r id : Nat} {g : Reg} {l : Loc} {c' : Array Value} {e : TypeId} {fz : Nat × Nat} {cs' : List AV} (hR : Rel M ρ base h w) (hr : h r = some g) (hl : g.live = true) (ho : g.own = true) (hρ : ρ r = some l) (hid : h id = none) (hρid : ρ id = none) (hM : id < M) (hw : Wr w w' l.b c' e fz)
    (hn : c'.size = l.n) (hc : cs'.length ≤ l.n) (hLR : LR ρ cs' (c'.toList.take cs'.length)) (hz : ∀ i, i < l.n → ¬(fz.1 ≤ i ∧ i < fz.2)) :
    Rel M (fun r' => if r' = id then some l else ρ r') base (fun r' => if r' = id then some ⟨cs', true, true⟩ else if r' = r then some { g with live := false } else h r') w' ∧
    Grow M N ρ h w (fun r' => if r' = id then some l else ρ r') (fun r' => if r' = id then some ⟨cs', true, true⟩ else if r' = r then some { g with live := false } else h r') w' := by
  obtain ⟨_, _, _, _, _, _, _, hown, _⟩ := hR.reg r g l hr hl hρ
  obtain ⟨hlo, hbase, _⟩ := hown ho
  have ext : ∀ r' l', ρ r' = some l' → (fun r' => if r' = id then some l else ρ r') r' = some l' := by
    intro r' l' hh
    have : r' ≠ id := by rintro rfl; rw [hρid] at hh; cases hh
    simp only [if_neg this]; exact hh
  have apart : ∀ r' g' l', r' ≠ r → h r' = some g' → g'.live = true → ρ r' = some l' → l'.b ≠ l.b := by
    intro r' g' l' hne h1 h2 h3 e
    cases ho' : g'.own with
    | true => exact hne (hR.inj r' r g' g l' l h1 hr h2 hl ho' ho h3 hρ e)
    | false =>
      obtain ⟨_, _, _, _, _, _, _, _, hro⟩ := hR.reg r' g' l' h1 h2 h3
      have := hro ho'
      omega
  have olds : ∀ r' g', r' ≠ id → (if r' = id then some ⟨cs', true, true⟩ else if r' = r then some { g with live := false } else h r') = some g' → g'.live = true → r' ≠ r ∧ h r' = some g' := by
    intro r' g' h1 h2 h3
    rw [if_neg h1] at h2
    by_cases e : r' = r
    · rw [if_pos e] at h2
      injection h2 with h2
      subst h2
      cases h3
    · rw [if_neg e] at h2
      exact ⟨e, h2⟩
  refine ⟨⟨⟨by rw [hw.size]; exact hR.bs.1, hR.bs.2.keep fun b hb => hw.other b (by omega)⟩, ?_, ?_, ?_, ?_, ?_⟩, hw.os, hw.tape, hw.output, by rw [hw.size]; exact Nat.le_refl _, ?_, ext, ?_, ?_, ?_, ?_, fun r' hr' => if_neg (by omega)⟩
  · intro r' l' hh
    rw [hw.size]
    by_cases e : r' = id
    · simp only [if_pos e, Option.some.injEq] at hh
      subst hh
      exact hR.lt r _ hρ
    · simp only [if_neg e] at hh
      exact hR.lt r' l' hh
  · intro r' l' hh
    by_cases e : r' = id
    · exact .inl ⟨_, if_pos e⟩
    · simp only [if_neg e] at hh ⊢
      by_cases e2 : r' = r
      · exact .inl ⟨_, if_pos e2⟩
      · rcases hR.dom r' l' hh with ⟨g', hg'⟩ | hM
        · exact .inl ⟨g', by rw [if_neg e2]; exact hg'⟩
        · exact .inr hM
  · intro r' g' hg
    by_cases e : r' = id
    · rw [e]; exact hM
    · simp only [if_neg e] at hg
      by_cases e2 : r' = r
      · rw [e2]; exact hR.top r g hr
      · rw [if_neg e2] at hg; exact hR.top r' g' hg
  · intro r' g' l' hg hlive hh
    by_cases e : r' = id
    · simp only [if_pos e, Option.some.injEq] at hg hh
      subst hg; subst hh
      exact ⟨c', _, fz, hw.new, hn, by rw [hlo]; simpa using hc, by rw [hlo]; simpa using hLR.mono ext, fun _ => ⟨hlo, hbase, hz⟩, fun k => by cases k⟩
    · obtain ⟨e2, hg2⟩ := olds r' g' e hg hlive
      simp only [if_neg e] at hh
      exact (hR.reg r' g' l' hg2 hlive hh).mono ext (hw.other _ (apart r' g' l' e2 hg2 hlive hh))
  · intro r1 r2 g1 g2 l1 l2 h1 h2 e1 e2 o1 o2 p1 p2 hb
    by_cases k1 : r1 = id
    · by_cases k2 : r2 = id
      · rw [k1, k2]
      · obtain ⟨q1, q2⟩ := olds r2 g2 k2 h2 e2
        simp only [if_pos k1, Option.some.injEq] at p1
        simp only [if_neg k2] at p2
        subst p1
        exact absurd hb.symm (apart r2 g2 l2 q1 q2 e2 p2)
    · obtain ⟨q1, q2⟩ := olds r1 g1 k1 h1 e1
      simp only [if_neg k1] at p1
      by_cases k2 : r2 = id
      · simp only [if_pos k2, Option.some.injEq] at p2
        subst p2
        exact absurd hb (apart r1 g1 l1 q1 q2 e1 p1)
      · obtain ⟨q3, q4⟩ := olds r2 g2 k2 h2 e2
        simp only [if_neg k2] at p2
        exact hR.inj r1 r2 g1 g2 l1 l2 q2 q4 e1 e2 o1 o2 p1 p2 hb
  · intro b hb hno
    exact hw.other b (fun e => hno r g l hr hl ho hρ e.symm)
  · intro r' g' _ hg hnone
    have a1 : r' ≠ id := by rintro rfl; rw [hid] at hg; cases hg
    have a2 : r' ≠ r := by rintro rfl; rw [hρ] at hnone; cases hnone
    exact ⟨by simp only [if_neg a1]; exact hnone, by simp only [if_neg a1, if_neg a2]⟩
  · intro r' l' a b
    by_cases e : r' = id
    · simp only [if_pos e, Option.some.injEq] at a
      subst a
      exact .inr ⟨r, g, _, hr, hl, ho, hρ, rfl⟩
    · simp only [if_neg e] at a
      rw [b] at a; cases a
  · intro r' g1 g2 hg1 hg2 hlv
    have a1 : r' ≠ id := by rintro rfl; rw [hid] at hg1; cases hg1
    obtain ⟨q1, q2⟩ := olds r' g2 a1 hg2 hlv
    rw [hg1] at q2
    injection q2 with q2
    subst q2
    exact ⟨hlv, rfl⟩
  · intro r' g' hg
    have a1 : r' ≠ id := by rintro rfl; rw [hid] at hg; cases hg
    by_cases e : r' = r
    · exact ⟨_, by rw [if_neg a1, if_pos e]⟩
    · exact ⟨g', by rw [if_neg a1, if_neg e]; exact hg⟩
theorem rel_kill {r : Nat} {g : Reg} (hR : Rel M ρ base h w) (hr : h r = some g) :
    Rel M ρ base (fun r' => if r' = r then some { g with live := false } else h r') w ∧ (ρ r ≠ none → Grow M N ρ h w ρ (fun r' => if r' = r then some { g with live := false } else h r') w) := by
  have olds : ∀ r' g', (if r' = r then some { g with live := false } else h r') = some g' → g'.live = true → r' ≠ r ∧ h r' = some g' := by
    intro r' g' h2 h3
    by_cases e : r' = r
    · rw [if_pos e] at h2
      injection h2 with h2
      subst h2
      cases h3
    · rw [if_neg e] at h2
      exact ⟨e, h2⟩
  refine ⟨⟨hR.bs, hR.lt, ?_, ?_, ?_, ?_⟩, fun hn => ⟨rfl, rfl, rfl, Nat.le_refl _, fun _ _ _ => rfl, fun _ _ k => k, ?_, ?_, ?_, ?_, fun _ _ => rfl⟩⟩
  · intro r' l' hh
    by_cases e : r' = r
    · exact .inl ⟨_, if_pos e⟩
    · rcases hR.dom r' l' hh with ⟨g', hg'⟩ | hM
      · exact .inl ⟨g', by simp only [if_neg e]; exact hg'⟩
      · exact .inr hM
  · intro r' g' hg
    by_cases e : r' = r
    · rw [e]; exact hR.top r g hr
    · simp only [if_neg e] at hg; exact hR.top r' g' hg
  · intro r' g' l' hg hlive hh
    exact hR.reg r' g' l' (olds r' g' hg hlive).2 hlive hh
  · intro r1 r2 g1 g2 l1 l2 h1 h2 e1 e2 o1 o2 p1 p2 hb
    exact hR.inj r1 r2 g1 g2 l1 l2 (olds r1 g1 h1 e1).2 (olds r2 g2 h2 e2).2 e1 e2 o1 o2 p1 p2 hb
  · intro r' g' _ hg hnone
    have a2 : r' ≠ r := by rintro rfl; exact hn hnone
    exact ⟨hnone, if_neg a2⟩
  · intro r' l' a b
    rw [a] at b; cases b
  · intro r' g1 g2 hg1 hg2 hlv
    obtain ⟨q1, q2⟩ := olds r' g2 hg2 hlv
    rw [hg1] at q2
    injection q2 with q2
    subst q2
    exact ⟨hlv, rfl⟩
  · intro r' g' hg
    by_cases e : r' = r
    · exact ⟨_, if_pos e⟩
    · exact ⟨g', by simp only [if_neg e]; exact hg⟩
end
theorem hf_setReg (H : AHeap) {r : Nat} {g : Reg} (hg : H[r]? = some g) (cs : List AV) : hf (setReg H r cs) = fun r' => if r' = r then some { g with cs := cs } else hf H r' := by
  funext r'
  simp only [hf, setReg, List.getElem?_modify]
  by_cases e : r' = r
  · subst e; simp [hg]
  · have e' := Ne.symm e
    simp [e, e']
theorem hf_killReg (H : AHeap) {r : Nat} {g : Reg} (hg : H[r]? = some g) : hf (killReg H r) = fun r' => if r' = r then some { g with live := false } else hf H r' := by
  funext r'
  simp only [hf, killReg, List.getElem?_modify]
  by_cases e : r' = r
  · subst e; simp [hg]
  · have e' := Ne.symm e
    simp [e, e']
end Go.Proofs.YtfgmmklljibbiaaDoor.Sim

