/- A law that is given slices of numbers: what the machine does is what the second semantics says. -/
import Derived.Test.YtfgmmklljibbiaaDoorTy
import Derived.Test.YtfgmmklljibbiaaDoorChecked
import Derived.ChangeSlices
import Derived.ChangeShapes
import Derived.WideShapes
namespace Go.Proofs.YtfgmmklljibbiaaDoor.Sim
open Go
set_option linter.unusedSimpArgs false
set_option linter.unusedVariables false
theorem entry {P : Program} {f : FuncId} {v : Value} {ags : List AV} {H0 H' : AHeap} (hs : Sound P f ags H0 (.sc v) H') (w : World) (cargs : Array Value) (ρ0 : Ren)
    (hreg : ∀ r g l, H0[r]? = some g → ρ0 r = some l → RegOk ρ0 w.heap.size w l g ∧ g.own = false) (hdom : ∀ r l, ρ0 r = some l → ∃ g, H0[r]? = some g)
    (hA : LR ρ0 ags cargs.toList) (hg : Gl w.heap.size w := by exact Gl.none rfl) : Calls P f cargs w fun e w' => e = .returned v ∧ RowKit.Below w.heap.size w w' := by
  obtain ⟨_, hlen, h3⟩ := hs
  have hR : Rel H'.length ρ0 w.heap.size (hf H0) w := by
    refine ⟨⟨Nat.le_refl _, hg⟩, ?_, ?_, ?_, ?_, ?_⟩
    · intro r l h
      obtain ⟨g, hg⟩ := hdom r l h
      obtain ⟨⟨c, e, fz, hb, _⟩, _⟩ := hreg r g l hg h
      exact (Array.getElem?_eq_some_iff.1 hb).1
    · intro r l h
      obtain ⟨g, hg⟩ := hdom r l h
      exact .inl ⟨g, hg⟩
    · intro r g h
      exact Nat.lt_of_lt_of_le (List.getElem?_eq_some_iff.1 h).1 hlen
    · intro r g l hg _ h
      exact (hreg r g l hg h).1
    · intro r1 r2 g1 g2 l1 l2 a1 _ _ _ c1 _ k1 _ _
      have := (hreg r1 g1 l1 a1 k1).2
      rw [this] at c1
      cases c1
  refine (h3 H'.length ρ0 w.heap.size w cargs (Nat.le_refl _) hR hA).mono ?_
  rintro e w' ⟨cv, ρ', rfl, hvr, hR', hG⟩
  refine ⟨by rw [hvr.sc_inv], hG.os, hG.tape, hG.output, hG.size, fun k hk => hG.frame k hk fun r g l hg _ ho hρ => ?_⟩
  have := (hreg r g l hg hρ).2
  rw [this] at ho
  cases ho
theorem add_spot {a : Addr} (h : a.spot = none) (i : Nat) : a.add i = ⟨a.block, a.off + i, none⟩ := by
  unfold Addr.add
  split
  · rename_i h0
    subst h0
    cases a
    simp_all
  · rfl
theorem param_ints {w : World} {a : Addr} {len cap : Nat} {zs : List Int} {k : IntKind} (hsp : a.spot = none) (hsh : ∃ row cells, w.shape? a.block = some (row, cells)) (hl : len ≤ cap) (hz : zs.length = cap)
    (hcell : ∀ i, i < zs.length → w.cell? (a.add i) = some (.int k (zs.getD i 0))) : ∃ (l : Loc) (off : Nat), (∀ ρ : Ren, RegOk ρ w.heap.size w l ⟨ints k (zs.take len), false, true⟩) ∧ ∀ (ρ : Ren) (r : Nat), ρ r = some l → VR ρ (.sl r 0 (zs.take len).length 1) (.slice (some a) len cap) := by
  obtain ⟨row, cells, hsh⟩ := hsh
  unfold World.shape? at hsh
  split at hsh
  case h_2 => cases hsh
  rename_i c elem fz hb
  have hbl : a.block < w.heap.size := (Array.getElem?_eq_some_iff.1 hb).1
  have hlen : (zs.take len).length = len := by rw [List.length_take]; omega
  rw [hlen]
  have ea : a = ⟨a.block, a.off, none⟩ := by cases a; simp_all
  rcases Nat.eq_zero_or_pos cap with h0 | h0
  · have hl0 : len = 0 := by omega
    subst hl0
    subst h0
    refine ⟨⟨a.block, 0, c.size⟩, 0, fun ρ => ⟨c, elem, fz, hb, rfl, by simp [ints], ?_, ⟨fun h => (by cases h), fun _ => hbl⟩⟩, fun ρ r h => ?_⟩
    · simp only [List.take_zero, ints, List.map_nil, List.length_nil]
      exact LR.nil
    · rw [ea]
      exact .sl0 h
  · have hc : ∀ i, i < cap → c[a.off + i]? = some (.int k (zs.getD i 0)) := by
      intro i hi
      have := hcell i (by omega)
      rw [add_spot hsp] at this
      rw [← this]
      simp [World.cell?, hb]
    have hfit : a.off + cap ≤ c.size := by
      have := (Array.getElem?_eq_some_iff.1 (hc (cap - 1) (by omega))).1
      omega
    refine ⟨⟨a.block, a.off, c.size⟩, 0, fun ρ => ⟨c, elem, fz, hb, rfl, by simp [ints]; omega, ?_, ⟨fun h => (by cases h), fun _ => hbl⟩⟩, fun ρ r h => ?_⟩
    · refine ⟨by simp [ints]; omega, ?_⟩
      intro i x y hx hy
      have hi : i < len := by
        have := (List.getElem?_eq_some_iff.1 hx).1
        simp [ints] at this
        omega
      have hx2 : x = .sc (.int k (zs.getD i 0)) := by
        simp only [ints, List.getElem?_map, List.getElem?_take, hi, if_true] at hx
        have hzi : i < zs.length := by omega
        rw [List.getElem?_eq_getElem hzi] at hx
        simp at hx
        rw [← hx]
        simp [hzi]
      have hy2 : y = .int k (zs.getD i 0) := by
        rw [List.getElem?_take] at hy
        split at hy
        · rw [List.getElem?_drop, Array.getElem?_toList, hc i (by omega)] at hy
          injection hy with hy
          exact hy.symm
        · cases hy
      rw [hx2, hy2]
      exact .sc _
    · rw [ea]
      have := VR.sl (ρ := ρ) (r := r) (off := 0) (len := len) (sz := 1) (cap := cap) (l := ⟨a.block, a.off, c.size⟩) h hl (by simp; omega)
      simpa using this
/-- A slice that is given holds its block. -/
theorem okWide_shape {P : Program} {w : World} {r : Reach} {b : Nat} {t e : TypeId} {a : Addr} {len cap : Nat} (ht : P.underlying t = some (.slice e)) (h : Value.okWide P w r b t (.slice (some a) len cap)) : a.spot = none ∧ ∃ row cells, w.shape? a.block = some (row, cells) := by
  unfold Value.okWide at h
  simp only [ht] at h
  unfold Cell.okWide at h
  simp only [ht] at h
  unfold Cell.ok at h
  simp only [ht] at h
  obtain ⟨_, _, _, h1, row, cells, h2, _⟩ := h
  exact ⟨h1, row, cells, h2⟩
theorem shut_nil {H : Type} {enc : TypeId × Value → H} {P : Program} {w : World} {base : Nat} {spare : Nat → Bool} {held : Bool} {t e : TypeId} (ht : P.underlying t = some (.slice e)) : DataW.Trod enc P w base spare held t (.slice none 0 0) .nil [] := ⟨1, by simp [DataW.trod_step, DataW.trodStep, Value.cells, ht]⟩
end Go.Proofs.YtfgmmklljibbiaaDoor.Sim

