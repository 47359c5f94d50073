/- One operation carried out when others of the text have been: the machine keeps to the text's own way. -/
import Derived.Test.YtfgmmklljibbiaaDoorS11
namespace Go.Proofs.YtfgmmklljibbiaaDoor.Sim
open Go
set_option linter.unusedSimpArgs false
set_option linter.unusedVariables false
/-! ### more is known of the regions -/
theorem Rel.widen {M : Nat} {ρ : Ren} {base : Nat} {h h' : Nat → Option Reg} {w : World} (hR : Rel M ρ base h w) (h1 : ∀ r g, h r = some g → h' r = some g) (h2 : ∀ r g, h' r = some g → h r = some g ∨ ρ r = none) (h3 : ∀ r g, h' r = some g → r < M) : Rel M ρ base h' w := by
  refine ⟨hR.bs, hR.lt, ?_, h3, ?_, ?_⟩
  · intro r l hr
    rcases hR.dom r l hr with ⟨g, hg⟩ | k
    · exact .inl ⟨g, h1 r g hg⟩
    · exact .inr k
  · intro r g l hg hl hr
    rcases h2 r g hg with k | k
    · exact hR.reg r g l k hl hr
    · rw [hr] at k; cases k
  · intro r1 r2 g1 g2 l1 l2 a1 a2 b1 b2 c1 c2 d1 d2 e
    rcases h2 r1 g1 a1 with k1 | k1
    · rcases h2 r2 g2 a2 with k2 | k2
      · exact hR.inj r1 r2 g1 g2 l1 l2 k1 k2 b1 b2 c1 c2 d1 d2 e
      · rw [d2] at k2; cases k2
    · rw [d1] at k1; cases k1
theorem Grow.widen {M N : Nat} {ρ0 ρ : Ren} {h0 h h' : Nat → Option Reg} {w0 w : World} (hG : Grow M N ρ0 h0 w0 ρ h w) (h1 : ∀ r g, h r = some g → h' r = some g) : Grow M N ρ0 h0 w0 ρ h' w := by
  refine ⟨hG.os, hG.tape, hG.output, hG.size, hG.frame, hG.ext, ?_, hG.prov, ?_, ?_, hG.res⟩
  · intro r g hr hg hn
    obtain ⟨k1, k2⟩ := hG.unt r g hr hg hn
    refine ⟨k1, ?_⟩
    rw [hg] at k2
    rw [h1 r g k2, hg]
  · intro r g g' hg hg' hl
    obtain ⟨g2, k⟩ := hG.per r g hg
    have := h1 r g2 k
    rw [hg'] at this
    injection this with this
    subst this
    exact hG.back r g g' hg k hl
  · intro r g hg
    obtain ⟨g2, k⟩ := hG.per r g hg
    exact ⟨g2, h1 r g2 k⟩
/-- Behind a draw: all but the count of draws is as it was. -/
theorem Rel.heap {M : Nat} {ρ : Ren} {base : Nat} {h : Nat → Option Reg} {w w' : World} (hR : Rel M ρ base h w) (hw : w'.heap = w.heap) : Rel M ρ base h w' := rel_heap hR hw
section
variable {P : Program} {ops : Array Oper} {tr : Nat → St} {M base : Nat} {ρ0 : Ren} {w0 : World} {D : List Deferred}
structure Inv (P : Program) (ops : Array Oper) (tr : Nat → St) (M base : Nat) (ρ0 : Ren) (w0 : World) (D : List Deferred) (b : Nat → Bool) (m : Nat) (A : Act) (w : World) (ρ : Ren) : Prop where
  ml : m ≤ ops.size
  tmp : ∃ TS : List AV, LR ρ TS A.tmps.toList ∧ TS.length = (tr 0).ts.length ∧ ∀ t j, j ≤ ops.size → (∀ i, i < ops.size → (opAt ops i).dst = some t → (b i = true ↔ i < j)) → TS[t]? = (tr j).ts[t]?
  df : A.defers = D
  wr : ∀ i, i < ops.size → isW P (opAt ops i) = true → (b i = true ↔ i < m)
  rel : Rel M ρ base (hB P ops tr b m) w
  un : ∀ i, i < m → makes P ops tr i = true → b i = false → ρ (tr i).H.length = none ∧ (tr m).H[(tr i).H.length]? = (tr (i + 1)).H[(tr i).H.length]?
  gr : Grow M (tr 0).H.length ρ0 (hf (tr 0).H) w0 ρ (hB P ops tr b m) w
theorem tmp_add {C : CallRel} (W : Way P C ops tr) {ρ ρ' : Ren} {b : Nat → Bool} {A : Act} {j : Nat} {v : AV} {cv : Value} (hj : j < ops.size)
    (h : ∃ TS : List AV, LR ρ TS A.tmps.toList ∧ TS.length = (tr 0).ts.length ∧ ∀ t j, j ≤ ops.size → (∀ i, i < ops.size → (opAt ops i).dst = some t → (b i = true ↔ i < j)) → TS[t]? = (tr j).ts[t]?)
    (hT : ∀ t, (opAt ops j).dst = some t → ∀ i, i < ops.size → i ≠ j → (opAt ops i).dst = some t → (b i = true ↔ i < j))
    (hv : VR ρ' v cv) (he : ∀ r l, ρ r = some l → ρ' r = some l) (hts : (tr (j + 1)).ts = setD (tr j).ts (opAt ops j).dst v) :
    ∃ TS : List AV, LR ρ' TS (A.put (opAt ops j).dst cv).tmps.toList ∧ TS.length = (tr 0).ts.length ∧ ∀ t k, k ≤ ops.size → (∀ i, i < ops.size → (opAt ops i).dst = some t → (with1 b j i = true ↔ i < k)) → TS[t]? = (tr k).ts[t]? := by
  obtain ⟨TS, h1, h2, h3⟩ := h
  refine ⟨setD TS (opAt ops j).dst v, put_LR (h1.mono he) hv _, by rw [setD_len, h2], ?_⟩
  intro t k hk hc
  by_cases hd : (opAt ops j).dst = some t
  · have hjk : j < k := (hc j hj hd).1 (by simp [with1])
    have e1 := W.same (t := t) (i := j + 1) k hjk hk (fun i q1 q2 hi => by
      have a := (hc i (by omega) hi).2 q2
      simp only [with1, if_neg (show i ≠ j by omega)] at a
      have := (hT t hd i (by omega) (by omega) hi).1 a
      omega)
    rw [e1, hts, hd]
    simp only [setD]
    rw [List.getElem?_set, List.getElem?_set, h2, W.tlen j (by omega)]
    split
    · rfl
    · rename_i hne; exact absurd rfl hne
  · rw [setD_get hd]
    refine h3 t k hk fun i hi hdi => ?_
    have := hc i hi hdi
    have hne : i ≠ j := by rintro rfl; exact hd hdi
    simpa [with1, hne] using this
/-- The next writer's place: nothing is written between. -/
theorem Inv.shift {C : CallRel} (W : Way P C ops tr) {b : Nat → Bool} {m j : Nat} {A : Act} {w : World} {ρ : Ren} (I : Inv P ops tr M base ρ0 w0 D b m A w ρ) (hM : (tr ops.size).H.length ≤ M) (hmj : m ≤ j) (hj : j ≤ ops.size) (hn : ∀ k, m ≤ k → k < j → isW P (opAt ops k) = false) : Inv P ops tr M base ρ0 w0 D b j A w ρ := by
  obtain ⟨k1, k2⟩ := W.between j hmj hj hn
  have hlen := W.lens (i := m) j hmj hj
  have hlj := W.lens (i := j) ops.size hj (Nat.le_refl _)
  have u1 : ∀ r g, hB P ops tr b m r = some g → hB P ops tr b j r = some g := by
    intro r g hg
    simp only [hB] at hg ⊢
    split at hg
    · rename_i hr
      rw [if_pos (by omega), k1 r hr]
      exact hg
    · rename_i hr
      by_cases hr2 : r < (tr j).H.length
      · rw [if_pos hr2]
        obtain ⟨i, p1, p2, p3, p4⟩ := k2 r (by omega) hr2
        obtain ⟨i', q1, q2, q3, q4, q5⟩ := early_inv hg
        have := W.one q1 (by omega) q3 p3 (q4.trans p4.symm)
        subst this
        subst p4
        rw [W.stays p3 p2 hj fun k a1 a2 => hn k (by omega) a2]
        exact q5
      · rw [if_neg hr2]; exact hg
  have u2 : ∀ i, m ≤ i → i < j → makes P ops tr i = true → b i = false → ρ (tr i).H.length = none := by
    intro i h1 h2 h3 h4
    cases hρ : ρ (tr i).H.length with
    | none => rfl
    | some l =>
      have hlt : (tr i).H.length < M := by
        obtain ⟨cs, mk, _, _, hH⟩ := W.make (by omega) h3
        have := W.lens (i := i + 1) ops.size (by omega) (Nat.le_refl _)
        rw [hH] at this
        simp at this
        omega
      rcases I.rel.dom _ l hρ with ⟨g, hg⟩ | k
      · simp only [hB] at hg
        have := W.lens (i := m) i h1 (by omega)
        rw [if_neg (by omega), W.early_no (by omega) h4 h3] at hg
        cases hg
      · omega
  have u3 : ∀ r g, hB P ops tr b j r = some g → r < M := by
    intro r g hg
    simp only [hB] at hg
    split at hg
    · omega
    · obtain ⟨i', q1, q2, q3, q4, q5⟩ := early_inv hg
      obtain ⟨cs, mk, _, _, hH⟩ := W.make q1 q3
      have := W.lens (i := i' + 1) ops.size (by omega) (Nat.le_refl _)
      rw [hH] at this
      simp at this
      omega
  have u4 : ∀ r g, hB P ops tr b j r = some g → hB P ops tr b m r = some g ∨ ρ r = none := by
    intro r g hg
    simp only [hB] at hg ⊢
    split at hg
    · rename_i hr
      by_cases hr2 : r < (tr m).H.length
      · rw [if_pos hr2, ← k1 r hr2]; exact .inl hg
      · rw [if_neg hr2]
        obtain ⟨i, p1, p2, p3, p4⟩ := k2 r (by omega) hr
        subst p4
        cases hb : b i with
        | true =>
          rw [W.early_at hb p3 _ (by omega) (Nat.le_refl _), ← W.stays p3 p2 hj fun k a1 a2 => hn k (by omega) a2]
          exact .inl hg
        | false => exact .inr (u2 i p1 p2 p3 hb)
    · rename_i hr
      rw [if_neg (by omega)]
      exact .inl hg
  refine ⟨hj, I.tmp, I.df, ?_, I.rel.widen u1 u4 u3, ?_, I.gr.widen u1⟩
  · intro i hi hw
    rw [I.wr i hi hw]
    constructor
    · intro h; omega
    · intro h
      rcases Nat.lt_or_ge i m with q | q
      · exact q
      · have := hn i q h
        rw [hw] at this
        cases this
  · intro i hi hm hb
    rcases Nat.lt_or_ge i m with q | q
    · obtain ⟨a1, a2⟩ := I.un i q hm hb
      refine ⟨a1, ?_⟩
      obtain ⟨cs, mk, _, _, hH⟩ := W.make (i := i) (by omega) hm
      have := W.lens (i := i + 1) m q I.ml
      rw [hH, List.length_append, List.length_singleton] at this
      rw [k1 _ (by omega), a2]
    · exact ⟨u2 i q hi hm hb, W.stays hm hi hj fun k a1 a2 => hn k (by omega) a2⟩
end
end Go.Proofs.YtfgmmklljibbiaaDoor.Sim

