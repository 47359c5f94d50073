/- One operation's step. -/
import Derived.Test.YtfgmmklljibbiaaDoorS12
namespace Go.Proofs.YtfgmmklljibbiaaDoor.Sim
open Go
set_option linter.unusedSimpArgs false
set_option linter.unusedVariables false
section
variable {P : Program} {C : CallRel} {ops : Array Oper} {tr : Nat → St} {M base : Nat} {ρ0 ρ : Ren} {w0 w : World} {D : List Deferred} {b : Nat → Bool} {m j : Nat} {A : Act} {v : AV} {cv : Value}
theorem with1_ne {i : Nat} (h : i ≠ j) : with1 b j i = b i := by simp [with1, h]
theorem with1_false {i : Nat} (h : with1 b j i = false) : i ≠ j ∧ b i = false := by
  unfold with1 at h
  split at h
  · cases h
  · exact ⟨by assumption, h⟩
theorem Inv.calm (W : Way P C ops tr) (I : Inv P ops tr M base ρ0 w0 D b m A w ρ) (hj : j < ops.size) (hw : isW P (opAt ops j) = false) (hm : makes P ops tr j = false)
    (hT : ∀ t, (opAt ops j).dst = some t → ∀ i, i < ops.size → i ≠ j → (opAt ops i).dst = some t → (b i = true ↔ i < j)) (hv : VR ρ v cv) (hts : (tr (j + 1)).ts = setD (tr j).ts (opAt ops j).dst v) :
    Inv P ops tr M base ρ0 w0 D (with1 b j) m (A.put (opAt ops j).dst cv) w ρ := by
  refine ⟨I.ml, tmp_add W hj I.tmp hT hv (fun _ _ h => h) hts, by rw [put_defers, I.df], ?_, by rw [hB_with hm]; exact I.rel, ?_, by rw [hB_with hm]; exact I.gr⟩
  · intro i hi hwi
    rw [with1_ne (by rintro rfl; rw [hw] at hwi; cases hwi)]
    exact I.wr i hi hwi
  · intro i hi hmi hb
    exact I.un i hi hmi (with1_false hb).2
theorem Inv.skipW (W : Way P C ops tr) (I : Inv P ops tr M base ρ0 w0 D b j A w ρ) (hj : j < ops.size) (hw : isW P (opAt ops j) = true) (hH : (tr (j + 1)).H = (tr j).H)
    (hT : ∀ t, (opAt ops j).dst = some t → ∀ i, i < ops.size → i ≠ j → (opAt ops i).dst = some t → (b i = true ↔ i < j)) (hv : VR ρ v cv) (hts : (tr (j + 1)).ts = setD (tr j).ts (opAt ops j).dst v) :
    Inv P ops tr M base ρ0 w0 D (with1 b j) (j + 1) (A.put (opAt ops j).dst cv) w ρ := by
  have hm : makes P ops tr j = false := by
    cases h : makes P ops tr j with
    | false => rfl
    | true => rw [makes_noW h] at hw; cases hw
  have e : hB P ops tr (with1 b j) (j + 1) = hB P ops tr b j := by
    rw [hB_with hm]
    funext r
    simp only [hB, hH]
  refine ⟨hj, tmp_add W hj I.tmp hT hv (fun _ _ h => h) hts, by rw [put_defers, I.df], ?_, by rw [e]; exact I.rel, ?_, by rw [e]; exact I.gr⟩
  · intro i hi hwi
    by_cases hij : i = j
    · subst hij; simp [with1]
    · rw [with1_ne hij, I.wr i hi hwi]
      omega
  · intro i hi hmi hb
    obtain ⟨q1, q2⟩ := with1_false hb
    rw [hH]
    exact I.un i (by omega) hmi q2
/-- For the writer's own part: only what stood there. -/
theorem Inv.plain (W : Way P C ops tr) (I : Inv P ops tr M base ρ0 w0 D b j A w ρ) (hj : j < ops.size) (hw : isW P (opAt ops j) = true) (hM : (tr ops.size).H.length ≤ M) :
    (∀ r g, hf (tr j).H r = some g → hB P ops tr b j r = some g) ∧ (∀ r g, hB P ops tr b j r = some g → hf (tr j).H r = some g ∨ (tr (j + 1)).H.length ≤ r) ∧ Rel (tr (j + 1)).H.length ρ base (hf (tr j).H) w := by
  have hl := W.len hj
  have hl2 := W.lens (i := j + 1) ops.size hj (Nat.le_refl _)
  have u1 : ∀ r g, hf (tr j).H r = some g → hB P ops tr b j r = some g := by
    intro r g hg
    have hr := (List.getElem?_eq_some_iff.1 hg).1
    simp only [hB]
    rw [if_pos hr]
    exact hg
  have u2 : ∀ r g, hB P ops tr b j r = some g → hf (tr j).H r = some g ∨ (tr (j + 1)).H.length ≤ r := by
    intro r g hg
    simp only [hB] at hg
    split at hg
    · exact .inl hg
    · rename_i hr
      obtain ⟨i, q1, q2, q3, q4, q5⟩ := early_inv hg
      rcases Nat.lt_trichotomy i j with h | h | h
      · obtain ⟨cs, mk, _, _, hH⟩ := W.make q1 q3
        have := W.lens (i := i + 1) j h (by omega)
        rw [hH, List.length_append, List.length_singleton] at this
        omega
      · subst h
        rw [makes_noW q3] at hw
        cases hw
      · have := W.lens (i := j + 1) i h (by omega)
        exact .inr (by omega)
  refine ⟨u1, u2, I.rel.bs, I.rel.lt, ?_, ?_, fun r g l h => I.rel.reg r g l (u1 r g h), ?_⟩
  · intro r l hr
    rcases I.rel.dom r l hr with ⟨g, hg⟩ | k
    · rcases u2 r g hg with q | q
      · exact .inl ⟨g, q⟩
      · exact .inr q
    · exact .inr (by omega)
  · intro r g hg
    have hr := (List.getElem?_eq_some_iff.1 hg).1
    omega
  · intro r1 r2 g1 g2 l1 l2 a1 a2
    exact I.rel.inj r1 r2 g1 g2 l1 l2 (u1 _ _ a1) (u1 _ _ a2)
theorem Inv.wrote (W : Way P C ops tr) {ρ' : Ren} {w' : World} (I : Inv P ops tr M base ρ0 w0 D b j A w ρ) (R0 : Rel M ρ0 base (hf (tr 0).H) w0) (hj : j < ops.size) (hw : isW P (opAt ops j) = true) (hM : (tr ops.size).H.length ≤ M)
    (hR : Rel (tr (j + 1)).H.length ρ' base (hf (tr (j + 1)).H) w') (hG : Grow (tr (j + 1)).H.length (tr j).H.length ρ (hf (tr j).H) w ρ' (hf (tr (j + 1)).H) w')
    (hT : ∀ t, (opAt ops j).dst = some t → ∀ i, i < ops.size → i ≠ j → (opAt ops i).dst = some t → (b i = true ↔ i < j)) (hv : VR ρ' v cv) (hts : (tr (j + 1)).ts = setD (tr j).ts (opAt ops j).dst v) :
    Inv P ops tr M base ρ0 w0 D (with1 b j) (j + 1) (A.put (opAt ops j).dst cv) w' ρ' := by
  obtain ⟨u1, u2, R1⟩ := I.plain W hj hw hM
  have hm : makes P ops tr j = false := by
    cases h : makes P ops tr j with
    | false => rfl
    | true => rw [makes_noW h] at hw; cases hw
  have hl := W.len hj
  have hl2 := W.lens (i := j + 1) ops.size hj (Nat.le_refl _)
  have hl0 := W.lens (i := 0) j (by omega) (by omega)
  -- what stands there now
  have n1 : ∀ r, r < (tr (j + 1)).H.length → hB P ops tr (with1 b j) (j + 1) r = hf (tr (j + 1)).H r := fun r h => by simp only [hB, hf]; rw [if_pos h]
  have n2 : ∀ r, (tr (j + 1)).H.length ≤ r → hB P ops tr (with1 b j) (j + 1) r = hB P ops tr b j r := by
    intro r h
    rw [hB_with hm]
    simp only [hB]
    rw [if_neg (by omega), if_neg (by omega)]
  have n3 : ∀ r g, hf (tr (j + 1)).H r = some g → r < (tr (j + 1)).H.length := fun r g h => (List.getElem?_eq_some_iff.1 h).1
  have topB : ∀ r g, hB P ops tr (with1 b j) (j + 1) r = some g → r < M := by
    intro r g hg
    rcases Nat.lt_or_ge r (tr (j + 1)).H.length with q | q
    · omega
    · rw [n2 r q] at hg
      exact I.rel.top r g hg
  -- a region made ahead: the machine's block is as it was
  have keep : ∀ r g l, (tr (j + 1)).H.length ≤ r → hB P ops tr b j r = some g → g.live = true → g.own = true → ρ r = some l → w'.heap[l.b]? = w.heap[l.b]? := by
    intro r g l hr hg hlv how hρ
    refine hG.frame l.b (I.rel.lt r l hρ) ?_
    intro r' g' l' h1 h2 h3 h4 e
    have := I.rel.inj r' r g' g l' l (u1 _ _ h1) hg h2 hlv h3 how h4 hρ e
    have := (List.getElem?_eq_some_iff.1 h1).1
    omega
  have own : ∀ r g, (tr (j + 1)).H.length ≤ r → hB P ops tr b j r = some g → g.live = true ∧ g.own = true := by
    intro r g hr hg
    simp only [hB] at hg
    rw [if_neg (by omega)] at hg
    obtain ⟨i, q1, q2, q3, q4, q5⟩ := early_inv hg
    obtain ⟨cs, mk, _, _, hH⟩ := W.make q1 q3
    rw [hH, ← q4] at q5
    simp at q5
    subst q5
    exact ⟨rfl, rfl⟩
  have RB : Rel M ρ' base (hB P ops tr (with1 b j) (j + 1)) w' := by
    refine ⟨hR.bs, hR.lt, ?_, topB, ?_, ?_⟩
    · intro r l hr
      rcases Nat.lt_or_ge r (tr (j + 1)).H.length with q | q
      · rcases hR.dom r l hr with ⟨g, hg⟩ | k
        · exact .inl ⟨g, by rw [n1 r q]; exact hg⟩
        · omega
      · rw [hG.res r q] at hr
        rcases I.rel.dom r l hr with ⟨g, hg⟩ | k
        · exact .inl ⟨g, by rw [n2 r q]; exact hg⟩
        · exact .inr k
    · intro r g l hg hlv hr
      rcases Nat.lt_or_ge r (tr (j + 1)).H.length with q | q
      · rw [n1 r q] at hg
        exact hR.reg r g l hg hlv hr
      · rw [n2 r q] at hg
        rw [hG.res r q] at hr
        exact (I.rel.reg r g l hg hlv hr).mono hG.ext (keep r g l q hg hlv (own r g q hg).2 hr)
    · have mixed : ∀ r1 r2 g1 g2 l1 l2, r1 < (tr (j + 1)).H.length → (tr (j + 1)).H.length ≤ r2 → hf (tr (j + 1)).H r1 = some g1 → hB P ops tr b j r2 = some g2 → g1.live = true → g1.own = true → ρ' r1 = some l1 → ρ r2 = some l2 → l1.b ≠ l2.b := by
        intro r1 r2 g1 g2 l1 l2 q1 q2 h1 h2 c1 c2 d1 d2 e
        obtain ⟨o1, o2⟩ := own r2 g2 q2 h2
        cases hρ : ρ r1 with
        | none =>
          rcases hG.prov r1 l1 d1 hρ with k | ⟨r0, g0, l0, p1, p2, p3, p4, p5⟩
          · have := I.rel.lt r2 l2 d2
            omega
          · have := I.rel.inj r0 r2 g0 g2 l0 l2 (u1 _ _ p1) h2 p2 o1 p3 o2 p4 d2 (p5.trans e)
            have := (List.getElem?_eq_some_iff.1 p1).1
            omega
        | some l =>
          have := hG.ext r1 l hρ
          rw [d1] at this
          injection this with this
          subst this
          rcases R1.dom r1 _ hρ with ⟨g, hg⟩ | k
          · obtain ⟨z1, z2⟩ := hG.back r1 g g1 hg h1 c1
            have := I.rel.inj r1 r2 g g2 _ l2 (u1 _ _ hg) h2 z1 o1 (z2 ▸ c2) o2 hρ d2 e
            omega
          · omega
      intro r1 r2 g1 g2 l1 l2 a1 a2 b1 b2 c1 c2 d1 d2 e
      rcases Nat.lt_or_ge r1 (tr (j + 1)).H.length with q1 | q1
      · rw [n1 r1 q1] at a1
        rcases Nat.lt_or_ge r2 (tr (j + 1)).H.length with q2 | q2
        · rw [n1 r2 q2] at a2
          exact hR.inj r1 r2 g1 g2 l1 l2 a1 a2 b1 b2 c1 c2 d1 d2 e
        · rw [n2 r2 q2] at a2
          rw [hG.res r2 q2] at d2
          exact absurd e (mixed r1 r2 g1 g2 l1 l2 q1 q2 a1 a2 b1 c1 d1 d2)
      · rw [n2 r1 q1] at a1
        rw [hG.res r1 q1] at d1
        rcases Nat.lt_or_ge r2 (tr (j + 1)).H.length with q2 | q2
        · rw [n1 r2 q2] at a2
          exact absurd e.symm (mixed r2 r1 g2 g1 l2 l1 q2 q1 a2 a1 b2 c2 d2 d1)
        · rw [n2 r2 q2] at a2
          rw [hG.res r2 q2] at d2
          exact I.rel.inj r1 r2 g1 g2 l1 l2 a1 a2 b1 b2 c1 c2 d1 d2 e
  have GB : Grow M (tr 0).H.length ρ (hB P ops tr b j) w ρ' (hB P ops tr (with1 b j) (j + 1)) w' := by
    refine ⟨hG.os, hG.tape, hG.output, hG.size, ?_, hG.ext, ?_, ?_, ?_, ?_, fun r hr => hG.res r (by omega)⟩
    · intro k hk hn
      exact hG.frame k hk fun r g l h1 => hn r g l (u1 _ _ h1)
    · intro r g hr hg hn
      have hr2 : r < (tr j).H.length := by omega
      have hg2 : hf (tr j).H r = some g := by simp only [hB, if_pos hr2] at hg; exact hg
      obtain ⟨z1, z2⟩ := hG.unt r g hr2 hg2 hn
      exact ⟨z1, by rw [n1 r (by omega), z2, hg, hg2]⟩
    · intro r l a c
      rcases hG.prov r l a c with k | ⟨r0, g0, l0, p1, p2⟩
      · exact .inl k
      · exact .inr ⟨r0, g0, l0, u1 _ _ p1, p2⟩
    · intro r g g' h1 h2 h3
      rcases Nat.lt_or_ge r (tr (j + 1)).H.length with q | q
      · rw [n1 r q] at h2
        rcases u2 r g h1 with z | z
        · exact hG.back r g g' z h2 h3
        · omega
      · rw [n2 r q, h1] at h2
        injection h2 with h2
        subst h2
        exact ⟨h3, rfl⟩
    · intro r g h1
      rcases Nat.lt_or_ge r (tr (j + 1)).H.length with q | q
      · rcases u2 r g h1 with z | z
        · obtain ⟨g', hg'⟩ := hG.per r g z
          exact ⟨g', by rw [n1 r q]; exact hg'⟩
        · omega
      · exact ⟨g, by rw [n2 r q]; exact h1⟩
  refine ⟨hj, tmp_add W hj I.tmp hT hv hG.ext hts, by rw [put_defers, I.df], ?_, RB, ?_, Grow.trans R0 I.rel.top I.gr GB⟩
  · intro i hi hwi
    by_cases hij : i = j
    · subst hij; simp [with1]
    · rw [with1_ne hij, I.wr i hi hwi]
      omega
  · intro i hi hmi hb
    obtain ⟨q1, q2⟩ := with1_false hb
    obtain ⟨z1, z2⟩ := I.un i (by omega) hmi q2
    obtain ⟨cs, mk, _, _, hH⟩ := W.make (i := i) (by omega) hmi
    have hlt := W.lens (i := i + 1) j (by omega) (by omega)
    rw [hH, List.length_append, List.length_singleton] at hlt
    have hs : hf (tr j).H (tr i).H.length = some ⟨cs, true, true⟩ := by
      show (tr j).H[(tr i).H.length]? = _
      rw [z2, hH]
      simp
    obtain ⟨y1, y2⟩ := hG.unt (tr i).H.length _ (by omega) hs z1
    exact ⟨y1, (show (tr (j + 1)).H[(tr i).H.length]? = (tr j).H[(tr i).H.length]? from y2).trans z2⟩
theorem Inv.made (W : Way P C ops tr) {w' : World} {c : Array Value} {e : TypeId} {fz : Nat × Nat} {cs : List AV} (I : Inv P ops tr M base ρ0 w0 D b m A w ρ) (R0 : Rel M ρ0 base (hf (tr 0).H) w0) (hj : j < ops.size) (hb : b j = false) (hm : makes P ops tr j = true) (hM : (tr ops.size).H.length ≤ M)
    (hH : (tr (j + 1)).H = (tr j).H ++ [⟨cs, true, true⟩]) (hmd : Made w w' c e fz) (hl : cs.length ≤ c.size) (hc : LR ρ cs (c.toList.take cs.length)) (hz : ∀ i, i < c.size → ¬(fz.1 ≤ i ∧ i < fz.2))
    (hT : ∀ t, (opAt ops j).dst = some t → ∀ i, i < ops.size → i ≠ j → (opAt ops i).dst = some t → (b i = true ↔ i < j)) (hv : ∀ ρ' : Ren, ρ' (tr j).H.length = some ⟨w.heap.size, 0, c.size⟩ → VR ρ' v cv) (hts : (tr (j + 1)).ts = setD (tr j).ts (opAt ops j).dst v) :
    ∃ ρ', Inv P ops tr M base ρ0 w0 D (with1 b j) m (A.put (opAt ops j).dst cv) w' ρ' := by
  have hl2 := W.lens (i := j + 1) ops.size hj (Nat.le_refl _)
  rw [hH, List.length_append, List.length_singleton] at hl2
  have hcs : (tr (j + 1)).H[(tr j).H.length]? = some ⟨cs, true, true⟩ := by rw [hH]; simp
  have hw := makes_noW hm
  -- nobody has placed it
  have hρ : ρ (tr j).H.length = none ∧ (hB P ops tr b m (tr j).H.length = none ∨ hB P ops tr b m (tr j).H.length = some ⟨cs, true, true⟩) := by
    rcases Nat.lt_or_ge j m with q | q
    · obtain ⟨z1, z2⟩ := I.un j q hm hb
      refine ⟨z1, .inr ?_⟩
      have := W.lens (i := j + 1) m q I.ml
      rw [hH, List.length_append, List.length_singleton] at this
      simp only [hB]
      rw [if_pos (by omega), z2, hcs]
    · have := W.lens (i := m) j q (by omega)
      have hn : hB P ops tr b m (tr j).H.length = none := by
        simp only [hB]
        rw [if_neg (by omega), W.early_no hj hb hm]
      refine ⟨?_, .inl hn⟩
      cases hρ : ρ (tr j).H.length with
      | none => rfl
      | some l =>
        rcases I.rel.dom _ l hρ with ⟨g, hg⟩ | k
        · rw [hn] at hg; cases hg
        · omega
  have hl0 := W.lens (i := 0) j (by omega) (by omega)
  obtain ⟨R1, G1⟩ := rel_made (N := (tr 0).H.length) I.rel hmd hρ.1 hρ.2 (by omega) (by omega) hl hc hz
  have eB : (fun r => if r = (tr j).H.length then some (⟨cs, true, true⟩ : Reg) else hB P ops tr b m r) = hB P ops tr (with1 b j) m := by
    funext r
    simp only [hB, W.early_with1 hj hm]
    by_cases hr : r = (tr j).H.length
    · subst hr
      rw [if_pos rfl, if_pos rfl]
      split
      · rename_i hlt
        rcases Nat.lt_or_ge j m with q | q
        · rw [(I.un j q hm hb).2, hcs]
        · have := W.lens (i := m) j q (by omega)
          omega
      · exact hcs.symm
    · rw [if_neg hr, if_neg hr]
  rw [eB] at R1 G1
  refine ⟨_, I.ml, tmp_add W hj I.tmp hT (hv _ (by simp)) G1.ext hts, by rw [put_defers, I.df], ?_, R1, ?_, Grow.trans R0 I.rel.top I.gr G1⟩
  · intro i hi hwi
    rw [with1_ne (by rintro rfl; rw [hw] at hwi; cases hwi)]
    exact I.wr i hi hwi
  · intro i hi hmi hbi
    obtain ⟨q1, q2⟩ := with1_false hbi
    obtain ⟨z1, z2⟩ := I.un i hi hmi q2
    refine ⟨?_, z2⟩
    have hne : (tr i).H.length ≠ (tr j).H.length := fun e => q1 (W.one (by have := I.ml; omega) hj hmi hm e)
    simp only [if_neg hne]
    exact z1
end
end Go.Proofs.YtfgmmklljibbiaaDoor.Sim

