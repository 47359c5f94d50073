/- A region is carried out. -/
import Derived.Test.YtfgmmklljibbiaaDoorS13
namespace Go.Proofs.YtfgmmklljibbiaaDoor.Sim
open Go
set_option linter.unusedSimpArgs false
set_option linter.unusedVariables false
section
variable {P : Program} {ops : Array Oper} {tr : Nat → St} {M base : Nat} {ρ0 ρ : Ren} {w0 w : World} {D : List Deferred} {b : Nat → Bool} {m j : Nat} {A : Act} {v : AV} {cv : Value} {Q : Exit → Act → World → Prop}
theorem ev_of {TS ts : List AV} {A : Act} (h : LR ρ TS A.tmps.toList) {o : Oper} (hl : ∀ t, t ∈ looksAt ops o → TS[t]? = ts[t]?) : EV ρ ts A o := by
  intro x hx
  have := VR.eval h x
  cases x with
  | tmp t =>
    have hm : t ∈ looksAt ops o := by
      simp only [looksAt, List.mem_append, List.mem_filterMap]
      exact .inl (.inl ⟨.tmp t, hx, rfl⟩)
    simp only [ev] at this ⊢
    rw [List.getD_eq_getElem?_getD] at this ⊢
    rw [← hl t hm]
    exact this
  | _ => exact this
theorem yielded_of {TS ts : List AV} {A : Act} (h : LR ρ TS A.tmps.toList) {o : Oper} (hl : ∀ t, t ∈ looksAt ops o → TS[t]? = ts[t]?) : Region.wanted o (yielded ops A.tmps) = Region.wanted o (yieldedA ops ts) := by
  unfold Region.wanted
  split
  · rfl
  · rename_i g want hg
    have : yielded ops A.tmps g = yieldedA ops ts g := by
      unfold yielded yieldedA
      cases hd : (ops[g]?).bind (·.dst) with
      | none => rfl
      | some t =>
        have hm : t ∈ looksAt ops o := by
          simp only [looksAt, hg, hd, Option.toList, List.mem_append]
          exact .inl (.inr (by simp))
        simp only [Option.bind_some]
        rw [← hl t hm]
        cases hA : A.tmps[t]? with
        | none =>
          have : TS[t]? = none := by
            rw [List.getElem?_eq_none_iff, h.1]
            simpa using hA
          rw [this]
        | some u =>
          obtain ⟨a, ha, hr⟩ := h.get' (i := t) (v := u) (by rw [Array.getElem?_toList]; exact hA)
          rw [ha]
          cases hr with
          | sc u => cases u <;> rfl
          | _ => rfl
    rw [this]
theorem isW_cls {o : Oper} : isW P o = true ↔ clsOf P o = .write := by
  unfold isW
  split <;> simp_all
theorem one_step (W : Way P (Sound P) ops tr) (I : Inv P ops tr M base ρ0 w0 D b m A w ρ) (R0 : Rel M ρ0 base (hf (tr 0).H) w0) (hM : (tr ops.size).H.length ≤ M) (hj : j < ops.size) (hb : b j = false)
    (hL : ∀ t, t ∈ looksAt ops (opAt ops j) → ∀ i, i < ops.size → i ≠ j → (opAt ops i).dst = some t → (b i = true ↔ i < j))
    (hW : isW P (opAt ops j) = true → ∀ i, i < ops.size → i ≠ j → isW P (opAt ops i) = true → (b i = true ↔ i < j))
    (hRd : isR P (opAt ops j) = true → exe ops tr j = true → calm P ops j m = true ∨ evRead P (tr j).ts (opAt ops j).op (tr m).H = evRead P (tr j).ts (opAt ops j).op (tr j).H)
    {K : Act → World → Prop} (hK : ∀ A' w' ρ', Inv P ops tr M base ρ0 w0 D (with1 b j) (if isW P (opAt ops j) = true then j + 1 else m) A' w' ρ' → K A' w') : wpOp P ops Q j K A w := by
  obtain ⟨TS, t1, t2, t3⟩ := I.tmp
  have look : ∀ t, t ∈ looksAt ops (opAt ops j) → TS[t]? = (tr j).ts[t]? := by
    intro t ht
    refine t3 t j (by omega) fun i hi hd => ?_
    by_cases hij : i = j
    · subst hij; simp [hb]
    · exact hL t ht i hi hij hd
  have hT : ∀ t, (opAt ops j).dst = some t → ∀ i, i < ops.size → i ≠ j → (opAt ops i).dst = some t → (b i = true ↔ i < j) := fun t ht => hL t (dst_looks ht)
  have hE : EV ρ (tr j).ts A (opAt ops j) := ev_of t1 look
  have hy : Region.wanted (opAt ops j) (yielded ops A.tmps) = exe ops tr j := yielded_of t1 look
  -- the place where a writer stands
  have atJ : isW P (opAt ops j) = true → Inv P ops tr M base ρ0 w0 D b j A w ρ := by
    intro hw
    have hmj : m ≤ j := by
      rcases Nat.lt_or_ge j m with q | q
      · have := (I.wr j hj hw).2 q
        rw [hb] at this; cases this
      · exact q
    refine I.shift W hM hmj (by omega) fun k k1 k2 => ?_
    cases hk : isW P (opAt ops k) with
    | false => rfl
    | true =>
      have := (hW hw k (by omega) (by omega) hk).2 k2
      have := (I.wr k (by omega) hk).1 this
      omega
  unfold wpOp
  rw [opAt_some hj]
  simp only [hy]
  cases hx : exe ops tr j with
  | false =>
    simp only [Bool.false_eq_true, if_false]
    have hs := W.skip hj hx
    have hm : makes P ops tr j = false := by simp [makes, hx]
    cases hw : isW P (opAt ops j) with
    | false =>
      simp only [hw, Bool.false_eq_true, if_false] at hK
      exact hK _ _ ρ (I.calm W hj hw hm hT (.sc undef) (by rw [hs]; rfl))
    | true =>
      simp only [hw, if_true] at hK
      exact hK _ _ ρ ((atJ hw).skipW W hj hw (by rw [hs]; rfl) hT (.sc undef) (by rw [hs]; rfl))
  | true =>
    simp only [if_true]
    refine .inl ?_
    have hrun := W.run hj hx
    unfold Eff at hrun
    unfold Oper.wp
    split at hrun
    · rename_i hc
      have hw : isW P (opAt ops j) = false := by simp [isW, hc]
      have hm : makes P ops tr j = false := by simp [makes, isA, hc]
      simp only [hw, Bool.false_eq_true, if_false] at hK
      obtain ⟨v, hv, hs⟩ := hrun
      obtain ⟨cv, k1, k2⟩ := pure_f hE hv w
      rw [k1, Oper.upon_value]
      exact hK _ _ ρ (I.calm W hj hw hm hT k2 (by rw [hs]; rfl))
    · rename_i hc
      have hw : isW P (opAt ops j) = false := by simp [isW, hc]
      have hm : makes P ops tr j = false := by simp [makes, isA, hc]
      simp only [hw, Bool.false_eq_true, if_false] at hK
      obtain ⟨v, hv, hs⟩ := hrun
      rcases hRd (by simp [isR, hc]) hx with hcalm | hsame
      · simp only [calm, Bool.and_eq_true, decide_eq_true_eq, List.all_eq_true, List.mem_range, Bool.or_eq_true, Bool.not_eq_true'] at hcalm
        have I' := I.shift W hM hcalm.1 (by omega) fun k k1 k2 => by
          rcases hcalm.2 k (by omega) with (h | h) | h
          · exact h
          · omega
          · omega
        have hH : ∀ r l g, ρ r = some l → (tr j).H[r]? = some g → hB P ops tr b j r = some g := by
          intro r l g _ hg
          have := (List.getElem?_eq_some_iff.1 hg).1
          simp only [hB]
          rw [if_pos this]
          exact hg
        obtain ⟨cv, k1, k2⟩ := read_f I'.rel hH hE hv
        rw [k1, Oper.upon_value]
        exact hK _ _ ρ (I.calm W hj hw hm hT k2 (by rw [hs]; rfl))
      rw [← hsame] at hv
      have hH : ∀ r l g, ρ r = some l → (tr m).H[r]? = some g → hB P ops tr b m r = some g := by
        intro r l g _ hg
        have := (List.getElem?_eq_some_iff.1 hg).1
        simp only [hB]
        rw [if_pos this]
        exact hg
      obtain ⟨cv, k1, k2⟩ := read_f I.rel hH hE hv
      rw [k1, Oper.upon_value]
      exact hK _ _ ρ (I.calm W hj hw hm hT k2 (by rw [hs]; rfl))
    · rename_i hc
      have hw : isW P (opAt ops j) = false := by simp [isW, hc]
      have hm : makes P ops tr j = true := by simp [makes, isA, hc, hx]
      simp only [hw, Bool.false_eq_true, if_false] at hK
      obtain ⟨cs, mk, hv, _, hs⟩ := hrun
      obtain ⟨cv, w', c, e, fz, k1, k2, k3, k4, k5, k6⟩ := alloc_f hE hv w
      rw [k1, Oper.upon_value]
      obtain ⟨ρ', I'⟩ := I.made W (cv := cv) R0 hj hb hm hM (by rw [hs]) k2 k3 k4 k5 hT (fun ρ' h => k6 ρ' _ h) (by rw [hs])
      exact hK _ _ ρ' I'
    · rename_i hc
      have hw : isW P (opAt ops j) = true := by simp [isW, hc]
      simp only [hw, if_true] at hK
      have IJ := atJ hw
      obtain ⟨u1, u2, R1⟩ := IJ.plain W hj hw hM
      split at hrun
      · rename_i g as hcal
        obtain ⟨v, H', hs, e⟩ := hrun
        obtain ⟨⟨fn, c, f1, f2, f3⟩, _, hcalls⟩ := hs
        obtain ⟨cargs, r1, r2⟩ := run_call hE hcal f1 f2 f3 w
        rw [r1, Oper.upon_enter]
        have eH : (tr (j + 1)).H = H' := by rw [e]
        refine (hcalls (tr (j + 1)).H.length ρ base w cargs (by rw [eH]; exact Nat.le_refl _) R1 r2).mono ?_
        rintro en w' ⟨cv, ρ', rfl, hv, hR, hG⟩
        exact hK _ _ ρ' (IJ.wrote W (cv := cv) R0 hj hw hM (by rw [← eH] at hR; exact hR) (by rw [← eH] at hG; exact hG) hT hv (by rw [e]))
      · obtain ⟨v, H', hs, e⟩ := hrun
        have eH : (tr (j + 1)).H = H' := by rw [e]
        obtain ⟨nx, w', ρ', cv, r1, r2, r3, r4, r5⟩ := write_f (M := (tr (j + 1)).H.length) R1 (by rw [eH]; exact Nat.le_refl _) hE hs
        have I' := IJ.wrote W (cv := cv) R0 hj hw hM (by rw [← eH] at r4; exact r4) (by rw [← eH] at r5; exact r5) hT r3 (by rw [e])
        rw [r1]
        rcases r2 with rfl | ⟨rfl, rfl⟩
        · rw [Oper.upon_value]; exact hK _ _ ρ' I'
        · rw [Oper.upon_skip]; exact hK _ _ ρ' I'
/-! ### the whole region -/
theorem Inv.start (W : Way P (Sound P) ops tr) (R0 : Rel M ρ0 base (hf (tr 0).H) w0) (hA : LR ρ0 (tr 0).ts A.tmps.toList) : Inv P ops tr M base ρ0 w0 A.defers (fun _ => false) 0 A w0 ρ0 := by
  have e : hB P ops tr (fun _ => false) 0 = hf (tr 0).H := by
    funext r
    simp only [hB, hf]
    split
    · rfl
    · rename_i hr
      have : ∀ k, early P ops tr (fun _ => false) k r = none := by
        intro k
        induction k with
        | zero => rfl
        | succ k ih => simp [early, ih]
      rw [this, List.getElem?_eq_none (by omega)]
  refine ⟨by omega, ⟨(tr 0).ts, hA, rfl, ?_⟩, rfl, fun i _ _ => by simp, by rw [e]; exact R0, fun i h => by omega, by rw [e]; exact Grow.refl _ _ _ _ _⟩
  intro t j hj hc
  refine (W.same (t := t) (i := 0) j (by omega) hj fun k _ k2 hd => ?_).symm
  have := (hc k (by omega) hd).2 k2
  cases this
theorem Inv.finish (W : Way P (Sound P) ops tr) (hM : (tr ops.size).H.length ≤ M) (I : Inv P ops tr M base ρ0 w0 D b m A w ρ) (hall : ∀ i, i < ops.size → b i = true) :
    LR ρ (tr ops.size).ts A.tmps.toList ∧ A.defers = D ∧ Rel M ρ base (hf (tr ops.size).H) w ∧ Grow M (tr 0).H.length ρ0 (hf (tr 0).H) w0 ρ (hf (tr ops.size).H) w := by
  have I2 : Inv P ops tr M base ρ0 w0 D b ops.size A w ρ := by
    refine I.shift W hM I.ml (Nat.le_refl _) fun k k1 k2 => ?_
    cases hk : isW P (opAt ops k) with
    | false => rfl
    | true => have := (I.wr k k2 hk).1 (hall k k2); omega
  have e : hB P ops tr b ops.size = hf (tr ops.size).H := by
    funext r
    simp only [hB, hf]
    split
    · rfl
    · rename_i hr
      rw [List.getElem?_eq_none (by omega)]
      cases h : early P ops tr b ops.size r with
      | none => rfl
      | some g =>
        obtain ⟨i, q1, q2, q3, q4, q5⟩ := early_inv h
        obtain ⟨cs, mk, _, _, hH⟩ := W.make q1 q3
        have := W.lens (i := i + 1) ops.size (by omega) (Nat.le_refl _)
        rw [hH] at this
        simp at this
        omega
  obtain ⟨TS, t1, t2, t3⟩ := I2.tmp
  have : TS = (tr ops.size).ts := by
    apply List.ext_getElem?
    intro t
    exact t3 t ops.size (Nat.le_refl _) fun i hi _ => by simp [hall i hi, hi]
  have r1 := I2.rel
  have r2 := I2.gr
  rw [e] at r1 r2
  exact ⟨this ▸ t1, I2.df, r1, r2⟩
theorem wpOps_way (W : Way P (Sound P) ops tr) (R0 : Rel M ρ0 base (hf (tr 0).H) w0) (hM : (tr ops.size).H.length ≤ M)
    (hQ : ∀ A' w' ρ', LR ρ' (tr ops.size).ts A'.tmps.toList → A'.defers = D → Rel M ρ' base (hf (tr ops.size).H) w' → Grow M (tr 0).H.length ρ0 (hf (tr 0).H) w0 ρ' (hf (tr ops.size).H) w' → Q .normal A' w') :
    ∀ (l : List Nat) (j : Nat) (A : Act) (w : World) (ρ : Ren) (b : Nat → Bool) (m : Nat), List.range ops.size = List.range j ++ l → j ≤ ops.size → m ≤ j → (∀ i, i < ops.size → (b i = true ↔ i < j)) → Inv P ops tr M base ρ0 w0 D b m A w ρ → wpOps P ops Q l A w := by
  intro l
  induction l with
  | nil =>
    intro j A w ρ b m hl hj hm hb I
    have : j = ops.size := by
      have := congrArg List.length hl
      simp at this
      omega
    subst this
    obtain ⟨h1, h2, h3, h4⟩ := I.finish W hM fun i hi => (hb i hi).2 hi
    exact hQ _ _ _ h1 h2 h3 h4
  | cons i l ih =>
    intro j A w ρ b m hl hj hm hb I
    have hlen : ops.size = j + (l.length + 1) := by
      have := congrArg List.length hl
      simpa using this
    have hij : i = j := by
      have := congrArg (fun x => x[j]?) hl
      rw [List.getElem?_range (by omega), List.getElem?_append_right (by simp)] at this
      simpa using this.symm
    subst hij
    have hi : i < ops.size := by omega
    -- nothing is written between m and here
    have I2 : Inv P ops tr M base ρ0 w0 D b i A w ρ := by
      refine I.shift W hM hm (by omega) fun k k1 k2 => ?_
      cases hk : isW P (opAt ops k) with
      | false => rfl
      | true =>
        have := (hb k (by omega)).2 k2
        have := (I.wr k (by omega) hk).1 this
        omega
    rw [wpOps_cons]
    refine one_step W I2 R0 hM hi ?_ ?_ ?_ (fun _ _ => .inr rfl) ?_
    · cases h : b i with
      | false => rfl
      | true => have := (hb i hi).1 h; omega
    · intro t _ k hk _ _
      exact hb k hk
    · intro _ k hk _ _
      exact hb k hk
    · intro A' w' ρ' I'
      refine ih (i + 1) A' w' ρ' _ _ ?_ (by omega) (by split <;> omega) ?_ I'
      · rw [hl, List.range_succ, List.append_assoc]; rfl
      · intro k hk
        by_cases hki : k = i
        · subst hki; simp [with1]
        · rw [with1_ne hki, hb k hk]; omega
end
end Go.Proofs.YtfgmmklljibbiaaDoor.Sim

