/- A drawn region; all of a function's code; calls. -/
import Derived.Test.YtfgmmklljibbiaaDoorS14
namespace Go.Proofs.YtfgmmklljibbiaaDoor.Sim
open Go
set_option linter.unusedSimpArgs false
set_option linter.unusedVariables false
theorem cnt_lt (p q : Nat → Bool) : ∀ l : List Nat, (∀ x ∈ l, p x = true → q x = true) → (∃ x ∈ l, q x = true ∧ p x = false) → l.countP p < l.countP q
  | [], _, h => by obtain ⟨x, hx, _⟩ := h; cases hx
  | a :: l, h1, h2 => by
    have hle : l.countP p ≤ l.countP q := List.countP_mono_left fun x hx h => h1 x (List.mem_cons_of_mem _ hx) h
    rw [List.countP_cons, List.countP_cons]
    obtain ⟨x, hx, k1, k2⟩ := h2
    rcases List.mem_cons.1 hx with rfl | hx
    · simp [k1, k2]; omega
    · have := cnt_lt p q l (fun x hx h => h1 x (List.mem_cons_of_mem _ hx) h) ⟨x, hx, k1, k2⟩
      have := h1 a (by simp)
      cases hp : p a <;> cases hq : q a <;> simp_all <;> omega
section
variable {P : Program} {ops : Array Oper} {tr : Nat → St} {M base : Nat} {ρ0 : Ren} {w0 : World} {D : List Deferred} {Q : Exit → Act → World → Prop}
def bb (l : Array Bool) : Nat → Bool := fun i => l.getD i false
theorem bb_set {l : Array Bool} {i : Nat} (h : i < l.size) : bb (l.setIfInBounds i true) = with1 (bb l) i := by
  funext k
  simp only [bb, with1, Array.getD_eq_getD_getElem?, Array.getElem?_setIfInBounds]
  by_cases e : k = i
  · subst e; simp [h]
  · simp [e, Ne.symm e]
theorem ready_iff {l : Array Bool} {i : Nat} (hl : l.size = ops.size) : i ∈ Region.ready .any ops l ↔ i < ops.size ∧ bb l i = false ∧ ∀ e ∈ (opAt ops i).after.toList, Region.binds .any e = true → bb l e.on = true := by
  unfold Region.ready
  rw [List.mem_filter, List.mem_range]
  by_cases hi : i < ops.size
  · have h1 : l.getD i true = bb l i := by simp [bb, Array.getD_eq_getD_getElem?, hl, hi]
    rw [opAt_some hi, h1]
    simp only [Option.map_some, Option.getD_some, Bool.and_eq_true, Bool.not_eq_true', hi, true_and]
    rw [← Array.all_toList, List.all_eq_true]
    constructor
    · rintro ⟨a, b⟩
      refine ⟨a, fun e he hb => ?_⟩
      have := b e he
      simpa [hb, bb] using this
    · rintro ⟨a, b⟩
      refine ⟨a, fun e he => ?_⟩
      cases hb : Region.binds .any e with
      | false => rfl
      | true => have := b e he hb; simpa [bb] using this
  · simp [hi]
theorem wpAny_way (W : Way P (Sound P) ops tr) (R0 : Rel M ρ0 base (hf (tr 0).H) w0) (hM : (tr ops.size).H.length ≤ M) (hd : drawOk P ops = true) (hr : ReadsOk P ops tr)
    (hQ : ∀ A' w' ρ', LR ρ' (tr ops.size).ts A'.tmps.toList → A'.defers = D → Rel M ρ' base (hf (tr ops.size).H) w' → Grow M (tr 0).H.length ρ0 (hf (tr 0).H) w0 ρ' (hf (tr ops.size).H) w' → Q .normal A' w') :
    ∀ (fuel : Nat) (l : Array Bool) (A : Act) (w : World) (ρ : Ren) (m : Nat), l.size = ops.size → (List.range ops.size).countP (fun i => !bb l i) ≤ fuel → (∀ j, j < ops.size → bb l j = true → ∀ i, befAt ops i j = true → bb l i = true) → (m = 0 ∨ isW P (opAt ops (m - 1)) = true) →
      Inv P ops tr M base ρ0 w0 D (bb l) m A w ρ → wpAny P .any ops Q fuel l A w := by
  intro fuel
  induction fuel with
  | zero =>
    intro l A w ρ m hl hc _ _ I
    have hall : ∀ i, i < ops.size → bb l i = true := by
      intro i hi
      have h0 : (List.range ops.size).countP (fun i => !bb l i) = 0 := by omega
      have := (List.countP_eq_zero.1 h0) i (List.mem_range.2 hi)
      simpa using this
    refine ⟨?_, ?_⟩
    · rw [List.eq_nil_iff_forall_not_mem]
      intro i hi
      obtain ⟨a, b, _⟩ := (ready_iff hl).1 hi
      rw [hall i a] at b
      cases b
    · obtain ⟨h1, h2, h3, h4⟩ := I.finish W hM hall
      exact hQ _ _ _ h1 h2 h3 h4
  | succ fuel ih =>
    intro l A w ρ m hl hc hcl hmm I
    refine ⟨?_, ?_⟩
    · intro hnil
      have hall : ∀ i, i < ops.size → bb l i = true := by
        intro i
        induction i using Nat.strongRecOn with
        | _ i ihi =>
          intro hi
          cases hb : bb l i with
          | true => rfl
          | false =>
            have : i ∈ Region.ready .any ops l := (ready_iff hl).2 ⟨hi, hb, fun e he hbd => by
              have := drawOk_edge hd hi e he hbd
              exact ihi e.on this (by omega)⟩
            rw [hnil] at this
            cases this
      obtain ⟨h1, h2, h3, h4⟩ := I.finish W hM hall
      exact hQ _ _ _ h1 h2 h3 h4
    · intro j hjr
      obtain ⟨hj, hb, hed⟩ := (ready_iff hl).1 hjr
      have hbef : ∀ i, befAt ops i j = true → bb l i = true := by
        intro i hi
        obtain ⟨e, he, hbd, h⟩ := befAt_inv hj (drawOk_edge hd hj) hi
        have h1 := hed e he hbd
        rcases h with h | h
        · rw [← h]; exact h1
        · exact hcl e.on (by have := drawOk_edge hd hj e he hbd; omega) h1 i h
      have hno : ∀ i, i < ops.size → befAt ops j i = true → bb l i = false := by
        intro i hi h
        cases hbi : bb l i with
        | false => rfl
        | true => rw [hcl i hi hbi j h] at hb; cases hb
      refine one_step W I R0 hM hj hb ?_ ?_ ?_ ?_
      · intro t ht i hi hij hdi
        rcases Nat.lt_or_ge i j with q | q
        · rcases drawOk_pair hd hj q with k | ⟨_, k, _⟩
          · simp [hbef i k, q]
          · exact absurd ht (k t hdi)
        · have q2 : j < i := by omega
          rcases drawOk_pair hd hi q2 with k | ⟨_, _, k⟩
          · simp [hno i hi k]; omega
          · exact absurd ht (k t hdi)
      · intro hw i hi hij hwi
        rcases Nat.lt_or_ge i j with q | q
        · rcases drawOk_pair hd hj q with k | ⟨k, _⟩
          · simp [hbef i k, q]
          · exact absurd ⟨hwi, hw⟩ k
        · have q2 : j < i := by omega
          rcases drawOk_pair hd hi q2 with k | ⟨k, _⟩
          · simp [hno i hi k]; omega
          · exact absurd ⟨hw, hwi⟩ k
      · intro hrd hx
        refine hr j hj hrd hx m I.ml ?_ ?_
        · rcases hmm with h | h
          · simp [moment, h]
          · simp [moment, h]
        · unfold mayAt
          rw [List.all_eq_true]
          intro i hi
          have hi := List.mem_range.1 hi
          cases hwi : isW P (opAt ops i) with
          | false => rfl
          | true =>
            simp only [Bool.not_true, Bool.false_or]
            split
            · rename_i him
              have h1 := (I.wr i hi hwi).2 him
              cases hbf : befAt ops j i with
              | false => rfl
              | true => rw [hno i hi hbf] at h1; cases h1
            · rename_i him
              cases hbf : befAt ops i j with
              | false => rfl
              | true => exact absurd ((I.wr i hi hwi).1 (hbef i hbf)) him
      · intro A' w' ρ' I'
        rw [← bb_set (by omega)] at I'
        refine ih _ A' w' ρ' _ (by simpa using hl) ?_ ?_ ?_ I'
        · rw [bb_set (by omega)]
          have := cnt_lt (fun i => !with1 (bb l) j i) (fun i => !bb l i) (List.range ops.size) (fun x _ h => by
            simp only [with1] at h
            split at h
            · cases h
            · exact h) ⟨j, List.mem_range.2 hj, by simp [hb], by simp [with1]⟩
          omega
        · rw [bb_set (by omega)]
          intro k hk hbk i hbi
          by_cases hkj : k = j
          · subst hkj
            have := hbef i hbi
            unfold with1
            split
            · rfl
            · exact this
          · rw [with1_ne hkj] at hbk
            have := hcl k hk hbk i hbi
            unfold with1
            split
            · rfl
            · exact this
        · split
          · rename_i hw; exact .inr (by simpa using hw)
          · exact hmm
end
theorem OpsR.trace {P : Program} {C : CallRel} {ops : Array Oper} {i : Nat} {s s' : St} (k : OpsR P C ops i s s') : i ≤ ops.size → ∃ tr : Nat → St, tr i = s ∧ tr ops.size = s' ∧ ∀ j, i ≤ j → j < ops.size → OpStep P C ops j (tr j) (tr (j + 1)) := by
  induction k with
  | @done i s h =>
    intro _
    subst h
    exact ⟨fun _ => s, rfl, rfl, fun j h1 h2 => by omega⟩
  | @step i s s1 s2 a r ih =>
    intro hi
    have hlt : i < ops.size := by
      unfold OpStep at a
      split at a
      · exact a.elim
      · rename_i o ho
        rcases Nat.lt_or_ge i ops.size with q | q
        · exact q
        · rw [Array.getElem?_eq_none (by omega)] at ho; cases ho
    obtain ⟨tr, h1, h2, h3⟩ := ih (by omega)
    refine ⟨fun j => if j = i then s else tr j, by simp, by simp only; rw [if_neg (by omega)]; exact h2, ?_⟩
    intro j k1 k2
    by_cases e : j = i
    · subst e
      simp only [if_true]
      rw [if_neg (by omega), h1]
      exact a
    · simp only [if_neg e]
      rw [if_neg (by omega)]
      exact h3 j (by omega) k2
def Exk.to : Exk → Exit
  | .normal => .normal
  | .exit id => .exit id
  | .ret => .ret
theorem Grow.from {M N : Nat} {ρ ρ' : Ren} {h h' : Nat → Option Reg} {w w1 w' : World} (k : Grow M N ρ h w1 ρ' h' w') (h1 : w1.heap = w.heap) (h2 : w1.os = w.os) (h3 : w1.tape = w.tape) (h4 : w1.output = w.output) : Grow M N ρ h w ρ' h' w' :=
  ⟨k.os.trans h2, k.tape.trans h3, k.output.trans h4, h1 ▸ k.size, fun b hb hn => by rw [k.frame b (by rw [h1]; exact hb) hn, h1], k.ext, k.unt, fun r l a c => h1 ▸ k.prov r l a c, k.back, k.per, k.res⟩
/-- What a piece of code does on the machine. -/
def Does (P : Program) (wpc : (Exit → Act → World → Prop) → Act → World → Prop) (s : St) (e : Exk) (s' : St) : Prop :=
  ∀ (M : Nat) (ρ : Ren) (base : Nat) (A : Act) (w : World) (Q : Exit → Act → World → Prop), s'.H.length ≤ M → Rel M ρ base (hf s.H) w → LR ρ s.ts A.tmps.toList →
    (∀ A' w' ρ', LR ρ' s'.ts A'.tmps.toList → A'.defers = A.defers → Rel M ρ' base (hf s'.H) w' → Grow M s.H.length ρ (hf s.H) w ρ' (hf s'.H) w' → Q e.to A' w') → wpc Q A w
theorem Sound.ln {P : Program} : ∀ f args H v H', Sound P f args H v H' → H.length ≤ H'.length := fun _ _ _ _ _ h => h.2.1
theorem Does.seq {P : Program} {wa wb : (Exit → Act → World → Prop) → Act → World → Prop} {s s1 s2 : St} {e : Exk} (h1 : Does P wa s .normal s1) (h2 : Does P wb s1 e s2) (l1 : s.H.length ≤ s1.H.length) (l2 : s1.H.length ≤ s2.H.length) :
    Does P (fun Q A w => wa (Exit.then (wb Q) Q) A w) s e s2 := by
  intro M ρ base A w Q hM hR hA hQ
  refine h1 M ρ base A w _ (by omega) hR hA ?_
  intro A1 w1 ρ1 a1 d1 r1 g1
  refine h2 M ρ1 base A1 w1 Q hM r1 a1 ?_
  intro A2 w2 ρ2 a2 d2 r2 g2
  exact hQ A2 w2 ρ2 a2 (d2.trans d1) r2 (Grow.trans hR r1.top g1 (g2.less (Nat.le_refl _) l1))
theorem Does.seqx {P : Program} {wa : (Exit → Act → World → Prop) → Act → World → Prop} {K : (Exit → Act → World → Prop) → Act → World → Prop} {s s1 : St} {e : Exk} (h1 : Does P wa s e s1) (he : e ≠ .normal) :
    Does P (fun Q A w => wa (Exit.then (K Q) Q) A w) s e s1 := by
  intro M ρ base A w Q hM hR hA hQ
  refine h1 M ρ base A w _ hM hR hA ?_
  intro A1 w1 ρ1 a1 d1 r1 g1
  have := hQ A1 w1 ρ1 a1 d1 r1 g1
  cases e with
  | normal => exact absurd rfl he
  | exit id => exact this
  | ret => exact this
theorem Ex.does {P : Program} {c : Code} {s s' : St} {e : Exk} (k : Ex P (Sound P) c s e s') : Does P (c.wp P) s e s' ∧ ∀ c', c = .loop c' → ∃ n, Does P (fun Q A w => Code.rounds P c' Q n A w) s e s' := by
  induction k with
  | skip => exact ⟨fun M ρ base A w Q hM hR hA hQ => wp_skip (hQ _ _ ρ hA rfl hR (Grow.refl _ _ _ _ _)), fun c' h => by cases h⟩
  | @region id ops s s' a =>
    refine ⟨?_, fun c' h => by cases h⟩
    obtain ⟨tr, rfl, rfl, ht⟩ := a.trace (by omega)
    intro M ρ base A w Q hM hR hA hQ
    have W : Way P (Sound P) ops tr := ⟨fun i hi => ht i (by omega) hi, Sound.ln⟩
    refine wp_region (wpOps_way W hR hM hQ (List.range ops.size) 0 A w ρ (fun _ => false) 0 (by simp) (by omega) (by omega) (fun i _ => by simp) (Inv.start W hR hA))
  | @draw id ops tr m d a rd =>
    refine ⟨?_, fun c' h => by cases h⟩
    intro M ρ base A w Q hM hR hA hQ
    have W : Way P (Sound P) ops tr := ⟨a, Sound.ln⟩
    have hR' : Rel M ρ base (hf (tr 0).H) { w with drawn := w.drawn + 1 } := hR.heap rfl
    refine wp_region_any m (wpAny_way W hR' hM d rd (fun A' w' ρ' h1 h2 h3 h4 => hQ A' w' ρ' h1 h2 h3 (h4.from rfl rfl rfl rfl)) ops.size _ A _ ρ 0 (by simp) ?_ ?_ (.inl rfl) ?_)
    · exact Nat.le_trans List.countP_le_length (by simp)
    · intro j hj h
      simp [bb, hj] at h
    · have e : bb (Array.replicate ops.size false) = fun _ => false := by
        funext i
        simp only [bb, Array.getD_eq_getD_getElem?, Array.getElem?_replicate]
        split <;> rfl
      rw [e]
      exact Inv.start W hR' hA
  | seq x y ix iy => exact ⟨fun M ρ base A w Q hM hR hA hQ => wp_seq (Does.seq ix.1 iy.1 (x.len Sound.ln) (y.len Sound.ln) M ρ base A w Q hM hR hA hQ), fun c' h => by cases h⟩
  | seqx x n ix => exact ⟨fun M ρ base A w Q hM hR hA hQ => wp_seq (Does.seqx (K := fun Q => _) ix.1 n M ρ base A w Q hM hR hA hQ), fun c' h => by cases h⟩
  | @cond c a b t s s1 e hc x ix =>
    refine ⟨fun M ρ base A w Q hM hR hA hQ => wp_cond (t := t) ?_ (ix.1 M ρ base A w Q hM hR hA hQ), fun c' h => by cases h⟩
    have := VR.eval hA c
    rw [hc] at this
    exact this.sc_inv
  | @block id c s s1 e x n ix =>
    refine ⟨fun M ρ base A w Q hM hR hA hQ => wp_block (ix.1 M ρ base A w _ hM hR hA ?_), fun c' h => by cases h⟩
    intro A' w' ρ' h1 h2 h3 h4
    have := hQ A' w' ρ' h1 h2 h3 h4
    cases e with
    | normal => exact this
    | exit id' =>
      simp only [Exk.to, Exit.inBlock] at this ⊢
      rw [if_neg (by rintro rfl; exact n rfl)]
      exact this
    | ret => exact this
  | @blockx id c s s1 x ix =>
    refine ⟨fun M ρ base A w Q hM hR hA hQ => wp_block (ix.1 M ρ base A w _ hM hR hA ?_), fun c' h => by cases h⟩
    intro A' w' ρ' h1 h2 h3 h4
    have := hQ A' w' ρ' h1 h2 h3 h4
    simp only [Exk.to, Exit.inBlock, if_true] at this ⊢
    exact this
  | @loop c s s1 s2 e x y ix iy =>
    obtain ⟨n, hn⟩ := iy.2 c rfl
    have hd := Does.seq ix.1 hn (x.len Sound.ln) (y.len Sound.ln)
    refine ⟨fun M ρ base A w Q hM hR hA hQ => wp_loop_rounds (n + 1) (hd M ρ base A w Q hM hR hA hQ), fun c' h => ?_⟩
    injection h with h
    subst h
    exact ⟨n + 1, hd⟩
  | @loopx c s s1 e x n ix =>
    have hd := Does.seqx (K := fun Q => Code.rounds P c Q 0) ix.1 n
    refine ⟨fun M ρ base A w Q hM hR hA hQ => wp_loop_rounds 1 (hd M ρ base A w Q hM hR hA hQ), fun c' h => ?_⟩
    injection h with h
    subst h
    exact ⟨1, hd⟩
  | exit => exact ⟨fun M ρ base A w Q hM hR hA hQ => wp_exit (hQ _ _ ρ hA rfl hR (Grow.refl _ _ _ _ _)), fun c' h => by cases h⟩
  | ret => exact ⟨fun M ρ base A w Q hM hR hA hQ => wp_ret (hQ _ _ ρ hA rfl hR (Grow.refl _ _ _ _ _)), fun c' h => by cases h⟩
/-! ### calls -/
theorem loadVar_sound {P : Program} {ρ : Ren} {M base : Nat} {H : AHeap} {w : World} {ts : List AV} {A : Act} {a : Tmp} {t : TypeId} {v : AV} (hR : Rel M ρ base (hf H) w) (ht : LR ρ ts A.tmps.toList) (hv : evRead P ts (.load t (.tmp a)) H = some v) :
    ∃ cv, (do loadVar t (← asAddr (A.tmps.getD a undef)) : Sem Value).run P w = .ok cv w ∧ VR ρ v cv := by
  simp only [evRead] at hv
  split at hv
  · rename_i r off hx
    obtain ⟨l, hl, e⟩ := ptr_ev ht hx
    have e : A.tmps.getD a undef = .pointer (some ⟨l.b, l.o + off, none⟩) := e
    rw [e]
    split at hv
    · rename_i hty
      by_cases hb : aggB P t = true
      · rw [if_pos hb] at hv
        simp only [Option.map_eq_some_iff] at hv
        obtain ⟨cs, hc, rfl⟩ := hv
        obtain ⟨g, hg, hlive, hn, rfl⟩ := cellsAt_inv hc
        obtain ⟨us, h1, h2⟩ := loadCells_run (P := P) (hR.reg r g l hg hlive hl) hn
        refine ⟨.agg us, ?_, .agg (by have := h2.1; rwa [Array.length_toList] at this) h2.2⟩
        simp [asAddr, loadVar, run_isAgg hty, hb, run_sizeOf hty, h1]
      · rw [if_neg hb] at hv
        split at hv
        · rename_i v' hc
          injection hv with hv
          subst hv
          obtain ⟨g, hg, hlive, hn, he⟩ := cellsAt_inv hc
          obtain ⟨u, a, ha, h1, h2⟩ := load1_run (P := P) (hR.reg r g l hg hlive hl) hn
          have : v' = a := by
            have h3 : [v'][0]? = ((g.cs.drop off).take 1)[0]? := by rw [he]
            rw [List.getElem?_take, if_pos (by omega), List.getElem?_drop, Nat.add_zero, ha] at h3
            simpa using h3
          subst this
          refine ⟨u, ?_, h2⟩
          simp only [asAddr, loadVar, Sem.run_bind, Sem.run_pure, Result.andThen_ok, run_isAgg hty, if_neg hb, h1]
        · cases hv
    · cases hv
  · cases hv
theorem run_results {P : Program} {ρ : Ren} {s : St} {A : Act} {M base : Nat} {g : ResultVar → Sem Value} (hg : ∀ t, g (.tmp t) = pure (A.tmps.getD t undef)) (hgc : ∀ a t, g (.cell a t) = (do loadVar t (← asAddr (A.tmps.getD a undef)))) (h : LR ρ s.ts A.tmps.toList) (w : World) (hR : Rel M ρ base (hf s.H) w) : ∀ (l : List ResultVar) (vs : List AV), ressA P s l = some vs →
    ∃ us : List Value, (l.mapM g).run P w = .ok us w ∧ LR ρ vs us
  | [], vs, hv => by
    simp only [ressA, Option.some.injEq] at hv
    subst hv
    exact ⟨[], by simp, LR.nil⟩
  | x :: l, vs, hv => by
    simp only [ressA] at hv
    split at hv
    · rename_i v vs' h1 h2
      injection hv with hv
      subst hv
      obtain ⟨us, k1, k2⟩ := run_results hg hgc h w hR l vs' h2
      cases x with
      | tmp t =>
        simp only [resA, Option.some.injEq] at h1
        subst h1
        have := VR.eval h (.tmp t)
        refine ⟨A.tmps.getD t undef :: us, ?_, LR.cons this k2⟩
        simp only [List.mapM_cons, Sem.run_bind, Sem.run_pure, Result.andThen_ok, k1, hg]
      | cell a t =>
        obtain ⟨cv, q1, q2⟩ := loadVar_sound hR h h1
        refine ⟨cv :: us, ?_, LR.cons q2 k2⟩
        have q0 : (g (.cell a t)).run P w = .ok cv w := by rw [hgc]; exact q1
        simp only [List.mapM_cons, Sem.run_bind, q0, Result.andThen_ok, Sem.run_pure, k1]
    · cases hv
theorem results_gen (fn : Func) (tmps : Array Value) : ∃ g : ResultVar → Sem Value, (∀ t, g (.tmp t) = pure (tmps.getD t undef)) ∧ (∀ a t, g (.cell a t) = (do loadVar t (← asAddr (tmps.getD a undef)))) ∧ results fn tmps = (do
    let vs ← fn.results.mapM g
    pure (if h : vs.size = 1 then vs[0] else .tuple vs)) := ⟨_, fun _ => rfl, fun _ _ => rfl, rfl⟩
theorem results_run {P : Program} {ρ : Ren} {s : St} {A : Act} {M base : Nat} {fn : Func} {vs : List AV} (h : LR ρ s.ts A.tmps.toList) (w : World) (hR : Rel M ρ base (hf s.H) w) (hv : ressA P s fn.results.toList = some vs) : ∃ cv, (results fn A.tmps).run P w = .ok cv w ∧ VR ρ (packA vs) cv := by
  obtain ⟨g, hg, hgc, e⟩ := results_gen fn A.tmps
  obtain ⟨us, k1, k2⟩ := run_results hg hgc h w hR _ _ hv
  have hr : (results fn A.tmps).run P w = .ok (if h : us.toArray.size = 1 then us.toArray[0] else .tuple us.toArray) w := by
    rw [e, Array.mapM_eq_mapM_toList]
    simp [k1]
  refine ⟨_, hr, ?_⟩
  match us, vs, k2 with
  | [], [], _ => exact .tup (by simp) (by intro i a v h; simp at h)
  | [u], [v], k2 => exact k2.2 0 v u rfl rfl
  | u :: u2 :: us, v :: v2 :: vs, k2 =>
    have : ¬ (u :: u2 :: us).toArray.size = 1 := by simp
    rw [dif_neg this]
    exact .tup (by simpa using k2.1) (by simpa using k2.2)
  | [], _ :: _, k2 => exact absurd k2.1 (by simp)
  | _ :: _, [], k2 => exact absurd k2.1 (by simp)
  | [_], _ :: _ :: _, k2 => exact absurd k2.1 (by simp)
  | _ :: _ :: _, [_], k2 => exact absurd k2.1 (by simp)
theorem Body.sound {P : Program} {f : FuncId} {args : List AV} {H : AHeap} {v : AV} {H' : AHeap} (k : Body P (Sound P) f args H v H') : Sound P f args H v H' := by
  obtain ⟨fn, c, e, s', vs, h1, h2, h3, h4, h5, h6, h7, rfl, rfl⟩ := k
  refine ⟨⟨fn, c, h1, h2, h3⟩, h5.len Sound.ln, ?_⟩
  intro M ρ base w cargs hM hR hA
  have hsz : cargs.size = args.length := by have := hA.1; simpa using this.symm
  refine calls_of_wp h1 h2 (h5.does.1 M ρ base _ w _ hM hR ?_ ?_)
  · have : LR ρ (List.replicate (fn.ntmps - args.length) und) (Array.replicate (fn.ntmps - cargs.size) undef).toList := by
      rw [Array.toList_replicate, hsz]
      have := LR.scs (ρ := ρ) (List.replicate (fn.ntmps - args.length) undef)
      rw [List.map_replicate] at this
      exact this
    have := hA.append this
    simpa using this
  · intro A' w' ρ' a1 d1 r1 g1
    have hres := results_run (P := P) a1 w' r1 h7
    obtain ⟨cv, hc1, hc2⟩ := hres
    rcases h6 with rfl | rfl
    · exact ⟨d1, cv, hc1, cv, ρ', rfl, hc2, r1, g1⟩
    · exact ⟨d1, cv, hc1, cv, ρ', rfl, hc2, r1, g1⟩
theorem CallR.sound {P : Program} {X : CallRel} (hX : ∀ f args H v H', X f args H v H' → Sound P f args H v H') {f : FuncId} {args : List AV} {H : AHeap} {v : AV} {H' : AHeap} (k : CallR P X f args H v H') : Sound P f args H v H' :=
  k (Sound P) hX fun _ _ _ _ _ h => h.sound
end Go.Proofs.YtfgmmklljibbiaaDoor.Sim

