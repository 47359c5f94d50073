/- One operation, by what it looks at alone; what the machine does there. -/
import Derived.Test.YtfgmmklljibbiaaDoorS8
namespace Go.Proofs.YtfgmmklljibbiaaDoor.Sim
open Go
set_option linter.unusedSimpArgs false
set_option linter.unusedVariables false
section
variable {P : Program} {ts ts' : List AV}
theorem bnd_congr {x : Option Operand} {d : Nat} (h : ∀ y, x = some y → ev ts y = ev ts' y) : bnd ts x d = bnd ts' x d := by
  cases x with
  | none => rfl
  | some y => simp only [bnd, h y rfl]
theorem parts_congr {parts : Array (Nat × Operand)} (h : ∀ x ∈ (parts.toList.map (·.2)), ev ts x = ev ts' x) : (parts.toList.map fun p => (p.1, ev ts p.2)) = parts.toList.map fun p => (p.1, ev ts' p.2) :=
  List.map_congr_left fun p hp => by rw [h p.2 (List.mem_map.2 ⟨p, hp, rfl⟩)]
theorem evPure_congr {op : Op} (h : ∀ x ∈ op.operands.toList, ev ts x = ev ts' x) : evPure P ts op = evPure P ts' op := by
  cases op
  case move x => have h1 := h x (by simp [Op.operands]); simp only [evPure, h1]
  case assign x => have h1 := h x (by simp [Op.operands]); simp only [evPure, h1]
  case pick c a b =>
    have h1 := h c (by simp [Op.operands]); have h2 := h a (by simp [Op.operands]); have h3 := h b (by simp [Op.operands])
    simp only [evPure, h1, h2, h3]
  case nilCheck x => have h1 := h x (by simp [Op.operands]); simp only [evPure, h1]
  case binOp op t x y u =>
    have h1 := h x (by simp [Op.operands]); have h2 := h y (by simp [Op.operands])
    simp only [evPure, h1, h2]
  case unOp op t x => have h1 := h x (by simp [Op.operands]); simp only [evPure, h1]
  case convert s d x => have h1 := h x (by simp [Op.operands]); simp only [evPure, h1]
  case slice t x lo hi mx =>
    have h1 := h x (by simp [Op.operands])
    have h2 : ∀ d, bnd ts lo d = bnd ts' lo d := fun d => bnd_congr fun y hy => h y (by simp [Op.operands, hy])
    have h3 : ∀ d, bnd ts hi d = bnd ts' hi d := fun d => bnd_congr fun y hy => h y (by simp [Op.operands, hy])
    cases mx <;> simp only [evPure, h1, h2, h3]
  case fieldAddr s x f => have h1 := h x (by simp [Op.operands]); simp only [evPure, h1]
  case field s x f => have h1 := h x (by simp [Op.operands]); simp only [evPure, h1]
  case indexAddr t x i =>
    have h1 := h x (by simp [Op.operands]); have h2 := h i (by simp [Op.operands])
    simp only [evPure, h1, h2]
  case index t x i =>
    have h1 := h x (by simp [Op.operands]); have h2 := h i (by simp [Op.operands])
    simp only [evPure, h1, h2]
  case extract t i => have h1 := h t (by simp [Op.operands]); simp only [evPure, h1]
  case build t parts =>
    have h1 := parts_congr (parts := parts) (ts := ts) (ts' := ts') (fun x hx => h x (by simpa [Op.operands] using hx))
    simp only [evPure, h1]
  case makeInterface t x => have h1 := h x (by simp [Op.operands]); simp only [evPure, h1]
  case call c =>
    have h1 : ∀ x ∈ c.args.toList, ev ts x = ev ts' x := fun x hx => h x (by simp only [Op.operands, Call.operands, Array.toList_append, List.mem_append]; exact .inr hx)
    have h2 : c.args.toList.map (ev ts) = c.args.toList.map (ev ts') := List.map_congr_left h1
    obtain ⟨cal, ⟨al⟩, ⟨tl⟩⟩ := c
    simp only at h1 h2
    simp only [evPure]
    split
    · rename_i x t
      have := h1 x (by simp)
      simp only [this]
    · rw [h2]
    · rw [h2]
    · rfl
  all_goals simp only [evPure]
theorem evRead_congr {op : Op} {H : AHeap} (h : ∀ x ∈ op.operands.toList, ev ts x = ev ts' x) : evRead P ts op H = evRead P ts' op H := by
  cases op
  case load t x => have h1 := h x (by simp [Op.operands]); simp only [evRead, h1]
  case convert s d x => have h1 := h x (by simp [Op.operands]); simp only [evRead, h1]
  all_goals simp only [evRead]
theorem evAlloc_congr {op : Op} (h : ∀ x ∈ op.operands.toList, ev ts x = ev ts' x) : evAlloc P ts op = evAlloc P ts' op := by
  cases op
  case box t x => have h1 := h x (by simp [Op.operands]); simp only [evAlloc, h1]
  case buildSlice t n parts =>
    have h1 := parts_congr (parts := parts) (ts := ts) (ts' := ts') (fun x hx => h x (by simpa [Op.operands] using hx))
    simp only [evAlloc, h1]
  case makeSlice t l c =>
    have h1 := h l (by simp [Op.operands]); have h2 := h c (by simp [Op.operands])
    simp only [evAlloc, h1, h2]
  case convert s d x => have h1 := h x (by simp [Op.operands]); simp only [evAlloc, h1]
  all_goals simp only [evAlloc]
theorem evWrite_congr {op : Op} {H : AHeap} (h : ∀ x ∈ op.operands.toList, ev ts x = ev ts' x) : evWrite P ts op H = evWrite P ts' op H := by
  cases op
  case store t x y =>
    have h1 := h x (by simp [Op.operands]); have h2 := h y (by simp [Op.operands])
    simp only [evWrite, h1, h2]
  case call c =>
    have h1 : ∀ x ∈ c.args.toList, ev ts x = ev ts' x := fun x hx => h x (by simp only [Op.operands, Call.operands, Array.toList_append, List.mem_append]; exact .inr hx)
    obtain ⟨cal, ⟨al⟩, ⟨tl⟩⟩ := c
    simp only at h1
    simp only [evWrite]
    split
    · rename_i s x t t'
      have k1 := h1 s (by simp)
      have k2 := h1 x (by simp)
      simp only [k1, k2]
    · rfl
  all_goals simp only [evWrite]
theorem callee_congr {o : Oper} (h : ∀ x ∈ o.op.operands.toList, ev ts x = ev ts' x) : calleeOf ts o = calleeOf ts' o := by
  unfold calleeOf
  split
  · rename_i c hc
    rw [hc] at h
    have h1 : ∀ x ∈ c.args.toList, ev ts x = ev ts' x := fun x hx => h x (by simp only [Op.operands, Call.operands, Array.toList_append, List.mem_append]; exact .inr hx)
    split
    · rename_i f hf
      have h2 := h f (by simp [Op.operands, Call.operands, hf])
      rw [h2, List.map_congr_left h1]
    · rfl
  · rfl
end
section
variable {P : Program} {ρ : Ren} {ts : List AV} {A : Act} {base M : Nat}
/-- What an operation looks at is related. -/
def EV (ρ : Ren) (ts : List AV) (A : Act) (o : Oper) : Prop := ∀ x ∈ o.op.operands.toList, VR ρ (ev ts x) (A.eval x)
theorem EV.of (h : LR ρ ts A.tmps.toList) (o : Oper) : EV ρ ts A o := fun x _ => .eval h x
theorem EV.mask {o : Oper} (h : EV ρ ts A o) : ∃ (ts' : List AV) (A' : Act), LR ρ ts' A'.tmps.toList ∧ (∀ x ∈ o.op.operands.toList, ev ts x = ev ts' x) ∧ (∀ x ∈ o.op.operands.toList, A'.eval x = A.eval x) := by
  let L : Nat → Bool := fun t => o.op.operands.toList.any fun x => match x with | .tmp u => u == t | _ => false
  have hL : ∀ t, Operand.tmp t ∈ o.op.operands.toList → L t = true := fun t ht => List.any_eq_true.2 ⟨_, ht, by simp⟩
  have hL2 : ∀ t, L t = true → Operand.tmp t ∈ o.op.operands.toList := by
    intro t ht
    obtain ⟨x, hx, h1⟩ := List.any_eq_true.1 ht
    cases x <;> simp at h1
    subst h1
    exact hx
  refine ⟨(List.range ts.length).map fun t => if L t then ts.getD t und else und, { A with tmps := ((List.range ts.length).map fun t => if L t then A.tmps.getD t undef else undef).toArray }, ?_, ?_, ?_⟩
  · refine ⟨by simp, fun i a v ha hv => ?_⟩
    simp only [List.getElem?_map] at ha hv
    by_cases hi : i < ts.length
    · rw [List.getElem?_range hi] at ha hv
      simp only [Option.map_some, Option.some.injEq] at ha hv
      subst ha; subst hv
      by_cases hl : L i = true
      · rw [if_pos hl, if_pos hl]
        exact h _ (hL2 i hl)
      · rw [if_neg hl, if_neg hl]
        exact .sc _
    · rw [List.getElem?_eq_none (by simp; omega)] at ha
      cases ha
  · intro x hx
    cases x with
    | tmp t =>
      simp only [ev]
      by_cases hi : t < ts.length
      · simp [List.getD_eq_getElem?_getD, hi, hL t hx]
      · simp [List.getD_eq_getElem?_getD, hi]
    | _ => rfl
  · intro x hx
    cases x with
    | tmp t =>
      simp only [Act.eval]
      by_cases hi : t < ts.length
      · simp [hi, hL t hx]
      · have h1 := h _ hx
        simp only [ev, Act.eval] at h1
        have h2 : ts.getD t und = und := by simp [List.getD_eq_getElem?_getD, hi]
        rw [h2] at h1
        have h3 := h1.sc_inv
        rw [h3]
        simp [hi]
    | _ => rfl
theorem noSel {o : Oper} (h : ∀ cs b, o.op ≠ .select cs b) {A' : Act} (he : ∀ x ∈ o.op.operands.toList, A'.eval x = A.eval x) : execOp A'.eval o = execOp A.eval o :=
  execOp_congr o h fun x hx => he x (Array.mem_toList_iff.2 hx)
theorem pure_f {o : Oper} {v : AV} (ht : EV ρ ts A o) (h : evPure P ts o.op = some v) : Yv P ρ A o v := by
  obtain ⟨ts', A', h1, h2, h3⟩ := ht.mask
  rw [evPure_congr h2] at h
  have := evPure_sound h1 h
  intro w
  obtain ⟨cv, k1, k2⟩ := this w
  rw [noSel (by intro cs b e; rw [e] at h; simp [evPure] at h) h3] at k1
  exact ⟨cv, k1, k2⟩
theorem read_f {o : Oper} {v : AV} {H : AHeap} {h : Nat → Option Reg} {w : World} (hR : Rel M ρ base h w) (hH : ∀ r l g, ρ r = some l → H[r]? = some g → h r = some g) (ht : EV ρ ts A o) (hv : evRead P ts o.op H = some v) : ∃ cv, (execOp A.eval o).run P w = .ok (.value cv) w ∧ VR ρ v cv := by
  obtain ⟨ts', A', h1, h2, h3⟩ := ht.mask
  rw [evRead_congr h2] at hv
  obtain ⟨cv, k1, k2⟩ := evRead_sound hR hH h1 hv
  rw [noSel (by intro cs b e; rw [e] at hv; simp [evRead] at hv) h3] at k1
  exact ⟨cv, k1, k2⟩
theorem alloc_f {o : Oper} {cs : List AV} {mk : Nat → AV} (ht : EV ρ ts A o) (hv : evAlloc P ts o.op = some (cs, mk)) : Ya P ρ A o cs mk := by
  obtain ⟨ts', A', h1, h2, h3⟩ := ht.mask
  rw [evAlloc_congr h2] at hv
  have := evAlloc_sound h1 hv
  intro w
  obtain ⟨cv, w', c, e, fz, k1, k2⟩ := this w
  rw [noSel (by intro cs b e; rw [e] at hv; simp [evAlloc] at hv) h3] at k1
  exact ⟨cv, w', c, e, fz, k1, k2⟩
theorem write_f {o : Oper} {H H' : AHeap} {v : AV} {w : World} (hR : Rel M ρ base (hf H) w) (hM : H'.length ≤ M) (ht : EV ρ ts A o) (hv : evWrite P ts o.op H = some (v, H')) : Yw P M ρ base A o H w v H' := by
  obtain ⟨ts', A', h1, h2, h3⟩ := ht.mask
  rw [evWrite_congr h2] at hv
  obtain ⟨nx, w', ρ', cv, k1, k2⟩ := evWrite_sound h1 hR hM hv
  rw [noSel (by intro cs b e; rw [e] at hv; simp [evWrite] at hv) h3] at k1
  exact ⟨nx, w', ρ', cv, k1, k2⟩
/-- What a call's text says is so of the machine. -/
def Sound (P : Program) : CallRel := fun f args H v H' =>
  (∃ fn c, P.funcs[f]? = some fn ∧ fn.body = some c ∧ (fn.name == "runtime.NumGoroutine") = false) ∧ H.length ≤ H'.length ∧
  ∀ (M : Nat) (ρ : Ren) (base : Nat) (w : World) (cargs : Array Value), H'.length ≤ M → Rel M ρ base (hf H) w → LR ρ args cargs.toList →
    Calls P f cargs w (fun e w' => ∃ cv ρ', e = .returned cv ∧ VR ρ' v cv ∧ Rel M ρ' base (hf H') w' ∧ Grow M H.length ρ (hf H) w ρ' (hf H') w')
theorem run_call {o : Oper} {g : FuncId} {as : List AV} {fn : Func} {c : Code} (ht : EV ρ ts A o) (hc : calleeOf ts o = some (g, as)) (hf : P.funcs[g]? = some fn) (hb : fn.body = some c) (hn : (fn.name == "runtime.NumGoroutine") = false) (w : World) :
    ∃ cargs : Array Value, (execOp A.eval o).run P w = .ok (.enter g cargs) w ∧ LR ρ as cargs.toList := by
  unfold calleeOf at hc
  split at hc
  · rename_i cl ho
    split at hc
    · rename_i f hcal
      split at hc
      · rename_i g' a b hev
        split at hc
        case isFalse => cases hc
        rename_i hab
        have ha := Array.eq_empty_of_size_eq_zero hab.1
        have hb' := Array.eq_empty_of_size_eq_zero hab.2
        subst ha; subst hb'
        simp only [Option.some.injEq, Prod.mk.injEq] at hc
        obtain ⟨rfl, rfl⟩ := hc
        have hfo : A.eval f = .func (.func g') #[] #[] := by
          have := ht f (by rw [ho]; simp [Op.operands, Call.operands, hcal])
          rw [hev] at this
          exact this.sc_inv
        refine ⟨cl.args.map A.eval, ?_, ?_⟩
        · unfold execOp
          rw [ho]
          have hn' : ¬ (fn.name = "runtime.NumGoroutine") := by simpa using hn
          simp [resolve, hcal, hfo, Deferred.ofValue, invoke, callFunc, hf, hb, hn']
        · refine ⟨by simp, fun i a v ha hv => ?_⟩
          rw [List.getElem?_map] at ha
          rw [Array.toList_map, List.getElem?_map] at hv
          cases hx : cl.args.toList[i]? with
          | none => rw [hx] at ha; cases ha
          | some x =>
            rw [hx] at ha hv
            simp only [Option.map_some, Option.some.injEq] at ha hv
            subst ha; subst hv
            exact ht x (by rw [ho]; simp only [Op.operands, Call.operands, Array.toList_append, List.mem_append]; exact .inr (List.mem_of_getElem? hx))
      · cases hc
    · cases hc
  · cases hc
end
/-! ### how many regions there are -/
section
variable {P : Program} {C : CallRel}
theorem evWrite_len {ts : List AV} {op : Op} {H H' : AHeap} {v : AV} (h : evWrite P ts op H = some (v, H')) : H.length ≤ H'.length := by
  unfold evWrite at h
  split at h
  · split at h
    · split at h
      · simp only [Option.some.injEq, Prod.mk.injEq] at h
        obtain ⟨_, rfl⟩ := h
        simp [setReg]
      · cases h
    · cases h
  · split at h
    case h_2 => cases h
    split at h
    case h_2 => cases h
    split at h
    case h_2 => cases h
    split at h
    case isFalse => cases h
    split at h
    · split at h
      case isFalse => cases h
      split at h
      · simp only [Option.some.injEq, Prod.mk.injEq] at h; obtain ⟨_, rfl⟩ := h; exact Nat.le_refl _
      · simp only [Option.some.injEq, Prod.mk.injEq] at h; obtain ⟨_, rfl⟩ := h; simp
    · split at h
      case h_2 => cases h
      split at h
      case isFalse => cases h
      simp only [Option.some.injEq, Prod.mk.injEq] at h; obtain ⟨_, rfl⟩ := h; simp [killReg]
    · cases h
  · cases h
theorem Eff.len (hC : ∀ f args H v H', C f args H v H' → H.length ≤ H'.length) {o : Oper} {s s' : St} (k : Eff P C o s s') : s.H.length ≤ s'.H.length := by
  unfold Eff at k
  split at k
  · obtain ⟨v, _, rfl⟩ := k; exact Nat.le_refl _
  · obtain ⟨v, _, rfl⟩ := k; exact Nat.le_refl _
  · obtain ⟨cs, mk, _, _, rfl⟩ := k; simp
  · split at k
    · obtain ⟨v, H', h1, rfl⟩ := k; exact hC _ _ _ _ _ h1
    · obtain ⟨v, H', h1, rfl⟩ := k; exact evWrite_len h1
theorem OpStep.len (hC : ∀ f args H v H', C f args H v H' → H.length ≤ H'.length) {ops : Array Oper} {i : Nat} {s s' : St} (k : OpStep P C ops i s s') : s.H.length ≤ s'.H.length := by
  unfold OpStep at k
  split at k
  · exact k.elim
  · split at k
    · exact k.len hC
    · subst k; exact Nat.le_refl _
theorem OpsR.len (hC : ∀ f args H v H', C f args H v H' → H.length ≤ H'.length) {ops : Array Oper} {i : Nat} {s s' : St} (k : OpsR P C ops i s s') : s.H.length ≤ s'.H.length := by
  induction k with
  | done _ => exact Nat.le_refl _
  | step a _ ih => exact Nat.le_trans (a.len hC) ih
theorem Ex.len (hC : ∀ f args H v H', C f args H v H' → H.length ≤ H'.length) {c : Code} {s s' : St} {e : Exk} (k : Ex P C c s e s') : s.H.length ≤ s'.H.length := by
  induction k with
  | skip => exact Nat.le_refl _
  | region a => exact a.len hC
  | @draw id ops tr _ _ a _ =>
    have : ∀ k, k ≤ ops.size → (tr 0).H.length ≤ (tr k).H.length := by
      intro k
      induction k with
      | zero => intro _; exact Nat.le_refl _
      | succ k ih => intro hk; exact Nat.le_trans (ih (by omega)) ((a k (by omega)).len hC)
    exact this _ (Nat.le_refl _)
  | seq _ _ i j => exact Nat.le_trans i j
  | seqx _ _ i => exact i
  | cond _ _ i => exact i
  | block _ _ i => exact i
  | blockx _ i => exact i
  | loop _ _ i j => exact Nat.le_trans i j
  | loopx _ _ i => exact i
  | exit => exact Nat.le_refl _
  | ret => exact Nat.le_refl _
end
theorem put_LR {ρ : Ren} {ts : List AV} {A : Act} {v : AV} {cv : Value} (h : LR ρ ts A.tmps.toList) (k : VR ρ v cv) (d : Option Tmp) : LR ρ (setD ts d v) (A.put d cv).tmps.toList := by
  cases d with
  | none => exact h
  | some d => simp only [setD, Act.put, Array.toList_setIfInBounds]; exact h.set k d
theorem put_defers (A : Act) (d : Option Tmp) (cv : Value) : (A.put d cv).defers = A.defers := by cases d <;> rfl
end Go.Proofs.YtfgmmklljibbiaaDoor.Sim

