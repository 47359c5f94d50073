/- A region whose operations come in another order than the text's: what stands of the text's own way when some of it has been carried out. -/
import Derived.Test.YtfgmmklljibbiaaDoorS10
namespace Go.Proofs.YtfgmmklljibbiaaDoor.Sim
open Go
set_option linter.unusedSimpArgs false
set_option linter.unusedVariables false
def isA (P : Program) (o : Oper) : Bool :=
  match clsOf P o with
  | .alloc => true
  | _ => false
section
variable {P : Program} {C : CallRel} {ops : Array Oper} {tr : Nat → St}
def exe (ops : Array Oper) (tr : Nat → St) (i : Nat) : Bool := Region.wanted (opAt ops i) (yieldedA ops (tr i).ts)
def makes (P : Program) (ops : Array Oper) (tr : Nat → St) (i : Nat) : Bool := isA P (opAt ops i) && exe ops tr i
/-- The text's own way. -/
structure Way (P : Program) (C : CallRel) (ops : Array Oper) (tr : Nat → St) : Prop where
  st : ∀ i, i < ops.size → OpStep P C ops i (tr i) (tr (i + 1))
  ln : ∀ f args H v H', C f args H v H' → H.length ≤ H'.length
theorem opAt_some {i : Nat} (hi : i < ops.size) : ops[i]? = some (opAt ops i) := by simp [opAt, Array.getD, hi]
theorem Way.run (W : Way P C ops tr) {i : Nat} (hi : i < ops.size) (hx : exe ops tr i = true) : Eff P C (opAt ops i) (tr i) (tr (i + 1)) := by
  have := W.st i hi
  unfold OpStep at this
  rw [opAt_some hi] at this
  simp only at this
  unfold exe at hx
  rwa [if_pos hx] at this
theorem Way.skip (W : Way P C ops tr) {i : Nat} (hi : i < ops.size) (hx : exe ops tr i = false) : tr (i + 1) = (tr i).put (opAt ops i).dst und := by
  have := W.st i hi
  unfold OpStep at this
  rw [opAt_some hi] at this
  simp only at this
  unfold exe at hx
  rwa [if_neg (by simp [hx])] at this
/-- What an operation leaves in its temporary. -/
theorem Way.ts (W : Way P C ops tr) {i : Nat} (hi : i < ops.size) : ∃ v, (tr (i + 1)).ts = setD (tr i).ts (opAt ops i).dst v := by
  cases hx : exe ops tr i with
  | false => rw [W.skip hi hx]; exact ⟨_, rfl⟩
  | true =>
    have := W.run hi hx
    unfold Eff at this
    split at this
    · obtain ⟨v, _, h⟩ := this; rw [h]; exact ⟨_, rfl⟩
    · obtain ⟨v, _, h⟩ := this; rw [h]; exact ⟨_, rfl⟩
    · obtain ⟨cs, mk, _, _, h⟩ := this; rw [h]; exact ⟨_, rfl⟩
    · split at this
      · obtain ⟨v, H', _, h⟩ := this; rw [h]; exact ⟨_, rfl⟩
      · obtain ⟨v, H', _, h⟩ := this; rw [h]; exact ⟨_, rfl⟩
theorem setD_get {ts : List AV} {d : Option Tmp} {v : AV} {t : Nat} (h : d ≠ some t) : (setD ts d v)[t]? = ts[t]? := by
  cases d with
  | none => rfl
  | some d => simp only [setD]; rw [List.getElem?_set_ne]; intro e; exact h (by rw [e])
theorem setD_len {ts : List AV} {d : Option Tmp} {v : AV} : (setD ts d v).length = ts.length := by cases d <;> simp [setD]
theorem Way.tlen (W : Way P C ops tr) : ∀ i, i ≤ ops.size → (tr i).ts.length = (tr 0).ts.length
  | 0, _ => rfl
  | i + 1, h => by
    obtain ⟨v, hv⟩ := W.ts (i := i) (by omega)
    rw [hv, setD_len, W.tlen i (by omega)]
/-- Nobody writes it between. -/
theorem Way.same (W : Way P C ops tr) {t i : Nat} : ∀ j, i ≤ j → j ≤ ops.size → (∀ k, i ≤ k → k < j → (opAt ops k).dst ≠ some t) → (tr j).ts[t]? = (tr i).ts[t]? := by
  intro j
  induction j with
  | zero => intro h _ _; have : i = 0 := by omega
            rw [this]
  | succ j ih =>
    intro h1 h2 h3
    rcases Nat.lt_or_ge j i with h | h
    · have : i = j + 1 := by omega
      rw [this]
    · obtain ⟨v, hv⟩ := W.ts (i := j) (by omega)
      rw [hv, setD_get (h3 j h (by omega)), ih h (by omega) fun k k1 k2 => h3 k k1 (by omega)]
theorem Way.len (W : Way P C ops tr) {i : Nat} (hi : i < ops.size) : (tr i).H.length ≤ (tr (i + 1)).H.length := (W.st i hi).len W.ln
theorem Way.lens (W : Way P C ops tr) {i : Nat} : ∀ j, i ≤ j → j ≤ ops.size → (tr i).H.length ≤ (tr j).H.length := by
  intro j
  induction j with
  | zero => intro h _; have : i = 0 := by omega
            rw [this]; exact Nat.le_refl _
  | succ j ih =>
    intro h1 h2
    rcases Nat.lt_or_ge j i with h | h
    · have : i = j + 1 := by omega
      rw [this]; exact Nat.le_refl _
    · exact Nat.le_trans (ih h (by omega)) (W.len (by omega))
/-- What does not write leaves what is there. -/
theorem Way.quiet (W : Way P C ops tr) {i : Nat} (hi : i < ops.size) (hw : isW P (opAt ops i) = false) (hm : makes P ops tr i = false) : (tr (i + 1)).H = (tr i).H := by
  cases hx : exe ops tr i with
  | false => rw [W.skip hi hx]; rfl
  | true =>
    have := W.run hi hx
    unfold Eff at this
    split at this
    · obtain ⟨v, _, h⟩ := this; rw [h]; rfl
    · obtain ⟨v, _, h⟩ := this; rw [h]; rfl
    · rename_i hc
      simp [makes, hx, isA, hc] at hm
    · rename_i hc
      simp [isW, hc] at hw
theorem Way.make (W : Way P C ops tr) {i : Nat} (hi : i < ops.size) (hm : makes P ops tr i = true) : ∃ cs mk, evAlloc P (tr i).ts (opAt ops i).op = some (cs, mk) ∧ (tr (i + 1)).ts = setD (tr i).ts (opAt ops i).dst (mk (tr i).H.length) ∧ (tr (i + 1)).H = (tr i).H ++ [⟨cs, true, true⟩] := by
  unfold makes at hm
  rw [Bool.and_eq_true] at hm
  have := W.run hi hm.2
  unfold Eff at this
  split at this
  all_goals (rename_i hc; first | (simp [isA, hc] at hm; done) | skip)
  obtain ⟨cs, mk, h1, _, h2⟩ := this
  rw [h2]
  exact ⟨cs, mk, h1, rfl, rfl⟩
theorem makes_noW {i : Nat} (h : makes P ops tr i = true) : isW P (opAt ops i) = false := by
  unfold makes isA at h
  unfold isW
  split at h <;> simp_all
/-- Between two writers: what was there, and what was made. -/
theorem Way.between (W : Way P C ops tr) {m : Nat} : ∀ j, m ≤ j → j ≤ ops.size → (∀ k, m ≤ k → k < j → isW P (opAt ops k) = false) →
    (∀ r, r < (tr m).H.length → (tr j).H[r]? = (tr m).H[r]?) ∧ (∀ r, (tr m).H.length ≤ r → r < (tr j).H.length → ∃ i, m ≤ i ∧ i < j ∧ makes P ops tr i = true ∧ (tr i).H.length = r) := by
  intro j
  induction j with
  | zero => intro h _ _; have : m = 0 := by omega
            subst this
            exact ⟨fun _ _ => rfl, fun r h1 h2 => by omega⟩
  | succ j ih =>
    intro h1 h2 h3
    rcases Nat.lt_or_ge j m with h | h
    · have : m = j + 1 := by omega
      subst this
      exact ⟨fun _ _ => rfl, fun r h1 h2 => by omega⟩
    · obtain ⟨k1, k2⟩ := ih h (by omega) fun k q1 q2 => h3 k q1 (by omega)
      cases hm : makes P ops tr j with
      | false =>
        rw [W.quiet (by omega) (h3 j h (by omega)) hm]
        exact ⟨k1, fun r q1 q2 => by obtain ⟨i, p1, p2, p3⟩ := k2 r q1 q2; exact ⟨i, p1, by omega, p3⟩⟩
      | true =>
        obtain ⟨cs, mk, _, _, hH⟩ := W.make (by omega) hm
        have hl := W.lens (i := m) j h (by omega)
        refine ⟨fun r q => ?_, fun r q1 q2 => ?_⟩
        · rw [hH, List.getElem?_append_left (by omega), k1 r q]
        · rw [hH, List.length_append, List.length_singleton] at q2
          rcases Nat.lt_or_ge r (tr j).H.length with q | q
          · obtain ⟨i, p1, p2, p3⟩ := k2 r q1 q; exact ⟨i, p1, by omega, p3⟩
          · exact ⟨j, h, by omega, hm, by omega⟩
/-- What one makes stays till the next writer. -/
theorem Way.stays (W : Way P C ops tr) {i j : Nat} (hm : makes P ops tr i = true) (hij : i < j) (hj : j ≤ ops.size) (h : ∀ k, i ≤ k → k < j → isW P (opAt ops k) = false) : (tr j).H[(tr i).H.length]? = (tr (i + 1)).H[(tr i).H.length]? := by
  obtain ⟨cs, mk, _, _, hH⟩ := W.make (by omega) hm
  exact (W.between (m := i + 1) j hij hj fun k k1 k2 => h k (by omega) k2).1 _ (by rw [hH]; simp)
theorem Way.one (W : Way P C ops tr) {i j : Nat} (hi : i < ops.size) (hj : j < ops.size) (h1 : makes P ops tr i = true) (h2 : makes P ops tr j = true) (h : (tr i).H.length = (tr j).H.length) : i = j := by
  have step : ∀ a b, a < ops.size → b < ops.size → makes P ops tr a = true → a < b → (tr a).H.length < (tr b).H.length := by
    intro a b ha hb hma hab
    obtain ⟨cs, mk, _, _, hH⟩ := W.make ha hma
    have := W.lens (i := a + 1) b hab (by omega)
    rw [hH] at this
    simp at this
    omega
  rcases Nat.lt_trichotomy i j with q | q | q
  · have := step i j hi hj h1 q; omega
  · exact q
  · have := step j i hj hi h2 q; omega
/-! ### what was made ahead -/
def early (P : Program) (ops : Array Oper) (tr : Nat → St) (b : Nat → Bool) : Nat → Nat → Option Reg
  | 0, _ => none
  | k + 1, r => if b k = true ∧ makes P ops tr k = true ∧ (tr k).H.length = r then (tr (k + 1)).H[r]? else early P ops tr b k r
theorem early_inv {b : Nat → Bool} {r : Nat} {g : Reg} : ∀ {k}, early P ops tr b k r = some g → ∃ i, i < k ∧ b i = true ∧ makes P ops tr i = true ∧ (tr i).H.length = r ∧ (tr (i + 1)).H[r]? = some g
  | 0, h => by cases h
  | k + 1, h => by
    simp only [early] at h
    split at h
    · rename_i hh
      exact ⟨k, by omega, hh.1, hh.2.1, hh.2.2, h⟩
    · obtain ⟨i, h1, h2⟩ := early_inv h
      exact ⟨i, by omega, h2⟩
theorem Way.early_at (W : Way P C ops tr) {b : Nat → Bool} {i : Nat} (hb : b i = true) (hm : makes P ops tr i = true) : ∀ k, i < k → k ≤ ops.size → early P ops tr b k (tr i).H.length = (tr (i + 1)).H[(tr i).H.length]? := by
  intro k
  induction k with
  | zero => intro h; omega
  | succ k ih =>
    intro h1 h2
    simp only [early]
    split
    · rename_i hh
      have := W.one (by omega) (by omega) hm hh.2.1 hh.2.2.symm
      rw [this]
    · rename_i hh
      rcases Nat.lt_or_ge i k with q | q
      · exact ih q (by omega)
      · have : i = k := by omega
        subst this
        exact absurd ⟨hb, hm, rfl⟩ hh
theorem Way.early_no (W : Way P C ops tr) {b : Nat → Bool} {i : Nat} (hi : i < ops.size) (hb : b i = false) (hm : makes P ops tr i = true) : early P ops tr b ops.size (tr i).H.length = none := by
  cases h : early P ops tr b ops.size (tr i).H.length with
  | none => rfl
  | some g =>
    obtain ⟨j, h1, h2, h3, h4, h5⟩ := early_inv h
    have := W.one h1 hi h3 hm h4
    subst this
    rw [hb] at h2
    cases h2
def hB (P : Program) (ops : Array Oper) (tr : Nat → St) (b : Nat → Bool) (m : Nat) : Nat → Option Reg := fun r => if r < (tr m).H.length then (tr m).H[r]? else early P ops tr b ops.size r
/-- With one more. -/
def with1 (b : Nat → Bool) (j : Nat) : Nat → Bool := fun i => if i = j then true else b i
theorem early_with {b : Nat → Bool} {j : Nat} (hm : makes P ops tr j = false) : ∀ k r, early P ops tr (with1 b j) k r = early P ops tr b k r
  | 0, _ => rfl
  | k + 1, r => by
    simp only [early, with1]
    rw [early_with hm k r]
    by_cases e : k = j
    · subst e; simp [hm]
    · simp [e]
theorem hB_with {b : Nat → Bool} {j m : Nat} (hm : makes P ops tr j = false) : hB P ops tr (with1 b j) m = hB P ops tr b m := by
  funext r
  simp only [hB, early_with hm]
theorem Way.early_with1 (W : Way P C ops tr) {b : Nat → Bool} {j : Nat} (hj : j < ops.size) (hm : makes P ops tr j = true) : ∀ r, early P ops tr (with1 b j) ops.size r = if r = (tr j).H.length then (tr (j + 1)).H[r]? else early P ops tr b ops.size r := by
  intro r
  by_cases hr : r = (tr j).H.length
  · subst hr
    rw [if_pos rfl, W.early_at (by simp [with1]) hm _ hj (Nat.le_refl _)]
  · rw [if_neg hr]
    have : ∀ k, early P ops tr (with1 b j) k r = early P ops tr b k r := by
      intro k
      induction k with
      | zero => rfl
      | succ k ih =>
        simp only [early, with1, ih]
        by_cases e : k = j
        · subst e; simp [Ne.symm hr]
        · simp [e]
    exact this _
end
end Go.Proofs.YtfgmmklljibbiaaDoor.Sim

