/- What a call that is given no address and gives none leaves: nothing. Code by what must be so behind it. -/
import Derived.Test.YtfgmmklljibbiaaDoorS15
namespace Go.Proofs.YtfgmmklljibbiaaDoor.Sim
open Go
set_option linter.unusedSimpArgs false
set_option linter.unusedVariables false
/-- No address within. -/
inductive Flat : AV → Prop where
  | sc (v : Value) : Flat (.sc v)
  | agg {cs : List AV} : (∀ a, a ∈ cs → Flat a) → Flat (.agg cs)
  | tup {cs : List AV} : (∀ a, a ∈ cs → Flat a) → Flat (.tup cs)
theorem Flat.vr {ρ ρ' : Ren} {a : AV} {v : Value} (h : Flat a) (k : VR ρ a v) : VR ρ' a v := by
  induction k with
  | sc v => exact .sc v
  | ptr _ => cases h
  | sl _ _ _ => cases h
  | sl0 _ => cases h
  | agg h1 _ ih =>
    cases h with
    | agg hc => exact .agg h1 fun i a v ha hv => ih i a v ha hv (hc a (List.mem_of_getElem? ha))
  | tup h1 _ ih =>
    cases h with
    | tup hc => exact .tup h1 fun i a v ha hv => ih i a v ha hv (hc a (List.mem_of_getElem? ha))
theorem Flat.lr {ρ ρ' : Ren} {as : List AV} {vs : List Value} (h : ∀ a, a ∈ as → Flat a) (k : LR ρ as vs) : LR ρ' as vs := ⟨k.1, fun i a v ha hv => (h a (List.mem_of_getElem? ha)).vr (k.2 i a v ha hv)⟩
theorem flats_nil : ∀ a, a ∈ ([] : List AV) → Flat a := fun _ h => by cases h
theorem flats_cons {x : AV} {l : List AV} (h : Flat x) (k : ∀ a, a ∈ l → Flat a) : ∀ a, a ∈ x :: l → Flat a := fun a ha => by
  rcases List.mem_cons.1 ha with rfl | ha
  · exact h
  · exact k a ha
/-- A function that is given no address and gives none, wherever it is called. -/
def Fn (P : Program) (f : FuncId) (args : List AV) (v : AV) : Prop := ∀ H, Sound P f args H v H
theorem Fn.of {P : Program} {f : FuncId} {args : List AV} {v : AV} {Z : AHeap} (ha : ∀ a, a ∈ args → Flat a) (hv : Flat v) (k : Sound P f args [] v Z) : Fn P f args v := by
  intro H
  obtain ⟨h1, _, h3⟩ := k
  refine ⟨h1, Nat.le_refl _, ?_⟩
  intro M ρ base w cargs hM hR hA
  have hR1 : Rel Z.length (fun _ => none) base (hf []) w := ⟨hR.bs, fun _ _ h => by (cases h), fun _ _ h => by (cases h), fun r g h => by simp [hf] at h, fun r g l h => by simp [hf] at h, fun r1 r2 g1 g2 l1 l2 h => by simp [hf] at h⟩
  refine (h3 Z.length (fun _ => none) base w cargs (Nat.le_refl _) hR1 (Flat.lr ha hA)).mono ?_
  rintro e w' ⟨cv, ρ', rfl, hvr, hR', hG⟩
  have hfr : ∀ b, b < w.heap.size → w'.heap[b]? = w.heap[b]? := fun b hb => hG.frame b hb fun r g l h => by simp [hf] at h
  refine ⟨cv, ρ, rfl, hv.vr hvr, ⟨⟨Nat.le_trans hR.bs.1 hG.size, hR'.bs.2⟩, fun r l h => Nat.lt_of_lt_of_le (hR.lt r l h) hG.size, hR.dom, hR.top, fun r g l h1 h2 h3 => (hR.reg r g l h1 h2 h3).mono (fun _ _ h => h) (hfr _ (hR.lt r l h3)), hR.inj⟩, ?_⟩
  exact ⟨hG.os, hG.tape, hG.output, hG.size, fun b hb _ => hfr b hb, fun _ _ h => h, fun _ _ _ _ k => ⟨k, rfl⟩, fun _ _ a b => (by rw [a] at b; cases b), fun _ _ _ a b c => (by rw [a] at b; injection b with b; subst b; exact ⟨c, rfl⟩), fun _ g k => ⟨g, k⟩, fun _ _ => rfl⟩

/-! ### temporaries as a table -/
def tab (n : Nat) (T : Nat → AV) : List AV := (List.range n).map T
def upd (T : Nat → AV) (d : Nat) (v : AV) : Nat → AV := fun t => if t = d then v else T t
theorem upd_eq (T : Nat → AV) (d : Nat) (v : AV) : upd T d v d = v := if_pos rfl
theorem upd_ne (T : Nat → AV) (d : Nat) (v : AV) (t : Nat) (h : t ≠ d) : upd T d v t = T t := if_neg h
theorem ev_tab (n : Nat) (T : Nat → AV) (t : Nat) (h : t < n) : ev (tab n T) (.tmp t) = T t := by simp [ev, tab, h]
theorem ev_const (ts : List AV) (v : Value) : ev ts (.const v) = ofV v := rfl
theorem set_tab (n : Nat) (T : Nat → AV) (d : Nat) (v : AV) : setD (tab n T) (some d) v = tab n (upd T d v) := by
  apply List.ext_getElem?
  intro i
  simp only [setD, tab, List.getElem?_set, List.length_map, List.length_range, List.getElem?_map, upd]
  by_cases h : d = i
  · subst h
    by_cases h2 : d < n
    · simp [h2, upd]
    · simp [h2]
  · by_cases h2 : i < n
    · simp [h2, h, upd, Ne.symm h]
    · simp [h2, h]
theorem tab_init (args : List AV) (n : Nat) (h : args.length ≤ n) : args ++ List.replicate (n - args.length) und = tab n (fun t => args.getD t und) := by
  apply List.ext_getElem?
  intro i
  simp only [tab, List.getElem?_map, List.getD_eq_getElem?_getD]
  rcases Nat.lt_or_ge i args.length with h1 | h1
  · rw [List.getElem?_append_left h1, List.getElem?_range (by omega)]
    simp [List.getElem?_eq_getElem h1]
  · rw [List.getElem?_append_right h1, List.getElem?_replicate]
    rcases Nat.lt_or_ge i n with h2 | h2
    · rw [if_pos (by omega), List.getElem?_range h2, Option.map_some, List.getElem?_eq_none h1]
      rfl
    · rw [if_neg (by omega), List.getElem?_eq_none (by simp; omega)]
      rfl
/-! ### what must be so behind it -/
section
variable (P : Program)
def opW (o : Oper) (K : St → Prop) (s : St) : Prop :=
  match clsOf P o with
  | .pure => match evPure P s.ts o.op with
    | some v => K (s.put o.dst v)
    | none => False
  | .read => match evRead P s.ts o.op s.H with
    | some v => K (s.put o.dst v)
    | none => False
  | .alloc => match evAlloc P s.ts o.op with
    | some (cs, mk) => cs.all AV.one = true ∧ K ⟨setD s.ts o.dst (mk s.H.length), s.H ++ [⟨cs, true, true⟩]⟩
    | none => False
  | .write => match calleeOf s.ts o with
    | some (g, as) => ∃ v H', Sound P g as s.H v H' ∧ K ⟨setD s.ts o.dst v, H'⟩
    | none => match evWrite P s.ts o.op s.H with
      | some (v, H') => K ⟨setD s.ts o.dst v, H'⟩
      | none => False
def opG (ops : Array Oper) (o : Oper) (K : St → Prop) (s : St) : Prop :=
  match o.guard with
  | none => opW P o K s
  | some (j, want) => match yieldedA ops s.ts j == some want with
    | true => opW P o K s
    | false => K (s.put o.dst und)
def opsW (ops : Array Oper) : List Oper → (St → Prop) → St → Prop
  | [], K, s => K s
  | o :: l, K, s => opG P ops o (opsW ops l K) s
/-- Which readings must be looked at again: the operation and the moment. -/
def pairs (ops : Array Oper) : List (Nat × Nat) :=
  (List.range ops.size).flatMap fun j => if isR P (opAt ops j) then ((List.range (ops.size + 1)).filter fun k => moment P ops k && mayAt P ops j k).map fun k => (j, k) else []
/-- The states so far, the last first. -/
def sameRead (ops : Array Oper) (hs : List St) (p : Nat × Nat) : Prop :=
  let sj := hs.getD (ops.size - p.1) ⟨[], []⟩
  let sk := hs.getD (ops.size - p.2) ⟨[], []⟩
  Region.wanted (opAt ops p.1) (yieldedA ops sj.ts) = true → calm P ops p.1 p.2 = true ∨ evRead P sj.ts (opAt ops p.1).op sk.H = evRead P sj.ts (opAt ops p.1).op sj.H
def dopsW (ops : Array Oper) (ps : List (Nat × Nat)) (K : St → Prop) : List Oper → List St → St → Prop
  | [], hs, s => (∀ p, p ∈ ps → sameRead P ops (s :: hs) p) ∧ K s
  | o :: l, hs, s => opG P ops o (fun s' => dopsW ops ps K l (s :: hs) s') s
def awp : Code → (St → Prop) → (Nat → St → Prop) → (St → Prop) → St → Prop
  | .skip, K, _, _, s => K s
  | .region _ ops false, K, _, _, s => opsW P ops ops.toList K s
  | .region _ ops true, K, _, _, s => P.follows .mixedOrders = true ∧ drawOk P ops = true ∧ ∃ ps, pairs P ops = ps ∧ dopsW P ops ps K ops.toList [] s
  | .seq a b, K, E, R, s => awp a (fun s' => awp b K E R s') E R s
  | .cond c a b, K, E, R, s => match ev s.ts c with
    | .sc (.bool t) => if t = true then awp a K E R s else awp b K E R s
    | _ => False
  | .block id c, K, E, R, s => awp c K (fun i s' => if i = id then K s' else E i s') R s
  | .loop c, _, E, R, s => ∃ n, Nat.rec (motive := fun _ => St → Prop) (fun _ => False) (fun _ ih s => awp c ih E R s) n s
  | .exit id, _, E, _, s => E id s
  | .ret, _, _, R, s => R s
  | _, _, _, _, _ => False
end
section
variable {P : Program}
theorem opW_eff {o : Oper} {K : St → Prop} {s : St} (h : opW P o K s) : ∃ s', Eff P (Sound P) o s s' ∧ K s' := by
  unfold opW at h
  unfold Eff
  split at h
  · rename_i hc
    rw [hc]
    split at h
    · rename_i v hv; exact ⟨_, ⟨v, hv, rfl⟩, h⟩
    · exact h.elim
  · rename_i hc
    rw [hc]
    split at h
    · rename_i v hv; exact ⟨_, ⟨v, hv, rfl⟩, h⟩
    · exact h.elim
  · rename_i hc
    rw [hc]
    split at h
    · rename_i cs mk hv; exact ⟨_, ⟨cs, mk, hv, h.1, rfl⟩, h.2⟩
    · exact h.elim
  · rename_i hc
    rw [hc]
    simp only
    split at h
    · rename_i g as hcal
      obtain ⟨v, H', h1, h2⟩ := h
      rw [hcal]
      exact ⟨_, ⟨v, H', h1, rfl⟩, h2⟩
    · rename_i hcal
      rw [hcal]
      simp only
      split at h
      · rename_i v H' hv; exact ⟨_, ⟨v, H', hv, rfl⟩, h⟩
      · exact h.elim
theorem opG_step {ops : Array Oper} {i : Nat} {o : Oper} (ho : ops[i]? = some o) {K : St → Prop} {s : St} (h : opG P ops o K s) : ∃ s', OpStep P (Sound P) ops i s s' ∧ K s' := by
  have key : (Region.wanted o (yieldedA ops s.ts) = true ∧ opW P o K s) ∨ (Region.wanted o (yieldedA ops s.ts) = false ∧ K (s.put o.dst und)) := by
    unfold opG at h
    unfold Region.wanted
    split at h
    · rename_i hg
      rw [hg]
      exact .inl ⟨rfl, h⟩
    · rename_i j want hg
      rw [hg]
      split at h
      · rename_i hy
        exact .inl ⟨hy, h⟩
      · rename_i hy
        exact .inr ⟨hy, h⟩
  unfold OpStep
  rw [ho]
  simp only
  rcases key with ⟨k1, k2⟩ | ⟨k1, k2⟩
  · obtain ⟨s', h1, h2⟩ := opW_eff k2
    exact ⟨s', by rw [if_pos k1]; exact h1, h2⟩
  · exact ⟨_, by rw [if_neg (by simp [k1])], k2⟩
theorem opsW_run {ops : Array Oper} {K : St → Prop} : ∀ (l : List Oper) (i : Nat) (s : St), ops.toList = ops.toList.take i ++ l → i + l.length = ops.size → opsW P ops l K s → ∃ s', OpsR P (Sound P) ops i s s' ∧ K s'
  | [], i, s, _, hi, h => ⟨s, .done (by simpa using hi), h⟩
  | o :: l, i, s, hl, hi, h => by
    have hlt : (ops.toList.take i).length = i := by simp at hi ⊢; omega
    have ho : ops[i]? = some o := by
      rw [← Array.getElem?_toList, hl, List.getElem?_append_right (by omega), hlt]
      simp
    obtain ⟨s1, h1, h2⟩ := opG_step ho h
    obtain ⟨s2, h3, h4⟩ := opsW_run l (i + 1) s1 (by
      have e : ops.toList.take (i + 1) = ops.toList.take i ++ [o] := by
        rw [List.take_add_one, Array.getElem?_toList, ho]
        rfl
      rw [e, List.append_assoc]
      exact hl) (by simp at hi; omega) h2
    exact ⟨s2, .step h1 h3, h4⟩
theorem dopsW_run {ops : Array Oper} {ps : List (Nat × Nat)} {K : St → Prop} : ∀ (l : List Oper) (hs : List St) (s : St), ops.toList = ops.toList.take hs.length ++ l → hs.length + l.length = ops.size → dopsW P ops ps K l hs s →
    ∃ xs : List St, xs.length = l.length + 1 ∧ (∀ i, i < l.length → OpStep P (Sound P) ops (hs.length + i) (xs.getD i ⟨[], []⟩) (xs.getD (i + 1) ⟨[], []⟩)) ∧ xs[0]? = some s ∧ (∀ p, p ∈ ps → sameRead P ops (xs.reverse ++ hs) p) ∧ K (xs.getD l.length ⟨[], []⟩)
  | [], hs, s, _, hi, h => ⟨[s], rfl, fun i hi => by simp at hi, rfl, by simpa using h.1, h.2⟩
  | o :: l, hs, s, hl, hi, h => by
    have hlt : (ops.toList.take hs.length).length = hs.length := by simp at hi ⊢; omega
    have ho : ops[hs.length]? = some o := by
      rw [← Array.getElem?_toList, hl, List.getElem?_append_right (by omega), hlt]
      simp
    obtain ⟨s1, h1, h2⟩ := opG_step ho h
    obtain ⟨xs, a1, a2, a3, a4, a5⟩ := dopsW_run l (s :: hs) s1 (by
      have e : ops.toList.take (hs.length + 1) = ops.toList.take hs.length ++ [o] := by
        rw [List.take_add_one, Array.getElem?_toList, ho]
        rfl
      rw [List.length_cons, e, List.append_assoc]
      exact hl) (by simp at hi ⊢; omega) h2
    have g0 : xs.getD 0 ⟨[], []⟩ = s1 := by rw [List.getD_eq_getElem?_getD, a3]; rfl
    refine ⟨s :: xs, by simp [a1], ?_, rfl, by simpa using a4, by simpa using a5⟩
    intro i hi2
    cases i with
    | zero =>
      show OpStep P (Sound P) ops (hs.length + 0) s (xs.getD 0 ⟨[], []⟩)
      rw [g0]
      exact h1
    | succ i =>
      have := a2 i (by simp at hi2; omega)
      rw [List.length_cons] at this
      rw [show hs.length + (i + 1) = hs.length + 1 + i by omega]
      simpa using this
theorem awp_ex : ∀ (c : Code) (K : St → Prop) (E : Nat → St → Prop) (R : St → Prop) (s : St), awp P c K E R s → ∃ e s', Ex P (Sound P) c s e s' ∧ (match e with
    | .normal => K s'
    | .exit id => E id s'
    | .ret => R s')
  | .skip, K, E, R, s, h => ⟨.normal, s, .skip, h⟩
  | .region id ops false, K, E, R, s, h => by
    obtain ⟨s', h1, h2⟩ := opsW_run (P := P) ops.toList 0 s (by simp) (by simp) h
    exact ⟨.normal, s', .region h1, h2⟩
  | .region id ops true, K, E, R, s, h => by
    obtain ⟨h1, h2, ps, hp, h3⟩ := h
    obtain ⟨xs, a1, a2, a3, a4, a5⟩ := dopsW_run (P := P) ops.toList [] s (by simp) (by simp) h3
    have e0 : xs.getD 0 ⟨[], []⟩ = s := by rw [List.getD_eq_getElem?_getD, a3]; rfl
    have ex := Ex.draw (P := P) (C := Sound P) (id := id) (ops := ops) (fun i => xs.getD i ⟨[], []⟩) h1 h2 (fun i hi => by simpa using a2 i (by simpa using hi)) ?_
    · rw [e0] at ex
      exact ⟨.normal, _, ex, by simpa using a5⟩
    · intro j hj hr hw k hk hm hmay
      have hrev : ∀ i, i ≤ ops.size → (xs.reverse ++ []).getD (ops.size - i) ⟨[], []⟩ = xs.getD i ⟨[], []⟩ := by
        intro i hi
        rw [List.append_nil, List.getD_eq_getElem?_getD, List.getElem?_reverse (by simp at a1; omega), List.getD_eq_getElem?_getD]
        congr 2
        simp at a1
        omega
      have := a4 (j, k) (by
        rw [← hp]
        simp only [pairs, List.mem_flatMap, List.mem_range]
        refine ⟨j, hj, ?_⟩
        rw [if_pos hr]
        simp only [List.mem_map, List.mem_filter, List.mem_range, Bool.and_eq_true]
        exact ⟨k, ⟨by omega, hm, hmay⟩, rfl⟩)
      unfold sameRead at this
      simp only at this
      rw [hrev j (by omega), hrev k hk] at this
      exact this hw
  | .seq a b, K, E, R, s, h => by
    obtain ⟨e, s1, h1, h2⟩ := awp_ex a _ E R s h
    cases e with
    | normal =>
      obtain ⟨e2, s2, h3, h4⟩ := awp_ex b K E R s1 h2
      exact ⟨e2, s2, .seq h1 h3, h4⟩
    | exit id => exact ⟨_, s1, .seqx h1 (by simp), h2⟩
    | ret => exact ⟨_, s1, .seqx h1 (by simp), h2⟩
  | .cond c a b, K, E, R, s, h => by
    simp only [awp] at h
    split at h
    · rename_i t ht
      cases t with
      | true =>
        obtain ⟨e, s1, h1, h2⟩ := awp_ex a K E R s h
        exact ⟨e, s1, .cond ht h1, h2⟩
      | false =>
        obtain ⟨e, s1, h1, h2⟩ := awp_ex b K E R s (by simpa using h)
        exact ⟨e, s1, .cond ht (by simpa using h1), h2⟩
    · exact h.elim
  | .block id c, K, E, R, s, h => by
    obtain ⟨e, s1, h1, h2⟩ := awp_ex c K _ R s h
    cases e with
    | normal => exact ⟨.normal, s1, .block h1 (by simp), h2⟩
    | exit i =>
      by_cases hi : i = id
      · subst hi
        exact ⟨.normal, s1, .blockx h1, by simpa using h2⟩
      · exact ⟨.exit i, s1, .block h1 (by simpa using hi), by simpa [hi] using h2⟩
    | ret => exact ⟨.ret, s1, .block h1 (by simp), h2⟩
  | .loop c, K, E, R, s, h => by
    obtain ⟨n, hn⟩ := h
    have ihc := awp_ex c
    induction n generalizing s with
    | zero => exact hn.elim
    | succ n ih =>
      obtain ⟨e, s1, h1, h2⟩ := ihc _ E R s hn
      cases e with
      | normal =>
        obtain ⟨e2, s2, h3, h4⟩ := ih s1 h2
        exact ⟨e2, s2, .loop h1 h3, h4⟩
      | exit id => exact ⟨_, s1, .loopx h1 (by simp), h2⟩
      | ret => exact ⟨_, s1, .loopx h1 (by simp), h2⟩
  | .exit id, K, E, R, s, h => ⟨.exit id, s, .exit, h⟩
  | .ret, K, E, R, s, h => ⟨.ret, s, .ret, h⟩
  | .label _, _, _, _, _, h => (by simp [awp] at h)
  | .goto _, _, _, _, _, h => (by simp [awp] at h)
  | .scope .., _, _, _, _, h => (by simp [awp] at h)
  | .rangeFunc .., _, _, _, _, h => (by simp [awp] at h)
  | .refuse .., _, _, _, _, h => (by simp [awp] at h)
end
end Go.Proofs.YtfgmmklljibbiaaDoor.Sim

