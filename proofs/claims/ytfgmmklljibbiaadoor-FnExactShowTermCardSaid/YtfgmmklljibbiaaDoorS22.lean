/- A function that is given no address and gives a slice of numbers that it has made. -/
import Derived.Test.YtfgmmklljibbiaaDoorS21
namespace Go.Proofs.YtfgmmklljibbiaaDoor.Sim
open Go
set_option linter.unusedSimpArgs false
set_option linter.unusedVariables false
theorem ints_flat (k : IntKind) (l : List Int) : ∀ a, a ∈ ints k l → Flat a := by
  intro a ha
  obtain ⟨b, _, rfl⟩ := List.mem_map.1 ha
  exact .sc _
/-- Wherever it is called: one region more, which holds the numbers. -/
def FnL (P : Program) (f : FuncId) (args : List AV) (k : IntKind) (l : List Int) : Prop := ∀ H : AHeap, Sound P f args H (.sl H.length 0 l.length 1) (H ++ [⟨ints k l, true, true⟩])
theorem VR.sl_inv {ρ : Ren} {r off len sz : Nat} {v : Value} (h : VR ρ (.sl r off len sz) v) : ∃ l, ρ r = some l ∧ ∀ (ρ2 : Ren) (r2 : Nat), ρ2 r2 = some l → VR ρ2 (.sl r2 off len sz) v := by
  cases h with
  | sl a1 a2 a3 => exact ⟨_, a1, fun _ _ h => .sl h a2 a3⟩
  | sl0 a1 => exact ⟨_, a1, fun _ _ h => .sl0 h⟩
theorem FnL.of {P : Program} {f : FuncId} {args : List AV} {k : IntKind} {l : List Int} {r : Nat} {Z : AHeap} (ha : ∀ a, a ∈ args → Flat a) (hz : Z[r]? = some ⟨ints k l, true, true⟩) (hs : Sound P f args [] (.sl r 0 l.length 1) Z) : FnL P f args k l := by
  intro H
  obtain ⟨h1, _, h3⟩ := hs
  refine ⟨h1, by simp, ?_⟩
  intro M ρ base w cargs hM hR hA
  have hM' : H.length + 1 ≤ M := by simpa using hM
  have hR1 : Rel Z.length (fun _ => none) w.heap.size (hf []) w := ⟨⟨Nat.le_refl _, hR.bs.2.up hR.bs.1⟩, fun _ _ h => by (cases h), fun _ _ h => by (cases h), fun r g h => by simp [hf] at h, fun r g l h => by simp [hf] at h, fun r1 r2 g1 g2 l1 l2 h => by simp [hf] at h⟩
  refine (h3 Z.length (fun _ => none) w.heap.size w cargs (Nat.le_refl _) hR1 (Flat.lr ha hA)).mono ?_
  rintro e w' ⟨cv, ρ', rfl, hvr, hR', hG⟩
  have hfr : ∀ b, b < w.heap.size → w'.heap[b]? = w.heap[b]? := fun b hb => hG.frame b hb fun r g l h => by simp [hf] at h
  obtain ⟨loc, hloc, hmove⟩ := hvr.sl_inv
  obtain ⟨c, e, fz, p1, p2, p3, p4, p5, p6⟩ := hR'.reg r _ loc hz rfl hloc
  obtain ⟨q1, q2, q3⟩ := p5 rfl
  have hnone : ρ H.length = none := by
    cases h : ρ H.length with
    | none => rfl
    | some l' =>
      rcases hR.dom _ l' h with ⟨g, hg⟩ | q
      · have := (List.getElem?_eq_some_iff.1 hg).1; omega
      · omega
  let ρ2 : Ren := fun x => if x = H.length then some loc else ρ x
  have e1 : ρ2 H.length = some loc := if_pos rfl
  have e2 : ∀ x, x ≠ H.length → ρ2 x = ρ x := fun x h => if_neg h
  have ext : ∀ x l, ρ x = some l → ρ2 x = some l := fun x l h => by
    rw [e2 x (by rintro rfl; rw [hnone] at h; cases h)]; exact h
  have hh : hf (H ++ [⟨ints k l, true, true⟩]) = fun x => if x = H.length then some ⟨ints k l, true, true⟩ else hf H x := hf_snoc H _
  refine ⟨cv, ρ2, rfl, ?_, ?_, ?_⟩
  · exact hmove ρ2 H.length e1
  · rw [hh]
    refine ⟨⟨Nat.le_trans hR.bs.1 hG.size, hR.bs.2.keep fun b hb => hfr b (Nat.lt_of_lt_of_le hb hR.bs.1)⟩, ?_, ?_, ?_, ?_, ?_⟩
    · intro x l' hx
      by_cases h : x = H.length
      · subst h
        rw [e1] at hx
        injection hx with hx
        subst hx
        exact hR'.lt r loc hloc
      · rw [e2 x h] at hx
        exact Nat.lt_of_lt_of_le (hR.lt x l' hx) hG.size
    · intro x l' hx
      by_cases h : x = H.length
      · exact .inl ⟨_, if_pos h⟩
      · rw [e2 x h] at hx
        rcases hR.dom x l' hx with ⟨g, hg⟩ | q
        · exact .inl ⟨g, by rw [if_neg h]; exact hg⟩
        · exact .inr q
    · intro x g hx
      by_cases h : x = H.length
      · omega
      · rw [if_neg h] at hx
        exact hR.top x g hx
    · intro x g l' hx hl hρ
      by_cases h : x = H.length
      · subst h
        rw [if_pos rfl] at hx
        injection hx with hx
        subst hx
        rw [e1] at hρ
        injection hρ with hρ
        subst hρ
        exact ⟨c, e, fz, p1, p2, p3, Flat.lr (ints_flat k l) p4, fun _ => ⟨q1, Nat.le_trans hR.bs.1 q2, q3⟩, fun k => by cases k⟩
      · rw [if_neg h] at hx
        rw [e2 x h] at hρ
        exact (hR.reg x g l' hx hl hρ).mono ext (hfr _ (hR.lt x l' hρ))
    · intro x y g1 g2 l1 l2 a1 a2 b1 b2 c1 c2 d1 d2 e
      by_cases h : x = H.length
      · by_cases h' : y = H.length
        · rw [h, h']
        · subst h
          rw [e1] at d1
          injection d1 with d1
          subst d1
          rw [e2 y h'] at d2
          have := hR.lt y l2 d2
          omega
      · by_cases h' : y = H.length
        · subst h'
          rw [e1] at d2
          injection d2 with d2
          subst d2
          rw [e2 x h] at d1
          have := hR.lt x l1 d1
          omega
        · rw [if_neg h] at a1
          rw [if_neg h'] at a2
          rw [e2 x h] at d1
          rw [e2 y h'] at d2
          exact hR.inj x y g1 g2 l1 l2 a1 a2 b1 b2 c1 c2 d1 d2 e
  · rw [hh]
    refine ⟨hG.os, hG.tape, hG.output, hG.size, fun b hb _ => hfr b hb, ext, ?_, ?_, ?_, ?_, ?_⟩
    · intro x g hx hg hn
      have h : x ≠ H.length := by omega
      exact ⟨by rw [e2 x h]; exact hn, by rw [if_neg h]⟩
    · intro x l' hx hn
      by_cases h : x = H.length
      · subst h
        rw [e1] at hx
        injection hx with hx
        subst hx
        exact .inl q2
      · rw [e2 x h, hn] at hx; cases hx
    · intro x g g' hg hg' hl
      have h : x ≠ H.length := by
        have := (List.getElem?_eq_some_iff.1 hg).1
        omega
      rw [if_neg h, hg] at hg'
      injection hg' with hg'
      subst hg'
      exact ⟨hl, rfl⟩
    · intro x g hg
      have h : x ≠ H.length := by
        have := (List.getElem?_eq_some_iff.1 hg).1
        omega
      exact ⟨g, by rw [if_neg h]; exact hg⟩
    · intro x hx
      exact e2 x (by omega)
theorem callL {P : Program} {H : AHeap} {f : FuncId} {args : List AV} {k : IntKind} {l : List Int} {K : AV → AHeap → Prop} (h : FnL P f args k l) (hk : K (.sl H.length 0 l.length 1) (H ++ [⟨ints k l, true, true⟩])) : ∃ v H', Sound P f args H v H' ∧ K v H' := ⟨_, _, h H, hk⟩
/-- What the code must come to: a slice of all of a region of numbers. -/
def retL (P : Program) (rs : List ResultVar) (k : IntKind) (l : List Int) (s : St) : Prop := ∃ r, retIs P rs (.sl r 0 l.length 1) s ∧ s.H[r]? = some ⟨ints k l, true, true⟩
theorem FnL.run {P : Program} {f : FuncId} {fn : Func} {c : Code} {args : List AV} {k : IntKind} {l : List Int} (n : Nat) (rs : List ResultVar) (hf : P.funcs[f]? = some fn) (hb : fn.body = some c) (hnt : fn.ntmps = n) (hrs : fn.results.toList = rs) (hn : (fn.name == "runtime.NumGoroutine") = false) (hl : args.length ≤ n) (ha : ∀ a, a ∈ args → Flat a)
    (h : awp P c (retL P rs k l) (fun _ _ => False) (retL P rs k l) ⟨tab n (par args), []⟩) : FnL P f args k l := by
  subst hnt
  subst hrs
  have h0 := tab_init _ _ hl
  change _ = tab fn.ntmps (par args) at h0
  rw [← h0] at h
  obtain ⟨e, s', h1, h2⟩ := awp_ex _ _ _ _ _ h
  have key : (e = .normal ∨ e = .ret) ∧ retL P fn.results.toList k l s' := by
    cases e with
    | normal => exact ⟨.inl rfl, h2⟩
    | exit id => exact h2.elim
    | ret => exact ⟨.inr rfl, h2⟩
  obtain ⟨k1, r, k2, k3⟩ := key
  unfold retIs at k2
  split at k2
  · rename_i vs hvs
    exact FnL.of ha k3 (Body.sound ⟨fn, c, e, s', vs, hf, hb, hn, hl, h1, k1, hvs, k2.symm, rfl⟩)
  · exact k2.elim
theorem retL_one {P : Program} {n : Nat} {T : Nat → AV} {H : AHeap} {t : Tmp} {k : IntKind} {l : List Int} (h : t < n) (r : Nat) (hT : T t = .sl r 0 l.length 1) (hH : H[r]? = some ⟨ints k l, true, true⟩) : retL P [.tmp t] k l ⟨tab n T, H⟩ := ⟨r, by rw [ret_one h]; exact hT, hH⟩
theorem ret_none {P : Program} {s : St} : retIs P [] (.tup []) s = True := by simp [retIs, ressA, packA]
theorem at_set {H : AHeap} {r : Nat} {g : Reg} (h : r < H.length) : (H.set r g)[r]? = some g := List.getElem?_set_self h
theorem dops_p {P : Program} {ops : Array Oper} {p : Nat × Nat} {ps : List (Nat × Nat)} {K : St → Prop} {hs : List St} {s : St} : dopsW P ops (p :: ps) K [] hs s = ((∀ q, q ∈ p :: ps → sameRead P ops (s :: hs) q) ∧ K s) := rfl
/-! calls, one at a time -/
section
variable {P : Program} {ops : Array Oper} {K : St → Prop} {n : Nat} {T : Nat → AV} {H : AHeap} {d : Tmp} {ty : TypeId} {pos : String} {af : Array Edge} {f : FuncId} {xs : Array Operand} {ts : Array TypeId} {args : List AV} {v : AV}
theorem call1 (ha : xs.toList.map (ev (tab n T)) = args) (h : Fn P f args v) (k : K ⟨tab n (upd T d v), H⟩) : opG P ops ⟨some d, .call ⟨.value (.func f), xs, ts⟩, ty, pos, af, none⟩ K ⟨tab n T, H⟩ := by
  rw [g_call, ha]
  exact ⟨v, H, h H, k⟩
theorem call1L {k : IntKind} {l : List Int} (ha : xs.toList.map (ev (tab n T)) = args) (h : FnL P f args k l) (hk : K ⟨tab n (upd T d (.sl H.length 0 l.length 1)), H ++ [⟨ints k l, true, true⟩]⟩) : opG P ops ⟨some d, .call ⟨.value (.func f), xs, ts⟩, ty, pos, af, none⟩ K ⟨tab n T, H⟩ := by
  rw [g_call, ha]
  exact ⟨_, _, h H, hk⟩
theorem call1S {H' : AHeap} (ha : xs.toList.map (ev (tab n T)) = args) (h : Sound P f args H v H') (hk : K ⟨tab n (upd T d v), H'⟩) : opG P ops ⟨some d, .call ⟨.value (.func f), xs, ts⟩, ty, pos, af, none⟩ K ⟨tab n T, H⟩ := by
  rw [g_call, ha]
  exact ⟨_, _, h, hk⟩
end
/-! readings that may come earlier or later -/
theorem same_H {P : Program} {ops : Array Oper} {hs : List St} {j k : Nat} (h : (hs.getD (ops.size - k) ⟨[], []⟩).H = (hs.getD (ops.size - j) ⟨[], []⟩).H) : sameRead P ops hs (j, k) := fun _ => .inr <| by
  show evRead P (hs.getD (ops.size - j) ⟨[], []⟩).ts _ (hs.getD (ops.size - k) ⟨[], []⟩).H = _
  rw [h]
theorem same_calm {P : Program} {ops : Array Oper} {hs : List St} {j k : Nat} (h : calm P ops j k = true) : sameRead P ops hs (j, k) := fun _ => .inl h
theorem pairs_cons {P : Program} {ops : Array Oper} {hs : List St} {p : Nat × Nat} {l : List (Nat × Nat)} (h : sameRead P ops hs p) (k : ∀ q, q ∈ l → sameRead P ops hs q) : ∀ q, q ∈ p :: l → sameRead P ops hs q := fun q hq => by
  rcases List.mem_cons.1 hq with rfl | hq
  · exact h
  · exact k q hq
theorem pairs_nil {P : Program} {ops : Array Oper} {hs : List St} : ∀ q, q ∈ ([] : List (Nat × Nat)) → sameRead P ops hs q := fun q hq => by cases hq
end Go.Proofs.YtfgmmklljibbiaaDoor.Sim

