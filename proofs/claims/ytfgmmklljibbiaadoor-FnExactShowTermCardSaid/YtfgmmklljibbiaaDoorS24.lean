/- Arrays of numbers; calls of functions whose contract was shown among few regions. -/
import Derived.Test.YtfgmmklljibbiaaDoorS23
namespace Go.Proofs.YtfgmmklljibbiaaDoor.Sim
open Go
set_option linter.unusedSimpArgs false
set_option linter.unusedVariables false
section
variable {P : Program} {ops : Array Oper} {K : St → Prop} {n : Nat} {T : Nat → AV} {H : AHeap} {d : Tmp} {ty : TypeId} {pos : String} {af : Array Edge}
theorem rd_arr (m : Nat) (k : IntKind) (l : List Int) (own : Bool) (off : Nat) : rdT true true m (some ⟨ints k l, own, true⟩) off = if off + m ≤ l.length then some (.agg (ints k ((l.drop off).take m))) else none := by
  simp only [rdT, if_true, ints_len, true_and, ints_drop, ints_take]
theorem wr_arr (k : IntKind) (l v : List Int) (m r off : Nat) : wrT true m H r (some ⟨ints k l, true, true⟩) off (.agg (ints k v)) = if v.length = m ∧ off + m ≤ l.length then some (H.set r ⟨ints k (l.take off ++ v ++ l.drop (off + v.length)), true, true⟩) else none := by
  have h1 : (AV.agg (ints k v)).cells = ints k v := rfl
  simp only [wrT, h1, ints_len, ints_one, and_true, true_and]
  by_cases h : v.length = m ∧ off + m ≤ l.length
  · rw [if_pos h, if_pos h]
    congr 3
    simp only [overA, ints_len, ints_take, ints_drop, ints_append]
  · rw [if_neg h, if_neg h]
theorem idx_arr (e : TypeId) (len : Nat) (k : IntKind) (l : List Int) (j : IntKind) (i : Int) (ha : aggB P e = false) (hc : P.cellsOf e = 1) (ht : tyOk P e = true) (hl : l.length = len) : idxV P (some (.array len e)) (.agg (ints k l)) (.sc (.int j i)) = if 0 ≤ i ∧ i < len then some (.sc (.int k (l.getD i.toNat 0))) else none := by
  subst hl
  simp only [idxV, ht, and_true, hc, partA, ha, Bool.false_eq_true, if_false, Nat.mul_one]
  by_cases h : 0 ≤ i ∧ i < l.length
  · rw [if_pos h, if_pos h, ints_get k l i.toNat (by omega)]
  · rw [if_neg h, if_neg h]
theorem idx_arrs (e : TypeId) (len m : Nat) (k : IntKind) (l : List Int) (j : IntKind) (i : Int) (ha : aggB P e = true) (hc : P.cellsOf e = m) (ht : tyOk P e = true) (hl : l.length = len * m) : idxV P (some (.array len e)) (.agg (ints k l)) (.sc (.int j i)) = if 0 ≤ i ∧ i < len then some (.agg (ints k ((l.drop (i.toNat * m)).take m))) else none := by
  simp only [idxV, ht, and_true, hc, partA, ha, if_true, ints_len, ints_drop, ints_take]
  by_cases h : 0 ≤ i ∧ i < len
  · rw [if_pos h, if_pos h, if_pos]
    rw [hl]
    have h2 : i.toNat + 1 ≤ len := by omega
    calc i.toNat * m + m = (i.toNat + 1) * m := by rw [Nat.add_mul, Nat.one_mul]
      _ ≤ len * m := Nat.mul_le_mul_right _ h2
  · rw [if_neg h, if_neg h]
def buildV (P : Program) (t : TypeId) (parts : List (Nat × AV)) : Option AV :=
  match P.underlying t, zeroA P t with
  | some (.struct fs), some z => if fs.all (fun f => tyOk P f.type) then (fillA (placeS P fs) z parts).map .agg else none
  | some (.array _ e), some z => if tyOk P e then (fillA (fun i => some (i * P.cellsOf e, P.cellsOf e)) z parts).map .agg else none
  | _, _ => none
theorem g_buildV (t : TypeId) (parts : Array (Nat × Operand)) : opG P ops ⟨some d, .build t parts, ty, pos, af, none⟩ K ⟨tab n T, H⟩ = onS (buildV P t (parts.toList.map fun p => (p.1, ev (tab n T) p.2))) fun v => K ⟨tab n (upd T d v), H⟩ := g_pure rfl
theorem bd_ints (k : IntKind) (t e : TypeId) (len : Nat) (ps : List (Nat × Int)) (hu : P.underlying t = some (.array len e)) (hz : zeroA P t = some (ints k (List.replicate len 0))) (ht : tyOk P e = true) (hc : P.cellsOf e = 1) (hp : ∀ p, p ∈ ps → p.1 < len) :
    buildV P t (ps.map fun p => (p.1, .sc (.int k p.2))) = some (.agg (ints k (lay (List.replicate len 0) ps))) := by
  simp only [buildV, hu, hz, ht, if_true, hc]
  have := fill_ints k ps (List.replicate len 0) (by simpa using hp)
  rw [this]
  rfl
theorem alK_ints (k : IntKind) (l : List Int) (mk : Nat → AV) (Q : AV → AHeap → Prop) : alK (some (ints k l, mk)) H Q = Q (mk H.length) (H ++ [⟨ints k l, true, true⟩]) := by
  simp [alK, ints_one]
end
/-! ### calls -/
theorem FlatReg.ints (k : IntKind) (l : List Int) (o v : Bool) : FlatReg ⟨ints k l, o, v⟩ := fun _ => ints_flat k l
theorem nodup_get {l : List Nat} (h : l.Nodup) : ∀ (i j x : Nat), l[i]? = some x → l[j]? = some x → i = j := by
  intro i j x a b
  have hi := (List.getElem?_eq_some_iff.1 a).1
  have hj := (List.getElem?_eq_some_iff.1 b).1
  exact (List.getElem?_inj hi h).1 (a.trans b.symm)
/-- Nothing new is kept, and what was given is as it was. -/
theorem Sound.move0 {P : Program} {f : FuncId} {as bs : List AV} {v u : AV} {G Z H : AHeap} (xs : List Nat) (hs : Sound P f as G v Z) (hl : xs.length = G.length) (hn : xs.Nodup)
    (hx : ∀ (i x : Nat), xs[i]? = some x → ∃ g : Reg, G[i]? = some g ∧ Z[i]? = some g ∧ H[x]? = some g ∧ FlatReg g) (ma : ML (xs[·]?) as bs) (mv : MV (xs[·]?) v u) : Sound P f bs H u H := by
  refine Sound.move (xs[·]?) (xs[·]?) hs ?_ (nodup_get hn) (fun _ _ => rfl) ?_ ?_ (fun _ _ _ => rfl) (fun x a b => by omega) (Nat.le_refl _) ma mv
  · intro r x h
    obtain ⟨g, a, _, b, c⟩ := hx r x h
    exact ⟨g, a, b, c⟩
  · intro r x h
    obtain ⟨g, _, a, b, c⟩ := hx r x h
    exact ⟨g, a, b, c⟩
  · intro r x h k
    have := (List.getElem?_eq_some_iff.1 k).1
    omega
/-- What was given is as it was, or else; one new region is kept. -/
theorem Sound.move1 {P : Program} {f : FuncId} {as bs : List AV} {v u : AV} {G Z H : AHeap} (xs : List Nat) (k : Nat) (g : Reg) (hs : Sound P f as G v Z) (hk : G.length ≤ k) (hg : Z[k]? = some g) (hf : FlatReg g) (hl : xs.length = G.length) (hn : xs.Nodup)
    (hx : ∀ (i x : Nat), xs[i]? = some x → ∃ g : Reg, G[i]? = some g ∧ Z[i]? = some g ∧ H[x]? = some g ∧ FlatReg g) (ma : ML (xs[·]?) as bs) (mv : MV (fun r => if r = k then some H.length else xs[r]?) v u) : Sound P f bs H u (H ++ [g]) := by
  have hin : ∀ r x, xs[r]? = some x → r ≠ k ∧ x < H.length := fun r x h => by
    obtain ⟨g, a, _, b, _⟩ := hx r x h
    have := (List.getElem?_eq_some_iff.1 a).1
    exact ⟨by omega, (List.getElem?_eq_some_iff.1 b).1⟩
  refine Sound.move (xs[·]?) (fun r => if r = k then some H.length else xs[r]?) hs ?_ ?_ ?_ ?_ ?_ ?_ ?_ (by simp) ma mv
  · intro r x h
    obtain ⟨g, a, _, b, c⟩ := hx r x h
    exact ⟨g, a, b, c⟩
  · intro r q x a b
    by_cases h1 : r = k
    · by_cases h2 : q = k
      · omega
      · simp only [if_pos h1, if_neg h2, Option.some.injEq] at a b
        have := (hin q x b).2
        omega
    · by_cases h2 : q = k
      · simp only [if_neg h1, if_pos h2, Option.some.injEq] at a b
        have := (hin r x a).2
        omega
      · simp only [if_neg h1, if_neg h2] at a b
        exact nodup_get hn r q x a b
  · intro r h
    exact if_neg (by omega)
  · intro r x h
    by_cases h1 : r = k
    · simp only [if_pos h1, Option.some.injEq] at h
      subst h; subst h1
      exact ⟨g, hg, by simp, hf⟩
    · simp only [if_neg h1] at h
      obtain ⟨g, _, a, b, c⟩ := hx r x h
      exact ⟨g, a, (at_more H _ x (hin r x h).2).trans b, c⟩
  · intro r x a b
    by_cases h1 : r = k
    · simp only [if_pos h1, Option.some.injEq] at b
      omega
    · simp only [if_neg h1] at b
      have := (List.getElem?_eq_some_iff.1 b).1
      omega
  · intro x h _
    exact at_more H _ x h
  · intro x a b
    refine ⟨k, ?_⟩
    simp at b
    simp only [if_true]
    congr 1
    omega
end Go.Proofs.YtfgmmklljibbiaaDoor.Sim

