/- The relation between the second semantics' values and the machine's, and what computes without memory: each operation yields the related value in every world. -/
import Derived.Test.YtfgmmklljibbiaaDoorS1
import Derived.Laws.Small
import Derived.Laws.StructEq
namespace Go.Proofs.YtfgmmklljibbiaaDoor.Sim
open Go

structure Loc where
  b : Nat
  o : Nat
  n : Nat
abbrev Ren := Nat → Option Loc
inductive VR (ρ : Ren) : AV → Value → Prop where
  | sc (v : Value) : VR ρ (.sc v) v
  | ptr {r off : Nat} {l : Loc} : ρ r = some l → VR ρ (.ptr r off) (.pointer (some ⟨l.b, l.o + off, none⟩))
  | sl {r off len sz cap : Nat} {l : Loc} : ρ r = some l → len ≤ cap → l.o + off + cap * sz ≤ l.n → VR ρ (.sl r off len sz) (.slice (some ⟨l.b, l.o + off, none⟩) len cap)
  | sl0 {r off sz x : Nat} {l : Loc} : ρ r = some l → VR ρ (.sl r off 0 sz) (.slice (some ⟨l.b, x, none⟩) 0 0)
  | agg {cs : List AV} {vs : Array Value} : cs.length = vs.size → (∀ (i : Nat) (a : AV) (v : Value), cs[i]? = some a → vs.toList[i]? = some v → VR ρ a v) → VR ρ (.agg cs) (.agg vs)
  | tup {cs : List AV} {vs : Array Value} : cs.length = vs.size → (∀ (i : Nat) (a : AV) (v : Value), cs[i]? = some a → vs.toList[i]? = some v → VR ρ a v) → VR ρ (.tup cs) (.tuple vs)
theorem VR.mono {ρ ρ' : Ren} (hx : ∀ r l, ρ r = some l → ρ' r = some l) {a : AV} {v : Value} (h : VR ρ a v) : VR ρ' a v := by
  induction h with
  | sc v => exact .sc v
  | ptr h => exact .ptr (hx _ _ h)
  | sl h a b => exact .sl (hx _ _ h) a b
  | sl0 h => exact .sl0 (hx _ _ h)
  | agg h _ ih => exact .agg h ih
  | tup h _ ih => exact .tup h ih
def LR (ρ : Ren) (as : List AV) (vs : List Value) : Prop := as.length = vs.length ∧ ∀ (i : Nat) (a : AV) (v : Value), as[i]? = some a → vs[i]? = some v → VR ρ a v
section
variable {ρ ρ' : Ren}
theorem LR.mono (hx : ∀ r l, ρ r = some l → ρ' r = some l) {as : List AV} {vs : List Value} (h : LR ρ as vs) : LR ρ' as vs := ⟨h.1, fun i a v ha hv => (h.2 i a v ha hv).mono hx⟩
theorem LR.nil : LR ρ [] [] := ⟨rfl, fun i a v ha => by simp at ha⟩
theorem LR.cons {a : AV} {v : Value} {as : List AV} {vs : List Value} (h : VR ρ a v) (hs : LR ρ as vs) : LR ρ (a :: as) (v :: vs) := by
  refine ⟨by simp [hs.1], fun i b u hb hu => ?_⟩
  cases i with
  | zero => simp at hb hu; subst hb; subst hu; exact h
  | succ i => simp at hb hu; exact hs.2 i b u hb hu
theorem LR.get {as : List AV} {vs : List Value} (h : LR ρ as vs) {i : Nat} {a : AV} (ha : as[i]? = some a) : ∃ v, vs[i]? = some v ∧ VR ρ a v := by
  have hi : i < as.length := (List.getElem?_eq_some_iff.1 ha).1
  have hv : vs[i]? = some (vs[i]'(by rw [← h.1]; exact hi)) := List.getElem?_eq_getElem _
  exact ⟨_, hv, h.2 i a _ ha hv⟩
theorem LR.get' {as : List AV} {vs : List Value} (h : LR ρ as vs) {i : Nat} {v : Value} (hv : vs[i]? = some v) : ∃ a, as[i]? = some a ∧ VR ρ a v := by
  have hi : i < vs.length := (List.getElem?_eq_some_iff.1 hv).1
  have ha : as[i]? = some (as[i]'(by rw [h.1]; exact hi)) := List.getElem?_eq_getElem _
  exact ⟨_, ha, h.2 i _ v ha hv⟩
theorem LR.append {as bs : List AV} {vs us : List Value} (h : LR ρ as vs) (k : LR ρ bs us) : LR ρ (as ++ bs) (vs ++ us) := by
  refine ⟨by simp [h.1, k.1], fun i a v ha hv => ?_⟩
  rcases Nat.lt_or_ge i as.length with hl | hl
  · rw [List.getElem?_append_left hl] at ha
    rw [List.getElem?_append_left (by rw [← h.1]; exact hl)] at hv
    exact h.2 i a v ha hv
  · rw [List.getElem?_append_right hl] at ha
    rw [List.getElem?_append_right (by rw [← h.1]; exact hl), ← h.1] at hv
    exact k.2 _ a v ha hv
theorem LR.take {as : List AV} {vs : List Value} (h : LR ρ as vs) (n : Nat) : LR ρ (as.take n) (vs.take n) := by
  refine ⟨by simp [h.1], fun i a v ha hv => ?_⟩
  rw [List.getElem?_take] at ha hv
  split at ha
  · rename_i hi; rw [if_pos hi] at hv; exact h.2 i a v ha hv
  · cases ha
theorem LR.drop {as : List AV} {vs : List Value} (h : LR ρ as vs) (n : Nat) : LR ρ (as.drop n) (vs.drop n) := by
  refine ⟨by simp [h.1], fun i a v ha hv => ?_⟩
  rw [List.getElem?_drop] at ha hv
  exact h.2 _ a v ha hv
theorem LR.set {as : List AV} {vs : List Value} (h : LR ρ as vs) {a : AV} {v : Value} (k : VR ρ a v) (d : Nat) : LR ρ (as.set d a) (vs.set d v) := by
  refine ⟨by simp [h.1], fun i b u hb hu => ?_⟩
  rw [List.getElem?_set] at hb hu
  split at hb
  · rename_i e
    subst e
    rw [if_pos rfl] at hu
    split at hb
    · split at hu
      · injection hb with hb; injection hu with hu; subst hb; subst hu; exact k
      · cases hu
    · cases hb
  · rename_i e
    rw [if_neg e] at hu
    exact h.2 i b u hb hu
theorem LR.over {as bs : List AV} {vs us : List Value} (h : LR ρ as vs) (k : LR ρ bs us) (off : Nat) : LR ρ (overA as off bs) (vs.take off ++ us ++ vs.drop (off + us.length)) := by
  unfold overA
  rw [← k.1]
  exact ((h.take off).append k).append (h.drop _)
theorem LR.replicate {as : List AV} {vs : List Value} (h : LR ρ as vs) (n : Nat) : LR ρ (List.replicate n as).flatten (List.replicate n vs).flatten := by
  induction n with
  | zero => exact LR.nil
  | succ n ih => simp only [List.replicate_succ, List.flatten_cons]; exact h.append ih
theorem LR.map {α : Type} (f : α → Value) (l : List α) : LR ρ (l.map fun x => .sc (f x)) (l.map f) := by
  induction l with
  | nil => exact LR.nil
  | cons x l ih => exact LR.cons (.sc _) ih
theorem LR.scs (l : List Value) : LR ρ (l.map .sc) l := by
  induction l with
  | nil => exact LR.nil
  | cons x l ih => exact LR.cons (.sc _) ih
theorem VR.ofV (v : Value) : VR ρ (ofV v) v := by
  cases v
  case agg cs =>
    refine .agg (by simp) fun i a v ha hv => ?_
    exact (LR.scs cs.toList).2 i a v ha hv
  all_goals exact .sc _
theorem VR.cells {a : AV} {v : Value} (h : VR ρ a v) : LR ρ a.cells v.cells.toList := by
  cases h
  case agg hl hh => exact ⟨by simpa [AV.cells, Value.cells] using hl, hh⟩
  case sc =>
    cases v
    case agg cs => exact LR.scs cs.toList
    all_goals exact LR.cons (.sc _) LR.nil
  case ptr hr => exact LR.cons (.ptr hr) LR.nil
  case sl hr a b => exact LR.cons (.sl hr a b) LR.nil
  case sl0 hr => exact LR.cons (.sl0 hr) LR.nil
  case tup hl hh => exact LR.cons (.tup hl hh) LR.nil
theorem VR.one {a : AV} {v : Value} (h : VR ρ a v) : a.one = v.oneCell' := by cases h <;> rfl
theorem VR.eval {ts : List AV} {a : Act} (h : LR ρ ts a.tmps.toList) (x : Operand) : VR ρ (ev ts x) (a.eval x) := by
  cases x with
  | tmp t =>
    simp only [ev, Act.eval]
    cases ht : ts[t]? with
    | none =>
      have h2 : a.tmps.size ≤ t := by
        have := List.getElem?_eq_none_iff.1 ht
        rw [h.1] at this
        simpa using this
      simp [List.getD_eq_getElem?_getD, ht, h2]
      exact .sc _
    | some v =>
      obtain ⟨u, hu, hr⟩ := h.get ht
      rw [Array.getElem?_toList] at hu
      simp [List.getD_eq_getElem?_getD, ht, hu]
      exact hr
  | const v => exact .ofV v
  | global g => exact .sc _
  | func f => exact .sc _
theorem VR.sc_inv {v u : Value} (h : VR ρ (.sc v) u) : u = v := by cases h; rfl
theorem VR.ptr_inv {r off : Nat} {u : Value} (h : VR ρ (.ptr r off) u) : ∃ l, ρ r = some l ∧ u = .pointer (some ⟨l.b, l.o + off, none⟩) := by cases h; exact ⟨_, ‹_›, rfl⟩
theorem VR.agg_inv {cs : List AV} {u : Value} (h : VR ρ (.agg cs) u) : ∃ vs : Array Value, u = .agg vs ∧ LR ρ cs vs.toList := by
  cases h with
  | agg hl hh => exact ⟨_, rfl, by simpa using hl, hh⟩
theorem VR.tup_inv {cs : List AV} {u : Value} (h : VR ρ (.tup cs) u) : ∃ vs : Array Value, u = .tuple vs ∧ LR ρ cs vs.toList := by
  cases h with
  | tup hl hh => exact ⟨_, rfl, by simpa using hl, hh⟩
theorem VR.mkAgg {cs : List AV} {vs : List Value} (h : LR ρ cs vs) : VR ρ (.agg cs) (.agg vs.toArray) := .agg (by simpa using h.1) (by simpa using h.2)
end

/-! ### what computes -/
section
variable {P : Program} (w : World)
theorem run_intBin {op : BinOp} (t : TypeId) {k : IntKind} {a b : Int} {v : Value} (hs : isShift op = false) (h : intBin op k a b = some v) : (binOp op t (.int k a) (.int k b)).run P w = .ok v w := by
  cases op <;> simp only [intBin, reduceCtorEq] at h <;> first
    | (injection h with h; subst h; simp [binOp, Op.intArith, Op.intBits, Op.intCmp, bits]; done)
    | (split at h
       · cases h
       · rename_i hb; injection h with h; subst h; simp [binOp, Op.intDiv, hb])
    | (simp [isShift] at hs)
theorem run_shiftBin {op : BinOp} (t : TypeId) {k yk : IntKind} {a b : Int} {v : Value} (h : shiftBin op k a b = some v) : (binOp op t (.int k a) (.int yk b)).run P w = .ok v w := by
  unfold shiftBin at h
  split at h
  · cases h
  · rename_i hb
    cases op <;> simp only [reduceCtorEq] at h
    · injection h with h; subst h; simp [binOp, Op.shift, hb]
    · injection h with h; subst h
      have hp : (0 : Int) ≤ 2 ^ min b.toNat k.bits := Int.pow_nonneg (by decide)
      simp [binOp, Op.shift, hb, Int.fdiv_eq_ediv_of_nonneg _ hp]
theorem run_strBin {op : BinOp} (t : TypeId) {a b : ByteArray} {v : Value} (h : strBin op a b = some v) : (binOp op t (.string a) (.string b)).run P w = .ok v w := by
  cases op <;> simp only [strBin, reduceCtorEq] at h
  case add =>
    split at h
    · rename_i hl
      injection h with h; subst h
      simp [binOp, Op.stringOp]; omega
    · cases h
  all_goals (injection h with h; subst h; simp [binOp, Op.stringOp])
theorem run_boolBin {op : BinOp} {t : TypeId} {x y : AV} {v : Value} (h : boolBin P op t x y = some v) : (∃ a b : Bool, x = .sc (.bool a) ∧ y = .sc (.bool b) ∧ (binOp op t (.bool a) (.bool b)).run P w = .ok v w) ∨
    ∃ fs cs ds r, P.underlying t = some (.struct fs) ∧ x = .agg cs ∧ y = .agg ds ∧ P.stoodInHeld t = false ∧ P.eqGuardType P.depth t = false ∧ eqF P cs ds fs.toList = some r ∧ ((op = .eql ∧ v = .bool r) ∨ (op = .neq ∧ v = .bool (!r))) := by
  have eA : ∀ {fs : Array Field} {cs ds : List AV} {r : Bool}, eqA P t fs cs ds = some r → P.stoodInHeld t = false ∧ P.eqGuardType P.depth t = false ∧ eqF P cs ds fs.toList = some r := by
    intro fs cs ds r h
    unfold eqA at h
    split at h
    · rename_i hc
      exact ⟨hc.1, hc.2, h⟩
    · cases h
  unfold boolBin at h
  split at h
  · rename_i a b ht
    injection h with h; subst h
    exact .inl ⟨a, b, rfl, rfl, run_eql_bool w t a b ht⟩
  · rename_i a b ht
    injection h with h; subst h
    exact .inl ⟨a, b, rfl, rfl, run_neq_bool w t a b ht⟩
  · rename_i fs cs ds ht
    rw [Option.map_eq_some_iff] at h
    obtain ⟨r, hr, rfl⟩ := h
    obtain ⟨h1, h2, h3⟩ := eA hr
    exact .inr ⟨fs, cs, ds, r, ht, rfl, rfl, h1, h2, h3, .inl ⟨rfl, rfl⟩⟩
  · rename_i fs cs ds ht
    rw [Option.map_eq_some_iff] at h
    obtain ⟨r, hr, rfl⟩ := h
    obtain ⟨h1, h2, h3⟩ := eA hr
    exact .inr ⟨fs, cs, ds, r, ht, rfl, rfl, h1, h2, h3, .inr ⟨rfl, rfl⟩⟩
  · cases h
end
end Go.Proofs.YtfgmmklljibbiaaDoor.Sim

