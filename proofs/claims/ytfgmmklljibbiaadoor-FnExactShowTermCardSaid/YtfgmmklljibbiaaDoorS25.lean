/- Structs. -/
import Derived.Test.YtfgmmklljibbiaaDoorS24
namespace Go.Proofs.YtfgmmklljibbiaaDoor.Sim
open Go
set_option linter.unusedSimpArgs false
set_option linter.unusedVariables false
def fldT (P : Program) (t : TypeId) (x : AV) (f : Nat) : Option AV := fldV P (P.underlying t) x f
def fadrT (P : Program) (t : TypeId) (x : AV) (f : Nat) : Option AV := fadrV P (P.underlying t) x f
theorem of_agg (cs : Array Value) : ofV (.agg cs) = .agg (cs.toList.map .sc) := rfl
theorem cells_int (k : IntKind) (v : Int) : (AV.sc (.int k v)).cells = [.sc (.int k v)] := rfl
theorem cells_str (z : ByteArray) : (AV.sc (.string z)).cells = [.sc (.string z)] := rfl
theorem cells_bool (b : Bool) : (AV.sc (.bool b)).cells = [.sc (.bool b)] := rfl
theorem cells_nil (p : Option Addr) (m c : Nat) : (AV.sc (.slice p m c)).cells = [.sc (.slice p m c)] := rfl
theorem cells_sl (r off len sz : Nat) : (AV.sl r off len sz).cells = [.sl r off len sz] := rfl
theorem cells_ptr (r off : Nat) : (AV.ptr r off).cells = [.ptr r off] := rfl
theorem cells_agg (cs : List AV) : (AV.agg cs).cells = cs := rfl
theorem one_int (k : IntKind) (v : Int) : (AV.sc (.int k v)).one = true := rfl
theorem one_str (z : ByteArray) : (AV.sc (.string z)).one = true := rfl
theorem one_bool (b : Bool) : (AV.sc (.bool b)).one = true := rfl
theorem one_nil (p : Option Addr) (m c : Nat) : (AV.sc (.slice p m c)).one = true := rfl
theorem one_sl (r off len sz : Nat) : (AV.sl r off len sz).one = true := rfl
theorem one_ptr (r off : Nat) : (AV.ptr r off).one = true := rfl
theorem over_0 (a : AV) (cs : List AV) (y : AV) : overA (a :: cs) 0 [y] = y :: cs := rfl
theorem over_s (a : AV) (cs ys : List AV) (off : Nat) : overA (a :: cs) (off + 1) ys = a :: overA cs off ys := by
  simp [overA, Nat.add_right_comm]
theorem over_all (cs ys : List AV) (h : ys.length = cs.length) : overA cs 0 ys = ys := by
  simp [overA, h]
section
variable {P : Program} {ops : Array Oper} {K : St → Prop} {n : Nat} {T : Nat → AV} {H : AHeap} {d : Tmp} {ty : TypeId} {pos : String} {af : Array Edge}
theorem g_fieldT (t : TypeId) (x : Operand) (f : Nat) : opG P ops ⟨some d, .field t x f, ty, pos, af, none⟩ K ⟨tab n T, H⟩ = onS (fldT P t (ev (tab n T) x) f) fun v => K ⟨tab n (upd T d v), H⟩ := g_field t x f
theorem g_fieldAddrT (t : TypeId) (x : Operand) (f : Nat) : opG P ops ⟨some d, .fieldAddr t x f, ty, pos, af, none⟩ K ⟨tab n T, H⟩ = onS (fadrT P t (ev (tab n T) x) f) fun v => K ⟨tab n (upd T d v), H⟩ := g_fieldAddr t x f
/-- A field of one cell. -/
theorem fld_one {t ft o : Nat} {fs : Array Field} {f : Nat} (hu : P.underlying t = some (.struct fs)) (hf : (fs[f]?).map (fun fd => (fd.type, fd.offset)) = some (ft, o)) (ht : tyOk P ft = true) (ha : aggB P ft = false) (cs : List AV) : fldT P t (.agg cs) f = cs[o]? := by
  simp only [Option.map_eq_some_iff, Prod.mk.injEq] at hf
  obtain ⟨fd, hf, rfl, rfl⟩ := hf
  simp [fldT, hu, fldV, hf, ht, partA, ha]
theorem fadr_st {t ft o : Nat} {fs : Array Field} {f : Nat} (hu : P.underlying t = some (.struct fs)) (hf : (fs[f]?).map (fun fd => (fd.type, fd.offset)) = some (ft, o)) (ht : tyOk P ft = true) (hc : P.cellsOf ft ≠ 0) (r off : Nat) : fadrT P t (.ptr r off) f = some (.ptr r (off + o)) := by
  simp only [Option.map_eq_some_iff, Prod.mk.injEq] at hf
  obtain ⟨fd, hf, rfl, rfl⟩ := hf
  simp [fadrT, hu, fadrV, hf, ht, hc]
theorem rd_aggc (m : Nat) (a : AV) (cs : List AV) (own : Bool) (off : Nat) : rdT true true m (some ⟨a :: cs, own, true⟩) off = if off + m ≤ (a :: cs).length then some (.agg (((a :: cs).drop off).take m)) else none := by
  simp only [rdT, if_true, true_and]
theorem rd_onec (m : Nat) (a : AV) (cs : List AV) (own : Bool) (off : Nat) : rdT true false m (some ⟨a :: cs, own, true⟩) off = (a :: cs)[off]? := by
  simp only [rdT, if_true, true_and, Bool.false_eq_true, if_false]
  by_cases h : off + 1 ≤ (a :: cs).length
  · rw [if_pos h]
  · rw [if_neg h, List.getElem?_eq_none (by omega)]
theorem wr_c (m : Nat) (a : AV) (cs : List AV) (r off : Nat) (y : AV) : wrT true m H r (some ⟨a :: cs, true, true⟩) off y = if y.cells.length = m ∧ off + m ≤ (a :: cs).length ∧ y.cells.all AV.one = true then some (H.set r ⟨overA (a :: cs) off y.cells, true, true⟩) else none := by
  simp only [wrT, true_and]
end
theorem wrA {H : AHeap} (k : IntKind) (l v : List Int) (m r : Nat) (hv : v.length = m) (hl : l.length = m) : wrT true m H r (some ⟨ints k l, true, true⟩) 0 (.agg (ints k v)) = some (H.set r ⟨ints k v, true, true⟩) := by
  rw [wr_arr, if_pos ⟨hv, by omega⟩, List.take_zero, List.nil_append, List.drop_of_length_le (by omega), List.append_nil]
theorem rdA (k : IntKind) (l : List Int) (m : Nat) (own : Bool) (hl : l.length = m) : rdT true true m (some ⟨ints k l, own, true⟩) 0 = some (.agg (ints k l)) := by
  rw [rd_arr, if_pos (by omega), List.drop_zero, List.take_of_length_le (by omega)]
theorem kill_0 (cs : List AV) (o v : Bool) (H : AHeap) : killReg (⟨cs, o, v⟩ :: H) 0 = ⟨cs, o, false⟩ :: H := rfl
theorem kill_s (g : Reg) (H : AHeap) (r : Nat) : killReg (g :: H) (r + 1) = g :: killReg H r := rfl
theorem onS_of {α : Type} {x : Option α} {v : α} {K : α → Prop} (h : x = some v) (k : K v) : onS x K := by rw [h]; exact k
/-- A result that lies in memory. -/
theorem ret_cell {P : Program} {n : Nat} {T : Nat → AV} {H : AHeap} {a : Tmp} {t : TypeId} {v : AV} (h : a < n) : retIs P [.cell a t] v ⟨tab n T, H⟩ = onS (rdV P t (T a) H) fun u => u = v := by
  have e : evRead P (tab n T) (.load t (.tmp a)) H = rdV P t (T a) H := by
    rw [← ev_tab n T a h]
    rfl
  simp only [retIs, ressA, resA, e]
  cases rdV P t (T a) H <;> rfl
theorem flat_ints (k : IntKind) (l : List Int) : Flat (.agg (ints k l)) := .agg (ints_flat k l)
/-- A slice of all of a region, or none at all. -/
def IsL (H : AHeap) (x : AV) (k : IntKind) (l : List Int) : Prop := (x = .sc (.slice none 0 0) ∧ l = []) ∨ ∃ r own, x = .sl r 0 l.length 1 ∧ H[r]? = some ⟨ints k l, own, true⟩
theorem IsL.mk {H : AHeap} {r : Nat} {own : Bool} {k : IntKind} {l : List Int} (h : H[r]? = some ⟨ints k l, own, true⟩) : IsL H (.sl r 0 l.length 1) k l := .inr ⟨r, own, rfl, h⟩
theorem IsL.at {H : AHeap} {r n : Nat} {own : Bool} {k : IntKind} {l : List Int} (h : H[r]? = some ⟨ints k l, own, true⟩) (hn : l.length = n) : IsL H (.sl r 0 n 1) k l := hn ▸ .mk h
theorem IsL.nil (H : AHeap) (k : IntKind) : IsL H (.sc (.slice none 0 0)) k [] := .inl ⟨rfl, rfl⟩
theorem IsL.len {H : AHeap} {x : AV} {k : IntKind} {l : List Int} (e : TypeId) (h : IsL H x k l) : lenV (some (.slice e)) x = some (.sc (.int .i64 l.length)) := by
  rcases h with ⟨rfl, rfl⟩ | ⟨r, own, rfl, _⟩ <;> rfl
theorem IsL.get {H : AHeap} {x : AV} {k : IntKind} {l : List Int} (h : IsL H x k l) {i : Nat} (hi : i < l.length) : ∃ r own, x = .sl r 0 l.length 1 ∧ H[r]? = some ⟨ints k l, own, true⟩ := by
  rcases h with ⟨rfl, rfl⟩ | h
  · simp at hi
  · exact h
theorem LR.scs_eq {ρ : Ren} : ∀ {vs us : List Value}, LR ρ (vs.map .sc) us → us = vs
  | [], us, h => List.eq_nil_of_length_eq_zero h.1.symm
  | v :: vs, [], h => absurd h.1 (by simp)
  | v :: vs, u :: us, h => by
    have h0 : u = v := (h.2 0 _ _ rfl rfl).sc_inv
    have h1 : LR ρ (vs.map .sc) us := ⟨by have := h.1; simpa using this, fun i a b ha hb => h.2 (i + 1) a b (by simpa using ha) (by simpa using hb)⟩
    rw [h0, LR.scs_eq h1]
/-- What is known of a function on the machine. -/
theorem Fn.ofCalls {P : Program} {f : FuncId} {v : Value} (vs : List Value) (hf : ∃ fn c, P.funcs[f]? = some fn ∧ fn.body = some c ∧ (fn.name == "runtime.NumGoroutine") = false)
    (h : ∀ w : World, Calls P f vs.toArray w fun e w' => e = .returned v ∧ RowKit.Below w.heap.size w w') : Fn P f (vs.map .sc) (.sc v) := by
  intro H
  refine ⟨hf, Nat.le_refl _, ?_⟩
  intro M ρ base w cargs hM hR hA
  have he : cargs = vs.toArray := by
    have := LR.scs_eq hA
    rw [← this]
  subst he
  refine (h w).mono ?_
  rintro e w' ⟨rfl, hos, htape, hout, hsize, hfr⟩
  refine ⟨v, ρ, rfl, .sc v, ⟨⟨Nat.le_trans hR.bs.1 hsize, hR.bs.2.keep fun b hb => hfr b (Nat.lt_of_lt_of_le hb hR.bs.1)⟩, fun r l h => Nat.lt_of_lt_of_le (hR.lt r l h) hsize, hR.dom, hR.top, fun r g l h1 h2 h3 => (hR.reg r g l h1 h2 h3).mono (fun _ _ h => h) (hfr _ (hR.lt r l h3)), hR.inj⟩, ?_⟩
  exact ⟨hos, htape, hout, hsize, fun b hb _ => hfr b hb, fun _ _ h => h, fun _ _ _ _ k => ⟨k, rfl⟩, fun _ _ a b => (by rw [a] at b; cases b), fun _ _ _ a b c => (by rw [a] at b; injection b with b; subst b; exact ⟨c, rfl⟩), fun _ g k => ⟨g, k⟩, fun _ _ => rfl⟩
end Go.Proofs.YtfgmmklljibbiaaDoor.Sim

