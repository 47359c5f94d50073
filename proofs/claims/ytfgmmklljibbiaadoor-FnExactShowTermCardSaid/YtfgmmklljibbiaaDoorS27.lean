/- Regions of truths, of texts, and of rows of cells. -/
import Derived.Test.YtfgmmklljibbiaaDoorS26
namespace Go.Proofs.YtfgmmklljibbiaaDoor.Sim
open Go
set_option linter.unusedSimpArgs false
set_option linter.unusedVariables false
/-- One cell each. -/
structure Lit1 {α : Type} (f : α → Value) : Prop where
  one : ∀ a, (AV.sc (f a)).one = true
  cells : ∀ a, (AV.sc (f a)).cells = [.sc (f a)]
def lits {α : Type} (f : α → Value) (l : List α) : List AV := l.map fun a => .sc (f a)
theorem lit_bool : Lit1 Value.bool := ⟨fun _ => rfl, fun _ => rfl⟩
theorem lit_str : Lit1 Value.string := ⟨fun _ => rfl, fun _ => rfl⟩
section
variable {α : Type} {f : α → Value} {H : AHeap}
theorem lits_len (l : List α) : (lits f l).length = l.length := by simp [lits]
theorem lits_one (h : Lit1 f) (l : List α) : (lits f l).all AV.one = true := List.all_eq_true.2 fun a ha => by
  obtain ⟨b, _, rfl⟩ := List.mem_map.1 ha
  exact h.one b
theorem lits_append (a b : List α) : lits f a ++ lits f b = lits f (a ++ b) := by simp [lits]
theorem lits_take (a : List α) (n : Nat) : (lits f a).take n = lits f (a.take n) := by simp [lits, List.map_take]
theorem lits_drop (a : List α) (n : Nat) : (lits f a).drop n = lits f (a.drop n) := by simp [lits, List.map_drop]
theorem lits_set (l : List α) (i : Nat) (v : α) : (lits f l).set i (.sc (f v)) = lits f (l.set i v) := by simp [lits, List.map_set]
theorem lits_rep (n : Nat) (v : α) : (List.replicate n [AV.sc (f v)]).flatten = lits f (List.replicate n v) := by
  induction n with
  | zero => rfl
  | succ n ih => simp only [List.replicate_succ, List.flatten_cons, ih]; rfl
theorem lits_get (d : α) (l : List α) (i : Nat) (h : i < l.length) : (lits f l)[i]? = some (.sc (f (l.getD i d))) := by simp [lits, h]
theorem rd_lits (d : α) (m : Nat) (l : List α) (own : Bool) (off : Nat) : rdT true false m (some ⟨lits f l, own, true⟩) off = if off < l.length then some (.sc (f (l.getD off d))) else none := by
  simp only [rdT, if_true, lits_len, true_and]
  by_cases h : off < l.length
  · rw [if_pos h]
    simp only [Bool.false_eq_true, if_false]
    rw [if_pos (by omega), lits_get d l off h]
  · rw [if_neg h]
    simp only [Bool.false_eq_true, if_false]
    rw [if_neg (by omega)]
theorem wr_lits (hf : Lit1 f) (l : List α) (r off : Nat) (v : α) : wrT true 1 H r (some ⟨lits f l, true, true⟩) off (.sc (f v)) = if off < l.length then some (H.set r ⟨lits f (l.set off v), true, true⟩) else none := by
  have h2 : [AV.sc (f v)].all AV.one = true := by simp [hf.one]
  simp only [wrT, hf.cells, List.length_singleton, lits_len, h2, and_true, true_and]
  by_cases h : off < l.length
  · rw [if_pos h, if_pos (by omega)]
    congr 3
    unfold overA
    have hs := List.set_eq_take_append_cons_drop (l := lits f l) (i := off) (a := AV.sc (f v))
    rw [← lits_set, hs, if_pos (by rw [lits_len]; exact h)]
    simp
  · rw [if_neg h, if_neg (by omega)]
theorem at_lits (l : List α) (own : Bool) (off n : Nat) : atT (some ⟨lits f l, own, true⟩) off n = if off + n ≤ l.length then some (lits f ((l.drop off).take n)) else none := by
  simp only [atT, lits_len, true_and, lits_drop, lits_take]
theorem ap_lits (hf : Lit1 f) (B r len : Nat) (l m : List α) : apT B H r len (some ⟨lits f l, true, true⟩) (some (lits f m)) = if len ≤ l.length ∧ (len + m.length) * B ≤ 140737488355328 ∧ len + m.length ≤ 140737488355328 then some (.sl H.length 0 (len + m.length) 1, killReg H r ++ [⟨lits f (l.take len ++ m), true, true⟩]) else none := by
  simp only [apT, lits_len, lits_one hf, true_and, and_true, lits_take, lits_append]
theorem ap_litsN (hf : Lit1 f) (B : Nat) (m : List α) : apN B H (some (lits f m)) = if m.length * B ≤ 140737488355328 ∧ m.length ≤ 140737488355328 then (if m.length = 0 then some (.sc (.slice none 0 0), H) else some (.sl H.length 0 m.length 1, H ++ [⟨lits f m, true, true⟩])) else none := by
  simp only [apN, lits_len, lits_one hf, and_true]
end
def bools (l : List Bool) : List AV := lits .bool l
def strs (l : List ByteArray) : List AV := lits .string l
theorem bools_nil : ([] : List AV) = bools [] := rfl
theorem strs_nil : ([] : List AV) = strs [] := rfl
theorem bools_len (l : List Bool) : (bools l).length = l.length := lits_len l
theorem strs_len (l : List ByteArray) : (strs l).length = l.length := lits_len l
theorem bools_one (l : List Bool) : (bools l).all AV.one = true := lits_one lit_bool l
theorem strs_one (l : List ByteArray) : (strs l).all AV.one = true := lits_one lit_str l
section
variable {P : Program} {H : AHeap}
theorem rd_bools (m : Nat) (l : List Bool) (own : Bool) (off : Nat) : rdT true false m (some ⟨bools l, own, true⟩) off = if off < l.length then some (.sc (.bool (l.getD off false))) else none := rd_lits false m l own off
theorem rd_strs (m : Nat) (l : List ByteArray) (own : Bool) (off : Nat) : rdT true false m (some ⟨strs l, own, true⟩) off = if off < l.length then some (.sc (.string (l.getD off ByteArray.empty))) else none := rd_lits ByteArray.empty m l own off
theorem wr_bools (l : List Bool) (r off : Nat) (v : Bool) : wrT true 1 H r (some ⟨bools l, true, true⟩) off (.sc (.bool v)) = if off < l.length then some (H.set r ⟨bools (l.set off v), true, true⟩) else none := wr_lits lit_bool l r off v
theorem wr_strs (l : List ByteArray) (r off : Nat) (v : ByteArray) : wrT true 1 H r (some ⟨strs l, true, true⟩) off (.sc (.string v)) = if off < l.length then some (H.set r ⟨strs (l.set off v), true, true⟩) else none := wr_lits lit_str l r off v
theorem at_bools (l : List Bool) (own : Bool) (off n : Nat) : atT (some ⟨bools l, own, true⟩) off n = if off + n ≤ l.length then some (bools ((l.drop off).take n)) else none := at_lits l own off n
theorem at_strs (l : List ByteArray) (own : Bool) (off n : Nat) : atT (some ⟨strs l, own, true⟩) off n = if off + n ≤ l.length then some (strs ((l.drop off).take n)) else none := at_lits l own off n
theorem ap_bools (B r len : Nat) (l m : List Bool) : apT B H r len (some ⟨bools l, true, true⟩) (some (bools m)) = if len ≤ l.length ∧ (len + m.length) * B ≤ 140737488355328 ∧ len + m.length ≤ 140737488355328 then some (.sl H.length 0 (len + m.length) 1, killReg H r ++ [⟨bools (l.take len ++ m), true, true⟩]) else none := ap_lits lit_bool B r len l m
theorem ap_boolsN (B : Nat) (m : List Bool) : apN B H (some (bools m)) = if m.length * B ≤ 140737488355328 ∧ m.length ≤ 140737488355328 then (if m.length = 0 then some (.sc (.slice none 0 0), H) else some (.sl H.length 0 m.length 1, H ++ [⟨bools m, true, true⟩])) else none := ap_litsN lit_bool B m
theorem ap_strs (B r len : Nat) (l m : List ByteArray) : apT B H r len (some ⟨strs l, true, true⟩) (some (strs m)) = if len ≤ l.length ∧ (len + m.length) * B ≤ 140737488355328 ∧ len + m.length ≤ 140737488355328 then some (.sl H.length 0 (len + m.length) 1, killReg H r ++ [⟨strs (l.take len ++ m), true, true⟩]) else none := ap_lits lit_str B r len l m
theorem ap_strsN (B : Nat) (m : List ByteArray) : apN B H (some (strs m)) = if m.length * B ≤ 140737488355328 ∧ m.length ≤ 140737488355328 then (if m.length = 0 then some (.sc (.slice none 0 0), H) else some (.sl H.length 0 m.length 1, H ++ [⟨strs m, true, true⟩])) else none := ap_litsN lit_str B m
/-- Empty cells, added to. -/
theorem mk_lits {α : Type} {f : α → Value} (d : α) (e : TypeId) (a b : IntKind) (m : Int) (B : Nat) (hz : zeroA P e = some [.sc (f d)]) (hi : (P.info? e).map (·.bytes) = some B) (hc : P.cellsOf e = 1) (h0 : 0 ≤ m) (h1 : m ≤ 140737488355328) (h2 : B * m ≤ 281474976710656) :
    mkV P (some (.slice e)) (.sc (.int a m)) (.sc (.int b m)) = some (lits f (List.replicate m.toNat d), fun r => .sl r 0 m.toNat 1) := by
  simp only [Option.map_eq_some_iff] at hi
  obtain ⟨i, hi, rfl⟩ := hi
  simp only [mkV, hz, hi, hc, List.length_singleton, lits_rep]
  rw [if_pos ⟨h0, trivial, h1, h2, by omega, trivial⟩]
/-- A slice of the whole of a region that holds truths, or none at all. -/
def IsB (H : AHeap) (x : AV) (l : List Bool) : Prop := (x = .sc (.slice none 0 0) ∧ l = []) ∨ ∃ r own, x = .sl r 0 l.length 1 ∧ H[r]? = some ⟨bools l, own, true⟩
theorem IsB.mk {H : AHeap} {r : Nat} {own : Bool} {l : List Bool} (h : H[r]? = some ⟨bools l, own, true⟩) : IsB H (.sl r 0 l.length 1) l := .inr ⟨r, own, rfl, h⟩
theorem IsB.at {H : AHeap} {r n : Nat} {own : Bool} {l : List Bool} (h : H[r]? = some ⟨bools l, own, true⟩) (hn : l.length = n) : IsB H (.sl r 0 n 1) l := hn ▸ .mk h
theorem IsB.nil (H : AHeap) : IsB H (.sc (.slice none 0 0)) [] := .inl ⟨rfl, rfl⟩
theorem IsB.len {H : AHeap} {x : AV} {l : List Bool} (e : TypeId) (h : IsB H x l) : lenV (some (.slice e)) x = some (.sc (.int .i64 l.length)) := by
  rcases h with ⟨rfl, rfl⟩ | ⟨r, own, rfl, _⟩ <;> rfl
theorem IsB.get {H : AHeap} {x : AV} {l : List Bool} (h : IsB H x l) {i : Nat} (hi : i < l.length) : ∃ r own, x = .sl r 0 l.length 1 ∧ H[r]? = some ⟨bools l, own, true⟩ := by
  rcases h with ⟨rfl, rfl⟩ | h
  · simp at hi
  · exact h
theorem IsB.one {H : AHeap} {x : AV} {l : List Bool} (h : IsB H x l) : x.cells = [x] ∧ x.one = true := by
  rcases h with ⟨rfl, rfl⟩ | ⟨r, own, rfl, _⟩ <;> exact ⟨rfl, rfl⟩
theorem IsL.one {H : AHeap} {x : AV} {k : IntKind} {l : List Int} (h : IsL H x k l) : x.cells = [x] ∧ x.one = true := by
  rcases h with ⟨rfl, rfl⟩ | ⟨r, own, rfl, _⟩ <;> exact ⟨rfl, rfl⟩
/-- Its cells, to be put behind others. -/
theorem IsB.src {H : AHeap} {x : AV} {l : List Bool} (h : IsB H x l) : srcCells H x 1 = some (bools l) := by
  rcases h with ⟨rfl, rfl⟩ | ⟨r, own, rfl, h⟩
  · rfl
  · rw [src_sl, h, at_bools]
    simp
theorem IsL.src {H : AHeap} {x : AV} {k : IntKind} {l : List Int} (h : IsL H x k l) : srcCells H x 1 = some (ints k l) := by
  rcases h with ⟨rfl, rfl⟩ | ⟨r, own, rfl, h⟩
  · rfl
  · rw [src_sl, h, at_ints]
    simp
end
/-! ### rows of cells -/
def rows {α : Type} (f : α → List AV) (l : List α) : List AV := (l.map f).flatten
structure Enc {α : Type} (f : α → List AV) (m : Nat) : Prop where
  len : ∀ a, (f a).length = m
  one : ∀ a, (f a).all AV.one = true
  pos : 0 < m
section
variable {P : Program} {H : AHeap} {α : Type} {f : α → List AV} {m : Nat}
theorem rows_nil : ([] : List AV) = rows f [] := rfl
theorem rows_cons (a : α) (l : List α) : rows f (a :: l) = f a ++ rows f l := rfl
theorem rows_append (a b : List α) : rows f a ++ rows f b = rows f (a ++ b) := by simp [rows]
theorem rows_one1 (a : α) : rows f [a] = f a := by simp [rows]
theorem rows_len (h : Enc f m) (l : List α) : (rows f l).length = l.length * m := by
  induction l with
  | nil => simp [rows]
  | cons a l ih => rw [rows_cons, List.length_append, ih, h.len, List.length_cons, Nat.add_mul, Nat.one_mul, Nat.add_comm]
theorem rows_all (h : Enc f m) (l : List α) : (rows f l).all AV.one = true := by
  induction l with
  | nil => rfl
  | cons a l ih => rw [rows_cons, List.all_append, ih, h.one]; rfl
theorem rows_split (h : Enc f m) : ∀ (l : List α) (i : Nat) (a : α), l[i]? = some a → rows f l = rows f (l.take i) ++ (f a ++ rows f (l.drop (i + 1))) ∧ (rows f (l.take i)).length = i * m
  | [], i, a, h1 => by simp at h1
  | b :: l, 0, a, h1 => by
    simp at h1
    subst h1
    exact ⟨rfl, by simp [rows]⟩
  | b :: l, i + 1, a, h1 => by
    rw [List.getElem?_cons_succ] at h1
    obtain ⟨h2, h3⟩ := rows_split h l i a h1
    refine ⟨?_, ?_⟩
    · rw [rows_cons, h2, List.take_succ_cons, rows_cons, List.append_assoc, List.drop_succ_cons]
    · rw [List.take_succ_cons, rows_cons, List.length_append, h3, h.len, Nat.add_mul, Nat.one_mul, Nat.add_comm]
theorem rows_cut (h : Enc f m) {l : List α} {i : Nat} {a : α} (ha : l[i]? = some a) : ((rows f l).drop (i * m)).take m = f a := by
  obtain ⟨h1, h2⟩ := rows_split h l i a ha
  rw [h1, ← h2, List.drop_left, ← h.len a, List.take_left]
theorem rows_at (h : Enc f m) {l : List α} {i j : Nat} {a : α} (ha : l[i]? = some a) (hj : j < m) : (rows f l)[i * m + j]? = (f a)[j]? := by
  obtain ⟨h1, h2⟩ := rows_split h l i a ha
  rw [h1, ← h2, List.getElem?_append_right (by omega), Nat.add_sub_cancel_left, List.getElem?_append_left (by rw [h.len]; exact hj)]
theorem rows_take (h : Enc f m) (l : List α) (n : Nat) : (rows f l).take (n * m) = rows f (l.take n) := by
  by_cases hn : n < l.length
  · obtain ⟨h1, h2⟩ := rows_split h l n l[n] (List.getElem?_eq_getElem hn)
    rw [h1, ← h2, List.take_left]
  · rw [List.take_of_length_le (l := rows f l) (by rw [rows_len h]; exact Nat.mul_le_mul_right _ (by omega)), List.take_of_length_le (by omega)]
theorem drop_two (a b c : List AV) : (a ++ (b ++ c)).drop (a.length + b.length) = c := by
  rw [← List.drop_drop, List.drop_left, List.drop_left]
theorem rows_set (h : Enc f m) {l : List α} {i : Nat} (hi : i < l.length) (b : α) : rows f (l.set i b) = overA (rows f l) (i * m) (f b) := by
  obtain ⟨h1, h2⟩ := rows_split h l i l[i] (List.getElem?_eq_getElem hi)
  have h3 : l.set i b = l.take i ++ (b :: l.drop (i + 1)) := by
    rw [List.set_eq_take_append_cons_drop, if_pos hi]
  rw [h3, ← rows_append, rows_cons, overA, h1, ← h2, List.take_left, List.append_assoc]
  congr 2
  rw [h.len, ← h.len l[i]]
  exact (drop_two _ _ _).symm
theorem rd_row (h : Enc f m) {l : List α} {i : Nat} {a : α} (ha : l[i]? = some a) (own : Bool) : rdT true true m (some ⟨rows f l, own, true⟩) (i * m) = some (.agg (f a)) := by
  obtain ⟨h1, h2⟩ := rows_split h l i a ha
  have hl : i * m + m ≤ (rows f l).length := by rw [h1, List.length_append, List.length_append, h2, h.len]; omega
  simp only [rdT, if_true, true_and, hl, rows_cut h ha]
theorem rd_cell (h : Enc f m) {l : List α} {i j k : Nat} {a : α} (ha : l[i]? = some a) (hj : j < m) (own : Bool) : rdT true false k (some ⟨rows f l, own, true⟩) (i * m + j) = (f a)[j]? := by
  obtain ⟨h1, h2⟩ := rows_split h l i a ha
  have hl : i * m + j + 1 ≤ (rows f l).length := by rw [h1, List.length_append, List.length_append, h2, h.len]; omega
  simp only [rdT, if_true, true_and, hl, rows_at h ha hj, Bool.false_eq_true, if_false]
theorem wr_row (h : Enc f m) {l : List α} {i : Nat} (hi : i < l.length) (r : Nat) (b : α) : wrT true m H r (some ⟨rows f l, true, true⟩) (i * m) (.agg (f b)) = some (H.set r ⟨rows f (l.set i b), true, true⟩) := by
  have h1 : (AV.agg (f b)).cells = f b := rfl
  have hl : i * m + m ≤ (rows f l).length := by
    rw [rows_len h]
    have : (i + 1) * m ≤ l.length * m := Nat.mul_le_mul_right _ hi
    rw [Nat.add_mul, Nat.one_mul] at this
    exact this
  simp only [wrT, h1, h.len, h.one, hl, and_self, if_true, rows_set h hi]
theorem wr_cell (h : Enc f m) {l : List α} {i j : Nat} {a b : α} {y : AV} (ha : l[i]? = some a) (hj : j < m) (hb : f b = (f a).set j y) (hy : y.cells = [y] ∧ y.one = true) (r : Nat) : wrT true 1 H r (some ⟨rows f l, true, true⟩) (i * m + j) y = some (H.set r ⟨rows f (l.set i b), true, true⟩) := by
  have hi : i < l.length := (List.getElem?_eq_some_iff.1 ha).1
  obtain ⟨h1, h2⟩ := rows_split h l i a ha
  have hl : i * m + j + 1 ≤ (rows f l).length := by rw [h1, List.length_append, List.length_append, h2, h.len]; omega
  have h3 : [y].all AV.one = true := by simp [hy.2]
  simp only [wrT, hy.1, List.length_singleton, h3, hl, and_self, if_true]
  congr 3
  have h4 : l.set i b = l.take i ++ (b :: l.drop (i + 1)) := by
    rw [List.set_eq_take_append_cons_drop, if_pos hi]
  have h5 : overA (rows f l) (i * m + j) [y] = (rows f l).set (i * m + j) y := by
    rw [List.set_eq_take_append_cons_drop, if_pos (by omega), overA]
    simp
  rw [h5, h4, ← rows_append, rows_cons, h1, ← h2, List.set_append_right _ _ (by omega), Nat.add_sub_cancel_left, List.set_append_left _ _ (by rw [h.len]; exact hj), hb]
/-- m cells an element: what is appended is already known. -/
def apR (m B : Nat) (H : AHeap) (r len : Nat) (g : Option Reg) (news : Option (List AV)) : Option (AV × AHeap) :=
  match g, news with
  | some g, some ns => if g.live = true ∧ g.own = true ∧ len * m ≤ g.cs.length ∧ (len + ns.length / m) * B ≤ 140737488355328 ∧ len + ns.length ≤ 140737488355328 ∧ ns.all AV.one = true then
      some (.sl H.length 0 (len + ns.length / m) m, killReg H r ++ [⟨g.cs.take (len * m) ++ ns, true, true⟩]) else none
  | _, _ => none
def apRN (m B : Nat) (H : AHeap) (news : Option (List AV)) : Option (AV × AHeap) :=
  match news with
  | some ns => if ns.length / m * B ≤ 140737488355328 ∧ ns.length ≤ 140737488355328 ∧ ns.all AV.one = true then (if ns.length = 0 then some (.sc (.slice none 0 0), H) else some (.sl H.length 0 (ns.length / m) m, H ++ [⟨ns, true, true⟩])) else none
  | none => none
theorem zero_sizeR {e : TypeId} {z0 : List AV} (hz : zeroA P e = some z0) : ∃ z, (P.info? e).bind (·.zero) = some z ∧ z.cells.size = z0.length := by
  unfold zeroA at hz
  simp only [Option.map_eq_some_iff] at hz
  obtain ⟨z, h1, h2⟩ := hz
  refine ⟨z, h1, ?_⟩
  have := (VR.ofV (ρ := fun _ => none) z).cells.1
  rw [h2] at this
  simpa using this.symm
theorem ap_slR {e : TypeId} {z0 : List AV} {B : Nat} {u : TypeDesc} (hz : zeroA P e = some z0) (hl : z0.length = m) (hm : 0 < m) (hi : (P.info? e).map (·.bytes) = some B) (hc : P.cellsOf e = m) (hu : noInt u = true) (r len : Nat) (x : AV) : apV P (some (.slice e)) (some u) (.sl r 0 len m) x H = apR m B H r len H[r]? (srcCells H x m) := by
  obtain ⟨z, z1, z2⟩ := zero_sizeR hz
  rw [hl] at z2
  simp only [Option.map_eq_some_iff] at hi
  obtain ⟨i, i1, rfl⟩ := hi
  unfold apV apR
  simp only [i1, Option.bind_some] at z1 ⊢
  rw [z1]
  simp only [hc, z2, hu]
  cases srcCells H x m with
  | none => cases H[r]? <;> rfl
  | some ns =>
    cases hr : H[r]? with
    | none => simp only; split <;> rfl
    | some g =>
      simp only
      by_cases h1 : ns.all AV.one = true
      · by_cases h2 : g.live = true ∧ g.own = true ∧ len * m ≤ g.cs.length ∧ (len + ns.length / m) * i.bytes ≤ 140737488355328 ∧ len + ns.length ≤ 140737488355328
        · simp [h1, h2, z2, hm]
        · rw [if_pos ⟨hm, z2, trivial, h1⟩, if_neg (fun h => h2 h.2), if_neg (fun h => h2 ⟨h.1, h.2.1, h.2.2.1, h.2.2.2.1, h.2.2.2.2.1⟩)]
      · rw [if_neg (fun h => h1 h.2.2.2), if_neg (fun h => h1 h.2.2.2.2.2)]
theorem ap_nilR {e : TypeId} {z0 : List AV} {B : Nat} {u : TypeDesc} (hz : zeroA P e = some z0) (hl : z0.length = m) (hm : 0 < m) (hi : (P.info? e).map (·.bytes) = some B) (hc : P.cellsOf e = m) (hu : noInt u = true) (x : AV) : apV P (some (.slice e)) (some u) (.sc (.slice none 0 0)) x H = apRN m B H (srcCells H x m) := by
  obtain ⟨z, z1, z2⟩ := zero_sizeR hz
  rw [hl] at z2
  simp only [Option.map_eq_some_iff] at hi
  obtain ⟨i, i1, rfl⟩ := hi
  unfold apV apRN
  simp only [i1, Option.bind_some] at z1 ⊢
  rw [z1]
  simp only [hc, z2, hu]
  cases srcCells H x m with
  | none => rfl
  | some ns =>
    simp only
    by_cases h1 : ns.all AV.one = true
    · by_cases h2 : ns.length / m * i.bytes ≤ 140737488355328 ∧ ns.length ≤ 140737488355328
      · simp [h1, h2, z2, hm]
      · rw [if_pos ⟨hm, z2, trivial, h1⟩, if_neg h2, if_neg (fun h => h2 ⟨h.1, h.2.1⟩)]
    · rw [if_neg (fun h => h1 h.2.2.2), if_neg (fun h => h1 h.2.2)]
theorem src_slR (r q : Nat) : srcCells H (.sl r 0 q m) m = atT H[r]? 0 (q * m) := by simp [srcCells, at_def]
theorem src_nilR : srcCells H (.sc (.slice none 0 0)) m = some [] := rfl
theorem at_rows (h : Enc f m) (l : List α) (own : Bool) (n : Nat) : atT (some ⟨rows f l, own, true⟩) 0 (n * m) = if n ≤ l.length then some (rows f (l.take n)) else none := by
  simp only [atT, rows_len h, true_and, List.drop_zero, Nat.zero_add, rows_take h]
  by_cases hn : n ≤ l.length
  · rw [if_pos hn, if_pos (Nat.mul_le_mul_right _ hn)]
  · rw [if_neg hn, if_neg]
    intro hh
    exact hn (Nat.le_of_mul_le_mul_right hh h.pos)
theorem ap_rows (h : Enc f m) (B r len : Nat) (l k : List α) : apR m B H r len (some ⟨rows f l, true, true⟩) (some (rows f k)) = if len ≤ l.length ∧ (len + k.length) * B ≤ 140737488355328 ∧ len + k.length * m ≤ 140737488355328 then some (.sl H.length 0 (len + k.length) m, killReg H r ++ [⟨rows f (l.take len ++ k), true, true⟩]) else none := by
  have h1 : k.length * m / m = k.length := Nat.mul_div_cancel _ h.pos
  have h2 : len * m ≤ l.length * m ↔ len ≤ l.length := ⟨fun hh => Nat.le_of_mul_le_mul_right hh h.pos, fun hh => Nat.mul_le_mul_right _ hh⟩
  simp only [apR, rows_len h, rows_all h, true_and, and_true, h1, h2, rows_take h, rows_append]
/-- A slice of rows that are made. -/
theorem bs_row (e : TypeId) (z cs : List AV) (hz : zeroA P e = some z) (ht : tyOk P e = true) (hc : P.cellsOf e = m) (hm : 0 < m) (hm2 : m ≤ 16777216) (hl : z.length = m) (hcs : cs.length = m) : bsV P (some (.slice e)) 1 [(0, .agg cs)] = some (cs, fun r => .sl r 0 1 m) := by
  simp [bsV, hz, ht, hc, hm, hm2, hl, fillA, AV.cells, hcs, overA]
theorem bs_none (e : TypeId) (z : List AV) (hz : zeroA P e = some z) (ht : tyOk P e = true) (hc : P.cellsOf e = m) (hm : 0 < m) (hl : z.length = m) : bsV P (some (.slice e)) 0 [] = some ([], fun r => .sl r 0 0 m) := by
  simp [bsV, hz, ht, hc, hm, hl, fillA]
theorem mk_rows (d : α) (e : TypeId) (a b : IntKind) (n : Int) (B : Nat) (h : Enc f m) (hz : zeroA P e = some (f d)) (hi : (P.info? e).map (·.bytes) = some B) (hc : P.cellsOf e = m) (h0 : 0 ≤ n) (h1 : n ≤ 140737488355328) (h2 : B * n ≤ 281474976710656) :
    mkV P (some (.slice e)) (.sc (.int a n)) (.sc (.int b n)) = some (rows f (List.replicate n.toNat d), fun r => .sl r 0 n.toNat m) := by
  simp only [Option.map_eq_some_iff] at hi
  obtain ⟨i, hi, rfl⟩ := hi
  simp only [mkV, hz, hi, hc, h.len]
  rw [if_pos ⟨h0, trivial, h1, h2, h.pos, trivial⟩]
  simp [rows]
end
end Go.Proofs.YtfgmmklljibbiaaDoor.Sim

