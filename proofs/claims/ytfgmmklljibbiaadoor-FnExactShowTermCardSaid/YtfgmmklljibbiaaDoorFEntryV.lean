/- The way into a law that is given structs and slices: what lies in memory is told as regions; and what was given is as it was behind the call. -/
import Derived.Test.YtfgmmklljibbiaaDoorFEntry
import Derived.ChangeArms
import Derived.ChangeOld
import Derived.ChangeStays
namespace Go.Proofs.YtfgmmklljibbiaaDoor.Sim
open Go
set_option linter.unusedSimpArgs false
set_option linter.unusedVariables false
/-- The kinds of flat cells. -/
inductive Kd where
  | b
  | s
  | i (k : IntKind)
def Kd.ok (k : Kd) (v : Value) : Prop :=
  match k with
  | .b => ∃ x, v = .bool x
  | .s => ∃ z, v = .string z ∧ z.size ≤ maxLen
  | .i q => ∃ n, v = .int q n ∧ (Lit.int q n).wf = true
theorem Kd.ok.one {k : Kd} {v : Value} (h : k.ok v) : (AV.sc v).one = true := by
  cases k with
  | b => obtain ⟨x, rfl⟩ := h; rfl
  | s => obtain ⟨x, rfl, _⟩ := h; rfl
  | i q => obtain ⟨x, rfl, _⟩ := h; rfl
theorem Kd.ok.flat {k : Kd} {v : Value} (h : k.ok v) : Flat (.sc v) := .sc v
inductive Leaf where
  | f (k : Kd)
  | l (e : TypeId) (ks : List Kd)
def Leaf.kd? : Leaf → Option Kd
  | .f k => some k
  | .l _ _ => none
def leavesFs (P : Program) (rec : TypeId → Option (List Leaf)) : List Field → Nat → Option (List Leaf)
  | [], _ => some []
  | f :: fs, off => match rec f.type, leavesFs P rec fs (off + P.cellsOf f.type) with
    | some a, some b => if f.offset = off ∧ a.length = P.cellsOf f.type then some (a ++ b) else none
    | _, _ => none
def leaves (P : Program) : Nat → TypeId → Option (List Leaf)
  | 0, _ => none
  | d + 1, t => match P.underlying t with
    | some .bool => some [.f .b]
    | some .string => some [.f .s]
    | some (.int k) => some [.f (.i k)]
    | some (.slice e) => match leaves P d e with
      | some ls => match ls.mapM Leaf.kd? with
        | some ks => if P.cellsOf e = ks.length ∧ 0 < ks.length then some [.l e ks] else none
        | none => none
      | none => none
    | some (.struct fs) => match leavesFs P (leaves P d) fs.toList 0 with
      | some ls => if ls.length = P.cellsOf t then some ls else none
      | none => none
    | _ => none
section
variable {H : Type} {enc : TypeId × Value → H} {P : Program} {W : World} {base : Nat} {spare : Nat → Bool} {held : Bool}
def LeafOk (enc : TypeId × Value → H) (P : Program) (W : World) (base : Nat) (spare : Nat → Bool) (held : Bool) (l : Leaf) (v : Value) : Prop :=
  match l with
  | .f k => k.ok v
  | .l e ks => P.cellsOf e = ks.length ∧ 0 < ks.length ∧ (∃ d, leaves P d e = some (ks.map .f)) ∧ ∃ t n y, P.underlying t = some (.slice e) ∧ DataW.trod enc P W base spare held n t [v] = some y
theorem kd_map : ∀ (ls : List Leaf) (ks : List Kd), ls.mapM Leaf.kd? = some ks → ls = ks.map .f
  | [], ks, h => by
    simp at h
    subst h
    rfl
  | l :: ls, ks, h => by
    rw [List.mapM_cons] at h
    cases l with
    | l e k => simp [Leaf.kd?] at h
    | f k =>
      cases hl : ls.mapM Leaf.kd? with
      | none => simp [Leaf.kd?, hl] at h
      | some ks' =>
        simp [Leaf.kd?, hl] at h
        subst h
        rw [List.map_cons, ← kd_map ls ks' hl]
theorem mapM_all {α β : Type} {f : α → Option β} : ∀ {l : List α} {r : List β}, l.mapM f = some r → ∀ x ∈ l, ∃ y, f x = some y
  | [], r, _, x, hx => by cases hx
  | a :: l, r, h, x, hx => by
    rw [List.mapM_cons] at h
    cases ha : f a with
    | none => simp [ha] at h
    | some y =>
      cases hl : l.mapM f with
      | none => simp [ha, hl] at h
      | some ys =>
        rcases List.mem_cons.1 hx with rfl | hx
        · exact ⟨y, ha⟩
        · exact mapM_all hl x hx
theorem fs_ok (rec : TypeId → Option (List Leaf)) (r : TypeId → List Value → Option (DataW H × List MemPlace)) (L : Leaf → Value → Prop)
    (hr : ∀ t cs y ls, rec t = some ls → r t cs = some y → ∀ (i : Nat) l v, ls[i]? = some l → cs[i]? = some v → L l v) (cs : List Value) :
    ∀ (fs : List Field) (off : Nat) (ls : List Leaf), leavesFs P rec fs off = some ls → (∀ f ∈ fs, ∃ y, r f.type ((cs.drop f.offset).take (P.cellsOf f.type)) = some y) →
      ∀ (i : Nat) l v, ls[i]? = some l → cs[off + i]? = some v → L l v
  | [], off, ls, h, _, i, l, v, hl, _ => by
    simp [leavesFs] at h
    subst h
    simp at hl
  | f :: fs, off, ls, h, ha, i, l, v, hl, hv => by
    rw [leavesFs] at h
    cases h1 : rec f.type with
    | none => simp [h1] at h
    | some a =>
      cases h2 : leavesFs P rec fs (off + P.cellsOf f.type) with
      | none => simp [h1, h2] at h
      | some b =>
        simp only [h1, h2] at h
        split at h
        · rename_i hc
          obtain ⟨c1, c2⟩ := hc
          simp only [Option.some.injEq] at h
          subst h
          by_cases hi : i < a.length
          · rw [List.getElem?_append_left hi] at hl
            obtain ⟨y, hy⟩ := ha f (by simp)
            refine hr _ _ _ _ h1 hy i l v hl ?_
            rw [List.getElem?_take, if_pos (by omega), List.getElem?_drop, c1]
            exact hv
          · rw [List.getElem?_append_right (by omega)] at hl
            refine fs_ok rec r L hr cs fs _ b h2 (fun g hg => ha g (by simp [hg])) (i - a.length) l v hl ?_
            rw [← c2, show off + a.length + (i - a.length) = off + i by omega]
            exact hv
        · cases h
theorem leaves_ok : ∀ (d : Nat) (n : Nat) (t : TypeId) (cs : List Value) (y : DataW H × List MemPlace) (ls : List Leaf), leaves P d t = some ls → DataW.trod enc P W base spare held n t cs = some y →
    ∀ (i : Nat) l v, ls[i]? = some l → cs[i]? = some v → LeafOk enc P W base spare held l v
  | 0, n, t, cs, y, ls, h, _, i, l, v, _, _ => by cases h
  | d + 1, 0, t, cs, y, ls, h, hy, i, l, v, hl, hv => by simp [DataW.trod] at hy
  | d + 1, n + 1, t, cs, y, ls, h, hy, i, l, v, hl, hv => by
    have hy0 := hy
    rw [DataW.trod_step] at hy
    rw [leaves] at h
    cases hu : P.underlying t with
    | none => simp [hu] at h
    | some D =>
      rw [hu] at h
      unfold DataW.trodStep at hy
      cases D with
      | bool =>
        simp only [Option.some.injEq] at h
        subst h
        rw [hu] at hy
        have hc : ∃ b, cs = [.bool b] := by
          split at hy <;> simp_all
        obtain ⟨b, rfl⟩ := hc
        obtain ⟨rfl, rfl⟩ : i = 0 ∧ l = .f .b := by
          cases i with
          | zero => exact ⟨rfl, by simpa using hl.symm⟩
          | succ i => simp at hl
        simp at hv
        subst hv
        exact ⟨b, rfl⟩
      | string =>
        simp only [Option.some.injEq] at h
        subst h
        rw [hu] at hy
        have hc : ∃ b, cs = [.string b] ∧ b.size ≤ maxLen := by
          split at hy <;> simp_all
        obtain ⟨b, rfl, hb⟩ := hc
        obtain ⟨rfl, rfl⟩ : i = 0 ∧ l = .f .s := by
          cases i with
          | zero => exact ⟨rfl, by simpa using hl.symm⟩
          | succ i => simp at hl
        simp at hv
        subst hv
        exact ⟨b, rfl, hb⟩
      | int k =>
        simp only [Option.some.injEq] at h
        subst h
        rw [hu] at hy
        have hc : ∃ m, cs = [.int k m] ∧ (Lit.int k m).wf = true := by
          split at hy <;> simp_all
        obtain ⟨m, rfl, hw⟩ := hc
        obtain ⟨rfl, rfl⟩ : i = 0 ∧ l = .f (.i k) := by
          cases i with
          | zero => exact ⟨rfl, by simpa using hl.symm⟩
          | succ i => simp at hl
        simp at hv
        subst hv
        exact ⟨m, rfl, hw⟩
      | slice e =>
        cases h1 : leaves P d e with
        | none => simp [h1] at h
        | some ls' =>
          cases h2 : ls'.mapM Leaf.kd? with
          | none => simp [h1, h2] at h
          | some ks =>
            simp only [h1, h2] at h
            split at h
            · rename_i hc
              simp only [Option.some.injEq] at h
              subst h
              obtain ⟨rfl, rfl⟩ : i = 0 ∧ l = .l e ks := by
                cases i with
                | zero => exact ⟨rfl, by simpa using hl.symm⟩
                | succ i => simp at hl
              have hcs : cs = [v] := by
                rw [hu] at hy
                split at hy <;> simp_all
              subst hcs
              exact ⟨hc.1, hc.2, ⟨d, by rw [h1, kd_map _ _ h2]⟩, t, n + 1, y, hu, hy0⟩
            · cases h
      | struct fs =>
        cases h1 : leavesFs P (leaves P d) fs.toList 0 with
        | none => simp [h1] at h
        | some ls' =>
          simp only [h1] at h
          split at h
          · rename_i hc
            simp only [Option.some.injEq] at h
            subst h
            rw [hu] at hy
            have hm : ∃ xs, fs.toList.mapM (fun f => DataW.trod enc P W base spare held n f.type ((cs.drop f.offset).take (P.cellsOf f.type))) = some xs := by
              split at hy <;> simp_all
              obtain ⟨xs, hx, _⟩ := hy.2
              exact ⟨xs, hx⟩
            obtain ⟨xs, hx⟩ := hm
            exact fs_ok (P := P) (leaves P d) (DataW.trod enc P W base spare held n) (LeafOk enc P W base spare held) (fun t cs y ls a b i l v => leaves_ok d n t cs y ls a b i l v) cs fs.toList 0 ls' h1 (fun f hf => mapM_all hx f hf) i l v hl (by simpa using hv)
          · cases h
      | _ => simp at h
/-- A row of flat cells. -/
structure Rw (ks : List Kd) where
  val : List Value
  ok : val.length = ks.length ∧ ∀ (i : Nat) k v, ks[i]? = some k → val[i]? = some v → k.ok v
def Rw.cs {ks : List Kd} (r : Rw ks) : List AV := r.val.map .sc
theorem Rw.encs {ks : List Kd} (h : 0 < ks.length) : Enc (Rw.cs (ks := ks)) ks.length := by
  refine ⟨fun a => by rw [Rw.cs, List.length_map]; exact a.ok.1, fun a => List.all_eq_true.2 fun x hx => ?_, h⟩
  obtain ⟨v, hv, rfl⟩ := List.mem_map.1 hx
  obtain ⟨i, hi⟩ := List.getElem?_of_mem hv
  have hlt := (List.getElem?_eq_some_iff.1 hi).1
  rw [a.ok.1] at hlt
  exact (a.ok.2 i ks[i] v (List.getElem?_eq_getElem hlt) hi).one
/-- A slice of the whole of a region of such rows, or none at all. -/
def IsR {ks : List Kd} (H : AHeap) (x : AV) (l : List (Rw ks)) : Prop := (x = .sc (.slice none 0 0) ∧ l = []) ∨ ∃ r own, x = .sl r 0 l.length ks.length ∧ H[r]? = some ⟨rows Rw.cs l, own, true⟩
def SlotOk (W : World) (s : Reg × Option Loc) : Prop := s.1.own = false ∧ ∀ (ρ : Ren) l, s.2 = some l → RegOk ρ W.heap.size W l s.1
theorem rows_mem {α : Type} {f : α → List AV} {l : List α} {a : AV} (h : a ∈ rows f l) : ∃ x ∈ l, a ∈ f x := by
  obtain ⟨y, hy, hya⟩ := List.mem_flatten.1 h
  obtain ⟨x, hx, rfl⟩ := List.mem_map.1 hy
  exact ⟨x, hx, hya⟩
theorem chunks {α : Type} (m : Nat) (p : List α → Prop) : ∀ (n : Nat) (cs : List α), cs.length = n * m → (∀ i, i < n → p ((cs.drop (i * m)).take m)) → ∃ rs : List (List α), rs.length = n ∧ rs.flatten = cs ∧ (∀ r ∈ rs, p r ∧ r.length = m)
  | 0, cs, hl, _ => ⟨[], rfl, by simp at hl; simp [hl], by simp⟩
  | n + 1, cs, hl, h => by
    have h1 : (cs.drop m).length = n * m := by rw [List.length_drop, hl, Nat.add_mul]; omega
    obtain ⟨rs, r1, r2, r3⟩ := chunks m p n (cs.drop m) h1 (fun i hi => by
      have := h (i + 1) (by omega)
      rw [List.drop_drop]
      rwa [Nat.add_mul, Nat.one_mul, Nat.add_comm] at this)
    refine ⟨cs.take m :: rs, by simp [r1], by simp [r2], ?_⟩
    intro r hr
    rcases List.mem_cons.1 hr with rfl | hr
    · refine ⟨by simpa using h 0 (by omega), ?_⟩
      rw [List.length_take, hl, Nat.add_mul]
      omega
    · exact r3 r hr
theorem map_rows {ks : List Kd} : ∀ (rs : List (List Value)), (∀ r ∈ rs, r.length = ks.length ∧ ∀ (i : Nat) k v, ks[i]? = some k → r[i]? = some v → k.ok v) → ∃ l : List (Rw ks), l.length = rs.length ∧ rows Rw.cs l = rs.flatten.map .sc
  | [], _ => ⟨[], rfl, rfl⟩
  | r :: rs, h => by
    obtain ⟨l, l1, l2⟩ := map_rows rs (fun q hq => h q (by simp [hq]))
    refine ⟨⟨r, h r (by simp)⟩ :: l, by simp [l1], ?_⟩
    rw [rows_cons, l2, List.flatten_cons, List.map_append]
    rfl
theorem slot {t e : TypeId} {ks : List Kd} {v : Value} {y : DataW H × List MemPlace} {n d : Nat} (ht : P.underlying t = some (.slice e)) (hm : P.cellsOf e = ks.length) (hp : 0 < ks.length) (hk : leaves P d e = some (ks.map .f))
    (h : DataW.trod enc P W 0 (fun _ => true) true n t [v] = some y) {u e2 : TypeId} (hu : P.underlying u = some (.slice e2)) {b0 : Nat} (hok : Cell.okWide P W .any b0 u v) :
    ∃ (l : List (Rw ks)) (s : Reg × Option Loc) (x : Nat → AV), SlotOk W s ∧ (∀ (ρ : Ren) r, ρ r = s.2 → VR ρ (x r) v) ∧ l.length ≤ 9223372036854775807 ∧ ∀ r (G : AHeap), G[r]? = some s.1 → IsR G (x r) l := by
  rcases DataW.trod_slice ht h with ⟨hv, _⟩ | ⟨a, len, cap, elems, rest, n', rfl, hv, _, hb, hl, hc, he1, he2, hsp, _⟩
  · simp only [List.cons.injEq, and_true] at hv
    subst hv
    refine ⟨[], (⟨[], false, true⟩, none), fun _ => .sc (.slice none 0 0), ⟨rfl, fun _ _ h => by cases h⟩, fun _ _ _ => .sc _, by simp, fun _ _ _ => .inl ⟨rfl, rfl⟩⟩
  · simp only [List.cons.injEq, and_true] at hv
    subst hv
    have hasp : a.spot = none ∧ ∃ row cells, W.shape? a.block = some (row, cells) := by
      unfold Cell.okWide at hok
      simp only [hu] at hok
      unfold Cell.ok at hok
      simp only [hu] at hok
      obtain ⟨_, _, _, h1, row, cells, h2, _⟩ := hok
      exact ⟨h1, row, cells, h2⟩
    obtain ⟨hspot, row, cells, hsh⟩ := hasp
    unfold World.shape? at hsh
    split at hsh
    case h_2 => cases hsh
    rename_i c elem fz hblk
    have hbl : a.block < W.heap.size := (Array.getElem?_eq_some_iff.1 hblk).1
    have ea : a = ⟨a.block, a.off, none⟩ := by cases a; simp_all
    have hadd : ∀ i, a.add i = ⟨a.block, a.off + i, none⟩ := fun i => add_spot hspot i
    have hadd2 : ∀ i j, (a.add i).add j = ⟨a.block, a.off + i + j, none⟩ := fun i j => by rw [hadd, add_spot rfl]
    have hcell : ∀ k, W.cell? ⟨a.block, k, none⟩ = c[k]? := fun k => by simp [World.cell?, hblk]
    obtain ⟨hr1, hr2⟩ := hsp rfl
    -- each element is read
    have each : ∀ i, i < cap → ∃ q yy, W.cells? 0 (a.add (i * P.cellsOf e)) (P.cellsOf e) = some q ∧ DataW.trod enc P W 0 (fun _ => true) true n' e q = some yy := by
      intro i hi
      by_cases h1 : i < len
      · have := he2 i h1
        rw [List.getElem?_eq_getElem (by omega), Option.bind_eq_some_iff] at this
        obtain ⟨q, q1, q2⟩ := this
        exact ⟨q, _, q1, q2⟩
      · have := hr2 (i - len) (by omega)
        rw [show len + (i - len) = i by omega, List.getElem?_eq_getElem (by omega), Option.bind_eq_some_iff] at this
        obtain ⟨q, q1, q2⟩ := this
        exact ⟨q, _, q1, q2⟩
    have eachc : ∀ i, i < cap → ∃ q yy, q.length = ks.length ∧ (∀ j, j < ks.length → c[a.off + i * ks.length + j]? = q[j]?) ∧ DataW.trod enc P W 0 (fun _ => true) true n' e q = some yy := by
      intro i hi
      obtain ⟨q, yy, q1, q2⟩ := each i hi
      obtain ⟨_, q4, q5⟩ := World.cells?_some q1
      rw [hm] at q4 q5
      refine ⟨q, yy, q4, fun j hj => ?_, q2⟩
      have := q5 j hj
      rw [hadd2, hcell] at this
      exact this
    have hfit : a.off + cap * ks.length ≤ c.size ∨ cap = 0 := by
      rcases Nat.eq_zero_or_pos cap with h0 | h0
      · exact .inr h0
      · obtain ⟨q, yy, q1, q2, _⟩ := eachc (cap - 1) (by omega)
        have := q2 (ks.length - 1) (by omega)
        rw [List.getElem?_eq_getElem (by omega)] at this
        have := (Array.getElem?_eq_some_iff.1 this).1
        have e2 : cap * ks.length = (cap - 1) * ks.length + ks.length := by
          obtain ⟨k, rfl⟩ : ∃ k, cap = k + 1 := ⟨cap - 1, by omega⟩
          rw [Nat.add_mul, Nat.one_mul, Nat.add_sub_cancel]
        exact .inl (by omega)
    rcases hfit with hfit | h0
    · have hlm : len * ks.length ≤ cap * ks.length := Nat.mul_le_mul_right _ hl
      let cs := (c.toList.drop a.off).take (len * ks.length)
      have hcl : cs.length = len * ks.length := by
        show ((c.toList.drop a.off).take (len * ks.length)).length = _
        have hcz : c.toList.length = c.size := Array.length_toList
        rw [List.length_take, List.length_drop, hcz]
        omega
      obtain ⟨rs, rs1, rs2, rs3⟩ := chunks ks.length (fun r => ∀ (i : Nat) k v, ks[i]? = some k → r[i]? = some v → k.ok v) len cs hcl (by
        intro i hi
        obtain ⟨q, yy, q1, q2, q3⟩ := eachc i (by omega)
        have hq : (cs.drop (i * ks.length)).take ks.length = q := by
          apply List.ext_getElem?
          intro j
          by_cases hj : j < ks.length
          · have hij : i * ks.length + j < len * ks.length := by
              have : (i + 1) * ks.length ≤ len * ks.length := Nat.mul_le_mul_right _ hi
              rw [Nat.add_mul, Nat.one_mul] at this
              omega
            rw [List.getElem?_take, if_pos hj, List.getElem?_drop, ← q2 j hj]
            show ((c.toList.drop a.off).take (len * ks.length))[i * ks.length + j]? = _
            rw [List.getElem?_take, if_pos hij, List.getElem?_drop, Array.getElem?_toList, Nat.add_assoc]
          · rw [List.getElem?_eq_none (by rw [List.length_take]; omega), List.getElem?_eq_none (by omega)]
        rw [hq]
        intro j k v hk1 hv1
        have := leaves_ok d n' e q yy _ hk q3 j (.f k) v (by rw [List.getElem?_map, hk1]; rfl) hv1
        exact this)
      obtain ⟨l, l1, l2⟩ := map_rows rs (fun r hr => ⟨(rs3 r hr).2, (rs3 r hr).1⟩)
      have hlen : l.length = len := by rw [l1, rs1]
      have hrl : (rows Rw.cs l).length = len * ks.length := by rw [rows_len (Rw.encs hp), hlen]
      refine ⟨l, (⟨rows Rw.cs l, false, true⟩, some ⟨a.block, a.off, c.size⟩), fun r => .sl r 0 len ks.length, ⟨rfl, ?_⟩, ?_, by rw [hlen]; exact Nat.le_trans hl (Nat.le_trans hc (by decide)), ?_⟩
      · intro ρ lc hlc
        simp only [Option.some.injEq] at hlc
        subst hlc
        refine ⟨c, elem, fz, hblk, rfl, ?_, ?_, fun h => (by cases h), fun _ => hbl⟩
        · rw [hrl]
          exact Nat.le_trans (Nat.add_le_add_left hlm _) hfit
        · rw [l2, rs2, List.length_map, hcl]
          refine ⟨by rw [List.length_map], ?_⟩
          intro i x z hx hz
          rw [List.getElem?_map] at hx
          have : cs[i]? = some z := hz
          rw [this] at hx
          simp at hx
          subst hx
          exact .sc _
      · intro ρ r hr
        rw [ea]
        have := VR.sl (ρ := ρ) (r := r) (off := 0) (len := len) (sz := ks.length) (cap := cap) (l := ⟨a.block, a.off, c.size⟩) hr hl (by simpa using hfit)
        simpa using this
      · intro r G hG
        exact .inr ⟨r, false, by rw [hlen], hG⟩
    · have hl0 : len = 0 := by omega
      subst hl0
      subst h0
      refine ⟨[], (⟨rows Rw.cs ([] : List (Rw ks)), false, true⟩, some ⟨a.block, 0, c.size⟩), fun r => .sl r 0 0 ks.length, ⟨rfl, ?_⟩, ?_, by simp, ?_⟩
      · intro ρ lc hlc
        simp only [Option.some.injEq] at hlc
        subst hlc
        refine ⟨c, elem, fz, hblk, rfl, by simp [rows], ?_, fun h => (by cases h), fun _ => hbl⟩
        simp only [rows, List.map_nil, List.flatten_nil, List.length_nil, List.take_zero]
        exact LR.nil
      · intro ρ r hr
        rw [ea]
        exact .sl0 hr
      · intro r G hG
        exact .inr ⟨r, false, rfl, hG⟩
/-- What a cell is told to be. -/
def CellSpec (l : Leaf) (v : Value) (x : AV) (g : Reg) (r : Nat) : Prop :=
  match l with
  | .f k => x = .sc v ∧ k.ok v
  | .l _ ks => ∃ q : List (Rw ks), q.length ≤ 9223372036854775807 ∧ ∀ G : AHeap, G[r]? = some g → IsR G x q
theorem open_cells : ∀ (ls : List Leaf) (cs : List Value) (off : Nat), cs.length = ls.length → (∀ (i : Nat) l v, ls[i]? = some l → cs[i]? = some v → LeafOk enc P W 0 (fun _ => true) true l v) →
    (∀ (i : Nat) e ks v, ls[i]? = some (.l e ks) → cs[i]? = some v → ∃ u e2 b0, P.underlying u = some (.slice e2) ∧ Cell.okWide P W .any b0 u v) →
    ∃ (S : List (Reg × Option Loc)) (xs : List AV), S.length = ls.length ∧ (∀ p ∈ S, SlotOk W p) ∧ (∀ ρ : Ren, (∀ i p, S[i]? = some p → ρ (off + i) = p.2) → LR ρ xs cs) ∧
      ∀ (i : Nat) l v, ls[i]? = some l → cs[i]? = some v → ∃ x p, xs[i]? = some x ∧ S[i]? = some p ∧ CellSpec l v x p.1 (off + i)
  | [], cs, off, hl, _, _ => ⟨[], [], rfl, by simp, fun ρ _ => by
      have : cs = [] := by simpa using hl
      subst this
      exact LR.nil, by simp⟩
  | l :: ls, [], off, hl, _, _ => by simp at hl
  | l :: ls, v :: cs, off, hl, h, hw => by
    obtain ⟨S, xs, s1, s2, s3, s4⟩ := open_cells ls cs (off + 1) (by simpa using hl) (fun i l v a b => h (i + 1) l v a b) (fun i e ks v a b => hw (i + 1) e ks v a b)
    have key : ∃ (p : Reg × Option Loc) (x : AV), SlotOk W p ∧ (∀ ρ : Ren, ρ off = p.2 → VR ρ x v) ∧ CellSpec l v x p.1 off := by
      have h0 := h 0 l v rfl rfl
      cases l with
      | f k => exact ⟨(⟨[], false, true⟩, none), .sc v, ⟨rfl, fun _ _ h => by cases h⟩, fun _ _ => .sc _, rfl, h0⟩
      | l e ks =>
        obtain ⟨h1, h2, ⟨d, h3⟩, t, n, y, h4, h5⟩ := h0
        obtain ⟨u, e2, b0, u1, u2⟩ := hw 0 e ks v rfl rfl
        obtain ⟨q, p, x, q1, q2, q4, q3⟩ := slot h4 h1 h2 h3 h5 u1 u2
        exact ⟨p, x off, q1, fun ρ hρ => q2 ρ off hρ, q, q4, fun G hG => q3 off G hG⟩
    obtain ⟨p, x, k1, k2, k3⟩ := key
    refine ⟨p :: S, x :: xs, by simp [s1], ?_, ?_, ?_⟩
    · intro q hq
      rcases List.mem_cons.1 hq with rfl | hq
      · exact k1
      · exact s2 q hq
    · intro ρ hρ
      refine LR.cons (k2 ρ (hρ 0 p rfl)) (s3 ρ fun i q hq => ?_)
      have := hρ (i + 1) q hq
      rwa [show off + (i + 1) = off + 1 + i by omega] at this
    · intro i l' v' hl' hv'
      cases i with
      | zero =>
        simp at hl' hv'
        subst hl' hv'
        exact ⟨x, p, rfl, rfl, k3⟩
      | succ i =>
        obtain ⟨x', p', a1, a2, a3⟩ := s4 i l' v' hl' hv'
        rw [show off + 1 + i = off + (i + 1) by omega] at a3
        exact ⟨x', p', a1, a2, a3⟩
theorem entryS {f : FuncId} {v : Value} {ags : List AV} {H' : AHeap} (S : List (Reg × Option Loc)) (hs : Sound P f ags (S.map (·.1)) (.sc v) H') (cargs : Array Value) (hS : ∀ p ∈ S, SlotOk W p)
    (hA : LR (fun r => (S[r]?).bind (·.2)) ags cargs.toList) (hg : Gl W.heap.size W := by exact Gl.none rfl) : Calls P f cargs W fun e w' => e = .returned v ∧ RowKit.Below W.heap.size W w' := by
  refine entry hs W cargs _ ?_ ?_ hA hg
  · intro r g l hg hr
    rw [List.getElem?_map] at hg
    cases hp : S[r]? with
    | none => simp [hp] at hg
    | some p =>
      simp only [hp, Option.map_some, Option.some.injEq] at hg
      simp only [hp, Option.bind_some] at hr
      subst hg
      obtain ⟨o1, o2⟩ := hS p (List.mem_of_getElem? hp)
      exact ⟨o2 _ l hr, o1⟩
  · intro r l hr
    cases hp : S[r]? with
    | none => simp [hp] at hr
    | some p => exact ⟨p.1, by rw [List.getElem?_map, hp]; rfl⟩
def slicesPos (P : Program) : Bool := (List.range P.types.size).all fun t => match P.underlying t with | some (.slice e) => decide (0 < P.cellsOf e) | _ => true
/-- What was given is as it was. -/
theorem trodAll_stays {W' : World} {sp' : Nat → Bool} (h1 : laidOutB P = true) (h2 : mapsRowed P = true) (h3 : slicesPos P = true) (bel : RowKit.Below W.heap.size W W') (hsp : ∀ b, b < W.heap.size → sp' b = true) : ∀ {ts : List TypeId} {vs : List Value} {ds : List (DataW H)} {ps : List MemPlace}, (∀ t ∈ ts, t < P.types.size) → DataW.TrodAll enc P W base (fun _ => true) true ts vs ds ps → DataW.TrodAll enc P W' base sp' true ts vs ds ps
  | [], [], [], _, _, h => h
  | t :: _, _ :: _, _ :: _, _, hts, ⟨a, b, ⟨n, h4⟩, h5, e⟩ => by
    have hlt := DataW.trod_lt n _ _ _ h4
    refine ⟨a, b, ⟨n, DataW.trod_stays (kids_rows h1 h2) (fun {t e} ht hu => ?_) (fun h => by cases h) (hts t (by simp)) h4 (fun p hp => ?_) fun p hp => hsp _ (hlt p hp)⟩, trodAll_stays h1 h2 h3 bel hsp (fun t ht => hts t (by simp [ht])) h5, e⟩
    · have := List.all_eq_true.1 h3 t (List.mem_range.2 ht)
      rw [hu] at this
      simpa using this
    · have hl := hlt p hp
      cases p with
      | cell b off =>
        show W'.cell? ⟨b, off, none⟩ = W.cell? ⟨b, off, none⟩
        simp only [World.cell?, bel.block b hl]
      | map b => exact bel.block b hl
/-- The cells of a struct that is given. -/
theorem row_wide {t : TypeId} {cs : Array Value} {b0 : Nat} {r : Reach} (ts : List TypeId) (hts : P.cellTypes P.depth t = some ts) (h : Row.okWide P W r b0 t cs) (hn : cs.size = ts.length) : ∀ (i : Nat) v, cs[i]? = some v → ∃ u, ts[i]? = some u ∧ Cell.okWide P W r b0 u v := by
  obtain ⟨ts', h1, _, h3⟩ := h
  rw [hts] at h1
  simp only [Option.some.injEq] at h1
  subst h1
  intro i v hv
  obtain ⟨u, u1, u2⟩ := h3 i v hv
  have hi := (Array.getElem?_eq_some_iff.1 hv).1
  rw [Nat.mod_eq_of_lt (by omega)] at u1
  exact ⟨u, u1, u2⟩
def wideB (P : Program) (t : TypeId) (ls : List Leaf) : Bool :=
  match P.cellTypes P.depth t with
  | some ts => ts.length == ls.length && P.cellsOf t == ls.length && (List.range ls.length).all fun i => match ls[i]? with
    | some (.l _ _) => (match ts[i]? with
      | some u => (match P.underlying u with | some (.slice _) => true | _ => false)
      | none => false)
    | _ => true
  | none => false
theorem range_getD {α : Type} (d : α) (xs : List α) : xs = (List.range xs.length).map fun i => xs.getD i d := by
  apply List.ext_getElem (by simp)
  intro i h1 h2
  simp [h1]
def noSlot : Reg × Option Loc := (⟨[], false, true⟩, none)
theorem noSlot_ok : SlotOk W noSlot := ⟨rfl, fun _ _ h => by cases h⟩
/-- A struct that is given. -/
theorem open_struct {t : TypeId} {fs : Array Field} {v : Value} {d : DataW H} {p : List MemPlace} {b0 : Nat} (ls : List Leaf) (D : Nat) (ht : P.underlying t = some (.struct fs)) (hl : leaves P D t = some ls) (hw : wideB P t ls = true)
    (hv : Value.okWide P W .any b0 t v) (h : DataW.Trod enc P W 0 (fun _ => true) true t v d p) (off : Nat) :
    ∃ (X : Nat → AV) (G : Nat → Reg × Option Loc), (∀ i, SlotOk W (G i)) ∧ (∀ ρ : Ren, (∀ i, i < ls.length → ρ (off + i) = (G i).2) → VR ρ (.agg ((List.range ls.length).map X)) v) ∧ ∀ (i : Nat) l, ls[i]? = some l → ∃ v, CellSpec l v (X i) (G i).1 (off + i) := by
  unfold Value.okWide at hv
  simp only [ht] at hv
  obtain ⟨cs, rfl, hsz, hrow⟩ := hv
  unfold wideB at hw
  cases hts : P.cellTypes P.depth t with
  | none => simp [hts] at hw
  | some ts =>
    simp only [hts, Bool.and_eq_true, beq_iff_eq] at hw
    obtain ⟨⟨w1, w2⟩, w3⟩ := hw
    obtain ⟨n, hn⟩ := h
    have hcs : (Value.agg cs).cells.toList = cs.toList := rfl
    rw [hcs] at hn
    have hcl : cs.toList.length = ls.length := by rw [← w2, ← hsz]; exact Array.length_toList
    have hrw := row_wide ts hts hrow (by rw [hsz, w2, w1])
    obtain ⟨S, xs, s1, s2, s3, s4⟩ := open_cells ls cs.toList off hcl (leaves_ok D n t cs.toList _ ls hl hn) (fun i e ks v hi hvi => by
      rw [Array.getElem?_toList] at hvi
      obtain ⟨u, u1, u2⟩ := hrw i v hvi
      have hil := (List.getElem?_eq_some_iff.1 hi).1
      have := List.all_eq_true.1 w3 i (List.mem_range.2 hil)
      simp only [hi, u1] at this
      cases hu : P.underlying u with
      | none => simp [hu] at this
      | some D =>
        cases D with
        | slice e2 => exact ⟨u, e2, b0, hu, u2⟩
        | _ => simp [hu] at this)
    have hG : ∀ i, i < ls.length → S[i]? = some ((S[i]?).getD noSlot) := fun i hi => by rw [List.getElem?_eq_getElem (by omega)]; rfl
    have hxl : xs.length = ls.length := by
      have := (s3 (fun r => ((S[r - off]?).getD noSlot).2) (fun i p hp => by simp only [Nat.add_sub_cancel_left, hp]; rfl)).1
      rw [this, hcl]
    refine ⟨fun i => xs.getD i und, fun i => (S[i]?).getD noSlot, fun i => ?_, fun ρ hρ => ?_, fun i l hi => ?_⟩
    · cases hp : S[i]? with
      | none =>
        simp only [hp, Option.getD_none]
        exact noSlot_ok
      | some p =>
        simp only [hp, Option.getD_some]
        exact s2 p (List.mem_of_getElem? hp)
    · have := s3 ρ (fun i p hp => by
        have := hρ i (by rw [← s1]; exact (List.getElem?_eq_some_iff.1 hp).1)
        simp only [hp, Option.getD_some] at this
        exact this)
      rw [← hxl, ← range_getD]
      exact .agg (this.1.trans (Array.length_toList)) (fun i a v ha hv => this.2 i a v ha hv)
    · have hil := (List.getElem?_eq_some_iff.1 hi).1
      obtain ⟨x, p, a1, a2, a3⟩ := s4 i l cs.toList[i] hi (List.getElem?_eq_getElem (by omega))
      refine ⟨cs.toList[i], ?_⟩
      simp only [a2, Option.getD_some, List.getD_eq_getElem?_getD, a1]
      exact a3
/-- A slice, a number, a text that is given. -/
theorem open_one {t : TypeId} {v : Value} {d : DataW H} {p : List MemPlace} {b0 : Nat} (l : Leaf) (D : Nat) (hl : leaves P D t = some [l]) (hv : Value.okWide P W .any b0 t v) (hcw : ∀ e ks, l = .l e ks → ∃ e2, P.underlying t = some (.slice e2))
    (hvc : v.cells.toList = [v]) (h : DataW.Trod enc P W 0 (fun _ => true) true t v d p) (off : Nat) :
    ∃ (X : AV) (G : Reg × Option Loc), SlotOk W G ∧ (∀ ρ : Ren, ρ off = G.2 → VR ρ X v) ∧ CellSpec l v X G.1 off := by
  obtain ⟨n, hn⟩ := h
  rw [hvc] at hn
  obtain ⟨S, xs, s1, s2, s3, s4⟩ := open_cells [l] [v] off rfl (leaves_ok D n t [v] _ [l] hl hn) (fun i e ks u hi hvi => by
    cases i with
    | zero =>
      simp at hi hvi
      subst hi hvi
      obtain ⟨e2, he⟩ := hcw e ks rfl
      refine ⟨t, e2, b0, he, ?_⟩
      unfold Value.okWide at hv
      simpa only [he] using hv
    | succ i => simp at hi)
  obtain ⟨x, p, a1, a2, a3⟩ := s4 0 l v rfl rfl
  refine ⟨x, p, s2 p (List.mem_of_getElem? a2), fun ρ hρ => ?_, a3⟩
  have := s3 ρ (fun i q hq => by
    have hi := (List.getElem?_eq_some_iff.1 hq).1
    rw [s1] at hi
    obtain rfl : i = 0 := by simpa using hi
    rw [a2] at hq
    simp only [Option.some.injEq] at hq
    rw [← hq]
    exact hρ)
  exact this.2 0 x v a1 rfl
theorem slot_at (A B : List (Reg × Option Loc)) (n : Nat) (G : Nat → Reg × Option Loc) (off i : Nat) (hA : A.length = off) (hi : i < n) : ((A ++ ((List.range n).map G ++ B))[off + i]?).bind (·.2) = (G i).2 := by
  subst hA
  rw [List.getElem?_append_right (by omega), Nat.add_sub_cancel_left, List.getElem?_append_left (by simpa using hi), List.getElem?_map, List.getElem?_range hi]
  rfl
theorem slots_ok {n : Nat} {G : Nat → Reg × Option Loc} (h : ∀ i, SlotOk W (G i)) {B : List (Reg × Option Loc)} (hB : ∀ p ∈ B, SlotOk W p) : ∀ p ∈ (List.range n).map G ++ B, SlotOk W p := by
  intro p hp
  rcases List.mem_append.1 hp with hp | hp
  · obtain ⟨i, _, rfl⟩ := List.mem_map.1 hp
    exact h i
  · exact hB p hp
theorem slots_nil : ∀ p ∈ ([] : List (Reg × Option Loc)), SlotOk W p := fun p hp => by cases hp
/-- Rows of one number, of one truth. -/
def Rw.int1 {k : IntKind} (r : Rw [.i k]) : Int := match r.val with | [.int _ n] => n | _ => 0
def Rw.bool1 (r : Rw [.b]) : Bool := match r.val with | [.bool b] => b | _ => false
theorem rows_int1 {k : IntKind} : ∀ l : List (Rw [.i k]), rows Rw.cs l = ints k (l.map Rw.int1)
  | [] => rfl
  | ⟨r, h1, h2⟩ :: l => by
    rw [rows_cons, rows_int1 l]
    match r, h1, h2 with
    | [v], h1, h2 =>
      obtain ⟨n, rfl, _⟩ := h2 0 (.i k) v rfl rfl
      rfl
theorem rows_bool1 : ∀ l : List (Rw [.b]), rows Rw.cs l = bools (l.map Rw.bool1)
  | [] => rfl
  | ⟨r, h1, h2⟩ :: l => by
    rw [rows_cons, rows_bool1 l]
    match r, h1, h2 with
    | [v], h1, h2 =>
      obtain ⟨n, rfl⟩ := h2 0 .b v rfl rfl
      rfl
theorem IsR.ints {k : IntKind} {G : AHeap} {x : AV} {l : List (Rw [.i k])} (h : IsR G x l) : IsL G x k (l.map Rw.int1) := by
  rcases h with ⟨rfl, rfl⟩ | ⟨r, own, rfl, h⟩
  · exact .nil _ _
  · rw [rows_int1] at h
    exact .at h (by simp)
theorem IsR.bools {G : AHeap} {x : AV} {l : List (Rw [.b])} (h : IsR G x l) : IsB G x (l.map Rw.bool1) := by
  rcases h with ⟨rfl, rfl⟩ | ⟨r, own, rfl, h⟩
  · exact .nil _
  · rw [rows_bool1] at h
    exact .at h (by simp)
end
end Go.Proofs.YtfgmmklljibbiaaDoor.Sim

