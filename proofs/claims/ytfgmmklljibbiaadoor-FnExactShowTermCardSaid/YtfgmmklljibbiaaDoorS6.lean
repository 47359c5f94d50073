/- Memory: making. -/
import Derived.Test.YtfgmmklljibbiaaDoorS5
namespace Go.Proofs.YtfgmmklljibbiaaDoor.Sim
open Go
set_option linter.unusedSimpArgs false
set_option linter.unusedVariables false
structure Made (w w' : World) (c : Array Value) (e : TypeId) (fz : Nat × Nat) : Prop where
  os : w'.os = w.os
  tape : w'.tape = w.tape
  output : w'.output = w.output
  size : w'.heap.size = w.heap.size + 1
  old : ∀ b, b < w.heap.size → w'.heap[b]? = w.heap[b]?
  new : w'.heap[w.heap.size]? = some (.cells c e fz)
theorem made_alloc (w : World) (c : Array Value) (e : TypeId) : Made w (w.alloc (.cells c e)) c e (0, 0) :=
  ⟨rfl, rfl, rfl, by simp, fun b hb => RowKit.Below.heap_alloc w _ b hb, heap_alloc_new w _⟩
theorem made_drew {w w' : World} {c : Array Value} {e : TypeId} {fz : Nat × Nat} (h : Made w.drew w' c e fz) : Made w w' c e fz := ⟨h.os, h.tape, h.output, h.size, h.old, h.new⟩
theorem hf_snoc (H : AHeap) (g : Reg) : hf (H ++ [g]) = fun r => if r = H.length then some g else hf H r := by
  funext r
  simp only [hf]
  by_cases hr : r = H.length
  · subst hr; simp
  · rw [if_neg hr]
    rcases Nat.lt_or_ge r H.length with hl | hl
    · rw [List.getElem?_append_left hl]
    · rw [List.getElem?_eq_none (by simp; omega), List.getElem?_eq_none (by omega)]
theorem rel_made {ρ : Ren} {base : Nat} {h : Nat → Option Reg} {w w' : World} {c : Array Value} {e : TypeId} {fz : Nat × Nat} {cs : List AV} {id M N : Nat} (hR : Rel M ρ base h w) (hm : Made w w' c e fz) (hρ : ρ id = none) (hid : h id = none ∨ h id = some ⟨cs, true, true⟩) (hM : id < M) (hN : N ≤ id)
    (hl : cs.length ≤ c.size) (hc : LR ρ cs (c.toList.take cs.length)) (hz : ∀ i, i < c.size → ¬(fz.1 ≤ i ∧ i < fz.2)) :
    Rel M (fun r => if r = id then some ⟨w.heap.size, 0, c.size⟩ else ρ r) base (fun r => if r = id then some ⟨cs, true, true⟩ else h r) w' ∧
    Grow M N ρ h w (fun r => if r = id then some ⟨w.heap.size, 0, c.size⟩ else ρ r) (fun r => if r = id then some ⟨cs, true, true⟩ else h r) w' := by
  have ext : ∀ r l, ρ r = some l → (fun r => if r = id then some (⟨w.heap.size, 0, c.size⟩ : Loc) else ρ r) r = some l := by
    intro r l hr
    have : r ≠ id := by rintro rfl; rw [hρ] at hr; cases hr
    simp only [if_neg this, hr]
  have fresh : ∀ r l, ρ r = some l → l.b ≠ w.heap.size := fun r l hr => Nat.ne_of_lt (hR.lt r l hr)
  refine ⟨⟨⟨by rw [hm.size]; have := hR.bs.1; omega, hR.bs.2.keep fun b hb => hm.old b (Nat.lt_of_lt_of_le hb hR.bs.1)⟩, ?_, ?_, ?_, ?_, ?_⟩, hm.os, hm.tape, hm.output, by rw [hm.size]; omega, fun b hb _ => hm.old b hb, ext, ?_, ?_, ?_, ?_, ?_⟩
  · intro r l hr
    try simp only at hr
    split at hr
    · injection hr with hr; subst hr; rw [hm.size]; exact Nat.lt_succ_self _
    · have := hR.lt r l hr; rw [hm.size]; omega
  · intro r l hr
    try simp only at hr ⊢
    split at hr
    · rename_i e; rw [if_pos e]; exact .inl ⟨_, rfl⟩
    · rename_i e; rw [if_neg e]; exact hR.dom r l hr
  · intro r g hg
    by_cases e : r = id
    · rw [e]; exact hM
    · simp only [if_neg e] at hg; exact hR.top r g hg
  · intro r g l hg hlive hr
    try simp only at hg hr
    split at hr
    · rename_i he
      rw [if_pos he] at hg
      injection hg with hg; subst hg
      injection hr with hr; subst hr
      refine ⟨c, e, fz, hm.new, rfl, by simpa using hl, ?_, fun _ => ⟨rfl, hR.bs.1, hz⟩, fun k => by cases k⟩
      simpa using hc.mono ext
    · rename_i he
      rw [if_neg he] at hg
      exact (hR.reg r g l hg hlive hr).mono ext (hm.old _ (hR.lt r l hr))
  · intro r1 r2 g1 g2 l1 l2 h1 h2 e1 e2 o1 o2 p1 p2 hb
    try simp only at h1 h2 p1 p2
    split at p1
    · rename_i k1
      split at p2
      · rename_i k2; rw [k1, k2]
      · rename_i k2
        injection p1 with p1; subst p1
        exact absurd hb.symm (fresh r2 l2 p2)
    · rename_i k1
      split at p2
      · rename_i k2
        injection p2 with p2; subst p2
        exact absurd hb (fresh r1 l1 p1)
      · rename_i k2
        rw [if_neg k1] at h1
        rw [if_neg k2] at h2
        exact hR.inj r1 r2 g1 g2 l1 l2 h1 h2 e1 e2 o1 o2 p1 p2 hb
  · intro r g hlt hg hr
    have : r ≠ id := by omega
    simp only [if_neg this]
    exact ⟨hr, trivial⟩
  · intro r l hr hn
    try simp only at hr
    split at hr
    · injection hr with hr; subst hr; exact .inl (Nat.le_refl _)
    · rw [hn] at hr; cases hr
  · intro r g g' hg hg' hl'
    by_cases e : r = id
    · subst e
      simp only [if_true, Option.some.injEq] at hg'
      subst hg'
      rcases hid with k | k
      · rw [k] at hg; cases hg
      · rw [k] at hg; injection hg with hg; subst hg; exact ⟨rfl, rfl⟩
    · simp only [if_neg e] at hg'
      rw [hg] at hg'
      injection hg' with hg'
      subst hg'
      exact ⟨hl', rfl⟩
  · intro r g hg
    by_cases e : r = id
    · exact ⟨_, if_pos e⟩
    · exact ⟨g, by simp only [if_neg e]; exact hg⟩
  · intro r hr
    exact if_neg (by omega)
theorem flat_get {α : Type} (zs : List α) : ∀ (n i : Nat), i < n * zs.length → (List.replicate n zs).flatten[i]? = zs[i % zs.length]? := by
  intro n
  induction n with
  | zero => intro i hi; omega
  | succ n ih =>
    intro i hi
    rw [List.replicate_succ, List.flatten_cons]
    rcases Nat.lt_or_ge i zs.length with hl | hl
    · rw [List.getElem?_append_left hl, Nat.mod_eq_of_lt hl]
    · rw [List.getElem?_append_right hl, ih _ (by rw [Nat.succ_mul] at hi; omega), ← Nat.mod_eq_sub_mod hl]
theorem range_flat (zs : Array Value) (n : Nat) : ((Array.range (n * zs.size)).map (zs[· % zs.size]!)).toList = (List.replicate n zs.toList).flatten := by
  apply List.ext_getElem?
  intro i
  by_cases hi : i < n * zs.size
  · rw [flat_get zs.toList n i (by simpa using hi)]
    have hz : 0 < zs.size := by
      rcases Nat.eq_zero_or_pos zs.size with h | h
      · rw [h] at hi; omega
      · exact h
    have hm := Nat.mod_lt i hz
    rw [Array.toList_map, List.getElem?_map, Array.toList_range, List.getElem?_range hi]
    simp [hm]
  · rw [List.getElem?_eq_none (by simp; omega), List.getElem?_eq_none (by simp; omega)]
theorem map_range0 {α : Type} (f : Nat → α) : (Array.range 0).map f = #[] := by apply Array.ext'; simp
section
variable {P : Program} {ρ : Ren} {ts : List AV} {A : Act}
theorem zeroA_inv {t : TypeId} {z : List AV} (hz : zeroA P t = some z) : ∃ i zv, P.info? t = some i ∧ i.zero = some zv ∧ LR ρ z zv.cells.toList := by
  unfold zeroA at hz
  simp only [Option.map_eq_some_iff, Option.bind_eq_some_iff] at hz
  obtain ⟨zv, ⟨i, hi, hzv⟩, rfl⟩ := hz
  refine ⟨i, zv, hi, hzv, (VR.ofV zv).cells⟩
/-- What making yields. -/
def Ya (P : Program) (ρ : Ren) (A : Act) (o : Oper) (cs : List AV) (mk : Nat → AV) : Prop := ∀ w : World, ∃ cv w' c e fz, (execOp A.eval o).run P w = .ok (.value cv) w' ∧ Made w w' c e fz ∧ cs.length ≤ c.size ∧ LR ρ cs (c.toList.take cs.length) ∧
  (∀ i, i < c.size → ¬(fz.1 ≤ i ∧ i < fz.2)) ∧ ∀ (ρ' : Ren) (r : Nat), ρ' r = some ⟨w.heap.size, 0, c.size⟩ → VR ρ' (mk r) cv
theorem LR.self {as : List AV} {c : Array Value} (h : LR ρ as c.toList) : as.length ≤ c.size ∧ LR ρ as (c.toList.take as.length) := by
  have hk : as.length = c.size := by simpa using h.1
  refine ⟨by omega, ?_⟩
  rw [List.take_of_length_le (by simp; omega)]
  exact h
theorem evAlloc_sound {o : Oper} {cs : List AV} {mk : Nat → AV} (ht : LR ρ ts A.tmps.toList) (hv : evAlloc P ts o.op = some (cs, mk)) : Ya P ρ A o cs mk := by
  intro w
  cases hop : o.op
  case alloc t =>
    rw [hop] at hv
    simp only [evAlloc, Option.map_eq_some_iff, Prod.mk.injEq] at hv
    obtain ⟨z, hz, rfl, rfl⟩ := hv
    obtain ⟨i, zv, hi, hzv, hr⟩ := zeroA_inv (ρ := ρ) hz
    unfold execOp
    rw [hop]
    refine ⟨.pointer (some ⟨w.heap.size, 0, none⟩), _, zv.cells, t, (0, 0), ?_, made_alloc w zv.cells t, hr.self.1, hr.self.2, by intro i hi; simp, ?_⟩
    · simp [Instr.alloc, zeroValue, typeInfo, hi, hzv, newVar, newRow]
    · intro ρ' r hr'
      have := VR.ptr (ρ := ρ') (off := 0) hr'
      simpa using this
  case box t x =>
    rw [hop] at hv
    simp only [evAlloc, Option.some.injEq, Prod.mk.injEq] at hv
    obtain ⟨rfl, rfl⟩ := hv
    unfold execOp
    rw [hop]
    have hr := (VR.eval ht x).cells
    refine ⟨.pointer (some ⟨w.heap.size, 0, none⟩), _, (A.eval x).cells, t, (0, 0), ?_, made_alloc w (A.eval x).cells t, hr.self.1, hr.self.2, by intro i hi; simp, ?_⟩
    · simp [Instr.box, newVar, newRow]
    · intro ρ' r hr'
      have := VR.ptr (ρ := ρ') (off := 0) hr'
      simpa using this
  case buildSlice t len parts =>
    rw [hop] at hv
    simp only [evAlloc] at hv
    unfold execOp
    rw [hop]
    simp only
    split at hv
    · rename_i e hu
      split at hv
      · rename_i z hz
        split at hv
        · rename_i hh
          obtain ⟨hty, hs0, hzl, hbig⟩ := hh
          simp only [Option.map_eq_some_iff, Prod.mk.injEq] at hv
          obtain ⟨cs', hfill, rfl, rfl⟩ := hv
          obtain ⟨i, zv, hi, hzv, hr⟩ := zeroA_inv (ρ := ρ) hz
          obtain ⟨hpl, hpr⟩ := parts_rel ht parts
          have hzs : zv.cells.size = P.cellsOf e := by rw [← hzl, hr.1, Array.length_toList]
          have hbase : LR ρ (List.replicate len z).flatten ((Array.range (len * P.cellsOf e)).map (zv.cells[· % zv.cells.size]!)).toList := by
            rw [← hzs, range_flat]
            exact hr.replicate len
          obtain ⟨vs', h2, h3⟩ := run_fill _ _ _ _ _ hpl hpr hbase hfill
          refine ⟨.slice (some ⟨w.heap.size, 0, none⟩) len len, _, vs', e, (0, 0), ?_, made_alloc w vs' e, h3.self.1, h3.self.2, by intro i hi; simp, ?_⟩
          · have hnb : ¬ (len * P.cellsOf e > 2 ^ 24) := by omega
            by_cases h0 : len * P.cellsOf e = 0
            · have hl0 : len = 0 := by
                rcases Nat.mul_eq_zero.1 h0 with h | h
                · exact h
                · omega
              subst hl0
              have h2' : Instr.fill (fun i => some (i * P.cellsOf e, P.cellsOf e)) #[] (parts.map fun x => (x.1, A.eval x.2)).toList = some vs' := by
                rw [← h2]
                congr 1
                simp
              simp only [Instr.buildSlice, Sem.run_bind, run_underlying hu, Result.andThen_ok, run_sizeOf hty, Nat.zero_mul]
              simp [newRow]
              have h2q := h2'
              simp only [Array.toList_map] at h2q
              simp [map_range0, h2q]
            · simp only [Instr.buildSlice, Sem.run_bind, run_underlying hu, Result.andThen_ok, run_sizeOf hty, if_neg hnb, Sem.run_pure, if_neg h0, zeroValue, typeInfo, run_program, hi, hzv]
              have h2q := h2
              simp only [Array.toList_map] at h2q
              simp [newRow, h2q]
          · intro ρ' r hr'
            have hlen : len * P.cellsOf e ≤ vs'.size := by
              have h4 : cs'.length = vs'.size := by simpa using h3.1
              have h5 : cs'.length = (List.replicate len z).flatten.length := by
                have : ∀ (ps : List (Nat × AV)) (a b : List AV), fillA (fun i => some (i * P.cellsOf e, P.cellsOf e)) a ps = some b → b.length = a.length := by
                  intro ps
                  induction ps with
                  | nil => intro a b hab; simp only [fillA, Option.some.injEq] at hab; rw [hab]
                  | cons p ps ih =>
                    intro a b hab
                    simp only [fillA] at hab
                    split at hab
                    · rename_i hc
                      rw [ih _ _ hab]
                      simp only [overA, List.length_append, List.length_take, List.length_drop]
                      omega
                    · cases hab
                exact this _ _ _ hfill
              have h6 : (List.replicate len z).flatten.length = len * P.cellsOf e := by simp [hzl]
              omega
            have := VR.sl (ρ := ρ') (off := 0) (len := len) (sz := P.cellsOf e) (cap := len) hr' (Nat.le_refl _) (by simpa using hlen)
            simpa using this
        · cases hv
      · cases hv
    · cases hv
  case makeSlice t l c =>
    rw [hop] at hv
    simp only [evAlloc] at hv
    unfold execOp
    rw [hop]
    simp only
    split at hv
    · rename_i e kk n k2 m hu hl hc
      split at hv
      · rename_i i z hi hz
        split at hv
        · rename_i hh
          obtain ⟨h0, hnm, hbn, hbytes, hs0, hzl⟩ := hh
          subst hnm
          simp only [Option.some.injEq, Prod.mk.injEq] at hv
          obtain ⟨rfl, rfl⟩ := hv
          obtain ⟨i', zv, hi', hzv, hr⟩ := zeroA_inv (ρ := ρ) hz
          rw [hi] at hi'
          injection hi' with hi'
          subst hi'
          rw [sc_ev ht hl, sc_ev ht hc]
          have hzs : zv.cells.size = P.cellsOf e := by rw [← hzl, hr.1, Array.length_toList]
          have hcell : P.cellsOf e = i.size := by simp [Program.cellsOf, hi]
          have hw : IntKind.i64.wrap n = n := by rw [IntKind.wrap_i64]; omega
          have hLR : LR ρ (List.replicate n.toNat z).flatten ((Array.range (n.toNat * P.cellsOf e)).map (zv.cells[· % zv.cells.size]!)).toList := by
            rw [← hzs, range_flat]
            exact hr.replicate n.toNat
          refine ⟨.slice (some ⟨w.heap.size, 0, none⟩) n.toNat n.toNat, _, (Array.range (n.toNat * P.cellsOf e)).map (zv.cells[· % zv.cells.size]!), e, (0, 0), ?_, made_alloc w _ e, hLR.self.1, hLR.self.2, by intro i hi; simp, ?_⟩
          · have hb2 : ¬ (281474976710656 < (i.bytes : Int) * n) := by omega
            have hn0 : ¬ (n < 0) := by omega
            by_cases hz0 : n.toNat * i.size = 0
            · have : n.toNat = 0 := by
                rcases Nat.mul_eq_zero.1 hz0 with h | h
                · exact h
                · omega
              simp [Instr.makeSlice, run_underlying hu, asInt, asIntOf, typeInfo, hi, hw, hb2, hn0, sizeOf, this, newRow, map_range0]
            · simp [Instr.makeSlice, run_underlying hu, asInt, asIntOf, typeInfo, hi, hw, hb2, hn0, sizeOf, newRow, hz0, zeroValue, hzv, hcell]
          · intro ρ' r hr'
            have := VR.sl (ρ := ρ') (off := 0) (len := n.toNat) (sz := P.cellsOf e) (cap := n.toNat) hr' (Nat.le_refl _) (by simp)
            simpa using this
        · cases hv
      · cases hv
    · cases hv
  case convert s d x =>
    rw [hop] at hv
    simp only [evAlloc] at hv
    unfold execOp
    rw [hop]
    simp only
    split at hv
    · rename_i u e z hs hd hx
      split at hv
      · rename_i hh
        obtain ⟨h1, h2⟩ := hh
        simp only [Option.some.injEq, Prod.mk.injEq] at hv
        obtain ⟨rfl, rfl⟩ := hv
        rw [sc_ev ht hx]
        have hrun := Lib.run_convert_string_bytes (P := P) w s d e z hs hd (isU8_run h1)
        have hcap := grownCap_ge w z.size 0 e
        have hsz : (Lib.bytesCells w e z).size = grownCap w z.size 0 e := by
          simp only [Lib.bytesCells, Array.size_append, Array.size_map, Array.size_replicate]
          have : z.data.size = z.size := rfl
          omega
        have hLR : LR ρ (z.data.toList.map fun b => AV.sc (.int .u8 b.toNat)) ((Lib.bytesCells w e z).toList.take (z.data.toList.map fun b => AV.sc (.int .u8 b.toNat)).length) := by
          simp only [Lib.bytesCells, Array.toList_append, Array.toList_map, List.length_map]
          rw [List.take_append_of_le_length (by simp), List.take_of_length_le (by simp)]
          exact LR.map (fun b : UInt8 => Value.int .u8 b.toNat) _
        have hln : (z.data.toList.map fun b => AV.sc (.int .u8 b.toNat)).length = z.size := by rw [List.length_map, Array.length_toList]; rfl
        refine ⟨.slice (some ⟨w.heap.size, 0, none⟩) z.size (grownCap w z.size 0 e), Lib.bytesWorld w e z, Lib.bytesCells w e z, e, ((Lib.bytesCells w e z).size, (Lib.bytesCells w e z).size + 1), ?_, ?_, by rw [hln, hsz]; exact hcap, hLR, ?_, ?_⟩
        · simp [hrun]
        · exact ⟨rfl, rfl, rfl, Lib.bytesWorld_size w e z, fun b hb => Lib.bytesWorld_at_old w e z b hb, Lib.bytesWorld_at_new w e z⟩
        · intro i hi hh
          try simp only at hh
          omega
        · intro ρ' r hr'
          have := VR.sl (ρ := ρ') (off := 0) (len := z.size) (sz := 1) (cap := grownCap w z.size 0 e) hr' hcap (by simp [hsz])
          simpa using this
      · cases hv
    · cases hv
  all_goals (rw [hop] at hv; simp [evAlloc] at hv)
end
end Go.Proofs.YtfgmmklljibbiaaDoor.Sim

