/- The operations that look into no memory, one by one. -/
import Derived.Test.YtfgmmklljibbiaaDoorS3
namespace Go.Proofs.YtfgmmklljibbiaaDoor.Sim
open Go
set_option linter.unusedSimpArgs false
set_option linter.unusedVariables false
section
variable {P : Program} {ρ : Ren} {ts : List AV} {A : Act}
/-- The machine's yield is related. -/
def Yv (P : Program) (ρ : Ren) (A : Act) (o : Oper) (v : AV) : Prop := ∀ w : World, ∃ cv, (execOp A.eval o).run P w = .ok (.value cv) w ∧ VR ρ v cv
theorem sc_ev {x : Operand} {v : Value} (ht : LR ρ ts A.tmps.toList) (h : ev ts x = .sc v) : A.eval x = v := by
  have := VR.eval ht x; rw [h] at this; exact this.sc_inv
theorem ptr_ev {x : Operand} {r off : Nat} (ht : LR ρ ts A.tmps.toList) (h : ev ts x = .ptr r off) : ∃ l, ρ r = some l ∧ A.eval x = .pointer (some ⟨l.b, l.o + off, none⟩) := by
  have := VR.eval ht x; rw [h] at this; exact this.ptr_inv
theorem agg_ev {x : Operand} {cs : List AV} (ht : LR ρ ts A.tmps.toList) (h : ev ts x = .agg cs) : ∃ vs : Array Value, A.eval x = .agg vs ∧ LR ρ cs vs.toList := by
  have := VR.eval ht x; rw [h] at this; exact this.agg_inv
theorem tup_ev {x : Operand} {cs : List AV} (ht : LR ρ ts A.tmps.toList) (h : ev ts x = .tup cs) : ∃ vs : Array Value, A.eval x = .tuple vs ∧ LR ρ cs vs.toList := by
  have := VR.eval ht x; rw [h] at this; exact this.tup_inv
theorem sl_ev {x : Operand} {r off len sz : Nat} (ht : LR ρ ts A.tmps.toList) (h : ev ts x = .sl r off len sz) : ∃ l, ρ r = some l ∧ ((∃ cap, len ≤ cap ∧ l.o + off + cap * sz ≤ l.n ∧ A.eval x = .slice (some ⟨l.b, l.o + off, none⟩) len cap) ∨ (len = 0 ∧ ∃ z, A.eval x = .slice (some ⟨l.b, z, none⟩) 0 0)) := by
  have h2 := VR.eval ht x
  rw [h] at h2
  generalize A.eval x = u at h2
  cases h2
  case sl h1 h3 h4 => exact ⟨_, h1, .inl ⟨_, h3, h4, rfl⟩⟩
  case sl0 h1 => exact ⟨_, h1, .inr ⟨rfl, _, rfl⟩⟩

theorem y_move {o : Oper} {x : Operand} {v : AV} (ho : o.op = .move x ∨ o.op = .assign x) (ht : LR ρ ts A.tmps.toList) (h : ev ts x = v) : Yv P ρ A o v := by
  intro w
  subst h
  refine ⟨A.eval x, ?_, .eval ht x⟩
  unfold execOp
  rcases ho with ho | ho <;> rw [ho] <;> rfl
theorem y_pick {o : Oper} {c a b : Operand} {v : AV} (ho : o.op = .pick c a b) (ht : LR ρ ts A.tmps.toList) (h : evPure P ts o.op = some v) : Yv P ρ A o v := by
  intro w
  rw [ho] at h
  simp only [evPure] at h
  split at h
  · rename_i t hc
    have e := sc_ev ht hc
    injection h with h
    unfold execOp
    rw [ho]
    simp only [e, asBool, pure_bind]
    refine ⟨_, rfl, ?_⟩
    subst h
    cases t <;> exact .eval ht _
  · cases h
theorem y_nilCheck {o : Oper} {x : Operand} {v : AV} (ho : o.op = .nilCheck x) (ht : LR ρ ts A.tmps.toList) (h : evPure P ts o.op = some v) : Yv P ρ A o v := by
  intro w
  rw [ho] at h
  simp only [evPure] at h
  split at h
  · rename_i r off hc
    obtain ⟨l, hl, e⟩ := ptr_ev ht hc
    injection h with h
    subst h
    unfold execOp
    rw [ho]
    simp only [e]
    exact ⟨_, rfl, .ptr hl⟩
  · cases h
theorem run_eq1 (d : Nat) {t : TypeId} {a b : AV} {x y : Value} (hx : VR ρ a x) (hy : VR ρ b y) {r : Bool} (h : eq1 P t a b = some r) (w : World) : (Op.equalIn (d + 1) t x y).run P w = .ok r w := by
  unfold eq1 at h
  split at h
  · rename_i ht
    split at h
    · rename_i hk
      subst hk
      cases hx; cases hy
      injection h with h; subst h
      exact run_equalIn_int w d t _ _ _ _ ht
    · cases h
  · rename_i ht
    cases hx; cases hy
    injection h with h; subst h
    exact run_equalIn_bool' w d t _ _ ht
  · rename_i ht
    cases hx; cases hy
    injection h with h; subst h
    exact run_equalIn_string w d t _ _ ht
  · cases h
theorem run_eqF (d : Nat) {cs ds : List AV} {vs us : Array Value} (hx : LR ρ cs vs.toList) (hy : LR ρ ds us.toList) : ∀ (fs : List Field) (w : World) (r : Bool), eqF P cs ds fs = some r → (Op.eqFields (d + 1) vs us fs).run P w = .ok r w
  | [], w, r, h => by
    simp only [eqF, Option.some.injEq] at h
    subst h
    rfl
  | f :: fs, w, r, h => by
    unfold eqF at h
    split at h
    · rename_i hc
      split at h
      · rename_i a b ha hb
        obtain ⟨x, x1, x2⟩ := run_part hc.2 hx ha w
        obtain ⟨y, y1, y2⟩ := run_part hc.2 hy hb w
        unfold Op.eqFields
        rw [if_pos hc.1]
        simp only [Sem.run_bind, x1, y1, Result.andThen_ok]
        split at h
        · rename_i e
          rw [run_eq1 d x2 y2 e w]
          simp only [Result.andThen_ok, Bool.not_true, Bool.false_eq_true, if_false]
          exact run_eqF d hx hy fs w r h
        · rename_i e
          injection h with h; subst h
          rw [run_eq1 d x2 y2 e w]
          simp only [Result.andThen_ok, Bool.not_false, if_true, Sem.run_pure]
        · cases h
      · cases h
    · cases h
theorem y_bin {o : Oper} {op : BinOp} {t u : TypeId} {x y : Operand} {v : AV} (ho : o.op = .binOp op t x y u) (ht : LR ρ ts A.tmps.toList) (h : evPure P ts o.op = some v) : Yv P ρ A o v := by
  intro w
  rw [ho] at h
  simp only [evPure] at h
  unfold execOp
  rw [ho]
  simp only
  cases he : evBin op (ev ts x) (ev ts y) with
  | some z =>
    rw [he] at h
    simp only [Option.some.injEq] at h
    subst h
    refine ⟨z, ?_, .sc _⟩
    unfold evBin at he
    split at he
    · rename_i k a k' b hx hy
      rw [sc_ev ht hx, sc_ev ht hy, eqGuard_at_int]
      split at he
      · have := run_shiftBin (P := P) w t (yk := k') he
        simp [this]
      · split at he
        · rename_i hs hk
          subst hk
          have := run_intBin (P := P) w t (by simpa using hs) he
          simp [this]
        · cases he
    · rename_i a b hx hy
      rw [sc_ev ht hx, sc_ev ht hy, eqGuard_at_string]
      have := run_strBin (P := P) w t he
      simp [this]
    · cases he
  | none =>
    rw [he] at h
    simp only [Option.map_eq_some_iff] at h
    obtain ⟨z, hz, rfl⟩ := h
    rcases run_boolBin w hz with ⟨a, b, hx, hy, hr⟩ | ⟨fs, cs, ds, r, hu, hx, hy, hs, hg, hr, hv⟩
    · rw [sc_ev ht hx, sc_ev ht hy, eqGuard_at_bool]
      exact ⟨z, by simp [hr], .sc _⟩
    · obtain ⟨vs, ex, rx⟩ := agg_ev ht hx
      obtain ⟨us, ey, ry⟩ := agg_ev ht hy
      have hf : P.fieldsOf t = fs := by simp [Program.fieldsOf, hu]
      have hq : (Op.equalIn 10000 t (.agg vs) (.agg us)).run P w = .ok r w := by
        have h1 := run_equalIn_struct (P := P) w 9999 t vs us (by rw [hf]; exact hu) hs
        rw [hf, run_eqF 9998 rx ry fs.toList w r hr] at h1
        exact h1
      rw [ex, ey]
      refine ⟨z, ?_, .sc _⟩
      rcases hv with ⟨rfl, rfl⟩ | ⟨rfl, rfl⟩
      · simp [run_eqGuard_agg, hg, run_eql_struct, hq]
      · simp [run_eqGuard_agg, hg, run_neq_struct, hq]
theorem y_un {o : Oper} {op : UnOp} {t : TypeId} {x : Operand} {v : AV} (ho : o.op = .unOp op t x) (ht : LR ρ ts A.tmps.toList) (h : evPure P ts o.op = some v) : Yv P ρ A o v := by
  intro w
  rw [ho] at h
  simp only [evPure, Option.map_eq_some_iff] at h
  obtain ⟨z, hz, rfl⟩ := h
  unfold execOp
  rw [ho]
  simp only
  unfold evUn at hz
  split at hz
  · rename_i k n hx
    injection hz with hz
    subst hz
    rw [sc_ev ht hx]
    exact ⟨_, by simp [Op.unary, Op.intArith], .sc _⟩
  · rename_i b hx
    injection hz with hz
    subst hz
    rw [sc_ev ht hx]
    exact ⟨_, by simp [Op.unary], .sc _⟩
  · cases hz
theorem y_conv {o : Oper} {s d : TypeId} {x : Operand} {v : AV} (ho : o.op = .convert s d x) (ht : LR ρ ts A.tmps.toList) (h : evPure P ts o.op = some v) : Yv P ρ A o v := by
  intro w
  rw [ho] at h
  simp only [evPure, Option.map_eq_some_iff] at h
  obtain ⟨z, hz, rfl⟩ := h
  unfold execOp
  rw [ho]
  simp only
  unfold evConv at hz
  split at hz
  · rename_i u k k' n hu hd hx
    injection hz with hz
    subst hz
    rw [sc_ev ht hx]
    exact ⟨_, by simp [convert, run_underlying hu, run_underlying hd, Conv.intToInt], .sc _⟩
  · rename_i u z hu hd hx
    injection hz with hz
    subst hz
    rw [sc_ev ht hx]
    exact ⟨_, by simp [convert, run_underlying hu, run_underlying hd], .sc _⟩
  · cases hz
theorem y_slice {o : Oper} {t : TypeId} {x : Operand} {lo hi : Option Operand} {v : AV} (ho : o.op = .slice t x lo hi none) (ht : LR ρ ts A.tmps.toList) (h : evPure P ts o.op = some v) : Yv P ρ A o v := by
  intro w
  rw [ho] at h
  simp only [evPure] at h
  unfold execOp
  rw [ho]
  simp only
  split at h
  · rename_i z hu hx
    split at h
    · rename_i l hh hl hhi
      split at h
      · rename_i hc
        injection h with h; subst h
        rw [sc_ev ht hx]
        have := run_bounds (P := P) (isSlice := false) ht hl hhi hc.1 hc.2 w
        refine ⟨.string (z.extract l hh), ?_, .sc _⟩
        simp [Instr.sliceAt, Instr.slice, run_underlying hu, this]
      · cases h
    · cases h
  · rename_i e r off len sz hu hx
    split at h
    · rename_i l hh hl hhi
      split at h
      · rename_i hc
        obtain ⟨h1, h2, h3, h4⟩ := hc
        injection h with h; subst h
        obtain ⟨lc, hρ, hcase⟩ := sl_ev ht hx
        rcases hcase with ⟨cap, hle, hfit, e1⟩ | ⟨hlen, z, e1⟩
        · rw [e1]
          have := run_bounds (P := P) (isSlice := true) (cap := cap) ht hl hhi h1 (by omega) w
          have hrun : (Instr.sliceAt t (.slice (some ⟨lc.b, lc.o + off, none⟩) len cap) (lo.map A.eval) (hi.map A.eval) none).run P w = .ok (.slice (if cap = l then some ⟨lc.b, lc.o + off, none⟩ else some ⟨lc.b, lc.o + off + l * sz, none⟩) (hh - l) (cap - l)) w := by
            simp [Instr.sliceAt, Instr.slice, run_underlying hu, this, run_sizeOf h4, h3, Addr.add_lit]
          refine ⟨.slice (if cap = l then some ⟨lc.b, lc.o + off, none⟩ else some ⟨lc.b, lc.o + off + l * sz, none⟩) (hh - l) (cap - l), by simp only [Option.map_none]; simp [hrun], ?_⟩
          by_cases hcl : cap = l
          · rw [if_pos hcl]
            rw [show hh - l = 0 by omega, show cap - l = 0 by omega]
            exact .sl0 hρ
          · rw [if_neg hcl]
            have hm : l * sz + (cap - l) * sz = cap * sz := by rw [← Nat.add_mul]; congr 1; omega
            have := VR.sl (ρ := ρ) (r := r) (off := off + l * sz) (len := hh - l) (sz := sz) (cap := cap - l) hρ (by omega) (by omega)
            rwa [Nat.add_assoc]
        · subst hlen
          have hh0 : hh = 0 := by omega
          have hl0 : l = 0 := by omega
          subst hh0; subst hl0
          rw [e1]
          have := run_bounds (P := P) (isSlice := true) (cap := 0) ht hl hhi h1 (by omega) w
          refine ⟨.slice (some ⟨lc.b, z, none⟩) 0 0, ?_, by simpa using VR.sl0 hρ⟩
          simp only [Option.map_none]
          simp [Instr.sliceAt, Instr.slice, run_underlying hu, this, run_sizeOf h4]
      · cases h
    · cases h
  · rename_i e hu hx
    split at h
    · rename_i hl hhi
      split at h
      · rename_i h4
        injection h with h; subst h
        rw [sc_ev ht hx]
        have := run_bounds (P := P) (isSlice := true) (cap := 0) ht hl hhi (by omega) (by omega) w
        refine ⟨.slice none 0 0, ?_, .sc _⟩
        simp only [Option.map_none]
        simp [Instr.sliceAt, Instr.slice, run_underlying hu, this, run_sizeOf h4]
      · cases h
    · cases h
  · cases h
theorem y_fieldAddr {o : Oper} {s : TypeId} {x : Operand} {f : Nat} {v : AV} (ho : o.op = .fieldAddr s x f) (ht : LR ρ ts A.tmps.toList) (h : evPure P ts o.op = some v) : Yv P ρ A o v := by
  intro w
  rw [ho] at h
  simp only [evPure] at h
  unfold execOp
  rw [ho]
  simp only
  split at h
  · rename_i fs r off hu hx
    split at h
    · rename_i fd hfd
      split at h
      · rename_i hc
        injection h with h; subst h
        obtain ⟨l, hl, e⟩ := ptr_ev ht hx
        refine ⟨.pointer (some ⟨l.b, l.o + (off + fd.offset), none⟩), ?_, .ptr hl⟩
        rw [e]
        simp [Instr.fieldAt, run_underlying hu, hfd, Instr.sureAddr, fieldPlace, run_sizeOf hc.2, hc.1, Addr.add_lit, Nat.add_assoc]
      · cases h
    · cases h
  · cases h
theorem y_field {o : Oper} {s : TypeId} {x : Operand} {f : Nat} {v : AV} (ho : o.op = .field s x f) (ht : LR ρ ts A.tmps.toList) (h : evPure P ts o.op = some v) : Yv P ρ A o v := by
  intro w
  rw [ho] at h
  simp only [evPure] at h
  unfold execOp
  rw [ho]
  simp only
  split at h
  · rename_i fs cs hu hx
    split at h
    · rename_i fd hfd
      split at h
      · rename_i hty
        obtain ⟨vs, e, hr⟩ := agg_ev ht hx
        obtain ⟨cv, h1, h2⟩ := run_part hty hr h w
        refine ⟨cv, ?_, h2⟩
        rw [e]
        simp [Instr.field, run_underlying hu, hfd, asAgg, h1]
      · cases h
    · cases h
  · cases h
theorem y_indexAddr {o : Oper} {t : TypeId} {x i : Operand} {v : AV} (ho : o.op = .indexAddr t x i) (ht : LR ρ ts A.tmps.toList) (h : evPure P ts o.op = some v) : Yv P ρ A o v := by
  intro w
  rw [ho] at h
  simp only [evPure] at h
  unfold execOp
  rw [ho]
  simp only
  split at h
  · rename_i e r off len sz k n hu hx hi
    split at h
    · rename_i hc
      obtain ⟨h0, h1, h2, h3⟩ := hc
      injection h with h; subst h
      obtain ⟨l, hρ, hcase⟩ := sl_ev ht hx
      rcases hcase with ⟨cap, hle, hfit, e1⟩ | ⟨hlen, z, e1⟩
      · refine ⟨.pointer (some ⟨l.b, l.o + (off + n.toNat * sz), none⟩), ?_, .ptr hρ⟩
        rw [e1, sc_ev ht hi]
        simp [Instr.indexAt, run_underlying hu, asIntOf, h0, h1, run_sizeOf h3, h2, Addr.add_lit, Nat.add_assoc]
      · subst hlen; omega
    · cases h
  · rename_i len e r off k n hu hx hi
    split at h
    · rename_i hc
      obtain ⟨h0, h1, h3⟩ := hc
      injection h with h; subst h
      obtain ⟨l, hl, e1⟩ := ptr_ev ht hx
      refine ⟨.pointer (some ⟨l.b, l.o + (off + n.toNat * P.cellsOf e), none⟩), ?_, .ptr hl⟩
      rw [e1, sc_ev ht hi]
      simp [Instr.indexAt, run_underlying hu, asIntOf, h0, h1, run_sizeOf h3, Addr.add_lit, Nat.add_assoc, Instr.sureAddr]
    · cases h
  · cases h
theorem y_index {o : Oper} {t : TypeId} {x i : Operand} {v : AV} (ho : o.op = .index t x i) (ht : LR ρ ts A.tmps.toList) (h : evPure P ts o.op = some v) : Yv P ρ A o v := by
  intro w
  rw [ho] at h
  simp only [evPure] at h
  unfold execOp
  rw [ho]
  simp only
  split at h
  · rename_i z k n hu hx hi
    split at h
    · rename_i hc
      injection h with h; subst h
      refine ⟨_, ?_, .sc _⟩
      rw [sc_ev ht hx, sc_ev ht hi]
      have h1 : z[n.toNat]? = some (z[n.toNat]'hc.2) := by simp [hc.2]
      simp [Instr.index, run_underlying hu, asIntOf, hc.1, h1]
    · cases h
  · rename_i len e cs k n hu hx hi
    split at h
    · rename_i hc
      obtain ⟨h0, h1, h3⟩ := hc
      obtain ⟨vs, e1, hr⟩ := agg_ev ht hx
      obtain ⟨cv, h4, h5⟩ := run_part h3 hr h w
      refine ⟨cv, ?_, h5⟩
      rw [e1, sc_ev ht hi]
      simp [Instr.index, run_underlying hu, asIntOf, h0, h1, run_sizeOf h3, h4]
    · cases h
  · cases h
theorem y_extract {o : Oper} {t : Operand} {i : Nat} {v : AV} (ho : o.op = .extract t i) (ht : LR ρ ts A.tmps.toList) (h : evPure P ts o.op = some v) : Yv P ρ A o v := by
  intro w
  rw [ho] at h
  simp only [evPure] at h
  unfold execOp
  rw [ho]
  simp only
  split at h
  · rename_i vs hx
    obtain ⟨us, e1, hr⟩ := tup_ev ht hx
    obtain ⟨cv, h1, h2⟩ := hr.get h
    rw [Array.getElem?_toList] at h1
    refine ⟨cv, ?_, h2⟩
    rw [e1]
    simp [Instr.extract, h1]
  · cases h
theorem parts_rel (ht : LR ρ ts A.tmps.toList) (parts : Array (Nat × Operand)) :
    (parts.toList.map fun p => (p.1, ev ts p.2)).length = (parts.map fun x => (x.1, A.eval x.2)).toList.length ∧
    ∀ (i : Nat) (p : Nat × AV) (q : Nat × Value), (parts.toList.map fun p => (p.1, ev ts p.2))[i]? = some p → (parts.map fun x => (x.1, A.eval x.2)).toList[i]? = some q → p.1 = q.1 ∧ LR ρ p.2.cells q.2.cells.toList := by
  refine ⟨by simp, fun i p q hp hq => ?_⟩
  rw [List.getElem?_map] at hp
  rw [Array.toList_map, List.getElem?_map] at hq
  cases hx : parts.toList[i]? with
  | none => rw [hx] at hp; cases hp
  | some z =>
    rw [hx] at hp hq
    simp only [Option.map_some, Option.some.injEq] at hp hq
    subst hp; subst hq
    exact ⟨rfl, (VR.eval ht z.2).cells⟩
theorem y_build {o : Oper} {t : TypeId} {parts : Array (Nat × Operand)} {v : AV} (ho : o.op = .build t parts) (ht : LR ρ ts A.tmps.toList) (h : evPure P ts o.op = some v) : Yv P ρ A o v := by
  intro w
  rw [ho] at h
  simp only [evPure] at h
  unfold execOp
  rw [ho]
  simp only
  obtain ⟨hpl, hpr⟩ := parts_rel ht parts
  have hz : ∀ z : List AV, zeroA P t = some z → ∃ i zv, P.info? t = some i ∧ i.zero = some zv ∧ LR ρ z zv.cells.toList := by
    intro z hz
    unfold zeroA at hz
    simp only [Option.map_eq_some_iff, Option.bind_eq_some_iff] at hz
    obtain ⟨zv, ⟨i, hi, hzv⟩, rfl⟩ := hz
    refine ⟨i, zv, hi, hzv, ?_⟩
    exact (VR.ofV zv).cells
  split at h
  · rename_i fs z hu hzz
    obtain ⟨i, zv, hi, hzv, hzr⟩ := hz z hzz
    split at h
    · rename_i hall
      simp only [Option.map_eq_some_iff] at h
      obtain ⟨cs', h1, rfl⟩ := h
      obtain ⟨vs', h2, h3⟩ := run_fill _ _ _ zv.cells _ hpl hpr hzr h1
      have hplaces : ∀ (l : List Field), l.all (fun f => tyOk P f.type) = true → (l.mapM (fun f => do pure (f.offset, ← sizeOf f.type) : Field → Sem (Nat × Nat))).run P w = .ok (l.map fun f => (f.offset, P.cellsOf f.type)) w := by
        intro l
        induction l with
        | nil => intro _; rfl
        | cons f l ih =>
          intro hl
          rw [List.all_cons, Bool.and_eq_true] at hl
          rw [List.mapM_cons]
          simp only [Sem.run_bind, run_sizeOf hl.1, Result.andThen_ok, Sem.run_pure, ih hl.2, List.map_cons]
      have hpa : (fs.mapM (fun f => do pure (f.offset, ← sizeOf f.type) : Field → Sem (Nat × Nat))).run P w = .ok (fs.map fun f => (f.offset, P.cellsOf f.type)) w := by
        rw [Array.mapM_eq_mapM_toList]
        have := hplaces fs.toList (by rw [← Array.all_toList] at hall; exact hall)
        simp only [Sem.run_map, this, Result.andThen_ok]
        congr 1
        apply Array.ext'
        simp
      have hps : (fun i => (fs.map fun f => (f.offset, P.cellsOf f.type))[i]?) = placeS P fs := by
        funext i; simp [placeS]
      refine ⟨.agg vs', ?_, .agg (by have := h3.1; rwa [Array.length_toList] at this) h3.2⟩
      simp only [Instr.build, zeroValue, typeInfo, hi, hzv, run_underlying hu, Sem.run_bind, run_program, Result.andThen_ok, Sem.run_pure, hpa, hps, h2]
    · cases h
  · rename_i n e z hu hzz
    obtain ⟨i, zv, hi, hzv, hzr⟩ := hz z hzz
    split at h
    · rename_i hty
      simp only [Option.map_eq_some_iff] at h
      obtain ⟨cs', h1, rfl⟩ := h
      obtain ⟨vs', h2, h3⟩ := run_fill _ _ _ zv.cells _ hpl hpr hzr h1
      refine ⟨.agg vs', ?_, .agg (by have := h3.1; rwa [Array.length_toList] at this) h3.2⟩
      simp only [Instr.build, zeroValue, typeInfo, hi, hzv, run_underlying hu, Sem.run_bind, run_program, Result.andThen_ok, Sem.run_pure, run_sizeOf hty, h2]
    · cases h
  · cases h
theorem y_makeInterface {o : Oper} {t : TypeId} {x : Operand} {v : AV} (ho : o.op = .makeInterface t x) (ht : LR ρ ts A.tmps.toList) (h : evPure P ts o.op = some v) : Yv P ρ A o v := by
  intro w
  rw [ho] at h
  simp only [evPure] at h
  unfold execOp
  rw [ho]
  simp only
  split at h
  · rename_i k u hu hx
    injection h with h; subst h
    refine ⟨_, ?_, .sc _⟩
    rw [sc_ev ht hx]
    simp [Instr.makeInterface, run_underlying hu]
  · cases h
theorem y_call {o : Oper} {c : Call} {v : AV} (ho : o.op = .call c) (ht : LR ρ ts A.tmps.toList) (h : evPure P ts o.op = some v) : Yv P ρ A o v := by
  intro w
  rw [ho] at h
  simp only [evPure] at h
  unfold execOp
  rw [ho]
  simp only
  obtain ⟨cal, ⟨al⟩, ⟨tl⟩⟩ := c
  simp only at h
  split at h
  · rename_i x t
    have hred : ∀ (u : Value), ((Builtin.len_ #[t] o.type #[A.eval x]).run P w = .ok u w) → (do let d ← resolve A.eval ⟨.builtin .len, [x].toArray, [t].toArray⟩ o.type; invoke d.target d.args : Sem Next).run P w = .ok (.value u) w := by
      intro u hu
      simp [resolve, invoke, builtin, hu]
    split at h
    · rename_i z hu hx
      injection h with h; subst h
      refine ⟨_, hred _ ?_, .sc _⟩
      rw [sc_ev ht hx]
      simp [Builtin.len_, run_underlying hu, goInt]
    · rename_i n e hu
      injection h with h; subst h
      refine ⟨_, hred _ ?_, .sc _⟩
      simp [Builtin.len_, run_underlying hu, goInt]
    · rename_i e r off len sz hu hx
      injection h with h; subst h
      refine ⟨_, hred _ ?_, .sc _⟩
      obtain ⟨l, hρ, hcase⟩ := sl_ev ht hx
      rcases hcase with ⟨cap, hle, hfit, e1⟩ | ⟨hlen, z, e1⟩
      · rw [e1]; simp [Builtin.len_, run_underlying hu, goInt]
      · subst hlen; rw [e1]; simp [Builtin.len_, run_underlying hu, goInt]
    · rename_i e hu hx
      injection h with h; subst h
      refine ⟨_, hred _ ?_, .sc _⟩
      rw [sc_ev ht hx]
      simp [Builtin.len_, run_underlying hu, goInt]
    · cases h
  · simp only [Option.map_eq_some_iff] at h
    obtain ⟨z, hz, rfl⟩ := h
    unfold minI at hz
    split at hz
    · rename_i k a k' b hl
      injection hz with hz; subst hz
      have hlen := congrArg List.length hl
      simp only [List.length_map, List.length_cons, List.length_nil] at hlen
      match al, hlen, hl with
      | [x, y], _, hl =>
        simp only [List.map_cons, List.map_nil, List.cons.injEq, and_true] at hl
        refine ⟨_, ?_, .sc _⟩
        simp [resolve, invoke, builtin, sc_ev ht hl.1, sc_ev ht hl.2, run_min_int2]
    · cases hz
  · simp only [Option.map_eq_some_iff] at h
    obtain ⟨z, hz, rfl⟩ := h
    unfold maxI at hz
    split at hz
    · rename_i k a k' b hl
      injection hz with hz; subst hz
      have hlen := congrArg List.length hl
      simp only [List.length_map, List.length_cons, List.length_nil] at hlen
      match al, hlen, hl with
      | [x, y], _, hl =>
        simp only [List.map_cons, List.map_nil, List.cons.injEq, and_true] at hl
        refine ⟨_, ?_, .sc _⟩
        simp [resolve, invoke, builtin, sc_ev ht hl.1, sc_ev ht hl.2, run_max_int2]
    · cases hz
  · cases h
theorem evPure_sound {o : Oper} {v : AV} (ht : LR ρ ts A.tmps.toList) (h : evPure P ts o.op = some v) : Yv P ρ A o v := by
  cases hop : o.op
  case move x => rw [hop] at h; simp only [evPure, Option.some.injEq] at h; exact y_move (.inl hop) ht h
  case assign x => rw [hop] at h; simp only [evPure, Option.some.injEq] at h; exact y_move (.inr hop) ht h
  case pick => exact y_pick hop ht h
  case nilCheck => exact y_nilCheck hop ht h
  case binOp => exact y_bin hop ht h
  case unOp => exact y_un hop ht h
  case convert => exact y_conv hop ht h
  case slice t x lo hi mx =>
    cases mx with
    | none => exact y_slice hop ht h
    | some m => rw [hop] at h; simp [evPure] at h
  case fieldAddr => exact y_fieldAddr hop ht h
  case field => exact y_field hop ht h
  case indexAddr => exact y_indexAddr hop ht h
  case index => exact y_index hop ht h
  case extract => exact y_extract hop ht h
  case build => exact y_build hop ht h
  case makeInterface => exact y_makeInterface hop ht h
  case call => exact y_call hop ht h
  all_goals (rw [hop] at h; simp [evPure] at h)
end
end Go.Proofs.YtfgmmklljibbiaaDoor.Sim

