/- Memory: when a world bears what the second semantics' regions hold; reading, making, writing. -/
import Derived.Test.YtfgmmklljibbiaaDoorS4
namespace Go.Proofs.YtfgmmklljibbiaaDoor.Sim
open Go
set_option linter.unusedSimpArgs false
set_option linter.unusedVariables false
def hf (H : AHeap) : Nat → Option Reg := fun r => H[r]?
def RegOk (ρ : Ren) (base : Nat) (w : World) (l : Loc) (g : Reg) : Prop :=
  ∃ c e fz, w.heap[l.b]? = some (.cells c e fz) ∧ c.size = l.n ∧ l.o + g.cs.length ≤ l.n ∧ LR ρ g.cs ((c.toList.drop l.o).take g.cs.length) ∧
    (g.own = true → l.o = 0 ∧ base ≤ l.b ∧ ∀ i, i < l.n → ¬(fz.1 ≤ i ∧ i < fz.2)) ∧ (g.own = false → l.b < base)
/-- What the program's tables hold: their blocks lie below all that is anybody's own, and stay as they are. -/
def tabs : List (Nat × Array Value) := [(0, (([1, 10, 100, 1000, 10000, 100000, 1000000, 10000000, 100000000, 1000000000, 10000000000, 100000000000, 1000000000000, 10000000000000, 100000000000000, 1000000000000000, 10000000000000000, 100000000000000000, 1000000000000000000, 10000000000000000000] : List Int).map fun z => Value.int .u64 z).toArray)]
def Gl (base : Nat) (w : World) : Prop := ∀ p, p ∈ tabs → p.1 < base ∧ ∃ e fz, w.heap[p.1]? = some (.cells p.2 e fz)
theorem Gl.keep {base : Nat} {w w' : World} (h : Gl base w) (k : ∀ b, b < base → w'.heap[b]? = w.heap[b]?) : Gl base w' := fun p hp => by
  obtain ⟨h1, e, fz, h2⟩ := h p hp
  exact ⟨h1, e, fz, (k _ h1).trans h2⟩
theorem Gl.up {base n : Nat} {w : World} (h : Gl base w) (k : base ≤ n) : Gl n w := fun p hp => ⟨Nat.lt_of_lt_of_le (h p hp).1 k, (h p hp).2⟩
theorem Gl.none (h : tabs = []) {n : Nat} {w : World} : Gl n w := fun p hp => by rw [h] at hp; cases hp
/-- The world bears the regions that ρ places. M: names from there on are somebody else's. -/
structure Rel (M : Nat) (ρ : Ren) (base : Nat) (h : Nat → Option Reg) (w : World) : Prop where
  bs : base ≤ w.heap.size ∧ Gl base w
  lt : ∀ r l, ρ r = some l → l.b < w.heap.size
  dom : ∀ r l, ρ r = some l → (∃ g, h r = some g) ∨ M ≤ r
  top : ∀ r g, h r = some g → r < M
  reg : ∀ r g l, h r = some g → g.live = true → ρ r = some l → RegOk ρ base w l g
  inj : ∀ r1 r2 g1 g2 l1 l2, h r1 = some g1 → h r2 = some g2 → g1.live = true → g2.live = true → g1.own = true → g2.own = true → ρ r1 = some l1 → ρ r2 = some l2 → l1.b = l2.b → r1 = r2
/-- What has come to pass: N: regions below that nobody has placed are as they were. -/
structure Grow (M N : Nat) (ρ : Ren) (h : Nat → Option Reg) (w : World) (ρ' : Ren) (h' : Nat → Option Reg) (w' : World) : Prop where
  os : w'.os = w.os
  tape : w'.tape = w.tape
  output : w'.output = w.output
  size : w.heap.size ≤ w'.heap.size
  frame : ∀ b, b < w.heap.size → (∀ r g l, h r = some g → g.live = true → g.own = true → ρ r = some l → l.b ≠ b) → w'.heap[b]? = w.heap[b]?
  ext : ∀ r l, ρ r = some l → ρ' r = some l
  unt : ∀ r g, r < N → h r = some g → ρ r = none → ρ' r = none ∧ h' r = h r
  prov : ∀ r l, ρ' r = some l → ρ r = none → w.heap.size ≤ l.b ∨ ∃ r0 g0 l0, h r0 = some g0 ∧ g0.live = true ∧ g0.own = true ∧ ρ r0 = some l0 ∧ l0.b = l.b
  back : ∀ r g g', h r = some g → h' r = some g' → g'.live = true → g.live = true ∧ g'.own = g.own
  per : ∀ r g, h r = some g → ∃ g', h' r = some g'
  res : ∀ r, M ≤ r → ρ' r = ρ r
theorem Grow.refl (M N : Nat) (ρ : Ren) (h : Nat → Option Reg) (w : World) : Grow M N ρ h w ρ h w :=
  ⟨rfl, rfl, rfl, Nat.le_refl _, fun _ _ _ => rfl, fun _ _ h => h, fun _ _ _ _ k => ⟨k, rfl⟩, fun _ _ a b => (by rw [a] at b; cases b), fun _ _ _ a b c => (by rw [a] at b; injection b with b; subst b; exact ⟨c, rfl⟩), fun _ g k => ⟨g, k⟩, fun _ _ => rfl⟩
theorem Grow.less {M M' N N' : Nat} {ρ ρ' : Ren} {h h' : Nat → Option Reg} {w w' : World} (a : Grow M N ρ h w ρ' h' w') (hM : M ≤ M') (hN : N' ≤ N) : Grow M' N' ρ h w ρ' h' w' :=
  ⟨a.os, a.tape, a.output, a.size, a.frame, a.ext, fun r g k => a.unt r g (Nat.lt_of_lt_of_le k hN), a.prov, a.back, a.per, fun r k => a.res r (Nat.le_trans hM k)⟩
theorem Grow.trans {M N base : Nat} {ρ1 ρ2 ρ3 : Ren} {h1 h2 h3 : Nat → Option Reg} {w1 w2 w3 : World} (R1 : Rel M ρ1 base h1 w1) (top2 : ∀ r g, h2 r = some g → r < M) (a : Grow M N ρ1 h1 w1 ρ2 h2 w2) (b : Grow M N ρ2 h2 w2 ρ3 h3 w3) : Grow M N ρ1 h1 w1 ρ3 h3 w3 := by
  have up : ∀ r g l, h2 r = some g → g.live = true → g.own = true → ρ2 r = some l → w1.heap.size ≤ l.b ∨ ∃ r0 g0 l0, h1 r0 = some g0 ∧ g0.live = true ∧ g0.own = true ∧ ρ1 r0 = some l0 ∧ l0.b = l.b := by
    intro r g l hg hl ho hρ
    cases h0 : ρ1 r with
    | none => exact a.prov r l hρ h0
    | some l1 =>
      have e := a.ext r l1 h0
      rw [hρ] at e
      injection e with e
      subst e
      rcases R1.dom r _ h0 with ⟨g1, hg1⟩ | hM
      · obtain ⟨k1, k2⟩ := a.back r g1 g hg1 hg hl
        exact .inr ⟨r, g1, _, hg1, k1, by rw [← k2]; exact ho, h0, rfl⟩
      · have := top2 r g hg
        omega
  refine ⟨b.os.trans a.os, b.tape.trans a.tape, b.output.trans a.output, Nat.le_trans a.size b.size, ?_, fun r l h => b.ext _ _ (a.ext _ _ h), ?_, ?_, ?_, ?_, fun r k => (b.res r k).trans (a.res r k)⟩
  · intro k hk hn
    rw [b.frame k (Nat.lt_of_lt_of_le hk a.size) ?_, a.frame k hk hn]
    intro r g l hg hl ho hρ e
    subst e
    rcases up r g l hg hl ho hρ with h | ⟨r0, g0, l0, q1, q2, q3, q4, q5⟩
    · omega
    · exact hn r0 g0 l0 q1 q2 q3 q4 q5
  · intro r g hr hg hn
    obtain ⟨k1, k2⟩ := a.unt r g hr hg hn
    obtain ⟨k3, k4⟩ := b.unt r g hr (k2.trans hg) k1
    exact ⟨k3, k4.trans k2⟩
  · intro r l h3 h1
    cases h2 : ρ2 r with
    | none =>
      rcases b.prov r l h3 h2 with h | ⟨r0, g0, l0, q1, q2, q3, q4, q5⟩
      · exact .inl (Nat.le_trans a.size h)
      · rw [← q5]
        exact up r0 g0 l0 q1 q2 q3 q4
    | some l2 =>
      have e := b.ext r l2 h2
      rw [h3] at e
      injection e with e
      subst e
      exact a.prov r _ h2 h1
  · intro r g g' h1 h3 hl
    obtain ⟨g2, h2⟩ := a.per r g h1
    obtain ⟨k1, k2⟩ := b.back r g2 g' h2 h3 hl
    obtain ⟨k3, k4⟩ := a.back r g g2 h1 h2 k1
    exact ⟨k3, k2.trans k4⟩
  · intro r g hg
    obtain ⟨g2, h2⟩ := a.per r g hg
    exact b.per r g2 h2
theorem RegOk.mono {ρ ρ' : Ren} {base : Nat} {w w' : World} {l : Loc} {g : Reg} (hx : ∀ r l, ρ r = some l → ρ' r = some l) (hb : w'.heap[l.b]? = w.heap[l.b]?) (k : RegOk ρ base w l g) : RegOk ρ' base w' l g := by
  obtain ⟨c, e, fz, h1, h2, h3, h4, h5⟩ := k
  exact ⟨c, e, fz, hb.trans h1, h2, h3, h4.mono hx, h5⟩
section
variable {P : Program} {ρ : Ren} {ts : List AV} {A : Act} {w : World} {base : Nat} {h : Nat → Option Reg}

/-! ### reading -/
theorem cell_at {l : Loc} {c : Array Value} {e : TypeId} {fz : Nat × Nat} (hb : w.heap[l.b]? = some (.cells c e fz)) (i : Nat) : w.cell? ⟨l.b, i, none⟩ = c[i]? := by
  simp [World.cell?, hb]
theorem load_run {l : Loc} {g : Reg} (hr : RegOk ρ base w l g) {off n : Nat} (hn : off + n ≤ g.cs.length) : ∃ us : List Value, us.length = n ∧ LR ρ ((g.cs.drop off).take n) us ∧ (∀ j v, us[j]? = some v → w.cell? ⟨l.b, l.o + off + j, none⟩ = some v) := by
  obtain ⟨c, e, fz, h1, h2, h3, h4, _⟩ := hr
  have h5 := (h4.drop off).take n
  refine ⟨_, ?_, h5, ?_⟩
  · rw [← h5.1, List.length_take, List.length_drop]; omega
  · intro j v hj
    rw [cell_at h1]
    rw [List.getElem?_take] at hj
    split at hj
    · rw [List.getElem?_drop, List.getElem?_take] at hj
      split at hj
      · rw [List.getElem?_drop, Array.getElem?_toList] at hj
        rw [← hj]
        congr 1
        omega
      · cases hj
    · cases hj
theorem loadCells_run {l : Loc} {g : Reg} (hr : RegOk ρ base w l g) {off n : Nat} (hn : off + n ≤ g.cs.length) : ∃ us : Array Value, (loadCells ⟨l.b, l.o + off, none⟩ n).run P w = .ok us w ∧ LR ρ ((g.cs.drop off).take n) us.toList := by
  obtain ⟨us, h1, h2, h3⟩ := load_run hr hn
  refine ⟨us.toArray, ?_, by simpa using h2⟩
  have := run_loadCells_list (P := P) w ⟨l.b, l.o + off, none⟩ us (fun j v hj => by rw [Addr.add_lit]; exact h3 j v hj)
  rw [h1] at this
  exact this
theorem load1_run {l : Loc} {g : Reg} (hr : RegOk ρ base w l g) {off : Nat} (hn : off + 1 ≤ g.cs.length) : ∃ u a, g.cs[off]? = some a ∧ (load ⟨l.b, l.o + off, none⟩).run P w = .ok u w ∧ VR ρ a u := by
  obtain ⟨us, h1, h2, h3⟩ := load_run hr hn
  match us, h1 with
  | [u], _ =>
    have ha : g.cs[off]? = some (g.cs[off]'(by omega)) := List.getElem?_eq_getElem _
    refine ⟨u, _, ha, ?_, ?_⟩
    · have := h3 0 u rfl
      rw [Nat.add_zero] at this
      simp [run_load, this]
    · refine h2.2 0 _ u ?_ rfl
      rw [List.getElem?_take, if_pos (by omega), List.getElem?_drop, Nat.add_zero]
      exact ha
theorem cellsAt_inv {H : AHeap} {r off n : Nat} {cs : List AV} (hc : cellsAt H r off n = some cs) : ∃ g, H[r]? = some g ∧ g.live = true ∧ off + n ≤ g.cs.length ∧ cs = (g.cs.drop off).take n := by
  unfold cellsAt at hc
  split at hc
  · rename_i g hg
    split at hc
    · rename_i hh
      injection hc with hc
      exact ⟨g, hg, hh.1, hh.2, hc.symm⟩
    · cases hc
  · cases hc
theorem bytesA_run : ∀ {cs : List AV} {us : List Value} {l : List Int}, LR ρ cs us → bytesA cs = some l → us = l.map (Value.int .u8)
  | [], us, l, hr, hb => by
    simp only [bytesA, Option.some.injEq] at hb
    subst hb
    have := hr.1
    exact List.eq_nil_of_length_eq_zero this.symm
  | a :: cs, us, l, hr, hb => by
    match us, hr with
    | [], hr => exact absurd hr.1 (by simp)
    | u :: us, hr =>
      simp only [bytesA] at hb
      split at hb
      · rename_i n ns h1 h2
        injection hb with hb
        subst hb
        have hu := hr.2 0 a u rfl rfl
        have hs : LR ρ cs us := ⟨by have := hr.1; simpa using this, fun i b v hb hv => hr.2 (i + 1) b v (by simpa using hb) (by simpa using hv)⟩
        rw [List.map_cons, ← bytesA_run hs h2]
        congr 1
        unfold byteOf at h1
        split at h1
        · injection h1 with h1; subst h1; exact hu.sc_inv
        · cases h1
      · cases hb
theorem isU8_run {e : TypeId} (he : isU8 P e = true) : P.underlying e = some (.int .u8) := by
  unfold isU8 at he
  split at he
  · assumption
  · cases he
theorem evRead_sound {o : Oper} {v : AV} {H : AHeap} {M : Nat} (hR : Rel M ρ base h w) (hH : ∀ r l g, ρ r = some l → H[r]? = some g → h r = some g) (ht : LR ρ ts A.tmps.toList) (hv : evRead P ts o.op H = some v) : ∃ cv, (execOp A.eval o).run P w = .ok (.value cv) w ∧ VR ρ v cv := by
  cases hop : o.op
  case load t x =>
    rw [hop] at hv
    simp only [evRead] at hv
    unfold execOp
    rw [hop]
    simp only
    split at hv
    · rename_i r off hx
      obtain ⟨l, hl, e⟩ := ptr_ev ht hx
      split at hv
      · rename_i hty
        rw [e]
        by_cases hb : aggB P t = true
        · rw [if_pos hb] at hv
          simp only [Option.map_eq_some_iff] at hv
          obtain ⟨cs, hc, rfl⟩ := hv
          obtain ⟨g, hg, hlive, hn, rfl⟩ := cellsAt_inv hc
          obtain ⟨us, h1, h2⟩ := loadCells_run (P := P) (hR.reg r g l (hH r l g hl hg) hlive hl) hn
          refine ⟨.agg us, ?_, .agg (by have := h2.1; rwa [Array.length_toList] at this) h2.2⟩
          simp [Instr.loadAt, Instr.sureAddr, loadVar, run_isAgg hty, hb, run_sizeOf hty, h1]
        · rw [if_neg hb] at hv
          split at hv
          · rename_i v' hc
            injection hv with hv
            subst hv
            obtain ⟨g, hg, hlive, hn, he⟩ := cellsAt_inv hc
            obtain ⟨u, a, ha, h1, h2⟩ := load1_run (P := P) (hR.reg r g l (hH r l g hl hg) hlive hl) hn
            have : v' = a := by
              have h3 : [v'][0]? = ((g.cs.drop off).take 1)[0]? := by rw [he]
              rw [List.getElem?_take, if_pos (by omega), List.getElem?_drop, Nat.add_zero, ha] at h3
              simpa using h3
            subst this
            refine ⟨u, ?_, h2⟩
            simp only [Instr.loadAt, Instr.sureAddr, loadVar, Sem.run_bind, Sem.run_pure, Result.andThen_ok, run_isAgg hty, if_neg hb, h1]
          · cases hv
      · cases hv
    · cases hv
  case convert s d x =>
    rw [hop] at hv
    simp only [evRead] at hv
    unfold execOp
    rw [hop]
    simp only
    split at hv
    · rename_i e r off len sz hs hd hx
      split at hv
      · rename_i hh
        obtain ⟨h1, h2⟩ := hh
        subst h2
        simp only [Option.map_eq_some_iff, Option.bind_eq_some_iff] at hv
        obtain ⟨ns, ⟨cs, hc, hb⟩, rfl⟩ := hv
        obtain ⟨g, hg, hlive, hn, rfl⟩ := cellsAt_inv hc
        obtain ⟨l, hρ, hcase⟩ := sl_ev ht hx
        obtain ⟨us, k1, k2, k3⟩ := load_run (hR.reg r g l (hH r l g hρ hg) hlive hρ) hn
        have hus := bytesA_run k2 hb
        have hlen : ns.length = len := by rw [← k1, hus, List.length_map]
        refine ⟨.string (strOfNums ns), ?_, .sc _⟩
        rcases hcase with ⟨cap, hle, hfit, e1⟩ | ⟨h0, z, e1⟩
        · rw [e1]
          have := run_convert_bytes_arg (P := P) w s e hs (isU8_run h1) l.b (l.o + off) len cap ns hlen (fun i hi => by
            refine k3 i _ ?_
            rw [hus, List.getElem?_map]
            simp [List.getD_eq_getElem?_getD, hlen, hi]) d hd
          simp [this]
        · subst h0
          have : ns = [] := List.eq_nil_of_length_eq_zero hlen
          subst this
          rw [e1]
          have := run_convert_bytes_arg (P := P) w s e hs (isU8_run h1) l.b z 0 0 [] rfl (fun i hi => by omega) d hd
          simp [this]
      · cases hv
    · rename_i e hs hd hx
      split at hv
      · rename_i h1
        injection hv with hv
        subst hv
        refine ⟨_, ?_, .sc _⟩
        rw [sc_ev ht hx]
        have := run_convert_bytes_nil (P := P) w s e hs (isU8_run h1) 0 0 d hd
        simp [this]
      · cases hv
    · cases hv
  all_goals (rw [hop] at hv; simp [evRead] at hv)
end
end Go.Proofs.YtfgmmklljibbiaaDoor.Sim

