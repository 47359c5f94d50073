/- Memory: the operations that write. -/
import Derived.Test.YtfgmmklljibbiaaDoorS7
namespace Go.Proofs.YtfgmmklljibbiaaDoor.Sim
open Go
set_option linter.unusedSimpArgs false
set_option linter.unusedVariables false
theorem take_over {α : Type} (xs us : List α) (off n : Nat) (h : off + us.length ≤ n) (hn : n ≤ xs.length) : (xs.take off ++ us ++ xs.drop (off + us.length)).take n = (xs.take n).take off ++ us ++ (xs.take n).drop (off + us.length) := by
  have h1 : (xs.take off ++ us).length = off + us.length := by rw [List.length_append, List.length_take]; omega
  rw [List.take_append, h1, List.take_of_length_le (by omega), List.take_take, Nat.min_eq_left (by omega), List.drop_take]
section
variable {P : Program} {ρ : Ren} {ts : List AV} {A : Act} {base M : Nat}
/-- What writing comes to. -/
def Yw (P : Program) (M : Nat) (ρ : Ren) (base : Nat) (A : Act) (o : Oper) (H : AHeap) (w : World) (v : AV) (H' : AHeap) : Prop := ∃ nx w' ρ' cv, (execOp A.eval o).run P w = .ok nx w' ∧ (nx = .value cv ∨ (nx = .skip ∧ cv = undef)) ∧ VR ρ' v cv ∧ Rel M ρ' base (hf H') w' ∧ Grow M H.length ρ (hf H) w ρ' (hf H') w'
theorem y_store {o : Oper} {t : TypeId} {x y : Operand} {H H' : AHeap} {v : AV} (ho : o.op = .store t x y) (ht : LR ρ ts A.tmps.toList) {w : World} (hR : Rel M ρ base (hf H) w) (hM : H'.length ≤ M) (hv : evWrite P ts o.op H = some (v, H')) : Yw P M ρ base A o H w v H' := by
  rw [ho] at hv
  simp only [evWrite] at hv
  split at hv
  · rename_i r off g hx hg
    split at hv
    · rename_i hh
      obtain ⟨hl, hown, hty, hsz, hfit, hall⟩ := hh
      simp only [Option.some.injEq, Prod.mk.injEq] at hv
      obtain ⟨rfl, rfl⟩ := hv
      obtain ⟨l, hρ, e⟩ := ptr_ev ht hx
      have hr : hf H r = some g := by
        have := hg
        rw [hx] at this
        exact this
      have hy := VR.eval ht y
      have hcell := hy.cells
      obtain ⟨c, el, fz, h1, h2, h3, h4, h5, _⟩ := hR.reg r g l hr hl hρ
      obtain ⟨hlo, hbase, hz⟩ := h5 hown
      have hus : (A.eval y).cells.toList.length = P.cellsOf t := by rw [← hcell.1]; exact hsz
      have hone : ∀ u ∈ (A.eval y).cells.toList, u.oneCell' = true := by
        intro u hu
        obtain ⟨i, hi⟩ := List.mem_iff_getElem?.1 hu
        obtain ⟨a, ha, hvr⟩ := hcell.get' hi
        rw [← hvr.one]
        exact List.all_eq_true.1 hall a (List.mem_of_getElem? ha)
      obtain ⟨w', c', k1, k2, k3, k4⟩ := wr_all (P := P) (b := l.b) (off := l.o + off) (A.eval y).cells.toList 0 c w h1 (by rw [hus]; omega) (by rw [h2]; exact hz) hone
      have hLR : LR ρ (overA g.cs off (ev ts y).cells) (c'.toList.take (overA g.cs off (ev ts y).cells).length) := by
        have hlen : (overA g.cs off (ev ts y).cells).length = g.cs.length := by
          simp only [overA, List.length_append, List.length_take, List.length_drop]
          omega
        rw [hlen, k4, hlo]
        simp only [Nat.zero_add, Nat.add_zero]
        rw [hlo, List.drop_zero] at h4
        have h6 := h4.over hcell off
        have e2 : (List.take off (List.take g.cs.length c.toList) ++ (A.eval y).cells.toList ++ List.drop (off + (A.eval y).cells.toList.length) (List.take g.cs.length c.toList)) = List.take g.cs.length (List.take off c.toList ++ (A.eval y).cells.toList ++ List.drop (off + (A.eval y).cells.toList.length) c.toList) := by
          exact (take_over c.toList (A.eval y).cells.toList off g.cs.length (by omega) (by rw [Array.length_toList]; omega)).symm
        rw [← e2]
        exact h6
      obtain ⟨q1, q2⟩ := rel_store (cs' := overA g.cs off (ev ts y).cells) hR hr hl hown hρ k2 (by omega) (by simp only [overA, List.length_append, List.length_take, List.length_drop]; omega) hLR hz
      refine ⟨.skip, w', ρ, undef, ?_, .inr ⟨rfl, rfl⟩, .sc _, ?_, ?_⟩
      · unfold execOp
        rw [ho]
        simp only
        rw [e]
        have hs2 : (A.eval y).cells.size = P.cellsOf t := by rw [← hus, Array.length_toList]
        simp [Instr.storeAt, Instr.sureAddr, storeVar, run_sizeOf hty, hs2, k1]
      · rw [hf_setReg H (by rw [hx] at hg; exact hg)]; exact q1
      · rw [hf_setReg H (by rw [hx] at hg; exact hg)]; exact q2
    · cases hv
  · cases hv
theorem src_run {H : AHeap} {x : AV} {xv : Value} {sz : Nat} {news : List AV} {w : World} (hR : Rel M ρ base (hf H) w) (hx : VR ρ x xv) (hs : srcCells H x sz = some news) : ∃ n us, (∀ w, (Builtin.lenOf xv).run P w = .ok n w) ∧ news.length = n * sz ∧ LR ρ news us.toList ∧
    ∀ w' : World, w'.heap = w.heap → (Builtin.firstCells sz n xv).run P w' = .ok us w' := by
  unfold srcCells at hs
  split at hs
  · rename_i r off len sz'
    split at hs
    · rename_i e
      subst e
      obtain ⟨g, hg, hlive, hn, rfl⟩ := cellsAt_inv hs
      have hlen : ((g.cs.drop off).take (len * sz')).length = len * sz' := by simp; omega
      cases hx with
      | sl hρ hle hfit =>
        rename_i cap l
        have hreg := hR.reg r g l hg hlive hρ
        obtain ⟨us, h1, h2⟩ := loadCells_run (P := P) hreg hn
        refine ⟨len, us, fun w => by simp [Builtin.lenOf], hlen, h2, fun w' hw' => ?_⟩
        have hreg' : RegOk ρ base w' l g := hreg.mono (fun _ _ k => k) (by rw [hw'])
        obtain ⟨us', h1', h2'⟩ := loadCells_run (P := P) hreg' hn
        have : us' = us := by
          obtain ⟨u1, a1, a2, a3⟩ := load_run hreg hn
          have b1 := run_loadCells_list (P := P) w ⟨l.b, l.o + off, none⟩ u1 (fun j v hj => by rw [Addr.add_lit]; exact a3 j v hj)
          have b2 := run_loadCells_list (P := P) w' ⟨l.b, l.o + off, none⟩ u1 (fun j v hj => by
            rw [Addr.add_lit]
            have := a3 j v hj
            simp only [World.cell?] at this ⊢
            rw [hw']
            exact this)
          rw [a1] at b1 b2
          rw [h1] at b1
          rw [h1'] at b2
          injection b1 with b1
          injection b2 with b2
          rw [b1, b2]
        rw [this] at h1'
        simpa [Builtin.firstCells] using h1'
      | sl0 hρ =>
        refine ⟨0, #[], fun w => by simp [Builtin.lenOf], by simp, by simpa using LR.nil, fun w' _ => by simp [Builtin.firstCells, loadCells, loadCellsFrom]⟩
    · cases hs
  · injection hs with hs
    subst hs
    have := hx.sc_inv
    subst this
    exact ⟨0, #[], fun w => by simp [Builtin.lenOf], by simp, by simpa using LR.nil, fun w' _ => by simp [Builtin.firstCells]⟩
  · rename_i z
    split at hs
    · rename_i e
      subst e
      injection hs with hs
      subst hs
      have := hx.sc_inv
      subst this
      refine ⟨z.size, z.data.map (fun b => Value.int .u8 b.toNat), fun w => by simp [Builtin.lenOf], by simp, ?_, fun w' _ => ?_⟩
      · simp only [Array.toList_map]
        exact LR.map (fun b : UInt8 => Value.int .u8 b.toNat) _
      · simp only [Builtin.firstCells, Sem.run_pure]
        congr 2
        rw [ByteArray.data_extract]
        have : z.size = z.data.size := rfl
        rw [this, Array.extract_size]
    · cases hs
  · cases hs
theorem grow_fits {need cap bytes : Nat} (h : cap < need) (hb : need * bytes ≤ 140737488355328) : ¬ (281474976710656 < Builtin.nextslicecap need cap * bytes) := by
  have := growslice_fits h hb
  omega
theorem zeros_no {u : TypeDesc} (h : noInt u = true) : (match u with | .int _ => true | _ => false) = false := by
  cases u <;> first | rfl | (simp [noInt] at h)
theorem app_room {t t' ty e : TypeId} {u : TypeDesc} {i : TypeInfo} (ht : P.underlying t = some (.slice e)) (hu : P.underlying t' = some u) (hni : noInt u = true) (hi : P.info? e = some i) {a : Option Addr} {sLen sCap n : Nat} {xv : Value} {us : Array Value} {w : World}
    (hlen : ∀ w, (Builtin.lenOf xv).run P w = .ok n w) (hfirst : (Builtin.firstCells i.size n xv).run P w = .ok us w) (hneed : sLen + n ≤ sCap) :
    (Builtin.append_ #[t, t'] ty #[.slice a sLen sCap, xv]).run P w = ((match a with | some a => storeCells (a.add (sLen * i.size)) us.toList | none => pure ()).run P w).andThen fun _ w' => .ok (.slice a (sLen + n) sCap) w' := by
  have a0 : (#[t, t'] : Array TypeId)[0]? = some t := rfl
  have a1 : (#[t, t'] : Array TypeId)[1]? = some t' := rfl
  have b0 : (#[.slice a sLen sCap, xv] : Array Value)[0]? = some (.slice a sLen sCap) := rfl
  have b1 : (#[.slice a sLen sCap, xv] : Array Value)[1]? = some xv := rfl
  cases u <;> first
    | (simp [noInt] at hni; done)
    | (cases a <;> simp only [Builtin.append_, a0, a1, b0, b1, Sem.run_bind, run_underlying ht, run_underlying hu, Result.andThen_ok, sizeOf, typeInfo, run_program, hi, Sem.run_pure, Bool.false_eq_true, if_false, hlen, if_pos hneed, Bool.not_false, if_true, hfirst] <;> rfl)
theorem app_grow {t t' ty e : TypeId} {u : TypeDesc} {i : TypeInfo} {z : Value} (ht : P.underlying t = some (.slice e)) (hu : P.underlying t' = some u) (hni : noInt u = true) (hi : P.info? e = some i) (hz : i.zero = some z) {a : Option Addr} {sLen sCap n : Nat} {xv : Value} {us olds : Array Value} {w : World}
    (hlen : ∀ w, (Builtin.lenOf xv).run P w = .ok n w) (hold : (Builtin.firstCells i.size sLen (.slice a sLen sCap)).run P w.drew = .ok olds w.drew) (hfirst : (Builtin.firstCells i.size n xv).run P w.drew = .ok us w.drew)
    (hneed : ¬ (sLen + n ≤ sCap)) (h63 : sLen + n ≤ 9223372036854775807) (hfit : ¬ (281474976710656 < Builtin.nextslicecap (sLen + n) sCap * i.bytes)) :
    (Builtin.append_ #[t, t'] ty #[.slice a sLen sCap, xv]).run P w = .ok (.slice (some ⟨w.heap.size, 0, none⟩) (sLen + n) (grownCap w (sLen + n) sCap e)) (w.drew.alloc (.cells (olds ++ us ++ Builtin.zeroCells z.cells (grownCap w (sLen + n) sCap e - (sLen + n))) e)) := by
  have a0 : (#[t, t'] : Array TypeId)[0]? = some t := rfl
  have a1 : (#[t, t'] : Array TypeId)[1]? = some t' := rfl
  have b0 : (#[.slice a sLen sCap, xv] : Array Value)[0]? = some (.slice a sLen sCap) := rfl
  have b1 : (#[.slice a sLen sCap, xv] : Array Value)[1]? = some xv := rfl
  have hcond : ¬ (((sLen + n : Nat) : Int) > IntKind.i64.max ∧ i.bytes = 0) := by rw [IntKind.max_i64]; omega
  have hfit' : ¬ (Builtin.nextslicecap (sLen + n) sCap * i.bytes > 2 ^ 48) := by omega
  cases u <;> first
    | (simp [noInt] at hni; done)
    | (simp only [Builtin.append_, a0, a1, b0, b1, Sem.run_bind, run_underlying ht, run_underlying hu, Result.andThen_ok, sizeOf, typeInfo, run_program, hi, hz, zeroValue, Sem.run_pure, Bool.false_eq_true, if_false, hlen, if_neg hneed, Bool.not_false, if_true, false_or, if_neg hcond, if_neg hfit', run_choose_drew, Question.forced, run_askRoom, hold, hfirst, newRow, run_newObj_alloc, grownCap]; rfl)
theorem rel_heap {ρ : Ren} {h : Nat → Option Reg} {w w' : World} (hR : Rel M ρ base h w) (hw : w'.heap = w.heap) : Rel M ρ base h w' :=
  ⟨⟨by rw [hw]; exact hR.bs.1, hR.bs.2.keep fun b _ => by rw [hw]⟩, fun r l k => by rw [hw]; exact hR.lt r l k, hR.dom, hR.top, fun r g l a b c => (hR.reg r g l a b c).mono (fun _ _ k => k) (by rw [hw]), hR.inj⟩
theorem zc_size (z : Array Value) (n : Nat) : (Builtin.zeroCells z n).size = n * z.size := by simp [Builtin.zeroCells]
theorem y_append {o : Oper} {c : Call} {H H' : AHeap} {v : AV} (ho : o.op = .call c) (ht : LR ρ ts A.tmps.toList) {w : World} (hR : Rel M ρ base (hf H) w) (hM : H'.length ≤ M) (hv : evWrite P ts o.op H = some (v, H')) : Yw P M ρ base A o H w v H' := by
  rw [ho] at hv
  obtain ⟨cal, ⟨al⟩, ⟨tl⟩⟩ := c
  simp only [evWrite] at hv
  split at hv
  case h_2 => cases hv
  rename_i s x t t'
  have hred : ∀ (nv : Value) (w1 : World), (Builtin.append_ #[t, t'] o.type #[A.eval s, A.eval x]).run P w = .ok nv w1 → (execOp A.eval o).run P w = .ok (.value nv) w1 := by
    intro nv w1 hr
    unfold execOp
    rw [ho]
    simp [resolve, invoke, builtin, hr]
  split at hv
  case h_2 => cases hv
  rename_i e u hte hu
  split at hv
  case h_2 => cases hv
  rename_i i z news hi hz hsrc
  split at hv
  case isFalse => cases hv
  rename_i hh
  obtain ⟨hs0, hzs, hni, hall⟩ := hh
  have hzz : i.zero = some z := by rw [hi] at hz; simpa using hz
  have hcell : P.cellsOf e = i.size := by simp [Program.cellsOf, hi]
  rw [hcell] at hs0 hzs hsrc hv
  obtain ⟨n, us, hlen, hnl, hLRn, hfirst⟩ := src_run hR (VR.eval ht x) hsrc
  have hnn : news.length / i.size = n := by rw [hnl]; exact Nat.mul_div_cancel _ hs0
  have husz : us.size = n * i.size := by rw [← hnl, hLRn.1, Array.length_toList]
  have hone : ∀ q ∈ us.toList, q.oneCell' = true := by
    intro q hq
    obtain ⟨j, hj⟩ := List.mem_iff_getElem?.1 hq
    obtain ⟨a, ha, hvr⟩ := hLRn.get' hj
    rw [← hvr.one]
    exact List.all_eq_true.1 hall a (List.mem_of_getElem? ha)
  rw [hnn] at hv
  have mkNew : ∀ (old : List AV) (olds : Array Value) (len cap : Nat) (a : Option Addr) (h0 : Nat → Option Reg), Rel M ρ base h0 w → h0 H.length = none → ρ H.length = none → H.length < M → LR ρ old olds.toList → old.length = len * i.size → A.eval s = .slice a len cap → (Builtin.firstCells i.size len (.slice a len cap)).run P w.drew = .ok olds w.drew →
      ¬ (len + n ≤ cap) → (len + n) * i.bytes ≤ 140737488355328 → len + news.length ≤ 140737488355328 →
      ∃ w' ρ' cv, (execOp A.eval o).run P w = .ok (.value cv) w' ∧ VR ρ' (.sl H.length 0 (len + n) i.size) cv ∧ Rel M ρ' base (fun r => if r = H.length then some ⟨old ++ news, true, true⟩ else h0 r) w' ∧ Grow M H.length ρ h0 w ρ' (fun r => if r = H.length then some ⟨old ++ news, true, true⟩ else h0 r) w' := by
    intro old olds len cap a h0 hR0 hid hρid hidM hold hol hes hrun hroom hby hcnt
    have hn63 : len + n ≤ 9223372036854775807 := by
      have : n ≤ n * i.size := Nat.le_mul_of_pos_right _ hs0
      omega
    have hgrow := app_grow (ty := o.type) hte hu hni hi hzz hlen hrun (hfirst w.drew rfl) hroom hn63 (grow_fits (by omega) hby)
    have hcap := grownCap_ge w (len + n) cap e
    have hcs : (olds ++ us ++ Builtin.zeroCells z.cells (grownCap w (len + n) cap e - (len + n))).size = grownCap w (len + n) cap e * i.size := by
      have h1 : olds.size = len * i.size := by rw [← hol, hold.1, Array.length_toList]
      rw [Array.size_append, Array.size_append, zc_size, h1, husz, hzs, ← Nat.add_mul, ← Nat.add_mul]
      congr 1
      omega
    have hLRa : LR ρ (old ++ news) ((olds ++ us ++ Builtin.zeroCells z.cells (grownCap w (len + n) cap e - (len + n))).toList.take (old ++ news).length) := by
      have h1 := hold.append hLRn
      have h2 : (olds.toList ++ us.toList).length = (old ++ news).length := h1.1.symm
      rw [Array.toList_append, Array.toList_append, List.take_append_of_le_length (by omega), List.take_of_length_le (by omega)]
      exact h1
    have hm := made_drew (made_alloc w.drew (olds ++ us ++ Builtin.zeroCells z.cells (grownCap w (len + n) cap e - (len + n))) e)
    have hle : (old ++ news).length ≤ (olds ++ us ++ Builtin.zeroCells z.cells (grownCap w (len + n) cap e - (len + n))).size := by
      rw [hcs, List.length_append, hol, hnl, ← Nat.add_mul]
      exact Nat.mul_le_mul_right _ hcap
    obtain ⟨q1, q2⟩ := rel_made (id := H.length) (N := H.length) hR0 hm hρid (.inl hid) hidM (Nat.le_refl _) hle hLRa (fun i _ => by simp)
    refine ⟨_, _, _, hred _ _ (by rw [hes]; exact hgrow), ?_, q1, q2⟩
    have := VR.sl (ρ := fun r => if r = H.length then some (⟨w.heap.size, 0, (olds ++ us ++ Builtin.zeroCells z.cells (grownCap w (len + n) cap e - (len + n))).size⟩ : Loc) else ρ r) (r := H.length) (off := 0) (len := len + n) (sz := i.size) (cap := grownCap w (len + n) cap e) (if_pos rfl) hcap (by simp only [Nat.zero_add]; rw [hcs]; exact Nat.le_refl _)
    simpa using this
  have hHid : hf H H.length = none := by simp [hf]
  have hρid : H.length < M → ρ H.length = none := by
    intro hlt
    cases hx : ρ H.length with
    | none => rfl
    | some l =>
      rcases hR.dom _ l hx with ⟨g, hg⟩ | k
      · rw [hHid] at hg; cases hg
      · omega
  split at hv
  · -- a nil slice
    rename_i hs
    have hes := sc_ev ht hs
    split at hv
    case isFalse => cases hv
    rename_i hb
    split at hv
    · rename_i h0
      simp only [Option.some.injEq, Prod.mk.injEq] at hv
      obtain ⟨rfl, rfl⟩ := hv
      have hn0 : n = 0 := by
        rw [h0] at hnl
        rcases Nat.mul_eq_zero.1 hnl.symm with k | k
        · exact k
        · omega
      subst hn0
      have := app_room (ty := o.type) (a := none) (sLen := 0) (sCap := 0) hte hu hni hi hlen (hfirst w rfl) (by omega)
      refine ⟨_, w, ρ, _, hred _ _ (by rw [hes]; simpa using this), .inl rfl, .sc _, hR, Grow.refl _ _ _ _ _⟩
    · rename_i h0
      simp only [Option.some.injEq, Prod.mk.injEq] at hv
      obtain ⟨rfl, rfl⟩ := hv
      have hidM : H.length < M := by simp at hM; omega
      have hn0 : ¬ (0 + n ≤ 0) := by
        intro k
        have : n = 0 := by omega
        subst this
        simp at hnl
        exact h0 (by simp [hnl])
      obtain ⟨w', ρ', cv, a1, a2, a3, a4⟩ := mkNew [] #[] 0 0 none (hf H) hR hHid (hρid hidM) hidM LR.nil (by simp) hes (by simp [Builtin.firstCells]) hn0 (by simpa using hb.1) (by simpa using hb.2)
      refine ⟨_, w', ρ', cv, a1, .inl rfl, by simpa using a2, ?_, ?_⟩
      · rw [hf_snoc]; simpa using a3
      · rw [hf_snoc]; simpa using a4
  · -- a row of one's own
    rename_i r len sz hs
    split at hv
    case h_2 => cases hv
    rename_i g hg
    split at hv
    case isFalse => cases hv
    rename_i hb
    obtain ⟨hsz, hl, hown, hfit, hby, hcnt⟩ := hb
    subst hsz
    simp only [Option.some.injEq, Prod.mk.injEq] at hv
    obtain ⟨rfl, rfl⟩ := hv
    rw [hnn] at hby
    have hidM : H.length < M := by simp [killReg] at hM; omega
    obtain ⟨l, hρ, hcase⟩ := sl_ev ht hs
    have hr : hf H r = some g := hg
    have hne : r ≠ H.length := by rintro rfl; rw [hHid] at hr; cases hr
    have hreg := hR.reg r g l hr hl hρ
    obtain ⟨c, el, fz, h1, h2, h3, h4, h5, _⟩ := hreg
    obtain ⟨hlo, hbase, hz0⟩ := h5 hown
    obtain ⟨hk1, hk2⟩ := rel_kill hR hr
    have hkid : (fun r' => if r' = r then some { g with live := false } else hf H r') H.length = none := by simp only [if_neg (Ne.symm hne)]; exact hHid
    have hfin : hf (killReg H r ++ [⟨g.cs.take (len * i.size) ++ news, true, true⟩]) = fun r' => if r' = H.length then some ⟨g.cs.take (len * i.size) ++ news, true, true⟩ else if r' = r then some { g with live := false } else hf H r' := by
      rw [hf_snoc, hf_killReg H hg]
      have : (killReg H r).length = H.length := by simp [killReg]
      rw [this]
    have hgr : ∀ r0 g0, hf H r0 = some g0 → ∃ g', (fun r' => if r' = r then some { g with live := false } else hf H r') r0 = some g' := by
      intro r0 g0 hg0
      by_cases e : r0 = r
      · exact ⟨_, if_pos e⟩
      · exact ⟨g0, by simp only [if_neg e]; exact hg0⟩
    have holdlen : (g.cs.take (len * i.size)).length = len * i.size := by rw [List.length_take]; omega
    rcases hcase with ⟨cap, hle, hcfit, e1⟩ | ⟨hlen0, q, e1⟩
    · by_cases hroom : len + n ≤ cap
      · -- in place
        rw [hlo] at hcfit
        simp only [Nat.zero_add, Nat.add_zero] at hcfit
        have hfit2 : len * i.size + n * i.size ≤ l.n := by
          have : (len + n) * i.size ≤ cap * i.size := Nat.mul_le_mul_right _ hroom
          rw [Nat.add_mul] at this
          omega
        obtain ⟨w', c', k1, k2, k3, k4⟩ := wr_all (P := P) (b := l.b) (off := len * i.size) us.toList 0 c w h1 (by rw [Array.length_toList, husz, h2]; omega) (by rw [h2]; exact hz0) hone
        have happ := app_room (ty := o.type) (a := some ⟨l.b, l.o + 0, none⟩) (sLen := len) (sCap := cap) hte hu hni hi hlen (hfirst w rfl) hroom
        have hLRa : LR ρ (g.cs.take (len * i.size) ++ news) (c'.toList.take (g.cs.take (len * i.size) ++ news).length) := by
          rw [hlo, List.drop_zero] at h4
          have h6 := (h4.take (len * i.size)).append hLRn
          rw [List.take_take, Nat.min_eq_left hfit] at h6
          have h7 : (c.toList.take (len * i.size) ++ us.toList).length = (g.cs.take (len * i.size) ++ news).length := h6.1.symm
          rw [k4]
          simp only [Nat.add_zero]
          rw [List.take_append_of_le_length (by omega), ← h7, List.take_length]
          exact h6
        obtain ⟨q1, q2⟩ := rel_room (id := H.length) (cs' := g.cs.take (len * i.size) ++ news) hR hr hl hown hρ hHid (hρid hidM) hidM k2 (by omega) (by rw [List.length_append, holdlen, hnl]; exact hfit2) hLRa hz0
        refine ⟨_, w', _, .slice (some ⟨l.b, l.o + 0, none⟩) (len + n) cap, hred _ _ ?_, .inl rfl, ?_, by rw [hfin]; exact q1, by rw [hfin]; exact q2⟩
        · rw [e1, happ]
          simp only [hlo, Nat.add_zero, Addr.add_lit, Nat.zero_add, k1, Result.andThen_ok]
        · rw [hnn]
          exact VR.sl (ρ := fun r' => if r' = H.length then some l else ρ r') (r := H.length) (off := 0) (len := len + n) (sz := i.size) (cap := cap) (if_pos rfl) hroom (by rw [hlo]; omega)
      · obtain ⟨us0, b1, b2⟩ := loadCells_run (P := P) (hR.reg r g l hr hl hρ) (off := 0) (n := len * i.size) (by omega)
        rw [List.drop_zero] at b2
        obtain ⟨us1, d1, d2⟩ := loadCells_run (P := P) ((rel_heap (w' := w.drew) hR rfl).reg r g l hr hl hρ) (off := 0) (n := len * i.size) (by omega)
        rw [List.drop_zero] at d2
        obtain ⟨w', ρ', cv, a1, a2, a3, a4⟩ := mkNew (g.cs.take (len * i.size)) us1 len cap (some ⟨l.b, l.o + 0, none⟩) _ hk1 hkid (hρid hidM) hidM d2 holdlen e1 (by simpa [Builtin.firstCells] using d1) hroom hby hcnt
        refine ⟨_, w', ρ', cv, a1, .inl rfl, by rw [hnn]; exact a2, by rw [hfin]; exact a3, ?_⟩
        rw [hfin]
        exact Grow.trans hR hk1.top (hk2 (by rw [hρ]; simp)) a4
    · subst hlen0
      by_cases hroom : 0 + n ≤ 0
      · have hn0 : n = 0 := by omega
        subst hn0
        have hnews : news = [] := List.eq_nil_of_length_eq_zero (by simpa using hnl)
        subst hnews
        have happ := app_room (ty := o.type) (a := some ⟨l.b, q, none⟩) (sLen := 0) (sCap := 0) hte hu hni hi hlen (hfirst w rfl) (by omega)
        have hus0 : us = #[] := by apply Array.eq_empty_of_size_eq_zero; simpa using husz
        obtain ⟨q1, q2⟩ := rel_room (id := H.length) (cs' := g.cs.take (0 * i.size) ++ []) (w' := w) hR hr hl hown hρ hHid (hρid hidM) hidM ⟨rfl, rfl, rfl, rfl, fun _ _ => rfl, h1⟩ h2 (by simp) (by simpa using LR.nil) hz0
        refine ⟨_, w, _, .slice (some ⟨l.b, q, none⟩) 0 0, hred _ _ ?_, .inl rfl, ?_, by rw [hfin]; exact q1, by rw [hfin]; exact q2⟩
        · rw [e1, happ, hus0]
          simp [storeCells]
        · rw [hnn]
          exact VR.sl0 (ρ := fun r' => if r' = H.length then some l else ρ r') (r := H.length) (off := 0) (sz := i.size) (if_pos rfl)
      · obtain ⟨w', ρ', cv, a1, a2, a3, a4⟩ := mkNew (g.cs.take (0 * i.size)) #[] 0 0 (some ⟨l.b, q, none⟩) _ hk1 hkid (hρid hidM) hidM (by simpa using LR.nil) (by simp) e1 (by simp [Builtin.firstCells, loadCells, loadCellsFrom]) hroom hby hcnt
        refine ⟨_, w', ρ', cv, a1, .inl rfl, by rw [hnn]; exact a2, by rw [hfin]; exact a3, ?_⟩
        rw [hfin]
        exact Grow.trans hR hk1.top (hk2 (by rw [hρ]; simp)) a4
  · cases hv
theorem evWrite_sound {o : Oper} {H H' : AHeap} {v : AV} (ht : LR ρ ts A.tmps.toList) {w : World} (hR : Rel M ρ base (hf H) w) (hM : H'.length ≤ M) (hv : evWrite P ts o.op H = some (v, H')) : Yw P M ρ base A o H w v H' := by
  cases hop : o.op
  case store => exact y_store hop ht hR hM hv
  case call => exact y_append hop ht hR hM hv
  all_goals (rw [hop] at hv; simp [evWrite] at hv)
end
end Go.Proofs.YtfgmmklljibbiaaDoor.Sim

