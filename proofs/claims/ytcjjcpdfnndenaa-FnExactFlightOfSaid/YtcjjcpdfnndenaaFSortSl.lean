/- What the library does with a slice of numbers in place: sorted; one of each run. -/
import Derived.Test.YtcjjcpdfnndenaaS26
import Derived.Test.YtcjjcpdfnndenaaShelf
namespace Go.Proofs.Ytcjjcpdfnndenaa.Sim
open Go
set_option maxRecDepth 100000
set_option maxHeartbeats 4000000
set_option linter.unusedSimpArgs false
set_option linter.unusedVariables false
theorem ints_sc (k : IntKind) (l : List Int) : ints k l = (l.map (Value.int k)).map .sc := by simp [ints]
theorem hf_set {H : AHeap} {r : Nat} (h : r < H.length) (g' : Reg) : hf (H.set r g') = fun r' => if r' = r then some g' else hf H r' := by
  funext r'
  unfold hf
  by_cases e : r' = r
  · subst e
    rw [if_pos rfl, List.getElem?_set_self h]
  · rw [if_neg e, List.getElem?_set_ne (fun k => e k.symm)]
theorem rel_more {M N base : Nat} {ρ : Ren} {h : Nat → Option Reg} {w w' : World} (hR : Rel M ρ base h w) (hos : w'.os = w.os) (ht : w'.tape = w.tape) (ho : w'.output = w.output) (hs : w.heap.size ≤ w'.heap.size) (hf : ∀ b, b < w.heap.size → w'.heap[b]? = w.heap[b]?) : Rel M ρ base h w' ∧ Grow M N ρ h w ρ h w' :=
  ⟨⟨Nat.le_trans hR.bs hs, fun r l h => Nat.lt_of_lt_of_le (hR.lt r l h) hs, hR.dom, hR.top, fun r g l h1 h2 h3 => (hR.reg r g l h1 h2 h3).mono (fun _ _ h => h) (hf _ (hR.lt r l h3)), hR.inj⟩, ⟨hos, ht, ho, hs, fun b hb _ => hf b hb, fun _ _ h => h, fun _ _ _ _ k => ⟨k, rfl⟩, fun _ _ a b => (by rw [a] at b; cases b), fun _ _ _ a b c => (by rw [a] at b; injection b with b; subst b; exact ⟨c, rfl⟩), fun _ g k => ⟨g, k⟩, fun _ _ => rfl⟩⟩
theorem wr_rowS {w : World} {b : Nat} {c : Array Value} {e : TypeId} {fz : Nat × Nat} (hb : w.heap[b]? = some (.cells c e fz)) (d : List Int) (n : Nat) : Wr w (Sort.putRow (Value.int .i64) (Sort.ahead w n) b 0 d.toArray) b (Sort.putCells (Value.int .i64) 0 d.toArray c) e fz := by
  refine ⟨rfl, rfl, rfl, ?_, ?_, ?_⟩
  · simp [Sort.putRow, Sort.mapBlock, Sort.ahead]
  · intro k hk
    simp only [Sort.putRow, Sort.mapBlock, Sort.ahead, Array.getElem?_modify]
    rw [if_neg (Ne.symm hk)]
  · simp only [Sort.putRow, Sort.mapBlock, Sort.ahead, Array.getElem?_modify, if_true, hb, Option.map_some]
    rfl
theorem put_take (d : List Int) (c : Array Value) (h : d.length ≤ c.size) : ((Sort.putCells (Value.int .i64) 0 d.toArray c).toList).take d.length = d.map (Value.int .i64) := by
  apply List.ext_getElem?
  intro i
  by_cases hi : i < d.length
  · have hc : i < c.size := by omega
    rw [List.getElem?_take_of_lt hi, Array.getElem?_toList]
    simp [Sort.putCells, hi, hc]
  · rw [List.getElem?_eq_none (by rw [List.length_take]; omega), List.getElem?_eq_none (by simpa using hi)]
theorem rowIn {M base r : Nat} {ρ : Ren} {H : AHeap} {w : World} {l : Loc} {zs : List Int} (hR : Rel M ρ base (hf H) w) (hr : H[r]? = some ⟨ints .i64 zs, true, true⟩) (hρ : ρ r = some l) :
    l.o = 0 ∧ l.b < w.heap.size ∧ Sort.Holds (Value.int .i64) w l.b 0 zs.toArray ∧ ∀ (N : Nat) (d : List Int) (m n : Nat) (os : Array Obj), d.length = zs.length → m ≤ d.length →
      Rel M ρ base (hf (H.set r ⟨ints .i64 (d.take m), true, true⟩)) (Sort.grow (Sort.putRow (Value.int .i64) (Sort.ahead w n) l.b 0 d.toArray) os) ∧ Grow M N ρ (hf H) w ρ (hf (H.set r ⟨ints .i64 (d.take m), true, true⟩)) (Sort.grow (Sort.putRow (Value.int .i64) (Sort.ahead w n) l.b 0 d.toArray) os) := by
  obtain ⟨c, e, fz, h1, h2, h3, h4, h5, _⟩ := hR.reg r _ l hr rfl hρ
  obtain ⟨h6, h7, h8⟩ := h5 rfl
  have hlt : r < H.length := (List.getElem?_eq_some_iff.1 hr).1
  have hzl : (ints .i64 zs).length = zs.length := by simp [ints]
  rw [h6, ints_sc, List.drop_zero] at h4
  have h9 := LR.scs_eq h4
  simp only [List.length_map] at h9
  have h3' : zs.length ≤ c.size := by simp only [hzl] at h3; omega
  refine ⟨h6, hR.lt r l hρ, ?_, ?_⟩
  · intro j hj
    have hj : j < zs.length := by simpa using hj
    have hjc : j < c.size := by omega
    have hc : c[j]? = some (Value.int .i64 (zs[j]'hj)) := by
      have := congrArg (·[j]?) h9
      simp only [List.getElem?_take_of_lt hj, Array.getElem?_toList, List.getElem?_map, List.getElem?_eq_getElem hj, Option.map_some] at this
      exact this
    refine ⟨?_, ?_⟩
    · simp only [World.cell?, h1, Nat.zero_add]
      rw [hc]
      simp [hj]
    · simp only [World.frozen?, h1, Nat.zero_add]
      have := h8 j (by omega)
      simpa using this
  · intro N d m n os hd hm
    obtain ⟨R1, G1⟩ := rel_store (N := N) (cs' := ints .i64 (d.take m)) hR hr rfl rfl hρ (wr_rowS h1 d n) (by simpa [Sort.putCells] using h2) (by simp [ints]; omega) (by
      have hp := put_take d c (by omega)
      have : (Sort.putCells (Value.int .i64) 0 d.toArray c).toList.take (ints .i64 (d.take m)).length = (d.take m).map (Value.int .i64) := by
        have hl : (ints .i64 (d.take m)).length = min m d.length := by simp [ints]
        rw [hl, ← List.take_take, hp, List.map_take]
      rw [this, ints_sc]
      exact LR.scs _) h8
    rw [show ({ (⟨ints .i64 zs, true, true⟩ : Reg) with cs := ints .i64 (d.take m) } : Reg) = ⟨ints .i64 (d.take m), true, true⟩ from rfl, ← hf_set hlt] at R1 G1
    obtain ⟨R2, G2⟩ := rel_more (N := N) (w' := Sort.grow (Sort.putRow (Value.int .i64) (Sort.ahead w n) l.b 0 d.toArray) os) R1 rfl rfl rfl (by simp [Sort.grow]) (fun b hb => by simp only [Sort.grow, Array.getElem?_append, if_pos hb])
    exact ⟨R2, G1.trans hR R1.top G2⟩
theorem one_arg {ρ : Ren} {a : AV} {cargs : Array Value} (h : LR ρ [a] cargs.toList) : ∃ cv, cargs = #[cv] ∧ VR ρ a cv := by
  rcases cargs with ⟨l⟩
  match l, h with
  | [cv], h => exact ⟨cv, rfl, h.2 0 a cv rfl rfl⟩
  | [], h => exact absurd h.1 (by simp)
  | _ :: _ :: _, h => exact absurd h.1 (by simp)
theorem set_same {H : AHeap} {r : Nat} {g : Reg} (h : H[r]? = some g) : H.set r g = H := by
  apply List.ext_getElem?
  intro i
  by_cases e : r = i
  · subst e
    rw [List.getElem?_set_self (List.getElem?_eq_some_iff.1 h).1, h]
  · rw [List.getElem?_set_ne e]
def srtL (l : List Int) : List Int := l.mergeSort fun x y => decide (x ≤ y)
theorem sortI {H : AHeap} {r : Nat} {zs : List Int} (hr : H[r]? = some ⟨ints .i64 zs, true, true⟩) (hz : zs.length ≤ 1000000000) : Sound Try.prog 61 [.sl r 0 zs.length 1] H (.tup []) (H.set r ⟨ints .i64 (srtL zs), true, true⟩) := by
  refine ⟨⟨_, _, Try.func61, rfl, rfl⟩, by simp, ?_⟩
  intro M ρ base w cargs hM hR hA
  obtain ⟨cv, rfl, hv⟩ := one_arg hA
  have ht : VR ρ (.tup []) (.tuple #[]) := .tup rfl (fun i a v h => by simp at h)
  generalize hn : zs.length = n at hv
  cases hv with
  | sl hρ hc hb =>
    subst hn
    rename_i cap l
    obtain ⟨k1, k2, k3, k4⟩ := rowIn hR hr hρ
    rw [k1]
    refine (Try.slices_Sort_int l.b 0 cap zs w k3 k2 (by omega)).mono ?_
    rintro e w' ⟨rfl, n, os, rfl⟩
    obtain ⟨a1, a2⟩ := k4 H.length (srtL zs) (srtL zs).length n os (by simp [srtL]) (Nat.le_refl _)
    rw [List.take_length] at a1 a2
    exact ⟨_, ρ, rfl, ht, a1, a2⟩
  | sl0 hρ =>
    have : zs = [] := List.length_eq_zero_iff.1 hn
    subst this
    refine (Try.slices_Sort_int_none _ _ w).mono ?_
    rintro e w' ⟨rfl, rfl⟩
    rw [show srtL [] = [] by simp [srtL], set_same hr]
    exact ⟨_, ρ, rfl, ht, hR, Grow.refl ..⟩
theorem sortN (H : AHeap) : Sound Try.prog 61 [.sc (.slice none 0 0)] H (.tup []) H := by
  refine ⟨⟨_, _, Try.func61, rfl, rfl⟩, Nat.le_refl _, ?_⟩
  intro M ρ base w cargs hM hR hA
  obtain ⟨cv, rfl, hv⟩ := one_arg hA
  cases hv
  refine (Try.slices_Sort_int_none _ _ w).mono ?_
  rintro e w' ⟨rfl, rfl⟩
  exact ⟨_, ρ, rfl, .tup rfl (fun i a v h => by simp at h), hR, Grow.refl ..⟩
theorem cmpct_len (zs : List Int) : (Lib.compact zs).length ≤ zs.length := by
  unfold Lib.compact Lib.compactUpTo
  rw [List.length_map]
  exact Nat.le_trans (List.length_filter_le _ _) (by simp)
theorem compactI {H : AHeap} {r : Nat} {zs : List Int} (hr : H[r]? = some ⟨ints .i64 zs, true, true⟩) (hz : zs.length ≤ 1000000000) : Sound Try.prog 62 [.sl r 0 zs.length 1] H (.sl r 0 (Lib.compact zs).length 1) (H.set r ⟨ints .i64 (Lib.compact zs), true, true⟩) := by
  refine ⟨⟨_, _, Try.func62, rfl, rfl⟩, by simp, ?_⟩
  intro M ρ base w cargs hM hR hA
  obtain ⟨cv, rfl, hv⟩ := one_arg hA
  have hcl := cmpct_len zs
  generalize hn : zs.length = n at hv
  cases hv with
  | sl hρ hc hb =>
    subst hn
    rename_i cap l
    obtain ⟨k1, k2, k3, k4⟩ := rowIn hR hr hρ
    have hb' := hb
    rw [k1] at hb ⊢
    refine (Try.slices_Compact_int l.b 0 cap zs w k3 (by omega) hc).mono ?_
    rintro e w' ⟨rfl, q, rfl⟩
    obtain ⟨a1, a2⟩ := k4 H.length (Lib.compact zs ++ List.replicate (zs.length - (Lib.compact zs).length) 0) (Lib.compact zs).length q #[] (by simp; omega) (by simp)
    rw [List.take_left] at a1 a2
    refine ⟨_, ρ, rfl, ?_, a1, a2⟩
    have := VR.sl (sz := 1) (off := 0) (len := (Lib.compact zs).length) (cap := cap) hρ (by omega) hb'
    rwa [k1] at this
  | sl0 hρ =>
    have : zs = [] := List.length_eq_zero_iff.1 hn
    subst this
    refine (Try.slices_Compact_int_empty _ _ w).mono ?_
    rintro e w' ⟨rfl, rfl⟩
    rw [show Lib.compact ([] : List Int) = [] from rfl, set_same hr]
    exact ⟨_, ρ, rfl, .sl0 hρ, hR, Grow.refl ..⟩
theorem compactN (H : AHeap) : Sound Try.prog 62 [.sc (.slice none 0 0)] H (.sc (.slice none 0 0)) H := by
  refine ⟨⟨_, _, Try.func62, rfl, rfl⟩, Nat.le_refl _, ?_⟩
  intro M ρ base w cargs hM hR hA
  obtain ⟨cv, rfl, hv⟩ := one_arg hA
  cases hv
  refine (Try.slices_Compact_int_empty _ _ w).mono ?_
  rintro e w' ⟨rfl, rfl⟩
  exact ⟨_, ρ, rfl, .sc _, hR, Grow.refl ..⟩
end Go.Proofs.Ytcjjcpdfnndenaa.Sim

