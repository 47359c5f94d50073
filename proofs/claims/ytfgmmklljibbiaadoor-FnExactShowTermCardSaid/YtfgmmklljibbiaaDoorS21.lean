/- Appending. -/
import Derived.Test.YtfgmmklljibbiaaDoorS20
namespace Go.Proofs.YtfgmmklljibbiaaDoor.Sim
open Go
set_option linter.unusedSimpArgs false
set_option linter.unusedVariables false
def apV (P : Program) (a b : Option TypeDesc) (s x : AV) (H : AHeap) : Option (AV × AHeap) :=
  match a, b with
      | some (.slice e), some u =>
        match P.info? e, (P.info? e).bind (·.zero), srcCells H x (P.cellsOf e) with
        | some i, some z, some news =>
          if 0 < P.cellsOf e ∧ z.cells.size = P.cellsOf e ∧ noInt u = true ∧ news.all AV.one = true then
            match s with
            | .sc (.slice none 0 0) =>
              if news.length / P.cellsOf e * i.bytes ≤ 140737488355328 ∧ news.length ≤ 140737488355328 then
                if news.length = 0 then some (.sc (.slice none 0 0), H)
                else some (.sl H.length 0 (news.length / P.cellsOf e) (P.cellsOf e), H ++ [⟨news, true, true⟩]) else none
            | .sl r 0 len sz =>
              match H[r]? with
              | some g =>
                if sz = P.cellsOf e ∧ g.live ∧ g.own ∧ len * sz ≤ g.cs.length ∧ (len + news.length / sz) * i.bytes ≤ 140737488355328 ∧ len + news.length ≤ 140737488355328 then
                  some (.sl H.length 0 (len + news.length / sz) sz, killReg H r ++ [⟨g.cs.take (len * sz) ++ news, true, true⟩])
                else none
              | none => none
            | _ => none
          else none
        | _, _, _ => none
      | _, _ => none
/-- One cell an element: what is appended is already known. -/
def apT (B : Nat) (H : AHeap) (r len : Nat) (g : Option Reg) (news : Option (List AV)) : Option (AV × AHeap) :=
  match g, news with
  | some g, some ns => if g.live = true ∧ g.own = true ∧ len ≤ g.cs.length ∧ (len + ns.length) * B ≤ 140737488355328 ∧ len + ns.length ≤ 140737488355328 ∧ ns.all AV.one = true then
      some (.sl H.length 0 (len + ns.length) 1, killReg H r ++ [⟨g.cs.take len ++ ns, true, true⟩]) else none
  | _, _ => none
def apN (B : Nat) (H : AHeap) (news : Option (List AV)) : Option (AV × AHeap) :=
  match news with
  | some ns => if ns.length * B ≤ 140737488355328 ∧ ns.length ≤ 140737488355328 ∧ ns.all AV.one = true then (if ns.length = 0 then some (.sc (.slice none 0 0), H) else some (.sl H.length 0 ns.length 1, H ++ [⟨ns, true, true⟩])) else none
  | none => none
section
variable {P : Program} {ops : Array Oper} {K : St → Prop} {n : Nat} {T : Nat → AV} {H : AHeap} {d : Tmp} {ty : TypeId} {pos : String} {af : Array Edge}
theorem g_append (s x : Operand) (t t' : TypeId) : opG P ops ⟨some d, .call ⟨.builtin .append, #[s, x], #[t, t']⟩, ty, pos, af, none⟩ K ⟨tab n T, H⟩ = onS (apV P (P.underlying t) (P.underlying t') (ev (tab n T) s) (ev (tab n T) x) H) fun p => K ⟨tab n (upd T d p.1), p.2⟩ := by
  have e : evWrite P (tab n T) (.call ⟨.builtin .append, #[s, x], #[t, t']⟩) H = apV P (P.underlying t) (P.underlying t') (ev (tab n T) s) (ev (tab n T) x) H := rfl
  simp only [opG, opW, clsOf, calleeOf, e, set_tab]
  cases apV P (P.underlying t) (P.underlying t') (ev (tab n T) s) (ev (tab n T) x) H <;> rfl
theorem zero_size {e : TypeId} {c : AV} (hz : zeroA P e = some [c]) : ∃ z, (P.info? e).bind (·.zero) = some z ∧ z.cells.size = 1 := by
  unfold zeroA at hz
  simp only [Option.map_eq_some_iff] at hz
  obtain ⟨z, h1, h2⟩ := hz
  refine ⟨z, h1, ?_⟩
  have := (VR.ofV (ρ := fun _ => none) z).cells.1
  rw [h2] at this
  simpa using this.symm
theorem src_sl (r off q : Nat) : srcCells H (.sl r off q 1) 1 = atT H[r]? off q := by simp [srcCells, at_def]
theorem src_nil : srcCells H (.sc (.slice none 0 0)) 1 = some [] := rfl
theorem src_str (z : ByteArray) : srcCells H (.sc (.string z)) 1 = some (ints .u8 (nums z)) := by simp [srcCells, ints, nums]
theorem ap_sl {e : TypeId} {c : AV} {B : Nat} {u : TypeDesc} (hz : zeroA P e = some [c]) (hi : (P.info? e).map (·.bytes) = some B) (hc : P.cellsOf e = 1) (hu : noInt u = true) (r len : Nat) (x : AV) : apV P (some (.slice e)) (some u) (.sl r 0 len 1) x H = apT B H r len H[r]? (srcCells H x 1) := by
  obtain ⟨z, z1, z2⟩ := zero_size hz
  simp only [Option.map_eq_some_iff] at hi
  obtain ⟨i, i1, rfl⟩ := hi
  unfold apV apT
  simp only [i1, Option.bind_some] at z1 ⊢
  rw [z1]
  simp only [hc, z2, hu]
  cases srcCells H x 1 with
  | none => cases H[r]? <;> rfl
  | some ns =>
    cases hr : H[r]? with
    | none => simp only; split <;> rfl
    | some g =>
      simp only [Nat.mul_one, Nat.div_one]
      by_cases h1 : ns.all AV.one = true
      · by_cases h2 : g.live = true ∧ g.own = true ∧ len ≤ g.cs.length ∧ (len + ns.length) * i.bytes ≤ 140737488355328 ∧ len + ns.length ≤ 140737488355328
        · simp [h1, h2, z2]
        · rw [if_pos ⟨by omega, z2, trivial, h1⟩, if_neg (fun h => h2 h.2), if_neg (fun h => h2 ⟨h.1, h.2.1, h.2.2.1, h.2.2.2.1, h.2.2.2.2.1⟩)]
      · rw [if_neg (fun h => h1 h.2.2.2), if_neg (fun h => h1 h.2.2.2.2.2)]
theorem ap_nil {e : TypeId} {c : AV} {B : Nat} {u : TypeDesc} (hz : zeroA P e = some [c]) (hi : (P.info? e).map (·.bytes) = some B) (hc : P.cellsOf e = 1) (hu : noInt u = true) (x : AV) : apV P (some (.slice e)) (some u) (.sc (.slice none 0 0)) x H = apN B H (srcCells H x 1) := by
  obtain ⟨z, z1, z2⟩ := zero_size hz
  simp only [Option.map_eq_some_iff] at hi
  obtain ⟨i, i1, rfl⟩ := hi
  unfold apV apN
  simp only [i1, Option.bind_some] at z1 ⊢
  rw [z1]
  simp only [hc, z2, hu]
  cases srcCells H x 1 with
  | none => rfl
  | some ns =>
    simp only [Nat.div_one]
    by_cases h1 : ns.all AV.one = true
    · by_cases h2 : ns.length * i.bytes ≤ 140737488355328 ∧ ns.length ≤ 140737488355328
      · simp [h1, h2, z2]
      · rw [if_pos ⟨by omega, z2, trivial, h1⟩, if_neg h2, if_neg (fun h => h2 ⟨h.1, h.2.1⟩)]
    · rw [if_neg (fun h => h1 h.2.2.2), if_neg (fun h => h1 h.2.2)]
theorem ap_ints (B r len : Nat) (k : IntKind) (l m : List Int) : apT B H r len (some ⟨ints k l, true, true⟩) (some (ints k m)) = if len ≤ l.length ∧ (len + m.length) * B ≤ 140737488355328 ∧ len + m.length ≤ 140737488355328 then some (.sl H.length 0 (len + m.length) 1, killReg H r ++ [⟨ints k (l.take len ++ m), true, true⟩]) else none := by
  simp only [apT, ints_len, ints_one, true_and, and_true, ints_take, ints_append]
theorem ap_intsN (B : Nat) (k : IntKind) (m : List Int) : apN B H (some (ints k m)) = if m.length * B ≤ 140737488355328 ∧ m.length ≤ 140737488355328 then (if m.length = 0 then some (.sc (.slice none 0 0), H) else some (.sl H.length 0 m.length 1, H ++ [⟨ints k m, true, true⟩])) else none := by
  simp only [apN, ints_len, ints_one, and_true]
theorem kill_len (r : Nat) : (killReg H r).length = H.length := by simp [killReg]
end
/-! a region by its place -/
theorem at_end (G : AHeap) (g : Reg) : (G ++ [g])[G.length]? = some g := by simp
theorem at_last2 (G : AHeap) (g b : Reg) : (G ++ [g, b])[G.length]? = some g := by simp
theorem at_last1 (G : AHeap) (g b : Reg) : (G ++ [g, b])[G.length + 1]? = some b := by
  rw [List.getElem?_append_right (by omega)]
  simp
theorem at_a (G : AHeap) (g b : Reg) : ((G ++ [g]) ++ [b])[G.length]? = some g := by simp
theorem at_b (G : AHeap) (g b : Reg) : ((G ++ [g]) ++ [b])[G.length + 1]? = some b := by
  rw [List.getElem?_append_right (by simp)]
  simp
theorem at_more (G Z : AHeap) (r : Nat) (h : r < G.length) : (G ++ Z)[r]? = G[r]? := List.getElem?_append_left h
theorem st_end {n : Nat} {T : Nat → AV} {G : AHeap} {A B : List AV} (h : A = B) : (⟨tab n T, G ++ [⟨A, true, true⟩]⟩ : St) = ⟨tab n T, G ++ [⟨B, true, true⟩]⟩ := by rw [h]
/-! pieces -/
theorem bnd_none (d : Nat) : bndV none d = some d := rfl
theorem bnd_int (k : IntKind) (m : Int) (d : Nat) : bndV (some (.sc (.int k m))) d = if 0 ≤ m then some m.toNat else none := rfl
def cutS (z : ByteArray) (l h : Option Nat) : Option AV :=
  match l, h with
  | some l, some h => if l ≤ h ∧ h ≤ z.size then some (.sc (.string (z.extract l h))) else none
  | _, _ => none
theorem cut_str (P : Program) (z : ByteArray) (lo hi : Option AV) : cutV P (some .string) (.sc (.string z)) lo hi = cutS z (bndV lo 0) (bndV hi z.size) := by
  unfold cutV cutS
  rfl
theorem cutS_some (z : ByteArray) (l h : Nat) : cutS z (some l) (some h) = if l ≤ h ∧ h ≤ z.size then some (.sc (.string (z.extract l h))) else none := rfl
def cutL (P : Program) (e : TypeId) (r off len sz : Nat) (l h : Option Nat) : Option AV :=
  match l, h with
  | some l, some h => if l ≤ h ∧ h ≤ len ∧ P.cellsOf e = sz ∧ tyOk P e = true then some (.sl r (off + l * sz) (h - l) sz) else none
  | _, _ => none
theorem cut_sl (P : Program) (e : TypeId) (r off len sz : Nat) (lo hi : Option AV) : cutV P (some (.slice e)) (.sl r off len sz) lo hi = cutL P e r off len sz (bndV lo 0) (bndV hi len) := rfl
theorem cutL_some (P : Program) (e : TypeId) (r off len sz l h : Nat) : cutL P e r off len sz (some l) (some h) = if l ≤ h ∧ h ≤ len ∧ P.cellsOf e = sz ∧ tyOk P e = true then some (.sl r (off + l * sz) (h - l) sz) else none := rfl
/-! rounds that are told ahead -/
def lp (P : Program) (c : Code) (E : Nat → St → Prop) (R : St → Prop) : Nat → St → Prop
  | 0, _ => False
  | n + 1, s => awp P c (fun s' => lp P c E R n s') E R s
theorem lp_s (P : Program) (c : Code) (E : Nat → St → Prop) (R : St → Prop) (n : Nat) (s : St) : lp P c E R (n + 1) s = awp P c (fun s' => lp P c E R n s') E R s := rfl
theorem w_times {P : Program} {c : Code} {K : St → Prop} {E : Nat → St → Prop} {R : St → Prop} {s : St} (n : Nat) (h : lp P c E R n s) : awp P (.loop c) K E R s := by
  refine ⟨n, ?_⟩
  have : ∀ n s, lp P c E R n s → Nat.rec (motive := fun _ => St → Prop) (fun _ => False) (fun _ ih s => awp P c ih E R s) n s := by
    intro n
    induction n with
    | zero => intro s h; exact h.elim
    | succ n ih => intro s h; exact awp_mono c (fun s' h' => ih s' h') (fun _ _ h => h) (fun _ h => h) h
  exact this n s h
/-! drawn regions -/
theorem drawn {P : Program} {i : Nat} {ops : Array Oper} {K : St → Prop} {E : Nat → St → Prop} {R : St → Prop} {s : St} (ps : List (Nat × Nat)) (h1 : P.follows .mixedOrders = true) (h2 : drawOk P ops = true) (h3 : pairs P ops = ps) (h : dopsW P ops ps K ops.toList [] s) : awp P (.region i ops true) K E R s := ⟨h1, h2, ps, h3, h⟩
theorem dops_0 {P : Program} {ops : Array Oper} {K : St → Prop} {hs : List St} {s : St} : dopsW P ops [] K [] hs s = K s := by simp [dopsW]
end Go.Proofs.YtfgmmklljibbiaaDoor.Sim

