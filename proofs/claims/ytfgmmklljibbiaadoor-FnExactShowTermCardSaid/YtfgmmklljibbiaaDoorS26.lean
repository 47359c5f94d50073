/- Functions by what must be so of what they give. -/
import Derived.Test.YtfgmmklljibbiaaDoorS25
namespace Go.Proofs.YtfgmmklljibbiaaDoor.Sim
open Go
set_option linter.unusedSimpArgs false
set_option linter.unusedVariables false
def retP (P : Program) (rs : List ResultVar) (Q : AV → AHeap → Prop) (s : St) : Prop :=
  match ressA P s rs with
  | some vs => Q (packA vs) s.H
  | none => False
theorem Sound.runP {P : Program} {f : FuncId} {fn : Func} {c : Code} {args : List AV} {H : AHeap} (n : Nat) (rs : List ResultVar) (hf : P.funcs[f]? = some fn) (hb : fn.body = some c) (hnt : fn.ntmps = n) (hrs : fn.results.toList = rs) (hn : (fn.name == "runtime.NumGoroutine") = false) (hl : args.length ≤ n)
    (Q : AV → AHeap → Prop) (h : awp P c (retP P rs Q) (fun _ _ => False) (retP P rs Q) ⟨tab n (par args), H⟩) : ∃ v H', Sound P f args H v H' ∧ Q v H' := by
  subst hnt
  subst hrs
  have h0 := tab_init _ _ hl
  change _ = tab fn.ntmps (par args) at h0
  rw [← h0] at h
  obtain ⟨e, s', h1, h2⟩ := awp_ex _ _ _ _ _ h
  have key : (e = .normal ∨ e = .ret) ∧ retP P fn.results.toList Q s' := by
    cases e with
    | normal => exact ⟨.inl rfl, h2⟩
    | exit id => exact h2.elim
    | ret => exact ⟨.inr rfl, h2⟩
  obtain ⟨k1, k2⟩ := key
  unfold retP at k2
  split at k2
  · rename_i vs hvs
    exact ⟨_, _, Body.sound ⟨fn, c, e, s', vs, hf, hb, hn, hl, h1, k1, hvs, rfl, rfl⟩, k2⟩
  · exact k2.elim
section
variable {P : Program} {n : Nat} {T : Nat → AV} {H : AHeap} {Q : AV → AHeap → Prop}
theorem res_tmp {t : Tmp} (h : t < n) : resA P ⟨tab n T, H⟩ (.tmp t) = some (T t) := by simp [resA, tab, h]
theorem res_cell {a : Tmp} {t : TypeId} (h : a < n) : resA P ⟨tab n T, H⟩ (.cell a t) = rdV P t (T a) H := by
  have e : evRead P (tab n T) (.load t (.tmp a)) H = rdV P t (T a) H := by
    rw [← ev_tab n T a h]
    rfl
  simp only [resA, e]
theorem retP_0 : retP P [] Q ⟨tab n T, H⟩ = Q (.tup []) H := rfl
theorem retP_1 {x : ResultVar} : retP P [x] Q ⟨tab n T, H⟩ = onS (resA P ⟨tab n T, H⟩ x) fun u => Q u H := by
  simp only [retP, ressA]
  cases resA P ⟨tab n T, H⟩ x <;> rfl
theorem retP_2 {x y : ResultVar} : retP P [x, y] Q ⟨tab n T, H⟩ = onS (resA P ⟨tab n T, H⟩ x) fun u => onS (resA P ⟨tab n T, H⟩ y) fun v => Q (.tup [u, v]) H := by
  simp only [retP, ressA]
  cases resA P ⟨tab n T, H⟩ x <;> cases resA P ⟨tab n T, H⟩ y <;> rfl
theorem retP_3 {x y z : ResultVar} : retP P [x, y, z] Q ⟨tab n T, H⟩ = onS (resA P ⟨tab n T, H⟩ x) fun u => onS (resA P ⟨tab n T, H⟩ y) fun v => onS (resA P ⟨tab n T, H⟩ z) fun w => Q (.tup [u, v, w]) H := by
  simp only [retP, ressA]
  cases resA P ⟨tab n T, H⟩ x <;> cases resA P ⟨tab n T, H⟩ y <;> cases resA P ⟨tab n T, H⟩ z <;> rfl
theorem ret_ct {a u : Tmp} {t : TypeId} {v : AV} (h : a < n) (k : u < n) : retIs P [.cell a t, .tmp u] v ⟨tab n T, H⟩ = onS (rdV P t (T a) H) fun x => .tup [x, T u] = v := by
  simp only [retIs, ressA, res_cell h, res_tmp k]
  cases rdV P t (T a) H <;> rfl
end
/-- Nothing was given that lies in memory; one region is kept. -/
theorem Sound.fresh {P : Program} {f : FuncId} {as : List AV} {v u : AV} {Z : AHeap} (H : AHeap) (k : Nat) (g : Reg) (hs : Sound P f as [] v Z) (hg : Z[k]? = some g) (hf : FlatReg g) (ha : ∀ a, a ∈ as → Flat a) (mv : MV (fun r => if r = k then some H.length else none) v u) : Sound P f as H u (H ++ [g]) := by
  have ml : ∀ as : List AV, (∀ a, a ∈ as → Flat a) → ML (([] : List Nat)[·]?) as as := by
    intro as
    induction as with
    | nil => intro _; exact .nil
    | cons a as ih => intro h; exact .cons (.flat (h a (by simp))) (ih fun b hb => h b (List.mem_cons_of_mem _ hb))
  refine Sound.move1 [] k g hs (Nat.zero_le _) hg hf rfl (by simp) (fun i x h => by simp at h) (ml as ha) ?_
  have e : (fun r => if r = k then some H.length else ([] : List Nat)[r]?) = fun r => if r = k then some H.length else none := by
    funext r
    split
    · rfl
    · simp
  rw [e]
  exact mv
end Go.Proofs.YtfgmmklljibbiaaDoor.Sim

