/- Terms in an arena: right nodes, sizes, texts; plain law. -/
import Derived.Test.YtfgmmklljibbiaaDoorFRwNL
import Derived.Test.YtfgmmklljibbiaaDoorFItoaC
namespace Go.Proofs.YtfgmmklljibbiaaDoor.Sim
open Go
set_option linter.unusedSimpArgs false
set_option linter.unusedVariables false
def okN (k n a c i : Int) : Prop := (k = 1 ∧ 0 ≤ n ∧ n ≤ 999999 ∧ a = 0 ∧ c = 0) ∨ ((k = 3 ∨ k = 6) ∧ n = 0 ∧ 0 ≤ a ∧ a ≤ i - 1 ∧ c = 0) ∨ (2 ≤ k ∧ k ≤ 9 ∧ k ≠ 3 ∧ k ≠ 6 ∧ n = 0 ∧ 0 ≤ a ∧ a ≤ i - 1 ∧ 0 ≤ c ∧ c ≤ i - 1)
instance (k n a c i : Int) : Decidable (okN k n a c i) := by unfold okN; infer_instance
def okR (p : Rw kNode) (i : Nat) : Prop := okN (p.int 0) (p.int 1) (p.int 2) (p.int 3) i
def hasB (k : Int) : Prop := k ≠ 1 ∧ k ≠ 3 ∧ k ≠ 6
instance (k : Int) : Decidable (hasB k) := by unfold hasB; infer_instance
def allOk (l : List (Rw kNode)) : Prop := ∀ (i : Nat) p, l[i]? = some p → okR p i
def szStep (acc : List Int) (p : Rw kNode) : Int := min 100000 (1 + (if p.int 0 = 1 then 0 else acc.getD (p.int 2).toNat 0) + (if hasB (p.int 0) then acc.getD (p.int 3).toNat 0 else 0))
def szs (l : List (Rw kNode)) : List Int := l.foldl (fun acc p => acc ++ [szStep acc p]) []
def letT (k : Int) : ByteArray := [ByteArray.empty, (⟨#[97]⟩ : ByteArray), (⟨#[112]⟩ : ByteArray), (⟨#[104]⟩ : ByteArray), (⟨#[107]⟩ : ByteArray), (⟨#[115]⟩ : ByteArray), (⟨#[117]⟩ : ByteArray), (⟨#[100]⟩ : ByteArray), (⟨#[103]⟩ : ByteArray), (⟨#[109]⟩ : ByteArray)].getD k.toNat ByteArray.empty
def txStep (acc : List ByteArray) (p : Rw kNode) : ByteArray :=
  if p.int 0 = 1 then (⟨#[97]⟩ : ByteArray) ++ decT (p.int 1).toNat
  else letT (p.int 0) ++ (⟨#[40]⟩ : ByteArray) ++ acc.getD (p.int 2).toNat ByteArray.empty ++ (if hasB (p.int 0) then (⟨#[44]⟩ : ByteArray) ++ acc.getD (p.int 3).toNat ByteArray.empty else ByteArray.empty) ++ (⟨#[41]⟩ : ByteArray)
def txs (l : List (Rw kNode)) : List ByteArray := l.foldl (fun acc p => acc ++ [txStep acc p]) []
theorem fold_len {α β : Type} (f : List β → α → β) : ∀ (l : List α) (acc : List β), (l.foldl (fun acc p => acc ++ [f acc p]) acc).length = acc.length + l.length := by
  intro l
  induction l with
  | nil => intro acc; rfl
  | cons p l ih =>
    intro acc
    rw [List.foldl_cons, ih, List.length_append, List.length_cons]
    simp
    omega
theorem fold_pre {α β : Type} (f : List β → α → β) : ∀ (l : List α) (acc : List β) (j : Nat), j < acc.length → (l.foldl (fun acc p => acc ++ [f acc p]) acc)[j]? = acc[j]? := by
  intro l
  induction l with
  | nil => intro acc j _; rfl
  | cons p l ih =>
    intro acc j h
    rw [List.foldl_cons, ih _ _ (by rw [List.length_append]; omega), List.getElem?_append_left h]
section
variable {β : Type} (f : List β → Rw kNode → β)
def fl (l : List (Rw kNode)) : List β := l.foldl (fun acc p => acc ++ [f acc p]) []
theorem fl_len (l : List (Rw kNode)) : (fl f l).length = l.length := by rw [fl, fold_len]; simp
theorem fl_s (l : List (Rw kNode)) (i : Nat) (p : Rw kNode) (h : l[i]? = some p) : fl f (l.take (i + 1)) = fl f (l.take i) ++ [f (fl f (l.take i)) p] := by
  simp only [fl, List.take_add_one, h, List.foldl_append]
  rfl
theorem fl_pre (l : List (Rw kNode)) (i j : Nat) (d : β) (h : j < i) (hi : i ≤ l.length) : (fl f (l.take i)).getD j d = (fl f l).getD j d := by
  have e : l = l.take i ++ l.drop i := (List.take_append_drop i l).symm
  have hl : (fl f (l.take i)).length = i := by rw [fl_len, List.length_take]; omega
  have e2 : fl f l = (l.drop i).foldl (fun acc p => acc ++ [f acc p]) (fl f (l.take i)) := by
    conv => lhs; rw [e]
    simp only [fl, List.foldl_append]
  rw [List.getD_eq_getElem?_getD, List.getD_eq_getElem?_getD, e2, fold_pre _ _ _ _ (by omega)]
theorem fl_at (l : List (Rw kNode)) (i : Nat) (p : Rw kNode) (d : β) (h : l[i]? = some p) : (fl f l).getD i d = f (fl f (l.take i)) p := by
  have hi := (List.getElem?_eq_some_iff.1 h).1
  rw [← fl_pre f l (i + 1) i d (by omega) (by omega), fl_s f l i p h, List.getD_eq_getElem?_getD, List.getElem?_append_right (by rw [fl_len, List.length_take]; omega), fl_len, List.length_take, Nat.min_eq_left (by omega), Nat.sub_self]
  rfl
end
theorem szs_fl (l : List (Rw kNode)) : szs l = fl szStep l := rfl
theorem txs_fl (l : List (Rw kNode)) : txs l = fl txStep l := rfl
/-- A node's size, by its parts. -/
theorem szs_at (l : List (Rw kNode)) (i : Nat) (p : Rw kNode) (h : l[i]? = some p) (ok : okR p i) :
    (szs l).getD i 0 = min 100000 (1 + (if p.int 0 = 1 then 0 else (szs l).getD (p.int 2).toNat 0) + (if hasB (p.int 0) then (szs l).getD (p.int 3).toNat 0 else 0)) := by
  have hi := (List.getElem?_eq_some_iff.1 h).1
  rw [szs_fl, fl_at szStep l i p 0 h, szStep]
  congr 1
  unfold okR okN at ok
  congr 1
  · by_cases h1 : p.int 0 = 1
    · rw [if_pos h1, if_pos h1]
    · rw [if_neg h1, if_neg h1, fl_pre szStep l i _ 0 (by omega) (by omega)]
  · by_cases h1 : hasB (p.int 0)
    · rw [if_pos h1, if_pos h1]
      unfold hasB at h1
      rw [fl_pre szStep l i _ 0 (by omega) (by omega)]
    · rw [if_neg h1, if_neg h1]
theorem txs_at (l : List (Rw kNode)) (i : Nat) (p : Rw kNode) (h : l[i]? = some p) (ok : okR p i) :
    (txs l).getD i ByteArray.empty = if p.int 0 = 1 then (⟨#[97]⟩ : ByteArray) ++ decT (p.int 1).toNat
      else letT (p.int 0) ++ (⟨#[40]⟩ : ByteArray) ++ (txs l).getD (p.int 2).toNat ByteArray.empty ++ (if hasB (p.int 0) then (⟨#[44]⟩ : ByteArray) ++ (txs l).getD (p.int 3).toNat ByteArray.empty else ByteArray.empty) ++ (⟨#[41]⟩ : ByteArray) := by
  have hi := (List.getElem?_eq_some_iff.1 h).1
  rw [txs_fl, fl_at txStep l i p _ h, txStep]
  unfold okR okN at ok
  by_cases h1 : p.int 0 = 1
  · rw [if_pos h1, if_pos h1]
  · rw [if_neg h1, if_neg h1, fl_pre txStep l i _ _ (by omega) (by omega)]
    by_cases h2 : hasB (p.int 0)
    · rw [if_pos h2, if_pos h2]
      unfold hasB at h2
      rw [fl_pre txStep l i _ _ (by omega) (by omega)]
    · rw [if_neg h2, if_neg h2]
theorem szs_pos (l : List (Rw kNode)) (n : Nat) (hn : n ≤ l.length) (ok : ∀ (i : Nat) p, i < n → l[i]? = some p → okR p i) : ∀ j, j < n → 1 ≤ (szs l).getD j 0 ∧ (szs l).getD j 0 ≤ 100000 := by
  intro j
  induction j using Nat.strongRecOn with
  | _ j ih =>
    intro hj
    have hp : l[j]? = some l[j] := List.getElem?_eq_getElem (by omega)
    generalize l[j] = p at hp
    have o := ok j p hj hp
    rw [szs_at l j p hp o]
    unfold okR okN at o
    have A : 0 ≤ (if p.int 0 = 1 then 0 else (szs l).getD (p.int 2).toNat 0) := by
      split
      · omega
      · have := ih (p.int 2).toNat (by omega) (by omega)
        omega
    have B : 0 ≤ (if hasB (p.int 0) then (szs l).getD (p.int 3).toNat 0 else 0) := by
      split
      · rename_i h2
        unfold hasB at h2
        have := ih (p.int 3).toNat (by omega) (by omega)
        omega
      · omega
    omega
theorem letT_size (k : Int) (h : 1 ≤ k ∧ k ≤ 9) : (letT k).size = 1 := by
  have : ∀ j < 10, 1 ≤ j → (([ByteArray.empty, (⟨#[97]⟩ : ByteArray), (⟨#[112]⟩ : ByteArray), (⟨#[104]⟩ : ByteArray), (⟨#[107]⟩ : ByteArray), (⟨#[115]⟩ : ByteArray), (⟨#[117]⟩ : ByteArray), (⟨#[100]⟩ : ByteArray), (⟨#[103]⟩ : ByteArray), (⟨#[109]⟩ : ByteArray)] : List ByteArray).getD j ByteArray.empty).size = 1 := by decide
  exact this k.toNat (by omega) (by omega)
theorem zt1 : ((⟨#[40]⟩ : ByteArray)).size = 1 := rfl
theorem zt2 : ((⟨#[44]⟩ : ByteArray)).size = 1 := rfl
theorem zt3 : ((⟨#[41]⟩ : ByteArray)).size = 1 := rfl
theorem zt4 : ((⟨#[97]⟩ : ByteArray)).size = 1 := rfl
/-- A small term: its parts are small. -/
theorem small_a (l : List (Rw kNode)) (i : Nat) (p : Rw kNode) (h : l[i]? = some p) (n : Nat) (hn : n ≤ l.length) (hi : i < n) (ok : ∀ (i : Nat) p, i < n → l[i]? = some p → okR p i) (hs : (szs l).getD i 0 ≤ 2000) (h1 : p.int 0 ≠ 1) :
    (szs l).getD (p.int 2).toNat 0 + (if hasB (p.int 0) then (szs l).getD (p.int 3).toNat 0 else 0) + 1 = (szs l).getD i 0 := by
  have o := ok i p hi h
  have e := szs_at l i p h o
  rw [if_neg h1] at e
  have o2 := o
  unfold okR okN at o2
  have P2 := szs_pos l n hn ok (p.int 2).toNat (by omega)
  by_cases h2 : hasB (p.int 0)
  · rw [if_pos h2] at e ⊢
    unfold hasB at h2
    have P3 := szs_pos l n hn ok (p.int 3).toNat (by omega)
    omega
  · rw [if_neg h2] at e ⊢
    omega
theorem txs_size (l : List (Rw kNode)) (n : Nat) (hn : n ≤ l.length) (ok : ∀ (i : Nat) p, i < n → l[i]? = some p → okR p i) : ∀ j, j < n → (szs l).getD j 0 ≤ 2000 → (((txs l).getD j ByteArray.empty).size : Int) ≤ 25 * (szs l).getD j 0 := by
  intro j
  induction j using Nat.strongRecOn with
  | _ j ih =>
    intro hj hs
    have hp : l[j]? = some l[j] := List.getElem?_eq_getElem (by omega)
    generalize l[j] = p at hp
    have o := ok j p hj hp
    rw [txs_at l j p hp o]
    have P := szs_pos l n hn ok j hj
    by_cases h1 : p.int 0 = 1
    · rw [if_pos h1]
      unfold okR okN at o
      have := decT_size (p.int 1).toNat (by omega)
      simp only [ByteArray.size_append, zt4]
      omega
    · rw [if_neg h1]
      have sm := small_a l j p hp n hn hj ok hs h1
      unfold okR okN at o
      have P2 := szs_pos l n hn ok (p.int 2).toNat (by omega)
      have L := letT_size (p.int 0) (by omega)
      by_cases h2 : hasB (p.int 0)
      · rw [if_pos h2] at sm ⊢
        unfold hasB at h2
        have P3 := szs_pos l n hn ok (p.int 3).toNat (by omega)
        have i2 := ih (p.int 2).toNat (by omega) (by omega) (by omega)
        have i3 := ih (p.int 3).toNat (by omega) (by omega) (by omega)
        simp only [ByteArray.size_append, zt1, zt2, zt3, L]
        omega
      · rw [if_neg h2] at sm ⊢
        have i2 := ih (p.int 2).toNat (by omega) (by omega) (by omega)
        simp only [ByteArray.size_append, zt1, zt3, L, ByteArray.size_empty]
        omega
end Go.Proofs.YtfgmmklljibbiaaDoor.Sim

