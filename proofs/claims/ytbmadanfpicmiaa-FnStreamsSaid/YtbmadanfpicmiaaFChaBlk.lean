/- A block of ChaCha20. -/
import Derived.Test.YtbmadanfpicmiaaFQuarter
import Derived.Test.YtbmadanfpicmiaaFLow
import Derived.Test.YtbmadanfpicmiaaFIn
namespace Go.Proofs.Ytbmadanfpicmiaa.Sim
open Go
set_option maxRecDepth 100000
set_option maxHeartbeats 4000000
set_option linter.unusedSimpArgs false
set_option linter.unusedVariables false
def plB (j : Nat) : Nat := 4 + (j % 4 + j / 4) % 4
def plC (j : Nat) : Nat := 8 + (j % 4 + 2 * (j / 4)) % 4
def plD (j : Nat) : Nat := 12 + (j % 4 + 3 * (j / 4)) % 4
def qAt (l : List Int) (j : Nat) : List Int := qtr l (j % 4) (plB j) (plC j) (plD j)
def qts (l : List Int) : Nat → List Int
  | 0 => l
  | j + 1 => qAt (qts l j) j
def dbl (l : List Int) : Nat → List Int
  | 0 => l
  | n + 1 => qts (dbl l n) 8
theorem qAt_len (l : List Int) (j : Nat) : (qAt l j).length = l.length := qtr_len _ _ _ _ _
theorem qts_len (l : List Int) : ∀ j, (qts l j).length = l.length
  | 0 => rfl
  | j + 1 => by rw [qts, qAt_len, qts_len l j]
theorem dbl_len (l : List Int) : ∀ n, (dbl l n).length = l.length
  | 0 => rfl
  | n + 1 => by rw [dbl, qts_len, dbl_len l n]
theorem qts_wd {l : List Int} (h : Wd l) : ∀ j, Wd (qts l j)
  | 0 => h
  | j + 1 => (qts_wd h j).qtr _ _ _ _
theorem dbl_wd {l : List Int} (h : Wd l) : ∀ n, Wd (dbl l n)
  | 0 => h
  | n + 1 => qts_wd (dbl_wd h n) 8
/-- The bytes of the sums. -/
def sumL (x l : List Int) : Nat → List Int
  | 0 => []
  | i + 1 => sumL x l i ++ loL (x.getD i 0 + l.getD i 0) 4
theorem sumL_len (x l : List Int) : ∀ i, (sumL x l i).length = 4 * i
  | 0 => rfl
  | i + 1 => by rw [sumL, List.length_append, sumL_len x l i, loL_len]; omega
def blkL (l : List Int) : List Int := sumL (dbl l 10) l 16
def chaBlk (l : List Int) : ByteArray := strOfNums (blkL l)
theorem chaBlk_size (l : List Int) : (chaBlk l).size = 64 := by rw [chaBlk, son_size, blkL, sumL_len]
theorem getD_set {l : List Int} {i j : Nat} {v : Int} (hi : i < l.length) : (l.set i v).getD j 0 = if i = j then v else l.getD j 0 := by
  simp only [List.getD_eq_getElem?_getD, List.getElem?_set, hi, if_true]
  split <;> rfl
theorem qa1 (l : List Int) (i : Nat) (h : i < 4) : qtr l i (4 + i) (8 + i) (12 + i) = qAt l i := by
  match i, h with
  | 0, _ => rfl
  | 1, _ => rfl
  | 2, _ => rfl
  | 3, _ => rfl
theorem qa2 (l : List Int) (i : Nat) (h : i < 4) : qtr l i (4 + (i + 1) % 4) (8 + (i + 2) % 4) (12 + (i + 3) % 4) = qAt l (4 + i) := by
  match i, h with
  | 0, _ => rfl
  | 1, _ => rfl
  | 2, _ => rfl
  | 3, _ => rfl
theorem lo4 (v : Int) : loL v 4 = [v / 1 % 256, v / 256 % 256, v / 65536 % 256, v / 16777216 % 256] := rfl
/-- A quarter turn is what it is of its four words alone. -/
theorem qtr_set (x : List Int) (a b c d : Nat) (ha : a < x.length) (hb : b < x.length) (hc : c < x.length) (hd : d < x.length) (hab : a ≠ b) (hac : a ≠ c) (had : a ≠ d) (hbc : b ≠ c) (hbd : b ≠ d) (hcd : c ≠ d) :
    qtr x a b c d = (((x.set a ((qtr [x.getD a 0, x.getD b 0, x.getD c 0, x.getD d 0] 0 1 2 3).getD 0 0)).set b ((qtr [x.getD a 0, x.getD b 0, x.getD c 0, x.getD d 0] 0 1 2 3).getD 1 0)).set c ((qtr [x.getD a 0, x.getD b 0, x.getD c 0, x.getD d 0] 0 1 2 3).getD 2 0)).set d ((qtr [x.getD a 0, x.getD b 0, x.getD c 0, x.getD d 0] 0 1 2 3).getD 3 0) := by
  have e4 : ∀ A B C D : Int, qtr [A, B, C, D] 0 1 2 3 =
    let a1 := (A + B) % 4294967296
    let d1 := rotl (bits .xor .i64 D a1) 16
    let c1 := (C + d1) % 4294967296
    let b1 := rotl (bits .xor .i64 B c1) 12
    let a2 := (a1 + b1) % 4294967296
    let d2 := rotl (bits .xor .i64 d1 a2) 8
    let c2 := (c1 + d2) % 4294967296
    let b2 := rotl (bits .xor .i64 b1 c2) 7
    [a2, b2, c2, d2] := fun _ _ _ _ => rfl
  rw [e4]
  simp only [List.getD_cons_zero, List.getD_cons_succ]
  have hba := hab.symm
  have hca := hac.symm
  have hda := had.symm
  have hcb := hbc.symm
  have hdb := hbd.symm
  have hdc := hcd.symm
  apply List.ext_getElem?
  intro i
  simp only [qtr, turnAt, addAt, getD_set, List.length_set, ha, hb, hc, hd, hab, hac, had, hbc, hbd, hcd, hba, hca, hda, hcb, hdb, hdc, if_true, if_false, List.getElem?_set]
  by_cases h1 : a = i
  · subst h1
    simp only [hab, hac, had, hba, hca, hda, if_true, if_false]
  · by_cases h2 : b = i
    · subst h2
      simp only [hab, hbc, hbd, hcb, hdb, hba, if_true, if_false]
    · by_cases h3 : c = i
      · subst h3
        simp only [hac, hbc, hcd, hdc, hca, hcb, if_true, if_false]
      · by_cases h4 : d = i
        · subst h4
          simp only [had, hbd, hcd, hda, hdb, hdc, if_true, if_false]
        · simp only [h1, h2, h3, h4, if_false]
end Go.Proofs.Ytbmadanfpicmiaa.Sim

