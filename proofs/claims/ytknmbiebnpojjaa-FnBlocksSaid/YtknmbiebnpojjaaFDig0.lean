/- What a text's digest is: padded, block by block, its words' bytes. -/
import Derived.Test.YtknmbiebnpojjaaFSha0
namespace Go.Proofs.Ytknmbiebnpojjaa.Sim
open Go
set_option maxRecDepth 100000
set_option linter.unusedSimpArgs false
set_option linter.unusedVariables false
/-- How many zeros. -/
def zeros (n : Nat) : Nat := (120 - (n + 1) % 64) % 64
def padL (z : ByteArray) : List Int := nums z ++ 128 :: (List.replicate (zeros z.size) 0 ++ hiL (8 * (z.size : Int)) 8)
def padT (z : ByteArray) : ByteArray := strOfNums (padL z)
theorem padL_len (z : ByteArray) : (padL z).length = z.size + (1 + (zeros z.size + 8)) := by
  simp only [padL, List.length_append, nums_len, List.length_replicate, hiL_len, List.length_cons]
  omega
theorem padT_size (z : ByteArray) : (padT z).size = z.size + (1 + (zeros z.size + 8)) := by rw [padT, son_size, padL_len]
theorem padT_64 (z : ByteArray) : ∃ m, (padT z).size = 64 * m ∧ 1 ≤ m := by
  rw [padT_size]
  unfold zeros
  refine ⟨(z.size + (1 + ((120 - (z.size + 1) % 64) % 64 + 8))) / 64, ?_, ?_⟩ <;> omega
theorem padT_le (z : ByteArray) : (padT z).size ≤ z.size + 128 := by
  rw [padT_size]
  unfold zeros
  omega
def blks (p : ByteArray) : Nat → S8
  | 0 => start
  | n + 1 => blk (blks p n) (p.extract (64 * n) (64 * n + 64))
def wby (l : List Wo) : List Int := l.flatMap fun x => hiL (wi x) 4
def digL (z : ByteArray) : List Int := wby (blks (padT z) ((padT z).size / 64)).l
def dig (z : ByteArray) : ByteArray := strOfNums (digL z)
theorem hiL4 (x : Int) : hiL x 4 = [x / 256 / 256 / 256 % 256, x / 256 / 256 % 256, x / 256 % 256, x % 256] := rfl
theorem wby_len : ∀ l : List Wo, (wby l).length = 4 * l.length
  | [] => rfl
  | x :: l => by
    have ih := wby_len l
    simp only [wby, List.flatMap_cons, List.length_append, hiL_len, List.length_cons] at ih ⊢
    omega
theorem dig_size (z : ByteArray) : (dig z).size = 32 := by rw [dig, son_size, digL, wby_len]; rfl
theorem wby_take (l : List Wo) (i : Nat) (h : i < l.length) : wby (l.take i) ++ hiL (wi (l.getD i 0)) 4 = wby (l.take (i + 1)) := by
  rw [List.take_add_one, List.getD_eq_getElem?_getD, List.getElem?_eq_getElem h]
  simp only [wby, Option.toList_some, List.flatMap_append, List.flatMap_cons, List.flatMap_nil, List.append_nil, Option.getD_some]
end Go.Proofs.Ytknmbiebnpojjaa.Sim

