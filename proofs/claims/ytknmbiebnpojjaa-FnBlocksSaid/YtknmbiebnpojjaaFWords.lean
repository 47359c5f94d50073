/- Words of 32 bits: what the machine's numbers of 64 and of 32 bits make of them. -/
import Derived.Test.YtknmbiebnpojjaaTy
import Derived.Test.YtknmbiebnpojjaaChecked
namespace Go.Proofs.Ytknmbiebnpojjaa.Sim
open Go
set_option maxRecDepth 100000
set_option linter.unusedSimpArgs false
set_option linter.unusedVariables false
abbrev Wo := BitVec 32
/-- A word as a number. -/
def wi (x : Wo) : Int := (x.toNat : Int)
theorem wi_0 (x : Wo) : 0 ≤ wi x := by unfold wi; omega
theorem wi_lt (x : Wo) : wi x < 4294967296 := by
  have := x.isLt
  unfold wi
  omega
theorem wi_inj {x y : Wo} (h : wi x = wi y) : x = y := by
  unfold wi at h
  exact BitVec.eq_of_toNat_eq (by omega)
theorem wi_of {n : Nat} (h : n < 4294967296) : wi (BitVec.ofNat 32 n) = n := by
  unfold wi
  rw [BitVec.toNat_ofNat, Nat.mod_eq_of_lt h]
theorem ofInt_nat (k : Nat) (n : Nat) (h : n < 2 ^ k) : (BitVec.ofInt k (n : Int)).toNat = n := by
  rw [BitVec.ofInt_natCast, BitVec.toNat_ofNat, Nat.mod_eq_of_lt h]
theorem wi_big (x : Wo) : x.toNat < 2 ^ IntKind.i64.bits := Nat.lt_of_lt_of_le x.isLt (by decide)
theorem wi_small (x : Wo) : x.toNat < 2 ^ IntKind.u32.bits := x.isLt
theorem and_i (x y : Wo) : bits .and .i64 (wi x) (wi y) = wi (x &&& y) := by
  simp only [bits, wi, BitVec.toNat_and, ofInt_nat _ _ (wi_big x), ofInt_nat _ _ (wi_big y)]
  have := (x &&& y).isLt
  rw [BitVec.toNat_and] at this
  rw [w64 (by omega) (by omega)]
theorem or_i (x y : Wo) : bits .or .i64 (wi x) (wi y) = wi (x ||| y) := by
  simp only [bits, wi, BitVec.toNat_or, ofInt_nat _ _ (wi_big x), ofInt_nat _ _ (wi_big y)]
  have := (x ||| y).isLt
  rw [BitVec.toNat_or] at this
  rw [w64 (by omega) (by omega)]
theorem xor_i (x y : Wo) : bits .xor .i64 (wi x) (wi y) = wi (x ^^^ y) := by
  simp only [bits, wi, BitVec.toNat_xor, ofInt_nat _ _ (wi_big x), ofInt_nat _ _ (wi_big y)]
  have := (x ^^^ y).isLt
  rw [BitVec.toNat_xor] at this
  rw [w64 (by omega) (by omega)]
theorem and_u (x y : Wo) : bits .and .u32 (wi x) (wi y) = wi (x &&& y) := by
  simp only [bits, wi, BitVec.toNat_and, ofInt_nat _ _ (wi_small x), ofInt_nat _ _ (wi_small y)]
  have := (x &&& y).isLt
  rw [BitVec.toNat_and] at this
  rw [wu32 (by omega) (by omega)]
theorem or_u (x y : Wo) : bits .or .u32 (wi x) (wi y) = wi (x ||| y) := by
  simp only [bits, wi, BitVec.toNat_or, ofInt_nat _ _ (wi_small x), ofInt_nat _ _ (wi_small y)]
  have := (x ||| y).isLt
  rw [BitVec.toNat_or] at this
  rw [wu32 (by omega) (by omega)]
theorem xor_u (x y : Wo) : bits .xor .u32 (wi x) (wi y) = wi (x ^^^ y) := by
  simp only [bits, wi, BitVec.toNat_xor, ofInt_nat _ _ (wi_small x), ofInt_nat _ _ (wi_small y)]
  have := (x ^^^ y).isLt
  rw [BitVec.toNat_xor] at this
  rw [wu32 (by omega) (by omega)]
theorem ones : (4294967295 : Int) = wi (BitVec.allOnes 32) := by decide
theorem not_l (x : Wo) : bits .xor .i64 4294967295 (wi x) = wi (~~~x) := by rw [ones, xor_i, BitVec.allOnes_xor]
theorem not_r (x : Wo) : bits .xor .u32 (wi x) 4294967295 = wi (~~~x) := by rw [ones, xor_u, BitVec.xor_allOnes]
theorem add_u (x y : Wo) : IntKind.u32.wrap (wi x + wi y) = wi (x + y) := by
  rw [IntKind.wrap_u32]
  simp only [wi, BitVec.toNat_add]
  omega
theorem i64_maskA (x : Int) : bits .and .i64 x 4294967295 = x % 4294967296 := by
  have h1 : (BitVec.ofInt IntKind.i64.bits 4294967295).toNat = 2 ^ 32 - 1 := by decide
  have h2 : (BitVec.ofInt IntKind.i64.bits x).toNat = (x % 18446744073709551616).toNat := by
    rw [BitVec.toNat_ofInt]; rfl
  simp only [bits, BitVec.toNat_and, h1, h2, Nat.and_two_pow_sub_one_eq_mod]
  rw [w64 (by omega) (by omega)]
  omega
theorem mask_add (x y : Wo) : (wi x + wi y) % 4294967296 = wi (x + y) := by
  simp only [wi, BitVec.toNat_add]
  omega
theorem mask_one (x : Wo) : wi x % 4294967296 = wi x := by
  have := wi_lt x
  have := wi_0 x
  omega
theorem shr_w (x : Wo) (k : Nat) : wi x / 2 ^ k = wi (x >>> k) := by
  simp only [wi, BitVec.toNat_ushiftRight, Nat.shiftRight_eq_div_pow]
  rfl
theorem shl_w (x : Wo) (k : Nat) : wi x * 2 ^ k % 4294967296 = wi (x <<< k) := by
  simp only [wi, BitVec.toNat_shiftLeft, Nat.shiftLeft_eq]
  rfl
theorem pow_le_32 {k : Nat} (h : k ≤ 31) : (2 : Int) ^ k ≤ 2147483648 := by
  have : (2 : Int) ^ k ≤ 2 ^ 31 := by
    have h2 : (2 : Nat) ^ k ≤ 2 ^ 31 := Nat.pow_le_pow_right (by decide) h
    exact_mod_cast h2
  simpa using this
theorem shl_b (x : Wo) {k : Nat} (h : k ≤ 31) : 0 ≤ wi x * 2 ^ k ∧ wi x * 2 ^ k < 9223372036854775808 := by
  have hp := pow_le_32 h
  have hp0 : (0 : Int) < 2 ^ k := Int.pow_pos (by decide)
  have h0 := wi_0 x
  have h1 := wi_lt x
  refine ⟨Int.mul_nonneg h0 (by omega), ?_⟩
  have : wi x * 2 ^ k ≤ 4294967295 * 2147483648 := Int.mul_le_mul (by omega) hp (by omega) (by omega)
  omega
/-- Turned right by k bits. -/
def rot (x : Wo) (k : Nat) : Wo := x >>> k ||| x <<< (32 - k)
theorem or_mask (a : Wo) (n : Int) (h0 : 0 ≤ n) (h1 : n < 9223372036854775808) (b : Wo) (hb : n % 4294967296 = wi b) : bits .and .i64 (bits .or .i64 (wi a) n) 4294967295 = wi (a ||| b) := by
  obtain ⟨m, rfl⟩ := Int.eq_ofNat_of_zero_le h0
  have h2 : m < 2 ^ 63 := by omega
  have h3 : a.toNat < 2 ^ 63 := Nat.lt_of_lt_of_le a.isLt (by decide)
  have h4 := Nat.or_lt_two_pow h3 h2
  have e : bits .or .i64 (wi a) (m : Int) = ((a.toNat ||| m : Nat) : Int) := (bits_nat .i64 63 (by decide) wraps_i64 a.toNat m h3 h2).2
  rw [e, i64_maskA]
  have e2 : (((a.toNat ||| m : Nat) : Int) % 4294967296) = (((a.toNat ||| m) % 4294967296 : Nat) : Int) := by omega
  rw [e2]
  have e3 : m % 4294967296 = b.toNat := by
    unfold wi at hb
    omega
  unfold wi
  rw [BitVec.toNat_or, ← e3]
  have e4 : (4294967296 : Nat) = 2 ^ 32 := rfl
  rw [e4, Nat.or_mod_two_pow, Nat.mod_eq_of_lt a.isLt]
/-! lists of words -/
def wis (l : List Wo) : List Int := l.map wi
theorem wis_len (l : List Wo) : (wis l).length = l.length := List.length_map ..
theorem wis_get (l : List Wo) (i : Nat) : (wis l).getD i 0 = wi (l.getD i 0) := by
  simp only [wis, List.getD_eq_getElem?_getD, List.getElem?_map]
  cases l[i]? <;> rfl
theorem wis_set (l : List Wo) (i : Nat) (v : Wo) : (wis l).set i (wi v) = wis (l.set i v) := (List.map_set ..).symm
theorem wis_rep (n : Nat) : List.replicate n (0 : Int) = wis (List.replicate n 0) := by
  simp only [wis, List.map_replicate]
  rfl
theorem wis_app (a b : List Wo) : wis a ++ wis b = wis (a ++ b) := (List.map_append ..).symm
theorem wis_take (a : List Wo) (n : Nat) : (wis a).take n = wis (a.take n) := (List.map_take ..).symm
/-- The words of a list of numbers that are words. -/
theorem wis_of (l : List Int) (h : ∀ x, x ∈ l → 0 ≤ x ∧ x < 4294967296) : ∃ m : List Wo, l = wis m := by
  refine ⟨l.map fun x => BitVec.ofNat 32 x.toNat, ?_⟩
  simp only [wis, List.map_map]
  rw [List.map_congr_left (g := id), List.map_id]
  intro x hx
  obtain ⟨h0, h1⟩ := h x hx
  simp only [Function.comp, id]
  rw [wi_of (by omega)]
  omega
end Go.Proofs.Ytknmbiebnpojjaa.Sim

