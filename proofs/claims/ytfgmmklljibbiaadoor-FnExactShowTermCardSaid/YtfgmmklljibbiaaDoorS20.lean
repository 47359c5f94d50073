/- Texts of numbers. -/
import Derived.Test.YtfgmmklljibbiaaDoorS19
namespace Go.Proofs.YtfgmmklljibbiaaDoor.Sim
open Go
set_option linter.unusedSimpArgs false
set_option linter.unusedVariables false
theorem toL (s : ByteArray) : s.toList = s.data.toList := Go.ByteArray.toList_eq s
theorem toL_inj {a b : ByteArray} : a.toList = b.toList ↔ a = b := by
  rw [toL, toL]
  constructor
  · intro h
    apply ByteArray.ext
    exact Array.toList_inj.1 h
  · intro h; rw [h]
theorem son_append (a b : List Int) : strOfNums a ++ strOfNums b = strOfNums (a ++ b) := by
  apply ByteArray.ext
  simp [strOfNums]
theorem son_size (a : List Int) : (strOfNums a).size = a.length := by simp [strOfNums, ByteArray.size]
theorem son_nil : strOfNums [] = ByteArray.empty := rfl
theorem son_nums (z : ByteArray) : strOfNums (nums z) = z := by
  apply ByteArray.ext
  simp only [strOfNums, nums, List.map_map]
  have : (z.data.toList.map ((fun n : Int => UInt8.ofNat n.toNat) ∘ fun b => ((b.toNat : Nat) : Int))) = z.data.toList := by
    rw [List.map_congr_left (g := id)]
    · simp
    · intro b _
      simp
  rw [this]
theorem nums_son {l : List Int} (h : ∀ x ∈ l, 0 ≤ x ∧ x < 256) : nums (strOfNums l) = l := by
  simp only [strOfNums, nums, List.map_map]
  rw [List.map_congr_left (g := id)]
  · simp
  · intro b hb
    obtain ⟨h1, h2⟩ := h b hb
    simp
    omega
theorem nums_range (z : ByteArray) : ∀ x ∈ nums z, 0 ≤ x ∧ x < 256 := by
  intro x hx
  obtain ⟨b, _, rfl⟩ := List.mem_map.1 hx
  have := b.toNat_lt
  omega
theorem nums_append (a b : ByteArray) : nums (a ++ b) = nums a ++ nums b := by simp [nums]
theorem nums_inj {a b : ByteArray} (h : nums a = nums b) : a = b := by rw [← son_nums a, ← son_nums b, h]
theorem byteAt_nums (z : ByteArray) (i : Nat) : byteAt z i = (nums z).getD i 0 := by
  simp only [byteAt, nums, List.getD_eq_getElem?_getD, List.getElem?_map, Array.getElem?_toList]
  cases z.data[i]? <;> rfl
theorem nums_extract (z : ByteArray) (i j : Nat) : nums (z.extract i j) = ((nums z).take j).drop i := by
  simp only [nums, ByteArray.data_extract, Array.toList_extract, List.extract_eq_take_drop, List.map_take, List.map_drop]
  rw [List.drop_take]
theorem st_ext {n : Nat} {T : Nat → AV} {H H' : AHeap} (h : H = H') : (⟨tab n T, H⟩ : St) = ⟨tab n T, H'⟩ := by rw [h]
theorem rep_set (m : Nat) (D : List Int) (v : Int) : (List.replicate (m + 1) (0 : Int) ++ D).set m v = List.replicate m 0 ++ (v :: D) := by
  rw [List.replicate_succ', List.append_assoc, List.set_append_right _ _ (by simp)]
  simp
/-! numbers -/
theorem w64 {x : Int} (h0 : -9223372036854775808 ≤ x) (h1 : x ≤ 9223372036854775807) : IntKind.i64.wrap x = x := by rw [IntKind.wrap_i64]; omega
theorem wu64 {x : Int} (h0 : 0 ≤ x) (h1 : x < 18446744073709551616) : IntKind.u64.wrap x = x := by
  simp only [IntKind.wrap, IntKind.bits, IntKind.signed]
  simp
  omega
theorem wu32 {x : Int} (h0 : 0 ≤ x) (h1 : x < 4294967296) : IntKind.u32.wrap x = x := by rw [IntKind.wrap_u32]; omega
theorem bits_i64 : IntKind.i64.bits = 64 := rfl
theorem bits_u32 : IntKind.u32.bits = 32 := rfl
theorem bits_u8 : IntKind.u8.bits = 8 := rfl
theorem wraps_i64 (n : Int) (h0 : 0 ≤ n) (h1 : n < 2 ^ 63) : IntKind.i64.wrap n = n := by rw [IntKind.wrap_i64]; omega
theorem i64_and255 {x : Int} (h0 : 0 ≤ x) (h1 : x < 9223372036854775808) : bits .and .i64 x 255 = x % 256 := bits_mask .i64 63 (by decide) wraps_i64 8 (by decide) x h0 h1
theorem u8_id {x : Int} (h0 : 0 ≤ x) (h1 : x < 256) : IntKind.u8.wrap x = x := by rw [IntKind.wrap_u8]; omega
/-- High bytes first. -/
def hiL (x : Int) : Nat → List Int
  | 0 => []
  | w + 1 => hiL (x / 256) w ++ [x % 256]
theorem hiL_len (x : Int) (w : Nat) : (hiL x w).length = w := by
  induction w generalizing x with
  | zero => rfl
  | succ w ih => simp [hiL, ih]
theorem hiL_range (x : Int) (w : Nat) : ∀ y ∈ hiL x w, 0 ≤ y ∧ y < 256 := by
  induction w generalizing x with
  | zero => intro y hy; cases hy
  | succ w ih =>
    intro y hy
    simp only [hiL, List.mem_append, List.mem_singleton] at hy
    rcases hy with hy | rfl
    · exact ih _ y hy
    · omega
end Go.Proofs.YtfgmmklljibbiaaDoor.Sim

