/- What a block of SHA-256 comes to, in words. -/
import Derived.Test.YtknmbiebnpojjaaFWords
namespace Go.Proofs.Ytknmbiebnpojjaa.Sim
open Go
set_option maxRecDepth 100000
set_option linter.unusedSimpArgs false
set_option linter.unusedVariables false
def sl0 (x : Wo) : Wo := rot x 7 ^^^ rot x 18 ^^^ x >>> 3
def sl1 (x : Wo) : Wo := rot x 17 ^^^ rot x 19 ^^^ x >>> 10
def su1 (e : Wo) : Wo := rot e 6 ^^^ rot e 11 ^^^ rot e 25
def su0 (a : Wo) : Wo := rot a 2 ^^^ rot a 13 ^^^ rot a 22
def chs (e f g : Wo) : Wo := (e &&& f) ^^^ (~~~e &&& g)
def maj (a b c : Wo) : Wo := (a &&& b) ^^^ (a &&& c) ^^^ (b &&& c)
/-- A byte as a word. -/
def bw (z : ByteArray) (j : Nat) : Wo := BitVec.ofNat 32 (byteAt z j).toNat
theorem byte_range (z : ByteArray) (j : Nat) : 0 ≤ byteAt z j ∧ byteAt z j < 256 := by
  unfold byteAt
  have := ((z.data[j]?).getD 0).toNat_lt
  omega
theorem wi_bw (z : ByteArray) (j : Nat) : wi (bw z j) = byteAt z j := by
  have := byte_range z j
  unfold bw
  rw [wi_of (by omega)]
  omega
/-- Bytes, the highest first. -/
def acc (z : ByteArray) (i : Nat) : Nat → Wo
  | 0 => 0
  | k + 1 => acc z i k <<< 8 ||| bw z (4 * i + k)
theorem bw_lt (z : ByteArray) (j : Nat) : (bw z j).toNat < 256 := by
  have := byte_range z j
  have h := wi_bw z j
  unfold wi at h
  omega
theorem acc_lt (z : ByteArray) (i : Nat) : ∀ k, k ≤ 4 → (acc z i k).toNat < 2 ^ (8 * k)
  | 0, _ => by simp [acc]
  | k + 1, h => by
    have ih := acc_lt z i k (by omega)
    have hb := bw_lt z (4 * i + k)
    rw [acc, BitVec.toNat_or, BitVec.toNat_shiftLeft, Nat.shiftLeft_eq]
    refine Nat.or_lt_two_pow (Nat.lt_of_le_of_lt (Nat.mod_le _ _) ?_) (Nat.lt_of_lt_of_le hb ?_)
    · rw [Nat.mul_add, Nat.pow_add]
      exact Nat.mul_lt_mul_of_lt_of_le ih (Nat.le_refl _) (by decide)
    · exact Nat.pow_le_pow_right (n := 2) (by decide) (show 8 ≤ 8 * (k + 1) by omega)
theorem acc_shl (z : ByteArray) (i k : Nat) (h : k ≤ 3) : wi (acc z i k) * (256 : Int) = wi (acc z i k <<< 8) := by
  have h1 := acc_lt z i k (by omega)
  have h2 : 2 ^ (8 * k) ≤ 2 ^ 24 := Nat.pow_le_pow_right (by decide) (by omega)
  rw [← shl_w]
  unfold wi
  omega
/-- The word in a block's place. -/
def wd (z : ByteArray) (i : Nat) : Wo := acc z i 4
theorem wd_or (z : ByteArray) (i : Nat) : wd z i = bw z (4 * i) <<< 24 ||| bw z (4 * i + 1) <<< 16 ||| bw z (4 * i + 2) <<< 8 ||| bw z (4 * i + 3) := by
  simp only [wd, acc, Nat.add_zero, BitVec.shiftLeft_or_distrib, ← BitVec.shiftLeft_add]
  simp
def pre (z : ByteArray) (i : Nat) : List Wo := (List.range i).map (wd z) ++ List.replicate (64 - i) 0
theorem pre_len (z : ByteArray) (i : Nat) (h : i ≤ 64) : (pre z i).length = 64 := by
  simp [pre]
  omega
theorem pre_get (z : ByteArray) (i : Nat) (h : i < 64) : (pre z i).getD i 0 = 0 := by
  simp only [pre, List.getD_eq_getElem?_getD]
  rw [List.getElem?_append_right (by simp)]
  simp only [List.length_map, List.length_range, Nat.sub_self, List.getElem?_replicate]
  rw [if_pos (by omega)]
  rfl
theorem pre_set (z : ByteArray) (i : Nat) (h : i < 64) : (pre z i).set i (wd z i) = pre z (i + 1) := by
  simp only [pre]
  rw [List.set_append_right _ _ (by simp), List.range_succ, List.map_append, List.append_assoc]
  congr 1
  simp only [List.length_map, List.length_range, Nat.sub_self]
  obtain ⟨m, hm⟩ : ∃ m, 64 - i = m + 1 := ⟨63 - i, by omega⟩
  rw [hm, show 64 - (i + 1) = m by omega, List.replicate_succ]
  rfl
theorem set_same (l : List Wo) (i : Nat) (v : Wo) (h : l.getD i 0 = v) (hi : i < l.length) : l.set i v = l := by
  rw [← h, List.getD_eq_getElem?_getD, List.getElem?_eq_getElem hi]
  simp
def wstep (w : List Wo) (i : Nat) : List Wo := w.set i (w.getD (i - 16) 0 + sl0 (w.getD (i - 15) 0) + w.getD (i - 7) 0 + sl1 (w.getD (i - 2) 0))
def schN (w : List Wo) : Nat → List Wo
  | 0 => w
  | n + 1 => wstep (schN w n) (16 + n)
theorem schN_len (w : List Wo) : ∀ n, (schN w n).length = w.length
  | 0 => rfl
  | n + 1 => by rw [schN, wstep, List.length_set, schN_len w n]
/-- The 64 words of a block. -/
def schd (z : ByteArray) : List Wo := schN (pre z 16) 48
theorem schd_len (z : ByteArray) : (schd z).length = 64 := by rw [schd, schN_len, pre_len z 16 (by decide)]
def keys : List Wo := [0x428a2f98, 0x71374491, 0xb5c0fbcf, 0xe9b5dba5, 0x3956c25b, 0x59f111f1, 0x923f82a4, 0xab1c5ed5, 0xd807aa98, 0x12835b01, 0x243185be, 0x550c7dc3, 0x72be5d74, 0x80deb1fe, 0x9bdc06a7, 0xc19bf174, 0xe49b69c1, 0xefbe4786, 0x0fc19dc6, 0x240ca1cc, 0x2de92c6f, 0x4a7484aa, 0x5cb0a9dc, 0x76f988da, 0x983e5152, 0xa831c66d, 0xb00327c8, 0xbf597fc7, 0xc6e00bf3, 0xd5a79147, 0x06ca6351, 0x14292967, 0x27b70a85, 0x2e1b2138, 0x4d2c6dfc, 0x53380d13, 0x650a7354, 0x766a0abb, 0x81c2c92e, 0x92722c85, 0xa2bfe8a1, 0xa81a664b, 0xc24b8b70, 0xc76c51a3, 0xd192e819, 0xd6990624, 0xf40e3585, 0x106aa070, 0x19a4c116, 0x1e376c08, 0x2748774c, 0x34b0bcb5, 0x391c0cb3, 0x4ed8aa4a, 0x5b9cca4f, 0x682e6ff3, 0x748f82ee, 0x78a5636f, 0x84c87814, 0x8cc70208, 0x90befffa, 0xa4506ceb, 0xbef9a3f7, 0xc67178f2]
theorem keys_len : keys.length = 64 := rfl
theorem sh3 (x : Wo) : wi x / (8 : Int) = wi (x >>> 3) := shr_w x 3
theorem sh10 (x : Wo) : wi x / (1024 : Int) = wi (x >>> 10) := shr_w x 10
theorem sum4 (a b c d : Wo) : IntKind.i64.wrap (IntKind.i64.wrap (IntKind.i64.wrap (wi a + wi b) + wi c) + wi d) % 4294967296 = wi (a + b + c + d) := by
  have ha := wi_0 a
  have hb := wi_0 b
  have hc := wi_0 c
  have hd := wi_0 d
  have ja := wi_lt a
  have jb := wi_lt b
  have jc := wi_lt c
  have jd := wi_lt d
  rw [w64 (x := wi a + wi b) (by omega) (by omega), w64 (x := wi a + wi b + wi c) (by omega) (by omega), w64 (by omega) (by omega)]
  simp only [wi, BitVec.toNat_add] at *
  omega
structure S8 where
  a : Wo
  b : Wo
  c : Wo
  d : Wo
  e : Wo
  f : Wo
  g : Wo
  h : Wo
def S8.l (s : S8) : List Wo := [s.a, s.b, s.c, s.d, s.e, s.f, s.g, s.h]
def S8.add (s t : S8) : S8 := ⟨s.a + t.a, s.b + t.b, s.c + t.c, s.d + t.d, s.e + t.e, s.f + t.f, s.g + t.g, s.h + t.h⟩
def one (s : S8) (k w : Wo) : Wo := s.h + su1 s.e + chs s.e s.f s.g + k + w
def two (s : S8) : Wo := su0 s.a + maj s.a s.b s.c
def rnd (s : S8) (k w : Wo) : S8 := ⟨one s k w + two s, s.a, s.b, s.c, s.d + one s k w, s.e, s.f, s.g⟩
def rnds (w : List Wo) (s : S8) : Nat → S8
  | 0 => s
  | n + 1 => rnd (rnds w s n) (keys.getD n 0) (w.getD n 0)
/-- A block. -/
def blk (s : S8) (z : ByteArray) : S8 := s.add (rnds (schd z) s 64)
def start : S8 := ⟨0x6a09e667, 0xbb67ae85, 0x3c6ef372, 0xa54ff53a, 0x510e527f, 0x9b05688c, 0x1f83d9ab, 0x5be0cd19⟩
end Go.Proofs.Ytknmbiebnpojjaa.Sim

