/- Streams: the law returns true. -/
import Derived.Test.YtbmadanfpicmiaaFDraw4
import Derived.Test.YtbmadanfpicmiaaFStream
import Derived.Test.YtbmadanfpicmiaaFLawDr
import Derived.Test.YtbmadanfpicmiaaFSameInts
import Derived.Test.YtbmadanfpicmiaaFXorTwo
import Derived.Test.YtbmadanfpicmiaaFHexed
import Derived.Test.YtbmadanfpicmiaaFKnownCha
namespace Go.Proofs.Ytbmadanfpicmiaa.Sim
open Go
set_option maxRecDepth 100000
set_option maxHeartbeats 40000000
set_option linter.unusedSimpArgs false
set_option linter.unusedVariables false
theorem xor_nat8 (a b : Nat) (ha : a < 2 ^ 8) (hb : b < 2 ^ 8) : bits .xor .u8 (a : Int) (b : Int) = ((a ^^^ b : Nat) : Int) := by
  have hx : a ^^^ b < 2 ^ 8 := Nat.xor_lt_two_pow ha hb
  have e : (BitVec.ofInt IntKind.u8.bits (a : Int) ^^^ BitVec.ofInt IntKind.u8.bits (b : Int)).toNat = a ^^^ b := by
    rw [BitVec.toNat_xor]
    have f : ∀ n : Nat, n < 2 ^ 8 → (BitVec.ofInt IntKind.u8.bits (n : Int)).toNat = n := fun n hn => by
      rw [BitVec.ofInt_natCast, BitVec.toNat_ofNat]
      exact Nat.mod_eq_of_lt hn
    rw [f a ha, f b hb]
  show IntKind.u8.wrap ((BitVec.ofInt IntKind.u8.bits (a : Int) ^^^ BitVec.ofInt IntKind.u8.bits (b : Int)).toNat : Int) = _
  rw [e, u8_id (by omega) (by omega)]
theorem xor8_b {x y : Int} (h0 : 0 ≤ x ∧ x < 256) (h1 : 0 ≤ y ∧ y < 256) : (0 ≤ bits .xor .u8 x y ∧ bits .xor .u8 x y < 256) ∧ bits .xor .u8 (bits .xor .u8 x y) y = x := by
  obtain ⟨a, rfl⟩ := Int.eq_ofNat_of_zero_le h0.1
  obtain ⟨b, rfl⟩ := Int.eq_ofNat_of_zero_le h1.1
  have ha : a < 2 ^ 8 := by omega
  have hb : b < 2 ^ 8 := by omega
  have hx : a ^^^ b < 2 ^ 8 := Nat.xor_lt_two_pow ha hb
  rw [xor_nat8 a b ha hb, xor_nat8 _ b hx hb, Nat.xor_assoc, Nat.xor_self, Nat.xor_zero]
  exact ⟨⟨by omega, by omega⟩, rfl⟩
theorem xorL_back : ∀ (a b : List Int), a.length = b.length → (∀ x ∈ a, 0 ≤ x ∧ x < 256) → (∀ x ∈ b, 0 ≤ x ∧ x < 256) → (∀ x ∈ xorL a b, 0 ≤ x ∧ x < 256) ∧ xorL (xorL a b) b = a
  | [], [], _, _, _ => ⟨by simp [xorL], rfl⟩
  | [], b :: b2, h, _, _ => by simp at h
  | a :: a2, [], h, _, _ => by simp at h
  | a :: a2, b :: b2, h, ha, hb => by
    obtain ⟨h1, h2⟩ := xorL_back a2 b2 (by simpa using h) (fun x hx => ha x (by simp [hx])) (fun x hx => hb x (by simp [hx]))
    obtain ⟨h3, h4⟩ := xor8_b (ha a (by simp)) (hb b (by simp))
    have e : xorL (a :: a2) (b :: b2) = bits .xor .u8 a b :: xorL a2 b2 := rfl
    rw [e]
    refine ⟨fun x hx => ?_, ?_⟩
    · rcases List.mem_cons.1 hx with rfl | hx
      · exact h3
      · exact h1 x hx
    · show bits .xor .u8 (bits .xor .u8 a b) b :: xorL (xorL a2 b2) b2 = _
      rw [h4, h2]
theorem xorT_back (z s : ByteArray) (h : z.size = s.size) : strOfNums (xorL (nums (strOfNums (xorL (nums z) (nums s)))) (nums s)) = z := by
  obtain ⟨h1, h2⟩ := xorL_back (nums z) (nums s) (by rw [nums_len, nums_len, h]) (nums_range z) (nums_range s)
  rw [nums_son h1, h2, son_nums]
theorem strmT_size (k n : ByteArray) (c : Int) (m : Nat) : (strmT k n c m).size = m := by
  rw [strmT, son_size, List.length_take, strmL_len, Int.toNat_natCast]
  omega
theorem strm_tail (k n : ByteArray) (c : Int) : (strmT k n c ((128 : Nat) : Int)).extract 64 128 = strmT k n (c + 1) ((64 : Nat) : Int) := by
  apply nums_inj
  have e1 : ((((128 : Nat) : Int)).toNat + 63) / 64 = 2 := rfl
  have e2 : ((((64 : Nat) : Int)).toNat + 63) / 64 = 1 := rfl
  have r := strmL_range k n c 2
  have r2 := strmL_range k n (c + 1) 1
  rw [nums_extract, strmT, strmT, e1, e2, nums_son (fun x hx => r x (List.mem_of_mem_take hx)), nums_son (fun x hx => r2 x (List.mem_of_mem_take hx)), Int.toNat_natCast, Int.toNat_natCast]
  have l2 := strmL_len k n c 2
  have l1 := strmL_len k n (c + 1) 1
  have l0 := strmL_len k n c 1
  rw [List.take_of_length_le (l := strmL k n c 2) (by omega), List.take_of_length_le (l := strmL k n c 2) (by omega), List.take_of_length_le (l := strmL k n (c + 1) 1) (by omega)]
  have hc : cnt c 1 = cnt (c + 1) 0 := by unfold cnt; omega
  have e3 : strmL k n c 2 = strmL k n c 1 ++ blkL (chaL k n (cnt c 1)) := by rw [strmL]
  have e4 : strmL k n (c + 1) 1 = [] ++ blkL (chaL k n (cnt (c + 1) 0)) := by rw [strmL, strmL]
  rw [e3, e4, List.drop_left' (by omega), hc, List.nil_append]
theorem knownL : chaL (hexT (⟨#[48, 48, 48, 49, 48, 50, 48, 51, 48, 52, 48, 53, 48, 54, 48, 55, 48, 56, 48, 57, 48, 97, 48, 98, 48, 99, 48, 100, 48, 101, 48, 102, 49, 48, 49, 49, 49, 50, 49, 51, 49, 52, 49, 53, 49, 54, 49, 55, 49, 56, 49, 57, 49, 97, 49, 98, 49, 99, 49, 100, 49, 101, 49, 102]⟩ : ByteArray)) (hexT (⟨#[48, 48, 48, 48, 48, 48, 48, 57, 48, 48, 48, 48, 48, 48, 52, 97, 48, 48, 48, 48, 48, 48, 48, 48]⟩ : ByteArray)) 1 = [1634760805, 857760878, 2036477234, 1797285236, 50462976, 117835012, 185207048, 252579084, 319951120, 387323156, 454695192, 522067228, 1, 150994944, 1241513984, 0] := by kernel_rfl
theorem knownS : strOfNums (sumL [2205644971, 3795375971, 2793071134, 1498463023, 3304247495, 4234328879, 2409634044, 1063176119, 861041090, 4069820915, 3938298108, 2196008637, 3516666548, 2957907678, 2659438795, 1312575650] [1634760805, 857760878, 2036477234, 1797285236, 50462976, 117835012, 185207048, 252579084, 319951120, 387323156, 454695192, 522067228, 1, 150994944, 1241513984, 0] 16) = hexT (⟨#[49, 48, 102, 49, 101, 55, 101, 52, 100, 49, 51, 98, 53, 57, 49, 53, 53, 48, 48, 102, 100, 100, 49, 102, 97, 51, 50, 48, 55, 49, 99, 52, 99, 55, 100, 49, 102, 52, 99, 55, 51, 51, 99, 48, 54, 56, 48, 51, 48, 52, 50, 50, 97, 97, 57, 97, 99, 51, 100, 52, 54, 99, 52, 101, 100, 50, 56, 50, 54, 52, 52, 54, 48, 55, 57, 102, 97, 97, 48, 57, 49, 52, 99, 50, 100, 55, 48, 53, 100, 57, 56, 98, 48, 50, 97, 50, 98, 53, 49, 50, 57, 99, 100, 49, 100, 101, 49, 54, 52, 101, 98, 57, 99, 98, 100, 48, 56, 51, 101, 56, 97, 50, 53, 48, 51, 99, 52, 101]⟩ : ByteArray) := by kernel_rfl
theorem knownBlk : chaBlk (chaL (hexT (⟨#[48, 48, 48, 49, 48, 50, 48, 51, 48, 52, 48, 53, 48, 54, 48, 55, 48, 56, 48, 57, 48, 97, 48, 98, 48, 99, 48, 100, 48, 101, 48, 102, 49, 48, 49, 49, 49, 50, 49, 51, 49, 52, 49, 53, 49, 54, 49, 55, 49, 56, 49, 57, 49, 97, 49, 98, 49, 99, 49, 100, 49, 101, 49, 102]⟩ : ByteArray)) (hexT (⟨#[48, 48, 48, 48, 48, 48, 48, 57, 48, 48, 48, 48, 48, 48, 52, 97, 48, 48, 48, 48, 48, 48, 48, 48]⟩ : ByteArray)) 1) = hexT (⟨#[49, 48, 102, 49, 101, 55, 101, 52, 100, 49, 51, 98, 53, 57, 49, 53, 53, 48, 48, 102, 100, 100, 49, 102, 97, 51, 50, 48, 55, 49, 99, 52, 99, 55, 100, 49, 102, 52, 99, 55, 51, 51, 99, 48, 54, 56, 48, 51, 48, 52, 50, 50, 97, 97, 57, 97, 99, 51, 100, 52, 54, 99, 52, 101, 100, 50, 56, 50, 54, 52, 52, 54, 48, 55, 57, 102, 97, 97, 48, 57, 49, 52, 99, 50, 100, 55, 48, 53, 100, 57, 56, 98, 48, 50, 97, 50, 98, 53, 49, 50, 57, 99, 100, 49, 100, 101, 49, 54, 52, 101, 98, 57, 99, 98, 100, 48, 56, 51, 101, 56, 97, 50, 53, 48, 51, 99, 52, 101]⟩ : ByteArray) := by
  rw [knownL, chaBlk, blkL, cdbl]
  exact knownS
theorem knownQ : qtr (q4 286331153 16909060 2609737539 19088743) 0 1 2 3 = [3928658676, 3407673550, 1166100270, 1484899515] := by kernel_rfl
theorem knownB : chaB (hexT (⟨#[48, 48, 48, 49, 48, 50, 48, 51, 48, 52, 48, 53, 48, 54, 48, 55, 48, 56, 48, 57, 48, 97, 48, 98, 48, 99, 48, 100, 48, 101, 48, 102, 49, 48, 49, 49, 49, 50, 49, 51, 49, 52, 49, 53, 49, 54, 49, 55, 49, 56, 49, 57, 49, 97, 49, 98, 49, 99, 49, 100, 49, 101, 49, 102]⟩ : ByteArray)) (hexT (⟨#[48, 48, 48, 48, 48, 48, 48, 57, 48, 48, 48, 48, 48, 48, 52, 97, 48, 48, 48, 48, 48, 48, 48, 48]⟩ : ByteArray)) 1 := ⟨by kernel_rfl, by kernel_rfl, by decide, by decide⟩
theorem lawFnStreams (H : AHeap) (x : AV) (L : List Int) (hL0 : L.length ≤ 9223372036854775807) (hx : IsL H x .u8 L) : ∃ H', Sound Try.prog 3 [x] H (.sc (.bool true)) H' := by
  have key : ∃ v H', Sound Try.prog 3 [x] H v H' ∧ v = .sc (.bool true) := by
    refine Sound.runP (args := [x]) 114 [.tmp 2] Try.func3 rfl rfl rfl rfl (by simp) (fun v Z => v = .sc (.bool true)) ?_
    have hb := bigS hx
    by_cases hL : L.length ≤ 1048576
    · rw [bigNo hL] at hb
      simp -implicitDefEqProofs only [↓w_seq, ↓w_region, ↓ops_cons, ↓g_assign, ↓ops_nil, ev_const, of_bool, ↓g_move, Nat.reduceLT, ev_tab, ne_eq, reduceCtorEq, not_false_eq_true, upd_ne, par0]
      refine call1S (by simp -implicitDefEqProofs only [List.map_cons, Nat.reduceLT, ev_tab, upd_eq, List.map_nil] <;> rfl) hb ?_
      obtain ⟨k, n, Z1, k1, n1, a1, e1⟩ := drawKey hx hL
      simp -implicitDefEqProofs only [↓ops_nil, ↓w_cond, Nat.reduceLT, ev_tab, upd_eq, ↓w_seq, ↓w_region, ↓ops_cons, ↓g_assign, ↓w_ret, ev_const, of_bool, retP_1, res_tmp, onS_some, ↓w_skip, ↓g_move, ne_eq, reduceCtorEq, not_false_eq_true, upd_ne, par0, onB_false]
      refine call1S (by simp -implicitDefEqProofs only [List.map_cons, Nat.reduceLT, ev_tab, upd_eq, List.map_nil] <;> rfl) a1 ?_
      obtain ⟨l, q, Z2, l1, l2, l3, l4, b1, b2⟩ := drawPlaces (e1.isL hx) hL
      have e2 := e1.trans b2
      simp -implicitDefEqProofs only [↓ops_cons, ↓g_move, ↓g_extract, Nat.reduceLT, ev_tab, upd_eq, ext_0, ne_eq, Nat.reduceEqDiff, not_false_eq_true, upd_ne, ext_1, ↓g_assign, ↓ops_nil, ↓w_seq, ↓w_region, reduceCtorEq, par0, onS_some]
      refine call1S (by simp -implicitDefEqProofs only [List.map_cons, Nat.reduceLT, ev_tab, upd_eq, List.map_nil] <;> rfl) b1 ?_
      obtain ⟨z, Z3, z1, c1, c2⟩ := drawTextOf (e2.isL hx) hL
      have e3 := e2.trans c2
      simp -implicitDefEqProofs only [↓ops_cons, ↓g_assign, ↓ops_nil, ↓w_seq, ↓w_region, Nat.reduceLT, ev_tab, upd_eq, ↓g_move, ne_eq, reduceCtorEq, not_false_eq_true, upd_ne, par0]
      refine call1S (by simp -implicitDefEqProofs only [List.map_cons, Nat.reduceLT, ev_tab, upd_eq, List.map_nil] <;> rfl) c1 ?_
      have l5 := c2.at l4
      obtain ⟨p, p1, p2⟩ : ∃ p : Nat, p < 10000 ∧ (l.map fun a : Nat => (a : Int)).getD 0 0 = p := by
        match l, l1, l2 with
        | a :: l, _, h => exact ⟨a, h a (by simp), rfl⟩
      have l6 : 0 < (l.map fun a : Nat => (a : Int)).length := by rw [List.length_map]; omega
      generalize (l.map fun a : Nat => (a : Int)) = A at *
      have t1 : ((p : Int)).tmod 1000 = ((p % 1000 : Nat) : Int) := by rw [Int.tmod_eq_emod_of_nonneg (by omega)]; omega
      have t2 : p % 1000 < 1000 := by omega
      generalize p % 1000 = c at *
      have t3 : IntKind.i64.wrap ((c : Int) + 1) = (c : Int) + 1 := w64 (by omega) (by omega)
      have hv : ∀ (c : Int) (m : Nat), 0 ≤ c → c ≤ 1000 → m ≤ 10000 → strmV k n c m = .tup [.sc (.string (strmT k n c m)), .sc (.bool true)] := fun c m h1 h2 h3 => by
        rw [strmV, if_pos ⟨⟨k1, n1, h1, by omega⟩, by omega, by omega⟩]
      have s1 := strmI k n c z.size
      rw [hv c z.size (by omega) (by omega) (by omega)] at s1
      have s2 := strmI k n c ((128 : Nat) : Int)
      rw [hv c 128 (by omega) (by omega) (by omega)] at s2
      have s3 := strmI k n (c + 1) ((64 : Nat) : Int)
      rw [hv (c + 1) 64 (by omega) (by omega) (by omega)] at s3
      have st := strm_tail k n c
      have hs1 := strmT_size k n c z.size
      have hs2 := strmT_size k n c 128
      have hk128 : ((strmT k n c ((128 : Nat) : Int)).size : Int) = 128 := by rw [hs2]; rfl
      generalize strmT k n c (z.size : Int) = S1 at *
      generalize strmT k n c ((128 : Nat) : Int) = S2 at *
      generalize strmT k n (c + 1) ((64 : Nat) : Int) = S3 at *
      have xb := xorT_back z S1 (by omega)
      have x1 := xorI z S1 (by omega) (by omega)
      have hxs : (strOfNums (xorL (nums z) (nums S1))).size ≤ 1000 := by
        rw [son_size, xorL_len, nums_len, nums_len]
        omega
      generalize strOfNums (xorL (nums z) (nums S1)) = X at *
      have x2 := xorI X S1 (by omega) (by omega)
      rw [xb] at x2
      simp -implicitDefEqProofs only [↓ops_cons, ↓g_assign, ↓ops_nil, ↓w_seq, ↓w_region, Nat.reduceLT, ev_tab, upd_eq, ↓g_move, ↓g_len, Try.underlying9, len_str, ↓g_indexAddr, Try.underlying26, ne_eq, Nat.reduceEqDiff, not_false_eq_true, upd_ne, ev_const, of_int, adr_sl, Int.reduceLE, Int.cast_ofNat_Int, Int.reduceLT, cells3, tyOk3, and_self, Int.toNat_zero, Nat.mul_one, Nat.zero_add, if_true, ↓g_load, ↓g_binOp, onS_some, rd_def, agg3, l5, rd_ints, l6, p2, b_rem, Int.reduceEq, t1, if_false]
      refine call1 (by simp -implicitDefEqProofs only [List.map_cons, Nat.reduceLT, ev_tab, ne_eq, Nat.reduceEqDiff, not_false_eq_true, upd_ne, upd_eq, List.map_nil] <;> rfl) s1 ?_
      simp -implicitDefEqProofs only [↓ops_cons, ↓g_move, ↓g_extract, Nat.reduceLT, ev_tab, upd_eq, ext_0, ne_eq, Nat.reduceEqDiff, not_false_eq_true, upd_ne, ext_1, ↓g_assign, ↓ops_nil, ↓w_seq, ↓w_region, onS_some]
      refine call1 (by simp -implicitDefEqProofs only [List.map_cons, Nat.reduceLT, ev_tab, ne_eq, Nat.reduceEqDiff, not_false_eq_true, upd_ne, upd_eq, List.map_nil] <;> rfl) x1 ?_
      simp -implicitDefEqProofs only [↓ops_cons, ↓g_assign, ↓ops_nil, ↓w_seq, ↓w_region, Nat.reduceLT, ev_tab, upd_eq, ↓g_move, ↓g_indexAddr, Try.underlying26, ne_eq, Nat.reduceEqDiff, not_false_eq_true, upd_ne, ev_const, of_int, adr_sl, Int.reduceLE, Int.cast_ofNat_Int, Int.reduceLT, cells3, tyOk3, and_self, Int.toNat_zero, Nat.mul_one, Nat.zero_add, if_true, ↓g_load, ↓g_binOp, onS_some, rd_def, agg3, l5, rd_ints, l6, p2, b_rem, Int.reduceEq, t1, if_false]
      refine call1 (by simp -implicitDefEqProofs only [List.map_cons, Nat.reduceLT, ev_tab, ne_eq, Nat.reduceEqDiff, not_false_eq_true, upd_ne, upd_eq, ev_const, of_int, List.map_nil, Int.cast_ofNat_Int] <;> rfl) s2 ?_
      simp -implicitDefEqProofs only [↓ops_cons, ↓g_move, ↓g_extract, Nat.reduceLT, ev_tab, upd_eq, ext_0, ne_eq, Nat.reduceEqDiff, not_false_eq_true, upd_ne, ext_1, ↓g_assign, ↓ops_nil, ↓w_seq, ↓w_region, ↓g_indexAddr, Try.underlying26, ev_const, of_int, adr_sl, Int.reduceLE, Int.cast_ofNat_Int, Int.reduceLT, cells3, tyOk3, and_self, Int.toNat_zero, Nat.mul_one, Nat.zero_add, if_true, ↓g_load, ↓g_binOp, onS_some, rd_def, agg3, l5, rd_ints, l6, p2, b_rem, Int.reduceEq, t1, if_false, b_add, t3]
      refine call1 (by simp -implicitDefEqProofs only [List.map_cons, Nat.reduceLT, ev_tab, ne_eq, Nat.reduceEqDiff, not_false_eq_true, upd_ne, upd_eq, ev_const, of_int, List.map_nil, Int.cast_ofNat_Int] <;> rfl) s3 ?_
      have h1 := hexedS (⟨#[48, 48, 48, 49, 48, 50, 48, 51, 48, 52, 48, 53, 48, 54, 48, 55, 48, 56, 48, 57, 48, 97, 48, 98, 48, 99, 48, 100, 48, 101, 48, 102, 49, 48, 49, 49, 49, 50, 49, 51, 49, 52, 49, 53, 49, 54, 49, 55, 49, 56, 49, 57, 49, 97, 49, 98, 49, 99, 49, 100, 49, 101, 49, 102]⟩ : ByteArray) (by decide)
      have h2 := hexedS (⟨#[48, 48, 48, 48, 48, 48, 48, 57, 48, 48, 48, 48, 48, 48, 52, 97, 48, 48, 48, 48, 48, 48, 48, 48]⟩ : ByteArray) (by decide)
      have h3 := hexedS (⟨#[49, 48, 102, 49, 101, 55, 101, 52, 100, 49, 51, 98, 53, 57, 49, 53, 53, 48, 48, 102, 100, 100, 49, 102, 97, 51, 50, 48, 55, 49, 99, 52, 99, 55, 100, 49, 102, 52, 99, 55, 51, 51, 99, 48, 54, 56, 48, 51, 48, 52, 50, 50, 97, 97, 57, 97, 99, 51, 100, 52, 54, 99, 52, 101, 100, 50, 56, 50, 54, 52, 52, 54, 48, 55, 57, 102, 97, 97, 48, 57, 49, 52, 99, 50, 100, 55, 48, 53, 100, 57, 56, 98, 48, 50, 97, 50, 98, 53, 49, 50, 57, 99, 100, 49, 100, 101, 49, 54, 52, 101, 98, 57, 99, 98, 100, 48, 56, 51, 101, 56, 97, 50, 53, 48, 51, 99, 52, 101]⟩ : ByteArray) (by decide)
      have kb := knownB
      have kk := knownBlk
      generalize hexT (⟨#[48, 48, 48, 49, 48, 50, 48, 51, 48, 52, 48, 53, 48, 54, 48, 55, 48, 56, 48, 57, 48, 97, 48, 98, 48, 99, 48, 100, 48, 101, 48, 102, 49, 48, 49, 49, 49, 50, 49, 51, 49, 52, 49, 53, 49, 54, 49, 55, 49, 56, 49, 57, 49, 97, 49, 98, 49, 99, 49, 100, 49, 101, 49, 102]⟩ : ByteArray) = K at *
      generalize hexT (⟨#[48, 48, 48, 48, 48, 48, 48, 57, 48, 48, 48, 48, 48, 48, 52, 97, 48, 48, 48, 48, 48, 48, 48, 48]⟩ : ByteArray) = N at *
      generalize hexT (⟨#[49, 48, 102, 49, 101, 55, 101, 52, 100, 49, 51, 98, 53, 57, 49, 53, 53, 48, 48, 102, 100, 100, 49, 102, 97, 51, 50, 48, 55, 49, 99, 52, 99, 55, 100, 49, 102, 52, 99, 55, 51, 51, 99, 48, 54, 56, 48, 51, 48, 52, 50, 50, 97, 97, 57, 97, 99, 51, 100, 52, 54, 99, 52, 101, 100, 50, 56, 50, 54, 52, 52, 54, 48, 55, 57, 102, 97, 97, 48, 57, 49, 52, 99, 50, 100, 55, 48, 53, 100, 57, 56, 98, 48, 50, 97, 50, 98, 53, 49, 50, 57, 99, 100, 49, 100, 101, 49, 54, 52, 101, 98, 57, 99, 98, 100, 48, 56, 51, 101, 56, 97, 50, 53, 48, 51, 99, 52, 101]⟩ : ByteArray) = M at *
      have ks := chaI_ok K N 1 kb
      have hcl := chaL_len K N 1
      have hcw := chaL_wd K N 1 (by decide) (by decide)
      generalize chaL K N 1 = C at *
      simp -implicitDefEqProofs only [↓ops_cons, ↓g_move, ↓g_extract, Nat.reduceLT, ev_tab, upd_eq, ext_0, ne_eq, Nat.reduceEqDiff, not_false_eq_true, upd_ne, ext_1, ↓g_assign, ↓ops_nil, ↓w_seq, ↓w_region, onS_some]
      refine call1 (by simp -implicitDefEqProofs only [List.map_cons, ev_const, of_str, List.map_nil] <;> rfl) h1 ?_
      simp -implicitDefEqProofs only [↓ops_cons]
      refine call1 (by simp -implicitDefEqProofs only [List.map_cons, ev_const, of_str, List.map_nil] <;> rfl) h2 ?_
      simp -implicitDefEqProofs only [↓ops_cons]
      refine call1S (by simp -implicitDefEqProofs only [List.map_cons, Nat.reduceLT, ev_tab, ne_eq, Nat.reduceEqDiff, not_false_eq_true, upd_ne, upd_eq, ev_const, of_int, List.map_nil] <;> rfl) (ks _) ?_
      have qk := qI 286331153 16909060 2609737539 19088743
      rw [knownQ] at qk
      simp -implicitDefEqProofs only [↓ops_cons, ↓g_move, ↓g_extract, Nat.reduceLT, ev_tab, upd_eq, ext_0, ne_eq, Nat.reduceEqDiff, not_false_eq_true, upd_ne, ext_1, ↓g_assign, ↓ops_nil, ↓w_seq, ↓w_region, onS_some]
      refine call1L (by simp -implicitDefEqProofs only [List.map_cons, ev_const, of_int, List.map_nil]) qk ?_
      have kc := blkAtI (H := (Z3 ++ [⟨ints .i64 C, true, true⟩]) ++ [⟨ints .i64 [3928658676, 3407673550, 1166100270, 1484899515], true, true⟩]) (r := Z3.length) hcl hcw (at_a _ _ _)
      rw [kk] at kc
      simp -implicitDefEqProofs only [↓ops_cons, ↓g_assign, ↓ops_nil, ↓w_seq, ↓w_region, List.length_append, List.length_cons, List.length_nil, Nat.zero_add, Nat.reduceAdd, Nat.reduceLT, ev_tab, upd_eq, ↓g_move, ne_eq, Nat.reduceEqDiff, not_false_eq_true, upd_ne]
      refine call1S (by simp -implicitDefEqProofs only [List.map_cons, Nat.reduceLT, ev_tab, upd_eq, List.map_nil] <;> rfl) kc ?_
      simp -implicitDefEqProofs only [↓ops_cons]
      refine call1 (by simp -implicitDefEqProofs only [List.map_cons, ev_const, of_str, List.map_nil] <;> rfl) h3 ?_
      simp -implicitDefEqProofs only [↓ops_cons, ↓g_binOp, Nat.reduceLT, ev_tab, ne_eq, Nat.reduceEqDiff, not_false_eq_true, upd_ne, upd_eq, t_eql, beq_self_eq_true, ↓g_assign, ↓ops_nil, ↓w_seq, ↓w_region, ↓g_move, yielded_tab, dstAt_s, dstAt_0, ybv_some, boolOf_b, ↓g_guard_t, ↓g_pick, ev_const, of_bool, pick_b, if_true, onS_some]
      refine call1 (by simp -implicitDefEqProofs only [List.map_cons, Nat.reduceLT, ev_tab, ne_eq, Nat.reduceEqDiff, not_false_eq_true, upd_ne, upd_eq, List.map_nil] <;> rfl) x2 ?_
      have k64 : (0 : Int) ≤ 64 := by decide
      have g1 : 64 ≤ S2.size := by omega
      have g2 : S2.size = 128 := hs2
      simp -implicitDefEqProofs only [↓ops_cons, yielded_tab, dstAt_s, dstAt_0, Nat.reduceLT, ybv_some, ne_eq, Nat.reduceEqDiff, not_false_eq_true, upd_ne, upd_eq, boolOf_b, ↓g_guard_t, ↓g_move, ev_tab, ↓g_binOp, t_eql, beq_self_eq_true, ↓g_pick, ev_const, of_bool, pick_b, if_true, onS_some, ↓g_len, Try.underlying9, len_str, g2, Int.cast_ofNat_Int, of_int, b_eql, decide_true, ↓g_slice, Option.map_some, Option.map_none, cut_str, bnd_int, Int.reduceLE, Int.reduceToNat, bnd_none, cutS_some, Nat.reduceLeDiff, Nat.le_refl, and_self, st, ↓g_buildSlice, Try.underlying26, List.map_cons, List.map_nil, bs3_4, alK_some, ints_one, List.length_append, List.length_cons, List.length_nil, Nat.zero_add, true_and]
      have hz1 : ∀ a b c : Reg, (((Z3 ++ [a]) ++ [b]) ++ [c])[Z3.length + 1]? = some b := fun a b c => by
        rw [List.append_assoc, List.append_assoc, hap_k]
        rfl
      have hz2 : ∀ a b c : Reg, (((Z3 ++ [a]) ++ [b]) ++ [c])[Z3.length + 1 + 1]? = some c := fun a b c => by
        rw [List.append_assoc, List.append_assoc, Nat.add_assoc, hap_k]
        rfl
      refine call1S (by simp -implicitDefEqProofs only [List.map_cons, Nat.reduceLT, ev_tab, ne_eq, Nat.reduceEqDiff, not_false_eq_true, upd_ne, upd_eq, List.map_nil, List.length_cons, List.length_nil, Nat.zero_add, Nat.reduceAdd] <;> rfl) (sameIntsT (.at (hz1 _ _ _) rfl) (.at (hz2 _ _ _) rfl) (by decide)) ?_
      simp -implicitDefEqProofs only [↓ops_cons, ↓g_pick, Nat.reduceLT, ev_tab, ne_eq, Nat.reduceEqDiff, not_false_eq_true, upd_ne, upd_eq, ev_const, of_bool, pick_b, if_true, ↓g_assign, ↓ops_nil, ↓w_ret, retP_1, res_tmp, onS_some]
    · rw [bigYes hL] at hb
      simp -implicitDefEqProofs only [↓w_seq, ↓w_region, ↓ops_cons, ↓g_assign, ↓ops_nil, ev_const, of_bool, ↓g_move, Nat.reduceLT, ev_tab, ne_eq, reduceCtorEq, not_false_eq_true, upd_ne, par0]
      refine call1S (by simp -implicitDefEqProofs only [List.map_cons, Nat.reduceLT, ev_tab, upd_eq, List.map_nil] <;> rfl) hb ?_
      simp -implicitDefEqProofs only [↓ops_nil, ↓w_cond, Nat.reduceLT, ev_tab, upd_eq, ↓w_seq, ↓w_region, ↓ops_cons, ↓g_assign, ↓w_ret, ev_const, of_bool, retP_1, res_tmp, onS_some, ↓w_skip, ↓g_move, ne_eq, reduceCtorEq, not_false_eq_true, upd_ne, par0, onB_true]
  obtain ⟨v, H', h1, rfl⟩ := key
  exact ⟨H', h1⟩
end Go.Proofs.Ytbmadanfpicmiaa.Sim

