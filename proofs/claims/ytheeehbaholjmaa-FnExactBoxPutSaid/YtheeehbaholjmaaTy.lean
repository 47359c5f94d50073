/- Facts about the types of the program. -/
import Derived.Test.YtheeehbaholjmaaS27
import Derived.Test.YtheeehbaholjmaaProg
namespace Go.Proofs.Ytheeehbaholjmaa.Sim
open Go
set_option linter.unusedSimpArgs false
theorem tyOk0 : tyOk Try.prog 0 = true := by kernel_rfl
theorem agg0 : aggB Try.prog 0 = false := by kernel_rfl
theorem cells0 : Try.prog.cellsOf 0 = 1 := by kernel_rfl
theorem tyOk1 : tyOk Try.prog 1 = true := by kernel_rfl
theorem agg1 : aggB Try.prog 1 = false := by kernel_rfl
theorem cells1 : Try.prog.cellsOf 1 = 1 := by kernel_rfl
theorem tyOk2 : tyOk Try.prog 2 = true := by kernel_rfl
theorem agg2 : aggB Try.prog 2 = false := by kernel_rfl
theorem cells2 : Try.prog.cellsOf 2 = 1 := by kernel_rfl
theorem zero2 : zeroA Try.prog 2 = some [.sc (.int .i64 0)] := by kernel_rfl
theorem info2 : (Try.prog.info? 2).map (·.bytes) = some 8 := by kernel_rfl
theorem mk2 (a b : IntKind) (m : Int) (h0 : 0 ≤ m) (h1 : m ≤ 1000000000000) : mkV Try.prog (some (.slice 2)) (.sc (.int a m)) (.sc (.int b m)) = some (ints .i64 (List.replicate m.toNat 0), fun r => .sl r 0 m.toNat 1) := mk_ints .i64 2 a b m _ zero2 info2 cells2 h0 (by omega) (by omega)
theorem bs2_0 : bsV Try.prog (some (.slice 2)) 0 [] = some (ints .i64 [], fun r => .sl r 0 0 1) := bs_ints .i64 2 0 [] zero2 tyOk2 cells2 (by decide) (by simp)
theorem bs2_1 (a0 : Int) : bsV Try.prog (some (.slice 2)) 1 [(0, .sc (.int .i64 a0))] = some (ints .i64 [a0], fun r => .sl r 0 1 1) := bs_ints .i64 2 1 [(0, a0)] zero2 tyOk2 cells2 (by decide) (by simp)
theorem bs2_2 (a0 a1 : Int) : bsV Try.prog (some (.slice 2)) 2 [(0, .sc (.int .i64 a0)), (1, .sc (.int .i64 a1))] = some (ints .i64 [a0, a1], fun r => .sl r 0 2 1) := bs_ints .i64 2 2 [(0, a0), (1, a1)] zero2 tyOk2 cells2 (by decide) (by simp)
theorem bs2_3 (a0 a1 a2 : Int) : bsV Try.prog (some (.slice 2)) 3 [(0, .sc (.int .i64 a0)), (1, .sc (.int .i64 a1)), (2, .sc (.int .i64 a2))] = some (ints .i64 [a0, a1, a2], fun r => .sl r 0 3 1) := bs_ints .i64 2 3 [(0, a0), (1, a1), (2, a2)] zero2 tyOk2 cells2 (by decide) (by simp)
theorem bs2_4 (a0 a1 a2 a3 : Int) : bsV Try.prog (some (.slice 2)) 4 [(0, .sc (.int .i64 a0)), (1, .sc (.int .i64 a1)), (2, .sc (.int .i64 a2)), (3, .sc (.int .i64 a3))] = some (ints .i64 [a0, a1, a2, a3], fun r => .sl r 0 4 1) := bs_ints .i64 2 4 [(0, a0), (1, a1), (2, a2), (3, a3)] zero2 tyOk2 cells2 (by decide) (by simp)
theorem bs2_5 (a0 a1 a2 a3 a4 : Int) : bsV Try.prog (some (.slice 2)) 5 [(0, .sc (.int .i64 a0)), (1, .sc (.int .i64 a1)), (2, .sc (.int .i64 a2)), (3, .sc (.int .i64 a3)), (4, .sc (.int .i64 a4))] = some (ints .i64 [a0, a1, a2, a3, a4], fun r => .sl r 0 5 1) := bs_ints .i64 2 5 [(0, a0), (1, a1), (2, a2), (3, a3), (4, a4)] zero2 tyOk2 cells2 (by decide) (by simp)
theorem bs2_6 (a0 a1 a2 a3 a4 a5 : Int) : bsV Try.prog (some (.slice 2)) 6 [(0, .sc (.int .i64 a0)), (1, .sc (.int .i64 a1)), (2, .sc (.int .i64 a2)), (3, .sc (.int .i64 a3)), (4, .sc (.int .i64 a4)), (5, .sc (.int .i64 a5))] = some (ints .i64 [a0, a1, a2, a3, a4, a5], fun r => .sl r 0 6 1) := bs_ints .i64 2 6 [(0, a0), (1, a1), (2, a2), (3, a3), (4, a4), (5, a5)] zero2 tyOk2 cells2 (by decide) (by simp)
theorem bs2_7 (a0 a1 a2 a3 a4 a5 a6 : Int) : bsV Try.prog (some (.slice 2)) 7 [(0, .sc (.int .i64 a0)), (1, .sc (.int .i64 a1)), (2, .sc (.int .i64 a2)), (3, .sc (.int .i64 a3)), (4, .sc (.int .i64 a4)), (5, .sc (.int .i64 a5)), (6, .sc (.int .i64 a6))] = some (ints .i64 [a0, a1, a2, a3, a4, a5, a6], fun r => .sl r 0 7 1) := bs_ints .i64 2 7 [(0, a0), (1, a1), (2, a2), (3, a3), (4, a4), (5, a5), (6, a6)] zero2 tyOk2 cells2 (by decide) (by simp)
theorem bs2_8 (a0 a1 a2 a3 a4 a5 a6 a7 : Int) : bsV Try.prog (some (.slice 2)) 8 [(0, .sc (.int .i64 a0)), (1, .sc (.int .i64 a1)), (2, .sc (.int .i64 a2)), (3, .sc (.int .i64 a3)), (4, .sc (.int .i64 a4)), (5, .sc (.int .i64 a5)), (6, .sc (.int .i64 a6)), (7, .sc (.int .i64 a7))] = some (ints .i64 [a0, a1, a2, a3, a4, a5, a6, a7], fun r => .sl r 0 8 1) := bs_ints .i64 2 8 [(0, a0), (1, a1), (2, a2), (3, a3), (4, a4), (5, a5), (6, a6), (7, a7)] zero2 tyOk2 cells2 (by decide) (by simp)
theorem bs2_10 (a0 a1 a2 a3 a4 a5 a6 a7 a8 a9 : Int) : bsV Try.prog (some (.slice 2)) 10 [(0, .sc (.int .i64 a0)), (1, .sc (.int .i64 a1)), (2, .sc (.int .i64 a2)), (3, .sc (.int .i64 a3)), (4, .sc (.int .i64 a4)), (5, .sc (.int .i64 a5)), (6, .sc (.int .i64 a6)), (7, .sc (.int .i64 a7)), (8, .sc (.int .i64 a8)), (9, .sc (.int .i64 a9))] = some (ints .i64 [a0, a1, a2, a3, a4, a5, a6, a7, a8, a9], fun r => .sl r 0 10 1) := bs_ints .i64 2 10 [(0, a0), (1, a1), (2, a2), (3, a3), (4, a4), (5, a5), (6, a6), (7, a7), (8, a8), (9, a9)] zero2 tyOk2 cells2 (by decide) (by simp)
theorem bs2_11 (a0 a1 a2 a3 a4 a5 a6 a7 a8 a9 a10 : Int) : bsV Try.prog (some (.slice 2)) 11 [(0, .sc (.int .i64 a0)), (1, .sc (.int .i64 a1)), (2, .sc (.int .i64 a2)), (3, .sc (.int .i64 a3)), (4, .sc (.int .i64 a4)), (5, .sc (.int .i64 a5)), (6, .sc (.int .i64 a6)), (7, .sc (.int .i64 a7)), (8, .sc (.int .i64 a8)), (9, .sc (.int .i64 a9)), (10, .sc (.int .i64 a10))] = some (ints .i64 [a0, a1, a2, a3, a4, a5, a6, a7, a8, a9, a10], fun r => .sl r 0 11 1) := bs_ints .i64 2 11 [(0, a0), (1, a1), (2, a2), (3, a3), (4, a4), (5, a5), (6, a6), (7, a7), (8, a8), (9, a9), (10, a10)] zero2 tyOk2 cells2 (by decide) (by simp)
theorem bs2_12 (a0 a1 a2 a3 a4 a5 a6 a7 a8 a9 a10 a11 : Int) : bsV Try.prog (some (.slice 2)) 12 [(0, .sc (.int .i64 a0)), (1, .sc (.int .i64 a1)), (2, .sc (.int .i64 a2)), (3, .sc (.int .i64 a3)), (4, .sc (.int .i64 a4)), (5, .sc (.int .i64 a5)), (6, .sc (.int .i64 a6)), (7, .sc (.int .i64 a7)), (8, .sc (.int .i64 a8)), (9, .sc (.int .i64 a9)), (10, .sc (.int .i64 a10)), (11, .sc (.int .i64 a11))] = some (ints .i64 [a0, a1, a2, a3, a4, a5, a6, a7, a8, a9, a10, a11], fun r => .sl r 0 12 1) := bs_ints .i64 2 12 [(0, a0), (1, a1), (2, a2), (3, a3), (4, a4), (5, a5), (6, a6), (7, a7), (8, a8), (9, a9), (10, a10), (11, a11)] zero2 tyOk2 cells2 (by decide) (by simp)
theorem bs2_13 (a0 a1 a2 a3 a4 a5 a6 a7 a8 a9 a10 a11 a12 : Int) : bsV Try.prog (some (.slice 2)) 13 [(0, .sc (.int .i64 a0)), (1, .sc (.int .i64 a1)), (2, .sc (.int .i64 a2)), (3, .sc (.int .i64 a3)), (4, .sc (.int .i64 a4)), (5, .sc (.int .i64 a5)), (6, .sc (.int .i64 a6)), (7, .sc (.int .i64 a7)), (8, .sc (.int .i64 a8)), (9, .sc (.int .i64 a9)), (10, .sc (.int .i64 a10)), (11, .sc (.int .i64 a11)), (12, .sc (.int .i64 a12))] = some (ints .i64 [a0, a1, a2, a3, a4, a5, a6, a7, a8, a9, a10, a11, a12], fun r => .sl r 0 13 1) := bs_ints .i64 2 13 [(0, a0), (1, a1), (2, a2), (3, a3), (4, a4), (5, a5), (6, a6), (7, a7), (8, a8), (9, a9), (10, a10), (11, a11), (12, a12)] zero2 tyOk2 cells2 (by decide) (by simp)
theorem tyOk3 : tyOk Try.prog 3 = true := by kernel_rfl
theorem agg3 : aggB Try.prog 3 = false := by kernel_rfl
theorem cells3 : Try.prog.cellsOf 3 = 1 := by kernel_rfl
theorem zero3 : zeroA Try.prog 3 = some [.sc (.int .i64 0)] := by kernel_rfl
theorem info3 : (Try.prog.info? 3).map (·.bytes) = some 8 := by kernel_rfl
theorem mk3 (a b : IntKind) (m : Int) (h0 : 0 ≤ m) (h1 : m ≤ 1000000000000) : mkV Try.prog (some (.slice 3)) (.sc (.int a m)) (.sc (.int b m)) = some (ints .i64 (List.replicate m.toNat 0), fun r => .sl r 0 m.toNat 1) := mk_ints .i64 3 a b m _ zero3 info3 cells3 h0 (by omega) (by omega)
theorem bs3_0 : bsV Try.prog (some (.slice 3)) 0 [] = some (ints .i64 [], fun r => .sl r 0 0 1) := bs_ints .i64 3 0 [] zero3 tyOk3 cells3 (by decide) (by simp)
theorem bs3_1 (a0 : Int) : bsV Try.prog (some (.slice 3)) 1 [(0, .sc (.int .i64 a0))] = some (ints .i64 [a0], fun r => .sl r 0 1 1) := bs_ints .i64 3 1 [(0, a0)] zero3 tyOk3 cells3 (by decide) (by simp)
theorem bs3_2 (a0 a1 : Int) : bsV Try.prog (some (.slice 3)) 2 [(0, .sc (.int .i64 a0)), (1, .sc (.int .i64 a1))] = some (ints .i64 [a0, a1], fun r => .sl r 0 2 1) := bs_ints .i64 3 2 [(0, a0), (1, a1)] zero3 tyOk3 cells3 (by decide) (by simp)
theorem bs3_3 (a0 a1 a2 : Int) : bsV Try.prog (some (.slice 3)) 3 [(0, .sc (.int .i64 a0)), (1, .sc (.int .i64 a1)), (2, .sc (.int .i64 a2))] = some (ints .i64 [a0, a1, a2], fun r => .sl r 0 3 1) := bs_ints .i64 3 3 [(0, a0), (1, a1), (2, a2)] zero3 tyOk3 cells3 (by decide) (by simp)
theorem bs3_4 (a0 a1 a2 a3 : Int) : bsV Try.prog (some (.slice 3)) 4 [(0, .sc (.int .i64 a0)), (1, .sc (.int .i64 a1)), (2, .sc (.int .i64 a2)), (3, .sc (.int .i64 a3))] = some (ints .i64 [a0, a1, a2, a3], fun r => .sl r 0 4 1) := bs_ints .i64 3 4 [(0, a0), (1, a1), (2, a2), (3, a3)] zero3 tyOk3 cells3 (by decide) (by simp)
theorem bs3_5 (a0 a1 a2 a3 a4 : Int) : bsV Try.prog (some (.slice 3)) 5 [(0, .sc (.int .i64 a0)), (1, .sc (.int .i64 a1)), (2, .sc (.int .i64 a2)), (3, .sc (.int .i64 a3)), (4, .sc (.int .i64 a4))] = some (ints .i64 [a0, a1, a2, a3, a4], fun r => .sl r 0 5 1) := bs_ints .i64 3 5 [(0, a0), (1, a1), (2, a2), (3, a3), (4, a4)] zero3 tyOk3 cells3 (by decide) (by simp)
theorem bs3_6 (a0 a1 a2 a3 a4 a5 : Int) : bsV Try.prog (some (.slice 3)) 6 [(0, .sc (.int .i64 a0)), (1, .sc (.int .i64 a1)), (2, .sc (.int .i64 a2)), (3, .sc (.int .i64 a3)), (4, .sc (.int .i64 a4)), (5, .sc (.int .i64 a5))] = some (ints .i64 [a0, a1, a2, a3, a4, a5], fun r => .sl r 0 6 1) := bs_ints .i64 3 6 [(0, a0), (1, a1), (2, a2), (3, a3), (4, a4), (5, a5)] zero3 tyOk3 cells3 (by decide) (by simp)
theorem bs3_7 (a0 a1 a2 a3 a4 a5 a6 : Int) : bsV Try.prog (some (.slice 3)) 7 [(0, .sc (.int .i64 a0)), (1, .sc (.int .i64 a1)), (2, .sc (.int .i64 a2)), (3, .sc (.int .i64 a3)), (4, .sc (.int .i64 a4)), (5, .sc (.int .i64 a5)), (6, .sc (.int .i64 a6))] = some (ints .i64 [a0, a1, a2, a3, a4, a5, a6], fun r => .sl r 0 7 1) := bs_ints .i64 3 7 [(0, a0), (1, a1), (2, a2), (3, a3), (4, a4), (5, a5), (6, a6)] zero3 tyOk3 cells3 (by decide) (by simp)
theorem bs3_8 (a0 a1 a2 a3 a4 a5 a6 a7 : Int) : bsV Try.prog (some (.slice 3)) 8 [(0, .sc (.int .i64 a0)), (1, .sc (.int .i64 a1)), (2, .sc (.int .i64 a2)), (3, .sc (.int .i64 a3)), (4, .sc (.int .i64 a4)), (5, .sc (.int .i64 a5)), (6, .sc (.int .i64 a6)), (7, .sc (.int .i64 a7))] = some (ints .i64 [a0, a1, a2, a3, a4, a5, a6, a7], fun r => .sl r 0 8 1) := bs_ints .i64 3 8 [(0, a0), (1, a1), (2, a2), (3, a3), (4, a4), (5, a5), (6, a6), (7, a7)] zero3 tyOk3 cells3 (by decide) (by simp)
theorem bs3_10 (a0 a1 a2 a3 a4 a5 a6 a7 a8 a9 : Int) : bsV Try.prog (some (.slice 3)) 10 [(0, .sc (.int .i64 a0)), (1, .sc (.int .i64 a1)), (2, .sc (.int .i64 a2)), (3, .sc (.int .i64 a3)), (4, .sc (.int .i64 a4)), (5, .sc (.int .i64 a5)), (6, .sc (.int .i64 a6)), (7, .sc (.int .i64 a7)), (8, .sc (.int .i64 a8)), (9, .sc (.int .i64 a9))] = some (ints .i64 [a0, a1, a2, a3, a4, a5, a6, a7, a8, a9], fun r => .sl r 0 10 1) := bs_ints .i64 3 10 [(0, a0), (1, a1), (2, a2), (3, a3), (4, a4), (5, a5), (6, a6), (7, a7), (8, a8), (9, a9)] zero3 tyOk3 cells3 (by decide) (by simp)
theorem bs3_11 (a0 a1 a2 a3 a4 a5 a6 a7 a8 a9 a10 : Int) : bsV Try.prog (some (.slice 3)) 11 [(0, .sc (.int .i64 a0)), (1, .sc (.int .i64 a1)), (2, .sc (.int .i64 a2)), (3, .sc (.int .i64 a3)), (4, .sc (.int .i64 a4)), (5, .sc (.int .i64 a5)), (6, .sc (.int .i64 a6)), (7, .sc (.int .i64 a7)), (8, .sc (.int .i64 a8)), (9, .sc (.int .i64 a9)), (10, .sc (.int .i64 a10))] = some (ints .i64 [a0, a1, a2, a3, a4, a5, a6, a7, a8, a9, a10], fun r => .sl r 0 11 1) := bs_ints .i64 3 11 [(0, a0), (1, a1), (2, a2), (3, a3), (4, a4), (5, a5), (6, a6), (7, a7), (8, a8), (9, a9), (10, a10)] zero3 tyOk3 cells3 (by decide) (by simp)
theorem bs3_12 (a0 a1 a2 a3 a4 a5 a6 a7 a8 a9 a10 a11 : Int) : bsV Try.prog (some (.slice 3)) 12 [(0, .sc (.int .i64 a0)), (1, .sc (.int .i64 a1)), (2, .sc (.int .i64 a2)), (3, .sc (.int .i64 a3)), (4, .sc (.int .i64 a4)), (5, .sc (.int .i64 a5)), (6, .sc (.int .i64 a6)), (7, .sc (.int .i64 a7)), (8, .sc (.int .i64 a8)), (9, .sc (.int .i64 a9)), (10, .sc (.int .i64 a10)), (11, .sc (.int .i64 a11))] = some (ints .i64 [a0, a1, a2, a3, a4, a5, a6, a7, a8, a9, a10, a11], fun r => .sl r 0 12 1) := bs_ints .i64 3 12 [(0, a0), (1, a1), (2, a2), (3, a3), (4, a4), (5, a5), (6, a6), (7, a7), (8, a8), (9, a9), (10, a10), (11, a11)] zero3 tyOk3 cells3 (by decide) (by simp)
theorem bs3_13 (a0 a1 a2 a3 a4 a5 a6 a7 a8 a9 a10 a11 a12 : Int) : bsV Try.prog (some (.slice 3)) 13 [(0, .sc (.int .i64 a0)), (1, .sc (.int .i64 a1)), (2, .sc (.int .i64 a2)), (3, .sc (.int .i64 a3)), (4, .sc (.int .i64 a4)), (5, .sc (.int .i64 a5)), (6, .sc (.int .i64 a6)), (7, .sc (.int .i64 a7)), (8, .sc (.int .i64 a8)), (9, .sc (.int .i64 a9)), (10, .sc (.int .i64 a10)), (11, .sc (.int .i64 a11)), (12, .sc (.int .i64 a12))] = some (ints .i64 [a0, a1, a2, a3, a4, a5, a6, a7, a8, a9, a10, a11, a12], fun r => .sl r 0 13 1) := bs_ints .i64 3 13 [(0, a0), (1, a1), (2, a2), (3, a3), (4, a4), (5, a5), (6, a6), (7, a7), (8, a8), (9, a9), (10, a10), (11, a11), (12, a12)] zero3 tyOk3 cells3 (by decide) (by simp)
theorem tyOk4 : tyOk Try.prog 4 = true := by kernel_rfl
theorem agg4 : aggB Try.prog 4 = false := by kernel_rfl
theorem cells4 : Try.prog.cellsOf 4 = 1 := by kernel_rfl
theorem zero4 : zeroA Try.prog 4 = some [.sc (.bool false)] := by kernel_rfl
theorem info4 : (Try.prog.info? 4).map (·.bytes) = some 1 := by kernel_rfl
theorem mk4 (a b : IntKind) (m : Int) (h0 : 0 ≤ m) (h1 : m ≤ 1000000000000) : mkV Try.prog (some (.slice 4)) (.sc (.int a m)) (.sc (.int b m)) = some (bools (List.replicate m.toNat false), fun r => .sl r 0 m.toNat 1) := mk_lits (f := .bool) false 4 a b m _ zero4 info4 cells4 h0 (by omega) (by omega)
theorem bs4_0 : bsV Try.prog (some (.slice 4)) 0 [] = some (bools [], fun r => .sl r 0 0 1) := by simp [bsV, zero4, tyOk4, cells4, fillA, overA, AV.cells, bools, lits]
theorem bs4_1 (a0 : Bool) : bsV Try.prog (some (.slice 4)) 1 [(0, .sc (.bool a0))] = some (bools [a0], fun r => .sl r 0 1 1) := by simp [bsV, zero4, tyOk4, cells4, fillA, overA, AV.cells, bools, lits]
theorem bs4_2 (a0 a1 : Bool) : bsV Try.prog (some (.slice 4)) 2 [(0, .sc (.bool a0)), (1, .sc (.bool a1))] = some (bools [a0, a1], fun r => .sl r 0 2 1) := by simp [bsV, zero4, tyOk4, cells4, fillA, overA, AV.cells, bools, lits]
theorem tyOk5 : tyOk Try.prog 5 = true := by kernel_rfl
theorem agg5 : aggB Try.prog 5 = false := by kernel_rfl
theorem cells5 : Try.prog.cellsOf 5 = 1 := by kernel_rfl
theorem isU5 : isU8 Try.prog 5 = true := by kernel_rfl
theorem zero5 : zeroA Try.prog 5 = some [.sc (.int .u8 0)] := by kernel_rfl
theorem info5 : (Try.prog.info? 5).map (·.bytes) = some 1 := by kernel_rfl
theorem mk5 (a b : IntKind) (m : Int) (h0 : 0 ≤ m) (h1 : m ≤ 1000000000000) : mkV Try.prog (some (.slice 5)) (.sc (.int a m)) (.sc (.int b m)) = some (ints .u8 (List.replicate m.toNat 0), fun r => .sl r 0 m.toNat 1) := mk_ints .u8 5 a b m _ zero5 info5 cells5 h0 (by omega) (by omega)
theorem bs5_0 : bsV Try.prog (some (.slice 5)) 0 [] = some (ints .u8 [], fun r => .sl r 0 0 1) := bs_ints .u8 5 0 [] zero5 tyOk5 cells5 (by decide) (by simp)
theorem bs5_1 (a0 : Int) : bsV Try.prog (some (.slice 5)) 1 [(0, .sc (.int .u8 a0))] = some (ints .u8 [a0], fun r => .sl r 0 1 1) := bs_ints .u8 5 1 [(0, a0)] zero5 tyOk5 cells5 (by decide) (by simp)
theorem bs5_2 (a0 a1 : Int) : bsV Try.prog (some (.slice 5)) 2 [(0, .sc (.int .u8 a0)), (1, .sc (.int .u8 a1))] = some (ints .u8 [a0, a1], fun r => .sl r 0 2 1) := bs_ints .u8 5 2 [(0, a0), (1, a1)] zero5 tyOk5 cells5 (by decide) (by simp)
theorem bs5_3 (a0 a1 a2 : Int) : bsV Try.prog (some (.slice 5)) 3 [(0, .sc (.int .u8 a0)), (1, .sc (.int .u8 a1)), (2, .sc (.int .u8 a2))] = some (ints .u8 [a0, a1, a2], fun r => .sl r 0 3 1) := bs_ints .u8 5 3 [(0, a0), (1, a1), (2, a2)] zero5 tyOk5 cells5 (by decide) (by simp)
theorem bs5_4 (a0 a1 a2 a3 : Int) : bsV Try.prog (some (.slice 5)) 4 [(0, .sc (.int .u8 a0)), (1, .sc (.int .u8 a1)), (2, .sc (.int .u8 a2)), (3, .sc (.int .u8 a3))] = some (ints .u8 [a0, a1, a2, a3], fun r => .sl r 0 4 1) := bs_ints .u8 5 4 [(0, a0), (1, a1), (2, a2), (3, a3)] zero5 tyOk5 cells5 (by decide) (by simp)
theorem bs5_5 (a0 a1 a2 a3 a4 : Int) : bsV Try.prog (some (.slice 5)) 5 [(0, .sc (.int .u8 a0)), (1, .sc (.int .u8 a1)), (2, .sc (.int .u8 a2)), (3, .sc (.int .u8 a3)), (4, .sc (.int .u8 a4))] = some (ints .u8 [a0, a1, a2, a3, a4], fun r => .sl r 0 5 1) := bs_ints .u8 5 5 [(0, a0), (1, a1), (2, a2), (3, a3), (4, a4)] zero5 tyOk5 cells5 (by decide) (by simp)
theorem bs5_6 (a0 a1 a2 a3 a4 a5 : Int) : bsV Try.prog (some (.slice 5)) 6 [(0, .sc (.int .u8 a0)), (1, .sc (.int .u8 a1)), (2, .sc (.int .u8 a2)), (3, .sc (.int .u8 a3)), (4, .sc (.int .u8 a4)), (5, .sc (.int .u8 a5))] = some (ints .u8 [a0, a1, a2, a3, a4, a5], fun r => .sl r 0 6 1) := bs_ints .u8 5 6 [(0, a0), (1, a1), (2, a2), (3, a3), (4, a4), (5, a5)] zero5 tyOk5 cells5 (by decide) (by simp)
theorem bs5_7 (a0 a1 a2 a3 a4 a5 a6 : Int) : bsV Try.prog (some (.slice 5)) 7 [(0, .sc (.int .u8 a0)), (1, .sc (.int .u8 a1)), (2, .sc (.int .u8 a2)), (3, .sc (.int .u8 a3)), (4, .sc (.int .u8 a4)), (5, .sc (.int .u8 a5)), (6, .sc (.int .u8 a6))] = some (ints .u8 [a0, a1, a2, a3, a4, a5, a6], fun r => .sl r 0 7 1) := bs_ints .u8 5 7 [(0, a0), (1, a1), (2, a2), (3, a3), (4, a4), (5, a5), (6, a6)] zero5 tyOk5 cells5 (by decide) (by simp)
theorem bs5_8 (a0 a1 a2 a3 a4 a5 a6 a7 : Int) : bsV Try.prog (some (.slice 5)) 8 [(0, .sc (.int .u8 a0)), (1, .sc (.int .u8 a1)), (2, .sc (.int .u8 a2)), (3, .sc (.int .u8 a3)), (4, .sc (.int .u8 a4)), (5, .sc (.int .u8 a5)), (6, .sc (.int .u8 a6)), (7, .sc (.int .u8 a7))] = some (ints .u8 [a0, a1, a2, a3, a4, a5, a6, a7], fun r => .sl r 0 8 1) := bs_ints .u8 5 8 [(0, a0), (1, a1), (2, a2), (3, a3), (4, a4), (5, a5), (6, a6), (7, a7)] zero5 tyOk5 cells5 (by decide) (by simp)
theorem bs5_10 (a0 a1 a2 a3 a4 a5 a6 a7 a8 a9 : Int) : bsV Try.prog (some (.slice 5)) 10 [(0, .sc (.int .u8 a0)), (1, .sc (.int .u8 a1)), (2, .sc (.int .u8 a2)), (3, .sc (.int .u8 a3)), (4, .sc (.int .u8 a4)), (5, .sc (.int .u8 a5)), (6, .sc (.int .u8 a6)), (7, .sc (.int .u8 a7)), (8, .sc (.int .u8 a8)), (9, .sc (.int .u8 a9))] = some (ints .u8 [a0, a1, a2, a3, a4, a5, a6, a7, a8, a9], fun r => .sl r 0 10 1) := bs_ints .u8 5 10 [(0, a0), (1, a1), (2, a2), (3, a3), (4, a4), (5, a5), (6, a6), (7, a7), (8, a8), (9, a9)] zero5 tyOk5 cells5 (by decide) (by simp)
theorem bs5_11 (a0 a1 a2 a3 a4 a5 a6 a7 a8 a9 a10 : Int) : bsV Try.prog (some (.slice 5)) 11 [(0, .sc (.int .u8 a0)), (1, .sc (.int .u8 a1)), (2, .sc (.int .u8 a2)), (3, .sc (.int .u8 a3)), (4, .sc (.int .u8 a4)), (5, .sc (.int .u8 a5)), (6, .sc (.int .u8 a6)), (7, .sc (.int .u8 a7)), (8, .sc (.int .u8 a8)), (9, .sc (.int .u8 a9)), (10, .sc (.int .u8 a10))] = some (ints .u8 [a0, a1, a2, a3, a4, a5, a6, a7, a8, a9, a10], fun r => .sl r 0 11 1) := bs_ints .u8 5 11 [(0, a0), (1, a1), (2, a2), (3, a3), (4, a4), (5, a5), (6, a6), (7, a7), (8, a8), (9, a9), (10, a10)] zero5 tyOk5 cells5 (by decide) (by simp)
theorem bs5_12 (a0 a1 a2 a3 a4 a5 a6 a7 a8 a9 a10 a11 : Int) : bsV Try.prog (some (.slice 5)) 12 [(0, .sc (.int .u8 a0)), (1, .sc (.int .u8 a1)), (2, .sc (.int .u8 a2)), (3, .sc (.int .u8 a3)), (4, .sc (.int .u8 a4)), (5, .sc (.int .u8 a5)), (6, .sc (.int .u8 a6)), (7, .sc (.int .u8 a7)), (8, .sc (.int .u8 a8)), (9, .sc (.int .u8 a9)), (10, .sc (.int .u8 a10)), (11, .sc (.int .u8 a11))] = some (ints .u8 [a0, a1, a2, a3, a4, a5, a6, a7, a8, a9, a10, a11], fun r => .sl r 0 12 1) := bs_ints .u8 5 12 [(0, a0), (1, a1), (2, a2), (3, a3), (4, a4), (5, a5), (6, a6), (7, a7), (8, a8), (9, a9), (10, a10), (11, a11)] zero5 tyOk5 cells5 (by decide) (by simp)
theorem bs5_13 (a0 a1 a2 a3 a4 a5 a6 a7 a8 a9 a10 a11 a12 : Int) : bsV Try.prog (some (.slice 5)) 13 [(0, .sc (.int .u8 a0)), (1, .sc (.int .u8 a1)), (2, .sc (.int .u8 a2)), (3, .sc (.int .u8 a3)), (4, .sc (.int .u8 a4)), (5, .sc (.int .u8 a5)), (6, .sc (.int .u8 a6)), (7, .sc (.int .u8 a7)), (8, .sc (.int .u8 a8)), (9, .sc (.int .u8 a9)), (10, .sc (.int .u8 a10)), (11, .sc (.int .u8 a11)), (12, .sc (.int .u8 a12))] = some (ints .u8 [a0, a1, a2, a3, a4, a5, a6, a7, a8, a9, a10, a11, a12], fun r => .sl r 0 13 1) := bs_ints .u8 5 13 [(0, a0), (1, a1), (2, a2), (3, a3), (4, a4), (5, a5), (6, a6), (7, a7), (8, a8), (9, a9), (10, a10), (11, a11), (12, a12)] zero5 tyOk5 cells5 (by decide) (by simp)
theorem tyOk6 : tyOk Try.prog 6 = true := by kernel_rfl
theorem agg6 : aggB Try.prog 6 = false := by kernel_rfl
theorem cells6 : Try.prog.cellsOf 6 = 1 := by kernel_rfl
theorem isU6 : isU8 Try.prog 6 = true := by kernel_rfl
theorem zero6 : zeroA Try.prog 6 = some [.sc (.int .u8 0)] := by kernel_rfl
theorem info6 : (Try.prog.info? 6).map (·.bytes) = some 1 := by kernel_rfl
theorem mk6 (a b : IntKind) (m : Int) (h0 : 0 ≤ m) (h1 : m ≤ 1000000000000) : mkV Try.prog (some (.slice 6)) (.sc (.int a m)) (.sc (.int b m)) = some (ints .u8 (List.replicate m.toNat 0), fun r => .sl r 0 m.toNat 1) := mk_ints .u8 6 a b m _ zero6 info6 cells6 h0 (by omega) (by omega)
theorem bs6_0 : bsV Try.prog (some (.slice 6)) 0 [] = some (ints .u8 [], fun r => .sl r 0 0 1) := bs_ints .u8 6 0 [] zero6 tyOk6 cells6 (by decide) (by simp)
theorem bs6_1 (a0 : Int) : bsV Try.prog (some (.slice 6)) 1 [(0, .sc (.int .u8 a0))] = some (ints .u8 [a0], fun r => .sl r 0 1 1) := bs_ints .u8 6 1 [(0, a0)] zero6 tyOk6 cells6 (by decide) (by simp)
theorem bs6_2 (a0 a1 : Int) : bsV Try.prog (some (.slice 6)) 2 [(0, .sc (.int .u8 a0)), (1, .sc (.int .u8 a1))] = some (ints .u8 [a0, a1], fun r => .sl r 0 2 1) := bs_ints .u8 6 2 [(0, a0), (1, a1)] zero6 tyOk6 cells6 (by decide) (by simp)
theorem bs6_3 (a0 a1 a2 : Int) : bsV Try.prog (some (.slice 6)) 3 [(0, .sc (.int .u8 a0)), (1, .sc (.int .u8 a1)), (2, .sc (.int .u8 a2))] = some (ints .u8 [a0, a1, a2], fun r => .sl r 0 3 1) := bs_ints .u8 6 3 [(0, a0), (1, a1), (2, a2)] zero6 tyOk6 cells6 (by decide) (by simp)
theorem bs6_4 (a0 a1 a2 a3 : Int) : bsV Try.prog (some (.slice 6)) 4 [(0, .sc (.int .u8 a0)), (1, .sc (.int .u8 a1)), (2, .sc (.int .u8 a2)), (3, .sc (.int .u8 a3))] = some (ints .u8 [a0, a1, a2, a3], fun r => .sl r 0 4 1) := bs_ints .u8 6 4 [(0, a0), (1, a1), (2, a2), (3, a3)] zero6 tyOk6 cells6 (by decide) (by simp)
theorem bs6_5 (a0 a1 a2 a3 a4 : Int) : bsV Try.prog (some (.slice 6)) 5 [(0, .sc (.int .u8 a0)), (1, .sc (.int .u8 a1)), (2, .sc (.int .u8 a2)), (3, .sc (.int .u8 a3)), (4, .sc (.int .u8 a4))] = some (ints .u8 [a0, a1, a2, a3, a4], fun r => .sl r 0 5 1) := bs_ints .u8 6 5 [(0, a0), (1, a1), (2, a2), (3, a3), (4, a4)] zero6 tyOk6 cells6 (by decide) (by simp)
theorem bs6_6 (a0 a1 a2 a3 a4 a5 : Int) : bsV Try.prog (some (.slice 6)) 6 [(0, .sc (.int .u8 a0)), (1, .sc (.int .u8 a1)), (2, .sc (.int .u8 a2)), (3, .sc (.int .u8 a3)), (4, .sc (.int .u8 a4)), (5, .sc (.int .u8 a5))] = some (ints .u8 [a0, a1, a2, a3, a4, a5], fun r => .sl r 0 6 1) := bs_ints .u8 6 6 [(0, a0), (1, a1), (2, a2), (3, a3), (4, a4), (5, a5)] zero6 tyOk6 cells6 (by decide) (by simp)
theorem bs6_7 (a0 a1 a2 a3 a4 a5 a6 : Int) : bsV Try.prog (some (.slice 6)) 7 [(0, .sc (.int .u8 a0)), (1, .sc (.int .u8 a1)), (2, .sc (.int .u8 a2)), (3, .sc (.int .u8 a3)), (4, .sc (.int .u8 a4)), (5, .sc (.int .u8 a5)), (6, .sc (.int .u8 a6))] = some (ints .u8 [a0, a1, a2, a3, a4, a5, a6], fun r => .sl r 0 7 1) := bs_ints .u8 6 7 [(0, a0), (1, a1), (2, a2), (3, a3), (4, a4), (5, a5), (6, a6)] zero6 tyOk6 cells6 (by decide) (by simp)
theorem bs6_8 (a0 a1 a2 a3 a4 a5 a6 a7 : Int) : bsV Try.prog (some (.slice 6)) 8 [(0, .sc (.int .u8 a0)), (1, .sc (.int .u8 a1)), (2, .sc (.int .u8 a2)), (3, .sc (.int .u8 a3)), (4, .sc (.int .u8 a4)), (5, .sc (.int .u8 a5)), (6, .sc (.int .u8 a6)), (7, .sc (.int .u8 a7))] = some (ints .u8 [a0, a1, a2, a3, a4, a5, a6, a7], fun r => .sl r 0 8 1) := bs_ints .u8 6 8 [(0, a0), (1, a1), (2, a2), (3, a3), (4, a4), (5, a5), (6, a6), (7, a7)] zero6 tyOk6 cells6 (by decide) (by simp)
theorem bs6_10 (a0 a1 a2 a3 a4 a5 a6 a7 a8 a9 : Int) : bsV Try.prog (some (.slice 6)) 10 [(0, .sc (.int .u8 a0)), (1, .sc (.int .u8 a1)), (2, .sc (.int .u8 a2)), (3, .sc (.int .u8 a3)), (4, .sc (.int .u8 a4)), (5, .sc (.int .u8 a5)), (6, .sc (.int .u8 a6)), (7, .sc (.int .u8 a7)), (8, .sc (.int .u8 a8)), (9, .sc (.int .u8 a9))] = some (ints .u8 [a0, a1, a2, a3, a4, a5, a6, a7, a8, a9], fun r => .sl r 0 10 1) := bs_ints .u8 6 10 [(0, a0), (1, a1), (2, a2), (3, a3), (4, a4), (5, a5), (6, a6), (7, a7), (8, a8), (9, a9)] zero6 tyOk6 cells6 (by decide) (by simp)
theorem bs6_11 (a0 a1 a2 a3 a4 a5 a6 a7 a8 a9 a10 : Int) : bsV Try.prog (some (.slice 6)) 11 [(0, .sc (.int .u8 a0)), (1, .sc (.int .u8 a1)), (2, .sc (.int .u8 a2)), (3, .sc (.int .u8 a3)), (4, .sc (.int .u8 a4)), (5, .sc (.int .u8 a5)), (6, .sc (.int .u8 a6)), (7, .sc (.int .u8 a7)), (8, .sc (.int .u8 a8)), (9, .sc (.int .u8 a9)), (10, .sc (.int .u8 a10))] = some (ints .u8 [a0, a1, a2, a3, a4, a5, a6, a7, a8, a9, a10], fun r => .sl r 0 11 1) := bs_ints .u8 6 11 [(0, a0), (1, a1), (2, a2), (3, a3), (4, a4), (5, a5), (6, a6), (7, a7), (8, a8), (9, a9), (10, a10)] zero6 tyOk6 cells6 (by decide) (by simp)
theorem bs6_12 (a0 a1 a2 a3 a4 a5 a6 a7 a8 a9 a10 a11 : Int) : bsV Try.prog (some (.slice 6)) 12 [(0, .sc (.int .u8 a0)), (1, .sc (.int .u8 a1)), (2, .sc (.int .u8 a2)), (3, .sc (.int .u8 a3)), (4, .sc (.int .u8 a4)), (5, .sc (.int .u8 a5)), (6, .sc (.int .u8 a6)), (7, .sc (.int .u8 a7)), (8, .sc (.int .u8 a8)), (9, .sc (.int .u8 a9)), (10, .sc (.int .u8 a10)), (11, .sc (.int .u8 a11))] = some (ints .u8 [a0, a1, a2, a3, a4, a5, a6, a7, a8, a9, a10, a11], fun r => .sl r 0 12 1) := bs_ints .u8 6 12 [(0, a0), (1, a1), (2, a2), (3, a3), (4, a4), (5, a5), (6, a6), (7, a7), (8, a8), (9, a9), (10, a10), (11, a11)] zero6 tyOk6 cells6 (by decide) (by simp)
theorem bs6_13 (a0 a1 a2 a3 a4 a5 a6 a7 a8 a9 a10 a11 a12 : Int) : bsV Try.prog (some (.slice 6)) 13 [(0, .sc (.int .u8 a0)), (1, .sc (.int .u8 a1)), (2, .sc (.int .u8 a2)), (3, .sc (.int .u8 a3)), (4, .sc (.int .u8 a4)), (5, .sc (.int .u8 a5)), (6, .sc (.int .u8 a6)), (7, .sc (.int .u8 a7)), (8, .sc (.int .u8 a8)), (9, .sc (.int .u8 a9)), (10, .sc (.int .u8 a10)), (11, .sc (.int .u8 a11)), (12, .sc (.int .u8 a12))] = some (ints .u8 [a0, a1, a2, a3, a4, a5, a6, a7, a8, a9, a10, a11, a12], fun r => .sl r 0 13 1) := bs_ints .u8 6 13 [(0, a0), (1, a1), (2, a2), (3, a3), (4, a4), (5, a5), (6, a6), (7, a7), (8, a8), (9, a9), (10, a10), (11, a11), (12, a12)] zero6 tyOk6 cells6 (by decide) (by simp)
theorem tyOk7 : tyOk Try.prog 7 = true := by kernel_rfl
theorem agg7 : aggB Try.prog 7 = true := by kernel_rfl
theorem cells7 : Try.prog.cellsOf 7 = 4 := by kernel_rfl
theorem zero7 : zeroA Try.prog 7 = some [.sc (.int .i64 0), .sc (.int .i64 0), .sc (.bool false), .sc (.int .u8 0)] := by kernel_rfl
theorem tyOk8 : tyOk Try.prog 8 = true := by kernel_rfl
theorem agg8 : aggB Try.prog 8 = true := by kernel_rfl
theorem cells8 : Try.prog.cellsOf 8 = 4 := by kernel_rfl
theorem zero8 : zeroA Try.prog 8 = some [.sc (.int .i64 0), .sc (.int .i64 0), .sc (.bool false), .sc (.int .u8 0)] := by kernel_rfl
theorem tyOk9 : tyOk Try.prog 9 = true := by kernel_rfl
theorem agg9 : aggB Try.prog 9 = false := by kernel_rfl
theorem cells9 : Try.prog.cellsOf 9 = 1 := by kernel_rfl
theorem zero9 : zeroA Try.prog 9 = some [.sc (.string ByteArray.empty)] := by kernel_rfl
theorem info9 : (Try.prog.info? 9).map (·.bytes) = some 16 := by kernel_rfl
theorem bs9_0 : bsV Try.prog (some (.slice 9)) 0 [] = some (strs [], fun r => .sl r 0 0 1) := by simp [bsV, zero9, tyOk9, cells9, fillA, overA, AV.cells, strs, lits]
theorem bs9_1 (a0 : ByteArray) : bsV Try.prog (some (.slice 9)) 1 [(0, .sc (.string a0))] = some (strs [a0], fun r => .sl r 0 1 1) := by simp [bsV, zero9, tyOk9, cells9, fillA, overA, AV.cells, strs, lits]
theorem bs9_2 (a0 a1 : ByteArray) : bsV Try.prog (some (.slice 9)) 2 [(0, .sc (.string a0)), (1, .sc (.string a1))] = some (strs [a0, a1], fun r => .sl r 0 2 1) := by simp [bsV, zero9, tyOk9, cells9, fillA, overA, AV.cells, strs, lits]
theorem bs9_3 (a0 a1 a2 : ByteArray) : bsV Try.prog (some (.slice 9)) 3 [(0, .sc (.string a0)), (1, .sc (.string a1)), (2, .sc (.string a2))] = some (strs [a0, a1, a2], fun r => .sl r 0 3 1) := by simp [bsV, zero9, tyOk9, cells9, fillA, overA, AV.cells, strs, lits]
theorem bs9_4 (a0 a1 a2 a3 : ByteArray) : bsV Try.prog (some (.slice 9)) 4 [(0, .sc (.string a0)), (1, .sc (.string a1)), (2, .sc (.string a2)), (3, .sc (.string a3))] = some (strs [a0, a1, a2, a3], fun r => .sl r 0 4 1) := by simp [bsV, zero9, tyOk9, cells9, fillA, overA, AV.cells, strs, lits]
theorem bs9_5 (a0 a1 a2 a3 a4 : ByteArray) : bsV Try.prog (some (.slice 9)) 5 [(0, .sc (.string a0)), (1, .sc (.string a1)), (2, .sc (.string a2)), (3, .sc (.string a3)), (4, .sc (.string a4))] = some (strs [a0, a1, a2, a3, a4], fun r => .sl r 0 5 1) := by simp [bsV, zero9, tyOk9, cells9, fillA, overA, AV.cells, strs, lits]
theorem bs9_6 (a0 a1 a2 a3 a4 a5 : ByteArray) : bsV Try.prog (some (.slice 9)) 6 [(0, .sc (.string a0)), (1, .sc (.string a1)), (2, .sc (.string a2)), (3, .sc (.string a3)), (4, .sc (.string a4)), (5, .sc (.string a5))] = some (strs [a0, a1, a2, a3, a4, a5], fun r => .sl r 0 6 1) := by simp [bsV, zero9, tyOk9, cells9, fillA, overA, AV.cells, strs, lits]
theorem bs9_8 (a0 a1 a2 a3 a4 a5 a6 a7 : ByteArray) : bsV Try.prog (some (.slice 9)) 8 [(0, .sc (.string a0)), (1, .sc (.string a1)), (2, .sc (.string a2)), (3, .sc (.string a3)), (4, .sc (.string a4)), (5, .sc (.string a5)), (6, .sc (.string a6)), (7, .sc (.string a7))] = some (strs [a0, a1, a2, a3, a4, a5, a6, a7], fun r => .sl r 0 8 1) := by simp [bsV, zero9, tyOk9, cells9, fillA, overA, AV.cells, strs, lits]
theorem bs9_9 (a0 a1 a2 a3 a4 a5 a6 a7 a8 : ByteArray) : bsV Try.prog (some (.slice 9)) 9 [(0, .sc (.string a0)), (1, .sc (.string a1)), (2, .sc (.string a2)), (3, .sc (.string a3)), (4, .sc (.string a4)), (5, .sc (.string a5)), (6, .sc (.string a6)), (7, .sc (.string a7)), (8, .sc (.string a8))] = some (strs [a0, a1, a2, a3, a4, a5, a6, a7, a8], fun r => .sl r 0 9 1) := by simp [bsV, zero9, tyOk9, cells9, fillA, overA, AV.cells, strs, lits]
theorem bs9_10 (a0 a1 a2 a3 a4 a5 a6 a7 a8 a9 : ByteArray) : bsV Try.prog (some (.slice 9)) 10 [(0, .sc (.string a0)), (1, .sc (.string a1)), (2, .sc (.string a2)), (3, .sc (.string a3)), (4, .sc (.string a4)), (5, .sc (.string a5)), (6, .sc (.string a6)), (7, .sc (.string a7)), (8, .sc (.string a8)), (9, .sc (.string a9))] = some (strs [a0, a1, a2, a3, a4, a5, a6, a7, a8, a9], fun r => .sl r 0 10 1) := by simp [bsV, zero9, tyOk9, cells9, fillA, overA, AV.cells, strs, lits]
theorem tyOk10 : tyOk Try.prog 10 = true := by kernel_rfl
theorem agg10 : aggB Try.prog 10 = false := by kernel_rfl
theorem cells10 : Try.prog.cellsOf 10 = 1 := by kernel_rfl
theorem zero10 : zeroA Try.prog 10 = some [.sc (.string ByteArray.empty)] := by kernel_rfl
theorem info10 : (Try.prog.info? 10).map (·.bytes) = some 16 := by kernel_rfl
theorem bs10_0 : bsV Try.prog (some (.slice 10)) 0 [] = some (strs [], fun r => .sl r 0 0 1) := by simp [bsV, zero10, tyOk10, cells10, fillA, overA, AV.cells, strs, lits]
theorem bs10_1 (a0 : ByteArray) : bsV Try.prog (some (.slice 10)) 1 [(0, .sc (.string a0))] = some (strs [a0], fun r => .sl r 0 1 1) := by simp [bsV, zero10, tyOk10, cells10, fillA, overA, AV.cells, strs, lits]
theorem bs10_2 (a0 a1 : ByteArray) : bsV Try.prog (some (.slice 10)) 2 [(0, .sc (.string a0)), (1, .sc (.string a1))] = some (strs [a0, a1], fun r => .sl r 0 2 1) := by simp [bsV, zero10, tyOk10, cells10, fillA, overA, AV.cells, strs, lits]
theorem bs10_3 (a0 a1 a2 : ByteArray) : bsV Try.prog (some (.slice 10)) 3 [(0, .sc (.string a0)), (1, .sc (.string a1)), (2, .sc (.string a2))] = some (strs [a0, a1, a2], fun r => .sl r 0 3 1) := by simp [bsV, zero10, tyOk10, cells10, fillA, overA, AV.cells, strs, lits]
theorem bs10_4 (a0 a1 a2 a3 : ByteArray) : bsV Try.prog (some (.slice 10)) 4 [(0, .sc (.string a0)), (1, .sc (.string a1)), (2, .sc (.string a2)), (3, .sc (.string a3))] = some (strs [a0, a1, a2, a3], fun r => .sl r 0 4 1) := by simp [bsV, zero10, tyOk10, cells10, fillA, overA, AV.cells, strs, lits]
theorem bs10_5 (a0 a1 a2 a3 a4 : ByteArray) : bsV Try.prog (some (.slice 10)) 5 [(0, .sc (.string a0)), (1, .sc (.string a1)), (2, .sc (.string a2)), (3, .sc (.string a3)), (4, .sc (.string a4))] = some (strs [a0, a1, a2, a3, a4], fun r => .sl r 0 5 1) := by simp [bsV, zero10, tyOk10, cells10, fillA, overA, AV.cells, strs, lits]
theorem bs10_6 (a0 a1 a2 a3 a4 a5 : ByteArray) : bsV Try.prog (some (.slice 10)) 6 [(0, .sc (.string a0)), (1, .sc (.string a1)), (2, .sc (.string a2)), (3, .sc (.string a3)), (4, .sc (.string a4)), (5, .sc (.string a5))] = some (strs [a0, a1, a2, a3, a4, a5], fun r => .sl r 0 6 1) := by simp [bsV, zero10, tyOk10, cells10, fillA, overA, AV.cells, strs, lits]
theorem bs10_8 (a0 a1 a2 a3 a4 a5 a6 a7 : ByteArray) : bsV Try.prog (some (.slice 10)) 8 [(0, .sc (.string a0)), (1, .sc (.string a1)), (2, .sc (.string a2)), (3, .sc (.string a3)), (4, .sc (.string a4)), (5, .sc (.string a5)), (6, .sc (.string a6)), (7, .sc (.string a7))] = some (strs [a0, a1, a2, a3, a4, a5, a6, a7], fun r => .sl r 0 8 1) := by simp [bsV, zero10, tyOk10, cells10, fillA, overA, AV.cells, strs, lits]
theorem bs10_9 (a0 a1 a2 a3 a4 a5 a6 a7 a8 : ByteArray) : bsV Try.prog (some (.slice 10)) 9 [(0, .sc (.string a0)), (1, .sc (.string a1)), (2, .sc (.string a2)), (3, .sc (.string a3)), (4, .sc (.string a4)), (5, .sc (.string a5)), (6, .sc (.string a6)), (7, .sc (.string a7)), (8, .sc (.string a8))] = some (strs [a0, a1, a2, a3, a4, a5, a6, a7, a8], fun r => .sl r 0 9 1) := by simp [bsV, zero10, tyOk10, cells10, fillA, overA, AV.cells, strs, lits]
theorem bs10_10 (a0 a1 a2 a3 a4 a5 a6 a7 a8 a9 : ByteArray) : bsV Try.prog (some (.slice 10)) 10 [(0, .sc (.string a0)), (1, .sc (.string a1)), (2, .sc (.string a2)), (3, .sc (.string a3)), (4, .sc (.string a4)), (5, .sc (.string a5)), (6, .sc (.string a6)), (7, .sc (.string a7)), (8, .sc (.string a8)), (9, .sc (.string a9))] = some (strs [a0, a1, a2, a3, a4, a5, a6, a7, a8, a9], fun r => .sl r 0 10 1) := by simp [bsV, zero10, tyOk10, cells10, fillA, overA, AV.cells, strs, lits]
theorem tyOk11 : tyOk Try.prog 11 = true := by kernel_rfl
theorem agg11 : aggB Try.prog 11 = false := by kernel_rfl
theorem cells11 : Try.prog.cellsOf 11 = 1 := by kernel_rfl
theorem zero11 : zeroA Try.prog 11 = some [.sc (.string ByteArray.empty)] := by kernel_rfl
theorem info11 : (Try.prog.info? 11).map (·.bytes) = some 16 := by kernel_rfl
theorem bs11_0 : bsV Try.prog (some (.slice 11)) 0 [] = some (strs [], fun r => .sl r 0 0 1) := by simp [bsV, zero11, tyOk11, cells11, fillA, overA, AV.cells, strs, lits]
theorem bs11_1 (a0 : ByteArray) : bsV Try.prog (some (.slice 11)) 1 [(0, .sc (.string a0))] = some (strs [a0], fun r => .sl r 0 1 1) := by simp [bsV, zero11, tyOk11, cells11, fillA, overA, AV.cells, strs, lits]
theorem bs11_2 (a0 a1 : ByteArray) : bsV Try.prog (some (.slice 11)) 2 [(0, .sc (.string a0)), (1, .sc (.string a1))] = some (strs [a0, a1], fun r => .sl r 0 2 1) := by simp [bsV, zero11, tyOk11, cells11, fillA, overA, AV.cells, strs, lits]
theorem bs11_3 (a0 a1 a2 : ByteArray) : bsV Try.prog (some (.slice 11)) 3 [(0, .sc (.string a0)), (1, .sc (.string a1)), (2, .sc (.string a2))] = some (strs [a0, a1, a2], fun r => .sl r 0 3 1) := by simp [bsV, zero11, tyOk11, cells11, fillA, overA, AV.cells, strs, lits]
theorem bs11_4 (a0 a1 a2 a3 : ByteArray) : bsV Try.prog (some (.slice 11)) 4 [(0, .sc (.string a0)), (1, .sc (.string a1)), (2, .sc (.string a2)), (3, .sc (.string a3))] = some (strs [a0, a1, a2, a3], fun r => .sl r 0 4 1) := by simp [bsV, zero11, tyOk11, cells11, fillA, overA, AV.cells, strs, lits]
theorem bs11_5 (a0 a1 a2 a3 a4 : ByteArray) : bsV Try.prog (some (.slice 11)) 5 [(0, .sc (.string a0)), (1, .sc (.string a1)), (2, .sc (.string a2)), (3, .sc (.string a3)), (4, .sc (.string a4))] = some (strs [a0, a1, a2, a3, a4], fun r => .sl r 0 5 1) := by simp [bsV, zero11, tyOk11, cells11, fillA, overA, AV.cells, strs, lits]
theorem bs11_6 (a0 a1 a2 a3 a4 a5 : ByteArray) : bsV Try.prog (some (.slice 11)) 6 [(0, .sc (.string a0)), (1, .sc (.string a1)), (2, .sc (.string a2)), (3, .sc (.string a3)), (4, .sc (.string a4)), (5, .sc (.string a5))] = some (strs [a0, a1, a2, a3, a4, a5], fun r => .sl r 0 6 1) := by simp [bsV, zero11, tyOk11, cells11, fillA, overA, AV.cells, strs, lits]
theorem bs11_8 (a0 a1 a2 a3 a4 a5 a6 a7 : ByteArray) : bsV Try.prog (some (.slice 11)) 8 [(0, .sc (.string a0)), (1, .sc (.string a1)), (2, .sc (.string a2)), (3, .sc (.string a3)), (4, .sc (.string a4)), (5, .sc (.string a5)), (6, .sc (.string a6)), (7, .sc (.string a7))] = some (strs [a0, a1, a2, a3, a4, a5, a6, a7], fun r => .sl r 0 8 1) := by simp [bsV, zero11, tyOk11, cells11, fillA, overA, AV.cells, strs, lits]
theorem bs11_9 (a0 a1 a2 a3 a4 a5 a6 a7 a8 : ByteArray) : bsV Try.prog (some (.slice 11)) 9 [(0, .sc (.string a0)), (1, .sc (.string a1)), (2, .sc (.string a2)), (3, .sc (.string a3)), (4, .sc (.string a4)), (5, .sc (.string a5)), (6, .sc (.string a6)), (7, .sc (.string a7)), (8, .sc (.string a8))] = some (strs [a0, a1, a2, a3, a4, a5, a6, a7, a8], fun r => .sl r 0 9 1) := by simp [bsV, zero11, tyOk11, cells11, fillA, overA, AV.cells, strs, lits]
theorem bs11_10 (a0 a1 a2 a3 a4 a5 a6 a7 a8 a9 : ByteArray) : bsV Try.prog (some (.slice 11)) 10 [(0, .sc (.string a0)), (1, .sc (.string a1)), (2, .sc (.string a2)), (3, .sc (.string a3)), (4, .sc (.string a4)), (5, .sc (.string a5)), (6, .sc (.string a6)), (7, .sc (.string a7)), (8, .sc (.string a8)), (9, .sc (.string a9))] = some (strs [a0, a1, a2, a3, a4, a5, a6, a7, a8, a9], fun r => .sl r 0 10 1) := by simp [bsV, zero11, tyOk11, cells11, fillA, overA, AV.cells, strs, lits]
theorem tyOk12 : tyOk Try.prog 12 = true := by kernel_rfl
theorem agg12 : aggB Try.prog 12 = false := by kernel_rfl
theorem cells12 : Try.prog.cellsOf 12 = 1 := by kernel_rfl
theorem zero12 : zeroA Try.prog 12 = some [.sc (.int .u64 0)] := by kernel_rfl
theorem info12 : (Try.prog.info? 12).map (·.bytes) = some 8 := by kernel_rfl
theorem mk12 (a b : IntKind) (m : Int) (h0 : 0 ≤ m) (h1 : m ≤ 1000000000000) : mkV Try.prog (some (.slice 12)) (.sc (.int a m)) (.sc (.int b m)) = some (ints .u64 (List.replicate m.toNat 0), fun r => .sl r 0 m.toNat 1) := mk_ints .u64 12 a b m _ zero12 info12 cells12 h0 (by omega) (by omega)
theorem bs12_0 : bsV Try.prog (some (.slice 12)) 0 [] = some (ints .u64 [], fun r => .sl r 0 0 1) := bs_ints .u64 12 0 [] zero12 tyOk12 cells12 (by decide) (by simp)
theorem bs12_1 (a0 : Int) : bsV Try.prog (some (.slice 12)) 1 [(0, .sc (.int .u64 a0))] = some (ints .u64 [a0], fun r => .sl r 0 1 1) := bs_ints .u64 12 1 [(0, a0)] zero12 tyOk12 cells12 (by decide) (by simp)
theorem bs12_2 (a0 a1 : Int) : bsV Try.prog (some (.slice 12)) 2 [(0, .sc (.int .u64 a0)), (1, .sc (.int .u64 a1))] = some (ints .u64 [a0, a1], fun r => .sl r 0 2 1) := bs_ints .u64 12 2 [(0, a0), (1, a1)] zero12 tyOk12 cells12 (by decide) (by simp)
theorem bs12_3 (a0 a1 a2 : Int) : bsV Try.prog (some (.slice 12)) 3 [(0, .sc (.int .u64 a0)), (1, .sc (.int .u64 a1)), (2, .sc (.int .u64 a2))] = some (ints .u64 [a0, a1, a2], fun r => .sl r 0 3 1) := bs_ints .u64 12 3 [(0, a0), (1, a1), (2, a2)] zero12 tyOk12 cells12 (by decide) (by simp)
theorem bs12_4 (a0 a1 a2 a3 : Int) : bsV Try.prog (some (.slice 12)) 4 [(0, .sc (.int .u64 a0)), (1, .sc (.int .u64 a1)), (2, .sc (.int .u64 a2)), (3, .sc (.int .u64 a3))] = some (ints .u64 [a0, a1, a2, a3], fun r => .sl r 0 4 1) := bs_ints .u64 12 4 [(0, a0), (1, a1), (2, a2), (3, a3)] zero12 tyOk12 cells12 (by decide) (by simp)
theorem bs12_5 (a0 a1 a2 a3 a4 : Int) : bsV Try.prog (some (.slice 12)) 5 [(0, .sc (.int .u64 a0)), (1, .sc (.int .u64 a1)), (2, .sc (.int .u64 a2)), (3, .sc (.int .u64 a3)), (4, .sc (.int .u64 a4))] = some (ints .u64 [a0, a1, a2, a3, a4], fun r => .sl r 0 5 1) := bs_ints .u64 12 5 [(0, a0), (1, a1), (2, a2), (3, a3), (4, a4)] zero12 tyOk12 cells12 (by decide) (by simp)
theorem bs12_6 (a0 a1 a2 a3 a4 a5 : Int) : bsV Try.prog (some (.slice 12)) 6 [(0, .sc (.int .u64 a0)), (1, .sc (.int .u64 a1)), (2, .sc (.int .u64 a2)), (3, .sc (.int .u64 a3)), (4, .sc (.int .u64 a4)), (5, .sc (.int .u64 a5))] = some (ints .u64 [a0, a1, a2, a3, a4, a5], fun r => .sl r 0 6 1) := bs_ints .u64 12 6 [(0, a0), (1, a1), (2, a2), (3, a3), (4, a4), (5, a5)] zero12 tyOk12 cells12 (by decide) (by simp)
theorem bs12_7 (a0 a1 a2 a3 a4 a5 a6 : Int) : bsV Try.prog (some (.slice 12)) 7 [(0, .sc (.int .u64 a0)), (1, .sc (.int .u64 a1)), (2, .sc (.int .u64 a2)), (3, .sc (.int .u64 a3)), (4, .sc (.int .u64 a4)), (5, .sc (.int .u64 a5)), (6, .sc (.int .u64 a6))] = some (ints .u64 [a0, a1, a2, a3, a4, a5, a6], fun r => .sl r 0 7 1) := bs_ints .u64 12 7 [(0, a0), (1, a1), (2, a2), (3, a3), (4, a4), (5, a5), (6, a6)] zero12 tyOk12 cells12 (by decide) (by simp)
theorem bs12_8 (a0 a1 a2 a3 a4 a5 a6 a7 : Int) : bsV Try.prog (some (.slice 12)) 8 [(0, .sc (.int .u64 a0)), (1, .sc (.int .u64 a1)), (2, .sc (.int .u64 a2)), (3, .sc (.int .u64 a3)), (4, .sc (.int .u64 a4)), (5, .sc (.int .u64 a5)), (6, .sc (.int .u64 a6)), (7, .sc (.int .u64 a7))] = some (ints .u64 [a0, a1, a2, a3, a4, a5, a6, a7], fun r => .sl r 0 8 1) := bs_ints .u64 12 8 [(0, a0), (1, a1), (2, a2), (3, a3), (4, a4), (5, a5), (6, a6), (7, a7)] zero12 tyOk12 cells12 (by decide) (by simp)
theorem bs12_10 (a0 a1 a2 a3 a4 a5 a6 a7 a8 a9 : Int) : bsV Try.prog (some (.slice 12)) 10 [(0, .sc (.int .u64 a0)), (1, .sc (.int .u64 a1)), (2, .sc (.int .u64 a2)), (3, .sc (.int .u64 a3)), (4, .sc (.int .u64 a4)), (5, .sc (.int .u64 a5)), (6, .sc (.int .u64 a6)), (7, .sc (.int .u64 a7)), (8, .sc (.int .u64 a8)), (9, .sc (.int .u64 a9))] = some (ints .u64 [a0, a1, a2, a3, a4, a5, a6, a7, a8, a9], fun r => .sl r 0 10 1) := bs_ints .u64 12 10 [(0, a0), (1, a1), (2, a2), (3, a3), (4, a4), (5, a5), (6, a6), (7, a7), (8, a8), (9, a9)] zero12 tyOk12 cells12 (by decide) (by simp)
theorem bs12_11 (a0 a1 a2 a3 a4 a5 a6 a7 a8 a9 a10 : Int) : bsV Try.prog (some (.slice 12)) 11 [(0, .sc (.int .u64 a0)), (1, .sc (.int .u64 a1)), (2, .sc (.int .u64 a2)), (3, .sc (.int .u64 a3)), (4, .sc (.int .u64 a4)), (5, .sc (.int .u64 a5)), (6, .sc (.int .u64 a6)), (7, .sc (.int .u64 a7)), (8, .sc (.int .u64 a8)), (9, .sc (.int .u64 a9)), (10, .sc (.int .u64 a10))] = some (ints .u64 [a0, a1, a2, a3, a4, a5, a6, a7, a8, a9, a10], fun r => .sl r 0 11 1) := bs_ints .u64 12 11 [(0, a0), (1, a1), (2, a2), (3, a3), (4, a4), (5, a5), (6, a6), (7, a7), (8, a8), (9, a9), (10, a10)] zero12 tyOk12 cells12 (by decide) (by simp)
theorem bs12_12 (a0 a1 a2 a3 a4 a5 a6 a7 a8 a9 a10 a11 : Int) : bsV Try.prog (some (.slice 12)) 12 [(0, .sc (.int .u64 a0)), (1, .sc (.int .u64 a1)), (2, .sc (.int .u64 a2)), (3, .sc (.int .u64 a3)), (4, .sc (.int .u64 a4)), (5, .sc (.int .u64 a5)), (6, .sc (.int .u64 a6)), (7, .sc (.int .u64 a7)), (8, .sc (.int .u64 a8)), (9, .sc (.int .u64 a9)), (10, .sc (.int .u64 a10)), (11, .sc (.int .u64 a11))] = some (ints .u64 [a0, a1, a2, a3, a4, a5, a6, a7, a8, a9, a10, a11], fun r => .sl r 0 12 1) := bs_ints .u64 12 12 [(0, a0), (1, a1), (2, a2), (3, a3), (4, a4), (5, a5), (6, a6), (7, a7), (8, a8), (9, a9), (10, a10), (11, a11)] zero12 tyOk12 cells12 (by decide) (by simp)
theorem bs12_13 (a0 a1 a2 a3 a4 a5 a6 a7 a8 a9 a10 a11 a12 : Int) : bsV Try.prog (some (.slice 12)) 13 [(0, .sc (.int .u64 a0)), (1, .sc (.int .u64 a1)), (2, .sc (.int .u64 a2)), (3, .sc (.int .u64 a3)), (4, .sc (.int .u64 a4)), (5, .sc (.int .u64 a5)), (6, .sc (.int .u64 a6)), (7, .sc (.int .u64 a7)), (8, .sc (.int .u64 a8)), (9, .sc (.int .u64 a9)), (10, .sc (.int .u64 a10)), (11, .sc (.int .u64 a11)), (12, .sc (.int .u64 a12))] = some (ints .u64 [a0, a1, a2, a3, a4, a5, a6, a7, a8, a9, a10, a11, a12], fun r => .sl r 0 13 1) := bs_ints .u64 12 13 [(0, a0), (1, a1), (2, a2), (3, a3), (4, a4), (5, a5), (6, a6), (7, a7), (8, a8), (9, a9), (10, a10), (11, a11), (12, a12)] zero12 tyOk12 cells12 (by decide) (by simp)
theorem tyOk13 : tyOk Try.prog 13 = true := by kernel_rfl
theorem agg13 : aggB Try.prog 13 = true := by kernel_rfl
theorem cells13 : Try.prog.cellsOf 13 = 2 := by kernel_rfl
theorem zero13 : zeroA Try.prog 13 = some [.sc (.string ByteArray.empty), .sc (.int .u64 0)] := by kernel_rfl
theorem tyOk14 : tyOk Try.prog 14 = true := by kernel_rfl
theorem agg14 : aggB Try.prog 14 = true := by kernel_rfl
theorem cells14 : Try.prog.cellsOf 14 = 2 := by kernel_rfl
theorem zero14 : zeroA Try.prog 14 = some [.sc (.string ByteArray.empty), .sc (.int .u64 0)] := by kernel_rfl
theorem tyOk15 : tyOk Try.prog 15 = true := by kernel_rfl
theorem agg15 : aggB Try.prog 15 = false := by kernel_rfl
theorem cells15 : Try.prog.cellsOf 15 = 1 := by kernel_rfl
theorem zero15 : zeroA Try.prog 15 = some [.sc (.pointer none)] := by kernel_rfl
theorem tyOk16 : tyOk Try.prog 16 = true := by kernel_rfl
theorem agg16 : aggB Try.prog 16 = false := by kernel_rfl
theorem cells16 : Try.prog.cellsOf 16 = 1 := by kernel_rfl
theorem zero16 : zeroA Try.prog 16 = some [.sc (.pointer none)] := by kernel_rfl
theorem tyOk17 : tyOk Try.prog 17 = true := by kernel_rfl
theorem agg17 : aggB Try.prog 17 = false := by kernel_rfl
theorem cells17 : Try.prog.cellsOf 17 = 1 := by kernel_rfl
theorem zero17 : zeroA Try.prog 17 = some [.sc (.pointer none)] := by kernel_rfl
theorem tyOk18 : tyOk Try.prog 18 = true := by kernel_rfl
theorem agg18 : aggB Try.prog 18 = true := by kernel_rfl
theorem cells18 : Try.prog.cellsOf 18 = 1 := by kernel_rfl
theorem zero18 : zeroA Try.prog 18 = some [.sc (.pointer none)] := by kernel_rfl
theorem tyOk19 : tyOk Try.prog 19 = true := by kernel_rfl
theorem agg19 : aggB Try.prog 19 = true := by kernel_rfl
theorem cells19 : Try.prog.cellsOf 19 = 1 := by kernel_rfl
theorem zero19 : zeroA Try.prog 19 = some [.sc (.pointer none)] := by kernel_rfl
theorem tyOk20 : tyOk Try.prog 20 = true := by kernel_rfl
theorem agg20 : aggB Try.prog 20 = false := by kernel_rfl
theorem cells20 : Try.prog.cellsOf 20 = 1 := by kernel_rfl
theorem tyOk21 : tyOk Try.prog 21 = true := by kernel_rfl
theorem agg21 : aggB Try.prog 21 = false := by kernel_rfl
theorem cells21 : Try.prog.cellsOf 21 = 1 := by kernel_rfl
theorem zero21 : zeroA Try.prog 21 = some [.sc (.int .i32 0)] := by kernel_rfl
theorem info21 : (Try.prog.info? 21).map (·.bytes) = some 4 := by kernel_rfl
theorem mk21 (a b : IntKind) (m : Int) (h0 : 0 ≤ m) (h1 : m ≤ 1000000000000) : mkV Try.prog (some (.slice 21)) (.sc (.int a m)) (.sc (.int b m)) = some (ints .i32 (List.replicate m.toNat 0), fun r => .sl r 0 m.toNat 1) := mk_ints .i32 21 a b m _ zero21 info21 cells21 h0 (by omega) (by omega)
theorem bs21_0 : bsV Try.prog (some (.slice 21)) 0 [] = some (ints .i32 [], fun r => .sl r 0 0 1) := bs_ints .i32 21 0 [] zero21 tyOk21 cells21 (by decide) (by simp)
theorem bs21_1 (a0 : Int) : bsV Try.prog (some (.slice 21)) 1 [(0, .sc (.int .i32 a0))] = some (ints .i32 [a0], fun r => .sl r 0 1 1) := bs_ints .i32 21 1 [(0, a0)] zero21 tyOk21 cells21 (by decide) (by simp)
theorem bs21_2 (a0 a1 : Int) : bsV Try.prog (some (.slice 21)) 2 [(0, .sc (.int .i32 a0)), (1, .sc (.int .i32 a1))] = some (ints .i32 [a0, a1], fun r => .sl r 0 2 1) := bs_ints .i32 21 2 [(0, a0), (1, a1)] zero21 tyOk21 cells21 (by decide) (by simp)
theorem bs21_3 (a0 a1 a2 : Int) : bsV Try.prog (some (.slice 21)) 3 [(0, .sc (.int .i32 a0)), (1, .sc (.int .i32 a1)), (2, .sc (.int .i32 a2))] = some (ints .i32 [a0, a1, a2], fun r => .sl r 0 3 1) := bs_ints .i32 21 3 [(0, a0), (1, a1), (2, a2)] zero21 tyOk21 cells21 (by decide) (by simp)
theorem bs21_4 (a0 a1 a2 a3 : Int) : bsV Try.prog (some (.slice 21)) 4 [(0, .sc (.int .i32 a0)), (1, .sc (.int .i32 a1)), (2, .sc (.int .i32 a2)), (3, .sc (.int .i32 a3))] = some (ints .i32 [a0, a1, a2, a3], fun r => .sl r 0 4 1) := bs_ints .i32 21 4 [(0, a0), (1, a1), (2, a2), (3, a3)] zero21 tyOk21 cells21 (by decide) (by simp)
theorem bs21_5 (a0 a1 a2 a3 a4 : Int) : bsV Try.prog (some (.slice 21)) 5 [(0, .sc (.int .i32 a0)), (1, .sc (.int .i32 a1)), (2, .sc (.int .i32 a2)), (3, .sc (.int .i32 a3)), (4, .sc (.int .i32 a4))] = some (ints .i32 [a0, a1, a2, a3, a4], fun r => .sl r 0 5 1) := bs_ints .i32 21 5 [(0, a0), (1, a1), (2, a2), (3, a3), (4, a4)] zero21 tyOk21 cells21 (by decide) (by simp)
theorem bs21_6 (a0 a1 a2 a3 a4 a5 : Int) : bsV Try.prog (some (.slice 21)) 6 [(0, .sc (.int .i32 a0)), (1, .sc (.int .i32 a1)), (2, .sc (.int .i32 a2)), (3, .sc (.int .i32 a3)), (4, .sc (.int .i32 a4)), (5, .sc (.int .i32 a5))] = some (ints .i32 [a0, a1, a2, a3, a4, a5], fun r => .sl r 0 6 1) := bs_ints .i32 21 6 [(0, a0), (1, a1), (2, a2), (3, a3), (4, a4), (5, a5)] zero21 tyOk21 cells21 (by decide) (by simp)
theorem bs21_7 (a0 a1 a2 a3 a4 a5 a6 : Int) : bsV Try.prog (some (.slice 21)) 7 [(0, .sc (.int .i32 a0)), (1, .sc (.int .i32 a1)), (2, .sc (.int .i32 a2)), (3, .sc (.int .i32 a3)), (4, .sc (.int .i32 a4)), (5, .sc (.int .i32 a5)), (6, .sc (.int .i32 a6))] = some (ints .i32 [a0, a1, a2, a3, a4, a5, a6], fun r => .sl r 0 7 1) := bs_ints .i32 21 7 [(0, a0), (1, a1), (2, a2), (3, a3), (4, a4), (5, a5), (6, a6)] zero21 tyOk21 cells21 (by decide) (by simp)
theorem bs21_8 (a0 a1 a2 a3 a4 a5 a6 a7 : Int) : bsV Try.prog (some (.slice 21)) 8 [(0, .sc (.int .i32 a0)), (1, .sc (.int .i32 a1)), (2, .sc (.int .i32 a2)), (3, .sc (.int .i32 a3)), (4, .sc (.int .i32 a4)), (5, .sc (.int .i32 a5)), (6, .sc (.int .i32 a6)), (7, .sc (.int .i32 a7))] = some (ints .i32 [a0, a1, a2, a3, a4, a5, a6, a7], fun r => .sl r 0 8 1) := bs_ints .i32 21 8 [(0, a0), (1, a1), (2, a2), (3, a3), (4, a4), (5, a5), (6, a6), (7, a7)] zero21 tyOk21 cells21 (by decide) (by simp)
theorem bs21_10 (a0 a1 a2 a3 a4 a5 a6 a7 a8 a9 : Int) : bsV Try.prog (some (.slice 21)) 10 [(0, .sc (.int .i32 a0)), (1, .sc (.int .i32 a1)), (2, .sc (.int .i32 a2)), (3, .sc (.int .i32 a3)), (4, .sc (.int .i32 a4)), (5, .sc (.int .i32 a5)), (6, .sc (.int .i32 a6)), (7, .sc (.int .i32 a7)), (8, .sc (.int .i32 a8)), (9, .sc (.int .i32 a9))] = some (ints .i32 [a0, a1, a2, a3, a4, a5, a6, a7, a8, a9], fun r => .sl r 0 10 1) := bs_ints .i32 21 10 [(0, a0), (1, a1), (2, a2), (3, a3), (4, a4), (5, a5), (6, a6), (7, a7), (8, a8), (9, a9)] zero21 tyOk21 cells21 (by decide) (by simp)
theorem bs21_11 (a0 a1 a2 a3 a4 a5 a6 a7 a8 a9 a10 : Int) : bsV Try.prog (some (.slice 21)) 11 [(0, .sc (.int .i32 a0)), (1, .sc (.int .i32 a1)), (2, .sc (.int .i32 a2)), (3, .sc (.int .i32 a3)), (4, .sc (.int .i32 a4)), (5, .sc (.int .i32 a5)), (6, .sc (.int .i32 a6)), (7, .sc (.int .i32 a7)), (8, .sc (.int .i32 a8)), (9, .sc (.int .i32 a9)), (10, .sc (.int .i32 a10))] = some (ints .i32 [a0, a1, a2, a3, a4, a5, a6, a7, a8, a9, a10], fun r => .sl r 0 11 1) := bs_ints .i32 21 11 [(0, a0), (1, a1), (2, a2), (3, a3), (4, a4), (5, a5), (6, a6), (7, a7), (8, a8), (9, a9), (10, a10)] zero21 tyOk21 cells21 (by decide) (by simp)
theorem bs21_12 (a0 a1 a2 a3 a4 a5 a6 a7 a8 a9 a10 a11 : Int) : bsV Try.prog (some (.slice 21)) 12 [(0, .sc (.int .i32 a0)), (1, .sc (.int .i32 a1)), (2, .sc (.int .i32 a2)), (3, .sc (.int .i32 a3)), (4, .sc (.int .i32 a4)), (5, .sc (.int .i32 a5)), (6, .sc (.int .i32 a6)), (7, .sc (.int .i32 a7)), (8, .sc (.int .i32 a8)), (9, .sc (.int .i32 a9)), (10, .sc (.int .i32 a10)), (11, .sc (.int .i32 a11))] = some (ints .i32 [a0, a1, a2, a3, a4, a5, a6, a7, a8, a9, a10, a11], fun r => .sl r 0 12 1) := bs_ints .i32 21 12 [(0, a0), (1, a1), (2, a2), (3, a3), (4, a4), (5, a5), (6, a6), (7, a7), (8, a8), (9, a9), (10, a10), (11, a11)] zero21 tyOk21 cells21 (by decide) (by simp)
theorem bs21_13 (a0 a1 a2 a3 a4 a5 a6 a7 a8 a9 a10 a11 a12 : Int) : bsV Try.prog (some (.slice 21)) 13 [(0, .sc (.int .i32 a0)), (1, .sc (.int .i32 a1)), (2, .sc (.int .i32 a2)), (3, .sc (.int .i32 a3)), (4, .sc (.int .i32 a4)), (5, .sc (.int .i32 a5)), (6, .sc (.int .i32 a6)), (7, .sc (.int .i32 a7)), (8, .sc (.int .i32 a8)), (9, .sc (.int .i32 a9)), (10, .sc (.int .i32 a10)), (11, .sc (.int .i32 a11)), (12, .sc (.int .i32 a12))] = some (ints .i32 [a0, a1, a2, a3, a4, a5, a6, a7, a8, a9, a10, a11, a12], fun r => .sl r 0 13 1) := bs_ints .i32 21 13 [(0, a0), (1, a1), (2, a2), (3, a3), (4, a4), (5, a5), (6, a6), (7, a7), (8, a8), (9, a9), (10, a10), (11, a11), (12, a12)] zero21 tyOk21 cells21 (by decide) (by simp)
theorem tyOk22 : tyOk Try.prog 22 = true := by kernel_rfl
theorem agg22 : aggB Try.prog 22 = true := by kernel_rfl
theorem cells22 : Try.prog.cellsOf 22 = 4 := by kernel_rfl
theorem zero22 : zeroA Try.prog 22 = some [.sc (.int .i64 0), .sc (.int .i64 0), .sc (.int .i64 0), .sc (.string ByteArray.empty)] := by kernel_rfl
theorem tyOk23 : tyOk Try.prog 23 = true := by kernel_rfl
theorem agg23 : aggB Try.prog 23 = true := by kernel_rfl
theorem cells23 : Try.prog.cellsOf 23 = 4 := by kernel_rfl
theorem zero23 : zeroA Try.prog 23 = some [.sc (.int .i64 0), .sc (.int .i64 0), .sc (.int .i64 0), .sc (.string ByteArray.empty)] := by kernel_rfl
theorem tyOk24 : tyOk Try.prog 24 = true := by kernel_rfl
theorem agg24 : aggB Try.prog 24 = false := by kernel_rfl
theorem cells24 : Try.prog.cellsOf 24 = 1 := by kernel_rfl
theorem tyOk25 : tyOk Try.prog 25 = true := by kernel_rfl
theorem agg25 : aggB Try.prog 25 = false := by kernel_rfl
theorem cells25 : Try.prog.cellsOf 25 = 1 := by kernel_rfl
theorem tyOk26 : tyOk Try.prog 26 = true := by kernel_rfl
theorem agg26 : aggB Try.prog 26 = false := by kernel_rfl
theorem cells26 : Try.prog.cellsOf 26 = 1 := by kernel_rfl
theorem tyOk27 : tyOk Try.prog 27 = true := by kernel_rfl
theorem agg27 : aggB Try.prog 27 = true := by kernel_rfl
theorem cells27 : Try.prog.cellsOf 27 = 4 := by kernel_rfl
theorem zero27 : zeroA Try.prog 27 = some [.sc (.int .i64 0), .sc (.int .i64 0), .sc (.int .i64 0), .sc (.string ByteArray.empty)] := by kernel_rfl
theorem info27 : (Try.prog.info? 27).map (·.bytes) = some 40 := by kernel_rfl
theorem tyOk28 : tyOk Try.prog 28 = true := by kernel_rfl
theorem agg28 : aggB Try.prog 28 = false := by kernel_rfl
theorem cells28 : Try.prog.cellsOf 28 = 1 := by kernel_rfl
theorem tyOk29 : tyOk Try.prog 29 = true := by kernel_rfl
theorem agg29 : aggB Try.prog 29 = false := by kernel_rfl
theorem cells29 : Try.prog.cellsOf 29 = 1 := by kernel_rfl
theorem tyOk30 : tyOk Try.prog 30 = true := by kernel_rfl
theorem agg30 : aggB Try.prog 30 = false := by kernel_rfl
theorem cells30 : Try.prog.cellsOf 30 = 1 := by kernel_rfl
theorem zero30 : zeroA Try.prog 30 = some [.sc (.slice none 0 0)] := by kernel_rfl
theorem tyOk31 : tyOk Try.prog 31 = true := by kernel_rfl
theorem agg31 : aggB Try.prog 31 = true := by kernel_rfl
theorem cells31 : Try.prog.cellsOf 31 = 4 := by kernel_rfl
theorem zero31 : zeroA Try.prog 31 = some [.sc (.int .i64 0), .sc (.int .i64 0), .sc (.string ByteArray.empty), .sc (.slice none 0 0)] := by kernel_rfl
theorem tyOk32 : tyOk Try.prog 32 = true := by kernel_rfl
theorem agg32 : aggB Try.prog 32 = true := by kernel_rfl
theorem cells32 : Try.prog.cellsOf 32 = 4 := by kernel_rfl
theorem zero32 : zeroA Try.prog 32 = some [.sc (.int .i64 0), .sc (.int .i64 0), .sc (.string ByteArray.empty), .sc (.slice none 0 0)] := by kernel_rfl
theorem tyOk33 : tyOk Try.prog 33 = true := by kernel_rfl
theorem agg33 : aggB Try.prog 33 = false := by kernel_rfl
theorem cells33 : Try.prog.cellsOf 33 = 1 := by kernel_rfl
theorem tyOk34 : tyOk Try.prog 34 = true := by kernel_rfl
theorem agg34 : aggB Try.prog 34 = false := by kernel_rfl
theorem cells34 : Try.prog.cellsOf 34 = 1 := by kernel_rfl
theorem tyOk35 : tyOk Try.prog 35 = true := by kernel_rfl
theorem agg35 : aggB Try.prog 35 = true := by kernel_rfl
theorem cells35 : Try.prog.cellsOf 35 = 4 := by kernel_rfl
theorem zero35 : zeroA Try.prog 35 = some [.sc (.int .i64 0), .sc (.int .i64 0), .sc (.string ByteArray.empty), .sc (.slice none 0 0)] := by kernel_rfl
theorem tyOk36 : tyOk Try.prog 36 = true := by kernel_rfl
theorem agg36 : aggB Try.prog 36 = false := by kernel_rfl
theorem cells36 : Try.prog.cellsOf 36 = 1 := by kernel_rfl
theorem tyOk37 : tyOk Try.prog 37 = true := by kernel_rfl
theorem agg37 : aggB Try.prog 37 = false := by kernel_rfl
theorem cells37 : Try.prog.cellsOf 37 = 1 := by kernel_rfl
theorem tyOk38 : tyOk Try.prog 38 = true := by kernel_rfl
theorem agg38 : aggB Try.prog 38 = false := by kernel_rfl
theorem cells38 : Try.prog.cellsOf 38 = 1 := by kernel_rfl
theorem tyOk39 : tyOk Try.prog 39 = true := by kernel_rfl
theorem agg39 : aggB Try.prog 39 = false := by kernel_rfl
theorem cells39 : Try.prog.cellsOf 39 = 1 := by kernel_rfl
theorem zero39 : zeroA Try.prog 39 = some [.sc (.slice none 0 0)] := by kernel_rfl
theorem tyOk40 : tyOk Try.prog 40 = true := by kernel_rfl
theorem agg40 : aggB Try.prog 40 = false := by kernel_rfl
theorem cells40 : Try.prog.cellsOf 40 = 1 := by kernel_rfl
theorem tyOk41 : tyOk Try.prog 41 = true := by kernel_rfl
theorem agg41 : aggB Try.prog 41 = false := by kernel_rfl
theorem cells41 : Try.prog.cellsOf 41 = 1 := by kernel_rfl
theorem tyOk42 : tyOk Try.prog 42 = true := by kernel_rfl
theorem agg42 : aggB Try.prog 42 = false := by kernel_rfl
theorem cells42 : Try.prog.cellsOf 42 = 1 := by kernel_rfl
theorem tyOk43 : tyOk Try.prog 43 = true := by kernel_rfl
theorem agg43 : aggB Try.prog 43 = false := by kernel_rfl
theorem cells43 : Try.prog.cellsOf 43 = 1 := by kernel_rfl
theorem tyOk44 : tyOk Try.prog 44 = true := by kernel_rfl
theorem agg44 : aggB Try.prog 44 = false := by kernel_rfl
theorem cells44 : Try.prog.cellsOf 44 = 1 := by kernel_rfl
theorem tyOk45 : tyOk Try.prog 45 = true := by kernel_rfl
theorem agg45 : aggB Try.prog 45 = false := by kernel_rfl
theorem cells45 : Try.prog.cellsOf 45 = 1 := by kernel_rfl
theorem zero45 : zeroA Try.prog 45 = some [.sc (.slice none 0 0)] := by kernel_rfl
theorem tyOk46 : tyOk Try.prog 46 = true := by kernel_rfl
theorem agg46 : aggB Try.prog 46 = false := by kernel_rfl
theorem cells46 : Try.prog.cellsOf 46 = 1 := by kernel_rfl
theorem tyOk47 : tyOk Try.prog 47 = true := by kernel_rfl
theorem agg47 : aggB Try.prog 47 = false := by kernel_rfl
theorem cells47 : Try.prog.cellsOf 47 = 1 := by kernel_rfl
theorem tyOk48 : tyOk Try.prog 48 = true := by kernel_rfl
theorem agg48 : aggB Try.prog 48 = false := by kernel_rfl
theorem cells48 : Try.prog.cellsOf 48 = 1 := by kernel_rfl
theorem zero48 : zeroA Try.prog 48 = some [.sc (.slice none 0 0)] := by kernel_rfl
theorem tyOk49 : tyOk Try.prog 49 = true := by kernel_rfl
theorem agg49 : aggB Try.prog 49 = false := by kernel_rfl
theorem cells49 : Try.prog.cellsOf 49 = 1 := by kernel_rfl
theorem tyOk50 : tyOk Try.prog 50 = true := by kernel_rfl
theorem agg50 : aggB Try.prog 50 = false := by kernel_rfl
theorem cells50 : Try.prog.cellsOf 50 = 1 := by kernel_rfl
theorem tyOk51 : tyOk Try.prog 51 = true := by kernel_rfl
theorem agg51 : aggB Try.prog 51 = false := by kernel_rfl
theorem cells51 : Try.prog.cellsOf 51 = 1 := by kernel_rfl
theorem tyOk52 : tyOk Try.prog 52 = true := by kernel_rfl
theorem agg52 : aggB Try.prog 52 = false := by kernel_rfl
theorem cells52 : Try.prog.cellsOf 52 = 1 := by kernel_rfl
theorem tyOk53 : tyOk Try.prog 53 = true := by kernel_rfl
theorem agg53 : aggB Try.prog 53 = false := by kernel_rfl
theorem cells53 : Try.prog.cellsOf 53 = 1 := by kernel_rfl
theorem tyOk54 : tyOk Try.prog 54 = true := by kernel_rfl
theorem agg54 : aggB Try.prog 54 = false := by kernel_rfl
theorem cells54 : Try.prog.cellsOf 54 = 1 := by kernel_rfl
theorem tyOk55 : tyOk Try.prog 55 = true := by kernel_rfl
theorem agg55 : aggB Try.prog 55 = false := by kernel_rfl
theorem cells55 : Try.prog.cellsOf 55 = 1 := by kernel_rfl
theorem tyOk56 : tyOk Try.prog 56 = true := by kernel_rfl
theorem agg56 : aggB Try.prog 56 = false := by kernel_rfl
theorem cells56 : Try.prog.cellsOf 56 = 1 := by kernel_rfl
theorem tyOk57 : tyOk Try.prog 57 = true := by kernel_rfl
theorem agg57 : aggB Try.prog 57 = false := by kernel_rfl
theorem cells57 : Try.prog.cellsOf 57 = 1 := by kernel_rfl
theorem tyOk58 : tyOk Try.prog 58 = true := by kernel_rfl
theorem agg58 : aggB Try.prog 58 = false := by kernel_rfl
theorem cells58 : Try.prog.cellsOf 58 = 1 := by kernel_rfl
theorem tyOk59 : tyOk Try.prog 59 = true := by kernel_rfl
theorem agg59 : aggB Try.prog 59 = false := by kernel_rfl
theorem cells59 : Try.prog.cellsOf 59 = 1 := by kernel_rfl
theorem tyOk60 : tyOk Try.prog 60 = true := by kernel_rfl
theorem agg60 : aggB Try.prog 60 = false := by kernel_rfl
theorem cells60 : Try.prog.cellsOf 60 = 1 := by kernel_rfl
theorem tyOk61 : tyOk Try.prog 61 = true := by kernel_rfl
theorem agg61 : aggB Try.prog 61 = false := by kernel_rfl
theorem cells61 : Try.prog.cellsOf 61 = 1 := by kernel_rfl
theorem tyOk62 : tyOk Try.prog 62 = true := by kernel_rfl
theorem agg62 : aggB Try.prog 62 = false := by kernel_rfl
theorem cells62 : Try.prog.cellsOf 62 = 1 := by kernel_rfl
theorem tyOk63 : tyOk Try.prog 63 = true := by kernel_rfl
theorem agg63 : aggB Try.prog 63 = false := by kernel_rfl
theorem cells63 : Try.prog.cellsOf 63 = 1 := by kernel_rfl
theorem tyOk64 : tyOk Try.prog 64 = true := by kernel_rfl
theorem agg64 : aggB Try.prog 64 = false := by kernel_rfl
theorem cells64 : Try.prog.cellsOf 64 = 1 := by kernel_rfl
theorem tyOk65 : tyOk Try.prog 65 = true := by kernel_rfl
theorem agg65 : aggB Try.prog 65 = false := by kernel_rfl
theorem cells65 : Try.prog.cellsOf 65 = 1 := by kernel_rfl
theorem tyOk66 : tyOk Try.prog 66 = true := by kernel_rfl
theorem agg66 : aggB Try.prog 66 = false := by kernel_rfl
theorem cells66 : Try.prog.cellsOf 66 = 1 := by kernel_rfl
theorem tyOk67 : tyOk Try.prog 67 = true := by kernel_rfl
theorem agg67 : aggB Try.prog 67 = false := by kernel_rfl
theorem cells67 : Try.prog.cellsOf 67 = 1 := by kernel_rfl
theorem tyOk68 : tyOk Try.prog 68 = true := by kernel_rfl
theorem agg68 : aggB Try.prog 68 = false := by kernel_rfl
theorem cells68 : Try.prog.cellsOf 68 = 1 := by kernel_rfl
theorem tyOk69 : tyOk Try.prog 69 = true := by kernel_rfl
theorem agg69 : aggB Try.prog 69 = false := by kernel_rfl
theorem cells69 : Try.prog.cellsOf 69 = 1 := by kernel_rfl
theorem tyOk70 : tyOk Try.prog 70 = true := by kernel_rfl
theorem agg70 : aggB Try.prog 70 = false := by kernel_rfl
theorem cells70 : Try.prog.cellsOf 70 = 1 := by kernel_rfl
theorem tyOk71 : tyOk Try.prog 71 = true := by kernel_rfl
theorem agg71 : aggB Try.prog 71 = false := by kernel_rfl
theorem cells71 : Try.prog.cellsOf 71 = 1 := by kernel_rfl
theorem tyOk72 : tyOk Try.prog 72 = true := by kernel_rfl
theorem agg72 : aggB Try.prog 72 = false := by kernel_rfl
theorem cells72 : Try.prog.cellsOf 72 = 1 := by kernel_rfl
theorem tyOk73 : tyOk Try.prog 73 = true := by kernel_rfl
theorem agg73 : aggB Try.prog 73 = false := by kernel_rfl
theorem cells73 : Try.prog.cellsOf 73 = 1 := by kernel_rfl
theorem tyOk74 : tyOk Try.prog 74 = true := by kernel_rfl
theorem agg74 : aggB Try.prog 74 = false := by kernel_rfl
theorem cells74 : Try.prog.cellsOf 74 = 1 := by kernel_rfl
theorem tyOk75 : tyOk Try.prog 75 = true := by kernel_rfl
theorem agg75 : aggB Try.prog 75 = false := by kernel_rfl
theorem cells75 : Try.prog.cellsOf 75 = 1 := by kernel_rfl
theorem tyOk76 : tyOk Try.prog 76 = true := by kernel_rfl
theorem agg76 : aggB Try.prog 76 = false := by kernel_rfl
theorem cells76 : Try.prog.cellsOf 76 = 1 := by kernel_rfl
theorem zero76 : zeroA Try.prog 76 = some [.sc (.pointer none)] := by kernel_rfl
theorem tyOk77 : tyOk Try.prog 77 = true := by kernel_rfl
theorem agg77 : aggB Try.prog 77 = false := by kernel_rfl
theorem cells77 : Try.prog.cellsOf 77 = 1 := by kernel_rfl
theorem tyOk78 : tyOk Try.prog 78 = true := by kernel_rfl
theorem agg78 : aggB Try.prog 78 = false := by kernel_rfl
theorem cells78 : Try.prog.cellsOf 78 = 1 := by kernel_rfl
theorem tyOk79 : tyOk Try.prog 79 = true := by kernel_rfl
theorem agg79 : aggB Try.prog 79 = false := by kernel_rfl
theorem cells79 : Try.prog.cellsOf 79 = 1 := by kernel_rfl
theorem tyOk80 : tyOk Try.prog 80 = true := by kernel_rfl
theorem agg80 : aggB Try.prog 80 = false := by kernel_rfl
theorem cells80 : Try.prog.cellsOf 80 = 1 := by kernel_rfl
theorem tyOk81 : tyOk Try.prog 81 = true := by kernel_rfl
theorem agg81 : aggB Try.prog 81 = false := by kernel_rfl
theorem cells81 : Try.prog.cellsOf 81 = 1 := by kernel_rfl
theorem tyOk82 : tyOk Try.prog 82 = true := by kernel_rfl
theorem agg82 : aggB Try.prog 82 = false := by kernel_rfl
theorem cells82 : Try.prog.cellsOf 82 = 1 := by kernel_rfl
theorem tyOk83 : tyOk Try.prog 83 = true := by kernel_rfl
theorem agg83 : aggB Try.prog 83 = false := by kernel_rfl
theorem cells83 : Try.prog.cellsOf 83 = 1 := by kernel_rfl
theorem tyOk84 : tyOk Try.prog 84 = true := by kernel_rfl
theorem agg84 : aggB Try.prog 84 = false := by kernel_rfl
theorem cells84 : Try.prog.cellsOf 84 = 1 := by kernel_rfl
theorem tyOk85 : tyOk Try.prog 85 = true := by kernel_rfl
theorem agg85 : aggB Try.prog 85 = false := by kernel_rfl
theorem cells85 : Try.prog.cellsOf 85 = 1 := by kernel_rfl
theorem tyOk86 : tyOk Try.prog 86 = true := by kernel_rfl
theorem agg86 : aggB Try.prog 86 = false := by kernel_rfl
theorem cells86 : Try.prog.cellsOf 86 = 1 := by kernel_rfl
theorem tyOk87 : tyOk Try.prog 87 = true := by kernel_rfl
theorem agg87 : aggB Try.prog 87 = false := by kernel_rfl
theorem cells87 : Try.prog.cellsOf 87 = 1 := by kernel_rfl
theorem tyOk88 : tyOk Try.prog 88 = true := by kernel_rfl
theorem agg88 : aggB Try.prog 88 = false := by kernel_rfl
theorem cells88 : Try.prog.cellsOf 88 = 1 := by kernel_rfl
theorem tyOk89 : tyOk Try.prog 89 = true := by kernel_rfl
theorem agg89 : aggB Try.prog 89 = false := by kernel_rfl
theorem cells89 : Try.prog.cellsOf 89 = 1 := by kernel_rfl
theorem tyOk90 : tyOk Try.prog 90 = true := by kernel_rfl
theorem agg90 : aggB Try.prog 90 = false := by kernel_rfl
theorem cells90 : Try.prog.cellsOf 90 = 1 := by kernel_rfl
theorem tyOk91 : tyOk Try.prog 91 = true := by kernel_rfl
theorem agg91 : aggB Try.prog 91 = false := by kernel_rfl
theorem cells91 : Try.prog.cellsOf 91 = 1 := by kernel_rfl
theorem tyOk92 : tyOk Try.prog 92 = true := by kernel_rfl
theorem agg92 : aggB Try.prog 92 = false := by kernel_rfl
theorem cells92 : Try.prog.cellsOf 92 = 1 := by kernel_rfl
theorem tyOk93 : tyOk Try.prog 93 = true := by kernel_rfl
theorem agg93 : aggB Try.prog 93 = false := by kernel_rfl
theorem cells93 : Try.prog.cellsOf 93 = 1 := by kernel_rfl
theorem tyOk94 : tyOk Try.prog 94 = true := by kernel_rfl
theorem agg94 : aggB Try.prog 94 = true := by kernel_rfl
theorem cells94 : Try.prog.cellsOf 94 = 3 := by kernel_rfl
theorem zero94 : zeroA Try.prog 94 = some [.sc (.slice none 0 0), .sc (.int .i64 0), .sc (.int .i64 0)] := by kernel_rfl
theorem tyOk95 : tyOk Try.prog 95 = true := by kernel_rfl
theorem agg95 : aggB Try.prog 95 = true := by kernel_rfl
theorem cells95 : Try.prog.cellsOf 95 = 3 := by kernel_rfl
theorem zero95 : zeroA Try.prog 95 = some [.sc (.slice none 0 0), .sc (.int .i64 0), .sc (.int .i64 0)] := by kernel_rfl
theorem tyOk96 : tyOk Try.prog 96 = true := by kernel_rfl
theorem agg96 : aggB Try.prog 96 = false := by kernel_rfl
theorem cells96 : Try.prog.cellsOf 96 = 1 := by kernel_rfl
theorem zero96 : zeroA Try.prog 96 = some [.sc (.int .u64 0)] := by kernel_rfl
theorem info96 : (Try.prog.info? 96).map (·.bytes) = some 8 := by kernel_rfl
theorem mk96 (a b : IntKind) (m : Int) (h0 : 0 ≤ m) (h1 : m ≤ 1000000000000) : mkV Try.prog (some (.slice 96)) (.sc (.int a m)) (.sc (.int b m)) = some (ints .u64 (List.replicate m.toNat 0), fun r => .sl r 0 m.toNat 1) := mk_ints .u64 96 a b m _ zero96 info96 cells96 h0 (by omega) (by omega)
theorem bs96_0 : bsV Try.prog (some (.slice 96)) 0 [] = some (ints .u64 [], fun r => .sl r 0 0 1) := bs_ints .u64 96 0 [] zero96 tyOk96 cells96 (by decide) (by simp)
theorem bs96_1 (a0 : Int) : bsV Try.prog (some (.slice 96)) 1 [(0, .sc (.int .u64 a0))] = some (ints .u64 [a0], fun r => .sl r 0 1 1) := bs_ints .u64 96 1 [(0, a0)] zero96 tyOk96 cells96 (by decide) (by simp)
theorem bs96_2 (a0 a1 : Int) : bsV Try.prog (some (.slice 96)) 2 [(0, .sc (.int .u64 a0)), (1, .sc (.int .u64 a1))] = some (ints .u64 [a0, a1], fun r => .sl r 0 2 1) := bs_ints .u64 96 2 [(0, a0), (1, a1)] zero96 tyOk96 cells96 (by decide) (by simp)
theorem bs96_3 (a0 a1 a2 : Int) : bsV Try.prog (some (.slice 96)) 3 [(0, .sc (.int .u64 a0)), (1, .sc (.int .u64 a1)), (2, .sc (.int .u64 a2))] = some (ints .u64 [a0, a1, a2], fun r => .sl r 0 3 1) := bs_ints .u64 96 3 [(0, a0), (1, a1), (2, a2)] zero96 tyOk96 cells96 (by decide) (by simp)
theorem bs96_4 (a0 a1 a2 a3 : Int) : bsV Try.prog (some (.slice 96)) 4 [(0, .sc (.int .u64 a0)), (1, .sc (.int .u64 a1)), (2, .sc (.int .u64 a2)), (3, .sc (.int .u64 a3))] = some (ints .u64 [a0, a1, a2, a3], fun r => .sl r 0 4 1) := bs_ints .u64 96 4 [(0, a0), (1, a1), (2, a2), (3, a3)] zero96 tyOk96 cells96 (by decide) (by simp)
theorem bs96_5 (a0 a1 a2 a3 a4 : Int) : bsV Try.prog (some (.slice 96)) 5 [(0, .sc (.int .u64 a0)), (1, .sc (.int .u64 a1)), (2, .sc (.int .u64 a2)), (3, .sc (.int .u64 a3)), (4, .sc (.int .u64 a4))] = some (ints .u64 [a0, a1, a2, a3, a4], fun r => .sl r 0 5 1) := bs_ints .u64 96 5 [(0, a0), (1, a1), (2, a2), (3, a3), (4, a4)] zero96 tyOk96 cells96 (by decide) (by simp)
theorem bs96_6 (a0 a1 a2 a3 a4 a5 : Int) : bsV Try.prog (some (.slice 96)) 6 [(0, .sc (.int .u64 a0)), (1, .sc (.int .u64 a1)), (2, .sc (.int .u64 a2)), (3, .sc (.int .u64 a3)), (4, .sc (.int .u64 a4)), (5, .sc (.int .u64 a5))] = some (ints .u64 [a0, a1, a2, a3, a4, a5], fun r => .sl r 0 6 1) := bs_ints .u64 96 6 [(0, a0), (1, a1), (2, a2), (3, a3), (4, a4), (5, a5)] zero96 tyOk96 cells96 (by decide) (by simp)
theorem bs96_7 (a0 a1 a2 a3 a4 a5 a6 : Int) : bsV Try.prog (some (.slice 96)) 7 [(0, .sc (.int .u64 a0)), (1, .sc (.int .u64 a1)), (2, .sc (.int .u64 a2)), (3, .sc (.int .u64 a3)), (4, .sc (.int .u64 a4)), (5, .sc (.int .u64 a5)), (6, .sc (.int .u64 a6))] = some (ints .u64 [a0, a1, a2, a3, a4, a5, a6], fun r => .sl r 0 7 1) := bs_ints .u64 96 7 [(0, a0), (1, a1), (2, a2), (3, a3), (4, a4), (5, a5), (6, a6)] zero96 tyOk96 cells96 (by decide) (by simp)
theorem bs96_8 (a0 a1 a2 a3 a4 a5 a6 a7 : Int) : bsV Try.prog (some (.slice 96)) 8 [(0, .sc (.int .u64 a0)), (1, .sc (.int .u64 a1)), (2, .sc (.int .u64 a2)), (3, .sc (.int .u64 a3)), (4, .sc (.int .u64 a4)), (5, .sc (.int .u64 a5)), (6, .sc (.int .u64 a6)), (7, .sc (.int .u64 a7))] = some (ints .u64 [a0, a1, a2, a3, a4, a5, a6, a7], fun r => .sl r 0 8 1) := bs_ints .u64 96 8 [(0, a0), (1, a1), (2, a2), (3, a3), (4, a4), (5, a5), (6, a6), (7, a7)] zero96 tyOk96 cells96 (by decide) (by simp)
theorem bs96_10 (a0 a1 a2 a3 a4 a5 a6 a7 a8 a9 : Int) : bsV Try.prog (some (.slice 96)) 10 [(0, .sc (.int .u64 a0)), (1, .sc (.int .u64 a1)), (2, .sc (.int .u64 a2)), (3, .sc (.int .u64 a3)), (4, .sc (.int .u64 a4)), (5, .sc (.int .u64 a5)), (6, .sc (.int .u64 a6)), (7, .sc (.int .u64 a7)), (8, .sc (.int .u64 a8)), (9, .sc (.int .u64 a9))] = some (ints .u64 [a0, a1, a2, a3, a4, a5, a6, a7, a8, a9], fun r => .sl r 0 10 1) := bs_ints .u64 96 10 [(0, a0), (1, a1), (2, a2), (3, a3), (4, a4), (5, a5), (6, a6), (7, a7), (8, a8), (9, a9)] zero96 tyOk96 cells96 (by decide) (by simp)
theorem bs96_11 (a0 a1 a2 a3 a4 a5 a6 a7 a8 a9 a10 : Int) : bsV Try.prog (some (.slice 96)) 11 [(0, .sc (.int .u64 a0)), (1, .sc (.int .u64 a1)), (2, .sc (.int .u64 a2)), (3, .sc (.int .u64 a3)), (4, .sc (.int .u64 a4)), (5, .sc (.int .u64 a5)), (6, .sc (.int .u64 a6)), (7, .sc (.int .u64 a7)), (8, .sc (.int .u64 a8)), (9, .sc (.int .u64 a9)), (10, .sc (.int .u64 a10))] = some (ints .u64 [a0, a1, a2, a3, a4, a5, a6, a7, a8, a9, a10], fun r => .sl r 0 11 1) := bs_ints .u64 96 11 [(0, a0), (1, a1), (2, a2), (3, a3), (4, a4), (5, a5), (6, a6), (7, a7), (8, a8), (9, a9), (10, a10)] zero96 tyOk96 cells96 (by decide) (by simp)
theorem bs96_12 (a0 a1 a2 a3 a4 a5 a6 a7 a8 a9 a10 a11 : Int) : bsV Try.prog (some (.slice 96)) 12 [(0, .sc (.int .u64 a0)), (1, .sc (.int .u64 a1)), (2, .sc (.int .u64 a2)), (3, .sc (.int .u64 a3)), (4, .sc (.int .u64 a4)), (5, .sc (.int .u64 a5)), (6, .sc (.int .u64 a6)), (7, .sc (.int .u64 a7)), (8, .sc (.int .u64 a8)), (9, .sc (.int .u64 a9)), (10, .sc (.int .u64 a10)), (11, .sc (.int .u64 a11))] = some (ints .u64 [a0, a1, a2, a3, a4, a5, a6, a7, a8, a9, a10, a11], fun r => .sl r 0 12 1) := bs_ints .u64 96 12 [(0, a0), (1, a1), (2, a2), (3, a3), (4, a4), (5, a5), (6, a6), (7, a7), (8, a8), (9, a9), (10, a10), (11, a11)] zero96 tyOk96 cells96 (by decide) (by simp)
theorem bs96_13 (a0 a1 a2 a3 a4 a5 a6 a7 a8 a9 a10 a11 a12 : Int) : bsV Try.prog (some (.slice 96)) 13 [(0, .sc (.int .u64 a0)), (1, .sc (.int .u64 a1)), (2, .sc (.int .u64 a2)), (3, .sc (.int .u64 a3)), (4, .sc (.int .u64 a4)), (5, .sc (.int .u64 a5)), (6, .sc (.int .u64 a6)), (7, .sc (.int .u64 a7)), (8, .sc (.int .u64 a8)), (9, .sc (.int .u64 a9)), (10, .sc (.int .u64 a10)), (11, .sc (.int .u64 a11)), (12, .sc (.int .u64 a12))] = some (ints .u64 [a0, a1, a2, a3, a4, a5, a6, a7, a8, a9, a10, a11, a12], fun r => .sl r 0 13 1) := bs_ints .u64 96 13 [(0, a0), (1, a1), (2, a2), (3, a3), (4, a4), (5, a5), (6, a6), (7, a7), (8, a8), (9, a9), (10, a10), (11, a11), (12, a12)] zero96 tyOk96 cells96 (by decide) (by simp)
theorem tyOk97 : tyOk Try.prog 97 = true := by kernel_rfl
theorem agg97 : aggB Try.prog 97 = false := by kernel_rfl
theorem cells97 : Try.prog.cellsOf 97 = 1 := by kernel_rfl
theorem tyOk98 : tyOk Try.prog 98 = true := by kernel_rfl
theorem agg98 : aggB Try.prog 98 = false := by kernel_rfl
theorem cells98 : Try.prog.cellsOf 98 = 1 := by kernel_rfl
theorem tyOk99 : tyOk Try.prog 99 = true := by kernel_rfl
theorem agg99 : aggB Try.prog 99 = false := by kernel_rfl
theorem cells99 : Try.prog.cellsOf 99 = 1 := by kernel_rfl
theorem tyOk100 : tyOk Try.prog 100 = true := by kernel_rfl
theorem agg100 : aggB Try.prog 100 = false := by kernel_rfl
theorem cells100 : Try.prog.cellsOf 100 = 1 := by kernel_rfl
theorem zero100 : zeroA Try.prog 100 = some [.sc (.pointer none)] := by kernel_rfl
theorem tyOk101 : tyOk Try.prog 101 = true := by kernel_rfl
theorem agg101 : aggB Try.prog 101 = true := by kernel_rfl
theorem cells101 : Try.prog.cellsOf 101 = 2 := by kernel_rfl
theorem zero101 : zeroA Try.prog 101 = some [.sc (.pointer none), .sc (.slice none 0 0)] := by kernel_rfl
theorem tyOk102 : tyOk Try.prog 102 = true := by kernel_rfl
theorem agg102 : aggB Try.prog 102 = true := by kernel_rfl
theorem cells102 : Try.prog.cellsOf 102 = 2 := by kernel_rfl
theorem zero102 : zeroA Try.prog 102 = some [.sc (.pointer none), .sc (.slice none 0 0)] := by kernel_rfl
theorem tyOk103 : tyOk Try.prog 103 = true := by kernel_rfl
theorem agg103 : aggB Try.prog 103 = false := by kernel_rfl
theorem cells103 : Try.prog.cellsOf 103 = 1 := by kernel_rfl
theorem tyOk104 : tyOk Try.prog 104 = true := by kernel_rfl
theorem agg104 : aggB Try.prog 104 = false := by kernel_rfl
theorem cells104 : Try.prog.cellsOf 104 = 1 := by kernel_rfl
theorem tyOk105 : tyOk Try.prog 105 = true := by kernel_rfl
theorem agg105 : aggB Try.prog 105 = false := by kernel_rfl
theorem cells105 : Try.prog.cellsOf 105 = 1 := by kernel_rfl
theorem tyOk106 : tyOk Try.prog 106 = true := by kernel_rfl
theorem agg106 : aggB Try.prog 106 = false := by kernel_rfl
theorem cells106 : Try.prog.cellsOf 106 = 1 := by kernel_rfl
theorem tyOk107 : tyOk Try.prog 107 = true := by kernel_rfl
theorem agg107 : aggB Try.prog 107 = false := by kernel_rfl
theorem cells107 : Try.prog.cellsOf 107 = 1 := by kernel_rfl
theorem tyOk108 : tyOk Try.prog 108 = true := by kernel_rfl
theorem agg108 : aggB Try.prog 108 = false := by kernel_rfl
theorem cells108 : Try.prog.cellsOf 108 = 1 := by kernel_rfl
theorem tyOk109 : tyOk Try.prog 109 = true := by kernel_rfl
theorem agg109 : aggB Try.prog 109 = false := by kernel_rfl
theorem cells109 : Try.prog.cellsOf 109 = 1 := by kernel_rfl
theorem tyOk110 : tyOk Try.prog 110 = true := by kernel_rfl
theorem agg110 : aggB Try.prog 110 = false := by kernel_rfl
theorem cells110 : Try.prog.cellsOf 110 = 1 := by kernel_rfl
theorem tyOk111 : tyOk Try.prog 111 = true := by kernel_rfl
theorem agg111 : aggB Try.prog 111 = false := by kernel_rfl
theorem cells111 : Try.prog.cellsOf 111 = 1 := by kernel_rfl
theorem zero111 : zeroA Try.prog 111 = some [.sc (.slice none 0 0)] := by kernel_rfl
theorem tyOk112 : tyOk Try.prog 112 = true := by kernel_rfl
theorem agg112 : aggB Try.prog 112 = false := by kernel_rfl
theorem cells112 : Try.prog.cellsOf 112 = 1 := by kernel_rfl
theorem zero112 : zeroA Try.prog 112 = some [.sc (.int .u32 0)] := by kernel_rfl
theorem info112 : (Try.prog.info? 112).map (·.bytes) = some 4 := by kernel_rfl
theorem mk112 (a b : IntKind) (m : Int) (h0 : 0 ≤ m) (h1 : m ≤ 1000000000000) : mkV Try.prog (some (.slice 112)) (.sc (.int a m)) (.sc (.int b m)) = some (ints .u32 (List.replicate m.toNat 0), fun r => .sl r 0 m.toNat 1) := mk_ints .u32 112 a b m _ zero112 info112 cells112 h0 (by omega) (by omega)
theorem bs112_0 : bsV Try.prog (some (.slice 112)) 0 [] = some (ints .u32 [], fun r => .sl r 0 0 1) := bs_ints .u32 112 0 [] zero112 tyOk112 cells112 (by decide) (by simp)
theorem bs112_1 (a0 : Int) : bsV Try.prog (some (.slice 112)) 1 [(0, .sc (.int .u32 a0))] = some (ints .u32 [a0], fun r => .sl r 0 1 1) := bs_ints .u32 112 1 [(0, a0)] zero112 tyOk112 cells112 (by decide) (by simp)
theorem bs112_2 (a0 a1 : Int) : bsV Try.prog (some (.slice 112)) 2 [(0, .sc (.int .u32 a0)), (1, .sc (.int .u32 a1))] = some (ints .u32 [a0, a1], fun r => .sl r 0 2 1) := bs_ints .u32 112 2 [(0, a0), (1, a1)] zero112 tyOk112 cells112 (by decide) (by simp)
theorem bs112_3 (a0 a1 a2 : Int) : bsV Try.prog (some (.slice 112)) 3 [(0, .sc (.int .u32 a0)), (1, .sc (.int .u32 a1)), (2, .sc (.int .u32 a2))] = some (ints .u32 [a0, a1, a2], fun r => .sl r 0 3 1) := bs_ints .u32 112 3 [(0, a0), (1, a1), (2, a2)] zero112 tyOk112 cells112 (by decide) (by simp)
theorem bs112_4 (a0 a1 a2 a3 : Int) : bsV Try.prog (some (.slice 112)) 4 [(0, .sc (.int .u32 a0)), (1, .sc (.int .u32 a1)), (2, .sc (.int .u32 a2)), (3, .sc (.int .u32 a3))] = some (ints .u32 [a0, a1, a2, a3], fun r => .sl r 0 4 1) := bs_ints .u32 112 4 [(0, a0), (1, a1), (2, a2), (3, a3)] zero112 tyOk112 cells112 (by decide) (by simp)
theorem bs112_5 (a0 a1 a2 a3 a4 : Int) : bsV Try.prog (some (.slice 112)) 5 [(0, .sc (.int .u32 a0)), (1, .sc (.int .u32 a1)), (2, .sc (.int .u32 a2)), (3, .sc (.int .u32 a3)), (4, .sc (.int .u32 a4))] = some (ints .u32 [a0, a1, a2, a3, a4], fun r => .sl r 0 5 1) := bs_ints .u32 112 5 [(0, a0), (1, a1), (2, a2), (3, a3), (4, a4)] zero112 tyOk112 cells112 (by decide) (by simp)
theorem bs112_6 (a0 a1 a2 a3 a4 a5 : Int) : bsV Try.prog (some (.slice 112)) 6 [(0, .sc (.int .u32 a0)), (1, .sc (.int .u32 a1)), (2, .sc (.int .u32 a2)), (3, .sc (.int .u32 a3)), (4, .sc (.int .u32 a4)), (5, .sc (.int .u32 a5))] = some (ints .u32 [a0, a1, a2, a3, a4, a5], fun r => .sl r 0 6 1) := bs_ints .u32 112 6 [(0, a0), (1, a1), (2, a2), (3, a3), (4, a4), (5, a5)] zero112 tyOk112 cells112 (by decide) (by simp)
theorem bs112_7 (a0 a1 a2 a3 a4 a5 a6 : Int) : bsV Try.prog (some (.slice 112)) 7 [(0, .sc (.int .u32 a0)), (1, .sc (.int .u32 a1)), (2, .sc (.int .u32 a2)), (3, .sc (.int .u32 a3)), (4, .sc (.int .u32 a4)), (5, .sc (.int .u32 a5)), (6, .sc (.int .u32 a6))] = some (ints .u32 [a0, a1, a2, a3, a4, a5, a6], fun r => .sl r 0 7 1) := bs_ints .u32 112 7 [(0, a0), (1, a1), (2, a2), (3, a3), (4, a4), (5, a5), (6, a6)] zero112 tyOk112 cells112 (by decide) (by simp)
theorem bs112_8 (a0 a1 a2 a3 a4 a5 a6 a7 : Int) : bsV Try.prog (some (.slice 112)) 8 [(0, .sc (.int .u32 a0)), (1, .sc (.int .u32 a1)), (2, .sc (.int .u32 a2)), (3, .sc (.int .u32 a3)), (4, .sc (.int .u32 a4)), (5, .sc (.int .u32 a5)), (6, .sc (.int .u32 a6)), (7, .sc (.int .u32 a7))] = some (ints .u32 [a0, a1, a2, a3, a4, a5, a6, a7], fun r => .sl r 0 8 1) := bs_ints .u32 112 8 [(0, a0), (1, a1), (2, a2), (3, a3), (4, a4), (5, a5), (6, a6), (7, a7)] zero112 tyOk112 cells112 (by decide) (by simp)
theorem bs112_10 (a0 a1 a2 a3 a4 a5 a6 a7 a8 a9 : Int) : bsV Try.prog (some (.slice 112)) 10 [(0, .sc (.int .u32 a0)), (1, .sc (.int .u32 a1)), (2, .sc (.int .u32 a2)), (3, .sc (.int .u32 a3)), (4, .sc (.int .u32 a4)), (5, .sc (.int .u32 a5)), (6, .sc (.int .u32 a6)), (7, .sc (.int .u32 a7)), (8, .sc (.int .u32 a8)), (9, .sc (.int .u32 a9))] = some (ints .u32 [a0, a1, a2, a3, a4, a5, a6, a7, a8, a9], fun r => .sl r 0 10 1) := bs_ints .u32 112 10 [(0, a0), (1, a1), (2, a2), (3, a3), (4, a4), (5, a5), (6, a6), (7, a7), (8, a8), (9, a9)] zero112 tyOk112 cells112 (by decide) (by simp)
theorem bs112_11 (a0 a1 a2 a3 a4 a5 a6 a7 a8 a9 a10 : Int) : bsV Try.prog (some (.slice 112)) 11 [(0, .sc (.int .u32 a0)), (1, .sc (.int .u32 a1)), (2, .sc (.int .u32 a2)), (3, .sc (.int .u32 a3)), (4, .sc (.int .u32 a4)), (5, .sc (.int .u32 a5)), (6, .sc (.int .u32 a6)), (7, .sc (.int .u32 a7)), (8, .sc (.int .u32 a8)), (9, .sc (.int .u32 a9)), (10, .sc (.int .u32 a10))] = some (ints .u32 [a0, a1, a2, a3, a4, a5, a6, a7, a8, a9, a10], fun r => .sl r 0 11 1) := bs_ints .u32 112 11 [(0, a0), (1, a1), (2, a2), (3, a3), (4, a4), (5, a5), (6, a6), (7, a7), (8, a8), (9, a9), (10, a10)] zero112 tyOk112 cells112 (by decide) (by simp)
theorem bs112_12 (a0 a1 a2 a3 a4 a5 a6 a7 a8 a9 a10 a11 : Int) : bsV Try.prog (some (.slice 112)) 12 [(0, .sc (.int .u32 a0)), (1, .sc (.int .u32 a1)), (2, .sc (.int .u32 a2)), (3, .sc (.int .u32 a3)), (4, .sc (.int .u32 a4)), (5, .sc (.int .u32 a5)), (6, .sc (.int .u32 a6)), (7, .sc (.int .u32 a7)), (8, .sc (.int .u32 a8)), (9, .sc (.int .u32 a9)), (10, .sc (.int .u32 a10)), (11, .sc (.int .u32 a11))] = some (ints .u32 [a0, a1, a2, a3, a4, a5, a6, a7, a8, a9, a10, a11], fun r => .sl r 0 12 1) := bs_ints .u32 112 12 [(0, a0), (1, a1), (2, a2), (3, a3), (4, a4), (5, a5), (6, a6), (7, a7), (8, a8), (9, a9), (10, a10), (11, a11)] zero112 tyOk112 cells112 (by decide) (by simp)
theorem bs112_13 (a0 a1 a2 a3 a4 a5 a6 a7 a8 a9 a10 a11 a12 : Int) : bsV Try.prog (some (.slice 112)) 13 [(0, .sc (.int .u32 a0)), (1, .sc (.int .u32 a1)), (2, .sc (.int .u32 a2)), (3, .sc (.int .u32 a3)), (4, .sc (.int .u32 a4)), (5, .sc (.int .u32 a5)), (6, .sc (.int .u32 a6)), (7, .sc (.int .u32 a7)), (8, .sc (.int .u32 a8)), (9, .sc (.int .u32 a9)), (10, .sc (.int .u32 a10)), (11, .sc (.int .u32 a11)), (12, .sc (.int .u32 a12))] = some (ints .u32 [a0, a1, a2, a3, a4, a5, a6, a7, a8, a9, a10, a11, a12], fun r => .sl r 0 13 1) := bs_ints .u32 112 13 [(0, a0), (1, a1), (2, a2), (3, a3), (4, a4), (5, a5), (6, a6), (7, a7), (8, a8), (9, a9), (10, a10), (11, a11), (12, a12)] zero112 tyOk112 cells112 (by decide) (by simp)
theorem tyOk113 : tyOk Try.prog 113 = true := by kernel_rfl
theorem agg113 : aggB Try.prog 113 = false := by kernel_rfl
theorem cells113 : Try.prog.cellsOf 113 = 1 := by kernel_rfl
theorem tyOk114 : tyOk Try.prog 114 = true := by kernel_rfl
theorem agg114 : aggB Try.prog 114 = false := by kernel_rfl
theorem cells114 : Try.prog.cellsOf 114 = 1 := by kernel_rfl
theorem tyOk115 : tyOk Try.prog 115 = true := by kernel_rfl
theorem agg115 : aggB Try.prog 115 = false := by kernel_rfl
theorem cells115 : Try.prog.cellsOf 115 = 1 := by kernel_rfl
theorem zero115 : zeroA Try.prog 115 = some [.sc (.int .u64 0)] := by kernel_rfl
theorem info115 : (Try.prog.info? 115).map (·.bytes) = some 8 := by kernel_rfl
theorem mk115 (a b : IntKind) (m : Int) (h0 : 0 ≤ m) (h1 : m ≤ 1000000000000) : mkV Try.prog (some (.slice 115)) (.sc (.int a m)) (.sc (.int b m)) = some (ints .u64 (List.replicate m.toNat 0), fun r => .sl r 0 m.toNat 1) := mk_ints .u64 115 a b m _ zero115 info115 cells115 h0 (by omega) (by omega)
theorem bs115_0 : bsV Try.prog (some (.slice 115)) 0 [] = some (ints .u64 [], fun r => .sl r 0 0 1) := bs_ints .u64 115 0 [] zero115 tyOk115 cells115 (by decide) (by simp)
theorem bs115_1 (a0 : Int) : bsV Try.prog (some (.slice 115)) 1 [(0, .sc (.int .u64 a0))] = some (ints .u64 [a0], fun r => .sl r 0 1 1) := bs_ints .u64 115 1 [(0, a0)] zero115 tyOk115 cells115 (by decide) (by simp)
theorem bs115_2 (a0 a1 : Int) : bsV Try.prog (some (.slice 115)) 2 [(0, .sc (.int .u64 a0)), (1, .sc (.int .u64 a1))] = some (ints .u64 [a0, a1], fun r => .sl r 0 2 1) := bs_ints .u64 115 2 [(0, a0), (1, a1)] zero115 tyOk115 cells115 (by decide) (by simp)
theorem bs115_3 (a0 a1 a2 : Int) : bsV Try.prog (some (.slice 115)) 3 [(0, .sc (.int .u64 a0)), (1, .sc (.int .u64 a1)), (2, .sc (.int .u64 a2))] = some (ints .u64 [a0, a1, a2], fun r => .sl r 0 3 1) := bs_ints .u64 115 3 [(0, a0), (1, a1), (2, a2)] zero115 tyOk115 cells115 (by decide) (by simp)
theorem bs115_4 (a0 a1 a2 a3 : Int) : bsV Try.prog (some (.slice 115)) 4 [(0, .sc (.int .u64 a0)), (1, .sc (.int .u64 a1)), (2, .sc (.int .u64 a2)), (3, .sc (.int .u64 a3))] = some (ints .u64 [a0, a1, a2, a3], fun r => .sl r 0 4 1) := bs_ints .u64 115 4 [(0, a0), (1, a1), (2, a2), (3, a3)] zero115 tyOk115 cells115 (by decide) (by simp)
theorem bs115_5 (a0 a1 a2 a3 a4 : Int) : bsV Try.prog (some (.slice 115)) 5 [(0, .sc (.int .u64 a0)), (1, .sc (.int .u64 a1)), (2, .sc (.int .u64 a2)), (3, .sc (.int .u64 a3)), (4, .sc (.int .u64 a4))] = some (ints .u64 [a0, a1, a2, a3, a4], fun r => .sl r 0 5 1) := bs_ints .u64 115 5 [(0, a0), (1, a1), (2, a2), (3, a3), (4, a4)] zero115 tyOk115 cells115 (by decide) (by simp)
theorem bs115_6 (a0 a1 a2 a3 a4 a5 : Int) : bsV Try.prog (some (.slice 115)) 6 [(0, .sc (.int .u64 a0)), (1, .sc (.int .u64 a1)), (2, .sc (.int .u64 a2)), (3, .sc (.int .u64 a3)), (4, .sc (.int .u64 a4)), (5, .sc (.int .u64 a5))] = some (ints .u64 [a0, a1, a2, a3, a4, a5], fun r => .sl r 0 6 1) := bs_ints .u64 115 6 [(0, a0), (1, a1), (2, a2), (3, a3), (4, a4), (5, a5)] zero115 tyOk115 cells115 (by decide) (by simp)
theorem bs115_7 (a0 a1 a2 a3 a4 a5 a6 : Int) : bsV Try.prog (some (.slice 115)) 7 [(0, .sc (.int .u64 a0)), (1, .sc (.int .u64 a1)), (2, .sc (.int .u64 a2)), (3, .sc (.int .u64 a3)), (4, .sc (.int .u64 a4)), (5, .sc (.int .u64 a5)), (6, .sc (.int .u64 a6))] = some (ints .u64 [a0, a1, a2, a3, a4, a5, a6], fun r => .sl r 0 7 1) := bs_ints .u64 115 7 [(0, a0), (1, a1), (2, a2), (3, a3), (4, a4), (5, a5), (6, a6)] zero115 tyOk115 cells115 (by decide) (by simp)
theorem bs115_8 (a0 a1 a2 a3 a4 a5 a6 a7 : Int) : bsV Try.prog (some (.slice 115)) 8 [(0, .sc (.int .u64 a0)), (1, .sc (.int .u64 a1)), (2, .sc (.int .u64 a2)), (3, .sc (.int .u64 a3)), (4, .sc (.int .u64 a4)), (5, .sc (.int .u64 a5)), (6, .sc (.int .u64 a6)), (7, .sc (.int .u64 a7))] = some (ints .u64 [a0, a1, a2, a3, a4, a5, a6, a7], fun r => .sl r 0 8 1) := bs_ints .u64 115 8 [(0, a0), (1, a1), (2, a2), (3, a3), (4, a4), (5, a5), (6, a6), (7, a7)] zero115 tyOk115 cells115 (by decide) (by simp)
theorem bs115_10 (a0 a1 a2 a3 a4 a5 a6 a7 a8 a9 : Int) : bsV Try.prog (some (.slice 115)) 10 [(0, .sc (.int .u64 a0)), (1, .sc (.int .u64 a1)), (2, .sc (.int .u64 a2)), (3, .sc (.int .u64 a3)), (4, .sc (.int .u64 a4)), (5, .sc (.int .u64 a5)), (6, .sc (.int .u64 a6)), (7, .sc (.int .u64 a7)), (8, .sc (.int .u64 a8)), (9, .sc (.int .u64 a9))] = some (ints .u64 [a0, a1, a2, a3, a4, a5, a6, a7, a8, a9], fun r => .sl r 0 10 1) := bs_ints .u64 115 10 [(0, a0), (1, a1), (2, a2), (3, a3), (4, a4), (5, a5), (6, a6), (7, a7), (8, a8), (9, a9)] zero115 tyOk115 cells115 (by decide) (by simp)
theorem bs115_11 (a0 a1 a2 a3 a4 a5 a6 a7 a8 a9 a10 : Int) : bsV Try.prog (some (.slice 115)) 11 [(0, .sc (.int .u64 a0)), (1, .sc (.int .u64 a1)), (2, .sc (.int .u64 a2)), (3, .sc (.int .u64 a3)), (4, .sc (.int .u64 a4)), (5, .sc (.int .u64 a5)), (6, .sc (.int .u64 a6)), (7, .sc (.int .u64 a7)), (8, .sc (.int .u64 a8)), (9, .sc (.int .u64 a9)), (10, .sc (.int .u64 a10))] = some (ints .u64 [a0, a1, a2, a3, a4, a5, a6, a7, a8, a9, a10], fun r => .sl r 0 11 1) := bs_ints .u64 115 11 [(0, a0), (1, a1), (2, a2), (3, a3), (4, a4), (5, a5), (6, a6), (7, a7), (8, a8), (9, a9), (10, a10)] zero115 tyOk115 cells115 (by decide) (by simp)
theorem bs115_12 (a0 a1 a2 a3 a4 a5 a6 a7 a8 a9 a10 a11 : Int) : bsV Try.prog (some (.slice 115)) 12 [(0, .sc (.int .u64 a0)), (1, .sc (.int .u64 a1)), (2, .sc (.int .u64 a2)), (3, .sc (.int .u64 a3)), (4, .sc (.int .u64 a4)), (5, .sc (.int .u64 a5)), (6, .sc (.int .u64 a6)), (7, .sc (.int .u64 a7)), (8, .sc (.int .u64 a8)), (9, .sc (.int .u64 a9)), (10, .sc (.int .u64 a10)), (11, .sc (.int .u64 a11))] = some (ints .u64 [a0, a1, a2, a3, a4, a5, a6, a7, a8, a9, a10, a11], fun r => .sl r 0 12 1) := bs_ints .u64 115 12 [(0, a0), (1, a1), (2, a2), (3, a3), (4, a4), (5, a5), (6, a6), (7, a7), (8, a8), (9, a9), (10, a10), (11, a11)] zero115 tyOk115 cells115 (by decide) (by simp)
theorem bs115_13 (a0 a1 a2 a3 a4 a5 a6 a7 a8 a9 a10 a11 a12 : Int) : bsV Try.prog (some (.slice 115)) 13 [(0, .sc (.int .u64 a0)), (1, .sc (.int .u64 a1)), (2, .sc (.int .u64 a2)), (3, .sc (.int .u64 a3)), (4, .sc (.int .u64 a4)), (5, .sc (.int .u64 a5)), (6, .sc (.int .u64 a6)), (7, .sc (.int .u64 a7)), (8, .sc (.int .u64 a8)), (9, .sc (.int .u64 a9)), (10, .sc (.int .u64 a10)), (11, .sc (.int .u64 a11)), (12, .sc (.int .u64 a12))] = some (ints .u64 [a0, a1, a2, a3, a4, a5, a6, a7, a8, a9, a10, a11, a12], fun r => .sl r 0 13 1) := bs_ints .u64 115 13 [(0, a0), (1, a1), (2, a2), (3, a3), (4, a4), (5, a5), (6, a6), (7, a7), (8, a8), (9, a9), (10, a10), (11, a11), (12, a12)] zero115 tyOk115 cells115 (by decide) (by simp)
theorem tyOk116 : tyOk Try.prog 116 = true := by kernel_rfl
theorem agg116 : aggB Try.prog 116 = false := by kernel_rfl
theorem cells116 : Try.prog.cellsOf 116 = 1 := by kernel_rfl
theorem tyOk117 : tyOk Try.prog 117 = true := by kernel_rfl
theorem agg117 : aggB Try.prog 117 = false := by kernel_rfl
theorem cells117 : Try.prog.cellsOf 117 = 1 := by kernel_rfl
theorem tyOk118 : tyOk Try.prog 118 = true := by kernel_rfl
theorem agg118 : aggB Try.prog 118 = false := by kernel_rfl
theorem cells118 : Try.prog.cellsOf 118 = 1 := by kernel_rfl
theorem zero118 : zeroA Try.prog 118 = some [.sc (.pointer none)] := by kernel_rfl
theorem tyOk119 : tyOk Try.prog 119 = true := by kernel_rfl
theorem agg119 : aggB Try.prog 119 = false := by kernel_rfl
theorem cells119 : Try.prog.cellsOf 119 = 1 := by kernel_rfl
theorem zero119 : zeroA Try.prog 119 = some [.sc (.pointer none)] := by kernel_rfl
theorem tyOk120 : tyOk Try.prog 120 = true := by kernel_rfl
theorem agg120 : aggB Try.prog 120 = false := by kernel_rfl
theorem cells120 : Try.prog.cellsOf 120 = 1 := by kernel_rfl
theorem tyOk121 : tyOk Try.prog 121 = true := by kernel_rfl
theorem agg121 : aggB Try.prog 121 = false := by kernel_rfl
theorem cells121 : Try.prog.cellsOf 121 = 1 := by kernel_rfl
theorem tyOk122 : tyOk Try.prog 122 = true := by kernel_rfl
theorem agg122 : aggB Try.prog 122 = true := by kernel_rfl
theorem cells122 : Try.prog.cellsOf 122 = 4 := by kernel_rfl
theorem zero122 : zeroA Try.prog 122 = some [.sc (.pointer none), .sc (.pointer none), .sc (.pointer none), .sc (.string ByteArray.empty)] := by kernel_rfl
theorem tyOk123 : tyOk Try.prog 123 = true := by kernel_rfl
theorem agg123 : aggB Try.prog 123 = true := by kernel_rfl
theorem cells123 : Try.prog.cellsOf 123 = 4 := by kernel_rfl
theorem zero123 : zeroA Try.prog 123 = some [.sc (.pointer none), .sc (.pointer none), .sc (.pointer none), .sc (.string ByteArray.empty)] := by kernel_rfl
theorem tyOk124 : tyOk Try.prog 124 = true := by kernel_rfl
theorem agg124 : aggB Try.prog 124 = true := by kernel_rfl
theorem cells124 : Try.prog.cellsOf 124 = 0 := by kernel_rfl
theorem zero124 : zeroA Try.prog 124 = some [] := by kernel_rfl
theorem tyOk125 : tyOk Try.prog 125 = true := by kernel_rfl
theorem agg125 : aggB Try.prog 125 = true := by kernel_rfl
theorem cells125 : Try.prog.cellsOf 125 = 0 := by kernel_rfl
theorem zero125 : zeroA Try.prog 125 = some [] := by kernel_rfl
theorem tyOk126 : tyOk Try.prog 126 = true := by kernel_rfl
theorem agg126 : aggB Try.prog 126 = true := by kernel_rfl
theorem cells126 : Try.prog.cellsOf 126 = 0 := by kernel_rfl
theorem zero126 : zeroA Try.prog 126 = some [] := by kernel_rfl
theorem tyOk127 : tyOk Try.prog 127 = true := by kernel_rfl
theorem agg127 : aggB Try.prog 127 = false := by kernel_rfl
theorem cells127 : Try.prog.cellsOf 127 = 1 := by kernel_rfl
theorem isU127 : isU8 Try.prog 127 = true := by kernel_rfl
theorem zero127 : zeroA Try.prog 127 = some [.sc (.int .u8 0)] := by kernel_rfl
theorem info127 : (Try.prog.info? 127).map (·.bytes) = some 1 := by kernel_rfl
theorem mk127 (a b : IntKind) (m : Int) (h0 : 0 ≤ m) (h1 : m ≤ 1000000000000) : mkV Try.prog (some (.slice 127)) (.sc (.int a m)) (.sc (.int b m)) = some (ints .u8 (List.replicate m.toNat 0), fun r => .sl r 0 m.toNat 1) := mk_ints .u8 127 a b m _ zero127 info127 cells127 h0 (by omega) (by omega)
theorem bs127_0 : bsV Try.prog (some (.slice 127)) 0 [] = some (ints .u8 [], fun r => .sl r 0 0 1) := bs_ints .u8 127 0 [] zero127 tyOk127 cells127 (by decide) (by simp)
theorem bs127_1 (a0 : Int) : bsV Try.prog (some (.slice 127)) 1 [(0, .sc (.int .u8 a0))] = some (ints .u8 [a0], fun r => .sl r 0 1 1) := bs_ints .u8 127 1 [(0, a0)] zero127 tyOk127 cells127 (by decide) (by simp)
theorem bs127_2 (a0 a1 : Int) : bsV Try.prog (some (.slice 127)) 2 [(0, .sc (.int .u8 a0)), (1, .sc (.int .u8 a1))] = some (ints .u8 [a0, a1], fun r => .sl r 0 2 1) := bs_ints .u8 127 2 [(0, a0), (1, a1)] zero127 tyOk127 cells127 (by decide) (by simp)
theorem bs127_3 (a0 a1 a2 : Int) : bsV Try.prog (some (.slice 127)) 3 [(0, .sc (.int .u8 a0)), (1, .sc (.int .u8 a1)), (2, .sc (.int .u8 a2))] = some (ints .u8 [a0, a1, a2], fun r => .sl r 0 3 1) := bs_ints .u8 127 3 [(0, a0), (1, a1), (2, a2)] zero127 tyOk127 cells127 (by decide) (by simp)
theorem bs127_4 (a0 a1 a2 a3 : Int) : bsV Try.prog (some (.slice 127)) 4 [(0, .sc (.int .u8 a0)), (1, .sc (.int .u8 a1)), (2, .sc (.int .u8 a2)), (3, .sc (.int .u8 a3))] = some (ints .u8 [a0, a1, a2, a3], fun r => .sl r 0 4 1) := bs_ints .u8 127 4 [(0, a0), (1, a1), (2, a2), (3, a3)] zero127 tyOk127 cells127 (by decide) (by simp)
theorem bs127_5 (a0 a1 a2 a3 a4 : Int) : bsV Try.prog (some (.slice 127)) 5 [(0, .sc (.int .u8 a0)), (1, .sc (.int .u8 a1)), (2, .sc (.int .u8 a2)), (3, .sc (.int .u8 a3)), (4, .sc (.int .u8 a4))] = some (ints .u8 [a0, a1, a2, a3, a4], fun r => .sl r 0 5 1) := bs_ints .u8 127 5 [(0, a0), (1, a1), (2, a2), (3, a3), (4, a4)] zero127 tyOk127 cells127 (by decide) (by simp)
theorem bs127_6 (a0 a1 a2 a3 a4 a5 : Int) : bsV Try.prog (some (.slice 127)) 6 [(0, .sc (.int .u8 a0)), (1, .sc (.int .u8 a1)), (2, .sc (.int .u8 a2)), (3, .sc (.int .u8 a3)), (4, .sc (.int .u8 a4)), (5, .sc (.int .u8 a5))] = some (ints .u8 [a0, a1, a2, a3, a4, a5], fun r => .sl r 0 6 1) := bs_ints .u8 127 6 [(0, a0), (1, a1), (2, a2), (3, a3), (4, a4), (5, a5)] zero127 tyOk127 cells127 (by decide) (by simp)
theorem bs127_7 (a0 a1 a2 a3 a4 a5 a6 : Int) : bsV Try.prog (some (.slice 127)) 7 [(0, .sc (.int .u8 a0)), (1, .sc (.int .u8 a1)), (2, .sc (.int .u8 a2)), (3, .sc (.int .u8 a3)), (4, .sc (.int .u8 a4)), (5, .sc (.int .u8 a5)), (6, .sc (.int .u8 a6))] = some (ints .u8 [a0, a1, a2, a3, a4, a5, a6], fun r => .sl r 0 7 1) := bs_ints .u8 127 7 [(0, a0), (1, a1), (2, a2), (3, a3), (4, a4), (5, a5), (6, a6)] zero127 tyOk127 cells127 (by decide) (by simp)
theorem bs127_8 (a0 a1 a2 a3 a4 a5 a6 a7 : Int) : bsV Try.prog (some (.slice 127)) 8 [(0, .sc (.int .u8 a0)), (1, .sc (.int .u8 a1)), (2, .sc (.int .u8 a2)), (3, .sc (.int .u8 a3)), (4, .sc (.int .u8 a4)), (5, .sc (.int .u8 a5)), (6, .sc (.int .u8 a6)), (7, .sc (.int .u8 a7))] = some (ints .u8 [a0, a1, a2, a3, a4, a5, a6, a7], fun r => .sl r 0 8 1) := bs_ints .u8 127 8 [(0, a0), (1, a1), (2, a2), (3, a3), (4, a4), (5, a5), (6, a6), (7, a7)] zero127 tyOk127 cells127 (by decide) (by simp)
theorem bs127_10 (a0 a1 a2 a3 a4 a5 a6 a7 a8 a9 : Int) : bsV Try.prog (some (.slice 127)) 10 [(0, .sc (.int .u8 a0)), (1, .sc (.int .u8 a1)), (2, .sc (.int .u8 a2)), (3, .sc (.int .u8 a3)), (4, .sc (.int .u8 a4)), (5, .sc (.int .u8 a5)), (6, .sc (.int .u8 a6)), (7, .sc (.int .u8 a7)), (8, .sc (.int .u8 a8)), (9, .sc (.int .u8 a9))] = some (ints .u8 [a0, a1, a2, a3, a4, a5, a6, a7, a8, a9], fun r => .sl r 0 10 1) := bs_ints .u8 127 10 [(0, a0), (1, a1), (2, a2), (3, a3), (4, a4), (5, a5), (6, a6), (7, a7), (8, a8), (9, a9)] zero127 tyOk127 cells127 (by decide) (by simp)
theorem bs127_11 (a0 a1 a2 a3 a4 a5 a6 a7 a8 a9 a10 : Int) : bsV Try.prog (some (.slice 127)) 11 [(0, .sc (.int .u8 a0)), (1, .sc (.int .u8 a1)), (2, .sc (.int .u8 a2)), (3, .sc (.int .u8 a3)), (4, .sc (.int .u8 a4)), (5, .sc (.int .u8 a5)), (6, .sc (.int .u8 a6)), (7, .sc (.int .u8 a7)), (8, .sc (.int .u8 a8)), (9, .sc (.int .u8 a9)), (10, .sc (.int .u8 a10))] = some (ints .u8 [a0, a1, a2, a3, a4, a5, a6, a7, a8, a9, a10], fun r => .sl r 0 11 1) := bs_ints .u8 127 11 [(0, a0), (1, a1), (2, a2), (3, a3), (4, a4), (5, a5), (6, a6), (7, a7), (8, a8), (9, a9), (10, a10)] zero127 tyOk127 cells127 (by decide) (by simp)
theorem bs127_12 (a0 a1 a2 a3 a4 a5 a6 a7 a8 a9 a10 a11 : Int) : bsV Try.prog (some (.slice 127)) 12 [(0, .sc (.int .u8 a0)), (1, .sc (.int .u8 a1)), (2, .sc (.int .u8 a2)), (3, .sc (.int .u8 a3)), (4, .sc (.int .u8 a4)), (5, .sc (.int .u8 a5)), (6, .sc (.int .u8 a6)), (7, .sc (.int .u8 a7)), (8, .sc (.int .u8 a8)), (9, .sc (.int .u8 a9)), (10, .sc (.int .u8 a10)), (11, .sc (.int .u8 a11))] = some (ints .u8 [a0, a1, a2, a3, a4, a5, a6, a7, a8, a9, a10, a11], fun r => .sl r 0 12 1) := bs_ints .u8 127 12 [(0, a0), (1, a1), (2, a2), (3, a3), (4, a4), (5, a5), (6, a6), (7, a7), (8, a8), (9, a9), (10, a10), (11, a11)] zero127 tyOk127 cells127 (by decide) (by simp)
theorem bs127_13 (a0 a1 a2 a3 a4 a5 a6 a7 a8 a9 a10 a11 a12 : Int) : bsV Try.prog (some (.slice 127)) 13 [(0, .sc (.int .u8 a0)), (1, .sc (.int .u8 a1)), (2, .sc (.int .u8 a2)), (3, .sc (.int .u8 a3)), (4, .sc (.int .u8 a4)), (5, .sc (.int .u8 a5)), (6, .sc (.int .u8 a6)), (7, .sc (.int .u8 a7)), (8, .sc (.int .u8 a8)), (9, .sc (.int .u8 a9)), (10, .sc (.int .u8 a10)), (11, .sc (.int .u8 a11)), (12, .sc (.int .u8 a12))] = some (ints .u8 [a0, a1, a2, a3, a4, a5, a6, a7, a8, a9, a10, a11, a12], fun r => .sl r 0 13 1) := bs_ints .u8 127 13 [(0, a0), (1, a1), (2, a2), (3, a3), (4, a4), (5, a5), (6, a6), (7, a7), (8, a8), (9, a9), (10, a10), (11, a11), (12, a12)] zero127 tyOk127 cells127 (by decide) (by simp)
theorem tyOk128 : tyOk Try.prog 128 = true := by kernel_rfl
theorem agg128 : aggB Try.prog 128 = false := by kernel_rfl
theorem cells128 : Try.prog.cellsOf 128 = 1 := by kernel_rfl
theorem isU128 : isU8 Try.prog 128 = true := by kernel_rfl
theorem zero128 : zeroA Try.prog 128 = some [.sc (.int .u8 0)] := by kernel_rfl
theorem info128 : (Try.prog.info? 128).map (·.bytes) = some 1 := by kernel_rfl
theorem mk128 (a b : IntKind) (m : Int) (h0 : 0 ≤ m) (h1 : m ≤ 1000000000000) : mkV Try.prog (some (.slice 128)) (.sc (.int a m)) (.sc (.int b m)) = some (ints .u8 (List.replicate m.toNat 0), fun r => .sl r 0 m.toNat 1) := mk_ints .u8 128 a b m _ zero128 info128 cells128 h0 (by omega) (by omega)
theorem bs128_0 : bsV Try.prog (some (.slice 128)) 0 [] = some (ints .u8 [], fun r => .sl r 0 0 1) := bs_ints .u8 128 0 [] zero128 tyOk128 cells128 (by decide) (by simp)
theorem bs128_1 (a0 : Int) : bsV Try.prog (some (.slice 128)) 1 [(0, .sc (.int .u8 a0))] = some (ints .u8 [a0], fun r => .sl r 0 1 1) := bs_ints .u8 128 1 [(0, a0)] zero128 tyOk128 cells128 (by decide) (by simp)
theorem bs128_2 (a0 a1 : Int) : bsV Try.prog (some (.slice 128)) 2 [(0, .sc (.int .u8 a0)), (1, .sc (.int .u8 a1))] = some (ints .u8 [a0, a1], fun r => .sl r 0 2 1) := bs_ints .u8 128 2 [(0, a0), (1, a1)] zero128 tyOk128 cells128 (by decide) (by simp)
theorem bs128_3 (a0 a1 a2 : Int) : bsV Try.prog (some (.slice 128)) 3 [(0, .sc (.int .u8 a0)), (1, .sc (.int .u8 a1)), (2, .sc (.int .u8 a2))] = some (ints .u8 [a0, a1, a2], fun r => .sl r 0 3 1) := bs_ints .u8 128 3 [(0, a0), (1, a1), (2, a2)] zero128 tyOk128 cells128 (by decide) (by simp)
theorem bs128_4 (a0 a1 a2 a3 : Int) : bsV Try.prog (some (.slice 128)) 4 [(0, .sc (.int .u8 a0)), (1, .sc (.int .u8 a1)), (2, .sc (.int .u8 a2)), (3, .sc (.int .u8 a3))] = some (ints .u8 [a0, a1, a2, a3], fun r => .sl r 0 4 1) := bs_ints .u8 128 4 [(0, a0), (1, a1), (2, a2), (3, a3)] zero128 tyOk128 cells128 (by decide) (by simp)
theorem bs128_5 (a0 a1 a2 a3 a4 : Int) : bsV Try.prog (some (.slice 128)) 5 [(0, .sc (.int .u8 a0)), (1, .sc (.int .u8 a1)), (2, .sc (.int .u8 a2)), (3, .sc (.int .u8 a3)), (4, .sc (.int .u8 a4))] = some (ints .u8 [a0, a1, a2, a3, a4], fun r => .sl r 0 5 1) := bs_ints .u8 128 5 [(0, a0), (1, a1), (2, a2), (3, a3), (4, a4)] zero128 tyOk128 cells128 (by decide) (by simp)
theorem bs128_6 (a0 a1 a2 a3 a4 a5 : Int) : bsV Try.prog (some (.slice 128)) 6 [(0, .sc (.int .u8 a0)), (1, .sc (.int .u8 a1)), (2, .sc (.int .u8 a2)), (3, .sc (.int .u8 a3)), (4, .sc (.int .u8 a4)), (5, .sc (.int .u8 a5))] = some (ints .u8 [a0, a1, a2, a3, a4, a5], fun r => .sl r 0 6 1) := bs_ints .u8 128 6 [(0, a0), (1, a1), (2, a2), (3, a3), (4, a4), (5, a5)] zero128 tyOk128 cells128 (by decide) (by simp)
theorem bs128_7 (a0 a1 a2 a3 a4 a5 a6 : Int) : bsV Try.prog (some (.slice 128)) 7 [(0, .sc (.int .u8 a0)), (1, .sc (.int .u8 a1)), (2, .sc (.int .u8 a2)), (3, .sc (.int .u8 a3)), (4, .sc (.int .u8 a4)), (5, .sc (.int .u8 a5)), (6, .sc (.int .u8 a6))] = some (ints .u8 [a0, a1, a2, a3, a4, a5, a6], fun r => .sl r 0 7 1) := bs_ints .u8 128 7 [(0, a0), (1, a1), (2, a2), (3, a3), (4, a4), (5, a5), (6, a6)] zero128 tyOk128 cells128 (by decide) (by simp)
theorem bs128_8 (a0 a1 a2 a3 a4 a5 a6 a7 : Int) : bsV Try.prog (some (.slice 128)) 8 [(0, .sc (.int .u8 a0)), (1, .sc (.int .u8 a1)), (2, .sc (.int .u8 a2)), (3, .sc (.int .u8 a3)), (4, .sc (.int .u8 a4)), (5, .sc (.int .u8 a5)), (6, .sc (.int .u8 a6)), (7, .sc (.int .u8 a7))] = some (ints .u8 [a0, a1, a2, a3, a4, a5, a6, a7], fun r => .sl r 0 8 1) := bs_ints .u8 128 8 [(0, a0), (1, a1), (2, a2), (3, a3), (4, a4), (5, a5), (6, a6), (7, a7)] zero128 tyOk128 cells128 (by decide) (by simp)
theorem bs128_10 (a0 a1 a2 a3 a4 a5 a6 a7 a8 a9 : Int) : bsV Try.prog (some (.slice 128)) 10 [(0, .sc (.int .u8 a0)), (1, .sc (.int .u8 a1)), (2, .sc (.int .u8 a2)), (3, .sc (.int .u8 a3)), (4, .sc (.int .u8 a4)), (5, .sc (.int .u8 a5)), (6, .sc (.int .u8 a6)), (7, .sc (.int .u8 a7)), (8, .sc (.int .u8 a8)), (9, .sc (.int .u8 a9))] = some (ints .u8 [a0, a1, a2, a3, a4, a5, a6, a7, a8, a9], fun r => .sl r 0 10 1) := bs_ints .u8 128 10 [(0, a0), (1, a1), (2, a2), (3, a3), (4, a4), (5, a5), (6, a6), (7, a7), (8, a8), (9, a9)] zero128 tyOk128 cells128 (by decide) (by simp)
theorem bs128_11 (a0 a1 a2 a3 a4 a5 a6 a7 a8 a9 a10 : Int) : bsV Try.prog (some (.slice 128)) 11 [(0, .sc (.int .u8 a0)), (1, .sc (.int .u8 a1)), (2, .sc (.int .u8 a2)), (3, .sc (.int .u8 a3)), (4, .sc (.int .u8 a4)), (5, .sc (.int .u8 a5)), (6, .sc (.int .u8 a6)), (7, .sc (.int .u8 a7)), (8, .sc (.int .u8 a8)), (9, .sc (.int .u8 a9)), (10, .sc (.int .u8 a10))] = some (ints .u8 [a0, a1, a2, a3, a4, a5, a6, a7, a8, a9, a10], fun r => .sl r 0 11 1) := bs_ints .u8 128 11 [(0, a0), (1, a1), (2, a2), (3, a3), (4, a4), (5, a5), (6, a6), (7, a7), (8, a8), (9, a9), (10, a10)] zero128 tyOk128 cells128 (by decide) (by simp)
theorem bs128_12 (a0 a1 a2 a3 a4 a5 a6 a7 a8 a9 a10 a11 : Int) : bsV Try.prog (some (.slice 128)) 12 [(0, .sc (.int .u8 a0)), (1, .sc (.int .u8 a1)), (2, .sc (.int .u8 a2)), (3, .sc (.int .u8 a3)), (4, .sc (.int .u8 a4)), (5, .sc (.int .u8 a5)), (6, .sc (.int .u8 a6)), (7, .sc (.int .u8 a7)), (8, .sc (.int .u8 a8)), (9, .sc (.int .u8 a9)), (10, .sc (.int .u8 a10)), (11, .sc (.int .u8 a11))] = some (ints .u8 [a0, a1, a2, a3, a4, a5, a6, a7, a8, a9, a10, a11], fun r => .sl r 0 12 1) := bs_ints .u8 128 12 [(0, a0), (1, a1), (2, a2), (3, a3), (4, a4), (5, a5), (6, a6), (7, a7), (8, a8), (9, a9), (10, a10), (11, a11)] zero128 tyOk128 cells128 (by decide) (by simp)
theorem bs128_13 (a0 a1 a2 a3 a4 a5 a6 a7 a8 a9 a10 a11 a12 : Int) : bsV Try.prog (some (.slice 128)) 13 [(0, .sc (.int .u8 a0)), (1, .sc (.int .u8 a1)), (2, .sc (.int .u8 a2)), (3, .sc (.int .u8 a3)), (4, .sc (.int .u8 a4)), (5, .sc (.int .u8 a5)), (6, .sc (.int .u8 a6)), (7, .sc (.int .u8 a7)), (8, .sc (.int .u8 a8)), (9, .sc (.int .u8 a9)), (10, .sc (.int .u8 a10)), (11, .sc (.int .u8 a11)), (12, .sc (.int .u8 a12))] = some (ints .u8 [a0, a1, a2, a3, a4, a5, a6, a7, a8, a9, a10, a11, a12], fun r => .sl r 0 13 1) := bs_ints .u8 128 13 [(0, a0), (1, a1), (2, a2), (3, a3), (4, a4), (5, a5), (6, a6), (7, a7), (8, a8), (9, a9), (10, a10), (11, a11), (12, a12)] zero128 tyOk128 cells128 (by decide) (by simp)
theorem tyOk129 : tyOk Try.prog 129 = true := by kernel_rfl
theorem agg129 : aggB Try.prog 129 = false := by kernel_rfl
theorem cells129 : Try.prog.cellsOf 129 = 1 := by kernel_rfl
theorem tyOk130 : tyOk Try.prog 130 = true := by kernel_rfl
theorem agg130 : aggB Try.prog 130 = false := by kernel_rfl
theorem cells130 : Try.prog.cellsOf 130 = 1 := by kernel_rfl
theorem zero130 : zeroA Try.prog 130 = some [.sc (.int .i32 0)] := by kernel_rfl
theorem info130 : (Try.prog.info? 130).map (·.bytes) = some 4 := by kernel_rfl
theorem mk130 (a b : IntKind) (m : Int) (h0 : 0 ≤ m) (h1 : m ≤ 1000000000000) : mkV Try.prog (some (.slice 130)) (.sc (.int a m)) (.sc (.int b m)) = some (ints .i32 (List.replicate m.toNat 0), fun r => .sl r 0 m.toNat 1) := mk_ints .i32 130 a b m _ zero130 info130 cells130 h0 (by omega) (by omega)
theorem bs130_0 : bsV Try.prog (some (.slice 130)) 0 [] = some (ints .i32 [], fun r => .sl r 0 0 1) := bs_ints .i32 130 0 [] zero130 tyOk130 cells130 (by decide) (by simp)
theorem bs130_1 (a0 : Int) : bsV Try.prog (some (.slice 130)) 1 [(0, .sc (.int .i32 a0))] = some (ints .i32 [a0], fun r => .sl r 0 1 1) := bs_ints .i32 130 1 [(0, a0)] zero130 tyOk130 cells130 (by decide) (by simp)
theorem bs130_2 (a0 a1 : Int) : bsV Try.prog (some (.slice 130)) 2 [(0, .sc (.int .i32 a0)), (1, .sc (.int .i32 a1))] = some (ints .i32 [a0, a1], fun r => .sl r 0 2 1) := bs_ints .i32 130 2 [(0, a0), (1, a1)] zero130 tyOk130 cells130 (by decide) (by simp)
theorem bs130_3 (a0 a1 a2 : Int) : bsV Try.prog (some (.slice 130)) 3 [(0, .sc (.int .i32 a0)), (1, .sc (.int .i32 a1)), (2, .sc (.int .i32 a2))] = some (ints .i32 [a0, a1, a2], fun r => .sl r 0 3 1) := bs_ints .i32 130 3 [(0, a0), (1, a1), (2, a2)] zero130 tyOk130 cells130 (by decide) (by simp)
theorem bs130_4 (a0 a1 a2 a3 : Int) : bsV Try.prog (some (.slice 130)) 4 [(0, .sc (.int .i32 a0)), (1, .sc (.int .i32 a1)), (2, .sc (.int .i32 a2)), (3, .sc (.int .i32 a3))] = some (ints .i32 [a0, a1, a2, a3], fun r => .sl r 0 4 1) := bs_ints .i32 130 4 [(0, a0), (1, a1), (2, a2), (3, a3)] zero130 tyOk130 cells130 (by decide) (by simp)
theorem bs130_5 (a0 a1 a2 a3 a4 : Int) : bsV Try.prog (some (.slice 130)) 5 [(0, .sc (.int .i32 a0)), (1, .sc (.int .i32 a1)), (2, .sc (.int .i32 a2)), (3, .sc (.int .i32 a3)), (4, .sc (.int .i32 a4))] = some (ints .i32 [a0, a1, a2, a3, a4], fun r => .sl r 0 5 1) := bs_ints .i32 130 5 [(0, a0), (1, a1), (2, a2), (3, a3), (4, a4)] zero130 tyOk130 cells130 (by decide) (by simp)
theorem bs130_6 (a0 a1 a2 a3 a4 a5 : Int) : bsV Try.prog (some (.slice 130)) 6 [(0, .sc (.int .i32 a0)), (1, .sc (.int .i32 a1)), (2, .sc (.int .i32 a2)), (3, .sc (.int .i32 a3)), (4, .sc (.int .i32 a4)), (5, .sc (.int .i32 a5))] = some (ints .i32 [a0, a1, a2, a3, a4, a5], fun r => .sl r 0 6 1) := bs_ints .i32 130 6 [(0, a0), (1, a1), (2, a2), (3, a3), (4, a4), (5, a5)] zero130 tyOk130 cells130 (by decide) (by simp)
theorem bs130_7 (a0 a1 a2 a3 a4 a5 a6 : Int) : bsV Try.prog (some (.slice 130)) 7 [(0, .sc (.int .i32 a0)), (1, .sc (.int .i32 a1)), (2, .sc (.int .i32 a2)), (3, .sc (.int .i32 a3)), (4, .sc (.int .i32 a4)), (5, .sc (.int .i32 a5)), (6, .sc (.int .i32 a6))] = some (ints .i32 [a0, a1, a2, a3, a4, a5, a6], fun r => .sl r 0 7 1) := bs_ints .i32 130 7 [(0, a0), (1, a1), (2, a2), (3, a3), (4, a4), (5, a5), (6, a6)] zero130 tyOk130 cells130 (by decide) (by simp)
theorem bs130_8 (a0 a1 a2 a3 a4 a5 a6 a7 : Int) : bsV Try.prog (some (.slice 130)) 8 [(0, .sc (.int .i32 a0)), (1, .sc (.int .i32 a1)), (2, .sc (.int .i32 a2)), (3, .sc (.int .i32 a3)), (4, .sc (.int .i32 a4)), (5, .sc (.int .i32 a5)), (6, .sc (.int .i32 a6)), (7, .sc (.int .i32 a7))] = some (ints .i32 [a0, a1, a2, a3, a4, a5, a6, a7], fun r => .sl r 0 8 1) := bs_ints .i32 130 8 [(0, a0), (1, a1), (2, a2), (3, a3), (4, a4), (5, a5), (6, a6), (7, a7)] zero130 tyOk130 cells130 (by decide) (by simp)
theorem bs130_10 (a0 a1 a2 a3 a4 a5 a6 a7 a8 a9 : Int) : bsV Try.prog (some (.slice 130)) 10 [(0, .sc (.int .i32 a0)), (1, .sc (.int .i32 a1)), (2, .sc (.int .i32 a2)), (3, .sc (.int .i32 a3)), (4, .sc (.int .i32 a4)), (5, .sc (.int .i32 a5)), (6, .sc (.int .i32 a6)), (7, .sc (.int .i32 a7)), (8, .sc (.int .i32 a8)), (9, .sc (.int .i32 a9))] = some (ints .i32 [a0, a1, a2, a3, a4, a5, a6, a7, a8, a9], fun r => .sl r 0 10 1) := bs_ints .i32 130 10 [(0, a0), (1, a1), (2, a2), (3, a3), (4, a4), (5, a5), (6, a6), (7, a7), (8, a8), (9, a9)] zero130 tyOk130 cells130 (by decide) (by simp)
theorem bs130_11 (a0 a1 a2 a3 a4 a5 a6 a7 a8 a9 a10 : Int) : bsV Try.prog (some (.slice 130)) 11 [(0, .sc (.int .i32 a0)), (1, .sc (.int .i32 a1)), (2, .sc (.int .i32 a2)), (3, .sc (.int .i32 a3)), (4, .sc (.int .i32 a4)), (5, .sc (.int .i32 a5)), (6, .sc (.int .i32 a6)), (7, .sc (.int .i32 a7)), (8, .sc (.int .i32 a8)), (9, .sc (.int .i32 a9)), (10, .sc (.int .i32 a10))] = some (ints .i32 [a0, a1, a2, a3, a4, a5, a6, a7, a8, a9, a10], fun r => .sl r 0 11 1) := bs_ints .i32 130 11 [(0, a0), (1, a1), (2, a2), (3, a3), (4, a4), (5, a5), (6, a6), (7, a7), (8, a8), (9, a9), (10, a10)] zero130 tyOk130 cells130 (by decide) (by simp)
theorem bs130_12 (a0 a1 a2 a3 a4 a5 a6 a7 a8 a9 a10 a11 : Int) : bsV Try.prog (some (.slice 130)) 12 [(0, .sc (.int .i32 a0)), (1, .sc (.int .i32 a1)), (2, .sc (.int .i32 a2)), (3, .sc (.int .i32 a3)), (4, .sc (.int .i32 a4)), (5, .sc (.int .i32 a5)), (6, .sc (.int .i32 a6)), (7, .sc (.int .i32 a7)), (8, .sc (.int .i32 a8)), (9, .sc (.int .i32 a9)), (10, .sc (.int .i32 a10)), (11, .sc (.int .i32 a11))] = some (ints .i32 [a0, a1, a2, a3, a4, a5, a6, a7, a8, a9, a10, a11], fun r => .sl r 0 12 1) := bs_ints .i32 130 12 [(0, a0), (1, a1), (2, a2), (3, a3), (4, a4), (5, a5), (6, a6), (7, a7), (8, a8), (9, a9), (10, a10), (11, a11)] zero130 tyOk130 cells130 (by decide) (by simp)
theorem bs130_13 (a0 a1 a2 a3 a4 a5 a6 a7 a8 a9 a10 a11 a12 : Int) : bsV Try.prog (some (.slice 130)) 13 [(0, .sc (.int .i32 a0)), (1, .sc (.int .i32 a1)), (2, .sc (.int .i32 a2)), (3, .sc (.int .i32 a3)), (4, .sc (.int .i32 a4)), (5, .sc (.int .i32 a5)), (6, .sc (.int .i32 a6)), (7, .sc (.int .i32 a7)), (8, .sc (.int .i32 a8)), (9, .sc (.int .i32 a9)), (10, .sc (.int .i32 a10)), (11, .sc (.int .i32 a11)), (12, .sc (.int .i32 a12))] = some (ints .i32 [a0, a1, a2, a3, a4, a5, a6, a7, a8, a9, a10, a11, a12], fun r => .sl r 0 13 1) := bs_ints .i32 130 13 [(0, a0), (1, a1), (2, a2), (3, a3), (4, a4), (5, a5), (6, a6), (7, a7), (8, a8), (9, a9), (10, a10), (11, a11), (12, a12)] zero130 tyOk130 cells130 (by decide) (by simp)
theorem tyOk131 : tyOk Try.prog 131 = true := by kernel_rfl
theorem agg131 : aggB Try.prog 131 = false := by kernel_rfl
theorem cells131 : Try.prog.cellsOf 131 = 1 := by kernel_rfl
theorem zero131 : zeroA Try.prog 131 = some [.sc (.int .i32 0)] := by kernel_rfl
theorem info131 : (Try.prog.info? 131).map (·.bytes) = some 4 := by kernel_rfl
theorem mk131 (a b : IntKind) (m : Int) (h0 : 0 ≤ m) (h1 : m ≤ 1000000000000) : mkV Try.prog (some (.slice 131)) (.sc (.int a m)) (.sc (.int b m)) = some (ints .i32 (List.replicate m.toNat 0), fun r => .sl r 0 m.toNat 1) := mk_ints .i32 131 a b m _ zero131 info131 cells131 h0 (by omega) (by omega)
theorem bs131_0 : bsV Try.prog (some (.slice 131)) 0 [] = some (ints .i32 [], fun r => .sl r 0 0 1) := bs_ints .i32 131 0 [] zero131 tyOk131 cells131 (by decide) (by simp)
theorem bs131_1 (a0 : Int) : bsV Try.prog (some (.slice 131)) 1 [(0, .sc (.int .i32 a0))] = some (ints .i32 [a0], fun r => .sl r 0 1 1) := bs_ints .i32 131 1 [(0, a0)] zero131 tyOk131 cells131 (by decide) (by simp)
theorem bs131_2 (a0 a1 : Int) : bsV Try.prog (some (.slice 131)) 2 [(0, .sc (.int .i32 a0)), (1, .sc (.int .i32 a1))] = some (ints .i32 [a0, a1], fun r => .sl r 0 2 1) := bs_ints .i32 131 2 [(0, a0), (1, a1)] zero131 tyOk131 cells131 (by decide) (by simp)
theorem bs131_3 (a0 a1 a2 : Int) : bsV Try.prog (some (.slice 131)) 3 [(0, .sc (.int .i32 a0)), (1, .sc (.int .i32 a1)), (2, .sc (.int .i32 a2))] = some (ints .i32 [a0, a1, a2], fun r => .sl r 0 3 1) := bs_ints .i32 131 3 [(0, a0), (1, a1), (2, a2)] zero131 tyOk131 cells131 (by decide) (by simp)
theorem bs131_4 (a0 a1 a2 a3 : Int) : bsV Try.prog (some (.slice 131)) 4 [(0, .sc (.int .i32 a0)), (1, .sc (.int .i32 a1)), (2, .sc (.int .i32 a2)), (3, .sc (.int .i32 a3))] = some (ints .i32 [a0, a1, a2, a3], fun r => .sl r 0 4 1) := bs_ints .i32 131 4 [(0, a0), (1, a1), (2, a2), (3, a3)] zero131 tyOk131 cells131 (by decide) (by simp)
theorem bs131_5 (a0 a1 a2 a3 a4 : Int) : bsV Try.prog (some (.slice 131)) 5 [(0, .sc (.int .i32 a0)), (1, .sc (.int .i32 a1)), (2, .sc (.int .i32 a2)), (3, .sc (.int .i32 a3)), (4, .sc (.int .i32 a4))] = some (ints .i32 [a0, a1, a2, a3, a4], fun r => .sl r 0 5 1) := bs_ints .i32 131 5 [(0, a0), (1, a1), (2, a2), (3, a3), (4, a4)] zero131 tyOk131 cells131 (by decide) (by simp)
theorem bs131_6 (a0 a1 a2 a3 a4 a5 : Int) : bsV Try.prog (some (.slice 131)) 6 [(0, .sc (.int .i32 a0)), (1, .sc (.int .i32 a1)), (2, .sc (.int .i32 a2)), (3, .sc (.int .i32 a3)), (4, .sc (.int .i32 a4)), (5, .sc (.int .i32 a5))] = some (ints .i32 [a0, a1, a2, a3, a4, a5], fun r => .sl r 0 6 1) := bs_ints .i32 131 6 [(0, a0), (1, a1), (2, a2), (3, a3), (4, a4), (5, a5)] zero131 tyOk131 cells131 (by decide) (by simp)
theorem bs131_7 (a0 a1 a2 a3 a4 a5 a6 : Int) : bsV Try.prog (some (.slice 131)) 7 [(0, .sc (.int .i32 a0)), (1, .sc (.int .i32 a1)), (2, .sc (.int .i32 a2)), (3, .sc (.int .i32 a3)), (4, .sc (.int .i32 a4)), (5, .sc (.int .i32 a5)), (6, .sc (.int .i32 a6))] = some (ints .i32 [a0, a1, a2, a3, a4, a5, a6], fun r => .sl r 0 7 1) := bs_ints .i32 131 7 [(0, a0), (1, a1), (2, a2), (3, a3), (4, a4), (5, a5), (6, a6)] zero131 tyOk131 cells131 (by decide) (by simp)
theorem bs131_8 (a0 a1 a2 a3 a4 a5 a6 a7 : Int) : bsV Try.prog (some (.slice 131)) 8 [(0, .sc (.int .i32 a0)), (1, .sc (.int .i32 a1)), (2, .sc (.int .i32 a2)), (3, .sc (.int .i32 a3)), (4, .sc (.int .i32 a4)), (5, .sc (.int .i32 a5)), (6, .sc (.int .i32 a6)), (7, .sc (.int .i32 a7))] = some (ints .i32 [a0, a1, a2, a3, a4, a5, a6, a7], fun r => .sl r 0 8 1) := bs_ints .i32 131 8 [(0, a0), (1, a1), (2, a2), (3, a3), (4, a4), (5, a5), (6, a6), (7, a7)] zero131 tyOk131 cells131 (by decide) (by simp)
theorem bs131_10 (a0 a1 a2 a3 a4 a5 a6 a7 a8 a9 : Int) : bsV Try.prog (some (.slice 131)) 10 [(0, .sc (.int .i32 a0)), (1, .sc (.int .i32 a1)), (2, .sc (.int .i32 a2)), (3, .sc (.int .i32 a3)), (4, .sc (.int .i32 a4)), (5, .sc (.int .i32 a5)), (6, .sc (.int .i32 a6)), (7, .sc (.int .i32 a7)), (8, .sc (.int .i32 a8)), (9, .sc (.int .i32 a9))] = some (ints .i32 [a0, a1, a2, a3, a4, a5, a6, a7, a8, a9], fun r => .sl r 0 10 1) := bs_ints .i32 131 10 [(0, a0), (1, a1), (2, a2), (3, a3), (4, a4), (5, a5), (6, a6), (7, a7), (8, a8), (9, a9)] zero131 tyOk131 cells131 (by decide) (by simp)
theorem bs131_11 (a0 a1 a2 a3 a4 a5 a6 a7 a8 a9 a10 : Int) : bsV Try.prog (some (.slice 131)) 11 [(0, .sc (.int .i32 a0)), (1, .sc (.int .i32 a1)), (2, .sc (.int .i32 a2)), (3, .sc (.int .i32 a3)), (4, .sc (.int .i32 a4)), (5, .sc (.int .i32 a5)), (6, .sc (.int .i32 a6)), (7, .sc (.int .i32 a7)), (8, .sc (.int .i32 a8)), (9, .sc (.int .i32 a9)), (10, .sc (.int .i32 a10))] = some (ints .i32 [a0, a1, a2, a3, a4, a5, a6, a7, a8, a9, a10], fun r => .sl r 0 11 1) := bs_ints .i32 131 11 [(0, a0), (1, a1), (2, a2), (3, a3), (4, a4), (5, a5), (6, a6), (7, a7), (8, a8), (9, a9), (10, a10)] zero131 tyOk131 cells131 (by decide) (by simp)
theorem bs131_12 (a0 a1 a2 a3 a4 a5 a6 a7 a8 a9 a10 a11 : Int) : bsV Try.prog (some (.slice 131)) 12 [(0, .sc (.int .i32 a0)), (1, .sc (.int .i32 a1)), (2, .sc (.int .i32 a2)), (3, .sc (.int .i32 a3)), (4, .sc (.int .i32 a4)), (5, .sc (.int .i32 a5)), (6, .sc (.int .i32 a6)), (7, .sc (.int .i32 a7)), (8, .sc (.int .i32 a8)), (9, .sc (.int .i32 a9)), (10, .sc (.int .i32 a10)), (11, .sc (.int .i32 a11))] = some (ints .i32 [a0, a1, a2, a3, a4, a5, a6, a7, a8, a9, a10, a11], fun r => .sl r 0 12 1) := bs_ints .i32 131 12 [(0, a0), (1, a1), (2, a2), (3, a3), (4, a4), (5, a5), (6, a6), (7, a7), (8, a8), (9, a9), (10, a10), (11, a11)] zero131 tyOk131 cells131 (by decide) (by simp)
theorem bs131_13 (a0 a1 a2 a3 a4 a5 a6 a7 a8 a9 a10 a11 a12 : Int) : bsV Try.prog (some (.slice 131)) 13 [(0, .sc (.int .i32 a0)), (1, .sc (.int .i32 a1)), (2, .sc (.int .i32 a2)), (3, .sc (.int .i32 a3)), (4, .sc (.int .i32 a4)), (5, .sc (.int .i32 a5)), (6, .sc (.int .i32 a6)), (7, .sc (.int .i32 a7)), (8, .sc (.int .i32 a8)), (9, .sc (.int .i32 a9)), (10, .sc (.int .i32 a10)), (11, .sc (.int .i32 a11)), (12, .sc (.int .i32 a12))] = some (ints .i32 [a0, a1, a2, a3, a4, a5, a6, a7, a8, a9, a10, a11, a12], fun r => .sl r 0 13 1) := bs_ints .i32 131 13 [(0, a0), (1, a1), (2, a2), (3, a3), (4, a4), (5, a5), (6, a6), (7, a7), (8, a8), (9, a9), (10, a10), (11, a11), (12, a12)] zero131 tyOk131 cells131 (by decide) (by simp)
theorem tyOk132 : tyOk Try.prog 132 = true := by kernel_rfl
theorem agg132 : aggB Try.prog 132 = true := by kernel_rfl
theorem cells132 : Try.prog.cellsOf 132 = 11 := by kernel_rfl
theorem tyOk133 : tyOk Try.prog 133 = true := by kernel_rfl
theorem agg133 : aggB Try.prog 133 = true := by kernel_rfl
theorem cells133 : Try.prog.cellsOf 133 = 11 := by kernel_rfl
theorem apS48 (r len : Nat) (x : AV) (H : AHeap) : apV Try.prog (some (.slice 3)) (some (.slice 3)) (.sl r 0 len 1) x H = apT 8 H r len H[r]? (srcCells H x 1) := ap_sl zero3 info3 cells3 rfl r len x
theorem apN48 (x : AV) (H : AHeap) : apV Try.prog (some (.slice 3)) (some (.slice 3)) (.sc (.slice none 0 0)) x H = apN 8 H (srcCells H x 1) := ap_nil zero3 info3 cells3 rfl x
theorem apS30 (r len : Nat) (x : AV) (H : AHeap) : apV Try.prog (some (.slice 4)) (some (.slice 4)) (.sl r 0 len 1) x H = apT 1 H r len H[r]? (srcCells H x 1) := ap_sl zero4 info4 cells4 rfl r len x
theorem apN30 (x : AV) (H : AHeap) : apV Try.prog (some (.slice 4)) (some (.slice 4)) (.sc (.slice none 0 0)) x H = apN 1 H (srcCells H x 1) := ap_nil zero4 info4 cells4 rfl x
theorem apS45 (r len : Nat) (x : AV) (H : AHeap) : apV Try.prog (some (.slice 5)) (some (.slice 5)) (.sl r 0 len 1) x H = apT 1 H r len H[r]? (srcCells H x 1) := ap_sl zero5 info5 cells5 rfl r len x
theorem apN45 (x : AV) (H : AHeap) : apV Try.prog (some (.slice 5)) (some (.slice 5)) (.sc (.slice none 0 0)) x H = apN 1 H (srcCells H x 1) := ap_nil zero5 info5 cells5 rfl x
theorem apStr45 (r len : Nat) (x : AV) (H : AHeap) : apV Try.prog (some (.slice 5)) (some .string) (.sl r 0 len 1) x H = apT 1 H r len H[r]? (srcCells H x 1) := ap_sl zero5 info5 cells5 rfl r len x
theorem apS111 (r len : Nat) (x : AV) (H : AHeap) : apV Try.prog (some (.slice 9)) (some (.slice 9)) (.sl r 0 len 1) x H = apT 16 H r len H[r]? (srcCells H x 1) := ap_sl zero9 info9 cells9 rfl r len x
theorem apN111 (x : AV) (H : AHeap) : apV Try.prog (some (.slice 9)) (some (.slice 9)) (.sc (.slice none 0 0)) x H = apN 16 H (srcCells H x 1) := ap_nil zero9 info9 cells9 rfl x
theorem fadr7_0 (r off : Nat) : fadrT Try.prog 7 (.ptr r off) 0 = some (.ptr r (off + 0)) := fadr_st Try.underlying7 rfl tyOk2 (by rw [cells2]; decide) r off
theorem fld7_0 (cs : List AV) : fldT Try.prog 7 (.agg cs) 0 = cs[0]? := fld_one Try.underlying7 rfl tyOk2 agg2 cs
theorem fadr7_1 (r off : Nat) : fadrT Try.prog 7 (.ptr r off) 1 = some (.ptr r (off + 1)) := fadr_st Try.underlying7 rfl tyOk3 (by rw [cells3]; decide) r off
theorem fld7_1 (cs : List AV) : fldT Try.prog 7 (.agg cs) 1 = cs[1]? := fld_one Try.underlying7 rfl tyOk3 agg3 cs
theorem fadr7_2 (r off : Nat) : fadrT Try.prog 7 (.ptr r off) 2 = some (.ptr r (off + 2)) := fadr_st Try.underlying7 rfl tyOk4 (by rw [cells4]; decide) r off
theorem fld7_2 (cs : List AV) : fldT Try.prog 7 (.agg cs) 2 = cs[2]? := fld_one Try.underlying7 rfl tyOk4 agg4 cs
theorem fadr7_3 (r off : Nat) : fadrT Try.prog 7 (.ptr r off) 3 = some (.ptr r (off + 3)) := fadr_st Try.underlying7 rfl tyOk6 (by rw [cells6]; decide) r off
theorem fld7_3 (cs : List AV) : fldT Try.prog 7 (.agg cs) 3 = cs[3]? := fld_one Try.underlying7 rfl tyOk6 agg6 cs
theorem bz7 : buildV Try.prog 7 [] = some (.agg [.sc (.int .i64 0), .sc (.int .i64 0), .sc (.bool false), .sc (.int .u8 0)]) := by simp [buildV, Try.underlying7, zero7, fillA, tyOk2, cells2, tyOk3, cells3, tyOk4, cells4, tyOk6, cells6]
theorem bds7 (v0 v1 v2 v3 : AV) (hv0 : v0.cells = [v0]) (hv1 : v1.cells = [v1]) (hv2 : v2.cells = [v2]) (hv3 : v3.cells = [v3]) : buildV Try.prog 7 [(0, v0), (1, v1), (2, v2), (3, v3)] = some (.agg [v0, v1, v2, v3]) := by simp [buildV, Try.underlying7, zero7, fillA, placeS, overA, tyOk2, cells2, tyOk3, cells3, tyOk4, cells4, tyOk6, cells6, hv0, hv1, hv2, hv3]
theorem fadr8_0 (r off : Nat) : fadrT Try.prog 8 (.ptr r off) 0 = some (.ptr r (off + 0)) := fadr_st Try.underlying8 rfl tyOk2 (by rw [cells2]; decide) r off
theorem fld8_0 (cs : List AV) : fldT Try.prog 8 (.agg cs) 0 = cs[0]? := fld_one Try.underlying8 rfl tyOk2 agg2 cs
theorem fadr8_1 (r off : Nat) : fadrT Try.prog 8 (.ptr r off) 1 = some (.ptr r (off + 1)) := fadr_st Try.underlying8 rfl tyOk3 (by rw [cells3]; decide) r off
theorem fld8_1 (cs : List AV) : fldT Try.prog 8 (.agg cs) 1 = cs[1]? := fld_one Try.underlying8 rfl tyOk3 agg3 cs
theorem fadr8_2 (r off : Nat) : fadrT Try.prog 8 (.ptr r off) 2 = some (.ptr r (off + 2)) := fadr_st Try.underlying8 rfl tyOk4 (by rw [cells4]; decide) r off
theorem fld8_2 (cs : List AV) : fldT Try.prog 8 (.agg cs) 2 = cs[2]? := fld_one Try.underlying8 rfl tyOk4 agg4 cs
theorem fadr8_3 (r off : Nat) : fadrT Try.prog 8 (.ptr r off) 3 = some (.ptr r (off + 3)) := fadr_st Try.underlying8 rfl tyOk6 (by rw [cells6]; decide) r off
theorem fld8_3 (cs : List AV) : fldT Try.prog 8 (.agg cs) 3 = cs[3]? := fld_one Try.underlying8 rfl tyOk6 agg6 cs
theorem bz8 : buildV Try.prog 8 [] = some (.agg [.sc (.int .i64 0), .sc (.int .i64 0), .sc (.bool false), .sc (.int .u8 0)]) := by simp [buildV, Try.underlying8, zero8, fillA, tyOk2, cells2, tyOk3, cells3, tyOk4, cells4, tyOk6, cells6]
theorem bds8 (v0 v1 v2 v3 : AV) (hv0 : v0.cells = [v0]) (hv1 : v1.cells = [v1]) (hv2 : v2.cells = [v2]) (hv3 : v3.cells = [v3]) : buildV Try.prog 8 [(0, v0), (1, v1), (2, v2), (3, v3)] = some (.agg [v0, v1, v2, v3]) := by simp [buildV, Try.underlying8, zero8, fillA, placeS, overA, tyOk2, cells2, tyOk3, cells3, tyOk4, cells4, tyOk6, cells6, hv0, hv1, hv2, hv3]
theorem fadr13_0 (r off : Nat) : fadrT Try.prog 13 (.ptr r off) 0 = some (.ptr r (off + 0)) := fadr_st Try.underlying13 rfl tyOk9 (by rw [cells9]; decide) r off
theorem fld13_0 (cs : List AV) : fldT Try.prog 13 (.agg cs) 0 = cs[0]? := fld_one Try.underlying13 rfl tyOk9 agg9 cs
theorem fadr13_1 (r off : Nat) : fadrT Try.prog 13 (.ptr r off) 1 = some (.ptr r (off + 1)) := fadr_st Try.underlying13 rfl tyOk12 (by rw [cells12]; decide) r off
theorem fld13_1 (cs : List AV) : fldT Try.prog 13 (.agg cs) 1 = cs[1]? := fld_one Try.underlying13 rfl tyOk12 agg12 cs
theorem bz13 : buildV Try.prog 13 [] = some (.agg [.sc (.string ByteArray.empty), .sc (.int .u64 0)]) := by simp [buildV, Try.underlying13, zero13, fillA, tyOk9, cells9, tyOk12, cells12]
theorem bds13 (v0 v1 : AV) (hv0 : v0.cells = [v0]) (hv1 : v1.cells = [v1]) : buildV Try.prog 13 [(0, v0), (1, v1)] = some (.agg [v0, v1]) := by simp [buildV, Try.underlying13, zero13, fillA, placeS, overA, tyOk9, cells9, tyOk12, cells12, hv0, hv1]
theorem fadr14_0 (r off : Nat) : fadrT Try.prog 14 (.ptr r off) 0 = some (.ptr r (off + 0)) := fadr_st Try.underlying14 rfl tyOk9 (by rw [cells9]; decide) r off
theorem fld14_0 (cs : List AV) : fldT Try.prog 14 (.agg cs) 0 = cs[0]? := fld_one Try.underlying14 rfl tyOk9 agg9 cs
theorem fadr14_1 (r off : Nat) : fadrT Try.prog 14 (.ptr r off) 1 = some (.ptr r (off + 1)) := fadr_st Try.underlying14 rfl tyOk12 (by rw [cells12]; decide) r off
theorem fld14_1 (cs : List AV) : fldT Try.prog 14 (.agg cs) 1 = cs[1]? := fld_one Try.underlying14 rfl tyOk12 agg12 cs
theorem bz14 : buildV Try.prog 14 [] = some (.agg [.sc (.string ByteArray.empty), .sc (.int .u64 0)]) := by simp [buildV, Try.underlying14, zero14, fillA, tyOk9, cells9, tyOk12, cells12]
theorem bds14 (v0 v1 : AV) (hv0 : v0.cells = [v0]) (hv1 : v1.cells = [v1]) : buildV Try.prog 14 [(0, v0), (1, v1)] = some (.agg [v0, v1]) := by simp [buildV, Try.underlying14, zero14, fillA, placeS, overA, tyOk9, cells9, tyOk12, cells12, hv0, hv1]
theorem fadr18_0 (r off : Nat) : fadrT Try.prog 18 (.ptr r off) 0 = some (.ptr r (off + 0)) := fadr_st Try.underlying18 rfl tyOk17 (by rw [cells17]; decide) r off
theorem fld18_0 (cs : List AV) : fldT Try.prog 18 (.agg cs) 0 = cs[0]? := fld_one Try.underlying18 rfl tyOk17 agg17 cs
theorem bz18 : buildV Try.prog 18 [] = some (.agg [.sc (.pointer none)]) := by simp [buildV, Try.underlying18, zero18, fillA, tyOk17, cells17]
theorem bds18 (v0 : AV) (hv0 : v0.cells = [v0]) : buildV Try.prog 18 [(0, v0)] = some (.agg [v0]) := by simp [buildV, Try.underlying18, zero18, fillA, placeS, overA, tyOk17, cells17, hv0]
theorem fadr19_0 (r off : Nat) : fadrT Try.prog 19 (.ptr r off) 0 = some (.ptr r (off + 0)) := fadr_st Try.underlying19 rfl tyOk17 (by rw [cells17]; decide) r off
theorem fld19_0 (cs : List AV) : fldT Try.prog 19 (.agg cs) 0 = cs[0]? := fld_one Try.underlying19 rfl tyOk17 agg17 cs
theorem bz19 : buildV Try.prog 19 [] = some (.agg [.sc (.pointer none)]) := by simp [buildV, Try.underlying19, zero19, fillA, tyOk17, cells17]
theorem bds19 (v0 : AV) (hv0 : v0.cells = [v0]) : buildV Try.prog 19 [(0, v0)] = some (.agg [v0]) := by simp [buildV, Try.underlying19, zero19, fillA, placeS, overA, tyOk17, cells17, hv0]
theorem fadr22_0 (r off : Nat) : fadrT Try.prog 22 (.ptr r off) 0 = some (.ptr r (off + 0)) := fadr_st Try.underlying22 rfl tyOk3 (by rw [cells3]; decide) r off
theorem fld22_0 (cs : List AV) : fldT Try.prog 22 (.agg cs) 0 = cs[0]? := fld_one Try.underlying22 rfl tyOk3 agg3 cs
theorem fadr22_1 (r off : Nat) : fadrT Try.prog 22 (.ptr r off) 1 = some (.ptr r (off + 1)) := fadr_st Try.underlying22 rfl tyOk3 (by rw [cells3]; decide) r off
theorem fld22_1 (cs : List AV) : fldT Try.prog 22 (.agg cs) 1 = cs[1]? := fld_one Try.underlying22 rfl tyOk3 agg3 cs
theorem fadr22_2 (r off : Nat) : fadrT Try.prog 22 (.ptr r off) 2 = some (.ptr r (off + 2)) := fadr_st Try.underlying22 rfl tyOk3 (by rw [cells3]; decide) r off
theorem fld22_2 (cs : List AV) : fldT Try.prog 22 (.agg cs) 2 = cs[2]? := fld_one Try.underlying22 rfl tyOk3 agg3 cs
theorem fadr22_3 (r off : Nat) : fadrT Try.prog 22 (.ptr r off) 3 = some (.ptr r (off + 3)) := fadr_st Try.underlying22 rfl tyOk9 (by rw [cells9]; decide) r off
theorem fld22_3 (cs : List AV) : fldT Try.prog 22 (.agg cs) 3 = cs[3]? := fld_one Try.underlying22 rfl tyOk9 agg9 cs
theorem bz22 : buildV Try.prog 22 [] = some (.agg [.sc (.int .i64 0), .sc (.int .i64 0), .sc (.int .i64 0), .sc (.string ByteArray.empty)]) := by simp [buildV, Try.underlying22, zero22, fillA, tyOk3, cells3, tyOk3, cells3, tyOk3, cells3, tyOk9, cells9]
theorem bds22 (v0 v1 v2 v3 : AV) (hv0 : v0.cells = [v0]) (hv1 : v1.cells = [v1]) (hv2 : v2.cells = [v2]) (hv3 : v3.cells = [v3]) : buildV Try.prog 22 [(0, v0), (1, v1), (2, v2), (3, v3)] = some (.agg [v0, v1, v2, v3]) := by simp [buildV, Try.underlying22, zero22, fillA, placeS, overA, tyOk3, cells3, tyOk3, cells3, tyOk3, cells3, tyOk9, cells9, hv0, hv1, hv2, hv3]
theorem fadr23_0 (r off : Nat) : fadrT Try.prog 23 (.ptr r off) 0 = some (.ptr r (off + 0)) := fadr_st Try.underlying23 rfl tyOk3 (by rw [cells3]; decide) r off
theorem fld23_0 (cs : List AV) : fldT Try.prog 23 (.agg cs) 0 = cs[0]? := fld_one Try.underlying23 rfl tyOk3 agg3 cs
theorem fadr23_1 (r off : Nat) : fadrT Try.prog 23 (.ptr r off) 1 = some (.ptr r (off + 1)) := fadr_st Try.underlying23 rfl tyOk3 (by rw [cells3]; decide) r off
theorem fld23_1 (cs : List AV) : fldT Try.prog 23 (.agg cs) 1 = cs[1]? := fld_one Try.underlying23 rfl tyOk3 agg3 cs
theorem fadr23_2 (r off : Nat) : fadrT Try.prog 23 (.ptr r off) 2 = some (.ptr r (off + 2)) := fadr_st Try.underlying23 rfl tyOk3 (by rw [cells3]; decide) r off
theorem fld23_2 (cs : List AV) : fldT Try.prog 23 (.agg cs) 2 = cs[2]? := fld_one Try.underlying23 rfl tyOk3 agg3 cs
theorem fadr23_3 (r off : Nat) : fadrT Try.prog 23 (.ptr r off) 3 = some (.ptr r (off + 3)) := fadr_st Try.underlying23 rfl tyOk9 (by rw [cells9]; decide) r off
theorem fld23_3 (cs : List AV) : fldT Try.prog 23 (.agg cs) 3 = cs[3]? := fld_one Try.underlying23 rfl tyOk9 agg9 cs
theorem bz23 : buildV Try.prog 23 [] = some (.agg [.sc (.int .i64 0), .sc (.int .i64 0), .sc (.int .i64 0), .sc (.string ByteArray.empty)]) := by simp [buildV, Try.underlying23, zero23, fillA, tyOk3, cells3, tyOk3, cells3, tyOk3, cells3, tyOk9, cells9]
theorem bds23 (v0 v1 v2 v3 : AV) (hv0 : v0.cells = [v0]) (hv1 : v1.cells = [v1]) (hv2 : v2.cells = [v2]) (hv3 : v3.cells = [v3]) : buildV Try.prog 23 [(0, v0), (1, v1), (2, v2), (3, v3)] = some (.agg [v0, v1, v2, v3]) := by simp [buildV, Try.underlying23, zero23, fillA, placeS, overA, tyOk3, cells3, tyOk3, cells3, tyOk3, cells3, tyOk9, cells9, hv0, hv1, hv2, hv3]
theorem apS39 (r len : Nat) (x : AV) (H : AHeap) : apV Try.prog (some (.slice 27)) (some (.slice 27)) (.sl r 0 len 4) x H = apR 4 40 H r len H[r]? (srcCells H x 4) := ap_slR zero27 rfl (by decide) info27 cells27 rfl r len x
theorem apN39 (x : AV) (H : AHeap) : apV Try.prog (some (.slice 27)) (some (.slice 27)) (.sc (.slice none 0 0)) x H = apRN 4 40 H (srcCells H x 4) := ap_nilR zero27 rfl (by decide) info27 cells27 rfl x
theorem bs27_1 (cs : List AV) (h : cs.length = 4) : bsV Try.prog (some (.slice 27)) 1 [(0, .agg cs)] = some (cs, fun r => .sl r 0 1 4) := bs_row 27 _ cs zero27 tyOk27 cells27 (by decide) (by decide) rfl h
theorem bs27_0 : bsV Try.prog (some (.slice 27)) 0 [] = some ([], fun r => .sl r 0 0 4) := bs_none 27 _ zero27 tyOk27 cells27 (by decide) rfl
theorem fadr27_0 (r off : Nat) : fadrT Try.prog 27 (.ptr r off) 0 = some (.ptr r (off + 0)) := fadr_st Try.underlying27 rfl tyOk3 (by rw [cells3]; decide) r off
theorem fld27_0 (cs : List AV) : fldT Try.prog 27 (.agg cs) 0 = cs[0]? := fld_one Try.underlying27 rfl tyOk3 agg3 cs
theorem fadr27_1 (r off : Nat) : fadrT Try.prog 27 (.ptr r off) 1 = some (.ptr r (off + 1)) := fadr_st Try.underlying27 rfl tyOk3 (by rw [cells3]; decide) r off
theorem fld27_1 (cs : List AV) : fldT Try.prog 27 (.agg cs) 1 = cs[1]? := fld_one Try.underlying27 rfl tyOk3 agg3 cs
theorem fadr27_2 (r off : Nat) : fadrT Try.prog 27 (.ptr r off) 2 = some (.ptr r (off + 2)) := fadr_st Try.underlying27 rfl tyOk3 (by rw [cells3]; decide) r off
theorem fld27_2 (cs : List AV) : fldT Try.prog 27 (.agg cs) 2 = cs[2]? := fld_one Try.underlying27 rfl tyOk3 agg3 cs
theorem fadr27_3 (r off : Nat) : fadrT Try.prog 27 (.ptr r off) 3 = some (.ptr r (off + 3)) := fadr_st Try.underlying27 rfl tyOk9 (by rw [cells9]; decide) r off
theorem fld27_3 (cs : List AV) : fldT Try.prog 27 (.agg cs) 3 = cs[3]? := fld_one Try.underlying27 rfl tyOk9 agg9 cs
theorem bz27 : buildV Try.prog 27 [] = some (.agg [.sc (.int .i64 0), .sc (.int .i64 0), .sc (.int .i64 0), .sc (.string ByteArray.empty)]) := by simp [buildV, Try.underlying27, zero27, fillA, tyOk3, cells3, tyOk3, cells3, tyOk3, cells3, tyOk9, cells9]
theorem bds27 (v0 v1 v2 v3 : AV) (hv0 : v0.cells = [v0]) (hv1 : v1.cells = [v1]) (hv2 : v2.cells = [v2]) (hv3 : v3.cells = [v3]) : buildV Try.prog 27 [(0, v0), (1, v1), (2, v2), (3, v3)] = some (.agg [v0, v1, v2, v3]) := by simp [buildV, Try.underlying27, zero27, fillA, placeS, overA, tyOk3, cells3, tyOk3, cells3, tyOk3, cells3, tyOk9, cells9, hv0, hv1, hv2, hv3]
theorem fadr31_0 (r off : Nat) : fadrT Try.prog 31 (.ptr r off) 0 = some (.ptr r (off + 0)) := fadr_st Try.underlying31 rfl tyOk3 (by rw [cells3]; decide) r off
theorem fld31_0 (cs : List AV) : fldT Try.prog 31 (.agg cs) 0 = cs[0]? := fld_one Try.underlying31 rfl tyOk3 agg3 cs
theorem fadr31_1 (r off : Nat) : fadrT Try.prog 31 (.ptr r off) 1 = some (.ptr r (off + 1)) := fadr_st Try.underlying31 rfl tyOk3 (by rw [cells3]; decide) r off
theorem fld31_1 (cs : List AV) : fldT Try.prog 31 (.agg cs) 1 = cs[1]? := fld_one Try.underlying31 rfl tyOk3 agg3 cs
theorem fadr31_2 (r off : Nat) : fadrT Try.prog 31 (.ptr r off) 2 = some (.ptr r (off + 2)) := fadr_st Try.underlying31 rfl tyOk9 (by rw [cells9]; decide) r off
theorem fld31_2 (cs : List AV) : fldT Try.prog 31 (.agg cs) 2 = cs[2]? := fld_one Try.underlying31 rfl tyOk9 agg9 cs
theorem fadr31_3 (r off : Nat) : fadrT Try.prog 31 (.ptr r off) 3 = some (.ptr r (off + 3)) := fadr_st Try.underlying31 rfl tyOk30 (by rw [cells30]; decide) r off
theorem fld31_3 (cs : List AV) : fldT Try.prog 31 (.agg cs) 3 = cs[3]? := fld_one Try.underlying31 rfl tyOk30 agg30 cs
theorem bz31 : buildV Try.prog 31 [] = some (.agg [.sc (.int .i64 0), .sc (.int .i64 0), .sc (.string ByteArray.empty), .sc (.slice none 0 0)]) := by simp [buildV, Try.underlying31, zero31, fillA, tyOk3, cells3, tyOk3, cells3, tyOk9, cells9, tyOk30, cells30]
theorem bds31 (v0 v1 v2 v3 : AV) (hv0 : v0.cells = [v0]) (hv1 : v1.cells = [v1]) (hv2 : v2.cells = [v2]) (hv3 : v3.cells = [v3]) : buildV Try.prog 31 [(0, v0), (1, v1), (2, v2), (3, v3)] = some (.agg [v0, v1, v2, v3]) := by simp [buildV, Try.underlying31, zero31, fillA, placeS, overA, tyOk3, cells3, tyOk3, cells3, tyOk9, cells9, tyOk30, cells30, hv0, hv1, hv2, hv3]
theorem fadr32_0 (r off : Nat) : fadrT Try.prog 32 (.ptr r off) 0 = some (.ptr r (off + 0)) := fadr_st Try.underlying32 rfl tyOk3 (by rw [cells3]; decide) r off
theorem fld32_0 (cs : List AV) : fldT Try.prog 32 (.agg cs) 0 = cs[0]? := fld_one Try.underlying32 rfl tyOk3 agg3 cs
theorem fadr32_1 (r off : Nat) : fadrT Try.prog 32 (.ptr r off) 1 = some (.ptr r (off + 1)) := fadr_st Try.underlying32 rfl tyOk3 (by rw [cells3]; decide) r off
theorem fld32_1 (cs : List AV) : fldT Try.prog 32 (.agg cs) 1 = cs[1]? := fld_one Try.underlying32 rfl tyOk3 agg3 cs
theorem fadr32_2 (r off : Nat) : fadrT Try.prog 32 (.ptr r off) 2 = some (.ptr r (off + 2)) := fadr_st Try.underlying32 rfl tyOk9 (by rw [cells9]; decide) r off
theorem fld32_2 (cs : List AV) : fldT Try.prog 32 (.agg cs) 2 = cs[2]? := fld_one Try.underlying32 rfl tyOk9 agg9 cs
theorem fadr32_3 (r off : Nat) : fadrT Try.prog 32 (.ptr r off) 3 = some (.ptr r (off + 3)) := fadr_st Try.underlying32 rfl tyOk30 (by rw [cells30]; decide) r off
theorem fld32_3 (cs : List AV) : fldT Try.prog 32 (.agg cs) 3 = cs[3]? := fld_one Try.underlying32 rfl tyOk30 agg30 cs
theorem bz32 : buildV Try.prog 32 [] = some (.agg [.sc (.int .i64 0), .sc (.int .i64 0), .sc (.string ByteArray.empty), .sc (.slice none 0 0)]) := by simp [buildV, Try.underlying32, zero32, fillA, tyOk3, cells3, tyOk3, cells3, tyOk9, cells9, tyOk30, cells30]
theorem bds32 (v0 v1 v2 v3 : AV) (hv0 : v0.cells = [v0]) (hv1 : v1.cells = [v1]) (hv2 : v2.cells = [v2]) (hv3 : v3.cells = [v3]) : buildV Try.prog 32 [(0, v0), (1, v1), (2, v2), (3, v3)] = some (.agg [v0, v1, v2, v3]) := by simp [buildV, Try.underlying32, zero32, fillA, placeS, overA, tyOk3, cells3, tyOk3, cells3, tyOk9, cells9, tyOk30, cells30, hv0, hv1, hv2, hv3]
theorem fadr35_0 (r off : Nat) : fadrT Try.prog 35 (.ptr r off) 0 = some (.ptr r (off + 0)) := fadr_st Try.underlying35 rfl tyOk3 (by rw [cells3]; decide) r off
theorem fld35_0 (cs : List AV) : fldT Try.prog 35 (.agg cs) 0 = cs[0]? := fld_one Try.underlying35 rfl tyOk3 agg3 cs
theorem fadr35_1 (r off : Nat) : fadrT Try.prog 35 (.ptr r off) 1 = some (.ptr r (off + 1)) := fadr_st Try.underlying35 rfl tyOk3 (by rw [cells3]; decide) r off
theorem fld35_1 (cs : List AV) : fldT Try.prog 35 (.agg cs) 1 = cs[1]? := fld_one Try.underlying35 rfl tyOk3 agg3 cs
theorem fadr35_2 (r off : Nat) : fadrT Try.prog 35 (.ptr r off) 2 = some (.ptr r (off + 2)) := fadr_st Try.underlying35 rfl tyOk9 (by rw [cells9]; decide) r off
theorem fld35_2 (cs : List AV) : fldT Try.prog 35 (.agg cs) 2 = cs[2]? := fld_one Try.underlying35 rfl tyOk9 agg9 cs
theorem fadr35_3 (r off : Nat) : fadrT Try.prog 35 (.ptr r off) 3 = some (.ptr r (off + 3)) := fadr_st Try.underlying35 rfl tyOk30 (by rw [cells30]; decide) r off
theorem fld35_3 (cs : List AV) : fldT Try.prog 35 (.agg cs) 3 = cs[3]? := fld_one Try.underlying35 rfl tyOk30 agg30 cs
theorem bz35 : buildV Try.prog 35 [] = some (.agg [.sc (.int .i64 0), .sc (.int .i64 0), .sc (.string ByteArray.empty), .sc (.slice none 0 0)]) := by simp [buildV, Try.underlying35, zero35, fillA, tyOk3, cells3, tyOk3, cells3, tyOk9, cells9, tyOk30, cells30]
theorem bds35 (v0 v1 v2 v3 : AV) (hv0 : v0.cells = [v0]) (hv1 : v1.cells = [v1]) (hv2 : v2.cells = [v2]) (hv3 : v3.cells = [v3]) : buildV Try.prog 35 [(0, v0), (1, v1), (2, v2), (3, v3)] = some (.agg [v0, v1, v2, v3]) := by simp [buildV, Try.underlying35, zero35, fillA, placeS, overA, tyOk3, cells3, tyOk3, cells3, tyOk9, cells9, tyOk30, cells30, hv0, hv1, hv2, hv3]
theorem fadr94_0 (r off : Nat) : fadrT Try.prog 94 (.ptr r off) 0 = some (.ptr r (off + 0)) := fadr_st Try.underlying94 rfl tyOk45 (by rw [cells45]; decide) r off
theorem fld94_0 (cs : List AV) : fldT Try.prog 94 (.agg cs) 0 = cs[0]? := fld_one Try.underlying94 rfl tyOk45 agg45 cs
theorem fadr94_1 (r off : Nat) : fadrT Try.prog 94 (.ptr r off) 1 = some (.ptr r (off + 1)) := fadr_st Try.underlying94 rfl tyOk3 (by rw [cells3]; decide) r off
theorem fld94_1 (cs : List AV) : fldT Try.prog 94 (.agg cs) 1 = cs[1]? := fld_one Try.underlying94 rfl tyOk3 agg3 cs
theorem fadr94_2 (r off : Nat) : fadrT Try.prog 94 (.ptr r off) 2 = some (.ptr r (off + 2)) := fadr_st Try.underlying94 rfl tyOk3 (by rw [cells3]; decide) r off
theorem fld94_2 (cs : List AV) : fldT Try.prog 94 (.agg cs) 2 = cs[2]? := fld_one Try.underlying94 rfl tyOk3 agg3 cs
theorem bz94 : buildV Try.prog 94 [] = some (.agg [.sc (.slice none 0 0), .sc (.int .i64 0), .sc (.int .i64 0)]) := by simp [buildV, Try.underlying94, zero94, fillA, tyOk45, cells45, tyOk3, cells3, tyOk3, cells3]
theorem bds94 (v0 v1 v2 : AV) (hv0 : v0.cells = [v0]) (hv1 : v1.cells = [v1]) (hv2 : v2.cells = [v2]) : buildV Try.prog 94 [(0, v0), (1, v1), (2, v2)] = some (.agg [v0, v1, v2]) := by simp [buildV, Try.underlying94, zero94, fillA, placeS, overA, tyOk45, cells45, tyOk3, cells3, tyOk3, cells3, hv0, hv1, hv2]
theorem fadr95_0 (r off : Nat) : fadrT Try.prog 95 (.ptr r off) 0 = some (.ptr r (off + 0)) := fadr_st Try.underlying95 rfl tyOk45 (by rw [cells45]; decide) r off
theorem fld95_0 (cs : List AV) : fldT Try.prog 95 (.agg cs) 0 = cs[0]? := fld_one Try.underlying95 rfl tyOk45 agg45 cs
theorem fadr95_1 (r off : Nat) : fadrT Try.prog 95 (.ptr r off) 1 = some (.ptr r (off + 1)) := fadr_st Try.underlying95 rfl tyOk3 (by rw [cells3]; decide) r off
theorem fld95_1 (cs : List AV) : fldT Try.prog 95 (.agg cs) 1 = cs[1]? := fld_one Try.underlying95 rfl tyOk3 agg3 cs
theorem fadr95_2 (r off : Nat) : fadrT Try.prog 95 (.ptr r off) 2 = some (.ptr r (off + 2)) := fadr_st Try.underlying95 rfl tyOk3 (by rw [cells3]; decide) r off
theorem fld95_2 (cs : List AV) : fldT Try.prog 95 (.agg cs) 2 = cs[2]? := fld_one Try.underlying95 rfl tyOk3 agg3 cs
theorem bz95 : buildV Try.prog 95 [] = some (.agg [.sc (.slice none 0 0), .sc (.int .i64 0), .sc (.int .i64 0)]) := by simp [buildV, Try.underlying95, zero95, fillA, tyOk45, cells45, tyOk3, cells3, tyOk3, cells3]
theorem bds95 (v0 v1 v2 : AV) (hv0 : v0.cells = [v0]) (hv1 : v1.cells = [v1]) (hv2 : v2.cells = [v2]) : buildV Try.prog 95 [(0, v0), (1, v1), (2, v2)] = some (.agg [v0, v1, v2]) := by simp [buildV, Try.underlying95, zero95, fillA, placeS, overA, tyOk45, cells45, tyOk3, cells3, tyOk3, cells3, hv0, hv1, hv2]
theorem fadr101_0 (r off : Nat) : fadrT Try.prog 101 (.ptr r off) 0 = some (.ptr r (off + 0)) := fadr_st Try.underlying101 rfl tyOk100 (by rw [cells100]; decide) r off
theorem fld101_0 (cs : List AV) : fldT Try.prog 101 (.agg cs) 0 = cs[0]? := fld_one Try.underlying101 rfl tyOk100 agg100 cs
theorem fadr101_1 (r off : Nat) : fadrT Try.prog 101 (.ptr r off) 1 = some (.ptr r (off + 1)) := fadr_st Try.underlying101 rfl tyOk45 (by rw [cells45]; decide) r off
theorem fld101_1 (cs : List AV) : fldT Try.prog 101 (.agg cs) 1 = cs[1]? := fld_one Try.underlying101 rfl tyOk45 agg45 cs
theorem bz101 : buildV Try.prog 101 [] = some (.agg [.sc (.pointer none), .sc (.slice none 0 0)]) := by simp [buildV, Try.underlying101, zero101, fillA, tyOk100, cells100, tyOk45, cells45]
theorem bds101 (v0 v1 : AV) (hv0 : v0.cells = [v0]) (hv1 : v1.cells = [v1]) : buildV Try.prog 101 [(0, v0), (1, v1)] = some (.agg [v0, v1]) := by simp [buildV, Try.underlying101, zero101, fillA, placeS, overA, tyOk100, cells100, tyOk45, cells45, hv0, hv1]
theorem fadr102_0 (r off : Nat) : fadrT Try.prog 102 (.ptr r off) 0 = some (.ptr r (off + 0)) := fadr_st Try.underlying102 rfl tyOk100 (by rw [cells100]; decide) r off
theorem fld102_0 (cs : List AV) : fldT Try.prog 102 (.agg cs) 0 = cs[0]? := fld_one Try.underlying102 rfl tyOk100 agg100 cs
theorem fadr102_1 (r off : Nat) : fadrT Try.prog 102 (.ptr r off) 1 = some (.ptr r (off + 1)) := fadr_st Try.underlying102 rfl tyOk45 (by rw [cells45]; decide) r off
theorem fld102_1 (cs : List AV) : fldT Try.prog 102 (.agg cs) 1 = cs[1]? := fld_one Try.underlying102 rfl tyOk45 agg45 cs
theorem bz102 : buildV Try.prog 102 [] = some (.agg [.sc (.pointer none), .sc (.slice none 0 0)]) := by simp [buildV, Try.underlying102, zero102, fillA, tyOk100, cells100, tyOk45, cells45]
theorem bds102 (v0 v1 : AV) (hv0 : v0.cells = [v0]) (hv1 : v1.cells = [v1]) : buildV Try.prog 102 [(0, v0), (1, v1)] = some (.agg [v0, v1]) := by simp [buildV, Try.underlying102, zero102, fillA, placeS, overA, tyOk100, cells100, tyOk45, cells45, hv0, hv1]
theorem fadr122_0 (r off : Nat) : fadrT Try.prog 122 (.ptr r off) 0 = some (.ptr r (off + 0)) := fadr_st Try.underlying122 rfl tyOk17 (by rw [cells17]; decide) r off
theorem fld122_0 (cs : List AV) : fldT Try.prog 122 (.agg cs) 0 = cs[0]? := fld_one Try.underlying122 rfl tyOk17 agg17 cs
theorem fadr122_1 (r off : Nat) : fadrT Try.prog 122 (.ptr r off) 1 = some (.ptr r (off + 1)) := fadr_st Try.underlying122 rfl tyOk17 (by rw [cells17]; decide) r off
theorem fld122_1 (cs : List AV) : fldT Try.prog 122 (.agg cs) 1 = cs[1]? := fld_one Try.underlying122 rfl tyOk17 agg17 cs
theorem fadr122_2 (r off : Nat) : fadrT Try.prog 122 (.ptr r off) 2 = some (.ptr r (off + 2)) := fadr_st Try.underlying122 rfl tyOk17 (by rw [cells17]; decide) r off
theorem fld122_2 (cs : List AV) : fldT Try.prog 122 (.agg cs) 2 = cs[2]? := fld_one Try.underlying122 rfl tyOk17 agg17 cs
theorem fadr122_3 (r off : Nat) : fadrT Try.prog 122 (.ptr r off) 3 = some (.ptr r (off + 3)) := fadr_st Try.underlying122 rfl tyOk9 (by rw [cells9]; decide) r off
theorem fld122_3 (cs : List AV) : fldT Try.prog 122 (.agg cs) 3 = cs[3]? := fld_one Try.underlying122 rfl tyOk9 agg9 cs
theorem bz122 : buildV Try.prog 122 [] = some (.agg [.sc (.pointer none), .sc (.pointer none), .sc (.pointer none), .sc (.string ByteArray.empty)]) := by simp [buildV, Try.underlying122, zero122, fillA, tyOk17, cells17, tyOk17, cells17, tyOk17, cells17, tyOk9, cells9]
theorem bds122 (v0 v1 v2 v3 : AV) (hv0 : v0.cells = [v0]) (hv1 : v1.cells = [v1]) (hv2 : v2.cells = [v2]) (hv3 : v3.cells = [v3]) : buildV Try.prog 122 [(0, v0), (1, v1), (2, v2), (3, v3)] = some (.agg [v0, v1, v2, v3]) := by simp [buildV, Try.underlying122, zero122, fillA, placeS, overA, tyOk17, cells17, tyOk17, cells17, tyOk17, cells17, tyOk9, cells9, hv0, hv1, hv2, hv3]
theorem fadr123_0 (r off : Nat) : fadrT Try.prog 123 (.ptr r off) 0 = some (.ptr r (off + 0)) := fadr_st Try.underlying123 rfl tyOk17 (by rw [cells17]; decide) r off
theorem fld123_0 (cs : List AV) : fldT Try.prog 123 (.agg cs) 0 = cs[0]? := fld_one Try.underlying123 rfl tyOk17 agg17 cs
theorem fadr123_1 (r off : Nat) : fadrT Try.prog 123 (.ptr r off) 1 = some (.ptr r (off + 1)) := fadr_st Try.underlying123 rfl tyOk17 (by rw [cells17]; decide) r off
theorem fld123_1 (cs : List AV) : fldT Try.prog 123 (.agg cs) 1 = cs[1]? := fld_one Try.underlying123 rfl tyOk17 agg17 cs
theorem fadr123_2 (r off : Nat) : fadrT Try.prog 123 (.ptr r off) 2 = some (.ptr r (off + 2)) := fadr_st Try.underlying123 rfl tyOk17 (by rw [cells17]; decide) r off
theorem fld123_2 (cs : List AV) : fldT Try.prog 123 (.agg cs) 2 = cs[2]? := fld_one Try.underlying123 rfl tyOk17 agg17 cs
theorem fadr123_3 (r off : Nat) : fadrT Try.prog 123 (.ptr r off) 3 = some (.ptr r (off + 3)) := fadr_st Try.underlying123 rfl tyOk9 (by rw [cells9]; decide) r off
theorem fld123_3 (cs : List AV) : fldT Try.prog 123 (.agg cs) 3 = cs[3]? := fld_one Try.underlying123 rfl tyOk9 agg9 cs
theorem bz123 : buildV Try.prog 123 [] = some (.agg [.sc (.pointer none), .sc (.pointer none), .sc (.pointer none), .sc (.string ByteArray.empty)]) := by simp [buildV, Try.underlying123, zero123, fillA, tyOk17, cells17, tyOk17, cells17, tyOk17, cells17, tyOk9, cells9]
theorem bds123 (v0 v1 v2 v3 : AV) (hv0 : v0.cells = [v0]) (hv1 : v1.cells = [v1]) (hv2 : v2.cells = [v2]) (hv3 : v3.cells = [v3]) : buildV Try.prog 123 [(0, v0), (1, v1), (2, v2), (3, v3)] = some (.agg [v0, v1, v2, v3]) := by simp [buildV, Try.underlying123, zero123, fillA, placeS, overA, tyOk17, cells17, tyOk17, cells17, tyOk17, cells17, tyOk9, cells9, hv0, hv1, hv2, hv3]
theorem fadr132_0 (r off : Nat) : fadrT Try.prog 132 (.ptr r off) 0 = some (.ptr r (off + 0)) := fadr_st Try.underlying132 rfl tyOk12 (by rw [cells12]; decide) r off
theorem fld132_0 (cs : List AV) : fldT Try.prog 132 (.agg cs) 0 = cs[0]? := fld_one Try.underlying132 rfl tyOk12 agg12 cs
theorem fadr132_1 (r off : Nat) : fadrT Try.prog 132 (.ptr r off) 1 = some (.ptr r (off + 1)) := fadr_st Try.underlying132 rfl tyOk12 (by rw [cells12]; decide) r off
theorem fld132_1 (cs : List AV) : fldT Try.prog 132 (.agg cs) 1 = cs[1]? := fld_one Try.underlying132 rfl tyOk12 agg12 cs
theorem fadr132_2 (r off : Nat) : fadrT Try.prog 132 (.ptr r off) 2 = some (.ptr r (off + 2)) := fadr_st Try.underlying132 rfl tyOk112 (by rw [cells112]; decide) r off
theorem fld132_2 (cs : List AV) : fldT Try.prog 132 (.agg cs) 2 = cs[2]? := fld_one Try.underlying132 rfl tyOk112 agg112 cs
theorem fadr132_3 (r off : Nat) : fadrT Try.prog 132 (.ptr r off) 3 = some (.ptr r (off + 3)) := fadr_st Try.underlying132 rfl tyOk127 (by rw [cells127]; decide) r off
theorem fld132_3 (cs : List AV) : fldT Try.prog 132 (.agg cs) 3 = cs[3]? := fld_one Try.underlying132 rfl tyOk127 agg127 cs
theorem fadr132_4 (r off : Nat) : fadrT Try.prog 132 (.ptr r off) 4 = some (.ptr r (off + 4)) := fadr_st Try.underlying132 rfl tyOk5 (by rw [cells5]; decide) r off
theorem fld132_4 (cs : List AV) : fldT Try.prog 132 (.agg cs) 4 = cs[4]? := fld_one Try.underlying132 rfl tyOk5 agg5 cs
theorem fadr132_5 (r off : Nat) : fadrT Try.prog 132 (.ptr r off) 5 = some (.ptr r (off + 5)) := fadr_st Try.underlying132 rfl tyOk5 (by rw [cells5]; decide) r off
theorem fld132_5 (cs : List AV) : fldT Try.prog 132 (.agg cs) 5 = cs[5]? := fld_one Try.underlying132 rfl tyOk5 agg5 cs
theorem fadr132_6 (r off : Nat) : fadrT Try.prog 132 (.ptr r off) 6 = some (.ptr r (off + 6)) := fadr_st Try.underlying132 rfl tyOk128 (by rw [cells128]; decide) r off
theorem fld132_6 (cs : List AV) : fldT Try.prog 132 (.agg cs) 6 = cs[6]? := fld_one Try.underlying132 rfl tyOk128 agg128 cs
theorem fadr132_7 (r off : Nat) : fadrT Try.prog 132 (.ptr r off) 7 = some (.ptr r (off + 7)) := fadr_st Try.underlying132 rfl tyOk129 (by rw [cells129]; decide) r off
theorem fld132_7 (cs : List AV) : fldT Try.prog 132 (.agg cs) 7 = cs[7]? := fld_one Try.underlying132 rfl tyOk129 agg129 cs
theorem fadr132_8 (r off : Nat) : fadrT Try.prog 132 (.ptr r off) 8 = some (.ptr r (off + 8)) := fadr_st Try.underlying132 rfl tyOk118 (by rw [cells118]; decide) r off
theorem fld132_8 (cs : List AV) : fldT Try.prog 132 (.agg cs) 8 = cs[8]? := fld_one Try.underlying132 rfl tyOk118 agg118 cs
theorem fadr132_9 (r off : Nat) : fadrT Try.prog 132 (.ptr r off) 9 = some (.ptr r (off + 9)) := fadr_st Try.underlying132 rfl tyOk130 (by rw [cells130]; decide) r off
theorem fld132_9 (cs : List AV) : fldT Try.prog 132 (.agg cs) 9 = cs[9]? := fld_one Try.underlying132 rfl tyOk130 agg130 cs
theorem fadr132_10 (r off : Nat) : fadrT Try.prog 132 (.ptr r off) 10 = some (.ptr r (off + 10)) := fadr_st Try.underlying132 rfl tyOk131 (by rw [cells131]; decide) r off
theorem fld132_10 (cs : List AV) : fldT Try.prog 132 (.agg cs) 10 = cs[10]? := fld_one Try.underlying132 rfl tyOk131 agg131 cs
theorem fadr133_0 (r off : Nat) : fadrT Try.prog 133 (.ptr r off) 0 = some (.ptr r (off + 0)) := fadr_st Try.underlying133 rfl tyOk12 (by rw [cells12]; decide) r off
theorem fld133_0 (cs : List AV) : fldT Try.prog 133 (.agg cs) 0 = cs[0]? := fld_one Try.underlying133 rfl tyOk12 agg12 cs
theorem fadr133_1 (r off : Nat) : fadrT Try.prog 133 (.ptr r off) 1 = some (.ptr r (off + 1)) := fadr_st Try.underlying133 rfl tyOk12 (by rw [cells12]; decide) r off
theorem fld133_1 (cs : List AV) : fldT Try.prog 133 (.agg cs) 1 = cs[1]? := fld_one Try.underlying133 rfl tyOk12 agg12 cs
theorem fadr133_2 (r off : Nat) : fadrT Try.prog 133 (.ptr r off) 2 = some (.ptr r (off + 2)) := fadr_st Try.underlying133 rfl tyOk112 (by rw [cells112]; decide) r off
theorem fld133_2 (cs : List AV) : fldT Try.prog 133 (.agg cs) 2 = cs[2]? := fld_one Try.underlying133 rfl tyOk112 agg112 cs
theorem fadr133_3 (r off : Nat) : fadrT Try.prog 133 (.ptr r off) 3 = some (.ptr r (off + 3)) := fadr_st Try.underlying133 rfl tyOk127 (by rw [cells127]; decide) r off
theorem fld133_3 (cs : List AV) : fldT Try.prog 133 (.agg cs) 3 = cs[3]? := fld_one Try.underlying133 rfl tyOk127 agg127 cs
theorem fadr133_4 (r off : Nat) : fadrT Try.prog 133 (.ptr r off) 4 = some (.ptr r (off + 4)) := fadr_st Try.underlying133 rfl tyOk5 (by rw [cells5]; decide) r off
theorem fld133_4 (cs : List AV) : fldT Try.prog 133 (.agg cs) 4 = cs[4]? := fld_one Try.underlying133 rfl tyOk5 agg5 cs
theorem fadr133_5 (r off : Nat) : fadrT Try.prog 133 (.ptr r off) 5 = some (.ptr r (off + 5)) := fadr_st Try.underlying133 rfl tyOk5 (by rw [cells5]; decide) r off
theorem fld133_5 (cs : List AV) : fldT Try.prog 133 (.agg cs) 5 = cs[5]? := fld_one Try.underlying133 rfl tyOk5 agg5 cs
theorem fadr133_6 (r off : Nat) : fadrT Try.prog 133 (.ptr r off) 6 = some (.ptr r (off + 6)) := fadr_st Try.underlying133 rfl tyOk128 (by rw [cells128]; decide) r off
theorem fld133_6 (cs : List AV) : fldT Try.prog 133 (.agg cs) 6 = cs[6]? := fld_one Try.underlying133 rfl tyOk128 agg128 cs
theorem fadr133_7 (r off : Nat) : fadrT Try.prog 133 (.ptr r off) 7 = some (.ptr r (off + 7)) := fadr_st Try.underlying133 rfl tyOk129 (by rw [cells129]; decide) r off
theorem fld133_7 (cs : List AV) : fldT Try.prog 133 (.agg cs) 7 = cs[7]? := fld_one Try.underlying133 rfl tyOk129 agg129 cs
theorem fadr133_8 (r off : Nat) : fadrT Try.prog 133 (.ptr r off) 8 = some (.ptr r (off + 8)) := fadr_st Try.underlying133 rfl tyOk118 (by rw [cells118]; decide) r off
theorem fld133_8 (cs : List AV) : fldT Try.prog 133 (.agg cs) 8 = cs[8]? := fld_one Try.underlying133 rfl tyOk118 agg118 cs
theorem fadr133_9 (r off : Nat) : fadrT Try.prog 133 (.ptr r off) 9 = some (.ptr r (off + 9)) := fadr_st Try.underlying133 rfl tyOk130 (by rw [cells130]; decide) r off
theorem fld133_9 (cs : List AV) : fldT Try.prog 133 (.agg cs) 9 = cs[9]? := fld_one Try.underlying133 rfl tyOk130 agg130 cs
theorem fadr133_10 (r off : Nat) : fadrT Try.prog 133 (.ptr r off) 10 = some (.ptr r (off + 10)) := fadr_st Try.underlying133 rfl tyOk131 (by rw [cells131]; decide) r off
theorem fld133_10 (cs : List AV) : fldT Try.prog 133 (.agg cs) 10 = cs[10]? := fld_one Try.underlying133 rfl tyOk131 agg131 cs
theorem follows : Try.prog.follows .mixedOrders = true := by kernel_rfl
end Go.Proofs.Ytheeehbaholjmaa.Sim
