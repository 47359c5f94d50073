/- Facts about the types of the program. -/
import Derived.Test.YtcjjcpdfnndenaaS27
import Derived.Test.YtcjjcpdfnndenaaProg
namespace Go.Proofs.Ytcjjcpdfnndenaa.Sim
open Go
set_option linter.unusedSimpArgs false
theorem tyOk0 : tyOk Try.prog 0 = true := by kernel_rfl
theorem agg0 : aggB Try.prog 0 = false := by kernel_rfl
theorem cells0 : Try.prog.cellsOf 0 = 1 := by kernel_rfl
theorem tyOk1 : tyOk Try.prog 1 = true := by kernel_rfl
theorem agg1 : aggB Try.prog 1 = false := by kernel_rfl
theorem cells1 : Try.prog.cellsOf 1 = 1 := by kernel_rfl
theorem tyOk2 : tyOk Try.prog 2 = true := by kernel_rfl
theorem agg2 : aggB Try.prog 2 = false := by kernel_rfl
theorem cells2 : Try.prog.cellsOf 2 = 1 := by kernel_rfl
theorem zero2 : zeroA Try.prog 2 = some [.sc (.int .i64 0)] := by kernel_rfl
theorem info2 : (Try.prog.info? 2).map (·.bytes) = some 8 := by kernel_rfl
theorem mk2 (a b : IntKind) (m : Int) (h0 : 0 ≤ m) (h1 : m ≤ 1000000000000) : mkV Try.prog (some (.slice 2)) (.sc (.int a m)) (.sc (.int b m)) = some (ints .i64 (List.replicate m.toNat 0), fun r => .sl r 0 m.toNat 1) := mk_ints .i64 2 a b m _ zero2 info2 cells2 h0 (by omega) (by omega)
theorem bs2_0 : bsV Try.prog (some (.slice 2)) 0 [] = some (ints .i64 [], fun r => .sl r 0 0 1) := bs_ints .i64 2 0 [] zero2 tyOk2 cells2 (by decide) (by simp)
theorem bs2_1 (a0 : Int) : bsV Try.prog (some (.slice 2)) 1 [(0, .sc (.int .i64 a0))] = some (ints .i64 [a0], fun r => .sl r 0 1 1) := bs_ints .i64 2 1 [(0, a0)] zero2 tyOk2 cells2 (by decide) (by simp)
theorem bs2_2 (a0 a1 : Int) : bsV Try.prog (some (.slice 2)) 2 [(0, .sc (.int .i64 a0)), (1, .sc (.int .i64 a1))] = some (ints .i64 [a0, a1], fun r => .sl r 0 2 1) := bs_ints .i64 2 2 [(0, a0), (1, a1)] zero2 tyOk2 cells2 (by decide) (by simp)
theorem bs2_3 (a0 a1 a2 : Int) : bsV Try.prog (some (.slice 2)) 3 [(0, .sc (.int .i64 a0)), (1, .sc (.int .i64 a1)), (2, .sc (.int .i64 a2))] = some (ints .i64 [a0, a1, a2], fun r => .sl r 0 3 1) := bs_ints .i64 2 3 [(0, a0), (1, a1), (2, a2)] zero2 tyOk2 cells2 (by decide) (by simp)
theorem bs2_4 (a0 a1 a2 a3 : Int) : bsV Try.prog (some (.slice 2)) 4 [(0, .sc (.int .i64 a0)), (1, .sc (.int .i64 a1)), (2, .sc (.int .i64 a2)), (3, .sc (.int .i64 a3))] = some (ints .i64 [a0, a1, a2, a3], fun r => .sl r 0 4 1) := bs_ints .i64 2 4 [(0, a0), (1, a1), (2, a2), (3, a3)] zero2 tyOk2 cells2 (by decide) (by simp)
theorem bs2_5 (a0 a1 a2 a3 a4 : Int) : bsV Try.prog (some (.slice 2)) 5 [(0, .sc (.int .i64 a0)), (1, .sc (.int .i64 a1)), (2, .sc (.int .i64 a2)), (3, .sc (.int .i64 a3)), (4, .sc (.int .i64 a4))] = some (ints .i64 [a0, a1, a2, a3, a4], fun r => .sl r 0 5 1) := bs_ints .i64 2 5 [(0, a0), (1, a1), (2, a2), (3, a3), (4, a4)] zero2 tyOk2 cells2 (by decide) (by simp)
theorem bs2_6 (a0 a1 a2 a3 a4 a5 : Int) : bsV Try.prog (some (.slice 2)) 6 [(0, .sc (.int .i64 a0)), (1, .sc (.int .i64 a1)), (2, .sc (.int .i64 a2)), (3, .sc (.int .i64 a3)), (4, .sc (.int .i64 a4)), (5, .sc (.int .i64 a5))] = some (ints .i64 [a0, a1, a2, a3, a4, a5], fun r => .sl r 0 6 1) := bs_ints .i64 2 6 [(0, a0), (1, a1), (2, a2), (3, a3), (4, a4), (5, a5)] zero2 tyOk2 cells2 (by decide) (by simp)
theorem bs2_7 (a0 a1 a2 a3 a4 a5 a6 : Int) : bsV Try.prog (some (.slice 2)) 7 [(0, .sc (.int .i64 a0)), (1, .sc (.int .i64 a1)), (2, .sc (.int .i64 a2)), (3, .sc (.int .i64 a3)), (4, .sc (.int .i64 a4)), (5, .sc (.int .i64 a5)), (6, .sc (.int .i64 a6))] = some (ints .i64 [a0, a1, a2, a3, a4, a5, a6], fun r => .sl r 0 7 1) := bs_ints .i64 2 7 [(0, a0), (1, a1), (2, a2), (3, a3), (4, a4), (5, a5), (6, a6)] zero2 tyOk2 cells2 (by decide) (by simp)
theorem bs2_8 (a0 a1 a2 a3 a4 a5 a6 a7 : Int) : bsV Try.prog (some (.slice 2)) 8 [(0, .sc (.int .i64 a0)), (1, .sc (.int .i64 a1)), (2, .sc (.int .i64 a2)), (3, .sc (.int .i64 a3)), (4, .sc (.int .i64 a4)), (5, .sc (.int .i64 a5)), (6, .sc (.int .i64 a6)), (7, .sc (.int .i64 a7))] = some (ints .i64 [a0, a1, a2, a3, a4, a5, a6, a7], fun r => .sl r 0 8 1) := bs_ints .i64 2 8 [(0, a0), (1, a1), (2, a2), (3, a3), (4, a4), (5, a5), (6, a6), (7, a7)] zero2 tyOk2 cells2 (by decide) (by simp)
theorem bs2_10 (a0 a1 a2 a3 a4 a5 a6 a7 a8 a9 : Int) : bsV Try.prog (some (.slice 2)) 10 [(0, .sc (.int .i64 a0)), (1, .sc (.int .i64 a1)), (2, .sc (.int .i64 a2)), (3, .sc (.int .i64 a3)), (4, .sc (.int .i64 a4)), (5, .sc (.int .i64 a5)), (6, .sc (.int .i64 a6)), (7, .sc (.int .i64 a7)), (8, .sc (.int .i64 a8)), (9, .sc (.int .i64 a9))] = some (ints .i64 [a0, a1, a2, a3, a4, a5, a6, a7, a8, a9], fun r => .sl r 0 10 1) := bs_ints .i64 2 10 [(0, a0), (1, a1), (2, a2), (3, a3), (4, a4), (5, a5), (6, a6), (7, a7), (8, a8), (9, a9)] zero2 tyOk2 cells2 (by decide) (by simp)
theorem bs2_11 (a0 a1 a2 a3 a4 a5 a6 a7 a8 a9 a10 : Int) : bsV Try.prog (some (.slice 2)) 11 [(0, .sc (.int .i64 a0)), (1, .sc (.int .i64 a1)), (2, .sc (.int .i64 a2)), (3, .sc (.int .i64 a3)), (4, .sc (.int .i64 a4)), (5, .sc (.int .i64 a5)), (6, .sc (.int .i64 a6)), (7, .sc (.int .i64 a7)), (8, .sc (.int .i64 a8)), (9, .sc (.int .i64 a9)), (10, .sc (.int .i64 a10))] = some (ints .i64 [a0, a1, a2, a3, a4, a5, a6, a7, a8, a9, a10], fun r => .sl r 0 11 1) := bs_ints .i64 2 11 [(0, a0), (1, a1), (2, a2), (3, a3), (4, a4), (5, a5), (6, a6), (7, a7), (8, a8), (9, a9), (10, a10)] zero2 tyOk2 cells2 (by decide) (by simp)
theorem bs2_12 (a0 a1 a2 a3 a4 a5 a6 a7 a8 a9 a10 a11 : Int) : bsV Try.prog (some (.slice 2)) 12 [(0, .sc (.int .i64 a0)), (1, .sc (.int .i64 a1)), (2, .sc (.int .i64 a2)), (3, .sc (.int .i64 a3)), (4, .sc (.int .i64 a4)), (5, .sc (.int .i64 a5)), (6, .sc (.int .i64 a6)), (7, .sc (.int .i64 a7)), (8, .sc (.int .i64 a8)), (9, .sc (.int .i64 a9)), (10, .sc (.int .i64 a10)), (11, .sc (.int .i64 a11))] = some (ints .i64 [a0, a1, a2, a3, a4, a5, a6, a7, a8, a9, a10, a11], fun r => .sl r 0 12 1) := bs_ints .i64 2 12 [(0, a0), (1, a1), (2, a2), (3, a3), (4, a4), (5, a5), (6, a6), (7, a7), (8, a8), (9, a9), (10, a10), (11, a11)] zero2 tyOk2 cells2 (by decide) (by simp)
theorem bs2_13 (a0 a1 a2 a3 a4 a5 a6 a7 a8 a9 a10 a11 a12 : Int) : bsV Try.prog (some (.slice 2)) 13 [(0, .sc (.int .i64 a0)), (1, .sc (.int .i64 a1)), (2, .sc (.int .i64 a2)), (3, .sc (.int .i64 a3)), (4, .sc (.int .i64 a4)), (5, .sc (.int .i64 a5)), (6, .sc (.int .i64 a6)), (7, .sc (.int .i64 a7)), (8, .sc (.int .i64 a8)), (9, .sc (.int .i64 a9)), (10, .sc (.int .i64 a10)), (11, .sc (.int .i64 a11)), (12, .sc (.int .i64 a12))] = some (ints .i64 [a0, a1, a2, a3, a4, a5, a6, a7, a8, a9, a10, a11, a12], fun r => .sl r 0 13 1) := bs_ints .i64 2 13 [(0, a0), (1, a1), (2, a2), (3, a3), (4, a4), (5, a5), (6, a6), (7, a7), (8, a8), (9, a9), (10, a10), (11, a11), (12, a12)] zero2 tyOk2 cells2 (by decide) (by simp)
theorem tyOk3 : tyOk Try.prog 3 = true := by kernel_rfl
theorem agg3 : aggB Try.prog 3 = false := by kernel_rfl
theorem cells3 : Try.prog.cellsOf 3 = 1 := by kernel_rfl
theorem zero3 : zeroA Try.prog 3 = some [.sc (.int .i64 0)] := by kernel_rfl
theorem info3 : (Try.prog.info? 3).map (·.bytes) = some 8 := by kernel_rfl
theorem mk3 (a b : IntKind) (m : Int) (h0 : 0 ≤ m) (h1 : m ≤ 1000000000000) : mkV Try.prog (some (.slice 3)) (.sc (.int a m)) (.sc (.int b m)) = some (ints .i64 (List.replicate m.toNat 0), fun r => .sl r 0 m.toNat 1) := mk_ints .i64 3 a b m _ zero3 info3 cells3 h0 (by omega) (by omega)
theorem bs3_0 : bsV Try.prog (some (.slice 3)) 0 [] = some (ints .i64 [], fun r => .sl r 0 0 1) := bs_ints .i64 3 0 [] zero3 tyOk3 cells3 (by decide) (by simp)
theorem bs3_1 (a0 : Int) : bsV Try.prog (some (.slice 3)) 1 [(0, .sc (.int .i64 a0))] = some (ints .i64 [a0], fun r => .sl r 0 1 1) := bs_ints .i64 3 1 [(0, a0)] zero3 tyOk3 cells3 (by decide) (by simp)
theorem bs3_2 (a0 a1 : Int) : bsV Try.prog (some (.slice 3)) 2 [(0, .sc (.int .i64 a0)), (1, .sc (.int .i64 a1))] = some (ints .i64 [a0, a1], fun r => .sl r 0 2 1) := bs_ints .i64 3 2 [(0, a0), (1, a1)] zero3 tyOk3 cells3 (by decide) (by simp)
theorem bs3_3 (a0 a1 a2 : Int) : bsV Try.prog (some (.slice 3)) 3 [(0, .sc (.int .i64 a0)), (1, .sc (.int .i64 a1)), (2, .sc (.int .i64 a2))] = some (ints .i64 [a0, a1, a2], fun r => .sl r 0 3 1) := bs_ints .i64 3 3 [(0, a0), (1, a1), (2, a2)] zero3 tyOk3 cells3 (by decide) (by simp)
theorem bs3_4 (a0 a1 a2 a3 : Int) : bsV Try.prog (some (.slice 3)) 4 [(0, .sc (.int .i64 a0)), (1, .sc (.int .i64 a1)), (2, .sc (.int .i64 a2)), (3, .sc (.int .i64 a3))] = some (ints .i64 [a0, a1, a2, a3], fun r => .sl r 0 4 1) := bs_ints .i64 3 4 [(0, a0), (1, a1), (2, a2), (3, a3)] zero3 tyOk3 cells3 (by decide) (by simp)
theorem bs3_5 (a0 a1 a2 a3 a4 : Int) : bsV Try.prog (some (.slice 3)) 5 [(0, .sc (.int .i64 a0)), (1, .sc (.int .i64 a1)), (2, .sc (.int .i64 a2)), (3, .sc (.int .i64 a3)), (4, .sc (.int .i64 a4))] = some (ints .i64 [a0, a1, a2, a3, a4], fun r => .sl r 0 5 1) := bs_ints .i64 3 5 [(0, a0), (1, a1), (2, a2), (3, a3), (4, a4)] zero3 tyOk3 cells3 (by decide) (by simp)
theorem bs3_6 (a0 a1 a2 a3 a4 a5 : Int) : bsV Try.prog (some (.slice 3)) 6 [(0, .sc (.int .i64 a0)), (1, .sc (.int .i64 a1)), (2, .sc (.int .i64 a2)), (3, .sc (.int .i64 a3)), (4, .sc (.int .i64 a4)), (5, .sc (.int .i64 a5))] = some (ints .i64 [a0, a1, a2, a3, a4, a5], fun r => .sl r 0 6 1) := bs_ints .i64 3 6 [(0, a0), (1, a1), (2, a2), (3, a3), (4, a4), (5, a5)] zero3 tyOk3 cells3 (by decide) (by simp)
theorem bs3_7 (a0 a1 a2 a3 a4 a5 a6 : Int) : bsV Try.prog (some (.slice 3)) 7 [(0, .sc (.int .i64 a0)), (1, .sc (.int .i64 a1)), (2, .sc (.int .i64 a2)), (3, .sc (.int .i64 a3)), (4, .sc (.int .i64 a4)), (5, .sc (.int .i64 a5)), (6, .sc (.int .i64 a6))] = some (ints .i64 [a0, a1, a2, a3, a4, a5, a6], fun r => .sl r 0 7 1) := bs_ints .i64 3 7 [(0, a0), (1, a1), (2, a2), (3, a3), (4, a4), (5, a5), (6, a6)] zero3 tyOk3 cells3 (by decide) (by simp)
theorem bs3_8 (a0 a1 a2 a3 a4 a5 a6 a7 : Int) : bsV Try.prog (some (.slice 3)) 8 [(0, .sc (.int .i64 a0)), (1, .sc (.int .i64 a1)), (2, .sc (.int .i64 a2)), (3, .sc (.int .i64 a3)), (4, .sc (.int .i64 a4)), (5, .sc (.int .i64 a5)), (6, .sc (.int .i64 a6)), (7, .sc (.int .i64 a7))] = some (ints .i64 [a0, a1, a2, a3, a4, a5, a6, a7], fun r => .sl r 0 8 1) := bs_ints .i64 3 8 [(0, a0), (1, a1), (2, a2), (3, a3), (4, a4), (5, a5), (6, a6), (7, a7)] zero3 tyOk3 cells3 (by decide) (by simp)
theorem bs3_10 (a0 a1 a2 a3 a4 a5 a6 a7 a8 a9 : Int) : bsV Try.prog (some (.slice 3)) 10 [(0, .sc (.int .i64 a0)), (1, .sc (.int .i64 a1)), (2, .sc (.int .i64 a2)), (3, .sc (.int .i64 a3)), (4, .sc (.int .i64 a4)), (5, .sc (.int .i64 a5)), (6, .sc (.int .i64 a6)), (7, .sc (.int .i64 a7)), (8, .sc (.int .i64 a8)), (9, .sc (.int .i64 a9))] = some (ints .i64 [a0, a1, a2, a3, a4, a5, a6, a7, a8, a9], fun r => .sl r 0 10 1) := bs_ints .i64 3 10 [(0, a0), (1, a1), (2, a2), (3, a3), (4, a4), (5, a5), (6, a6), (7, a7), (8, a8), (9, a9)] zero3 tyOk3 cells3 (by decide) (by simp)
theorem bs3_11 (a0 a1 a2 a3 a4 a5 a6 a7 a8 a9 a10 : Int) : bsV Try.prog (some (.slice 3)) 11 [(0, .sc (.int .i64 a0)), (1, .sc (.int .i64 a1)), (2, .sc (.int .i64 a2)), (3, .sc (.int .i64 a3)), (4, .sc (.int .i64 a4)), (5, .sc (.int .i64 a5)), (6, .sc (.int .i64 a6)), (7, .sc (.int .i64 a7)), (8, .sc (.int .i64 a8)), (9, .sc (.int .i64 a9)), (10, .sc (.int .i64 a10))] = some (ints .i64 [a0, a1, a2, a3, a4, a5, a6, a7, a8, a9, a10], fun r => .sl r 0 11 1) := bs_ints .i64 3 11 [(0, a0), (1, a1), (2, a2), (3, a3), (4, a4), (5, a5), (6, a6), (7, a7), (8, a8), (9, a9), (10, a10)] zero3 tyOk3 cells3 (by decide) (by simp)
theorem bs3_12 (a0 a1 a2 a3 a4 a5 a6 a7 a8 a9 a10 a11 : Int) : bsV Try.prog (some (.slice 3)) 12 [(0, .sc (.int .i64 a0)), (1, .sc (.int .i64 a1)), (2, .sc (.int .i64 a2)), (3, .sc (.int .i64 a3)), (4, .sc (.int .i64 a4)), (5, .sc (.int .i64 a5)), (6, .sc (.int .i64 a6)), (7, .sc (.int .i64 a7)), (8, .sc (.int .i64 a8)), (9, .sc (.int .i64 a9)), (10, .sc (.int .i64 a10)), (11, .sc (.int .i64 a11))] = some (ints .i64 [a0, a1, a2, a3, a4, a5, a6, a7, a8, a9, a10, a11], fun r => .sl r 0 12 1) := bs_ints .i64 3 12 [(0, a0), (1, a1), (2, a2), (3, a3), (4, a4), (5, a5), (6, a6), (7, a7), (8, a8), (9, a9), (10, a10), (11, a11)] zero3 tyOk3 cells3 (by decide) (by simp)
theorem bs3_13 (a0 a1 a2 a3 a4 a5 a6 a7 a8 a9 a10 a11 a12 : Int) : bsV Try.prog (some (.slice 3)) 13 [(0, .sc (.int .i64 a0)), (1, .sc (.int .i64 a1)), (2, .sc (.int .i64 a2)), (3, .sc (.int .i64 a3)), (4, .sc (.int .i64 a4)), (5, .sc (.int .i64 a5)), (6, .sc (.int .i64 a6)), (7, .sc (.int .i64 a7)), (8, .sc (.int .i64 a8)), (9, .sc (.int .i64 a9)), (10, .sc (.int .i64 a10)), (11, .sc (.int .i64 a11)), (12, .sc (.int .i64 a12))] = some (ints .i64 [a0, a1, a2, a3, a4, a5, a6, a7, a8, a9, a10, a11, a12], fun r => .sl r 0 13 1) := bs_ints .i64 3 13 [(0, a0), (1, a1), (2, a2), (3, a3), (4, a4), (5, a5), (6, a6), (7, a7), (8, a8), (9, a9), (10, a10), (11, a11), (12, a12)] zero3 tyOk3 cells3 (by decide) (by simp)
theorem tyOk4 : tyOk Try.prog 4 = true := by kernel_rfl
theorem agg4 : aggB Try.prog 4 = false := by kernel_rfl
theorem cells4 : Try.prog.cellsOf 4 = 1 := by kernel_rfl
theorem zero4 : zeroA Try.prog 4 = some [.sc (.bool false)] := by kernel_rfl
theorem info4 : (Try.prog.info? 4).map (·.bytes) = some 1 := by kernel_rfl
theorem mk4 (a b : IntKind) (m : Int) (h0 : 0 ≤ m) (h1 : m ≤ 1000000000000) : mkV Try.prog (some (.slice 4)) (.sc (.int a m)) (.sc (.int b m)) = some (bools (List.replicate m.toNat false), fun r => .sl r 0 m.toNat 1) := mk_lits (f := .bool) false 4 a b m _ zero4 info4 cells4 h0 (by omega) (by omega)
theorem bs4_0 : bsV Try.prog (some (.slice 4)) 0 [] = some (bools [], fun r => .sl r 0 0 1) := by simp [bsV, zero4, tyOk4, cells4, fillA, overA, AV.cells, bools, lits]
theorem bs4_1 (a0 : Bool) : bsV Try.prog (some (.slice 4)) 1 [(0, .sc (.bool a0))] = some (bools [a0], fun r => .sl r 0 1 1) := by simp [bsV, zero4, tyOk4, cells4, fillA, overA, AV.cells, bools, lits]
theorem bs4_2 (a0 a1 : Bool) : bsV Try.prog (some (.slice 4)) 2 [(0, .sc (.bool a0)), (1, .sc (.bool a1))] = some (bools [a0, a1], fun r => .sl r 0 2 1) := by simp [bsV, zero4, tyOk4, cells4, fillA, overA, AV.cells, bools, lits]
theorem tyOk5 : tyOk Try.prog 5 = true := by kernel_rfl
theorem agg5 : aggB Try.prog 5 = false := by kernel_rfl
theorem cells5 : Try.prog.cellsOf 5 = 1 := by kernel_rfl
theorem isU5 : isU8 Try.prog 5 = true := by kernel_rfl
theorem zero5 : zeroA Try.prog 5 = some [.sc (.int .u8 0)] := by kernel_rfl
theorem info5 : (Try.prog.info? 5).map (·.bytes) = some 1 := by kernel_rfl
theorem mk5 (a b : IntKind) (m : Int) (h0 : 0 ≤ m) (h1 : m ≤ 1000000000000) : mkV Try.prog (some (.slice 5)) (.sc (.int a m)) (.sc (.int b m)) = some (ints .u8 (List.replicate m.toNat 0), fun r => .sl r 0 m.toNat 1) := mk_ints .u8 5 a b m _ zero5 info5 cells5 h0 (by omega) (by omega)
theorem bs5_0 : bsV Try.prog (some (.slice 5)) 0 [] = some (ints .u8 [], fun r => .sl r 0 0 1) := bs_ints .u8 5 0 [] zero5 tyOk5 cells5 (by decide) (by simp)
theorem bs5_1 (a0 : Int) : bsV Try.prog (some (.slice 5)) 1 [(0, .sc (.int .u8 a0))] = some (ints .u8 [a0], fun r => .sl r 0 1 1) := bs_ints .u8 5 1 [(0, a0)] zero5 tyOk5 cells5 (by decide) (by simp)
theorem bs5_2 (a0 a1 : Int) : bsV Try.prog (some (.slice 5)) 2 [(0, .sc (.int .u8 a0)), (1, .sc (.int .u8 a1))] = some (ints .u8 [a0, a1], fun r => .sl r 0 2 1) := bs_ints .u8 5 2 [(0, a0), (1, a1)] zero5 tyOk5 cells5 (by decide) (by simp)
theorem bs5_3 (a0 a1 a2 : Int) : bsV Try.prog (some (.slice 5)) 3 [(0, .sc (.int .u8 a0)), (1, .sc (.int .u8 a1)), (2, .sc (.int .u8 a2))] = some (ints .u8 [a0, a1, a2], fun r => .sl r 0 3 1) := bs_ints .u8 5 3 [(0, a0), (1, a1), (2, a2)] zero5 tyOk5 cells5 (by decide) (by simp)
theorem bs5_4 (a0 a1 a2 a3 : Int) : bsV Try.prog (some (.slice 5)) 4 [(0, .sc (.int .u8 a0)), (1, .sc (.int .u8 a1)), (2, .sc (.int .u8 a2)), (3, .sc (.int .u8 a3))] = some (ints .u8 [a0, a1, a2, a3], fun r => .sl r 0 4 1) := bs_ints .u8 5 4 [(0, a0), (1, a1), (2, a2), (3, a3)] zero5 tyOk5 cells5 (by decide) (by simp)
theorem bs5_5 (a0 a1 a2 a3 a4 : Int) : bsV Try.prog (some (.slice 5)) 5 [(0, .sc (.int .u8 a0)), (1, .sc (.int .u8 a1)), (2, .sc (.int .u8 a2)), (3, .sc (.int .u8 a3)), (4, .sc (.int .u8 a4))] = some (ints .u8 [a0, a1, a2, a3, a4], fun r => .sl r 0 5 1) := bs_ints .u8 5 5 [(0, a0), (1, a1), (2, a2), (3, a3), (4, a4)] zero5 tyOk5 cells5 (by decide) (by simp)
theorem bs5_6 (a0 a1 a2 a3 a4 a5 : Int) : bsV Try.prog (some (.slice 5)) 6 [(0, .sc (.int .u8 a0)), (1, .sc (.int .u8 a1)), (2, .sc (.int .u8 a2)), (3, .sc (.int .u8 a3)), (4, .sc (.int .u8 a4)), (5, .sc (.int .u8 a5))] = some (ints .u8 [a0, a1, a2, a3, a4, a5], fun r => .sl r 0 6 1) := bs_ints .u8 5 6 [(0, a0), (1, a1), (2, a2), (3, a3), (4, a4), (5, a5)] zero5 tyOk5 cells5 (by decide) (by simp)
theorem bs5_7 (a0 a1 a2 a3 a4 a5 a6 : Int) : bsV Try.prog (some (.slice 5)) 7 [(0, .sc (.int .u8 a0)), (1, .sc (.int .u8 a1)), (2, .sc (.int .u8 a2)), (3, .sc (.int .u8 a3)), (4, .sc (.int .u8 a4)), (5, .sc (.int .u8 a5)), (6, .sc (.int .u8 a6))] = some (ints .u8 [a0, a1, a2, a3, a4, a5, a6], fun r => .sl r 0 7 1) := bs_ints .u8 5 7 [(0, a0), (1, a1), (2, a2), (3, a3), (4, a4), (5, a5), (6, a6)] zero5 tyOk5 cells5 (by decide) (by simp)
theorem bs5_8 (a0 a1 a2 a3 a4 a5 a6 a7 : Int) : bsV Try.prog (some (.slice 5)) 8 [(0, .sc (.int .u8 a0)), (1, .sc (.int .u8 a1)), (2, .sc (.int .u8 a2)), (3, .sc (.int .u8 a3)), (4, .sc (.int .u8 a4)), (5, .sc (.int .u8 a5)), (6, .sc (.int .u8 a6)), (7, .sc (.int .u8 a7))] = some (ints .u8 [a0, a1, a2, a3, a4, a5, a6, a7], fun r => .sl r 0 8 1) := bs_ints .u8 5 8 [(0, a0), (1, a1), (2, a2), (3, a3), (4, a4), (5, a5), (6, a6), (7, a7)] zero5 tyOk5 cells5 (by decide) (by simp)
theorem bs5_10 (a0 a1 a2 a3 a4 a5 a6 a7 a8 a9 : Int) : bsV Try.prog (some (.slice 5)) 10 [(0, .sc (.int .u8 a0)), (1, .sc (.int .u8 a1)), (2, .sc (.int .u8 a2)), (3, .sc (.int .u8 a3)), (4, .sc (.int .u8 a4)), (5, .sc (.int .u8 a5)), (6, .sc (.int .u8 a6)), (7, .sc (.int .u8 a7)), (8, .sc (.int .u8 a8)), (9, .sc (.int .u8 a9))] = some (ints .u8 [a0, a1, a2, a3, a4, a5, a6, a7, a8, a9], fun r => .sl r 0 10 1) := bs_ints .u8 5 10 [(0, a0), (1, a1), (2, a2), (3, a3), (4, a4), (5, a5), (6, a6), (7, a7), (8, a8), (9, a9)] zero5 tyOk5 cells5 (by decide) (by simp)
theorem bs5_11 (a0 a1 a2 a3 a4 a5 a6 a7 a8 a9 a10 : Int) : bsV Try.prog (some (.slice 5)) 11 [(0, .sc (.int .u8 a0)), (1, .sc (.int .u8 a1)), (2, .sc (.int .u8 a2)), (3, .sc (.int .u8 a3)), (4, .sc (.int .u8 a4)), (5, .sc (.int .u8 a5)), (6, .sc (.int .u8 a6)), (7, .sc (.int .u8 a7)), (8, .sc (.int .u8 a8)), (9, .sc (.int .u8 a9)), (10, .sc (.int .u8 a10))] = some (ints .u8 [a0, a1, a2, a3, a4, a5, a6, a7, a8, a9, a10], fun r => .sl r 0 11 1) := bs_ints .u8 5 11 [(0, a0), (1, a1), (2, a2), (3, a3), (4, a4), (5, a5), (6, a6), (7, a7), (8, a8), (9, a9), (10, a10)] zero5 tyOk5 cells5 (by decide) (by simp)
theorem bs5_12 (a0 a1 a2 a3 a4 a5 a6 a7 a8 a9 a10 a11 : Int) : bsV Try.prog (some (.slice 5)) 12 [(0, .sc (.int .u8 a0)), (1, .sc (.int .u8 a1)), (2, .sc (.int .u8 a2)), (3, .sc (.int .u8 a3)), (4, .sc (.int .u8 a4)), (5, .sc (.int .u8 a5)), (6, .sc (.int .u8 a6)), (7, .sc (.int .u8 a7)), (8, .sc (.int .u8 a8)), (9, .sc (.int .u8 a9)), (10, .sc (.int .u8 a10)), (11, .sc (.int .u8 a11))] = some (ints .u8 [a0, a1, a2, a3, a4, a5, a6, a7, a8, a9, a10, a11], fun r => .sl r 0 12 1) := bs_ints .u8 5 12 [(0, a0), (1, a1), (2, a2), (3, a3), (4, a4), (5, a5), (6, a6), (7, a7), (8, a8), (9, a9), (10, a10), (11, a11)] zero5 tyOk5 cells5 (by decide) (by simp)
theorem bs5_13 (a0 a1 a2 a3 a4 a5 a6 a7 a8 a9 a10 a11 a12 : Int) : bsV Try.prog (some (.slice 5)) 13 [(0, .sc (.int .u8 a0)), (1, .sc (.int .u8 a1)), (2, .sc (.int .u8 a2)), (3, .sc (.int .u8 a3)), (4, .sc (.int .u8 a4)), (5, .sc (.int .u8 a5)), (6, .sc (.int .u8 a6)), (7, .sc (.int .u8 a7)), (8, .sc (.int .u8 a8)), (9, .sc (.int .u8 a9)), (10, .sc (.int .u8 a10)), (11, .sc (.int .u8 a11)), (12, .sc (.int .u8 a12))] = some (ints .u8 [a0, a1, a2, a3, a4, a5, a6, a7, a8, a9, a10, a11, a12], fun r => .sl r 0 13 1) := bs_ints .u8 5 13 [(0, a0), (1, a1), (2, a2), (3, a3), (4, a4), (5, a5), (6, a6), (7, a7), (8, a8), (9, a9), (10, a10), (11, a11), (12, a12)] zero5 tyOk5 cells5 (by decide) (by simp)
theorem tyOk6 : tyOk Try.prog 6 = true := by kernel_rfl
theorem agg6 : aggB Try.prog 6 = false := by kernel_rfl
theorem cells6 : Try.prog.cellsOf 6 = 1 := by kernel_rfl
theorem isU6 : isU8 Try.prog 6 = true := by kernel_rfl
theorem zero6 : zeroA Try.prog 6 = some [.sc (.int .u8 0)] := by kernel_rfl
theorem info6 : (Try.prog.info? 6).map (·.bytes) = some 1 := by kernel_rfl
theorem mk6 (a b : IntKind) (m : Int) (h0 : 0 ≤ m) (h1 : m ≤ 1000000000000) : mkV Try.prog (some (.slice 6)) (.sc (.int a m)) (.sc (.int b m)) = some (ints .u8 (List.replicate m.toNat 0), fun r => .sl r 0 m.toNat 1) := mk_ints .u8 6 a b m _ zero6 info6 cells6 h0 (by omega) (by omega)
theorem bs6_0 : bsV Try.prog (some (.slice 6)) 0 [] = some (ints .u8 [], fun r => .sl r 0 0 1) := bs_ints .u8 6 0 [] zero6 tyOk6 cells6 (by decide) (by simp)
theorem bs6_1 (a0 : Int) : bsV Try.prog (some (.slice 6)) 1 [(0, .sc (.int .u8 a0))] = some (ints .u8 [a0], fun r => .sl r 0 1 1) := bs_ints .u8 6 1 [(0, a0)] zero6 tyOk6 cells6 (by decide) (by simp)
theorem bs6_2 (a0 a1 : Int) : bsV Try.prog (some (.slice 6)) 2 [(0, .sc (.int .u8 a0)), (1, .sc (.int .u8 a1))] = some (ints .u8 [a0, a1], fun r => .sl r 0 2 1) := bs_ints .u8 6 2 [(0, a0), (1, a1)] zero6 tyOk6 cells6 (by decide) (by simp)
theorem bs6_3 (a0 a1 a2 : Int) : bsV Try.prog (some (.slice 6)) 3 [(0, .sc (.int .u8 a0)), (1, .sc (.int .u8 a1)), (2, .sc (.int .u8 a2))] = some (ints .u8 [a0, a1, a2], fun r => .sl r 0 3 1) := bs_ints .u8 6 3 [(0, a0), (1, a1), (2, a2)] zero6 tyOk6 cells6 (by decide) (by simp)
theorem bs6_4 (a0 a1 a2 a3 : Int) : bsV Try.prog (some (.slice 6)) 4 [(0, .sc (.int .u8 a0)), (1, .sc (.int .u8 a1)), (2, .sc (.int .u8 a2)), (3, .sc (.int .u8 a3))] = some (ints .u8 [a0, a1, a2, a3], fun r => .sl r 0 4 1) := bs_ints .u8 6 4 [(0, a0), (1, a1), (2, a2), (3, a3)] zero6 tyOk6 cells6 (by decide) (by simp)
theorem bs6_5 (a0 a1 a2 a3 a4 : Int) : bsV Try.prog (some (.slice 6)) 5 [(0, .sc (.int .u8 a0)), (1, .sc (.int .u8 a1)), (2, .sc (.int .u8 a2)), (3, .sc (.int .u8 a3)), (4, .sc (.int .u8 a4))] = some (ints .u8 [a0, a1, a2, a3, a4], fun r => .sl r 0 5 1) := bs_ints .u8 6 5 [(0, a0), (1, a1), (2, a2), (3, a3), (4, a4)] zero6 tyOk6 cells6 (by decide) (by simp)
theorem bs6_6 (a0 a1 a2 a3 a4 a5 : Int) : bsV Try.prog (some (.slice 6)) 6 [(0, .sc (.int .u8 a0)), (1, .sc (.int .u8 a1)), (2, .sc (.int .u8 a2)), (3, .sc (.int .u8 a3)), (4, .sc (.int .u8 a4)), (5, .sc (.int .u8 a5))] = some (ints .u8 [a0, a1, a2, a3, a4, a5], fun r => .sl r 0 6 1) := bs_ints .u8 6 6 [(0, a0), (1, a1), (2, a2), (3, a3), (4, a4), (5, a5)] zero6 tyOk6 cells6 (by decide) (by simp)
theorem bs6_7 (a0 a1 a2 a3 a4 a5 a6 : Int) : bsV Try.prog (some (.slice 6)) 7 [(0, .sc (.int .u8 a0)), (1, .sc (.int .u8 a1)), (2, .sc (.int .u8 a2)), (3, .sc (.int .u8 a3)), (4, .sc (.int .u8 a4)), (5, .sc (.int .u8 a5)), (6, .sc (.int .u8 a6))] = some (ints .u8 [a0, a1, a2, a3, a4, a5, a6], fun r => .sl r 0 7 1) := bs_ints .u8 6 7 [(0, a0), (1, a1), (2, a2), (3, a3), (4, a4), (5, a5), (6, a6)] zero6 tyOk6 cells6 (by decide) (by simp)
theorem bs6_8 (a0 a1 a2 a3 a4 a5 a6 a7 : Int) : bsV Try.prog (some (.slice 6)) 8 [(0, .sc (.int .u8 a0)), (1, .sc (.int .u8 a1)), (2, .sc (.int .u8 a2)), (3, .sc (.int .u8 a3)), (4, .sc (.int .u8 a4)), (5, .sc (.int .u8 a5)), (6, .sc (.int .u8 a6)), (7, .sc (.int .u8 a7))] = some (ints .u8 [a0, a1, a2, a3, a4, a5, a6, a7], fun r => .sl r 0 8 1) := bs_ints .u8 6 8 [(0, a0), (1, a1), (2, a2), (3, a3), (4, a4), (5, a5), (6, a6), (7, a7)] zero6 tyOk6 cells6 (by decide) (by simp)
theorem bs6_10 (a0 a1 a2 a3 a4 a5 a6 a7 a8 a9 : Int) : bsV Try.prog (some (.slice 6)) 10 [(0, .sc (.int .u8 a0)), (1, .sc (.int .u8 a1)), (2, .sc (.int .u8 a2)), (3, .sc (.int .u8 a3)), (4, .sc (.int .u8 a4)), (5, .sc (.int .u8 a5)), (6, .sc (.int .u8 a6)), (7, .sc (.int .u8 a7)), (8, .sc (.int .u8 a8)), (9, .sc (.int .u8 a9))] = some (ints .u8 [a0, a1, a2, a3, a4, a5, a6, a7, a8, a9], fun r => .sl r 0 10 1) := bs_ints .u8 6 10 [(0, a0), (1, a1), (2, a2), (3, a3), (4, a4), (5, a5), (6, a6), (7, a7), (8, a8), (9, a9)] zero6 tyOk6 cells6 (by decide) (by simp)
theorem bs6_11 (a0 a1 a2 a3 a4 a5 a6 a7 a8 a9 a10 : Int) : bsV Try.prog (some (.slice 6)) 11 [(0, .sc (.int .u8 a0)), (1, .sc (.int .u8 a1)), (2, .sc (.int .u8 a2)), (3, .sc (.int .u8 a3)), (4, .sc (.int .u8 a4)), (5, .sc (.int .u8 a5)), (6, .sc (.int .u8 a6)), (7, .sc (.int .u8 a7)), (8, .sc (.int .u8 a8)), (9, .sc (.int .u8 a9)), (10, .sc (.int .u8 a10))] = some (ints .u8 [a0, a1, a2, a3, a4, a5, a6, a7, a8, a9, a10], fun r => .sl r 0 11 1) := bs_ints .u8 6 11 [(0, a0), (1, a1), (2, a2), (3, a3), (4, a4), (5, a5), (6, a6), (7, a7), (8, a8), (9, a9), (10, a10)] zero6 tyOk6 cells6 (by decide) (by simp)
theorem bs6_12 (a0 a1 a2 a3 a4 a5 a6 a7 a8 a9 a10 a11 : Int) : bsV Try.prog (some (.slice 6)) 12 [(0, .sc (.int .u8 a0)), (1, .sc (.int .u8 a1)), (2, .sc (.int .u8 a2)), (3, .sc (.int .u8 a3)), (4, .sc (.int .u8 a4)), (5, .sc (.int .u8 a5)), (6, .sc (.int .u8 a6)), (7, .sc (.int .u8 a7)), (8, .sc (.int .u8 a8)), (9, .sc (.int .u8 a9)), (10, .sc (.int .u8 a10)), (11, .sc (.int .u8 a11))] = some (ints .u8 [a0, a1, a2, a3, a4, a5, a6, a7, a8, a9, a10, a11], fun r => .sl r 0 12 1) := bs_ints .u8 6 12 [(0, a0), (1, a1), (2, a2), (3, a3), (4, a4), (5, a5), (6, a6), (7, a7), (8, a8), (9, a9), (10, a10), (11, a11)] zero6 tyOk6 cells6 (by decide) (by simp)
theorem bs6_13 (a0 a1 a2 a3 a4 a5 a6 a7 a8 a9 a10 a11 a12 : Int) : bsV Try.prog (some (.slice 6)) 13 [(0, .sc (.int .u8 a0)), (1, .sc (.int .u8 a1)), (2, .sc (.int .u8 a2)), (3, .sc (.int .u8 a3)), (4, .sc (.int .u8 a4)), (5, .sc (.int .u8 a5)), (6, .sc (.int .u8 a6)), (7, .sc (.int .u8 a7)), (8, .sc (.int .u8 a8)), (9, .sc (.int .u8 a9)), (10, .sc (.int .u8 a10)), (11, .sc (.int .u8 a11)), (12, .sc (.int .u8 a12))] = some (ints .u8 [a0, a1, a2, a3, a4, a5, a6, a7, a8, a9, a10, a11, a12], fun r => .sl r 0 13 1) := bs_ints .u8 6 13 [(0, a0), (1, a1), (2, a2), (3, a3), (4, a4), (5, a5), (6, a6), (7, a7), (8, a8), (9, a9), (10, a10), (11, a11), (12, a12)] zero6 tyOk6 cells6 (by decide) (by simp)
theorem tyOk7 : tyOk Try.prog 7 = true := by kernel_rfl
theorem agg7 : aggB Try.prog 7 = true := by kernel_rfl
theorem cells7 : Try.prog.cellsOf 7 = 4 := by kernel_rfl
theorem zero7 : zeroA Try.prog 7 = some [.sc (.int .i64 0), .sc (.int .i64 0), .sc (.bool false), .sc (.int .u8 0)] := by kernel_rfl
theorem tyOk8 : tyOk Try.prog 8 = true := by kernel_rfl
theorem agg8 : aggB Try.prog 8 = true := by kernel_rfl
theorem cells8 : Try.prog.cellsOf 8 = 4 := by kernel_rfl
theorem zero8 : zeroA Try.prog 8 = some [.sc (.int .i64 0), .sc (.int .i64 0), .sc (.bool false), .sc (.int .u8 0)] := by kernel_rfl
theorem tyOk9 : tyOk Try.prog 9 = true := by kernel_rfl
theorem agg9 : aggB Try.prog 9 = false := by kernel_rfl
theorem cells9 : Try.prog.cellsOf 9 = 1 := by kernel_rfl
theorem zero9 : zeroA Try.prog 9 = some [.sc (.string ByteArray.empty)] := by kernel_rfl
theorem info9 : (Try.prog.info? 9).map (·.bytes) = some 16 := by kernel_rfl
theorem bs9_0 : bsV Try.prog (some (.slice 9)) 0 [] = some (strs [], fun r => .sl r 0 0 1) := by simp [bsV, zero9, tyOk9, cells9, fillA, overA, AV.cells, strs, lits]
theorem bs9_1 (a0 : ByteArray) : bsV Try.prog (some (.slice 9)) 1 [(0, .sc (.string a0))] = some (strs [a0], fun r => .sl r 0 1 1) := by simp [bsV, zero9, tyOk9, cells9, fillA, overA, AV.cells, strs, lits]
theorem bs9_2 (a0 a1 : ByteArray) : bsV Try.prog (some (.slice 9)) 2 [(0, .sc (.string a0)), (1, .sc (.string a1))] = some (strs [a0, a1], fun r => .sl r 0 2 1) := by simp [bsV, zero9, tyOk9, cells9, fillA, overA, AV.cells, strs, lits]
theorem bs9_3 (a0 a1 a2 : ByteArray) : bsV Try.prog (some (.slice 9)) 3 [(0, .sc (.string a0)), (1, .sc (.string a1)), (2, .sc (.string a2))] = some (strs [a0, a1, a2], fun r => .sl r 0 3 1) := by simp [bsV, zero9, tyOk9, cells9, fillA, overA, AV.cells, strs, lits]
theorem bs9_4 (a0 a1 a2 a3 : ByteArray) : bsV Try.prog (some (.slice 9)) 4 [(0, .sc (.string a0)), (1, .sc (.string a1)), (2, .sc (.string a2)), (3, .sc (.string a3))] = some (strs [a0, a1, a2, a3], fun r => .sl r 0 4 1) := by simp [bsV, zero9, tyOk9, cells9, fillA, overA, AV.cells, strs, lits]
theorem bs9_5 (a0 a1 a2 a3 a4 : ByteArray) : bsV Try.prog (some (.slice 9)) 5 [(0, .sc (.string a0)), (1, .sc (.string a1)), (2, .sc (.string a2)), (3, .sc (.string a3)), (4, .sc (.string a4))] = some (strs [a0, a1, a2, a3, a4], fun r => .sl r 0 5 1) := by simp [bsV, zero9, tyOk9, cells9, fillA, overA, AV.cells, strs, lits]
theorem bs9_6 (a0 a1 a2 a3 a4 a5 : ByteArray) : bsV Try.prog (some (.slice 9)) 6 [(0, .sc (.string a0)), (1, .sc (.string a1)), (2, .sc (.string a2)), (3, .sc (.string a3)), (4, .sc (.string a4)), (5, .sc (.string a5))] = some (strs [a0, a1, a2, a3, a4, a5], fun r => .sl r 0 6 1) := by simp [bsV, zero9, tyOk9, cells9, fillA, overA, AV.cells, strs, lits]
theorem bs9_8 (a0 a1 a2 a3 a4 a5 a6 a7 : ByteArray) : bsV Try.prog (some (.slice 9)) 8 [(0, .sc (.string a0)), (1, .sc (.string a1)), (2, .sc (.string a2)), (3, .sc (.string a3)), (4, .sc (.string a4)), (5, .sc (.string a5)), (6, .sc (.string a6)), (7, .sc (.string a7))] = some (strs [a0, a1, a2, a3, a4, a5, a6, a7], fun r => .sl r 0 8 1) := by simp [bsV, zero9, tyOk9, cells9, fillA, overA, AV.cells, strs, lits]
theorem bs9_9 (a0 a1 a2 a3 a4 a5 a6 a7 a8 : ByteArray) : bsV Try.prog (some (.slice 9)) 9 [(0, .sc (.string a0)), (1, .sc (.string a1)), (2, .sc (.string a2)), (3, .sc (.string a3)), (4, .sc (.string a4)), (5, .sc (.string a5)), (6, .sc (.string a6)), (7, .sc (.string a7)), (8, .sc (.string a8))] = some (strs [a0, a1, a2, a3, a4, a5, a6, a7, a8], fun r => .sl r 0 9 1) := by simp [bsV, zero9, tyOk9, cells9, fillA, overA, AV.cells, strs, lits]
theorem bs9_10 (a0 a1 a2 a3 a4 a5 a6 a7 a8 a9 : ByteArray) : bsV Try.prog (some (.slice 9)) 10 [(0, .sc (.string a0)), (1, .sc (.string a1)), (2, .sc (.string a2)), (3, .sc (.string a3)), (4, .sc (.string a4)), (5, .sc (.string a5)), (6, .sc (.string a6)), (7, .sc (.string a7)), (8, .sc (.string a8)), (9, .sc (.string a9))] = some (strs [a0, a1, a2, a3, a4, a5, a6, a7, a8, a9], fun r => .sl r 0 10 1) := by simp [bsV, zero9, tyOk9, cells9, fillA, overA, AV.cells, strs, lits]
theorem tyOk10 : tyOk Try.prog 10 = true := by kernel_rfl
theorem agg10 : aggB Try.prog 10 = false := by kernel_rfl
theorem cells10 : Try.prog.cellsOf 10 = 1 := by kernel_rfl
theorem zero10 : zeroA Try.prog 10 = some [.sc (.string ByteArray.empty)] := by kernel_rfl
theorem info10 : (Try.prog.info? 10).map (·.bytes) = some 16 := by kernel_rfl
theorem bs10_0 : bsV Try.prog (some (.slice 10)) 0 [] = some (strs [], fun r => .sl r 0 0 1) := by simp [bsV, zero10, tyOk10, cells10, fillA, overA, AV.cells, strs, lits]
theorem bs10_1 (a0 : ByteArray) : bsV Try.prog (some (.slice 10)) 1 [(0, .sc (.string a0))] = some (strs [a0], fun r => .sl r 0 1 1) := by simp [bsV, zero10, tyOk10, cells10, fillA, overA, AV.cells, strs, lits]
theorem bs10_2 (a0 a1 : ByteArray) : bsV Try.prog (some (.slice 10)) 2 [(0, .sc (.string a0)), (1, .sc (.string a1))] = some (strs [a0, a1], fun r => .sl r 0 2 1) := by simp [bsV, zero10, tyOk10, cells10, fillA, overA, AV.cells, strs, lits]
theorem bs10_3 (a0 a1 a2 : ByteArray) : bsV Try.prog (some (.slice 10)) 3 [(0, .sc (.string a0)), (1, .sc (.string a1)), (2, .sc (.string a2))] = some (strs [a0, a1, a2], fun r => .sl r 0 3 1) := by simp [bsV, zero10, tyOk10, cells10, fillA, overA, AV.cells, strs, lits]
theorem bs10_4 (a0 a1 a2 a3 : ByteArray) : bsV Try.prog (some (.slice 10)) 4 [(0, .sc (.string a0)), (1, .sc (.string a1)), (2, .sc (.string a2)), (3, .sc (.string a3))] = some (strs [a0, a1, a2, a3], fun r => .sl r 0 4 1) := by simp [bsV, zero10, tyOk10, cells10, fillA, overA, AV.cells, strs, lits]
theorem bs10_5 (a0 a1 a2 a3 a4 : ByteArray) : bsV Try.prog (some (.slice 10)) 5 [(0, .sc (.string a0)), (1, .sc (.string a1)), (2, .sc (.string a2)), (3, .sc (.string a3)), (4, .sc (.string a4))] = some (strs [a0, a1, a2, a3, a4], fun r => .sl r 0 5 1) := by simp [bsV, zero10, tyOk10, cells10, fillA, overA, AV.cells, strs, lits]
theorem bs10_6 (a0 a1 a2 a3 a4 a5 : ByteArray) : bsV Try.prog (some (.slice 10)) 6 [(0, .sc (.string a0)), (1, .sc (.string a1)), (2, .sc (.string a2)), (3, .sc (.string a3)), (4, .sc (.string a4)), (5, .sc (.string a5))] = some (strs [a0, a1, a2, a3, a4, a5], fun r => .sl r 0 6 1) := by simp [bsV, zero10, tyOk10, cells10, fillA, overA, AV.cells, strs, lits]
theorem bs10_8 (a0 a1 a2 a3 a4 a5 a6 a7 : ByteArray) : bsV Try.prog (some (.slice 10)) 8 [(0, .sc (.string a0)), (1, .sc (.string a1)), (2, .sc (.string a2)), (3, .sc (.string a3)), (4, .sc (.string a4)), (5, .sc (.string a5)), (6, .sc (.string a6)), (7, .sc (.string a7))] = some (strs [a0, a1, a2, a3, a4, a5, a6, a7], fun r => .sl r 0 8 1) := by simp [bsV, zero10, tyOk10, cells10, fillA, overA, AV.cells, strs, lits]
theorem bs10_9 (a0 a1 a2 a3 a4 a5 a6 a7 a8 : ByteArray) : bsV Try.prog (some (.slice 10)) 9 [(0, .sc (.string a0)), (1, .sc (.string a1)), (2, .sc (.string a2)), (3, .sc (.string a3)), (4, .sc (.string a4)), (5, .sc (.string a5)), (6, .sc (.string a6)), (7, .sc (.string a7)), (8, .sc (.string a8))] = some (strs [a0, a1, a2, a3, a4, a5, a6, a7, a8], fun r => .sl r 0 9 1) := by simp [bsV, zero10, tyOk10, cells10, fillA, overA, AV.cells, strs, lits]
theorem bs10_10 (a0 a1 a2 a3 a4 a5 a6 a7 a8 a9 : ByteArray) : bsV Try.prog (some (.slice 10)) 10 [(0, .sc (.string a0)), (1, .sc (.string a1)), (2, .sc (.string a2)), (3, .sc (.string a3)), (4, .sc (.string a4)), (5, .sc (.string a5)), (6, .sc (.string a6)), (7, .sc (.string a7)), (8, .sc (.string a8)), (9, .sc (.string a9))] = some (strs [a0, a1, a2, a3, a4, a5, a6, a7, a8, a9], fun r => .sl r 0 10 1) := by simp [bsV, zero10, tyOk10, cells10, fillA, overA, AV.cells, strs, lits]
theorem tyOk11 : tyOk Try.prog 11 = true := by kernel_rfl
theorem agg11 : aggB Try.prog 11 = false := by kernel_rfl
theorem cells11 : Try.prog.cellsOf 11 = 1 := by kernel_rfl
theorem zero11 : zeroA Try.prog 11 = some [.sc (.string ByteArray.empty)] := by kernel_rfl
theorem info11 : (Try.prog.info? 11).map (·.bytes) = some 16 := by kernel_rfl
theorem bs11_0 : bsV Try.prog (some (.slice 11)) 0 [] = some (strs [], fun r => .sl r 0 0 1) := by simp [bsV, zero11, tyOk11, cells11, fillA, overA, AV.cells, strs, lits]
theorem bs11_1 (a0 : ByteArray) : bsV Try.prog (some (.slice 11)) 1 [(0, .sc (.string a0))] = some (strs [a0], fun r => .sl r 0 1 1) := by simp [bsV, zero11, tyOk11, cells11, fillA, overA, AV.cells, strs, lits]
theorem bs11_2 (a0 a1 : ByteArray) : bsV Try.prog (some (.slice 11)) 2 [(0, .sc (.string a0)), (1, .sc (.string a1))] = some (strs [a0, a1], fun r => .sl r 0 2 1) := by simp [bsV, zero11, tyOk11, cells11, fillA, overA, AV.cells, strs, lits]
theorem bs11_3 (a0 a1 a2 : ByteArray) : bsV Try.prog (some (.slice 11)) 3 [(0, .sc (.string a0)), (1, .sc (.string a1)), (2, .sc (.string a2))] = some (strs [a0, a1, a2], fun r => .sl r 0 3 1) := by simp [bsV, zero11, tyOk11, cells11, fillA, overA, AV.cells, strs, lits]
theorem bs11_4 (a0 a1 a2 a3 : ByteArray) : bsV Try.prog (some (.slice 11)) 4 [(0, .sc (.string a0)), (1, .sc (.string a1)), (2, .sc (.string a2)), (3, .sc (.string a3))] = some (strs [a0, a1, a2, a3], fun r => .sl r 0 4 1) := by simp [bsV, zero11, tyOk11, cells11, fillA, overA, AV.cells, strs, lits]
theorem bs11_5 (a0 a1 a2 a3 a4 : ByteArray) : bsV Try.prog (some (.slice 11)) 5 [(0, .sc (.string a0)), (1, .sc (.string a1)), (2, .sc (.string a2)), (3, .sc (.string a3)), (4, .sc (.string a4))] = some (strs [a0, a1, a2, a3, a4], fun r => .sl r 0 5 1) := by simp [bsV, zero11, tyOk11, cells11, fillA, overA, AV.cells, strs, lits]
theorem bs11_6 (a0 a1 a2 a3 a4 a5 : ByteArray) : bsV Try.prog (some (.slice 11)) 6 [(0, .sc (.string a0)), (1, .sc (.string a1)), (2, .sc (.string a2)), (3, .sc (.string a3)), (4, .sc (.string a4)), (5, .sc (.string a5))] = some (strs [a0, a1, a2, a3, a4, a5], fun r => .sl r 0 6 1) := by simp [bsV, zero11, tyOk11, cells11, fillA, overA, AV.cells, strs, lits]
theorem bs11_8 (a0 a1 a2 a3 a4 a5 a6 a7 : ByteArray) : bsV Try.prog (some (.slice 11)) 8 [(0, .sc (.string a0)), (1, .sc (.string a1)), (2, .sc (.string a2)), (3, .sc (.string a3)), (4, .sc (.string a4)), (5, .sc (.string a5)), (6, .sc (.string a6)), (7, .sc (.string a7))] = some (strs [a0, a1, a2, a3, a4, a5, a6, a7], fun r => .sl r 0 8 1) := by simp [bsV, zero11, tyOk11, cells11, fillA, overA, AV.cells, strs, lits]
theorem bs11_9 (a0 a1 a2 a3 a4 a5 a6 a7 a8 : ByteArray) : bsV Try.prog (some (.slice 11)) 9 [(0, .sc (.string a0)), (1, .sc (.string a1)), (2, .sc (.string a2)), (3, .sc (.string a3)), (4, .sc (.string a4)), (5, .sc (.string a5)), (6, .sc (.string a6)), (7, .sc (.string a7)), (8, .sc (.string a8))] = some (strs [a0, a1, a2, a3, a4, a5, a6, a7, a8], fun r => .sl r 0 9 1) := by simp [bsV, zero11, tyOk11, cells11, fillA, overA, AV.cells, strs, lits]
theorem bs11_10 (a0 a1 a2 a3 a4 a5 a6 a7 a8 a9 : ByteArray) : bsV Try.prog (some (.slice 11)) 10 [(0, .sc (.string a0)), (1, .sc (.string a1)), (2, .sc (.string a2)), (3, .sc (.string a3)), (4, .sc (.string a4)), (5, .sc (.string a5)), (6, .sc (.string a6)), (7, .sc (.string a7)), (8, .sc (.string a8)), (9, .sc (.string a9))] = some (strs [a0, a1, a2, a3, a4, a5, a6, a7, a8, a9], fun r => .sl r 0 10 1) := by simp [bsV, zero11, tyOk11, cells11, fillA, overA, AV.cells, strs, lits]
theorem tyOk12 : tyOk Try.prog 12 = true := by kernel_rfl
theorem agg12 : aggB Try.prog 12 = false := by kernel_rfl
theorem cells12 : Try.prog.cellsOf 12 = 1 := by kernel_rfl
theorem zero12 : zeroA Try.prog 12 = some [.sc (.int .u64 0)] := by kernel_rfl
theorem info12 : (Try.prog.info? 12).map (·.bytes) = some 8 := by kernel_rfl
theorem mk12 (a b : IntKind) (m : Int) (h0 : 0 ≤ m) (h1 : m ≤ 1000000000000) : mkV Try.prog (some (.slice 12)) (.sc (.int a m)) (.sc (.int b m)) = some (ints .u64 (List.replicate m.toNat 0), fun r => .sl r 0 m.toNat 1) := mk_ints .u64 12 a b m _ zero12 info12 cells12 h0 (by omega) (by omega)
theorem bs12_0 : bsV Try.prog (some (.slice 12)) 0 [] = some (ints .u64 [], fun r => .sl r 0 0 1) := bs_ints .u64 12 0 [] zero12 tyOk12 cells12 (by decide) (by simp)
theorem bs12_1 (a0 : Int) : bsV Try.prog (some (.slice 12)) 1 [(0, .sc (.int .u64 a0))] = some (ints .u64 [a0], fun r => .sl r 0 1 1) := bs_ints .u64 12 1 [(0, a0)] zero12 tyOk12 cells12 (by decide) (by simp)
theorem bs12_2 (a0 a1 : Int) : bsV Try.prog (some (.slice 12)) 2 [(0, .sc (.int .u64 a0)), (1, .sc (.int .u64 a1))] = some (ints .u64 [a0, a1], fun r => .sl r 0 2 1) := bs_ints .u64 12 2 [(0, a0), (1, a1)] zero12 tyOk12 cells12 (by decide) (by simp)
theorem bs12_3 (a0 a1 a2 : Int) : bsV Try.prog (some (.slice 12)) 3 [(0, .sc (.int .u64 a0)), (1, .sc (.int .u64 a1)), (2, .sc (.int .u64 a2))] = some (ints .u64 [a0, a1, a2], fun r => .sl r 0 3 1) := bs_ints .u64 12 3 [(0, a0), (1, a1), (2, a2)] zero12 tyOk12 cells12 (by decide) (by simp)
theorem bs12_4 (a0 a1 a2 a3 : Int) : bsV Try.prog (some (.slice 12)) 4 [(0, .sc (.int .u64 a0)), (1, .sc (.int .u64 a1)), (2, .sc (.int .u64 a2)), (3, .sc (.int .u64 a3))] = some (ints .u64 [a0, a1, a2, a3], fun r => .sl r 0 4 1) := bs_ints .u64 12 4 [(0, a0), (1, a1), (2, a2), (3, a3)] zero12 tyOk12 cells12 (by decide) (by simp)
theorem bs12_5 (a0 a1 a2 a3 a4 : Int) : bsV Try.prog (some (.slice 12)) 5 [(0, .sc (.int .u64 a0)), (1, .sc (.int .u64 a1)), (2, .sc (.int .u64 a2)), (3, .sc (.int .u64 a3)), (4, .sc (.int .u64 a4))] = some (ints .u64 [a0, a1, a2, a3, a4], fun r => .sl r 0 5 1) := bs_ints .u64 12 5 [(0, a0), (1, a1), (2, a2), (3, a3), (4, a4)] zero12 tyOk12 cells12 (by decide) (by simp)
theorem bs12_6 (a0 a1 a2 a3 a4 a5 : Int) : bsV Try.prog (some (.slice 12)) 6 [(0, .sc (.int .u64 a0)), (1, .sc (.int .u64 a1)), (2, .sc (.int .u64 a2)), (3, .sc (.int .u64 a3)), (4, .sc (.int .u64 a4)), (5, .sc (.int .u64 a5))] = some (ints .u64 [a0, a1, a2, a3, a4, a5], fun r => .sl r 0 6 1) := bs_ints .u64 12 6 [(0, a0), (1, a1), (2, a2), (3, a3), (4, a4), (5, a5)] zero12 tyOk12 cells12 (by decide) (by simp)
theorem bs12_7 (a0 a1 a2 a3 a4 a5 a6 : Int) : bsV Try.prog (some (.slice 12)) 7 [(0, .sc (.int .u64 a0)), (1, .sc (.int .u64 a1)), (2, .sc (.int .u64 a2)), (3, .sc (.int .u64 a3)), (4, .sc (.int .u64 a4)), (5, .sc (.int .u64 a5)), (6, .sc (.int .u64 a6))] = some (ints .u64 [a0, a1, a2, a3, a4, a5, a6], fun r => .sl r 0 7 1) := bs_ints .u64 12 7 [(0, a0), (1, a1), (2, a2), (3, a3), (4, a4), (5, a5), (6, a6)] zero12 tyOk12 cells12 (by decide) (by simp)
theorem bs12_8 (a0 a1 a2 a3 a4 a5 a6 a7 : Int) : bsV Try.prog (some (.slice 12)) 8 [(0, .sc (.int .u64 a0)), (1, .sc (.int .u64 a1)), (2, .sc (.int .u64 a2)), (3, .sc (.int .u64 a3)), (4, .sc (.int .u64 a4)), (5, .sc (.int .u64 a5)), (6, .sc (.int .u64 a6)), (7, .sc (.int .u64 a7))] = some (ints .u64 [a0, a1, a2, a3, a4, a5, a6, a7], fun r => .sl r 0 8 1) := bs_ints .u64 12 8 [(0, a0), (1, a1), (2, a2), (3, a3), (4, a4), (5, a5), (6, a6), (7, a7)] zero12 tyOk12 cells12 (by decide) (by simp)
theorem bs12_10 (a0 a1 a2 a3 a4 a5 a6 a7 a8 a9 : Int) : bsV Try.prog (some (.slice 12)) 10 [(0, .sc (.int .u64 a0)), (1, .sc (.int .u64 a1)), (2, .sc (.int .u64 a2)), (3, .sc (.int .u64 a3)), (4, .sc (.int .u64 a4)), (5, .sc (.int .u64 a5)), (6, .sc (.int .u64 a6)), (7, .sc (.int .u64 a7)), (8, .sc (.int .u64 a8)), (9, .sc (.int .u64 a9))] = some (ints .u64 [a0, a1, a2, a3, a4, a5, a6, a7, a8, a9], fun r => .sl r 0 10 1) := bs_ints .u64 12 10 [(0, a0), (1, a1), (2, a2), (3, a3), (4, a4), (5, a5), (6, a6), (7, a7), (8, a8), (9, a9)] zero12 tyOk12 cells12 (by decide) (by simp)
theorem bs12_11 (a0 a1 a2 a3 a4 a5 a6 a7 a8 a9 a10 : Int) : bsV Try.prog (some (.slice 12)) 11 [(0, .sc (.int .u64 a0)), (1, .sc (.int .u64 a1)), (2, .sc (.int .u64 a2)), (3, .sc (.int .u64 a3)), (4, .sc (.int .u64 a4)), (5, .sc (.int .u64 a5)), (6, .sc (.int .u64 a6)), (7, .sc (.int .u64 a7)), (8, .sc (.int .u64 a8)), (9, .sc (.int .u64 a9)), (10, .sc (.int .u64 a10))] = some (ints .u64 [a0, a1, a2, a3, a4, a5, a6, a7, a8, a9, a10], fun r => .sl r 0 11 1) := bs_ints .u64 12 11 [(0, a0), (1, a1), (2, a2), (3, a3), (4, a4), (5, a5), (6, a6), (7, a7), (8, a8), (9, a9), (10, a10)] zero12 tyOk12 cells12 (by decide) (by simp)
theorem bs12_12 (a0 a1 a2 a3 a4 a5 a6 a7 a8 a9 a10 a11 : Int) : bsV Try.prog (some (.slice 12)) 12 [(0, .sc (.int .u64 a0)), (1, .sc (.int .u64 a1)), (2, .sc (.int .u64 a2)), (3, .sc (.int .u64 a3)), (4, .sc (.int .u64 a4)), (5, .sc (.int .u64 a5)), (6, .sc (.int .u64 a6)), (7, .sc (.int .u64 a7)), (8, .sc (.int .u64 a8)), (9, .sc (.int .u64 a9)), (10, .sc (.int .u64 a10)), (11, .sc (.int .u64 a11))] = some (ints .u64 [a0, a1, a2, a3, a4, a5, a6, a7, a8, a9, a10, a11], fun r => .sl r 0 12 1) := bs_ints .u64 12 12 [(0, a0), (1, a1), (2, a2), (3, a3), (4, a4), (5, a5), (6, a6), (7, a7), (8, a8), (9, a9), (10, a10), (11, a11)] zero12 tyOk12 cells12 (by decide) (by simp)
theorem bs12_13 (a0 a1 a2 a3 a4 a5 a6 a7 a8 a9 a10 a11 a12 : Int) : bsV Try.prog (some (.slice 12)) 13 [(0, .sc (.int .u64 a0)), (1, .sc (.int .u64 a1)), (2, .sc (.int .u64 a2)), (3, .sc (.int .u64 a3)), (4, .sc (.int .u64 a4)), (5, .sc (.int .u64 a5)), (6, .sc (.int .u64 a6)), (7, .sc (.int .u64 a7)), (8, .sc (.int .u64 a8)), (9, .sc (.int .u64 a9)), (10, .sc (.int .u64 a10)), (11, .sc (.int .u64 a11)), (12, .sc (.int .u64 a12))] = some (ints .u64 [a0, a1, a2, a3, a4, a5, a6, a7, a8, a9, a10, a11, a12], fun r => .sl r 0 13 1) := bs_ints .u64 12 13 [(0, a0), (1, a1), (2, a2), (3, a3), (4, a4), (5, a5), (6, a6), (7, a7), (8, a8), (9, a9), (10, a10), (11, a11), (12, a12)] zero12 tyOk12 cells12 (by decide) (by simp)
theorem tyOk13 : tyOk Try.prog 13 = true := by kernel_rfl
theorem agg13 : aggB Try.prog 13 = true := by kernel_rfl
theorem cells13 : Try.prog.cellsOf 13 = 2 := by kernel_rfl
theorem zero13 : zeroA Try.prog 13 = some [.sc (.string ByteArray.empty), .sc (.int .u64 0)] := by kernel_rfl
theorem tyOk14 : tyOk Try.prog 14 = true := by kernel_rfl
theorem agg14 : aggB Try.prog 14 = true := by kernel_rfl
theorem cells14 : Try.prog.cellsOf 14 = 2 := by kernel_rfl
theorem zero14 : zeroA Try.prog 14 = some [.sc (.string ByteArray.empty), .sc (.int .u64 0)] := by kernel_rfl
theorem tyOk15 : tyOk Try.prog 15 = true := by kernel_rfl
theorem agg15 : aggB Try.prog 15 = false := by kernel_rfl
theorem cells15 : Try.prog.cellsOf 15 = 1 := by kernel_rfl
theorem zero15 : zeroA Try.prog 15 = some [.sc (.pointer none)] := by kernel_rfl
theorem tyOk16 : tyOk Try.prog 16 = true := by kernel_rfl
theorem agg16 : aggB Try.prog 16 = false := by kernel_rfl
theorem cells16 : Try.prog.cellsOf 16 = 1 := by kernel_rfl
theorem zero16 : zeroA Try.prog 16 = some [.sc (.pointer none)] := by kernel_rfl
theorem tyOk17 : tyOk Try.prog 17 = true := by kernel_rfl
theorem agg17 : aggB Try.prog 17 = false := by kernel_rfl
theorem cells17 : Try.prog.cellsOf 17 = 1 := by kernel_rfl
theorem zero17 : zeroA Try.prog 17 = some [.sc (.pointer none)] := by kernel_rfl
theorem tyOk18 : tyOk Try.prog 18 = true := by kernel_rfl
theorem agg18 : aggB Try.prog 18 = true := by kernel_rfl
theorem cells18 : Try.prog.cellsOf 18 = 1 := by kernel_rfl
theorem zero18 : zeroA Try.prog 18 = some [.sc (.pointer none)] := by kernel_rfl
theorem tyOk19 : tyOk Try.prog 19 = true := by kernel_rfl
theorem agg19 : aggB Try.prog 19 = true := by kernel_rfl
theorem cells19 : Try.prog.cellsOf 19 = 1 := by kernel_rfl
theorem zero19 : zeroA Try.prog 19 = some [.sc (.pointer none)] := by kernel_rfl
theorem tyOk20 : tyOk Try.prog 20 = true := by kernel_rfl
theorem agg20 : aggB Try.prog 20 = false := by kernel_rfl
theorem cells20 : Try.prog.cellsOf 20 = 1 := by kernel_rfl
theorem tyOk21 : tyOk Try.prog 21 = true := by kernel_rfl
theorem agg21 : aggB Try.prog 21 = false := by kernel_rfl
theorem cells21 : Try.prog.cellsOf 21 = 1 := by kernel_rfl
theorem zero21 : zeroA Try.prog 21 = some [.sc (.int .i32 0)] := by kernel_rfl
theorem info21 : (Try.prog.info? 21).map (·.bytes) = some 4 := by kernel_rfl
theorem mk21 (a b : IntKind) (m : Int) (h0 : 0 ≤ m) (h1 : m ≤ 1000000000000) : mkV Try.prog (some (.slice 21)) (.sc (.int a m)) (.sc (.int b m)) = some (ints .i32 (List.replicate m.toNat 0), fun r => .sl r 0 m.toNat 1) := mk_ints .i32 21 a b m _ zero21 info21 cells21 h0 (by omega) (by omega)
theorem bs21_0 : bsV Try.prog (some (.slice 21)) 0 [] = some (ints .i32 [], fun r => .sl r 0 0 1) := bs_ints .i32 21 0 [] zero21 tyOk21 cells21 (by decide) (by simp)
theorem bs21_1 (a0 : Int) : bsV Try.prog (some (.slice 21)) 1 [(0, .sc (.int .i32 a0))] = some (ints .i32 [a0], fun r => .sl r 0 1 1) := bs_ints .i32 21 1 [(0, a0)] zero21 tyOk21 cells21 (by decide) (by simp)
theorem bs21_2 (a0 a1 : Int) : bsV Try.prog (some (.slice 21)) 2 [(0, .sc (.int .i32 a0)), (1, .sc (.int .i32 a1))] = some (ints .i32 [a0, a1], fun r => .sl r 0 2 1) := bs_ints .i32 21 2 [(0, a0), (1, a1)] zero21 tyOk21 cells21 (by decide) (by simp)
theorem bs21_3 (a0 a1 a2 : Int) : bsV Try.prog (some (.slice 21)) 3 [(0, .sc (.int .i32 a0)), (1, .sc (.int .i32 a1)), (2, .sc (.int .i32 a2))] = some (ints .i32 [a0, a1, a2], fun r => .sl r 0 3 1) := bs_ints .i32 21 3 [(0, a0), (1, a1), (2, a2)] zero21 tyOk21 cells21 (by decide) (by simp)
theorem bs21_4 (a0 a1 a2 a3 : Int) : bsV Try.prog (some (.slice 21)) 4 [(0, .sc (.int .i32 a0)), (1, .sc (.int .i32 a1)), (2, .sc (.int .i32 a2)), (3, .sc (.int .i32 a3))] = some (ints .i32 [a0, a1, a2, a3], fun r => .sl r 0 4 1) := bs_ints .i32 21 4 [(0, a0), (1, a1), (2, a2), (3, a3)] zero21 tyOk21 cells21 (by decide) (by simp)
theorem bs21_5 (a0 a1 a2 a3 a4 : Int) : bsV Try.prog (some (.slice 21)) 5 [(0, .sc (.int .i32 a0)), (1, .sc (.int .i32 a1)), (2, .sc (.int .i32 a2)), (3, .sc (.int .i32 a3)), (4, .sc (.int .i32 a4))] = some (ints .i32 [a0, a1, a2, a3, a4], fun r => .sl r 0 5 1) := bs_ints .i32 21 5 [(0, a0), (1, a1), (2, a2), (3, a3), (4, a4)] zero21 tyOk21 cells21 (by decide) (by simp)
theorem bs21_6 (a0 a1 a2 a3 a4 a5 : Int) : bsV Try.prog (some (.slice 21)) 6 [(0, .sc (.int .i32 a0)), (1, .sc (.int .i32 a1)), (2, .sc (.int .i32 a2)), (3, .sc (.int .i32 a3)), (4, .sc (.int .i32 a4)), (5, .sc (.int .i32 a5))] = some (ints .i32 [a0, a1, a2, a3, a4, a5], fun r => .sl r 0 6 1) := bs_ints .i32 21 6 [(0, a0), (1, a1), (2, a2), (3, a3), (4, a4), (5, a5)] zero21 tyOk21 cells21 (by decide) (by simp)
theorem bs21_7 (a0 a1 a2 a3 a4 a5 a6 : Int) : bsV Try.prog (some (.slice 21)) 7 [(0, .sc (.int .i32 a0)), (1, .sc (.int .i32 a1)), (2, .sc (.int .i32 a2)), (3, .sc (.int .i32 a3)), (4, .sc (.int .i32 a4)), (5, .sc (.int .i32 a5)), (6, .sc (.int .i32 a6))] = some (ints .i32 [a0, a1, a2, a3, a4, a5, a6], fun r => .sl r 0 7 1) := bs_ints .i32 21 7 [(0, a0), (1, a1), (2, a2), (3, a3), (4, a4), (5, a5), (6, a6)] zero21 tyOk21 cells21 (by decide) (by simp)
theorem bs21_8 (a0 a1 a2 a3 a4 a5 a6 a7 : Int) : bsV Try.prog (some (.slice 21)) 8 [(0, .sc (.int .i32 a0)), (1, .sc (.int .i32 a1)), (2, .sc (.int .i32 a2)), (3, .sc (.int .i32 a3)), (4, .sc (.int .i32 a4)), (5, .sc (.int .i32 a5)), (6, .sc (.int .i32 a6)), (7, .sc (.int .i32 a7))] = some (ints .i32 [a0, a1, a2, a3, a4, a5, a6, a7], fun r => .sl r 0 8 1) := bs_ints .i32 21 8 [(0, a0), (1, a1), (2, a2), (3, a3), (4, a4), (5, a5), (6, a6), (7, a7)] zero21 tyOk21 cells21 (by decide) (by simp)
theorem bs21_10 (a0 a1 a2 a3 a4 a5 a6 a7 a8 a9 : Int) : bsV Try.prog (some (.slice 21)) 10 [(0, .sc (.int .i32 a0)), (1, .sc (.int .i32 a1)), (2, .sc (.int .i32 a2)), (3, .sc (.int .i32 a3)), (4, .sc (.int .i32 a4)), (5, .sc (.int .i32 a5)), (6, .sc (.int .i32 a6)), (7, .sc (.int .i32 a7)), (8, .sc (.int .i32 a8)), (9, .sc (.int .i32 a9))] = some (ints .i32 [a0, a1, a2, a3, a4, a5, a6, a7, a8, a9], fun r => .sl r 0 10 1) := bs_ints .i32 21 10 [(0, a0), (1, a1), (2, a2), (3, a3), (4, a4), (5, a5), (6, a6), (7, a7), (8, a8), (9, a9)] zero21 tyOk21 cells21 (by decide) (by simp)
theorem bs21_11 (a0 a1 a2 a3 a4 a5 a6 a7 a8 a9 a10 : Int) : bsV Try.prog (some (.slice 21)) 11 [(0, .sc (.int .i32 a0)), (1, .sc (.int .i32 a1)), (2, .sc (.int .i32 a2)), (3, .sc (.int .i32 a3)), (4, .sc (.int .i32 a4)), (5, .sc (.int .i32 a5)), (6, .sc (.int .i32 a6)), (7, .sc (.int .i32 a7)), (8, .sc (.int .i32 a8)), (9, .sc (.int .i32 a9)), (10, .sc (.int .i32 a10))] = some (ints .i32 [a0, a1, a2, a3, a4, a5, a6, a7, a8, a9, a10], fun r => .sl r 0 11 1) := bs_ints .i32 21 11 [(0, a0), (1, a1), (2, a2), (3, a3), (4, a4), (5, a5), (6, a6), (7, a7), (8, a8), (9, a9), (10, a10)] zero21 tyOk21 cells21 (by decide) (by simp)
theorem bs21_12 (a0 a1 a2 a3 a4 a5 a6 a7 a8 a9 a10 a11 : Int) : bsV Try.prog (some (.slice 21)) 12 [(0, .sc (.int .i32 a0)), (1, .sc (.int .i32 a1)), (2, .sc (.int .i32 a2)), (3, .sc (.int .i32 a3)), (4, .sc (.int .i32 a4)), (5, .sc (.int .i32 a5)), (6, .sc (.int .i32 a6)), (7, .sc (.int .i32 a7)), (8, .sc (.int .i32 a8)), (9, .sc (.int .i32 a9)), (10, .sc (.int .i32 a10)), (11, .sc (.int .i32 a11))] = some (ints .i32 [a0, a1, a2, a3, a4, a5, a6, a7, a8, a9, a10, a11], fun r => .sl r 0 12 1) := bs_ints .i32 21 12 [(0, a0), (1, a1), (2, a2), (3, a3), (4, a4), (5, a5), (6, a6), (7, a7), (8, a8), (9, a9), (10, a10), (11, a11)] zero21 tyOk21 cells21 (by decide) (by simp)
theorem bs21_13 (a0 a1 a2 a3 a4 a5 a6 a7 a8 a9 a10 a11 a12 : Int) : bsV Try.prog (some (.slice 21)) 13 [(0, .sc (.int .i32 a0)), (1, .sc (.int .i32 a1)), (2, .sc (.int .i32 a2)), (3, .sc (.int .i32 a3)), (4, .sc (.int .i32 a4)), (5, .sc (.int .i32 a5)), (6, .sc (.int .i32 a6)), (7, .sc (.int .i32 a7)), (8, .sc (.int .i32 a8)), (9, .sc (.int .i32 a9)), (10, .sc (.int .i32 a10)), (11, .sc (.int .i32 a11)), (12, .sc (.int .i32 a12))] = some (ints .i32 [a0, a1, a2, a3, a4, a5, a6, a7, a8, a9, a10, a11, a12], fun r => .sl r 0 13 1) := bs_ints .i32 21 13 [(0, a0), (1, a1), (2, a2), (3, a3), (4, a4), (5, a5), (6, a6), (7, a7), (8, a8), (9, a9), (10, a10), (11, a11), (12, a12)] zero21 tyOk21 cells21 (by decide) (by simp)
theorem tyOk22 : tyOk Try.prog 22 = true := by kernel_rfl
theorem agg22 : aggB Try.prog 22 = false := by kernel_rfl
theorem cells22 : Try.prog.cellsOf 22 = 1 := by kernel_rfl
theorem zero22 : zeroA Try.prog 22 = some [.sc (.slice none 0 0)] := by kernel_rfl
theorem tyOk23 : tyOk Try.prog 23 = true := by kernel_rfl
theorem agg23 : aggB Try.prog 23 = false := by kernel_rfl
theorem cells23 : Try.prog.cellsOf 23 = 1 := by kernel_rfl
theorem tyOk24 : tyOk Try.prog 24 = true := by kernel_rfl
theorem agg24 : aggB Try.prog 24 = false := by kernel_rfl
theorem cells24 : Try.prog.cellsOf 24 = 1 := by kernel_rfl
theorem tyOk25 : tyOk Try.prog 25 = true := by kernel_rfl
theorem agg25 : aggB Try.prog 25 = false := by kernel_rfl
theorem cells25 : Try.prog.cellsOf 25 = 1 := by kernel_rfl
theorem tyOk26 : tyOk Try.prog 26 = true := by kernel_rfl
theorem agg26 : aggB Try.prog 26 = false := by kernel_rfl
theorem cells26 : Try.prog.cellsOf 26 = 1 := by kernel_rfl
theorem tyOk27 : tyOk Try.prog 27 = true := by kernel_rfl
theorem agg27 : aggB Try.prog 27 = false := by kernel_rfl
theorem cells27 : Try.prog.cellsOf 27 = 1 := by kernel_rfl
theorem tyOk28 : tyOk Try.prog 28 = true := by kernel_rfl
theorem agg28 : aggB Try.prog 28 = true := by kernel_rfl
theorem cells28 : Try.prog.cellsOf 28 = 3 := by kernel_rfl
theorem zero28 : zeroA Try.prog 28 = some [.sc (.slice none 0 0), .sc (.slice none 0 0), .sc (.int .i64 0)] := by kernel_rfl
theorem tyOk29 : tyOk Try.prog 29 = true := by kernel_rfl
theorem agg29 : aggB Try.prog 29 = true := by kernel_rfl
theorem cells29 : Try.prog.cellsOf 29 = 3 := by kernel_rfl
theorem zero29 : zeroA Try.prog 29 = some [.sc (.slice none 0 0), .sc (.slice none 0 0), .sc (.int .i64 0)] := by kernel_rfl
theorem tyOk30 : tyOk Try.prog 30 = true := by kernel_rfl
theorem agg30 : aggB Try.prog 30 = false := by kernel_rfl
theorem cells30 : Try.prog.cellsOf 30 = 1 := by kernel_rfl
theorem tyOk31 : tyOk Try.prog 31 = true := by kernel_rfl
theorem agg31 : aggB Try.prog 31 = false := by kernel_rfl
theorem cells31 : Try.prog.cellsOf 31 = 1 := by kernel_rfl
theorem tyOk32 : tyOk Try.prog 32 = true := by kernel_rfl
theorem agg32 : aggB Try.prog 32 = true := by kernel_rfl
theorem cells32 : Try.prog.cellsOf 32 = 3 := by kernel_rfl
theorem zero32 : zeroA Try.prog 32 = some [.sc (.slice none 0 0), .sc (.slice none 0 0), .sc (.int .i64 0)] := by kernel_rfl
theorem tyOk33 : tyOk Try.prog 33 = true := by kernel_rfl
theorem agg33 : aggB Try.prog 33 = false := by kernel_rfl
theorem cells33 : Try.prog.cellsOf 33 = 1 := by kernel_rfl
theorem tyOk34 : tyOk Try.prog 34 = true := by kernel_rfl
theorem agg34 : aggB Try.prog 34 = false := by kernel_rfl
theorem cells34 : Try.prog.cellsOf 34 = 1 := by kernel_rfl
theorem tyOk35 : tyOk Try.prog 35 = true := by kernel_rfl
theorem agg35 : aggB Try.prog 35 = false := by kernel_rfl
theorem cells35 : Try.prog.cellsOf 35 = 1 := by kernel_rfl
theorem tyOk36 : tyOk Try.prog 36 = true := by kernel_rfl
theorem agg36 : aggB Try.prog 36 = false := by kernel_rfl
theorem cells36 : Try.prog.cellsOf 36 = 1 := by kernel_rfl
theorem tyOk37 : tyOk Try.prog 37 = true := by kernel_rfl
theorem agg37 : aggB Try.prog 37 = false := by kernel_rfl
theorem cells37 : Try.prog.cellsOf 37 = 1 := by kernel_rfl
theorem tyOk38 : tyOk Try.prog 38 = true := by kernel_rfl
theorem agg38 : aggB Try.prog 38 = false := by kernel_rfl
theorem cells38 : Try.prog.cellsOf 38 = 1 := by kernel_rfl
theorem tyOk39 : tyOk Try.prog 39 = true := by kernel_rfl
theorem agg39 : aggB Try.prog 39 = false := by kernel_rfl
theorem cells39 : Try.prog.cellsOf 39 = 1 := by kernel_rfl
theorem tyOk40 : tyOk Try.prog 40 = true := by kernel_rfl
theorem agg40 : aggB Try.prog 40 = false := by kernel_rfl
theorem cells40 : Try.prog.cellsOf 40 = 1 := by kernel_rfl
theorem tyOk41 : tyOk Try.prog 41 = true := by kernel_rfl
theorem agg41 : aggB Try.prog 41 = false := by kernel_rfl
theorem cells41 : Try.prog.cellsOf 41 = 1 := by kernel_rfl
theorem tyOk42 : tyOk Try.prog 42 = true := by kernel_rfl
theorem agg42 : aggB Try.prog 42 = false := by kernel_rfl
theorem cells42 : Try.prog.cellsOf 42 = 1 := by kernel_rfl
theorem tyOk43 : tyOk Try.prog 43 = true := by kernel_rfl
theorem agg43 : aggB Try.prog 43 = false := by kernel_rfl
theorem cells43 : Try.prog.cellsOf 43 = 1 := by kernel_rfl
theorem tyOk44 : tyOk Try.prog 44 = true := by kernel_rfl
theorem agg44 : aggB Try.prog 44 = false := by kernel_rfl
theorem cells44 : Try.prog.cellsOf 44 = 1 := by kernel_rfl
theorem tyOk45 : tyOk Try.prog 45 = true := by kernel_rfl
theorem agg45 : aggB Try.prog 45 = false := by kernel_rfl
theorem cells45 : Try.prog.cellsOf 45 = 1 := by kernel_rfl
theorem tyOk46 : tyOk Try.prog 46 = true := by kernel_rfl
theorem agg46 : aggB Try.prog 46 = false := by kernel_rfl
theorem cells46 : Try.prog.cellsOf 46 = 1 := by kernel_rfl
theorem zero46 : zeroA Try.prog 46 = some [.sc (.slice none 0 0)] := by kernel_rfl
theorem tyOk47 : tyOk Try.prog 47 = true := by kernel_rfl
theorem agg47 : aggB Try.prog 47 = false := by kernel_rfl
theorem cells47 : Try.prog.cellsOf 47 = 1 := by kernel_rfl
theorem tyOk48 : tyOk Try.prog 48 = true := by kernel_rfl
theorem agg48 : aggB Try.prog 48 = false := by kernel_rfl
theorem cells48 : Try.prog.cellsOf 48 = 1 := by kernel_rfl
theorem tyOk49 : tyOk Try.prog 49 = true := by kernel_rfl
theorem agg49 : aggB Try.prog 49 = false := by kernel_rfl
theorem cells49 : Try.prog.cellsOf 49 = 1 := by kernel_rfl
theorem tyOk50 : tyOk Try.prog 50 = true := by kernel_rfl
theorem agg50 : aggB Try.prog 50 = false := by kernel_rfl
theorem cells50 : Try.prog.cellsOf 50 = 1 := by kernel_rfl
theorem tyOk51 : tyOk Try.prog 51 = true := by kernel_rfl
theorem agg51 : aggB Try.prog 51 = false := by kernel_rfl
theorem cells51 : Try.prog.cellsOf 51 = 1 := by kernel_rfl
theorem tyOk52 : tyOk Try.prog 52 = true := by kernel_rfl
theorem agg52 : aggB Try.prog 52 = false := by kernel_rfl
theorem cells52 : Try.prog.cellsOf 52 = 1 := by kernel_rfl
theorem tyOk53 : tyOk Try.prog 53 = true := by kernel_rfl
theorem agg53 : aggB Try.prog 53 = false := by kernel_rfl
theorem cells53 : Try.prog.cellsOf 53 = 1 := by kernel_rfl
theorem tyOk54 : tyOk Try.prog 54 = true := by kernel_rfl
theorem agg54 : aggB Try.prog 54 = false := by kernel_rfl
theorem cells54 : Try.prog.cellsOf 54 = 1 := by kernel_rfl
theorem tyOk55 : tyOk Try.prog 55 = true := by kernel_rfl
theorem agg55 : aggB Try.prog 55 = false := by kernel_rfl
theorem cells55 : Try.prog.cellsOf 55 = 1 := by kernel_rfl
theorem tyOk56 : tyOk Try.prog 56 = true := by kernel_rfl
theorem agg56 : aggB Try.prog 56 = false := by kernel_rfl
theorem cells56 : Try.prog.cellsOf 56 = 1 := by kernel_rfl
theorem tyOk57 : tyOk Try.prog 57 = true := by kernel_rfl
theorem agg57 : aggB Try.prog 57 = false := by kernel_rfl
theorem cells57 : Try.prog.cellsOf 57 = 1 := by kernel_rfl
theorem tyOk58 : tyOk Try.prog 58 = true := by kernel_rfl
theorem agg58 : aggB Try.prog 58 = false := by kernel_rfl
theorem cells58 : Try.prog.cellsOf 58 = 1 := by kernel_rfl
theorem tyOk59 : tyOk Try.prog 59 = true := by kernel_rfl
theorem agg59 : aggB Try.prog 59 = false := by kernel_rfl
theorem cells59 : Try.prog.cellsOf 59 = 1 := by kernel_rfl
theorem tyOk60 : tyOk Try.prog 60 = true := by kernel_rfl
theorem agg60 : aggB Try.prog 60 = false := by kernel_rfl
theorem cells60 : Try.prog.cellsOf 60 = 1 := by kernel_rfl
theorem tyOk61 : tyOk Try.prog 61 = true := by kernel_rfl
theorem agg61 : aggB Try.prog 61 = false := by kernel_rfl
theorem cells61 : Try.prog.cellsOf 61 = 1 := by kernel_rfl
theorem zero61 : zeroA Try.prog 61 = some [.sc (.pointer none)] := by kernel_rfl
theorem tyOk62 : tyOk Try.prog 62 = true := by kernel_rfl
theorem agg62 : aggB Try.prog 62 = false := by kernel_rfl
theorem cells62 : Try.prog.cellsOf 62 = 1 := by kernel_rfl
theorem tyOk63 : tyOk Try.prog 63 = true := by kernel_rfl
theorem agg63 : aggB Try.prog 63 = false := by kernel_rfl
theorem cells63 : Try.prog.cellsOf 63 = 1 := by kernel_rfl
theorem tyOk64 : tyOk Try.prog 64 = true := by kernel_rfl
theorem agg64 : aggB Try.prog 64 = false := by kernel_rfl
theorem cells64 : Try.prog.cellsOf 64 = 1 := by kernel_rfl
theorem tyOk65 : tyOk Try.prog 65 = true := by kernel_rfl
theorem agg65 : aggB Try.prog 65 = false := by kernel_rfl
theorem cells65 : Try.prog.cellsOf 65 = 1 := by kernel_rfl
theorem tyOk66 : tyOk Try.prog 66 = true := by kernel_rfl
theorem agg66 : aggB Try.prog 66 = false := by kernel_rfl
theorem cells66 : Try.prog.cellsOf 66 = 1 := by kernel_rfl
theorem tyOk67 : tyOk Try.prog 67 = true := by kernel_rfl
theorem agg67 : aggB Try.prog 67 = false := by kernel_rfl
theorem cells67 : Try.prog.cellsOf 67 = 1 := by kernel_rfl
theorem tyOk68 : tyOk Try.prog 68 = true := by kernel_rfl
theorem agg68 : aggB Try.prog 68 = false := by kernel_rfl
theorem cells68 : Try.prog.cellsOf 68 = 1 := by kernel_rfl
theorem tyOk69 : tyOk Try.prog 69 = true := by kernel_rfl
theorem agg69 : aggB Try.prog 69 = false := by kernel_rfl
theorem cells69 : Try.prog.cellsOf 69 = 1 := by kernel_rfl
theorem tyOk70 : tyOk Try.prog 70 = true := by kernel_rfl
theorem agg70 : aggB Try.prog 70 = true := by kernel_rfl
theorem cells70 : Try.prog.cellsOf 70 = 3 := by kernel_rfl
theorem zero70 : zeroA Try.prog 70 = some [.sc (.slice none 0 0), .sc (.int .i64 0), .sc (.int .i64 0)] := by kernel_rfl
theorem tyOk71 : tyOk Try.prog 71 = true := by kernel_rfl
theorem agg71 : aggB Try.prog 71 = true := by kernel_rfl
theorem cells71 : Try.prog.cellsOf 71 = 3 := by kernel_rfl
theorem zero71 : zeroA Try.prog 71 = some [.sc (.slice none 0 0), .sc (.int .i64 0), .sc (.int .i64 0)] := by kernel_rfl
theorem tyOk72 : tyOk Try.prog 72 = true := by kernel_rfl
theorem agg72 : aggB Try.prog 72 = false := by kernel_rfl
theorem cells72 : Try.prog.cellsOf 72 = 1 := by kernel_rfl
theorem zero72 : zeroA Try.prog 72 = some [.sc (.int .u64 0)] := by kernel_rfl
theorem info72 : (Try.prog.info? 72).map (·.bytes) = some 8 := by kernel_rfl
theorem mk72 (a b : IntKind) (m : Int) (h0 : 0 ≤ m) (h1 : m ≤ 1000000000000) : mkV Try.prog (some (.slice 72)) (.sc (.int a m)) (.sc (.int b m)) = some (ints .u64 (List.replicate m.toNat 0), fun r => .sl r 0 m.toNat 1) := mk_ints .u64 72 a b m _ zero72 info72 cells72 h0 (by omega) (by omega)
theorem bs72_0 : bsV Try.prog (some (.slice 72)) 0 [] = some (ints .u64 [], fun r => .sl r 0 0 1) := bs_ints .u64 72 0 [] zero72 tyOk72 cells72 (by decide) (by simp)
theorem bs72_1 (a0 : Int) : bsV Try.prog (some (.slice 72)) 1 [(0, .sc (.int .u64 a0))] = some (ints .u64 [a0], fun r => .sl r 0 1 1) := bs_ints .u64 72 1 [(0, a0)] zero72 tyOk72 cells72 (by decide) (by simp)
theorem bs72_2 (a0 a1 : Int) : bsV Try.prog (some (.slice 72)) 2 [(0, .sc (.int .u64 a0)), (1, .sc (.int .u64 a1))] = some (ints .u64 [a0, a1], fun r => .sl r 0 2 1) := bs_ints .u64 72 2 [(0, a0), (1, a1)] zero72 tyOk72 cells72 (by decide) (by simp)
theorem bs72_3 (a0 a1 a2 : Int) : bsV Try.prog (some (.slice 72)) 3 [(0, .sc (.int .u64 a0)), (1, .sc (.int .u64 a1)), (2, .sc (.int .u64 a2))] = some (ints .u64 [a0, a1, a2], fun r => .sl r 0 3 1) := bs_ints .u64 72 3 [(0, a0), (1, a1), (2, a2)] zero72 tyOk72 cells72 (by decide) (by simp)
theorem bs72_4 (a0 a1 a2 a3 : Int) : bsV Try.prog (some (.slice 72)) 4 [(0, .sc (.int .u64 a0)), (1, .sc (.int .u64 a1)), (2, .sc (.int .u64 a2)), (3, .sc (.int .u64 a3))] = some (ints .u64 [a0, a1, a2, a3], fun r => .sl r 0 4 1) := bs_ints .u64 72 4 [(0, a0), (1, a1), (2, a2), (3, a3)] zero72 tyOk72 cells72 (by decide) (by simp)
theorem bs72_5 (a0 a1 a2 a3 a4 : Int) : bsV Try.prog (some (.slice 72)) 5 [(0, .sc (.int .u64 a0)), (1, .sc (.int .u64 a1)), (2, .sc (.int .u64 a2)), (3, .sc (.int .u64 a3)), (4, .sc (.int .u64 a4))] = some (ints .u64 [a0, a1, a2, a3, a4], fun r => .sl r 0 5 1) := bs_ints .u64 72 5 [(0, a0), (1, a1), (2, a2), (3, a3), (4, a4)] zero72 tyOk72 cells72 (by decide) (by simp)
theorem bs72_6 (a0 a1 a2 a3 a4 a5 : Int) : bsV Try.prog (some (.slice 72)) 6 [(0, .sc (.int .u64 a0)), (1, .sc (.int .u64 a1)), (2, .sc (.int .u64 a2)), (3, .sc (.int .u64 a3)), (4, .sc (.int .u64 a4)), (5, .sc (.int .u64 a5))] = some (ints .u64 [a0, a1, a2, a3, a4, a5], fun r => .sl r 0 6 1) := bs_ints .u64 72 6 [(0, a0), (1, a1), (2, a2), (3, a3), (4, a4), (5, a5)] zero72 tyOk72 cells72 (by decide) (by simp)
theorem bs72_7 (a0 a1 a2 a3 a4 a5 a6 : Int) : bsV Try.prog (some (.slice 72)) 7 [(0, .sc (.int .u64 a0)), (1, .sc (.int .u64 a1)), (2, .sc (.int .u64 a2)), (3, .sc (.int .u64 a3)), (4, .sc (.int .u64 a4)), (5, .sc (.int .u64 a5)), (6, .sc (.int .u64 a6))] = some (ints .u64 [a0, a1, a2, a3, a4, a5, a6], fun r => .sl r 0 7 1) := bs_ints .u64 72 7 [(0, a0), (1, a1), (2, a2), (3, a3), (4, a4), (5, a5), (6, a6)] zero72 tyOk72 cells72 (by decide) (by simp)
theorem bs72_8 (a0 a1 a2 a3 a4 a5 a6 a7 : Int) : bsV Try.prog (some (.slice 72)) 8 [(0, .sc (.int .u64 a0)), (1, .sc (.int .u64 a1)), (2, .sc (.int .u64 a2)), (3, .sc (.int .u64 a3)), (4, .sc (.int .u64 a4)), (5, .sc (.int .u64 a5)), (6, .sc (.int .u64 a6)), (7, .sc (.int .u64 a7))] = some (ints .u64 [a0, a1, a2, a3, a4, a5, a6, a7], fun r => .sl r 0 8 1) := bs_ints .u64 72 8 [(0, a0), (1, a1), (2, a2), (3, a3), (4, a4), (5, a5), (6, a6), (7, a7)] zero72 tyOk72 cells72 (by decide) (by simp)
theorem bs72_10 (a0 a1 a2 a3 a4 a5 a6 a7 a8 a9 : Int) : bsV Try.prog (some (.slice 72)) 10 [(0, .sc (.int .u64 a0)), (1, .sc (.int .u64 a1)), (2, .sc (.int .u64 a2)), (3, .sc (.int .u64 a3)), (4, .sc (.int .u64 a4)), (5, .sc (.int .u64 a5)), (6, .sc (.int .u64 a6)), (7, .sc (.int .u64 a7)), (8, .sc (.int .u64 a8)), (9, .sc (.int .u64 a9))] = some (ints .u64 [a0, a1, a2, a3, a4, a5, a6, a7, a8, a9], fun r => .sl r 0 10 1) := bs_ints .u64 72 10 [(0, a0), (1, a1), (2, a2), (3, a3), (4, a4), (5, a5), (6, a6), (7, a7), (8, a8), (9, a9)] zero72 tyOk72 cells72 (by decide) (by simp)
theorem bs72_11 (a0 a1 a2 a3 a4 a5 a6 a7 a8 a9 a10 : Int) : bsV Try.prog (some (.slice 72)) 11 [(0, .sc (.int .u64 a0)), (1, .sc (.int .u64 a1)), (2, .sc (.int .u64 a2)), (3, .sc (.int .u64 a3)), (4, .sc (.int .u64 a4)), (5, .sc (.int .u64 a5)), (6, .sc (.int .u64 a6)), (7, .sc (.int .u64 a7)), (8, .sc (.int .u64 a8)), (9, .sc (.int .u64 a9)), (10, .sc (.int .u64 a10))] = some (ints .u64 [a0, a1, a2, a3, a4, a5, a6, a7, a8, a9, a10], fun r => .sl r 0 11 1) := bs_ints .u64 72 11 [(0, a0), (1, a1), (2, a2), (3, a3), (4, a4), (5, a5), (6, a6), (7, a7), (8, a8), (9, a9), (10, a10)] zero72 tyOk72 cells72 (by decide) (by simp)
theorem bs72_12 (a0 a1 a2 a3 a4 a5 a6 a7 a8 a9 a10 a11 : Int) : bsV Try.prog (some (.slice 72)) 12 [(0, .sc (.int .u64 a0)), (1, .sc (.int .u64 a1)), (2, .sc (.int .u64 a2)), (3, .sc (.int .u64 a3)), (4, .sc (.int .u64 a4)), (5, .sc (.int .u64 a5)), (6, .sc (.int .u64 a6)), (7, .sc (.int .u64 a7)), (8, .sc (.int .u64 a8)), (9, .sc (.int .u64 a9)), (10, .sc (.int .u64 a10)), (11, .sc (.int .u64 a11))] = some (ints .u64 [a0, a1, a2, a3, a4, a5, a6, a7, a8, a9, a10, a11], fun r => .sl r 0 12 1) := bs_ints .u64 72 12 [(0, a0), (1, a1), (2, a2), (3, a3), (4, a4), (5, a5), (6, a6), (7, a7), (8, a8), (9, a9), (10, a10), (11, a11)] zero72 tyOk72 cells72 (by decide) (by simp)
theorem bs72_13 (a0 a1 a2 a3 a4 a5 a6 a7 a8 a9 a10 a11 a12 : Int) : bsV Try.prog (some (.slice 72)) 13 [(0, .sc (.int .u64 a0)), (1, .sc (.int .u64 a1)), (2, .sc (.int .u64 a2)), (3, .sc (.int .u64 a3)), (4, .sc (.int .u64 a4)), (5, .sc (.int .u64 a5)), (6, .sc (.int .u64 a6)), (7, .sc (.int .u64 a7)), (8, .sc (.int .u64 a8)), (9, .sc (.int .u64 a9)), (10, .sc (.int .u64 a10)), (11, .sc (.int .u64 a11)), (12, .sc (.int .u64 a12))] = some (ints .u64 [a0, a1, a2, a3, a4, a5, a6, a7, a8, a9, a10, a11, a12], fun r => .sl r 0 13 1) := bs_ints .u64 72 13 [(0, a0), (1, a1), (2, a2), (3, a3), (4, a4), (5, a5), (6, a6), (7, a7), (8, a8), (9, a9), (10, a10), (11, a11), (12, a12)] zero72 tyOk72 cells72 (by decide) (by simp)
theorem tyOk73 : tyOk Try.prog 73 = true := by kernel_rfl
theorem agg73 : aggB Try.prog 73 = false := by kernel_rfl
theorem cells73 : Try.prog.cellsOf 73 = 1 := by kernel_rfl
theorem tyOk74 : tyOk Try.prog 74 = true := by kernel_rfl
theorem agg74 : aggB Try.prog 74 = false := by kernel_rfl
theorem cells74 : Try.prog.cellsOf 74 = 1 := by kernel_rfl
theorem tyOk75 : tyOk Try.prog 75 = true := by kernel_rfl
theorem agg75 : aggB Try.prog 75 = false := by kernel_rfl
theorem cells75 : Try.prog.cellsOf 75 = 1 := by kernel_rfl
theorem tyOk76 : tyOk Try.prog 76 = true := by kernel_rfl
theorem agg76 : aggB Try.prog 76 = false := by kernel_rfl
theorem cells76 : Try.prog.cellsOf 76 = 1 := by kernel_rfl
theorem tyOk77 : tyOk Try.prog 77 = true := by kernel_rfl
theorem agg77 : aggB Try.prog 77 = false := by kernel_rfl
theorem cells77 : Try.prog.cellsOf 77 = 1 := by kernel_rfl
theorem zero77 : zeroA Try.prog 77 = some [.sc (.int .i64 0)] := by kernel_rfl
theorem info77 : (Try.prog.info? 77).map (·.bytes) = some 8 := by kernel_rfl
theorem mk77 (a b : IntKind) (m : Int) (h0 : 0 ≤ m) (h1 : m ≤ 1000000000000) : mkV Try.prog (some (.slice 77)) (.sc (.int a m)) (.sc (.int b m)) = some (ints .i64 (List.replicate m.toNat 0), fun r => .sl r 0 m.toNat 1) := mk_ints .i64 77 a b m _ zero77 info77 cells77 h0 (by omega) (by omega)
theorem bs77_0 : bsV Try.prog (some (.slice 77)) 0 [] = some (ints .i64 [], fun r => .sl r 0 0 1) := bs_ints .i64 77 0 [] zero77 tyOk77 cells77 (by decide) (by simp)
theorem bs77_1 (a0 : Int) : bsV Try.prog (some (.slice 77)) 1 [(0, .sc (.int .i64 a0))] = some (ints .i64 [a0], fun r => .sl r 0 1 1) := bs_ints .i64 77 1 [(0, a0)] zero77 tyOk77 cells77 (by decide) (by simp)
theorem bs77_2 (a0 a1 : Int) : bsV Try.prog (some (.slice 77)) 2 [(0, .sc (.int .i64 a0)), (1, .sc (.int .i64 a1))] = some (ints .i64 [a0, a1], fun r => .sl r 0 2 1) := bs_ints .i64 77 2 [(0, a0), (1, a1)] zero77 tyOk77 cells77 (by decide) (by simp)
theorem bs77_3 (a0 a1 a2 : Int) : bsV Try.prog (some (.slice 77)) 3 [(0, .sc (.int .i64 a0)), (1, .sc (.int .i64 a1)), (2, .sc (.int .i64 a2))] = some (ints .i64 [a0, a1, a2], fun r => .sl r 0 3 1) := bs_ints .i64 77 3 [(0, a0), (1, a1), (2, a2)] zero77 tyOk77 cells77 (by decide) (by simp)
theorem bs77_4 (a0 a1 a2 a3 : Int) : bsV Try.prog (some (.slice 77)) 4 [(0, .sc (.int .i64 a0)), (1, .sc (.int .i64 a1)), (2, .sc (.int .i64 a2)), (3, .sc (.int .i64 a3))] = some (ints .i64 [a0, a1, a2, a3], fun r => .sl r 0 4 1) := bs_ints .i64 77 4 [(0, a0), (1, a1), (2, a2), (3, a3)] zero77 tyOk77 cells77 (by decide) (by simp)
theorem bs77_5 (a0 a1 a2 a3 a4 : Int) : bsV Try.prog (some (.slice 77)) 5 [(0, .sc (.int .i64 a0)), (1, .sc (.int .i64 a1)), (2, .sc (.int .i64 a2)), (3, .sc (.int .i64 a3)), (4, .sc (.int .i64 a4))] = some (ints .i64 [a0, a1, a2, a3, a4], fun r => .sl r 0 5 1) := bs_ints .i64 77 5 [(0, a0), (1, a1), (2, a2), (3, a3), (4, a4)] zero77 tyOk77 cells77 (by decide) (by simp)
theorem bs77_6 (a0 a1 a2 a3 a4 a5 : Int) : bsV Try.prog (some (.slice 77)) 6 [(0, .sc (.int .i64 a0)), (1, .sc (.int .i64 a1)), (2, .sc (.int .i64 a2)), (3, .sc (.int .i64 a3)), (4, .sc (.int .i64 a4)), (5, .sc (.int .i64 a5))] = some (ints .i64 [a0, a1, a2, a3, a4, a5], fun r => .sl r 0 6 1) := bs_ints .i64 77 6 [(0, a0), (1, a1), (2, a2), (3, a3), (4, a4), (5, a5)] zero77 tyOk77 cells77 (by decide) (by simp)
theorem bs77_7 (a0 a1 a2 a3 a4 a5 a6 : Int) : bsV Try.prog (some (.slice 77)) 7 [(0, .sc (.int .i64 a0)), (1, .sc (.int .i64 a1)), (2, .sc (.int .i64 a2)), (3, .sc (.int .i64 a3)), (4, .sc (.int .i64 a4)), (5, .sc (.int .i64 a5)), (6, .sc (.int .i64 a6))] = some (ints .i64 [a0, a1, a2, a3, a4, a5, a6], fun r => .sl r 0 7 1) := bs_ints .i64 77 7 [(0, a0), (1, a1), (2, a2), (3, a3), (4, a4), (5, a5), (6, a6)] zero77 tyOk77 cells77 (by decide) (by simp)
theorem bs77_8 (a0 a1 a2 a3 a4 a5 a6 a7 : Int) : bsV Try.prog (some (.slice 77)) 8 [(0, .sc (.int .i64 a0)), (1, .sc (.int .i64 a1)), (2, .sc (.int .i64 a2)), (3, .sc (.int .i64 a3)), (4, .sc (.int .i64 a4)), (5, .sc (.int .i64 a5)), (6, .sc (.int .i64 a6)), (7, .sc (.int .i64 a7))] = some (ints .i64 [a0, a1, a2, a3, a4, a5, a6, a7], fun r => .sl r 0 8 1) := bs_ints .i64 77 8 [(0, a0), (1, a1), (2, a2), (3, a3), (4, a4), (5, a5), (6, a6), (7, a7)] zero77 tyOk77 cells77 (by decide) (by simp)
theorem bs77_10 (a0 a1 a2 a3 a4 a5 a6 a7 a8 a9 : Int) : bsV Try.prog (some (.slice 77)) 10 [(0, .sc (.int .i64 a0)), (1, .sc (.int .i64 a1)), (2, .sc (.int .i64 a2)), (3, .sc (.int .i64 a3)), (4, .sc (.int .i64 a4)), (5, .sc (.int .i64 a5)), (6, .sc (.int .i64 a6)), (7, .sc (.int .i64 a7)), (8, .sc (.int .i64 a8)), (9, .sc (.int .i64 a9))] = some (ints .i64 [a0, a1, a2, a3, a4, a5, a6, a7, a8, a9], fun r => .sl r 0 10 1) := bs_ints .i64 77 10 [(0, a0), (1, a1), (2, a2), (3, a3), (4, a4), (5, a5), (6, a6), (7, a7), (8, a8), (9, a9)] zero77 tyOk77 cells77 (by decide) (by simp)
theorem bs77_11 (a0 a1 a2 a3 a4 a5 a6 a7 a8 a9 a10 : Int) : bsV Try.prog (some (.slice 77)) 11 [(0, .sc (.int .i64 a0)), (1, .sc (.int .i64 a1)), (2, .sc (.int .i64 a2)), (3, .sc (.int .i64 a3)), (4, .sc (.int .i64 a4)), (5, .sc (.int .i64 a5)), (6, .sc (.int .i64 a6)), (7, .sc (.int .i64 a7)), (8, .sc (.int .i64 a8)), (9, .sc (.int .i64 a9)), (10, .sc (.int .i64 a10))] = some (ints .i64 [a0, a1, a2, a3, a4, a5, a6, a7, a8, a9, a10], fun r => .sl r 0 11 1) := bs_ints .i64 77 11 [(0, a0), (1, a1), (2, a2), (3, a3), (4, a4), (5, a5), (6, a6), (7, a7), (8, a8), (9, a9), (10, a10)] zero77 tyOk77 cells77 (by decide) (by simp)
theorem bs77_12 (a0 a1 a2 a3 a4 a5 a6 a7 a8 a9 a10 a11 : Int) : bsV Try.prog (some (.slice 77)) 12 [(0, .sc (.int .i64 a0)), (1, .sc (.int .i64 a1)), (2, .sc (.int .i64 a2)), (3, .sc (.int .i64 a3)), (4, .sc (.int .i64 a4)), (5, .sc (.int .i64 a5)), (6, .sc (.int .i64 a6)), (7, .sc (.int .i64 a7)), (8, .sc (.int .i64 a8)), (9, .sc (.int .i64 a9)), (10, .sc (.int .i64 a10)), (11, .sc (.int .i64 a11))] = some (ints .i64 [a0, a1, a2, a3, a4, a5, a6, a7, a8, a9, a10, a11], fun r => .sl r 0 12 1) := bs_ints .i64 77 12 [(0, a0), (1, a1), (2, a2), (3, a3), (4, a4), (5, a5), (6, a6), (7, a7), (8, a8), (9, a9), (10, a10), (11, a11)] zero77 tyOk77 cells77 (by decide) (by simp)
theorem bs77_13 (a0 a1 a2 a3 a4 a5 a6 a7 a8 a9 a10 a11 a12 : Int) : bsV Try.prog (some (.slice 77)) 13 [(0, .sc (.int .i64 a0)), (1, .sc (.int .i64 a1)), (2, .sc (.int .i64 a2)), (3, .sc (.int .i64 a3)), (4, .sc (.int .i64 a4)), (5, .sc (.int .i64 a5)), (6, .sc (.int .i64 a6)), (7, .sc (.int .i64 a7)), (8, .sc (.int .i64 a8)), (9, .sc (.int .i64 a9)), (10, .sc (.int .i64 a10)), (11, .sc (.int .i64 a11)), (12, .sc (.int .i64 a12))] = some (ints .i64 [a0, a1, a2, a3, a4, a5, a6, a7, a8, a9, a10, a11, a12], fun r => .sl r 0 13 1) := bs_ints .i64 77 13 [(0, a0), (1, a1), (2, a2), (3, a3), (4, a4), (5, a5), (6, a6), (7, a7), (8, a8), (9, a9), (10, a10), (11, a11), (12, a12)] zero77 tyOk77 cells77 (by decide) (by simp)
theorem tyOk78 : tyOk Try.prog 78 = true := by kernel_rfl
theorem agg78 : aggB Try.prog 78 = false := by kernel_rfl
theorem cells78 : Try.prog.cellsOf 78 = 1 := by kernel_rfl
theorem tyOk79 : tyOk Try.prog 79 = true := by kernel_rfl
theorem agg79 : aggB Try.prog 79 = false := by kernel_rfl
theorem cells79 : Try.prog.cellsOf 79 = 1 := by kernel_rfl
theorem tyOk80 : tyOk Try.prog 80 = true := by kernel_rfl
theorem agg80 : aggB Try.prog 80 = false := by kernel_rfl
theorem cells80 : Try.prog.cellsOf 80 = 1 := by kernel_rfl
theorem tyOk81 : tyOk Try.prog 81 = true := by kernel_rfl
theorem agg81 : aggB Try.prog 81 = false := by kernel_rfl
theorem cells81 : Try.prog.cellsOf 81 = 1 := by kernel_rfl
theorem tyOk82 : tyOk Try.prog 82 = true := by kernel_rfl
theorem agg82 : aggB Try.prog 82 = false := by kernel_rfl
theorem cells82 : Try.prog.cellsOf 82 = 1 := by kernel_rfl
theorem tyOk83 : tyOk Try.prog 83 = true := by kernel_rfl
theorem agg83 : aggB Try.prog 83 = false := by kernel_rfl
theorem cells83 : Try.prog.cellsOf 83 = 1 := by kernel_rfl
theorem tyOk84 : tyOk Try.prog 84 = true := by kernel_rfl
theorem agg84 : aggB Try.prog 84 = false := by kernel_rfl
theorem cells84 : Try.prog.cellsOf 84 = 1 := by kernel_rfl
theorem tyOk85 : tyOk Try.prog 85 = true := by kernel_rfl
theorem agg85 : aggB Try.prog 85 = false := by kernel_rfl
theorem cells85 : Try.prog.cellsOf 85 = 1 := by kernel_rfl
theorem tyOk86 : tyOk Try.prog 86 = true := by kernel_rfl
theorem agg86 : aggB Try.prog 86 = false := by kernel_rfl
theorem cells86 : Try.prog.cellsOf 86 = 1 := by kernel_rfl
theorem zero86 : zeroA Try.prog 86 = some [.sc (.int .u32 0)] := by kernel_rfl
theorem info86 : (Try.prog.info? 86).map (·.bytes) = some 4 := by kernel_rfl
theorem mk86 (a b : IntKind) (m : Int) (h0 : 0 ≤ m) (h1 : m ≤ 1000000000000) : mkV Try.prog (some (.slice 86)) (.sc (.int a m)) (.sc (.int b m)) = some (ints .u32 (List.replicate m.toNat 0), fun r => .sl r 0 m.toNat 1) := mk_ints .u32 86 a b m _ zero86 info86 cells86 h0 (by omega) (by omega)
theorem bs86_0 : bsV Try.prog (some (.slice 86)) 0 [] = some (ints .u32 [], fun r => .sl r 0 0 1) := bs_ints .u32 86 0 [] zero86 tyOk86 cells86 (by decide) (by simp)
theorem bs86_1 (a0 : Int) : bsV Try.prog (some (.slice 86)) 1 [(0, .sc (.int .u32 a0))] = some (ints .u32 [a0], fun r => .sl r 0 1 1) := bs_ints .u32 86 1 [(0, a0)] zero86 tyOk86 cells86 (by decide) (by simp)
theorem bs86_2 (a0 a1 : Int) : bsV Try.prog (some (.slice 86)) 2 [(0, .sc (.int .u32 a0)), (1, .sc (.int .u32 a1))] = some (ints .u32 [a0, a1], fun r => .sl r 0 2 1) := bs_ints .u32 86 2 [(0, a0), (1, a1)] zero86 tyOk86 cells86 (by decide) (by simp)
theorem bs86_3 (a0 a1 a2 : Int) : bsV Try.prog (some (.slice 86)) 3 [(0, .sc (.int .u32 a0)), (1, .sc (.int .u32 a1)), (2, .sc (.int .u32 a2))] = some (ints .u32 [a0, a1, a2], fun r => .sl r 0 3 1) := bs_ints .u32 86 3 [(0, a0), (1, a1), (2, a2)] zero86 tyOk86 cells86 (by decide) (by simp)
theorem bs86_4 (a0 a1 a2 a3 : Int) : bsV Try.prog (some (.slice 86)) 4 [(0, .sc (.int .u32 a0)), (1, .sc (.int .u32 a1)), (2, .sc (.int .u32 a2)), (3, .sc (.int .u32 a3))] = some (ints .u32 [a0, a1, a2, a3], fun r => .sl r 0 4 1) := bs_ints .u32 86 4 [(0, a0), (1, a1), (2, a2), (3, a3)] zero86 tyOk86 cells86 (by decide) (by simp)
theorem bs86_5 (a0 a1 a2 a3 a4 : Int) : bsV Try.prog (some (.slice 86)) 5 [(0, .sc (.int .u32 a0)), (1, .sc (.int .u32 a1)), (2, .sc (.int .u32 a2)), (3, .sc (.int .u32 a3)), (4, .sc (.int .u32 a4))] = some (ints .u32 [a0, a1, a2, a3, a4], fun r => .sl r 0 5 1) := bs_ints .u32 86 5 [(0, a0), (1, a1), (2, a2), (3, a3), (4, a4)] zero86 tyOk86 cells86 (by decide) (by simp)
theorem bs86_6 (a0 a1 a2 a3 a4 a5 : Int) : bsV Try.prog (some (.slice 86)) 6 [(0, .sc (.int .u32 a0)), (1, .sc (.int .u32 a1)), (2, .sc (.int .u32 a2)), (3, .sc (.int .u32 a3)), (4, .sc (.int .u32 a4)), (5, .sc (.int .u32 a5))] = some (ints .u32 [a0, a1, a2, a3, a4, a5], fun r => .sl r 0 6 1) := bs_ints .u32 86 6 [(0, a0), (1, a1), (2, a2), (3, a3), (4, a4), (5, a5)] zero86 tyOk86 cells86 (by decide) (by simp)
theorem bs86_7 (a0 a1 a2 a3 a4 a5 a6 : Int) : bsV Try.prog (some (.slice 86)) 7 [(0, .sc (.int .u32 a0)), (1, .sc (.int .u32 a1)), (2, .sc (.int .u32 a2)), (3, .sc (.int .u32 a3)), (4, .sc (.int .u32 a4)), (5, .sc (.int .u32 a5)), (6, .sc (.int .u32 a6))] = some (ints .u32 [a0, a1, a2, a3, a4, a5, a6], fun r => .sl r 0 7 1) := bs_ints .u32 86 7 [(0, a0), (1, a1), (2, a2), (3, a3), (4, a4), (5, a5), (6, a6)] zero86 tyOk86 cells86 (by decide) (by simp)
theorem bs86_8 (a0 a1 a2 a3 a4 a5 a6 a7 : Int) : bsV Try.prog (some (.slice 86)) 8 [(0, .sc (.int .u32 a0)), (1, .sc (.int .u32 a1)), (2, .sc (.int .u32 a2)), (3, .sc (.int .u32 a3)), (4, .sc (.int .u32 a4)), (5, .sc (.int .u32 a5)), (6, .sc (.int .u32 a6)), (7, .sc (.int .u32 a7))] = some (ints .u32 [a0, a1, a2, a3, a4, a5, a6, a7], fun r => .sl r 0 8 1) := bs_ints .u32 86 8 [(0, a0), (1, a1), (2, a2), (3, a3), (4, a4), (5, a5), (6, a6), (7, a7)] zero86 tyOk86 cells86 (by decide) (by simp)
theorem bs86_10 (a0 a1 a2 a3 a4 a5 a6 a7 a8 a9 : Int) : bsV Try.prog (some (.slice 86)) 10 [(0, .sc (.int .u32 a0)), (1, .sc (.int .u32 a1)), (2, .sc (.int .u32 a2)), (3, .sc (.int .u32 a3)), (4, .sc (.int .u32 a4)), (5, .sc (.int .u32 a5)), (6, .sc (.int .u32 a6)), (7, .sc (.int .u32 a7)), (8, .sc (.int .u32 a8)), (9, .sc (.int .u32 a9))] = some (ints .u32 [a0, a1, a2, a3, a4, a5, a6, a7, a8, a9], fun r => .sl r 0 10 1) := bs_ints .u32 86 10 [(0, a0), (1, a1), (2, a2), (3, a3), (4, a4), (5, a5), (6, a6), (7, a7), (8, a8), (9, a9)] zero86 tyOk86 cells86 (by decide) (by simp)
theorem bs86_11 (a0 a1 a2 a3 a4 a5 a6 a7 a8 a9 a10 : Int) : bsV Try.prog (some (.slice 86)) 11 [(0, .sc (.int .u32 a0)), (1, .sc (.int .u32 a1)), (2, .sc (.int .u32 a2)), (3, .sc (.int .u32 a3)), (4, .sc (.int .u32 a4)), (5, .sc (.int .u32 a5)), (6, .sc (.int .u32 a6)), (7, .sc (.int .u32 a7)), (8, .sc (.int .u32 a8)), (9, .sc (.int .u32 a9)), (10, .sc (.int .u32 a10))] = some (ints .u32 [a0, a1, a2, a3, a4, a5, a6, a7, a8, a9, a10], fun r => .sl r 0 11 1) := bs_ints .u32 86 11 [(0, a0), (1, a1), (2, a2), (3, a3), (4, a4), (5, a5), (6, a6), (7, a7), (8, a8), (9, a9), (10, a10)] zero86 tyOk86 cells86 (by decide) (by simp)
theorem bs86_12 (a0 a1 a2 a3 a4 a5 a6 a7 a8 a9 a10 a11 : Int) : bsV Try.prog (some (.slice 86)) 12 [(0, .sc (.int .u32 a0)), (1, .sc (.int .u32 a1)), (2, .sc (.int .u32 a2)), (3, .sc (.int .u32 a3)), (4, .sc (.int .u32 a4)), (5, .sc (.int .u32 a5)), (6, .sc (.int .u32 a6)), (7, .sc (.int .u32 a7)), (8, .sc (.int .u32 a8)), (9, .sc (.int .u32 a9)), (10, .sc (.int .u32 a10)), (11, .sc (.int .u32 a11))] = some (ints .u32 [a0, a1, a2, a3, a4, a5, a6, a7, a8, a9, a10, a11], fun r => .sl r 0 12 1) := bs_ints .u32 86 12 [(0, a0), (1, a1), (2, a2), (3, a3), (4, a4), (5, a5), (6, a6), (7, a7), (8, a8), (9, a9), (10, a10), (11, a11)] zero86 tyOk86 cells86 (by decide) (by simp)
theorem bs86_13 (a0 a1 a2 a3 a4 a5 a6 a7 a8 a9 a10 a11 a12 : Int) : bsV Try.prog (some (.slice 86)) 13 [(0, .sc (.int .u32 a0)), (1, .sc (.int .u32 a1)), (2, .sc (.int .u32 a2)), (3, .sc (.int .u32 a3)), (4, .sc (.int .u32 a4)), (5, .sc (.int .u32 a5)), (6, .sc (.int .u32 a6)), (7, .sc (.int .u32 a7)), (8, .sc (.int .u32 a8)), (9, .sc (.int .u32 a9)), (10, .sc (.int .u32 a10)), (11, .sc (.int .u32 a11)), (12, .sc (.int .u32 a12))] = some (ints .u32 [a0, a1, a2, a3, a4, a5, a6, a7, a8, a9, a10, a11, a12], fun r => .sl r 0 13 1) := bs_ints .u32 86 13 [(0, a0), (1, a1), (2, a2), (3, a3), (4, a4), (5, a5), (6, a6), (7, a7), (8, a8), (9, a9), (10, a10), (11, a11), (12, a12)] zero86 tyOk86 cells86 (by decide) (by simp)
theorem tyOk87 : tyOk Try.prog 87 = true := by kernel_rfl
theorem agg87 : aggB Try.prog 87 = false := by kernel_rfl
theorem cells87 : Try.prog.cellsOf 87 = 1 := by kernel_rfl
theorem tyOk88 : tyOk Try.prog 88 = true := by kernel_rfl
theorem agg88 : aggB Try.prog 88 = false := by kernel_rfl
theorem cells88 : Try.prog.cellsOf 88 = 1 := by kernel_rfl
theorem zero88 : zeroA Try.prog 88 = some [.sc (.int .u64 0)] := by kernel_rfl
theorem info88 : (Try.prog.info? 88).map (·.bytes) = some 8 := by kernel_rfl
theorem mk88 (a b : IntKind) (m : Int) (h0 : 0 ≤ m) (h1 : m ≤ 1000000000000) : mkV Try.prog (some (.slice 88)) (.sc (.int a m)) (.sc (.int b m)) = some (ints .u64 (List.replicate m.toNat 0), fun r => .sl r 0 m.toNat 1) := mk_ints .u64 88 a b m _ zero88 info88 cells88 h0 (by omega) (by omega)
theorem bs88_0 : bsV Try.prog (some (.slice 88)) 0 [] = some (ints .u64 [], fun r => .sl r 0 0 1) := bs_ints .u64 88 0 [] zero88 tyOk88 cells88 (by decide) (by simp)
theorem bs88_1 (a0 : Int) : bsV Try.prog (some (.slice 88)) 1 [(0, .sc (.int .u64 a0))] = some (ints .u64 [a0], fun r => .sl r 0 1 1) := bs_ints .u64 88 1 [(0, a0)] zero88 tyOk88 cells88 (by decide) (by simp)
theorem bs88_2 (a0 a1 : Int) : bsV Try.prog (some (.slice 88)) 2 [(0, .sc (.int .u64 a0)), (1, .sc (.int .u64 a1))] = some (ints .u64 [a0, a1], fun r => .sl r 0 2 1) := bs_ints .u64 88 2 [(0, a0), (1, a1)] zero88 tyOk88 cells88 (by decide) (by simp)
theorem bs88_3 (a0 a1 a2 : Int) : bsV Try.prog (some (.slice 88)) 3 [(0, .sc (.int .u64 a0)), (1, .sc (.int .u64 a1)), (2, .sc (.int .u64 a2))] = some (ints .u64 [a0, a1, a2], fun r => .sl r 0 3 1) := bs_ints .u64 88 3 [(0, a0), (1, a1), (2, a2)] zero88 tyOk88 cells88 (by decide) (by simp)
theorem bs88_4 (a0 a1 a2 a3 : Int) : bsV Try.prog (some (.slice 88)) 4 [(0, .sc (.int .u64 a0)), (1, .sc (.int .u64 a1)), (2, .sc (.int .u64 a2)), (3, .sc (.int .u64 a3))] = some (ints .u64 [a0, a1, a2, a3], fun r => .sl r 0 4 1) := bs_ints .u64 88 4 [(0, a0), (1, a1), (2, a2), (3, a3)] zero88 tyOk88 cells88 (by decide) (by simp)
theorem bs88_5 (a0 a1 a2 a3 a4 : Int) : bsV Try.prog (some (.slice 88)) 5 [(0, .sc (.int .u64 a0)), (1, .sc (.int .u64 a1)), (2, .sc (.int .u64 a2)), (3, .sc (.int .u64 a3)), (4, .sc (.int .u64 a4))] = some (ints .u64 [a0, a1, a2, a3, a4], fun r => .sl r 0 5 1) := bs_ints .u64 88 5 [(0, a0), (1, a1), (2, a2), (3, a3), (4, a4)] zero88 tyOk88 cells88 (by decide) (by simp)
theorem bs88_6 (a0 a1 a2 a3 a4 a5 : Int) : bsV Try.prog (some (.slice 88)) 6 [(0, .sc (.int .u64 a0)), (1, .sc (.int .u64 a1)), (2, .sc (.int .u64 a2)), (3, .sc (.int .u64 a3)), (4, .sc (.int .u64 a4)), (5, .sc (.int .u64 a5))] = some (ints .u64 [a0, a1, a2, a3, a4, a5], fun r => .sl r 0 6 1) := bs_ints .u64 88 6 [(0, a0), (1, a1), (2, a2), (3, a3), (4, a4), (5, a5)] zero88 tyOk88 cells88 (by decide) (by simp)
theorem bs88_7 (a0 a1 a2 a3 a4 a5 a6 : Int) : bsV Try.prog (some (.slice 88)) 7 [(0, .sc (.int .u64 a0)), (1, .sc (.int .u64 a1)), (2, .sc (.int .u64 a2)), (3, .sc (.int .u64 a3)), (4, .sc (.int .u64 a4)), (5, .sc (.int .u64 a5)), (6, .sc (.int .u64 a6))] = some (ints .u64 [a0, a1, a2, a3, a4, a5, a6], fun r => .sl r 0 7 1) := bs_ints .u64 88 7 [(0, a0), (1, a1), (2, a2), (3, a3), (4, a4), (5, a5), (6, a6)] zero88 tyOk88 cells88 (by decide) (by simp)
theorem bs88_8 (a0 a1 a2 a3 a4 a5 a6 a7 : Int) : bsV Try.prog (some (.slice 88)) 8 [(0, .sc (.int .u64 a0)), (1, .sc (.int .u64 a1)), (2, .sc (.int .u64 a2)), (3, .sc (.int .u64 a3)), (4, .sc (.int .u64 a4)), (5, .sc (.int .u64 a5)), (6, .sc (.int .u64 a6)), (7, .sc (.int .u64 a7))] = some (ints .u64 [a0, a1, a2, a3, a4, a5, a6, a7], fun r => .sl r 0 8 1) := bs_ints .u64 88 8 [(0, a0), (1, a1), (2, a2), (3, a3), (4, a4), (5, a5), (6, a6), (7, a7)] zero88 tyOk88 cells88 (by decide) (by simp)
theorem bs88_10 (a0 a1 a2 a3 a4 a5 a6 a7 a8 a9 : Int) : bsV Try.prog (some (.slice 88)) 10 [(0, .sc (.int .u64 a0)), (1, .sc (.int .u64 a1)), (2, .sc (.int .u64 a2)), (3, .sc (.int .u64 a3)), (4, .sc (.int .u64 a4)), (5, .sc (.int .u64 a5)), (6, .sc (.int .u64 a6)), (7, .sc (.int .u64 a7)), (8, .sc (.int .u64 a8)), (9, .sc (.int .u64 a9))] = some (ints .u64 [a0, a1, a2, a3, a4, a5, a6, a7, a8, a9], fun r => .sl r 0 10 1) := bs_ints .u64 88 10 [(0, a0), (1, a1), (2, a2), (3, a3), (4, a4), (5, a5), (6, a6), (7, a7), (8, a8), (9, a9)] zero88 tyOk88 cells88 (by decide) (by simp)
theorem bs88_11 (a0 a1 a2 a3 a4 a5 a6 a7 a8 a9 a10 : Int) : bsV Try.prog (some (.slice 88)) 11 [(0, .sc (.int .u64 a0)), (1, .sc (.int .u64 a1)), (2, .sc (.int .u64 a2)), (3, .sc (.int .u64 a3)), (4, .sc (.int .u64 a4)), (5, .sc (.int .u64 a5)), (6, .sc (.int .u64 a6)), (7, .sc (.int .u64 a7)), (8, .sc (.int .u64 a8)), (9, .sc (.int .u64 a9)), (10, .sc (.int .u64 a10))] = some (ints .u64 [a0, a1, a2, a3, a4, a5, a6, a7, a8, a9, a10], fun r => .sl r 0 11 1) := bs_ints .u64 88 11 [(0, a0), (1, a1), (2, a2), (3, a3), (4, a4), (5, a5), (6, a6), (7, a7), (8, a8), (9, a9), (10, a10)] zero88 tyOk88 cells88 (by decide) (by simp)
theorem bs88_12 (a0 a1 a2 a3 a4 a5 a6 a7 a8 a9 a10 a11 : Int) : bsV Try.prog (some (.slice 88)) 12 [(0, .sc (.int .u64 a0)), (1, .sc (.int .u64 a1)), (2, .sc (.int .u64 a2)), (3, .sc (.int .u64 a3)), (4, .sc (.int .u64 a4)), (5, .sc (.int .u64 a5)), (6, .sc (.int .u64 a6)), (7, .sc (.int .u64 a7)), (8, .sc (.int .u64 a8)), (9, .sc (.int .u64 a9)), (10, .sc (.int .u64 a10)), (11, .sc (.int .u64 a11))] = some (ints .u64 [a0, a1, a2, a3, a4, a5, a6, a7, a8, a9, a10, a11], fun r => .sl r 0 12 1) := bs_ints .u64 88 12 [(0, a0), (1, a1), (2, a2), (3, a3), (4, a4), (5, a5), (6, a6), (7, a7), (8, a8), (9, a9), (10, a10), (11, a11)] zero88 tyOk88 cells88 (by decide) (by simp)
theorem bs88_13 (a0 a1 a2 a3 a4 a5 a6 a7 a8 a9 a10 a11 a12 : Int) : bsV Try.prog (some (.slice 88)) 13 [(0, .sc (.int .u64 a0)), (1, .sc (.int .u64 a1)), (2, .sc (.int .u64 a2)), (3, .sc (.int .u64 a3)), (4, .sc (.int .u64 a4)), (5, .sc (.int .u64 a5)), (6, .sc (.int .u64 a6)), (7, .sc (.int .u64 a7)), (8, .sc (.int .u64 a8)), (9, .sc (.int .u64 a9)), (10, .sc (.int .u64 a10)), (11, .sc (.int .u64 a11)), (12, .sc (.int .u64 a12))] = some (ints .u64 [a0, a1, a2, a3, a4, a5, a6, a7, a8, a9, a10, a11, a12], fun r => .sl r 0 13 1) := bs_ints .u64 88 13 [(0, a0), (1, a1), (2, a2), (3, a3), (4, a4), (5, a5), (6, a6), (7, a7), (8, a8), (9, a9), (10, a10), (11, a11), (12, a12)] zero88 tyOk88 cells88 (by decide) (by simp)
theorem tyOk89 : tyOk Try.prog 89 = true := by kernel_rfl
theorem agg89 : aggB Try.prog 89 = false := by kernel_rfl
theorem cells89 : Try.prog.cellsOf 89 = 1 := by kernel_rfl
theorem zero89 : zeroA Try.prog 89 = some [.sc (.int .u64 0)] := by kernel_rfl
theorem info89 : (Try.prog.info? 89).map (·.bytes) = some 8 := by kernel_rfl
theorem mk89 (a b : IntKind) (m : Int) (h0 : 0 ≤ m) (h1 : m ≤ 1000000000000) : mkV Try.prog (some (.slice 89)) (.sc (.int a m)) (.sc (.int b m)) = some (ints .u64 (List.replicate m.toNat 0), fun r => .sl r 0 m.toNat 1) := mk_ints .u64 89 a b m _ zero89 info89 cells89 h0 (by omega) (by omega)
theorem bs89_0 : bsV Try.prog (some (.slice 89)) 0 [] = some (ints .u64 [], fun r => .sl r 0 0 1) := bs_ints .u64 89 0 [] zero89 tyOk89 cells89 (by decide) (by simp)
theorem bs89_1 (a0 : Int) : bsV Try.prog (some (.slice 89)) 1 [(0, .sc (.int .u64 a0))] = some (ints .u64 [a0], fun r => .sl r 0 1 1) := bs_ints .u64 89 1 [(0, a0)] zero89 tyOk89 cells89 (by decide) (by simp)
theorem bs89_2 (a0 a1 : Int) : bsV Try.prog (some (.slice 89)) 2 [(0, .sc (.int .u64 a0)), (1, .sc (.int .u64 a1))] = some (ints .u64 [a0, a1], fun r => .sl r 0 2 1) := bs_ints .u64 89 2 [(0, a0), (1, a1)] zero89 tyOk89 cells89 (by decide) (by simp)
theorem bs89_3 (a0 a1 a2 : Int) : bsV Try.prog (some (.slice 89)) 3 [(0, .sc (.int .u64 a0)), (1, .sc (.int .u64 a1)), (2, .sc (.int .u64 a2))] = some (ints .u64 [a0, a1, a2], fun r => .sl r 0 3 1) := bs_ints .u64 89 3 [(0, a0), (1, a1), (2, a2)] zero89 tyOk89 cells89 (by decide) (by simp)
theorem bs89_4 (a0 a1 a2 a3 : Int) : bsV Try.prog (some (.slice 89)) 4 [(0, .sc (.int .u64 a0)), (1, .sc (.int .u64 a1)), (2, .sc (.int .u64 a2)), (3, .sc (.int .u64 a3))] = some (ints .u64 [a0, a1, a2, a3], fun r => .sl r 0 4 1) := bs_ints .u64 89 4 [(0, a0), (1, a1), (2, a2), (3, a3)] zero89 tyOk89 cells89 (by decide) (by simp)
theorem bs89_5 (a0 a1 a2 a3 a4 : Int) : bsV Try.prog (some (.slice 89)) 5 [(0, .sc (.int .u64 a0)), (1, .sc (.int .u64 a1)), (2, .sc (.int .u64 a2)), (3, .sc (.int .u64 a3)), (4, .sc (.int .u64 a4))] = some (ints .u64 [a0, a1, a2, a3, a4], fun r => .sl r 0 5 1) := bs_ints .u64 89 5 [(0, a0), (1, a1), (2, a2), (3, a3), (4, a4)] zero89 tyOk89 cells89 (by decide) (by simp)
theorem bs89_6 (a0 a1 a2 a3 a4 a5 : Int) : bsV Try.prog (some (.slice 89)) 6 [(0, .sc (.int .u64 a0)), (1, .sc (.int .u64 a1)), (2, .sc (.int .u64 a2)), (3, .sc (.int .u64 a3)), (4, .sc (.int .u64 a4)), (5, .sc (.int .u64 a5))] = some (ints .u64 [a0, a1, a2, a3, a4, a5], fun r => .sl r 0 6 1) := bs_ints .u64 89 6 [(0, a0), (1, a1), (2, a2), (3, a3), (4, a4), (5, a5)] zero89 tyOk89 cells89 (by decide) (by simp)
theorem bs89_7 (a0 a1 a2 a3 a4 a5 a6 : Int) : bsV Try.prog (some (.slice 89)) 7 [(0, .sc (.int .u64 a0)), (1, .sc (.int .u64 a1)), (2, .sc (.int .u64 a2)), (3, .sc (.int .u64 a3)), (4, .sc (.int .u64 a4)), (5, .sc (.int .u64 a5)), (6, .sc (.int .u64 a6))] = some (ints .u64 [a0, a1, a2, a3, a4, a5, a6], fun r => .sl r 0 7 1) := bs_ints .u64 89 7 [(0, a0), (1, a1), (2, a2), (3, a3), (4, a4), (5, a5), (6, a6)] zero89 tyOk89 cells89 (by decide) (by simp)
theorem bs89_8 (a0 a1 a2 a3 a4 a5 a6 a7 : Int) : bsV Try.prog (some (.slice 89)) 8 [(0, .sc (.int .u64 a0)), (1, .sc (.int .u64 a1)), (2, .sc (.int .u64 a2)), (3, .sc (.int .u64 a3)), (4, .sc (.int .u64 a4)), (5, .sc (.int .u64 a5)), (6, .sc (.int .u64 a6)), (7, .sc (.int .u64 a7))] = some (ints .u64 [a0, a1, a2, a3, a4, a5, a6, a7], fun r => .sl r 0 8 1) := bs_ints .u64 89 8 [(0, a0), (1, a1), (2, a2), (3, a3), (4, a4), (5, a5), (6, a6), (7, a7)] zero89 tyOk89 cells89 (by decide) (by simp)
theorem bs89_10 (a0 a1 a2 a3 a4 a5 a6 a7 a8 a9 : Int) : bsV Try.prog (some (.slice 89)) 10 [(0, .sc (.int .u64 a0)), (1, .sc (.int .u64 a1)), (2, .sc (.int .u64 a2)), (3, .sc (.int .u64 a3)), (4, .sc (.int .u64 a4)), (5, .sc (.int .u64 a5)), (6, .sc (.int .u64 a6)), (7, .sc (.int .u64 a7)), (8, .sc (.int .u64 a8)), (9, .sc (.int .u64 a9))] = some (ints .u64 [a0, a1, a2, a3, a4, a5, a6, a7, a8, a9], fun r => .sl r 0 10 1) := bs_ints .u64 89 10 [(0, a0), (1, a1), (2, a2), (3, a3), (4, a4), (5, a5), (6, a6), (7, a7), (8, a8), (9, a9)] zero89 tyOk89 cells89 (by decide) (by simp)
theorem bs89_11 (a0 a1 a2 a3 a4 a5 a6 a7 a8 a9 a10 : Int) : bsV Try.prog (some (.slice 89)) 11 [(0, .sc (.int .u64 a0)), (1, .sc (.int .u64 a1)), (2, .sc (.int .u64 a2)), (3, .sc (.int .u64 a3)), (4, .sc (.int .u64 a4)), (5, .sc (.int .u64 a5)), (6, .sc (.int .u64 a6)), (7, .sc (.int .u64 a7)), (8, .sc (.int .u64 a8)), (9, .sc (.int .u64 a9)), (10, .sc (.int .u64 a10))] = some (ints .u64 [a0, a1, a2, a3, a4, a5, a6, a7, a8, a9, a10], fun r => .sl r 0 11 1) := bs_ints .u64 89 11 [(0, a0), (1, a1), (2, a2), (3, a3), (4, a4), (5, a5), (6, a6), (7, a7), (8, a8), (9, a9), (10, a10)] zero89 tyOk89 cells89 (by decide) (by simp)
theorem bs89_12 (a0 a1 a2 a3 a4 a5 a6 a7 a8 a9 a10 a11 : Int) : bsV Try.prog (some (.slice 89)) 12 [(0, .sc (.int .u64 a0)), (1, .sc (.int .u64 a1)), (2, .sc (.int .u64 a2)), (3, .sc (.int .u64 a3)), (4, .sc (.int .u64 a4)), (5, .sc (.int .u64 a5)), (6, .sc (.int .u64 a6)), (7, .sc (.int .u64 a7)), (8, .sc (.int .u64 a8)), (9, .sc (.int .u64 a9)), (10, .sc (.int .u64 a10)), (11, .sc (.int .u64 a11))] = some (ints .u64 [a0, a1, a2, a3, a4, a5, a6, a7, a8, a9, a10, a11], fun r => .sl r 0 12 1) := bs_ints .u64 89 12 [(0, a0), (1, a1), (2, a2), (3, a3), (4, a4), (5, a5), (6, a6), (7, a7), (8, a8), (9, a9), (10, a10), (11, a11)] zero89 tyOk89 cells89 (by decide) (by simp)
theorem bs89_13 (a0 a1 a2 a3 a4 a5 a6 a7 a8 a9 a10 a11 a12 : Int) : bsV Try.prog (some (.slice 89)) 13 [(0, .sc (.int .u64 a0)), (1, .sc (.int .u64 a1)), (2, .sc (.int .u64 a2)), (3, .sc (.int .u64 a3)), (4, .sc (.int .u64 a4)), (5, .sc (.int .u64 a5)), (6, .sc (.int .u64 a6)), (7, .sc (.int .u64 a7)), (8, .sc (.int .u64 a8)), (9, .sc (.int .u64 a9)), (10, .sc (.int .u64 a10)), (11, .sc (.int .u64 a11)), (12, .sc (.int .u64 a12))] = some (ints .u64 [a0, a1, a2, a3, a4, a5, a6, a7, a8, a9, a10, a11, a12], fun r => .sl r 0 13 1) := bs_ints .u64 89 13 [(0, a0), (1, a1), (2, a2), (3, a3), (4, a4), (5, a5), (6, a6), (7, a7), (8, a8), (9, a9), (10, a10), (11, a11), (12, a12)] zero89 tyOk89 cells89 (by decide) (by simp)
theorem tyOk90 : tyOk Try.prog 90 = true := by kernel_rfl
theorem agg90 : aggB Try.prog 90 = false := by kernel_rfl
theorem cells90 : Try.prog.cellsOf 90 = 1 := by kernel_rfl
theorem tyOk91 : tyOk Try.prog 91 = true := by kernel_rfl
theorem agg91 : aggB Try.prog 91 = false := by kernel_rfl
theorem cells91 : Try.prog.cellsOf 91 = 1 := by kernel_rfl
theorem tyOk92 : tyOk Try.prog 92 = true := by kernel_rfl
theorem agg92 : aggB Try.prog 92 = false := by kernel_rfl
theorem cells92 : Try.prog.cellsOf 92 = 1 := by kernel_rfl
theorem tyOk93 : tyOk Try.prog 93 = true := by kernel_rfl
theorem agg93 : aggB Try.prog 93 = false := by kernel_rfl
theorem cells93 : Try.prog.cellsOf 93 = 1 := by kernel_rfl
theorem zero93 : zeroA Try.prog 93 = some [.sc (.pointer none)] := by kernel_rfl
theorem tyOk94 : tyOk Try.prog 94 = true := by kernel_rfl
theorem agg94 : aggB Try.prog 94 = false := by kernel_rfl
theorem cells94 : Try.prog.cellsOf 94 = 1 := by kernel_rfl
theorem tyOk95 : tyOk Try.prog 95 = true := by kernel_rfl
theorem agg95 : aggB Try.prog 95 = false := by kernel_rfl
theorem cells95 : Try.prog.cellsOf 95 = 1 := by kernel_rfl
theorem tyOk96 : tyOk Try.prog 96 = true := by kernel_rfl
theorem agg96 : aggB Try.prog 96 = false := by kernel_rfl
theorem cells96 : Try.prog.cellsOf 96 = 1 := by kernel_rfl
theorem zero96 : zeroA Try.prog 96 = some [.sc (.pointer none)] := by kernel_rfl
theorem tyOk97 : tyOk Try.prog 97 = true := by kernel_rfl
theorem agg97 : aggB Try.prog 97 = false := by kernel_rfl
theorem cells97 : Try.prog.cellsOf 97 = 1 := by kernel_rfl
theorem tyOk98 : tyOk Try.prog 98 = true := by kernel_rfl
theorem agg98 : aggB Try.prog 98 = false := by kernel_rfl
theorem cells98 : Try.prog.cellsOf 98 = 1 := by kernel_rfl
theorem tyOk99 : tyOk Try.prog 99 = true := by kernel_rfl
theorem agg99 : aggB Try.prog 99 = false := by kernel_rfl
theorem cells99 : Try.prog.cellsOf 99 = 1 := by kernel_rfl
theorem tyOk100 : tyOk Try.prog 100 = true := by kernel_rfl
theorem agg100 : aggB Try.prog 100 = true := by kernel_rfl
theorem cells100 : Try.prog.cellsOf 100 = 4 := by kernel_rfl
theorem zero100 : zeroA Try.prog 100 = some [.sc (.pointer none), .sc (.pointer none), .sc (.pointer none), .sc (.string ByteArray.empty)] := by kernel_rfl
theorem tyOk101 : tyOk Try.prog 101 = true := by kernel_rfl
theorem agg101 : aggB Try.prog 101 = true := by kernel_rfl
theorem cells101 : Try.prog.cellsOf 101 = 4 := by kernel_rfl
theorem zero101 : zeroA Try.prog 101 = some [.sc (.pointer none), .sc (.pointer none), .sc (.pointer none), .sc (.string ByteArray.empty)] := by kernel_rfl
theorem tyOk102 : tyOk Try.prog 102 = true := by kernel_rfl
theorem agg102 : aggB Try.prog 102 = true := by kernel_rfl
theorem cells102 : Try.prog.cellsOf 102 = 0 := by kernel_rfl
theorem zero102 : zeroA Try.prog 102 = some [] := by kernel_rfl
theorem tyOk103 : tyOk Try.prog 103 = true := by kernel_rfl
theorem agg103 : aggB Try.prog 103 = true := by kernel_rfl
theorem cells103 : Try.prog.cellsOf 103 = 0 := by kernel_rfl
theorem zero103 : zeroA Try.prog 103 = some [] := by kernel_rfl
theorem tyOk104 : tyOk Try.prog 104 = true := by kernel_rfl
theorem agg104 : aggB Try.prog 104 = true := by kernel_rfl
theorem cells104 : Try.prog.cellsOf 104 = 0 := by kernel_rfl
theorem zero104 : zeroA Try.prog 104 = some [] := by kernel_rfl
theorem tyOk105 : tyOk Try.prog 105 = true := by kernel_rfl
theorem agg105 : aggB Try.prog 105 = false := by kernel_rfl
theorem cells105 : Try.prog.cellsOf 105 = 1 := by kernel_rfl
theorem tyOk106 : tyOk Try.prog 106 = true := by kernel_rfl
theorem agg106 : aggB Try.prog 106 = false := by kernel_rfl
theorem cells106 : Try.prog.cellsOf 106 = 1 := by kernel_rfl
theorem isU106 : isU8 Try.prog 106 = true := by kernel_rfl
theorem zero106 : zeroA Try.prog 106 = some [.sc (.int .u8 0)] := by kernel_rfl
theorem info106 : (Try.prog.info? 106).map (·.bytes) = some 1 := by kernel_rfl
theorem mk106 (a b : IntKind) (m : Int) (h0 : 0 ≤ m) (h1 : m ≤ 1000000000000) : mkV Try.prog (some (.slice 106)) (.sc (.int a m)) (.sc (.int b m)) = some (ints .u8 (List.replicate m.toNat 0), fun r => .sl r 0 m.toNat 1) := mk_ints .u8 106 a b m _ zero106 info106 cells106 h0 (by omega) (by omega)
theorem bs106_0 : bsV Try.prog (some (.slice 106)) 0 [] = some (ints .u8 [], fun r => .sl r 0 0 1) := bs_ints .u8 106 0 [] zero106 tyOk106 cells106 (by decide) (by simp)
theorem bs106_1 (a0 : Int) : bsV Try.prog (some (.slice 106)) 1 [(0, .sc (.int .u8 a0))] = some (ints .u8 [a0], fun r => .sl r 0 1 1) := bs_ints .u8 106 1 [(0, a0)] zero106 tyOk106 cells106 (by decide) (by simp)
theorem bs106_2 (a0 a1 : Int) : bsV Try.prog (some (.slice 106)) 2 [(0, .sc (.int .u8 a0)), (1, .sc (.int .u8 a1))] = some (ints .u8 [a0, a1], fun r => .sl r 0 2 1) := bs_ints .u8 106 2 [(0, a0), (1, a1)] zero106 tyOk106 cells106 (by decide) (by simp)
theorem bs106_3 (a0 a1 a2 : Int) : bsV Try.prog (some (.slice 106)) 3 [(0, .sc (.int .u8 a0)), (1, .sc (.int .u8 a1)), (2, .sc (.int .u8 a2))] = some (ints .u8 [a0, a1, a2], fun r => .sl r 0 3 1) := bs_ints .u8 106 3 [(0, a0), (1, a1), (2, a2)] zero106 tyOk106 cells106 (by decide) (by simp)
theorem bs106_4 (a0 a1 a2 a3 : Int) : bsV Try.prog (some (.slice 106)) 4 [(0, .sc (.int .u8 a0)), (1, .sc (.int .u8 a1)), (2, .sc (.int .u8 a2)), (3, .sc (.int .u8 a3))] = some (ints .u8 [a0, a1, a2, a3], fun r => .sl r 0 4 1) := bs_ints .u8 106 4 [(0, a0), (1, a1), (2, a2), (3, a3)] zero106 tyOk106 cells106 (by decide) (by simp)
theorem bs106_5 (a0 a1 a2 a3 a4 : Int) : bsV Try.prog (some (.slice 106)) 5 [(0, .sc (.int .u8 a0)), (1, .sc (.int .u8 a1)), (2, .sc (.int .u8 a2)), (3, .sc (.int .u8 a3)), (4, .sc (.int .u8 a4))] = some (ints .u8 [a0, a1, a2, a3, a4], fun r => .sl r 0 5 1) := bs_ints .u8 106 5 [(0, a0), (1, a1), (2, a2), (3, a3), (4, a4)] zero106 tyOk106 cells106 (by decide) (by simp)
theorem bs106_6 (a0 a1 a2 a3 a4 a5 : Int) : bsV Try.prog (some (.slice 106)) 6 [(0, .sc (.int .u8 a0)), (1, .sc (.int .u8 a1)), (2, .sc (.int .u8 a2)), (3, .sc (.int .u8 a3)), (4, .sc (.int .u8 a4)), (5, .sc (.int .u8 a5))] = some (ints .u8 [a0, a1, a2, a3, a4, a5], fun r => .sl r 0 6 1) := bs_ints .u8 106 6 [(0, a0), (1, a1), (2, a2), (3, a3), (4, a4), (5, a5)] zero106 tyOk106 cells106 (by decide) (by simp)
theorem bs106_7 (a0 a1 a2 a3 a4 a5 a6 : Int) : bsV Try.prog (some (.slice 106)) 7 [(0, .sc (.int .u8 a0)), (1, .sc (.int .u8 a1)), (2, .sc (.int .u8 a2)), (3, .sc (.int .u8 a3)), (4, .sc (.int .u8 a4)), (5, .sc (.int .u8 a5)), (6, .sc (.int .u8 a6))] = some (ints .u8 [a0, a1, a2, a3, a4, a5, a6], fun r => .sl r 0 7 1) := bs_ints .u8 106 7 [(0, a0), (1, a1), (2, a2), (3, a3), (4, a4), (5, a5), (6, a6)] zero106 tyOk106 cells106 (by decide) (by simp)
theorem bs106_8 (a0 a1 a2 a3 a4 a5 a6 a7 : Int) : bsV Try.prog (some (.slice 106)) 8 [(0, .sc (.int .u8 a0)), (1, .sc (.int .u8 a1)), (2, .sc (.int .u8 a2)), (3, .sc (.int .u8 a3)), (4, .sc (.int .u8 a4)), (5, .sc (.int .u8 a5)), (6, .sc (.int .u8 a6)), (7, .sc (.int .u8 a7))] = some (ints .u8 [a0, a1, a2, a3, a4, a5, a6, a7], fun r => .sl r 0 8 1) := bs_ints .u8 106 8 [(0, a0), (1, a1), (2, a2), (3, a3), (4, a4), (5, a5), (6, a6), (7, a7)] zero106 tyOk106 cells106 (by decide) (by simp)
theorem bs106_10 (a0 a1 a2 a3 a4 a5 a6 a7 a8 a9 : Int) : bsV Try.prog (some (.slice 106)) 10 [(0, .sc (.int .u8 a0)), (1, .sc (.int .u8 a1)), (2, .sc (.int .u8 a2)), (3, .sc (.int .u8 a3)), (4, .sc (.int .u8 a4)), (5, .sc (.int .u8 a5)), (6, .sc (.int .u8 a6)), (7, .sc (.int .u8 a7)), (8, .sc (.int .u8 a8)), (9, .sc (.int .u8 a9))] = some (ints .u8 [a0, a1, a2, a3, a4, a5, a6, a7, a8, a9], fun r => .sl r 0 10 1) := bs_ints .u8 106 10 [(0, a0), (1, a1), (2, a2), (3, a3), (4, a4), (5, a5), (6, a6), (7, a7), (8, a8), (9, a9)] zero106 tyOk106 cells106 (by decide) (by simp)
theorem bs106_11 (a0 a1 a2 a3 a4 a5 a6 a7 a8 a9 a10 : Int) : bsV Try.prog (some (.slice 106)) 11 [(0, .sc (.int .u8 a0)), (1, .sc (.int .u8 a1)), (2, .sc (.int .u8 a2)), (3, .sc (.int .u8 a3)), (4, .sc (.int .u8 a4)), (5, .sc (.int .u8 a5)), (6, .sc (.int .u8 a6)), (7, .sc (.int .u8 a7)), (8, .sc (.int .u8 a8)), (9, .sc (.int .u8 a9)), (10, .sc (.int .u8 a10))] = some (ints .u8 [a0, a1, a2, a3, a4, a5, a6, a7, a8, a9, a10], fun r => .sl r 0 11 1) := bs_ints .u8 106 11 [(0, a0), (1, a1), (2, a2), (3, a3), (4, a4), (5, a5), (6, a6), (7, a7), (8, a8), (9, a9), (10, a10)] zero106 tyOk106 cells106 (by decide) (by simp)
theorem bs106_12 (a0 a1 a2 a3 a4 a5 a6 a7 a8 a9 a10 a11 : Int) : bsV Try.prog (some (.slice 106)) 12 [(0, .sc (.int .u8 a0)), (1, .sc (.int .u8 a1)), (2, .sc (.int .u8 a2)), (3, .sc (.int .u8 a3)), (4, .sc (.int .u8 a4)), (5, .sc (.int .u8 a5)), (6, .sc (.int .u8 a6)), (7, .sc (.int .u8 a7)), (8, .sc (.int .u8 a8)), (9, .sc (.int .u8 a9)), (10, .sc (.int .u8 a10)), (11, .sc (.int .u8 a11))] = some (ints .u8 [a0, a1, a2, a3, a4, a5, a6, a7, a8, a9, a10, a11], fun r => .sl r 0 12 1) := bs_ints .u8 106 12 [(0, a0), (1, a1), (2, a2), (3, a3), (4, a4), (5, a5), (6, a6), (7, a7), (8, a8), (9, a9), (10, a10), (11, a11)] zero106 tyOk106 cells106 (by decide) (by simp)
theorem bs106_13 (a0 a1 a2 a3 a4 a5 a6 a7 a8 a9 a10 a11 a12 : Int) : bsV Try.prog (some (.slice 106)) 13 [(0, .sc (.int .u8 a0)), (1, .sc (.int .u8 a1)), (2, .sc (.int .u8 a2)), (3, .sc (.int .u8 a3)), (4, .sc (.int .u8 a4)), (5, .sc (.int .u8 a5)), (6, .sc (.int .u8 a6)), (7, .sc (.int .u8 a7)), (8, .sc (.int .u8 a8)), (9, .sc (.int .u8 a9)), (10, .sc (.int .u8 a10)), (11, .sc (.int .u8 a11)), (12, .sc (.int .u8 a12))] = some (ints .u8 [a0, a1, a2, a3, a4, a5, a6, a7, a8, a9, a10, a11, a12], fun r => .sl r 0 13 1) := bs_ints .u8 106 13 [(0, a0), (1, a1), (2, a2), (3, a3), (4, a4), (5, a5), (6, a6), (7, a7), (8, a8), (9, a9), (10, a10), (11, a11), (12, a12)] zero106 tyOk106 cells106 (by decide) (by simp)
theorem tyOk107 : tyOk Try.prog 107 = true := by kernel_rfl
theorem agg107 : aggB Try.prog 107 = false := by kernel_rfl
theorem cells107 : Try.prog.cellsOf 107 = 1 := by kernel_rfl
theorem isU107 : isU8 Try.prog 107 = true := by kernel_rfl
theorem zero107 : zeroA Try.prog 107 = some [.sc (.int .u8 0)] := by kernel_rfl
theorem info107 : (Try.prog.info? 107).map (·.bytes) = some 1 := by kernel_rfl
theorem mk107 (a b : IntKind) (m : Int) (h0 : 0 ≤ m) (h1 : m ≤ 1000000000000) : mkV Try.prog (some (.slice 107)) (.sc (.int a m)) (.sc (.int b m)) = some (ints .u8 (List.replicate m.toNat 0), fun r => .sl r 0 m.toNat 1) := mk_ints .u8 107 a b m _ zero107 info107 cells107 h0 (by omega) (by omega)
theorem bs107_0 : bsV Try.prog (some (.slice 107)) 0 [] = some (ints .u8 [], fun r => .sl r 0 0 1) := bs_ints .u8 107 0 [] zero107 tyOk107 cells107 (by decide) (by simp)
theorem bs107_1 (a0 : Int) : bsV Try.prog (some (.slice 107)) 1 [(0, .sc (.int .u8 a0))] = some (ints .u8 [a0], fun r => .sl r 0 1 1) := bs_ints .u8 107 1 [(0, a0)] zero107 tyOk107 cells107 (by decide) (by simp)
theorem bs107_2 (a0 a1 : Int) : bsV Try.prog (some (.slice 107)) 2 [(0, .sc (.int .u8 a0)), (1, .sc (.int .u8 a1))] = some (ints .u8 [a0, a1], fun r => .sl r 0 2 1) := bs_ints .u8 107 2 [(0, a0), (1, a1)] zero107 tyOk107 cells107 (by decide) (by simp)
theorem bs107_3 (a0 a1 a2 : Int) : bsV Try.prog (some (.slice 107)) 3 [(0, .sc (.int .u8 a0)), (1, .sc (.int .u8 a1)), (2, .sc (.int .u8 a2))] = some (ints .u8 [a0, a1, a2], fun r => .sl r 0 3 1) := bs_ints .u8 107 3 [(0, a0), (1, a1), (2, a2)] zero107 tyOk107 cells107 (by decide) (by simp)
theorem bs107_4 (a0 a1 a2 a3 : Int) : bsV Try.prog (some (.slice 107)) 4 [(0, .sc (.int .u8 a0)), (1, .sc (.int .u8 a1)), (2, .sc (.int .u8 a2)), (3, .sc (.int .u8 a3))] = some (ints .u8 [a0, a1, a2, a3], fun r => .sl r 0 4 1) := bs_ints .u8 107 4 [(0, a0), (1, a1), (2, a2), (3, a3)] zero107 tyOk107 cells107 (by decide) (by simp)
theorem bs107_5 (a0 a1 a2 a3 a4 : Int) : bsV Try.prog (some (.slice 107)) 5 [(0, .sc (.int .u8 a0)), (1, .sc (.int .u8 a1)), (2, .sc (.int .u8 a2)), (3, .sc (.int .u8 a3)), (4, .sc (.int .u8 a4))] = some (ints .u8 [a0, a1, a2, a3, a4], fun r => .sl r 0 5 1) := bs_ints .u8 107 5 [(0, a0), (1, a1), (2, a2), (3, a3), (4, a4)] zero107 tyOk107 cells107 (by decide) (by simp)
theorem bs107_6 (a0 a1 a2 a3 a4 a5 : Int) : bsV Try.prog (some (.slice 107)) 6 [(0, .sc (.int .u8 a0)), (1, .sc (.int .u8 a1)), (2, .sc (.int .u8 a2)), (3, .sc (.int .u8 a3)), (4, .sc (.int .u8 a4)), (5, .sc (.int .u8 a5))] = some (ints .u8 [a0, a1, a2, a3, a4, a5], fun r => .sl r 0 6 1) := bs_ints .u8 107 6 [(0, a0), (1, a1), (2, a2), (3, a3), (4, a4), (5, a5)] zero107 tyOk107 cells107 (by decide) (by simp)
theorem bs107_7 (a0 a1 a2 a3 a4 a5 a6 : Int) : bsV Try.prog (some (.slice 107)) 7 [(0, .sc (.int .u8 a0)), (1, .sc (.int .u8 a1)), (2, .sc (.int .u8 a2)), (3, .sc (.int .u8 a3)), (4, .sc (.int .u8 a4)), (5, .sc (.int .u8 a5)), (6, .sc (.int .u8 a6))] = some (ints .u8 [a0, a1, a2, a3, a4, a5, a6], fun r => .sl r 0 7 1) := bs_ints .u8 107 7 [(0, a0), (1, a1), (2, a2), (3, a3), (4, a4), (5, a5), (6, a6)] zero107 tyOk107 cells107 (by decide) (by simp)
theorem bs107_8 (a0 a1 a2 a3 a4 a5 a6 a7 : Int) : bsV Try.prog (some (.slice 107)) 8 [(0, .sc (.int .u8 a0)), (1, .sc (.int .u8 a1)), (2, .sc (.int .u8 a2)), (3, .sc (.int .u8 a3)), (4, .sc (.int .u8 a4)), (5, .sc (.int .u8 a5)), (6, .sc (.int .u8 a6)), (7, .sc (.int .u8 a7))] = some (ints .u8 [a0, a1, a2, a3, a4, a5, a6, a7], fun r => .sl r 0 8 1) := bs_ints .u8 107 8 [(0, a0), (1, a1), (2, a2), (3, a3), (4, a4), (5, a5), (6, a6), (7, a7)] zero107 tyOk107 cells107 (by decide) (by simp)
theorem bs107_10 (a0 a1 a2 a3 a4 a5 a6 a7 a8 a9 : Int) : bsV Try.prog (some (.slice 107)) 10 [(0, .sc (.int .u8 a0)), (1, .sc (.int .u8 a1)), (2, .sc (.int .u8 a2)), (3, .sc (.int .u8 a3)), (4, .sc (.int .u8 a4)), (5, .sc (.int .u8 a5)), (6, .sc (.int .u8 a6)), (7, .sc (.int .u8 a7)), (8, .sc (.int .u8 a8)), (9, .sc (.int .u8 a9))] = some (ints .u8 [a0, a1, a2, a3, a4, a5, a6, a7, a8, a9], fun r => .sl r 0 10 1) := bs_ints .u8 107 10 [(0, a0), (1, a1), (2, a2), (3, a3), (4, a4), (5, a5), (6, a6), (7, a7), (8, a8), (9, a9)] zero107 tyOk107 cells107 (by decide) (by simp)
theorem bs107_11 (a0 a1 a2 a3 a4 a5 a6 a7 a8 a9 a10 : Int) : bsV Try.prog (some (.slice 107)) 11 [(0, .sc (.int .u8 a0)), (1, .sc (.int .u8 a1)), (2, .sc (.int .u8 a2)), (3, .sc (.int .u8 a3)), (4, .sc (.int .u8 a4)), (5, .sc (.int .u8 a5)), (6, .sc (.int .u8 a6)), (7, .sc (.int .u8 a7)), (8, .sc (.int .u8 a8)), (9, .sc (.int .u8 a9)), (10, .sc (.int .u8 a10))] = some (ints .u8 [a0, a1, a2, a3, a4, a5, a6, a7, a8, a9, a10], fun r => .sl r 0 11 1) := bs_ints .u8 107 11 [(0, a0), (1, a1), (2, a2), (3, a3), (4, a4), (5, a5), (6, a6), (7, a7), (8, a8), (9, a9), (10, a10)] zero107 tyOk107 cells107 (by decide) (by simp)
theorem bs107_12 (a0 a1 a2 a3 a4 a5 a6 a7 a8 a9 a10 a11 : Int) : bsV Try.prog (some (.slice 107)) 12 [(0, .sc (.int .u8 a0)), (1, .sc (.int .u8 a1)), (2, .sc (.int .u8 a2)), (3, .sc (.int .u8 a3)), (4, .sc (.int .u8 a4)), (5, .sc (.int .u8 a5)), (6, .sc (.int .u8 a6)), (7, .sc (.int .u8 a7)), (8, .sc (.int .u8 a8)), (9, .sc (.int .u8 a9)), (10, .sc (.int .u8 a10)), (11, .sc (.int .u8 a11))] = some (ints .u8 [a0, a1, a2, a3, a4, a5, a6, a7, a8, a9, a10, a11], fun r => .sl r 0 12 1) := bs_ints .u8 107 12 [(0, a0), (1, a1), (2, a2), (3, a3), (4, a4), (5, a5), (6, a6), (7, a7), (8, a8), (9, a9), (10, a10), (11, a11)] zero107 tyOk107 cells107 (by decide) (by simp)
theorem bs107_13 (a0 a1 a2 a3 a4 a5 a6 a7 a8 a9 a10 a11 a12 : Int) : bsV Try.prog (some (.slice 107)) 13 [(0, .sc (.int .u8 a0)), (1, .sc (.int .u8 a1)), (2, .sc (.int .u8 a2)), (3, .sc (.int .u8 a3)), (4, .sc (.int .u8 a4)), (5, .sc (.int .u8 a5)), (6, .sc (.int .u8 a6)), (7, .sc (.int .u8 a7)), (8, .sc (.int .u8 a8)), (9, .sc (.int .u8 a9)), (10, .sc (.int .u8 a10)), (11, .sc (.int .u8 a11)), (12, .sc (.int .u8 a12))] = some (ints .u8 [a0, a1, a2, a3, a4, a5, a6, a7, a8, a9, a10, a11, a12], fun r => .sl r 0 13 1) := bs_ints .u8 107 13 [(0, a0), (1, a1), (2, a2), (3, a3), (4, a4), (5, a5), (6, a6), (7, a7), (8, a8), (9, a9), (10, a10), (11, a11), (12, a12)] zero107 tyOk107 cells107 (by decide) (by simp)
theorem tyOk108 : tyOk Try.prog 108 = true := by kernel_rfl
theorem agg108 : aggB Try.prog 108 = false := by kernel_rfl
theorem cells108 : Try.prog.cellsOf 108 = 1 := by kernel_rfl
theorem tyOk109 : tyOk Try.prog 109 = true := by kernel_rfl
theorem agg109 : aggB Try.prog 109 = false := by kernel_rfl
theorem cells109 : Try.prog.cellsOf 109 = 1 := by kernel_rfl
theorem zero109 : zeroA Try.prog 109 = some [.sc (.pointer none)] := by kernel_rfl
theorem tyOk110 : tyOk Try.prog 110 = true := by kernel_rfl
theorem agg110 : aggB Try.prog 110 = false := by kernel_rfl
theorem cells110 : Try.prog.cellsOf 110 = 1 := by kernel_rfl
theorem zero110 : zeroA Try.prog 110 = some [.sc (.int .i32 0)] := by kernel_rfl
theorem info110 : (Try.prog.info? 110).map (·.bytes) = some 4 := by kernel_rfl
theorem mk110 (a b : IntKind) (m : Int) (h0 : 0 ≤ m) (h1 : m ≤ 1000000000000) : mkV Try.prog (some (.slice 110)) (.sc (.int a m)) (.sc (.int b m)) = some (ints .i32 (List.replicate m.toNat 0), fun r => .sl r 0 m.toNat 1) := mk_ints .i32 110 a b m _ zero110 info110 cells110 h0 (by omega) (by omega)
theorem bs110_0 : bsV Try.prog (some (.slice 110)) 0 [] = some (ints .i32 [], fun r => .sl r 0 0 1) := bs_ints .i32 110 0 [] zero110 tyOk110 cells110 (by decide) (by simp)
theorem bs110_1 (a0 : Int) : bsV Try.prog (some (.slice 110)) 1 [(0, .sc (.int .i32 a0))] = some (ints .i32 [a0], fun r => .sl r 0 1 1) := bs_ints .i32 110 1 [(0, a0)] zero110 tyOk110 cells110 (by decide) (by simp)
theorem bs110_2 (a0 a1 : Int) : bsV Try.prog (some (.slice 110)) 2 [(0, .sc (.int .i32 a0)), (1, .sc (.int .i32 a1))] = some (ints .i32 [a0, a1], fun r => .sl r 0 2 1) := bs_ints .i32 110 2 [(0, a0), (1, a1)] zero110 tyOk110 cells110 (by decide) (by simp)
theorem bs110_3 (a0 a1 a2 : Int) : bsV Try.prog (some (.slice 110)) 3 [(0, .sc (.int .i32 a0)), (1, .sc (.int .i32 a1)), (2, .sc (.int .i32 a2))] = some (ints .i32 [a0, a1, a2], fun r => .sl r 0 3 1) := bs_ints .i32 110 3 [(0, a0), (1, a1), (2, a2)] zero110 tyOk110 cells110 (by decide) (by simp)
theorem bs110_4 (a0 a1 a2 a3 : Int) : bsV Try.prog (some (.slice 110)) 4 [(0, .sc (.int .i32 a0)), (1, .sc (.int .i32 a1)), (2, .sc (.int .i32 a2)), (3, .sc (.int .i32 a3))] = some (ints .i32 [a0, a1, a2, a3], fun r => .sl r 0 4 1) := bs_ints .i32 110 4 [(0, a0), (1, a1), (2, a2), (3, a3)] zero110 tyOk110 cells110 (by decide) (by simp)
theorem bs110_5 (a0 a1 a2 a3 a4 : Int) : bsV Try.prog (some (.slice 110)) 5 [(0, .sc (.int .i32 a0)), (1, .sc (.int .i32 a1)), (2, .sc (.int .i32 a2)), (3, .sc (.int .i32 a3)), (4, .sc (.int .i32 a4))] = some (ints .i32 [a0, a1, a2, a3, a4], fun r => .sl r 0 5 1) := bs_ints .i32 110 5 [(0, a0), (1, a1), (2, a2), (3, a3), (4, a4)] zero110 tyOk110 cells110 (by decide) (by simp)
theorem bs110_6 (a0 a1 a2 a3 a4 a5 : Int) : bsV Try.prog (some (.slice 110)) 6 [(0, .sc (.int .i32 a0)), (1, .sc (.int .i32 a1)), (2, .sc (.int .i32 a2)), (3, .sc (.int .i32 a3)), (4, .sc (.int .i32 a4)), (5, .sc (.int .i32 a5))] = some (ints .i32 [a0, a1, a2, a3, a4, a5], fun r => .sl r 0 6 1) := bs_ints .i32 110 6 [(0, a0), (1, a1), (2, a2), (3, a3), (4, a4), (5, a5)] zero110 tyOk110 cells110 (by decide) (by simp)
theorem bs110_7 (a0 a1 a2 a3 a4 a5 a6 : Int) : bsV Try.prog (some (.slice 110)) 7 [(0, .sc (.int .i32 a0)), (1, .sc (.int .i32 a1)), (2, .sc (.int .i32 a2)), (3, .sc (.int .i32 a3)), (4, .sc (.int .i32 a4)), (5, .sc (.int .i32 a5)), (6, .sc (.int .i32 a6))] = some (ints .i32 [a0, a1, a2, a3, a4, a5, a6], fun r => .sl r 0 7 1) := bs_ints .i32 110 7 [(0, a0), (1, a1), (2, a2), (3, a3), (4, a4), (5, a5), (6, a6)] zero110 tyOk110 cells110 (by decide) (by simp)
theorem bs110_8 (a0 a1 a2 a3 a4 a5 a6 a7 : Int) : bsV Try.prog (some (.slice 110)) 8 [(0, .sc (.int .i32 a0)), (1, .sc (.int .i32 a1)), (2, .sc (.int .i32 a2)), (3, .sc (.int .i32 a3)), (4, .sc (.int .i32 a4)), (5, .sc (.int .i32 a5)), (6, .sc (.int .i32 a6)), (7, .sc (.int .i32 a7))] = some (ints .i32 [a0, a1, a2, a3, a4, a5, a6, a7], fun r => .sl r 0 8 1) := bs_ints .i32 110 8 [(0, a0), (1, a1), (2, a2), (3, a3), (4, a4), (5, a5), (6, a6), (7, a7)] zero110 tyOk110 cells110 (by decide) (by simp)
theorem bs110_10 (a0 a1 a2 a3 a4 a5 a6 a7 a8 a9 : Int) : bsV Try.prog (some (.slice 110)) 10 [(0, .sc (.int .i32 a0)), (1, .sc (.int .i32 a1)), (2, .sc (.int .i32 a2)), (3, .sc (.int .i32 a3)), (4, .sc (.int .i32 a4)), (5, .sc (.int .i32 a5)), (6, .sc (.int .i32 a6)), (7, .sc (.int .i32 a7)), (8, .sc (.int .i32 a8)), (9, .sc (.int .i32 a9))] = some (ints .i32 [a0, a1, a2, a3, a4, a5, a6, a7, a8, a9], fun r => .sl r 0 10 1) := bs_ints .i32 110 10 [(0, a0), (1, a1), (2, a2), (3, a3), (4, a4), (5, a5), (6, a6), (7, a7), (8, a8), (9, a9)] zero110 tyOk110 cells110 (by decide) (by simp)
theorem bs110_11 (a0 a1 a2 a3 a4 a5 a6 a7 a8 a9 a10 : Int) : bsV Try.prog (some (.slice 110)) 11 [(0, .sc (.int .i32 a0)), (1, .sc (.int .i32 a1)), (2, .sc (.int .i32 a2)), (3, .sc (.int .i32 a3)), (4, .sc (.int .i32 a4)), (5, .sc (.int .i32 a5)), (6, .sc (.int .i32 a6)), (7, .sc (.int .i32 a7)), (8, .sc (.int .i32 a8)), (9, .sc (.int .i32 a9)), (10, .sc (.int .i32 a10))] = some (ints .i32 [a0, a1, a2, a3, a4, a5, a6, a7, a8, a9, a10], fun r => .sl r 0 11 1) := bs_ints .i32 110 11 [(0, a0), (1, a1), (2, a2), (3, a3), (4, a4), (5, a5), (6, a6), (7, a7), (8, a8), (9, a9), (10, a10)] zero110 tyOk110 cells110 (by decide) (by simp)
theorem bs110_12 (a0 a1 a2 a3 a4 a5 a6 a7 a8 a9 a10 a11 : Int) : bsV Try.prog (some (.slice 110)) 12 [(0, .sc (.int .i32 a0)), (1, .sc (.int .i32 a1)), (2, .sc (.int .i32 a2)), (3, .sc (.int .i32 a3)), (4, .sc (.int .i32 a4)), (5, .sc (.int .i32 a5)), (6, .sc (.int .i32 a6)), (7, .sc (.int .i32 a7)), (8, .sc (.int .i32 a8)), (9, .sc (.int .i32 a9)), (10, .sc (.int .i32 a10)), (11, .sc (.int .i32 a11))] = some (ints .i32 [a0, a1, a2, a3, a4, a5, a6, a7, a8, a9, a10, a11], fun r => .sl r 0 12 1) := bs_ints .i32 110 12 [(0, a0), (1, a1), (2, a2), (3, a3), (4, a4), (5, a5), (6, a6), (7, a7), (8, a8), (9, a9), (10, a10), (11, a11)] zero110 tyOk110 cells110 (by decide) (by simp)
theorem bs110_13 (a0 a1 a2 a3 a4 a5 a6 a7 a8 a9 a10 a11 a12 : Int) : bsV Try.prog (some (.slice 110)) 13 [(0, .sc (.int .i32 a0)), (1, .sc (.int .i32 a1)), (2, .sc (.int .i32 a2)), (3, .sc (.int .i32 a3)), (4, .sc (.int .i32 a4)), (5, .sc (.int .i32 a5)), (6, .sc (.int .i32 a6)), (7, .sc (.int .i32 a7)), (8, .sc (.int .i32 a8)), (9, .sc (.int .i32 a9)), (10, .sc (.int .i32 a10)), (11, .sc (.int .i32 a11)), (12, .sc (.int .i32 a12))] = some (ints .i32 [a0, a1, a2, a3, a4, a5, a6, a7, a8, a9, a10, a11, a12], fun r => .sl r 0 13 1) := bs_ints .i32 110 13 [(0, a0), (1, a1), (2, a2), (3, a3), (4, a4), (5, a5), (6, a6), (7, a7), (8, a8), (9, a9), (10, a10), (11, a11), (12, a12)] zero110 tyOk110 cells110 (by decide) (by simp)
theorem tyOk111 : tyOk Try.prog 111 = true := by kernel_rfl
theorem agg111 : aggB Try.prog 111 = false := by kernel_rfl
theorem cells111 : Try.prog.cellsOf 111 = 1 := by kernel_rfl
theorem zero111 : zeroA Try.prog 111 = some [.sc (.int .i32 0)] := by kernel_rfl
theorem info111 : (Try.prog.info? 111).map (·.bytes) = some 4 := by kernel_rfl
theorem mk111 (a b : IntKind) (m : Int) (h0 : 0 ≤ m) (h1 : m ≤ 1000000000000) : mkV Try.prog (some (.slice 111)) (.sc (.int a m)) (.sc (.int b m)) = some (ints .i32 (List.replicate m.toNat 0), fun r => .sl r 0 m.toNat 1) := mk_ints .i32 111 a b m _ zero111 info111 cells111 h0 (by omega) (by omega)
theorem bs111_0 : bsV Try.prog (some (.slice 111)) 0 [] = some (ints .i32 [], fun r => .sl r 0 0 1) := bs_ints .i32 111 0 [] zero111 tyOk111 cells111 (by decide) (by simp)
theorem bs111_1 (a0 : Int) : bsV Try.prog (some (.slice 111)) 1 [(0, .sc (.int .i32 a0))] = some (ints .i32 [a0], fun r => .sl r 0 1 1) := bs_ints .i32 111 1 [(0, a0)] zero111 tyOk111 cells111 (by decide) (by simp)
theorem bs111_2 (a0 a1 : Int) : bsV Try.prog (some (.slice 111)) 2 [(0, .sc (.int .i32 a0)), (1, .sc (.int .i32 a1))] = some (ints .i32 [a0, a1], fun r => .sl r 0 2 1) := bs_ints .i32 111 2 [(0, a0), (1, a1)] zero111 tyOk111 cells111 (by decide) (by simp)
theorem bs111_3 (a0 a1 a2 : Int) : bsV Try.prog (some (.slice 111)) 3 [(0, .sc (.int .i32 a0)), (1, .sc (.int .i32 a1)), (2, .sc (.int .i32 a2))] = some (ints .i32 [a0, a1, a2], fun r => .sl r 0 3 1) := bs_ints .i32 111 3 [(0, a0), (1, a1), (2, a2)] zero111 tyOk111 cells111 (by decide) (by simp)
theorem bs111_4 (a0 a1 a2 a3 : Int) : bsV Try.prog (some (.slice 111)) 4 [(0, .sc (.int .i32 a0)), (1, .sc (.int .i32 a1)), (2, .sc (.int .i32 a2)), (3, .sc (.int .i32 a3))] = some (ints .i32 [a0, a1, a2, a3], fun r => .sl r 0 4 1) := bs_ints .i32 111 4 [(0, a0), (1, a1), (2, a2), (3, a3)] zero111 tyOk111 cells111 (by decide) (by simp)
theorem bs111_5 (a0 a1 a2 a3 a4 : Int) : bsV Try.prog (some (.slice 111)) 5 [(0, .sc (.int .i32 a0)), (1, .sc (.int .i32 a1)), (2, .sc (.int .i32 a2)), (3, .sc (.int .i32 a3)), (4, .sc (.int .i32 a4))] = some (ints .i32 [a0, a1, a2, a3, a4], fun r => .sl r 0 5 1) := bs_ints .i32 111 5 [(0, a0), (1, a1), (2, a2), (3, a3), (4, a4)] zero111 tyOk111 cells111 (by decide) (by simp)
theorem bs111_6 (a0 a1 a2 a3 a4 a5 : Int) : bsV Try.prog (some (.slice 111)) 6 [(0, .sc (.int .i32 a0)), (1, .sc (.int .i32 a1)), (2, .sc (.int .i32 a2)), (3, .sc (.int .i32 a3)), (4, .sc (.int .i32 a4)), (5, .sc (.int .i32 a5))] = some (ints .i32 [a0, a1, a2, a3, a4, a5], fun r => .sl r 0 6 1) := bs_ints .i32 111 6 [(0, a0), (1, a1), (2, a2), (3, a3), (4, a4), (5, a5)] zero111 tyOk111 cells111 (by decide) (by simp)
theorem bs111_7 (a0 a1 a2 a3 a4 a5 a6 : Int) : bsV Try.prog (some (.slice 111)) 7 [(0, .sc (.int .i32 a0)), (1, .sc (.int .i32 a1)), (2, .sc (.int .i32 a2)), (3, .sc (.int .i32 a3)), (4, .sc (.int .i32 a4)), (5, .sc (.int .i32 a5)), (6, .sc (.int .i32 a6))] = some (ints .i32 [a0, a1, a2, a3, a4, a5, a6], fun r => .sl r 0 7 1) := bs_ints .i32 111 7 [(0, a0), (1, a1), (2, a2), (3, a3), (4, a4), (5, a5), (6, a6)] zero111 tyOk111 cells111 (by decide) (by simp)
theorem bs111_8 (a0 a1 a2 a3 a4 a5 a6 a7 : Int) : bsV Try.prog (some (.slice 111)) 8 [(0, .sc (.int .i32 a0)), (1, .sc (.int .i32 a1)), (2, .sc (.int .i32 a2)), (3, .sc (.int .i32 a3)), (4, .sc (.int .i32 a4)), (5, .sc (.int .i32 a5)), (6, .sc (.int .i32 a6)), (7, .sc (.int .i32 a7))] = some (ints .i32 [a0, a1, a2, a3, a4, a5, a6, a7], fun r => .sl r 0 8 1) := bs_ints .i32 111 8 [(0, a0), (1, a1), (2, a2), (3, a3), (4, a4), (5, a5), (6, a6), (7, a7)] zero111 tyOk111 cells111 (by decide) (by simp)
theorem bs111_10 (a0 a1 a2 a3 a4 a5 a6 a7 a8 a9 : Int) : bsV Try.prog (some (.slice 111)) 10 [(0, .sc (.int .i32 a0)), (1, .sc (.int .i32 a1)), (2, .sc (.int .i32 a2)), (3, .sc (.int .i32 a3)), (4, .sc (.int .i32 a4)), (5, .sc (.int .i32 a5)), (6, .sc (.int .i32 a6)), (7, .sc (.int .i32 a7)), (8, .sc (.int .i32 a8)), (9, .sc (.int .i32 a9))] = some (ints .i32 [a0, a1, a2, a3, a4, a5, a6, a7, a8, a9], fun r => .sl r 0 10 1) := bs_ints .i32 111 10 [(0, a0), (1, a1), (2, a2), (3, a3), (4, a4), (5, a5), (6, a6), (7, a7), (8, a8), (9, a9)] zero111 tyOk111 cells111 (by decide) (by simp)
theorem bs111_11 (a0 a1 a2 a3 a4 a5 a6 a7 a8 a9 a10 : Int) : bsV Try.prog (some (.slice 111)) 11 [(0, .sc (.int .i32 a0)), (1, .sc (.int .i32 a1)), (2, .sc (.int .i32 a2)), (3, .sc (.int .i32 a3)), (4, .sc (.int .i32 a4)), (5, .sc (.int .i32 a5)), (6, .sc (.int .i32 a6)), (7, .sc (.int .i32 a7)), (8, .sc (.int .i32 a8)), (9, .sc (.int .i32 a9)), (10, .sc (.int .i32 a10))] = some (ints .i32 [a0, a1, a2, a3, a4, a5, a6, a7, a8, a9, a10], fun r => .sl r 0 11 1) := bs_ints .i32 111 11 [(0, a0), (1, a1), (2, a2), (3, a3), (4, a4), (5, a5), (6, a6), (7, a7), (8, a8), (9, a9), (10, a10)] zero111 tyOk111 cells111 (by decide) (by simp)
theorem bs111_12 (a0 a1 a2 a3 a4 a5 a6 a7 a8 a9 a10 a11 : Int) : bsV Try.prog (some (.slice 111)) 12 [(0, .sc (.int .i32 a0)), (1, .sc (.int .i32 a1)), (2, .sc (.int .i32 a2)), (3, .sc (.int .i32 a3)), (4, .sc (.int .i32 a4)), (5, .sc (.int .i32 a5)), (6, .sc (.int .i32 a6)), (7, .sc (.int .i32 a7)), (8, .sc (.int .i32 a8)), (9, .sc (.int .i32 a9)), (10, .sc (.int .i32 a10)), (11, .sc (.int .i32 a11))] = some (ints .i32 [a0, a1, a2, a3, a4, a5, a6, a7, a8, a9, a10, a11], fun r => .sl r 0 12 1) := bs_ints .i32 111 12 [(0, a0), (1, a1), (2, a2), (3, a3), (4, a4), (5, a5), (6, a6), (7, a7), (8, a8), (9, a9), (10, a10), (11, a11)] zero111 tyOk111 cells111 (by decide) (by simp)
theorem bs111_13 (a0 a1 a2 a3 a4 a5 a6 a7 a8 a9 a10 a11 a12 : Int) : bsV Try.prog (some (.slice 111)) 13 [(0, .sc (.int .i32 a0)), (1, .sc (.int .i32 a1)), (2, .sc (.int .i32 a2)), (3, .sc (.int .i32 a3)), (4, .sc (.int .i32 a4)), (5, .sc (.int .i32 a5)), (6, .sc (.int .i32 a6)), (7, .sc (.int .i32 a7)), (8, .sc (.int .i32 a8)), (9, .sc (.int .i32 a9)), (10, .sc (.int .i32 a10)), (11, .sc (.int .i32 a11)), (12, .sc (.int .i32 a12))] = some (ints .i32 [a0, a1, a2, a3, a4, a5, a6, a7, a8, a9, a10, a11, a12], fun r => .sl r 0 13 1) := bs_ints .i32 111 13 [(0, a0), (1, a1), (2, a2), (3, a3), (4, a4), (5, a5), (6, a6), (7, a7), (8, a8), (9, a9), (10, a10), (11, a11), (12, a12)] zero111 tyOk111 cells111 (by decide) (by simp)
theorem tyOk112 : tyOk Try.prog 112 = true := by kernel_rfl
theorem agg112 : aggB Try.prog 112 = true := by kernel_rfl
theorem cells112 : Try.prog.cellsOf 112 = 11 := by kernel_rfl
theorem tyOk113 : tyOk Try.prog 113 = true := by kernel_rfl
theorem agg113 : aggB Try.prog 113 = true := by kernel_rfl
theorem cells113 : Try.prog.cellsOf 113 = 11 := by kernel_rfl
theorem tyOk114 : tyOk Try.prog 114 = true := by kernel_rfl
theorem agg114 : aggB Try.prog 114 = false := by kernel_rfl
theorem cells114 : Try.prog.cellsOf 114 = 1 := by kernel_rfl
theorem zero114 : zeroA Try.prog 114 = some [.sc (.pointer none)] := by kernel_rfl
theorem apS22 (r len : Nat) (x : AV) (H : AHeap) : apV Try.prog (some (.slice 3)) (some (.slice 3)) (.sl r 0 len 1) x H = apT 8 H r len H[r]? (srcCells H x 1) := ap_sl zero3 info3 cells3 rfl r len x
theorem apN22 (x : AV) (H : AHeap) : apV Try.prog (some (.slice 3)) (some (.slice 3)) (.sc (.slice none 0 0)) x H = apN 8 H (srcCells H x 1) := ap_nil zero3 info3 cells3 rfl x
theorem apS46 (r len : Nat) (x : AV) (H : AHeap) : apV Try.prog (some (.slice 5)) (some (.slice 5)) (.sl r 0 len 1) x H = apT 1 H r len H[r]? (srcCells H x 1) := ap_sl zero5 info5 cells5 rfl r len x
theorem apN46 (x : AV) (H : AHeap) : apV Try.prog (some (.slice 5)) (some (.slice 5)) (.sc (.slice none 0 0)) x H = apN 1 H (srcCells H x 1) := ap_nil zero5 info5 cells5 rfl x
theorem apStr46 (r len : Nat) (x : AV) (H : AHeap) : apV Try.prog (some (.slice 5)) (some .string) (.sl r 0 len 1) x H = apT 1 H r len H[r]? (srcCells H x 1) := ap_sl zero5 info5 cells5 rfl r len x
theorem fadr7_0 (r off : Nat) : fadrT Try.prog 7 (.ptr r off) 0 = some (.ptr r (off + 0)) := fadr_st Try.underlying7 rfl tyOk2 (by rw [cells2]; decide) r off
theorem fld7_0 (cs : List AV) : fldT Try.prog 7 (.agg cs) 0 = cs[0]? := fld_one Try.underlying7 rfl tyOk2 agg2 cs
theorem fadr7_1 (r off : Nat) : fadrT Try.prog 7 (.ptr r off) 1 = some (.ptr r (off + 1)) := fadr_st Try.underlying7 rfl tyOk3 (by rw [cells3]; decide) r off
theorem fld7_1 (cs : List AV) : fldT Try.prog 7 (.agg cs) 1 = cs[1]? := fld_one Try.underlying7 rfl tyOk3 agg3 cs
theorem fadr7_2 (r off : Nat) : fadrT Try.prog 7 (.ptr r off) 2 = some (.ptr r (off + 2)) := fadr_st Try.underlying7 rfl tyOk4 (by rw [cells4]; decide) r off
theorem fld7_2 (cs : List AV) : fldT Try.prog 7 (.agg cs) 2 = cs[2]? := fld_one Try.underlying7 rfl tyOk4 agg4 cs
theorem fadr7_3 (r off : Nat) : fadrT Try.prog 7 (.ptr r off) 3 = some (.ptr r (off + 3)) := fadr_st Try.underlying7 rfl tyOk6 (by rw [cells6]; decide) r off
theorem fld7_3 (cs : List AV) : fldT Try.prog 7 (.agg cs) 3 = cs[3]? := fld_one Try.underlying7 rfl tyOk6 agg6 cs
theorem bz7 : buildV Try.prog 7 [] = some (.agg [.sc (.int .i64 0), .sc (.int .i64 0), .sc (.bool false), .sc (.int .u8 0)]) := by simp [buildV, Try.underlying7, zero7, fillA, tyOk2, cells2, tyOk3, cells3, tyOk4, cells4, tyOk6, cells6]
theorem bds7 (v0 v1 v2 v3 : AV) (hv0 : v0.cells = [v0]) (hv1 : v1.cells = [v1]) (hv2 : v2.cells = [v2]) (hv3 : v3.cells = [v3]) : buildV Try.prog 7 [(0, v0), (1, v1), (2, v2), (3, v3)] = some (.agg [v0, v1, v2, v3]) := by simp [buildV, Try.underlying7, zero7, fillA, placeS, overA, tyOk2, cells2, tyOk3, cells3, tyOk4, cells4, tyOk6, cells6, hv0, hv1, hv2, hv3]
theorem fadr8_0 (r off : Nat) : fadrT Try.prog 8 (.ptr r off) 0 = some (.ptr r (off + 0)) := fadr_st Try.underlying8 rfl tyOk2 (by rw [cells2]; decide) r off
theorem fld8_0 (cs : List AV) : fldT Try.prog 8 (.agg cs) 0 = cs[0]? := fld_one Try.underlying8 rfl tyOk2 agg2 cs
theorem fadr8_1 (r off : Nat) : fadrT Try.prog 8 (.ptr r off) 1 = some (.ptr r (off + 1)) := fadr_st Try.underlying8 rfl tyOk3 (by rw [cells3]; decide) r off
theorem fld8_1 (cs : List AV) : fldT Try.prog 8 (.agg cs) 1 = cs[1]? := fld_one Try.underlying8 rfl tyOk3 agg3 cs
theorem fadr8_2 (r off : Nat) : fadrT Try.prog 8 (.ptr r off) 2 = some (.ptr r (off + 2)) := fadr_st Try.underlying8 rfl tyOk4 (by rw [cells4]; decide) r off
theorem fld8_2 (cs : List AV) : fldT Try.prog 8 (.agg cs) 2 = cs[2]? := fld_one Try.underlying8 rfl tyOk4 agg4 cs
theorem fadr8_3 (r off : Nat) : fadrT Try.prog 8 (.ptr r off) 3 = some (.ptr r (off + 3)) := fadr_st Try.underlying8 rfl tyOk6 (by rw [cells6]; decide) r off
theorem fld8_3 (cs : List AV) : fldT Try.prog 8 (.agg cs) 3 = cs[3]? := fld_one Try.underlying8 rfl tyOk6 agg6 cs
theorem bz8 : buildV Try.prog 8 [] = some (.agg [.sc (.int .i64 0), .sc (.int .i64 0), .sc (.bool false), .sc (.int .u8 0)]) := by simp [buildV, Try.underlying8, zero8, fillA, tyOk2, cells2, tyOk3, cells3, tyOk4, cells4, tyOk6, cells6]
theorem bds8 (v0 v1 v2 v3 : AV) (hv0 : v0.cells = [v0]) (hv1 : v1.cells = [v1]) (hv2 : v2.cells = [v2]) (hv3 : v3.cells = [v3]) : buildV Try.prog 8 [(0, v0), (1, v1), (2, v2), (3, v3)] = some (.agg [v0, v1, v2, v3]) := by simp [buildV, Try.underlying8, zero8, fillA, placeS, overA, tyOk2, cells2, tyOk3, cells3, tyOk4, cells4, tyOk6, cells6, hv0, hv1, hv2, hv3]
theorem fadr13_0 (r off : Nat) : fadrT Try.prog 13 (.ptr r off) 0 = some (.ptr r (off + 0)) := fadr_st Try.underlying13 rfl tyOk9 (by rw [cells9]; decide) r off
theorem fld13_0 (cs : List AV) : fldT Try.prog 13 (.agg cs) 0 = cs[0]? := fld_one Try.underlying13 rfl tyOk9 agg9 cs
theorem fadr13_1 (r off : Nat) : fadrT Try.prog 13 (.ptr r off) 1 = some (.ptr r (off + 1)) := fadr_st Try.underlying13 rfl tyOk12 (by rw [cells12]; decide) r off
theorem fld13_1 (cs : List AV) : fldT Try.prog 13 (.agg cs) 1 = cs[1]? := fld_one Try.underlying13 rfl tyOk12 agg12 cs
theorem bz13 : buildV Try.prog 13 [] = some (.agg [.sc (.string ByteArray.empty), .sc (.int .u64 0)]) := by simp [buildV, Try.underlying13, zero13, fillA, tyOk9, cells9, tyOk12, cells12]
theorem bds13 (v0 v1 : AV) (hv0 : v0.cells = [v0]) (hv1 : v1.cells = [v1]) : buildV Try.prog 13 [(0, v0), (1, v1)] = some (.agg [v0, v1]) := by simp [buildV, Try.underlying13, zero13, fillA, placeS, overA, tyOk9, cells9, tyOk12, cells12, hv0, hv1]
theorem fadr14_0 (r off : Nat) : fadrT Try.prog 14 (.ptr r off) 0 = some (.ptr r (off + 0)) := fadr_st Try.underlying14 rfl tyOk9 (by rw [cells9]; decide) r off
theorem fld14_0 (cs : List AV) : fldT Try.prog 14 (.agg cs) 0 = cs[0]? := fld_one Try.underlying14 rfl tyOk9 agg9 cs
theorem fadr14_1 (r off : Nat) : fadrT Try.prog 14 (.ptr r off) 1 = some (.ptr r (off + 1)) := fadr_st Try.underlying14 rfl tyOk12 (by rw [cells12]; decide) r off
theorem fld14_1 (cs : List AV) : fldT Try.prog 14 (.agg cs) 1 = cs[1]? := fld_one Try.underlying14 rfl tyOk12 agg12 cs
theorem bz14 : buildV Try.prog 14 [] = some (.agg [.sc (.string ByteArray.empty), .sc (.int .u64 0)]) := by simp [buildV, Try.underlying14, zero14, fillA, tyOk9, cells9, tyOk12, cells12]
theorem bds14 (v0 v1 : AV) (hv0 : v0.cells = [v0]) (hv1 : v1.cells = [v1]) : buildV Try.prog 14 [(0, v0), (1, v1)] = some (.agg [v0, v1]) := by simp [buildV, Try.underlying14, zero14, fillA, placeS, overA, tyOk9, cells9, tyOk12, cells12, hv0, hv1]
theorem fadr18_0 (r off : Nat) : fadrT Try.prog 18 (.ptr r off) 0 = some (.ptr r (off + 0)) := fadr_st Try.underlying18 rfl tyOk17 (by rw [cells17]; decide) r off
theorem fld18_0 (cs : List AV) : fldT Try.prog 18 (.agg cs) 0 = cs[0]? := fld_one Try.underlying18 rfl tyOk17 agg17 cs
theorem bz18 : buildV Try.prog 18 [] = some (.agg [.sc (.pointer none)]) := by simp [buildV, Try.underlying18, zero18, fillA, tyOk17, cells17]
theorem bds18 (v0 : AV) (hv0 : v0.cells = [v0]) : buildV Try.prog 18 [(0, v0)] = some (.agg [v0]) := by simp [buildV, Try.underlying18, zero18, fillA, placeS, overA, tyOk17, cells17, hv0]
theorem fadr19_0 (r off : Nat) : fadrT Try.prog 19 (.ptr r off) 0 = some (.ptr r (off + 0)) := fadr_st Try.underlying19 rfl tyOk17 (by rw [cells17]; decide) r off
theorem fld19_0 (cs : List AV) : fldT Try.prog 19 (.agg cs) 0 = cs[0]? := fld_one Try.underlying19 rfl tyOk17 agg17 cs
theorem bz19 : buildV Try.prog 19 [] = some (.agg [.sc (.pointer none)]) := by simp [buildV, Try.underlying19, zero19, fillA, tyOk17, cells17]
theorem bds19 (v0 : AV) (hv0 : v0.cells = [v0]) : buildV Try.prog 19 [(0, v0)] = some (.agg [v0]) := by simp [buildV, Try.underlying19, zero19, fillA, placeS, overA, tyOk17, cells17, hv0]
theorem fadr28_0 (r off : Nat) : fadrT Try.prog 28 (.ptr r off) 0 = some (.ptr r (off + 0)) := fadr_st Try.underlying28 rfl tyOk22 (by rw [cells22]; decide) r off
theorem fld28_0 (cs : List AV) : fldT Try.prog 28 (.agg cs) 0 = cs[0]? := fld_one Try.underlying28 rfl tyOk22 agg22 cs
theorem fadr28_1 (r off : Nat) : fadrT Try.prog 28 (.ptr r off) 1 = some (.ptr r (off + 1)) := fadr_st Try.underlying28 rfl tyOk22 (by rw [cells22]; decide) r off
theorem fld28_1 (cs : List AV) : fldT Try.prog 28 (.agg cs) 1 = cs[1]? := fld_one Try.underlying28 rfl tyOk22 agg22 cs
theorem fadr28_2 (r off : Nat) : fadrT Try.prog 28 (.ptr r off) 2 = some (.ptr r (off + 2)) := fadr_st Try.underlying28 rfl tyOk3 (by rw [cells3]; decide) r off
theorem fld28_2 (cs : List AV) : fldT Try.prog 28 (.agg cs) 2 = cs[2]? := fld_one Try.underlying28 rfl tyOk3 agg3 cs
theorem bz28 : buildV Try.prog 28 [] = some (.agg [.sc (.slice none 0 0), .sc (.slice none 0 0), .sc (.int .i64 0)]) := by simp [buildV, Try.underlying28, zero28, fillA, tyOk22, cells22, tyOk22, cells22, tyOk3, cells3]
theorem bds28 (v0 v1 v2 : AV) (hv0 : v0.cells = [v0]) (hv1 : v1.cells = [v1]) (hv2 : v2.cells = [v2]) : buildV Try.prog 28 [(0, v0), (1, v1), (2, v2)] = some (.agg [v0, v1, v2]) := by simp [buildV, Try.underlying28, zero28, fillA, placeS, overA, tyOk22, cells22, tyOk22, cells22, tyOk3, cells3, hv0, hv1, hv2]
theorem fadr29_0 (r off : Nat) : fadrT Try.prog 29 (.ptr r off) 0 = some (.ptr r (off + 0)) := fadr_st Try.underlying29 rfl tyOk22 (by rw [cells22]; decide) r off
theorem fld29_0 (cs : List AV) : fldT Try.prog 29 (.agg cs) 0 = cs[0]? := fld_one Try.underlying29 rfl tyOk22 agg22 cs
theorem fadr29_1 (r off : Nat) : fadrT Try.prog 29 (.ptr r off) 1 = some (.ptr r (off + 1)) := fadr_st Try.underlying29 rfl tyOk22 (by rw [cells22]; decide) r off
theorem fld29_1 (cs : List AV) : fldT Try.prog 29 (.agg cs) 1 = cs[1]? := fld_one Try.underlying29 rfl tyOk22 agg22 cs
theorem fadr29_2 (r off : Nat) : fadrT Try.prog 29 (.ptr r off) 2 = some (.ptr r (off + 2)) := fadr_st Try.underlying29 rfl tyOk3 (by rw [cells3]; decide) r off
theorem fld29_2 (cs : List AV) : fldT Try.prog 29 (.agg cs) 2 = cs[2]? := fld_one Try.underlying29 rfl tyOk3 agg3 cs
theorem bz29 : buildV Try.prog 29 [] = some (.agg [.sc (.slice none 0 0), .sc (.slice none 0 0), .sc (.int .i64 0)]) := by simp [buildV, Try.underlying29, zero29, fillA, tyOk22, cells22, tyOk22, cells22, tyOk3, cells3]
theorem bds29 (v0 v1 v2 : AV) (hv0 : v0.cells = [v0]) (hv1 : v1.cells = [v1]) (hv2 : v2.cells = [v2]) : buildV Try.prog 29 [(0, v0), (1, v1), (2, v2)] = some (.agg [v0, v1, v2]) := by simp [buildV, Try.underlying29, zero29, fillA, placeS, overA, tyOk22, cells22, tyOk22, cells22, tyOk3, cells3, hv0, hv1, hv2]
theorem fadr32_0 (r off : Nat) : fadrT Try.prog 32 (.ptr r off) 0 = some (.ptr r (off + 0)) := fadr_st Try.underlying32 rfl tyOk22 (by rw [cells22]; decide) r off
theorem fld32_0 (cs : List AV) : fldT Try.prog 32 (.agg cs) 0 = cs[0]? := fld_one Try.underlying32 rfl tyOk22 agg22 cs
theorem fadr32_1 (r off : Nat) : fadrT Try.prog 32 (.ptr r off) 1 = some (.ptr r (off + 1)) := fadr_st Try.underlying32 rfl tyOk22 (by rw [cells22]; decide) r off
theorem fld32_1 (cs : List AV) : fldT Try.prog 32 (.agg cs) 1 = cs[1]? := fld_one Try.underlying32 rfl tyOk22 agg22 cs
theorem fadr32_2 (r off : Nat) : fadrT Try.prog 32 (.ptr r off) 2 = some (.ptr r (off + 2)) := fadr_st Try.underlying32 rfl tyOk3 (by rw [cells3]; decide) r off
theorem fld32_2 (cs : List AV) : fldT Try.prog 32 (.agg cs) 2 = cs[2]? := fld_one Try.underlying32 rfl tyOk3 agg3 cs
theorem bz32 : buildV Try.prog 32 [] = some (.agg [.sc (.slice none 0 0), .sc (.slice none 0 0), .sc (.int .i64 0)]) := by simp [buildV, Try.underlying32, zero32, fillA, tyOk22, cells22, tyOk22, cells22, tyOk3, cells3]
theorem bds32 (v0 v1 v2 : AV) (hv0 : v0.cells = [v0]) (hv1 : v1.cells = [v1]) (hv2 : v2.cells = [v2]) : buildV Try.prog 32 [(0, v0), (1, v1), (2, v2)] = some (.agg [v0, v1, v2]) := by simp [buildV, Try.underlying32, zero32, fillA, placeS, overA, tyOk22, cells22, tyOk22, cells22, tyOk3, cells3, hv0, hv1, hv2]
theorem fadr70_0 (r off : Nat) : fadrT Try.prog 70 (.ptr r off) 0 = some (.ptr r (off + 0)) := fadr_st Try.underlying70 rfl tyOk46 (by rw [cells46]; decide) r off
theorem fld70_0 (cs : List AV) : fldT Try.prog 70 (.agg cs) 0 = cs[0]? := fld_one Try.underlying70 rfl tyOk46 agg46 cs
theorem fadr70_1 (r off : Nat) : fadrT Try.prog 70 (.ptr r off) 1 = some (.ptr r (off + 1)) := fadr_st Try.underlying70 rfl tyOk3 (by rw [cells3]; decide) r off
theorem fld70_1 (cs : List AV) : fldT Try.prog 70 (.agg cs) 1 = cs[1]? := fld_one Try.underlying70 rfl tyOk3 agg3 cs
theorem fadr70_2 (r off : Nat) : fadrT Try.prog 70 (.ptr r off) 2 = some (.ptr r (off + 2)) := fadr_st Try.underlying70 rfl tyOk3 (by rw [cells3]; decide) r off
theorem fld70_2 (cs : List AV) : fldT Try.prog 70 (.agg cs) 2 = cs[2]? := fld_one Try.underlying70 rfl tyOk3 agg3 cs
theorem bz70 : buildV Try.prog 70 [] = some (.agg [.sc (.slice none 0 0), .sc (.int .i64 0), .sc (.int .i64 0)]) := by simp [buildV, Try.underlying70, zero70, fillA, tyOk46, cells46, tyOk3, cells3, tyOk3, cells3]
theorem bds70 (v0 v1 v2 : AV) (hv0 : v0.cells = [v0]) (hv1 : v1.cells = [v1]) (hv2 : v2.cells = [v2]) : buildV Try.prog 70 [(0, v0), (1, v1), (2, v2)] = some (.agg [v0, v1, v2]) := by simp [buildV, Try.underlying70, zero70, fillA, placeS, overA, tyOk46, cells46, tyOk3, cells3, tyOk3, cells3, hv0, hv1, hv2]
theorem fadr71_0 (r off : Nat) : fadrT Try.prog 71 (.ptr r off) 0 = some (.ptr r (off + 0)) := fadr_st Try.underlying71 rfl tyOk46 (by rw [cells46]; decide) r off
theorem fld71_0 (cs : List AV) : fldT Try.prog 71 (.agg cs) 0 = cs[0]? := fld_one Try.underlying71 rfl tyOk46 agg46 cs
theorem fadr71_1 (r off : Nat) : fadrT Try.prog 71 (.ptr r off) 1 = some (.ptr r (off + 1)) := fadr_st Try.underlying71 rfl tyOk3 (by rw [cells3]; decide) r off
theorem fld71_1 (cs : List AV) : fldT Try.prog 71 (.agg cs) 1 = cs[1]? := fld_one Try.underlying71 rfl tyOk3 agg3 cs
theorem fadr71_2 (r off : Nat) : fadrT Try.prog 71 (.ptr r off) 2 = some (.ptr r (off + 2)) := fadr_st Try.underlying71 rfl tyOk3 (by rw [cells3]; decide) r off
theorem fld71_2 (cs : List AV) : fldT Try.prog 71 (.agg cs) 2 = cs[2]? := fld_one Try.underlying71 rfl tyOk3 agg3 cs
theorem bz71 : buildV Try.prog 71 [] = some (.agg [.sc (.slice none 0 0), .sc (.int .i64 0), .sc (.int .i64 0)]) := by simp [buildV, Try.underlying71, zero71, fillA, tyOk46, cells46, tyOk3, cells3, tyOk3, cells3]
theorem bds71 (v0 v1 v2 : AV) (hv0 : v0.cells = [v0]) (hv1 : v1.cells = [v1]) (hv2 : v2.cells = [v2]) : buildV Try.prog 71 [(0, v0), (1, v1), (2, v2)] = some (.agg [v0, v1, v2]) := by simp [buildV, Try.underlying71, zero71, fillA, placeS, overA, tyOk46, cells46, tyOk3, cells3, tyOk3, cells3, hv0, hv1, hv2]
theorem fadr100_0 (r off : Nat) : fadrT Try.prog 100 (.ptr r off) 0 = some (.ptr r (off + 0)) := fadr_st Try.underlying100 rfl tyOk17 (by rw [cells17]; decide) r off
theorem fld100_0 (cs : List AV) : fldT Try.prog 100 (.agg cs) 0 = cs[0]? := fld_one Try.underlying100 rfl tyOk17 agg17 cs
theorem fadr100_1 (r off : Nat) : fadrT Try.prog 100 (.ptr r off) 1 = some (.ptr r (off + 1)) := fadr_st Try.underlying100 rfl tyOk17 (by rw [cells17]; decide) r off
theorem fld100_1 (cs : List AV) : fldT Try.prog 100 (.agg cs) 1 = cs[1]? := fld_one Try.underlying100 rfl tyOk17 agg17 cs
theorem fadr100_2 (r off : Nat) : fadrT Try.prog 100 (.ptr r off) 2 = some (.ptr r (off + 2)) := fadr_st Try.underlying100 rfl tyOk17 (by rw [cells17]; decide) r off
theorem fld100_2 (cs : List AV) : fldT Try.prog 100 (.agg cs) 2 = cs[2]? := fld_one Try.underlying100 rfl tyOk17 agg17 cs
theorem fadr100_3 (r off : Nat) : fadrT Try.prog 100 (.ptr r off) 3 = some (.ptr r (off + 3)) := fadr_st Try.underlying100 rfl tyOk9 (by rw [cells9]; decide) r off
theorem fld100_3 (cs : List AV) : fldT Try.prog 100 (.agg cs) 3 = cs[3]? := fld_one Try.underlying100 rfl tyOk9 agg9 cs
theorem bz100 : buildV Try.prog 100 [] = some (.agg [.sc (.pointer none), .sc (.pointer none), .sc (.pointer none), .sc (.string ByteArray.empty)]) := by simp [buildV, Try.underlying100, zero100, fillA, tyOk17, cells17, tyOk17, cells17, tyOk17, cells17, tyOk9, cells9]
theorem bds100 (v0 v1 v2 v3 : AV) (hv0 : v0.cells = [v0]) (hv1 : v1.cells = [v1]) (hv2 : v2.cells = [v2]) (hv3 : v3.cells = [v3]) : buildV Try.prog 100 [(0, v0), (1, v1), (2, v2), (3, v3)] = some (.agg [v0, v1, v2, v3]) := by simp [buildV, Try.underlying100, zero100, fillA, placeS, overA, tyOk17, cells17, tyOk17, cells17, tyOk17, cells17, tyOk9, cells9, hv0, hv1, hv2, hv3]
theorem fadr101_0 (r off : Nat) : fadrT Try.prog 101 (.ptr r off) 0 = some (.ptr r (off + 0)) := fadr_st Try.underlying101 rfl tyOk17 (by rw [cells17]; decide) r off
theorem fld101_0 (cs : List AV) : fldT Try.prog 101 (.agg cs) 0 = cs[0]? := fld_one Try.underlying101 rfl tyOk17 agg17 cs
theorem fadr101_1 (r off : Nat) : fadrT Try.prog 101 (.ptr r off) 1 = some (.ptr r (off + 1)) := fadr_st Try.underlying101 rfl tyOk17 (by rw [cells17]; decide) r off
theorem fld101_1 (cs : List AV) : fldT Try.prog 101 (.agg cs) 1 = cs[1]? := fld_one Try.underlying101 rfl tyOk17 agg17 cs
theorem fadr101_2 (r off : Nat) : fadrT Try.prog 101 (.ptr r off) 2 = some (.ptr r (off + 2)) := fadr_st Try.underlying101 rfl tyOk17 (by rw [cells17]; decide) r off
theorem fld101_2 (cs : List AV) : fldT Try.prog 101 (.agg cs) 2 = cs[2]? := fld_one Try.underlying101 rfl tyOk17 agg17 cs
theorem fadr101_3 (r off : Nat) : fadrT Try.prog 101 (.ptr r off) 3 = some (.ptr r (off + 3)) := fadr_st Try.underlying101 rfl tyOk9 (by rw [cells9]; decide) r off
theorem fld101_3 (cs : List AV) : fldT Try.prog 101 (.agg cs) 3 = cs[3]? := fld_one Try.underlying101 rfl tyOk9 agg9 cs
theorem bz101 : buildV Try.prog 101 [] = some (.agg [.sc (.pointer none), .sc (.pointer none), .sc (.pointer none), .sc (.string ByteArray.empty)]) := by simp [buildV, Try.underlying101, zero101, fillA, tyOk17, cells17, tyOk17, cells17, tyOk17, cells17, tyOk9, cells9]
theorem bds101 (v0 v1 v2 v3 : AV) (hv0 : v0.cells = [v0]) (hv1 : v1.cells = [v1]) (hv2 : v2.cells = [v2]) (hv3 : v3.cells = [v3]) : buildV Try.prog 101 [(0, v0), (1, v1), (2, v2), (3, v3)] = some (.agg [v0, v1, v2, v3]) := by simp [buildV, Try.underlying101, zero101, fillA, placeS, overA, tyOk17, cells17, tyOk17, cells17, tyOk17, cells17, tyOk9, cells9, hv0, hv1, hv2, hv3]
theorem fadr112_0 (r off : Nat) : fadrT Try.prog 112 (.ptr r off) 0 = some (.ptr r (off + 0)) := fadr_st Try.underlying112 rfl tyOk12 (by rw [cells12]; decide) r off
theorem fld112_0 (cs : List AV) : fldT Try.prog 112 (.agg cs) 0 = cs[0]? := fld_one Try.underlying112 rfl tyOk12 agg12 cs
theorem fadr112_1 (r off : Nat) : fadrT Try.prog 112 (.ptr r off) 1 = some (.ptr r (off + 1)) := fadr_st Try.underlying112 rfl tyOk12 (by rw [cells12]; decide) r off
theorem fld112_1 (cs : List AV) : fldT Try.prog 112 (.agg cs) 1 = cs[1]? := fld_one Try.underlying112 rfl tyOk12 agg12 cs
theorem fadr112_2 (r off : Nat) : fadrT Try.prog 112 (.ptr r off) 2 = some (.ptr r (off + 2)) := fadr_st Try.underlying112 rfl tyOk86 (by rw [cells86]; decide) r off
theorem fld112_2 (cs : List AV) : fldT Try.prog 112 (.agg cs) 2 = cs[2]? := fld_one Try.underlying112 rfl tyOk86 agg86 cs
theorem fadr112_3 (r off : Nat) : fadrT Try.prog 112 (.ptr r off) 3 = some (.ptr r (off + 3)) := fadr_st Try.underlying112 rfl tyOk106 (by rw [cells106]; decide) r off
theorem fld112_3 (cs : List AV) : fldT Try.prog 112 (.agg cs) 3 = cs[3]? := fld_one Try.underlying112 rfl tyOk106 agg106 cs
theorem fadr112_4 (r off : Nat) : fadrT Try.prog 112 (.ptr r off) 4 = some (.ptr r (off + 4)) := fadr_st Try.underlying112 rfl tyOk5 (by rw [cells5]; decide) r off
theorem fld112_4 (cs : List AV) : fldT Try.prog 112 (.agg cs) 4 = cs[4]? := fld_one Try.underlying112 rfl tyOk5 agg5 cs
theorem fadr112_5 (r off : Nat) : fadrT Try.prog 112 (.ptr r off) 5 = some (.ptr r (off + 5)) := fadr_st Try.underlying112 rfl tyOk5 (by rw [cells5]; decide) r off
theorem fld112_5 (cs : List AV) : fldT Try.prog 112 (.agg cs) 5 = cs[5]? := fld_one Try.underlying112 rfl tyOk5 agg5 cs
theorem fadr112_6 (r off : Nat) : fadrT Try.prog 112 (.ptr r off) 6 = some (.ptr r (off + 6)) := fadr_st Try.underlying112 rfl tyOk107 (by rw [cells107]; decide) r off
theorem fld112_6 (cs : List AV) : fldT Try.prog 112 (.agg cs) 6 = cs[6]? := fld_one Try.underlying112 rfl tyOk107 agg107 cs
theorem fadr112_7 (r off : Nat) : fadrT Try.prog 112 (.ptr r off) 7 = some (.ptr r (off + 7)) := fadr_st Try.underlying112 rfl tyOk108 (by rw [cells108]; decide) r off
theorem fld112_7 (cs : List AV) : fldT Try.prog 112 (.agg cs) 7 = cs[7]? := fld_one Try.underlying112 rfl tyOk108 agg108 cs
theorem fadr112_8 (r off : Nat) : fadrT Try.prog 112 (.ptr r off) 8 = some (.ptr r (off + 8)) := fadr_st Try.underlying112 rfl tyOk109 (by rw [cells109]; decide) r off
theorem fld112_8 (cs : List AV) : fldT Try.prog 112 (.agg cs) 8 = cs[8]? := fld_one Try.underlying112 rfl tyOk109 agg109 cs
theorem fadr112_9 (r off : Nat) : fadrT Try.prog 112 (.ptr r off) 9 = some (.ptr r (off + 9)) := fadr_st Try.underlying112 rfl tyOk110 (by rw [cells110]; decide) r off
theorem fld112_9 (cs : List AV) : fldT Try.prog 112 (.agg cs) 9 = cs[9]? := fld_one Try.underlying112 rfl tyOk110 agg110 cs
theorem fadr112_10 (r off : Nat) : fadrT Try.prog 112 (.ptr r off) 10 = some (.ptr r (off + 10)) := fadr_st Try.underlying112 rfl tyOk111 (by rw [cells111]; decide) r off
theorem fld112_10 (cs : List AV) : fldT Try.prog 112 (.agg cs) 10 = cs[10]? := fld_one Try.underlying112 rfl tyOk111 agg111 cs
theorem fadr113_0 (r off : Nat) : fadrT Try.prog 113 (.ptr r off) 0 = some (.ptr r (off + 0)) := fadr_st Try.underlying113 rfl tyOk12 (by rw [cells12]; decide) r off
theorem fld113_0 (cs : List AV) : fldT Try.prog 113 (.agg cs) 0 = cs[0]? := fld_one Try.underlying113 rfl tyOk12 agg12 cs
theorem fadr113_1 (r off : Nat) : fadrT Try.prog 113 (.ptr r off) 1 = some (.ptr r (off + 1)) := fadr_st Try.underlying113 rfl tyOk12 (by rw [cells12]; decide) r off
theorem fld113_1 (cs : List AV) : fldT Try.prog 113 (.agg cs) 1 = cs[1]? := fld_one Try.underlying113 rfl tyOk12 agg12 cs
theorem fadr113_2 (r off : Nat) : fadrT Try.prog 113 (.ptr r off) 2 = some (.ptr r (off + 2)) := fadr_st Try.underlying113 rfl tyOk86 (by rw [cells86]; decide) r off
theorem fld113_2 (cs : List AV) : fldT Try.prog 113 (.agg cs) 2 = cs[2]? := fld_one Try.underlying113 rfl tyOk86 agg86 cs
theorem fadr113_3 (r off : Nat) : fadrT Try.prog 113 (.ptr r off) 3 = some (.ptr r (off + 3)) := fadr_st Try.underlying113 rfl tyOk106 (by rw [cells106]; decide) r off
theorem fld113_3 (cs : List AV) : fldT Try.prog 113 (.agg cs) 3 = cs[3]? := fld_one Try.underlying113 rfl tyOk106 agg106 cs
theorem fadr113_4 (r off : Nat) : fadrT Try.prog 113 (.ptr r off) 4 = some (.ptr r (off + 4)) := fadr_st Try.underlying113 rfl tyOk5 (by rw [cells5]; decide) r off
theorem fld113_4 (cs : List AV) : fldT Try.prog 113 (.agg cs) 4 = cs[4]? := fld_one Try.underlying113 rfl tyOk5 agg5 cs
theorem fadr113_5 (r off : Nat) : fadrT Try.prog 113 (.ptr r off) 5 = some (.ptr r (off + 5)) := fadr_st Try.underlying113 rfl tyOk5 (by rw [cells5]; decide) r off
theorem fld113_5 (cs : List AV) : fldT Try.prog 113 (.agg cs) 5 = cs[5]? := fld_one Try.underlying113 rfl tyOk5 agg5 cs
theorem fadr113_6 (r off : Nat) : fadrT Try.prog 113 (.ptr r off) 6 = some (.ptr r (off + 6)) := fadr_st Try.underlying113 rfl tyOk107 (by rw [cells107]; decide) r off
theorem fld113_6 (cs : List AV) : fldT Try.prog 113 (.agg cs) 6 = cs[6]? := fld_one Try.underlying113 rfl tyOk107 agg107 cs
theorem fadr113_7 (r off : Nat) : fadrT Try.prog 113 (.ptr r off) 7 = some (.ptr r (off + 7)) := fadr_st Try.underlying113 rfl tyOk108 (by rw [cells108]; decide) r off
theorem fld113_7 (cs : List AV) : fldT Try.prog 113 (.agg cs) 7 = cs[7]? := fld_one Try.underlying113 rfl tyOk108 agg108 cs
theorem fadr113_8 (r off : Nat) : fadrT Try.prog 113 (.ptr r off) 8 = some (.ptr r (off + 8)) := fadr_st Try.underlying113 rfl tyOk109 (by rw [cells109]; decide) r off
theorem fld113_8 (cs : List AV) : fldT Try.prog 113 (.agg cs) 8 = cs[8]? := fld_one Try.underlying113 rfl tyOk109 agg109 cs
theorem fadr113_9 (r off : Nat) : fadrT Try.prog 113 (.ptr r off) 9 = some (.ptr r (off + 9)) := fadr_st Try.underlying113 rfl tyOk110 (by rw [cells110]; decide) r off
theorem fld113_9 (cs : List AV) : fldT Try.prog 113 (.agg cs) 9 = cs[9]? := fld_one Try.underlying113 rfl tyOk110 agg110 cs
theorem fadr113_10 (r off : Nat) : fadrT Try.prog 113 (.ptr r off) 10 = some (.ptr r (off + 10)) := fadr_st Try.underlying113 rfl tyOk111 (by rw [cells111]; decide) r off
theorem fld113_10 (cs : List AV) : fldT Try.prog 113 (.agg cs) 10 = cs[10]? := fld_one Try.underlying113 rfl tyOk111 agg111 cs
theorem follows : Try.prog.follows .mixedOrders = true := by kernel_rfl
end Go.Proofs.Ytcjjcpdfnndenaa.Sim
