/- Facts about the types of the program. -/
import Derived.Test.YtknmbiebnpojjaaS27
import Derived.Test.YtknmbiebnpojjaaProg
namespace Go.Proofs.Ytknmbiebnpojjaa.Sim
open Go
set_option linter.unusedSimpArgs false
theorem tyOk0 : tyOk Try.prog 0 = true := by kernel_rfl
theorem agg0 : aggB Try.prog 0 = false := by kernel_rfl
theorem cells0 : Try.prog.cellsOf 0 = 1 := by kernel_rfl
theorem tyOk1 : tyOk Try.prog 1 = true := by kernel_rfl
theorem agg1 : aggB Try.prog 1 = false := by kernel_rfl
theorem cells1 : Try.prog.cellsOf 1 = 1 := by kernel_rfl
theorem tyOk2 : tyOk Try.prog 2 = true := by kernel_rfl
theorem agg2 : aggB Try.prog 2 = false := by kernel_rfl
theorem cells2 : Try.prog.cellsOf 2 = 1 := by kernel_rfl
theorem zero2 : zeroA Try.prog 2 = some [.sc (.int .i64 0)] := by kernel_rfl
theorem info2 : (Try.prog.info? 2).map (·.bytes) = some 8 := by kernel_rfl
theorem mk2 (a b : IntKind) (m : Int) (h0 : 0 ≤ m) (h1 : m ≤ 1000000000000) : mkV Try.prog (some (.slice 2)) (.sc (.int a m)) (.sc (.int b m)) = some (ints .i64 (List.replicate m.toNat 0), fun r => .sl r 0 m.toNat 1) := mk_ints .i64 2 a b m _ zero2 info2 cells2 h0 (by omega) (by omega)
theorem bs2_0 : bsV Try.prog (some (.slice 2)) 0 [] = some (ints .i64 [], fun r => .sl r 0 0 1) := bs_ints .i64 2 0 [] zero2 tyOk2 cells2 (by decide) (by simp)
theorem bs2_1 (a0 : Int) : bsV Try.prog (some (.slice 2)) 1 [(0, .sc (.int .i64 a0))] = some (ints .i64 [a0], fun r => .sl r 0 1 1) := bs_ints .i64 2 1 [(0, a0)] zero2 tyOk2 cells2 (by decide) (by simp)
theorem bs2_2 (a0 a1 : Int) : bsV Try.prog (some (.slice 2)) 2 [(0, .sc (.int .i64 a0)), (1, .sc (.int .i64 a1))] = some (ints .i64 [a0, a1], fun r => .sl r 0 2 1) := bs_ints .i64 2 2 [(0, a0), (1, a1)] zero2 tyOk2 cells2 (by decide) (by simp)
theorem bs2_3 (a0 a1 a2 : Int) : bsV Try.prog (some (.slice 2)) 3 [(0, .sc (.int .i64 a0)), (1, .sc (.int .i64 a1)), (2, .sc (.int .i64 a2))] = some (ints .i64 [a0, a1, a2], fun r => .sl r 0 3 1) := bs_ints .i64 2 3 [(0, a0), (1, a1), (2, a2)] zero2 tyOk2 cells2 (by decide) (by simp)
theorem bs2_4 (a0 a1 a2 a3 : Int) : bsV Try.prog (some (.slice 2)) 4 [(0, .sc (.int .i64 a0)), (1, .sc (.int .i64 a1)), (2, .sc (.int .i64 a2)), (3, .sc (.int .i64 a3))] = some (ints .i64 [a0, a1, a2, a3], fun r => .sl r 0 4 1) := bs_ints .i64 2 4 [(0, a0), (1, a1), (2, a2), (3, a3)] zero2 tyOk2 cells2 (by decide) (by simp)
theorem bs2_5 (a0 a1 a2 a3 a4 : Int) : bsV Try.prog (some (.slice 2)) 5 [(0, .sc (.int .i64 a0)), (1, .sc (.int .i64 a1)), (2, .sc (.int .i64 a2)), (3, .sc (.int .i64 a3)), (4, .sc (.int .i64 a4))] = some (ints .i64 [a0, a1, a2, a3, a4], fun r => .sl r 0 5 1) := bs_ints .i64 2 5 [(0, a0), (1, a1), (2, a2), (3, a3), (4, a4)] zero2 tyOk2 cells2 (by decide) (by simp)
theorem bs2_6 (a0 a1 a2 a3 a4 a5 : Int) : bsV Try.prog (some (.slice 2)) 6 [(0, .sc (.int .i64 a0)), (1, .sc (.int .i64 a1)), (2, .sc (.int .i64 a2)), (3, .sc (.int .i64 a3)), (4, .sc (.int .i64 a4)), (5, .sc (.int .i64 a5))] = some (ints .i64 [a0, a1, a2, a3, a4, a5], fun r => .sl r 0 6 1) := bs_ints .i64 2 6 [(0, a0), (1, a1), (2, a2), (3, a3), (4, a4), (5, a5)] zero2 tyOk2 cells2 (by decide) (by simp)
theorem bs2_7 (a0 a1 a2 a3 a4 a5 a6 : Int) : bsV Try.prog (some (.slice 2)) 7 [(0, .sc (.int .i64 a0)), (1, .sc (.int .i64 a1)), (2, .sc (.int .i64 a2)), (3, .sc (.int .i64 a3)), (4, .sc (.int .i64 a4)), (5, .sc (.int .i64 a5)), (6, .sc (.int .i64 a6))] = some (ints .i64 [a0, a1, a2, a3, a4, a5, a6], fun r => .sl r 0 7 1) := bs_ints .i64 2 7 [(0, a0), (1, a1), (2, a2), (3, a3), (4, a4), (5, a5), (6, a6)] zero2 tyOk2 cells2 (by decide) (by simp)
theorem bs2_8 (a0 a1 a2 a3 a4 a5 a6 a7 : Int) : bsV Try.prog (some (.slice 2)) 8 [(0, .sc (.int .i64 a0)), (1, .sc (.int .i64 a1)), (2, .sc (.int .i64 a2)), (3, .sc (.int .i64 a3)), (4, .sc (.int .i64 a4)), (5, .sc (.int .i64 a5)), (6, .sc (.int .i64 a6)), (7, .sc (.int .i64 a7))] = some (ints .i64 [a0, a1, a2, a3, a4, a5, a6, a7], fun r => .sl r 0 8 1) := bs_ints .i64 2 8 [(0, a0), (1, a1), (2, a2), (3, a3), (4, a4), (5, a5), (6, a6), (7, a7)] zero2 tyOk2 cells2 (by decide) (by simp)
theorem bs2_10 (a0 a1 a2 a3 a4 a5 a6 a7 a8 a9 : Int) : bsV Try.prog (some (.slice 2)) 10 [(0, .sc (.int .i64 a0)), (1, .sc (.int .i64 a1)), (2, .sc (.int .i64 a2)), (3, .sc (.int .i64 a3)), (4, .sc (.int .i64 a4)), (5, .sc (.int .i64 a5)), (6, .sc (.int .i64 a6)), (7, .sc (.int .i64 a7)), (8, .sc (.int .i64 a8)), (9, .sc (.int .i64 a9))] = some (ints .i64 [a0, a1, a2, a3, a4, a5, a6, a7, a8, a9], fun r => .sl r 0 10 1) := bs_ints .i64 2 10 [(0, a0), (1, a1), (2, a2), (3, a3), (4, a4), (5, a5), (6, a6), (7, a7), (8, a8), (9, a9)] zero2 tyOk2 cells2 (by decide) (by simp)
theorem bs2_11 (a0 a1 a2 a3 a4 a5 a6 a7 a8 a9 a10 : Int) : bsV Try.prog (some (.slice 2)) 11 [(0, .sc (.int .i64 a0)), (1, .sc (.int .i64 a1)), (2, .sc (.int .i64 a2)), (3, .sc (.int .i64 a3)), (4, .sc (.int .i64 a4)), (5, .sc (.int .i64 a5)), (6, .sc (.int .i64 a6)), (7, .sc (.int .i64 a7)), (8, .sc (.int .i64 a8)), (9, .sc (.int .i64 a9)), (10, .sc (.int .i64 a10))] = some (ints .i64 [a0, a1, a2, a3, a4, a5, a6, a7, a8, a9, a10], fun r => .sl r 0 11 1) := bs_ints .i64 2 11 [(0, a0), (1, a1), (2, a2), (3, a3), (4, a4), (5, a5), (6, a6), (7, a7), (8, a8), (9, a9), (10, a10)] zero2 tyOk2 cells2 (by decide) (by simp)
theorem bs2_12 (a0 a1 a2 a3 a4 a5 a6 a7 a8 a9 a10 a11 : Int) : bsV Try.prog (some (.slice 2)) 12 [(0, .sc (.int .i64 a0)), (1, .sc (.int .i64 a1)), (2, .sc (.int .i64 a2)), (3, .sc (.int .i64 a3)), (4, .sc (.int .i64 a4)), (5, .sc (.int .i64 a5)), (6, .sc (.int .i64 a6)), (7, .sc (.int .i64 a7)), (8, .sc (.int .i64 a8)), (9, .sc (.int .i64 a9)), (10, .sc (.int .i64 a10)), (11, .sc (.int .i64 a11))] = some (ints .i64 [a0, a1, a2, a3, a4, a5, a6, a7, a8, a9, a10, a11], fun r => .sl r 0 12 1) := bs_ints .i64 2 12 [(0, a0), (1, a1), (2, a2), (3, a3), (4, a4), (5, a5), (6, a6), (7, a7), (8, a8), (9, a9), (10, a10), (11, a11)] zero2 tyOk2 cells2 (by decide) (by simp)
theorem bs2_13 (a0 a1 a2 a3 a4 a5 a6 a7 a8 a9 a10 a11 a12 : Int) : bsV Try.prog (some (.slice 2)) 13 [(0, .sc (.int .i64 a0)), (1, .sc (.int .i64 a1)), (2, .sc (.int .i64 a2)), (3, .sc (.int .i64 a3)), (4, .sc (.int .i64 a4)), (5, .sc (.int .i64 a5)), (6, .sc (.int .i64 a6)), (7, .sc (.int .i64 a7)), (8, .sc (.int .i64 a8)), (9, .sc (.int .i64 a9)), (10, .sc (.int .i64 a10)), (11, .sc (.int .i64 a11)), (12, .sc (.int .i64 a12))] = some (ints .i64 [a0, a1, a2, a3, a4, a5, a6, a7, a8, a9, a10, a11, a12], fun r => .sl r 0 13 1) := bs_ints .i64 2 13 [(0, a0), (1, a1), (2, a2), (3, a3), (4, a4), (5, a5), (6, a6), (7, a7), (8, a8), (9, a9), (10, a10), (11, a11), (12, a12)] zero2 tyOk2 cells2 (by decide) (by simp)
theorem tyOk3 : tyOk Try.prog 3 = true := by kernel_rfl
theorem agg3 : aggB Try.prog 3 = false := by kernel_rfl
theorem cells3 : Try.prog.cellsOf 3 = 1 := by kernel_rfl
theorem zero3 : zeroA Try.prog 3 = some [.sc (.int .i64 0)] := by kernel_rfl
theorem info3 : (Try.prog.info? 3).map (·.bytes) = some 8 := by kernel_rfl
theorem mk3 (a b : IntKind) (m : Int) (h0 : 0 ≤ m) (h1 : m ≤ 1000000000000) : mkV Try.prog (some (.slice 3)) (.sc (.int a m)) (.sc (.int b m)) = some (ints .i64 (List.replicate m.toNat 0), fun r => .sl r 0 m.toNat 1) := mk_ints .i64 3 a b m _ zero3 info3 cells3 h0 (by omega) (by omega)
theorem bs3_0 : bsV Try.prog (some (.slice 3)) 0 [] = some (ints .i64 [], fun r => .sl r 0 0 1) := bs_ints .i64 3 0 [] zero3 tyOk3 cells3 (by decide) (by simp)
theorem bs3_1 (a0 : Int) : bsV Try.prog (some (.slice 3)) 1 [(0, .sc (.int .i64 a0))] = some (ints .i64 [a0], fun r => .sl r 0 1 1) := bs_ints .i64 3 1 [(0, a0)] zero3 tyOk3 cells3 (by decide) (by simp)
theorem bs3_2 (a0 a1 : Int) : bsV Try.prog (some (.slice 3)) 2 [(0, .sc (.int .i64 a0)), (1, .sc (.int .i64 a1))] = some (ints .i64 [a0, a1], fun r => .sl r 0 2 1) := bs_ints .i64 3 2 [(0, a0), (1, a1)] zero3 tyOk3 cells3 (by decide) (by simp)
theorem bs3_3 (a0 a1 a2 : Int) : bsV Try.prog (some (.slice 3)) 3 [(0, .sc (.int .i64 a0)), (1, .sc (.int .i64 a1)), (2, .sc (.int .i64 a2))] = some (ints .i64 [a0, a1, a2], fun r => .sl r 0 3 1) := bs_ints .i64 3 3 [(0, a0), (1, a1), (2, a2)] zero3 tyOk3 cells3 (by decide) (by simp)
theorem bs3_4 (a0 a1 a2 a3 : Int) : bsV Try.prog (some (.slice 3)) 4 [(0, .sc (.int .i64 a0)), (1, .sc (.int .i64 a1)), (2, .sc (.int .i64 a2)), (3, .sc (.int .i64 a3))] = some (ints .i64 [a0, a1, a2, a3], fun r => .sl r 0 4 1) := bs_ints .i64 3 4 [(0, a0), (1, a1), (2, a2), (3, a3)] zero3 tyOk3 cells3 (by decide) (by simp)
theorem bs3_5 (a0 a1 a2 a3 a4 : Int) : bsV Try.prog (some (.slice 3)) 5 [(0, .sc (.int .i64 a0)), (1, .sc (.int .i64 a1)), (2, .sc (.int .i64 a2)), (3, .sc (.int .i64 a3)), (4, .sc (.int .i64 a4))] = some (ints .i64 [a0, a1, a2, a3, a4], fun r => .sl r 0 5 1) := bs_ints .i64 3 5 [(0, a0), (1, a1), (2, a2), (3, a3), (4, a4)] zero3 tyOk3 cells3 (by decide) (by simp)
theorem bs3_6 (a0 a1 a2 a3 a4 a5 : Int) : bsV Try.prog (some (.slice 3)) 6 [(0, .sc (.int .i64 a0)), (1, .sc (.int .i64 a1)), (2, .sc (.int .i64 a2)), (3, .sc (.int .i64 a3)), (4, .sc (.int .i64 a4)), (5, .sc (.int .i64 a5))] = some (ints .i64 [a0, a1, a2, a3, a4, a5], fun r => .sl r 0 6 1) := bs_ints .i64 3 6 [(0, a0), (1, a1), (2, a2), (3, a3), (4, a4), (5, a5)] zero3 tyOk3 cells3 (by decide) (by simp)
theorem bs3_7 (a0 a1 a2 a3 a4 a5 a6 : Int) : bsV Try.prog (some (.slice 3)) 7 [(0, .sc (.int .i64 a0)), (1, .sc (.int .i64 a1)), (2, .sc (.int .i64 a2)), (3, .sc (.int .i64 a3)), (4, .sc (.int .i64 a4)), (5, .sc (.int .i64 a5)), (6, .sc (.int .i64 a6))] = some (ints .i64 [a0, a1, a2, a3, a4, a5, a6], fun r => .sl r 0 7 1) := bs_ints .i64 3 7 [(0, a0), (1, a1), (2, a2), (3, a3), (4, a4), (5, a5), (6, a6)] zero3 tyOk3 cells3 (by decide) (by simp)
theorem bs3_8 (a0 a1 a2 a3 a4 a5 a6 a7 : Int) : bsV Try.prog (some (.slice 3)) 8 [(0, .sc (.int .i64 a0)), (1, .sc (.int .i64 a1)), (2, .sc (.int .i64 a2)), (3, .sc (.int .i64 a3)), (4, .sc (.int .i64 a4)), (5, .sc (.int .i64 a5)), (6, .sc (.int .i64 a6)), (7, .sc (.int .i64 a7))] = some (ints .i64 [a0, a1, a2, a3, a4, a5, a6, a7], fun r => .sl r 0 8 1) := bs_ints .i64 3 8 [(0, a0), (1, a1), (2, a2), (3, a3), (4, a4), (5, a5), (6, a6), (7, a7)] zero3 tyOk3 cells3 (by decide) (by simp)
theorem bs3_10 (a0 a1 a2 a3 a4 a5 a6 a7 a8 a9 : Int) : bsV Try.prog (some (.slice 3)) 10 [(0, .sc (.int .i64 a0)), (1, .sc (.int .i64 a1)), (2, .sc (.int .i64 a2)), (3, .sc (.int .i64 a3)), (4, .sc (.int .i64 a4)), (5, .sc (.int .i64 a5)), (6, .sc (.int .i64 a6)), (7, .sc (.int .i64 a7)), (8, .sc (.int .i64 a8)), (9, .sc (.int .i64 a9))] = some (ints .i64 [a0, a1, a2, a3, a4, a5, a6, a7, a8, a9], fun r => .sl r 0 10 1) := bs_ints .i64 3 10 [(0, a0), (1, a1), (2, a2), (3, a3), (4, a4), (5, a5), (6, a6), (7, a7), (8, a8), (9, a9)] zero3 tyOk3 cells3 (by decide) (by simp)
theorem bs3_11 (a0 a1 a2 a3 a4 a5 a6 a7 a8 a9 a10 : Int) : bsV Try.prog (some (.slice 3)) 11 [(0, .sc (.int .i64 a0)), (1, .sc (.int .i64 a1)), (2, .sc (.int .i64 a2)), (3, .sc (.int .i64 a3)), (4, .sc (.int .i64 a4)), (5, .sc (.int .i64 a5)), (6, .sc (.int .i64 a6)), (7, .sc (.int .i64 a7)), (8, .sc (.int .i64 a8)), (9, .sc (.int .i64 a9)), (10, .sc (.int .i64 a10))] = some (ints .i64 [a0, a1, a2, a3, a4, a5, a6, a7, a8, a9, a10], fun r => .sl r 0 11 1) := bs_ints .i64 3 11 [(0, a0), (1, a1), (2, a2), (3, a3), (4, a4), (5, a5), (6, a6), (7, a7), (8, a8), (9, a9), (10, a10)] zero3 tyOk3 cells3 (by decide) (by simp)
theorem bs3_12 (a0 a1 a2 a3 a4 a5 a6 a7 a8 a9 a10 a11 : Int) : bsV Try.prog (some (.slice 3)) 12 [(0, .sc (.int .i64 a0)), (1, .sc (.int .i64 a1)), (2, .sc (.int .i64 a2)), (3, .sc (.int .i64 a3)), (4, .sc (.int .i64 a4)), (5, .sc (.int .i64 a5)), (6, .sc (.int .i64 a6)), (7, .sc (.int .i64 a7)), (8, .sc (.int .i64 a8)), (9, .sc (.int .i64 a9)), (10, .sc (.int .i64 a10)), (11, .sc (.int .i64 a11))] = some (ints .i64 [a0, a1, a2, a3, a4, a5, a6, a7, a8, a9, a10, a11], fun r => .sl r 0 12 1) := bs_ints .i64 3 12 [(0, a0), (1, a1), (2, a2), (3, a3), (4, a4), (5, a5), (6, a6), (7, a7), (8, a8), (9, a9), (10, a10), (11, a11)] zero3 tyOk3 cells3 (by decide) (by simp)
theorem bs3_13 (a0 a1 a2 a3 a4 a5 a6 a7 a8 a9 a10 a11 a12 : Int) : bsV Try.prog (some (.slice 3)) 13 [(0, .sc (.int .i64 a0)), (1, .sc (.int .i64 a1)), (2, .sc (.int .i64 a2)), (3, .sc (.int .i64 a3)), (4, .sc (.int .i64 a4)), (5, .sc (.int .i64 a5)), (6, .sc (.int .i64 a6)), (7, .sc (.int .i64 a7)), (8, .sc (.int .i64 a8)), (9, .sc (.int .i64 a9)), (10, .sc (.int .i64 a10)), (11, .sc (.int .i64 a11)), (12, .sc (.int .i64 a12))] = some (ints .i64 [a0, a1, a2, a3, a4, a5, a6, a7, a8, a9, a10, a11, a12], fun r => .sl r 0 13 1) := bs_ints .i64 3 13 [(0, a0), (1, a1), (2, a2), (3, a3), (4, a4), (5, a5), (6, a6), (7, a7), (8, a8), (9, a9), (10, a10), (11, a11), (12, a12)] zero3 tyOk3 cells3 (by decide) (by simp)
theorem tyOk4 : tyOk Try.prog 4 = true := by kernel_rfl
theorem agg4 : aggB Try.prog 4 = false := by kernel_rfl
theorem cells4 : Try.prog.cellsOf 4 = 1 := by kernel_rfl
theorem zero4 : zeroA Try.prog 4 = some [.sc (.bool false)] := by kernel_rfl
theorem info4 : (Try.prog.info? 4).map (·.bytes) = some 1 := by kernel_rfl
theorem mk4 (a b : IntKind) (m : Int) (h0 : 0 ≤ m) (h1 : m ≤ 1000000000000) : mkV Try.prog (some (.slice 4)) (.sc (.int a m)) (.sc (.int b m)) = some (bools (List.replicate m.toNat false), fun r => .sl r 0 m.toNat 1) := mk_lits (f := .bool) false 4 a b m _ zero4 info4 cells4 h0 (by omega) (by omega)
theorem bs4_0 : bsV Try.prog (some (.slice 4)) 0 [] = some (bools [], fun r => .sl r 0 0 1) := by simp [bsV, zero4, tyOk4, cells4, fillA, overA, AV.cells, bools, lits]
theorem bs4_1 (a0 : Bool) : bsV Try.prog (some (.slice 4)) 1 [(0, .sc (.bool a0))] = some (bools [a0], fun r => .sl r 0 1 1) := by simp [bsV, zero4, tyOk4, cells4, fillA, overA, AV.cells, bools, lits]
theorem bs4_2 (a0 a1 : Bool) : bsV Try.prog (some (.slice 4)) 2 [(0, .sc (.bool a0)), (1, .sc (.bool a1))] = some (bools [a0, a1], fun r => .sl r 0 2 1) := by simp [bsV, zero4, tyOk4, cells4, fillA, overA, AV.cells, bools, lits]
theorem tyOk5 : tyOk Try.prog 5 = true := by kernel_rfl
theorem agg5 : aggB Try.prog 5 = false := by kernel_rfl
theorem cells5 : Try.prog.cellsOf 5 = 1 := by kernel_rfl
theorem isU5 : isU8 Try.prog 5 = true := by kernel_rfl
theorem zero5 : zeroA Try.prog 5 = some [.sc (.int .u8 0)] := by kernel_rfl
theorem info5 : (Try.prog.info? 5).map (·.bytes) = some 1 := by kernel_rfl
theorem mk5 (a b : IntKind) (m : Int) (h0 : 0 ≤ m) (h1 : m ≤ 1000000000000) : mkV Try.prog (some (.slice 5)) (.sc (.int a m)) (.sc (.int b m)) = some (ints .u8 (List.replicate m.toNat 0), fun r => .sl r 0 m.toNat 1) := mk_ints .u8 5 a b m _ zero5 info5 cells5 h0 (by omega) (by omega)
theorem bs5_0 : bsV Try.prog (some (.slice 5)) 0 [] = some (ints .u8 [], fun r => .sl r 0 0 1) := bs_ints .u8 5 0 [] zero5 tyOk5 cells5 (by decide) (by simp)
theorem bs5_1 (a0 : Int) : bsV Try.prog (some (.slice 5)) 1 [(0, .sc (.int .u8 a0))] = some (ints .u8 [a0], fun r => .sl r 0 1 1) := bs_ints .u8 5 1 [(0, a0)] zero5 tyOk5 cells5 (by decide) (by simp)
theorem bs5_2 (a0 a1 : Int) : bsV Try.prog (some (.slice 5)) 2 [(0, .sc (.int .u8 a0)), (1, .sc (.int .u8 a1))] = some (ints .u8 [a0, a1], fun r => .sl r 0 2 1) := bs_ints .u8 5 2 [(0, a0), (1, a1)] zero5 tyOk5 cells5 (by decide) (by simp)
theorem bs5_3 (a0 a1 a2 : Int) : bsV Try.prog (some (.slice 5)) 3 [(0, .sc (.int .u8 a0)), (1, .sc (.int .u8 a1)), (2, .sc (.int .u8 a2))] = some (ints .u8 [a0, a1, a2], fun r => .sl r 0 3 1) := bs_ints .u8 5 3 [(0, a0), (1, a1), (2, a2)] zero5 tyOk5 cells5 (by decide) (by simp)
theorem bs5_4 (a0 a1 a2 a3 : Int) : bsV Try.prog (some (.slice 5)) 4 [(0, .sc (.int .u8 a0)), (1, .sc (.int .u8 a1)), (2, .sc (.int .u8 a2)), (3, .sc (.int .u8 a3))] = some (ints .u8 [a0, a1, a2, a3], fun r => .sl r 0 4 1) := bs_ints .u8 5 4 [(0, a0), (1, a1), (2, a2), (3, a3)] zero5 tyOk5 cells5 (by decide) (by simp)
theorem bs5_5 (a0 a1 a2 a3 a4 : Int) : bsV Try.prog (some (.slice 5)) 5 [(0, .sc (.int .u8 a0)), (1, .sc (.int .u8 a1)), (2, .sc (.int .u8 a2)), (3, .sc (.int .u8 a3)), (4, .sc (.int .u8 a4))] = some (ints .u8 [a0, a1, a2, a3, a4], fun r => .sl r 0 5 1) := bs_ints .u8 5 5 [(0, a0), (1, a1), (2, a2), (3, a3), (4, a4)] zero5 tyOk5 cells5 (by decide) (by simp)
theorem bs5_6 (a0 a1 a2 a3 a4 a5 : Int) : bsV Try.prog (some (.slice 5)) 6 [(0, .sc (.int .u8 a0)), (1, .sc (.int .u8 a1)), (2, .sc (.int .u8 a2)), (3, .sc (.int .u8 a3)), (4, .sc (.int .u8 a4)), (5, .sc (.int .u8 a5))] = some (ints .u8 [a0, a1, a2, a3, a4, a5], fun r => .sl r 0 6 1) := bs_ints .u8 5 6 [(0, a0), (1, a1), (2, a2), (3, a3), (4, a4), (5, a5)] zero5 tyOk5 cells5 (by decide) (by simp)
theorem bs5_7 (a0 a1 a2 a3 a4 a5 a6 : Int) : bsV Try.prog (some (.slice 5)) 7 [(0, .sc (.int .u8 a0)), (1, .sc (.int .u8 a1)), (2, .sc (.int .u8 a2)), (3, .sc (.int .u8 a3)), (4, .sc (.int .u8 a4)), (5, .sc (.int .u8 a5)), (6, .sc (.int .u8 a6))] = some (ints .u8 [a0, a1, a2, a3, a4, a5, a6], fun r => .sl r 0 7 1) := bs_ints .u8 5 7 [(0, a0), (1, a1), (2, a2), (3, a3), (4, a4), (5, a5), (6, a6)] zero5 tyOk5 cells5 (by decide) (by simp)
theorem bs5_8 (a0 a1 a2 a3 a4 a5 a6 a7 : Int) : bsV Try.prog (some (.slice 5)) 8 [(0, .sc (.int .u8 a0)), (1, .sc (.int .u8 a1)), (2, .sc (.int .u8 a2)), (3, .sc (.int .u8 a3)), (4, .sc (.int .u8 a4)), (5, .sc (.int .u8 a5)), (6, .sc (.int .u8 a6)), (7, .sc (.int .u8 a7))] = some (ints .u8 [a0, a1, a2, a3, a4, a5, a6, a7], fun r => .sl r 0 8 1) := bs_ints .u8 5 8 [(0, a0), (1, a1), (2, a2), (3, a3), (4, a4), (5, a5), (6, a6), (7, a7)] zero5 tyOk5 cells5 (by decide) (by simp)
theorem bs5_10 (a0 a1 a2 a3 a4 a5 a6 a7 a8 a9 : Int) : bsV Try.prog (some (.slice 5)) 10 [(0, .sc (.int .u8 a0)), (1, .sc (.int .u8 a1)), (2, .sc (.int .u8 a2)), (3, .sc (.int .u8 a3)), (4, .sc (.int .u8 a4)), (5, .sc (.int .u8 a5)), (6, .sc (.int .u8 a6)), (7, .sc (.int .u8 a7)), (8, .sc (.int .u8 a8)), (9, .sc (.int .u8 a9))] = some (ints .u8 [a0, a1, a2, a3, a4, a5, a6, a7, a8, a9], fun r => .sl r 0 10 1) := bs_ints .u8 5 10 [(0, a0), (1, a1), (2, a2), (3, a3), (4, a4), (5, a5), (6, a6), (7, a7), (8, a8), (9, a9)] zero5 tyOk5 cells5 (by decide) (by simp)
theorem bs5_11 (a0 a1 a2 a3 a4 a5 a6 a7 a8 a9 a10 : Int) : bsV Try.prog (some (.slice 5)) 11 [(0, .sc (.int .u8 a0)), (1, .sc (.int .u8 a1)), (2, .sc (.int .u8 a2)), (3, .sc (.int .u8 a3)), (4, .sc (.int .u8 a4)), (5, .sc (.int .u8 a5)), (6, .sc (.int .u8 a6)), (7, .sc (.int .u8 a7)), (8, .sc (.int .u8 a8)), (9, .sc (.int .u8 a9)), (10, .sc (.int .u8 a10))] = some (ints .u8 [a0, a1, a2, a3, a4, a5, a6, a7, a8, a9, a10], fun r => .sl r 0 11 1) := bs_ints .u8 5 11 [(0, a0), (1, a1), (2, a2), (3, a3), (4, a4), (5, a5), (6, a6), (7, a7), (8, a8), (9, a9), (10, a10)] zero5 tyOk5 cells5 (by decide) (by simp)
theorem bs5_12 (a0 a1 a2 a3 a4 a5 a6 a7 a8 a9 a10 a11 : Int) : bsV Try.prog (some (.slice 5)) 12 [(0, .sc (.int .u8 a0)), (1, .sc (.int .u8 a1)), (2, .sc (.int .u8 a2)), (3, .sc (.int .u8 a3)), (4, .sc (.int .u8 a4)), (5, .sc (.int .u8 a5)), (6, .sc (.int .u8 a6)), (7, .sc (.int .u8 a7)), (8, .sc (.int .u8 a8)), (9, .sc (.int .u8 a9)), (10, .sc (.int .u8 a10)), (11, .sc (.int .u8 a11))] = some (ints .u8 [a0, a1, a2, a3, a4, a5, a6, a7, a8, a9, a10, a11], fun r => .sl r 0 12 1) := bs_ints .u8 5 12 [(0, a0), (1, a1), (2, a2), (3, a3), (4, a4), (5, a5), (6, a6), (7, a7), (8, a8), (9, a9), (10, a10), (11, a11)] zero5 tyOk5 cells5 (by decide) (by simp)
theorem bs5_13 (a0 a1 a2 a3 a4 a5 a6 a7 a8 a9 a10 a11 a12 : Int) : bsV Try.prog (some (.slice 5)) 13 [(0, .sc (.int .u8 a0)), (1, .sc (.int .u8 a1)), (2, .sc (.int .u8 a2)), (3, .sc (.int .u8 a3)), (4, .sc (.int .u8 a4)), (5, .sc (.int .u8 a5)), (6, .sc (.int .u8 a6)), (7, .sc (.int .u8 a7)), (8, .sc (.int .u8 a8)), (9, .sc (.int .u8 a9)), (10, .sc (.int .u8 a10)), (11, .sc (.int .u8 a11)), (12, .sc (.int .u8 a12))] = some (ints .u8 [a0, a1, a2, a3, a4, a5, a6, a7, a8, a9, a10, a11, a12], fun r => .sl r 0 13 1) := bs_ints .u8 5 13 [(0, a0), (1, a1), (2, a2), (3, a3), (4, a4), (5, a5), (6, a6), (7, a7), (8, a8), (9, a9), (10, a10), (11, a11), (12, a12)] zero5 tyOk5 cells5 (by decide) (by simp)
theorem tyOk6 : tyOk Try.prog 6 = true := by kernel_rfl
theorem agg6 : aggB Try.prog 6 = false := by kernel_rfl
theorem cells6 : Try.prog.cellsOf 6 = 1 := by kernel_rfl
theorem isU6 : isU8 Try.prog 6 = true := by kernel_rfl
theorem zero6 : zeroA Try.prog 6 = some [.sc (.int .u8 0)] := by kernel_rfl
theorem info6 : (Try.prog.info? 6).map (·.bytes) = some 1 := by kernel_rfl
theorem mk6 (a b : IntKind) (m : Int) (h0 : 0 ≤ m) (h1 : m ≤ 1000000000000) : mkV Try.prog (some (.slice 6)) (.sc (.int a m)) (.sc (.int b m)) = some (ints .u8 (List.replicate m.toNat 0), fun r => .sl r 0 m.toNat 1) := mk_ints .u8 6 a b m _ zero6 info6 cells6 h0 (by omega) (by omega)
theorem bs6_0 : bsV Try.prog (some (.slice 6)) 0 [] = some (ints .u8 [], fun r => .sl r 0 0 1) := bs_ints .u8 6 0 [] zero6 tyOk6 cells6 (by decide) (by simp)
theorem bs6_1 (a0 : Int) : bsV Try.prog (some (.slice 6)) 1 [(0, .sc (.int .u8 a0))] = some (ints .u8 [a0], fun r => .sl r 0 1 1) := bs_ints .u8 6 1 [(0, a0)] zero6 tyOk6 cells6 (by decide) (by simp)
theorem bs6_2 (a0 a1 : Int) : bsV Try.prog (some (.slice 6)) 2 [(0, .sc (.int .u8 a0)), (1, .sc (.int .u8 a1))] = some (ints .u8 [a0, a1], fun r => .sl r 0 2 1) := bs_ints .u8 6 2 [(0, a0), (1, a1)] zero6 tyOk6 cells6 (by decide) (by simp)
theorem bs6_3 (a0 a1 a2 : Int) : bsV Try.prog (some (.slice 6)) 3 [(0, .sc (.int .u8 a0)), (1, .sc (.int .u8 a1)), (2, .sc (.int .u8 a2))] = some (ints .u8 [a0, a1, a2], fun r => .sl r 0 3 1) := bs_ints .u8 6 3 [(0, a0), (1, a1), (2, a2)] zero6 tyOk6 cells6 (by decide) (by simp)
theorem bs6_4 (a0 a1 a2 a3 : Int) : bsV Try.prog (some (.slice 6)) 4 [(0, .sc (.int .u8 a0)), (1, .sc (.int .u8 a1)), (2, .sc (.int .u8 a2)), (3, .sc (.int .u8 a3))] = some (ints .u8 [a0, a1, a2, a3], fun r => .sl r 0 4 1) := bs_ints .u8 6 4 [(0, a0), (1, a1), (2, a2), (3, a3)] zero6 tyOk6 cells6 (by decide) (by simp)
theorem bs6_5 (a0 a1 a2 a3 a4 : Int) : bsV Try.prog (some (.slice 6)) 5 [(0, .sc (.int .u8 a0)), (1, .sc (.int .u8 a1)), (2, .sc (.int .u8 a2)), (3, .sc (.int .u8 a3)), (4, .sc (.int .u8 a4))] = some (ints .u8 [a0, a1, a2, a3, a4], fun r => .sl r 0 5 1) := bs_ints .u8 6 5 [(0, a0), (1, a1), (2, a2), (3, a3), (4, a4)] zero6 tyOk6 cells6 (by decide) (by simp)
theorem bs6_6 (a0 a1 a2 a3 a4 a5 : Int) : bsV Try.prog (some (.slice 6)) 6 [(0, .sc (.int .u8 a0)), (1, .sc (.int .u8 a1)), (2, .sc (.int .u8 a2)), (3, .sc (.int .u8 a3)), (4, .sc (.int .u8 a4)), (5, .sc (.int .u8 a5))] = some (ints .u8 [a0, a1, a2, a3, a4, a5], fun r => .sl r 0 6 1) := bs_ints .u8 6 6 [(0, a0), (1, a1), (2, a2), (3, a3), (4, a4), (5, a5)] zero6 tyOk6 cells6 (by decide) (by simp)
theorem bs6_7 (a0 a1 a2 a3 a4 a5 a6 : Int) : bsV Try.prog (some (.slice 6)) 7 [(0, .sc (.int .u8 a0)), (1, .sc (.int .u8 a1)), (2, .sc (.int .u8 a2)), (3, .sc (.int .u8 a3)), (4, .sc (.int .u8 a4)), (5, .sc (.int .u8 a5)), (6, .sc (.int .u8 a6))] = some (ints .u8 [a0, a1, a2, a3, a4, a5, a6], fun r => .sl r 0 7 1) := bs_ints .u8 6 7 [(0, a0), (1, a1), (2, a2), (3, a3), (4, a4), (5, a5), (6, a6)] zero6 tyOk6 cells6 (by decide) (by simp)
theorem bs6_8 (a0 a1 a2 a3 a4 a5 a6 a7 : Int) : bsV Try.prog (some (.slice 6)) 8 [(0, .sc (.int .u8 a0)), (1, .sc (.int .u8 a1)), (2, .sc (.int .u8 a2)), (3, .sc (.int .u8 a3)), (4, .sc (.int .u8 a4)), (5, .sc (.int .u8 a5)), (6, .sc (.int .u8 a6)), (7, .sc (.int .u8 a7))] = some (ints .u8 [a0, a1, a2, a3, a4, a5, a6, a7], fun r => .sl r 0 8 1) := bs_ints .u8 6 8 [(0, a0), (1, a1), (2, a2), (3, a3), (4, a4), (5, a5), (6, a6), (7, a7)] zero6 tyOk6 cells6 (by decide) (by simp)
theorem bs6_10 (a0 a1 a2 a3 a4 a5 a6 a7 a8 a9 : Int) : bsV Try.prog (some (.slice 6)) 10 [(0, .sc (.int .u8 a0)), (1, .sc (.int .u8 a1)), (2, .sc (.int .u8 a2)), (3, .sc (.int .u8 a3)), (4, .sc (.int .u8 a4)), (5, .sc (.int .u8 a5)), (6, .sc (.int .u8 a6)), (7, .sc (.int .u8 a7)), (8, .sc (.int .u8 a8)), (9, .sc (.int .u8 a9))] = some (ints .u8 [a0, a1, a2, a3, a4, a5, a6, a7, a8, a9], fun r => .sl r 0 10 1) := bs_ints .u8 6 10 [(0, a0), (1, a1), (2, a2), (3, a3), (4, a4), (5, a5), (6, a6), (7, a7), (8, a8), (9, a9)] zero6 tyOk6 cells6 (by decide) (by simp)
theorem bs6_11 (a0 a1 a2 a3 a4 a5 a6 a7 a8 a9 a10 : Int) : bsV Try.prog (some (.slice 6)) 11 [(0, .sc (.int .u8 a0)), (1, .sc (.int .u8 a1)), (2, .sc (.int .u8 a2)), (3, .sc (.int .u8 a3)), (4, .sc (.int .u8 a4)), (5, .sc (.int .u8 a5)), (6, .sc (.int .u8 a6)), (7, .sc (.int .u8 a7)), (8, .sc (.int .u8 a8)), (9, .sc (.int .u8 a9)), (10, .sc (.int .u8 a10))] = some (ints .u8 [a0, a1, a2, a3, a4, a5, a6, a7, a8, a9, a10], fun r => .sl r 0 11 1) := bs_ints .u8 6 11 [(0, a0), (1, a1), (2, a2), (3, a3), (4, a4), (5, a5), (6, a6), (7, a7), (8, a8), (9, a9), (10, a10)] zero6 tyOk6 cells6 (by decide) (by simp)
theorem bs6_12 (a0 a1 a2 a3 a4 a5 a6 a7 a8 a9 a10 a11 : Int) : bsV Try.prog (some (.slice 6)) 12 [(0, .sc (.int .u8 a0)), (1, .sc (.int .u8 a1)), (2, .sc (.int .u8 a2)), (3, .sc (.int .u8 a3)), (4, .sc (.int .u8 a4)), (5, .sc (.int .u8 a5)), (6, .sc (.int .u8 a6)), (7, .sc (.int .u8 a7)), (8, .sc (.int .u8 a8)), (9, .sc (.int .u8 a9)), (10, .sc (.int .u8 a10)), (11, .sc (.int .u8 a11))] = some (ints .u8 [a0, a1, a2, a3, a4, a5, a6, a7, a8, a9, a10, a11], fun r => .sl r 0 12 1) := bs_ints .u8 6 12 [(0, a0), (1, a1), (2, a2), (3, a3), (4, a4), (5, a5), (6, a6), (7, a7), (8, a8), (9, a9), (10, a10), (11, a11)] zero6 tyOk6 cells6 (by decide) (by simp)
theorem bs6_13 (a0 a1 a2 a3 a4 a5 a6 a7 a8 a9 a10 a11 a12 : Int) : bsV Try.prog (some (.slice 6)) 13 [(0, .sc (.int .u8 a0)), (1, .sc (.int .u8 a1)), (2, .sc (.int .u8 a2)), (3, .sc (.int .u8 a3)), (4, .sc (.int .u8 a4)), (5, .sc (.int .u8 a5)), (6, .sc (.int .u8 a6)), (7, .sc (.int .u8 a7)), (8, .sc (.int .u8 a8)), (9, .sc (.int .u8 a9)), (10, .sc (.int .u8 a10)), (11, .sc (.int .u8 a11)), (12, .sc (.int .u8 a12))] = some (ints .u8 [a0, a1, a2, a3, a4, a5, a6, a7, a8, a9, a10, a11, a12], fun r => .sl r 0 13 1) := bs_ints .u8 6 13 [(0, a0), (1, a1), (2, a2), (3, a3), (4, a4), (5, a5), (6, a6), (7, a7), (8, a8), (9, a9), (10, a10), (11, a11), (12, a12)] zero6 tyOk6 cells6 (by decide) (by simp)
theorem tyOk7 : tyOk Try.prog 7 = true := by kernel_rfl
theorem agg7 : aggB Try.prog 7 = true := by kernel_rfl
theorem cells7 : Try.prog.cellsOf 7 = 4 := by kernel_rfl
theorem zero7 : zeroA Try.prog 7 = some [.sc (.int .i64 0), .sc (.int .i64 0), .sc (.bool false), .sc (.int .u8 0)] := by kernel_rfl
theorem tyOk8 : tyOk Try.prog 8 = true := by kernel_rfl
theorem agg8 : aggB Try.prog 8 = true := by kernel_rfl
theorem cells8 : Try.prog.cellsOf 8 = 4 := by kernel_rfl
theorem zero8 : zeroA Try.prog 8 = some [.sc (.int .i64 0), .sc (.int .i64 0), .sc (.bool false), .sc (.int .u8 0)] := by kernel_rfl
theorem tyOk9 : tyOk Try.prog 9 = true := by kernel_rfl
theorem agg9 : aggB Try.prog 9 = false := by kernel_rfl
theorem cells9 : Try.prog.cellsOf 9 = 1 := by kernel_rfl
theorem zero9 : zeroA Try.prog 9 = some [.sc (.string ByteArray.empty)] := by kernel_rfl
theorem info9 : (Try.prog.info? 9).map (·.bytes) = some 16 := by kernel_rfl
theorem bs9_0 : bsV Try.prog (some (.slice 9)) 0 [] = some (strs [], fun r => .sl r 0 0 1) := by simp [bsV, zero9, tyOk9, cells9, fillA, overA, AV.cells, strs, lits]
theorem bs9_1 (a0 : ByteArray) : bsV Try.prog (some (.slice 9)) 1 [(0, .sc (.string a0))] = some (strs [a0], fun r => .sl r 0 1 1) := by simp [bsV, zero9, tyOk9, cells9, fillA, overA, AV.cells, strs, lits]
theorem bs9_2 (a0 a1 : ByteArray) : bsV Try.prog (some (.slice 9)) 2 [(0, .sc (.string a0)), (1, .sc (.string a1))] = some (strs [a0, a1], fun r => .sl r 0 2 1) := by simp [bsV, zero9, tyOk9, cells9, fillA, overA, AV.cells, strs, lits]
theorem bs9_3 (a0 a1 a2 : ByteArray) : bsV Try.prog (some (.slice 9)) 3 [(0, .sc (.string a0)), (1, .sc (.string a1)), (2, .sc (.string a2))] = some (strs [a0, a1, a2], fun r => .sl r 0 3 1) := by simp [bsV, zero9, tyOk9, cells9, fillA, overA, AV.cells, strs, lits]
theorem bs9_4 (a0 a1 a2 a3 : ByteArray) : bsV Try.prog (some (.slice 9)) 4 [(0, .sc (.string a0)), (1, .sc (.string a1)), (2, .sc (.string a2)), (3, .sc (.string a3))] = some (strs [a0, a1, a2, a3], fun r => .sl r 0 4 1) := by simp [bsV, zero9, tyOk9, cells9, fillA, overA, AV.cells, strs, lits]
theorem bs9_5 (a0 a1 a2 a3 a4 : ByteArray) : bsV Try.prog (some (.slice 9)) 5 [(0, .sc (.string a0)), (1, .sc (.string a1)), (2, .sc (.string a2)), (3, .sc (.string a3)), (4, .sc (.string a4))] = some (strs [a0, a1, a2, a3, a4], fun r => .sl r 0 5 1) := by simp [bsV, zero9, tyOk9, cells9, fillA, overA, AV.cells, strs, lits]
theorem bs9_6 (a0 a1 a2 a3 a4 a5 : ByteArray) : bsV Try.prog (some (.slice 9)) 6 [(0, .sc (.string a0)), (1, .sc (.string a1)), (2, .sc (.string a2)), (3, .sc (.string a3)), (4, .sc (.string a4)), (5, .sc (.string a5))] = some (strs [a0, a1, a2, a3, a4, a5], fun r => .sl r 0 6 1) := by simp [bsV, zero9, tyOk9, cells9, fillA, overA, AV.cells, strs, lits]
theorem bs9_8 (a0 a1 a2 a3 a4 a5 a6 a7 : ByteArray) : bsV Try.prog (some (.slice 9)) 8 [(0, .sc (.string a0)), (1, .sc (.string a1)), (2, .sc (.string a2)), (3, .sc (.string a3)), (4, .sc (.string a4)), (5, .sc (.string a5)), (6, .sc (.string a6)), (7, .sc (.string a7))] = some (strs [a0, a1, a2, a3, a4, a5, a6, a7], fun r => .sl r 0 8 1) := by simp [bsV, zero9, tyOk9, cells9, fillA, overA, AV.cells, strs, lits]
theorem bs9_9 (a0 a1 a2 a3 a4 a5 a6 a7 a8 : ByteArray) : bsV Try.prog (some (.slice 9)) 9 [(0, .sc (.string a0)), (1, .sc (.string a1)), (2, .sc (.string a2)), (3, .sc (.string a3)), (4, .sc (.string a4)), (5, .sc (.string a5)), (6, .sc (.string a6)), (7, .sc (.string a7)), (8, .sc (.string a8))] = some (strs [a0, a1, a2, a3, a4, a5, a6, a7, a8], fun r => .sl r 0 9 1) := by simp [bsV, zero9, tyOk9, cells9, fillA, overA, AV.cells, strs, lits]
theorem bs9_10 (a0 a1 a2 a3 a4 a5 a6 a7 a8 a9 : ByteArray) : bsV Try.prog (some (.slice 9)) 10 [(0, .sc (.string a0)), (1, .sc (.string a1)), (2, .sc (.string a2)), (3, .sc (.string a3)), (4, .sc (.string a4)), (5, .sc (.string a5)), (6, .sc (.string a6)), (7, .sc (.string a7)), (8, .sc (.string a8)), (9, .sc (.string a9))] = some (strs [a0, a1, a2, a3, a4, a5, a6, a7, a8, a9], fun r => .sl r 0 10 1) := by simp [bsV, zero9, tyOk9, cells9, fillA, overA, AV.cells, strs, lits]
theorem tyOk10 : tyOk Try.prog 10 = true := by kernel_rfl
theorem agg10 : aggB Try.prog 10 = false := by kernel_rfl
theorem cells10 : Try.prog.cellsOf 10 = 1 := by kernel_rfl
theorem zero10 : zeroA Try.prog 10 = some [.sc (.string ByteArray.empty)] := by kernel_rfl
theorem info10 : (Try.prog.info? 10).map (·.bytes) = some 16 := by kernel_rfl
theorem bs10_0 : bsV Try.prog (some (.slice 10)) 0 [] = some (strs [], fun r => .sl r 0 0 1) := by simp [bsV, zero10, tyOk10, cells10, fillA, overA, AV.cells, strs, lits]
theorem bs10_1 (a0 : ByteArray) : bsV Try.prog (some (.slice 10)) 1 [(0, .sc (.string a0))] = some (strs [a0], fun r => .sl r 0 1 1) := by simp [bsV, zero10, tyOk10, cells10, fillA, overA, AV.cells, strs, lits]
theorem bs10_2 (a0 a1 : ByteArray) : bsV Try.prog (some (.slice 10)) 2 [(0, .sc (.string a0)), (1, .sc (.string a1))] = some (strs [a0, a1], fun r => .sl r 0 2 1) := by simp [bsV, zero10, tyOk10, cells10, fillA, overA, AV.cells, strs, lits]
theorem bs10_3 (a0 a1 a2 : ByteArray) : bsV Try.prog (some (.slice 10)) 3 [(0, .sc (.string a0)), (1, .sc (.string a1)), (2, .sc (.string a2))] = some (strs [a0, a1, a2], fun r => .sl r 0 3 1) := by simp [bsV, zero10, tyOk10, cells10, fillA, overA, AV.cells, strs, lits]
theorem bs10_4 (a0 a1 a2 a3 : ByteArray) : bsV Try.prog (some (.slice 10)) 4 [(0, .sc (.string a0)), (1, .sc (.string a1)), (2, .sc (.string a2)), (3, .sc (.string a3))] = some (strs [a0, a1, a2, a3], fun r => .sl r 0 4 1) := by simp [bsV, zero10, tyOk10, cells10, fillA, overA, AV.cells, strs, lits]
theorem bs10_5 (a0 a1 a2 a3 a4 : ByteArray) : bsV Try.prog (some (.slice 10)) 5 [(0, .sc (.string a0)), (1, .sc (.string a1)), (2, .sc (.string a2)), (3, .sc (.string a3)), (4, .sc (.string a4))] = some (strs [a0, a1, a2, a3, a4], fun r => .sl r 0 5 1) := by simp [bsV, zero10, tyOk10, cells10, fillA, overA, AV.cells, strs, lits]
theorem bs10_6 (a0 a1 a2 a3 a4 a5 : ByteArray) : bsV Try.prog (some (.slice 10)) 6 [(0, .sc (.string a0)), (1, .sc (.string a1)), (2, .sc (.string a2)), (3, .sc (.string a3)), (4, .sc (.string a4)), (5, .sc (.string a5))] = some (strs [a0, a1, a2, a3, a4, a5], fun r => .sl r 0 6 1) := by simp [bsV, zero10, tyOk10, cells10, fillA, overA, AV.cells, strs, lits]
theorem bs10_8 (a0 a1 a2 a3 a4 a5 a6 a7 : ByteArray) : bsV Try.prog (some (.slice 10)) 8 [(0, .sc (.string a0)), (1, .sc (.string a1)), (2, .sc (.string a2)), (3, .sc (.string a3)), (4, .sc (.string a4)), (5, .sc (.string a5)), (6, .sc (.string a6)), (7, .sc (.string a7))] = some (strs [a0, a1, a2, a3, a4, a5, a6, a7], fun r => .sl r 0 8 1) := by simp [bsV, zero10, tyOk10, cells10, fillA, overA, AV.cells, strs, lits]
theorem bs10_9 (a0 a1 a2 a3 a4 a5 a6 a7 a8 : ByteArray) : bsV Try.prog (some (.slice 10)) 9 [(0, .sc (.string a0)), (1, .sc (.string a1)), (2, .sc (.string a2)), (3, .sc (.string a3)), (4, .sc (.string a4)), (5, .sc (.string a5)), (6, .sc (.string a6)), (7, .sc (.string a7)), (8, .sc (.string a8))] = some (strs [a0, a1, a2, a3, a4, a5, a6, a7, a8], fun r => .sl r 0 9 1) := by simp [bsV, zero10, tyOk10, cells10, fillA, overA, AV.cells, strs, lits]
theorem bs10_10 (a0 a1 a2 a3 a4 a5 a6 a7 a8 a9 : ByteArray) : bsV Try.prog (some (.slice 10)) 10 [(0, .sc (.string a0)), (1, .sc (.string a1)), (2, .sc (.string a2)), (3, .sc (.string a3)), (4, .sc (.string a4)), (5, .sc (.string a5)), (6, .sc (.string a6)), (7, .sc (.string a7)), (8, .sc (.string a8)), (9, .sc (.string a9))] = some (strs [a0, a1, a2, a3, a4, a5, a6, a7, a8, a9], fun r => .sl r 0 10 1) := by simp [bsV, zero10, tyOk10, cells10, fillA, overA, AV.cells, strs, lits]
theorem tyOk11 : tyOk Try.prog 11 = true := by kernel_rfl
theorem agg11 : aggB Try.prog 11 = false := by kernel_rfl
theorem cells11 : Try.prog.cellsOf 11 = 1 := by kernel_rfl
theorem zero11 : zeroA Try.prog 11 = some [.sc (.string ByteArray.empty)] := by kernel_rfl
theorem info11 : (Try.prog.info? 11).map (·.bytes) = some 16 := by kernel_rfl
theorem bs11_0 : bsV Try.prog (some (.slice 11)) 0 [] = some (strs [], fun r => .sl r 0 0 1) := by simp [bsV, zero11, tyOk11, cells11, fillA, overA, AV.cells, strs, lits]
theorem bs11_1 (a0 : ByteArray) : bsV Try.prog (some (.slice 11)) 1 [(0, .sc (.string a0))] = some (strs [a0], fun r => .sl r 0 1 1) := by simp [bsV, zero11, tyOk11, cells11, fillA, overA, AV.cells, strs, lits]
theorem bs11_2 (a0 a1 : ByteArray) : bsV Try.prog (some (.slice 11)) 2 [(0, .sc (.string a0)), (1, .sc (.string a1))] = some (strs [a0, a1], fun r => .sl r 0 2 1) := by simp [bsV, zero11, tyOk11, cells11, fillA, overA, AV.cells, strs, lits]
theorem bs11_3 (a0 a1 a2 : ByteArray) : bsV Try.prog (some (.slice 11)) 3 [(0, .sc (.string a0)), (1, .sc (.string a1)), (2, .sc (.string a2))] = some (strs [a0, a1, a2], fun r => .sl r 0 3 1) := by simp [bsV, zero11, tyOk11, cells11, fillA, overA, AV.cells, strs, lits]
theorem bs11_4 (a0 a1 a2 a3 : ByteArray) : bsV Try.prog (some (.slice 11)) 4 [(0, .sc (.string a0)), (1, .sc (.string a1)), (2, .sc (.string a2)), (3, .sc (.string a3))] = some (strs [a0, a1, a2, a3], fun r => .sl r 0 4 1) := by simp [bsV, zero11, tyOk11, cells11, fillA, overA, AV.cells, strs, lits]
theorem bs11_5 (a0 a1 a2 a3 a4 : ByteArray) : bsV Try.prog (some (.slice 11)) 5 [(0, .sc (.string a0)), (1, .sc (.string a1)), (2, .sc (.string a2)), (3, .sc (.string a3)), (4, .sc (.string a4))] = some (strs [a0, a1, a2, a3, a4], fun r => .sl r 0 5 1) := by simp [bsV, zero11, tyOk11, cells11, fillA, overA, AV.cells, strs, lits]
theorem bs11_6 (a0 a1 a2 a3 a4 a5 : ByteArray) : bsV Try.prog (some (.slice 11)) 6 [(0, .sc (.string a0)), (1, .sc (.string a1)), (2, .sc (.string a2)), (3, .sc (.string a3)), (4, .sc (.string a4)), (5, .sc (.string a5))] = some (strs [a0, a1, a2, a3, a4, a5], fun r => .sl r 0 6 1) := by simp [bsV, zero11, tyOk11, cells11, fillA, overA, AV.cells, strs, lits]
theorem bs11_8 (a0 a1 a2 a3 a4 a5 a6 a7 : ByteArray) : bsV Try.prog (some (.slice 11)) 8 [(0, .sc (.string a0)), (1, .sc (.string a1)), (2, .sc (.string a2)), (3, .sc (.string a3)), (4, .sc (.string a4)), (5, .sc (.string a5)), (6, .sc (.string a6)), (7, .sc (.string a7))] = some (strs [a0, a1, a2, a3, a4, a5, a6, a7], fun r => .sl r 0 8 1) := by simp [bsV, zero11, tyOk11, cells11, fillA, overA, AV.cells, strs, lits]
theorem bs11_9 (a0 a1 a2 a3 a4 a5 a6 a7 a8 : ByteArray) : bsV Try.prog (some (.slice 11)) 9 [(0, .sc (.string a0)), (1, .sc (.string a1)), (2, .sc (.string a2)), (3, .sc (.string a3)), (4, .sc (.string a4)), (5, .sc (.string a5)), (6, .sc (.string a6)), (7, .sc (.string a7)), (8, .sc (.string a8))] = some (strs [a0, a1, a2, a3, a4, a5, a6, a7, a8], fun r => .sl r 0 9 1) := by simp [bsV, zero11, tyOk11, cells11, fillA, overA, AV.cells, strs, lits]
theorem bs11_10 (a0 a1 a2 a3 a4 a5 a6 a7 a8 a9 : ByteArray) : bsV Try.prog (some (.slice 11)) 10 [(0, .sc (.string a0)), (1, .sc (.string a1)), (2, .sc (.string a2)), (3, .sc (.string a3)), (4, .sc (.string a4)), (5, .sc (.string a5)), (6, .sc (.string a6)), (7, .sc (.string a7)), (8, .sc (.string a8)), (9, .sc (.string a9))] = some (strs [a0, a1, a2, a3, a4, a5, a6, a7, a8, a9], fun r => .sl r 0 10 1) := by simp [bsV, zero11, tyOk11, cells11, fillA, overA, AV.cells, strs, lits]
theorem tyOk12 : tyOk Try.prog 12 = true := by kernel_rfl
theorem agg12 : aggB Try.prog 12 = false := by kernel_rfl
theorem cells12 : Try.prog.cellsOf 12 = 1 := by kernel_rfl
theorem zero12 : zeroA Try.prog 12 = some [.sc (.int .u64 0)] := by kernel_rfl
theorem info12 : (Try.prog.info? 12).map (·.bytes) = some 8 := by kernel_rfl
theorem mk12 (a b : IntKind) (m : Int) (h0 : 0 ≤ m) (h1 : m ≤ 1000000000000) : mkV Try.prog (some (.slice 12)) (.sc (.int a m)) (.sc (.int b m)) = some (ints .u64 (List.replicate m.toNat 0), fun r => .sl r 0 m.toNat 1) := mk_ints .u64 12 a b m _ zero12 info12 cells12 h0 (by omega) (by omega)
theorem bs12_0 : bsV Try.prog (some (.slice 12)) 0 [] = some (ints .u64 [], fun r => .sl r 0 0 1) := bs_ints .u64 12 0 [] zero12 tyOk12 cells12 (by decide) (by simp)
theorem bs12_1 (a0 : Int) : bsV Try.prog (some (.slice 12)) 1 [(0, .sc (.int .u64 a0))] = some (ints .u64 [a0], fun r => .sl r 0 1 1) := bs_ints .u64 12 1 [(0, a0)] zero12 tyOk12 cells12 (by decide) (by simp)
theorem bs12_2 (a0 a1 : Int) : bsV Try.prog (some (.slice 12)) 2 [(0, .sc (.int .u64 a0)), (1, .sc (.int .u64 a1))] = some (ints .u64 [a0, a1], fun r => .sl r 0 2 1) := bs_ints .u64 12 2 [(0, a0), (1, a1)] zero12 tyOk12 cells12 (by decide) (by simp)
theorem bs12_3 (a0 a1 a2 : Int) : bsV Try.prog (some (.slice 12)) 3 [(0, .sc (.int .u64 a0)), (1, .sc (.int .u64 a1)), (2, .sc (.int .u64 a2))] = some (ints .u64 [a0, a1, a2], fun r => .sl r 0 3 1) := bs_ints .u64 12 3 [(0, a0), (1, a1), (2, a2)] zero12 tyOk12 cells12 (by decide) (by simp)
theorem bs12_4 (a0 a1 a2 a3 : Int) : bsV Try.prog (some (.slice 12)) 4 [(0, .sc (.int .u64 a0)), (1, .sc (.int .u64 a1)), (2, .sc (.int .u64 a2)), (3, .sc (.int .u64 a3))] = some (ints .u64 [a0, a1, a2, a3], fun r => .sl r 0 4 1) := bs_ints .u64 12 4 [(0, a0), (1, a1), (2, a2), (3, a3)] zero12 tyOk12 cells12 (by decide) (by simp)
theorem bs12_5 (a0 a1 a2 a3 a4 : Int) : bsV Try.prog (some (.slice 12)) 5 [(0, .sc (.int .u64 a0)), (1, .sc (.int .u64 a1)), (2, .sc (.int .u64 a2)), (3, .sc (.int .u64 a3)), (4, .sc (.int .u64 a4))] = some (ints .u64 [a0, a1, a2, a3, a4], fun r => .sl r 0 5 1) := bs_ints .u64 12 5 [(0, a0), (1, a1), (2, a2), (3, a3), (4, a4)] zero12 tyOk12 cells12 (by decide) (by simp)
theorem bs12_6 (a0 a1 a2 a3 a4 a5 : Int) : bsV Try.prog (some (.slice 12)) 6 [(0, .sc (.int .u64 a0)), (1, .sc (.int .u64 a1)), (2, .sc (.int .u64 a2)), (3, .sc (.int .u64 a3)), (4, .sc (.int .u64 a4)), (5, .sc (.int .u64 a5))] = some (ints .u64 [a0, a1, a2, a3, a4, a5], fun r => .sl r 0 6 1) := bs_ints .u64 12 6 [(0, a0), (1, a1), (2, a2), (3, a3), (4, a4), (5, a5)] zero12 tyOk12 cells12 (by decide) (by simp)
theorem bs12_7 (a0 a1 a2 a3 a4 a5 a6 : Int) : bsV Try.prog (some (.slice 12)) 7 [(0, .sc (.int .u64 a0)), (1, .sc (.int .u64 a1)), (2, .sc (.int .u64 a2)), (3, .sc (.int .u64 a3)), (4, .sc (.int .u64 a4)), (5, .sc (.int .u64 a5)), (6, .sc (.int .u64 a6))] = some (ints .u64 [a0, a1, a2, a3, a4, a5, a6], fun r => .sl r 0 7 1) := bs_ints .u64 12 7 [(0, a0), (1, a1), (2, a2), (3, a3), (4, a4), (5, a5), (6, a6)] zero12 tyOk12 cells12 (by decide) (by simp)
theorem bs12_8 (a0 a1 a2 a3 a4 a5 a6 a7 : Int) : bsV Try.prog (some (.slice 12)) 8 [(0, .sc (.int .u64 a0)), (1, .sc (.int .u64 a1)), (2, .sc (.int .u64 a2)), (3, .sc (.int .u64 a3)), (4, .sc (.int .u64 a4)), (5, .sc (.int .u64 a5)), (6, .sc (.int .u64 a6)), (7, .sc (.int .u64 a7))] = some (ints .u64 [a0, a1, a2, a3, a4, a5, a6, a7], fun r => .sl r 0 8 1) := bs_ints .u64 12 8 [(0, a0), (1, a1), (2, a2), (3, a3), (4, a4), (5, a5), (6, a6), (7, a7)] zero12 tyOk12 cells12 (by decide) (by simp)
theorem bs12_10 (a0 a1 a2 a3 a4 a5 a6 a7 a8 a9 : Int) : bsV Try.prog (some (.slice 12)) 10 [(0, .sc (.int .u64 a0)), (1, .sc (.int .u64 a1)), (2, .sc (.int .u64 a2)), (3, .sc (.int .u64 a3)), (4, .sc (.int .u64 a4)), (5, .sc (.int .u64 a5)), (6, .sc (.int .u64 a6)), (7, .sc (.int .u64 a7)), (8, .sc (.int .u64 a8)), (9, .sc (.int .u64 a9))] = some (ints .u64 [a0, a1, a2, a3, a4, a5, a6, a7, a8, a9], fun r => .sl r 0 10 1) := bs_ints .u64 12 10 [(0, a0), (1, a1), (2, a2), (3, a3), (4, a4), (5, a5), (6, a6), (7, a7), (8, a8), (9, a9)] zero12 tyOk12 cells12 (by decide) (by simp)
theorem bs12_11 (a0 a1 a2 a3 a4 a5 a6 a7 a8 a9 a10 : Int) : bsV Try.prog (some (.slice 12)) 11 [(0, .sc (.int .u64 a0)), (1, .sc (.int .u64 a1)), (2, .sc (.int .u64 a2)), (3, .sc (.int .u64 a3)), (4, .sc (.int .u64 a4)), (5, .sc (.int .u64 a5)), (6, .sc (.int .u64 a6)), (7, .sc (.int .u64 a7)), (8, .sc (.int .u64 a8)), (9, .sc (.int .u64 a9)), (10, .sc (.int .u64 a10))] = some (ints .u64 [a0, a1, a2, a3, a4, a5, a6, a7, a8, a9, a10], fun r => .sl r 0 11 1) := bs_ints .u64 12 11 [(0, a0), (1, a1), (2, a2), (3, a3), (4, a4), (5, a5), (6, a6), (7, a7), (8, a8), (9, a9), (10, a10)] zero12 tyOk12 cells12 (by decide) (by simp)
theorem bs12_12 (a0 a1 a2 a3 a4 a5 a6 a7 a8 a9 a10 a11 : Int) : bsV Try.prog (some (.slice 12)) 12 [(0, .sc (.int .u64 a0)), (1, .sc (.int .u64 a1)), (2, .sc (.int .u64 a2)), (3, .sc (.int .u64 a3)), (4, .sc (.int .u64 a4)), (5, .sc (.int .u64 a5)), (6, .sc (.int .u64 a6)), (7, .sc (.int .u64 a7)), (8, .sc (.int .u64 a8)), (9, .sc (.int .u64 a9)), (10, .sc (.int .u64 a10)), (11, .sc (.int .u64 a11))] = some (ints .u64 [a0, a1, a2, a3, a4, a5, a6, a7, a8, a9, a10, a11], fun r => .sl r 0 12 1) := bs_ints .u64 12 12 [(0, a0), (1, a1), (2, a2), (3, a3), (4, a4), (5, a5), (6, a6), (7, a7), (8, a8), (9, a9), (10, a10), (11, a11)] zero12 tyOk12 cells12 (by decide) (by simp)
theorem bs12_13 (a0 a1 a2 a3 a4 a5 a6 a7 a8 a9 a10 a11 a12 : Int) : bsV Try.prog (some (.slice 12)) 13 [(0, .sc (.int .u64 a0)), (1, .sc (.int .u64 a1)), (2, .sc (.int .u64 a2)), (3, .sc (.int .u64 a3)), (4, .sc (.int .u64 a4)), (5, .sc (.int .u64 a5)), (6, .sc (.int .u64 a6)), (7, .sc (.int .u64 a7)), (8, .sc (.int .u64 a8)), (9, .sc (.int .u64 a9)), (10, .sc (.int .u64 a10)), (11, .sc (.int .u64 a11)), (12, .sc (.int .u64 a12))] = some (ints .u64 [a0, a1, a2, a3, a4, a5, a6, a7, a8, a9, a10, a11, a12], fun r => .sl r 0 13 1) := bs_ints .u64 12 13 [(0, a0), (1, a1), (2, a2), (3, a3), (4, a4), (5, a5), (6, a6), (7, a7), (8, a8), (9, a9), (10, a10), (11, a11), (12, a12)] zero12 tyOk12 cells12 (by decide) (by simp)
theorem tyOk13 : tyOk Try.prog 13 = true := by kernel_rfl
theorem agg13 : aggB Try.prog 13 = true := by kernel_rfl
theorem cells13 : Try.prog.cellsOf 13 = 2 := by kernel_rfl
theorem zero13 : zeroA Try.prog 13 = some [.sc (.string ByteArray.empty), .sc (.int .u64 0)] := by kernel_rfl
theorem tyOk14 : tyOk Try.prog 14 = true := by kernel_rfl
theorem agg14 : aggB Try.prog 14 = true := by kernel_rfl
theorem cells14 : Try.prog.cellsOf 14 = 2 := by kernel_rfl
theorem zero14 : zeroA Try.prog 14 = some [.sc (.string ByteArray.empty), .sc (.int .u64 0)] := by kernel_rfl
theorem tyOk15 : tyOk Try.prog 15 = true := by kernel_rfl
theorem agg15 : aggB Try.prog 15 = false := by kernel_rfl
theorem cells15 : Try.prog.cellsOf 15 = 1 := by kernel_rfl
theorem zero15 : zeroA Try.prog 15 = some [.sc (.pointer none)] := by kernel_rfl
theorem tyOk16 : tyOk Try.prog 16 = true := by kernel_rfl
theorem agg16 : aggB Try.prog 16 = false := by kernel_rfl
theorem cells16 : Try.prog.cellsOf 16 = 1 := by kernel_rfl
theorem zero16 : zeroA Try.prog 16 = some [.sc (.pointer none)] := by kernel_rfl
theorem tyOk17 : tyOk Try.prog 17 = true := by kernel_rfl
theorem agg17 : aggB Try.prog 17 = false := by kernel_rfl
theorem cells17 : Try.prog.cellsOf 17 = 1 := by kernel_rfl
theorem zero17 : zeroA Try.prog 17 = some [.sc (.pointer none)] := by kernel_rfl
theorem tyOk18 : tyOk Try.prog 18 = true := by kernel_rfl
theorem agg18 : aggB Try.prog 18 = true := by kernel_rfl
theorem cells18 : Try.prog.cellsOf 18 = 1 := by kernel_rfl
theorem zero18 : zeroA Try.prog 18 = some [.sc (.pointer none)] := by kernel_rfl
theorem tyOk19 : tyOk Try.prog 19 = true := by kernel_rfl
theorem agg19 : aggB Try.prog 19 = true := by kernel_rfl
theorem cells19 : Try.prog.cellsOf 19 = 1 := by kernel_rfl
theorem zero19 : zeroA Try.prog 19 = some [.sc (.pointer none)] := by kernel_rfl
theorem tyOk20 : tyOk Try.prog 20 = true := by kernel_rfl
theorem agg20 : aggB Try.prog 20 = false := by kernel_rfl
theorem cells20 : Try.prog.cellsOf 20 = 1 := by kernel_rfl
theorem tyOk21 : tyOk Try.prog 21 = true := by kernel_rfl
theorem agg21 : aggB Try.prog 21 = false := by kernel_rfl
theorem cells21 : Try.prog.cellsOf 21 = 1 := by kernel_rfl
theorem zero21 : zeroA Try.prog 21 = some [.sc (.int .i32 0)] := by kernel_rfl
theorem info21 : (Try.prog.info? 21).map (·.bytes) = some 4 := by kernel_rfl
theorem mk21 (a b : IntKind) (m : Int) (h0 : 0 ≤ m) (h1 : m ≤ 1000000000000) : mkV Try.prog (some (.slice 21)) (.sc (.int a m)) (.sc (.int b m)) = some (ints .i32 (List.replicate m.toNat 0), fun r => .sl r 0 m.toNat 1) := mk_ints .i32 21 a b m _ zero21 info21 cells21 h0 (by omega) (by omega)
theorem bs21_0 : bsV Try.prog (some (.slice 21)) 0 [] = some (ints .i32 [], fun r => .sl r 0 0 1) := bs_ints .i32 21 0 [] zero21 tyOk21 cells21 (by decide) (by simp)
theorem bs21_1 (a0 : Int) : bsV Try.prog (some (.slice 21)) 1 [(0, .sc (.int .i32 a0))] = some (ints .i32 [a0], fun r => .sl r 0 1 1) := bs_ints .i32 21 1 [(0, a0)] zero21 tyOk21 cells21 (by decide) (by simp)
theorem bs21_2 (a0 a1 : Int) : bsV Try.prog (some (.slice 21)) 2 [(0, .sc (.int .i32 a0)), (1, .sc (.int .i32 a1))] = some (ints .i32 [a0, a1], fun r => .sl r 0 2 1) := bs_ints .i32 21 2 [(0, a0), (1, a1)] zero21 tyOk21 cells21 (by decide) (by simp)
theorem bs21_3 (a0 a1 a2 : Int) : bsV Try.prog (some (.slice 21)) 3 [(0, .sc (.int .i32 a0)), (1, .sc (.int .i32 a1)), (2, .sc (.int .i32 a2))] = some (ints .i32 [a0, a1, a2], fun r => .sl r 0 3 1) := bs_ints .i32 21 3 [(0, a0), (1, a1), (2, a2)] zero21 tyOk21 cells21 (by decide) (by simp)
theorem bs21_4 (a0 a1 a2 a3 : Int) : bsV Try.prog (some (.slice 21)) 4 [(0, .sc (.int .i32 a0)), (1, .sc (.int .i32 a1)), (2, .sc (.int .i32 a2)), (3, .sc (.int .i32 a3))] = some (ints .i32 [a0, a1, a2, a3], fun r => .sl r 0 4 1) := bs_ints .i32 21 4 [(0, a0), (1, a1), (2, a2), (3, a3)] zero21 tyOk21 cells21 (by decide) (by simp)
theorem bs21_5 (a0 a1 a2 a3 a4 : Int) : bsV Try.prog (some (.slice 21)) 5 [(0, .sc (.int .i32 a0)), (1, .sc (.int .i32 a1)), (2, .sc (.int .i32 a2)), (3, .sc (.int .i32 a3)), (4, .sc (.int .i32 a4))] = some (ints .i32 [a0, a1, a2, a3, a4], fun r => .sl r 0 5 1) := bs_ints .i32 21 5 [(0, a0), (1, a1), (2, a2), (3, a3), (4, a4)] zero21 tyOk21 cells21 (by decide) (by simp)
theorem bs21_6 (a0 a1 a2 a3 a4 a5 : Int) : bsV Try.prog (some (.slice 21)) 6 [(0, .sc (.int .i32 a0)), (1, .sc (.int .i32 a1)), (2, .sc (.int .i32 a2)), (3, .sc (.int .i32 a3)), (4, .sc (.int .i32 a4)), (5, .sc (.int .i32 a5))] = some (ints .i32 [a0, a1, a2, a3, a4, a5], fun r => .sl r 0 6 1) := bs_ints .i32 21 6 [(0, a0), (1, a1), (2, a2), (3, a3), (4, a4), (5, a5)] zero21 tyOk21 cells21 (by decide) (by simp)
theorem bs21_7 (a0 a1 a2 a3 a4 a5 a6 : Int) : bsV Try.prog (some (.slice 21)) 7 [(0, .sc (.int .i32 a0)), (1, .sc (.int .i32 a1)), (2, .sc (.int .i32 a2)), (3, .sc (.int .i32 a3)), (4, .sc (.int .i32 a4)), (5, .sc (.int .i32 a5)), (6, .sc (.int .i32 a6))] = some (ints .i32 [a0, a1, a2, a3, a4, a5, a6], fun r => .sl r 0 7 1) := bs_ints .i32 21 7 [(0, a0), (1, a1), (2, a2), (3, a3), (4, a4), (5, a5), (6, a6)] zero21 tyOk21 cells21 (by decide) (by simp)
theorem bs21_8 (a0 a1 a2 a3 a4 a5 a6 a7 : Int) : bsV Try.prog (some (.slice 21)) 8 [(0, .sc (.int .i32 a0)), (1, .sc (.int .i32 a1)), (2, .sc (.int .i32 a2)), (3, .sc (.int .i32 a3)), (4, .sc (.int .i32 a4)), (5, .sc (.int .i32 a5)), (6, .sc (.int .i32 a6)), (7, .sc (.int .i32 a7))] = some (ints .i32 [a0, a1, a2, a3, a4, a5, a6, a7], fun r => .sl r 0 8 1) := bs_ints .i32 21 8 [(0, a0), (1, a1), (2, a2), (3, a3), (4, a4), (5, a5), (6, a6), (7, a7)] zero21 tyOk21 cells21 (by decide) (by simp)
theorem bs21_10 (a0 a1 a2 a3 a4 a5 a6 a7 a8 a9 : Int) : bsV Try.prog (some (.slice 21)) 10 [(0, .sc (.int .i32 a0)), (1, .sc (.int .i32 a1)), (2, .sc (.int .i32 a2)), (3, .sc (.int .i32 a3)), (4, .sc (.int .i32 a4)), (5, .sc (.int .i32 a5)), (6, .sc (.int .i32 a6)), (7, .sc (.int .i32 a7)), (8, .sc (.int .i32 a8)), (9, .sc (.int .i32 a9))] = some (ints .i32 [a0, a1, a2, a3, a4, a5, a6, a7, a8, a9], fun r => .sl r 0 10 1) := bs_ints .i32 21 10 [(0, a0), (1, a1), (2, a2), (3, a3), (4, a4), (5, a5), (6, a6), (7, a7), (8, a8), (9, a9)] zero21 tyOk21 cells21 (by decide) (by simp)
theorem bs21_11 (a0 a1 a2 a3 a4 a5 a6 a7 a8 a9 a10 : Int) : bsV Try.prog (some (.slice 21)) 11 [(0, .sc (.int .i32 a0)), (1, .sc (.int .i32 a1)), (2, .sc (.int .i32 a2)), (3, .sc (.int .i32 a3)), (4, .sc (.int .i32 a4)), (5, .sc (.int .i32 a5)), (6, .sc (.int .i32 a6)), (7, .sc (.int .i32 a7)), (8, .sc (.int .i32 a8)), (9, .sc (.int .i32 a9)), (10, .sc (.int .i32 a10))] = some (ints .i32 [a0, a1, a2, a3, a4, a5, a6, a7, a8, a9, a10], fun r => .sl r 0 11 1) := bs_ints .i32 21 11 [(0, a0), (1, a1), (2, a2), (3, a3), (4, a4), (5, a5), (6, a6), (7, a7), (8, a8), (9, a9), (10, a10)] zero21 tyOk21 cells21 (by decide) (by simp)
theorem bs21_12 (a0 a1 a2 a3 a4 a5 a6 a7 a8 a9 a10 a11 : Int) : bsV Try.prog (some (.slice 21)) 12 [(0, .sc (.int .i32 a0)), (1, .sc (.int .i32 a1)), (2, .sc (.int .i32 a2)), (3, .sc (.int .i32 a3)), (4, .sc (.int .i32 a4)), (5, .sc (.int .i32 a5)), (6, .sc (.int .i32 a6)), (7, .sc (.int .i32 a7)), (8, .sc (.int .i32 a8)), (9, .sc (.int .i32 a9)), (10, .sc (.int .i32 a10)), (11, .sc (.int .i32 a11))] = some (ints .i32 [a0, a1, a2, a3, a4, a5, a6, a7, a8, a9, a10, a11], fun r => .sl r 0 12 1) := bs_ints .i32 21 12 [(0, a0), (1, a1), (2, a2), (3, a3), (4, a4), (5, a5), (6, a6), (7, a7), (8, a8), (9, a9), (10, a10), (11, a11)] zero21 tyOk21 cells21 (by decide) (by simp)
theorem bs21_13 (a0 a1 a2 a3 a4 a5 a6 a7 a8 a9 a10 a11 a12 : Int) : bsV Try.prog (some (.slice 21)) 13 [(0, .sc (.int .i32 a0)), (1, .sc (.int .i32 a1)), (2, .sc (.int .i32 a2)), (3, .sc (.int .i32 a3)), (4, .sc (.int .i32 a4)), (5, .sc (.int .i32 a5)), (6, .sc (.int .i32 a6)), (7, .sc (.int .i32 a7)), (8, .sc (.int .i32 a8)), (9, .sc (.int .i32 a9)), (10, .sc (.int .i32 a10)), (11, .sc (.int .i32 a11)), (12, .sc (.int .i32 a12))] = some (ints .i32 [a0, a1, a2, a3, a4, a5, a6, a7, a8, a9, a10, a11, a12], fun r => .sl r 0 13 1) := bs_ints .i32 21 13 [(0, a0), (1, a1), (2, a2), (3, a3), (4, a4), (5, a5), (6, a6), (7, a7), (8, a8), (9, a9), (10, a10), (11, a11), (12, a12)] zero21 tyOk21 cells21 (by decide) (by simp)
theorem tyOk22 : tyOk Try.prog 22 = true := by kernel_rfl
theorem agg22 : aggB Try.prog 22 = false := by kernel_rfl
theorem cells22 : Try.prog.cellsOf 22 = 1 := by kernel_rfl
theorem zero22 : zeroA Try.prog 22 = some [.sc (.slice none 0 0)] := by kernel_rfl
theorem tyOk23 : tyOk Try.prog 23 = true := by kernel_rfl
theorem agg23 : aggB Try.prog 23 = false := by kernel_rfl
theorem cells23 : Try.prog.cellsOf 23 = 1 := by kernel_rfl
theorem tyOk24 : tyOk Try.prog 24 = true := by kernel_rfl
theorem agg24 : aggB Try.prog 24 = false := by kernel_rfl
theorem cells24 : Try.prog.cellsOf 24 = 1 := by kernel_rfl
theorem tyOk25 : tyOk Try.prog 25 = true := by kernel_rfl
theorem agg25 : aggB Try.prog 25 = false := by kernel_rfl
theorem cells25 : Try.prog.cellsOf 25 = 1 := by kernel_rfl
theorem tyOk26 : tyOk Try.prog 26 = true := by kernel_rfl
theorem agg26 : aggB Try.prog 26 = false := by kernel_rfl
theorem cells26 : Try.prog.cellsOf 26 = 1 := by kernel_rfl
theorem zero26 : zeroA Try.prog 26 = some [.sc (.slice none 0 0)] := by kernel_rfl
theorem tyOk27 : tyOk Try.prog 27 = true := by kernel_rfl
theorem agg27 : aggB Try.prog 27 = false := by kernel_rfl
theorem cells27 : Try.prog.cellsOf 27 = 1 := by kernel_rfl
theorem tyOk28 : tyOk Try.prog 28 = true := by kernel_rfl
theorem agg28 : aggB Try.prog 28 = false := by kernel_rfl
theorem cells28 : Try.prog.cellsOf 28 = 1 := by kernel_rfl
theorem tyOk29 : tyOk Try.prog 29 = true := by kernel_rfl
theorem agg29 : aggB Try.prog 29 = false := by kernel_rfl
theorem cells29 : Try.prog.cellsOf 29 = 1 := by kernel_rfl
theorem zero29 : zeroA Try.prog 29 = some [.sc (.int .u64 0)] := by kernel_rfl
theorem info29 : (Try.prog.info? 29).map (·.bytes) = some 8 := by kernel_rfl
theorem mk29 (a b : IntKind) (m : Int) (h0 : 0 ≤ m) (h1 : m ≤ 1000000000000) : mkV Try.prog (some (.slice 29)) (.sc (.int a m)) (.sc (.int b m)) = some (ints .u64 (List.replicate m.toNat 0), fun r => .sl r 0 m.toNat 1) := mk_ints .u64 29 a b m _ zero29 info29 cells29 h0 (by omega) (by omega)
theorem bs29_0 : bsV Try.prog (some (.slice 29)) 0 [] = some (ints .u64 [], fun r => .sl r 0 0 1) := bs_ints .u64 29 0 [] zero29 tyOk29 cells29 (by decide) (by simp)
theorem bs29_1 (a0 : Int) : bsV Try.prog (some (.slice 29)) 1 [(0, .sc (.int .u64 a0))] = some (ints .u64 [a0], fun r => .sl r 0 1 1) := bs_ints .u64 29 1 [(0, a0)] zero29 tyOk29 cells29 (by decide) (by simp)
theorem bs29_2 (a0 a1 : Int) : bsV Try.prog (some (.slice 29)) 2 [(0, .sc (.int .u64 a0)), (1, .sc (.int .u64 a1))] = some (ints .u64 [a0, a1], fun r => .sl r 0 2 1) := bs_ints .u64 29 2 [(0, a0), (1, a1)] zero29 tyOk29 cells29 (by decide) (by simp)
theorem bs29_3 (a0 a1 a2 : Int) : bsV Try.prog (some (.slice 29)) 3 [(0, .sc (.int .u64 a0)), (1, .sc (.int .u64 a1)), (2, .sc (.int .u64 a2))] = some (ints .u64 [a0, a1, a2], fun r => .sl r 0 3 1) := bs_ints .u64 29 3 [(0, a0), (1, a1), (2, a2)] zero29 tyOk29 cells29 (by decide) (by simp)
theorem bs29_4 (a0 a1 a2 a3 : Int) : bsV Try.prog (some (.slice 29)) 4 [(0, .sc (.int .u64 a0)), (1, .sc (.int .u64 a1)), (2, .sc (.int .u64 a2)), (3, .sc (.int .u64 a3))] = some (ints .u64 [a0, a1, a2, a3], fun r => .sl r 0 4 1) := bs_ints .u64 29 4 [(0, a0), (1, a1), (2, a2), (3, a3)] zero29 tyOk29 cells29 (by decide) (by simp)
theorem bs29_5 (a0 a1 a2 a3 a4 : Int) : bsV Try.prog (some (.slice 29)) 5 [(0, .sc (.int .u64 a0)), (1, .sc (.int .u64 a1)), (2, .sc (.int .u64 a2)), (3, .sc (.int .u64 a3)), (4, .sc (.int .u64 a4))] = some (ints .u64 [a0, a1, a2, a3, a4], fun r => .sl r 0 5 1) := bs_ints .u64 29 5 [(0, a0), (1, a1), (2, a2), (3, a3), (4, a4)] zero29 tyOk29 cells29 (by decide) (by simp)
theorem bs29_6 (a0 a1 a2 a3 a4 a5 : Int) : bsV Try.prog (some (.slice 29)) 6 [(0, .sc (.int .u64 a0)), (1, .sc (.int .u64 a1)), (2, .sc (.int .u64 a2)), (3, .sc (.int .u64 a3)), (4, .sc (.int .u64 a4)), (5, .sc (.int .u64 a5))] = some (ints .u64 [a0, a1, a2, a3, a4, a5], fun r => .sl r 0 6 1) := bs_ints .u64 29 6 [(0, a0), (1, a1), (2, a2), (3, a3), (4, a4), (5, a5)] zero29 tyOk29 cells29 (by decide) (by simp)
theorem bs29_7 (a0 a1 a2 a3 a4 a5 a6 : Int) : bsV Try.prog (some (.slice 29)) 7 [(0, .sc (.int .u64 a0)), (1, .sc (.int .u64 a1)), (2, .sc (.int .u64 a2)), (3, .sc (.int .u64 a3)), (4, .sc (.int .u64 a4)), (5, .sc (.int .u64 a5)), (6, .sc (.int .u64 a6))] = some (ints .u64 [a0, a1, a2, a3, a4, a5, a6], fun r => .sl r 0 7 1) := bs_ints .u64 29 7 [(0, a0), (1, a1), (2, a2), (3, a3), (4, a4), (5, a5), (6, a6)] zero29 tyOk29 cells29 (by decide) (by simp)
theorem bs29_8 (a0 a1 a2 a3 a4 a5 a6 a7 : Int) : bsV Try.prog (some (.slice 29)) 8 [(0, .sc (.int .u64 a0)), (1, .sc (.int .u64 a1)), (2, .sc (.int .u64 a2)), (3, .sc (.int .u64 a3)), (4, .sc (.int .u64 a4)), (5, .sc (.int .u64 a5)), (6, .sc (.int .u64 a6)), (7, .sc (.int .u64 a7))] = some (ints .u64 [a0, a1, a2, a3, a4, a5, a6, a7], fun r => .sl r 0 8 1) := bs_ints .u64 29 8 [(0, a0), (1, a1), (2, a2), (3, a3), (4, a4), (5, a5), (6, a6), (7, a7)] zero29 tyOk29 cells29 (by decide) (by simp)
theorem bs29_10 (a0 a1 a2 a3 a4 a5 a6 a7 a8 a9 : Int) : bsV Try.prog (some (.slice 29)) 10 [(0, .sc (.int .u64 a0)), (1, .sc (.int .u64 a1)), (2, .sc (.int .u64 a2)), (3, .sc (.int .u64 a3)), (4, .sc (.int .u64 a4)), (5, .sc (.int .u64 a5)), (6, .sc (.int .u64 a6)), (7, .sc (.int .u64 a7)), (8, .sc (.int .u64 a8)), (9, .sc (.int .u64 a9))] = some (ints .u64 [a0, a1, a2, a3, a4, a5, a6, a7, a8, a9], fun r => .sl r 0 10 1) := bs_ints .u64 29 10 [(0, a0), (1, a1), (2, a2), (3, a3), (4, a4), (5, a5), (6, a6), (7, a7), (8, a8), (9, a9)] zero29 tyOk29 cells29 (by decide) (by simp)
theorem bs29_11 (a0 a1 a2 a3 a4 a5 a6 a7 a8 a9 a10 : Int) : bsV Try.prog (some (.slice 29)) 11 [(0, .sc (.int .u64 a0)), (1, .sc (.int .u64 a1)), (2, .sc (.int .u64 a2)), (3, .sc (.int .u64 a3)), (4, .sc (.int .u64 a4)), (5, .sc (.int .u64 a5)), (6, .sc (.int .u64 a6)), (7, .sc (.int .u64 a7)), (8, .sc (.int .u64 a8)), (9, .sc (.int .u64 a9)), (10, .sc (.int .u64 a10))] = some (ints .u64 [a0, a1, a2, a3, a4, a5, a6, a7, a8, a9, a10], fun r => .sl r 0 11 1) := bs_ints .u64 29 11 [(0, a0), (1, a1), (2, a2), (3, a3), (4, a4), (5, a5), (6, a6), (7, a7), (8, a8), (9, a9), (10, a10)] zero29 tyOk29 cells29 (by decide) (by simp)
theorem bs29_12 (a0 a1 a2 a3 a4 a5 a6 a7 a8 a9 a10 a11 : Int) : bsV Try.prog (some (.slice 29)) 12 [(0, .sc (.int .u64 a0)), (1, .sc (.int .u64 a1)), (2, .sc (.int .u64 a2)), (3, .sc (.int .u64 a3)), (4, .sc (.int .u64 a4)), (5, .sc (.int .u64 a5)), (6, .sc (.int .u64 a6)), (7, .sc (.int .u64 a7)), (8, .sc (.int .u64 a8)), (9, .sc (.int .u64 a9)), (10, .sc (.int .u64 a10)), (11, .sc (.int .u64 a11))] = some (ints .u64 [a0, a1, a2, a3, a4, a5, a6, a7, a8, a9, a10, a11], fun r => .sl r 0 12 1) := bs_ints .u64 29 12 [(0, a0), (1, a1), (2, a2), (3, a3), (4, a4), (5, a5), (6, a6), (7, a7), (8, a8), (9, a9), (10, a10), (11, a11)] zero29 tyOk29 cells29 (by decide) (by simp)
theorem bs29_13 (a0 a1 a2 a3 a4 a5 a6 a7 a8 a9 a10 a11 a12 : Int) : bsV Try.prog (some (.slice 29)) 13 [(0, .sc (.int .u64 a0)), (1, .sc (.int .u64 a1)), (2, .sc (.int .u64 a2)), (3, .sc (.int .u64 a3)), (4, .sc (.int .u64 a4)), (5, .sc (.int .u64 a5)), (6, .sc (.int .u64 a6)), (7, .sc (.int .u64 a7)), (8, .sc (.int .u64 a8)), (9, .sc (.int .u64 a9)), (10, .sc (.int .u64 a10)), (11, .sc (.int .u64 a11)), (12, .sc (.int .u64 a12))] = some (ints .u64 [a0, a1, a2, a3, a4, a5, a6, a7, a8, a9, a10, a11, a12], fun r => .sl r 0 13 1) := bs_ints .u64 29 13 [(0, a0), (1, a1), (2, a2), (3, a3), (4, a4), (5, a5), (6, a6), (7, a7), (8, a8), (9, a9), (10, a10), (11, a11), (12, a12)] zero29 tyOk29 cells29 (by decide) (by simp)
theorem tyOk30 : tyOk Try.prog 30 = true := by kernel_rfl
theorem agg30 : aggB Try.prog 30 = false := by kernel_rfl
theorem cells30 : Try.prog.cellsOf 30 = 1 := by kernel_rfl
theorem tyOk31 : tyOk Try.prog 31 = true := by kernel_rfl
theorem agg31 : aggB Try.prog 31 = false := by kernel_rfl
theorem cells31 : Try.prog.cellsOf 31 = 1 := by kernel_rfl
theorem tyOk32 : tyOk Try.prog 32 = true := by kernel_rfl
theorem agg32 : aggB Try.prog 32 = false := by kernel_rfl
theorem cells32 : Try.prog.cellsOf 32 = 1 := by kernel_rfl
theorem tyOk33 : tyOk Try.prog 33 = true := by kernel_rfl
theorem agg33 : aggB Try.prog 33 = false := by kernel_rfl
theorem cells33 : Try.prog.cellsOf 33 = 1 := by kernel_rfl
theorem tyOk34 : tyOk Try.prog 34 = true := by kernel_rfl
theorem agg34 : aggB Try.prog 34 = false := by kernel_rfl
theorem cells34 : Try.prog.cellsOf 34 = 1 := by kernel_rfl
theorem tyOk35 : tyOk Try.prog 35 = true := by kernel_rfl
theorem agg35 : aggB Try.prog 35 = false := by kernel_rfl
theorem cells35 : Try.prog.cellsOf 35 = 1 := by kernel_rfl
theorem tyOk36 : tyOk Try.prog 36 = true := by kernel_rfl
theorem agg36 : aggB Try.prog 36 = false := by kernel_rfl
theorem cells36 : Try.prog.cellsOf 36 = 1 := by kernel_rfl
theorem tyOk37 : tyOk Try.prog 37 = true := by kernel_rfl
theorem agg37 : aggB Try.prog 37 = false := by kernel_rfl
theorem cells37 : Try.prog.cellsOf 37 = 1 := by kernel_rfl
theorem tyOk38 : tyOk Try.prog 38 = true := by kernel_rfl
theorem agg38 : aggB Try.prog 38 = false := by kernel_rfl
theorem cells38 : Try.prog.cellsOf 38 = 1 := by kernel_rfl
theorem tyOk39 : tyOk Try.prog 39 = true := by kernel_rfl
theorem agg39 : aggB Try.prog 39 = false := by kernel_rfl
theorem cells39 : Try.prog.cellsOf 39 = 1 := by kernel_rfl
theorem tyOk40 : tyOk Try.prog 40 = true := by kernel_rfl
theorem agg40 : aggB Try.prog 40 = false := by kernel_rfl
theorem cells40 : Try.prog.cellsOf 40 = 1 := by kernel_rfl
theorem tyOk41 : tyOk Try.prog 41 = true := by kernel_rfl
theorem agg41 : aggB Try.prog 41 = false := by kernel_rfl
theorem cells41 : Try.prog.cellsOf 41 = 1 := by kernel_rfl
theorem tyOk42 : tyOk Try.prog 42 = true := by kernel_rfl
theorem agg42 : aggB Try.prog 42 = false := by kernel_rfl
theorem cells42 : Try.prog.cellsOf 42 = 1 := by kernel_rfl
theorem tyOk43 : tyOk Try.prog 43 = true := by kernel_rfl
theorem agg43 : aggB Try.prog 43 = false := by kernel_rfl
theorem cells43 : Try.prog.cellsOf 43 = 1 := by kernel_rfl
theorem tyOk44 : tyOk Try.prog 44 = true := by kernel_rfl
theorem agg44 : aggB Try.prog 44 = false := by kernel_rfl
theorem cells44 : Try.prog.cellsOf 44 = 1 := by kernel_rfl
theorem tyOk45 : tyOk Try.prog 45 = true := by kernel_rfl
theorem agg45 : aggB Try.prog 45 = false := by kernel_rfl
theorem cells45 : Try.prog.cellsOf 45 = 1 := by kernel_rfl
theorem tyOk46 : tyOk Try.prog 46 = true := by kernel_rfl
theorem agg46 : aggB Try.prog 46 = false := by kernel_rfl
theorem cells46 : Try.prog.cellsOf 46 = 1 := by kernel_rfl
theorem tyOk47 : tyOk Try.prog 47 = true := by kernel_rfl
theorem agg47 : aggB Try.prog 47 = false := by kernel_rfl
theorem cells47 : Try.prog.cellsOf 47 = 1 := by kernel_rfl
theorem tyOk48 : tyOk Try.prog 48 = true := by kernel_rfl
theorem agg48 : aggB Try.prog 48 = false := by kernel_rfl
theorem cells48 : Try.prog.cellsOf 48 = 1 := by kernel_rfl
theorem tyOk49 : tyOk Try.prog 49 = true := by kernel_rfl
theorem agg49 : aggB Try.prog 49 = false := by kernel_rfl
theorem cells49 : Try.prog.cellsOf 49 = 1 := by kernel_rfl
theorem zero49 : zeroA Try.prog 49 = some [.sc (.slice none 0 0)] := by kernel_rfl
theorem tyOk50 : tyOk Try.prog 50 = true := by kernel_rfl
theorem agg50 : aggB Try.prog 50 = false := by kernel_rfl
theorem cells50 : Try.prog.cellsOf 50 = 1 := by kernel_rfl
theorem tyOk51 : tyOk Try.prog 51 = true := by kernel_rfl
theorem agg51 : aggB Try.prog 51 = false := by kernel_rfl
theorem cells51 : Try.prog.cellsOf 51 = 1 := by kernel_rfl
theorem tyOk52 : tyOk Try.prog 52 = true := by kernel_rfl
theorem agg52 : aggB Try.prog 52 = false := by kernel_rfl
theorem cells52 : Try.prog.cellsOf 52 = 1 := by kernel_rfl
theorem zero52 : zeroA Try.prog 52 = some [.sc (.slice none 0 0)] := by kernel_rfl
theorem tyOk53 : tyOk Try.prog 53 = true := by kernel_rfl
theorem agg53 : aggB Try.prog 53 = true := by kernel_rfl
theorem cells53 : Try.prog.cellsOf 53 = 4 := by kernel_rfl
theorem zero53 : zeroA Try.prog 53 = some [.sc (.int .i64 0), .sc (.int .i64 0), .sc (.string ByteArray.empty), .sc (.slice none 0 0)] := by kernel_rfl
theorem tyOk54 : tyOk Try.prog 54 = true := by kernel_rfl
theorem agg54 : aggB Try.prog 54 = true := by kernel_rfl
theorem cells54 : Try.prog.cellsOf 54 = 4 := by kernel_rfl
theorem zero54 : zeroA Try.prog 54 = some [.sc (.int .i64 0), .sc (.int .i64 0), .sc (.string ByteArray.empty), .sc (.slice none 0 0)] := by kernel_rfl
theorem tyOk55 : tyOk Try.prog 55 = true := by kernel_rfl
theorem agg55 : aggB Try.prog 55 = false := by kernel_rfl
theorem cells55 : Try.prog.cellsOf 55 = 1 := by kernel_rfl
theorem tyOk56 : tyOk Try.prog 56 = true := by kernel_rfl
theorem agg56 : aggB Try.prog 56 = false := by kernel_rfl
theorem cells56 : Try.prog.cellsOf 56 = 1 := by kernel_rfl
theorem tyOk57 : tyOk Try.prog 57 = true := by kernel_rfl
theorem agg57 : aggB Try.prog 57 = true := by kernel_rfl
theorem cells57 : Try.prog.cellsOf 57 = 4 := by kernel_rfl
theorem zero57 : zeroA Try.prog 57 = some [.sc (.int .i64 0), .sc (.int .i64 0), .sc (.int .i64 0), .sc (.string ByteArray.empty)] := by kernel_rfl
theorem tyOk58 : tyOk Try.prog 58 = true := by kernel_rfl
theorem agg58 : aggB Try.prog 58 = true := by kernel_rfl
theorem cells58 : Try.prog.cellsOf 58 = 4 := by kernel_rfl
theorem zero58 : zeroA Try.prog 58 = some [.sc (.int .i64 0), .sc (.int .i64 0), .sc (.int .i64 0), .sc (.string ByteArray.empty)] := by kernel_rfl
theorem info58 : (Try.prog.info? 58).map (·.bytes) = some 40 := by kernel_rfl
theorem tyOk59 : tyOk Try.prog 59 = true := by kernel_rfl
theorem agg59 : aggB Try.prog 59 = false := by kernel_rfl
theorem cells59 : Try.prog.cellsOf 59 = 1 := by kernel_rfl
theorem tyOk60 : tyOk Try.prog 60 = true := by kernel_rfl
theorem agg60 : aggB Try.prog 60 = false := by kernel_rfl
theorem cells60 : Try.prog.cellsOf 60 = 1 := by kernel_rfl
theorem tyOk61 : tyOk Try.prog 61 = true := by kernel_rfl
theorem agg61 : aggB Try.prog 61 = false := by kernel_rfl
theorem cells61 : Try.prog.cellsOf 61 = 1 := by kernel_rfl
theorem tyOk62 : tyOk Try.prog 62 = true := by kernel_rfl
theorem agg62 : aggB Try.prog 62 = false := by kernel_rfl
theorem cells62 : Try.prog.cellsOf 62 = 1 := by kernel_rfl
theorem tyOk63 : tyOk Try.prog 63 = true := by kernel_rfl
theorem agg63 : aggB Try.prog 63 = false := by kernel_rfl
theorem cells63 : Try.prog.cellsOf 63 = 1 := by kernel_rfl
theorem tyOk64 : tyOk Try.prog 64 = true := by kernel_rfl
theorem agg64 : aggB Try.prog 64 = false := by kernel_rfl
theorem cells64 : Try.prog.cellsOf 64 = 1 := by kernel_rfl
theorem tyOk65 : tyOk Try.prog 65 = true := by kernel_rfl
theorem agg65 : aggB Try.prog 65 = false := by kernel_rfl
theorem cells65 : Try.prog.cellsOf 65 = 1 := by kernel_rfl
theorem tyOk66 : tyOk Try.prog 66 = true := by kernel_rfl
theorem agg66 : aggB Try.prog 66 = false := by kernel_rfl
theorem cells66 : Try.prog.cellsOf 66 = 1 := by kernel_rfl
theorem tyOk67 : tyOk Try.prog 67 = true := by kernel_rfl
theorem agg67 : aggB Try.prog 67 = false := by kernel_rfl
theorem cells67 : Try.prog.cellsOf 67 = 1 := by kernel_rfl
theorem tyOk68 : tyOk Try.prog 68 = true := by kernel_rfl
theorem agg68 : aggB Try.prog 68 = false := by kernel_rfl
theorem cells68 : Try.prog.cellsOf 68 = 1 := by kernel_rfl
theorem tyOk69 : tyOk Try.prog 69 = true := by kernel_rfl
theorem agg69 : aggB Try.prog 69 = false := by kernel_rfl
theorem cells69 : Try.prog.cellsOf 69 = 1 := by kernel_rfl
theorem tyOk70 : tyOk Try.prog 70 = true := by kernel_rfl
theorem agg70 : aggB Try.prog 70 = false := by kernel_rfl
theorem cells70 : Try.prog.cellsOf 70 = 1 := by kernel_rfl
theorem tyOk71 : tyOk Try.prog 71 = true := by kernel_rfl
theorem agg71 : aggB Try.prog 71 = false := by kernel_rfl
theorem cells71 : Try.prog.cellsOf 71 = 1 := by kernel_rfl
theorem tyOk72 : tyOk Try.prog 72 = true := by kernel_rfl
theorem agg72 : aggB Try.prog 72 = false := by kernel_rfl
theorem cells72 : Try.prog.cellsOf 72 = 1 := by kernel_rfl
theorem tyOk73 : tyOk Try.prog 73 = true := by kernel_rfl
theorem agg73 : aggB Try.prog 73 = false := by kernel_rfl
theorem cells73 : Try.prog.cellsOf 73 = 1 := by kernel_rfl
theorem tyOk74 : tyOk Try.prog 74 = true := by kernel_rfl
theorem agg74 : aggB Try.prog 74 = false := by kernel_rfl
theorem cells74 : Try.prog.cellsOf 74 = 1 := by kernel_rfl
theorem zero74 : zeroA Try.prog 74 = some [.sc (.pointer none)] := by kernel_rfl
theorem tyOk75 : tyOk Try.prog 75 = true := by kernel_rfl
theorem agg75 : aggB Try.prog 75 = false := by kernel_rfl
theorem cells75 : Try.prog.cellsOf 75 = 1 := by kernel_rfl
theorem tyOk76 : tyOk Try.prog 76 = true := by kernel_rfl
theorem agg76 : aggB Try.prog 76 = false := by kernel_rfl
theorem cells76 : Try.prog.cellsOf 76 = 1 := by kernel_rfl
theorem tyOk77 : tyOk Try.prog 77 = true := by kernel_rfl
theorem agg77 : aggB Try.prog 77 = false := by kernel_rfl
theorem cells77 : Try.prog.cellsOf 77 = 1 := by kernel_rfl
theorem tyOk78 : tyOk Try.prog 78 = true := by kernel_rfl
theorem agg78 : aggB Try.prog 78 = true := by kernel_rfl
theorem cells78 : Try.prog.cellsOf 78 = 64 := by kernel_rfl
theorem zero78 : zeroA Try.prog 78 = some (ints .i64 (List.replicate 64 0)) := by kernel_rfl
theorem tyOk79 : tyOk Try.prog 79 = true := by kernel_rfl
theorem agg79 : aggB Try.prog 79 = false := by kernel_rfl
theorem cells79 : Try.prog.cellsOf 79 = 1 := by kernel_rfl
theorem tyOk80 : tyOk Try.prog 80 = true := by kernel_rfl
theorem agg80 : aggB Try.prog 80 = false := by kernel_rfl
theorem cells80 : Try.prog.cellsOf 80 = 1 := by kernel_rfl
theorem tyOk81 : tyOk Try.prog 81 = true := by kernel_rfl
theorem agg81 : aggB Try.prog 81 = false := by kernel_rfl
theorem cells81 : Try.prog.cellsOf 81 = 1 := by kernel_rfl
theorem tyOk82 : tyOk Try.prog 82 = true := by kernel_rfl
theorem agg82 : aggB Try.prog 82 = false := by kernel_rfl
theorem cells82 : Try.prog.cellsOf 82 = 1 := by kernel_rfl
theorem tyOk83 : tyOk Try.prog 83 = true := by kernel_rfl
theorem agg83 : aggB Try.prog 83 = false := by kernel_rfl
theorem cells83 : Try.prog.cellsOf 83 = 1 := by kernel_rfl
theorem tyOk84 : tyOk Try.prog 84 = true := by kernel_rfl
theorem agg84 : aggB Try.prog 84 = false := by kernel_rfl
theorem cells84 : Try.prog.cellsOf 84 = 1 := by kernel_rfl
theorem tyOk85 : tyOk Try.prog 85 = true := by kernel_rfl
theorem agg85 : aggB Try.prog 85 = false := by kernel_rfl
theorem cells85 : Try.prog.cellsOf 85 = 1 := by kernel_rfl
theorem zero85 : zeroA Try.prog 85 = some [.sc (.int .u32 0)] := by kernel_rfl
theorem info85 : (Try.prog.info? 85).map (·.bytes) = some 4 := by kernel_rfl
theorem mk85 (a b : IntKind) (m : Int) (h0 : 0 ≤ m) (h1 : m ≤ 1000000000000) : mkV Try.prog (some (.slice 85)) (.sc (.int a m)) (.sc (.int b m)) = some (ints .u32 (List.replicate m.toNat 0), fun r => .sl r 0 m.toNat 1) := mk_ints .u32 85 a b m _ zero85 info85 cells85 h0 (by omega) (by omega)
theorem bs85_0 : bsV Try.prog (some (.slice 85)) 0 [] = some (ints .u32 [], fun r => .sl r 0 0 1) := bs_ints .u32 85 0 [] zero85 tyOk85 cells85 (by decide) (by simp)
theorem bs85_1 (a0 : Int) : bsV Try.prog (some (.slice 85)) 1 [(0, .sc (.int .u32 a0))] = some (ints .u32 [a0], fun r => .sl r 0 1 1) := bs_ints .u32 85 1 [(0, a0)] zero85 tyOk85 cells85 (by decide) (by simp)
theorem bs85_2 (a0 a1 : Int) : bsV Try.prog (some (.slice 85)) 2 [(0, .sc (.int .u32 a0)), (1, .sc (.int .u32 a1))] = some (ints .u32 [a0, a1], fun r => .sl r 0 2 1) := bs_ints .u32 85 2 [(0, a0), (1, a1)] zero85 tyOk85 cells85 (by decide) (by simp)
theorem bs85_3 (a0 a1 a2 : Int) : bsV Try.prog (some (.slice 85)) 3 [(0, .sc (.int .u32 a0)), (1, .sc (.int .u32 a1)), (2, .sc (.int .u32 a2))] = some (ints .u32 [a0, a1, a2], fun r => .sl r 0 3 1) := bs_ints .u32 85 3 [(0, a0), (1, a1), (2, a2)] zero85 tyOk85 cells85 (by decide) (by simp)
theorem bs85_4 (a0 a1 a2 a3 : Int) : bsV Try.prog (some (.slice 85)) 4 [(0, .sc (.int .u32 a0)), (1, .sc (.int .u32 a1)), (2, .sc (.int .u32 a2)), (3, .sc (.int .u32 a3))] = some (ints .u32 [a0, a1, a2, a3], fun r => .sl r 0 4 1) := bs_ints .u32 85 4 [(0, a0), (1, a1), (2, a2), (3, a3)] zero85 tyOk85 cells85 (by decide) (by simp)
theorem bs85_5 (a0 a1 a2 a3 a4 : Int) : bsV Try.prog (some (.slice 85)) 5 [(0, .sc (.int .u32 a0)), (1, .sc (.int .u32 a1)), (2, .sc (.int .u32 a2)), (3, .sc (.int .u32 a3)), (4, .sc (.int .u32 a4))] = some (ints .u32 [a0, a1, a2, a3, a4], fun r => .sl r 0 5 1) := bs_ints .u32 85 5 [(0, a0), (1, a1), (2, a2), (3, a3), (4, a4)] zero85 tyOk85 cells85 (by decide) (by simp)
theorem bs85_6 (a0 a1 a2 a3 a4 a5 : Int) : bsV Try.prog (some (.slice 85)) 6 [(0, .sc (.int .u32 a0)), (1, .sc (.int .u32 a1)), (2, .sc (.int .u32 a2)), (3, .sc (.int .u32 a3)), (4, .sc (.int .u32 a4)), (5, .sc (.int .u32 a5))] = some (ints .u32 [a0, a1, a2, a3, a4, a5], fun r => .sl r 0 6 1) := bs_ints .u32 85 6 [(0, a0), (1, a1), (2, a2), (3, a3), (4, a4), (5, a5)] zero85 tyOk85 cells85 (by decide) (by simp)
theorem bs85_7 (a0 a1 a2 a3 a4 a5 a6 : Int) : bsV Try.prog (some (.slice 85)) 7 [(0, .sc (.int .u32 a0)), (1, .sc (.int .u32 a1)), (2, .sc (.int .u32 a2)), (3, .sc (.int .u32 a3)), (4, .sc (.int .u32 a4)), (5, .sc (.int .u32 a5)), (6, .sc (.int .u32 a6))] = some (ints .u32 [a0, a1, a2, a3, a4, a5, a6], fun r => .sl r 0 7 1) := bs_ints .u32 85 7 [(0, a0), (1, a1), (2, a2), (3, a3), (4, a4), (5, a5), (6, a6)] zero85 tyOk85 cells85 (by decide) (by simp)
theorem bs85_8 (a0 a1 a2 a3 a4 a5 a6 a7 : Int) : bsV Try.prog (some (.slice 85)) 8 [(0, .sc (.int .u32 a0)), (1, .sc (.int .u32 a1)), (2, .sc (.int .u32 a2)), (3, .sc (.int .u32 a3)), (4, .sc (.int .u32 a4)), (5, .sc (.int .u32 a5)), (6, .sc (.int .u32 a6)), (7, .sc (.int .u32 a7))] = some (ints .u32 [a0, a1, a2, a3, a4, a5, a6, a7], fun r => .sl r 0 8 1) := bs_ints .u32 85 8 [(0, a0), (1, a1), (2, a2), (3, a3), (4, a4), (5, a5), (6, a6), (7, a7)] zero85 tyOk85 cells85 (by decide) (by simp)
theorem bs85_10 (a0 a1 a2 a3 a4 a5 a6 a7 a8 a9 : Int) : bsV Try.prog (some (.slice 85)) 10 [(0, .sc (.int .u32 a0)), (1, .sc (.int .u32 a1)), (2, .sc (.int .u32 a2)), (3, .sc (.int .u32 a3)), (4, .sc (.int .u32 a4)), (5, .sc (.int .u32 a5)), (6, .sc (.int .u32 a6)), (7, .sc (.int .u32 a7)), (8, .sc (.int .u32 a8)), (9, .sc (.int .u32 a9))] = some (ints .u32 [a0, a1, a2, a3, a4, a5, a6, a7, a8, a9], fun r => .sl r 0 10 1) := bs_ints .u32 85 10 [(0, a0), (1, a1), (2, a2), (3, a3), (4, a4), (5, a5), (6, a6), (7, a7), (8, a8), (9, a9)] zero85 tyOk85 cells85 (by decide) (by simp)
theorem bs85_11 (a0 a1 a2 a3 a4 a5 a6 a7 a8 a9 a10 : Int) : bsV Try.prog (some (.slice 85)) 11 [(0, .sc (.int .u32 a0)), (1, .sc (.int .u32 a1)), (2, .sc (.int .u32 a2)), (3, .sc (.int .u32 a3)), (4, .sc (.int .u32 a4)), (5, .sc (.int .u32 a5)), (6, .sc (.int .u32 a6)), (7, .sc (.int .u32 a7)), (8, .sc (.int .u32 a8)), (9, .sc (.int .u32 a9)), (10, .sc (.int .u32 a10))] = some (ints .u32 [a0, a1, a2, a3, a4, a5, a6, a7, a8, a9, a10], fun r => .sl r 0 11 1) := bs_ints .u32 85 11 [(0, a0), (1, a1), (2, a2), (3, a3), (4, a4), (5, a5), (6, a6), (7, a7), (8, a8), (9, a9), (10, a10)] zero85 tyOk85 cells85 (by decide) (by simp)
theorem bs85_12 (a0 a1 a2 a3 a4 a5 a6 a7 a8 a9 a10 a11 : Int) : bsV Try.prog (some (.slice 85)) 12 [(0, .sc (.int .u32 a0)), (1, .sc (.int .u32 a1)), (2, .sc (.int .u32 a2)), (3, .sc (.int .u32 a3)), (4, .sc (.int .u32 a4)), (5, .sc (.int .u32 a5)), (6, .sc (.int .u32 a6)), (7, .sc (.int .u32 a7)), (8, .sc (.int .u32 a8)), (9, .sc (.int .u32 a9)), (10, .sc (.int .u32 a10)), (11, .sc (.int .u32 a11))] = some (ints .u32 [a0, a1, a2, a3, a4, a5, a6, a7, a8, a9, a10, a11], fun r => .sl r 0 12 1) := bs_ints .u32 85 12 [(0, a0), (1, a1), (2, a2), (3, a3), (4, a4), (5, a5), (6, a6), (7, a7), (8, a8), (9, a9), (10, a10), (11, a11)] zero85 tyOk85 cells85 (by decide) (by simp)
theorem bs85_13 (a0 a1 a2 a3 a4 a5 a6 a7 a8 a9 a10 a11 a12 : Int) : bsV Try.prog (some (.slice 85)) 13 [(0, .sc (.int .u32 a0)), (1, .sc (.int .u32 a1)), (2, .sc (.int .u32 a2)), (3, .sc (.int .u32 a3)), (4, .sc (.int .u32 a4)), (5, .sc (.int .u32 a5)), (6, .sc (.int .u32 a6)), (7, .sc (.int .u32 a7)), (8, .sc (.int .u32 a8)), (9, .sc (.int .u32 a9)), (10, .sc (.int .u32 a10)), (11, .sc (.int .u32 a11)), (12, .sc (.int .u32 a12))] = some (ints .u32 [a0, a1, a2, a3, a4, a5, a6, a7, a8, a9, a10, a11, a12], fun r => .sl r 0 13 1) := bs_ints .u32 85 13 [(0, a0), (1, a1), (2, a2), (3, a3), (4, a4), (5, a5), (6, a6), (7, a7), (8, a8), (9, a9), (10, a10), (11, a11), (12, a12)] zero85 tyOk85 cells85 (by decide) (by simp)
theorem tyOk86 : tyOk Try.prog 86 = true := by kernel_rfl
theorem agg86 : aggB Try.prog 86 = true := by kernel_rfl
theorem cells86 : Try.prog.cellsOf 86 = 8 := by kernel_rfl
theorem zero86 : zeroA Try.prog 86 = some (ints .u32 (List.replicate 8 0)) := by kernel_rfl
theorem tyOk87 : tyOk Try.prog 87 = true := by kernel_rfl
theorem agg87 : aggB Try.prog 87 = false := by kernel_rfl
theorem cells87 : Try.prog.cellsOf 87 = 1 := by kernel_rfl
theorem tyOk88 : tyOk Try.prog 88 = true := by kernel_rfl
theorem agg88 : aggB Try.prog 88 = true := by kernel_rfl
theorem cells88 : Try.prog.cellsOf 88 = 64 := by kernel_rfl
theorem zero88 : zeroA Try.prog 88 = some (ints .u32 (List.replicate 64 0)) := by kernel_rfl
theorem tyOk89 : tyOk Try.prog 89 = true := by kernel_rfl
theorem agg89 : aggB Try.prog 89 = false := by kernel_rfl
theorem cells89 : Try.prog.cellsOf 89 = 1 := by kernel_rfl
theorem tyOk90 : tyOk Try.prog 90 = true := by kernel_rfl
theorem agg90 : aggB Try.prog 90 = false := by kernel_rfl
theorem cells90 : Try.prog.cellsOf 90 = 1 := by kernel_rfl
theorem tyOk91 : tyOk Try.prog 91 = true := by kernel_rfl
theorem agg91 : aggB Try.prog 91 = false := by kernel_rfl
theorem cells91 : Try.prog.cellsOf 91 = 1 := by kernel_rfl
theorem tyOk92 : tyOk Try.prog 92 = true := by kernel_rfl
theorem agg92 : aggB Try.prog 92 = false := by kernel_rfl
theorem cells92 : Try.prog.cellsOf 92 = 1 := by kernel_rfl
theorem tyOk93 : tyOk Try.prog 93 = true := by kernel_rfl
theorem agg93 : aggB Try.prog 93 = false := by kernel_rfl
theorem cells93 : Try.prog.cellsOf 93 = 1 := by kernel_rfl
theorem tyOk94 : tyOk Try.prog 94 = true := by kernel_rfl
theorem agg94 : aggB Try.prog 94 = false := by kernel_rfl
theorem cells94 : Try.prog.cellsOf 94 = 1 := by kernel_rfl
theorem tyOk95 : tyOk Try.prog 95 = true := by kernel_rfl
theorem agg95 : aggB Try.prog 95 = false := by kernel_rfl
theorem cells95 : Try.prog.cellsOf 95 = 1 := by kernel_rfl
theorem tyOk96 : tyOk Try.prog 96 = true := by kernel_rfl
theorem agg96 : aggB Try.prog 96 = false := by kernel_rfl
theorem cells96 : Try.prog.cellsOf 96 = 1 := by kernel_rfl
theorem tyOk97 : tyOk Try.prog 97 = true := by kernel_rfl
theorem agg97 : aggB Try.prog 97 = false := by kernel_rfl
theorem cells97 : Try.prog.cellsOf 97 = 1 := by kernel_rfl
theorem tyOk98 : tyOk Try.prog 98 = true := by kernel_rfl
theorem agg98 : aggB Try.prog 98 = false := by kernel_rfl
theorem cells98 : Try.prog.cellsOf 98 = 1 := by kernel_rfl
theorem tyOk99 : tyOk Try.prog 99 = true := by kernel_rfl
theorem agg99 : aggB Try.prog 99 = false := by kernel_rfl
theorem cells99 : Try.prog.cellsOf 99 = 1 := by kernel_rfl
theorem tyOk100 : tyOk Try.prog 100 = true := by kernel_rfl
theorem agg100 : aggB Try.prog 100 = false := by kernel_rfl
theorem cells100 : Try.prog.cellsOf 100 = 1 := by kernel_rfl
theorem tyOk101 : tyOk Try.prog 101 = true := by kernel_rfl
theorem agg101 : aggB Try.prog 101 = false := by kernel_rfl
theorem cells101 : Try.prog.cellsOf 101 = 1 := by kernel_rfl
theorem tyOk102 : tyOk Try.prog 102 = true := by kernel_rfl
theorem agg102 : aggB Try.prog 102 = false := by kernel_rfl
theorem cells102 : Try.prog.cellsOf 102 = 1 := by kernel_rfl
theorem tyOk103 : tyOk Try.prog 103 = true := by kernel_rfl
theorem agg103 : aggB Try.prog 103 = false := by kernel_rfl
theorem cells103 : Try.prog.cellsOf 103 = 1 := by kernel_rfl
theorem tyOk104 : tyOk Try.prog 104 = true := by kernel_rfl
theorem agg104 : aggB Try.prog 104 = false := by kernel_rfl
theorem cells104 : Try.prog.cellsOf 104 = 1 := by kernel_rfl
theorem tyOk105 : tyOk Try.prog 105 = true := by kernel_rfl
theorem agg105 : aggB Try.prog 105 = false := by kernel_rfl
theorem cells105 : Try.prog.cellsOf 105 = 1 := by kernel_rfl
theorem tyOk106 : tyOk Try.prog 106 = true := by kernel_rfl
theorem agg106 : aggB Try.prog 106 = false := by kernel_rfl
theorem cells106 : Try.prog.cellsOf 106 = 1 := by kernel_rfl
theorem tyOk107 : tyOk Try.prog 107 = true := by kernel_rfl
theorem agg107 : aggB Try.prog 107 = false := by kernel_rfl
theorem cells107 : Try.prog.cellsOf 107 = 1 := by kernel_rfl
theorem tyOk108 : tyOk Try.prog 108 = true := by kernel_rfl
theorem agg108 : aggB Try.prog 108 = false := by kernel_rfl
theorem cells108 : Try.prog.cellsOf 108 = 1 := by kernel_rfl
theorem tyOk109 : tyOk Try.prog 109 = true := by kernel_rfl
theorem agg109 : aggB Try.prog 109 = true := by kernel_rfl
theorem cells109 : Try.prog.cellsOf 109 = 3 := by kernel_rfl
theorem zero109 : zeroA Try.prog 109 = some [.sc (.slice none 0 0), .sc (.int .i64 0), .sc (.int .i64 0)] := by kernel_rfl
theorem tyOk110 : tyOk Try.prog 110 = true := by kernel_rfl
theorem agg110 : aggB Try.prog 110 = true := by kernel_rfl
theorem cells110 : Try.prog.cellsOf 110 = 3 := by kernel_rfl
theorem zero110 : zeroA Try.prog 110 = some [.sc (.slice none 0 0), .sc (.int .i64 0), .sc (.int .i64 0)] := by kernel_rfl
theorem tyOk111 : tyOk Try.prog 111 = true := by kernel_rfl
theorem agg111 : aggB Try.prog 111 = false := by kernel_rfl
theorem cells111 : Try.prog.cellsOf 111 = 1 := by kernel_rfl
theorem tyOk112 : tyOk Try.prog 112 = true := by kernel_rfl
theorem agg112 : aggB Try.prog 112 = false := by kernel_rfl
theorem cells112 : Try.prog.cellsOf 112 = 1 := by kernel_rfl
theorem tyOk113 : tyOk Try.prog 113 = true := by kernel_rfl
theorem agg113 : aggB Try.prog 113 = false := by kernel_rfl
theorem cells113 : Try.prog.cellsOf 113 = 1 := by kernel_rfl
theorem zero113 : zeroA Try.prog 113 = some [.sc (.pointer none)] := by kernel_rfl
theorem tyOk114 : tyOk Try.prog 114 = true := by kernel_rfl
theorem agg114 : aggB Try.prog 114 = true := by kernel_rfl
theorem cells114 : Try.prog.cellsOf 114 = 2 := by kernel_rfl
theorem zero114 : zeroA Try.prog 114 = some [.sc (.pointer none), .sc (.slice none 0 0)] := by kernel_rfl
theorem tyOk115 : tyOk Try.prog 115 = true := by kernel_rfl
theorem agg115 : aggB Try.prog 115 = true := by kernel_rfl
theorem cells115 : Try.prog.cellsOf 115 = 2 := by kernel_rfl
theorem zero115 : zeroA Try.prog 115 = some [.sc (.pointer none), .sc (.slice none 0 0)] := by kernel_rfl
theorem tyOk116 : tyOk Try.prog 116 = true := by kernel_rfl
theorem agg116 : aggB Try.prog 116 = false := by kernel_rfl
theorem cells116 : Try.prog.cellsOf 116 = 1 := by kernel_rfl
theorem tyOk117 : tyOk Try.prog 117 = true := by kernel_rfl
theorem agg117 : aggB Try.prog 117 = false := by kernel_rfl
theorem cells117 : Try.prog.cellsOf 117 = 1 := by kernel_rfl
theorem tyOk118 : tyOk Try.prog 118 = true := by kernel_rfl
theorem agg118 : aggB Try.prog 118 = false := by kernel_rfl
theorem cells118 : Try.prog.cellsOf 118 = 1 := by kernel_rfl
theorem tyOk119 : tyOk Try.prog 119 = true := by kernel_rfl
theorem agg119 : aggB Try.prog 119 = false := by kernel_rfl
theorem cells119 : Try.prog.cellsOf 119 = 1 := by kernel_rfl
theorem tyOk120 : tyOk Try.prog 120 = true := by kernel_rfl
theorem agg120 : aggB Try.prog 120 = false := by kernel_rfl
theorem cells120 : Try.prog.cellsOf 120 = 1 := by kernel_rfl
theorem tyOk121 : tyOk Try.prog 121 = true := by kernel_rfl
theorem agg121 : aggB Try.prog 121 = false := by kernel_rfl
theorem cells121 : Try.prog.cellsOf 121 = 1 := by kernel_rfl
theorem tyOk122 : tyOk Try.prog 122 = true := by kernel_rfl
theorem agg122 : aggB Try.prog 122 = false := by kernel_rfl
theorem cells122 : Try.prog.cellsOf 122 = 1 := by kernel_rfl
theorem tyOk123 : tyOk Try.prog 123 = true := by kernel_rfl
theorem agg123 : aggB Try.prog 123 = false := by kernel_rfl
theorem cells123 : Try.prog.cellsOf 123 = 1 := by kernel_rfl
theorem tyOk124 : tyOk Try.prog 124 = true := by kernel_rfl
theorem agg124 : aggB Try.prog 124 = false := by kernel_rfl
theorem cells124 : Try.prog.cellsOf 124 = 1 := by kernel_rfl
theorem tyOk125 : tyOk Try.prog 125 = true := by kernel_rfl
theorem agg125 : aggB Try.prog 125 = false := by kernel_rfl
theorem cells125 : Try.prog.cellsOf 125 = 1 := by kernel_rfl
theorem zero125 : zeroA Try.prog 125 = some [.sc (.slice none 0 0)] := by kernel_rfl
theorem tyOk126 : tyOk Try.prog 126 = true := by kernel_rfl
theorem agg126 : aggB Try.prog 126 = false := by kernel_rfl
theorem cells126 : Try.prog.cellsOf 126 = 1 := by kernel_rfl
theorem tyOk127 : tyOk Try.prog 127 = true := by kernel_rfl
theorem agg127 : aggB Try.prog 127 = false := by kernel_rfl
theorem cells127 : Try.prog.cellsOf 127 = 1 := by kernel_rfl
theorem tyOk128 : tyOk Try.prog 128 = true := by kernel_rfl
theorem agg128 : aggB Try.prog 128 = false := by kernel_rfl
theorem cells128 : Try.prog.cellsOf 128 = 1 := by kernel_rfl
theorem tyOk129 : tyOk Try.prog 129 = true := by kernel_rfl
theorem agg129 : aggB Try.prog 129 = false := by kernel_rfl
theorem cells129 : Try.prog.cellsOf 129 = 1 := by kernel_rfl
theorem zero129 : zeroA Try.prog 129 = some [.sc (.int .u64 0)] := by kernel_rfl
theorem info129 : (Try.prog.info? 129).map (·.bytes) = some 8 := by kernel_rfl
theorem mk129 (a b : IntKind) (m : Int) (h0 : 0 ≤ m) (h1 : m ≤ 1000000000000) : mkV Try.prog (some (.slice 129)) (.sc (.int a m)) (.sc (.int b m)) = some (ints .u64 (List.replicate m.toNat 0), fun r => .sl r 0 m.toNat 1) := mk_ints .u64 129 a b m _ zero129 info129 cells129 h0 (by omega) (by omega)
theorem bs129_0 : bsV Try.prog (some (.slice 129)) 0 [] = some (ints .u64 [], fun r => .sl r 0 0 1) := bs_ints .u64 129 0 [] zero129 tyOk129 cells129 (by decide) (by simp)
theorem bs129_1 (a0 : Int) : bsV Try.prog (some (.slice 129)) 1 [(0, .sc (.int .u64 a0))] = some (ints .u64 [a0], fun r => .sl r 0 1 1) := bs_ints .u64 129 1 [(0, a0)] zero129 tyOk129 cells129 (by decide) (by simp)
theorem bs129_2 (a0 a1 : Int) : bsV Try.prog (some (.slice 129)) 2 [(0, .sc (.int .u64 a0)), (1, .sc (.int .u64 a1))] = some (ints .u64 [a0, a1], fun r => .sl r 0 2 1) := bs_ints .u64 129 2 [(0, a0), (1, a1)] zero129 tyOk129 cells129 (by decide) (by simp)
theorem bs129_3 (a0 a1 a2 : Int) : bsV Try.prog (some (.slice 129)) 3 [(0, .sc (.int .u64 a0)), (1, .sc (.int .u64 a1)), (2, .sc (.int .u64 a2))] = some (ints .u64 [a0, a1, a2], fun r => .sl r 0 3 1) := bs_ints .u64 129 3 [(0, a0), (1, a1), (2, a2)] zero129 tyOk129 cells129 (by decide) (by simp)
theorem bs129_4 (a0 a1 a2 a3 : Int) : bsV Try.prog (some (.slice 129)) 4 [(0, .sc (.int .u64 a0)), (1, .sc (.int .u64 a1)), (2, .sc (.int .u64 a2)), (3, .sc (.int .u64 a3))] = some (ints .u64 [a0, a1, a2, a3], fun r => .sl r 0 4 1) := bs_ints .u64 129 4 [(0, a0), (1, a1), (2, a2), (3, a3)] zero129 tyOk129 cells129 (by decide) (by simp)
theorem bs129_5 (a0 a1 a2 a3 a4 : Int) : bsV Try.prog (some (.slice 129)) 5 [(0, .sc (.int .u64 a0)), (1, .sc (.int .u64 a1)), (2, .sc (.int .u64 a2)), (3, .sc (.int .u64 a3)), (4, .sc (.int .u64 a4))] = some (ints .u64 [a0, a1, a2, a3, a4], fun r => .sl r 0 5 1) := bs_ints .u64 129 5 [(0, a0), (1, a1), (2, a2), (3, a3), (4, a4)] zero129 tyOk129 cells129 (by decide) (by simp)
theorem bs129_6 (a0 a1 a2 a3 a4 a5 : Int) : bsV Try.prog (some (.slice 129)) 6 [(0, .sc (.int .u64 a0)), (1, .sc (.int .u64 a1)), (2, .sc (.int .u64 a2)), (3, .sc (.int .u64 a3)), (4, .sc (.int .u64 a4)), (5, .sc (.int .u64 a5))] = some (ints .u64 [a0, a1, a2, a3, a4, a5], fun r => .sl r 0 6 1) := bs_ints .u64 129 6 [(0, a0), (1, a1), (2, a2), (3, a3), (4, a4), (5, a5)] zero129 tyOk129 cells129 (by decide) (by simp)
theorem bs129_7 (a0 a1 a2 a3 a4 a5 a6 : Int) : bsV Try.prog (some (.slice 129)) 7 [(0, .sc (.int .u64 a0)), (1, .sc (.int .u64 a1)), (2, .sc (.int .u64 a2)), (3, .sc (.int .u64 a3)), (4, .sc (.int .u64 a4)), (5, .sc (.int .u64 a5)), (6, .sc (.int .u64 a6))] = some (ints .u64 [a0, a1, a2, a3, a4, a5, a6], fun r => .sl r 0 7 1) := bs_ints .u64 129 7 [(0, a0), (1, a1), (2, a2), (3, a3), (4, a4), (5, a5), (6, a6)] zero129 tyOk129 cells129 (by decide) (by simp)
theorem bs129_8 (a0 a1 a2 a3 a4 a5 a6 a7 : Int) : bsV Try.prog (some (.slice 129)) 8 [(0, .sc (.int .u64 a0)), (1, .sc (.int .u64 a1)), (2, .sc (.int .u64 a2)), (3, .sc (.int .u64 a3)), (4, .sc (.int .u64 a4)), (5, .sc (.int .u64 a5)), (6, .sc (.int .u64 a6)), (7, .sc (.int .u64 a7))] = some (ints .u64 [a0, a1, a2, a3, a4, a5, a6, a7], fun r => .sl r 0 8 1) := bs_ints .u64 129 8 [(0, a0), (1, a1), (2, a2), (3, a3), (4, a4), (5, a5), (6, a6), (7, a7)] zero129 tyOk129 cells129 (by decide) (by simp)
theorem bs129_10 (a0 a1 a2 a3 a4 a5 a6 a7 a8 a9 : Int) : bsV Try.prog (some (.slice 129)) 10 [(0, .sc (.int .u64 a0)), (1, .sc (.int .u64 a1)), (2, .sc (.int .u64 a2)), (3, .sc (.int .u64 a3)), (4, .sc (.int .u64 a4)), (5, .sc (.int .u64 a5)), (6, .sc (.int .u64 a6)), (7, .sc (.int .u64 a7)), (8, .sc (.int .u64 a8)), (9, .sc (.int .u64 a9))] = some (ints .u64 [a0, a1, a2, a3, a4, a5, a6, a7, a8, a9], fun r => .sl r 0 10 1) := bs_ints .u64 129 10 [(0, a0), (1, a1), (2, a2), (3, a3), (4, a4), (5, a5), (6, a6), (7, a7), (8, a8), (9, a9)] zero129 tyOk129 cells129 (by decide) (by simp)
theorem bs129_11 (a0 a1 a2 a3 a4 a5 a6 a7 a8 a9 a10 : Int) : bsV Try.prog (some (.slice 129)) 11 [(0, .sc (.int .u64 a0)), (1, .sc (.int .u64 a1)), (2, .sc (.int .u64 a2)), (3, .sc (.int .u64 a3)), (4, .sc (.int .u64 a4)), (5, .sc (.int .u64 a5)), (6, .sc (.int .u64 a6)), (7, .sc (.int .u64 a7)), (8, .sc (.int .u64 a8)), (9, .sc (.int .u64 a9)), (10, .sc (.int .u64 a10))] = some (ints .u64 [a0, a1, a2, a3, a4, a5, a6, a7, a8, a9, a10], fun r => .sl r 0 11 1) := bs_ints .u64 129 11 [(0, a0), (1, a1), (2, a2), (3, a3), (4, a4), (5, a5), (6, a6), (7, a7), (8, a8), (9, a9), (10, a10)] zero129 tyOk129 cells129 (by decide) (by simp)
theorem bs129_12 (a0 a1 a2 a3 a4 a5 a6 a7 a8 a9 a10 a11 : Int) : bsV Try.prog (some (.slice 129)) 12 [(0, .sc (.int .u64 a0)), (1, .sc (.int .u64 a1)), (2, .sc (.int .u64 a2)), (3, .sc (.int .u64 a3)), (4, .sc (.int .u64 a4)), (5, .sc (.int .u64 a5)), (6, .sc (.int .u64 a6)), (7, .sc (.int .u64 a7)), (8, .sc (.int .u64 a8)), (9, .sc (.int .u64 a9)), (10, .sc (.int .u64 a10)), (11, .sc (.int .u64 a11))] = some (ints .u64 [a0, a1, a2, a3, a4, a5, a6, a7, a8, a9, a10, a11], fun r => .sl r 0 12 1) := bs_ints .u64 129 12 [(0, a0), (1, a1), (2, a2), (3, a3), (4, a4), (5, a5), (6, a6), (7, a7), (8, a8), (9, a9), (10, a10), (11, a11)] zero129 tyOk129 cells129 (by decide) (by simp)
theorem bs129_13 (a0 a1 a2 a3 a4 a5 a6 a7 a8 a9 a10 a11 a12 : Int) : bsV Try.prog (some (.slice 129)) 13 [(0, .sc (.int .u64 a0)), (1, .sc (.int .u64 a1)), (2, .sc (.int .u64 a2)), (3, .sc (.int .u64 a3)), (4, .sc (.int .u64 a4)), (5, .sc (.int .u64 a5)), (6, .sc (.int .u64 a6)), (7, .sc (.int .u64 a7)), (8, .sc (.int .u64 a8)), (9, .sc (.int .u64 a9)), (10, .sc (.int .u64 a10)), (11, .sc (.int .u64 a11)), (12, .sc (.int .u64 a12))] = some (ints .u64 [a0, a1, a2, a3, a4, a5, a6, a7, a8, a9, a10, a11, a12], fun r => .sl r 0 13 1) := bs_ints .u64 129 13 [(0, a0), (1, a1), (2, a2), (3, a3), (4, a4), (5, a5), (6, a6), (7, a7), (8, a8), (9, a9), (10, a10), (11, a11), (12, a12)] zero129 tyOk129 cells129 (by decide) (by simp)
theorem tyOk130 : tyOk Try.prog 130 = true := by kernel_rfl
theorem agg130 : aggB Try.prog 130 = false := by kernel_rfl
theorem cells130 : Try.prog.cellsOf 130 = 1 := by kernel_rfl
theorem tyOk131 : tyOk Try.prog 131 = true := by kernel_rfl
theorem agg131 : aggB Try.prog 131 = false := by kernel_rfl
theorem cells131 : Try.prog.cellsOf 131 = 1 := by kernel_rfl
theorem tyOk132 : tyOk Try.prog 132 = true := by kernel_rfl
theorem agg132 : aggB Try.prog 132 = false := by kernel_rfl
theorem cells132 : Try.prog.cellsOf 132 = 1 := by kernel_rfl
theorem zero132 : zeroA Try.prog 132 = some [.sc (.pointer none)] := by kernel_rfl
theorem tyOk133 : tyOk Try.prog 133 = true := by kernel_rfl
theorem agg133 : aggB Try.prog 133 = false := by kernel_rfl
theorem cells133 : Try.prog.cellsOf 133 = 1 := by kernel_rfl
theorem zero133 : zeroA Try.prog 133 = some [.sc (.pointer none)] := by kernel_rfl
theorem tyOk134 : tyOk Try.prog 134 = true := by kernel_rfl
theorem agg134 : aggB Try.prog 134 = false := by kernel_rfl
theorem cells134 : Try.prog.cellsOf 134 = 1 := by kernel_rfl
theorem tyOk135 : tyOk Try.prog 135 = true := by kernel_rfl
theorem agg135 : aggB Try.prog 135 = false := by kernel_rfl
theorem cells135 : Try.prog.cellsOf 135 = 1 := by kernel_rfl
theorem tyOk136 : tyOk Try.prog 136 = true := by kernel_rfl
theorem agg136 : aggB Try.prog 136 = true := by kernel_rfl
theorem cells136 : Try.prog.cellsOf 136 = 4 := by kernel_rfl
theorem zero136 : zeroA Try.prog 136 = some [.sc (.pointer none), .sc (.pointer none), .sc (.pointer none), .sc (.string ByteArray.empty)] := by kernel_rfl
theorem tyOk137 : tyOk Try.prog 137 = true := by kernel_rfl
theorem agg137 : aggB Try.prog 137 = true := by kernel_rfl
theorem cells137 : Try.prog.cellsOf 137 = 4 := by kernel_rfl
theorem zero137 : zeroA Try.prog 137 = some [.sc (.pointer none), .sc (.pointer none), .sc (.pointer none), .sc (.string ByteArray.empty)] := by kernel_rfl
theorem tyOk138 : tyOk Try.prog 138 = true := by kernel_rfl
theorem agg138 : aggB Try.prog 138 = true := by kernel_rfl
theorem cells138 : Try.prog.cellsOf 138 = 0 := by kernel_rfl
theorem zero138 : zeroA Try.prog 138 = some [] := by kernel_rfl
theorem tyOk139 : tyOk Try.prog 139 = true := by kernel_rfl
theorem agg139 : aggB Try.prog 139 = true := by kernel_rfl
theorem cells139 : Try.prog.cellsOf 139 = 0 := by kernel_rfl
theorem zero139 : zeroA Try.prog 139 = some [] := by kernel_rfl
theorem tyOk140 : tyOk Try.prog 140 = true := by kernel_rfl
theorem agg140 : aggB Try.prog 140 = true := by kernel_rfl
theorem cells140 : Try.prog.cellsOf 140 = 0 := by kernel_rfl
theorem zero140 : zeroA Try.prog 140 = some [] := by kernel_rfl
theorem tyOk141 : tyOk Try.prog 141 = true := by kernel_rfl
theorem agg141 : aggB Try.prog 141 = false := by kernel_rfl
theorem cells141 : Try.prog.cellsOf 141 = 1 := by kernel_rfl
theorem isU141 : isU8 Try.prog 141 = true := by kernel_rfl
theorem zero141 : zeroA Try.prog 141 = some [.sc (.int .u8 0)] := by kernel_rfl
theorem info141 : (Try.prog.info? 141).map (·.bytes) = some 1 := by kernel_rfl
theorem mk141 (a b : IntKind) (m : Int) (h0 : 0 ≤ m) (h1 : m ≤ 1000000000000) : mkV Try.prog (some (.slice 141)) (.sc (.int a m)) (.sc (.int b m)) = some (ints .u8 (List.replicate m.toNat 0), fun r => .sl r 0 m.toNat 1) := mk_ints .u8 141 a b m _ zero141 info141 cells141 h0 (by omega) (by omega)
theorem bs141_0 : bsV Try.prog (some (.slice 141)) 0 [] = some (ints .u8 [], fun r => .sl r 0 0 1) := bs_ints .u8 141 0 [] zero141 tyOk141 cells141 (by decide) (by simp)
theorem bs141_1 (a0 : Int) : bsV Try.prog (some (.slice 141)) 1 [(0, .sc (.int .u8 a0))] = some (ints .u8 [a0], fun r => .sl r 0 1 1) := bs_ints .u8 141 1 [(0, a0)] zero141 tyOk141 cells141 (by decide) (by simp)
theorem bs141_2 (a0 a1 : Int) : bsV Try.prog (some (.slice 141)) 2 [(0, .sc (.int .u8 a0)), (1, .sc (.int .u8 a1))] = some (ints .u8 [a0, a1], fun r => .sl r 0 2 1) := bs_ints .u8 141 2 [(0, a0), (1, a1)] zero141 tyOk141 cells141 (by decide) (by simp)
theorem bs141_3 (a0 a1 a2 : Int) : bsV Try.prog (some (.slice 141)) 3 [(0, .sc (.int .u8 a0)), (1, .sc (.int .u8 a1)), (2, .sc (.int .u8 a2))] = some (ints .u8 [a0, a1, a2], fun r => .sl r 0 3 1) := bs_ints .u8 141 3 [(0, a0), (1, a1), (2, a2)] zero141 tyOk141 cells141 (by decide) (by simp)
theorem bs141_4 (a0 a1 a2 a3 : Int) : bsV Try.prog (some (.slice 141)) 4 [(0, .sc (.int .u8 a0)), (1, .sc (.int .u8 a1)), (2, .sc (.int .u8 a2)), (3, .sc (.int .u8 a3))] = some (ints .u8 [a0, a1, a2, a3], fun r => .sl r 0 4 1) := bs_ints .u8 141 4 [(0, a0), (1, a1), (2, a2), (3, a3)] zero141 tyOk141 cells141 (by decide) (by simp)
theorem bs141_5 (a0 a1 a2 a3 a4 : Int) : bsV Try.prog (some (.slice 141)) 5 [(0, .sc (.int .u8 a0)), (1, .sc (.int .u8 a1)), (2, .sc (.int .u8 a2)), (3, .sc (.int .u8 a3)), (4, .sc (.int .u8 a4))] = some (ints .u8 [a0, a1, a2, a3, a4], fun r => .sl r 0 5 1) := bs_ints .u8 141 5 [(0, a0), (1, a1), (2, a2), (3, a3), (4, a4)] zero141 tyOk141 cells141 (by decide) (by simp)
theorem bs141_6 (a0 a1 a2 a3 a4 a5 : Int) : bsV Try.prog (some (.slice 141)) 6 [(0, .sc (.int .u8 a0)), (1, .sc (.int .u8 a1)), (2, .sc (.int .u8 a2)), (3, .sc (.int .u8 a3)), (4, .sc (.int .u8 a4)), (5, .sc (.int .u8 a5))] = some (ints .u8 [a0, a1, a2, a3, a4, a5], fun r => .sl r 0 6 1) := bs_ints .u8 141 6 [(0, a0), (1, a1), (2, a2), (3, a3), (4, a4), (5, a5)] zero141 tyOk141 cells141 (by decide) (by simp)
theorem bs141_7 (a0 a1 a2 a3 a4 a5 a6 : Int) : bsV Try.prog (some (.slice 141)) 7 [(0, .sc (.int .u8 a0)), (1, .sc (.int .u8 a1)), (2, .sc (.int .u8 a2)), (3, .sc (.int .u8 a3)), (4, .sc (.int .u8 a4)), (5, .sc (.int .u8 a5)), (6, .sc (.int .u8 a6))] = some (ints .u8 [a0, a1, a2, a3, a4, a5, a6], fun r => .sl r 0 7 1) := bs_ints .u8 141 7 [(0, a0), (1, a1), (2, a2), (3, a3), (4, a4), (5, a5), (6, a6)] zero141 tyOk141 cells141 (by decide) (by simp)
theorem bs141_8 (a0 a1 a2 a3 a4 a5 a6 a7 : Int) : bsV Try.prog (some (.slice 141)) 8 [(0, .sc (.int .u8 a0)), (1, .sc (.int .u8 a1)), (2, .sc (.int .u8 a2)), (3, .sc (.int .u8 a3)), (4, .sc (.int .u8 a4)), (5, .sc (.int .u8 a5)), (6, .sc (.int .u8 a6)), (7, .sc (.int .u8 a7))] = some (ints .u8 [a0, a1, a2, a3, a4, a5, a6, a7], fun r => .sl r 0 8 1) := bs_ints .u8 141 8 [(0, a0), (1, a1), (2, a2), (3, a3), (4, a4), (5, a5), (6, a6), (7, a7)] zero141 tyOk141 cells141 (by decide) (by simp)
theorem bs141_10 (a0 a1 a2 a3 a4 a5 a6 a7 a8 a9 : Int) : bsV Try.prog (some (.slice 141)) 10 [(0, .sc (.int .u8 a0)), (1, .sc (.int .u8 a1)), (2, .sc (.int .u8 a2)), (3, .sc (.int .u8 a3)), (4, .sc (.int .u8 a4)), (5, .sc (.int .u8 a5)), (6, .sc (.int .u8 a6)), (7, .sc (.int .u8 a7)), (8, .sc (.int .u8 a8)), (9, .sc (.int .u8 a9))] = some (ints .u8 [a0, a1, a2, a3, a4, a5, a6, a7, a8, a9], fun r => .sl r 0 10 1) := bs_ints .u8 141 10 [(0, a0), (1, a1), (2, a2), (3, a3), (4, a4), (5, a5), (6, a6), (7, a7), (8, a8), (9, a9)] zero141 tyOk141 cells141 (by decide) (by simp)
theorem bs141_11 (a0 a1 a2 a3 a4 a5 a6 a7 a8 a9 a10 : Int) : bsV Try.prog (some (.slice 141)) 11 [(0, .sc (.int .u8 a0)), (1, .sc (.int .u8 a1)), (2, .sc (.int .u8 a2)), (3, .sc (.int .u8 a3)), (4, .sc (.int .u8 a4)), (5, .sc (.int .u8 a5)), (6, .sc (.int .u8 a6)), (7, .sc (.int .u8 a7)), (8, .sc (.int .u8 a8)), (9, .sc (.int .u8 a9)), (10, .sc (.int .u8 a10))] = some (ints .u8 [a0, a1, a2, a3, a4, a5, a6, a7, a8, a9, a10], fun r => .sl r 0 11 1) := bs_ints .u8 141 11 [(0, a0), (1, a1), (2, a2), (3, a3), (4, a4), (5, a5), (6, a6), (7, a7), (8, a8), (9, a9), (10, a10)] zero141 tyOk141 cells141 (by decide) (by simp)
theorem bs141_12 (a0 a1 a2 a3 a4 a5 a6 a7 a8 a9 a10 a11 : Int) : bsV Try.prog (some (.slice 141)) 12 [(0, .sc (.int .u8 a0)), (1, .sc (.int .u8 a1)), (2, .sc (.int .u8 a2)), (3, .sc (.int .u8 a3)), (4, .sc (.int .u8 a4)), (5, .sc (.int .u8 a5)), (6, .sc (.int .u8 a6)), (7, .sc (.int .u8 a7)), (8, .sc (.int .u8 a8)), (9, .sc (.int .u8 a9)), (10, .sc (.int .u8 a10)), (11, .sc (.int .u8 a11))] = some (ints .u8 [a0, a1, a2, a3, a4, a5, a6, a7, a8, a9, a10, a11], fun r => .sl r 0 12 1) := bs_ints .u8 141 12 [(0, a0), (1, a1), (2, a2), (3, a3), (4, a4), (5, a5), (6, a6), (7, a7), (8, a8), (9, a9), (10, a10), (11, a11)] zero141 tyOk141 cells141 (by decide) (by simp)
theorem bs141_13 (a0 a1 a2 a3 a4 a5 a6 a7 a8 a9 a10 a11 a12 : Int) : bsV Try.prog (some (.slice 141)) 13 [(0, .sc (.int .u8 a0)), (1, .sc (.int .u8 a1)), (2, .sc (.int .u8 a2)), (3, .sc (.int .u8 a3)), (4, .sc (.int .u8 a4)), (5, .sc (.int .u8 a5)), (6, .sc (.int .u8 a6)), (7, .sc (.int .u8 a7)), (8, .sc (.int .u8 a8)), (9, .sc (.int .u8 a9)), (10, .sc (.int .u8 a10)), (11, .sc (.int .u8 a11)), (12, .sc (.int .u8 a12))] = some (ints .u8 [a0, a1, a2, a3, a4, a5, a6, a7, a8, a9, a10, a11, a12], fun r => .sl r 0 13 1) := bs_ints .u8 141 13 [(0, a0), (1, a1), (2, a2), (3, a3), (4, a4), (5, a5), (6, a6), (7, a7), (8, a8), (9, a9), (10, a10), (11, a11), (12, a12)] zero141 tyOk141 cells141 (by decide) (by simp)
theorem tyOk142 : tyOk Try.prog 142 = true := by kernel_rfl
theorem agg142 : aggB Try.prog 142 = false := by kernel_rfl
theorem cells142 : Try.prog.cellsOf 142 = 1 := by kernel_rfl
theorem isU142 : isU8 Try.prog 142 = true := by kernel_rfl
theorem zero142 : zeroA Try.prog 142 = some [.sc (.int .u8 0)] := by kernel_rfl
theorem info142 : (Try.prog.info? 142).map (·.bytes) = some 1 := by kernel_rfl
theorem mk142 (a b : IntKind) (m : Int) (h0 : 0 ≤ m) (h1 : m ≤ 1000000000000) : mkV Try.prog (some (.slice 142)) (.sc (.int a m)) (.sc (.int b m)) = some (ints .u8 (List.replicate m.toNat 0), fun r => .sl r 0 m.toNat 1) := mk_ints .u8 142 a b m _ zero142 info142 cells142 h0 (by omega) (by omega)
theorem bs142_0 : bsV Try.prog (some (.slice 142)) 0 [] = some (ints .u8 [], fun r => .sl r 0 0 1) := bs_ints .u8 142 0 [] zero142 tyOk142 cells142 (by decide) (by simp)
theorem bs142_1 (a0 : Int) : bsV Try.prog (some (.slice 142)) 1 [(0, .sc (.int .u8 a0))] = some (ints .u8 [a0], fun r => .sl r 0 1 1) := bs_ints .u8 142 1 [(0, a0)] zero142 tyOk142 cells142 (by decide) (by simp)
theorem bs142_2 (a0 a1 : Int) : bsV Try.prog (some (.slice 142)) 2 [(0, .sc (.int .u8 a0)), (1, .sc (.int .u8 a1))] = some (ints .u8 [a0, a1], fun r => .sl r 0 2 1) := bs_ints .u8 142 2 [(0, a0), (1, a1)] zero142 tyOk142 cells142 (by decide) (by simp)
theorem bs142_3 (a0 a1 a2 : Int) : bsV Try.prog (some (.slice 142)) 3 [(0, .sc (.int .u8 a0)), (1, .sc (.int .u8 a1)), (2, .sc (.int .u8 a2))] = some (ints .u8 [a0, a1, a2], fun r => .sl r 0 3 1) := bs_ints .u8 142 3 [(0, a0), (1, a1), (2, a2)] zero142 tyOk142 cells142 (by decide) (by simp)
theorem bs142_4 (a0 a1 a2 a3 : Int) : bsV Try.prog (some (.slice 142)) 4 [(0, .sc (.int .u8 a0)), (1, .sc (.int .u8 a1)), (2, .sc (.int .u8 a2)), (3, .sc (.int .u8 a3))] = some (ints .u8 [a0, a1, a2, a3], fun r => .sl r 0 4 1) := bs_ints .u8 142 4 [(0, a0), (1, a1), (2, a2), (3, a3)] zero142 tyOk142 cells142 (by decide) (by simp)
theorem bs142_5 (a0 a1 a2 a3 a4 : Int) : bsV Try.prog (some (.slice 142)) 5 [(0, .sc (.int .u8 a0)), (1, .sc (.int .u8 a1)), (2, .sc (.int .u8 a2)), (3, .sc (.int .u8 a3)), (4, .sc (.int .u8 a4))] = some (ints .u8 [a0, a1, a2, a3, a4], fun r => .sl r 0 5 1) := bs_ints .u8 142 5 [(0, a0), (1, a1), (2, a2), (3, a3), (4, a4)] zero142 tyOk142 cells142 (by decide) (by simp)
theorem bs142_6 (a0 a1 a2 a3 a4 a5 : Int) : bsV Try.prog (some (.slice 142)) 6 [(0, .sc (.int .u8 a0)), (1, .sc (.int .u8 a1)), (2, .sc (.int .u8 a2)), (3, .sc (.int .u8 a3)), (4, .sc (.int .u8 a4)), (5, .sc (.int .u8 a5))] = some (ints .u8 [a0, a1, a2, a3, a4, a5], fun r => .sl r 0 6 1) := bs_ints .u8 142 6 [(0, a0), (1, a1), (2, a2), (3, a3), (4, a4), (5, a5)] zero142 tyOk142 cells142 (by decide) (by simp)
theorem bs142_7 (a0 a1 a2 a3 a4 a5 a6 : Int) : bsV Try.prog (some (.slice 142)) 7 [(0, .sc (.int .u8 a0)), (1, .sc (.int .u8 a1)), (2, .sc (.int .u8 a2)), (3, .sc (.int .u8 a3)), (4, .sc (.int .u8 a4)), (5, .sc (.int .u8 a5)), (6, .sc (.int .u8 a6))] = some (ints .u8 [a0, a1, a2, a3, a4, a5, a6], fun r => .sl r 0 7 1) := bs_ints .u8 142 7 [(0, a0), (1, a1), (2, a2), (3, a3), (4, a4), (5, a5), (6, a6)] zero142 tyOk142 cells142 (by decide) (by simp)
theorem bs142_8 (a0 a1 a2 a3 a4 a5 a6 a7 : Int) : bsV Try.prog (some (.slice 142)) 8 [(0, .sc (.int .u8 a0)), (1, .sc (.int .u8 a1)), (2, .sc (.int .u8 a2)), (3, .sc (.int .u8 a3)), (4, .sc (.int .u8 a4)), (5, .sc (.int .u8 a5)), (6, .sc (.int .u8 a6)), (7, .sc (.int .u8 a7))] = some (ints .u8 [a0, a1, a2, a3, a4, a5, a6, a7], fun r => .sl r 0 8 1) := bs_ints .u8 142 8 [(0, a0), (1, a1), (2, a2), (3, a3), (4, a4), (5, a5), (6, a6), (7, a7)] zero142 tyOk142 cells142 (by decide) (by simp)
theorem bs142_10 (a0 a1 a2 a3 a4 a5 a6 a7 a8 a9 : Int) : bsV Try.prog (some (.slice 142)) 10 [(0, .sc (.int .u8 a0)), (1, .sc (.int .u8 a1)), (2, .sc (.int .u8 a2)), (3, .sc (.int .u8 a3)), (4, .sc (.int .u8 a4)), (5, .sc (.int .u8 a5)), (6, .sc (.int .u8 a6)), (7, .sc (.int .u8 a7)), (8, .sc (.int .u8 a8)), (9, .sc (.int .u8 a9))] = some (ints .u8 [a0, a1, a2, a3, a4, a5, a6, a7, a8, a9], fun r => .sl r 0 10 1) := bs_ints .u8 142 10 [(0, a0), (1, a1), (2, a2), (3, a3), (4, a4), (5, a5), (6, a6), (7, a7), (8, a8), (9, a9)] zero142 tyOk142 cells142 (by decide) (by simp)
theorem bs142_11 (a0 a1 a2 a3 a4 a5 a6 a7 a8 a9 a10 : Int) : bsV Try.prog (some (.slice 142)) 11 [(0, .sc (.int .u8 a0)), (1, .sc (.int .u8 a1)), (2, .sc (.int .u8 a2)), (3, .sc (.int .u8 a3)), (4, .sc (.int .u8 a4)), (5, .sc (.int .u8 a5)), (6, .sc (.int .u8 a6)), (7, .sc (.int .u8 a7)), (8, .sc (.int .u8 a8)), (9, .sc (.int .u8 a9)), (10, .sc (.int .u8 a10))] = some (ints .u8 [a0, a1, a2, a3, a4, a5, a6, a7, a8, a9, a10], fun r => .sl r 0 11 1) := bs_ints .u8 142 11 [(0, a0), (1, a1), (2, a2), (3, a3), (4, a4), (5, a5), (6, a6), (7, a7), (8, a8), (9, a9), (10, a10)] zero142 tyOk142 cells142 (by decide) (by simp)
theorem bs142_12 (a0 a1 a2 a3 a4 a5 a6 a7 a8 a9 a10 a11 : Int) : bsV Try.prog (some (.slice 142)) 12 [(0, .sc (.int .u8 a0)), (1, .sc (.int .u8 a1)), (2, .sc (.int .u8 a2)), (3, .sc (.int .u8 a3)), (4, .sc (.int .u8 a4)), (5, .sc (.int .u8 a5)), (6, .sc (.int .u8 a6)), (7, .sc (.int .u8 a7)), (8, .sc (.int .u8 a8)), (9, .sc (.int .u8 a9)), (10, .sc (.int .u8 a10)), (11, .sc (.int .u8 a11))] = some (ints .u8 [a0, a1, a2, a3, a4, a5, a6, a7, a8, a9, a10, a11], fun r => .sl r 0 12 1) := bs_ints .u8 142 12 [(0, a0), (1, a1), (2, a2), (3, a3), (4, a4), (5, a5), (6, a6), (7, a7), (8, a8), (9, a9), (10, a10), (11, a11)] zero142 tyOk142 cells142 (by decide) (by simp)
theorem bs142_13 (a0 a1 a2 a3 a4 a5 a6 a7 a8 a9 a10 a11 a12 : Int) : bsV Try.prog (some (.slice 142)) 13 [(0, .sc (.int .u8 a0)), (1, .sc (.int .u8 a1)), (2, .sc (.int .u8 a2)), (3, .sc (.int .u8 a3)), (4, .sc (.int .u8 a4)), (5, .sc (.int .u8 a5)), (6, .sc (.int .u8 a6)), (7, .sc (.int .u8 a7)), (8, .sc (.int .u8 a8)), (9, .sc (.int .u8 a9)), (10, .sc (.int .u8 a10)), (11, .sc (.int .u8 a11)), (12, .sc (.int .u8 a12))] = some (ints .u8 [a0, a1, a2, a3, a4, a5, a6, a7, a8, a9, a10, a11, a12], fun r => .sl r 0 13 1) := bs_ints .u8 142 13 [(0, a0), (1, a1), (2, a2), (3, a3), (4, a4), (5, a5), (6, a6), (7, a7), (8, a8), (9, a9), (10, a10), (11, a11), (12, a12)] zero142 tyOk142 cells142 (by decide) (by simp)
theorem tyOk143 : tyOk Try.prog 143 = true := by kernel_rfl
theorem agg143 : aggB Try.prog 143 = false := by kernel_rfl
theorem cells143 : Try.prog.cellsOf 143 = 1 := by kernel_rfl
theorem tyOk144 : tyOk Try.prog 144 = true := by kernel_rfl
theorem agg144 : aggB Try.prog 144 = false := by kernel_rfl
theorem cells144 : Try.prog.cellsOf 144 = 1 := by kernel_rfl
theorem zero144 : zeroA Try.prog 144 = some [.sc (.int .i32 0)] := by kernel_rfl
theorem info144 : (Try.prog.info? 144).map (·.bytes) = some 4 := by kernel_rfl
theorem mk144 (a b : IntKind) (m : Int) (h0 : 0 ≤ m) (h1 : m ≤ 1000000000000) : mkV Try.prog (some (.slice 144)) (.sc (.int a m)) (.sc (.int b m)) = some (ints .i32 (List.replicate m.toNat 0), fun r => .sl r 0 m.toNat 1) := mk_ints .i32 144 a b m _ zero144 info144 cells144 h0 (by omega) (by omega)
theorem bs144_0 : bsV Try.prog (some (.slice 144)) 0 [] = some (ints .i32 [], fun r => .sl r 0 0 1) := bs_ints .i32 144 0 [] zero144 tyOk144 cells144 (by decide) (by simp)
theorem bs144_1 (a0 : Int) : bsV Try.prog (some (.slice 144)) 1 [(0, .sc (.int .i32 a0))] = some (ints .i32 [a0], fun r => .sl r 0 1 1) := bs_ints .i32 144 1 [(0, a0)] zero144 tyOk144 cells144 (by decide) (by simp)
theorem bs144_2 (a0 a1 : Int) : bsV Try.prog (some (.slice 144)) 2 [(0, .sc (.int .i32 a0)), (1, .sc (.int .i32 a1))] = some (ints .i32 [a0, a1], fun r => .sl r 0 2 1) := bs_ints .i32 144 2 [(0, a0), (1, a1)] zero144 tyOk144 cells144 (by decide) (by simp)
theorem bs144_3 (a0 a1 a2 : Int) : bsV Try.prog (some (.slice 144)) 3 [(0, .sc (.int .i32 a0)), (1, .sc (.int .i32 a1)), (2, .sc (.int .i32 a2))] = some (ints .i32 [a0, a1, a2], fun r => .sl r 0 3 1) := bs_ints .i32 144 3 [(0, a0), (1, a1), (2, a2)] zero144 tyOk144 cells144 (by decide) (by simp)
theorem bs144_4 (a0 a1 a2 a3 : Int) : bsV Try.prog (some (.slice 144)) 4 [(0, .sc (.int .i32 a0)), (1, .sc (.int .i32 a1)), (2, .sc (.int .i32 a2)), (3, .sc (.int .i32 a3))] = some (ints .i32 [a0, a1, a2, a3], fun r => .sl r 0 4 1) := bs_ints .i32 144 4 [(0, a0), (1, a1), (2, a2), (3, a3)] zero144 tyOk144 cells144 (by decide) (by simp)
theorem bs144_5 (a0 a1 a2 a3 a4 : Int) : bsV Try.prog (some (.slice 144)) 5 [(0, .sc (.int .i32 a0)), (1, .sc (.int .i32 a1)), (2, .sc (.int .i32 a2)), (3, .sc (.int .i32 a3)), (4, .sc (.int .i32 a4))] = some (ints .i32 [a0, a1, a2, a3, a4], fun r => .sl r 0 5 1) := bs_ints .i32 144 5 [(0, a0), (1, a1), (2, a2), (3, a3), (4, a4)] zero144 tyOk144 cells144 (by decide) (by simp)
theorem bs144_6 (a0 a1 a2 a3 a4 a5 : Int) : bsV Try.prog (some (.slice 144)) 6 [(0, .sc (.int .i32 a0)), (1, .sc (.int .i32 a1)), (2, .sc (.int .i32 a2)), (3, .sc (.int .i32 a3)), (4, .sc (.int .i32 a4)), (5, .sc (.int .i32 a5))] = some (ints .i32 [a0, a1, a2, a3, a4, a5], fun r => .sl r 0 6 1) := bs_ints .i32 144 6 [(0, a0), (1, a1), (2, a2), (3, a3), (4, a4), (5, a5)] zero144 tyOk144 cells144 (by decide) (by simp)
theorem bs144_7 (a0 a1 a2 a3 a4 a5 a6 : Int) : bsV Try.prog (some (.slice 144)) 7 [(0, .sc (.int .i32 a0)), (1, .sc (.int .i32 a1)), (2, .sc (.int .i32 a2)), (3, .sc (.int .i32 a3)), (4, .sc (.int .i32 a4)), (5, .sc (.int .i32 a5)), (6, .sc (.int .i32 a6))] = some (ints .i32 [a0, a1, a2, a3, a4, a5, a6], fun r => .sl r 0 7 1) := bs_ints .i32 144 7 [(0, a0), (1, a1), (2, a2), (3, a3), (4, a4), (5, a5), (6, a6)] zero144 tyOk144 cells144 (by decide) (by simp)
theorem bs144_8 (a0 a1 a2 a3 a4 a5 a6 a7 : Int) : bsV Try.prog (some (.slice 144)) 8 [(0, .sc (.int .i32 a0)), (1, .sc (.int .i32 a1)), (2, .sc (.int .i32 a2)), (3, .sc (.int .i32 a3)), (4, .sc (.int .i32 a4)), (5, .sc (.int .i32 a5)), (6, .sc (.int .i32 a6)), (7, .sc (.int .i32 a7))] = some (ints .i32 [a0, a1, a2, a3, a4, a5, a6, a7], fun r => .sl r 0 8 1) := bs_ints .i32 144 8 [(0, a0), (1, a1), (2, a2), (3, a3), (4, a4), (5, a5), (6, a6), (7, a7)] zero144 tyOk144 cells144 (by decide) (by simp)
theorem bs144_10 (a0 a1 a2 a3 a4 a5 a6 a7 a8 a9 : Int) : bsV Try.prog (some (.slice 144)) 10 [(0, .sc (.int .i32 a0)), (1, .sc (.int .i32 a1)), (2, .sc (.int .i32 a2)), (3, .sc (.int .i32 a3)), (4, .sc (.int .i32 a4)), (5, .sc (.int .i32 a5)), (6, .sc (.int .i32 a6)), (7, .sc (.int .i32 a7)), (8, .sc (.int .i32 a8)), (9, .sc (.int .i32 a9))] = some (ints .i32 [a0, a1, a2, a3, a4, a5, a6, a7, a8, a9], fun r => .sl r 0 10 1) := bs_ints .i32 144 10 [(0, a0), (1, a1), (2, a2), (3, a3), (4, a4), (5, a5), (6, a6), (7, a7), (8, a8), (9, a9)] zero144 tyOk144 cells144 (by decide) (by simp)
theorem bs144_11 (a0 a1 a2 a3 a4 a5 a6 a7 a8 a9 a10 : Int) : bsV Try.prog (some (.slice 144)) 11 [(0, .sc (.int .i32 a0)), (1, .sc (.int .i32 a1)), (2, .sc (.int .i32 a2)), (3, .sc (.int .i32 a3)), (4, .sc (.int .i32 a4)), (5, .sc (.int .i32 a5)), (6, .sc (.int .i32 a6)), (7, .sc (.int .i32 a7)), (8, .sc (.int .i32 a8)), (9, .sc (.int .i32 a9)), (10, .sc (.int .i32 a10))] = some (ints .i32 [a0, a1, a2, a3, a4, a5, a6, a7, a8, a9, a10], fun r => .sl r 0 11 1) := bs_ints .i32 144 11 [(0, a0), (1, a1), (2, a2), (3, a3), (4, a4), (5, a5), (6, a6), (7, a7), (8, a8), (9, a9), (10, a10)] zero144 tyOk144 cells144 (by decide) (by simp)
theorem bs144_12 (a0 a1 a2 a3 a4 a5 a6 a7 a8 a9 a10 a11 : Int) : bsV Try.prog (some (.slice 144)) 12 [(0, .sc (.int .i32 a0)), (1, .sc (.int .i32 a1)), (2, .sc (.int .i32 a2)), (3, .sc (.int .i32 a3)), (4, .sc (.int .i32 a4)), (5, .sc (.int .i32 a5)), (6, .sc (.int .i32 a6)), (7, .sc (.int .i32 a7)), (8, .sc (.int .i32 a8)), (9, .sc (.int .i32 a9)), (10, .sc (.int .i32 a10)), (11, .sc (.int .i32 a11))] = some (ints .i32 [a0, a1, a2, a3, a4, a5, a6, a7, a8, a9, a10, a11], fun r => .sl r 0 12 1) := bs_ints .i32 144 12 [(0, a0), (1, a1), (2, a2), (3, a3), (4, a4), (5, a5), (6, a6), (7, a7), (8, a8), (9, a9), (10, a10), (11, a11)] zero144 tyOk144 cells144 (by decide) (by simp)
theorem bs144_13 (a0 a1 a2 a3 a4 a5 a6 a7 a8 a9 a10 a11 a12 : Int) : bsV Try.prog (some (.slice 144)) 13 [(0, .sc (.int .i32 a0)), (1, .sc (.int .i32 a1)), (2, .sc (.int .i32 a2)), (3, .sc (.int .i32 a3)), (4, .sc (.int .i32 a4)), (5, .sc (.int .i32 a5)), (6, .sc (.int .i32 a6)), (7, .sc (.int .i32 a7)), (8, .sc (.int .i32 a8)), (9, .sc (.int .i32 a9)), (10, .sc (.int .i32 a10)), (11, .sc (.int .i32 a11)), (12, .sc (.int .i32 a12))] = some (ints .i32 [a0, a1, a2, a3, a4, a5, a6, a7, a8, a9, a10, a11, a12], fun r => .sl r 0 13 1) := bs_ints .i32 144 13 [(0, a0), (1, a1), (2, a2), (3, a3), (4, a4), (5, a5), (6, a6), (7, a7), (8, a8), (9, a9), (10, a10), (11, a11), (12, a12)] zero144 tyOk144 cells144 (by decide) (by simp)
theorem tyOk145 : tyOk Try.prog 145 = true := by kernel_rfl
theorem agg145 : aggB Try.prog 145 = false := by kernel_rfl
theorem cells145 : Try.prog.cellsOf 145 = 1 := by kernel_rfl
theorem zero145 : zeroA Try.prog 145 = some [.sc (.int .i32 0)] := by kernel_rfl
theorem info145 : (Try.prog.info? 145).map (·.bytes) = some 4 := by kernel_rfl
theorem mk145 (a b : IntKind) (m : Int) (h0 : 0 ≤ m) (h1 : m ≤ 1000000000000) : mkV Try.prog (some (.slice 145)) (.sc (.int a m)) (.sc (.int b m)) = some (ints .i32 (List.replicate m.toNat 0), fun r => .sl r 0 m.toNat 1) := mk_ints .i32 145 a b m _ zero145 info145 cells145 h0 (by omega) (by omega)
theorem bs145_0 : bsV Try.prog (some (.slice 145)) 0 [] = some (ints .i32 [], fun r => .sl r 0 0 1) := bs_ints .i32 145 0 [] zero145 tyOk145 cells145 (by decide) (by simp)
theorem bs145_1 (a0 : Int) : bsV Try.prog (some (.slice 145)) 1 [(0, .sc (.int .i32 a0))] = some (ints .i32 [a0], fun r => .sl r 0 1 1) := bs_ints .i32 145 1 [(0, a0)] zero145 tyOk145 cells145 (by decide) (by simp)
theorem bs145_2 (a0 a1 : Int) : bsV Try.prog (some (.slice 145)) 2 [(0, .sc (.int .i32 a0)), (1, .sc (.int .i32 a1))] = some (ints .i32 [a0, a1], fun r => .sl r 0 2 1) := bs_ints .i32 145 2 [(0, a0), (1, a1)] zero145 tyOk145 cells145 (by decide) (by simp)
theorem bs145_3 (a0 a1 a2 : Int) : bsV Try.prog (some (.slice 145)) 3 [(0, .sc (.int .i32 a0)), (1, .sc (.int .i32 a1)), (2, .sc (.int .i32 a2))] = some (ints .i32 [a0, a1, a2], fun r => .sl r 0 3 1) := bs_ints .i32 145 3 [(0, a0), (1, a1), (2, a2)] zero145 tyOk145 cells145 (by decide) (by simp)
theorem bs145_4 (a0 a1 a2 a3 : Int) : bsV Try.prog (some (.slice 145)) 4 [(0, .sc (.int .i32 a0)), (1, .sc (.int .i32 a1)), (2, .sc (.int .i32 a2)), (3, .sc (.int .i32 a3))] = some (ints .i32 [a0, a1, a2, a3], fun r => .sl r 0 4 1) := bs_ints .i32 145 4 [(0, a0), (1, a1), (2, a2), (3, a3)] zero145 tyOk145 cells145 (by decide) (by simp)
theorem bs145_5 (a0 a1 a2 a3 a4 : Int) : bsV Try.prog (some (.slice 145)) 5 [(0, .sc (.int .i32 a0)), (1, .sc (.int .i32 a1)), (2, .sc (.int .i32 a2)), (3, .sc (.int .i32 a3)), (4, .sc (.int .i32 a4))] = some (ints .i32 [a0, a1, a2, a3, a4], fun r => .sl r 0 5 1) := bs_ints .i32 145 5 [(0, a0), (1, a1), (2, a2), (3, a3), (4, a4)] zero145 tyOk145 cells145 (by decide) (by simp)
theorem bs145_6 (a0 a1 a2 a3 a4 a5 : Int) : bsV Try.prog (some (.slice 145)) 6 [(0, .sc (.int .i32 a0)), (1, .sc (.int .i32 a1)), (2, .sc (.int .i32 a2)), (3, .sc (.int .i32 a3)), (4, .sc (.int .i32 a4)), (5, .sc (.int .i32 a5))] = some (ints .i32 [a0, a1, a2, a3, a4, a5], fun r => .sl r 0 6 1) := bs_ints .i32 145 6 [(0, a0), (1, a1), (2, a2), (3, a3), (4, a4), (5, a5)] zero145 tyOk145 cells145 (by decide) (by simp)
theorem bs145_7 (a0 a1 a2 a3 a4 a5 a6 : Int) : bsV Try.prog (some (.slice 145)) 7 [(0, .sc (.int .i32 a0)), (1, .sc (.int .i32 a1)), (2, .sc (.int .i32 a2)), (3, .sc (.int .i32 a3)), (4, .sc (.int .i32 a4)), (5, .sc (.int .i32 a5)), (6, .sc (.int .i32 a6))] = some (ints .i32 [a0, a1, a2, a3, a4, a5, a6], fun r => .sl r 0 7 1) := bs_ints .i32 145 7 [(0, a0), (1, a1), (2, a2), (3, a3), (4, a4), (5, a5), (6, a6)] zero145 tyOk145 cells145 (by decide) (by simp)
theorem bs145_8 (a0 a1 a2 a3 a4 a5 a6 a7 : Int) : bsV Try.prog (some (.slice 145)) 8 [(0, .sc (.int .i32 a0)), (1, .sc (.int .i32 a1)), (2, .sc (.int .i32 a2)), (3, .sc (.int .i32 a3)), (4, .sc (.int .i32 a4)), (5, .sc (.int .i32 a5)), (6, .sc (.int .i32 a6)), (7, .sc (.int .i32 a7))] = some (ints .i32 [a0, a1, a2, a3, a4, a5, a6, a7], fun r => .sl r 0 8 1) := bs_ints .i32 145 8 [(0, a0), (1, a1), (2, a2), (3, a3), (4, a4), (5, a5), (6, a6), (7, a7)] zero145 tyOk145 cells145 (by decide) (by simp)
theorem bs145_10 (a0 a1 a2 a3 a4 a5 a6 a7 a8 a9 : Int) : bsV Try.prog (some (.slice 145)) 10 [(0, .sc (.int .i32 a0)), (1, .sc (.int .i32 a1)), (2, .sc (.int .i32 a2)), (3, .sc (.int .i32 a3)), (4, .sc (.int .i32 a4)), (5, .sc (.int .i32 a5)), (6, .sc (.int .i32 a6)), (7, .sc (.int .i32 a7)), (8, .sc (.int .i32 a8)), (9, .sc (.int .i32 a9))] = some (ints .i32 [a0, a1, a2, a3, a4, a5, a6, a7, a8, a9], fun r => .sl r 0 10 1) := bs_ints .i32 145 10 [(0, a0), (1, a1), (2, a2), (3, a3), (4, a4), (5, a5), (6, a6), (7, a7), (8, a8), (9, a9)] zero145 tyOk145 cells145 (by decide) (by simp)
theorem bs145_11 (a0 a1 a2 a3 a4 a5 a6 a7 a8 a9 a10 : Int) : bsV Try.prog (some (.slice 145)) 11 [(0, .sc (.int .i32 a0)), (1, .sc (.int .i32 a1)), (2, .sc (.int .i32 a2)), (3, .sc (.int .i32 a3)), (4, .sc (.int .i32 a4)), (5, .sc (.int .i32 a5)), (6, .sc (.int .i32 a6)), (7, .sc (.int .i32 a7)), (8, .sc (.int .i32 a8)), (9, .sc (.int .i32 a9)), (10, .sc (.int .i32 a10))] = some (ints .i32 [a0, a1, a2, a3, a4, a5, a6, a7, a8, a9, a10], fun r => .sl r 0 11 1) := bs_ints .i32 145 11 [(0, a0), (1, a1), (2, a2), (3, a3), (4, a4), (5, a5), (6, a6), (7, a7), (8, a8), (9, a9), (10, a10)] zero145 tyOk145 cells145 (by decide) (by simp)
theorem bs145_12 (a0 a1 a2 a3 a4 a5 a6 a7 a8 a9 a10 a11 : Int) : bsV Try.prog (some (.slice 145)) 12 [(0, .sc (.int .i32 a0)), (1, .sc (.int .i32 a1)), (2, .sc (.int .i32 a2)), (3, .sc (.int .i32 a3)), (4, .sc (.int .i32 a4)), (5, .sc (.int .i32 a5)), (6, .sc (.int .i32 a6)), (7, .sc (.int .i32 a7)), (8, .sc (.int .i32 a8)), (9, .sc (.int .i32 a9)), (10, .sc (.int .i32 a10)), (11, .sc (.int .i32 a11))] = some (ints .i32 [a0, a1, a2, a3, a4, a5, a6, a7, a8, a9, a10, a11], fun r => .sl r 0 12 1) := bs_ints .i32 145 12 [(0, a0), (1, a1), (2, a2), (3, a3), (4, a4), (5, a5), (6, a6), (7, a7), (8, a8), (9, a9), (10, a10), (11, a11)] zero145 tyOk145 cells145 (by decide) (by simp)
theorem bs145_13 (a0 a1 a2 a3 a4 a5 a6 a7 a8 a9 a10 a11 a12 : Int) : bsV Try.prog (some (.slice 145)) 13 [(0, .sc (.int .i32 a0)), (1, .sc (.int .i32 a1)), (2, .sc (.int .i32 a2)), (3, .sc (.int .i32 a3)), (4, .sc (.int .i32 a4)), (5, .sc (.int .i32 a5)), (6, .sc (.int .i32 a6)), (7, .sc (.int .i32 a7)), (8, .sc (.int .i32 a8)), (9, .sc (.int .i32 a9)), (10, .sc (.int .i32 a10)), (11, .sc (.int .i32 a11)), (12, .sc (.int .i32 a12))] = some (ints .i32 [a0, a1, a2, a3, a4, a5, a6, a7, a8, a9, a10, a11, a12], fun r => .sl r 0 13 1) := bs_ints .i32 145 13 [(0, a0), (1, a1), (2, a2), (3, a3), (4, a4), (5, a5), (6, a6), (7, a7), (8, a8), (9, a9), (10, a10), (11, a11), (12, a12)] zero145 tyOk145 cells145 (by decide) (by simp)
theorem tyOk146 : tyOk Try.prog 146 = true := by kernel_rfl
theorem agg146 : aggB Try.prog 146 = true := by kernel_rfl
theorem cells146 : Try.prog.cellsOf 146 = 11 := by kernel_rfl
theorem tyOk147 : tyOk Try.prog 147 = true := by kernel_rfl
theorem agg147 : aggB Try.prog 147 = true := by kernel_rfl
theorem cells147 : Try.prog.cellsOf 147 = 11 := by kernel_rfl
theorem apS26 (r len : Nat) (x : AV) (H : AHeap) : apV Try.prog (some (.slice 3)) (some (.slice 3)) (.sl r 0 len 1) x H = apT 8 H r len H[r]? (srcCells H x 1) := ap_sl zero3 info3 cells3 rfl r len x
theorem apN26 (x : AV) (H : AHeap) : apV Try.prog (some (.slice 3)) (some (.slice 3)) (.sc (.slice none 0 0)) x H = apN 8 H (srcCells H x 1) := ap_nil zero3 info3 cells3 rfl x
theorem apS52 (r len : Nat) (x : AV) (H : AHeap) : apV Try.prog (some (.slice 4)) (some (.slice 4)) (.sl r 0 len 1) x H = apT 1 H r len H[r]? (srcCells H x 1) := ap_sl zero4 info4 cells4 rfl r len x
theorem apN52 (x : AV) (H : AHeap) : apV Try.prog (some (.slice 4)) (some (.slice 4)) (.sc (.slice none 0 0)) x H = apN 1 H (srcCells H x 1) := ap_nil zero4 info4 cells4 rfl x
theorem apS22 (r len : Nat) (x : AV) (H : AHeap) : apV Try.prog (some (.slice 5)) (some (.slice 5)) (.sl r 0 len 1) x H = apT 1 H r len H[r]? (srcCells H x 1) := ap_sl zero5 info5 cells5 rfl r len x
theorem apN22 (x : AV) (H : AHeap) : apV Try.prog (some (.slice 5)) (some (.slice 5)) (.sc (.slice none 0 0)) x H = apN 1 H (srcCells H x 1) := ap_nil zero5 info5 cells5 rfl x
theorem apStr22 (r len : Nat) (x : AV) (H : AHeap) : apV Try.prog (some (.slice 5)) (some .string) (.sl r 0 len 1) x H = apT 1 H r len H[r]? (srcCells H x 1) := ap_sl zero5 info5 cells5 rfl r len x
theorem apS125 (r len : Nat) (x : AV) (H : AHeap) : apV Try.prog (some (.slice 9)) (some (.slice 9)) (.sl r 0 len 1) x H = apT 16 H r len H[r]? (srcCells H x 1) := ap_sl zero9 info9 cells9 rfl r len x
theorem apN125 (x : AV) (H : AHeap) : apV Try.prog (some (.slice 9)) (some (.slice 9)) (.sc (.slice none 0 0)) x H = apN 16 H (srcCells H x 1) := ap_nil zero9 info9 cells9 rfl x
theorem fadr7_0 (r off : Nat) : fadrT Try.prog 7 (.ptr r off) 0 = some (.ptr r (off + 0)) := fadr_st Try.underlying7 rfl tyOk2 (by rw [cells2]; decide) r off
theorem fld7_0 (cs : List AV) : fldT Try.prog 7 (.agg cs) 0 = cs[0]? := fld_one Try.underlying7 rfl tyOk2 agg2 cs
theorem fadr7_1 (r off : Nat) : fadrT Try.prog 7 (.ptr r off) 1 = some (.ptr r (off + 1)) := fadr_st Try.underlying7 rfl tyOk3 (by rw [cells3]; decide) r off
theorem fld7_1 (cs : List AV) : fldT Try.prog 7 (.agg cs) 1 = cs[1]? := fld_one Try.underlying7 rfl tyOk3 agg3 cs
theorem fadr7_2 (r off : Nat) : fadrT Try.prog 7 (.ptr r off) 2 = some (.ptr r (off + 2)) := fadr_st Try.underlying7 rfl tyOk4 (by rw [cells4]; decide) r off
theorem fld7_2 (cs : List AV) : fldT Try.prog 7 (.agg cs) 2 = cs[2]? := fld_one Try.underlying7 rfl tyOk4 agg4 cs
theorem fadr7_3 (r off : Nat) : fadrT Try.prog 7 (.ptr r off) 3 = some (.ptr r (off + 3)) := fadr_st Try.underlying7 rfl tyOk6 (by rw [cells6]; decide) r off
theorem fld7_3 (cs : List AV) : fldT Try.prog 7 (.agg cs) 3 = cs[3]? := fld_one Try.underlying7 rfl tyOk6 agg6 cs
theorem bz7 : buildV Try.prog 7 [] = some (.agg [.sc (.int .i64 0), .sc (.int .i64 0), .sc (.bool false), .sc (.int .u8 0)]) := by simp [buildV, Try.underlying7, zero7, fillA, tyOk2, cells2, tyOk3, cells3, tyOk4, cells4, tyOk6, cells6]
theorem bds7 (v0 v1 v2 v3 : AV) (hv0 : v0.cells = [v0]) (hv1 : v1.cells = [v1]) (hv2 : v2.cells = [v2]) (hv3 : v3.cells = [v3]) : buildV Try.prog 7 [(0, v0), (1, v1), (2, v2), (3, v3)] = some (.agg [v0, v1, v2, v3]) := by simp [buildV, Try.underlying7, zero7, fillA, placeS, overA, tyOk2, cells2, tyOk3, cells3, tyOk4, cells4, tyOk6, cells6, hv0, hv1, hv2, hv3]
theorem fadr8_0 (r off : Nat) : fadrT Try.prog 8 (.ptr r off) 0 = some (.ptr r (off + 0)) := fadr_st Try.underlying8 rfl tyOk2 (by rw [cells2]; decide) r off
theorem fld8_0 (cs : List AV) : fldT Try.prog 8 (.agg cs) 0 = cs[0]? := fld_one Try.underlying8 rfl tyOk2 agg2 cs
theorem fadr8_1 (r off : Nat) : fadrT Try.prog 8 (.ptr r off) 1 = some (.ptr r (off + 1)) := fadr_st Try.underlying8 rfl tyOk3 (by rw [cells3]; decide) r off
theorem fld8_1 (cs : List AV) : fldT Try.prog 8 (.agg cs) 1 = cs[1]? := fld_one Try.underlying8 rfl tyOk3 agg3 cs
theorem fadr8_2 (r off : Nat) : fadrT Try.prog 8 (.ptr r off) 2 = some (.ptr r (off + 2)) := fadr_st Try.underlying8 rfl tyOk4 (by rw [cells4]; decide) r off
theorem fld8_2 (cs : List AV) : fldT Try.prog 8 (.agg cs) 2 = cs[2]? := fld_one Try.underlying8 rfl tyOk4 agg4 cs
theorem fadr8_3 (r off : Nat) : fadrT Try.prog 8 (.ptr r off) 3 = some (.ptr r (off + 3)) := fadr_st Try.underlying8 rfl tyOk6 (by rw [cells6]; decide) r off
theorem fld8_3 (cs : List AV) : fldT Try.prog 8 (.agg cs) 3 = cs[3]? := fld_one Try.underlying8 rfl tyOk6 agg6 cs
theorem bz8 : buildV Try.prog 8 [] = some (.agg [.sc (.int .i64 0), .sc (.int .i64 0), .sc (.bool false), .sc (.int .u8 0)]) := by simp [buildV, Try.underlying8, zero8, fillA, tyOk2, cells2, tyOk3, cells3, tyOk4, cells4, tyOk6, cells6]
theorem bds8 (v0 v1 v2 v3 : AV) (hv0 : v0.cells = [v0]) (hv1 : v1.cells = [v1]) (hv2 : v2.cells = [v2]) (hv3 : v3.cells = [v3]) : buildV Try.prog 8 [(0, v0), (1, v1), (2, v2), (3, v3)] = some (.agg [v0, v1, v2, v3]) := by simp [buildV, Try.underlying8, zero8, fillA, placeS, overA, tyOk2, cells2, tyOk3, cells3, tyOk4, cells4, tyOk6, cells6, hv0, hv1, hv2, hv3]
theorem fadr13_0 (r off : Nat) : fadrT Try.prog 13 (.ptr r off) 0 = some (.ptr r (off + 0)) := fadr_st Try.underlying13 rfl tyOk9 (by rw [cells9]; decide) r off
theorem fld13_0 (cs : List AV) : fldT Try.prog 13 (.agg cs) 0 = cs[0]? := fld_one Try.underlying13 rfl tyOk9 agg9 cs
theorem fadr13_1 (r off : Nat) : fadrT Try.prog 13 (.ptr r off) 1 = some (.ptr r (off + 1)) := fadr_st Try.underlying13 rfl tyOk12 (by rw [cells12]; decide) r off
theorem fld13_1 (cs : List AV) : fldT Try.prog 13 (.agg cs) 1 = cs[1]? := fld_one Try.underlying13 rfl tyOk12 agg12 cs
theorem bz13 : buildV Try.prog 13 [] = some (.agg [.sc (.string ByteArray.empty), .sc (.int .u64 0)]) := by simp [buildV, Try.underlying13, zero13, fillA, tyOk9, cells9, tyOk12, cells12]
theorem bds13 (v0 v1 : AV) (hv0 : v0.cells = [v0]) (hv1 : v1.cells = [v1]) : buildV Try.prog 13 [(0, v0), (1, v1)] = some (.agg [v0, v1]) := by simp [buildV, Try.underlying13, zero13, fillA, placeS, overA, tyOk9, cells9, tyOk12, cells12, hv0, hv1]
theorem fadr14_0 (r off : Nat) : fadrT Try.prog 14 (.ptr r off) 0 = some (.ptr r (off + 0)) := fadr_st Try.underlying14 rfl tyOk9 (by rw [cells9]; decide) r off
theorem fld14_0 (cs : List AV) : fldT Try.prog 14 (.agg cs) 0 = cs[0]? := fld_one Try.underlying14 rfl tyOk9 agg9 cs
theorem fadr14_1 (r off : Nat) : fadrT Try.prog 14 (.ptr r off) 1 = some (.ptr r (off + 1)) := fadr_st Try.underlying14 rfl tyOk12 (by rw [cells12]; decide) r off
theorem fld14_1 (cs : List AV) : fldT Try.prog 14 (.agg cs) 1 = cs[1]? := fld_one Try.underlying14 rfl tyOk12 agg12 cs
theorem bz14 : buildV Try.prog 14 [] = some (.agg [.sc (.string ByteArray.empty), .sc (.int .u64 0)]) := by simp [buildV, Try.underlying14, zero14, fillA, tyOk9, cells9, tyOk12, cells12]
theorem bds14 (v0 v1 : AV) (hv0 : v0.cells = [v0]) (hv1 : v1.cells = [v1]) : buildV Try.prog 14 [(0, v0), (1, v1)] = some (.agg [v0, v1]) := by simp [buildV, Try.underlying14, zero14, fillA, placeS, overA, tyOk9, cells9, tyOk12, cells12, hv0, hv1]
theorem fadr18_0 (r off : Nat) : fadrT Try.prog 18 (.ptr r off) 0 = some (.ptr r (off + 0)) := fadr_st Try.underlying18 rfl tyOk17 (by rw [cells17]; decide) r off
theorem fld18_0 (cs : List AV) : fldT Try.prog 18 (.agg cs) 0 = cs[0]? := fld_one Try.underlying18 rfl tyOk17 agg17 cs
theorem bz18 : buildV Try.prog 18 [] = some (.agg [.sc (.pointer none)]) := by simp [buildV, Try.underlying18, zero18, fillA, tyOk17, cells17]
theorem bds18 (v0 : AV) (hv0 : v0.cells = [v0]) : buildV Try.prog 18 [(0, v0)] = some (.agg [v0]) := by simp [buildV, Try.underlying18, zero18, fillA, placeS, overA, tyOk17, cells17, hv0]
theorem fadr19_0 (r off : Nat) : fadrT Try.prog 19 (.ptr r off) 0 = some (.ptr r (off + 0)) := fadr_st Try.underlying19 rfl tyOk17 (by rw [cells17]; decide) r off
theorem fld19_0 (cs : List AV) : fldT Try.prog 19 (.agg cs) 0 = cs[0]? := fld_one Try.underlying19 rfl tyOk17 agg17 cs
theorem bz19 : buildV Try.prog 19 [] = some (.agg [.sc (.pointer none)]) := by simp [buildV, Try.underlying19, zero19, fillA, tyOk17, cells17]
theorem bds19 (v0 : AV) (hv0 : v0.cells = [v0]) : buildV Try.prog 19 [(0, v0)] = some (.agg [v0]) := by simp [buildV, Try.underlying19, zero19, fillA, placeS, overA, tyOk17, cells17, hv0]
theorem fadr53_0 (r off : Nat) : fadrT Try.prog 53 (.ptr r off) 0 = some (.ptr r (off + 0)) := fadr_st Try.underlying53 rfl tyOk3 (by rw [cells3]; decide) r off
theorem fld53_0 (cs : List AV) : fldT Try.prog 53 (.agg cs) 0 = cs[0]? := fld_one Try.underlying53 rfl tyOk3 agg3 cs
theorem fadr53_1 (r off : Nat) : fadrT Try.prog 53 (.ptr r off) 1 = some (.ptr r (off + 1)) := fadr_st Try.underlying53 rfl tyOk3 (by rw [cells3]; decide) r off
theorem fld53_1 (cs : List AV) : fldT Try.prog 53 (.agg cs) 1 = cs[1]? := fld_one Try.underlying53 rfl tyOk3 agg3 cs
theorem fadr53_2 (r off : Nat) : fadrT Try.prog 53 (.ptr r off) 2 = some (.ptr r (off + 2)) := fadr_st Try.underlying53 rfl tyOk9 (by rw [cells9]; decide) r off
theorem fld53_2 (cs : List AV) : fldT Try.prog 53 (.agg cs) 2 = cs[2]? := fld_one Try.underlying53 rfl tyOk9 agg9 cs
theorem fadr53_3 (r off : Nat) : fadrT Try.prog 53 (.ptr r off) 3 = some (.ptr r (off + 3)) := fadr_st Try.underlying53 rfl tyOk52 (by rw [cells52]; decide) r off
theorem fld53_3 (cs : List AV) : fldT Try.prog 53 (.agg cs) 3 = cs[3]? := fld_one Try.underlying53 rfl tyOk52 agg52 cs
theorem bz53 : buildV Try.prog 53 [] = some (.agg [.sc (.int .i64 0), .sc (.int .i64 0), .sc (.string ByteArray.empty), .sc (.slice none 0 0)]) := by simp [buildV, Try.underlying53, zero53, fillA, tyOk3, cells3, tyOk3, cells3, tyOk9, cells9, tyOk52, cells52]
theorem bds53 (v0 v1 v2 v3 : AV) (hv0 : v0.cells = [v0]) (hv1 : v1.cells = [v1]) (hv2 : v2.cells = [v2]) (hv3 : v3.cells = [v3]) : buildV Try.prog 53 [(0, v0), (1, v1), (2, v2), (3, v3)] = some (.agg [v0, v1, v2, v3]) := by simp [buildV, Try.underlying53, zero53, fillA, placeS, overA, tyOk3, cells3, tyOk3, cells3, tyOk9, cells9, tyOk52, cells52, hv0, hv1, hv2, hv3]
theorem fadr54_0 (r off : Nat) : fadrT Try.prog 54 (.ptr r off) 0 = some (.ptr r (off + 0)) := fadr_st Try.underlying54 rfl tyOk3 (by rw [cells3]; decide) r off
theorem fld54_0 (cs : List AV) : fldT Try.prog 54 (.agg cs) 0 = cs[0]? := fld_one Try.underlying54 rfl tyOk3 agg3 cs
theorem fadr54_1 (r off : Nat) : fadrT Try.prog 54 (.ptr r off) 1 = some (.ptr r (off + 1)) := fadr_st Try.underlying54 rfl tyOk3 (by rw [cells3]; decide) r off
theorem fld54_1 (cs : List AV) : fldT Try.prog 54 (.agg cs) 1 = cs[1]? := fld_one Try.underlying54 rfl tyOk3 agg3 cs
theorem fadr54_2 (r off : Nat) : fadrT Try.prog 54 (.ptr r off) 2 = some (.ptr r (off + 2)) := fadr_st Try.underlying54 rfl tyOk9 (by rw [cells9]; decide) r off
theorem fld54_2 (cs : List AV) : fldT Try.prog 54 (.agg cs) 2 = cs[2]? := fld_one Try.underlying54 rfl tyOk9 agg9 cs
theorem fadr54_3 (r off : Nat) : fadrT Try.prog 54 (.ptr r off) 3 = some (.ptr r (off + 3)) := fadr_st Try.underlying54 rfl tyOk52 (by rw [cells52]; decide) r off
theorem fld54_3 (cs : List AV) : fldT Try.prog 54 (.agg cs) 3 = cs[3]? := fld_one Try.underlying54 rfl tyOk52 agg52 cs
theorem bz54 : buildV Try.prog 54 [] = some (.agg [.sc (.int .i64 0), .sc (.int .i64 0), .sc (.string ByteArray.empty), .sc (.slice none 0 0)]) := by simp [buildV, Try.underlying54, zero54, fillA, tyOk3, cells3, tyOk3, cells3, tyOk9, cells9, tyOk52, cells52]
theorem bds54 (v0 v1 v2 v3 : AV) (hv0 : v0.cells = [v0]) (hv1 : v1.cells = [v1]) (hv2 : v2.cells = [v2]) (hv3 : v3.cells = [v3]) : buildV Try.prog 54 [(0, v0), (1, v1), (2, v2), (3, v3)] = some (.agg [v0, v1, v2, v3]) := by simp [buildV, Try.underlying54, zero54, fillA, placeS, overA, tyOk3, cells3, tyOk3, cells3, tyOk9, cells9, tyOk52, cells52, hv0, hv1, hv2, hv3]
theorem fadr57_0 (r off : Nat) : fadrT Try.prog 57 (.ptr r off) 0 = some (.ptr r (off + 0)) := fadr_st Try.underlying57 rfl tyOk3 (by rw [cells3]; decide) r off
theorem fld57_0 (cs : List AV) : fldT Try.prog 57 (.agg cs) 0 = cs[0]? := fld_one Try.underlying57 rfl tyOk3 agg3 cs
theorem fadr57_1 (r off : Nat) : fadrT Try.prog 57 (.ptr r off) 1 = some (.ptr r (off + 1)) := fadr_st Try.underlying57 rfl tyOk3 (by rw [cells3]; decide) r off
theorem fld57_1 (cs : List AV) : fldT Try.prog 57 (.agg cs) 1 = cs[1]? := fld_one Try.underlying57 rfl tyOk3 agg3 cs
theorem fadr57_2 (r off : Nat) : fadrT Try.prog 57 (.ptr r off) 2 = some (.ptr r (off + 2)) := fadr_st Try.underlying57 rfl tyOk3 (by rw [cells3]; decide) r off
theorem fld57_2 (cs : List AV) : fldT Try.prog 57 (.agg cs) 2 = cs[2]? := fld_one Try.underlying57 rfl tyOk3 agg3 cs
theorem fadr57_3 (r off : Nat) : fadrT Try.prog 57 (.ptr r off) 3 = some (.ptr r (off + 3)) := fadr_st Try.underlying57 rfl tyOk9 (by rw [cells9]; decide) r off
theorem fld57_3 (cs : List AV) : fldT Try.prog 57 (.agg cs) 3 = cs[3]? := fld_one Try.underlying57 rfl tyOk9 agg9 cs
theorem bz57 : buildV Try.prog 57 [] = some (.agg [.sc (.int .i64 0), .sc (.int .i64 0), .sc (.int .i64 0), .sc (.string ByteArray.empty)]) := by simp [buildV, Try.underlying57, zero57, fillA, tyOk3, cells3, tyOk3, cells3, tyOk3, cells3, tyOk9, cells9]
theorem bds57 (v0 v1 v2 v3 : AV) (hv0 : v0.cells = [v0]) (hv1 : v1.cells = [v1]) (hv2 : v2.cells = [v2]) (hv3 : v3.cells = [v3]) : buildV Try.prog 57 [(0, v0), (1, v1), (2, v2), (3, v3)] = some (.agg [v0, v1, v2, v3]) := by simp [buildV, Try.underlying57, zero57, fillA, placeS, overA, tyOk3, cells3, tyOk3, cells3, tyOk3, cells3, tyOk9, cells9, hv0, hv1, hv2, hv3]
theorem apS49 (r len : Nat) (x : AV) (H : AHeap) : apV Try.prog (some (.slice 58)) (some (.slice 58)) (.sl r 0 len 4) x H = apR 4 40 H r len H[r]? (srcCells H x 4) := ap_slR zero58 rfl (by decide) info58 cells58 rfl r len x
theorem apN49 (x : AV) (H : AHeap) : apV Try.prog (some (.slice 58)) (some (.slice 58)) (.sc (.slice none 0 0)) x H = apRN 4 40 H (srcCells H x 4) := ap_nilR zero58 rfl (by decide) info58 cells58 rfl x
theorem bs58_1 (cs : List AV) (h : cs.length = 4) : bsV Try.prog (some (.slice 58)) 1 [(0, .agg cs)] = some (cs, fun r => .sl r 0 1 4) := bs_row 58 _ cs zero58 tyOk58 cells58 (by decide) (by decide) rfl h
theorem bs58_0 : bsV Try.prog (some (.slice 58)) 0 [] = some ([], fun r => .sl r 0 0 4) := bs_none 58 _ zero58 tyOk58 cells58 (by decide) rfl
theorem fadr58_0 (r off : Nat) : fadrT Try.prog 58 (.ptr r off) 0 = some (.ptr r (off + 0)) := fadr_st Try.underlying58 rfl tyOk3 (by rw [cells3]; decide) r off
theorem fld58_0 (cs : List AV) : fldT Try.prog 58 (.agg cs) 0 = cs[0]? := fld_one Try.underlying58 rfl tyOk3 agg3 cs
theorem fadr58_1 (r off : Nat) : fadrT Try.prog 58 (.ptr r off) 1 = some (.ptr r (off + 1)) := fadr_st Try.underlying58 rfl tyOk3 (by rw [cells3]; decide) r off
theorem fld58_1 (cs : List AV) : fldT Try.prog 58 (.agg cs) 1 = cs[1]? := fld_one Try.underlying58 rfl tyOk3 agg3 cs
theorem fadr58_2 (r off : Nat) : fadrT Try.prog 58 (.ptr r off) 2 = some (.ptr r (off + 2)) := fadr_st Try.underlying58 rfl tyOk3 (by rw [cells3]; decide) r off
theorem fld58_2 (cs : List AV) : fldT Try.prog 58 (.agg cs) 2 = cs[2]? := fld_one Try.underlying58 rfl tyOk3 agg3 cs
theorem fadr58_3 (r off : Nat) : fadrT Try.prog 58 (.ptr r off) 3 = some (.ptr r (off + 3)) := fadr_st Try.underlying58 rfl tyOk9 (by rw [cells9]; decide) r off
theorem fld58_3 (cs : List AV) : fldT Try.prog 58 (.agg cs) 3 = cs[3]? := fld_one Try.underlying58 rfl tyOk9 agg9 cs
theorem bz58 : buildV Try.prog 58 [] = some (.agg [.sc (.int .i64 0), .sc (.int .i64 0), .sc (.int .i64 0), .sc (.string ByteArray.empty)]) := by simp [buildV, Try.underlying58, zero58, fillA, tyOk3, cells3, tyOk3, cells3, tyOk3, cells3, tyOk9, cells9]
theorem bds58 (v0 v1 v2 v3 : AV) (hv0 : v0.cells = [v0]) (hv1 : v1.cells = [v1]) (hv2 : v2.cells = [v2]) (hv3 : v3.cells = [v3]) : buildV Try.prog 58 [(0, v0), (1, v1), (2, v2), (3, v3)] = some (.agg [v0, v1, v2, v3]) := by simp [buildV, Try.underlying58, zero58, fillA, placeS, overA, tyOk3, cells3, tyOk3, cells3, tyOk3, cells3, tyOk9, cells9, hv0, hv1, hv2, hv3]
theorem ix78 (l : List Int) (j : IntKind) (i : Int) (h : l.length = 64) : idxV Try.prog (some (.array 64 3)) (.agg (ints .i64 l)) (.sc (.int j i)) = if 0 ≤ i ∧ i < 64 then some (.sc (.int .i64 (l.getD i.toNat 0))) else none := idx_arr 3 64 .i64 l j i agg3 cells3 tyOk3 h
theorem bz78 : buildV Try.prog 78 [] = some (.agg (ints .i64 (List.replicate 64 0))) := bd_ints .i64 78 3 64 [] Try.underlying78 zero78 tyOk3 cells3 (by simp)
theorem ix86 (l : List Int) (j : IntKind) (i : Int) (h : l.length = 8) : idxV Try.prog (some (.array 8 85)) (.agg (ints .u32 l)) (.sc (.int j i)) = if 0 ≤ i ∧ i < 8 then some (.sc (.int .u32 (l.getD i.toNat 0))) else none := idx_arr 85 8 .u32 l j i agg85 cells85 tyOk85 h
theorem bz86 : buildV Try.prog 86 [] = some (.agg (ints .u32 (List.replicate 8 0))) := bd_ints .u32 86 85 8 [] Try.underlying86 zero86 tyOk85 cells85 (by simp)
theorem bd86 (a0 a1 a2 a3 a4 a5 a6 a7 : Int) : buildV Try.prog 86 [(0, .sc (.int .u32 a0)), (1, .sc (.int .u32 a1)), (2, .sc (.int .u32 a2)), (3, .sc (.int .u32 a3)), (4, .sc (.int .u32 a4)), (5, .sc (.int .u32 a5)), (6, .sc (.int .u32 a6)), (7, .sc (.int .u32 a7))] = some (.agg (ints .u32 [a0, a1, a2, a3, a4, a5, a6, a7])) := bd_ints .u32 86 85 8 [(0, a0), (1, a1), (2, a2), (3, a3), (4, a4), (5, a5), (6, a6), (7, a7)] Try.underlying86 zero86 tyOk85 cells85 (by simp)
theorem ix88 (l : List Int) (j : IntKind) (i : Int) (h : l.length = 64) : idxV Try.prog (some (.array 64 85)) (.agg (ints .u32 l)) (.sc (.int j i)) = if 0 ≤ i ∧ i < 64 then some (.sc (.int .u32 (l.getD i.toNat 0))) else none := idx_arr 85 64 .u32 l j i agg85 cells85 tyOk85 h
theorem bz88 : buildV Try.prog 88 [] = some (.agg (ints .u32 (List.replicate 64 0))) := bd_ints .u32 88 85 64 [] Try.underlying88 zero88 tyOk85 cells85 (by simp)
theorem fadr109_0 (r off : Nat) : fadrT Try.prog 109 (.ptr r off) 0 = some (.ptr r (off + 0)) := fadr_st Try.underlying109 rfl tyOk22 (by rw [cells22]; decide) r off
theorem fld109_0 (cs : List AV) : fldT Try.prog 109 (.agg cs) 0 = cs[0]? := fld_one Try.underlying109 rfl tyOk22 agg22 cs
theorem fadr109_1 (r off : Nat) : fadrT Try.prog 109 (.ptr r off) 1 = some (.ptr r (off + 1)) := fadr_st Try.underlying109 rfl tyOk3 (by rw [cells3]; decide) r off
theorem fld109_1 (cs : List AV) : fldT Try.prog 109 (.agg cs) 1 = cs[1]? := fld_one Try.underlying109 rfl tyOk3 agg3 cs
theorem fadr109_2 (r off : Nat) : fadrT Try.prog 109 (.ptr r off) 2 = some (.ptr r (off + 2)) := fadr_st Try.underlying109 rfl tyOk3 (by rw [cells3]; decide) r off
theorem fld109_2 (cs : List AV) : fldT Try.prog 109 (.agg cs) 2 = cs[2]? := fld_one Try.underlying109 rfl tyOk3 agg3 cs
theorem bz109 : buildV Try.prog 109 [] = some (.agg [.sc (.slice none 0 0), .sc (.int .i64 0), .sc (.int .i64 0)]) := by simp [buildV, Try.underlying109, zero109, fillA, tyOk22, cells22, tyOk3, cells3, tyOk3, cells3]
theorem bds109 (v0 v1 v2 : AV) (hv0 : v0.cells = [v0]) (hv1 : v1.cells = [v1]) (hv2 : v2.cells = [v2]) : buildV Try.prog 109 [(0, v0), (1, v1), (2, v2)] = some (.agg [v0, v1, v2]) := by simp [buildV, Try.underlying109, zero109, fillA, placeS, overA, tyOk22, cells22, tyOk3, cells3, tyOk3, cells3, hv0, hv1, hv2]
theorem fadr110_0 (r off : Nat) : fadrT Try.prog 110 (.ptr r off) 0 = some (.ptr r (off + 0)) := fadr_st Try.underlying110 rfl tyOk22 (by rw [cells22]; decide) r off
theorem fld110_0 (cs : List AV) : fldT Try.prog 110 (.agg cs) 0 = cs[0]? := fld_one Try.underlying110 rfl tyOk22 agg22 cs
theorem fadr110_1 (r off : Nat) : fadrT Try.prog 110 (.ptr r off) 1 = some (.ptr r (off + 1)) := fadr_st Try.underlying110 rfl tyOk3 (by rw [cells3]; decide) r off
theorem fld110_1 (cs : List AV) : fldT Try.prog 110 (.agg cs) 1 = cs[1]? := fld_one Try.underlying110 rfl tyOk3 agg3 cs
theorem fadr110_2 (r off : Nat) : fadrT Try.prog 110 (.ptr r off) 2 = some (.ptr r (off + 2)) := fadr_st Try.underlying110 rfl tyOk3 (by rw [cells3]; decide) r off
theorem fld110_2 (cs : List AV) : fldT Try.prog 110 (.agg cs) 2 = cs[2]? := fld_one Try.underlying110 rfl tyOk3 agg3 cs
theorem bz110 : buildV Try.prog 110 [] = some (.agg [.sc (.slice none 0 0), .sc (.int .i64 0), .sc (.int .i64 0)]) := by simp [buildV, Try.underlying110, zero110, fillA, tyOk22, cells22, tyOk3, cells3, tyOk3, cells3]
theorem bds110 (v0 v1 v2 : AV) (hv0 : v0.cells = [v0]) (hv1 : v1.cells = [v1]) (hv2 : v2.cells = [v2]) : buildV Try.prog 110 [(0, v0), (1, v1), (2, v2)] = some (.agg [v0, v1, v2]) := by simp [buildV, Try.underlying110, zero110, fillA, placeS, overA, tyOk22, cells22, tyOk3, cells3, tyOk3, cells3, hv0, hv1, hv2]
theorem fadr114_0 (r off : Nat) : fadrT Try.prog 114 (.ptr r off) 0 = some (.ptr r (off + 0)) := fadr_st Try.underlying114 rfl tyOk113 (by rw [cells113]; decide) r off
theorem fld114_0 (cs : List AV) : fldT Try.prog 114 (.agg cs) 0 = cs[0]? := fld_one Try.underlying114 rfl tyOk113 agg113 cs
theorem fadr114_1 (r off : Nat) : fadrT Try.prog 114 (.ptr r off) 1 = some (.ptr r (off + 1)) := fadr_st Try.underlying114 rfl tyOk22 (by rw [cells22]; decide) r off
theorem fld114_1 (cs : List AV) : fldT Try.prog 114 (.agg cs) 1 = cs[1]? := fld_one Try.underlying114 rfl tyOk22 agg22 cs
theorem bz114 : buildV Try.prog 114 [] = some (.agg [.sc (.pointer none), .sc (.slice none 0 0)]) := by simp [buildV, Try.underlying114, zero114, fillA, tyOk113, cells113, tyOk22, cells22]
theorem bds114 (v0 v1 : AV) (hv0 : v0.cells = [v0]) (hv1 : v1.cells = [v1]) : buildV Try.prog 114 [(0, v0), (1, v1)] = some (.agg [v0, v1]) := by simp [buildV, Try.underlying114, zero114, fillA, placeS, overA, tyOk113, cells113, tyOk22, cells22, hv0, hv1]
theorem fadr115_0 (r off : Nat) : fadrT Try.prog 115 (.ptr r off) 0 = some (.ptr r (off + 0)) := fadr_st Try.underlying115 rfl tyOk113 (by rw [cells113]; decide) r off
theorem fld115_0 (cs : List AV) : fldT Try.prog 115 (.agg cs) 0 = cs[0]? := fld_one Try.underlying115 rfl tyOk113 agg113 cs
theorem fadr115_1 (r off : Nat) : fadrT Try.prog 115 (.ptr r off) 1 = some (.ptr r (off + 1)) := fadr_st Try.underlying115 rfl tyOk22 (by rw [cells22]; decide) r off
theorem fld115_1 (cs : List AV) : fldT Try.prog 115 (.agg cs) 1 = cs[1]? := fld_one Try.underlying115 rfl tyOk22 agg22 cs
theorem bz115 : buildV Try.prog 115 [] = some (.agg [.sc (.pointer none), .sc (.slice none 0 0)]) := by simp [buildV, Try.underlying115, zero115, fillA, tyOk113, cells113, tyOk22, cells22]
theorem bds115 (v0 v1 : AV) (hv0 : v0.cells = [v0]) (hv1 : v1.cells = [v1]) : buildV Try.prog 115 [(0, v0), (1, v1)] = some (.agg [v0, v1]) := by simp [buildV, Try.underlying115, zero115, fillA, placeS, overA, tyOk113, cells113, tyOk22, cells22, hv0, hv1]
theorem fadr136_0 (r off : Nat) : fadrT Try.prog 136 (.ptr r off) 0 = some (.ptr r (off + 0)) := fadr_st Try.underlying136 rfl tyOk17 (by rw [cells17]; decide) r off
theorem fld136_0 (cs : List AV) : fldT Try.prog 136 (.agg cs) 0 = cs[0]? := fld_one Try.underlying136 rfl tyOk17 agg17 cs
theorem fadr136_1 (r off : Nat) : fadrT Try.prog 136 (.ptr r off) 1 = some (.ptr r (off + 1)) := fadr_st Try.underlying136 rfl tyOk17 (by rw [cells17]; decide) r off
theorem fld136_1 (cs : List AV) : fldT Try.prog 136 (.agg cs) 1 = cs[1]? := fld_one Try.underlying136 rfl tyOk17 agg17 cs
theorem fadr136_2 (r off : Nat) : fadrT Try.prog 136 (.ptr r off) 2 = some (.ptr r (off + 2)) := fadr_st Try.underlying136 rfl tyOk17 (by rw [cells17]; decide) r off
theorem fld136_2 (cs : List AV) : fldT Try.prog 136 (.agg cs) 2 = cs[2]? := fld_one Try.underlying136 rfl tyOk17 agg17 cs
theorem fadr136_3 (r off : Nat) : fadrT Try.prog 136 (.ptr r off) 3 = some (.ptr r (off + 3)) := fadr_st Try.underlying136 rfl tyOk9 (by rw [cells9]; decide) r off
theorem fld136_3 (cs : List AV) : fldT Try.prog 136 (.agg cs) 3 = cs[3]? := fld_one Try.underlying136 rfl tyOk9 agg9 cs
theorem bz136 : buildV Try.prog 136 [] = some (.agg [.sc (.pointer none), .sc (.pointer none), .sc (.pointer none), .sc (.string ByteArray.empty)]) := by simp [buildV, Try.underlying136, zero136, fillA, tyOk17, cells17, tyOk17, cells17, tyOk17, cells17, tyOk9, cells9]
theorem bds136 (v0 v1 v2 v3 : AV) (hv0 : v0.cells = [v0]) (hv1 : v1.cells = [v1]) (hv2 : v2.cells = [v2]) (hv3 : v3.cells = [v3]) : buildV Try.prog 136 [(0, v0), (1, v1), (2, v2), (3, v3)] = some (.agg [v0, v1, v2, v3]) := by simp [buildV, Try.underlying136, zero136, fillA, placeS, overA, tyOk17, cells17, tyOk17, cells17, tyOk17, cells17, tyOk9, cells9, hv0, hv1, hv2, hv3]
theorem fadr137_0 (r off : Nat) : fadrT Try.prog 137 (.ptr r off) 0 = some (.ptr r (off + 0)) := fadr_st Try.underlying137 rfl tyOk17 (by rw [cells17]; decide) r off
theorem fld137_0 (cs : List AV) : fldT Try.prog 137 (.agg cs) 0 = cs[0]? := fld_one Try.underlying137 rfl tyOk17 agg17 cs
theorem fadr137_1 (r off : Nat) : fadrT Try.prog 137 (.ptr r off) 1 = some (.ptr r (off + 1)) := fadr_st Try.underlying137 rfl tyOk17 (by rw [cells17]; decide) r off
theorem fld137_1 (cs : List AV) : fldT Try.prog 137 (.agg cs) 1 = cs[1]? := fld_one Try.underlying137 rfl tyOk17 agg17 cs
theorem fadr137_2 (r off : Nat) : fadrT Try.prog 137 (.ptr r off) 2 = some (.ptr r (off + 2)) := fadr_st Try.underlying137 rfl tyOk17 (by rw [cells17]; decide) r off
theorem fld137_2 (cs : List AV) : fldT Try.prog 137 (.agg cs) 2 = cs[2]? := fld_one Try.underlying137 rfl tyOk17 agg17 cs
theorem fadr137_3 (r off : Nat) : fadrT Try.prog 137 (.ptr r off) 3 = some (.ptr r (off + 3)) := fadr_st Try.underlying137 rfl tyOk9 (by rw [cells9]; decide) r off
theorem fld137_3 (cs : List AV) : fldT Try.prog 137 (.agg cs) 3 = cs[3]? := fld_one Try.underlying137 rfl tyOk9 agg9 cs
theorem bz137 : buildV Try.prog 137 [] = some (.agg [.sc (.pointer none), .sc (.pointer none), .sc (.pointer none), .sc (.string ByteArray.empty)]) := by simp [buildV, Try.underlying137, zero137, fillA, tyOk17, cells17, tyOk17, cells17, tyOk17, cells17, tyOk9, cells9]
theorem bds137 (v0 v1 v2 v3 : AV) (hv0 : v0.cells = [v0]) (hv1 : v1.cells = [v1]) (hv2 : v2.cells = [v2]) (hv3 : v3.cells = [v3]) : buildV Try.prog 137 [(0, v0), (1, v1), (2, v2), (3, v3)] = some (.agg [v0, v1, v2, v3]) := by simp [buildV, Try.underlying137, zero137, fillA, placeS, overA, tyOk17, cells17, tyOk17, cells17, tyOk17, cells17, tyOk9, cells9, hv0, hv1, hv2, hv3]
theorem fadr146_0 (r off : Nat) : fadrT Try.prog 146 (.ptr r off) 0 = some (.ptr r (off + 0)) := fadr_st Try.underlying146 rfl tyOk12 (by rw [cells12]; decide) r off
theorem fld146_0 (cs : List AV) : fldT Try.prog 146 (.agg cs) 0 = cs[0]? := fld_one Try.underlying146 rfl tyOk12 agg12 cs
theorem fadr146_1 (r off : Nat) : fadrT Try.prog 146 (.ptr r off) 1 = some (.ptr r (off + 1)) := fadr_st Try.underlying146 rfl tyOk12 (by rw [cells12]; decide) r off
theorem fld146_1 (cs : List AV) : fldT Try.prog 146 (.agg cs) 1 = cs[1]? := fld_one Try.underlying146 rfl tyOk12 agg12 cs
theorem fadr146_2 (r off : Nat) : fadrT Try.prog 146 (.ptr r off) 2 = some (.ptr r (off + 2)) := fadr_st Try.underlying146 rfl tyOk85 (by rw [cells85]; decide) r off
theorem fld146_2 (cs : List AV) : fldT Try.prog 146 (.agg cs) 2 = cs[2]? := fld_one Try.underlying146 rfl tyOk85 agg85 cs
theorem fadr146_3 (r off : Nat) : fadrT Try.prog 146 (.ptr r off) 3 = some (.ptr r (off + 3)) := fadr_st Try.underlying146 rfl tyOk141 (by rw [cells141]; decide) r off
theorem fld146_3 (cs : List AV) : fldT Try.prog 146 (.agg cs) 3 = cs[3]? := fld_one Try.underlying146 rfl tyOk141 agg141 cs
theorem fadr146_4 (r off : Nat) : fadrT Try.prog 146 (.ptr r off) 4 = some (.ptr r (off + 4)) := fadr_st Try.underlying146 rfl tyOk5 (by rw [cells5]; decide) r off
theorem fld146_4 (cs : List AV) : fldT Try.prog 146 (.agg cs) 4 = cs[4]? := fld_one Try.underlying146 rfl tyOk5 agg5 cs
theorem fadr146_5 (r off : Nat) : fadrT Try.prog 146 (.ptr r off) 5 = some (.ptr r (off + 5)) := fadr_st Try.underlying146 rfl tyOk5 (by rw [cells5]; decide) r off
theorem fld146_5 (cs : List AV) : fldT Try.prog 146 (.agg cs) 5 = cs[5]? := fld_one Try.underlying146 rfl tyOk5 agg5 cs
theorem fadr146_6 (r off : Nat) : fadrT Try.prog 146 (.ptr r off) 6 = some (.ptr r (off + 6)) := fadr_st Try.underlying146 rfl tyOk142 (by rw [cells142]; decide) r off
theorem fld146_6 (cs : List AV) : fldT Try.prog 146 (.agg cs) 6 = cs[6]? := fld_one Try.underlying146 rfl tyOk142 agg142 cs
theorem fadr146_7 (r off : Nat) : fadrT Try.prog 146 (.ptr r off) 7 = some (.ptr r (off + 7)) := fadr_st Try.underlying146 rfl tyOk143 (by rw [cells143]; decide) r off
theorem fld146_7 (cs : List AV) : fldT Try.prog 146 (.agg cs) 7 = cs[7]? := fld_one Try.underlying146 rfl tyOk143 agg143 cs
theorem fadr146_8 (r off : Nat) : fadrT Try.prog 146 (.ptr r off) 8 = some (.ptr r (off + 8)) := fadr_st Try.underlying146 rfl tyOk132 (by rw [cells132]; decide) r off
theorem fld146_8 (cs : List AV) : fldT Try.prog 146 (.agg cs) 8 = cs[8]? := fld_one Try.underlying146 rfl tyOk132 agg132 cs
theorem fadr146_9 (r off : Nat) : fadrT Try.prog 146 (.ptr r off) 9 = some (.ptr r (off + 9)) := fadr_st Try.underlying146 rfl tyOk144 (by rw [cells144]; decide) r off
theorem fld146_9 (cs : List AV) : fldT Try.prog 146 (.agg cs) 9 = cs[9]? := fld_one Try.underlying146 rfl tyOk144 agg144 cs
theorem fadr146_10 (r off : Nat) : fadrT Try.prog 146 (.ptr r off) 10 = some (.ptr r (off + 10)) := fadr_st Try.underlying146 rfl tyOk145 (by rw [cells145]; decide) r off
theorem fld146_10 (cs : List AV) : fldT Try.prog 146 (.agg cs) 10 = cs[10]? := fld_one Try.underlying146 rfl tyOk145 agg145 cs
theorem fadr147_0 (r off : Nat) : fadrT Try.prog 147 (.ptr r off) 0 = some (.ptr r (off + 0)) := fadr_st Try.underlying147 rfl tyOk12 (by rw [cells12]; decide) r off
theorem fld147_0 (cs : List AV) : fldT Try.prog 147 (.agg cs) 0 = cs[0]? := fld_one Try.underlying147 rfl tyOk12 agg12 cs
theorem fadr147_1 (r off : Nat) : fadrT Try.prog 147 (.ptr r off) 1 = some (.ptr r (off + 1)) := fadr_st Try.underlying147 rfl tyOk12 (by rw [cells12]; decide) r off
theorem fld147_1 (cs : List AV) : fldT Try.prog 147 (.agg cs) 1 = cs[1]? := fld_one Try.underlying147 rfl tyOk12 agg12 cs
theorem fadr147_2 (r off : Nat) : fadrT Try.prog 147 (.ptr r off) 2 = some (.ptr r (off + 2)) := fadr_st Try.underlying147 rfl tyOk85 (by rw [cells85]; decide) r off
theorem fld147_2 (cs : List AV) : fldT Try.prog 147 (.agg cs) 2 = cs[2]? := fld_one Try.underlying147 rfl tyOk85 agg85 cs
theorem fadr147_3 (r off : Nat) : fadrT Try.prog 147 (.ptr r off) 3 = some (.ptr r (off + 3)) := fadr_st Try.underlying147 rfl tyOk141 (by rw [cells141]; decide) r off
theorem fld147_3 (cs : List AV) : fldT Try.prog 147 (.agg cs) 3 = cs[3]? := fld_one Try.underlying147 rfl tyOk141 agg141 cs
theorem fadr147_4 (r off : Nat) : fadrT Try.prog 147 (.ptr r off) 4 = some (.ptr r (off + 4)) := fadr_st Try.underlying147 rfl tyOk5 (by rw [cells5]; decide) r off
theorem fld147_4 (cs : List AV) : fldT Try.prog 147 (.agg cs) 4 = cs[4]? := fld_one Try.underlying147 rfl tyOk5 agg5 cs
theorem fadr147_5 (r off : Nat) : fadrT Try.prog 147 (.ptr r off) 5 = some (.ptr r (off + 5)) := fadr_st Try.underlying147 rfl tyOk5 (by rw [cells5]; decide) r off
theorem fld147_5 (cs : List AV) : fldT Try.prog 147 (.agg cs) 5 = cs[5]? := fld_one Try.underlying147 rfl tyOk5 agg5 cs
theorem fadr147_6 (r off : Nat) : fadrT Try.prog 147 (.ptr r off) 6 = some (.ptr r (off + 6)) := fadr_st Try.underlying147 rfl tyOk142 (by rw [cells142]; decide) r off
theorem fld147_6 (cs : List AV) : fldT Try.prog 147 (.agg cs) 6 = cs[6]? := fld_one Try.underlying147 rfl tyOk142 agg142 cs
theorem fadr147_7 (r off : Nat) : fadrT Try.prog 147 (.ptr r off) 7 = some (.ptr r (off + 7)) := fadr_st Try.underlying147 rfl tyOk143 (by rw [cells143]; decide) r off
theorem fld147_7 (cs : List AV) : fldT Try.prog 147 (.agg cs) 7 = cs[7]? := fld_one Try.underlying147 rfl tyOk143 agg143 cs
theorem fadr147_8 (r off : Nat) : fadrT Try.prog 147 (.ptr r off) 8 = some (.ptr r (off + 8)) := fadr_st Try.underlying147 rfl tyOk132 (by rw [cells132]; decide) r off
theorem fld147_8 (cs : List AV) : fldT Try.prog 147 (.agg cs) 8 = cs[8]? := fld_one Try.underlying147 rfl tyOk132 agg132 cs
theorem fadr147_9 (r off : Nat) : fadrT Try.prog 147 (.ptr r off) 9 = some (.ptr r (off + 9)) := fadr_st Try.underlying147 rfl tyOk144 (by rw [cells144]; decide) r off
theorem fld147_9 (cs : List AV) : fldT Try.prog 147 (.agg cs) 9 = cs[9]? := fld_one Try.underlying147 rfl tyOk144 agg144 cs
theorem fadr147_10 (r off : Nat) : fadrT Try.prog 147 (.ptr r off) 10 = some (.ptr r (off + 10)) := fadr_st Try.underlying147 rfl tyOk145 (by rw [cells145]; decide) r off
theorem fld147_10 (cs : List AV) : fldT Try.prog 147 (.agg cs) 10 = cs[10]? := fld_one Try.underlying147 rfl tyOk145 agg145 cs
theorem follows : Try.prog.follows .mixedOrders = true := by kernel_rfl
end Go.Proofs.Ytknmbiebnpojjaa.Sim
