/- Facts about the types of the program. -/
import Derived.Test.YtfgmmklljibbiaaDoorS27
import Derived.Test.YtfgmmklljibbiaaDoorProg
namespace Go.Proofs.YtfgmmklljibbiaaDoor.Sim
open Go
set_option linter.unusedSimpArgs false
theorem tyOk0 : tyOk Tryd.prog 0 = true := by kernel_rfl
theorem agg0 : aggB Tryd.prog 0 = false := by kernel_rfl
theorem cells0 : Tryd.prog.cellsOf 0 = 1 := by kernel_rfl
theorem tyOk1 : tyOk Tryd.prog 1 = true := by kernel_rfl
theorem agg1 : aggB Tryd.prog 1 = false := by kernel_rfl
theorem cells1 : Tryd.prog.cellsOf 1 = 1 := by kernel_rfl
theorem tyOk2 : tyOk Tryd.prog 2 = true := by kernel_rfl
theorem agg2 : aggB Tryd.prog 2 = false := by kernel_rfl
theorem cells2 : Tryd.prog.cellsOf 2 = 1 := by kernel_rfl
theorem zero2 : zeroA Tryd.prog 2 = some [.sc (.int .i64 0)] := by kernel_rfl
theorem info2 : (Tryd.prog.info? 2).map (·.bytes) = some 8 := by kernel_rfl
theorem mk2 (a b : IntKind) (m : Int) (h0 : 0 ≤ m) (h1 : m ≤ 1000000000000) : mkV Tryd.prog (some (.slice 2)) (.sc (.int a m)) (.sc (.int b m)) = some (ints .i64 (List.replicate m.toNat 0), fun r => .sl r 0 m.toNat 1) := mk_ints .i64 2 a b m _ zero2 info2 cells2 h0 (by omega) (by omega)
theorem bs2_0 : bsV Tryd.prog (some (.slice 2)) 0 [] = some (ints .i64 [], fun r => .sl r 0 0 1) := bs_ints .i64 2 0 [] zero2 tyOk2 cells2 (by decide) (by simp)
theorem bs2_1 (a0 : Int) : bsV Tryd.prog (some (.slice 2)) 1 [(0, .sc (.int .i64 a0))] = some (ints .i64 [a0], fun r => .sl r 0 1 1) := bs_ints .i64 2 1 [(0, a0)] zero2 tyOk2 cells2 (by decide) (by simp)
theorem bs2_2 (a0 a1 : Int) : bsV Tryd.prog (some (.slice 2)) 2 [(0, .sc (.int .i64 a0)), (1, .sc (.int .i64 a1))] = some (ints .i64 [a0, a1], fun r => .sl r 0 2 1) := bs_ints .i64 2 2 [(0, a0), (1, a1)] zero2 tyOk2 cells2 (by decide) (by simp)
theorem bs2_3 (a0 a1 a2 : Int) : bsV Tryd.prog (some (.slice 2)) 3 [(0, .sc (.int .i64 a0)), (1, .sc (.int .i64 a1)), (2, .sc (.int .i64 a2))] = some (ints .i64 [a0, a1, a2], fun r => .sl r 0 3 1) := bs_ints .i64 2 3 [(0, a0), (1, a1), (2, a2)] zero2 tyOk2 cells2 (by decide) (by simp)
theorem bs2_4 (a0 a1 a2 a3 : Int) : bsV Tryd.prog (some (.slice 2)) 4 [(0, .sc (.int .i64 a0)), (1, .sc (.int .i64 a1)), (2, .sc (.int .i64 a2)), (3, .sc (.int .i64 a3))] = some (ints .i64 [a0, a1, a2, a3], fun r => .sl r 0 4 1) := bs_ints .i64 2 4 [(0, a0), (1, a1), (2, a2), (3, a3)] zero2 tyOk2 cells2 (by decide) (by simp)
theorem bs2_5 (a0 a1 a2 a3 a4 : Int) : bsV Tryd.prog (some (.slice 2)) 5 [(0, .sc (.int .i64 a0)), (1, .sc (.int .i64 a1)), (2, .sc (.int .i64 a2)), (3, .sc (.int .i64 a3)), (4, .sc (.int .i64 a4))] = some (ints .i64 [a0, a1, a2, a3, a4], fun r => .sl r 0 5 1) := bs_ints .i64 2 5 [(0, a0), (1, a1), (2, a2), (3, a3), (4, a4)] zero2 tyOk2 cells2 (by decide) (by simp)
theorem bs2_6 (a0 a1 a2 a3 a4 a5 : Int) : bsV Tryd.prog (some (.slice 2)) 6 [(0, .sc (.int .i64 a0)), (1, .sc (.int .i64 a1)), (2, .sc (.int .i64 a2)), (3, .sc (.int .i64 a3)), (4, .sc (.int .i64 a4)), (5, .sc (.int .i64 a5))] = some (ints .i64 [a0, a1, a2, a3, a4, a5], fun r => .sl r 0 6 1) := bs_ints .i64 2 6 [(0, a0), (1, a1), (2, a2), (3, a3), (4, a4), (5, a5)] zero2 tyOk2 cells2 (by decide) (by simp)
theorem bs2_7 (a0 a1 a2 a3 a4 a5 a6 : Int) : bsV Tryd.prog (some (.slice 2)) 7 [(0, .sc (.int .i64 a0)), (1, .sc (.int .i64 a1)), (2, .sc (.int .i64 a2)), (3, .sc (.int .i64 a3)), (4, .sc (.int .i64 a4)), (5, .sc (.int .i64 a5)), (6, .sc (.int .i64 a6))] = some (ints .i64 [a0, a1, a2, a3, a4, a5, a6], fun r => .sl r 0 7 1) := bs_ints .i64 2 7 [(0, a0), (1, a1), (2, a2), (3, a3), (4, a4), (5, a5), (6, a6)] zero2 tyOk2 cells2 (by decide) (by simp)
theorem bs2_8 (a0 a1 a2 a3 a4 a5 a6 a7 : Int) : bsV Tryd.prog (some (.slice 2)) 8 [(0, .sc (.int .i64 a0)), (1, .sc (.int .i64 a1)), (2, .sc (.int .i64 a2)), (3, .sc (.int .i64 a3)), (4, .sc (.int .i64 a4)), (5, .sc (.int .i64 a5)), (6, .sc (.int .i64 a6)), (7, .sc (.int .i64 a7))] = some (ints .i64 [a0, a1, a2, a3, a4, a5, a6, a7], fun r => .sl r 0 8 1) := bs_ints .i64 2 8 [(0, a0), (1, a1), (2, a2), (3, a3), (4, a4), (5, a5), (6, a6), (7, a7)] zero2 tyOk2 cells2 (by decide) (by simp)
theorem bs2_10 (a0 a1 a2 a3 a4 a5 a6 a7 a8 a9 : Int) : bsV Tryd.prog (some (.slice 2)) 10 [(0, .sc (.int .i64 a0)), (1, .sc (.int .i64 a1)), (2, .sc (.int .i64 a2)), (3, .sc (.int .i64 a3)), (4, .sc (.int .i64 a4)), (5, .sc (.int .i64 a5)), (6, .sc (.int .i64 a6)), (7, .sc (.int .i64 a7)), (8, .sc (.int .i64 a8)), (9, .sc (.int .i64 a9))] = some (ints .i64 [a0, a1, a2, a3, a4, a5, a6, a7, a8, a9], fun r => .sl r 0 10 1) := bs_ints .i64 2 10 [(0, a0), (1, a1), (2, a2), (3, a3), (4, a4), (5, a5), (6, a6), (7, a7), (8, a8), (9, a9)] zero2 tyOk2 cells2 (by decide) (by simp)
theorem bs2_11 (a0 a1 a2 a3 a4 a5 a6 a7 a8 a9 a10 : Int) : bsV Tryd.prog (some (.slice 2)) 11 [(0, .sc (.int .i64 a0)), (1, .sc (.int .i64 a1)), (2, .sc (.int .i64 a2)), (3, .sc (.int .i64 a3)), (4, .sc (.int .i64 a4)), (5, .sc (.int .i64 a5)), (6, .sc (.int .i64 a6)), (7, .sc (.int .i64 a7)), (8, .sc (.int .i64 a8)), (9, .sc (.int .i64 a9)), (10, .sc (.int .i64 a10))] = some (ints .i64 [a0, a1, a2, a3, a4, a5, a6, a7, a8, a9, a10], fun r => .sl r 0 11 1) := bs_ints .i64 2 11 [(0, a0), (1, a1), (2, a2), (3, a3), (4, a4), (5, a5), (6, a6), (7, a7), (8, a8), (9, a9), (10, a10)] zero2 tyOk2 cells2 (by decide) (by simp)
theorem bs2_12 (a0 a1 a2 a3 a4 a5 a6 a7 a8 a9 a10 a11 : Int) : bsV Tryd.prog (some (.slice 2)) 12 [(0, .sc (.int .i64 a0)), (1, .sc (.int .i64 a1)), (2, .sc (.int .i64 a2)), (3, .sc (.int .i64 a3)), (4, .sc (.int .i64 a4)), (5, .sc (.int .i64 a5)), (6, .sc (.int .i64 a6)), (7, .sc (.int .i64 a7)), (8, .sc (.int .i64 a8)), (9, .sc (.int .i64 a9)), (10, .sc (.int .i64 a10)), (11, .sc (.int .i64 a11))] = some (ints .i64 [a0, a1, a2, a3, a4, a5, a6, a7, a8, a9, a10, a11], fun r => .sl r 0 12 1) := bs_ints .i64 2 12 [(0, a0), (1, a1), (2, a2), (3, a3), (4, a4), (5, a5), (6, a6), (7, a7), (8, a8), (9, a9), (10, a10), (11, a11)] zero2 tyOk2 cells2 (by decide) (by simp)
theorem bs2_13 (a0 a1 a2 a3 a4 a5 a6 a7 a8 a9 a10 a11 a12 : Int) : bsV Tryd.prog (some (.slice 2)) 13 [(0, .sc (.int .i64 a0)), (1, .sc (.int .i64 a1)), (2, .sc (.int .i64 a2)), (3, .sc (.int .i64 a3)), (4, .sc (.int .i64 a4)), (5, .sc (.int .i64 a5)), (6, .sc (.int .i64 a6)), (7, .sc (.int .i64 a7)), (8, .sc (.int .i64 a8)), (9, .sc (.int .i64 a9)), (10, .sc (.int .i64 a10)), (11, .sc (.int .i64 a11)), (12, .sc (.int .i64 a12))] = some (ints .i64 [a0, a1, a2, a3, a4, a5, a6, a7, a8, a9, a10, a11, a12], fun r => .sl r 0 13 1) := bs_ints .i64 2 13 [(0, a0), (1, a1), (2, a2), (3, a3), (4, a4), (5, a5), (6, a6), (7, a7), (8, a8), (9, a9), (10, a10), (11, a11), (12, a12)] zero2 tyOk2 cells2 (by decide) (by simp)
theorem tyOk3 : tyOk Tryd.prog 3 = true := by kernel_rfl
theorem agg3 : aggB Tryd.prog 3 = false := by kernel_rfl
theorem cells3 : Tryd.prog.cellsOf 3 = 1 := by kernel_rfl
theorem zero3 : zeroA Tryd.prog 3 = some [.sc (.int .i64 0)] := by kernel_rfl
theorem info3 : (Tryd.prog.info? 3).map (·.bytes) = some 8 := by kernel_rfl
theorem mk3 (a b : IntKind) (m : Int) (h0 : 0 ≤ m) (h1 : m ≤ 1000000000000) : mkV Tryd.prog (some (.slice 3)) (.sc (.int a m)) (.sc (.int b m)) = some (ints .i64 (List.replicate m.toNat 0), fun r => .sl r 0 m.toNat 1) := mk_ints .i64 3 a b m _ zero3 info3 cells3 h0 (by omega) (by omega)
theorem bs3_0 : bsV Tryd.prog (some (.slice 3)) 0 [] = some (ints .i64 [], fun r => .sl r 0 0 1) := bs_ints .i64 3 0 [] zero3 tyOk3 cells3 (by decide) (by simp)
theorem bs3_1 (a0 : Int) : bsV Tryd.prog (some (.slice 3)) 1 [(0, .sc (.int .i64 a0))] = some (ints .i64 [a0], fun r => .sl r 0 1 1) := bs_ints .i64 3 1 [(0, a0)] zero3 tyOk3 cells3 (by decide) (by simp)
theorem bs3_2 (a0 a1 : Int) : bsV Tryd.prog (some (.slice 3)) 2 [(0, .sc (.int .i64 a0)), (1, .sc (.int .i64 a1))] = some (ints .i64 [a0, a1], fun r => .sl r 0 2 1) := bs_ints .i64 3 2 [(0, a0), (1, a1)] zero3 tyOk3 cells3 (by decide) (by simp)
theorem bs3_3 (a0 a1 a2 : Int) : bsV Tryd.prog (some (.slice 3)) 3 [(0, .sc (.int .i64 a0)), (1, .sc (.int .i64 a1)), (2, .sc (.int .i64 a2))] = some (ints .i64 [a0, a1, a2], fun r => .sl r 0 3 1) := bs_ints .i64 3 3 [(0, a0), (1, a1), (2, a2)] zero3 tyOk3 cells3 (by decide) (by simp)
theorem bs3_4 (a0 a1 a2 a3 : Int) : bsV Tryd.prog (some (.slice 3)) 4 [(0, .sc (.int .i64 a0)), (1, .sc (.int .i64 a1)), (2, .sc (.int .i64 a2)), (3, .sc (.int .i64 a3))] = some (ints .i64 [a0, a1, a2, a3], fun r => .sl r 0 4 1) := bs_ints .i64 3 4 [(0, a0), (1, a1), (2, a2), (3, a3)] zero3 tyOk3 cells3 (by decide) (by simp)
theorem bs3_5 (a0 a1 a2 a3 a4 : Int) : bsV Tryd.prog (some (.slice 3)) 5 [(0, .sc (.int .i64 a0)), (1, .sc (.int .i64 a1)), (2, .sc (.int .i64 a2)), (3, .sc (.int .i64 a3)), (4, .sc (.int .i64 a4))] = some (ints .i64 [a0, a1, a2, a3, a4], fun r => .sl r 0 5 1) := bs_ints .i64 3 5 [(0, a0), (1, a1), (2, a2), (3, a3), (4, a4)] zero3 tyOk3 cells3 (by decide) (by simp)
theorem bs3_6 (a0 a1 a2 a3 a4 a5 : Int) : bsV Tryd.prog (some (.slice 3)) 6 [(0, .sc (.int .i64 a0)), (1, .sc (.int .i64 a1)), (2, .sc (.int .i64 a2)), (3, .sc (.int .i64 a3)), (4, .sc (.int .i64 a4)), (5, .sc (.int .i64 a5))] = some (ints .i64 [a0, a1, a2, a3, a4, a5], fun r => .sl r 0 6 1) := bs_ints .i64 3 6 [(0, a0), (1, a1), (2, a2), (3, a3), (4, a4), (5, a5)] zero3 tyOk3 cells3 (by decide) (by simp)
theorem bs3_7 (a0 a1 a2 a3 a4 a5 a6 : Int) : bsV Tryd.prog (some (.slice 3)) 7 [(0, .sc (.int .i64 a0)), (1, .sc (.int .i64 a1)), (2, .sc (.int .i64 a2)), (3, .sc (.int .i64 a3)), (4, .sc (.int .i64 a4)), (5, .sc (.int .i64 a5)), (6, .sc (.int .i64 a6))] = some (ints .i64 [a0, a1, a2, a3, a4, a5, a6], fun r => .sl r 0 7 1) := bs_ints .i64 3 7 [(0, a0), (1, a1), (2, a2), (3, a3), (4, a4), (5, a5), (6, a6)] zero3 tyOk3 cells3 (by decide) (by simp)
theorem bs3_8 (a0 a1 a2 a3 a4 a5 a6 a7 : Int) : bsV Tryd.prog (some (.slice 3)) 8 [(0, .sc (.int .i64 a0)), (1, .sc (.int .i64 a1)), (2, .sc (.int .i64 a2)), (3, .sc (.int .i64 a3)), (4, .sc (.int .i64 a4)), (5, .sc (.int .i64 a5)), (6, .sc (.int .i64 a6)), (7, .sc (.int .i64 a7))] = some (ints .i64 [a0, a1, a2, a3, a4, a5, a6, a7], fun r => .sl r 0 8 1) := bs_ints .i64 3 8 [(0, a0), (1, a1), (2, a2), (3, a3), (4, a4), (5, a5), (6, a6), (7, a7)] zero3 tyOk3 cells3 (by decide) (by simp)
theorem bs3_10 (a0 a1 a2 a3 a4 a5 a6 a7 a8 a9 : Int) : bsV Tryd.prog (some (.slice 3)) 10 [(0, .sc (.int .i64 a0)), (1, .sc (.int .i64 a1)), (2, .sc (.int .i64 a2)), (3, .sc (.int .i64 a3)), (4, .sc (.int .i64 a4)), (5, .sc (.int .i64 a5)), (6, .sc (.int .i64 a6)), (7, .sc (.int .i64 a7)), (8, .sc (.int .i64 a8)), (9, .sc (.int .i64 a9))] = some (ints .i64 [a0, a1, a2, a3, a4, a5, a6, a7, a8, a9], fun r => .sl r 0 10 1) := bs_ints .i64 3 10 [(0, a0), (1, a1), (2, a2), (3, a3), (4, a4), (5, a5), (6, a6), (7, a7), (8, a8), (9, a9)] zero3 tyOk3 cells3 (by decide) (by simp)
theorem bs3_11 (a0 a1 a2 a3 a4 a5 a6 a7 a8 a9 a10 : Int) : bsV Tryd.prog (some (.slice 3)) 11 [(0, .sc (.int .i64 a0)), (1, .sc (.int .i64 a1)), (2, .sc (.int .i64 a2)), (3, .sc (.int .i64 a3)), (4, .sc (.int .i64 a4)), (5, .sc (.int .i64 a5)), (6, .sc (.int .i64 a6)), (7, .sc (.int .i64 a7)), (8, .sc (.int .i64 a8)), (9, .sc (.int .i64 a9)), (10, .sc (.int .i64 a10))] = some (ints .i64 [a0, a1, a2, a3, a4, a5, a6, a7, a8, a9, a10], fun r => .sl r 0 11 1) := bs_ints .i64 3 11 [(0, a0), (1, a1), (2, a2), (3, a3), (4, a4), (5, a5), (6, a6), (7, a7), (8, a8), (9, a9), (10, a10)] zero3 tyOk3 cells3 (by decide) (by simp)
theorem bs3_12 (a0 a1 a2 a3 a4 a5 a6 a7 a8 a9 a10 a11 : Int) : bsV Tryd.prog (some (.slice 3)) 12 [(0, .sc (.int .i64 a0)), (1, .sc (.int .i64 a1)), (2, .sc (.int .i64 a2)), (3, .sc (.int .i64 a3)), (4, .sc (.int .i64 a4)), (5, .sc (.int .i64 a5)), (6, .sc (.int .i64 a6)), (7, .sc (.int .i64 a7)), (8, .sc (.int .i64 a8)), (9, .sc (.int .i64 a9)), (10, .sc (.int .i64 a10)), (11, .sc (.int .i64 a11))] = some (ints .i64 [a0, a1, a2, a3, a4, a5, a6, a7, a8, a9, a10, a11], fun r => .sl r 0 12 1) := bs_ints .i64 3 12 [(0, a0), (1, a1), (2, a2), (3, a3), (4, a4), (5, a5), (6, a6), (7, a7), (8, a8), (9, a9), (10, a10), (11, a11)] zero3 tyOk3 cells3 (by decide) (by simp)
theorem bs3_13 (a0 a1 a2 a3 a4 a5 a6 a7 a8 a9 a10 a11 a12 : Int) : bsV Tryd.prog (some (.slice 3)) 13 [(0, .sc (.int .i64 a0)), (1, .sc (.int .i64 a1)), (2, .sc (.int .i64 a2)), (3, .sc (.int .i64 a3)), (4, .sc (.int .i64 a4)), (5, .sc (.int .i64 a5)), (6, .sc (.int .i64 a6)), (7, .sc (.int .i64 a7)), (8, .sc (.int .i64 a8)), (9, .sc (.int .i64 a9)), (10, .sc (.int .i64 a10)), (11, .sc (.int .i64 a11)), (12, .sc (.int .i64 a12))] = some (ints .i64 [a0, a1, a2, a3, a4, a5, a6, a7, a8, a9, a10, a11, a12], fun r => .sl r 0 13 1) := bs_ints .i64 3 13 [(0, a0), (1, a1), (2, a2), (3, a3), (4, a4), (5, a5), (6, a6), (7, a7), (8, a8), (9, a9), (10, a10), (11, a11), (12, a12)] zero3 tyOk3 cells3 (by decide) (by simp)
theorem tyOk4 : tyOk Tryd.prog 4 = true := by kernel_rfl
theorem agg4 : aggB Tryd.prog 4 = false := by kernel_rfl
theorem cells4 : Tryd.prog.cellsOf 4 = 1 := by kernel_rfl
theorem zero4 : zeroA Tryd.prog 4 = some [.sc (.bool false)] := by kernel_rfl
theorem info4 : (Tryd.prog.info? 4).map (·.bytes) = some 1 := by kernel_rfl
theorem mk4 (a b : IntKind) (m : Int) (h0 : 0 ≤ m) (h1 : m ≤ 1000000000000) : mkV Tryd.prog (some (.slice 4)) (.sc (.int a m)) (.sc (.int b m)) = some (bools (List.replicate m.toNat false), fun r => .sl r 0 m.toNat 1) := mk_lits (f := .bool) false 4 a b m _ zero4 info4 cells4 h0 (by omega) (by omega)
theorem bs4_0 : bsV Tryd.prog (some (.slice 4)) 0 [] = some (bools [], fun r => .sl r 0 0 1) := by simp [bsV, zero4, tyOk4, cells4, fillA, overA, AV.cells, bools, lits]
theorem bs4_1 (a0 : Bool) : bsV Tryd.prog (some (.slice 4)) 1 [(0, .sc (.bool a0))] = some (bools [a0], fun r => .sl r 0 1 1) := by simp [bsV, zero4, tyOk4, cells4, fillA, overA, AV.cells, bools, lits]
theorem bs4_2 (a0 a1 : Bool) : bsV Tryd.prog (some (.slice 4)) 2 [(0, .sc (.bool a0)), (1, .sc (.bool a1))] = some (bools [a0, a1], fun r => .sl r 0 2 1) := by simp [bsV, zero4, tyOk4, cells4, fillA, overA, AV.cells, bools, lits]
theorem tyOk5 : tyOk Tryd.prog 5 = true := by kernel_rfl
theorem agg5 : aggB Tryd.prog 5 = false := by kernel_rfl
theorem cells5 : Tryd.prog.cellsOf 5 = 1 := by kernel_rfl
theorem isU5 : isU8 Tryd.prog 5 = true := by kernel_rfl
theorem zero5 : zeroA Tryd.prog 5 = some [.sc (.int .u8 0)] := by kernel_rfl
theorem info5 : (Tryd.prog.info? 5).map (·.bytes) = some 1 := by kernel_rfl
theorem mk5 (a b : IntKind) (m : Int) (h0 : 0 ≤ m) (h1 : m ≤ 1000000000000) : mkV Tryd.prog (some (.slice 5)) (.sc (.int a m)) (.sc (.int b m)) = some (ints .u8 (List.replicate m.toNat 0), fun r => .sl r 0 m.toNat 1) := mk_ints .u8 5 a b m _ zero5 info5 cells5 h0 (by omega) (by omega)
theorem bs5_0 : bsV Tryd.prog (some (.slice 5)) 0 [] = some (ints .u8 [], fun r => .sl r 0 0 1) := bs_ints .u8 5 0 [] zero5 tyOk5 cells5 (by decide) (by simp)
theorem bs5_1 (a0 : Int) : bsV Tryd.prog (some (.slice 5)) 1 [(0, .sc (.int .u8 a0))] = some (ints .u8 [a0], fun r => .sl r 0 1 1) := bs_ints .u8 5 1 [(0, a0)] zero5 tyOk5 cells5 (by decide) (by simp)
theorem bs5_2 (a0 a1 : Int) : bsV Tryd.prog (some (.slice 5)) 2 [(0, .sc (.int .u8 a0)), (1, .sc (.int .u8 a1))] = some (ints .u8 [a0, a1], fun r => .sl r 0 2 1) := bs_ints .u8 5 2 [(0, a0), (1, a1)] zero5 tyOk5 cells5 (by decide) (by simp)
theorem bs5_3 (a0 a1 a2 : Int) : bsV Tryd.prog (some (.slice 5)) 3 [(0, .sc (.int .u8 a0)), (1, .sc (.int .u8 a1)), (2, .sc (.int .u8 a2))] = some (ints .u8 [a0, a1, a2], fun r => .sl r 0 3 1) := bs_ints .u8 5 3 [(0, a0), (1, a1), (2, a2)] zero5 tyOk5 cells5 (by decide) (by simp)
theorem bs5_4 (a0 a1 a2 a3 : Int) : bsV Tryd.prog (some (.slice 5)) 4 [(0, .sc (.int .u8 a0)), (1, .sc (.int .u8 a1)), (2, .sc (.int .u8 a2)), (3, .sc (.int .u8 a3))] = some (ints .u8 [a0, a1, a2, a3], fun r => .sl r 0 4 1) := bs_ints .u8 5 4 [(0, a0), (1, a1), (2, a2), (3, a3)] zero5 tyOk5 cells5 (by decide) (by simp)
theorem bs5_5 (a0 a1 a2 a3 a4 : Int) : bsV Tryd.prog (some (.slice 5)) 5 [(0, .sc (.int .u8 a0)), (1, .sc (.int .u8 a1)), (2, .sc (.int .u8 a2)), (3, .sc (.int .u8 a3)), (4, .sc (.int .u8 a4))] = some (ints .u8 [a0, a1, a2, a3, a4], fun r => .sl r 0 5 1) := bs_ints .u8 5 5 [(0, a0), (1, a1), (2, a2), (3, a3), (4, a4)] zero5 tyOk5 cells5 (by decide) (by simp)
theorem bs5_6 (a0 a1 a2 a3 a4 a5 : Int) : bsV Tryd.prog (some (.slice 5)) 6 [(0, .sc (.int .u8 a0)), (1, .sc (.int .u8 a1)), (2, .sc (.int .u8 a2)), (3, .sc (.int .u8 a3)), (4, .sc (.int .u8 a4)), (5, .sc (.int .u8 a5))] = some (ints .u8 [a0, a1, a2, a3, a4, a5], fun r => .sl r 0 6 1) := bs_ints .u8 5 6 [(0, a0), (1, a1), (2, a2), (3, a3), (4, a4), (5, a5)] zero5 tyOk5 cells5 (by decide) (by simp)
theorem bs5_7 (a0 a1 a2 a3 a4 a5 a6 : Int) : bsV Tryd.prog (some (.slice 5)) 7 [(0, .sc (.int .u8 a0)), (1, .sc (.int .u8 a1)), (2, .sc (.int .u8 a2)), (3, .sc (.int .u8 a3)), (4, .sc (.int .u8 a4)), (5, .sc (.int .u8 a5)), (6, .sc (.int .u8 a6))] = some (ints .u8 [a0, a1, a2, a3, a4, a5, a6], fun r => .sl r 0 7 1) := bs_ints .u8 5 7 [(0, a0), (1, a1), (2, a2), (3, a3), (4, a4), (5, a5), (6, a6)] zero5 tyOk5 cells5 (by decide) (by simp)
theorem bs5_8 (a0 a1 a2 a3 a4 a5 a6 a7 : Int) : bsV Tryd.prog (some (.slice 5)) 8 [(0, .sc (.int .u8 a0)), (1, .sc (.int .u8 a1)), (2, .sc (.int .u8 a2)), (3, .sc (.int .u8 a3)), (4, .sc (.int .u8 a4)), (5, .sc (.int .u8 a5)), (6, .sc (.int .u8 a6)), (7, .sc (.int .u8 a7))] = some (ints .u8 [a0, a1, a2, a3, a4, a5, a6, a7], fun r => .sl r 0 8 1) := bs_ints .u8 5 8 [(0, a0), (1, a1), (2, a2), (3, a3), (4, a4), (5, a5), (6, a6), (7, a7)] zero5 tyOk5 cells5 (by decide) (by simp)
theorem bs5_10 (a0 a1 a2 a3 a4 a5 a6 a7 a8 a9 : Int) : bsV Tryd.prog (some (.slice 5)) 10 [(0, .sc (.int .u8 a0)), (1, .sc (.int .u8 a1)), (2, .sc (.int .u8 a2)), (3, .sc (.int .u8 a3)), (4, .sc (.int .u8 a4)), (5, .sc (.int .u8 a5)), (6, .sc (.int .u8 a6)), (7, .sc (.int .u8 a7)), (8, .sc (.int .u8 a8)), (9, .sc (.int .u8 a9))] = some (ints .u8 [a0, a1, a2, a3, a4, a5, a6, a7, a8, a9], fun r => .sl r 0 10 1) := bs_ints .u8 5 10 [(0, a0), (1, a1), (2, a2), (3, a3), (4, a4), (5, a5), (6, a6), (7, a7), (8, a8), (9, a9)] zero5 tyOk5 cells5 (by decide) (by simp)
theorem bs5_11 (a0 a1 a2 a3 a4 a5 a6 a7 a8 a9 a10 : Int) : bsV Tryd.prog (some (.slice 5)) 11 [(0, .sc (.int .u8 a0)), (1, .sc (.int .u8 a1)), (2, .sc (.int .u8 a2)), (3, .sc (.int .u8 a3)), (4, .sc (.int .u8 a4)), (5, .sc (.int .u8 a5)), (6, .sc (.int .u8 a6)), (7, .sc (.int .u8 a7)), (8, .sc (.int .u8 a8)), (9, .sc (.int .u8 a9)), (10, .sc (.int .u8 a10))] = some (ints .u8 [a0, a1, a2, a3, a4, a5, a6, a7, a8, a9, a10], fun r => .sl r 0 11 1) := bs_ints .u8 5 11 [(0, a0), (1, a1), (2, a2), (3, a3), (4, a4), (5, a5), (6, a6), (7, a7), (8, a8), (9, a9), (10, a10)] zero5 tyOk5 cells5 (by decide) (by simp)
theorem bs5_12 (a0 a1 a2 a3 a4 a5 a6 a7 a8 a9 a10 a11 : Int) : bsV Tryd.prog (some (.slice 5)) 12 [(0, .sc (.int .u8 a0)), (1, .sc (.int .u8 a1)), (2, .sc (.int .u8 a2)), (3, .sc (.int .u8 a3)), (4, .sc (.int .u8 a4)), (5, .sc (.int .u8 a5)), (6, .sc (.int .u8 a6)), (7, .sc (.int .u8 a7)), (8, .sc (.int .u8 a8)), (9, .sc (.int .u8 a9)), (10, .sc (.int .u8 a10)), (11, .sc (.int .u8 a11))] = some (ints .u8 [a0, a1, a2, a3, a4, a5, a6, a7, a8, a9, a10, a11], fun r => .sl r 0 12 1) := bs_ints .u8 5 12 [(0, a0), (1, a1), (2, a2), (3, a3), (4, a4), (5, a5), (6, a6), (7, a7), (8, a8), (9, a9), (10, a10), (11, a11)] zero5 tyOk5 cells5 (by decide) (by simp)
theorem bs5_13 (a0 a1 a2 a3 a4 a5 a6 a7 a8 a9 a10 a11 a12 : Int) : bsV Tryd.prog (some (.slice 5)) 13 [(0, .sc (.int .u8 a0)), (1, .sc (.int .u8 a1)), (2, .sc (.int .u8 a2)), (3, .sc (.int .u8 a3)), (4, .sc (.int .u8 a4)), (5, .sc (.int .u8 a5)), (6, .sc (.int .u8 a6)), (7, .sc (.int .u8 a7)), (8, .sc (.int .u8 a8)), (9, .sc (.int .u8 a9)), (10, .sc (.int .u8 a10)), (11, .sc (.int .u8 a11)), (12, .sc (.int .u8 a12))] = some (ints .u8 [a0, a1, a2, a3, a4, a5, a6, a7, a8, a9, a10, a11, a12], fun r => .sl r 0 13 1) := bs_ints .u8 5 13 [(0, a0), (1, a1), (2, a2), (3, a3), (4, a4), (5, a5), (6, a6), (7, a7), (8, a8), (9, a9), (10, a10), (11, a11), (12, a12)] zero5 tyOk5 cells5 (by decide) (by simp)
theorem tyOk6 : tyOk Tryd.prog 6 = true := by kernel_rfl
theorem agg6 : aggB Tryd.prog 6 = false := by kernel_rfl
theorem cells6 : Tryd.prog.cellsOf 6 = 1 := by kernel_rfl
theorem isU6 : isU8 Tryd.prog 6 = true := by kernel_rfl
theorem zero6 : zeroA Tryd.prog 6 = some [.sc (.int .u8 0)] := by kernel_rfl
theorem info6 : (Tryd.prog.info? 6).map (·.bytes) = some 1 := by kernel_rfl
theorem mk6 (a b : IntKind) (m : Int) (h0 : 0 ≤ m) (h1 : m ≤ 1000000000000) : mkV Tryd.prog (some (.slice 6)) (.sc (.int a m)) (.sc (.int b m)) = some (ints .u8 (List.replicate m.toNat 0), fun r => .sl r 0 m.toNat 1) := mk_ints .u8 6 a b m _ zero6 info6 cells6 h0 (by omega) (by omega)
theorem bs6_0 : bsV Tryd.prog (some (.slice 6)) 0 [] = some (ints .u8 [], fun r => .sl r 0 0 1) := bs_ints .u8 6 0 [] zero6 tyOk6 cells6 (by decide) (by simp)
theorem bs6_1 (a0 : Int) : bsV Tryd.prog (some (.slice 6)) 1 [(0, .sc (.int .u8 a0))] = some (ints .u8 [a0], fun r => .sl r 0 1 1) := bs_ints .u8 6 1 [(0, a0)] zero6 tyOk6 cells6 (by decide) (by simp)
theorem bs6_2 (a0 a1 : Int) : bsV Tryd.prog (some (.slice 6)) 2 [(0, .sc (.int .u8 a0)), (1, .sc (.int .u8 a1))] = some (ints .u8 [a0, a1], fun r => .sl r 0 2 1) := bs_ints .u8 6 2 [(0, a0), (1, a1)] zero6 tyOk6 cells6 (by decide) (by simp)
theorem bs6_3 (a0 a1 a2 : Int) : bsV Tryd.prog (some (.slice 6)) 3 [(0, .sc (.int .u8 a0)), (1, .sc (.int .u8 a1)), (2, .sc (.int .u8 a2))] = some (ints .u8 [a0, a1, a2], fun r => .sl r 0 3 1) := bs_ints .u8 6 3 [(0, a0), (1, a1), (2, a2)] zero6 tyOk6 cells6 (by decide) (by simp)
theorem bs6_4 (a0 a1 a2 a3 : Int) : bsV Tryd.prog (some (.slice 6)) 4 [(0, .sc (.int .u8 a0)), (1, .sc (.int .u8 a1)), (2, .sc (.int .u8 a2)), (3, .sc (.int .u8 a3))] = some (ints .u8 [a0, a1, a2, a3], fun r => .sl r 0 4 1) := bs_ints .u8 6 4 [(0, a0), (1, a1), (2, a2), (3, a3)] zero6 tyOk6 cells6 (by decide) (by simp)
theorem bs6_5 (a0 a1 a2 a3 a4 : Int) : bsV Tryd.prog (some (.slice 6)) 5 [(0, .sc (.int .u8 a0)), (1, .sc (.int .u8 a1)), (2, .sc (.int .u8 a2)), (3, .sc (.int .u8 a3)), (4, .sc (.int .u8 a4))] = some (ints .u8 [a0, a1, a2, a3, a4], fun r => .sl r 0 5 1) := bs_ints .u8 6 5 [(0, a0), (1, a1), (2, a2), (3, a3), (4, a4)] zero6 tyOk6 cells6 (by decide) (by simp)
theorem bs6_6 (a0 a1 a2 a3 a4 a5 : Int) : bsV Tryd.prog (some (.slice 6)) 6 [(0, .sc (.int .u8 a0)), (1, .sc (.int .u8 a1)), (2, .sc (.int .u8 a2)), (3, .sc (.int .u8 a3)), (4, .sc (.int .u8 a4)), (5, .sc (.int .u8 a5))] = some (ints .u8 [a0, a1, a2, a3, a4, a5], fun r => .sl r 0 6 1) := bs_ints .u8 6 6 [(0, a0), (1, a1), (2, a2), (3, a3), (4, a4), (5, a5)] zero6 tyOk6 cells6 (by decide) (by simp)
theorem bs6_7 (a0 a1 a2 a3 a4 a5 a6 : Int) : bsV Tryd.prog (some (.slice 6)) 7 [(0, .sc (.int .u8 a0)), (1, .sc (.int .u8 a1)), (2, .sc (.int .u8 a2)), (3, .sc (.int .u8 a3)), (4, .sc (.int .u8 a4)), (5, .sc (.int .u8 a5)), (6, .sc (.int .u8 a6))] = some (ints .u8 [a0, a1, a2, a3, a4, a5, a6], fun r => .sl r 0 7 1) := bs_ints .u8 6 7 [(0, a0), (1, a1), (2, a2), (3, a3), (4, a4), (5, a5), (6, a6)] zero6 tyOk6 cells6 (by decide) (by simp)
theorem bs6_8 (a0 a1 a2 a3 a4 a5 a6 a7 : Int) : bsV Tryd.prog (some (.slice 6)) 8 [(0, .sc (.int .u8 a0)), (1, .sc (.int .u8 a1)), (2, .sc (.int .u8 a2)), (3, .sc (.int .u8 a3)), (4, .sc (.int .u8 a4)), (5, .sc (.int .u8 a5)), (6, .sc (.int .u8 a6)), (7, .sc (.int .u8 a7))] = some (ints .u8 [a0, a1, a2, a3, a4, a5, a6, a7], fun r => .sl r 0 8 1) := bs_ints .u8 6 8 [(0, a0), (1, a1), (2, a2), (3, a3), (4, a4), (5, a5), (6, a6), (7, a7)] zero6 tyOk6 cells6 (by decide) (by simp)
theorem bs6_10 (a0 a1 a2 a3 a4 a5 a6 a7 a8 a9 : Int) : bsV Tryd.prog (some (.slice 6)) 10 [(0, .sc (.int .u8 a0)), (1, .sc (.int .u8 a1)), (2, .sc (.int .u8 a2)), (3, .sc (.int .u8 a3)), (4, .sc (.int .u8 a4)), (5, .sc (.int .u8 a5)), (6, .sc (.int .u8 a6)), (7, .sc (.int .u8 a7)), (8, .sc (.int .u8 a8)), (9, .sc (.int .u8 a9))] = some (ints .u8 [a0, a1, a2, a3, a4, a5, a6, a7, a8, a9], fun r => .sl r 0 10 1) := bs_ints .u8 6 10 [(0, a0), (1, a1), (2, a2), (3, a3), (4, a4), (5, a5), (6, a6), (7, a7), (8, a8), (9, a9)] zero6 tyOk6 cells6 (by decide) (by simp)
theorem bs6_11 (a0 a1 a2 a3 a4 a5 a6 a7 a8 a9 a10 : Int) : bsV Tryd.prog (some (.slice 6)) 11 [(0, .sc (.int .u8 a0)), (1, .sc (.int .u8 a1)), (2, .sc (.int .u8 a2)), (3, .sc (.int .u8 a3)), (4, .sc (.int .u8 a4)), (5, .sc (.int .u8 a5)), (6, .sc (.int .u8 a6)), (7, .sc (.int .u8 a7)), (8, .sc (.int .u8 a8)), (9, .sc (.int .u8 a9)), (10, .sc (.int .u8 a10))] = some (ints .u8 [a0, a1, a2, a3, a4, a5, a6, a7, a8, a9, a10], fun r => .sl r 0 11 1) := bs_ints .u8 6 11 [(0, a0), (1, a1), (2, a2), (3, a3), (4, a4), (5, a5), (6, a6), (7, a7), (8, a8), (9, a9), (10, a10)] zero6 tyOk6 cells6 (by decide) (by simp)
theorem bs6_12 (a0 a1 a2 a3 a4 a5 a6 a7 a8 a9 a10 a11 : Int) : bsV Tryd.prog (some (.slice 6)) 12 [(0, .sc (.int .u8 a0)), (1, .sc (.int .u8 a1)), (2, .sc (.int .u8 a2)), (3, .sc (.int .u8 a3)), (4, .sc (.int .u8 a4)), (5, .sc (.int .u8 a5)), (6, .sc (.int .u8 a6)), (7, .sc (.int .u8 a7)), (8, .sc (.int .u8 a8)), (9, .sc (.int .u8 a9)), (10, .sc (.int .u8 a10)), (11, .sc (.int .u8 a11))] = some (ints .u8 [a0, a1, a2, a3, a4, a5, a6, a7, a8, a9, a10, a11], fun r => .sl r 0 12 1) := bs_ints .u8 6 12 [(0, a0), (1, a1), (2, a2), (3, a3), (4, a4), (5, a5), (6, a6), (7, a7), (8, a8), (9, a9), (10, a10), (11, a11)] zero6 tyOk6 cells6 (by decide) (by simp)
theorem bs6_13 (a0 a1 a2 a3 a4 a5 a6 a7 a8 a9 a10 a11 a12 : Int) : bsV Tryd.prog (some (.slice 6)) 13 [(0, .sc (.int .u8 a0)), (1, .sc (.int .u8 a1)), (2, .sc (.int .u8 a2)), (3, .sc (.int .u8 a3)), (4, .sc (.int .u8 a4)), (5, .sc (.int .u8 a5)), (6, .sc (.int .u8 a6)), (7, .sc (.int .u8 a7)), (8, .sc (.int .u8 a8)), (9, .sc (.int .u8 a9)), (10, .sc (.int .u8 a10)), (11, .sc (.int .u8 a11)), (12, .sc (.int .u8 a12))] = some (ints .u8 [a0, a1, a2, a3, a4, a5, a6, a7, a8, a9, a10, a11, a12], fun r => .sl r 0 13 1) := bs_ints .u8 6 13 [(0, a0), (1, a1), (2, a2), (3, a3), (4, a4), (5, a5), (6, a6), (7, a7), (8, a8), (9, a9), (10, a10), (11, a11), (12, a12)] zero6 tyOk6 cells6 (by decide) (by simp)
theorem tyOk7 : tyOk Tryd.prog 7 = true := by kernel_rfl
theorem agg7 : aggB Tryd.prog 7 = true := by kernel_rfl
theorem cells7 : Tryd.prog.cellsOf 7 = 4 := by kernel_rfl
theorem zero7 : zeroA Tryd.prog 7 = some [.sc (.int .i64 0), .sc (.int .i64 0), .sc (.bool false), .sc (.int .u8 0)] := by kernel_rfl
theorem tyOk8 : tyOk Tryd.prog 8 = true := by kernel_rfl
theorem agg8 : aggB Tryd.prog 8 = true := by kernel_rfl
theorem cells8 : Tryd.prog.cellsOf 8 = 4 := by kernel_rfl
theorem zero8 : zeroA Tryd.prog 8 = some [.sc (.int .i64 0), .sc (.int .i64 0), .sc (.bool false), .sc (.int .u8 0)] := by kernel_rfl
theorem tyOk9 : tyOk Tryd.prog 9 = true := by kernel_rfl
theorem agg9 : aggB Tryd.prog 9 = false := by kernel_rfl
theorem cells9 : Tryd.prog.cellsOf 9 = 1 := by kernel_rfl
theorem zero9 : zeroA Tryd.prog 9 = some [.sc (.string ByteArray.empty)] := by kernel_rfl
theorem info9 : (Tryd.prog.info? 9).map (·.bytes) = some 16 := by kernel_rfl
theorem bs9_0 : bsV Tryd.prog (some (.slice 9)) 0 [] = some (strs [], fun r => .sl r 0 0 1) := by simp [bsV, zero9, tyOk9, cells9, fillA, overA, AV.cells, strs, lits]
theorem bs9_1 (a0 : ByteArray) : bsV Tryd.prog (some (.slice 9)) 1 [(0, .sc (.string a0))] = some (strs [a0], fun r => .sl r 0 1 1) := by simp [bsV, zero9, tyOk9, cells9, fillA, overA, AV.cells, strs, lits]
theorem bs9_2 (a0 a1 : ByteArray) : bsV Tryd.prog (some (.slice 9)) 2 [(0, .sc (.string a0)), (1, .sc (.string a1))] = some (strs [a0, a1], fun r => .sl r 0 2 1) := by simp [bsV, zero9, tyOk9, cells9, fillA, overA, AV.cells, strs, lits]
theorem bs9_3 (a0 a1 a2 : ByteArray) : bsV Tryd.prog (some (.slice 9)) 3 [(0, .sc (.string a0)), (1, .sc (.string a1)), (2, .sc (.string a2))] = some (strs [a0, a1, a2], fun r => .sl r 0 3 1) := by simp [bsV, zero9, tyOk9, cells9, fillA, overA, AV.cells, strs, lits]
theorem bs9_4 (a0 a1 a2 a3 : ByteArray) : bsV Tryd.prog (some (.slice 9)) 4 [(0, .sc (.string a0)), (1, .sc (.string a1)), (2, .sc (.string a2)), (3, .sc (.string a3))] = some (strs [a0, a1, a2, a3], fun r => .sl r 0 4 1) := by simp [bsV, zero9, tyOk9, cells9, fillA, overA, AV.cells, strs, lits]
theorem bs9_5 (a0 a1 a2 a3 a4 : ByteArray) : bsV Tryd.prog (some (.slice 9)) 5 [(0, .sc (.string a0)), (1, .sc (.string a1)), (2, .sc (.string a2)), (3, .sc (.string a3)), (4, .sc (.string a4))] = some (strs [a0, a1, a2, a3, a4], fun r => .sl r 0 5 1) := by simp [bsV, zero9, tyOk9, cells9, fillA, overA, AV.cells, strs, lits]
theorem bs9_6 (a0 a1 a2 a3 a4 a5 : ByteArray) : bsV Tryd.prog (some (.slice 9)) 6 [(0, .sc (.string a0)), (1, .sc (.string a1)), (2, .sc (.string a2)), (3, .sc (.string a3)), (4, .sc (.string a4)), (5, .sc (.string a5))] = some (strs [a0, a1, a2, a3, a4, a5], fun r => .sl r 0 6 1) := by simp [bsV, zero9, tyOk9, cells9, fillA, overA, AV.cells, strs, lits]
theorem bs9_8 (a0 a1 a2 a3 a4 a5 a6 a7 : ByteArray) : bsV Tryd.prog (some (.slice 9)) 8 [(0, .sc (.string a0)), (1, .sc (.string a1)), (2, .sc (.string a2)), (3, .sc (.string a3)), (4, .sc (.string a4)), (5, .sc (.string a5)), (6, .sc (.string a6)), (7, .sc (.string a7))] = some (strs [a0, a1, a2, a3, a4, a5, a6, a7], fun r => .sl r 0 8 1) := by simp [bsV, zero9, tyOk9, cells9, fillA, overA, AV.cells, strs, lits]
theorem bs9_9 (a0 a1 a2 a3 a4 a5 a6 a7 a8 : ByteArray) : bsV Tryd.prog (some (.slice 9)) 9 [(0, .sc (.string a0)), (1, .sc (.string a1)), (2, .sc (.string a2)), (3, .sc (.string a3)), (4, .sc (.string a4)), (5, .sc (.string a5)), (6, .sc (.string a6)), (7, .sc (.string a7)), (8, .sc (.string a8))] = some (strs [a0, a1, a2, a3, a4, a5, a6, a7, a8], fun r => .sl r 0 9 1) := by simp [bsV, zero9, tyOk9, cells9, fillA, overA, AV.cells, strs, lits]
theorem bs9_10 (a0 a1 a2 a3 a4 a5 a6 a7 a8 a9 : ByteArray) : bsV Tryd.prog (some (.slice 9)) 10 [(0, .sc (.string a0)), (1, .sc (.string a1)), (2, .sc (.string a2)), (3, .sc (.string a3)), (4, .sc (.string a4)), (5, .sc (.string a5)), (6, .sc (.string a6)), (7, .sc (.string a7)), (8, .sc (.string a8)), (9, .sc (.string a9))] = some (strs [a0, a1, a2, a3, a4, a5, a6, a7, a8, a9], fun r => .sl r 0 10 1) := by simp [bsV, zero9, tyOk9, cells9, fillA, overA, AV.cells, strs, lits]
theorem tyOk10 : tyOk Tryd.prog 10 = true := by kernel_rfl
theorem agg10 : aggB Tryd.prog 10 = false := by kernel_rfl
theorem cells10 : Tryd.prog.cellsOf 10 = 1 := by kernel_rfl
theorem zero10 : zeroA Tryd.prog 10 = some [.sc (.string ByteArray.empty)] := by kernel_rfl
theorem info10 : (Tryd.prog.info? 10).map (·.bytes) = some 16 := by kernel_rfl
theorem bs10_0 : bsV Tryd.prog (some (.slice 10)) 0 [] = some (strs [], fun r => .sl r 0 0 1) := by simp [bsV, zero10, tyOk10, cells10, fillA, overA, AV.cells, strs, lits]
theorem bs10_1 (a0 : ByteArray) : bsV Tryd.prog (some (.slice 10)) 1 [(0, .sc (.string a0))] = some (strs [a0], fun r => .sl r 0 1 1) := by simp [bsV, zero10, tyOk10, cells10, fillA, overA, AV.cells, strs, lits]
theorem bs10_2 (a0 a1 : ByteArray) : bsV Tryd.prog (some (.slice 10)) 2 [(0, .sc (.string a0)), (1, .sc (.string a1))] = some (strs [a0, a1], fun r => .sl r 0 2 1) := by simp [bsV, zero10, tyOk10, cells10, fillA, overA, AV.cells, strs, lits]
theorem bs10_3 (a0 a1 a2 : ByteArray) : bsV Tryd.prog (some (.slice 10)) 3 [(0, .sc (.string a0)), (1, .sc (.string a1)), (2, .sc (.string a2))] = some (strs [a0, a1, a2], fun r => .sl r 0 3 1) := by simp [bsV, zero10, tyOk10, cells10, fillA, overA, AV.cells, strs, lits]
theorem bs10_4 (a0 a1 a2 a3 : ByteArray) : bsV Tryd.prog (some (.slice 10)) 4 [(0, .sc (.string a0)), (1, .sc (.string a1)), (2, .sc (.string a2)), (3, .sc (.string a3))] = some (strs [a0, a1, a2, a3], fun r => .sl r 0 4 1) := by simp [bsV, zero10, tyOk10, cells10, fillA, overA, AV.cells, strs, lits]
theorem bs10_5 (a0 a1 a2 a3 a4 : ByteArray) : bsV Tryd.prog (some (.slice 10)) 5 [(0, .sc (.string a0)), (1, .sc (.string a1)), (2, .sc (.string a2)), (3, .sc (.string a3)), (4, .sc (.string a4))] = some (strs [a0, a1, a2, a3, a4], fun r => .sl r 0 5 1) := by simp [bsV, zero10, tyOk10, cells10, fillA, overA, AV.cells, strs, lits]
theorem bs10_6 (a0 a1 a2 a3 a4 a5 : ByteArray) : bsV Tryd.prog (some (.slice 10)) 6 [(0, .sc (.string a0)), (1, .sc (.string a1)), (2, .sc (.string a2)), (3, .sc (.string a3)), (4, .sc (.string a4)), (5, .sc (.string a5))] = some (strs [a0, a1, a2, a3, a4, a5], fun r => .sl r 0 6 1) := by simp [bsV, zero10, tyOk10, cells10, fillA, overA, AV.cells, strs, lits]
theorem bs10_8 (a0 a1 a2 a3 a4 a5 a6 a7 : ByteArray) : bsV Tryd.prog (some (.slice 10)) 8 [(0, .sc (.string a0)), (1, .sc (.string a1)), (2, .sc (.string a2)), (3, .sc (.string a3)), (4, .sc (.string a4)), (5, .sc (.string a5)), (6, .sc (.string a6)), (7, .sc (.string a7))] = some (strs [a0, a1, a2, a3, a4, a5, a6, a7], fun r => .sl r 0 8 1) := by simp [bsV, zero10, tyOk10, cells10, fillA, overA, AV.cells, strs, lits]
theorem bs10_9 (a0 a1 a2 a3 a4 a5 a6 a7 a8 : ByteArray) : bsV Tryd.prog (some (.slice 10)) 9 [(0, .sc (.string a0)), (1, .sc (.string a1)), (2, .sc (.string a2)), (3, .sc (.string a3)), (4, .sc (.string a4)), (5, .sc (.string a5)), (6, .sc (.string a6)), (7, .sc (.string a7)), (8, .sc (.string a8))] = some (strs [a0, a1, a2, a3, a4, a5, a6, a7, a8], fun r => .sl r 0 9 1) := by simp [bsV, zero10, tyOk10, cells10, fillA, overA, AV.cells, strs, lits]
theorem bs10_10 (a0 a1 a2 a3 a4 a5 a6 a7 a8 a9 : ByteArray) : bsV Tryd.prog (some (.slice 10)) 10 [(0, .sc (.string a0)), (1, .sc (.string a1)), (2, .sc (.string a2)), (3, .sc (.string a3)), (4, .sc (.string a4)), (5, .sc (.string a5)), (6, .sc (.string a6)), (7, .sc (.string a7)), (8, .sc (.string a8)), (9, .sc (.string a9))] = some (strs [a0, a1, a2, a3, a4, a5, a6, a7, a8, a9], fun r => .sl r 0 10 1) := by simp [bsV, zero10, tyOk10, cells10, fillA, overA, AV.cells, strs, lits]
theorem tyOk11 : tyOk Tryd.prog 11 = true := by kernel_rfl
theorem agg11 : aggB Tryd.prog 11 = false := by kernel_rfl
theorem cells11 : Tryd.prog.cellsOf 11 = 1 := by kernel_rfl
theorem zero11 : zeroA Tryd.prog 11 = some [.sc (.string ByteArray.empty)] := by kernel_rfl
theorem info11 : (Tryd.prog.info? 11).map (·.bytes) = some 16 := by kernel_rfl
theorem bs11_0 : bsV Tryd.prog (some (.slice 11)) 0 [] = some (strs [], fun r => .sl r 0 0 1) := by simp [bsV, zero11, tyOk11, cells11, fillA, overA, AV.cells, strs, lits]
theorem bs11_1 (a0 : ByteArray) : bsV Tryd.prog (some (.slice 11)) 1 [(0, .sc (.string a0))] = some (strs [a0], fun r => .sl r 0 1 1) := by simp [bsV, zero11, tyOk11, cells11, fillA, overA, AV.cells, strs, lits]
theorem bs11_2 (a0 a1 : ByteArray) : bsV Tryd.prog (some (.slice 11)) 2 [(0, .sc (.string a0)), (1, .sc (.string a1))] = some (strs [a0, a1], fun r => .sl r 0 2 1) := by simp [bsV, zero11, tyOk11, cells11, fillA, overA, AV.cells, strs, lits]
theorem bs11_3 (a0 a1 a2 : ByteArray) : bsV Tryd.prog (some (.slice 11)) 3 [(0, .sc (.string a0)), (1, .sc (.string a1)), (2, .sc (.string a2))] = some (strs [a0, a1, a2], fun r => .sl r 0 3 1) := by simp [bsV, zero11, tyOk11, cells11, fillA, overA, AV.cells, strs, lits]
theorem bs11_4 (a0 a1 a2 a3 : ByteArray) : bsV Tryd.prog (some (.slice 11)) 4 [(0, .sc (.string a0)), (1, .sc (.string a1)), (2, .sc (.string a2)), (3, .sc (.string a3))] = some (strs [a0, a1, a2, a3], fun r => .sl r 0 4 1) := by simp [bsV, zero11, tyOk11, cells11, fillA, overA, AV.cells, strs, lits]
theorem bs11_5 (a0 a1 a2 a3 a4 : ByteArray) : bsV Tryd.prog (some (.slice 11)) 5 [(0, .sc (.string a0)), (1, .sc (.string a1)), (2, .sc (.string a2)), (3, .sc (.string a3)), (4, .sc (.string a4))] = some (strs [a0, a1, a2, a3, a4], fun r => .sl r 0 5 1) := by simp [bsV, zero11, tyOk11, cells11, fillA, overA, AV.cells, strs, lits]
theorem bs11_6 (a0 a1 a2 a3 a4 a5 : ByteArray) : bsV Tryd.prog (some (.slice 11)) 6 [(0, .sc (.string a0)), (1, .sc (.string a1)), (2, .sc (.string a2)), (3, .sc (.string a3)), (4, .sc (.string a4)), (5, .sc (.string a5))] = some (strs [a0, a1, a2, a3, a4, a5], fun r => .sl r 0 6 1) := by simp [bsV, zero11, tyOk11, cells11, fillA, overA, AV.cells, strs, lits]
theorem bs11_8 (a0 a1 a2 a3 a4 a5 a6 a7 : ByteArray) : bsV Tryd.prog (some (.slice 11)) 8 [(0, .sc (.string a0)), (1, .sc (.string a1)), (2, .sc (.string a2)), (3, .sc (.string a3)), (4, .sc (.string a4)), (5, .sc (.string a5)), (6, .sc (.string a6)), (7, .sc (.string a7))] = some (strs [a0, a1, a2, a3, a4, a5, a6, a7], fun r => .sl r 0 8 1) := by simp [bsV, zero11, tyOk11, cells11, fillA, overA, AV.cells, strs, lits]
theorem bs11_9 (a0 a1 a2 a3 a4 a5 a6 a7 a8 : ByteArray) : bsV Tryd.prog (some (.slice 11)) 9 [(0, .sc (.string a0)), (1, .sc (.string a1)), (2, .sc (.string a2)), (3, .sc (.string a3)), (4, .sc (.string a4)), (5, .sc (.string a5)), (6, .sc (.string a6)), (7, .sc (.string a7)), (8, .sc (.string a8))] = some (strs [a0, a1, a2, a3, a4, a5, a6, a7, a8], fun r => .sl r 0 9 1) := by simp [bsV, zero11, tyOk11, cells11, fillA, overA, AV.cells, strs, lits]
theorem bs11_10 (a0 a1 a2 a3 a4 a5 a6 a7 a8 a9 : ByteArray) : bsV Tryd.prog (some (.slice 11)) 10 [(0, .sc (.string a0)), (1, .sc (.string a1)), (2, .sc (.string a2)), (3, .sc (.string a3)), (4, .sc (.string a4)), (5, .sc (.string a5)), (6, .sc (.string a6)), (7, .sc (.string a7)), (8, .sc (.string a8)), (9, .sc (.string a9))] = some (strs [a0, a1, a2, a3, a4, a5, a6, a7, a8, a9], fun r => .sl r 0 10 1) := by simp [bsV, zero11, tyOk11, cells11, fillA, overA, AV.cells, strs, lits]
theorem tyOk12 : tyOk Tryd.prog 12 = true := by kernel_rfl
theorem agg12 : aggB Tryd.prog 12 = false := by kernel_rfl
theorem cells12 : Tryd.prog.cellsOf 12 = 1 := by kernel_rfl
theorem zero12 : zeroA Tryd.prog 12 = some [.sc (.int .u64 0)] := by kernel_rfl
theorem info12 : (Tryd.prog.info? 12).map (·.bytes) = some 8 := by kernel_rfl
theorem mk12 (a b : IntKind) (m : Int) (h0 : 0 ≤ m) (h1 : m ≤ 1000000000000) : mkV Tryd.prog (some (.slice 12)) (.sc (.int a m)) (.sc (.int b m)) = some (ints .u64 (List.replicate m.toNat 0), fun r => .sl r 0 m.toNat 1) := mk_ints .u64 12 a b m _ zero12 info12 cells12 h0 (by omega) (by omega)
theorem bs12_0 : bsV Tryd.prog (some (.slice 12)) 0 [] = some (ints .u64 [], fun r => .sl r 0 0 1) := bs_ints .u64 12 0 [] zero12 tyOk12 cells12 (by decide) (by simp)
theorem bs12_1 (a0 : Int) : bsV Tryd.prog (some (.slice 12)) 1 [(0, .sc (.int .u64 a0))] = some (ints .u64 [a0], fun r => .sl r 0 1 1) := bs_ints .u64 12 1 [(0, a0)] zero12 tyOk12 cells12 (by decide) (by simp)
theorem bs12_2 (a0 a1 : Int) : bsV Tryd.prog (some (.slice 12)) 2 [(0, .sc (.int .u64 a0)), (1, .sc (.int .u64 a1))] = some (ints .u64 [a0, a1], fun r => .sl r 0 2 1) := bs_ints .u64 12 2 [(0, a0), (1, a1)] zero12 tyOk12 cells12 (by decide) (by simp)
theorem bs12_3 (a0 a1 a2 : Int) : bsV Tryd.prog (some (.slice 12)) 3 [(0, .sc (.int .u64 a0)), (1, .sc (.int .u64 a1)), (2, .sc (.int .u64 a2))] = some (ints .u64 [a0, a1, a2], fun r => .sl r 0 3 1) := bs_ints .u64 12 3 [(0, a0), (1, a1), (2, a2)] zero12 tyOk12 cells12 (by decide) (by simp)
theorem bs12_4 (a0 a1 a2 a3 : Int) : bsV Tryd.prog (some (.slice 12)) 4 [(0, .sc (.int .u64 a0)), (1, .sc (.int .u64 a1)), (2, .sc (.int .u64 a2)), (3, .sc (.int .u64 a3))] = some (ints .u64 [a0, a1, a2, a3], fun r => .sl r 0 4 1) := bs_ints .u64 12 4 [(0, a0), (1, a1), (2, a2), (3, a3)] zero12 tyOk12 cells12 (by decide) (by simp)
theorem bs12_5 (a0 a1 a2 a3 a4 : Int) : bsV Tryd.prog (some (.slice 12)) 5 [(0, .sc (.int .u64 a0)), (1, .sc (.int .u64 a1)), (2, .sc (.int .u64 a2)), (3, .sc (.int .u64 a3)), (4, .sc (.int .u64 a4))] = some (ints .u64 [a0, a1, a2, a3, a4], fun r => .sl r 0 5 1) := bs_ints .u64 12 5 [(0, a0), (1, a1), (2, a2), (3, a3), (4, a4)] zero12 tyOk12 cells12 (by decide) (by simp)
theorem bs12_6 (a0 a1 a2 a3 a4 a5 : Int) : bsV Tryd.prog (some (.slice 12)) 6 [(0, .sc (.int .u64 a0)), (1, .sc (.int .u64 a1)), (2, .sc (.int .u64 a2)), (3, .sc (.int .u64 a3)), (4, .sc (.int .u64 a4)), (5, .sc (.int .u64 a5))] = some (ints .u64 [a0, a1, a2, a3, a4, a5], fun r => .sl r 0 6 1) := bs_ints .u64 12 6 [(0, a0), (1, a1), (2, a2), (3, a3), (4, a4), (5, a5)] zero12 tyOk12 cells12 (by decide) (by simp)
theorem bs12_7 (a0 a1 a2 a3 a4 a5 a6 : Int) : bsV Tryd.prog (some (.slice 12)) 7 [(0, .sc (.int .u64 a0)), (1, .sc (.int .u64 a1)), (2, .sc (.int .u64 a2)), (3, .sc (.int .u64 a3)), (4, .sc (.int .u64 a4)), (5, .sc (.int .u64 a5)), (6, .sc (.int .u64 a6))] = some (ints .u64 [a0, a1, a2, a3, a4, a5, a6], fun r => .sl r 0 7 1) := bs_ints .u64 12 7 [(0, a0), (1, a1), (2, a2), (3, a3), (4, a4), (5, a5), (6, a6)] zero12 tyOk12 cells12 (by decide) (by simp)
theorem bs12_8 (a0 a1 a2 a3 a4 a5 a6 a7 : Int) : bsV Tryd.prog (some (.slice 12)) 8 [(0, .sc (.int .u64 a0)), (1, .sc (.int .u64 a1)), (2, .sc (.int .u64 a2)), (3, .sc (.int .u64 a3)), (4, .sc (.int .u64 a4)), (5, .sc (.int .u64 a5)), (6, .sc (.int .u64 a6)), (7, .sc (.int .u64 a7))] = some (ints .u64 [a0, a1, a2, a3, a4, a5, a6, a7], fun r => .sl r 0 8 1) := bs_ints .u64 12 8 [(0, a0), (1, a1), (2, a2), (3, a3), (4, a4), (5, a5), (6, a6), (7, a7)] zero12 tyOk12 cells12 (by decide) (by simp)
theorem bs12_10 (a0 a1 a2 a3 a4 a5 a6 a7 a8 a9 : Int) : bsV Tryd.prog (some (.slice 12)) 10 [(0, .sc (.int .u64 a0)), (1, .sc (.int .u64 a1)), (2, .sc (.int .u64 a2)), (3, .sc (.int .u64 a3)), (4, .sc (.int .u64 a4)), (5, .sc (.int .u64 a5)), (6, .sc (.int .u64 a6)), (7, .sc (.int .u64 a7)), (8, .sc (.int .u64 a8)), (9, .sc (.int .u64 a9))] = some (ints .u64 [a0, a1, a2, a3, a4, a5, a6, a7, a8, a9], fun r => .sl r 0 10 1) := bs_ints .u64 12 10 [(0, a0), (1, a1), (2, a2), (3, a3), (4, a4), (5, a5), (6, a6), (7, a7), (8, a8), (9, a9)] zero12 tyOk12 cells12 (by decide) (by simp)
theorem bs12_11 (a0 a1 a2 a3 a4 a5 a6 a7 a8 a9 a10 : Int) : bsV Tryd.prog (some (.slice 12)) 11 [(0, .sc (.int .u64 a0)), (1, .sc (.int .u64 a1)), (2, .sc (.int .u64 a2)), (3, .sc (.int .u64 a3)), (4, .sc (.int .u64 a4)), (5, .sc (.int .u64 a5)), (6, .sc (.int .u64 a6)), (7, .sc (.int .u64 a7)), (8, .sc (.int .u64 a8)), (9, .sc (.int .u64 a9)), (10, .sc (.int .u64 a10))] = some (ints .u64 [a0, a1, a2, a3, a4, a5, a6, a7, a8, a9, a10], fun r => .sl r 0 11 1) := bs_ints .u64 12 11 [(0, a0), (1, a1), (2, a2), (3, a3), (4, a4), (5, a5), (6, a6), (7, a7), (8, a8), (9, a9), (10, a10)] zero12 tyOk12 cells12 (by decide) (by simp)
theorem bs12_12 (a0 a1 a2 a3 a4 a5 a6 a7 a8 a9 a10 a11 : Int) : bsV Tryd.prog (some (.slice 12)) 12 [(0, .sc (.int .u64 a0)), (1, .sc (.int .u64 a1)), (2, .sc (.int .u64 a2)), (3, .sc (.int .u64 a3)), (4, .sc (.int .u64 a4)), (5, .sc (.int .u64 a5)), (6, .sc (.int .u64 a6)), (7, .sc (.int .u64 a7)), (8, .sc (.int .u64 a8)), (9, .sc (.int .u64 a9)), (10, .sc (.int .u64 a10)), (11, .sc (.int .u64 a11))] = some (ints .u64 [a0, a1, a2, a3, a4, a5, a6, a7, a8, a9, a10, a11], fun r => .sl r 0 12 1) := bs_ints .u64 12 12 [(0, a0), (1, a1), (2, a2), (3, a3), (4, a4), (5, a5), (6, a6), (7, a7), (8, a8), (9, a9), (10, a10), (11, a11)] zero12 tyOk12 cells12 (by decide) (by simp)
theorem bs12_13 (a0 a1 a2 a3 a4 a5 a6 a7 a8 a9 a10 a11 a12 : Int) : bsV Tryd.prog (some (.slice 12)) 13 [(0, .sc (.int .u64 a0)), (1, .sc (.int .u64 a1)), (2, .sc (.int .u64 a2)), (3, .sc (.int .u64 a3)), (4, .sc (.int .u64 a4)), (5, .sc (.int .u64 a5)), (6, .sc (.int .u64 a6)), (7, .sc (.int .u64 a7)), (8, .sc (.int .u64 a8)), (9, .sc (.int .u64 a9)), (10, .sc (.int .u64 a10)), (11, .sc (.int .u64 a11)), (12, .sc (.int .u64 a12))] = some (ints .u64 [a0, a1, a2, a3, a4, a5, a6, a7, a8, a9, a10, a11, a12], fun r => .sl r 0 13 1) := bs_ints .u64 12 13 [(0, a0), (1, a1), (2, a2), (3, a3), (4, a4), (5, a5), (6, a6), (7, a7), (8, a8), (9, a9), (10, a10), (11, a11), (12, a12)] zero12 tyOk12 cells12 (by decide) (by simp)
theorem tyOk13 : tyOk Tryd.prog 13 = true := by kernel_rfl
theorem agg13 : aggB Tryd.prog 13 = true := by kernel_rfl
theorem cells13 : Tryd.prog.cellsOf 13 = 2 := by kernel_rfl
theorem zero13 : zeroA Tryd.prog 13 = some [.sc (.string ByteArray.empty), .sc (.int .u64 0)] := by kernel_rfl
theorem tyOk14 : tyOk Tryd.prog 14 = true := by kernel_rfl
theorem agg14 : aggB Tryd.prog 14 = true := by kernel_rfl
theorem cells14 : Tryd.prog.cellsOf 14 = 2 := by kernel_rfl
theorem zero14 : zeroA Tryd.prog 14 = some [.sc (.string ByteArray.empty), .sc (.int .u64 0)] := by kernel_rfl
theorem tyOk15 : tyOk Tryd.prog 15 = true := by kernel_rfl
theorem agg15 : aggB Tryd.prog 15 = false := by kernel_rfl
theorem cells15 : Tryd.prog.cellsOf 15 = 1 := by kernel_rfl
theorem zero15 : zeroA Tryd.prog 15 = some [.sc (.pointer none)] := by kernel_rfl
theorem tyOk16 : tyOk Tryd.prog 16 = true := by kernel_rfl
theorem agg16 : aggB Tryd.prog 16 = false := by kernel_rfl
theorem cells16 : Tryd.prog.cellsOf 16 = 1 := by kernel_rfl
theorem zero16 : zeroA Tryd.prog 16 = some [.sc (.pointer none)] := by kernel_rfl
theorem tyOk17 : tyOk Tryd.prog 17 = true := by kernel_rfl
theorem agg17 : aggB Tryd.prog 17 = false := by kernel_rfl
theorem cells17 : Tryd.prog.cellsOf 17 = 1 := by kernel_rfl
theorem zero17 : zeroA Tryd.prog 17 = some [.sc (.pointer none)] := by kernel_rfl
theorem tyOk18 : tyOk Tryd.prog 18 = true := by kernel_rfl
theorem agg18 : aggB Tryd.prog 18 = true := by kernel_rfl
theorem cells18 : Tryd.prog.cellsOf 18 = 1 := by kernel_rfl
theorem zero18 : zeroA Tryd.prog 18 = some [.sc (.pointer none)] := by kernel_rfl
theorem tyOk19 : tyOk Tryd.prog 19 = true := by kernel_rfl
theorem agg19 : aggB Tryd.prog 19 = true := by kernel_rfl
theorem cells19 : Tryd.prog.cellsOf 19 = 1 := by kernel_rfl
theorem zero19 : zeroA Tryd.prog 19 = some [.sc (.pointer none)] := by kernel_rfl
theorem tyOk20 : tyOk Tryd.prog 20 = true := by kernel_rfl
theorem agg20 : aggB Tryd.prog 20 = false := by kernel_rfl
theorem cells20 : Tryd.prog.cellsOf 20 = 1 := by kernel_rfl
theorem tyOk21 : tyOk Tryd.prog 21 = true := by kernel_rfl
theorem agg21 : aggB Tryd.prog 21 = false := by kernel_rfl
theorem cells21 : Tryd.prog.cellsOf 21 = 1 := by kernel_rfl
theorem zero21 : zeroA Tryd.prog 21 = some [.sc (.int .i32 0)] := by kernel_rfl
theorem info21 : (Tryd.prog.info? 21).map (·.bytes) = some 4 := by kernel_rfl
theorem mk21 (a b : IntKind) (m : Int) (h0 : 0 ≤ m) (h1 : m ≤ 1000000000000) : mkV Tryd.prog (some (.slice 21)) (.sc (.int a m)) (.sc (.int b m)) = some (ints .i32 (List.replicate m.toNat 0), fun r => .sl r 0 m.toNat 1) := mk_ints .i32 21 a b m _ zero21 info21 cells21 h0 (by omega) (by omega)
theorem bs21_0 : bsV Tryd.prog (some (.slice 21)) 0 [] = some (ints .i32 [], fun r => .sl r 0 0 1) := bs_ints .i32 21 0 [] zero21 tyOk21 cells21 (by decide) (by simp)
theorem bs21_1 (a0 : Int) : bsV Tryd.prog (some (.slice 21)) 1 [(0, .sc (.int .i32 a0))] = some (ints .i32 [a0], fun r => .sl r 0 1 1) := bs_ints .i32 21 1 [(0, a0)] zero21 tyOk21 cells21 (by decide) (by simp)
theorem bs21_2 (a0 a1 : Int) : bsV Tryd.prog (some (.slice 21)) 2 [(0, .sc (.int .i32 a0)), (1, .sc (.int .i32 a1))] = some (ints .i32 [a0, a1], fun r => .sl r 0 2 1) := bs_ints .i32 21 2 [(0, a0), (1, a1)] zero21 tyOk21 cells21 (by decide) (by simp)
theorem bs21_3 (a0 a1 a2 : Int) : bsV Tryd.prog (some (.slice 21)) 3 [(0, .sc (.int .i32 a0)), (1, .sc (.int .i32 a1)), (2, .sc (.int .i32 a2))] = some (ints .i32 [a0, a1, a2], fun r => .sl r 0 3 1) := bs_ints .i32 21 3 [(0, a0), (1, a1), (2, a2)] zero21 tyOk21 cells21 (by decide) (by simp)
theorem bs21_4 (a0 a1 a2 a3 : Int) : bsV Tryd.prog (some (.slice 21)) 4 [(0, .sc (.int .i32 a0)), (1, .sc (.int .i32 a1)), (2, .sc (.int .i32 a2)), (3, .sc (.int .i32 a3))] = some (ints .i32 [a0, a1, a2, a3], fun r => .sl r 0 4 1) := bs_ints .i32 21 4 [(0, a0), (1, a1), (2, a2), (3, a3)] zero21 tyOk21 cells21 (by decide) (by simp)
theorem bs21_5 (a0 a1 a2 a3 a4 : Int) : bsV Tryd.prog (some (.slice 21)) 5 [(0, .sc (.int .i32 a0)), (1, .sc (.int .i32 a1)), (2, .sc (.int .i32 a2)), (3, .sc (.int .i32 a3)), (4, .sc (.int .i32 a4))] = some (ints .i32 [a0, a1, a2, a3, a4], fun r => .sl r 0 5 1) := bs_ints .i32 21 5 [(0, a0), (1, a1), (2, a2), (3, a3), (4, a4)] zero21 tyOk21 cells21 (by decide) (by simp)
theorem bs21_6 (a0 a1 a2 a3 a4 a5 : Int) : bsV Tryd.prog (some (.slice 21)) 6 [(0, .sc (.int .i32 a0)), (1, .sc (.int .i32 a1)), (2, .sc (.int .i32 a2)), (3, .sc (.int .i32 a3)), (4, .sc (.int .i32 a4)), (5, .sc (.int .i32 a5))] = some (ints .i32 [a0, a1, a2, a3, a4, a5], fun r => .sl r 0 6 1) := bs_ints .i32 21 6 [(0, a0), (1, a1), (2, a2), (3, a3), (4, a4), (5, a5)] zero21 tyOk21 cells21 (by decide) (by simp)
theorem bs21_7 (a0 a1 a2 a3 a4 a5 a6 : Int) : bsV Tryd.prog (some (.slice 21)) 7 [(0, .sc (.int .i32 a0)), (1, .sc (.int .i32 a1)), (2, .sc (.int .i32 a2)), (3, .sc (.int .i32 a3)), (4, .sc (.int .i32 a4)), (5, .sc (.int .i32 a5)), (6, .sc (.int .i32 a6))] = some (ints .i32 [a0, a1, a2, a3, a4, a5, a6], fun r => .sl r 0 7 1) := bs_ints .i32 21 7 [(0, a0), (1, a1), (2, a2), (3, a3), (4, a4), (5, a5), (6, a6)] zero21 tyOk21 cells21 (by decide) (by simp)
theorem bs21_8 (a0 a1 a2 a3 a4 a5 a6 a7 : Int) : bsV Tryd.prog (some (.slice 21)) 8 [(0, .sc (.int .i32 a0)), (1, .sc (.int .i32 a1)), (2, .sc (.int .i32 a2)), (3, .sc (.int .i32 a3)), (4, .sc (.int .i32 a4)), (5, .sc (.int .i32 a5)), (6, .sc (.int .i32 a6)), (7, .sc (.int .i32 a7))] = some (ints .i32 [a0, a1, a2, a3, a4, a5, a6, a7], fun r => .sl r 0 8 1) := bs_ints .i32 21 8 [(0, a0), (1, a1), (2, a2), (3, a3), (4, a4), (5, a5), (6, a6), (7, a7)] zero21 tyOk21 cells21 (by decide) (by simp)
theorem bs21_10 (a0 a1 a2 a3 a4 a5 a6 a7 a8 a9 : Int) : bsV Tryd.prog (some (.slice 21)) 10 [(0, .sc (.int .i32 a0)), (1, .sc (.int .i32 a1)), (2, .sc (.int .i32 a2)), (3, .sc (.int .i32 a3)), (4, .sc (.int .i32 a4)), (5, .sc (.int .i32 a5)), (6, .sc (.int .i32 a6)), (7, .sc (.int .i32 a7)), (8, .sc (.int .i32 a8)), (9, .sc (.int .i32 a9))] = some (ints .i32 [a0, a1, a2, a3, a4, a5, a6, a7, a8, a9], fun r => .sl r 0 10 1) := bs_ints .i32 21 10 [(0, a0), (1, a1), (2, a2), (3, a3), (4, a4), (5, a5), (6, a6), (7, a7), (8, a8), (9, a9)] zero21 tyOk21 cells21 (by decide) (by simp)
theorem bs21_11 (a0 a1 a2 a3 a4 a5 a6 a7 a8 a9 a10 : Int) : bsV Tryd.prog (some (.slice 21)) 11 [(0, .sc (.int .i32 a0)), (1, .sc (.int .i32 a1)), (2, .sc (.int .i32 a2)), (3, .sc (.int .i32 a3)), (4, .sc (.int .i32 a4)), (5, .sc (.int .i32 a5)), (6, .sc (.int .i32 a6)), (7, .sc (.int .i32 a7)), (8, .sc (.int .i32 a8)), (9, .sc (.int .i32 a9)), (10, .sc (.int .i32 a10))] = some (ints .i32 [a0, a1, a2, a3, a4, a5, a6, a7, a8, a9, a10], fun r => .sl r 0 11 1) := bs_ints .i32 21 11 [(0, a0), (1, a1), (2, a2), (3, a3), (4, a4), (5, a5), (6, a6), (7, a7), (8, a8), (9, a9), (10, a10)] zero21 tyOk21 cells21 (by decide) (by simp)
theorem bs21_12 (a0 a1 a2 a3 a4 a5 a6 a7 a8 a9 a10 a11 : Int) : bsV Tryd.prog (some (.slice 21)) 12 [(0, .sc (.int .i32 a0)), (1, .sc (.int .i32 a1)), (2, .sc (.int .i32 a2)), (3, .sc (.int .i32 a3)), (4, .sc (.int .i32 a4)), (5, .sc (.int .i32 a5)), (6, .sc (.int .i32 a6)), (7, .sc (.int .i32 a7)), (8, .sc (.int .i32 a8)), (9, .sc (.int .i32 a9)), (10, .sc (.int .i32 a10)), (11, .sc (.int .i32 a11))] = some (ints .i32 [a0, a1, a2, a3, a4, a5, a6, a7, a8, a9, a10, a11], fun r => .sl r 0 12 1) := bs_ints .i32 21 12 [(0, a0), (1, a1), (2, a2), (3, a3), (4, a4), (5, a5), (6, a6), (7, a7), (8, a8), (9, a9), (10, a10), (11, a11)] zero21 tyOk21 cells21 (by decide) (by simp)
theorem bs21_13 (a0 a1 a2 a3 a4 a5 a6 a7 a8 a9 a10 a11 a12 : Int) : bsV Tryd.prog (some (.slice 21)) 13 [(0, .sc (.int .i32 a0)), (1, .sc (.int .i32 a1)), (2, .sc (.int .i32 a2)), (3, .sc (.int .i32 a3)), (4, .sc (.int .i32 a4)), (5, .sc (.int .i32 a5)), (6, .sc (.int .i32 a6)), (7, .sc (.int .i32 a7)), (8, .sc (.int .i32 a8)), (9, .sc (.int .i32 a9)), (10, .sc (.int .i32 a10)), (11, .sc (.int .i32 a11)), (12, .sc (.int .i32 a12))] = some (ints .i32 [a0, a1, a2, a3, a4, a5, a6, a7, a8, a9, a10, a11, a12], fun r => .sl r 0 13 1) := bs_ints .i32 21 13 [(0, a0), (1, a1), (2, a2), (3, a3), (4, a4), (5, a5), (6, a6), (7, a7), (8, a8), (9, a9), (10, a10), (11, a11), (12, a12)] zero21 tyOk21 cells21 (by decide) (by simp)
theorem tyOk22 : tyOk Tryd.prog 22 = true := by kernel_rfl
theorem agg22 : aggB Tryd.prog 22 = true := by kernel_rfl
theorem cells22 : Tryd.prog.cellsOf 22 = 2 := by kernel_rfl
theorem zero22 : zeroA Tryd.prog 22 = some [.sc (.int .i64 0), .sc (.int .i64 0)] := by kernel_rfl
theorem tyOk23 : tyOk Tryd.prog 23 = true := by kernel_rfl
theorem agg23 : aggB Tryd.prog 23 = true := by kernel_rfl
theorem cells23 : Tryd.prog.cellsOf 23 = 2 := by kernel_rfl
theorem zero23 : zeroA Tryd.prog 23 = some [.sc (.int .i64 0), .sc (.int .i64 0)] := by kernel_rfl
theorem tyOk24 : tyOk Tryd.prog 24 = true := by kernel_rfl
theorem agg24 : aggB Tryd.prog 24 = true := by kernel_rfl
theorem cells24 : Tryd.prog.cellsOf 24 = 9 := by kernel_rfl
theorem zero24 : zeroA Tryd.prog 24 = some [.sc (.int .i64 0), .sc (.int .i64 0), .sc (.int .i64 0), .sc (.int .i64 0), .sc (.int .i64 0), .sc (.int .i64 0), .sc (.int .i64 0), .sc (.int .i64 0), .sc (.int .i64 0)] := by kernel_rfl
theorem tyOk25 : tyOk Tryd.prog 25 = true := by kernel_rfl
theorem agg25 : aggB Tryd.prog 25 = true := by kernel_rfl
theorem cells25 : Tryd.prog.cellsOf 25 = 9 := by kernel_rfl
theorem zero25 : zeroA Tryd.prog 25 = some [.sc (.int .i64 0), .sc (.int .i64 0), .sc (.int .i64 0), .sc (.int .i64 0), .sc (.int .i64 0), .sc (.int .i64 0), .sc (.int .i64 0), .sc (.int .i64 0), .sc (.int .i64 0)] := by kernel_rfl
theorem tyOk26 : tyOk Tryd.prog 26 = true := by kernel_rfl
theorem agg26 : aggB Tryd.prog 26 = true := by kernel_rfl
theorem cells26 : Tryd.prog.cellsOf 26 = 23 := by kernel_rfl
theorem zero26 : zeroA Tryd.prog 26 = some [.sc (.int .i64 0), .sc (.int .i64 0), .sc (.int .i64 0), .sc (.int .i64 0), .sc (.int .i64 0), .sc (.bool false), .sc (.int .i64 0), .sc (.int .i64 0), .sc (.int .i64 0), .sc (.int .i64 0), .sc (.int .i64 0), .sc (.int .i64 0), .sc (.int .i64 0), .sc (.int .i64 0), .sc (.int .i64 0), .sc (.int .i64 0), .sc (.int .i64 0), .sc (.int .i64 0), .sc (.int .i64 0), .sc (.int .i64 0), .sc (.int .i64 0), .sc (.int .i64 0), .sc (.int .i64 0)] := by kernel_rfl
theorem tyOk27 : tyOk Tryd.prog 27 = true := by kernel_rfl
theorem agg27 : aggB Tryd.prog 27 = true := by kernel_rfl
theorem cells27 : Tryd.prog.cellsOf 27 = 23 := by kernel_rfl
theorem zero27 : zeroA Tryd.prog 27 = some [.sc (.int .i64 0), .sc (.int .i64 0), .sc (.int .i64 0), .sc (.int .i64 0), .sc (.int .i64 0), .sc (.bool false), .sc (.int .i64 0), .sc (.int .i64 0), .sc (.int .i64 0), .sc (.int .i64 0), .sc (.int .i64 0), .sc (.int .i64 0), .sc (.int .i64 0), .sc (.int .i64 0), .sc (.int .i64 0), .sc (.int .i64 0), .sc (.int .i64 0), .sc (.int .i64 0), .sc (.int .i64 0), .sc (.int .i64 0), .sc (.int .i64 0), .sc (.int .i64 0), .sc (.int .i64 0)] := by kernel_rfl
theorem info27 : (Tryd.prog.info? 27).map (·.bytes) = some 184 := by kernel_rfl
theorem tyOk28 : tyOk Tryd.prog 28 = true := by kernel_rfl
theorem agg28 : aggB Tryd.prog 28 = false := by kernel_rfl
theorem cells28 : Tryd.prog.cellsOf 28 = 1 := by kernel_rfl
theorem tyOk29 : tyOk Tryd.prog 29 = true := by kernel_rfl
theorem agg29 : aggB Tryd.prog 29 = true := by kernel_rfl
theorem cells29 : Tryd.prog.cellsOf 29 = 2 := by kernel_rfl
theorem zero29 : zeroA Tryd.prog 29 = some [.sc (.int .i64 0), .sc (.int .i64 0)] := by kernel_rfl
theorem tyOk30 : tyOk Tryd.prog 30 = true := by kernel_rfl
theorem agg30 : aggB Tryd.prog 30 = true := by kernel_rfl
theorem cells30 : Tryd.prog.cellsOf 30 = 9 := by kernel_rfl
theorem zero30 : zeroA Tryd.prog 30 = some [.sc (.int .i64 0), .sc (.int .i64 0), .sc (.int .i64 0), .sc (.int .i64 0), .sc (.int .i64 0), .sc (.int .i64 0), .sc (.int .i64 0), .sc (.int .i64 0), .sc (.int .i64 0)] := by kernel_rfl
theorem tyOk31 : tyOk Tryd.prog 31 = true := by kernel_rfl
theorem agg31 : aggB Tryd.prog 31 = true := by kernel_rfl
theorem cells31 : Tryd.prog.cellsOf 31 = 9 := by kernel_rfl
theorem zero31 : zeroA Tryd.prog 31 = some [.sc (.int .i64 0), .sc (.int .i64 0), .sc (.int .i64 0), .sc (.int .i64 0), .sc (.int .i64 0), .sc (.int .i64 0), .sc (.int .i64 0), .sc (.int .i64 0), .sc (.int .i64 0)] := by kernel_rfl
theorem tyOk32 : tyOk Tryd.prog 32 = true := by kernel_rfl
theorem agg32 : aggB Tryd.prog 32 = true := by kernel_rfl
theorem cells32 : Tryd.prog.cellsOf 32 = 23 := by kernel_rfl
theorem zero32 : zeroA Tryd.prog 32 = some [.sc (.int .i64 0), .sc (.int .i64 0), .sc (.int .i64 0), .sc (.int .i64 0), .sc (.int .i64 0), .sc (.bool false), .sc (.int .i64 0), .sc (.int .i64 0), .sc (.int .i64 0), .sc (.int .i64 0), .sc (.int .i64 0), .sc (.int .i64 0), .sc (.int .i64 0), .sc (.int .i64 0), .sc (.int .i64 0), .sc (.int .i64 0), .sc (.int .i64 0), .sc (.int .i64 0), .sc (.int .i64 0), .sc (.int .i64 0), .sc (.int .i64 0), .sc (.int .i64 0), .sc (.int .i64 0)] := by kernel_rfl
theorem tyOk33 : tyOk Tryd.prog 33 = true := by kernel_rfl
theorem agg33 : aggB Tryd.prog 33 = true := by kernel_rfl
theorem cells33 : Tryd.prog.cellsOf 33 = 23 := by kernel_rfl
theorem zero33 : zeroA Tryd.prog 33 = some [.sc (.int .i64 0), .sc (.int .i64 0), .sc (.int .i64 0), .sc (.int .i64 0), .sc (.int .i64 0), .sc (.bool false), .sc (.int .i64 0), .sc (.int .i64 0), .sc (.int .i64 0), .sc (.int .i64 0), .sc (.int .i64 0), .sc (.int .i64 0), .sc (.int .i64 0), .sc (.int .i64 0), .sc (.int .i64 0), .sc (.int .i64 0), .sc (.int .i64 0), .sc (.int .i64 0), .sc (.int .i64 0), .sc (.int .i64 0), .sc (.int .i64 0), .sc (.int .i64 0), .sc (.int .i64 0)] := by kernel_rfl
theorem info33 : (Tryd.prog.info? 33).map (·.bytes) = some 184 := by kernel_rfl
theorem tyOk34 : tyOk Tryd.prog 34 = true := by kernel_rfl
theorem agg34 : aggB Tryd.prog 34 = false := by kernel_rfl
theorem cells34 : Tryd.prog.cellsOf 34 = 1 := by kernel_rfl
theorem tyOk35 : tyOk Tryd.prog 35 = true := by kernel_rfl
theorem agg35 : aggB Tryd.prog 35 = false := by kernel_rfl
theorem cells35 : Tryd.prog.cellsOf 35 = 1 := by kernel_rfl
theorem tyOk36 : tyOk Tryd.prog 36 = true := by kernel_rfl
theorem agg36 : aggB Tryd.prog 36 = false := by kernel_rfl
theorem cells36 : Tryd.prog.cellsOf 36 = 1 := by kernel_rfl
theorem zero36 : zeroA Tryd.prog 36 = some [.sc (.slice none 0 0)] := by kernel_rfl
theorem tyOk37 : tyOk Tryd.prog 37 = true := by kernel_rfl
theorem agg37 : aggB Tryd.prog 37 = true := by kernel_rfl
theorem cells37 : Tryd.prog.cellsOf 37 = 1 := by kernel_rfl
theorem zero37 : zeroA Tryd.prog 37 = some [.sc (.slice none 0 0)] := by kernel_rfl
theorem tyOk38 : tyOk Tryd.prog 38 = true := by kernel_rfl
theorem agg38 : aggB Tryd.prog 38 = true := by kernel_rfl
theorem cells38 : Tryd.prog.cellsOf 38 = 1 := by kernel_rfl
theorem zero38 : zeroA Tryd.prog 38 = some [.sc (.slice none 0 0)] := by kernel_rfl
theorem tyOk39 : tyOk Tryd.prog 39 = true := by kernel_rfl
theorem agg39 : aggB Tryd.prog 39 = false := by kernel_rfl
theorem cells39 : Tryd.prog.cellsOf 39 = 1 := by kernel_rfl
theorem tyOk40 : tyOk Tryd.prog 40 = true := by kernel_rfl
theorem agg40 : aggB Tryd.prog 40 = false := by kernel_rfl
theorem cells40 : Tryd.prog.cellsOf 40 = 1 := by kernel_rfl
theorem tyOk41 : tyOk Tryd.prog 41 = true := by kernel_rfl
theorem agg41 : aggB Tryd.prog 41 = false := by kernel_rfl
theorem cells41 : Tryd.prog.cellsOf 41 = 1 := by kernel_rfl
theorem zero41 : zeroA Tryd.prog 41 = some [.sc (.slice none 0 0)] := by kernel_rfl
theorem tyOk42 : tyOk Tryd.prog 42 = true := by kernel_rfl
theorem agg42 : aggB Tryd.prog 42 = true := by kernel_rfl
theorem cells42 : Tryd.prog.cellsOf 42 = 1 := by kernel_rfl
theorem zero42 : zeroA Tryd.prog 42 = some [.sc (.slice none 0 0)] := by kernel_rfl
theorem tyOk43 : tyOk Tryd.prog 43 = true := by kernel_rfl
theorem agg43 : aggB Tryd.prog 43 = true := by kernel_rfl
theorem cells43 : Tryd.prog.cellsOf 43 = 1 := by kernel_rfl
theorem zero43 : zeroA Tryd.prog 43 = some [.sc (.slice none 0 0)] := by kernel_rfl
theorem tyOk44 : tyOk Tryd.prog 44 = true := by kernel_rfl
theorem agg44 : aggB Tryd.prog 44 = false := by kernel_rfl
theorem cells44 : Tryd.prog.cellsOf 44 = 1 := by kernel_rfl
theorem tyOk45 : tyOk Tryd.prog 45 = true := by kernel_rfl
theorem agg45 : aggB Tryd.prog 45 = false := by kernel_rfl
theorem cells45 : Tryd.prog.cellsOf 45 = 1 := by kernel_rfl
theorem tyOk46 : tyOk Tryd.prog 46 = true := by kernel_rfl
theorem agg46 : aggB Tryd.prog 46 = false := by kernel_rfl
theorem cells46 : Tryd.prog.cellsOf 46 = 1 := by kernel_rfl
theorem tyOk47 : tyOk Tryd.prog 47 = true := by kernel_rfl
theorem agg47 : aggB Tryd.prog 47 = false := by kernel_rfl
theorem cells47 : Tryd.prog.cellsOf 47 = 1 := by kernel_rfl
theorem zero47 : zeroA Tryd.prog 47 = some [.sc (.slice none 0 0)] := by kernel_rfl
theorem tyOk48 : tyOk Tryd.prog 48 = true := by kernel_rfl
theorem agg48 : aggB Tryd.prog 48 = false := by kernel_rfl
theorem cells48 : Tryd.prog.cellsOf 48 = 1 := by kernel_rfl
theorem zero48 : zeroA Tryd.prog 48 = some [.sc (.slice none 0 0)] := by kernel_rfl
theorem tyOk49 : tyOk Tryd.prog 49 = true := by kernel_rfl
theorem agg49 : aggB Tryd.prog 49 = false := by kernel_rfl
theorem cells49 : Tryd.prog.cellsOf 49 = 1 := by kernel_rfl
theorem zero49 : zeroA Tryd.prog 49 = some [.sc (.slice none 0 0)] := by kernel_rfl
theorem tyOk50 : tyOk Tryd.prog 50 = true := by kernel_rfl
theorem agg50 : aggB Tryd.prog 50 = false := by kernel_rfl
theorem cells50 : Tryd.prog.cellsOf 50 = 1 := by kernel_rfl
theorem zero50 : zeroA Tryd.prog 50 = some [.sc (.slice none 0 0)] := by kernel_rfl
theorem tyOk51 : tyOk Tryd.prog 51 = true := by kernel_rfl
theorem agg51 : aggB Tryd.prog 51 = true := by kernel_rfl
theorem cells51 : Tryd.prog.cellsOf 51 = 7 := by kernel_rfl
theorem zero51 : zeroA Tryd.prog 51 = some [.sc (.int .i64 0), .sc (.int .i64 0), .sc (.slice none 0 0), .sc (.slice none 0 0), .sc (.slice none 0 0), .sc (.slice none 0 0), .sc (.int .i64 0)] := by kernel_rfl
theorem tyOk52 : tyOk Tryd.prog 52 = true := by kernel_rfl
theorem agg52 : aggB Tryd.prog 52 = true := by kernel_rfl
theorem cells52 : Tryd.prog.cellsOf 52 = 7 := by kernel_rfl
theorem zero52 : zeroA Tryd.prog 52 = some [.sc (.int .i64 0), .sc (.int .i64 0), .sc (.slice none 0 0), .sc (.slice none 0 0), .sc (.slice none 0 0), .sc (.slice none 0 0), .sc (.int .i64 0)] := by kernel_rfl
theorem tyOk53 : tyOk Tryd.prog 53 = true := by kernel_rfl
theorem agg53 : aggB Tryd.prog 53 = false := by kernel_rfl
theorem cells53 : Tryd.prog.cellsOf 53 = 1 := by kernel_rfl
theorem tyOk54 : tyOk Tryd.prog 54 = true := by kernel_rfl
theorem agg54 : aggB Tryd.prog 54 = false := by kernel_rfl
theorem cells54 : Tryd.prog.cellsOf 54 = 1 := by kernel_rfl
theorem tyOk55 : tyOk Tryd.prog 55 = true := by kernel_rfl
theorem agg55 : aggB Tryd.prog 55 = false := by kernel_rfl
theorem cells55 : Tryd.prog.cellsOf 55 = 1 := by kernel_rfl
theorem zero55 : zeroA Tryd.prog 55 = some [.sc (.slice none 0 0)] := by kernel_rfl
theorem tyOk56 : tyOk Tryd.prog 56 = true := by kernel_rfl
theorem agg56 : aggB Tryd.prog 56 = false := by kernel_rfl
theorem cells56 : Tryd.prog.cellsOf 56 = 1 := by kernel_rfl
theorem zero56 : zeroA Tryd.prog 56 = some [.sc (.slice none 0 0)] := by kernel_rfl
theorem tyOk57 : tyOk Tryd.prog 57 = true := by kernel_rfl
theorem agg57 : aggB Tryd.prog 57 = false := by kernel_rfl
theorem cells57 : Tryd.prog.cellsOf 57 = 1 := by kernel_rfl
theorem zero57 : zeroA Tryd.prog 57 = some [.sc (.slice none 0 0)] := by kernel_rfl
theorem tyOk58 : tyOk Tryd.prog 58 = true := by kernel_rfl
theorem agg58 : aggB Tryd.prog 58 = false := by kernel_rfl
theorem cells58 : Tryd.prog.cellsOf 58 = 1 := by kernel_rfl
theorem zero58 : zeroA Tryd.prog 58 = some [.sc (.slice none 0 0)] := by kernel_rfl
theorem tyOk59 : tyOk Tryd.prog 59 = true := by kernel_rfl
theorem agg59 : aggB Tryd.prog 59 = true := by kernel_rfl
theorem cells59 : Tryd.prog.cellsOf 59 = 7 := by kernel_rfl
theorem zero59 : zeroA Tryd.prog 59 = some [.sc (.int .i64 0), .sc (.int .i64 0), .sc (.slice none 0 0), .sc (.slice none 0 0), .sc (.slice none 0 0), .sc (.slice none 0 0), .sc (.int .i64 0)] := by kernel_rfl
theorem tyOk60 : tyOk Tryd.prog 60 = true := by kernel_rfl
theorem agg60 : aggB Tryd.prog 60 = true := by kernel_rfl
theorem cells60 : Tryd.prog.cellsOf 60 = 7 := by kernel_rfl
theorem zero60 : zeroA Tryd.prog 60 = some [.sc (.int .i64 0), .sc (.int .i64 0), .sc (.slice none 0 0), .sc (.slice none 0 0), .sc (.slice none 0 0), .sc (.slice none 0 0), .sc (.int .i64 0)] := by kernel_rfl
theorem tyOk61 : tyOk Tryd.prog 61 = true := by kernel_rfl
theorem agg61 : aggB Tryd.prog 61 = false := by kernel_rfl
theorem cells61 : Tryd.prog.cellsOf 61 = 1 := by kernel_rfl
theorem tyOk62 : tyOk Tryd.prog 62 = true := by kernel_rfl
theorem agg62 : aggB Tryd.prog 62 = false := by kernel_rfl
theorem cells62 : Tryd.prog.cellsOf 62 = 1 := by kernel_rfl
theorem tyOk63 : tyOk Tryd.prog 63 = true := by kernel_rfl
theorem agg63 : aggB Tryd.prog 63 = false := by kernel_rfl
theorem cells63 : Tryd.prog.cellsOf 63 = 1 := by kernel_rfl
theorem tyOk64 : tyOk Tryd.prog 64 = true := by kernel_rfl
theorem agg64 : aggB Tryd.prog 64 = false := by kernel_rfl
theorem cells64 : Tryd.prog.cellsOf 64 = 1 := by kernel_rfl
theorem zero64 : zeroA Tryd.prog 64 = some [.sc (.slice none 0 0)] := by kernel_rfl
theorem tyOk65 : tyOk Tryd.prog 65 = true := by kernel_rfl
theorem agg65 : aggB Tryd.prog 65 = false := by kernel_rfl
theorem cells65 : Tryd.prog.cellsOf 65 = 1 := by kernel_rfl
theorem zero65 : zeroA Tryd.prog 65 = some [.sc (.slice none 0 0)] := by kernel_rfl
theorem tyOk66 : tyOk Tryd.prog 66 = true := by kernel_rfl
theorem agg66 : aggB Tryd.prog 66 = false := by kernel_rfl
theorem cells66 : Tryd.prog.cellsOf 66 = 1 := by kernel_rfl
theorem zero66 : zeroA Tryd.prog 66 = some [.sc (.slice none 0 0)] := by kernel_rfl
theorem tyOk67 : tyOk Tryd.prog 67 = true := by kernel_rfl
theorem agg67 : aggB Tryd.prog 67 = false := by kernel_rfl
theorem cells67 : Tryd.prog.cellsOf 67 = 1 := by kernel_rfl
theorem zero67 : zeroA Tryd.prog 67 = some [.sc (.slice none 0 0)] := by kernel_rfl
theorem tyOk68 : tyOk Tryd.prog 68 = true := by kernel_rfl
theorem agg68 : aggB Tryd.prog 68 = true := by kernel_rfl
theorem cells68 : Tryd.prog.cellsOf 68 = 20 := by kernel_rfl
theorem zero68 : zeroA Tryd.prog 68 = some [.sc (.slice none 0 0), .sc (.slice none 0 0), .sc (.slice none 0 0), .sc (.int .i64 0), .sc (.int .i64 0), .sc (.slice none 0 0), .sc (.slice none 0 0), .sc (.slice none 0 0), .sc (.slice none 0 0), .sc (.int .i64 0), .sc (.slice none 0 0), .sc (.int .i64 0), .sc (.int .i64 0), .sc (.slice none 0 0), .sc (.slice none 0 0), .sc (.slice none 0 0), .sc (.slice none 0 0), .sc (.slice none 0 0), .sc (.slice none 0 0), .sc (.slice none 0 0)] := by kernel_rfl
theorem tyOk69 : tyOk Tryd.prog 69 = true := by kernel_rfl
theorem agg69 : aggB Tryd.prog 69 = true := by kernel_rfl
theorem cells69 : Tryd.prog.cellsOf 69 = 20 := by kernel_rfl
theorem zero69 : zeroA Tryd.prog 69 = some [.sc (.slice none 0 0), .sc (.slice none 0 0), .sc (.slice none 0 0), .sc (.int .i64 0), .sc (.int .i64 0), .sc (.slice none 0 0), .sc (.slice none 0 0), .sc (.slice none 0 0), .sc (.slice none 0 0), .sc (.int .i64 0), .sc (.slice none 0 0), .sc (.int .i64 0), .sc (.int .i64 0), .sc (.slice none 0 0), .sc (.slice none 0 0), .sc (.slice none 0 0), .sc (.slice none 0 0), .sc (.slice none 0 0), .sc (.slice none 0 0), .sc (.slice none 0 0)] := by kernel_rfl
theorem tyOk70 : tyOk Tryd.prog 70 = true := by kernel_rfl
theorem agg70 : aggB Tryd.prog 70 = false := by kernel_rfl
theorem cells70 : Tryd.prog.cellsOf 70 = 1 := by kernel_rfl
theorem tyOk71 : tyOk Tryd.prog 71 = true := by kernel_rfl
theorem agg71 : aggB Tryd.prog 71 = false := by kernel_rfl
theorem cells71 : Tryd.prog.cellsOf 71 = 1 := by kernel_rfl
theorem tyOk72 : tyOk Tryd.prog 72 = true := by kernel_rfl
theorem agg72 : aggB Tryd.prog 72 = false := by kernel_rfl
theorem cells72 : Tryd.prog.cellsOf 72 = 1 := by kernel_rfl
theorem zero72 : zeroA Tryd.prog 72 = some [.sc (.slice none 0 0)] := by kernel_rfl
theorem tyOk73 : tyOk Tryd.prog 73 = true := by kernel_rfl
theorem agg73 : aggB Tryd.prog 73 = false := by kernel_rfl
theorem cells73 : Tryd.prog.cellsOf 73 = 1 := by kernel_rfl
theorem zero73 : zeroA Tryd.prog 73 = some [.sc (.slice none 0 0)] := by kernel_rfl
theorem tyOk74 : tyOk Tryd.prog 74 = true := by kernel_rfl
theorem agg74 : aggB Tryd.prog 74 = false := by kernel_rfl
theorem cells74 : Tryd.prog.cellsOf 74 = 1 := by kernel_rfl
theorem zero74 : zeroA Tryd.prog 74 = some [.sc (.slice none 0 0)] := by kernel_rfl
theorem tyOk75 : tyOk Tryd.prog 75 = true := by kernel_rfl
theorem agg75 : aggB Tryd.prog 75 = true := by kernel_rfl
theorem cells75 : Tryd.prog.cellsOf 75 = 20 := by kernel_rfl
theorem zero75 : zeroA Tryd.prog 75 = some [.sc (.slice none 0 0), .sc (.slice none 0 0), .sc (.slice none 0 0), .sc (.int .i64 0), .sc (.int .i64 0), .sc (.slice none 0 0), .sc (.slice none 0 0), .sc (.slice none 0 0), .sc (.slice none 0 0), .sc (.int .i64 0), .sc (.slice none 0 0), .sc (.int .i64 0), .sc (.int .i64 0), .sc (.slice none 0 0), .sc (.slice none 0 0), .sc (.slice none 0 0), .sc (.slice none 0 0), .sc (.slice none 0 0), .sc (.slice none 0 0), .sc (.slice none 0 0)] := by kernel_rfl
theorem tyOk76 : tyOk Tryd.prog 76 = true := by kernel_rfl
theorem agg76 : aggB Tryd.prog 76 = true := by kernel_rfl
theorem cells76 : Tryd.prog.cellsOf 76 = 20 := by kernel_rfl
theorem zero76 : zeroA Tryd.prog 76 = some [.sc (.slice none 0 0), .sc (.slice none 0 0), .sc (.slice none 0 0), .sc (.int .i64 0), .sc (.int .i64 0), .sc (.slice none 0 0), .sc (.slice none 0 0), .sc (.slice none 0 0), .sc (.slice none 0 0), .sc (.int .i64 0), .sc (.slice none 0 0), .sc (.int .i64 0), .sc (.int .i64 0), .sc (.slice none 0 0), .sc (.slice none 0 0), .sc (.slice none 0 0), .sc (.slice none 0 0), .sc (.slice none 0 0), .sc (.slice none 0 0), .sc (.slice none 0 0)] := by kernel_rfl
theorem tyOk77 : tyOk Tryd.prog 77 = true := by kernel_rfl
theorem agg77 : aggB Tryd.prog 77 = false := by kernel_rfl
theorem cells77 : Tryd.prog.cellsOf 77 = 1 := by kernel_rfl
theorem tyOk78 : tyOk Tryd.prog 78 = true := by kernel_rfl
theorem agg78 : aggB Tryd.prog 78 = false := by kernel_rfl
theorem cells78 : Tryd.prog.cellsOf 78 = 1 := by kernel_rfl
theorem tyOk79 : tyOk Tryd.prog 79 = true := by kernel_rfl
theorem agg79 : aggB Tryd.prog 79 = false := by kernel_rfl
theorem cells79 : Tryd.prog.cellsOf 79 = 1 := by kernel_rfl
theorem tyOk80 : tyOk Tryd.prog 80 = true := by kernel_rfl
theorem agg80 : aggB Tryd.prog 80 = false := by kernel_rfl
theorem cells80 : Tryd.prog.cellsOf 80 = 1 := by kernel_rfl
theorem zero80 : zeroA Tryd.prog 80 = some [.sc (.slice none 0 0)] := by kernel_rfl
theorem tyOk81 : tyOk Tryd.prog 81 = true := by kernel_rfl
theorem agg81 : aggB Tryd.prog 81 = false := by kernel_rfl
theorem cells81 : Tryd.prog.cellsOf 81 = 1 := by kernel_rfl
theorem tyOk82 : tyOk Tryd.prog 82 = true := by kernel_rfl
theorem agg82 : aggB Tryd.prog 82 = false := by kernel_rfl
theorem cells82 : Tryd.prog.cellsOf 82 = 1 := by kernel_rfl
theorem tyOk83 : tyOk Tryd.prog 83 = true := by kernel_rfl
theorem agg83 : aggB Tryd.prog 83 = false := by kernel_rfl
theorem cells83 : Tryd.prog.cellsOf 83 = 1 := by kernel_rfl
theorem tyOk84 : tyOk Tryd.prog 84 = true := by kernel_rfl
theorem agg84 : aggB Tryd.prog 84 = false := by kernel_rfl
theorem cells84 : Tryd.prog.cellsOf 84 = 1 := by kernel_rfl
theorem tyOk85 : tyOk Tryd.prog 85 = true := by kernel_rfl
theorem agg85 : aggB Tryd.prog 85 = false := by kernel_rfl
theorem cells85 : Tryd.prog.cellsOf 85 = 1 := by kernel_rfl
theorem tyOk86 : tyOk Tryd.prog 86 = true := by kernel_rfl
theorem agg86 : aggB Tryd.prog 86 = false := by kernel_rfl
theorem cells86 : Tryd.prog.cellsOf 86 = 1 := by kernel_rfl
theorem tyOk87 : tyOk Tryd.prog 87 = true := by kernel_rfl
theorem agg87 : aggB Tryd.prog 87 = false := by kernel_rfl
theorem cells87 : Tryd.prog.cellsOf 87 = 1 := by kernel_rfl
theorem zero87 : zeroA Tryd.prog 87 = some [.sc (.slice none 0 0)] := by kernel_rfl
theorem tyOk88 : tyOk Tryd.prog 88 = true := by kernel_rfl
theorem agg88 : aggB Tryd.prog 88 = false := by kernel_rfl
theorem cells88 : Tryd.prog.cellsOf 88 = 1 := by kernel_rfl
theorem tyOk89 : tyOk Tryd.prog 89 = true := by kernel_rfl
theorem agg89 : aggB Tryd.prog 89 = false := by kernel_rfl
theorem cells89 : Tryd.prog.cellsOf 89 = 1 := by kernel_rfl
theorem tyOk90 : tyOk Tryd.prog 90 = true := by kernel_rfl
theorem agg90 : aggB Tryd.prog 90 = false := by kernel_rfl
theorem cells90 : Tryd.prog.cellsOf 90 = 1 := by kernel_rfl
theorem tyOk91 : tyOk Tryd.prog 91 = true := by kernel_rfl
theorem agg91 : aggB Tryd.prog 91 = false := by kernel_rfl
theorem cells91 : Tryd.prog.cellsOf 91 = 1 := by kernel_rfl
theorem tyOk92 : tyOk Tryd.prog 92 = true := by kernel_rfl
theorem agg92 : aggB Tryd.prog 92 = false := by kernel_rfl
theorem cells92 : Tryd.prog.cellsOf 92 = 1 := by kernel_rfl
theorem tyOk93 : tyOk Tryd.prog 93 = true := by kernel_rfl
theorem agg93 : aggB Tryd.prog 93 = false := by kernel_rfl
theorem cells93 : Tryd.prog.cellsOf 93 = 1 := by kernel_rfl
theorem tyOk94 : tyOk Tryd.prog 94 = true := by kernel_rfl
theorem agg94 : aggB Tryd.prog 94 = true := by kernel_rfl
theorem cells94 : Tryd.prog.cellsOf 94 = 20 := by kernel_rfl
theorem zero94 : zeroA Tryd.prog 94 = some [.sc (.int .i64 0), .sc (.int .i64 0), .sc (.int .i64 0), .sc (.int .i64 0), .sc (.int .i64 0), .sc (.int .i64 0), .sc (.int .i64 0), .sc (.int .i64 0), .sc (.int .i64 0), .sc (.int .i64 0), .sc (.int .i64 0), .sc (.int .i64 0), .sc (.int .i64 0), .sc (.int .i64 0), .sc (.int .i64 0), .sc (.int .i64 0), .sc (.int .i64 0), .sc (.int .i64 0), .sc (.int .i64 0), .sc (.int .i64 0)] := by kernel_rfl
theorem tyOk95 : tyOk Tryd.prog 95 = true := by kernel_rfl
theorem agg95 : aggB Tryd.prog 95 = true := by kernel_rfl
theorem cells95 : Tryd.prog.cellsOf 95 = 20 := by kernel_rfl
theorem zero95 : zeroA Tryd.prog 95 = some [.sc (.int .i64 0), .sc (.int .i64 0), .sc (.int .i64 0), .sc (.int .i64 0), .sc (.int .i64 0), .sc (.int .i64 0), .sc (.int .i64 0), .sc (.int .i64 0), .sc (.int .i64 0), .sc (.int .i64 0), .sc (.int .i64 0), .sc (.int .i64 0), .sc (.int .i64 0), .sc (.int .i64 0), .sc (.int .i64 0), .sc (.int .i64 0), .sc (.int .i64 0), .sc (.int .i64 0), .sc (.int .i64 0), .sc (.int .i64 0)] := by kernel_rfl
theorem info95 : (Tryd.prog.info? 95).map (·.bytes) = some 160 := by kernel_rfl
theorem tyOk96 : tyOk Tryd.prog 96 = true := by kernel_rfl
theorem agg96 : aggB Tryd.prog 96 = true := by kernel_rfl
theorem cells96 : Tryd.prog.cellsOf 96 = 4 := by kernel_rfl
theorem zero96 : zeroA Tryd.prog 96 = some [.sc (.int .i64 0), .sc (.int .i64 0), .sc (.int .i64 0), .sc (.int .i64 0)] := by kernel_rfl
theorem tyOk97 : tyOk Tryd.prog 97 = true := by kernel_rfl
theorem agg97 : aggB Tryd.prog 97 = true := by kernel_rfl
theorem cells97 : Tryd.prog.cellsOf 97 = 4 := by kernel_rfl
theorem zero97 : zeroA Tryd.prog 97 = some [.sc (.int .i64 0), .sc (.int .i64 0), .sc (.int .i64 0), .sc (.int .i64 0)] := by kernel_rfl
theorem tyOk98 : tyOk Tryd.prog 98 = true := by kernel_rfl
theorem agg98 : aggB Tryd.prog 98 = true := by kernel_rfl
theorem cells98 : Tryd.prog.cellsOf 98 = 5 := by kernel_rfl
theorem zero98 : zeroA Tryd.prog 98 = some [.sc (.int .i64 0), .sc (.int .i64 0), .sc (.int .i64 0), .sc (.int .i64 0), .sc (.int .i64 0)] := by kernel_rfl
theorem tyOk99 : tyOk Tryd.prog 99 = true := by kernel_rfl
theorem agg99 : aggB Tryd.prog 99 = true := by kernel_rfl
theorem cells99 : Tryd.prog.cellsOf 99 = 5 := by kernel_rfl
theorem zero99 : zeroA Tryd.prog 99 = some [.sc (.int .i64 0), .sc (.int .i64 0), .sc (.int .i64 0), .sc (.int .i64 0), .sc (.int .i64 0)] := by kernel_rfl
theorem info99 : (Tryd.prog.info? 99).map (·.bytes) = some 40 := by kernel_rfl
theorem tyOk100 : tyOk Tryd.prog 100 = true := by kernel_rfl
theorem agg100 : aggB Tryd.prog 100 = false := by kernel_rfl
theorem cells100 : Tryd.prog.cellsOf 100 = 1 := by kernel_rfl
theorem tyOk101 : tyOk Tryd.prog 101 = true := by kernel_rfl
theorem agg101 : aggB Tryd.prog 101 = false := by kernel_rfl
theorem cells101 : Tryd.prog.cellsOf 101 = 1 := by kernel_rfl
theorem tyOk102 : tyOk Tryd.prog 102 = true := by kernel_rfl
theorem agg102 : aggB Tryd.prog 102 = false := by kernel_rfl
theorem cells102 : Tryd.prog.cellsOf 102 = 1 := by kernel_rfl
theorem tyOk103 : tyOk Tryd.prog 103 = true := by kernel_rfl
theorem agg103 : aggB Tryd.prog 103 = false := by kernel_rfl
theorem cells103 : Tryd.prog.cellsOf 103 = 1 := by kernel_rfl
theorem tyOk104 : tyOk Tryd.prog 104 = true := by kernel_rfl
theorem agg104 : aggB Tryd.prog 104 = false := by kernel_rfl
theorem cells104 : Tryd.prog.cellsOf 104 = 1 := by kernel_rfl
theorem tyOk105 : tyOk Tryd.prog 105 = true := by kernel_rfl
theorem agg105 : aggB Tryd.prog 105 = false := by kernel_rfl
theorem cells105 : Tryd.prog.cellsOf 105 = 1 := by kernel_rfl
theorem tyOk106 : tyOk Tryd.prog 106 = true := by kernel_rfl
theorem agg106 : aggB Tryd.prog 106 = false := by kernel_rfl
theorem cells106 : Tryd.prog.cellsOf 106 = 1 := by kernel_rfl
theorem tyOk107 : tyOk Tryd.prog 107 = true := by kernel_rfl
theorem agg107 : aggB Tryd.prog 107 = false := by kernel_rfl
theorem cells107 : Tryd.prog.cellsOf 107 = 1 := by kernel_rfl
theorem tyOk108 : tyOk Tryd.prog 108 = true := by kernel_rfl
theorem agg108 : aggB Tryd.prog 108 = false := by kernel_rfl
theorem cells108 : Tryd.prog.cellsOf 108 = 1 := by kernel_rfl
theorem tyOk109 : tyOk Tryd.prog 109 = true := by kernel_rfl
theorem agg109 : aggB Tryd.prog 109 = false := by kernel_rfl
theorem cells109 : Tryd.prog.cellsOf 109 = 1 := by kernel_rfl
theorem tyOk110 : tyOk Tryd.prog 110 = true := by kernel_rfl
theorem agg110 : aggB Tryd.prog 110 = false := by kernel_rfl
theorem cells110 : Tryd.prog.cellsOf 110 = 1 := by kernel_rfl
theorem tyOk111 : tyOk Tryd.prog 111 = true := by kernel_rfl
theorem agg111 : aggB Tryd.prog 111 = false := by kernel_rfl
theorem cells111 : Tryd.prog.cellsOf 111 = 1 := by kernel_rfl
theorem tyOk112 : tyOk Tryd.prog 112 = true := by kernel_rfl
theorem agg112 : aggB Tryd.prog 112 = false := by kernel_rfl
theorem cells112 : Tryd.prog.cellsOf 112 = 1 := by kernel_rfl
theorem tyOk113 : tyOk Tryd.prog 113 = true := by kernel_rfl
theorem agg113 : aggB Tryd.prog 113 = false := by kernel_rfl
theorem cells113 : Tryd.prog.cellsOf 113 = 1 := by kernel_rfl
theorem tyOk114 : tyOk Tryd.prog 114 = true := by kernel_rfl
theorem agg114 : aggB Tryd.prog 114 = false := by kernel_rfl
theorem cells114 : Tryd.prog.cellsOf 114 = 1 := by kernel_rfl
theorem tyOk115 : tyOk Tryd.prog 115 = true := by kernel_rfl
theorem agg115 : aggB Tryd.prog 115 = false := by kernel_rfl
theorem cells115 : Tryd.prog.cellsOf 115 = 1 := by kernel_rfl
theorem tyOk116 : tyOk Tryd.prog 116 = true := by kernel_rfl
theorem agg116 : aggB Tryd.prog 116 = false := by kernel_rfl
theorem cells116 : Tryd.prog.cellsOf 116 = 1 := by kernel_rfl
theorem tyOk117 : tyOk Tryd.prog 117 = true := by kernel_rfl
theorem agg117 : aggB Tryd.prog 117 = false := by kernel_rfl
theorem cells117 : Tryd.prog.cellsOf 117 = 1 := by kernel_rfl
theorem tyOk118 : tyOk Tryd.prog 118 = true := by kernel_rfl
theorem agg118 : aggB Tryd.prog 118 = false := by kernel_rfl
theorem cells118 : Tryd.prog.cellsOf 118 = 1 := by kernel_rfl
theorem tyOk119 : tyOk Tryd.prog 119 = true := by kernel_rfl
theorem agg119 : aggB Tryd.prog 119 = false := by kernel_rfl
theorem cells119 : Tryd.prog.cellsOf 119 = 1 := by kernel_rfl
theorem tyOk120 : tyOk Tryd.prog 120 = true := by kernel_rfl
theorem agg120 : aggB Tryd.prog 120 = false := by kernel_rfl
theorem cells120 : Tryd.prog.cellsOf 120 = 1 := by kernel_rfl
theorem tyOk121 : tyOk Tryd.prog 121 = true := by kernel_rfl
theorem agg121 : aggB Tryd.prog 121 = false := by kernel_rfl
theorem cells121 : Tryd.prog.cellsOf 121 = 1 := by kernel_rfl
theorem tyOk122 : tyOk Tryd.prog 122 = true := by kernel_rfl
theorem agg122 : aggB Tryd.prog 122 = true := by kernel_rfl
theorem cells122 : Tryd.prog.cellsOf 122 = 4 := by kernel_rfl
theorem zero122 : zeroA Tryd.prog 122 = some [.sc (.int .i64 0), .sc (.int .i64 0), .sc (.int .i64 0), .sc (.int .i64 0)] := by kernel_rfl
theorem tyOk123 : tyOk Tryd.prog 123 = true := by kernel_rfl
theorem agg123 : aggB Tryd.prog 123 = true := by kernel_rfl
theorem cells123 : Tryd.prog.cellsOf 123 = 4 := by kernel_rfl
theorem zero123 : zeroA Tryd.prog 123 = some [.sc (.int .i64 0), .sc (.int .i64 0), .sc (.int .i64 0), .sc (.int .i64 0)] := by kernel_rfl
theorem info123 : (Tryd.prog.info? 123).map (·.bytes) = some 32 := by kernel_rfl
theorem tyOk124 : tyOk Tryd.prog 124 = true := by kernel_rfl
theorem agg124 : aggB Tryd.prog 124 = false := by kernel_rfl
theorem cells124 : Tryd.prog.cellsOf 124 = 1 := by kernel_rfl
theorem tyOk125 : tyOk Tryd.prog 125 = true := by kernel_rfl
theorem agg125 : aggB Tryd.prog 125 = false := by kernel_rfl
theorem cells125 : Tryd.prog.cellsOf 125 = 1 := by kernel_rfl
theorem tyOk126 : tyOk Tryd.prog 126 = true := by kernel_rfl
theorem agg126 : aggB Tryd.prog 126 = true := by kernel_rfl
theorem cells126 : Tryd.prog.cellsOf 126 = 4 := by kernel_rfl
theorem zero126 : zeroA Tryd.prog 126 = some [.sc (.int .i64 0), .sc (.int .i64 0), .sc (.int .i64 0), .sc (.int .i64 0)] := by kernel_rfl
theorem info126 : (Tryd.prog.info? 126).map (·.bytes) = some 32 := by kernel_rfl
theorem tyOk127 : tyOk Tryd.prog 127 = true := by kernel_rfl
theorem agg127 : aggB Tryd.prog 127 = false := by kernel_rfl
theorem cells127 : Tryd.prog.cellsOf 127 = 1 := by kernel_rfl
theorem tyOk128 : tyOk Tryd.prog 128 = true := by kernel_rfl
theorem agg128 : aggB Tryd.prog 128 = false := by kernel_rfl
theorem cells128 : Tryd.prog.cellsOf 128 = 1 := by kernel_rfl
theorem tyOk129 : tyOk Tryd.prog 129 = true := by kernel_rfl
theorem agg129 : aggB Tryd.prog 129 = false := by kernel_rfl
theorem cells129 : Tryd.prog.cellsOf 129 = 1 := by kernel_rfl
theorem tyOk130 : tyOk Tryd.prog 130 = true := by kernel_rfl
theorem agg130 : aggB Tryd.prog 130 = false := by kernel_rfl
theorem cells130 : Tryd.prog.cellsOf 130 = 1 := by kernel_rfl
theorem tyOk131 : tyOk Tryd.prog 131 = true := by kernel_rfl
theorem agg131 : aggB Tryd.prog 131 = false := by kernel_rfl
theorem cells131 : Tryd.prog.cellsOf 131 = 1 := by kernel_rfl
theorem tyOk132 : tyOk Tryd.prog 132 = true := by kernel_rfl
theorem agg132 : aggB Tryd.prog 132 = true := by kernel_rfl
theorem cells132 : Tryd.prog.cellsOf 132 = 20 := by kernel_rfl
theorem zero132 : zeroA Tryd.prog 132 = some [.sc (.int .i64 0), .sc (.int .i64 0), .sc (.int .i64 0), .sc (.int .i64 0), .sc (.int .i64 0), .sc (.int .i64 0), .sc (.int .i64 0), .sc (.int .i64 0), .sc (.int .i64 0), .sc (.int .i64 0), .sc (.int .i64 0), .sc (.int .i64 0), .sc (.int .i64 0), .sc (.int .i64 0), .sc (.int .i64 0), .sc (.int .i64 0), .sc (.int .i64 0), .sc (.int .i64 0), .sc (.int .i64 0), .sc (.int .i64 0)] := by kernel_rfl
theorem tyOk133 : tyOk Tryd.prog 133 = true := by kernel_rfl
theorem agg133 : aggB Tryd.prog 133 = true := by kernel_rfl
theorem cells133 : Tryd.prog.cellsOf 133 = 20 := by kernel_rfl
theorem zero133 : zeroA Tryd.prog 133 = some [.sc (.int .i64 0), .sc (.int .i64 0), .sc (.int .i64 0), .sc (.int .i64 0), .sc (.int .i64 0), .sc (.int .i64 0), .sc (.int .i64 0), .sc (.int .i64 0), .sc (.int .i64 0), .sc (.int .i64 0), .sc (.int .i64 0), .sc (.int .i64 0), .sc (.int .i64 0), .sc (.int .i64 0), .sc (.int .i64 0), .sc (.int .i64 0), .sc (.int .i64 0), .sc (.int .i64 0), .sc (.int .i64 0), .sc (.int .i64 0)] := by kernel_rfl
theorem info133 : (Tryd.prog.info? 133).map (·.bytes) = some 160 := by kernel_rfl
theorem tyOk134 : tyOk Tryd.prog 134 = true := by kernel_rfl
theorem agg134 : aggB Tryd.prog 134 = true := by kernel_rfl
theorem cells134 : Tryd.prog.cellsOf 134 = 2 := by kernel_rfl
theorem zero134 : zeroA Tryd.prog 134 = some [.sc (.int .i64 0), .sc (.int .i64 0)] := by kernel_rfl
theorem tyOk135 : tyOk Tryd.prog 135 = true := by kernel_rfl
theorem agg135 : aggB Tryd.prog 135 = true := by kernel_rfl
theorem cells135 : Tryd.prog.cellsOf 135 = 2 := by kernel_rfl
theorem zero135 : zeroA Tryd.prog 135 = some [.sc (.int .i64 0), .sc (.int .i64 0)] := by kernel_rfl
theorem info135 : (Tryd.prog.info? 135).map (·.bytes) = some 16 := by kernel_rfl
theorem tyOk136 : tyOk Tryd.prog 136 = true := by kernel_rfl
theorem agg136 : aggB Tryd.prog 136 = false := by kernel_rfl
theorem cells136 : Tryd.prog.cellsOf 136 = 1 := by kernel_rfl
theorem tyOk137 : tyOk Tryd.prog 137 = true := by kernel_rfl
theorem agg137 : aggB Tryd.prog 137 = true := by kernel_rfl
theorem cells137 : Tryd.prog.cellsOf 137 = 2 := by kernel_rfl
theorem zero137 : zeroA Tryd.prog 137 = some [.sc (.int .i64 0), .sc (.int .i64 0)] := by kernel_rfl
theorem info137 : (Tryd.prog.info? 137).map (·.bytes) = some 16 := by kernel_rfl
theorem tyOk138 : tyOk Tryd.prog 138 = true := by kernel_rfl
theorem agg138 : aggB Tryd.prog 138 = true := by kernel_rfl
theorem cells138 : Tryd.prog.cellsOf 138 = 3 := by kernel_rfl
theorem zero138 : zeroA Tryd.prog 138 = some [.sc (.int .i64 0), .sc (.int .i64 0), .sc (.int .i64 0)] := by kernel_rfl
theorem tyOk139 : tyOk Tryd.prog 139 = true := by kernel_rfl
theorem agg139 : aggB Tryd.prog 139 = true := by kernel_rfl
theorem cells139 : Tryd.prog.cellsOf 139 = 3 := by kernel_rfl
theorem zero139 : zeroA Tryd.prog 139 = some [.sc (.int .i64 0), .sc (.int .i64 0), .sc (.int .i64 0)] := by kernel_rfl
theorem info139 : (Tryd.prog.info? 139).map (·.bytes) = some 24 := by kernel_rfl
theorem tyOk140 : tyOk Tryd.prog 140 = true := by kernel_rfl
theorem agg140 : aggB Tryd.prog 140 = false := by kernel_rfl
theorem cells140 : Tryd.prog.cellsOf 140 = 1 := by kernel_rfl
theorem tyOk141 : tyOk Tryd.prog 141 = true := by kernel_rfl
theorem agg141 : aggB Tryd.prog 141 = true := by kernel_rfl
theorem cells141 : Tryd.prog.cellsOf 141 = 3 := by kernel_rfl
theorem zero141 : zeroA Tryd.prog 141 = some [.sc (.int .i64 0), .sc (.int .i64 0), .sc (.int .i64 0)] := by kernel_rfl
theorem info141 : (Tryd.prog.info? 141).map (·.bytes) = some 24 := by kernel_rfl
theorem tyOk142 : tyOk Tryd.prog 142 = true := by kernel_rfl
theorem agg142 : aggB Tryd.prog 142 = false := by kernel_rfl
theorem cells142 : Tryd.prog.cellsOf 142 = 1 := by kernel_rfl
theorem tyOk143 : tyOk Tryd.prog 143 = true := by kernel_rfl
theorem agg143 : aggB Tryd.prog 143 = true := by kernel_rfl
theorem cells143 : Tryd.prog.cellsOf 143 = 4 := by kernel_rfl
theorem zero143 : zeroA Tryd.prog 143 = some [.sc (.int .i64 0), .sc (.int .i64 0), .sc (.int .i64 0), .sc (.int .i64 0)] := by kernel_rfl
theorem tyOk144 : tyOk Tryd.prog 144 = true := by kernel_rfl
theorem agg144 : aggB Tryd.prog 144 = true := by kernel_rfl
theorem cells144 : Tryd.prog.cellsOf 144 = 5 := by kernel_rfl
theorem zero144 : zeroA Tryd.prog 144 = some [.sc (.int .i64 0), .sc (.int .i64 0), .sc (.int .i64 0), .sc (.int .i64 0), .sc (.int .i64 0)] := by kernel_rfl
theorem tyOk145 : tyOk Tryd.prog 145 = true := by kernel_rfl
theorem agg145 : aggB Tryd.prog 145 = true := by kernel_rfl
theorem cells145 : Tryd.prog.cellsOf 145 = 5 := by kernel_rfl
theorem zero145 : zeroA Tryd.prog 145 = some [.sc (.int .i64 0), .sc (.int .i64 0), .sc (.int .i64 0), .sc (.int .i64 0), .sc (.int .i64 0)] := by kernel_rfl
theorem info145 : (Tryd.prog.info? 145).map (·.bytes) = some 40 := by kernel_rfl
theorem tyOk146 : tyOk Tryd.prog 146 = true := by kernel_rfl
theorem agg146 : aggB Tryd.prog 146 = false := by kernel_rfl
theorem cells146 : Tryd.prog.cellsOf 146 = 1 := by kernel_rfl
theorem tyOk147 : tyOk Tryd.prog 147 = true := by kernel_rfl
theorem agg147 : aggB Tryd.prog 147 = false := by kernel_rfl
theorem cells147 : Tryd.prog.cellsOf 147 = 1 := by kernel_rfl
theorem tyOk148 : tyOk Tryd.prog 148 = true := by kernel_rfl
theorem agg148 : aggB Tryd.prog 148 = false := by kernel_rfl
theorem cells148 : Tryd.prog.cellsOf 148 = 1 := by kernel_rfl
theorem tyOk149 : tyOk Tryd.prog 149 = true := by kernel_rfl
theorem agg149 : aggB Tryd.prog 149 = false := by kernel_rfl
theorem cells149 : Tryd.prog.cellsOf 149 = 1 := by kernel_rfl
theorem tyOk150 : tyOk Tryd.prog 150 = true := by kernel_rfl
theorem agg150 : aggB Tryd.prog 150 = true := by kernel_rfl
theorem cells150 : Tryd.prog.cellsOf 150 = 3 := by kernel_rfl
theorem zero150 : zeroA Tryd.prog 150 = some [.sc (.int .i64 0), .sc (.int .i64 0), .sc (.int .i64 0)] := by kernel_rfl
theorem tyOk151 : tyOk Tryd.prog 151 = true := by kernel_rfl
theorem agg151 : aggB Tryd.prog 151 = true := by kernel_rfl
theorem cells151 : Tryd.prog.cellsOf 151 = 3 := by kernel_rfl
theorem zero151 : zeroA Tryd.prog 151 = some [.sc (.int .i64 0), .sc (.int .i64 0), .sc (.int .i64 0)] := by kernel_rfl
theorem info151 : (Tryd.prog.info? 151).map (·.bytes) = some 24 := by kernel_rfl
theorem tyOk152 : tyOk Tryd.prog 152 = true := by kernel_rfl
theorem agg152 : aggB Tryd.prog 152 = false := by kernel_rfl
theorem cells152 : Tryd.prog.cellsOf 152 = 1 := by kernel_rfl
theorem tyOk153 : tyOk Tryd.prog 153 = true := by kernel_rfl
theorem agg153 : aggB Tryd.prog 153 = true := by kernel_rfl
theorem cells153 : Tryd.prog.cellsOf 153 = 3 := by kernel_rfl
theorem zero153 : zeroA Tryd.prog 153 = some [.sc (.int .i64 0), .sc (.int .i64 0), .sc (.int .i64 0)] := by kernel_rfl
theorem info153 : (Tryd.prog.info? 153).map (·.bytes) = some 24 := by kernel_rfl
theorem tyOk154 : tyOk Tryd.prog 154 = true := by kernel_rfl
theorem agg154 : aggB Tryd.prog 154 = true := by kernel_rfl
theorem cells154 : Tryd.prog.cellsOf 154 = 7 := by kernel_rfl
theorem zero154 : zeroA Tryd.prog 154 = some [.sc (.int .i64 0), .sc (.int .i64 0), .sc (.int .i64 0), .sc (.int .i64 0), .sc (.int .i64 0), .sc (.int .i64 0), .sc (.bool false)] := by kernel_rfl
theorem tyOk155 : tyOk Tryd.prog 155 = true := by kernel_rfl
theorem agg155 : aggB Tryd.prog 155 = true := by kernel_rfl
theorem cells155 : Tryd.prog.cellsOf 155 = 7 := by kernel_rfl
theorem zero155 : zeroA Tryd.prog 155 = some [.sc (.int .i64 0), .sc (.int .i64 0), .sc (.int .i64 0), .sc (.int .i64 0), .sc (.int .i64 0), .sc (.int .i64 0), .sc (.bool false)] := by kernel_rfl
theorem info155 : (Tryd.prog.info? 155).map (·.bytes) = some 56 := by kernel_rfl
theorem tyOk156 : tyOk Tryd.prog 156 = true := by kernel_rfl
theorem agg156 : aggB Tryd.prog 156 = false := by kernel_rfl
theorem cells156 : Tryd.prog.cellsOf 156 = 1 := by kernel_rfl
theorem tyOk157 : tyOk Tryd.prog 157 = true := by kernel_rfl
theorem agg157 : aggB Tryd.prog 157 = true := by kernel_rfl
theorem cells157 : Tryd.prog.cellsOf 157 = 7 := by kernel_rfl
theorem zero157 : zeroA Tryd.prog 157 = some [.sc (.int .i64 0), .sc (.int .i64 0), .sc (.int .i64 0), .sc (.int .i64 0), .sc (.int .i64 0), .sc (.int .i64 0), .sc (.bool false)] := by kernel_rfl
theorem info157 : (Tryd.prog.info? 157).map (·.bytes) = some 56 := by kernel_rfl
theorem tyOk158 : tyOk Tryd.prog 158 = true := by kernel_rfl
theorem agg158 : aggB Tryd.prog 158 = false := by kernel_rfl
theorem cells158 : Tryd.prog.cellsOf 158 = 1 := by kernel_rfl
theorem tyOk159 : tyOk Tryd.prog 159 = true := by kernel_rfl
theorem agg159 : aggB Tryd.prog 159 = false := by kernel_rfl
theorem cells159 : Tryd.prog.cellsOf 159 = 1 := by kernel_rfl
theorem tyOk160 : tyOk Tryd.prog 160 = true := by kernel_rfl
theorem agg160 : aggB Tryd.prog 160 = false := by kernel_rfl
theorem cells160 : Tryd.prog.cellsOf 160 = 1 := by kernel_rfl
theorem tyOk161 : tyOk Tryd.prog 161 = true := by kernel_rfl
theorem agg161 : aggB Tryd.prog 161 = false := by kernel_rfl
theorem cells161 : Tryd.prog.cellsOf 161 = 1 := by kernel_rfl
theorem tyOk162 : tyOk Tryd.prog 162 = true := by kernel_rfl
theorem agg162 : aggB Tryd.prog 162 = false := by kernel_rfl
theorem cells162 : Tryd.prog.cellsOf 162 = 1 := by kernel_rfl
theorem tyOk163 : tyOk Tryd.prog 163 = true := by kernel_rfl
theorem agg163 : aggB Tryd.prog 163 = false := by kernel_rfl
theorem cells163 : Tryd.prog.cellsOf 163 = 1 := by kernel_rfl
theorem tyOk164 : tyOk Tryd.prog 164 = true := by kernel_rfl
theorem agg164 : aggB Tryd.prog 164 = false := by kernel_rfl
theorem cells164 : Tryd.prog.cellsOf 164 = 1 := by kernel_rfl
theorem tyOk165 : tyOk Tryd.prog 165 = true := by kernel_rfl
theorem agg165 : aggB Tryd.prog 165 = false := by kernel_rfl
theorem cells165 : Tryd.prog.cellsOf 165 = 1 := by kernel_rfl
theorem tyOk166 : tyOk Tryd.prog 166 = true := by kernel_rfl
theorem agg166 : aggB Tryd.prog 166 = true := by kernel_rfl
theorem cells166 : Tryd.prog.cellsOf 166 = 24 := by kernel_rfl
theorem zero166 : zeroA Tryd.prog 166 = some (ints .u8 (List.replicate 24 0)) := by kernel_rfl
theorem tyOk167 : tyOk Tryd.prog 167 = true := by kernel_rfl
theorem agg167 : aggB Tryd.prog 167 = false := by kernel_rfl
theorem cells167 : Tryd.prog.cellsOf 167 = 1 := by kernel_rfl
theorem zero167 : zeroA Tryd.prog 167 = some [.sc (.int .u64 0)] := by kernel_rfl
theorem info167 : (Tryd.prog.info? 167).map (·.bytes) = some 8 := by kernel_rfl
theorem mk167 (a b : IntKind) (m : Int) (h0 : 0 ≤ m) (h1 : m ≤ 1000000000000) : mkV Tryd.prog (some (.slice 167)) (.sc (.int a m)) (.sc (.int b m)) = some (ints .u64 (List.replicate m.toNat 0), fun r => .sl r 0 m.toNat 1) := mk_ints .u64 167 a b m _ zero167 info167 cells167 h0 (by omega) (by omega)
theorem bs167_0 : bsV Tryd.prog (some (.slice 167)) 0 [] = some (ints .u64 [], fun r => .sl r 0 0 1) := bs_ints .u64 167 0 [] zero167 tyOk167 cells167 (by decide) (by simp)
theorem bs167_1 (a0 : Int) : bsV Tryd.prog (some (.slice 167)) 1 [(0, .sc (.int .u64 a0))] = some (ints .u64 [a0], fun r => .sl r 0 1 1) := bs_ints .u64 167 1 [(0, a0)] zero167 tyOk167 cells167 (by decide) (by simp)
theorem bs167_2 (a0 a1 : Int) : bsV Tryd.prog (some (.slice 167)) 2 [(0, .sc (.int .u64 a0)), (1, .sc (.int .u64 a1))] = some (ints .u64 [a0, a1], fun r => .sl r 0 2 1) := bs_ints .u64 167 2 [(0, a0), (1, a1)] zero167 tyOk167 cells167 (by decide) (by simp)
theorem bs167_3 (a0 a1 a2 : Int) : bsV Tryd.prog (some (.slice 167)) 3 [(0, .sc (.int .u64 a0)), (1, .sc (.int .u64 a1)), (2, .sc (.int .u64 a2))] = some (ints .u64 [a0, a1, a2], fun r => .sl r 0 3 1) := bs_ints .u64 167 3 [(0, a0), (1, a1), (2, a2)] zero167 tyOk167 cells167 (by decide) (by simp)
theorem bs167_4 (a0 a1 a2 a3 : Int) : bsV Tryd.prog (some (.slice 167)) 4 [(0, .sc (.int .u64 a0)), (1, .sc (.int .u64 a1)), (2, .sc (.int .u64 a2)), (3, .sc (.int .u64 a3))] = some (ints .u64 [a0, a1, a2, a3], fun r => .sl r 0 4 1) := bs_ints .u64 167 4 [(0, a0), (1, a1), (2, a2), (3, a3)] zero167 tyOk167 cells167 (by decide) (by simp)
theorem bs167_5 (a0 a1 a2 a3 a4 : Int) : bsV Tryd.prog (some (.slice 167)) 5 [(0, .sc (.int .u64 a0)), (1, .sc (.int .u64 a1)), (2, .sc (.int .u64 a2)), (3, .sc (.int .u64 a3)), (4, .sc (.int .u64 a4))] = some (ints .u64 [a0, a1, a2, a3, a4], fun r => .sl r 0 5 1) := bs_ints .u64 167 5 [(0, a0), (1, a1), (2, a2), (3, a3), (4, a4)] zero167 tyOk167 cells167 (by decide) (by simp)
theorem bs167_6 (a0 a1 a2 a3 a4 a5 : Int) : bsV Tryd.prog (some (.slice 167)) 6 [(0, .sc (.int .u64 a0)), (1, .sc (.int .u64 a1)), (2, .sc (.int .u64 a2)), (3, .sc (.int .u64 a3)), (4, .sc (.int .u64 a4)), (5, .sc (.int .u64 a5))] = some (ints .u64 [a0, a1, a2, a3, a4, a5], fun r => .sl r 0 6 1) := bs_ints .u64 167 6 [(0, a0), (1, a1), (2, a2), (3, a3), (4, a4), (5, a5)] zero167 tyOk167 cells167 (by decide) (by simp)
theorem bs167_7 (a0 a1 a2 a3 a4 a5 a6 : Int) : bsV Tryd.prog (some (.slice 167)) 7 [(0, .sc (.int .u64 a0)), (1, .sc (.int .u64 a1)), (2, .sc (.int .u64 a2)), (3, .sc (.int .u64 a3)), (4, .sc (.int .u64 a4)), (5, .sc (.int .u64 a5)), (6, .sc (.int .u64 a6))] = some (ints .u64 [a0, a1, a2, a3, a4, a5, a6], fun r => .sl r 0 7 1) := bs_ints .u64 167 7 [(0, a0), (1, a1), (2, a2), (3, a3), (4, a4), (5, a5), (6, a6)] zero167 tyOk167 cells167 (by decide) (by simp)
theorem bs167_8 (a0 a1 a2 a3 a4 a5 a6 a7 : Int) : bsV Tryd.prog (some (.slice 167)) 8 [(0, .sc (.int .u64 a0)), (1, .sc (.int .u64 a1)), (2, .sc (.int .u64 a2)), (3, .sc (.int .u64 a3)), (4, .sc (.int .u64 a4)), (5, .sc (.int .u64 a5)), (6, .sc (.int .u64 a6)), (7, .sc (.int .u64 a7))] = some (ints .u64 [a0, a1, a2, a3, a4, a5, a6, a7], fun r => .sl r 0 8 1) := bs_ints .u64 167 8 [(0, a0), (1, a1), (2, a2), (3, a3), (4, a4), (5, a5), (6, a6), (7, a7)] zero167 tyOk167 cells167 (by decide) (by simp)
theorem bs167_10 (a0 a1 a2 a3 a4 a5 a6 a7 a8 a9 : Int) : bsV Tryd.prog (some (.slice 167)) 10 [(0, .sc (.int .u64 a0)), (1, .sc (.int .u64 a1)), (2, .sc (.int .u64 a2)), (3, .sc (.int .u64 a3)), (4, .sc (.int .u64 a4)), (5, .sc (.int .u64 a5)), (6, .sc (.int .u64 a6)), (7, .sc (.int .u64 a7)), (8, .sc (.int .u64 a8)), (9, .sc (.int .u64 a9))] = some (ints .u64 [a0, a1, a2, a3, a4, a5, a6, a7, a8, a9], fun r => .sl r 0 10 1) := bs_ints .u64 167 10 [(0, a0), (1, a1), (2, a2), (3, a3), (4, a4), (5, a5), (6, a6), (7, a7), (8, a8), (9, a9)] zero167 tyOk167 cells167 (by decide) (by simp)
theorem bs167_11 (a0 a1 a2 a3 a4 a5 a6 a7 a8 a9 a10 : Int) : bsV Tryd.prog (some (.slice 167)) 11 [(0, .sc (.int .u64 a0)), (1, .sc (.int .u64 a1)), (2, .sc (.int .u64 a2)), (3, .sc (.int .u64 a3)), (4, .sc (.int .u64 a4)), (5, .sc (.int .u64 a5)), (6, .sc (.int .u64 a6)), (7, .sc (.int .u64 a7)), (8, .sc (.int .u64 a8)), (9, .sc (.int .u64 a9)), (10, .sc (.int .u64 a10))] = some (ints .u64 [a0, a1, a2, a3, a4, a5, a6, a7, a8, a9, a10], fun r => .sl r 0 11 1) := bs_ints .u64 167 11 [(0, a0), (1, a1), (2, a2), (3, a3), (4, a4), (5, a5), (6, a6), (7, a7), (8, a8), (9, a9), (10, a10)] zero167 tyOk167 cells167 (by decide) (by simp)
theorem bs167_12 (a0 a1 a2 a3 a4 a5 a6 a7 a8 a9 a10 a11 : Int) : bsV Tryd.prog (some (.slice 167)) 12 [(0, .sc (.int .u64 a0)), (1, .sc (.int .u64 a1)), (2, .sc (.int .u64 a2)), (3, .sc (.int .u64 a3)), (4, .sc (.int .u64 a4)), (5, .sc (.int .u64 a5)), (6, .sc (.int .u64 a6)), (7, .sc (.int .u64 a7)), (8, .sc (.int .u64 a8)), (9, .sc (.int .u64 a9)), (10, .sc (.int .u64 a10)), (11, .sc (.int .u64 a11))] = some (ints .u64 [a0, a1, a2, a3, a4, a5, a6, a7, a8, a9, a10, a11], fun r => .sl r 0 12 1) := bs_ints .u64 167 12 [(0, a0), (1, a1), (2, a2), (3, a3), (4, a4), (5, a5), (6, a6), (7, a7), (8, a8), (9, a9), (10, a10), (11, a11)] zero167 tyOk167 cells167 (by decide) (by simp)
theorem bs167_13 (a0 a1 a2 a3 a4 a5 a6 a7 a8 a9 a10 a11 a12 : Int) : bsV Tryd.prog (some (.slice 167)) 13 [(0, .sc (.int .u64 a0)), (1, .sc (.int .u64 a1)), (2, .sc (.int .u64 a2)), (3, .sc (.int .u64 a3)), (4, .sc (.int .u64 a4)), (5, .sc (.int .u64 a5)), (6, .sc (.int .u64 a6)), (7, .sc (.int .u64 a7)), (8, .sc (.int .u64 a8)), (9, .sc (.int .u64 a9)), (10, .sc (.int .u64 a10)), (11, .sc (.int .u64 a11)), (12, .sc (.int .u64 a12))] = some (ints .u64 [a0, a1, a2, a3, a4, a5, a6, a7, a8, a9, a10, a11, a12], fun r => .sl r 0 13 1) := bs_ints .u64 167 13 [(0, a0), (1, a1), (2, a2), (3, a3), (4, a4), (5, a5), (6, a6), (7, a7), (8, a8), (9, a9), (10, a10), (11, a11), (12, a12)] zero167 tyOk167 cells167 (by decide) (by simp)
theorem tyOk168 : tyOk Tryd.prog 168 = true := by kernel_rfl
theorem agg168 : aggB Tryd.prog 168 = false := by kernel_rfl
theorem cells168 : Tryd.prog.cellsOf 168 = 1 := by kernel_rfl
theorem tyOk169 : tyOk Tryd.prog 169 = true := by kernel_rfl
theorem agg169 : aggB Tryd.prog 169 = false := by kernel_rfl
theorem cells169 : Tryd.prog.cellsOf 169 = 1 := by kernel_rfl
theorem tyOk170 : tyOk Tryd.prog 170 = true := by kernel_rfl
theorem agg170 : aggB Tryd.prog 170 = false := by kernel_rfl
theorem cells170 : Tryd.prog.cellsOf 170 = 1 := by kernel_rfl
theorem tyOk171 : tyOk Tryd.prog 171 = true := by kernel_rfl
theorem agg171 : aggB Tryd.prog 171 = false := by kernel_rfl
theorem cells171 : Tryd.prog.cellsOf 171 = 1 := by kernel_rfl
theorem tyOk172 : tyOk Tryd.prog 172 = true := by kernel_rfl
theorem agg172 : aggB Tryd.prog 172 = false := by kernel_rfl
theorem cells172 : Tryd.prog.cellsOf 172 = 1 := by kernel_rfl
theorem tyOk173 : tyOk Tryd.prog 173 = true := by kernel_rfl
theorem agg173 : aggB Tryd.prog 173 = false := by kernel_rfl
theorem cells173 : Tryd.prog.cellsOf 173 = 1 := by kernel_rfl
theorem tyOk174 : tyOk Tryd.prog 174 = true := by kernel_rfl
theorem agg174 : aggB Tryd.prog 174 = true := by kernel_rfl
theorem cells174 : Tryd.prog.cellsOf 174 = 20 := by kernel_rfl
theorem zero174 : zeroA Tryd.prog 174 = some (ints .u64 (List.replicate 20 0)) := by kernel_rfl
theorem tyOk175 : tyOk Tryd.prog 175 = true := by kernel_rfl
theorem agg175 : aggB Tryd.prog 175 = false := by kernel_rfl
theorem cells175 : Tryd.prog.cellsOf 175 = 1 := by kernel_rfl
theorem zero175 : zeroA Tryd.prog 175 = some [.sc (.int .u32 0)] := by kernel_rfl
theorem info175 : (Tryd.prog.info? 175).map (·.bytes) = some 4 := by kernel_rfl
theorem mk175 (a b : IntKind) (m : Int) (h0 : 0 ≤ m) (h1 : m ≤ 1000000000000) : mkV Tryd.prog (some (.slice 175)) (.sc (.int a m)) (.sc (.int b m)) = some (ints .u32 (List.replicate m.toNat 0), fun r => .sl r 0 m.toNat 1) := mk_ints .u32 175 a b m _ zero175 info175 cells175 h0 (by omega) (by omega)
theorem bs175_0 : bsV Tryd.prog (some (.slice 175)) 0 [] = some (ints .u32 [], fun r => .sl r 0 0 1) := bs_ints .u32 175 0 [] zero175 tyOk175 cells175 (by decide) (by simp)
theorem bs175_1 (a0 : Int) : bsV Tryd.prog (some (.slice 175)) 1 [(0, .sc (.int .u32 a0))] = some (ints .u32 [a0], fun r => .sl r 0 1 1) := bs_ints .u32 175 1 [(0, a0)] zero175 tyOk175 cells175 (by decide) (by simp)
theorem bs175_2 (a0 a1 : Int) : bsV Tryd.prog (some (.slice 175)) 2 [(0, .sc (.int .u32 a0)), (1, .sc (.int .u32 a1))] = some (ints .u32 [a0, a1], fun r => .sl r 0 2 1) := bs_ints .u32 175 2 [(0, a0), (1, a1)] zero175 tyOk175 cells175 (by decide) (by simp)
theorem bs175_3 (a0 a1 a2 : Int) : bsV Tryd.prog (some (.slice 175)) 3 [(0, .sc (.int .u32 a0)), (1, .sc (.int .u32 a1)), (2, .sc (.int .u32 a2))] = some (ints .u32 [a0, a1, a2], fun r => .sl r 0 3 1) := bs_ints .u32 175 3 [(0, a0), (1, a1), (2, a2)] zero175 tyOk175 cells175 (by decide) (by simp)
theorem bs175_4 (a0 a1 a2 a3 : Int) : bsV Tryd.prog (some (.slice 175)) 4 [(0, .sc (.int .u32 a0)), (1, .sc (.int .u32 a1)), (2, .sc (.int .u32 a2)), (3, .sc (.int .u32 a3))] = some (ints .u32 [a0, a1, a2, a3], fun r => .sl r 0 4 1) := bs_ints .u32 175 4 [(0, a0), (1, a1), (2, a2), (3, a3)] zero175 tyOk175 cells175 (by decide) (by simp)
theorem bs175_5 (a0 a1 a2 a3 a4 : Int) : bsV Tryd.prog (some (.slice 175)) 5 [(0, .sc (.int .u32 a0)), (1, .sc (.int .u32 a1)), (2, .sc (.int .u32 a2)), (3, .sc (.int .u32 a3)), (4, .sc (.int .u32 a4))] = some (ints .u32 [a0, a1, a2, a3, a4], fun r => .sl r 0 5 1) := bs_ints .u32 175 5 [(0, a0), (1, a1), (2, a2), (3, a3), (4, a4)] zero175 tyOk175 cells175 (by decide) (by simp)
theorem bs175_6 (a0 a1 a2 a3 a4 a5 : Int) : bsV Tryd.prog (some (.slice 175)) 6 [(0, .sc (.int .u32 a0)), (1, .sc (.int .u32 a1)), (2, .sc (.int .u32 a2)), (3, .sc (.int .u32 a3)), (4, .sc (.int .u32 a4)), (5, .sc (.int .u32 a5))] = some (ints .u32 [a0, a1, a2, a3, a4, a5], fun r => .sl r 0 6 1) := bs_ints .u32 175 6 [(0, a0), (1, a1), (2, a2), (3, a3), (4, a4), (5, a5)] zero175 tyOk175 cells175 (by decide) (by simp)
theorem bs175_7 (a0 a1 a2 a3 a4 a5 a6 : Int) : bsV Tryd.prog (some (.slice 175)) 7 [(0, .sc (.int .u32 a0)), (1, .sc (.int .u32 a1)), (2, .sc (.int .u32 a2)), (3, .sc (.int .u32 a3)), (4, .sc (.int .u32 a4)), (5, .sc (.int .u32 a5)), (6, .sc (.int .u32 a6))] = some (ints .u32 [a0, a1, a2, a3, a4, a5, a6], fun r => .sl r 0 7 1) := bs_ints .u32 175 7 [(0, a0), (1, a1), (2, a2), (3, a3), (4, a4), (5, a5), (6, a6)] zero175 tyOk175 cells175 (by decide) (by simp)
theorem bs175_8 (a0 a1 a2 a3 a4 a5 a6 a7 : Int) : bsV Tryd.prog (some (.slice 175)) 8 [(0, .sc (.int .u32 a0)), (1, .sc (.int .u32 a1)), (2, .sc (.int .u32 a2)), (3, .sc (.int .u32 a3)), (4, .sc (.int .u32 a4)), (5, .sc (.int .u32 a5)), (6, .sc (.int .u32 a6)), (7, .sc (.int .u32 a7))] = some (ints .u32 [a0, a1, a2, a3, a4, a5, a6, a7], fun r => .sl r 0 8 1) := bs_ints .u32 175 8 [(0, a0), (1, a1), (2, a2), (3, a3), (4, a4), (5, a5), (6, a6), (7, a7)] zero175 tyOk175 cells175 (by decide) (by simp)
theorem bs175_10 (a0 a1 a2 a3 a4 a5 a6 a7 a8 a9 : Int) : bsV Tryd.prog (some (.slice 175)) 10 [(0, .sc (.int .u32 a0)), (1, .sc (.int .u32 a1)), (2, .sc (.int .u32 a2)), (3, .sc (.int .u32 a3)), (4, .sc (.int .u32 a4)), (5, .sc (.int .u32 a5)), (6, .sc (.int .u32 a6)), (7, .sc (.int .u32 a7)), (8, .sc (.int .u32 a8)), (9, .sc (.int .u32 a9))] = some (ints .u32 [a0, a1, a2, a3, a4, a5, a6, a7, a8, a9], fun r => .sl r 0 10 1) := bs_ints .u32 175 10 [(0, a0), (1, a1), (2, a2), (3, a3), (4, a4), (5, a5), (6, a6), (7, a7), (8, a8), (9, a9)] zero175 tyOk175 cells175 (by decide) (by simp)
theorem bs175_11 (a0 a1 a2 a3 a4 a5 a6 a7 a8 a9 a10 : Int) : bsV Tryd.prog (some (.slice 175)) 11 [(0, .sc (.int .u32 a0)), (1, .sc (.int .u32 a1)), (2, .sc (.int .u32 a2)), (3, .sc (.int .u32 a3)), (4, .sc (.int .u32 a4)), (5, .sc (.int .u32 a5)), (6, .sc (.int .u32 a6)), (7, .sc (.int .u32 a7)), (8, .sc (.int .u32 a8)), (9, .sc (.int .u32 a9)), (10, .sc (.int .u32 a10))] = some (ints .u32 [a0, a1, a2, a3, a4, a5, a6, a7, a8, a9, a10], fun r => .sl r 0 11 1) := bs_ints .u32 175 11 [(0, a0), (1, a1), (2, a2), (3, a3), (4, a4), (5, a5), (6, a6), (7, a7), (8, a8), (9, a9), (10, a10)] zero175 tyOk175 cells175 (by decide) (by simp)
theorem bs175_12 (a0 a1 a2 a3 a4 a5 a6 a7 a8 a9 a10 a11 : Int) : bsV Tryd.prog (some (.slice 175)) 12 [(0, .sc (.int .u32 a0)), (1, .sc (.int .u32 a1)), (2, .sc (.int .u32 a2)), (3, .sc (.int .u32 a3)), (4, .sc (.int .u32 a4)), (5, .sc (.int .u32 a5)), (6, .sc (.int .u32 a6)), (7, .sc (.int .u32 a7)), (8, .sc (.int .u32 a8)), (9, .sc (.int .u32 a9)), (10, .sc (.int .u32 a10)), (11, .sc (.int .u32 a11))] = some (ints .u32 [a0, a1, a2, a3, a4, a5, a6, a7, a8, a9, a10, a11], fun r => .sl r 0 12 1) := bs_ints .u32 175 12 [(0, a0), (1, a1), (2, a2), (3, a3), (4, a4), (5, a5), (6, a6), (7, a7), (8, a8), (9, a9), (10, a10), (11, a11)] zero175 tyOk175 cells175 (by decide) (by simp)
theorem bs175_13 (a0 a1 a2 a3 a4 a5 a6 a7 a8 a9 a10 a11 a12 : Int) : bsV Tryd.prog (some (.slice 175)) 13 [(0, .sc (.int .u32 a0)), (1, .sc (.int .u32 a1)), (2, .sc (.int .u32 a2)), (3, .sc (.int .u32 a3)), (4, .sc (.int .u32 a4)), (5, .sc (.int .u32 a5)), (6, .sc (.int .u32 a6)), (7, .sc (.int .u32 a7)), (8, .sc (.int .u32 a8)), (9, .sc (.int .u32 a9)), (10, .sc (.int .u32 a10)), (11, .sc (.int .u32 a11)), (12, .sc (.int .u32 a12))] = some (ints .u32 [a0, a1, a2, a3, a4, a5, a6, a7, a8, a9, a10, a11, a12], fun r => .sl r 0 13 1) := bs_ints .u32 175 13 [(0, a0), (1, a1), (2, a2), (3, a3), (4, a4), (5, a5), (6, a6), (7, a7), (8, a8), (9, a9), (10, a10), (11, a11), (12, a12)] zero175 tyOk175 cells175 (by decide) (by simp)
theorem tyOk176 : tyOk Tryd.prog 176 = true := by kernel_rfl
theorem agg176 : aggB Tryd.prog 176 = true := by kernel_rfl
theorem cells176 : Tryd.prog.cellsOf 176 = 65 := by kernel_rfl
theorem zero176 : zeroA Tryd.prog 176 = some (ints .u8 (List.replicate 65 0)) := by kernel_rfl
theorem tyOk177 : tyOk Tryd.prog 177 = true := by kernel_rfl
theorem agg177 : aggB Tryd.prog 177 = false := by kernel_rfl
theorem cells177 : Tryd.prog.cellsOf 177 = 1 := by kernel_rfl
theorem zero177 : zeroA Tryd.prog 177 = some [.sc (.int .u64 0)] := by kernel_rfl
theorem info177 : (Tryd.prog.info? 177).map (·.bytes) = some 8 := by kernel_rfl
theorem mk177 (a b : IntKind) (m : Int) (h0 : 0 ≤ m) (h1 : m ≤ 1000000000000) : mkV Tryd.prog (some (.slice 177)) (.sc (.int a m)) (.sc (.int b m)) = some (ints .u64 (List.replicate m.toNat 0), fun r => .sl r 0 m.toNat 1) := mk_ints .u64 177 a b m _ zero177 info177 cells177 h0 (by omega) (by omega)
theorem bs177_0 : bsV Tryd.prog (some (.slice 177)) 0 [] = some (ints .u64 [], fun r => .sl r 0 0 1) := bs_ints .u64 177 0 [] zero177 tyOk177 cells177 (by decide) (by simp)
theorem bs177_1 (a0 : Int) : bsV Tryd.prog (some (.slice 177)) 1 [(0, .sc (.int .u64 a0))] = some (ints .u64 [a0], fun r => .sl r 0 1 1) := bs_ints .u64 177 1 [(0, a0)] zero177 tyOk177 cells177 (by decide) (by simp)
theorem bs177_2 (a0 a1 : Int) : bsV Tryd.prog (some (.slice 177)) 2 [(0, .sc (.int .u64 a0)), (1, .sc (.int .u64 a1))] = some (ints .u64 [a0, a1], fun r => .sl r 0 2 1) := bs_ints .u64 177 2 [(0, a0), (1, a1)] zero177 tyOk177 cells177 (by decide) (by simp)
theorem bs177_3 (a0 a1 a2 : Int) : bsV Tryd.prog (some (.slice 177)) 3 [(0, .sc (.int .u64 a0)), (1, .sc (.int .u64 a1)), (2, .sc (.int .u64 a2))] = some (ints .u64 [a0, a1, a2], fun r => .sl r 0 3 1) := bs_ints .u64 177 3 [(0, a0), (1, a1), (2, a2)] zero177 tyOk177 cells177 (by decide) (by simp)
theorem bs177_4 (a0 a1 a2 a3 : Int) : bsV Tryd.prog (some (.slice 177)) 4 [(0, .sc (.int .u64 a0)), (1, .sc (.int .u64 a1)), (2, .sc (.int .u64 a2)), (3, .sc (.int .u64 a3))] = some (ints .u64 [a0, a1, a2, a3], fun r => .sl r 0 4 1) := bs_ints .u64 177 4 [(0, a0), (1, a1), (2, a2), (3, a3)] zero177 tyOk177 cells177 (by decide) (by simp)
theorem bs177_5 (a0 a1 a2 a3 a4 : Int) : bsV Tryd.prog (some (.slice 177)) 5 [(0, .sc (.int .u64 a0)), (1, .sc (.int .u64 a1)), (2, .sc (.int .u64 a2)), (3, .sc (.int .u64 a3)), (4, .sc (.int .u64 a4))] = some (ints .u64 [a0, a1, a2, a3, a4], fun r => .sl r 0 5 1) := bs_ints .u64 177 5 [(0, a0), (1, a1), (2, a2), (3, a3), (4, a4)] zero177 tyOk177 cells177 (by decide) (by simp)
theorem bs177_6 (a0 a1 a2 a3 a4 a5 : Int) : bsV Tryd.prog (some (.slice 177)) 6 [(0, .sc (.int .u64 a0)), (1, .sc (.int .u64 a1)), (2, .sc (.int .u64 a2)), (3, .sc (.int .u64 a3)), (4, .sc (.int .u64 a4)), (5, .sc (.int .u64 a5))] = some (ints .u64 [a0, a1, a2, a3, a4, a5], fun r => .sl r 0 6 1) := bs_ints .u64 177 6 [(0, a0), (1, a1), (2, a2), (3, a3), (4, a4), (5, a5)] zero177 tyOk177 cells177 (by decide) (by simp)
theorem bs177_7 (a0 a1 a2 a3 a4 a5 a6 : Int) : bsV Tryd.prog (some (.slice 177)) 7 [(0, .sc (.int .u64 a0)), (1, .sc (.int .u64 a1)), (2, .sc (.int .u64 a2)), (3, .sc (.int .u64 a3)), (4, .sc (.int .u64 a4)), (5, .sc (.int .u64 a5)), (6, .sc (.int .u64 a6))] = some (ints .u64 [a0, a1, a2, a3, a4, a5, a6], fun r => .sl r 0 7 1) := bs_ints .u64 177 7 [(0, a0), (1, a1), (2, a2), (3, a3), (4, a4), (5, a5), (6, a6)] zero177 tyOk177 cells177 (by decide) (by simp)
theorem bs177_8 (a0 a1 a2 a3 a4 a5 a6 a7 : Int) : bsV Tryd.prog (some (.slice 177)) 8 [(0, .sc (.int .u64 a0)), (1, .sc (.int .u64 a1)), (2, .sc (.int .u64 a2)), (3, .sc (.int .u64 a3)), (4, .sc (.int .u64 a4)), (5, .sc (.int .u64 a5)), (6, .sc (.int .u64 a6)), (7, .sc (.int .u64 a7))] = some (ints .u64 [a0, a1, a2, a3, a4, a5, a6, a7], fun r => .sl r 0 8 1) := bs_ints .u64 177 8 [(0, a0), (1, a1), (2, a2), (3, a3), (4, a4), (5, a5), (6, a6), (7, a7)] zero177 tyOk177 cells177 (by decide) (by simp)
theorem bs177_10 (a0 a1 a2 a3 a4 a5 a6 a7 a8 a9 : Int) : bsV Tryd.prog (some (.slice 177)) 10 [(0, .sc (.int .u64 a0)), (1, .sc (.int .u64 a1)), (2, .sc (.int .u64 a2)), (3, .sc (.int .u64 a3)), (4, .sc (.int .u64 a4)), (5, .sc (.int .u64 a5)), (6, .sc (.int .u64 a6)), (7, .sc (.int .u64 a7)), (8, .sc (.int .u64 a8)), (9, .sc (.int .u64 a9))] = some (ints .u64 [a0, a1, a2, a3, a4, a5, a6, a7, a8, a9], fun r => .sl r 0 10 1) := bs_ints .u64 177 10 [(0, a0), (1, a1), (2, a2), (3, a3), (4, a4), (5, a5), (6, a6), (7, a7), (8, a8), (9, a9)] zero177 tyOk177 cells177 (by decide) (by simp)
theorem bs177_11 (a0 a1 a2 a3 a4 a5 a6 a7 a8 a9 a10 : Int) : bsV Tryd.prog (some (.slice 177)) 11 [(0, .sc (.int .u64 a0)), (1, .sc (.int .u64 a1)), (2, .sc (.int .u64 a2)), (3, .sc (.int .u64 a3)), (4, .sc (.int .u64 a4)), (5, .sc (.int .u64 a5)), (6, .sc (.int .u64 a6)), (7, .sc (.int .u64 a7)), (8, .sc (.int .u64 a8)), (9, .sc (.int .u64 a9)), (10, .sc (.int .u64 a10))] = some (ints .u64 [a0, a1, a2, a3, a4, a5, a6, a7, a8, a9, a10], fun r => .sl r 0 11 1) := bs_ints .u64 177 11 [(0, a0), (1, a1), (2, a2), (3, a3), (4, a4), (5, a5), (6, a6), (7, a7), (8, a8), (9, a9), (10, a10)] zero177 tyOk177 cells177 (by decide) (by simp)
theorem bs177_12 (a0 a1 a2 a3 a4 a5 a6 a7 a8 a9 a10 a11 : Int) : bsV Tryd.prog (some (.slice 177)) 12 [(0, .sc (.int .u64 a0)), (1, .sc (.int .u64 a1)), (2, .sc (.int .u64 a2)), (3, .sc (.int .u64 a3)), (4, .sc (.int .u64 a4)), (5, .sc (.int .u64 a5)), (6, .sc (.int .u64 a6)), (7, .sc (.int .u64 a7)), (8, .sc (.int .u64 a8)), (9, .sc (.int .u64 a9)), (10, .sc (.int .u64 a10)), (11, .sc (.int .u64 a11))] = some (ints .u64 [a0, a1, a2, a3, a4, a5, a6, a7, a8, a9, a10, a11], fun r => .sl r 0 12 1) := bs_ints .u64 177 12 [(0, a0), (1, a1), (2, a2), (3, a3), (4, a4), (5, a5), (6, a6), (7, a7), (8, a8), (9, a9), (10, a10), (11, a11)] zero177 tyOk177 cells177 (by decide) (by simp)
theorem bs177_13 (a0 a1 a2 a3 a4 a5 a6 a7 a8 a9 a10 a11 a12 : Int) : bsV Tryd.prog (some (.slice 177)) 13 [(0, .sc (.int .u64 a0)), (1, .sc (.int .u64 a1)), (2, .sc (.int .u64 a2)), (3, .sc (.int .u64 a3)), (4, .sc (.int .u64 a4)), (5, .sc (.int .u64 a5)), (6, .sc (.int .u64 a6)), (7, .sc (.int .u64 a7)), (8, .sc (.int .u64 a8)), (9, .sc (.int .u64 a9)), (10, .sc (.int .u64 a10)), (11, .sc (.int .u64 a11)), (12, .sc (.int .u64 a12))] = some (ints .u64 [a0, a1, a2, a3, a4, a5, a6, a7, a8, a9, a10, a11, a12], fun r => .sl r 0 13 1) := bs_ints .u64 177 13 [(0, a0), (1, a1), (2, a2), (3, a3), (4, a4), (5, a5), (6, a6), (7, a7), (8, a8), (9, a9), (10, a10), (11, a11), (12, a12)] zero177 tyOk177 cells177 (by decide) (by simp)
theorem tyOk178 : tyOk Tryd.prog 178 = true := by kernel_rfl
theorem agg178 : aggB Tryd.prog 178 = false := by kernel_rfl
theorem cells178 : Tryd.prog.cellsOf 178 = 1 := by kernel_rfl
theorem tyOk179 : tyOk Tryd.prog 179 = true := by kernel_rfl
theorem agg179 : aggB Tryd.prog 179 = false := by kernel_rfl
theorem cells179 : Tryd.prog.cellsOf 179 = 1 := by kernel_rfl
theorem tyOk180 : tyOk Tryd.prog 180 = true := by kernel_rfl
theorem agg180 : aggB Tryd.prog 180 = true := by kernel_rfl
theorem cells180 : Tryd.prog.cellsOf 180 = 32 := by kernel_rfl
theorem zero180 : zeroA Tryd.prog 180 = some (ints .u8 (List.replicate 32 0)) := by kernel_rfl
theorem tyOk181 : tyOk Tryd.prog 181 = true := by kernel_rfl
theorem agg181 : aggB Tryd.prog 181 = true := by kernel_rfl
theorem cells181 : Tryd.prog.cellsOf 181 = 64 := by kernel_rfl
theorem zero181 : zeroA Tryd.prog 181 = some (ints .u8 (List.replicate 64 0)) := by kernel_rfl
theorem tyOk182 : tyOk Tryd.prog 182 = true := by kernel_rfl
theorem agg182 : aggB Tryd.prog 182 = false := by kernel_rfl
theorem cells182 : Tryd.prog.cellsOf 182 = 1 := by kernel_rfl
theorem tyOk183 : tyOk Tryd.prog 183 = true := by kernel_rfl
theorem agg183 : aggB Tryd.prog 183 = true := by kernel_rfl
theorem cells183 : Tryd.prog.cellsOf 183 = 4 := by kernel_rfl
theorem zero183 : zeroA Tryd.prog 183 = some [.sc (.pointer none), .sc (.pointer none), .sc (.pointer none), .sc (.string ByteArray.empty)] := by kernel_rfl
theorem tyOk184 : tyOk Tryd.prog 184 = true := by kernel_rfl
theorem agg184 : aggB Tryd.prog 184 = true := by kernel_rfl
theorem cells184 : Tryd.prog.cellsOf 184 = 4 := by kernel_rfl
theorem zero184 : zeroA Tryd.prog 184 = some [.sc (.pointer none), .sc (.pointer none), .sc (.pointer none), .sc (.string ByteArray.empty)] := by kernel_rfl
theorem tyOk185 : tyOk Tryd.prog 185 = true := by kernel_rfl
theorem agg185 : aggB Tryd.prog 185 = true := by kernel_rfl
theorem cells185 : Tryd.prog.cellsOf 185 = 0 := by kernel_rfl
theorem zero185 : zeroA Tryd.prog 185 = some [] := by kernel_rfl
theorem tyOk186 : tyOk Tryd.prog 186 = true := by kernel_rfl
theorem agg186 : aggB Tryd.prog 186 = true := by kernel_rfl
theorem cells186 : Tryd.prog.cellsOf 186 = 0 := by kernel_rfl
theorem zero186 : zeroA Tryd.prog 186 = some [] := by kernel_rfl
theorem tyOk187 : tyOk Tryd.prog 187 = true := by kernel_rfl
theorem agg187 : aggB Tryd.prog 187 = true := by kernel_rfl
theorem cells187 : Tryd.prog.cellsOf 187 = 0 := by kernel_rfl
theorem zero187 : zeroA Tryd.prog 187 = some [] := by kernel_rfl
theorem tyOk188 : tyOk Tryd.prog 188 = true := by kernel_rfl
theorem agg188 : aggB Tryd.prog 188 = false := by kernel_rfl
theorem cells188 : Tryd.prog.cellsOf 188 = 1 := by kernel_rfl
theorem tyOk189 : tyOk Tryd.prog 189 = true := by kernel_rfl
theorem agg189 : aggB Tryd.prog 189 = false := by kernel_rfl
theorem cells189 : Tryd.prog.cellsOf 189 = 1 := by kernel_rfl
theorem isU189 : isU8 Tryd.prog 189 = true := by kernel_rfl
theorem zero189 : zeroA Tryd.prog 189 = some [.sc (.int .u8 0)] := by kernel_rfl
theorem info189 : (Tryd.prog.info? 189).map (·.bytes) = some 1 := by kernel_rfl
theorem mk189 (a b : IntKind) (m : Int) (h0 : 0 ≤ m) (h1 : m ≤ 1000000000000) : mkV Tryd.prog (some (.slice 189)) (.sc (.int a m)) (.sc (.int b m)) = some (ints .u8 (List.replicate m.toNat 0), fun r => .sl r 0 m.toNat 1) := mk_ints .u8 189 a b m _ zero189 info189 cells189 h0 (by omega) (by omega)
theorem bs189_0 : bsV Tryd.prog (some (.slice 189)) 0 [] = some (ints .u8 [], fun r => .sl r 0 0 1) := bs_ints .u8 189 0 [] zero189 tyOk189 cells189 (by decide) (by simp)
theorem bs189_1 (a0 : Int) : bsV Tryd.prog (some (.slice 189)) 1 [(0, .sc (.int .u8 a0))] = some (ints .u8 [a0], fun r => .sl r 0 1 1) := bs_ints .u8 189 1 [(0, a0)] zero189 tyOk189 cells189 (by decide) (by simp)
theorem bs189_2 (a0 a1 : Int) : bsV Tryd.prog (some (.slice 189)) 2 [(0, .sc (.int .u8 a0)), (1, .sc (.int .u8 a1))] = some (ints .u8 [a0, a1], fun r => .sl r 0 2 1) := bs_ints .u8 189 2 [(0, a0), (1, a1)] zero189 tyOk189 cells189 (by decide) (by simp)
theorem bs189_3 (a0 a1 a2 : Int) : bsV Tryd.prog (some (.slice 189)) 3 [(0, .sc (.int .u8 a0)), (1, .sc (.int .u8 a1)), (2, .sc (.int .u8 a2))] = some (ints .u8 [a0, a1, a2], fun r => .sl r 0 3 1) := bs_ints .u8 189 3 [(0, a0), (1, a1), (2, a2)] zero189 tyOk189 cells189 (by decide) (by simp)
theorem bs189_4 (a0 a1 a2 a3 : Int) : bsV Tryd.prog (some (.slice 189)) 4 [(0, .sc (.int .u8 a0)), (1, .sc (.int .u8 a1)), (2, .sc (.int .u8 a2)), (3, .sc (.int .u8 a3))] = some (ints .u8 [a0, a1, a2, a3], fun r => .sl r 0 4 1) := bs_ints .u8 189 4 [(0, a0), (1, a1), (2, a2), (3, a3)] zero189 tyOk189 cells189 (by decide) (by simp)
theorem bs189_5 (a0 a1 a2 a3 a4 : Int) : bsV Tryd.prog (some (.slice 189)) 5 [(0, .sc (.int .u8 a0)), (1, .sc (.int .u8 a1)), (2, .sc (.int .u8 a2)), (3, .sc (.int .u8 a3)), (4, .sc (.int .u8 a4))] = some (ints .u8 [a0, a1, a2, a3, a4], fun r => .sl r 0 5 1) := bs_ints .u8 189 5 [(0, a0), (1, a1), (2, a2), (3, a3), (4, a4)] zero189 tyOk189 cells189 (by decide) (by simp)
theorem bs189_6 (a0 a1 a2 a3 a4 a5 : Int) : bsV Tryd.prog (some (.slice 189)) 6 [(0, .sc (.int .u8 a0)), (1, .sc (.int .u8 a1)), (2, .sc (.int .u8 a2)), (3, .sc (.int .u8 a3)), (4, .sc (.int .u8 a4)), (5, .sc (.int .u8 a5))] = some (ints .u8 [a0, a1, a2, a3, a4, a5], fun r => .sl r 0 6 1) := bs_ints .u8 189 6 [(0, a0), (1, a1), (2, a2), (3, a3), (4, a4), (5, a5)] zero189 tyOk189 cells189 (by decide) (by simp)
theorem bs189_7 (a0 a1 a2 a3 a4 a5 a6 : Int) : bsV Tryd.prog (some (.slice 189)) 7 [(0, .sc (.int .u8 a0)), (1, .sc (.int .u8 a1)), (2, .sc (.int .u8 a2)), (3, .sc (.int .u8 a3)), (4, .sc (.int .u8 a4)), (5, .sc (.int .u8 a5)), (6, .sc (.int .u8 a6))] = some (ints .u8 [a0, a1, a2, a3, a4, a5, a6], fun r => .sl r 0 7 1) := bs_ints .u8 189 7 [(0, a0), (1, a1), (2, a2), (3, a3), (4, a4), (5, a5), (6, a6)] zero189 tyOk189 cells189 (by decide) (by simp)
theorem bs189_8 (a0 a1 a2 a3 a4 a5 a6 a7 : Int) : bsV Tryd.prog (some (.slice 189)) 8 [(0, .sc (.int .u8 a0)), (1, .sc (.int .u8 a1)), (2, .sc (.int .u8 a2)), (3, .sc (.int .u8 a3)), (4, .sc (.int .u8 a4)), (5, .sc (.int .u8 a5)), (6, .sc (.int .u8 a6)), (7, .sc (.int .u8 a7))] = some (ints .u8 [a0, a1, a2, a3, a4, a5, a6, a7], fun r => .sl r 0 8 1) := bs_ints .u8 189 8 [(0, a0), (1, a1), (2, a2), (3, a3), (4, a4), (5, a5), (6, a6), (7, a7)] zero189 tyOk189 cells189 (by decide) (by simp)
theorem bs189_10 (a0 a1 a2 a3 a4 a5 a6 a7 a8 a9 : Int) : bsV Tryd.prog (some (.slice 189)) 10 [(0, .sc (.int .u8 a0)), (1, .sc (.int .u8 a1)), (2, .sc (.int .u8 a2)), (3, .sc (.int .u8 a3)), (4, .sc (.int .u8 a4)), (5, .sc (.int .u8 a5)), (6, .sc (.int .u8 a6)), (7, .sc (.int .u8 a7)), (8, .sc (.int .u8 a8)), (9, .sc (.int .u8 a9))] = some (ints .u8 [a0, a1, a2, a3, a4, a5, a6, a7, a8, a9], fun r => .sl r 0 10 1) := bs_ints .u8 189 10 [(0, a0), (1, a1), (2, a2), (3, a3), (4, a4), (5, a5), (6, a6), (7, a7), (8, a8), (9, a9)] zero189 tyOk189 cells189 (by decide) (by simp)
theorem bs189_11 (a0 a1 a2 a3 a4 a5 a6 a7 a8 a9 a10 : Int) : bsV Tryd.prog (some (.slice 189)) 11 [(0, .sc (.int .u8 a0)), (1, .sc (.int .u8 a1)), (2, .sc (.int .u8 a2)), (3, .sc (.int .u8 a3)), (4, .sc (.int .u8 a4)), (5, .sc (.int .u8 a5)), (6, .sc (.int .u8 a6)), (7, .sc (.int .u8 a7)), (8, .sc (.int .u8 a8)), (9, .sc (.int .u8 a9)), (10, .sc (.int .u8 a10))] = some (ints .u8 [a0, a1, a2, a3, a4, a5, a6, a7, a8, a9, a10], fun r => .sl r 0 11 1) := bs_ints .u8 189 11 [(0, a0), (1, a1), (2, a2), (3, a3), (4, a4), (5, a5), (6, a6), (7, a7), (8, a8), (9, a9), (10, a10)] zero189 tyOk189 cells189 (by decide) (by simp)
theorem bs189_12 (a0 a1 a2 a3 a4 a5 a6 a7 a8 a9 a10 a11 : Int) : bsV Tryd.prog (some (.slice 189)) 12 [(0, .sc (.int .u8 a0)), (1, .sc (.int .u8 a1)), (2, .sc (.int .u8 a2)), (3, .sc (.int .u8 a3)), (4, .sc (.int .u8 a4)), (5, .sc (.int .u8 a5)), (6, .sc (.int .u8 a6)), (7, .sc (.int .u8 a7)), (8, .sc (.int .u8 a8)), (9, .sc (.int .u8 a9)), (10, .sc (.int .u8 a10)), (11, .sc (.int .u8 a11))] = some (ints .u8 [a0, a1, a2, a3, a4, a5, a6, a7, a8, a9, a10, a11], fun r => .sl r 0 12 1) := bs_ints .u8 189 12 [(0, a0), (1, a1), (2, a2), (3, a3), (4, a4), (5, a5), (6, a6), (7, a7), (8, a8), (9, a9), (10, a10), (11, a11)] zero189 tyOk189 cells189 (by decide) (by simp)
theorem bs189_13 (a0 a1 a2 a3 a4 a5 a6 a7 a8 a9 a10 a11 a12 : Int) : bsV Tryd.prog (some (.slice 189)) 13 [(0, .sc (.int .u8 a0)), (1, .sc (.int .u8 a1)), (2, .sc (.int .u8 a2)), (3, .sc (.int .u8 a3)), (4, .sc (.int .u8 a4)), (5, .sc (.int .u8 a5)), (6, .sc (.int .u8 a6)), (7, .sc (.int .u8 a7)), (8, .sc (.int .u8 a8)), (9, .sc (.int .u8 a9)), (10, .sc (.int .u8 a10)), (11, .sc (.int .u8 a11)), (12, .sc (.int .u8 a12))] = some (ints .u8 [a0, a1, a2, a3, a4, a5, a6, a7, a8, a9, a10, a11, a12], fun r => .sl r 0 13 1) := bs_ints .u8 189 13 [(0, a0), (1, a1), (2, a2), (3, a3), (4, a4), (5, a5), (6, a6), (7, a7), (8, a8), (9, a9), (10, a10), (11, a11), (12, a12)] zero189 tyOk189 cells189 (by decide) (by simp)
theorem tyOk190 : tyOk Tryd.prog 190 = true := by kernel_rfl
theorem agg190 : aggB Tryd.prog 190 = false := by kernel_rfl
theorem cells190 : Tryd.prog.cellsOf 190 = 1 := by kernel_rfl
theorem isU190 : isU8 Tryd.prog 190 = true := by kernel_rfl
theorem zero190 : zeroA Tryd.prog 190 = some [.sc (.int .u8 0)] := by kernel_rfl
theorem info190 : (Tryd.prog.info? 190).map (·.bytes) = some 1 := by kernel_rfl
theorem mk190 (a b : IntKind) (m : Int) (h0 : 0 ≤ m) (h1 : m ≤ 1000000000000) : mkV Tryd.prog (some (.slice 190)) (.sc (.int a m)) (.sc (.int b m)) = some (ints .u8 (List.replicate m.toNat 0), fun r => .sl r 0 m.toNat 1) := mk_ints .u8 190 a b m _ zero190 info190 cells190 h0 (by omega) (by omega)
theorem bs190_0 : bsV Tryd.prog (some (.slice 190)) 0 [] = some (ints .u8 [], fun r => .sl r 0 0 1) := bs_ints .u8 190 0 [] zero190 tyOk190 cells190 (by decide) (by simp)
theorem bs190_1 (a0 : Int) : bsV Tryd.prog (some (.slice 190)) 1 [(0, .sc (.int .u8 a0))] = some (ints .u8 [a0], fun r => .sl r 0 1 1) := bs_ints .u8 190 1 [(0, a0)] zero190 tyOk190 cells190 (by decide) (by simp)
theorem bs190_2 (a0 a1 : Int) : bsV Tryd.prog (some (.slice 190)) 2 [(0, .sc (.int .u8 a0)), (1, .sc (.int .u8 a1))] = some (ints .u8 [a0, a1], fun r => .sl r 0 2 1) := bs_ints .u8 190 2 [(0, a0), (1, a1)] zero190 tyOk190 cells190 (by decide) (by simp)
theorem bs190_3 (a0 a1 a2 : Int) : bsV Tryd.prog (some (.slice 190)) 3 [(0, .sc (.int .u8 a0)), (1, .sc (.int .u8 a1)), (2, .sc (.int .u8 a2))] = some (ints .u8 [a0, a1, a2], fun r => .sl r 0 3 1) := bs_ints .u8 190 3 [(0, a0), (1, a1), (2, a2)] zero190 tyOk190 cells190 (by decide) (by simp)
theorem bs190_4 (a0 a1 a2 a3 : Int) : bsV Tryd.prog (some (.slice 190)) 4 [(0, .sc (.int .u8 a0)), (1, .sc (.int .u8 a1)), (2, .sc (.int .u8 a2)), (3, .sc (.int .u8 a3))] = some (ints .u8 [a0, a1, a2, a3], fun r => .sl r 0 4 1) := bs_ints .u8 190 4 [(0, a0), (1, a1), (2, a2), (3, a3)] zero190 tyOk190 cells190 (by decide) (by simp)
theorem bs190_5 (a0 a1 a2 a3 a4 : Int) : bsV Tryd.prog (some (.slice 190)) 5 [(0, .sc (.int .u8 a0)), (1, .sc (.int .u8 a1)), (2, .sc (.int .u8 a2)), (3, .sc (.int .u8 a3)), (4, .sc (.int .u8 a4))] = some (ints .u8 [a0, a1, a2, a3, a4], fun r => .sl r 0 5 1) := bs_ints .u8 190 5 [(0, a0), (1, a1), (2, a2), (3, a3), (4, a4)] zero190 tyOk190 cells190 (by decide) (by simp)
theorem bs190_6 (a0 a1 a2 a3 a4 a5 : Int) : bsV Tryd.prog (some (.slice 190)) 6 [(0, .sc (.int .u8 a0)), (1, .sc (.int .u8 a1)), (2, .sc (.int .u8 a2)), (3, .sc (.int .u8 a3)), (4, .sc (.int .u8 a4)), (5, .sc (.int .u8 a5))] = some (ints .u8 [a0, a1, a2, a3, a4, a5], fun r => .sl r 0 6 1) := bs_ints .u8 190 6 [(0, a0), (1, a1), (2, a2), (3, a3), (4, a4), (5, a5)] zero190 tyOk190 cells190 (by decide) (by simp)
theorem bs190_7 (a0 a1 a2 a3 a4 a5 a6 : Int) : bsV Tryd.prog (some (.slice 190)) 7 [(0, .sc (.int .u8 a0)), (1, .sc (.int .u8 a1)), (2, .sc (.int .u8 a2)), (3, .sc (.int .u8 a3)), (4, .sc (.int .u8 a4)), (5, .sc (.int .u8 a5)), (6, .sc (.int .u8 a6))] = some (ints .u8 [a0, a1, a2, a3, a4, a5, a6], fun r => .sl r 0 7 1) := bs_ints .u8 190 7 [(0, a0), (1, a1), (2, a2), (3, a3), (4, a4), (5, a5), (6, a6)] zero190 tyOk190 cells190 (by decide) (by simp)
theorem bs190_8 (a0 a1 a2 a3 a4 a5 a6 a7 : Int) : bsV Tryd.prog (some (.slice 190)) 8 [(0, .sc (.int .u8 a0)), (1, .sc (.int .u8 a1)), (2, .sc (.int .u8 a2)), (3, .sc (.int .u8 a3)), (4, .sc (.int .u8 a4)), (5, .sc (.int .u8 a5)), (6, .sc (.int .u8 a6)), (7, .sc (.int .u8 a7))] = some (ints .u8 [a0, a1, a2, a3, a4, a5, a6, a7], fun r => .sl r 0 8 1) := bs_ints .u8 190 8 [(0, a0), (1, a1), (2, a2), (3, a3), (4, a4), (5, a5), (6, a6), (7, a7)] zero190 tyOk190 cells190 (by decide) (by simp)
theorem bs190_10 (a0 a1 a2 a3 a4 a5 a6 a7 a8 a9 : Int) : bsV Tryd.prog (some (.slice 190)) 10 [(0, .sc (.int .u8 a0)), (1, .sc (.int .u8 a1)), (2, .sc (.int .u8 a2)), (3, .sc (.int .u8 a3)), (4, .sc (.int .u8 a4)), (5, .sc (.int .u8 a5)), (6, .sc (.int .u8 a6)), (7, .sc (.int .u8 a7)), (8, .sc (.int .u8 a8)), (9, .sc (.int .u8 a9))] = some (ints .u8 [a0, a1, a2, a3, a4, a5, a6, a7, a8, a9], fun r => .sl r 0 10 1) := bs_ints .u8 190 10 [(0, a0), (1, a1), (2, a2), (3, a3), (4, a4), (5, a5), (6, a6), (7, a7), (8, a8), (9, a9)] zero190 tyOk190 cells190 (by decide) (by simp)
theorem bs190_11 (a0 a1 a2 a3 a4 a5 a6 a7 a8 a9 a10 : Int) : bsV Tryd.prog (some (.slice 190)) 11 [(0, .sc (.int .u8 a0)), (1, .sc (.int .u8 a1)), (2, .sc (.int .u8 a2)), (3, .sc (.int .u8 a3)), (4, .sc (.int .u8 a4)), (5, .sc (.int .u8 a5)), (6, .sc (.int .u8 a6)), (7, .sc (.int .u8 a7)), (8, .sc (.int .u8 a8)), (9, .sc (.int .u8 a9)), (10, .sc (.int .u8 a10))] = some (ints .u8 [a0, a1, a2, a3, a4, a5, a6, a7, a8, a9, a10], fun r => .sl r 0 11 1) := bs_ints .u8 190 11 [(0, a0), (1, a1), (2, a2), (3, a3), (4, a4), (5, a5), (6, a6), (7, a7), (8, a8), (9, a9), (10, a10)] zero190 tyOk190 cells190 (by decide) (by simp)
theorem bs190_12 (a0 a1 a2 a3 a4 a5 a6 a7 a8 a9 a10 a11 : Int) : bsV Tryd.prog (some (.slice 190)) 12 [(0, .sc (.int .u8 a0)), (1, .sc (.int .u8 a1)), (2, .sc (.int .u8 a2)), (3, .sc (.int .u8 a3)), (4, .sc (.int .u8 a4)), (5, .sc (.int .u8 a5)), (6, .sc (.int .u8 a6)), (7, .sc (.int .u8 a7)), (8, .sc (.int .u8 a8)), (9, .sc (.int .u8 a9)), (10, .sc (.int .u8 a10)), (11, .sc (.int .u8 a11))] = some (ints .u8 [a0, a1, a2, a3, a4, a5, a6, a7, a8, a9, a10, a11], fun r => .sl r 0 12 1) := bs_ints .u8 190 12 [(0, a0), (1, a1), (2, a2), (3, a3), (4, a4), (5, a5), (6, a6), (7, a7), (8, a8), (9, a9), (10, a10), (11, a11)] zero190 tyOk190 cells190 (by decide) (by simp)
theorem bs190_13 (a0 a1 a2 a3 a4 a5 a6 a7 a8 a9 a10 a11 a12 : Int) : bsV Tryd.prog (some (.slice 190)) 13 [(0, .sc (.int .u8 a0)), (1, .sc (.int .u8 a1)), (2, .sc (.int .u8 a2)), (3, .sc (.int .u8 a3)), (4, .sc (.int .u8 a4)), (5, .sc (.int .u8 a5)), (6, .sc (.int .u8 a6)), (7, .sc (.int .u8 a7)), (8, .sc (.int .u8 a8)), (9, .sc (.int .u8 a9)), (10, .sc (.int .u8 a10)), (11, .sc (.int .u8 a11)), (12, .sc (.int .u8 a12))] = some (ints .u8 [a0, a1, a2, a3, a4, a5, a6, a7, a8, a9, a10, a11, a12], fun r => .sl r 0 13 1) := bs_ints .u8 190 13 [(0, a0), (1, a1), (2, a2), (3, a3), (4, a4), (5, a5), (6, a6), (7, a7), (8, a8), (9, a9), (10, a10), (11, a11), (12, a12)] zero190 tyOk190 cells190 (by decide) (by simp)
theorem tyOk191 : tyOk Tryd.prog 191 = true := by kernel_rfl
theorem agg191 : aggB Tryd.prog 191 = false := by kernel_rfl
theorem cells191 : Tryd.prog.cellsOf 191 = 1 := by kernel_rfl
theorem tyOk192 : tyOk Tryd.prog 192 = true := by kernel_rfl
theorem agg192 : aggB Tryd.prog 192 = false := by kernel_rfl
theorem cells192 : Tryd.prog.cellsOf 192 = 1 := by kernel_rfl
theorem zero192 : zeroA Tryd.prog 192 = some [.sc (.pointer none)] := by kernel_rfl
theorem tyOk193 : tyOk Tryd.prog 193 = true := by kernel_rfl
theorem agg193 : aggB Tryd.prog 193 = false := by kernel_rfl
theorem cells193 : Tryd.prog.cellsOf 193 = 1 := by kernel_rfl
theorem zero193 : zeroA Tryd.prog 193 = some [.sc (.int .i32 0)] := by kernel_rfl
theorem info193 : (Tryd.prog.info? 193).map (·.bytes) = some 4 := by kernel_rfl
theorem mk193 (a b : IntKind) (m : Int) (h0 : 0 ≤ m) (h1 : m ≤ 1000000000000) : mkV Tryd.prog (some (.slice 193)) (.sc (.int a m)) (.sc (.int b m)) = some (ints .i32 (List.replicate m.toNat 0), fun r => .sl r 0 m.toNat 1) := mk_ints .i32 193 a b m _ zero193 info193 cells193 h0 (by omega) (by omega)
theorem bs193_0 : bsV Tryd.prog (some (.slice 193)) 0 [] = some (ints .i32 [], fun r => .sl r 0 0 1) := bs_ints .i32 193 0 [] zero193 tyOk193 cells193 (by decide) (by simp)
theorem bs193_1 (a0 : Int) : bsV Tryd.prog (some (.slice 193)) 1 [(0, .sc (.int .i32 a0))] = some (ints .i32 [a0], fun r => .sl r 0 1 1) := bs_ints .i32 193 1 [(0, a0)] zero193 tyOk193 cells193 (by decide) (by simp)
theorem bs193_2 (a0 a1 : Int) : bsV Tryd.prog (some (.slice 193)) 2 [(0, .sc (.int .i32 a0)), (1, .sc (.int .i32 a1))] = some (ints .i32 [a0, a1], fun r => .sl r 0 2 1) := bs_ints .i32 193 2 [(0, a0), (1, a1)] zero193 tyOk193 cells193 (by decide) (by simp)
theorem bs193_3 (a0 a1 a2 : Int) : bsV Tryd.prog (some (.slice 193)) 3 [(0, .sc (.int .i32 a0)), (1, .sc (.int .i32 a1)), (2, .sc (.int .i32 a2))] = some (ints .i32 [a0, a1, a2], fun r => .sl r 0 3 1) := bs_ints .i32 193 3 [(0, a0), (1, a1), (2, a2)] zero193 tyOk193 cells193 (by decide) (by simp)
theorem bs193_4 (a0 a1 a2 a3 : Int) : bsV Tryd.prog (some (.slice 193)) 4 [(0, .sc (.int .i32 a0)), (1, .sc (.int .i32 a1)), (2, .sc (.int .i32 a2)), (3, .sc (.int .i32 a3))] = some (ints .i32 [a0, a1, a2, a3], fun r => .sl r 0 4 1) := bs_ints .i32 193 4 [(0, a0), (1, a1), (2, a2), (3, a3)] zero193 tyOk193 cells193 (by decide) (by simp)
theorem bs193_5 (a0 a1 a2 a3 a4 : Int) : bsV Tryd.prog (some (.slice 193)) 5 [(0, .sc (.int .i32 a0)), (1, .sc (.int .i32 a1)), (2, .sc (.int .i32 a2)), (3, .sc (.int .i32 a3)), (4, .sc (.int .i32 a4))] = some (ints .i32 [a0, a1, a2, a3, a4], fun r => .sl r 0 5 1) := bs_ints .i32 193 5 [(0, a0), (1, a1), (2, a2), (3, a3), (4, a4)] zero193 tyOk193 cells193 (by decide) (by simp)
theorem bs193_6 (a0 a1 a2 a3 a4 a5 : Int) : bsV Tryd.prog (some (.slice 193)) 6 [(0, .sc (.int .i32 a0)), (1, .sc (.int .i32 a1)), (2, .sc (.int .i32 a2)), (3, .sc (.int .i32 a3)), (4, .sc (.int .i32 a4)), (5, .sc (.int .i32 a5))] = some (ints .i32 [a0, a1, a2, a3, a4, a5], fun r => .sl r 0 6 1) := bs_ints .i32 193 6 [(0, a0), (1, a1), (2, a2), (3, a3), (4, a4), (5, a5)] zero193 tyOk193 cells193 (by decide) (by simp)
theorem bs193_7 (a0 a1 a2 a3 a4 a5 a6 : Int) : bsV Tryd.prog (some (.slice 193)) 7 [(0, .sc (.int .i32 a0)), (1, .sc (.int .i32 a1)), (2, .sc (.int .i32 a2)), (3, .sc (.int .i32 a3)), (4, .sc (.int .i32 a4)), (5, .sc (.int .i32 a5)), (6, .sc (.int .i32 a6))] = some (ints .i32 [a0, a1, a2, a3, a4, a5, a6], fun r => .sl r 0 7 1) := bs_ints .i32 193 7 [(0, a0), (1, a1), (2, a2), (3, a3), (4, a4), (5, a5), (6, a6)] zero193 tyOk193 cells193 (by decide) (by simp)
theorem bs193_8 (a0 a1 a2 a3 a4 a5 a6 a7 : Int) : bsV Tryd.prog (some (.slice 193)) 8 [(0, .sc (.int .i32 a0)), (1, .sc (.int .i32 a1)), (2, .sc (.int .i32 a2)), (3, .sc (.int .i32 a3)), (4, .sc (.int .i32 a4)), (5, .sc (.int .i32 a5)), (6, .sc (.int .i32 a6)), (7, .sc (.int .i32 a7))] = some (ints .i32 [a0, a1, a2, a3, a4, a5, a6, a7], fun r => .sl r 0 8 1) := bs_ints .i32 193 8 [(0, a0), (1, a1), (2, a2), (3, a3), (4, a4), (5, a5), (6, a6), (7, a7)] zero193 tyOk193 cells193 (by decide) (by simp)
theorem bs193_10 (a0 a1 a2 a3 a4 a5 a6 a7 a8 a9 : Int) : bsV Tryd.prog (some (.slice 193)) 10 [(0, .sc (.int .i32 a0)), (1, .sc (.int .i32 a1)), (2, .sc (.int .i32 a2)), (3, .sc (.int .i32 a3)), (4, .sc (.int .i32 a4)), (5, .sc (.int .i32 a5)), (6, .sc (.int .i32 a6)), (7, .sc (.int .i32 a7)), (8, .sc (.int .i32 a8)), (9, .sc (.int .i32 a9))] = some (ints .i32 [a0, a1, a2, a3, a4, a5, a6, a7, a8, a9], fun r => .sl r 0 10 1) := bs_ints .i32 193 10 [(0, a0), (1, a1), (2, a2), (3, a3), (4, a4), (5, a5), (6, a6), (7, a7), (8, a8), (9, a9)] zero193 tyOk193 cells193 (by decide) (by simp)
theorem bs193_11 (a0 a1 a2 a3 a4 a5 a6 a7 a8 a9 a10 : Int) : bsV Tryd.prog (some (.slice 193)) 11 [(0, .sc (.int .i32 a0)), (1, .sc (.int .i32 a1)), (2, .sc (.int .i32 a2)), (3, .sc (.int .i32 a3)), (4, .sc (.int .i32 a4)), (5, .sc (.int .i32 a5)), (6, .sc (.int .i32 a6)), (7, .sc (.int .i32 a7)), (8, .sc (.int .i32 a8)), (9, .sc (.int .i32 a9)), (10, .sc (.int .i32 a10))] = some (ints .i32 [a0, a1, a2, a3, a4, a5, a6, a7, a8, a9, a10], fun r => .sl r 0 11 1) := bs_ints .i32 193 11 [(0, a0), (1, a1), (2, a2), (3, a3), (4, a4), (5, a5), (6, a6), (7, a7), (8, a8), (9, a9), (10, a10)] zero193 tyOk193 cells193 (by decide) (by simp)
theorem bs193_12 (a0 a1 a2 a3 a4 a5 a6 a7 a8 a9 a10 a11 : Int) : bsV Tryd.prog (some (.slice 193)) 12 [(0, .sc (.int .i32 a0)), (1, .sc (.int .i32 a1)), (2, .sc (.int .i32 a2)), (3, .sc (.int .i32 a3)), (4, .sc (.int .i32 a4)), (5, .sc (.int .i32 a5)), (6, .sc (.int .i32 a6)), (7, .sc (.int .i32 a7)), (8, .sc (.int .i32 a8)), (9, .sc (.int .i32 a9)), (10, .sc (.int .i32 a10)), (11, .sc (.int .i32 a11))] = some (ints .i32 [a0, a1, a2, a3, a4, a5, a6, a7, a8, a9, a10, a11], fun r => .sl r 0 12 1) := bs_ints .i32 193 12 [(0, a0), (1, a1), (2, a2), (3, a3), (4, a4), (5, a5), (6, a6), (7, a7), (8, a8), (9, a9), (10, a10), (11, a11)] zero193 tyOk193 cells193 (by decide) (by simp)
theorem bs193_13 (a0 a1 a2 a3 a4 a5 a6 a7 a8 a9 a10 a11 a12 : Int) : bsV Tryd.prog (some (.slice 193)) 13 [(0, .sc (.int .i32 a0)), (1, .sc (.int .i32 a1)), (2, .sc (.int .i32 a2)), (3, .sc (.int .i32 a3)), (4, .sc (.int .i32 a4)), (5, .sc (.int .i32 a5)), (6, .sc (.int .i32 a6)), (7, .sc (.int .i32 a7)), (8, .sc (.int .i32 a8)), (9, .sc (.int .i32 a9)), (10, .sc (.int .i32 a10)), (11, .sc (.int .i32 a11)), (12, .sc (.int .i32 a12))] = some (ints .i32 [a0, a1, a2, a3, a4, a5, a6, a7, a8, a9, a10, a11, a12], fun r => .sl r 0 13 1) := bs_ints .i32 193 13 [(0, a0), (1, a1), (2, a2), (3, a3), (4, a4), (5, a5), (6, a6), (7, a7), (8, a8), (9, a9), (10, a10), (11, a11), (12, a12)] zero193 tyOk193 cells193 (by decide) (by simp)
theorem tyOk194 : tyOk Tryd.prog 194 = true := by kernel_rfl
theorem agg194 : aggB Tryd.prog 194 = false := by kernel_rfl
theorem cells194 : Tryd.prog.cellsOf 194 = 1 := by kernel_rfl
theorem zero194 : zeroA Tryd.prog 194 = some [.sc (.int .i32 0)] := by kernel_rfl
theorem info194 : (Tryd.prog.info? 194).map (·.bytes) = some 4 := by kernel_rfl
theorem mk194 (a b : IntKind) (m : Int) (h0 : 0 ≤ m) (h1 : m ≤ 1000000000000) : mkV Tryd.prog (some (.slice 194)) (.sc (.int a m)) (.sc (.int b m)) = some (ints .i32 (List.replicate m.toNat 0), fun r => .sl r 0 m.toNat 1) := mk_ints .i32 194 a b m _ zero194 info194 cells194 h0 (by omega) (by omega)
theorem bs194_0 : bsV Tryd.prog (some (.slice 194)) 0 [] = some (ints .i32 [], fun r => .sl r 0 0 1) := bs_ints .i32 194 0 [] zero194 tyOk194 cells194 (by decide) (by simp)
theorem bs194_1 (a0 : Int) : bsV Tryd.prog (some (.slice 194)) 1 [(0, .sc (.int .i32 a0))] = some (ints .i32 [a0], fun r => .sl r 0 1 1) := bs_ints .i32 194 1 [(0, a0)] zero194 tyOk194 cells194 (by decide) (by simp)
theorem bs194_2 (a0 a1 : Int) : bsV Tryd.prog (some (.slice 194)) 2 [(0, .sc (.int .i32 a0)), (1, .sc (.int .i32 a1))] = some (ints .i32 [a0, a1], fun r => .sl r 0 2 1) := bs_ints .i32 194 2 [(0, a0), (1, a1)] zero194 tyOk194 cells194 (by decide) (by simp)
theorem bs194_3 (a0 a1 a2 : Int) : bsV Tryd.prog (some (.slice 194)) 3 [(0, .sc (.int .i32 a0)), (1, .sc (.int .i32 a1)), (2, .sc (.int .i32 a2))] = some (ints .i32 [a0, a1, a2], fun r => .sl r 0 3 1) := bs_ints .i32 194 3 [(0, a0), (1, a1), (2, a2)] zero194 tyOk194 cells194 (by decide) (by simp)
theorem bs194_4 (a0 a1 a2 a3 : Int) : bsV Tryd.prog (some (.slice 194)) 4 [(0, .sc (.int .i32 a0)), (1, .sc (.int .i32 a1)), (2, .sc (.int .i32 a2)), (3, .sc (.int .i32 a3))] = some (ints .i32 [a0, a1, a2, a3], fun r => .sl r 0 4 1) := bs_ints .i32 194 4 [(0, a0), (1, a1), (2, a2), (3, a3)] zero194 tyOk194 cells194 (by decide) (by simp)
theorem bs194_5 (a0 a1 a2 a3 a4 : Int) : bsV Tryd.prog (some (.slice 194)) 5 [(0, .sc (.int .i32 a0)), (1, .sc (.int .i32 a1)), (2, .sc (.int .i32 a2)), (3, .sc (.int .i32 a3)), (4, .sc (.int .i32 a4))] = some (ints .i32 [a0, a1, a2, a3, a4], fun r => .sl r 0 5 1) := bs_ints .i32 194 5 [(0, a0), (1, a1), (2, a2), (3, a3), (4, a4)] zero194 tyOk194 cells194 (by decide) (by simp)
theorem bs194_6 (a0 a1 a2 a3 a4 a5 : Int) : bsV Tryd.prog (some (.slice 194)) 6 [(0, .sc (.int .i32 a0)), (1, .sc (.int .i32 a1)), (2, .sc (.int .i32 a2)), (3, .sc (.int .i32 a3)), (4, .sc (.int .i32 a4)), (5, .sc (.int .i32 a5))] = some (ints .i32 [a0, a1, a2, a3, a4, a5], fun r => .sl r 0 6 1) := bs_ints .i32 194 6 [(0, a0), (1, a1), (2, a2), (3, a3), (4, a4), (5, a5)] zero194 tyOk194 cells194 (by decide) (by simp)
theorem bs194_7 (a0 a1 a2 a3 a4 a5 a6 : Int) : bsV Tryd.prog (some (.slice 194)) 7 [(0, .sc (.int .i32 a0)), (1, .sc (.int .i32 a1)), (2, .sc (.int .i32 a2)), (3, .sc (.int .i32 a3)), (4, .sc (.int .i32 a4)), (5, .sc (.int .i32 a5)), (6, .sc (.int .i32 a6))] = some (ints .i32 [a0, a1, a2, a3, a4, a5, a6], fun r => .sl r 0 7 1) := bs_ints .i32 194 7 [(0, a0), (1, a1), (2, a2), (3, a3), (4, a4), (5, a5), (6, a6)] zero194 tyOk194 cells194 (by decide) (by simp)
theorem bs194_8 (a0 a1 a2 a3 a4 a5 a6 a7 : Int) : bsV Tryd.prog (some (.slice 194)) 8 [(0, .sc (.int .i32 a0)), (1, .sc (.int .i32 a1)), (2, .sc (.int .i32 a2)), (3, .sc (.int .i32 a3)), (4, .sc (.int .i32 a4)), (5, .sc (.int .i32 a5)), (6, .sc (.int .i32 a6)), (7, .sc (.int .i32 a7))] = some (ints .i32 [a0, a1, a2, a3, a4, a5, a6, a7], fun r => .sl r 0 8 1) := bs_ints .i32 194 8 [(0, a0), (1, a1), (2, a2), (3, a3), (4, a4), (5, a5), (6, a6), (7, a7)] zero194 tyOk194 cells194 (by decide) (by simp)
theorem bs194_10 (a0 a1 a2 a3 a4 a5 a6 a7 a8 a9 : Int) : bsV Tryd.prog (some (.slice 194)) 10 [(0, .sc (.int .i32 a0)), (1, .sc (.int .i32 a1)), (2, .sc (.int .i32 a2)), (3, .sc (.int .i32 a3)), (4, .sc (.int .i32 a4)), (5, .sc (.int .i32 a5)), (6, .sc (.int .i32 a6)), (7, .sc (.int .i32 a7)), (8, .sc (.int .i32 a8)), (9, .sc (.int .i32 a9))] = some (ints .i32 [a0, a1, a2, a3, a4, a5, a6, a7, a8, a9], fun r => .sl r 0 10 1) := bs_ints .i32 194 10 [(0, a0), (1, a1), (2, a2), (3, a3), (4, a4), (5, a5), (6, a6), (7, a7), (8, a8), (9, a9)] zero194 tyOk194 cells194 (by decide) (by simp)
theorem bs194_11 (a0 a1 a2 a3 a4 a5 a6 a7 a8 a9 a10 : Int) : bsV Tryd.prog (some (.slice 194)) 11 [(0, .sc (.int .i32 a0)), (1, .sc (.int .i32 a1)), (2, .sc (.int .i32 a2)), (3, .sc (.int .i32 a3)), (4, .sc (.int .i32 a4)), (5, .sc (.int .i32 a5)), (6, .sc (.int .i32 a6)), (7, .sc (.int .i32 a7)), (8, .sc (.int .i32 a8)), (9, .sc (.int .i32 a9)), (10, .sc (.int .i32 a10))] = some (ints .i32 [a0, a1, a2, a3, a4, a5, a6, a7, a8, a9, a10], fun r => .sl r 0 11 1) := bs_ints .i32 194 11 [(0, a0), (1, a1), (2, a2), (3, a3), (4, a4), (5, a5), (6, a6), (7, a7), (8, a8), (9, a9), (10, a10)] zero194 tyOk194 cells194 (by decide) (by simp)
theorem bs194_12 (a0 a1 a2 a3 a4 a5 a6 a7 a8 a9 a10 a11 : Int) : bsV Tryd.prog (some (.slice 194)) 12 [(0, .sc (.int .i32 a0)), (1, .sc (.int .i32 a1)), (2, .sc (.int .i32 a2)), (3, .sc (.int .i32 a3)), (4, .sc (.int .i32 a4)), (5, .sc (.int .i32 a5)), (6, .sc (.int .i32 a6)), (7, .sc (.int .i32 a7)), (8, .sc (.int .i32 a8)), (9, .sc (.int .i32 a9)), (10, .sc (.int .i32 a10)), (11, .sc (.int .i32 a11))] = some (ints .i32 [a0, a1, a2, a3, a4, a5, a6, a7, a8, a9, a10, a11], fun r => .sl r 0 12 1) := bs_ints .i32 194 12 [(0, a0), (1, a1), (2, a2), (3, a3), (4, a4), (5, a5), (6, a6), (7, a7), (8, a8), (9, a9), (10, a10), (11, a11)] zero194 tyOk194 cells194 (by decide) (by simp)
theorem bs194_13 (a0 a1 a2 a3 a4 a5 a6 a7 a8 a9 a10 a11 a12 : Int) : bsV Tryd.prog (some (.slice 194)) 13 [(0, .sc (.int .i32 a0)), (1, .sc (.int .i32 a1)), (2, .sc (.int .i32 a2)), (3, .sc (.int .i32 a3)), (4, .sc (.int .i32 a4)), (5, .sc (.int .i32 a5)), (6, .sc (.int .i32 a6)), (7, .sc (.int .i32 a7)), (8, .sc (.int .i32 a8)), (9, .sc (.int .i32 a9)), (10, .sc (.int .i32 a10)), (11, .sc (.int .i32 a11)), (12, .sc (.int .i32 a12))] = some (ints .i32 [a0, a1, a2, a3, a4, a5, a6, a7, a8, a9, a10, a11, a12], fun r => .sl r 0 13 1) := bs_ints .i32 194 13 [(0, a0), (1, a1), (2, a2), (3, a3), (4, a4), (5, a5), (6, a6), (7, a7), (8, a8), (9, a9), (10, a10), (11, a11), (12, a12)] zero194 tyOk194 cells194 (by decide) (by simp)
theorem tyOk195 : tyOk Tryd.prog 195 = true := by kernel_rfl
theorem agg195 : aggB Tryd.prog 195 = true := by kernel_rfl
theorem cells195 : Tryd.prog.cellsOf 195 = 11 := by kernel_rfl
theorem tyOk196 : tyOk Tryd.prog 196 = true := by kernel_rfl
theorem agg196 : aggB Tryd.prog 196 = true := by kernel_rfl
theorem cells196 : Tryd.prog.cellsOf 196 = 11 := by kernel_rfl
theorem tyOk197 : tyOk Tryd.prog 197 = true := by kernel_rfl
theorem agg197 : aggB Tryd.prog 197 = false := by kernel_rfl
theorem cells197 : Tryd.prog.cellsOf 197 = 1 := by kernel_rfl
theorem zero197 : zeroA Tryd.prog 197 = some [.sc (.pointer none)] := by kernel_rfl
theorem apS65 (r len : Nat) (x : AV) (H : AHeap) : apV Tryd.prog (some (.slice 3)) (some (.slice 3)) (.sl r 0 len 1) x H = apT 8 H r len H[r]? (srcCells H x 1) := ap_sl zero3 info3 cells3 rfl r len x
theorem apN65 (x : AV) (H : AHeap) : apV Tryd.prog (some (.slice 3)) (some (.slice 3)) (.sc (.slice none 0 0)) x H = apN 8 H (srcCells H x 1) := ap_nil zero3 info3 cells3 rfl x
theorem apS87 (r len : Nat) (x : AV) (H : AHeap) : apV Tryd.prog (some (.slice 5)) (some (.slice 5)) (.sl r 0 len 1) x H = apT 1 H r len H[r]? (srcCells H x 1) := ap_sl zero5 info5 cells5 rfl r len x
theorem apN87 (x : AV) (H : AHeap) : apV Tryd.prog (some (.slice 5)) (some (.slice 5)) (.sc (.slice none 0 0)) x H = apN 1 H (srcCells H x 1) := ap_nil zero5 info5 cells5 rfl x
theorem apStr87 (r len : Nat) (x : AV) (H : AHeap) : apV Tryd.prog (some (.slice 5)) (some .string) (.sl r 0 len 1) x H = apT 1 H r len H[r]? (srcCells H x 1) := ap_sl zero5 info5 cells5 rfl r len x
theorem apS80 (r len : Nat) (x : AV) (H : AHeap) : apV Tryd.prog (some (.slice 9)) (some (.slice 9)) (.sl r 0 len 1) x H = apT 16 H r len H[r]? (srcCells H x 1) := ap_sl zero9 info9 cells9 rfl r len x
theorem apN80 (x : AV) (H : AHeap) : apV Tryd.prog (some (.slice 9)) (some (.slice 9)) (.sc (.slice none 0 0)) x H = apN 16 H (srcCells H x 1) := ap_nil zero9 info9 cells9 rfl x
theorem fadr7_0 (r off : Nat) : fadrT Tryd.prog 7 (.ptr r off) 0 = some (.ptr r (off + 0)) := fadr_st Tryd.underlying7 rfl tyOk2 (by rw [cells2]; decide) r off
theorem fld7_0 (cs : List AV) : fldT Tryd.prog 7 (.agg cs) 0 = cs[0]? := fld_one Tryd.underlying7 rfl tyOk2 agg2 cs
theorem fadr7_1 (r off : Nat) : fadrT Tryd.prog 7 (.ptr r off) 1 = some (.ptr r (off + 1)) := fadr_st Tryd.underlying7 rfl tyOk3 (by rw [cells3]; decide) r off
theorem fld7_1 (cs : List AV) : fldT Tryd.prog 7 (.agg cs) 1 = cs[1]? := fld_one Tryd.underlying7 rfl tyOk3 agg3 cs
theorem fadr7_2 (r off : Nat) : fadrT Tryd.prog 7 (.ptr r off) 2 = some (.ptr r (off + 2)) := fadr_st Tryd.underlying7 rfl tyOk4 (by rw [cells4]; decide) r off
theorem fld7_2 (cs : List AV) : fldT Tryd.prog 7 (.agg cs) 2 = cs[2]? := fld_one Tryd.underlying7 rfl tyOk4 agg4 cs
theorem fadr7_3 (r off : Nat) : fadrT Tryd.prog 7 (.ptr r off) 3 = some (.ptr r (off + 3)) := fadr_st Tryd.underlying7 rfl tyOk6 (by rw [cells6]; decide) r off
theorem fld7_3 (cs : List AV) : fldT Tryd.prog 7 (.agg cs) 3 = cs[3]? := fld_one Tryd.underlying7 rfl tyOk6 agg6 cs
theorem bz7 : buildV Tryd.prog 7 [] = some (.agg [.sc (.int .i64 0), .sc (.int .i64 0), .sc (.bool false), .sc (.int .u8 0)]) := by simp [buildV, Tryd.underlying7, zero7, fillA, tyOk2, cells2, tyOk3, cells3, tyOk4, cells4, tyOk6, cells6]
theorem bds7 (v0 v1 v2 v3 : AV) (hv0 : v0.cells = [v0]) (hv1 : v1.cells = [v1]) (hv2 : v2.cells = [v2]) (hv3 : v3.cells = [v3]) : buildV Tryd.prog 7 [(0, v0), (1, v1), (2, v2), (3, v3)] = some (.agg [v0, v1, v2, v3]) := by simp [buildV, Tryd.underlying7, zero7, fillA, placeS, overA, tyOk2, cells2, tyOk3, cells3, tyOk4, cells4, tyOk6, cells6, hv0, hv1, hv2, hv3]
theorem fadr8_0 (r off : Nat) : fadrT Tryd.prog 8 (.ptr r off) 0 = some (.ptr r (off + 0)) := fadr_st Tryd.underlying8 rfl tyOk2 (by rw [cells2]; decide) r off
theorem fld8_0 (cs : List AV) : fldT Tryd.prog 8 (.agg cs) 0 = cs[0]? := fld_one Tryd.underlying8 rfl tyOk2 agg2 cs
theorem fadr8_1 (r off : Nat) : fadrT Tryd.prog 8 (.ptr r off) 1 = some (.ptr r (off + 1)) := fadr_st Tryd.underlying8 rfl tyOk3 (by rw [cells3]; decide) r off
theorem fld8_1 (cs : List AV) : fldT Tryd.prog 8 (.agg cs) 1 = cs[1]? := fld_one Tryd.underlying8 rfl tyOk3 agg3 cs
theorem fadr8_2 (r off : Nat) : fadrT Tryd.prog 8 (.ptr r off) 2 = some (.ptr r (off + 2)) := fadr_st Tryd.underlying8 rfl tyOk4 (by rw [cells4]; decide) r off
theorem fld8_2 (cs : List AV) : fldT Tryd.prog 8 (.agg cs) 2 = cs[2]? := fld_one Tryd.underlying8 rfl tyOk4 agg4 cs
theorem fadr8_3 (r off : Nat) : fadrT Tryd.prog 8 (.ptr r off) 3 = some (.ptr r (off + 3)) := fadr_st Tryd.underlying8 rfl tyOk6 (by rw [cells6]; decide) r off
theorem fld8_3 (cs : List AV) : fldT Tryd.prog 8 (.agg cs) 3 = cs[3]? := fld_one Tryd.underlying8 rfl tyOk6 agg6 cs
theorem bz8 : buildV Tryd.prog 8 [] = some (.agg [.sc (.int .i64 0), .sc (.int .i64 0), .sc (.bool false), .sc (.int .u8 0)]) := by simp [buildV, Tryd.underlying8, zero8, fillA, tyOk2, cells2, tyOk3, cells3, tyOk4, cells4, tyOk6, cells6]
theorem bds8 (v0 v1 v2 v3 : AV) (hv0 : v0.cells = [v0]) (hv1 : v1.cells = [v1]) (hv2 : v2.cells = [v2]) (hv3 : v3.cells = [v3]) : buildV Tryd.prog 8 [(0, v0), (1, v1), (2, v2), (3, v3)] = some (.agg [v0, v1, v2, v3]) := by simp [buildV, Tryd.underlying8, zero8, fillA, placeS, overA, tyOk2, cells2, tyOk3, cells3, tyOk4, cells4, tyOk6, cells6, hv0, hv1, hv2, hv3]
theorem fadr13_0 (r off : Nat) : fadrT Tryd.prog 13 (.ptr r off) 0 = some (.ptr r (off + 0)) := fadr_st Tryd.underlying13 rfl tyOk9 (by rw [cells9]; decide) r off
theorem fld13_0 (cs : List AV) : fldT Tryd.prog 13 (.agg cs) 0 = cs[0]? := fld_one Tryd.underlying13 rfl tyOk9 agg9 cs
theorem fadr13_1 (r off : Nat) : fadrT Tryd.prog 13 (.ptr r off) 1 = some (.ptr r (off + 1)) := fadr_st Tryd.underlying13 rfl tyOk12 (by rw [cells12]; decide) r off
theorem fld13_1 (cs : List AV) : fldT Tryd.prog 13 (.agg cs) 1 = cs[1]? := fld_one Tryd.underlying13 rfl tyOk12 agg12 cs
theorem bz13 : buildV Tryd.prog 13 [] = some (.agg [.sc (.string ByteArray.empty), .sc (.int .u64 0)]) := by simp [buildV, Tryd.underlying13, zero13, fillA, tyOk9, cells9, tyOk12, cells12]
theorem bds13 (v0 v1 : AV) (hv0 : v0.cells = [v0]) (hv1 : v1.cells = [v1]) : buildV Tryd.prog 13 [(0, v0), (1, v1)] = some (.agg [v0, v1]) := by simp [buildV, Tryd.underlying13, zero13, fillA, placeS, overA, tyOk9, cells9, tyOk12, cells12, hv0, hv1]
theorem fadr14_0 (r off : Nat) : fadrT Tryd.prog 14 (.ptr r off) 0 = some (.ptr r (off + 0)) := fadr_st Tryd.underlying14 rfl tyOk9 (by rw [cells9]; decide) r off
theorem fld14_0 (cs : List AV) : fldT Tryd.prog 14 (.agg cs) 0 = cs[0]? := fld_one Tryd.underlying14 rfl tyOk9 agg9 cs
theorem fadr14_1 (r off : Nat) : fadrT Tryd.prog 14 (.ptr r off) 1 = some (.ptr r (off + 1)) := fadr_st Tryd.underlying14 rfl tyOk12 (by rw [cells12]; decide) r off
theorem fld14_1 (cs : List AV) : fldT Tryd.prog 14 (.agg cs) 1 = cs[1]? := fld_one Tryd.underlying14 rfl tyOk12 agg12 cs
theorem bz14 : buildV Tryd.prog 14 [] = some (.agg [.sc (.string ByteArray.empty), .sc (.int .u64 0)]) := by simp [buildV, Tryd.underlying14, zero14, fillA, tyOk9, cells9, tyOk12, cells12]
theorem bds14 (v0 v1 : AV) (hv0 : v0.cells = [v0]) (hv1 : v1.cells = [v1]) : buildV Tryd.prog 14 [(0, v0), (1, v1)] = some (.agg [v0, v1]) := by simp [buildV, Tryd.underlying14, zero14, fillA, placeS, overA, tyOk9, cells9, tyOk12, cells12, hv0, hv1]
theorem fadr18_0 (r off : Nat) : fadrT Tryd.prog 18 (.ptr r off) 0 = some (.ptr r (off + 0)) := fadr_st Tryd.underlying18 rfl tyOk17 (by rw [cells17]; decide) r off
theorem fld18_0 (cs : List AV) : fldT Tryd.prog 18 (.agg cs) 0 = cs[0]? := fld_one Tryd.underlying18 rfl tyOk17 agg17 cs
theorem bz18 : buildV Tryd.prog 18 [] = some (.agg [.sc (.pointer none)]) := by simp [buildV, Tryd.underlying18, zero18, fillA, tyOk17, cells17]
theorem bds18 (v0 : AV) (hv0 : v0.cells = [v0]) : buildV Tryd.prog 18 [(0, v0)] = some (.agg [v0]) := by simp [buildV, Tryd.underlying18, zero18, fillA, placeS, overA, tyOk17, cells17, hv0]
theorem fadr19_0 (r off : Nat) : fadrT Tryd.prog 19 (.ptr r off) 0 = some (.ptr r (off + 0)) := fadr_st Tryd.underlying19 rfl tyOk17 (by rw [cells17]; decide) r off
theorem fld19_0 (cs : List AV) : fldT Tryd.prog 19 (.agg cs) 0 = cs[0]? := fld_one Tryd.underlying19 rfl tyOk17 agg17 cs
theorem bz19 : buildV Tryd.prog 19 [] = some (.agg [.sc (.pointer none)]) := by simp [buildV, Tryd.underlying19, zero19, fillA, tyOk17, cells17]
theorem bds19 (v0 : AV) (hv0 : v0.cells = [v0]) : buildV Tryd.prog 19 [(0, v0)] = some (.agg [v0]) := by simp [buildV, Tryd.underlying19, zero19, fillA, placeS, overA, tyOk17, cells17, hv0]
theorem fadr22_0 (r off : Nat) : fadrT Tryd.prog 22 (.ptr r off) 0 = some (.ptr r (off + 0)) := fadr_st Tryd.underlying22 rfl tyOk3 (by rw [cells3]; decide) r off
theorem fld22_0 (cs : List AV) : fldT Tryd.prog 22 (.agg cs) 0 = cs[0]? := fld_one Tryd.underlying22 rfl tyOk3 agg3 cs
theorem fadr22_1 (r off : Nat) : fadrT Tryd.prog 22 (.ptr r off) 1 = some (.ptr r (off + 1)) := fadr_st Tryd.underlying22 rfl tyOk3 (by rw [cells3]; decide) r off
theorem fld22_1 (cs : List AV) : fldT Tryd.prog 22 (.agg cs) 1 = cs[1]? := fld_one Tryd.underlying22 rfl tyOk3 agg3 cs
theorem bz22 : buildV Tryd.prog 22 [] = some (.agg [.sc (.int .i64 0), .sc (.int .i64 0)]) := by simp [buildV, Tryd.underlying22, zero22, fillA, tyOk3, cells3, tyOk3, cells3]
theorem bds22 (v0 v1 : AV) (hv0 : v0.cells = [v0]) (hv1 : v1.cells = [v1]) : buildV Tryd.prog 22 [(0, v0), (1, v1)] = some (.agg [v0, v1]) := by simp [buildV, Tryd.underlying22, zero22, fillA, placeS, overA, tyOk3, cells3, tyOk3, cells3, hv0, hv1]
theorem fadr23_0 (r off : Nat) : fadrT Tryd.prog 23 (.ptr r off) 0 = some (.ptr r (off + 0)) := fadr_st Tryd.underlying23 rfl tyOk3 (by rw [cells3]; decide) r off
theorem fld23_0 (cs : List AV) : fldT Tryd.prog 23 (.agg cs) 0 = cs[0]? := fld_one Tryd.underlying23 rfl tyOk3 agg3 cs
theorem fadr23_1 (r off : Nat) : fadrT Tryd.prog 23 (.ptr r off) 1 = some (.ptr r (off + 1)) := fadr_st Tryd.underlying23 rfl tyOk3 (by rw [cells3]; decide) r off
theorem fld23_1 (cs : List AV) : fldT Tryd.prog 23 (.agg cs) 1 = cs[1]? := fld_one Tryd.underlying23 rfl tyOk3 agg3 cs
theorem bz23 : buildV Tryd.prog 23 [] = some (.agg [.sc (.int .i64 0), .sc (.int .i64 0)]) := by simp [buildV, Tryd.underlying23, zero23, fillA, tyOk3, cells3, tyOk3, cells3]
theorem bds23 (v0 v1 : AV) (hv0 : v0.cells = [v0]) (hv1 : v1.cells = [v1]) : buildV Tryd.prog 23 [(0, v0), (1, v1)] = some (.agg [v0, v1]) := by simp [buildV, Tryd.underlying23, zero23, fillA, placeS, overA, tyOk3, cells3, tyOk3, cells3, hv0, hv1]
theorem fadr24_0 (r off : Nat) : fadrT Tryd.prog 24 (.ptr r off) 0 = some (.ptr r (off + 0)) := fadr_st Tryd.underlying24 rfl tyOk3 (by rw [cells3]; decide) r off
theorem fld24_0 (cs : List AV) : fldT Tryd.prog 24 (.agg cs) 0 = cs[0]? := fld_one Tryd.underlying24 rfl tyOk3 agg3 cs
theorem fadr24_1 (r off : Nat) : fadrT Tryd.prog 24 (.ptr r off) 1 = some (.ptr r (off + 1)) := fadr_st Tryd.underlying24 rfl tyOk3 (by rw [cells3]; decide) r off
theorem fld24_1 (cs : List AV) : fldT Tryd.prog 24 (.agg cs) 1 = cs[1]? := fld_one Tryd.underlying24 rfl tyOk3 agg3 cs
theorem fadr24_2 (r off : Nat) : fadrT Tryd.prog 24 (.ptr r off) 2 = some (.ptr r (off + 2)) := fadr_st Tryd.underlying24 rfl tyOk3 (by rw [cells3]; decide) r off
theorem fld24_2 (cs : List AV) : fldT Tryd.prog 24 (.agg cs) 2 = cs[2]? := fld_one Tryd.underlying24 rfl tyOk3 agg3 cs
theorem fadr24_3 (r off : Nat) : fadrT Tryd.prog 24 (.ptr r off) 3 = some (.ptr r (off + 3)) := fadr_st Tryd.underlying24 rfl tyOk3 (by rw [cells3]; decide) r off
theorem fld24_3 (cs : List AV) : fldT Tryd.prog 24 (.agg cs) 3 = cs[3]? := fld_one Tryd.underlying24 rfl tyOk3 agg3 cs
theorem fadr24_4 (r off : Nat) : fadrT Tryd.prog 24 (.ptr r off) 4 = some (.ptr r (off + 4)) := fadr_st Tryd.underlying24 rfl tyOk3 (by rw [cells3]; decide) r off
theorem fld24_4 (cs : List AV) : fldT Tryd.prog 24 (.agg cs) 4 = cs[4]? := fld_one Tryd.underlying24 rfl tyOk3 agg3 cs
theorem fadr24_5 (r off : Nat) : fadrT Tryd.prog 24 (.ptr r off) 5 = some (.ptr r (off + 5)) := fadr_st Tryd.underlying24 rfl tyOk23 (by rw [cells23]; decide) r off
theorem fadr24_6 (r off : Nat) : fadrT Tryd.prog 24 (.ptr r off) 6 = some (.ptr r (off + 7)) := fadr_st Tryd.underlying24 rfl tyOk23 (by rw [cells23]; decide) r off
theorem fadr25_0 (r off : Nat) : fadrT Tryd.prog 25 (.ptr r off) 0 = some (.ptr r (off + 0)) := fadr_st Tryd.underlying25 rfl tyOk3 (by rw [cells3]; decide) r off
theorem fld25_0 (cs : List AV) : fldT Tryd.prog 25 (.agg cs) 0 = cs[0]? := fld_one Tryd.underlying25 rfl tyOk3 agg3 cs
theorem fadr25_1 (r off : Nat) : fadrT Tryd.prog 25 (.ptr r off) 1 = some (.ptr r (off + 1)) := fadr_st Tryd.underlying25 rfl tyOk3 (by rw [cells3]; decide) r off
theorem fld25_1 (cs : List AV) : fldT Tryd.prog 25 (.agg cs) 1 = cs[1]? := fld_one Tryd.underlying25 rfl tyOk3 agg3 cs
theorem fadr25_2 (r off : Nat) : fadrT Tryd.prog 25 (.ptr r off) 2 = some (.ptr r (off + 2)) := fadr_st Tryd.underlying25 rfl tyOk3 (by rw [cells3]; decide) r off
theorem fld25_2 (cs : List AV) : fldT Tryd.prog 25 (.agg cs) 2 = cs[2]? := fld_one Tryd.underlying25 rfl tyOk3 agg3 cs
theorem fadr25_3 (r off : Nat) : fadrT Tryd.prog 25 (.ptr r off) 3 = some (.ptr r (off + 3)) := fadr_st Tryd.underlying25 rfl tyOk3 (by rw [cells3]; decide) r off
theorem fld25_3 (cs : List AV) : fldT Tryd.prog 25 (.agg cs) 3 = cs[3]? := fld_one Tryd.underlying25 rfl tyOk3 agg3 cs
theorem fadr25_4 (r off : Nat) : fadrT Tryd.prog 25 (.ptr r off) 4 = some (.ptr r (off + 4)) := fadr_st Tryd.underlying25 rfl tyOk3 (by rw [cells3]; decide) r off
theorem fld25_4 (cs : List AV) : fldT Tryd.prog 25 (.agg cs) 4 = cs[4]? := fld_one Tryd.underlying25 rfl tyOk3 agg3 cs
theorem fadr25_5 (r off : Nat) : fadrT Tryd.prog 25 (.ptr r off) 5 = some (.ptr r (off + 5)) := fadr_st Tryd.underlying25 rfl tyOk23 (by rw [cells23]; decide) r off
theorem fadr25_6 (r off : Nat) : fadrT Tryd.prog 25 (.ptr r off) 6 = some (.ptr r (off + 7)) := fadr_st Tryd.underlying25 rfl tyOk23 (by rw [cells23]; decide) r off
theorem fadr26_0 (r off : Nat) : fadrT Tryd.prog 26 (.ptr r off) 0 = some (.ptr r (off + 0)) := fadr_st Tryd.underlying26 rfl tyOk3 (by rw [cells3]; decide) r off
theorem fld26_0 (cs : List AV) : fldT Tryd.prog 26 (.agg cs) 0 = cs[0]? := fld_one Tryd.underlying26 rfl tyOk3 agg3 cs
theorem fadr26_1 (r off : Nat) : fadrT Tryd.prog 26 (.ptr r off) 1 = some (.ptr r (off + 1)) := fadr_st Tryd.underlying26 rfl tyOk3 (by rw [cells3]; decide) r off
theorem fld26_1 (cs : List AV) : fldT Tryd.prog 26 (.agg cs) 1 = cs[1]? := fld_one Tryd.underlying26 rfl tyOk3 agg3 cs
theorem fadr26_2 (r off : Nat) : fadrT Tryd.prog 26 (.ptr r off) 2 = some (.ptr r (off + 2)) := fadr_st Tryd.underlying26 rfl tyOk3 (by rw [cells3]; decide) r off
theorem fld26_2 (cs : List AV) : fldT Tryd.prog 26 (.agg cs) 2 = cs[2]? := fld_one Tryd.underlying26 rfl tyOk3 agg3 cs
theorem fadr26_3 (r off : Nat) : fadrT Tryd.prog 26 (.ptr r off) 3 = some (.ptr r (off + 3)) := fadr_st Tryd.underlying26 rfl tyOk3 (by rw [cells3]; decide) r off
theorem fld26_3 (cs : List AV) : fldT Tryd.prog 26 (.agg cs) 3 = cs[3]? := fld_one Tryd.underlying26 rfl tyOk3 agg3 cs
theorem fadr26_4 (r off : Nat) : fadrT Tryd.prog 26 (.ptr r off) 4 = some (.ptr r (off + 4)) := fadr_st Tryd.underlying26 rfl tyOk3 (by rw [cells3]; decide) r off
theorem fld26_4 (cs : List AV) : fldT Tryd.prog 26 (.agg cs) 4 = cs[4]? := fld_one Tryd.underlying26 rfl tyOk3 agg3 cs
theorem fadr26_5 (r off : Nat) : fadrT Tryd.prog 26 (.ptr r off) 5 = some (.ptr r (off + 5)) := fadr_st Tryd.underlying26 rfl tyOk4 (by rw [cells4]; decide) r off
theorem fld26_5 (cs : List AV) : fldT Tryd.prog 26 (.agg cs) 5 = cs[5]? := fld_one Tryd.underlying26 rfl tyOk4 agg4 cs
theorem fadr26_6 (r off : Nat) : fadrT Tryd.prog 26 (.ptr r off) 6 = some (.ptr r (off + 6)) := fadr_st Tryd.underlying26 rfl tyOk3 (by rw [cells3]; decide) r off
theorem fld26_6 (cs : List AV) : fldT Tryd.prog 26 (.agg cs) 6 = cs[6]? := fld_one Tryd.underlying26 rfl tyOk3 agg3 cs
theorem fadr26_7 (r off : Nat) : fadrT Tryd.prog 26 (.ptr r off) 7 = some (.ptr r (off + 7)) := fadr_st Tryd.underlying26 rfl tyOk3 (by rw [cells3]; decide) r off
theorem fld26_7 (cs : List AV) : fldT Tryd.prog 26 (.agg cs) 7 = cs[7]? := fld_one Tryd.underlying26 rfl tyOk3 agg3 cs
theorem fadr26_8 (r off : Nat) : fadrT Tryd.prog 26 (.ptr r off) 8 = some (.ptr r (off + 8)) := fadr_st Tryd.underlying26 rfl tyOk3 (by rw [cells3]; decide) r off
theorem fld26_8 (cs : List AV) : fldT Tryd.prog 26 (.agg cs) 8 = cs[8]? := fld_one Tryd.underlying26 rfl tyOk3 agg3 cs
theorem fadr26_9 (r off : Nat) : fadrT Tryd.prog 26 (.ptr r off) 9 = some (.ptr r (off + 9)) := fadr_st Tryd.underlying26 rfl tyOk3 (by rw [cells3]; decide) r off
theorem fld26_9 (cs : List AV) : fldT Tryd.prog 26 (.agg cs) 9 = cs[9]? := fld_one Tryd.underlying26 rfl tyOk3 agg3 cs
theorem fadr26_10 (r off : Nat) : fadrT Tryd.prog 26 (.ptr r off) 10 = some (.ptr r (off + 10)) := fadr_st Tryd.underlying26 rfl tyOk3 (by rw [cells3]; decide) r off
theorem fld26_10 (cs : List AV) : fldT Tryd.prog 26 (.agg cs) 10 = cs[10]? := fld_one Tryd.underlying26 rfl tyOk3 agg3 cs
theorem fadr26_11 (r off : Nat) : fadrT Tryd.prog 26 (.ptr r off) 11 = some (.ptr r (off + 11)) := fadr_st Tryd.underlying26 rfl tyOk25 (by rw [cells25]; decide) r off
theorem fadr26_12 (r off : Nat) : fadrT Tryd.prog 26 (.ptr r off) 12 = some (.ptr r (off + 20)) := fadr_st Tryd.underlying26 rfl tyOk3 (by rw [cells3]; decide) r off
theorem fld26_12 (cs : List AV) : fldT Tryd.prog 26 (.agg cs) 12 = cs[20]? := fld_one Tryd.underlying26 rfl tyOk3 agg3 cs
theorem fadr26_13 (r off : Nat) : fadrT Tryd.prog 26 (.ptr r off) 13 = some (.ptr r (off + 21)) := fadr_st Tryd.underlying26 rfl tyOk3 (by rw [cells3]; decide) r off
theorem fld26_13 (cs : List AV) : fldT Tryd.prog 26 (.agg cs) 13 = cs[21]? := fld_one Tryd.underlying26 rfl tyOk3 agg3 cs
theorem fadr26_14 (r off : Nat) : fadrT Tryd.prog 26 (.ptr r off) 14 = some (.ptr r (off + 22)) := fadr_st Tryd.underlying26 rfl tyOk3 (by rw [cells3]; decide) r off
theorem fld26_14 (cs : List AV) : fldT Tryd.prog 26 (.agg cs) 14 = cs[22]? := fld_one Tryd.underlying26 rfl tyOk3 agg3 cs
theorem apS64 (r len : Nat) (x : AV) (H : AHeap) : apV Tryd.prog (some (.slice 27)) (some (.slice 27)) (.sl r 0 len 23) x H = apR 23 184 H r len H[r]? (srcCells H x 23) := ap_slR zero27 rfl (by decide) info27 cells27 rfl r len x
theorem apN64 (x : AV) (H : AHeap) : apV Tryd.prog (some (.slice 27)) (some (.slice 27)) (.sc (.slice none 0 0)) x H = apRN 23 184 H (srcCells H x 23) := ap_nilR zero27 rfl (by decide) info27 cells27 rfl x
theorem bs27_1 (cs : List AV) (h : cs.length = 23) : bsV Tryd.prog (some (.slice 27)) 1 [(0, .agg cs)] = some (cs, fun r => .sl r 0 1 23) := bs_row 27 _ cs zero27 tyOk27 cells27 (by decide) (by decide) rfl h
theorem bs27_0 : bsV Tryd.prog (some (.slice 27)) 0 [] = some ([], fun r => .sl r 0 0 23) := bs_none 27 _ zero27 tyOk27 cells27 (by decide) rfl
theorem fadr27_0 (r off : Nat) : fadrT Tryd.prog 27 (.ptr r off) 0 = some (.ptr r (off + 0)) := fadr_st Tryd.underlying27 rfl tyOk3 (by rw [cells3]; decide) r off
theorem fld27_0 (cs : List AV) : fldT Tryd.prog 27 (.agg cs) 0 = cs[0]? := fld_one Tryd.underlying27 rfl tyOk3 agg3 cs
theorem fadr27_1 (r off : Nat) : fadrT Tryd.prog 27 (.ptr r off) 1 = some (.ptr r (off + 1)) := fadr_st Tryd.underlying27 rfl tyOk3 (by rw [cells3]; decide) r off
theorem fld27_1 (cs : List AV) : fldT Tryd.prog 27 (.agg cs) 1 = cs[1]? := fld_one Tryd.underlying27 rfl tyOk3 agg3 cs
theorem fadr27_2 (r off : Nat) : fadrT Tryd.prog 27 (.ptr r off) 2 = some (.ptr r (off + 2)) := fadr_st Tryd.underlying27 rfl tyOk3 (by rw [cells3]; decide) r off
theorem fld27_2 (cs : List AV) : fldT Tryd.prog 27 (.agg cs) 2 = cs[2]? := fld_one Tryd.underlying27 rfl tyOk3 agg3 cs
theorem fadr27_3 (r off : Nat) : fadrT Tryd.prog 27 (.ptr r off) 3 = some (.ptr r (off + 3)) := fadr_st Tryd.underlying27 rfl tyOk3 (by rw [cells3]; decide) r off
theorem fld27_3 (cs : List AV) : fldT Tryd.prog 27 (.agg cs) 3 = cs[3]? := fld_one Tryd.underlying27 rfl tyOk3 agg3 cs
theorem fadr27_4 (r off : Nat) : fadrT Tryd.prog 27 (.ptr r off) 4 = some (.ptr r (off + 4)) := fadr_st Tryd.underlying27 rfl tyOk3 (by rw [cells3]; decide) r off
theorem fld27_4 (cs : List AV) : fldT Tryd.prog 27 (.agg cs) 4 = cs[4]? := fld_one Tryd.underlying27 rfl tyOk3 agg3 cs
theorem fadr27_5 (r off : Nat) : fadrT Tryd.prog 27 (.ptr r off) 5 = some (.ptr r (off + 5)) := fadr_st Tryd.underlying27 rfl tyOk4 (by rw [cells4]; decide) r off
theorem fld27_5 (cs : List AV) : fldT Tryd.prog 27 (.agg cs) 5 = cs[5]? := fld_one Tryd.underlying27 rfl tyOk4 agg4 cs
theorem fadr27_6 (r off : Nat) : fadrT Tryd.prog 27 (.ptr r off) 6 = some (.ptr r (off + 6)) := fadr_st Tryd.underlying27 rfl tyOk3 (by rw [cells3]; decide) r off
theorem fld27_6 (cs : List AV) : fldT Tryd.prog 27 (.agg cs) 6 = cs[6]? := fld_one Tryd.underlying27 rfl tyOk3 agg3 cs
theorem fadr27_7 (r off : Nat) : fadrT Tryd.prog 27 (.ptr r off) 7 = some (.ptr r (off + 7)) := fadr_st Tryd.underlying27 rfl tyOk3 (by rw [cells3]; decide) r off
theorem fld27_7 (cs : List AV) : fldT Tryd.prog 27 (.agg cs) 7 = cs[7]? := fld_one Tryd.underlying27 rfl tyOk3 agg3 cs
theorem fadr27_8 (r off : Nat) : fadrT Tryd.prog 27 (.ptr r off) 8 = some (.ptr r (off + 8)) := fadr_st Tryd.underlying27 rfl tyOk3 (by rw [cells3]; decide) r off
theorem fld27_8 (cs : List AV) : fldT Tryd.prog 27 (.agg cs) 8 = cs[8]? := fld_one Tryd.underlying27 rfl tyOk3 agg3 cs
theorem fadr27_9 (r off : Nat) : fadrT Tryd.prog 27 (.ptr r off) 9 = some (.ptr r (off + 9)) := fadr_st Tryd.underlying27 rfl tyOk3 (by rw [cells3]; decide) r off
theorem fld27_9 (cs : List AV) : fldT Tryd.prog 27 (.agg cs) 9 = cs[9]? := fld_one Tryd.underlying27 rfl tyOk3 agg3 cs
theorem fadr27_10 (r off : Nat) : fadrT Tryd.prog 27 (.ptr r off) 10 = some (.ptr r (off + 10)) := fadr_st Tryd.underlying27 rfl tyOk3 (by rw [cells3]; decide) r off
theorem fld27_10 (cs : List AV) : fldT Tryd.prog 27 (.agg cs) 10 = cs[10]? := fld_one Tryd.underlying27 rfl tyOk3 agg3 cs
theorem fadr27_11 (r off : Nat) : fadrT Tryd.prog 27 (.ptr r off) 11 = some (.ptr r (off + 11)) := fadr_st Tryd.underlying27 rfl tyOk25 (by rw [cells25]; decide) r off
theorem fadr27_12 (r off : Nat) : fadrT Tryd.prog 27 (.ptr r off) 12 = some (.ptr r (off + 20)) := fadr_st Tryd.underlying27 rfl tyOk3 (by rw [cells3]; decide) r off
theorem fld27_12 (cs : List AV) : fldT Tryd.prog 27 (.agg cs) 12 = cs[20]? := fld_one Tryd.underlying27 rfl tyOk3 agg3 cs
theorem fadr27_13 (r off : Nat) : fadrT Tryd.prog 27 (.ptr r off) 13 = some (.ptr r (off + 21)) := fadr_st Tryd.underlying27 rfl tyOk3 (by rw [cells3]; decide) r off
theorem fld27_13 (cs : List AV) : fldT Tryd.prog 27 (.agg cs) 13 = cs[21]? := fld_one Tryd.underlying27 rfl tyOk3 agg3 cs
theorem fadr27_14 (r off : Nat) : fadrT Tryd.prog 27 (.ptr r off) 14 = some (.ptr r (off + 22)) := fadr_st Tryd.underlying27 rfl tyOk3 (by rw [cells3]; decide) r off
theorem fld27_14 (cs : List AV) : fldT Tryd.prog 27 (.agg cs) 14 = cs[22]? := fld_one Tryd.underlying27 rfl tyOk3 agg3 cs
theorem fadr29_0 (r off : Nat) : fadrT Tryd.prog 29 (.ptr r off) 0 = some (.ptr r (off + 0)) := fadr_st Tryd.underlying29 rfl tyOk3 (by rw [cells3]; decide) r off
theorem fld29_0 (cs : List AV) : fldT Tryd.prog 29 (.agg cs) 0 = cs[0]? := fld_one Tryd.underlying29 rfl tyOk3 agg3 cs
theorem fadr29_1 (r off : Nat) : fadrT Tryd.prog 29 (.ptr r off) 1 = some (.ptr r (off + 1)) := fadr_st Tryd.underlying29 rfl tyOk3 (by rw [cells3]; decide) r off
theorem fld29_1 (cs : List AV) : fldT Tryd.prog 29 (.agg cs) 1 = cs[1]? := fld_one Tryd.underlying29 rfl tyOk3 agg3 cs
theorem bz29 : buildV Tryd.prog 29 [] = some (.agg [.sc (.int .i64 0), .sc (.int .i64 0)]) := by simp [buildV, Tryd.underlying29, zero29, fillA, tyOk3, cells3, tyOk3, cells3]
theorem bds29 (v0 v1 : AV) (hv0 : v0.cells = [v0]) (hv1 : v1.cells = [v1]) : buildV Tryd.prog 29 [(0, v0), (1, v1)] = some (.agg [v0, v1]) := by simp [buildV, Tryd.underlying29, zero29, fillA, placeS, overA, tyOk3, cells3, tyOk3, cells3, hv0, hv1]
theorem fadr30_0 (r off : Nat) : fadrT Tryd.prog 30 (.ptr r off) 0 = some (.ptr r (off + 0)) := fadr_st Tryd.underlying30 rfl tyOk3 (by rw [cells3]; decide) r off
theorem fld30_0 (cs : List AV) : fldT Tryd.prog 30 (.agg cs) 0 = cs[0]? := fld_one Tryd.underlying30 rfl tyOk3 agg3 cs
theorem fadr30_1 (r off : Nat) : fadrT Tryd.prog 30 (.ptr r off) 1 = some (.ptr r (off + 1)) := fadr_st Tryd.underlying30 rfl tyOk3 (by rw [cells3]; decide) r off
theorem fld30_1 (cs : List AV) : fldT Tryd.prog 30 (.agg cs) 1 = cs[1]? := fld_one Tryd.underlying30 rfl tyOk3 agg3 cs
theorem fadr30_2 (r off : Nat) : fadrT Tryd.prog 30 (.ptr r off) 2 = some (.ptr r (off + 2)) := fadr_st Tryd.underlying30 rfl tyOk3 (by rw [cells3]; decide) r off
theorem fld30_2 (cs : List AV) : fldT Tryd.prog 30 (.agg cs) 2 = cs[2]? := fld_one Tryd.underlying30 rfl tyOk3 agg3 cs
theorem fadr30_3 (r off : Nat) : fadrT Tryd.prog 30 (.ptr r off) 3 = some (.ptr r (off + 3)) := fadr_st Tryd.underlying30 rfl tyOk3 (by rw [cells3]; decide) r off
theorem fld30_3 (cs : List AV) : fldT Tryd.prog 30 (.agg cs) 3 = cs[3]? := fld_one Tryd.underlying30 rfl tyOk3 agg3 cs
theorem fadr30_4 (r off : Nat) : fadrT Tryd.prog 30 (.ptr r off) 4 = some (.ptr r (off + 4)) := fadr_st Tryd.underlying30 rfl tyOk3 (by rw [cells3]; decide) r off
theorem fld30_4 (cs : List AV) : fldT Tryd.prog 30 (.agg cs) 4 = cs[4]? := fld_one Tryd.underlying30 rfl tyOk3 agg3 cs
theorem fadr30_5 (r off : Nat) : fadrT Tryd.prog 30 (.ptr r off) 5 = some (.ptr r (off + 5)) := fadr_st Tryd.underlying30 rfl tyOk29 (by rw [cells29]; decide) r off
theorem fadr30_6 (r off : Nat) : fadrT Tryd.prog 30 (.ptr r off) 6 = some (.ptr r (off + 7)) := fadr_st Tryd.underlying30 rfl tyOk29 (by rw [cells29]; decide) r off
theorem fadr31_0 (r off : Nat) : fadrT Tryd.prog 31 (.ptr r off) 0 = some (.ptr r (off + 0)) := fadr_st Tryd.underlying31 rfl tyOk3 (by rw [cells3]; decide) r off
theorem fld31_0 (cs : List AV) : fldT Tryd.prog 31 (.agg cs) 0 = cs[0]? := fld_one Tryd.underlying31 rfl tyOk3 agg3 cs
theorem fadr31_1 (r off : Nat) : fadrT Tryd.prog 31 (.ptr r off) 1 = some (.ptr r (off + 1)) := fadr_st Tryd.underlying31 rfl tyOk3 (by rw [cells3]; decide) r off
theorem fld31_1 (cs : List AV) : fldT Tryd.prog 31 (.agg cs) 1 = cs[1]? := fld_one Tryd.underlying31 rfl tyOk3 agg3 cs
theorem fadr31_2 (r off : Nat) : fadrT Tryd.prog 31 (.ptr r off) 2 = some (.ptr r (off + 2)) := fadr_st Tryd.underlying31 rfl tyOk3 (by rw [cells3]; decide) r off
theorem fld31_2 (cs : List AV) : fldT Tryd.prog 31 (.agg cs) 2 = cs[2]? := fld_one Tryd.underlying31 rfl tyOk3 agg3 cs
theorem fadr31_3 (r off : Nat) : fadrT Tryd.prog 31 (.ptr r off) 3 = some (.ptr r (off + 3)) := fadr_st Tryd.underlying31 rfl tyOk3 (by rw [cells3]; decide) r off
theorem fld31_3 (cs : List AV) : fldT Tryd.prog 31 (.agg cs) 3 = cs[3]? := fld_one Tryd.underlying31 rfl tyOk3 agg3 cs
theorem fadr31_4 (r off : Nat) : fadrT Tryd.prog 31 (.ptr r off) 4 = some (.ptr r (off + 4)) := fadr_st Tryd.underlying31 rfl tyOk3 (by rw [cells3]; decide) r off
theorem fld31_4 (cs : List AV) : fldT Tryd.prog 31 (.agg cs) 4 = cs[4]? := fld_one Tryd.underlying31 rfl tyOk3 agg3 cs
theorem fadr31_5 (r off : Nat) : fadrT Tryd.prog 31 (.ptr r off) 5 = some (.ptr r (off + 5)) := fadr_st Tryd.underlying31 rfl tyOk29 (by rw [cells29]; decide) r off
theorem fadr31_6 (r off : Nat) : fadrT Tryd.prog 31 (.ptr r off) 6 = some (.ptr r (off + 7)) := fadr_st Tryd.underlying31 rfl tyOk29 (by rw [cells29]; decide) r off
theorem fadr32_0 (r off : Nat) : fadrT Tryd.prog 32 (.ptr r off) 0 = some (.ptr r (off + 0)) := fadr_st Tryd.underlying32 rfl tyOk3 (by rw [cells3]; decide) r off
theorem fld32_0 (cs : List AV) : fldT Tryd.prog 32 (.agg cs) 0 = cs[0]? := fld_one Tryd.underlying32 rfl tyOk3 agg3 cs
theorem fadr32_1 (r off : Nat) : fadrT Tryd.prog 32 (.ptr r off) 1 = some (.ptr r (off + 1)) := fadr_st Tryd.underlying32 rfl tyOk3 (by rw [cells3]; decide) r off
theorem fld32_1 (cs : List AV) : fldT Tryd.prog 32 (.agg cs) 1 = cs[1]? := fld_one Tryd.underlying32 rfl tyOk3 agg3 cs
theorem fadr32_2 (r off : Nat) : fadrT Tryd.prog 32 (.ptr r off) 2 = some (.ptr r (off + 2)) := fadr_st Tryd.underlying32 rfl tyOk3 (by rw [cells3]; decide) r off
theorem fld32_2 (cs : List AV) : fldT Tryd.prog 32 (.agg cs) 2 = cs[2]? := fld_one Tryd.underlying32 rfl tyOk3 agg3 cs
theorem fadr32_3 (r off : Nat) : fadrT Tryd.prog 32 (.ptr r off) 3 = some (.ptr r (off + 3)) := fadr_st Tryd.underlying32 rfl tyOk3 (by rw [cells3]; decide) r off
theorem fld32_3 (cs : List AV) : fldT Tryd.prog 32 (.agg cs) 3 = cs[3]? := fld_one Tryd.underlying32 rfl tyOk3 agg3 cs
theorem fadr32_4 (r off : Nat) : fadrT Tryd.prog 32 (.ptr r off) 4 = some (.ptr r (off + 4)) := fadr_st Tryd.underlying32 rfl tyOk3 (by rw [cells3]; decide) r off
theorem fld32_4 (cs : List AV) : fldT Tryd.prog 32 (.agg cs) 4 = cs[4]? := fld_one Tryd.underlying32 rfl tyOk3 agg3 cs
theorem fadr32_5 (r off : Nat) : fadrT Tryd.prog 32 (.ptr r off) 5 = some (.ptr r (off + 5)) := fadr_st Tryd.underlying32 rfl tyOk4 (by rw [cells4]; decide) r off
theorem fld32_5 (cs : List AV) : fldT Tryd.prog 32 (.agg cs) 5 = cs[5]? := fld_one Tryd.underlying32 rfl tyOk4 agg4 cs
theorem fadr32_6 (r off : Nat) : fadrT Tryd.prog 32 (.ptr r off) 6 = some (.ptr r (off + 6)) := fadr_st Tryd.underlying32 rfl tyOk3 (by rw [cells3]; decide) r off
theorem fld32_6 (cs : List AV) : fldT Tryd.prog 32 (.agg cs) 6 = cs[6]? := fld_one Tryd.underlying32 rfl tyOk3 agg3 cs
theorem fadr32_7 (r off : Nat) : fadrT Tryd.prog 32 (.ptr r off) 7 = some (.ptr r (off + 7)) := fadr_st Tryd.underlying32 rfl tyOk3 (by rw [cells3]; decide) r off
theorem fld32_7 (cs : List AV) : fldT Tryd.prog 32 (.agg cs) 7 = cs[7]? := fld_one Tryd.underlying32 rfl tyOk3 agg3 cs
theorem fadr32_8 (r off : Nat) : fadrT Tryd.prog 32 (.ptr r off) 8 = some (.ptr r (off + 8)) := fadr_st Tryd.underlying32 rfl tyOk3 (by rw [cells3]; decide) r off
theorem fld32_8 (cs : List AV) : fldT Tryd.prog 32 (.agg cs) 8 = cs[8]? := fld_one Tryd.underlying32 rfl tyOk3 agg3 cs
theorem fadr32_9 (r off : Nat) : fadrT Tryd.prog 32 (.ptr r off) 9 = some (.ptr r (off + 9)) := fadr_st Tryd.underlying32 rfl tyOk3 (by rw [cells3]; decide) r off
theorem fld32_9 (cs : List AV) : fldT Tryd.prog 32 (.agg cs) 9 = cs[9]? := fld_one Tryd.underlying32 rfl tyOk3 agg3 cs
theorem fadr32_10 (r off : Nat) : fadrT Tryd.prog 32 (.ptr r off) 10 = some (.ptr r (off + 10)) := fadr_st Tryd.underlying32 rfl tyOk3 (by rw [cells3]; decide) r off
theorem fld32_10 (cs : List AV) : fldT Tryd.prog 32 (.agg cs) 10 = cs[10]? := fld_one Tryd.underlying32 rfl tyOk3 agg3 cs
theorem fadr32_11 (r off : Nat) : fadrT Tryd.prog 32 (.ptr r off) 11 = some (.ptr r (off + 11)) := fadr_st Tryd.underlying32 rfl tyOk31 (by rw [cells31]; decide) r off
theorem fadr32_12 (r off : Nat) : fadrT Tryd.prog 32 (.ptr r off) 12 = some (.ptr r (off + 20)) := fadr_st Tryd.underlying32 rfl tyOk3 (by rw [cells3]; decide) r off
theorem fld32_12 (cs : List AV) : fldT Tryd.prog 32 (.agg cs) 12 = cs[20]? := fld_one Tryd.underlying32 rfl tyOk3 agg3 cs
theorem fadr32_13 (r off : Nat) : fadrT Tryd.prog 32 (.ptr r off) 13 = some (.ptr r (off + 21)) := fadr_st Tryd.underlying32 rfl tyOk3 (by rw [cells3]; decide) r off
theorem fld32_13 (cs : List AV) : fldT Tryd.prog 32 (.agg cs) 13 = cs[21]? := fld_one Tryd.underlying32 rfl tyOk3 agg3 cs
theorem fadr32_14 (r off : Nat) : fadrT Tryd.prog 32 (.ptr r off) 14 = some (.ptr r (off + 22)) := fadr_st Tryd.underlying32 rfl tyOk3 (by rw [cells3]; decide) r off
theorem fld32_14 (cs : List AV) : fldT Tryd.prog 32 (.agg cs) 14 = cs[22]? := fld_one Tryd.underlying32 rfl tyOk3 agg3 cs
theorem apS72 (r len : Nat) (x : AV) (H : AHeap) : apV Tryd.prog (some (.slice 33)) (some (.slice 33)) (.sl r 0 len 23) x H = apR 23 184 H r len H[r]? (srcCells H x 23) := ap_slR zero33 rfl (by decide) info33 cells33 rfl r len x
theorem apN72 (x : AV) (H : AHeap) : apV Tryd.prog (some (.slice 33)) (some (.slice 33)) (.sc (.slice none 0 0)) x H = apRN 23 184 H (srcCells H x 23) := ap_nilR zero33 rfl (by decide) info33 cells33 rfl x
theorem bs33_1 (cs : List AV) (h : cs.length = 23) : bsV Tryd.prog (some (.slice 33)) 1 [(0, .agg cs)] = some (cs, fun r => .sl r 0 1 23) := bs_row 33 _ cs zero33 tyOk33 cells33 (by decide) (by decide) rfl h
theorem bs33_0 : bsV Tryd.prog (some (.slice 33)) 0 [] = some ([], fun r => .sl r 0 0 23) := bs_none 33 _ zero33 tyOk33 cells33 (by decide) rfl
theorem fadr33_0 (r off : Nat) : fadrT Tryd.prog 33 (.ptr r off) 0 = some (.ptr r (off + 0)) := fadr_st Tryd.underlying33 rfl tyOk3 (by rw [cells3]; decide) r off
theorem fld33_0 (cs : List AV) : fldT Tryd.prog 33 (.agg cs) 0 = cs[0]? := fld_one Tryd.underlying33 rfl tyOk3 agg3 cs
theorem fadr33_1 (r off : Nat) : fadrT Tryd.prog 33 (.ptr r off) 1 = some (.ptr r (off + 1)) := fadr_st Tryd.underlying33 rfl tyOk3 (by rw [cells3]; decide) r off
theorem fld33_1 (cs : List AV) : fldT Tryd.prog 33 (.agg cs) 1 = cs[1]? := fld_one Tryd.underlying33 rfl tyOk3 agg3 cs
theorem fadr33_2 (r off : Nat) : fadrT Tryd.prog 33 (.ptr r off) 2 = some (.ptr r (off + 2)) := fadr_st Tryd.underlying33 rfl tyOk3 (by rw [cells3]; decide) r off
theorem fld33_2 (cs : List AV) : fldT Tryd.prog 33 (.agg cs) 2 = cs[2]? := fld_one Tryd.underlying33 rfl tyOk3 agg3 cs
theorem fadr33_3 (r off : Nat) : fadrT Tryd.prog 33 (.ptr r off) 3 = some (.ptr r (off + 3)) := fadr_st Tryd.underlying33 rfl tyOk3 (by rw [cells3]; decide) r off
theorem fld33_3 (cs : List AV) : fldT Tryd.prog 33 (.agg cs) 3 = cs[3]? := fld_one Tryd.underlying33 rfl tyOk3 agg3 cs
theorem fadr33_4 (r off : Nat) : fadrT Tryd.prog 33 (.ptr r off) 4 = some (.ptr r (off + 4)) := fadr_st Tryd.underlying33 rfl tyOk3 (by rw [cells3]; decide) r off
theorem fld33_4 (cs : List AV) : fldT Tryd.prog 33 (.agg cs) 4 = cs[4]? := fld_one Tryd.underlying33 rfl tyOk3 agg3 cs
theorem fadr33_5 (r off : Nat) : fadrT Tryd.prog 33 (.ptr r off) 5 = some (.ptr r (off + 5)) := fadr_st Tryd.underlying33 rfl tyOk4 (by rw [cells4]; decide) r off
theorem fld33_5 (cs : List AV) : fldT Tryd.prog 33 (.agg cs) 5 = cs[5]? := fld_one Tryd.underlying33 rfl tyOk4 agg4 cs
theorem fadr33_6 (r off : Nat) : fadrT Tryd.prog 33 (.ptr r off) 6 = some (.ptr r (off + 6)) := fadr_st Tryd.underlying33 rfl tyOk3 (by rw [cells3]; decide) r off
theorem fld33_6 (cs : List AV) : fldT Tryd.prog 33 (.agg cs) 6 = cs[6]? := fld_one Tryd.underlying33 rfl tyOk3 agg3 cs
theorem fadr33_7 (r off : Nat) : fadrT Tryd.prog 33 (.ptr r off) 7 = some (.ptr r (off + 7)) := fadr_st Tryd.underlying33 rfl tyOk3 (by rw [cells3]; decide) r off
theorem fld33_7 (cs : List AV) : fldT Tryd.prog 33 (.agg cs) 7 = cs[7]? := fld_one Tryd.underlying33 rfl tyOk3 agg3 cs
theorem fadr33_8 (r off : Nat) : fadrT Tryd.prog 33 (.ptr r off) 8 = some (.ptr r (off + 8)) := fadr_st Tryd.underlying33 rfl tyOk3 (by rw [cells3]; decide) r off
theorem fld33_8 (cs : List AV) : fldT Tryd.prog 33 (.agg cs) 8 = cs[8]? := fld_one Tryd.underlying33 rfl tyOk3 agg3 cs
theorem fadr33_9 (r off : Nat) : fadrT Tryd.prog 33 (.ptr r off) 9 = some (.ptr r (off + 9)) := fadr_st Tryd.underlying33 rfl tyOk3 (by rw [cells3]; decide) r off
theorem fld33_9 (cs : List AV) : fldT Tryd.prog 33 (.agg cs) 9 = cs[9]? := fld_one Tryd.underlying33 rfl tyOk3 agg3 cs
theorem fadr33_10 (r off : Nat) : fadrT Tryd.prog 33 (.ptr r off) 10 = some (.ptr r (off + 10)) := fadr_st Tryd.underlying33 rfl tyOk3 (by rw [cells3]; decide) r off
theorem fld33_10 (cs : List AV) : fldT Tryd.prog 33 (.agg cs) 10 = cs[10]? := fld_one Tryd.underlying33 rfl tyOk3 agg3 cs
theorem fadr33_11 (r off : Nat) : fadrT Tryd.prog 33 (.ptr r off) 11 = some (.ptr r (off + 11)) := fadr_st Tryd.underlying33 rfl tyOk31 (by rw [cells31]; decide) r off
theorem fadr33_12 (r off : Nat) : fadrT Tryd.prog 33 (.ptr r off) 12 = some (.ptr r (off + 20)) := fadr_st Tryd.underlying33 rfl tyOk3 (by rw [cells3]; decide) r off
theorem fld33_12 (cs : List AV) : fldT Tryd.prog 33 (.agg cs) 12 = cs[20]? := fld_one Tryd.underlying33 rfl tyOk3 agg3 cs
theorem fadr33_13 (r off : Nat) : fadrT Tryd.prog 33 (.ptr r off) 13 = some (.ptr r (off + 21)) := fadr_st Tryd.underlying33 rfl tyOk3 (by rw [cells3]; decide) r off
theorem fld33_13 (cs : List AV) : fldT Tryd.prog 33 (.agg cs) 13 = cs[21]? := fld_one Tryd.underlying33 rfl tyOk3 agg3 cs
theorem fadr33_14 (r off : Nat) : fadrT Tryd.prog 33 (.ptr r off) 14 = some (.ptr r (off + 22)) := fadr_st Tryd.underlying33 rfl tyOk3 (by rw [cells3]; decide) r off
theorem fld33_14 (cs : List AV) : fldT Tryd.prog 33 (.agg cs) 14 = cs[22]? := fld_one Tryd.underlying33 rfl tyOk3 agg3 cs
theorem fadr37_0 (r off : Nat) : fadrT Tryd.prog 37 (.ptr r off) 0 = some (.ptr r (off + 0)) := fadr_st Tryd.underlying37 rfl tyOk36 (by rw [cells36]; decide) r off
theorem fld37_0 (cs : List AV) : fldT Tryd.prog 37 (.agg cs) 0 = cs[0]? := fld_one Tryd.underlying37 rfl tyOk36 agg36 cs
theorem bz37 : buildV Tryd.prog 37 [] = some (.agg [.sc (.slice none 0 0)]) := by simp [buildV, Tryd.underlying37, zero37, fillA, tyOk36, cells36]
theorem bds37 (v0 : AV) (hv0 : v0.cells = [v0]) : buildV Tryd.prog 37 [(0, v0)] = some (.agg [v0]) := by simp [buildV, Tryd.underlying37, zero37, fillA, placeS, overA, tyOk36, cells36, hv0]
theorem fadr38_0 (r off : Nat) : fadrT Tryd.prog 38 (.ptr r off) 0 = some (.ptr r (off + 0)) := fadr_st Tryd.underlying38 rfl tyOk36 (by rw [cells36]; decide) r off
theorem fld38_0 (cs : List AV) : fldT Tryd.prog 38 (.agg cs) 0 = cs[0]? := fld_one Tryd.underlying38 rfl tyOk36 agg36 cs
theorem bz38 : buildV Tryd.prog 38 [] = some (.agg [.sc (.slice none 0 0)]) := by simp [buildV, Tryd.underlying38, zero38, fillA, tyOk36, cells36]
theorem bds38 (v0 : AV) (hv0 : v0.cells = [v0]) : buildV Tryd.prog 38 [(0, v0)] = some (.agg [v0]) := by simp [buildV, Tryd.underlying38, zero38, fillA, placeS, overA, tyOk36, cells36, hv0]
theorem fadr42_0 (r off : Nat) : fadrT Tryd.prog 42 (.ptr r off) 0 = some (.ptr r (off + 0)) := fadr_st Tryd.underlying42 rfl tyOk41 (by rw [cells41]; decide) r off
theorem fld42_0 (cs : List AV) : fldT Tryd.prog 42 (.agg cs) 0 = cs[0]? := fld_one Tryd.underlying42 rfl tyOk41 agg41 cs
theorem bz42 : buildV Tryd.prog 42 [] = some (.agg [.sc (.slice none 0 0)]) := by simp [buildV, Tryd.underlying42, zero42, fillA, tyOk41, cells41]
theorem bds42 (v0 : AV) (hv0 : v0.cells = [v0]) : buildV Tryd.prog 42 [(0, v0)] = some (.agg [v0]) := by simp [buildV, Tryd.underlying42, zero42, fillA, placeS, overA, tyOk41, cells41, hv0]
theorem fadr43_0 (r off : Nat) : fadrT Tryd.prog 43 (.ptr r off) 0 = some (.ptr r (off + 0)) := fadr_st Tryd.underlying43 rfl tyOk41 (by rw [cells41]; decide) r off
theorem fld43_0 (cs : List AV) : fldT Tryd.prog 43 (.agg cs) 0 = cs[0]? := fld_one Tryd.underlying43 rfl tyOk41 agg41 cs
theorem bz43 : buildV Tryd.prog 43 [] = some (.agg [.sc (.slice none 0 0)]) := by simp [buildV, Tryd.underlying43, zero43, fillA, tyOk41, cells41]
theorem bds43 (v0 : AV) (hv0 : v0.cells = [v0]) : buildV Tryd.prog 43 [(0, v0)] = some (.agg [v0]) := by simp [buildV, Tryd.underlying43, zero43, fillA, placeS, overA, tyOk41, cells41, hv0]
theorem fadr51_0 (r off : Nat) : fadrT Tryd.prog 51 (.ptr r off) 0 = some (.ptr r (off + 0)) := fadr_st Tryd.underlying51 rfl tyOk3 (by rw [cells3]; decide) r off
theorem fld51_0 (cs : List AV) : fldT Tryd.prog 51 (.agg cs) 0 = cs[0]? := fld_one Tryd.underlying51 rfl tyOk3 agg3 cs
theorem fadr51_1 (r off : Nat) : fadrT Tryd.prog 51 (.ptr r off) 1 = some (.ptr r (off + 1)) := fadr_st Tryd.underlying51 rfl tyOk3 (by rw [cells3]; decide) r off
theorem fld51_1 (cs : List AV) : fldT Tryd.prog 51 (.agg cs) 1 = cs[1]? := fld_one Tryd.underlying51 rfl tyOk3 agg3 cs
theorem fadr51_2 (r off : Nat) : fadrT Tryd.prog 51 (.ptr r off) 2 = some (.ptr r (off + 2)) := fadr_st Tryd.underlying51 rfl tyOk47 (by rw [cells47]; decide) r off
theorem fld51_2 (cs : List AV) : fldT Tryd.prog 51 (.agg cs) 2 = cs[2]? := fld_one Tryd.underlying51 rfl tyOk47 agg47 cs
theorem fadr51_3 (r off : Nat) : fadrT Tryd.prog 51 (.ptr r off) 3 = some (.ptr r (off + 3)) := fadr_st Tryd.underlying51 rfl tyOk48 (by rw [cells48]; decide) r off
theorem fld51_3 (cs : List AV) : fldT Tryd.prog 51 (.agg cs) 3 = cs[3]? := fld_one Tryd.underlying51 rfl tyOk48 agg48 cs
theorem fadr51_4 (r off : Nat) : fadrT Tryd.prog 51 (.ptr r off) 4 = some (.ptr r (off + 4)) := fadr_st Tryd.underlying51 rfl tyOk49 (by rw [cells49]; decide) r off
theorem fld51_4 (cs : List AV) : fldT Tryd.prog 51 (.agg cs) 4 = cs[4]? := fld_one Tryd.underlying51 rfl tyOk49 agg49 cs
theorem fadr51_5 (r off : Nat) : fadrT Tryd.prog 51 (.ptr r off) 5 = some (.ptr r (off + 5)) := fadr_st Tryd.underlying51 rfl tyOk50 (by rw [cells50]; decide) r off
theorem fld51_5 (cs : List AV) : fldT Tryd.prog 51 (.agg cs) 5 = cs[5]? := fld_one Tryd.underlying51 rfl tyOk50 agg50 cs
theorem fadr51_6 (r off : Nat) : fadrT Tryd.prog 51 (.ptr r off) 6 = some (.ptr r (off + 6)) := fadr_st Tryd.underlying51 rfl tyOk3 (by rw [cells3]; decide) r off
theorem fld51_6 (cs : List AV) : fldT Tryd.prog 51 (.agg cs) 6 = cs[6]? := fld_one Tryd.underlying51 rfl tyOk3 agg3 cs
theorem bz51 : buildV Tryd.prog 51 [] = some (.agg [.sc (.int .i64 0), .sc (.int .i64 0), .sc (.slice none 0 0), .sc (.slice none 0 0), .sc (.slice none 0 0), .sc (.slice none 0 0), .sc (.int .i64 0)]) := by simp [buildV, Tryd.underlying51, zero51, fillA, tyOk3, cells3, tyOk3, cells3, tyOk47, cells47, tyOk48, cells48, tyOk49, cells49, tyOk50, cells50, tyOk3, cells3]
theorem bds51 (v0 v1 v2 v3 v4 v5 v6 : AV) (hv0 : v0.cells = [v0]) (hv1 : v1.cells = [v1]) (hv2 : v2.cells = [v2]) (hv3 : v3.cells = [v3]) (hv4 : v4.cells = [v4]) (hv5 : v5.cells = [v5]) (hv6 : v6.cells = [v6]) : buildV Tryd.prog 51 [(0, v0), (1, v1), (2, v2), (3, v3), (4, v4), (5, v5), (6, v6)] = some (.agg [v0, v1, v2, v3, v4, v5, v6]) := by simp [buildV, Tryd.underlying51, zero51, fillA, placeS, overA, tyOk3, cells3, tyOk3, cells3, tyOk47, cells47, tyOk48, cells48, tyOk49, cells49, tyOk50, cells50, tyOk3, cells3, hv0, hv1, hv2, hv3, hv4, hv5, hv6]
theorem fadr52_0 (r off : Nat) : fadrT Tryd.prog 52 (.ptr r off) 0 = some (.ptr r (off + 0)) := fadr_st Tryd.underlying52 rfl tyOk3 (by rw [cells3]; decide) r off
theorem fld52_0 (cs : List AV) : fldT Tryd.prog 52 (.agg cs) 0 = cs[0]? := fld_one Tryd.underlying52 rfl tyOk3 agg3 cs
theorem fadr52_1 (r off : Nat) : fadrT Tryd.prog 52 (.ptr r off) 1 = some (.ptr r (off + 1)) := fadr_st Tryd.underlying52 rfl tyOk3 (by rw [cells3]; decide) r off
theorem fld52_1 (cs : List AV) : fldT Tryd.prog 52 (.agg cs) 1 = cs[1]? := fld_one Tryd.underlying52 rfl tyOk3 agg3 cs
theorem fadr52_2 (r off : Nat) : fadrT Tryd.prog 52 (.ptr r off) 2 = some (.ptr r (off + 2)) := fadr_st Tryd.underlying52 rfl tyOk47 (by rw [cells47]; decide) r off
theorem fld52_2 (cs : List AV) : fldT Tryd.prog 52 (.agg cs) 2 = cs[2]? := fld_one Tryd.underlying52 rfl tyOk47 agg47 cs
theorem fadr52_3 (r off : Nat) : fadrT Tryd.prog 52 (.ptr r off) 3 = some (.ptr r (off + 3)) := fadr_st Tryd.underlying52 rfl tyOk48 (by rw [cells48]; decide) r off
theorem fld52_3 (cs : List AV) : fldT Tryd.prog 52 (.agg cs) 3 = cs[3]? := fld_one Tryd.underlying52 rfl tyOk48 agg48 cs
theorem fadr52_4 (r off : Nat) : fadrT Tryd.prog 52 (.ptr r off) 4 = some (.ptr r (off + 4)) := fadr_st Tryd.underlying52 rfl tyOk49 (by rw [cells49]; decide) r off
theorem fld52_4 (cs : List AV) : fldT Tryd.prog 52 (.agg cs) 4 = cs[4]? := fld_one Tryd.underlying52 rfl tyOk49 agg49 cs
theorem fadr52_5 (r off : Nat) : fadrT Tryd.prog 52 (.ptr r off) 5 = some (.ptr r (off + 5)) := fadr_st Tryd.underlying52 rfl tyOk50 (by rw [cells50]; decide) r off
theorem fld52_5 (cs : List AV) : fldT Tryd.prog 52 (.agg cs) 5 = cs[5]? := fld_one Tryd.underlying52 rfl tyOk50 agg50 cs
theorem fadr52_6 (r off : Nat) : fadrT Tryd.prog 52 (.ptr r off) 6 = some (.ptr r (off + 6)) := fadr_st Tryd.underlying52 rfl tyOk3 (by rw [cells3]; decide) r off
theorem fld52_6 (cs : List AV) : fldT Tryd.prog 52 (.agg cs) 6 = cs[6]? := fld_one Tryd.underlying52 rfl tyOk3 agg3 cs
theorem bz52 : buildV Tryd.prog 52 [] = some (.agg [.sc (.int .i64 0), .sc (.int .i64 0), .sc (.slice none 0 0), .sc (.slice none 0 0), .sc (.slice none 0 0), .sc (.slice none 0 0), .sc (.int .i64 0)]) := by simp [buildV, Tryd.underlying52, zero52, fillA, tyOk3, cells3, tyOk3, cells3, tyOk47, cells47, tyOk48, cells48, tyOk49, cells49, tyOk50, cells50, tyOk3, cells3]
theorem bds52 (v0 v1 v2 v3 v4 v5 v6 : AV) (hv0 : v0.cells = [v0]) (hv1 : v1.cells = [v1]) (hv2 : v2.cells = [v2]) (hv3 : v3.cells = [v3]) (hv4 : v4.cells = [v4]) (hv5 : v5.cells = [v5]) (hv6 : v6.cells = [v6]) : buildV Tryd.prog 52 [(0, v0), (1, v1), (2, v2), (3, v3), (4, v4), (5, v5), (6, v6)] = some (.agg [v0, v1, v2, v3, v4, v5, v6]) := by simp [buildV, Tryd.underlying52, zero52, fillA, placeS, overA, tyOk3, cells3, tyOk3, cells3, tyOk47, cells47, tyOk48, cells48, tyOk49, cells49, tyOk50, cells50, tyOk3, cells3, hv0, hv1, hv2, hv3, hv4, hv5, hv6]
theorem fadr59_0 (r off : Nat) : fadrT Tryd.prog 59 (.ptr r off) 0 = some (.ptr r (off + 0)) := fadr_st Tryd.underlying59 rfl tyOk3 (by rw [cells3]; decide) r off
theorem fld59_0 (cs : List AV) : fldT Tryd.prog 59 (.agg cs) 0 = cs[0]? := fld_one Tryd.underlying59 rfl tyOk3 agg3 cs
theorem fadr59_1 (r off : Nat) : fadrT Tryd.prog 59 (.ptr r off) 1 = some (.ptr r (off + 1)) := fadr_st Tryd.underlying59 rfl tyOk3 (by rw [cells3]; decide) r off
theorem fld59_1 (cs : List AV) : fldT Tryd.prog 59 (.agg cs) 1 = cs[1]? := fld_one Tryd.underlying59 rfl tyOk3 agg3 cs
theorem fadr59_2 (r off : Nat) : fadrT Tryd.prog 59 (.ptr r off) 2 = some (.ptr r (off + 2)) := fadr_st Tryd.underlying59 rfl tyOk55 (by rw [cells55]; decide) r off
theorem fld59_2 (cs : List AV) : fldT Tryd.prog 59 (.agg cs) 2 = cs[2]? := fld_one Tryd.underlying59 rfl tyOk55 agg55 cs
theorem fadr59_3 (r off : Nat) : fadrT Tryd.prog 59 (.ptr r off) 3 = some (.ptr r (off + 3)) := fadr_st Tryd.underlying59 rfl tyOk56 (by rw [cells56]; decide) r off
theorem fld59_3 (cs : List AV) : fldT Tryd.prog 59 (.agg cs) 3 = cs[3]? := fld_one Tryd.underlying59 rfl tyOk56 agg56 cs
theorem fadr59_4 (r off : Nat) : fadrT Tryd.prog 59 (.ptr r off) 4 = some (.ptr r (off + 4)) := fadr_st Tryd.underlying59 rfl tyOk57 (by rw [cells57]; decide) r off
theorem fld59_4 (cs : List AV) : fldT Tryd.prog 59 (.agg cs) 4 = cs[4]? := fld_one Tryd.underlying59 rfl tyOk57 agg57 cs
theorem fadr59_5 (r off : Nat) : fadrT Tryd.prog 59 (.ptr r off) 5 = some (.ptr r (off + 5)) := fadr_st Tryd.underlying59 rfl tyOk58 (by rw [cells58]; decide) r off
theorem fld59_5 (cs : List AV) : fldT Tryd.prog 59 (.agg cs) 5 = cs[5]? := fld_one Tryd.underlying59 rfl tyOk58 agg58 cs
theorem fadr59_6 (r off : Nat) : fadrT Tryd.prog 59 (.ptr r off) 6 = some (.ptr r (off + 6)) := fadr_st Tryd.underlying59 rfl tyOk3 (by rw [cells3]; decide) r off
theorem fld59_6 (cs : List AV) : fldT Tryd.prog 59 (.agg cs) 6 = cs[6]? := fld_one Tryd.underlying59 rfl tyOk3 agg3 cs
theorem bz59 : buildV Tryd.prog 59 [] = some (.agg [.sc (.int .i64 0), .sc (.int .i64 0), .sc (.slice none 0 0), .sc (.slice none 0 0), .sc (.slice none 0 0), .sc (.slice none 0 0), .sc (.int .i64 0)]) := by simp [buildV, Tryd.underlying59, zero59, fillA, tyOk3, cells3, tyOk3, cells3, tyOk55, cells55, tyOk56, cells56, tyOk57, cells57, tyOk58, cells58, tyOk3, cells3]
theorem bds59 (v0 v1 v2 v3 v4 v5 v6 : AV) (hv0 : v0.cells = [v0]) (hv1 : v1.cells = [v1]) (hv2 : v2.cells = [v2]) (hv3 : v3.cells = [v3]) (hv4 : v4.cells = [v4]) (hv5 : v5.cells = [v5]) (hv6 : v6.cells = [v6]) : buildV Tryd.prog 59 [(0, v0), (1, v1), (2, v2), (3, v3), (4, v4), (5, v5), (6, v6)] = some (.agg [v0, v1, v2, v3, v4, v5, v6]) := by simp [buildV, Tryd.underlying59, zero59, fillA, placeS, overA, tyOk3, cells3, tyOk3, cells3, tyOk55, cells55, tyOk56, cells56, tyOk57, cells57, tyOk58, cells58, tyOk3, cells3, hv0, hv1, hv2, hv3, hv4, hv5, hv6]
theorem fadr60_0 (r off : Nat) : fadrT Tryd.prog 60 (.ptr r off) 0 = some (.ptr r (off + 0)) := fadr_st Tryd.underlying60 rfl tyOk3 (by rw [cells3]; decide) r off
theorem fld60_0 (cs : List AV) : fldT Tryd.prog 60 (.agg cs) 0 = cs[0]? := fld_one Tryd.underlying60 rfl tyOk3 agg3 cs
theorem fadr60_1 (r off : Nat) : fadrT Tryd.prog 60 (.ptr r off) 1 = some (.ptr r (off + 1)) := fadr_st Tryd.underlying60 rfl tyOk3 (by rw [cells3]; decide) r off
theorem fld60_1 (cs : List AV) : fldT Tryd.prog 60 (.agg cs) 1 = cs[1]? := fld_one Tryd.underlying60 rfl tyOk3 agg3 cs
theorem fadr60_2 (r off : Nat) : fadrT Tryd.prog 60 (.ptr r off) 2 = some (.ptr r (off + 2)) := fadr_st Tryd.underlying60 rfl tyOk55 (by rw [cells55]; decide) r off
theorem fld60_2 (cs : List AV) : fldT Tryd.prog 60 (.agg cs) 2 = cs[2]? := fld_one Tryd.underlying60 rfl tyOk55 agg55 cs
theorem fadr60_3 (r off : Nat) : fadrT Tryd.prog 60 (.ptr r off) 3 = some (.ptr r (off + 3)) := fadr_st Tryd.underlying60 rfl tyOk56 (by rw [cells56]; decide) r off
theorem fld60_3 (cs : List AV) : fldT Tryd.prog 60 (.agg cs) 3 = cs[3]? := fld_one Tryd.underlying60 rfl tyOk56 agg56 cs
theorem fadr60_4 (r off : Nat) : fadrT Tryd.prog 60 (.ptr r off) 4 = some (.ptr r (off + 4)) := fadr_st Tryd.underlying60 rfl tyOk57 (by rw [cells57]; decide) r off
theorem fld60_4 (cs : List AV) : fldT Tryd.prog 60 (.agg cs) 4 = cs[4]? := fld_one Tryd.underlying60 rfl tyOk57 agg57 cs
theorem fadr60_5 (r off : Nat) : fadrT Tryd.prog 60 (.ptr r off) 5 = some (.ptr r (off + 5)) := fadr_st Tryd.underlying60 rfl tyOk58 (by rw [cells58]; decide) r off
theorem fld60_5 (cs : List AV) : fldT Tryd.prog 60 (.agg cs) 5 = cs[5]? := fld_one Tryd.underlying60 rfl tyOk58 agg58 cs
theorem fadr60_6 (r off : Nat) : fadrT Tryd.prog 60 (.ptr r off) 6 = some (.ptr r (off + 6)) := fadr_st Tryd.underlying60 rfl tyOk3 (by rw [cells3]; decide) r off
theorem fld60_6 (cs : List AV) : fldT Tryd.prog 60 (.agg cs) 6 = cs[6]? := fld_one Tryd.underlying60 rfl tyOk3 agg3 cs
theorem bz60 : buildV Tryd.prog 60 [] = some (.agg [.sc (.int .i64 0), .sc (.int .i64 0), .sc (.slice none 0 0), .sc (.slice none 0 0), .sc (.slice none 0 0), .sc (.slice none 0 0), .sc (.int .i64 0)]) := by simp [buildV, Tryd.underlying60, zero60, fillA, tyOk3, cells3, tyOk3, cells3, tyOk55, cells55, tyOk56, cells56, tyOk57, cells57, tyOk58, cells58, tyOk3, cells3]
theorem bds60 (v0 v1 v2 v3 v4 v5 v6 : AV) (hv0 : v0.cells = [v0]) (hv1 : v1.cells = [v1]) (hv2 : v2.cells = [v2]) (hv3 : v3.cells = [v3]) (hv4 : v4.cells = [v4]) (hv5 : v5.cells = [v5]) (hv6 : v6.cells = [v6]) : buildV Tryd.prog 60 [(0, v0), (1, v1), (2, v2), (3, v3), (4, v4), (5, v5), (6, v6)] = some (.agg [v0, v1, v2, v3, v4, v5, v6]) := by simp [buildV, Tryd.underlying60, zero60, fillA, placeS, overA, tyOk3, cells3, tyOk3, cells3, tyOk55, cells55, tyOk56, cells56, tyOk57, cells57, tyOk58, cells58, tyOk3, cells3, hv0, hv1, hv2, hv3, hv4, hv5, hv6]
theorem fadr68_0 (r off : Nat) : fadrT Tryd.prog 68 (.ptr r off) 0 = some (.ptr r (off + 0)) := fadr_st Tryd.underlying68 rfl tyOk38 (by rw [cells38]; decide) r off
theorem fadr68_1 (r off : Nat) : fadrT Tryd.prog 68 (.ptr r off) 1 = some (.ptr r (off + 1)) := fadr_st Tryd.underlying68 rfl tyOk64 (by rw [cells64]; decide) r off
theorem fld68_1 (cs : List AV) : fldT Tryd.prog 68 (.agg cs) 1 = cs[1]? := fld_one Tryd.underlying68 rfl tyOk64 agg64 cs
theorem fadr68_2 (r off : Nat) : fadrT Tryd.prog 68 (.ptr r off) 2 = some (.ptr r (off + 2)) := fadr_st Tryd.underlying68 rfl tyOk65 (by rw [cells65]; decide) r off
theorem fld68_2 (cs : List AV) : fldT Tryd.prog 68 (.agg cs) 2 = cs[2]? := fld_one Tryd.underlying68 rfl tyOk65 agg65 cs
theorem fadr68_3 (r off : Nat) : fadrT Tryd.prog 68 (.ptr r off) 3 = some (.ptr r (off + 3)) := fadr_st Tryd.underlying68 rfl tyOk52 (by rw [cells52]; decide) r off
theorem fadr68_4 (r off : Nat) : fadrT Tryd.prog 68 (.ptr r off) 4 = some (.ptr r (off + 10)) := fadr_st Tryd.underlying68 rfl tyOk66 (by rw [cells66]; decide) r off
theorem fld68_4 (cs : List AV) : fldT Tryd.prog 68 (.agg cs) 4 = cs[10]? := fld_one Tryd.underlying68 rfl tyOk66 agg66 cs
theorem fadr68_5 (r off : Nat) : fadrT Tryd.prog 68 (.ptr r off) 5 = some (.ptr r (off + 11)) := fadr_st Tryd.underlying68 rfl tyOk3 (by rw [cells3]; decide) r off
theorem fld68_5 (cs : List AV) : fldT Tryd.prog 68 (.agg cs) 5 = cs[11]? := fld_one Tryd.underlying68 rfl tyOk3 agg3 cs
theorem fadr68_6 (r off : Nat) : fadrT Tryd.prog 68 (.ptr r off) 6 = some (.ptr r (off + 12)) := fadr_st Tryd.underlying68 rfl tyOk3 (by rw [cells3]; decide) r off
theorem fld68_6 (cs : List AV) : fldT Tryd.prog 68 (.agg cs) 6 = cs[12]? := fld_one Tryd.underlying68 rfl tyOk3 agg3 cs
theorem fadr68_7 (r off : Nat) : fadrT Tryd.prog 68 (.ptr r off) 7 = some (.ptr r (off + 13)) := fadr_st Tryd.underlying68 rfl tyOk65 (by rw [cells65]; decide) r off
theorem fld68_7 (cs : List AV) : fldT Tryd.prog 68 (.agg cs) 7 = cs[13]? := fld_one Tryd.underlying68 rfl tyOk65 agg65 cs
theorem fadr68_8 (r off : Nat) : fadrT Tryd.prog 68 (.ptr r off) 8 = some (.ptr r (off + 14)) := fadr_st Tryd.underlying68 rfl tyOk65 (by rw [cells65]; decide) r off
theorem fld68_8 (cs : List AV) : fldT Tryd.prog 68 (.agg cs) 8 = cs[14]? := fld_one Tryd.underlying68 rfl tyOk65 agg65 cs
theorem fadr68_9 (r off : Nat) : fadrT Tryd.prog 68 (.ptr r off) 9 = some (.ptr r (off + 15)) := fadr_st Tryd.underlying68 rfl tyOk67 (by rw [cells67]; decide) r off
theorem fld68_9 (cs : List AV) : fldT Tryd.prog 68 (.agg cs) 9 = cs[15]? := fld_one Tryd.underlying68 rfl tyOk67 agg67 cs
theorem fadr68_10 (r off : Nat) : fadrT Tryd.prog 68 (.ptr r off) 10 = some (.ptr r (off + 16)) := fadr_st Tryd.underlying68 rfl tyOk67 (by rw [cells67]; decide) r off
theorem fld68_10 (cs : List AV) : fldT Tryd.prog 68 (.agg cs) 10 = cs[16]? := fld_one Tryd.underlying68 rfl tyOk67 agg67 cs
theorem fadr68_11 (r off : Nat) : fadrT Tryd.prog 68 (.ptr r off) 11 = some (.ptr r (off + 17)) := fadr_st Tryd.underlying68 rfl tyOk67 (by rw [cells67]; decide) r off
theorem fld68_11 (cs : List AV) : fldT Tryd.prog 68 (.agg cs) 11 = cs[17]? := fld_one Tryd.underlying68 rfl tyOk67 agg67 cs
theorem fadr68_12 (r off : Nat) : fadrT Tryd.prog 68 (.ptr r off) 12 = some (.ptr r (off + 18)) := fadr_st Tryd.underlying68 rfl tyOk67 (by rw [cells67]; decide) r off
theorem fld68_12 (cs : List AV) : fldT Tryd.prog 68 (.agg cs) 12 = cs[18]? := fld_one Tryd.underlying68 rfl tyOk67 agg67 cs
theorem fadr68_13 (r off : Nat) : fadrT Tryd.prog 68 (.ptr r off) 13 = some (.ptr r (off + 19)) := fadr_st Tryd.underlying68 rfl tyOk65 (by rw [cells65]; decide) r off
theorem fld68_13 (cs : List AV) : fldT Tryd.prog 68 (.agg cs) 13 = cs[19]? := fld_one Tryd.underlying68 rfl tyOk65 agg65 cs
theorem fadr69_0 (r off : Nat) : fadrT Tryd.prog 69 (.ptr r off) 0 = some (.ptr r (off + 0)) := fadr_st Tryd.underlying69 rfl tyOk38 (by rw [cells38]; decide) r off
theorem fadr69_1 (r off : Nat) : fadrT Tryd.prog 69 (.ptr r off) 1 = some (.ptr r (off + 1)) := fadr_st Tryd.underlying69 rfl tyOk64 (by rw [cells64]; decide) r off
theorem fld69_1 (cs : List AV) : fldT Tryd.prog 69 (.agg cs) 1 = cs[1]? := fld_one Tryd.underlying69 rfl tyOk64 agg64 cs
theorem fadr69_2 (r off : Nat) : fadrT Tryd.prog 69 (.ptr r off) 2 = some (.ptr r (off + 2)) := fadr_st Tryd.underlying69 rfl tyOk65 (by rw [cells65]; decide) r off
theorem fld69_2 (cs : List AV) : fldT Tryd.prog 69 (.agg cs) 2 = cs[2]? := fld_one Tryd.underlying69 rfl tyOk65 agg65 cs
theorem fadr69_3 (r off : Nat) : fadrT Tryd.prog 69 (.ptr r off) 3 = some (.ptr r (off + 3)) := fadr_st Tryd.underlying69 rfl tyOk52 (by rw [cells52]; decide) r off
theorem fadr69_4 (r off : Nat) : fadrT Tryd.prog 69 (.ptr r off) 4 = some (.ptr r (off + 10)) := fadr_st Tryd.underlying69 rfl tyOk66 (by rw [cells66]; decide) r off
theorem fld69_4 (cs : List AV) : fldT Tryd.prog 69 (.agg cs) 4 = cs[10]? := fld_one Tryd.underlying69 rfl tyOk66 agg66 cs
theorem fadr69_5 (r off : Nat) : fadrT Tryd.prog 69 (.ptr r off) 5 = some (.ptr r (off + 11)) := fadr_st Tryd.underlying69 rfl tyOk3 (by rw [cells3]; decide) r off
theorem fld69_5 (cs : List AV) : fldT Tryd.prog 69 (.agg cs) 5 = cs[11]? := fld_one Tryd.underlying69 rfl tyOk3 agg3 cs
theorem fadr69_6 (r off : Nat) : fadrT Tryd.prog 69 (.ptr r off) 6 = some (.ptr r (off + 12)) := fadr_st Tryd.underlying69 rfl tyOk3 (by rw [cells3]; decide) r off
theorem fld69_6 (cs : List AV) : fldT Tryd.prog 69 (.agg cs) 6 = cs[12]? := fld_one Tryd.underlying69 rfl tyOk3 agg3 cs
theorem fadr69_7 (r off : Nat) : fadrT Tryd.prog 69 (.ptr r off) 7 = some (.ptr r (off + 13)) := fadr_st Tryd.underlying69 rfl tyOk65 (by rw [cells65]; decide) r off
theorem fld69_7 (cs : List AV) : fldT Tryd.prog 69 (.agg cs) 7 = cs[13]? := fld_one Tryd.underlying69 rfl tyOk65 agg65 cs
theorem fadr69_8 (r off : Nat) : fadrT Tryd.prog 69 (.ptr r off) 8 = some (.ptr r (off + 14)) := fadr_st Tryd.underlying69 rfl tyOk65 (by rw [cells65]; decide) r off
theorem fld69_8 (cs : List AV) : fldT Tryd.prog 69 (.agg cs) 8 = cs[14]? := fld_one Tryd.underlying69 rfl tyOk65 agg65 cs
theorem fadr69_9 (r off : Nat) : fadrT Tryd.prog 69 (.ptr r off) 9 = some (.ptr r (off + 15)) := fadr_st Tryd.underlying69 rfl tyOk67 (by rw [cells67]; decide) r off
theorem fld69_9 (cs : List AV) : fldT Tryd.prog 69 (.agg cs) 9 = cs[15]? := fld_one Tryd.underlying69 rfl tyOk67 agg67 cs
theorem fadr69_10 (r off : Nat) : fadrT Tryd.prog 69 (.ptr r off) 10 = some (.ptr r (off + 16)) := fadr_st Tryd.underlying69 rfl tyOk67 (by rw [cells67]; decide) r off
theorem fld69_10 (cs : List AV) : fldT Tryd.prog 69 (.agg cs) 10 = cs[16]? := fld_one Tryd.underlying69 rfl tyOk67 agg67 cs
theorem fadr69_11 (r off : Nat) : fadrT Tryd.prog 69 (.ptr r off) 11 = some (.ptr r (off + 17)) := fadr_st Tryd.underlying69 rfl tyOk67 (by rw [cells67]; decide) r off
theorem fld69_11 (cs : List AV) : fldT Tryd.prog 69 (.agg cs) 11 = cs[17]? := fld_one Tryd.underlying69 rfl tyOk67 agg67 cs
theorem fadr69_12 (r off : Nat) : fadrT Tryd.prog 69 (.ptr r off) 12 = some (.ptr r (off + 18)) := fadr_st Tryd.underlying69 rfl tyOk67 (by rw [cells67]; decide) r off
theorem fld69_12 (cs : List AV) : fldT Tryd.prog 69 (.agg cs) 12 = cs[18]? := fld_one Tryd.underlying69 rfl tyOk67 agg67 cs
theorem fadr69_13 (r off : Nat) : fadrT Tryd.prog 69 (.ptr r off) 13 = some (.ptr r (off + 19)) := fadr_st Tryd.underlying69 rfl tyOk65 (by rw [cells65]; decide) r off
theorem fld69_13 (cs : List AV) : fldT Tryd.prog 69 (.agg cs) 13 = cs[19]? := fld_one Tryd.underlying69 rfl tyOk65 agg65 cs
theorem fadr75_0 (r off : Nat) : fadrT Tryd.prog 75 (.ptr r off) 0 = some (.ptr r (off + 0)) := fadr_st Tryd.underlying75 rfl tyOk43 (by rw [cells43]; decide) r off
theorem fadr75_1 (r off : Nat) : fadrT Tryd.prog 75 (.ptr r off) 1 = some (.ptr r (off + 1)) := fadr_st Tryd.underlying75 rfl tyOk72 (by rw [cells72]; decide) r off
theorem fld75_1 (cs : List AV) : fldT Tryd.prog 75 (.agg cs) 1 = cs[1]? := fld_one Tryd.underlying75 rfl tyOk72 agg72 cs
theorem fadr75_2 (r off : Nat) : fadrT Tryd.prog 75 (.ptr r off) 2 = some (.ptr r (off + 2)) := fadr_st Tryd.underlying75 rfl tyOk65 (by rw [cells65]; decide) r off
theorem fld75_2 (cs : List AV) : fldT Tryd.prog 75 (.agg cs) 2 = cs[2]? := fld_one Tryd.underlying75 rfl tyOk65 agg65 cs
theorem fadr75_3 (r off : Nat) : fadrT Tryd.prog 75 (.ptr r off) 3 = some (.ptr r (off + 3)) := fadr_st Tryd.underlying75 rfl tyOk60 (by rw [cells60]; decide) r off
theorem fadr75_4 (r off : Nat) : fadrT Tryd.prog 75 (.ptr r off) 4 = some (.ptr r (off + 10)) := fadr_st Tryd.underlying75 rfl tyOk73 (by rw [cells73]; decide) r off
theorem fld75_4 (cs : List AV) : fldT Tryd.prog 75 (.agg cs) 4 = cs[10]? := fld_one Tryd.underlying75 rfl tyOk73 agg73 cs
theorem fadr75_5 (r off : Nat) : fadrT Tryd.prog 75 (.ptr r off) 5 = some (.ptr r (off + 11)) := fadr_st Tryd.underlying75 rfl tyOk3 (by rw [cells3]; decide) r off
theorem fld75_5 (cs : List AV) : fldT Tryd.prog 75 (.agg cs) 5 = cs[11]? := fld_one Tryd.underlying75 rfl tyOk3 agg3 cs
theorem fadr75_6 (r off : Nat) : fadrT Tryd.prog 75 (.ptr r off) 6 = some (.ptr r (off + 12)) := fadr_st Tryd.underlying75 rfl tyOk3 (by rw [cells3]; decide) r off
theorem fld75_6 (cs : List AV) : fldT Tryd.prog 75 (.agg cs) 6 = cs[12]? := fld_one Tryd.underlying75 rfl tyOk3 agg3 cs
theorem fadr75_7 (r off : Nat) : fadrT Tryd.prog 75 (.ptr r off) 7 = some (.ptr r (off + 13)) := fadr_st Tryd.underlying75 rfl tyOk65 (by rw [cells65]; decide) r off
theorem fld75_7 (cs : List AV) : fldT Tryd.prog 75 (.agg cs) 7 = cs[13]? := fld_one Tryd.underlying75 rfl tyOk65 agg65 cs
theorem fadr75_8 (r off : Nat) : fadrT Tryd.prog 75 (.ptr r off) 8 = some (.ptr r (off + 14)) := fadr_st Tryd.underlying75 rfl tyOk65 (by rw [cells65]; decide) r off
theorem fld75_8 (cs : List AV) : fldT Tryd.prog 75 (.agg cs) 8 = cs[14]? := fld_one Tryd.underlying75 rfl tyOk65 agg65 cs
theorem fadr75_9 (r off : Nat) : fadrT Tryd.prog 75 (.ptr r off) 9 = some (.ptr r (off + 15)) := fadr_st Tryd.underlying75 rfl tyOk74 (by rw [cells74]; decide) r off
theorem fld75_9 (cs : List AV) : fldT Tryd.prog 75 (.agg cs) 9 = cs[15]? := fld_one Tryd.underlying75 rfl tyOk74 agg74 cs
theorem fadr75_10 (r off : Nat) : fadrT Tryd.prog 75 (.ptr r off) 10 = some (.ptr r (off + 16)) := fadr_st Tryd.underlying75 rfl tyOk74 (by rw [cells74]; decide) r off
theorem fld75_10 (cs : List AV) : fldT Tryd.prog 75 (.agg cs) 10 = cs[16]? := fld_one Tryd.underlying75 rfl tyOk74 agg74 cs
theorem fadr75_11 (r off : Nat) : fadrT Tryd.prog 75 (.ptr r off) 11 = some (.ptr r (off + 17)) := fadr_st Tryd.underlying75 rfl tyOk74 (by rw [cells74]; decide) r off
theorem fld75_11 (cs : List AV) : fldT Tryd.prog 75 (.agg cs) 11 = cs[17]? := fld_one Tryd.underlying75 rfl tyOk74 agg74 cs
theorem fadr75_12 (r off : Nat) : fadrT Tryd.prog 75 (.ptr r off) 12 = some (.ptr r (off + 18)) := fadr_st Tryd.underlying75 rfl tyOk74 (by rw [cells74]; decide) r off
theorem fld75_12 (cs : List AV) : fldT Tryd.prog 75 (.agg cs) 12 = cs[18]? := fld_one Tryd.underlying75 rfl tyOk74 agg74 cs
theorem fadr75_13 (r off : Nat) : fadrT Tryd.prog 75 (.ptr r off) 13 = some (.ptr r (off + 19)) := fadr_st Tryd.underlying75 rfl tyOk65 (by rw [cells65]; decide) r off
theorem fld75_13 (cs : List AV) : fldT Tryd.prog 75 (.agg cs) 13 = cs[19]? := fld_one Tryd.underlying75 rfl tyOk65 agg65 cs
theorem fadr76_0 (r off : Nat) : fadrT Tryd.prog 76 (.ptr r off) 0 = some (.ptr r (off + 0)) := fadr_st Tryd.underlying76 rfl tyOk43 (by rw [cells43]; decide) r off
theorem fadr76_1 (r off : Nat) : fadrT Tryd.prog 76 (.ptr r off) 1 = some (.ptr r (off + 1)) := fadr_st Tryd.underlying76 rfl tyOk72 (by rw [cells72]; decide) r off
theorem fld76_1 (cs : List AV) : fldT Tryd.prog 76 (.agg cs) 1 = cs[1]? := fld_one Tryd.underlying76 rfl tyOk72 agg72 cs
theorem fadr76_2 (r off : Nat) : fadrT Tryd.prog 76 (.ptr r off) 2 = some (.ptr r (off + 2)) := fadr_st Tryd.underlying76 rfl tyOk65 (by rw [cells65]; decide) r off
theorem fld76_2 (cs : List AV) : fldT Tryd.prog 76 (.agg cs) 2 = cs[2]? := fld_one Tryd.underlying76 rfl tyOk65 agg65 cs
theorem fadr76_3 (r off : Nat) : fadrT Tryd.prog 76 (.ptr r off) 3 = some (.ptr r (off + 3)) := fadr_st Tryd.underlying76 rfl tyOk60 (by rw [cells60]; decide) r off
theorem fadr76_4 (r off : Nat) : fadrT Tryd.prog 76 (.ptr r off) 4 = some (.ptr r (off + 10)) := fadr_st Tryd.underlying76 rfl tyOk73 (by rw [cells73]; decide) r off
theorem fld76_4 (cs : List AV) : fldT Tryd.prog 76 (.agg cs) 4 = cs[10]? := fld_one Tryd.underlying76 rfl tyOk73 agg73 cs
theorem fadr76_5 (r off : Nat) : fadrT Tryd.prog 76 (.ptr r off) 5 = some (.ptr r (off + 11)) := fadr_st Tryd.underlying76 rfl tyOk3 (by rw [cells3]; decide) r off
theorem fld76_5 (cs : List AV) : fldT Tryd.prog 76 (.agg cs) 5 = cs[11]? := fld_one Tryd.underlying76 rfl tyOk3 agg3 cs
theorem fadr76_6 (r off : Nat) : fadrT Tryd.prog 76 (.ptr r off) 6 = some (.ptr r (off + 12)) := fadr_st Tryd.underlying76 rfl tyOk3 (by rw [cells3]; decide) r off
theorem fld76_6 (cs : List AV) : fldT Tryd.prog 76 (.agg cs) 6 = cs[12]? := fld_one Tryd.underlying76 rfl tyOk3 agg3 cs
theorem fadr76_7 (r off : Nat) : fadrT Tryd.prog 76 (.ptr r off) 7 = some (.ptr r (off + 13)) := fadr_st Tryd.underlying76 rfl tyOk65 (by rw [cells65]; decide) r off
theorem fld76_7 (cs : List AV) : fldT Tryd.prog 76 (.agg cs) 7 = cs[13]? := fld_one Tryd.underlying76 rfl tyOk65 agg65 cs
theorem fadr76_8 (r off : Nat) : fadrT Tryd.prog 76 (.ptr r off) 8 = some (.ptr r (off + 14)) := fadr_st Tryd.underlying76 rfl tyOk65 (by rw [cells65]; decide) r off
theorem fld76_8 (cs : List AV) : fldT Tryd.prog 76 (.agg cs) 8 = cs[14]? := fld_one Tryd.underlying76 rfl tyOk65 agg65 cs
theorem fadr76_9 (r off : Nat) : fadrT Tryd.prog 76 (.ptr r off) 9 = some (.ptr r (off + 15)) := fadr_st Tryd.underlying76 rfl tyOk74 (by rw [cells74]; decide) r off
theorem fld76_9 (cs : List AV) : fldT Tryd.prog 76 (.agg cs) 9 = cs[15]? := fld_one Tryd.underlying76 rfl tyOk74 agg74 cs
theorem fadr76_10 (r off : Nat) : fadrT Tryd.prog 76 (.ptr r off) 10 = some (.ptr r (off + 16)) := fadr_st Tryd.underlying76 rfl tyOk74 (by rw [cells74]; decide) r off
theorem fld76_10 (cs : List AV) : fldT Tryd.prog 76 (.agg cs) 10 = cs[16]? := fld_one Tryd.underlying76 rfl tyOk74 agg74 cs
theorem fadr76_11 (r off : Nat) : fadrT Tryd.prog 76 (.ptr r off) 11 = some (.ptr r (off + 17)) := fadr_st Tryd.underlying76 rfl tyOk74 (by rw [cells74]; decide) r off
theorem fld76_11 (cs : List AV) : fldT Tryd.prog 76 (.agg cs) 11 = cs[17]? := fld_one Tryd.underlying76 rfl tyOk74 agg74 cs
theorem fadr76_12 (r off : Nat) : fadrT Tryd.prog 76 (.ptr r off) 12 = some (.ptr r (off + 18)) := fadr_st Tryd.underlying76 rfl tyOk74 (by rw [cells74]; decide) r off
theorem fld76_12 (cs : List AV) : fldT Tryd.prog 76 (.agg cs) 12 = cs[18]? := fld_one Tryd.underlying76 rfl tyOk74 agg74 cs
theorem fadr76_13 (r off : Nat) : fadrT Tryd.prog 76 (.ptr r off) 13 = some (.ptr r (off + 19)) := fadr_st Tryd.underlying76 rfl tyOk65 (by rw [cells65]; decide) r off
theorem fld76_13 (cs : List AV) : fldT Tryd.prog 76 (.agg cs) 13 = cs[19]? := fld_one Tryd.underlying76 rfl tyOk65 agg65 cs
theorem fadr94_0 (r off : Nat) : fadrT Tryd.prog 94 (.ptr r off) 0 = some (.ptr r (off + 0)) := fadr_st Tryd.underlying94 rfl tyOk3 (by rw [cells3]; decide) r off
theorem fld94_0 (cs : List AV) : fldT Tryd.prog 94 (.agg cs) 0 = cs[0]? := fld_one Tryd.underlying94 rfl tyOk3 agg3 cs
theorem fadr94_1 (r off : Nat) : fadrT Tryd.prog 94 (.ptr r off) 1 = some (.ptr r (off + 1)) := fadr_st Tryd.underlying94 rfl tyOk3 (by rw [cells3]; decide) r off
theorem fld94_1 (cs : List AV) : fldT Tryd.prog 94 (.agg cs) 1 = cs[1]? := fld_one Tryd.underlying94 rfl tyOk3 agg3 cs
theorem fadr94_2 (r off : Nat) : fadrT Tryd.prog 94 (.ptr r off) 2 = some (.ptr r (off + 2)) := fadr_st Tryd.underlying94 rfl tyOk3 (by rw [cells3]; decide) r off
theorem fld94_2 (cs : List AV) : fldT Tryd.prog 94 (.agg cs) 2 = cs[2]? := fld_one Tryd.underlying94 rfl tyOk3 agg3 cs
theorem fadr94_3 (r off : Nat) : fadrT Tryd.prog 94 (.ptr r off) 3 = some (.ptr r (off + 3)) := fadr_st Tryd.underlying94 rfl tyOk3 (by rw [cells3]; decide) r off
theorem fld94_3 (cs : List AV) : fldT Tryd.prog 94 (.agg cs) 3 = cs[3]? := fld_one Tryd.underlying94 rfl tyOk3 agg3 cs
theorem fadr94_4 (r off : Nat) : fadrT Tryd.prog 94 (.ptr r off) 4 = some (.ptr r (off + 4)) := fadr_st Tryd.underlying94 rfl tyOk3 (by rw [cells3]; decide) r off
theorem fld94_4 (cs : List AV) : fldT Tryd.prog 94 (.agg cs) 4 = cs[4]? := fld_one Tryd.underlying94 rfl tyOk3 agg3 cs
theorem fadr94_5 (r off : Nat) : fadrT Tryd.prog 94 (.ptr r off) 5 = some (.ptr r (off + 5)) := fadr_st Tryd.underlying94 rfl tyOk3 (by rw [cells3]; decide) r off
theorem fld94_5 (cs : List AV) : fldT Tryd.prog 94 (.agg cs) 5 = cs[5]? := fld_one Tryd.underlying94 rfl tyOk3 agg3 cs
theorem fadr94_6 (r off : Nat) : fadrT Tryd.prog 94 (.ptr r off) 6 = some (.ptr r (off + 6)) := fadr_st Tryd.underlying94 rfl tyOk3 (by rw [cells3]; decide) r off
theorem fld94_6 (cs : List AV) : fldT Tryd.prog 94 (.agg cs) 6 = cs[6]? := fld_one Tryd.underlying94 rfl tyOk3 agg3 cs
theorem fadr94_7 (r off : Nat) : fadrT Tryd.prog 94 (.ptr r off) 7 = some (.ptr r (off + 7)) := fadr_st Tryd.underlying94 rfl tyOk3 (by rw [cells3]; decide) r off
theorem fld94_7 (cs : List AV) : fldT Tryd.prog 94 (.agg cs) 7 = cs[7]? := fld_one Tryd.underlying94 rfl tyOk3 agg3 cs
theorem fadr94_8 (r off : Nat) : fadrT Tryd.prog 94 (.ptr r off) 8 = some (.ptr r (off + 8)) := fadr_st Tryd.underlying94 rfl tyOk3 (by rw [cells3]; decide) r off
theorem fld94_8 (cs : List AV) : fldT Tryd.prog 94 (.agg cs) 8 = cs[8]? := fld_one Tryd.underlying94 rfl tyOk3 agg3 cs
theorem fadr94_9 (r off : Nat) : fadrT Tryd.prog 94 (.ptr r off) 9 = some (.ptr r (off + 9)) := fadr_st Tryd.underlying94 rfl tyOk3 (by rw [cells3]; decide) r off
theorem fld94_9 (cs : List AV) : fldT Tryd.prog 94 (.agg cs) 9 = cs[9]? := fld_one Tryd.underlying94 rfl tyOk3 agg3 cs
theorem fadr94_10 (r off : Nat) : fadrT Tryd.prog 94 (.ptr r off) 10 = some (.ptr r (off + 10)) := fadr_st Tryd.underlying94 rfl tyOk31 (by rw [cells31]; decide) r off
theorem fadr94_11 (r off : Nat) : fadrT Tryd.prog 94 (.ptr r off) 11 = some (.ptr r (off + 19)) := fadr_st Tryd.underlying94 rfl tyOk3 (by rw [cells3]; decide) r off
theorem fld94_11 (cs : List AV) : fldT Tryd.prog 94 (.agg cs) 11 = cs[19]? := fld_one Tryd.underlying94 rfl tyOk3 agg3 cs
theorem apS55 (r len : Nat) (x : AV) (H : AHeap) : apV Tryd.prog (some (.slice 95)) (some (.slice 95)) (.sl r 0 len 20) x H = apR 20 160 H r len H[r]? (srcCells H x 20) := ap_slR zero95 rfl (by decide) info95 cells95 rfl r len x
theorem apN55 (x : AV) (H : AHeap) : apV Tryd.prog (some (.slice 95)) (some (.slice 95)) (.sc (.slice none 0 0)) x H = apRN 20 160 H (srcCells H x 20) := ap_nilR zero95 rfl (by decide) info95 cells95 rfl x
theorem bs95_1 (cs : List AV) (h : cs.length = 20) : bsV Tryd.prog (some (.slice 95)) 1 [(0, .agg cs)] = some (cs, fun r => .sl r 0 1 20) := bs_row 95 _ cs zero95 tyOk95 cells95 (by decide) (by decide) rfl h
theorem bs95_0 : bsV Tryd.prog (some (.slice 95)) 0 [] = some ([], fun r => .sl r 0 0 20) := bs_none 95 _ zero95 tyOk95 cells95 (by decide) rfl
theorem fadr95_0 (r off : Nat) : fadrT Tryd.prog 95 (.ptr r off) 0 = some (.ptr r (off + 0)) := fadr_st Tryd.underlying95 rfl tyOk3 (by rw [cells3]; decide) r off
theorem fld95_0 (cs : List AV) : fldT Tryd.prog 95 (.agg cs) 0 = cs[0]? := fld_one Tryd.underlying95 rfl tyOk3 agg3 cs
theorem fadr95_1 (r off : Nat) : fadrT Tryd.prog 95 (.ptr r off) 1 = some (.ptr r (off + 1)) := fadr_st Tryd.underlying95 rfl tyOk3 (by rw [cells3]; decide) r off
theorem fld95_1 (cs : List AV) : fldT Tryd.prog 95 (.agg cs) 1 = cs[1]? := fld_one Tryd.underlying95 rfl tyOk3 agg3 cs
theorem fadr95_2 (r off : Nat) : fadrT Tryd.prog 95 (.ptr r off) 2 = some (.ptr r (off + 2)) := fadr_st Tryd.underlying95 rfl tyOk3 (by rw [cells3]; decide) r off
theorem fld95_2 (cs : List AV) : fldT Tryd.prog 95 (.agg cs) 2 = cs[2]? := fld_one Tryd.underlying95 rfl tyOk3 agg3 cs
theorem fadr95_3 (r off : Nat) : fadrT Tryd.prog 95 (.ptr r off) 3 = some (.ptr r (off + 3)) := fadr_st Tryd.underlying95 rfl tyOk3 (by rw [cells3]; decide) r off
theorem fld95_3 (cs : List AV) : fldT Tryd.prog 95 (.agg cs) 3 = cs[3]? := fld_one Tryd.underlying95 rfl tyOk3 agg3 cs
theorem fadr95_4 (r off : Nat) : fadrT Tryd.prog 95 (.ptr r off) 4 = some (.ptr r (off + 4)) := fadr_st Tryd.underlying95 rfl tyOk3 (by rw [cells3]; decide) r off
theorem fld95_4 (cs : List AV) : fldT Tryd.prog 95 (.agg cs) 4 = cs[4]? := fld_one Tryd.underlying95 rfl tyOk3 agg3 cs
theorem fadr95_5 (r off : Nat) : fadrT Tryd.prog 95 (.ptr r off) 5 = some (.ptr r (off + 5)) := fadr_st Tryd.underlying95 rfl tyOk3 (by rw [cells3]; decide) r off
theorem fld95_5 (cs : List AV) : fldT Tryd.prog 95 (.agg cs) 5 = cs[5]? := fld_one Tryd.underlying95 rfl tyOk3 agg3 cs
theorem fadr95_6 (r off : Nat) : fadrT Tryd.prog 95 (.ptr r off) 6 = some (.ptr r (off + 6)) := fadr_st Tryd.underlying95 rfl tyOk3 (by rw [cells3]; decide) r off
theorem fld95_6 (cs : List AV) : fldT Tryd.prog 95 (.agg cs) 6 = cs[6]? := fld_one Tryd.underlying95 rfl tyOk3 agg3 cs
theorem fadr95_7 (r off : Nat) : fadrT Tryd.prog 95 (.ptr r off) 7 = some (.ptr r (off + 7)) := fadr_st Tryd.underlying95 rfl tyOk3 (by rw [cells3]; decide) r off
theorem fld95_7 (cs : List AV) : fldT Tryd.prog 95 (.agg cs) 7 = cs[7]? := fld_one Tryd.underlying95 rfl tyOk3 agg3 cs
theorem fadr95_8 (r off : Nat) : fadrT Tryd.prog 95 (.ptr r off) 8 = some (.ptr r (off + 8)) := fadr_st Tryd.underlying95 rfl tyOk3 (by rw [cells3]; decide) r off
theorem fld95_8 (cs : List AV) : fldT Tryd.prog 95 (.agg cs) 8 = cs[8]? := fld_one Tryd.underlying95 rfl tyOk3 agg3 cs
theorem fadr95_9 (r off : Nat) : fadrT Tryd.prog 95 (.ptr r off) 9 = some (.ptr r (off + 9)) := fadr_st Tryd.underlying95 rfl tyOk3 (by rw [cells3]; decide) r off
theorem fld95_9 (cs : List AV) : fldT Tryd.prog 95 (.agg cs) 9 = cs[9]? := fld_one Tryd.underlying95 rfl tyOk3 agg3 cs
theorem fadr95_10 (r off : Nat) : fadrT Tryd.prog 95 (.ptr r off) 10 = some (.ptr r (off + 10)) := fadr_st Tryd.underlying95 rfl tyOk31 (by rw [cells31]; decide) r off
theorem fadr95_11 (r off : Nat) : fadrT Tryd.prog 95 (.ptr r off) 11 = some (.ptr r (off + 19)) := fadr_st Tryd.underlying95 rfl tyOk3 (by rw [cells3]; decide) r off
theorem fld95_11 (cs : List AV) : fldT Tryd.prog 95 (.agg cs) 11 = cs[19]? := fld_one Tryd.underlying95 rfl tyOk3 agg3 cs
theorem fadr96_0 (r off : Nat) : fadrT Tryd.prog 96 (.ptr r off) 0 = some (.ptr r (off + 0)) := fadr_st Tryd.underlying96 rfl tyOk3 (by rw [cells3]; decide) r off
theorem fld96_0 (cs : List AV) : fldT Tryd.prog 96 (.agg cs) 0 = cs[0]? := fld_one Tryd.underlying96 rfl tyOk3 agg3 cs
theorem fadr96_1 (r off : Nat) : fadrT Tryd.prog 96 (.ptr r off) 1 = some (.ptr r (off + 1)) := fadr_st Tryd.underlying96 rfl tyOk3 (by rw [cells3]; decide) r off
theorem fld96_1 (cs : List AV) : fldT Tryd.prog 96 (.agg cs) 1 = cs[1]? := fld_one Tryd.underlying96 rfl tyOk3 agg3 cs
theorem fadr96_2 (r off : Nat) : fadrT Tryd.prog 96 (.ptr r off) 2 = some (.ptr r (off + 2)) := fadr_st Tryd.underlying96 rfl tyOk3 (by rw [cells3]; decide) r off
theorem fld96_2 (cs : List AV) : fldT Tryd.prog 96 (.agg cs) 2 = cs[2]? := fld_one Tryd.underlying96 rfl tyOk3 agg3 cs
theorem fadr96_3 (r off : Nat) : fadrT Tryd.prog 96 (.ptr r off) 3 = some (.ptr r (off + 3)) := fadr_st Tryd.underlying96 rfl tyOk3 (by rw [cells3]; decide) r off
theorem fld96_3 (cs : List AV) : fldT Tryd.prog 96 (.agg cs) 3 = cs[3]? := fld_one Tryd.underlying96 rfl tyOk3 agg3 cs
theorem bz96 : buildV Tryd.prog 96 [] = some (.agg [.sc (.int .i64 0), .sc (.int .i64 0), .sc (.int .i64 0), .sc (.int .i64 0)]) := by simp [buildV, Tryd.underlying96, zero96, fillA, tyOk3, cells3, tyOk3, cells3, tyOk3, cells3, tyOk3, cells3]
theorem bds96 (v0 v1 v2 v3 : AV) (hv0 : v0.cells = [v0]) (hv1 : v1.cells = [v1]) (hv2 : v2.cells = [v2]) (hv3 : v3.cells = [v3]) : buildV Tryd.prog 96 [(0, v0), (1, v1), (2, v2), (3, v3)] = some (.agg [v0, v1, v2, v3]) := by simp [buildV, Tryd.underlying96, zero96, fillA, placeS, overA, tyOk3, cells3, tyOk3, cells3, tyOk3, cells3, tyOk3, cells3, hv0, hv1, hv2, hv3]
theorem fadr97_0 (r off : Nat) : fadrT Tryd.prog 97 (.ptr r off) 0 = some (.ptr r (off + 0)) := fadr_st Tryd.underlying97 rfl tyOk3 (by rw [cells3]; decide) r off
theorem fld97_0 (cs : List AV) : fldT Tryd.prog 97 (.agg cs) 0 = cs[0]? := fld_one Tryd.underlying97 rfl tyOk3 agg3 cs
theorem fadr97_1 (r off : Nat) : fadrT Tryd.prog 97 (.ptr r off) 1 = some (.ptr r (off + 1)) := fadr_st Tryd.underlying97 rfl tyOk3 (by rw [cells3]; decide) r off
theorem fld97_1 (cs : List AV) : fldT Tryd.prog 97 (.agg cs) 1 = cs[1]? := fld_one Tryd.underlying97 rfl tyOk3 agg3 cs
theorem fadr97_2 (r off : Nat) : fadrT Tryd.prog 97 (.ptr r off) 2 = some (.ptr r (off + 2)) := fadr_st Tryd.underlying97 rfl tyOk3 (by rw [cells3]; decide) r off
theorem fld97_2 (cs : List AV) : fldT Tryd.prog 97 (.agg cs) 2 = cs[2]? := fld_one Tryd.underlying97 rfl tyOk3 agg3 cs
theorem fadr97_3 (r off : Nat) : fadrT Tryd.prog 97 (.ptr r off) 3 = some (.ptr r (off + 3)) := fadr_st Tryd.underlying97 rfl tyOk3 (by rw [cells3]; decide) r off
theorem fld97_3 (cs : List AV) : fldT Tryd.prog 97 (.agg cs) 3 = cs[3]? := fld_one Tryd.underlying97 rfl tyOk3 agg3 cs
theorem bz97 : buildV Tryd.prog 97 [] = some (.agg [.sc (.int .i64 0), .sc (.int .i64 0), .sc (.int .i64 0), .sc (.int .i64 0)]) := by simp [buildV, Tryd.underlying97, zero97, fillA, tyOk3, cells3, tyOk3, cells3, tyOk3, cells3, tyOk3, cells3]
theorem bds97 (v0 v1 v2 v3 : AV) (hv0 : v0.cells = [v0]) (hv1 : v1.cells = [v1]) (hv2 : v2.cells = [v2]) (hv3 : v3.cells = [v3]) : buildV Tryd.prog 97 [(0, v0), (1, v1), (2, v2), (3, v3)] = some (.agg [v0, v1, v2, v3]) := by simp [buildV, Tryd.underlying97, zero97, fillA, placeS, overA, tyOk3, cells3, tyOk3, cells3, tyOk3, cells3, tyOk3, cells3, hv0, hv1, hv2, hv3]
theorem fadr98_0 (r off : Nat) : fadrT Tryd.prog 98 (.ptr r off) 0 = some (.ptr r (off + 0)) := fadr_st Tryd.underlying98 rfl tyOk3 (by rw [cells3]; decide) r off
theorem fld98_0 (cs : List AV) : fldT Tryd.prog 98 (.agg cs) 0 = cs[0]? := fld_one Tryd.underlying98 rfl tyOk3 agg3 cs
theorem fadr98_1 (r off : Nat) : fadrT Tryd.prog 98 (.ptr r off) 1 = some (.ptr r (off + 1)) := fadr_st Tryd.underlying98 rfl tyOk97 (by rw [cells97]; decide) r off
theorem apS58 (r len : Nat) (x : AV) (H : AHeap) : apV Tryd.prog (some (.slice 99)) (some (.slice 99)) (.sl r 0 len 5) x H = apR 5 40 H r len H[r]? (srcCells H x 5) := ap_slR zero99 rfl (by decide) info99 cells99 rfl r len x
theorem apN58 (x : AV) (H : AHeap) : apV Tryd.prog (some (.slice 99)) (some (.slice 99)) (.sc (.slice none 0 0)) x H = apRN 5 40 H (srcCells H x 5) := ap_nilR zero99 rfl (by decide) info99 cells99 rfl x
theorem bs99_1 (cs : List AV) (h : cs.length = 5) : bsV Tryd.prog (some (.slice 99)) 1 [(0, .agg cs)] = some (cs, fun r => .sl r 0 1 5) := bs_row 99 _ cs zero99 tyOk99 cells99 (by decide) (by decide) rfl h
theorem bs99_0 : bsV Tryd.prog (some (.slice 99)) 0 [] = some ([], fun r => .sl r 0 0 5) := bs_none 99 _ zero99 tyOk99 cells99 (by decide) rfl
theorem fadr99_0 (r off : Nat) : fadrT Tryd.prog 99 (.ptr r off) 0 = some (.ptr r (off + 0)) := fadr_st Tryd.underlying99 rfl tyOk3 (by rw [cells3]; decide) r off
theorem fld99_0 (cs : List AV) : fldT Tryd.prog 99 (.agg cs) 0 = cs[0]? := fld_one Tryd.underlying99 rfl tyOk3 agg3 cs
theorem fadr99_1 (r off : Nat) : fadrT Tryd.prog 99 (.ptr r off) 1 = some (.ptr r (off + 1)) := fadr_st Tryd.underlying99 rfl tyOk97 (by rw [cells97]; decide) r off
theorem fadr122_0 (r off : Nat) : fadrT Tryd.prog 122 (.ptr r off) 0 = some (.ptr r (off + 0)) := fadr_st Tryd.underlying122 rfl tyOk3 (by rw [cells3]; decide) r off
theorem fld122_0 (cs : List AV) : fldT Tryd.prog 122 (.agg cs) 0 = cs[0]? := fld_one Tryd.underlying122 rfl tyOk3 agg3 cs
theorem fadr122_1 (r off : Nat) : fadrT Tryd.prog 122 (.ptr r off) 1 = some (.ptr r (off + 1)) := fadr_st Tryd.underlying122 rfl tyOk3 (by rw [cells3]; decide) r off
theorem fld122_1 (cs : List AV) : fldT Tryd.prog 122 (.agg cs) 1 = cs[1]? := fld_one Tryd.underlying122 rfl tyOk3 agg3 cs
theorem fadr122_2 (r off : Nat) : fadrT Tryd.prog 122 (.ptr r off) 2 = some (.ptr r (off + 2)) := fadr_st Tryd.underlying122 rfl tyOk3 (by rw [cells3]; decide) r off
theorem fld122_2 (cs : List AV) : fldT Tryd.prog 122 (.agg cs) 2 = cs[2]? := fld_one Tryd.underlying122 rfl tyOk3 agg3 cs
theorem fadr122_3 (r off : Nat) : fadrT Tryd.prog 122 (.ptr r off) 3 = some (.ptr r (off + 3)) := fadr_st Tryd.underlying122 rfl tyOk3 (by rw [cells3]; decide) r off
theorem fld122_3 (cs : List AV) : fldT Tryd.prog 122 (.agg cs) 3 = cs[3]? := fld_one Tryd.underlying122 rfl tyOk3 agg3 cs
theorem bz122 : buildV Tryd.prog 122 [] = some (.agg [.sc (.int .i64 0), .sc (.int .i64 0), .sc (.int .i64 0), .sc (.int .i64 0)]) := by simp [buildV, Tryd.underlying122, zero122, fillA, tyOk3, cells3, tyOk3, cells3, tyOk3, cells3, tyOk3, cells3]
theorem bds122 (v0 v1 v2 v3 : AV) (hv0 : v0.cells = [v0]) (hv1 : v1.cells = [v1]) (hv2 : v2.cells = [v2]) (hv3 : v3.cells = [v3]) : buildV Tryd.prog 122 [(0, v0), (1, v1), (2, v2), (3, v3)] = some (.agg [v0, v1, v2, v3]) := by simp [buildV, Tryd.underlying122, zero122, fillA, placeS, overA, tyOk3, cells3, tyOk3, cells3, tyOk3, cells3, tyOk3, cells3, hv0, hv1, hv2, hv3]
theorem apS41 (r len : Nat) (x : AV) (H : AHeap) : apV Tryd.prog (some (.slice 123)) (some (.slice 123)) (.sl r 0 len 4) x H = apR 4 32 H r len H[r]? (srcCells H x 4) := ap_slR zero123 rfl (by decide) info123 cells123 rfl r len x
theorem apN41 (x : AV) (H : AHeap) : apV Tryd.prog (some (.slice 123)) (some (.slice 123)) (.sc (.slice none 0 0)) x H = apRN 4 32 H (srcCells H x 4) := ap_nilR zero123 rfl (by decide) info123 cells123 rfl x
theorem bs123_1 (cs : List AV) (h : cs.length = 4) : bsV Tryd.prog (some (.slice 123)) 1 [(0, .agg cs)] = some (cs, fun r => .sl r 0 1 4) := bs_row 123 _ cs zero123 tyOk123 cells123 (by decide) (by decide) rfl h
theorem bs123_0 : bsV Tryd.prog (some (.slice 123)) 0 [] = some ([], fun r => .sl r 0 0 4) := bs_none 123 _ zero123 tyOk123 cells123 (by decide) rfl
theorem fadr123_0 (r off : Nat) : fadrT Tryd.prog 123 (.ptr r off) 0 = some (.ptr r (off + 0)) := fadr_st Tryd.underlying123 rfl tyOk3 (by rw [cells3]; decide) r off
theorem fld123_0 (cs : List AV) : fldT Tryd.prog 123 (.agg cs) 0 = cs[0]? := fld_one Tryd.underlying123 rfl tyOk3 agg3 cs
theorem fadr123_1 (r off : Nat) : fadrT Tryd.prog 123 (.ptr r off) 1 = some (.ptr r (off + 1)) := fadr_st Tryd.underlying123 rfl tyOk3 (by rw [cells3]; decide) r off
theorem fld123_1 (cs : List AV) : fldT Tryd.prog 123 (.agg cs) 1 = cs[1]? := fld_one Tryd.underlying123 rfl tyOk3 agg3 cs
theorem fadr123_2 (r off : Nat) : fadrT Tryd.prog 123 (.ptr r off) 2 = some (.ptr r (off + 2)) := fadr_st Tryd.underlying123 rfl tyOk3 (by rw [cells3]; decide) r off
theorem fld123_2 (cs : List AV) : fldT Tryd.prog 123 (.agg cs) 2 = cs[2]? := fld_one Tryd.underlying123 rfl tyOk3 agg3 cs
theorem fadr123_3 (r off : Nat) : fadrT Tryd.prog 123 (.ptr r off) 3 = some (.ptr r (off + 3)) := fadr_st Tryd.underlying123 rfl tyOk3 (by rw [cells3]; decide) r off
theorem fld123_3 (cs : List AV) : fldT Tryd.prog 123 (.agg cs) 3 = cs[3]? := fld_one Tryd.underlying123 rfl tyOk3 agg3 cs
theorem bz123 : buildV Tryd.prog 123 [] = some (.agg [.sc (.int .i64 0), .sc (.int .i64 0), .sc (.int .i64 0), .sc (.int .i64 0)]) := by simp [buildV, Tryd.underlying123, zero123, fillA, tyOk3, cells3, tyOk3, cells3, tyOk3, cells3, tyOk3, cells3]
theorem bds123 (v0 v1 v2 v3 : AV) (hv0 : v0.cells = [v0]) (hv1 : v1.cells = [v1]) (hv2 : v2.cells = [v2]) (hv3 : v3.cells = [v3]) : buildV Tryd.prog 123 [(0, v0), (1, v1), (2, v2), (3, v3)] = some (.agg [v0, v1, v2, v3]) := by simp [buildV, Tryd.underlying123, zero123, fillA, placeS, overA, tyOk3, cells3, tyOk3, cells3, tyOk3, cells3, tyOk3, cells3, hv0, hv1, hv2, hv3]
theorem apS36 (r len : Nat) (x : AV) (H : AHeap) : apV Tryd.prog (some (.slice 126)) (some (.slice 126)) (.sl r 0 len 4) x H = apR 4 32 H r len H[r]? (srcCells H x 4) := ap_slR zero126 rfl (by decide) info126 cells126 rfl r len x
theorem apN36 (x : AV) (H : AHeap) : apV Tryd.prog (some (.slice 126)) (some (.slice 126)) (.sc (.slice none 0 0)) x H = apRN 4 32 H (srcCells H x 4) := ap_nilR zero126 rfl (by decide) info126 cells126 rfl x
theorem bs126_1 (cs : List AV) (h : cs.length = 4) : bsV Tryd.prog (some (.slice 126)) 1 [(0, .agg cs)] = some (cs, fun r => .sl r 0 1 4) := bs_row 126 _ cs zero126 tyOk126 cells126 (by decide) (by decide) rfl h
theorem bs126_0 : bsV Tryd.prog (some (.slice 126)) 0 [] = some ([], fun r => .sl r 0 0 4) := bs_none 126 _ zero126 tyOk126 cells126 (by decide) rfl
theorem fadr126_0 (r off : Nat) : fadrT Tryd.prog 126 (.ptr r off) 0 = some (.ptr r (off + 0)) := fadr_st Tryd.underlying126 rfl tyOk3 (by rw [cells3]; decide) r off
theorem fld126_0 (cs : List AV) : fldT Tryd.prog 126 (.agg cs) 0 = cs[0]? := fld_one Tryd.underlying126 rfl tyOk3 agg3 cs
theorem fadr126_1 (r off : Nat) : fadrT Tryd.prog 126 (.ptr r off) 1 = some (.ptr r (off + 1)) := fadr_st Tryd.underlying126 rfl tyOk3 (by rw [cells3]; decide) r off
theorem fld126_1 (cs : List AV) : fldT Tryd.prog 126 (.agg cs) 1 = cs[1]? := fld_one Tryd.underlying126 rfl tyOk3 agg3 cs
theorem fadr126_2 (r off : Nat) : fadrT Tryd.prog 126 (.ptr r off) 2 = some (.ptr r (off + 2)) := fadr_st Tryd.underlying126 rfl tyOk3 (by rw [cells3]; decide) r off
theorem fld126_2 (cs : List AV) : fldT Tryd.prog 126 (.agg cs) 2 = cs[2]? := fld_one Tryd.underlying126 rfl tyOk3 agg3 cs
theorem fadr126_3 (r off : Nat) : fadrT Tryd.prog 126 (.ptr r off) 3 = some (.ptr r (off + 3)) := fadr_st Tryd.underlying126 rfl tyOk3 (by rw [cells3]; decide) r off
theorem fld126_3 (cs : List AV) : fldT Tryd.prog 126 (.agg cs) 3 = cs[3]? := fld_one Tryd.underlying126 rfl tyOk3 agg3 cs
theorem bz126 : buildV Tryd.prog 126 [] = some (.agg [.sc (.int .i64 0), .sc (.int .i64 0), .sc (.int .i64 0), .sc (.int .i64 0)]) := by simp [buildV, Tryd.underlying126, zero126, fillA, tyOk3, cells3, tyOk3, cells3, tyOk3, cells3, tyOk3, cells3]
theorem bds126 (v0 v1 v2 v3 : AV) (hv0 : v0.cells = [v0]) (hv1 : v1.cells = [v1]) (hv2 : v2.cells = [v2]) (hv3 : v3.cells = [v3]) : buildV Tryd.prog 126 [(0, v0), (1, v1), (2, v2), (3, v3)] = some (.agg [v0, v1, v2, v3]) := by simp [buildV, Tryd.underlying126, zero126, fillA, placeS, overA, tyOk3, cells3, tyOk3, cells3, tyOk3, cells3, tyOk3, cells3, hv0, hv1, hv2, hv3]
theorem fadr132_0 (r off : Nat) : fadrT Tryd.prog 132 (.ptr r off) 0 = some (.ptr r (off + 0)) := fadr_st Tryd.underlying132 rfl tyOk3 (by rw [cells3]; decide) r off
theorem fld132_0 (cs : List AV) : fldT Tryd.prog 132 (.agg cs) 0 = cs[0]? := fld_one Tryd.underlying132 rfl tyOk3 agg3 cs
theorem fadr132_1 (r off : Nat) : fadrT Tryd.prog 132 (.ptr r off) 1 = some (.ptr r (off + 1)) := fadr_st Tryd.underlying132 rfl tyOk3 (by rw [cells3]; decide) r off
theorem fld132_1 (cs : List AV) : fldT Tryd.prog 132 (.agg cs) 1 = cs[1]? := fld_one Tryd.underlying132 rfl tyOk3 agg3 cs
theorem fadr132_2 (r off : Nat) : fadrT Tryd.prog 132 (.ptr r off) 2 = some (.ptr r (off + 2)) := fadr_st Tryd.underlying132 rfl tyOk3 (by rw [cells3]; decide) r off
theorem fld132_2 (cs : List AV) : fldT Tryd.prog 132 (.agg cs) 2 = cs[2]? := fld_one Tryd.underlying132 rfl tyOk3 agg3 cs
theorem fadr132_3 (r off : Nat) : fadrT Tryd.prog 132 (.ptr r off) 3 = some (.ptr r (off + 3)) := fadr_st Tryd.underlying132 rfl tyOk3 (by rw [cells3]; decide) r off
theorem fld132_3 (cs : List AV) : fldT Tryd.prog 132 (.agg cs) 3 = cs[3]? := fld_one Tryd.underlying132 rfl tyOk3 agg3 cs
theorem fadr132_4 (r off : Nat) : fadrT Tryd.prog 132 (.ptr r off) 4 = some (.ptr r (off + 4)) := fadr_st Tryd.underlying132 rfl tyOk3 (by rw [cells3]; decide) r off
theorem fld132_4 (cs : List AV) : fldT Tryd.prog 132 (.agg cs) 4 = cs[4]? := fld_one Tryd.underlying132 rfl tyOk3 agg3 cs
theorem fadr132_5 (r off : Nat) : fadrT Tryd.prog 132 (.ptr r off) 5 = some (.ptr r (off + 5)) := fadr_st Tryd.underlying132 rfl tyOk3 (by rw [cells3]; decide) r off
theorem fld132_5 (cs : List AV) : fldT Tryd.prog 132 (.agg cs) 5 = cs[5]? := fld_one Tryd.underlying132 rfl tyOk3 agg3 cs
theorem fadr132_6 (r off : Nat) : fadrT Tryd.prog 132 (.ptr r off) 6 = some (.ptr r (off + 6)) := fadr_st Tryd.underlying132 rfl tyOk3 (by rw [cells3]; decide) r off
theorem fld132_6 (cs : List AV) : fldT Tryd.prog 132 (.agg cs) 6 = cs[6]? := fld_one Tryd.underlying132 rfl tyOk3 agg3 cs
theorem fadr132_7 (r off : Nat) : fadrT Tryd.prog 132 (.ptr r off) 7 = some (.ptr r (off + 7)) := fadr_st Tryd.underlying132 rfl tyOk3 (by rw [cells3]; decide) r off
theorem fld132_7 (cs : List AV) : fldT Tryd.prog 132 (.agg cs) 7 = cs[7]? := fld_one Tryd.underlying132 rfl tyOk3 agg3 cs
theorem fadr132_8 (r off : Nat) : fadrT Tryd.prog 132 (.ptr r off) 8 = some (.ptr r (off + 8)) := fadr_st Tryd.underlying132 rfl tyOk3 (by rw [cells3]; decide) r off
theorem fld132_8 (cs : List AV) : fldT Tryd.prog 132 (.agg cs) 8 = cs[8]? := fld_one Tryd.underlying132 rfl tyOk3 agg3 cs
theorem fadr132_9 (r off : Nat) : fadrT Tryd.prog 132 (.ptr r off) 9 = some (.ptr r (off + 9)) := fadr_st Tryd.underlying132 rfl tyOk3 (by rw [cells3]; decide) r off
theorem fld132_9 (cs : List AV) : fldT Tryd.prog 132 (.agg cs) 9 = cs[9]? := fld_one Tryd.underlying132 rfl tyOk3 agg3 cs
theorem fadr132_10 (r off : Nat) : fadrT Tryd.prog 132 (.ptr r off) 10 = some (.ptr r (off + 10)) := fadr_st Tryd.underlying132 rfl tyOk25 (by rw [cells25]; decide) r off
theorem fadr132_11 (r off : Nat) : fadrT Tryd.prog 132 (.ptr r off) 11 = some (.ptr r (off + 19)) := fadr_st Tryd.underlying132 rfl tyOk3 (by rw [cells3]; decide) r off
theorem fld132_11 (cs : List AV) : fldT Tryd.prog 132 (.agg cs) 11 = cs[19]? := fld_one Tryd.underlying132 rfl tyOk3 agg3 cs
theorem apS47 (r len : Nat) (x : AV) (H : AHeap) : apV Tryd.prog (some (.slice 133)) (some (.slice 133)) (.sl r 0 len 20) x H = apR 20 160 H r len H[r]? (srcCells H x 20) := ap_slR zero133 rfl (by decide) info133 cells133 rfl r len x
theorem apN47 (x : AV) (H : AHeap) : apV Tryd.prog (some (.slice 133)) (some (.slice 133)) (.sc (.slice none 0 0)) x H = apRN 20 160 H (srcCells H x 20) := ap_nilR zero133 rfl (by decide) info133 cells133 rfl x
theorem bs133_1 (cs : List AV) (h : cs.length = 20) : bsV Tryd.prog (some (.slice 133)) 1 [(0, .agg cs)] = some (cs, fun r => .sl r 0 1 20) := bs_row 133 _ cs zero133 tyOk133 cells133 (by decide) (by decide) rfl h
theorem bs133_0 : bsV Tryd.prog (some (.slice 133)) 0 [] = some ([], fun r => .sl r 0 0 20) := bs_none 133 _ zero133 tyOk133 cells133 (by decide) rfl
theorem fadr133_0 (r off : Nat) : fadrT Tryd.prog 133 (.ptr r off) 0 = some (.ptr r (off + 0)) := fadr_st Tryd.underlying133 rfl tyOk3 (by rw [cells3]; decide) r off
theorem fld133_0 (cs : List AV) : fldT Tryd.prog 133 (.agg cs) 0 = cs[0]? := fld_one Tryd.underlying133 rfl tyOk3 agg3 cs
theorem fadr133_1 (r off : Nat) : fadrT Tryd.prog 133 (.ptr r off) 1 = some (.ptr r (off + 1)) := fadr_st Tryd.underlying133 rfl tyOk3 (by rw [cells3]; decide) r off
theorem fld133_1 (cs : List AV) : fldT Tryd.prog 133 (.agg cs) 1 = cs[1]? := fld_one Tryd.underlying133 rfl tyOk3 agg3 cs
theorem fadr133_2 (r off : Nat) : fadrT Tryd.prog 133 (.ptr r off) 2 = some (.ptr r (off + 2)) := fadr_st Tryd.underlying133 rfl tyOk3 (by rw [cells3]; decide) r off
theorem fld133_2 (cs : List AV) : fldT Tryd.prog 133 (.agg cs) 2 = cs[2]? := fld_one Tryd.underlying133 rfl tyOk3 agg3 cs
theorem fadr133_3 (r off : Nat) : fadrT Tryd.prog 133 (.ptr r off) 3 = some (.ptr r (off + 3)) := fadr_st Tryd.underlying133 rfl tyOk3 (by rw [cells3]; decide) r off
theorem fld133_3 (cs : List AV) : fldT Tryd.prog 133 (.agg cs) 3 = cs[3]? := fld_one Tryd.underlying133 rfl tyOk3 agg3 cs
theorem fadr133_4 (r off : Nat) : fadrT Tryd.prog 133 (.ptr r off) 4 = some (.ptr r (off + 4)) := fadr_st Tryd.underlying133 rfl tyOk3 (by rw [cells3]; decide) r off
theorem fld133_4 (cs : List AV) : fldT Tryd.prog 133 (.agg cs) 4 = cs[4]? := fld_one Tryd.underlying133 rfl tyOk3 agg3 cs
theorem fadr133_5 (r off : Nat) : fadrT Tryd.prog 133 (.ptr r off) 5 = some (.ptr r (off + 5)) := fadr_st Tryd.underlying133 rfl tyOk3 (by rw [cells3]; decide) r off
theorem fld133_5 (cs : List AV) : fldT Tryd.prog 133 (.agg cs) 5 = cs[5]? := fld_one Tryd.underlying133 rfl tyOk3 agg3 cs
theorem fadr133_6 (r off : Nat) : fadrT Tryd.prog 133 (.ptr r off) 6 = some (.ptr r (off + 6)) := fadr_st Tryd.underlying133 rfl tyOk3 (by rw [cells3]; decide) r off
theorem fld133_6 (cs : List AV) : fldT Tryd.prog 133 (.agg cs) 6 = cs[6]? := fld_one Tryd.underlying133 rfl tyOk3 agg3 cs
theorem fadr133_7 (r off : Nat) : fadrT Tryd.prog 133 (.ptr r off) 7 = some (.ptr r (off + 7)) := fadr_st Tryd.underlying133 rfl tyOk3 (by rw [cells3]; decide) r off
theorem fld133_7 (cs : List AV) : fldT Tryd.prog 133 (.agg cs) 7 = cs[7]? := fld_one Tryd.underlying133 rfl tyOk3 agg3 cs
theorem fadr133_8 (r off : Nat) : fadrT Tryd.prog 133 (.ptr r off) 8 = some (.ptr r (off + 8)) := fadr_st Tryd.underlying133 rfl tyOk3 (by rw [cells3]; decide) r off
theorem fld133_8 (cs : List AV) : fldT Tryd.prog 133 (.agg cs) 8 = cs[8]? := fld_one Tryd.underlying133 rfl tyOk3 agg3 cs
theorem fadr133_9 (r off : Nat) : fadrT Tryd.prog 133 (.ptr r off) 9 = some (.ptr r (off + 9)) := fadr_st Tryd.underlying133 rfl tyOk3 (by rw [cells3]; decide) r off
theorem fld133_9 (cs : List AV) : fldT Tryd.prog 133 (.agg cs) 9 = cs[9]? := fld_one Tryd.underlying133 rfl tyOk3 agg3 cs
theorem fadr133_10 (r off : Nat) : fadrT Tryd.prog 133 (.ptr r off) 10 = some (.ptr r (off + 10)) := fadr_st Tryd.underlying133 rfl tyOk25 (by rw [cells25]; decide) r off
theorem fadr133_11 (r off : Nat) : fadrT Tryd.prog 133 (.ptr r off) 11 = some (.ptr r (off + 19)) := fadr_st Tryd.underlying133 rfl tyOk3 (by rw [cells3]; decide) r off
theorem fld133_11 (cs : List AV) : fldT Tryd.prog 133 (.agg cs) 11 = cs[19]? := fld_one Tryd.underlying133 rfl tyOk3 agg3 cs
theorem fadr134_0 (r off : Nat) : fadrT Tryd.prog 134 (.ptr r off) 0 = some (.ptr r (off + 0)) := fadr_st Tryd.underlying134 rfl tyOk3 (by rw [cells3]; decide) r off
theorem fld134_0 (cs : List AV) : fldT Tryd.prog 134 (.agg cs) 0 = cs[0]? := fld_one Tryd.underlying134 rfl tyOk3 agg3 cs
theorem fadr134_1 (r off : Nat) : fadrT Tryd.prog 134 (.ptr r off) 1 = some (.ptr r (off + 1)) := fadr_st Tryd.underlying134 rfl tyOk3 (by rw [cells3]; decide) r off
theorem fld134_1 (cs : List AV) : fldT Tryd.prog 134 (.agg cs) 1 = cs[1]? := fld_one Tryd.underlying134 rfl tyOk3 agg3 cs
theorem bz134 : buildV Tryd.prog 134 [] = some (.agg [.sc (.int .i64 0), .sc (.int .i64 0)]) := by simp [buildV, Tryd.underlying134, zero134, fillA, tyOk3, cells3, tyOk3, cells3]
theorem bds134 (v0 v1 : AV) (hv0 : v0.cells = [v0]) (hv1 : v1.cells = [v1]) : buildV Tryd.prog 134 [(0, v0), (1, v1)] = some (.agg [v0, v1]) := by simp [buildV, Tryd.underlying134, zero134, fillA, placeS, overA, tyOk3, cells3, tyOk3, cells3, hv0, hv1]
theorem apS56 (r len : Nat) (x : AV) (H : AHeap) : apV Tryd.prog (some (.slice 135)) (some (.slice 135)) (.sl r 0 len 2) x H = apR 2 16 H r len H[r]? (srcCells H x 2) := ap_slR zero135 rfl (by decide) info135 cells135 rfl r len x
theorem apN56 (x : AV) (H : AHeap) : apV Tryd.prog (some (.slice 135)) (some (.slice 135)) (.sc (.slice none 0 0)) x H = apRN 2 16 H (srcCells H x 2) := ap_nilR zero135 rfl (by decide) info135 cells135 rfl x
theorem bs135_1 (cs : List AV) (h : cs.length = 2) : bsV Tryd.prog (some (.slice 135)) 1 [(0, .agg cs)] = some (cs, fun r => .sl r 0 1 2) := bs_row 135 _ cs zero135 tyOk135 cells135 (by decide) (by decide) rfl h
theorem bs135_0 : bsV Tryd.prog (some (.slice 135)) 0 [] = some ([], fun r => .sl r 0 0 2) := bs_none 135 _ zero135 tyOk135 cells135 (by decide) rfl
theorem fadr135_0 (r off : Nat) : fadrT Tryd.prog 135 (.ptr r off) 0 = some (.ptr r (off + 0)) := fadr_st Tryd.underlying135 rfl tyOk3 (by rw [cells3]; decide) r off
theorem fld135_0 (cs : List AV) : fldT Tryd.prog 135 (.agg cs) 0 = cs[0]? := fld_one Tryd.underlying135 rfl tyOk3 agg3 cs
theorem fadr135_1 (r off : Nat) : fadrT Tryd.prog 135 (.ptr r off) 1 = some (.ptr r (off + 1)) := fadr_st Tryd.underlying135 rfl tyOk3 (by rw [cells3]; decide) r off
theorem fld135_1 (cs : List AV) : fldT Tryd.prog 135 (.agg cs) 1 = cs[1]? := fld_one Tryd.underlying135 rfl tyOk3 agg3 cs
theorem bz135 : buildV Tryd.prog 135 [] = some (.agg [.sc (.int .i64 0), .sc (.int .i64 0)]) := by simp [buildV, Tryd.underlying135, zero135, fillA, tyOk3, cells3, tyOk3, cells3]
theorem bds135 (v0 v1 : AV) (hv0 : v0.cells = [v0]) (hv1 : v1.cells = [v1]) : buildV Tryd.prog 135 [(0, v0), (1, v1)] = some (.agg [v0, v1]) := by simp [buildV, Tryd.underlying135, zero135, fillA, placeS, overA, tyOk3, cells3, tyOk3, cells3, hv0, hv1]
theorem apS48 (r len : Nat) (x : AV) (H : AHeap) : apV Tryd.prog (some (.slice 137)) (some (.slice 137)) (.sl r 0 len 2) x H = apR 2 16 H r len H[r]? (srcCells H x 2) := ap_slR zero137 rfl (by decide) info137 cells137 rfl r len x
theorem apN48 (x : AV) (H : AHeap) : apV Tryd.prog (some (.slice 137)) (some (.slice 137)) (.sc (.slice none 0 0)) x H = apRN 2 16 H (srcCells H x 2) := ap_nilR zero137 rfl (by decide) info137 cells137 rfl x
theorem bs137_1 (cs : List AV) (h : cs.length = 2) : bsV Tryd.prog (some (.slice 137)) 1 [(0, .agg cs)] = some (cs, fun r => .sl r 0 1 2) := bs_row 137 _ cs zero137 tyOk137 cells137 (by decide) (by decide) rfl h
theorem bs137_0 : bsV Tryd.prog (some (.slice 137)) 0 [] = some ([], fun r => .sl r 0 0 2) := bs_none 137 _ zero137 tyOk137 cells137 (by decide) rfl
theorem fadr137_0 (r off : Nat) : fadrT Tryd.prog 137 (.ptr r off) 0 = some (.ptr r (off + 0)) := fadr_st Tryd.underlying137 rfl tyOk3 (by rw [cells3]; decide) r off
theorem fld137_0 (cs : List AV) : fldT Tryd.prog 137 (.agg cs) 0 = cs[0]? := fld_one Tryd.underlying137 rfl tyOk3 agg3 cs
theorem fadr137_1 (r off : Nat) : fadrT Tryd.prog 137 (.ptr r off) 1 = some (.ptr r (off + 1)) := fadr_st Tryd.underlying137 rfl tyOk3 (by rw [cells3]; decide) r off
theorem fld137_1 (cs : List AV) : fldT Tryd.prog 137 (.agg cs) 1 = cs[1]? := fld_one Tryd.underlying137 rfl tyOk3 agg3 cs
theorem bz137 : buildV Tryd.prog 137 [] = some (.agg [.sc (.int .i64 0), .sc (.int .i64 0)]) := by simp [buildV, Tryd.underlying137, zero137, fillA, tyOk3, cells3, tyOk3, cells3]
theorem bds137 (v0 v1 : AV) (hv0 : v0.cells = [v0]) (hv1 : v1.cells = [v1]) : buildV Tryd.prog 137 [(0, v0), (1, v1)] = some (.agg [v0, v1]) := by simp [buildV, Tryd.underlying137, zero137, fillA, placeS, overA, tyOk3, cells3, tyOk3, cells3, hv0, hv1]
theorem fadr138_0 (r off : Nat) : fadrT Tryd.prog 138 (.ptr r off) 0 = some (.ptr r (off + 0)) := fadr_st Tryd.underlying138 rfl tyOk3 (by rw [cells3]; decide) r off
theorem fld138_0 (cs : List AV) : fldT Tryd.prog 138 (.agg cs) 0 = cs[0]? := fld_one Tryd.underlying138 rfl tyOk3 agg3 cs
theorem fadr138_1 (r off : Nat) : fadrT Tryd.prog 138 (.ptr r off) 1 = some (.ptr r (off + 1)) := fadr_st Tryd.underlying138 rfl tyOk3 (by rw [cells3]; decide) r off
theorem fld138_1 (cs : List AV) : fldT Tryd.prog 138 (.agg cs) 1 = cs[1]? := fld_one Tryd.underlying138 rfl tyOk3 agg3 cs
theorem fadr138_2 (r off : Nat) : fadrT Tryd.prog 138 (.ptr r off) 2 = some (.ptr r (off + 2)) := fadr_st Tryd.underlying138 rfl tyOk3 (by rw [cells3]; decide) r off
theorem fld138_2 (cs : List AV) : fldT Tryd.prog 138 (.agg cs) 2 = cs[2]? := fld_one Tryd.underlying138 rfl tyOk3 agg3 cs
theorem bz138 : buildV Tryd.prog 138 [] = some (.agg [.sc (.int .i64 0), .sc (.int .i64 0), .sc (.int .i64 0)]) := by simp [buildV, Tryd.underlying138, zero138, fillA, tyOk3, cells3, tyOk3, cells3, tyOk3, cells3]
theorem bds138 (v0 v1 v2 : AV) (hv0 : v0.cells = [v0]) (hv1 : v1.cells = [v1]) (hv2 : v2.cells = [v2]) : buildV Tryd.prog 138 [(0, v0), (1, v1), (2, v2)] = some (.agg [v0, v1, v2]) := by simp [buildV, Tryd.underlying138, zero138, fillA, placeS, overA, tyOk3, cells3, tyOk3, cells3, tyOk3, cells3, hv0, hv1, hv2]
theorem apS57 (r len : Nat) (x : AV) (H : AHeap) : apV Tryd.prog (some (.slice 139)) (some (.slice 139)) (.sl r 0 len 3) x H = apR 3 24 H r len H[r]? (srcCells H x 3) := ap_slR zero139 rfl (by decide) info139 cells139 rfl r len x
theorem apN57 (x : AV) (H : AHeap) : apV Tryd.prog (some (.slice 139)) (some (.slice 139)) (.sc (.slice none 0 0)) x H = apRN 3 24 H (srcCells H x 3) := ap_nilR zero139 rfl (by decide) info139 cells139 rfl x
theorem bs139_1 (cs : List AV) (h : cs.length = 3) : bsV Tryd.prog (some (.slice 139)) 1 [(0, .agg cs)] = some (cs, fun r => .sl r 0 1 3) := bs_row 139 _ cs zero139 tyOk139 cells139 (by decide) (by decide) rfl h
theorem bs139_0 : bsV Tryd.prog (some (.slice 139)) 0 [] = some ([], fun r => .sl r 0 0 3) := bs_none 139 _ zero139 tyOk139 cells139 (by decide) rfl
theorem fadr139_0 (r off : Nat) : fadrT Tryd.prog 139 (.ptr r off) 0 = some (.ptr r (off + 0)) := fadr_st Tryd.underlying139 rfl tyOk3 (by rw [cells3]; decide) r off
theorem fld139_0 (cs : List AV) : fldT Tryd.prog 139 (.agg cs) 0 = cs[0]? := fld_one Tryd.underlying139 rfl tyOk3 agg3 cs
theorem fadr139_1 (r off : Nat) : fadrT Tryd.prog 139 (.ptr r off) 1 = some (.ptr r (off + 1)) := fadr_st Tryd.underlying139 rfl tyOk3 (by rw [cells3]; decide) r off
theorem fld139_1 (cs : List AV) : fldT Tryd.prog 139 (.agg cs) 1 = cs[1]? := fld_one Tryd.underlying139 rfl tyOk3 agg3 cs
theorem fadr139_2 (r off : Nat) : fadrT Tryd.prog 139 (.ptr r off) 2 = some (.ptr r (off + 2)) := fadr_st Tryd.underlying139 rfl tyOk3 (by rw [cells3]; decide) r off
theorem fld139_2 (cs : List AV) : fldT Tryd.prog 139 (.agg cs) 2 = cs[2]? := fld_one Tryd.underlying139 rfl tyOk3 agg3 cs
theorem bz139 : buildV Tryd.prog 139 [] = some (.agg [.sc (.int .i64 0), .sc (.int .i64 0), .sc (.int .i64 0)]) := by simp [buildV, Tryd.underlying139, zero139, fillA, tyOk3, cells3, tyOk3, cells3, tyOk3, cells3]
theorem bds139 (v0 v1 v2 : AV) (hv0 : v0.cells = [v0]) (hv1 : v1.cells = [v1]) (hv2 : v2.cells = [v2]) : buildV Tryd.prog 139 [(0, v0), (1, v1), (2, v2)] = some (.agg [v0, v1, v2]) := by simp [buildV, Tryd.underlying139, zero139, fillA, placeS, overA, tyOk3, cells3, tyOk3, cells3, tyOk3, cells3, hv0, hv1, hv2]
theorem apS49 (r len : Nat) (x : AV) (H : AHeap) : apV Tryd.prog (some (.slice 141)) (some (.slice 141)) (.sl r 0 len 3) x H = apR 3 24 H r len H[r]? (srcCells H x 3) := ap_slR zero141 rfl (by decide) info141 cells141 rfl r len x
theorem apN49 (x : AV) (H : AHeap) : apV Tryd.prog (some (.slice 141)) (some (.slice 141)) (.sc (.slice none 0 0)) x H = apRN 3 24 H (srcCells H x 3) := ap_nilR zero141 rfl (by decide) info141 cells141 rfl x
theorem bs141_1 (cs : List AV) (h : cs.length = 3) : bsV Tryd.prog (some (.slice 141)) 1 [(0, .agg cs)] = some (cs, fun r => .sl r 0 1 3) := bs_row 141 _ cs zero141 tyOk141 cells141 (by decide) (by decide) rfl h
theorem bs141_0 : bsV Tryd.prog (some (.slice 141)) 0 [] = some ([], fun r => .sl r 0 0 3) := bs_none 141 _ zero141 tyOk141 cells141 (by decide) rfl
theorem fadr141_0 (r off : Nat) : fadrT Tryd.prog 141 (.ptr r off) 0 = some (.ptr r (off + 0)) := fadr_st Tryd.underlying141 rfl tyOk3 (by rw [cells3]; decide) r off
theorem fld141_0 (cs : List AV) : fldT Tryd.prog 141 (.agg cs) 0 = cs[0]? := fld_one Tryd.underlying141 rfl tyOk3 agg3 cs
theorem fadr141_1 (r off : Nat) : fadrT Tryd.prog 141 (.ptr r off) 1 = some (.ptr r (off + 1)) := fadr_st Tryd.underlying141 rfl tyOk3 (by rw [cells3]; decide) r off
theorem fld141_1 (cs : List AV) : fldT Tryd.prog 141 (.agg cs) 1 = cs[1]? := fld_one Tryd.underlying141 rfl tyOk3 agg3 cs
theorem fadr141_2 (r off : Nat) : fadrT Tryd.prog 141 (.ptr r off) 2 = some (.ptr r (off + 2)) := fadr_st Tryd.underlying141 rfl tyOk3 (by rw [cells3]; decide) r off
theorem fld141_2 (cs : List AV) : fldT Tryd.prog 141 (.agg cs) 2 = cs[2]? := fld_one Tryd.underlying141 rfl tyOk3 agg3 cs
theorem bz141 : buildV Tryd.prog 141 [] = some (.agg [.sc (.int .i64 0), .sc (.int .i64 0), .sc (.int .i64 0)]) := by simp [buildV, Tryd.underlying141, zero141, fillA, tyOk3, cells3, tyOk3, cells3, tyOk3, cells3]
theorem bds141 (v0 v1 v2 : AV) (hv0 : v0.cells = [v0]) (hv1 : v1.cells = [v1]) (hv2 : v2.cells = [v2]) : buildV Tryd.prog 141 [(0, v0), (1, v1), (2, v2)] = some (.agg [v0, v1, v2]) := by simp [buildV, Tryd.underlying141, zero141, fillA, placeS, overA, tyOk3, cells3, tyOk3, cells3, tyOk3, cells3, hv0, hv1, hv2]
theorem fadr143_0 (r off : Nat) : fadrT Tryd.prog 143 (.ptr r off) 0 = some (.ptr r (off + 0)) := fadr_st Tryd.underlying143 rfl tyOk3 (by rw [cells3]; decide) r off
theorem fld143_0 (cs : List AV) : fldT Tryd.prog 143 (.agg cs) 0 = cs[0]? := fld_one Tryd.underlying143 rfl tyOk3 agg3 cs
theorem fadr143_1 (r off : Nat) : fadrT Tryd.prog 143 (.ptr r off) 1 = some (.ptr r (off + 1)) := fadr_st Tryd.underlying143 rfl tyOk3 (by rw [cells3]; decide) r off
theorem fld143_1 (cs : List AV) : fldT Tryd.prog 143 (.agg cs) 1 = cs[1]? := fld_one Tryd.underlying143 rfl tyOk3 agg3 cs
theorem fadr143_2 (r off : Nat) : fadrT Tryd.prog 143 (.ptr r off) 2 = some (.ptr r (off + 2)) := fadr_st Tryd.underlying143 rfl tyOk3 (by rw [cells3]; decide) r off
theorem fld143_2 (cs : List AV) : fldT Tryd.prog 143 (.agg cs) 2 = cs[2]? := fld_one Tryd.underlying143 rfl tyOk3 agg3 cs
theorem fadr143_3 (r off : Nat) : fadrT Tryd.prog 143 (.ptr r off) 3 = some (.ptr r (off + 3)) := fadr_st Tryd.underlying143 rfl tyOk3 (by rw [cells3]; decide) r off
theorem fld143_3 (cs : List AV) : fldT Tryd.prog 143 (.agg cs) 3 = cs[3]? := fld_one Tryd.underlying143 rfl tyOk3 agg3 cs
theorem bz143 : buildV Tryd.prog 143 [] = some (.agg [.sc (.int .i64 0), .sc (.int .i64 0), .sc (.int .i64 0), .sc (.int .i64 0)]) := by simp [buildV, Tryd.underlying143, zero143, fillA, tyOk3, cells3, tyOk3, cells3, tyOk3, cells3, tyOk3, cells3]
theorem bds143 (v0 v1 v2 v3 : AV) (hv0 : v0.cells = [v0]) (hv1 : v1.cells = [v1]) (hv2 : v2.cells = [v2]) (hv3 : v3.cells = [v3]) : buildV Tryd.prog 143 [(0, v0), (1, v1), (2, v2), (3, v3)] = some (.agg [v0, v1, v2, v3]) := by simp [buildV, Tryd.underlying143, zero143, fillA, placeS, overA, tyOk3, cells3, tyOk3, cells3, tyOk3, cells3, tyOk3, cells3, hv0, hv1, hv2, hv3]
theorem fadr144_0 (r off : Nat) : fadrT Tryd.prog 144 (.ptr r off) 0 = some (.ptr r (off + 0)) := fadr_st Tryd.underlying144 rfl tyOk3 (by rw [cells3]; decide) r off
theorem fld144_0 (cs : List AV) : fldT Tryd.prog 144 (.agg cs) 0 = cs[0]? := fld_one Tryd.underlying144 rfl tyOk3 agg3 cs
theorem fadr144_1 (r off : Nat) : fadrT Tryd.prog 144 (.ptr r off) 1 = some (.ptr r (off + 1)) := fadr_st Tryd.underlying144 rfl tyOk143 (by rw [cells143]; decide) r off
theorem apS50 (r len : Nat) (x : AV) (H : AHeap) : apV Tryd.prog (some (.slice 145)) (some (.slice 145)) (.sl r 0 len 5) x H = apR 5 40 H r len H[r]? (srcCells H x 5) := ap_slR zero145 rfl (by decide) info145 cells145 rfl r len x
theorem apN50 (x : AV) (H : AHeap) : apV Tryd.prog (some (.slice 145)) (some (.slice 145)) (.sc (.slice none 0 0)) x H = apRN 5 40 H (srcCells H x 5) := ap_nilR zero145 rfl (by decide) info145 cells145 rfl x
theorem bs145_1 (cs : List AV) (h : cs.length = 5) : bsV Tryd.prog (some (.slice 145)) 1 [(0, .agg cs)] = some (cs, fun r => .sl r 0 1 5) := bs_row 145 _ cs zero145 tyOk145 cells145 (by decide) (by decide) rfl h
theorem bs145_0 : bsV Tryd.prog (some (.slice 145)) 0 [] = some ([], fun r => .sl r 0 0 5) := bs_none 145 _ zero145 tyOk145 cells145 (by decide) rfl
theorem fadr145_0 (r off : Nat) : fadrT Tryd.prog 145 (.ptr r off) 0 = some (.ptr r (off + 0)) := fadr_st Tryd.underlying145 rfl tyOk3 (by rw [cells3]; decide) r off
theorem fld145_0 (cs : List AV) : fldT Tryd.prog 145 (.agg cs) 0 = cs[0]? := fld_one Tryd.underlying145 rfl tyOk3 agg3 cs
theorem fadr145_1 (r off : Nat) : fadrT Tryd.prog 145 (.ptr r off) 1 = some (.ptr r (off + 1)) := fadr_st Tryd.underlying145 rfl tyOk143 (by rw [cells143]; decide) r off
theorem fadr150_0 (r off : Nat) : fadrT Tryd.prog 150 (.ptr r off) 0 = some (.ptr r (off + 0)) := fadr_st Tryd.underlying150 rfl tyOk3 (by rw [cells3]; decide) r off
theorem fld150_0 (cs : List AV) : fldT Tryd.prog 150 (.agg cs) 0 = cs[0]? := fld_one Tryd.underlying150 rfl tyOk3 agg3 cs
theorem fadr150_1 (r off : Nat) : fadrT Tryd.prog 150 (.ptr r off) 1 = some (.ptr r (off + 1)) := fadr_st Tryd.underlying150 rfl tyOk3 (by rw [cells3]; decide) r off
theorem fld150_1 (cs : List AV) : fldT Tryd.prog 150 (.agg cs) 1 = cs[1]? := fld_one Tryd.underlying150 rfl tyOk3 agg3 cs
theorem fadr150_2 (r off : Nat) : fadrT Tryd.prog 150 (.ptr r off) 2 = some (.ptr r (off + 2)) := fadr_st Tryd.underlying150 rfl tyOk3 (by rw [cells3]; decide) r off
theorem fld150_2 (cs : List AV) : fldT Tryd.prog 150 (.agg cs) 2 = cs[2]? := fld_one Tryd.underlying150 rfl tyOk3 agg3 cs
theorem bz150 : buildV Tryd.prog 150 [] = some (.agg [.sc (.int .i64 0), .sc (.int .i64 0), .sc (.int .i64 0)]) := by simp [buildV, Tryd.underlying150, zero150, fillA, tyOk3, cells3, tyOk3, cells3, tyOk3, cells3]
theorem bds150 (v0 v1 v2 : AV) (hv0 : v0.cells = [v0]) (hv1 : v1.cells = [v1]) (hv2 : v2.cells = [v2]) : buildV Tryd.prog 150 [(0, v0), (1, v1), (2, v2)] = some (.agg [v0, v1, v2]) := by simp [buildV, Tryd.underlying150, zero150, fillA, placeS, overA, tyOk3, cells3, tyOk3, cells3, tyOk3, cells3, hv0, hv1, hv2]
theorem apS73 (r len : Nat) (x : AV) (H : AHeap) : apV Tryd.prog (some (.slice 151)) (some (.slice 151)) (.sl r 0 len 3) x H = apR 3 24 H r len H[r]? (srcCells H x 3) := ap_slR zero151 rfl (by decide) info151 cells151 rfl r len x
theorem apN73 (x : AV) (H : AHeap) : apV Tryd.prog (some (.slice 151)) (some (.slice 151)) (.sc (.slice none 0 0)) x H = apRN 3 24 H (srcCells H x 3) := ap_nilR zero151 rfl (by decide) info151 cells151 rfl x
theorem bs151_1 (cs : List AV) (h : cs.length = 3) : bsV Tryd.prog (some (.slice 151)) 1 [(0, .agg cs)] = some (cs, fun r => .sl r 0 1 3) := bs_row 151 _ cs zero151 tyOk151 cells151 (by decide) (by decide) rfl h
theorem bs151_0 : bsV Tryd.prog (some (.slice 151)) 0 [] = some ([], fun r => .sl r 0 0 3) := bs_none 151 _ zero151 tyOk151 cells151 (by decide) rfl
theorem fadr151_0 (r off : Nat) : fadrT Tryd.prog 151 (.ptr r off) 0 = some (.ptr r (off + 0)) := fadr_st Tryd.underlying151 rfl tyOk3 (by rw [cells3]; decide) r off
theorem fld151_0 (cs : List AV) : fldT Tryd.prog 151 (.agg cs) 0 = cs[0]? := fld_one Tryd.underlying151 rfl tyOk3 agg3 cs
theorem fadr151_1 (r off : Nat) : fadrT Tryd.prog 151 (.ptr r off) 1 = some (.ptr r (off + 1)) := fadr_st Tryd.underlying151 rfl tyOk3 (by rw [cells3]; decide) r off
theorem fld151_1 (cs : List AV) : fldT Tryd.prog 151 (.agg cs) 1 = cs[1]? := fld_one Tryd.underlying151 rfl tyOk3 agg3 cs
theorem fadr151_2 (r off : Nat) : fadrT Tryd.prog 151 (.ptr r off) 2 = some (.ptr r (off + 2)) := fadr_st Tryd.underlying151 rfl tyOk3 (by rw [cells3]; decide) r off
theorem fld151_2 (cs : List AV) : fldT Tryd.prog 151 (.agg cs) 2 = cs[2]? := fld_one Tryd.underlying151 rfl tyOk3 agg3 cs
theorem bz151 : buildV Tryd.prog 151 [] = some (.agg [.sc (.int .i64 0), .sc (.int .i64 0), .sc (.int .i64 0)]) := by simp [buildV, Tryd.underlying151, zero151, fillA, tyOk3, cells3, tyOk3, cells3, tyOk3, cells3]
theorem bds151 (v0 v1 v2 : AV) (hv0 : v0.cells = [v0]) (hv1 : v1.cells = [v1]) (hv2 : v2.cells = [v2]) : buildV Tryd.prog 151 [(0, v0), (1, v1), (2, v2)] = some (.agg [v0, v1, v2]) := by simp [buildV, Tryd.underlying151, zero151, fillA, placeS, overA, tyOk3, cells3, tyOk3, cells3, tyOk3, cells3, hv0, hv1, hv2]
theorem apS66 (r len : Nat) (x : AV) (H : AHeap) : apV Tryd.prog (some (.slice 153)) (some (.slice 153)) (.sl r 0 len 3) x H = apR 3 24 H r len H[r]? (srcCells H x 3) := ap_slR zero153 rfl (by decide) info153 cells153 rfl r len x
theorem apN66 (x : AV) (H : AHeap) : apV Tryd.prog (some (.slice 153)) (some (.slice 153)) (.sc (.slice none 0 0)) x H = apRN 3 24 H (srcCells H x 3) := ap_nilR zero153 rfl (by decide) info153 cells153 rfl x
theorem bs153_1 (cs : List AV) (h : cs.length = 3) : bsV Tryd.prog (some (.slice 153)) 1 [(0, .agg cs)] = some (cs, fun r => .sl r 0 1 3) := bs_row 153 _ cs zero153 tyOk153 cells153 (by decide) (by decide) rfl h
theorem bs153_0 : bsV Tryd.prog (some (.slice 153)) 0 [] = some ([], fun r => .sl r 0 0 3) := bs_none 153 _ zero153 tyOk153 cells153 (by decide) rfl
theorem fadr153_0 (r off : Nat) : fadrT Tryd.prog 153 (.ptr r off) 0 = some (.ptr r (off + 0)) := fadr_st Tryd.underlying153 rfl tyOk3 (by rw [cells3]; decide) r off
theorem fld153_0 (cs : List AV) : fldT Tryd.prog 153 (.agg cs) 0 = cs[0]? := fld_one Tryd.underlying153 rfl tyOk3 agg3 cs
theorem fadr153_1 (r off : Nat) : fadrT Tryd.prog 153 (.ptr r off) 1 = some (.ptr r (off + 1)) := fadr_st Tryd.underlying153 rfl tyOk3 (by rw [cells3]; decide) r off
theorem fld153_1 (cs : List AV) : fldT Tryd.prog 153 (.agg cs) 1 = cs[1]? := fld_one Tryd.underlying153 rfl tyOk3 agg3 cs
theorem fadr153_2 (r off : Nat) : fadrT Tryd.prog 153 (.ptr r off) 2 = some (.ptr r (off + 2)) := fadr_st Tryd.underlying153 rfl tyOk3 (by rw [cells3]; decide) r off
theorem fld153_2 (cs : List AV) : fldT Tryd.prog 153 (.agg cs) 2 = cs[2]? := fld_one Tryd.underlying153 rfl tyOk3 agg3 cs
theorem bz153 : buildV Tryd.prog 153 [] = some (.agg [.sc (.int .i64 0), .sc (.int .i64 0), .sc (.int .i64 0)]) := by simp [buildV, Tryd.underlying153, zero153, fillA, tyOk3, cells3, tyOk3, cells3, tyOk3, cells3]
theorem bds153 (v0 v1 v2 : AV) (hv0 : v0.cells = [v0]) (hv1 : v1.cells = [v1]) (hv2 : v2.cells = [v2]) : buildV Tryd.prog 153 [(0, v0), (1, v1), (2, v2)] = some (.agg [v0, v1, v2]) := by simp [buildV, Tryd.underlying153, zero153, fillA, placeS, overA, tyOk3, cells3, tyOk3, cells3, tyOk3, cells3, hv0, hv1, hv2]
theorem fadr154_0 (r off : Nat) : fadrT Tryd.prog 154 (.ptr r off) 0 = some (.ptr r (off + 0)) := fadr_st Tryd.underlying154 rfl tyOk3 (by rw [cells3]; decide) r off
theorem fld154_0 (cs : List AV) : fldT Tryd.prog 154 (.agg cs) 0 = cs[0]? := fld_one Tryd.underlying154 rfl tyOk3 agg3 cs
theorem fadr154_1 (r off : Nat) : fadrT Tryd.prog 154 (.ptr r off) 1 = some (.ptr r (off + 1)) := fadr_st Tryd.underlying154 rfl tyOk3 (by rw [cells3]; decide) r off
theorem fld154_1 (cs : List AV) : fldT Tryd.prog 154 (.agg cs) 1 = cs[1]? := fld_one Tryd.underlying154 rfl tyOk3 agg3 cs
theorem fadr154_2 (r off : Nat) : fadrT Tryd.prog 154 (.ptr r off) 2 = some (.ptr r (off + 2)) := fadr_st Tryd.underlying154 rfl tyOk3 (by rw [cells3]; decide) r off
theorem fld154_2 (cs : List AV) : fldT Tryd.prog 154 (.agg cs) 2 = cs[2]? := fld_one Tryd.underlying154 rfl tyOk3 agg3 cs
theorem fadr154_3 (r off : Nat) : fadrT Tryd.prog 154 (.ptr r off) 3 = some (.ptr r (off + 3)) := fadr_st Tryd.underlying154 rfl tyOk3 (by rw [cells3]; decide) r off
theorem fld154_3 (cs : List AV) : fldT Tryd.prog 154 (.agg cs) 3 = cs[3]? := fld_one Tryd.underlying154 rfl tyOk3 agg3 cs
theorem fadr154_4 (r off : Nat) : fadrT Tryd.prog 154 (.ptr r off) 4 = some (.ptr r (off + 4)) := fadr_st Tryd.underlying154 rfl tyOk3 (by rw [cells3]; decide) r off
theorem fld154_4 (cs : List AV) : fldT Tryd.prog 154 (.agg cs) 4 = cs[4]? := fld_one Tryd.underlying154 rfl tyOk3 agg3 cs
theorem fadr154_5 (r off : Nat) : fadrT Tryd.prog 154 (.ptr r off) 5 = some (.ptr r (off + 5)) := fadr_st Tryd.underlying154 rfl tyOk3 (by rw [cells3]; decide) r off
theorem fld154_5 (cs : List AV) : fldT Tryd.prog 154 (.agg cs) 5 = cs[5]? := fld_one Tryd.underlying154 rfl tyOk3 agg3 cs
theorem fadr154_6 (r off : Nat) : fadrT Tryd.prog 154 (.ptr r off) 6 = some (.ptr r (off + 6)) := fadr_st Tryd.underlying154 rfl tyOk4 (by rw [cells4]; decide) r off
theorem fld154_6 (cs : List AV) : fldT Tryd.prog 154 (.agg cs) 6 = cs[6]? := fld_one Tryd.underlying154 rfl tyOk4 agg4 cs
theorem bz154 : buildV Tryd.prog 154 [] = some (.agg [.sc (.int .i64 0), .sc (.int .i64 0), .sc (.int .i64 0), .sc (.int .i64 0), .sc (.int .i64 0), .sc (.int .i64 0), .sc (.bool false)]) := by simp [buildV, Tryd.underlying154, zero154, fillA, tyOk3, cells3, tyOk3, cells3, tyOk3, cells3, tyOk3, cells3, tyOk3, cells3, tyOk3, cells3, tyOk4, cells4]
theorem bds154 (v0 v1 v2 v3 v4 v5 v6 : AV) (hv0 : v0.cells = [v0]) (hv1 : v1.cells = [v1]) (hv2 : v2.cells = [v2]) (hv3 : v3.cells = [v3]) (hv4 : v4.cells = [v4]) (hv5 : v5.cells = [v5]) (hv6 : v6.cells = [v6]) : buildV Tryd.prog 154 [(0, v0), (1, v1), (2, v2), (3, v3), (4, v4), (5, v5), (6, v6)] = some (.agg [v0, v1, v2, v3, v4, v5, v6]) := by simp [buildV, Tryd.underlying154, zero154, fillA, placeS, overA, tyOk3, cells3, tyOk3, cells3, tyOk3, cells3, tyOk3, cells3, tyOk3, cells3, tyOk3, cells3, tyOk4, cells4, hv0, hv1, hv2, hv3, hv4, hv5, hv6]
theorem apS74 (r len : Nat) (x : AV) (H : AHeap) : apV Tryd.prog (some (.slice 155)) (some (.slice 155)) (.sl r 0 len 7) x H = apR 7 56 H r len H[r]? (srcCells H x 7) := ap_slR zero155 rfl (by decide) info155 cells155 rfl r len x
theorem apN74 (x : AV) (H : AHeap) : apV Tryd.prog (some (.slice 155)) (some (.slice 155)) (.sc (.slice none 0 0)) x H = apRN 7 56 H (srcCells H x 7) := ap_nilR zero155 rfl (by decide) info155 cells155 rfl x
theorem bs155_1 (cs : List AV) (h : cs.length = 7) : bsV Tryd.prog (some (.slice 155)) 1 [(0, .agg cs)] = some (cs, fun r => .sl r 0 1 7) := bs_row 155 _ cs zero155 tyOk155 cells155 (by decide) (by decide) rfl h
theorem bs155_0 : bsV Tryd.prog (some (.slice 155)) 0 [] = some ([], fun r => .sl r 0 0 7) := bs_none 155 _ zero155 tyOk155 cells155 (by decide) rfl
theorem fadr155_0 (r off : Nat) : fadrT Tryd.prog 155 (.ptr r off) 0 = some (.ptr r (off + 0)) := fadr_st Tryd.underlying155 rfl tyOk3 (by rw [cells3]; decide) r off
theorem fld155_0 (cs : List AV) : fldT Tryd.prog 155 (.agg cs) 0 = cs[0]? := fld_one Tryd.underlying155 rfl tyOk3 agg3 cs
theorem fadr155_1 (r off : Nat) : fadrT Tryd.prog 155 (.ptr r off) 1 = some (.ptr r (off + 1)) := fadr_st Tryd.underlying155 rfl tyOk3 (by rw [cells3]; decide) r off
theorem fld155_1 (cs : List AV) : fldT Tryd.prog 155 (.agg cs) 1 = cs[1]? := fld_one Tryd.underlying155 rfl tyOk3 agg3 cs
theorem fadr155_2 (r off : Nat) : fadrT Tryd.prog 155 (.ptr r off) 2 = some (.ptr r (off + 2)) := fadr_st Tryd.underlying155 rfl tyOk3 (by rw [cells3]; decide) r off
theorem fld155_2 (cs : List AV) : fldT Tryd.prog 155 (.agg cs) 2 = cs[2]? := fld_one Tryd.underlying155 rfl tyOk3 agg3 cs
theorem fadr155_3 (r off : Nat) : fadrT Tryd.prog 155 (.ptr r off) 3 = some (.ptr r (off + 3)) := fadr_st Tryd.underlying155 rfl tyOk3 (by rw [cells3]; decide) r off
theorem fld155_3 (cs : List AV) : fldT Tryd.prog 155 (.agg cs) 3 = cs[3]? := fld_one Tryd.underlying155 rfl tyOk3 agg3 cs
theorem fadr155_4 (r off : Nat) : fadrT Tryd.prog 155 (.ptr r off) 4 = some (.ptr r (off + 4)) := fadr_st Tryd.underlying155 rfl tyOk3 (by rw [cells3]; decide) r off
theorem fld155_4 (cs : List AV) : fldT Tryd.prog 155 (.agg cs) 4 = cs[4]? := fld_one Tryd.underlying155 rfl tyOk3 agg3 cs
theorem fadr155_5 (r off : Nat) : fadrT Tryd.prog 155 (.ptr r off) 5 = some (.ptr r (off + 5)) := fadr_st Tryd.underlying155 rfl tyOk3 (by rw [cells3]; decide) r off
theorem fld155_5 (cs : List AV) : fldT Tryd.prog 155 (.agg cs) 5 = cs[5]? := fld_one Tryd.underlying155 rfl tyOk3 agg3 cs
theorem fadr155_6 (r off : Nat) : fadrT Tryd.prog 155 (.ptr r off) 6 = some (.ptr r (off + 6)) := fadr_st Tryd.underlying155 rfl tyOk4 (by rw [cells4]; decide) r off
theorem fld155_6 (cs : List AV) : fldT Tryd.prog 155 (.agg cs) 6 = cs[6]? := fld_one Tryd.underlying155 rfl tyOk4 agg4 cs
theorem bz155 : buildV Tryd.prog 155 [] = some (.agg [.sc (.int .i64 0), .sc (.int .i64 0), .sc (.int .i64 0), .sc (.int .i64 0), .sc (.int .i64 0), .sc (.int .i64 0), .sc (.bool false)]) := by simp [buildV, Tryd.underlying155, zero155, fillA, tyOk3, cells3, tyOk3, cells3, tyOk3, cells3, tyOk3, cells3, tyOk3, cells3, tyOk3, cells3, tyOk4, cells4]
theorem bds155 (v0 v1 v2 v3 v4 v5 v6 : AV) (hv0 : v0.cells = [v0]) (hv1 : v1.cells = [v1]) (hv2 : v2.cells = [v2]) (hv3 : v3.cells = [v3]) (hv4 : v4.cells = [v4]) (hv5 : v5.cells = [v5]) (hv6 : v6.cells = [v6]) : buildV Tryd.prog 155 [(0, v0), (1, v1), (2, v2), (3, v3), (4, v4), (5, v5), (6, v6)] = some (.agg [v0, v1, v2, v3, v4, v5, v6]) := by simp [buildV, Tryd.underlying155, zero155, fillA, placeS, overA, tyOk3, cells3, tyOk3, cells3, tyOk3, cells3, tyOk3, cells3, tyOk3, cells3, tyOk3, cells3, tyOk4, cells4, hv0, hv1, hv2, hv3, hv4, hv5, hv6]
theorem apS67 (r len : Nat) (x : AV) (H : AHeap) : apV Tryd.prog (some (.slice 157)) (some (.slice 157)) (.sl r 0 len 7) x H = apR 7 56 H r len H[r]? (srcCells H x 7) := ap_slR zero157 rfl (by decide) info157 cells157 rfl r len x
theorem apN67 (x : AV) (H : AHeap) : apV Tryd.prog (some (.slice 157)) (some (.slice 157)) (.sc (.slice none 0 0)) x H = apRN 7 56 H (srcCells H x 7) := ap_nilR zero157 rfl (by decide) info157 cells157 rfl x
theorem bs157_1 (cs : List AV) (h : cs.length = 7) : bsV Tryd.prog (some (.slice 157)) 1 [(0, .agg cs)] = some (cs, fun r => .sl r 0 1 7) := bs_row 157 _ cs zero157 tyOk157 cells157 (by decide) (by decide) rfl h
theorem bs157_0 : bsV Tryd.prog (some (.slice 157)) 0 [] = some ([], fun r => .sl r 0 0 7) := bs_none 157 _ zero157 tyOk157 cells157 (by decide) rfl
theorem fadr157_0 (r off : Nat) : fadrT Tryd.prog 157 (.ptr r off) 0 = some (.ptr r (off + 0)) := fadr_st Tryd.underlying157 rfl tyOk3 (by rw [cells3]; decide) r off
theorem fld157_0 (cs : List AV) : fldT Tryd.prog 157 (.agg cs) 0 = cs[0]? := fld_one Tryd.underlying157 rfl tyOk3 agg3 cs
theorem fadr157_1 (r off : Nat) : fadrT Tryd.prog 157 (.ptr r off) 1 = some (.ptr r (off + 1)) := fadr_st Tryd.underlying157 rfl tyOk3 (by rw [cells3]; decide) r off
theorem fld157_1 (cs : List AV) : fldT Tryd.prog 157 (.agg cs) 1 = cs[1]? := fld_one Tryd.underlying157 rfl tyOk3 agg3 cs
theorem fadr157_2 (r off : Nat) : fadrT Tryd.prog 157 (.ptr r off) 2 = some (.ptr r (off + 2)) := fadr_st Tryd.underlying157 rfl tyOk3 (by rw [cells3]; decide) r off
theorem fld157_2 (cs : List AV) : fldT Tryd.prog 157 (.agg cs) 2 = cs[2]? := fld_one Tryd.underlying157 rfl tyOk3 agg3 cs
theorem fadr157_3 (r off : Nat) : fadrT Tryd.prog 157 (.ptr r off) 3 = some (.ptr r (off + 3)) := fadr_st Tryd.underlying157 rfl tyOk3 (by rw [cells3]; decide) r off
theorem fld157_3 (cs : List AV) : fldT Tryd.prog 157 (.agg cs) 3 = cs[3]? := fld_one Tryd.underlying157 rfl tyOk3 agg3 cs
theorem fadr157_4 (r off : Nat) : fadrT Tryd.prog 157 (.ptr r off) 4 = some (.ptr r (off + 4)) := fadr_st Tryd.underlying157 rfl tyOk3 (by rw [cells3]; decide) r off
theorem fld157_4 (cs : List AV) : fldT Tryd.prog 157 (.agg cs) 4 = cs[4]? := fld_one Tryd.underlying157 rfl tyOk3 agg3 cs
theorem fadr157_5 (r off : Nat) : fadrT Tryd.prog 157 (.ptr r off) 5 = some (.ptr r (off + 5)) := fadr_st Tryd.underlying157 rfl tyOk3 (by rw [cells3]; decide) r off
theorem fld157_5 (cs : List AV) : fldT Tryd.prog 157 (.agg cs) 5 = cs[5]? := fld_one Tryd.underlying157 rfl tyOk3 agg3 cs
theorem fadr157_6 (r off : Nat) : fadrT Tryd.prog 157 (.ptr r off) 6 = some (.ptr r (off + 6)) := fadr_st Tryd.underlying157 rfl tyOk4 (by rw [cells4]; decide) r off
theorem fld157_6 (cs : List AV) : fldT Tryd.prog 157 (.agg cs) 6 = cs[6]? := fld_one Tryd.underlying157 rfl tyOk4 agg4 cs
theorem bz157 : buildV Tryd.prog 157 [] = some (.agg [.sc (.int .i64 0), .sc (.int .i64 0), .sc (.int .i64 0), .sc (.int .i64 0), .sc (.int .i64 0), .sc (.int .i64 0), .sc (.bool false)]) := by simp [buildV, Tryd.underlying157, zero157, fillA, tyOk3, cells3, tyOk3, cells3, tyOk3, cells3, tyOk3, cells3, tyOk3, cells3, tyOk3, cells3, tyOk4, cells4]
theorem bds157 (v0 v1 v2 v3 v4 v5 v6 : AV) (hv0 : v0.cells = [v0]) (hv1 : v1.cells = [v1]) (hv2 : v2.cells = [v2]) (hv3 : v3.cells = [v3]) (hv4 : v4.cells = [v4]) (hv5 : v5.cells = [v5]) (hv6 : v6.cells = [v6]) : buildV Tryd.prog 157 [(0, v0), (1, v1), (2, v2), (3, v3), (4, v4), (5, v5), (6, v6)] = some (.agg [v0, v1, v2, v3, v4, v5, v6]) := by simp [buildV, Tryd.underlying157, zero157, fillA, placeS, overA, tyOk3, cells3, tyOk3, cells3, tyOk3, cells3, tyOk3, cells3, tyOk3, cells3, tyOk3, cells3, tyOk4, cells4, hv0, hv1, hv2, hv3, hv4, hv5, hv6]
theorem ix166 (l : List Int) (j : IntKind) (i : Int) (h : l.length = 24) : idxV Tryd.prog (some (.array 24 5)) (.agg (ints .u8 l)) (.sc (.int j i)) = if 0 ≤ i ∧ i < 24 then some (.sc (.int .u8 (l.getD i.toNat 0))) else none := idx_arr 5 24 .u8 l j i agg5 cells5 tyOk5 h
theorem bz166 : buildV Tryd.prog 166 [] = some (.agg (ints .u8 (List.replicate 24 0))) := bd_ints .u8 166 5 24 [] Tryd.underlying166 zero166 tyOk5 cells5 (by simp)
theorem ix174 (l : List Int) (j : IntKind) (i : Int) (h : l.length = 20) : idxV Tryd.prog (some (.array 20 167)) (.agg (ints .u64 l)) (.sc (.int j i)) = if 0 ≤ i ∧ i < 20 then some (.sc (.int .u64 (l.getD i.toNat 0))) else none := idx_arr 167 20 .u64 l j i agg167 cells167 tyOk167 h
theorem bz174 : buildV Tryd.prog 174 [] = some (.agg (ints .u64 (List.replicate 20 0))) := bd_ints .u64 174 167 20 [] Tryd.underlying174 zero174 tyOk167 cells167 (by simp)
theorem ix176 (l : List Int) (j : IntKind) (i : Int) (h : l.length = 65) : idxV Tryd.prog (some (.array 65 5)) (.agg (ints .u8 l)) (.sc (.int j i)) = if 0 ≤ i ∧ i < 65 then some (.sc (.int .u8 (l.getD i.toNat 0))) else none := idx_arr 5 65 .u8 l j i agg5 cells5 tyOk5 h
theorem bz176 : buildV Tryd.prog 176 [] = some (.agg (ints .u8 (List.replicate 65 0))) := bd_ints .u8 176 5 65 [] Tryd.underlying176 zero176 tyOk5 cells5 (by simp)
theorem ix180 (l : List Int) (j : IntKind) (i : Int) (h : l.length = 32) : idxV Tryd.prog (some (.array 32 5)) (.agg (ints .u8 l)) (.sc (.int j i)) = if 0 ≤ i ∧ i < 32 then some (.sc (.int .u8 (l.getD i.toNat 0))) else none := idx_arr 5 32 .u8 l j i agg5 cells5 tyOk5 h
theorem bz180 : buildV Tryd.prog 180 [] = some (.agg (ints .u8 (List.replicate 32 0))) := bd_ints .u8 180 5 32 [] Tryd.underlying180 zero180 tyOk5 cells5 (by simp)
theorem ix181 (l : List Int) (j : IntKind) (i : Int) (h : l.length = 64) : idxV Tryd.prog (some (.array 64 5)) (.agg (ints .u8 l)) (.sc (.int j i)) = if 0 ≤ i ∧ i < 64 then some (.sc (.int .u8 (l.getD i.toNat 0))) else none := idx_arr 5 64 .u8 l j i agg5 cells5 tyOk5 h
theorem bz181 : buildV Tryd.prog 181 [] = some (.agg (ints .u8 (List.replicate 64 0))) := bd_ints .u8 181 5 64 [] Tryd.underlying181 zero181 tyOk5 cells5 (by simp)
theorem fadr183_0 (r off : Nat) : fadrT Tryd.prog 183 (.ptr r off) 0 = some (.ptr r (off + 0)) := fadr_st Tryd.underlying183 rfl tyOk17 (by rw [cells17]; decide) r off
theorem fld183_0 (cs : List AV) : fldT Tryd.prog 183 (.agg cs) 0 = cs[0]? := fld_one Tryd.underlying183 rfl tyOk17 agg17 cs
theorem fadr183_1 (r off : Nat) : fadrT Tryd.prog 183 (.ptr r off) 1 = some (.ptr r (off + 1)) := fadr_st Tryd.underlying183 rfl tyOk17 (by rw [cells17]; decide) r off
theorem fld183_1 (cs : List AV) : fldT Tryd.prog 183 (.agg cs) 1 = cs[1]? := fld_one Tryd.underlying183 rfl tyOk17 agg17 cs
theorem fadr183_2 (r off : Nat) : fadrT Tryd.prog 183 (.ptr r off) 2 = some (.ptr r (off + 2)) := fadr_st Tryd.underlying183 rfl tyOk17 (by rw [cells17]; decide) r off
theorem fld183_2 (cs : List AV) : fldT Tryd.prog 183 (.agg cs) 2 = cs[2]? := fld_one Tryd.underlying183 rfl tyOk17 agg17 cs
theorem fadr183_3 (r off : Nat) : fadrT Tryd.prog 183 (.ptr r off) 3 = some (.ptr r (off + 3)) := fadr_st Tryd.underlying183 rfl tyOk9 (by rw [cells9]; decide) r off
theorem fld183_3 (cs : List AV) : fldT Tryd.prog 183 (.agg cs) 3 = cs[3]? := fld_one Tryd.underlying183 rfl tyOk9 agg9 cs
theorem bz183 : buildV Tryd.prog 183 [] = some (.agg [.sc (.pointer none), .sc (.pointer none), .sc (.pointer none), .sc (.string ByteArray.empty)]) := by simp [buildV, Tryd.underlying183, zero183, fillA, tyOk17, cells17, tyOk17, cells17, tyOk17, cells17, tyOk9, cells9]
theorem bds183 (v0 v1 v2 v3 : AV) (hv0 : v0.cells = [v0]) (hv1 : v1.cells = [v1]) (hv2 : v2.cells = [v2]) (hv3 : v3.cells = [v3]) : buildV Tryd.prog 183 [(0, v0), (1, v1), (2, v2), (3, v3)] = some (.agg [v0, v1, v2, v3]) := by simp [buildV, Tryd.underlying183, zero183, fillA, placeS, overA, tyOk17, cells17, tyOk17, cells17, tyOk17, cells17, tyOk9, cells9, hv0, hv1, hv2, hv3]
theorem fadr184_0 (r off : Nat) : fadrT Tryd.prog 184 (.ptr r off) 0 = some (.ptr r (off + 0)) := fadr_st Tryd.underlying184 rfl tyOk17 (by rw [cells17]; decide) r off
theorem fld184_0 (cs : List AV) : fldT Tryd.prog 184 (.agg cs) 0 = cs[0]? := fld_one Tryd.underlying184 rfl tyOk17 agg17 cs
theorem fadr184_1 (r off : Nat) : fadrT Tryd.prog 184 (.ptr r off) 1 = some (.ptr r (off + 1)) := fadr_st Tryd.underlying184 rfl tyOk17 (by rw [cells17]; decide) r off
theorem fld184_1 (cs : List AV) : fldT Tryd.prog 184 (.agg cs) 1 = cs[1]? := fld_one Tryd.underlying184 rfl tyOk17 agg17 cs
theorem fadr184_2 (r off : Nat) : fadrT Tryd.prog 184 (.ptr r off) 2 = some (.ptr r (off + 2)) := fadr_st Tryd.underlying184 rfl tyOk17 (by rw [cells17]; decide) r off
theorem fld184_2 (cs : List AV) : fldT Tryd.prog 184 (.agg cs) 2 = cs[2]? := fld_one Tryd.underlying184 rfl tyOk17 agg17 cs
theorem fadr184_3 (r off : Nat) : fadrT Tryd.prog 184 (.ptr r off) 3 = some (.ptr r (off + 3)) := fadr_st Tryd.underlying184 rfl tyOk9 (by rw [cells9]; decide) r off
theorem fld184_3 (cs : List AV) : fldT Tryd.prog 184 (.agg cs) 3 = cs[3]? := fld_one Tryd.underlying184 rfl tyOk9 agg9 cs
theorem bz184 : buildV Tryd.prog 184 [] = some (.agg [.sc (.pointer none), .sc (.pointer none), .sc (.pointer none), .sc (.string ByteArray.empty)]) := by simp [buildV, Tryd.underlying184, zero184, fillA, tyOk17, cells17, tyOk17, cells17, tyOk17, cells17, tyOk9, cells9]
theorem bds184 (v0 v1 v2 v3 : AV) (hv0 : v0.cells = [v0]) (hv1 : v1.cells = [v1]) (hv2 : v2.cells = [v2]) (hv3 : v3.cells = [v3]) : buildV Tryd.prog 184 [(0, v0), (1, v1), (2, v2), (3, v3)] = some (.agg [v0, v1, v2, v3]) := by simp [buildV, Tryd.underlying184, zero184, fillA, placeS, overA, tyOk17, cells17, tyOk17, cells17, tyOk17, cells17, tyOk9, cells9, hv0, hv1, hv2, hv3]
theorem fadr195_0 (r off : Nat) : fadrT Tryd.prog 195 (.ptr r off) 0 = some (.ptr r (off + 0)) := fadr_st Tryd.underlying195 rfl tyOk12 (by rw [cells12]; decide) r off
theorem fld195_0 (cs : List AV) : fldT Tryd.prog 195 (.agg cs) 0 = cs[0]? := fld_one Tryd.underlying195 rfl tyOk12 agg12 cs
theorem fadr195_1 (r off : Nat) : fadrT Tryd.prog 195 (.ptr r off) 1 = some (.ptr r (off + 1)) := fadr_st Tryd.underlying195 rfl tyOk12 (by rw [cells12]; decide) r off
theorem fld195_1 (cs : List AV) : fldT Tryd.prog 195 (.agg cs) 1 = cs[1]? := fld_one Tryd.underlying195 rfl tyOk12 agg12 cs
theorem fadr195_2 (r off : Nat) : fadrT Tryd.prog 195 (.ptr r off) 2 = some (.ptr r (off + 2)) := fadr_st Tryd.underlying195 rfl tyOk175 (by rw [cells175]; decide) r off
theorem fld195_2 (cs : List AV) : fldT Tryd.prog 195 (.agg cs) 2 = cs[2]? := fld_one Tryd.underlying195 rfl tyOk175 agg175 cs
theorem fadr195_3 (r off : Nat) : fadrT Tryd.prog 195 (.ptr r off) 3 = some (.ptr r (off + 3)) := fadr_st Tryd.underlying195 rfl tyOk189 (by rw [cells189]; decide) r off
theorem fld195_3 (cs : List AV) : fldT Tryd.prog 195 (.agg cs) 3 = cs[3]? := fld_one Tryd.underlying195 rfl tyOk189 agg189 cs
theorem fadr195_4 (r off : Nat) : fadrT Tryd.prog 195 (.ptr r off) 4 = some (.ptr r (off + 4)) := fadr_st Tryd.underlying195 rfl tyOk5 (by rw [cells5]; decide) r off
theorem fld195_4 (cs : List AV) : fldT Tryd.prog 195 (.agg cs) 4 = cs[4]? := fld_one Tryd.underlying195 rfl tyOk5 agg5 cs
theorem fadr195_5 (r off : Nat) : fadrT Tryd.prog 195 (.ptr r off) 5 = some (.ptr r (off + 5)) := fadr_st Tryd.underlying195 rfl tyOk5 (by rw [cells5]; decide) r off
theorem fld195_5 (cs : List AV) : fldT Tryd.prog 195 (.agg cs) 5 = cs[5]? := fld_one Tryd.underlying195 rfl tyOk5 agg5 cs
theorem fadr195_6 (r off : Nat) : fadrT Tryd.prog 195 (.ptr r off) 6 = some (.ptr r (off + 6)) := fadr_st Tryd.underlying195 rfl tyOk190 (by rw [cells190]; decide) r off
theorem fld195_6 (cs : List AV) : fldT Tryd.prog 195 (.agg cs) 6 = cs[6]? := fld_one Tryd.underlying195 rfl tyOk190 agg190 cs
theorem fadr195_7 (r off : Nat) : fadrT Tryd.prog 195 (.ptr r off) 7 = some (.ptr r (off + 7)) := fadr_st Tryd.underlying195 rfl tyOk191 (by rw [cells191]; decide) r off
theorem fld195_7 (cs : List AV) : fldT Tryd.prog 195 (.agg cs) 7 = cs[7]? := fld_one Tryd.underlying195 rfl tyOk191 agg191 cs
theorem fadr195_8 (r off : Nat) : fadrT Tryd.prog 195 (.ptr r off) 8 = some (.ptr r (off + 8)) := fadr_st Tryd.underlying195 rfl tyOk192 (by rw [cells192]; decide) r off
theorem fld195_8 (cs : List AV) : fldT Tryd.prog 195 (.agg cs) 8 = cs[8]? := fld_one Tryd.underlying195 rfl tyOk192 agg192 cs
theorem fadr195_9 (r off : Nat) : fadrT Tryd.prog 195 (.ptr r off) 9 = some (.ptr r (off + 9)) := fadr_st Tryd.underlying195 rfl tyOk193 (by rw [cells193]; decide) r off
theorem fld195_9 (cs : List AV) : fldT Tryd.prog 195 (.agg cs) 9 = cs[9]? := fld_one Tryd.underlying195 rfl tyOk193 agg193 cs
theorem fadr195_10 (r off : Nat) : fadrT Tryd.prog 195 (.ptr r off) 10 = some (.ptr r (off + 10)) := fadr_st Tryd.underlying195 rfl tyOk194 (by rw [cells194]; decide) r off
theorem fld195_10 (cs : List AV) : fldT Tryd.prog 195 (.agg cs) 10 = cs[10]? := fld_one Tryd.underlying195 rfl tyOk194 agg194 cs
theorem fadr196_0 (r off : Nat) : fadrT Tryd.prog 196 (.ptr r off) 0 = some (.ptr r (off + 0)) := fadr_st Tryd.underlying196 rfl tyOk12 (by rw [cells12]; decide) r off
theorem fld196_0 (cs : List AV) : fldT Tryd.prog 196 (.agg cs) 0 = cs[0]? := fld_one Tryd.underlying196 rfl tyOk12 agg12 cs
theorem fadr196_1 (r off : Nat) : fadrT Tryd.prog 196 (.ptr r off) 1 = some (.ptr r (off + 1)) := fadr_st Tryd.underlying196 rfl tyOk12 (by rw [cells12]; decide) r off
theorem fld196_1 (cs : List AV) : fldT Tryd.prog 196 (.agg cs) 1 = cs[1]? := fld_one Tryd.underlying196 rfl tyOk12 agg12 cs
theorem fadr196_2 (r off : Nat) : fadrT Tryd.prog 196 (.ptr r off) 2 = some (.ptr r (off + 2)) := fadr_st Tryd.underlying196 rfl tyOk175 (by rw [cells175]; decide) r off
theorem fld196_2 (cs : List AV) : fldT Tryd.prog 196 (.agg cs) 2 = cs[2]? := fld_one Tryd.underlying196 rfl tyOk175 agg175 cs
theorem fadr196_3 (r off : Nat) : fadrT Tryd.prog 196 (.ptr r off) 3 = some (.ptr r (off + 3)) := fadr_st Tryd.underlying196 rfl tyOk189 (by rw [cells189]; decide) r off
theorem fld196_3 (cs : List AV) : fldT Tryd.prog 196 (.agg cs) 3 = cs[3]? := fld_one Tryd.underlying196 rfl tyOk189 agg189 cs
theorem fadr196_4 (r off : Nat) : fadrT Tryd.prog 196 (.ptr r off) 4 = some (.ptr r (off + 4)) := fadr_st Tryd.underlying196 rfl tyOk5 (by rw [cells5]; decide) r off
theorem fld196_4 (cs : List AV) : fldT Tryd.prog 196 (.agg cs) 4 = cs[4]? := fld_one Tryd.underlying196 rfl tyOk5 agg5 cs
theorem fadr196_5 (r off : Nat) : fadrT Tryd.prog 196 (.ptr r off) 5 = some (.ptr r (off + 5)) := fadr_st Tryd.underlying196 rfl tyOk5 (by rw [cells5]; decide) r off
theorem fld196_5 (cs : List AV) : fldT Tryd.prog 196 (.agg cs) 5 = cs[5]? := fld_one Tryd.underlying196 rfl tyOk5 agg5 cs
theorem fadr196_6 (r off : Nat) : fadrT Tryd.prog 196 (.ptr r off) 6 = some (.ptr r (off + 6)) := fadr_st Tryd.underlying196 rfl tyOk190 (by rw [cells190]; decide) r off
theorem fld196_6 (cs : List AV) : fldT Tryd.prog 196 (.agg cs) 6 = cs[6]? := fld_one Tryd.underlying196 rfl tyOk190 agg190 cs
theorem fadr196_7 (r off : Nat) : fadrT Tryd.prog 196 (.ptr r off) 7 = some (.ptr r (off + 7)) := fadr_st Tryd.underlying196 rfl tyOk191 (by rw [cells191]; decide) r off
theorem fld196_7 (cs : List AV) : fldT Tryd.prog 196 (.agg cs) 7 = cs[7]? := fld_one Tryd.underlying196 rfl tyOk191 agg191 cs
theorem fadr196_8 (r off : Nat) : fadrT Tryd.prog 196 (.ptr r off) 8 = some (.ptr r (off + 8)) := fadr_st Tryd.underlying196 rfl tyOk192 (by rw [cells192]; decide) r off
theorem fld196_8 (cs : List AV) : fldT Tryd.prog 196 (.agg cs) 8 = cs[8]? := fld_one Tryd.underlying196 rfl tyOk192 agg192 cs
theorem fadr196_9 (r off : Nat) : fadrT Tryd.prog 196 (.ptr r off) 9 = some (.ptr r (off + 9)) := fadr_st Tryd.underlying196 rfl tyOk193 (by rw [cells193]; decide) r off
theorem fld196_9 (cs : List AV) : fldT Tryd.prog 196 (.agg cs) 9 = cs[9]? := fld_one Tryd.underlying196 rfl tyOk193 agg193 cs
theorem fadr196_10 (r off : Nat) : fadrT Tryd.prog 196 (.ptr r off) 10 = some (.ptr r (off + 10)) := fadr_st Tryd.underlying196 rfl tyOk194 (by rw [cells194]; decide) r off
theorem fld196_10 (cs : List AV) : fldT Tryd.prog 196 (.agg cs) 10 = cs[10]? := fld_one Tryd.underlying196 rfl tyOk194 agg194 cs
theorem follows : Tryd.prog.follows .mixedOrders = true := by kernel_rfl
end Go.Proofs.YtfgmmklljibbiaaDoor.Sim
