/- Facts about the types of the program. -/
import Derived.Test.YtjljicfolmdkfaaS26
import Derived.Test.YtjljicfolmdkfaaProg
namespace Go.Proofs.Ytjljicfolmdkfaa.Sim
open Go
set_option linter.unusedSimpArgs false
theorem tyOk0 : tyOk Try.prog 0 = true := by kernel_rfl
theorem agg0 : aggB Try.prog 0 = false := by kernel_rfl
theorem cells0 : Try.prog.cellsOf 0 = 1 := by kernel_rfl
theorem tyOk1 : tyOk Try.prog 1 = true := by kernel_rfl
theorem agg1 : aggB Try.prog 1 = false := by kernel_rfl
theorem cells1 : Try.prog.cellsOf 1 = 1 := by kernel_rfl
theorem tyOk2 : tyOk Try.prog 2 = true := by kernel_rfl
theorem agg2 : aggB Try.prog 2 = false := by kernel_rfl
theorem cells2 : Try.prog.cellsOf 2 = 1 := by kernel_rfl
theorem zero2 : zeroA Try.prog 2 = some [.sc (.int .i64 0)] := by kernel_rfl
theorem info2 : (Try.prog.info? 2).map (·.bytes) = some 8 := by kernel_rfl
theorem mk2 (a b : IntKind) (m : Int) (h0 : 0 ≤ m) (h1 : m ≤ 1000000000000) : mkV Try.prog (some (.slice 2)) (.sc (.int a m)) (.sc (.int b m)) = some (ints .i64 (List.replicate m.toNat 0), fun r => .sl r 0 m.toNat 1) := mk_ints .i64 2 a b m _ zero2 info2 cells2 h0 (by omega) (by omega)
theorem bs2_0 : bsV Try.prog (some (.slice 2)) 0 [] = some (ints .i64 [], fun r => .sl r 0 0 1) := bs_ints .i64 2 0 [] zero2 tyOk2 cells2 (by decide) (by simp)
theorem bs2_1 (a0 : Int) : bsV Try.prog (some (.slice 2)) 1 [(0, .sc (.int .i64 a0))] = some (ints .i64 [a0], fun r => .sl r 0 1 1) := bs_ints .i64 2 1 [(0, a0)] zero2 tyOk2 cells2 (by decide) (by simp)
theorem bs2_2 (a0 a1 : Int) : bsV Try.prog (some (.slice 2)) 2 [(0, .sc (.int .i64 a0)), (1, .sc (.int .i64 a1))] = some (ints .i64 [a0, a1], fun r => .sl r 0 2 1) := bs_ints .i64 2 2 [(0, a0), (1, a1)] zero2 tyOk2 cells2 (by decide) (by simp)
theorem bs2_3 (a0 a1 a2 : Int) : bsV Try.prog (some (.slice 2)) 3 [(0, .sc (.int .i64 a0)), (1, .sc (.int .i64 a1)), (2, .sc (.int .i64 a2))] = some (ints .i64 [a0, a1, a2], fun r => .sl r 0 3 1) := bs_ints .i64 2 3 [(0, a0), (1, a1), (2, a2)] zero2 tyOk2 cells2 (by decide) (by simp)
theorem bs2_4 (a0 a1 a2 a3 : Int) : bsV Try.prog (some (.slice 2)) 4 [(0, .sc (.int .i64 a0)), (1, .sc (.int .i64 a1)), (2, .sc (.int .i64 a2)), (3, .sc (.int .i64 a3))] = some (ints .i64 [a0, a1, a2, a3], fun r => .sl r 0 4 1) := bs_ints .i64 2 4 [(0, a0), (1, a1), (2, a2), (3, a3)] zero2 tyOk2 cells2 (by decide) (by simp)
theorem bs2_5 (a0 a1 a2 a3 a4 : Int) : bsV Try.prog (some (.slice 2)) 5 [(0, .sc (.int .i64 a0)), (1, .sc (.int .i64 a1)), (2, .sc (.int .i64 a2)), (3, .sc (.int .i64 a3)), (4, .sc (.int .i64 a4))] = some (ints .i64 [a0, a1, a2, a3, a4], fun r => .sl r 0 5 1) := bs_ints .i64 2 5 [(0, a0), (1, a1), (2, a2), (3, a3), (4, a4)] zero2 tyOk2 cells2 (by decide) (by simp)
theorem bs2_8 (a0 a1 a2 a3 a4 a5 a6 a7 : Int) : bsV Try.prog (some (.slice 2)) 8 [(0, .sc (.int .i64 a0)), (1, .sc (.int .i64 a1)), (2, .sc (.int .i64 a2)), (3, .sc (.int .i64 a3)), (4, .sc (.int .i64 a4)), (5, .sc (.int .i64 a5)), (6, .sc (.int .i64 a6)), (7, .sc (.int .i64 a7))] = some (ints .i64 [a0, a1, a2, a3, a4, a5, a6, a7], fun r => .sl r 0 8 1) := bs_ints .i64 2 8 [(0, a0), (1, a1), (2, a2), (3, a3), (4, a4), (5, a5), (6, a6), (7, a7)] zero2 tyOk2 cells2 (by decide) (by simp)
theorem tyOk3 : tyOk Try.prog 3 = true := by kernel_rfl
theorem agg3 : aggB Try.prog 3 = false := by kernel_rfl
theorem cells3 : Try.prog.cellsOf 3 = 1 := by kernel_rfl
theorem zero3 : zeroA Try.prog 3 = some [.sc (.int .i64 0)] := by kernel_rfl
theorem info3 : (Try.prog.info? 3).map (·.bytes) = some 8 := by kernel_rfl
theorem mk3 (a b : IntKind) (m : Int) (h0 : 0 ≤ m) (h1 : m ≤ 1000000000000) : mkV Try.prog (some (.slice 3)) (.sc (.int a m)) (.sc (.int b m)) = some (ints .i64 (List.replicate m.toNat 0), fun r => .sl r 0 m.toNat 1) := mk_ints .i64 3 a b m _ zero3 info3 cells3 h0 (by omega) (by omega)
theorem bs3_0 : bsV Try.prog (some (.slice 3)) 0 [] = some (ints .i64 [], fun r => .sl r 0 0 1) := bs_ints .i64 3 0 [] zero3 tyOk3 cells3 (by decide) (by simp)
theorem bs3_1 (a0 : Int) : bsV Try.prog (some (.slice 3)) 1 [(0, .sc (.int .i64 a0))] = some (ints .i64 [a0], fun r => .sl r 0 1 1) := bs_ints .i64 3 1 [(0, a0)] zero3 tyOk3 cells3 (by decide) (by simp)
theorem bs3_2 (a0 a1 : Int) : bsV Try.prog (some (.slice 3)) 2 [(0, .sc (.int .i64 a0)), (1, .sc (.int .i64 a1))] = some (ints .i64 [a0, a1], fun r => .sl r 0 2 1) := bs_ints .i64 3 2 [(0, a0), (1, a1)] zero3 tyOk3 cells3 (by decide) (by simp)
theorem bs3_3 (a0 a1 a2 : Int) : bsV Try.prog (some (.slice 3)) 3 [(0, .sc (.int .i64 a0)), (1, .sc (.int .i64 a1)), (2, .sc (.int .i64 a2))] = some (ints .i64 [a0, a1, a2], fun r => .sl r 0 3 1) := bs_ints .i64 3 3 [(0, a0), (1, a1), (2, a2)] zero3 tyOk3 cells3 (by decide) (by simp)
theorem bs3_4 (a0 a1 a2 a3 : Int) : bsV Try.prog (some (.slice 3)) 4 [(0, .sc (.int .i64 a0)), (1, .sc (.int .i64 a1)), (2, .sc (.int .i64 a2)), (3, .sc (.int .i64 a3))] = some (ints .i64 [a0, a1, a2, a3], fun r => .sl r 0 4 1) := bs_ints .i64 3 4 [(0, a0), (1, a1), (2, a2), (3, a3)] zero3 tyOk3 cells3 (by decide) (by simp)
theorem bs3_5 (a0 a1 a2 a3 a4 : Int) : bsV Try.prog (some (.slice 3)) 5 [(0, .sc (.int .i64 a0)), (1, .sc (.int .i64 a1)), (2, .sc (.int .i64 a2)), (3, .sc (.int .i64 a3)), (4, .sc (.int .i64 a4))] = some (ints .i64 [a0, a1, a2, a3, a4], fun r => .sl r 0 5 1) := bs_ints .i64 3 5 [(0, a0), (1, a1), (2, a2), (3, a3), (4, a4)] zero3 tyOk3 cells3 (by decide) (by simp)
theorem bs3_8 (a0 a1 a2 a3 a4 a5 a6 a7 : Int) : bsV Try.prog (some (.slice 3)) 8 [(0, .sc (.int .i64 a0)), (1, .sc (.int .i64 a1)), (2, .sc (.int .i64 a2)), (3, .sc (.int .i64 a3)), (4, .sc (.int .i64 a4)), (5, .sc (.int .i64 a5)), (6, .sc (.int .i64 a6)), (7, .sc (.int .i64 a7))] = some (ints .i64 [a0, a1, a2, a3, a4, a5, a6, a7], fun r => .sl r 0 8 1) := bs_ints .i64 3 8 [(0, a0), (1, a1), (2, a2), (3, a3), (4, a4), (5, a5), (6, a6), (7, a7)] zero3 tyOk3 cells3 (by decide) (by simp)
theorem tyOk4 : tyOk Try.prog 4 = true := by kernel_rfl
theorem agg4 : aggB Try.prog 4 = false := by kernel_rfl
theorem cells4 : Try.prog.cellsOf 4 = 1 := by kernel_rfl
theorem zero4 : zeroA Try.prog 4 = some [.sc (.bool false)] := by kernel_rfl
theorem tyOk5 : tyOk Try.prog 5 = true := by kernel_rfl
theorem agg5 : aggB Try.prog 5 = false := by kernel_rfl
theorem cells5 : Try.prog.cellsOf 5 = 1 := by kernel_rfl
theorem isU5 : isU8 Try.prog 5 = true := by kernel_rfl
theorem zero5 : zeroA Try.prog 5 = some [.sc (.int .u8 0)] := by kernel_rfl
theorem info5 : (Try.prog.info? 5).map (·.bytes) = some 1 := by kernel_rfl
theorem mk5 (a b : IntKind) (m : Int) (h0 : 0 ≤ m) (h1 : m ≤ 1000000000000) : mkV Try.prog (some (.slice 5)) (.sc (.int a m)) (.sc (.int b m)) = some (ints .u8 (List.replicate m.toNat 0), fun r => .sl r 0 m.toNat 1) := mk_ints .u8 5 a b m _ zero5 info5 cells5 h0 (by omega) (by omega)
theorem bs5_0 : bsV Try.prog (some (.slice 5)) 0 [] = some (ints .u8 [], fun r => .sl r 0 0 1) := bs_ints .u8 5 0 [] zero5 tyOk5 cells5 (by decide) (by simp)
theorem bs5_1 (a0 : Int) : bsV Try.prog (some (.slice 5)) 1 [(0, .sc (.int .u8 a0))] = some (ints .u8 [a0], fun r => .sl r 0 1 1) := bs_ints .u8 5 1 [(0, a0)] zero5 tyOk5 cells5 (by decide) (by simp)
theorem bs5_2 (a0 a1 : Int) : bsV Try.prog (some (.slice 5)) 2 [(0, .sc (.int .u8 a0)), (1, .sc (.int .u8 a1))] = some (ints .u8 [a0, a1], fun r => .sl r 0 2 1) := bs_ints .u8 5 2 [(0, a0), (1, a1)] zero5 tyOk5 cells5 (by decide) (by simp)
theorem bs5_3 (a0 a1 a2 : Int) : bsV Try.prog (some (.slice 5)) 3 [(0, .sc (.int .u8 a0)), (1, .sc (.int .u8 a1)), (2, .sc (.int .u8 a2))] = some (ints .u8 [a0, a1, a2], fun r => .sl r 0 3 1) := bs_ints .u8 5 3 [(0, a0), (1, a1), (2, a2)] zero5 tyOk5 cells5 (by decide) (by simp)
theorem bs5_4 (a0 a1 a2 a3 : Int) : bsV Try.prog (some (.slice 5)) 4 [(0, .sc (.int .u8 a0)), (1, .sc (.int .u8 a1)), (2, .sc (.int .u8 a2)), (3, .sc (.int .u8 a3))] = some (ints .u8 [a0, a1, a2, a3], fun r => .sl r 0 4 1) := bs_ints .u8 5 4 [(0, a0), (1, a1), (2, a2), (3, a3)] zero5 tyOk5 cells5 (by decide) (by simp)
theorem bs5_5 (a0 a1 a2 a3 a4 : Int) : bsV Try.prog (some (.slice 5)) 5 [(0, .sc (.int .u8 a0)), (1, .sc (.int .u8 a1)), (2, .sc (.int .u8 a2)), (3, .sc (.int .u8 a3)), (4, .sc (.int .u8 a4))] = some (ints .u8 [a0, a1, a2, a3, a4], fun r => .sl r 0 5 1) := bs_ints .u8 5 5 [(0, a0), (1, a1), (2, a2), (3, a3), (4, a4)] zero5 tyOk5 cells5 (by decide) (by simp)
theorem bs5_8 (a0 a1 a2 a3 a4 a5 a6 a7 : Int) : bsV Try.prog (some (.slice 5)) 8 [(0, .sc (.int .u8 a0)), (1, .sc (.int .u8 a1)), (2, .sc (.int .u8 a2)), (3, .sc (.int .u8 a3)), (4, .sc (.int .u8 a4)), (5, .sc (.int .u8 a5)), (6, .sc (.int .u8 a6)), (7, .sc (.int .u8 a7))] = some (ints .u8 [a0, a1, a2, a3, a4, a5, a6, a7], fun r => .sl r 0 8 1) := bs_ints .u8 5 8 [(0, a0), (1, a1), (2, a2), (3, a3), (4, a4), (5, a5), (6, a6), (7, a7)] zero5 tyOk5 cells5 (by decide) (by simp)
theorem tyOk6 : tyOk Try.prog 6 = true := by kernel_rfl
theorem agg6 : aggB Try.prog 6 = false := by kernel_rfl
theorem cells6 : Try.prog.cellsOf 6 = 1 := by kernel_rfl
theorem isU6 : isU8 Try.prog 6 = true := by kernel_rfl
theorem zero6 : zeroA Try.prog 6 = some [.sc (.int .u8 0)] := by kernel_rfl
theorem info6 : (Try.prog.info? 6).map (·.bytes) = some 1 := by kernel_rfl
theorem mk6 (a b : IntKind) (m : Int) (h0 : 0 ≤ m) (h1 : m ≤ 1000000000000) : mkV Try.prog (some (.slice 6)) (.sc (.int a m)) (.sc (.int b m)) = some (ints .u8 (List.replicate m.toNat 0), fun r => .sl r 0 m.toNat 1) := mk_ints .u8 6 a b m _ zero6 info6 cells6 h0 (by omega) (by omega)
theorem bs6_0 : bsV Try.prog (some (.slice 6)) 0 [] = some (ints .u8 [], fun r => .sl r 0 0 1) := bs_ints .u8 6 0 [] zero6 tyOk6 cells6 (by decide) (by simp)
theorem bs6_1 (a0 : Int) : bsV Try.prog (some (.slice 6)) 1 [(0, .sc (.int .u8 a0))] = some (ints .u8 [a0], fun r => .sl r 0 1 1) := bs_ints .u8 6 1 [(0, a0)] zero6 tyOk6 cells6 (by decide) (by simp)
theorem bs6_2 (a0 a1 : Int) : bsV Try.prog (some (.slice 6)) 2 [(0, .sc (.int .u8 a0)), (1, .sc (.int .u8 a1))] = some (ints .u8 [a0, a1], fun r => .sl r 0 2 1) := bs_ints .u8 6 2 [(0, a0), (1, a1)] zero6 tyOk6 cells6 (by decide) (by simp)
theorem bs6_3 (a0 a1 a2 : Int) : bsV Try.prog (some (.slice 6)) 3 [(0, .sc (.int .u8 a0)), (1, .sc (.int .u8 a1)), (2, .sc (.int .u8 a2))] = some (ints .u8 [a0, a1, a2], fun r => .sl r 0 3 1) := bs_ints .u8 6 3 [(0, a0), (1, a1), (2, a2)] zero6 tyOk6 cells6 (by decide) (by simp)
theorem bs6_4 (a0 a1 a2 a3 : Int) : bsV Try.prog (some (.slice 6)) 4 [(0, .sc (.int .u8 a0)), (1, .sc (.int .u8 a1)), (2, .sc (.int .u8 a2)), (3, .sc (.int .u8 a3))] = some (ints .u8 [a0, a1, a2, a3], fun r => .sl r 0 4 1) := bs_ints .u8 6 4 [(0, a0), (1, a1), (2, a2), (3, a3)] zero6 tyOk6 cells6 (by decide) (by simp)
theorem bs6_5 (a0 a1 a2 a3 a4 : Int) : bsV Try.prog (some (.slice 6)) 5 [(0, .sc (.int .u8 a0)), (1, .sc (.int .u8 a1)), (2, .sc (.int .u8 a2)), (3, .sc (.int .u8 a3)), (4, .sc (.int .u8 a4))] = some (ints .u8 [a0, a1, a2, a3, a4], fun r => .sl r 0 5 1) := bs_ints .u8 6 5 [(0, a0), (1, a1), (2, a2), (3, a3), (4, a4)] zero6 tyOk6 cells6 (by decide) (by simp)
theorem bs6_8 (a0 a1 a2 a3 a4 a5 a6 a7 : Int) : bsV Try.prog (some (.slice 6)) 8 [(0, .sc (.int .u8 a0)), (1, .sc (.int .u8 a1)), (2, .sc (.int .u8 a2)), (3, .sc (.int .u8 a3)), (4, .sc (.int .u8 a4)), (5, .sc (.int .u8 a5)), (6, .sc (.int .u8 a6)), (7, .sc (.int .u8 a7))] = some (ints .u8 [a0, a1, a2, a3, a4, a5, a6, a7], fun r => .sl r 0 8 1) := bs_ints .u8 6 8 [(0, a0), (1, a1), (2, a2), (3, a3), (4, a4), (5, a5), (6, a6), (7, a7)] zero6 tyOk6 cells6 (by decide) (by simp)
theorem tyOk7 : tyOk Try.prog 7 = true := by kernel_rfl
theorem agg7 : aggB Try.prog 7 = true := by kernel_rfl
theorem cells7 : Try.prog.cellsOf 7 = 4 := by kernel_rfl
theorem zero7 : zeroA Try.prog 7 = some [.sc (.int .i64 0), .sc (.int .i64 0), .sc (.bool false), .sc (.int .u8 0)] := by kernel_rfl
theorem tyOk8 : tyOk Try.prog 8 = true := by kernel_rfl
theorem agg8 : aggB Try.prog 8 = true := by kernel_rfl
theorem cells8 : Try.prog.cellsOf 8 = 4 := by kernel_rfl
theorem zero8 : zeroA Try.prog 8 = some [.sc (.int .i64 0), .sc (.int .i64 0), .sc (.bool false), .sc (.int .u8 0)] := by kernel_rfl
theorem tyOk9 : tyOk Try.prog 9 = true := by kernel_rfl
theorem agg9 : aggB Try.prog 9 = false := by kernel_rfl
theorem cells9 : Try.prog.cellsOf 9 = 1 := by kernel_rfl
theorem zero9 : zeroA Try.prog 9 = some [.sc (.string ByteArray.empty)] := by kernel_rfl
theorem tyOk10 : tyOk Try.prog 10 = true := by kernel_rfl
theorem agg10 : aggB Try.prog 10 = false := by kernel_rfl
theorem cells10 : Try.prog.cellsOf 10 = 1 := by kernel_rfl
theorem zero10 : zeroA Try.prog 10 = some [.sc (.string ByteArray.empty)] := by kernel_rfl
theorem tyOk11 : tyOk Try.prog 11 = true := by kernel_rfl
theorem agg11 : aggB Try.prog 11 = false := by kernel_rfl
theorem cells11 : Try.prog.cellsOf 11 = 1 := by kernel_rfl
theorem zero11 : zeroA Try.prog 11 = some [.sc (.string ByteArray.empty)] := by kernel_rfl
theorem tyOk12 : tyOk Try.prog 12 = true := by kernel_rfl
theorem agg12 : aggB Try.prog 12 = false := by kernel_rfl
theorem cells12 : Try.prog.cellsOf 12 = 1 := by kernel_rfl
theorem zero12 : zeroA Try.prog 12 = some [.sc (.int .u64 0)] := by kernel_rfl
theorem info12 : (Try.prog.info? 12).map (·.bytes) = some 8 := by kernel_rfl
theorem mk12 (a b : IntKind) (m : Int) (h0 : 0 ≤ m) (h1 : m ≤ 1000000000000) : mkV Try.prog (some (.slice 12)) (.sc (.int a m)) (.sc (.int b m)) = some (ints .u64 (List.replicate m.toNat 0), fun r => .sl r 0 m.toNat 1) := mk_ints .u64 12 a b m _ zero12 info12 cells12 h0 (by omega) (by omega)
theorem bs12_0 : bsV Try.prog (some (.slice 12)) 0 [] = some (ints .u64 [], fun r => .sl r 0 0 1) := bs_ints .u64 12 0 [] zero12 tyOk12 cells12 (by decide) (by simp)
theorem bs12_1 (a0 : Int) : bsV Try.prog (some (.slice 12)) 1 [(0, .sc (.int .u64 a0))] = some (ints .u64 [a0], fun r => .sl r 0 1 1) := bs_ints .u64 12 1 [(0, a0)] zero12 tyOk12 cells12 (by decide) (by simp)
theorem bs12_2 (a0 a1 : Int) : bsV Try.prog (some (.slice 12)) 2 [(0, .sc (.int .u64 a0)), (1, .sc (.int .u64 a1))] = some (ints .u64 [a0, a1], fun r => .sl r 0 2 1) := bs_ints .u64 12 2 [(0, a0), (1, a1)] zero12 tyOk12 cells12 (by decide) (by simp)
theorem bs12_3 (a0 a1 a2 : Int) : bsV Try.prog (some (.slice 12)) 3 [(0, .sc (.int .u64 a0)), (1, .sc (.int .u64 a1)), (2, .sc (.int .u64 a2))] = some (ints .u64 [a0, a1, a2], fun r => .sl r 0 3 1) := bs_ints .u64 12 3 [(0, a0), (1, a1), (2, a2)] zero12 tyOk12 cells12 (by decide) (by simp)
theorem bs12_4 (a0 a1 a2 a3 : Int) : bsV Try.prog (some (.slice 12)) 4 [(0, .sc (.int .u64 a0)), (1, .sc (.int .u64 a1)), (2, .sc (.int .u64 a2)), (3, .sc (.int .u64 a3))] = some (ints .u64 [a0, a1, a2, a3], fun r => .sl r 0 4 1) := bs_ints .u64 12 4 [(0, a0), (1, a1), (2, a2), (3, a3)] zero12 tyOk12 cells12 (by decide) (by simp)
theorem bs12_5 (a0 a1 a2 a3 a4 : Int) : bsV Try.prog (some (.slice 12)) 5 [(0, .sc (.int .u64 a0)), (1, .sc (.int .u64 a1)), (2, .sc (.int .u64 a2)), (3, .sc (.int .u64 a3)), (4, .sc (.int .u64 a4))] = some (ints .u64 [a0, a1, a2, a3, a4], fun r => .sl r 0 5 1) := bs_ints .u64 12 5 [(0, a0), (1, a1), (2, a2), (3, a3), (4, a4)] zero12 tyOk12 cells12 (by decide) (by simp)
theorem bs12_8 (a0 a1 a2 a3 a4 a5 a6 a7 : Int) : bsV Try.prog (some (.slice 12)) 8 [(0, .sc (.int .u64 a0)), (1, .sc (.int .u64 a1)), (2, .sc (.int .u64 a2)), (3, .sc (.int .u64 a3)), (4, .sc (.int .u64 a4)), (5, .sc (.int .u64 a5)), (6, .sc (.int .u64 a6)), (7, .sc (.int .u64 a7))] = some (ints .u64 [a0, a1, a2, a3, a4, a5, a6, a7], fun r => .sl r 0 8 1) := bs_ints .u64 12 8 [(0, a0), (1, a1), (2, a2), (3, a3), (4, a4), (5, a5), (6, a6), (7, a7)] zero12 tyOk12 cells12 (by decide) (by simp)
theorem tyOk13 : tyOk Try.prog 13 = true := by kernel_rfl
theorem agg13 : aggB Try.prog 13 = true := by kernel_rfl
theorem cells13 : Try.prog.cellsOf 13 = 2 := by kernel_rfl
theorem zero13 : zeroA Try.prog 13 = some [.sc (.string ByteArray.empty), .sc (.int .u64 0)] := by kernel_rfl
theorem tyOk14 : tyOk Try.prog 14 = true := by kernel_rfl
theorem agg14 : aggB Try.prog 14 = true := by kernel_rfl
theorem cells14 : Try.prog.cellsOf 14 = 2 := by kernel_rfl
theorem zero14 : zeroA Try.prog 14 = some [.sc (.string ByteArray.empty), .sc (.int .u64 0)] := by kernel_rfl
theorem tyOk15 : tyOk Try.prog 15 = true := by kernel_rfl
theorem agg15 : aggB Try.prog 15 = false := by kernel_rfl
theorem cells15 : Try.prog.cellsOf 15 = 1 := by kernel_rfl
theorem zero15 : zeroA Try.prog 15 = some [.sc (.pointer none)] := by kernel_rfl
theorem tyOk16 : tyOk Try.prog 16 = true := by kernel_rfl
theorem agg16 : aggB Try.prog 16 = false := by kernel_rfl
theorem cells16 : Try.prog.cellsOf 16 = 1 := by kernel_rfl
theorem zero16 : zeroA Try.prog 16 = some [.sc (.pointer none)] := by kernel_rfl
theorem tyOk17 : tyOk Try.prog 17 = true := by kernel_rfl
theorem agg17 : aggB Try.prog 17 = false := by kernel_rfl
theorem cells17 : Try.prog.cellsOf 17 = 1 := by kernel_rfl
theorem zero17 : zeroA Try.prog 17 = some [.sc (.pointer none)] := by kernel_rfl
theorem tyOk18 : tyOk Try.prog 18 = true := by kernel_rfl
theorem agg18 : aggB Try.prog 18 = true := by kernel_rfl
theorem cells18 : Try.prog.cellsOf 18 = 1 := by kernel_rfl
theorem zero18 : zeroA Try.prog 18 = some [.sc (.pointer none)] := by kernel_rfl
theorem tyOk19 : tyOk Try.prog 19 = true := by kernel_rfl
theorem agg19 : aggB Try.prog 19 = true := by kernel_rfl
theorem cells19 : Try.prog.cellsOf 19 = 1 := by kernel_rfl
theorem zero19 : zeroA Try.prog 19 = some [.sc (.pointer none)] := by kernel_rfl
theorem tyOk20 : tyOk Try.prog 20 = true := by kernel_rfl
theorem agg20 : aggB Try.prog 20 = false := by kernel_rfl
theorem cells20 : Try.prog.cellsOf 20 = 1 := by kernel_rfl
theorem tyOk21 : tyOk Try.prog 21 = true := by kernel_rfl
theorem agg21 : aggB Try.prog 21 = false := by kernel_rfl
theorem cells21 : Try.prog.cellsOf 21 = 1 := by kernel_rfl
theorem zero21 : zeroA Try.prog 21 = some [.sc (.int .i32 0)] := by kernel_rfl
theorem info21 : (Try.prog.info? 21).map (·.bytes) = some 4 := by kernel_rfl
theorem mk21 (a b : IntKind) (m : Int) (h0 : 0 ≤ m) (h1 : m ≤ 1000000000000) : mkV Try.prog (some (.slice 21)) (.sc (.int a m)) (.sc (.int b m)) = some (ints .i32 (List.replicate m.toNat 0), fun r => .sl r 0 m.toNat 1) := mk_ints .i32 21 a b m _ zero21 info21 cells21 h0 (by omega) (by omega)
theorem bs21_0 : bsV Try.prog (some (.slice 21)) 0 [] = some (ints .i32 [], fun r => .sl r 0 0 1) := bs_ints .i32 21 0 [] zero21 tyOk21 cells21 (by decide) (by simp)
theorem bs21_1 (a0 : Int) : bsV Try.prog (some (.slice 21)) 1 [(0, .sc (.int .i32 a0))] = some (ints .i32 [a0], fun r => .sl r 0 1 1) := bs_ints .i32 21 1 [(0, a0)] zero21 tyOk21 cells21 (by decide) (by simp)
theorem bs21_2 (a0 a1 : Int) : bsV Try.prog (some (.slice 21)) 2 [(0, .sc (.int .i32 a0)), (1, .sc (.int .i32 a1))] = some (ints .i32 [a0, a1], fun r => .sl r 0 2 1) := bs_ints .i32 21 2 [(0, a0), (1, a1)] zero21 tyOk21 cells21 (by decide) (by simp)
theorem bs21_3 (a0 a1 a2 : Int) : bsV Try.prog (some (.slice 21)) 3 [(0, .sc (.int .i32 a0)), (1, .sc (.int .i32 a1)), (2, .sc (.int .i32 a2))] = some (ints .i32 [a0, a1, a2], fun r => .sl r 0 3 1) := bs_ints .i32 21 3 [(0, a0), (1, a1), (2, a2)] zero21 tyOk21 cells21 (by decide) (by simp)
theorem bs21_4 (a0 a1 a2 a3 : Int) : bsV Try.prog (some (.slice 21)) 4 [(0, .sc (.int .i32 a0)), (1, .sc (.int .i32 a1)), (2, .sc (.int .i32 a2)), (3, .sc (.int .i32 a3))] = some (ints .i32 [a0, a1, a2, a3], fun r => .sl r 0 4 1) := bs_ints .i32 21 4 [(0, a0), (1, a1), (2, a2), (3, a3)] zero21 tyOk21 cells21 (by decide) (by simp)
theorem bs21_5 (a0 a1 a2 a3 a4 : Int) : bsV Try.prog (some (.slice 21)) 5 [(0, .sc (.int .i32 a0)), (1, .sc (.int .i32 a1)), (2, .sc (.int .i32 a2)), (3, .sc (.int .i32 a3)), (4, .sc (.int .i32 a4))] = some (ints .i32 [a0, a1, a2, a3, a4], fun r => .sl r 0 5 1) := bs_ints .i32 21 5 [(0, a0), (1, a1), (2, a2), (3, a3), (4, a4)] zero21 tyOk21 cells21 (by decide) (by simp)
theorem bs21_8 (a0 a1 a2 a3 a4 a5 a6 a7 : Int) : bsV Try.prog (some (.slice 21)) 8 [(0, .sc (.int .i32 a0)), (1, .sc (.int .i32 a1)), (2, .sc (.int .i32 a2)), (3, .sc (.int .i32 a3)), (4, .sc (.int .i32 a4)), (5, .sc (.int .i32 a5)), (6, .sc (.int .i32 a6)), (7, .sc (.int .i32 a7))] = some (ints .i32 [a0, a1, a2, a3, a4, a5, a6, a7], fun r => .sl r 0 8 1) := bs_ints .i32 21 8 [(0, a0), (1, a1), (2, a2), (3, a3), (4, a4), (5, a5), (6, a6), (7, a7)] zero21 tyOk21 cells21 (by decide) (by simp)
theorem tyOk22 : tyOk Try.prog 22 = true := by kernel_rfl
theorem agg22 : aggB Try.prog 22 = false := by kernel_rfl
theorem cells22 : Try.prog.cellsOf 22 = 1 := by kernel_rfl
theorem tyOk23 : tyOk Try.prog 23 = true := by kernel_rfl
theorem agg23 : aggB Try.prog 23 = false := by kernel_rfl
theorem cells23 : Try.prog.cellsOf 23 = 1 := by kernel_rfl
theorem tyOk24 : tyOk Try.prog 24 = true := by kernel_rfl
theorem agg24 : aggB Try.prog 24 = false := by kernel_rfl
theorem cells24 : Try.prog.cellsOf 24 = 1 := by kernel_rfl
theorem tyOk25 : tyOk Try.prog 25 = true := by kernel_rfl
theorem agg25 : aggB Try.prog 25 = false := by kernel_rfl
theorem cells25 : Try.prog.cellsOf 25 = 1 := by kernel_rfl
theorem tyOk26 : tyOk Try.prog 26 = true := by kernel_rfl
theorem agg26 : aggB Try.prog 26 = false := by kernel_rfl
theorem cells26 : Try.prog.cellsOf 26 = 1 := by kernel_rfl
theorem tyOk27 : tyOk Try.prog 27 = true := by kernel_rfl
theorem agg27 : aggB Try.prog 27 = false := by kernel_rfl
theorem cells27 : Try.prog.cellsOf 27 = 1 := by kernel_rfl
theorem tyOk28 : tyOk Try.prog 28 = true := by kernel_rfl
theorem agg28 : aggB Try.prog 28 = true := by kernel_rfl
theorem cells28 : Try.prog.cellsOf 28 = 4 := by kernel_rfl
theorem zero28 : zeroA Try.prog 28 = some [.sc (.int .i64 0), .sc (.int .i64 0), .sc (.int .i64 0), .sc (.string ByteArray.empty)] := by kernel_rfl
theorem tyOk29 : tyOk Try.prog 29 = true := by kernel_rfl
theorem agg29 : aggB Try.prog 29 = true := by kernel_rfl
theorem cells29 : Try.prog.cellsOf 29 = 4 := by kernel_rfl
theorem zero29 : zeroA Try.prog 29 = some [.sc (.int .i64 0), .sc (.int .i64 0), .sc (.int .i64 0), .sc (.string ByteArray.empty)] := by kernel_rfl
theorem tyOk30 : tyOk Try.prog 30 = true := by kernel_rfl
theorem agg30 : aggB Try.prog 30 = false := by kernel_rfl
theorem cells30 : Try.prog.cellsOf 30 = 1 := by kernel_rfl
theorem tyOk31 : tyOk Try.prog 31 = true := by kernel_rfl
theorem agg31 : aggB Try.prog 31 = false := by kernel_rfl
theorem cells31 : Try.prog.cellsOf 31 = 1 := by kernel_rfl
theorem tyOk32 : tyOk Try.prog 32 = true := by kernel_rfl
theorem agg32 : aggB Try.prog 32 = true := by kernel_rfl
theorem cells32 : Try.prog.cellsOf 32 = 4 := by kernel_rfl
theorem zero32 : zeroA Try.prog 32 = some [.sc (.int .i64 0), .sc (.int .i64 0), .sc (.int .i64 0), .sc (.string ByteArray.empty)] := by kernel_rfl
theorem tyOk33 : tyOk Try.prog 33 = true := by kernel_rfl
theorem agg33 : aggB Try.prog 33 = false := by kernel_rfl
theorem cells33 : Try.prog.cellsOf 33 = 1 := by kernel_rfl
theorem tyOk34 : tyOk Try.prog 34 = true := by kernel_rfl
theorem agg34 : aggB Try.prog 34 = false := by kernel_rfl
theorem cells34 : Try.prog.cellsOf 34 = 1 := by kernel_rfl
theorem tyOk35 : tyOk Try.prog 35 = true := by kernel_rfl
theorem agg35 : aggB Try.prog 35 = false := by kernel_rfl
theorem cells35 : Try.prog.cellsOf 35 = 1 := by kernel_rfl
theorem tyOk36 : tyOk Try.prog 36 = true := by kernel_rfl
theorem agg36 : aggB Try.prog 36 = false := by kernel_rfl
theorem cells36 : Try.prog.cellsOf 36 = 1 := by kernel_rfl
theorem tyOk37 : tyOk Try.prog 37 = true := by kernel_rfl
theorem agg37 : aggB Try.prog 37 = false := by kernel_rfl
theorem cells37 : Try.prog.cellsOf 37 = 1 := by kernel_rfl
theorem tyOk38 : tyOk Try.prog 38 = true := by kernel_rfl
theorem agg38 : aggB Try.prog 38 = false := by kernel_rfl
theorem cells38 : Try.prog.cellsOf 38 = 1 := by kernel_rfl
theorem tyOk39 : tyOk Try.prog 39 = true := by kernel_rfl
theorem agg39 : aggB Try.prog 39 = false := by kernel_rfl
theorem cells39 : Try.prog.cellsOf 39 = 1 := by kernel_rfl
theorem tyOk40 : tyOk Try.prog 40 = true := by kernel_rfl
theorem agg40 : aggB Try.prog 40 = false := by kernel_rfl
theorem cells40 : Try.prog.cellsOf 40 = 1 := by kernel_rfl
theorem zero40 : zeroA Try.prog 40 = some [.sc (.slice none 0 0)] := by kernel_rfl
theorem tyOk41 : tyOk Try.prog 41 = true := by kernel_rfl
theorem agg41 : aggB Try.prog 41 = false := by kernel_rfl
theorem cells41 : Try.prog.cellsOf 41 = 1 := by kernel_rfl
theorem tyOk42 : tyOk Try.prog 42 = true := by kernel_rfl
theorem agg42 : aggB Try.prog 42 = false := by kernel_rfl
theorem cells42 : Try.prog.cellsOf 42 = 1 := by kernel_rfl
theorem tyOk43 : tyOk Try.prog 43 = true := by kernel_rfl
theorem agg43 : aggB Try.prog 43 = false := by kernel_rfl
theorem cells43 : Try.prog.cellsOf 43 = 1 := by kernel_rfl
theorem zero43 : zeroA Try.prog 43 = some [.sc (.int .u64 0)] := by kernel_rfl
theorem info43 : (Try.prog.info? 43).map (·.bytes) = some 8 := by kernel_rfl
theorem mk43 (a b : IntKind) (m : Int) (h0 : 0 ≤ m) (h1 : m ≤ 1000000000000) : mkV Try.prog (some (.slice 43)) (.sc (.int a m)) (.sc (.int b m)) = some (ints .u64 (List.replicate m.toNat 0), fun r => .sl r 0 m.toNat 1) := mk_ints .u64 43 a b m _ zero43 info43 cells43 h0 (by omega) (by omega)
theorem bs43_0 : bsV Try.prog (some (.slice 43)) 0 [] = some (ints .u64 [], fun r => .sl r 0 0 1) := bs_ints .u64 43 0 [] zero43 tyOk43 cells43 (by decide) (by simp)
theorem bs43_1 (a0 : Int) : bsV Try.prog (some (.slice 43)) 1 [(0, .sc (.int .u64 a0))] = some (ints .u64 [a0], fun r => .sl r 0 1 1) := bs_ints .u64 43 1 [(0, a0)] zero43 tyOk43 cells43 (by decide) (by simp)
theorem bs43_2 (a0 a1 : Int) : bsV Try.prog (some (.slice 43)) 2 [(0, .sc (.int .u64 a0)), (1, .sc (.int .u64 a1))] = some (ints .u64 [a0, a1], fun r => .sl r 0 2 1) := bs_ints .u64 43 2 [(0, a0), (1, a1)] zero43 tyOk43 cells43 (by decide) (by simp)
theorem bs43_3 (a0 a1 a2 : Int) : bsV Try.prog (some (.slice 43)) 3 [(0, .sc (.int .u64 a0)), (1, .sc (.int .u64 a1)), (2, .sc (.int .u64 a2))] = some (ints .u64 [a0, a1, a2], fun r => .sl r 0 3 1) := bs_ints .u64 43 3 [(0, a0), (1, a1), (2, a2)] zero43 tyOk43 cells43 (by decide) (by simp)
theorem bs43_4 (a0 a1 a2 a3 : Int) : bsV Try.prog (some (.slice 43)) 4 [(0, .sc (.int .u64 a0)), (1, .sc (.int .u64 a1)), (2, .sc (.int .u64 a2)), (3, .sc (.int .u64 a3))] = some (ints .u64 [a0, a1, a2, a3], fun r => .sl r 0 4 1) := bs_ints .u64 43 4 [(0, a0), (1, a1), (2, a2), (3, a3)] zero43 tyOk43 cells43 (by decide) (by simp)
theorem bs43_5 (a0 a1 a2 a3 a4 : Int) : bsV Try.prog (some (.slice 43)) 5 [(0, .sc (.int .u64 a0)), (1, .sc (.int .u64 a1)), (2, .sc (.int .u64 a2)), (3, .sc (.int .u64 a3)), (4, .sc (.int .u64 a4))] = some (ints .u64 [a0, a1, a2, a3, a4], fun r => .sl r 0 5 1) := bs_ints .u64 43 5 [(0, a0), (1, a1), (2, a2), (3, a3), (4, a4)] zero43 tyOk43 cells43 (by decide) (by simp)
theorem bs43_8 (a0 a1 a2 a3 a4 a5 a6 a7 : Int) : bsV Try.prog (some (.slice 43)) 8 [(0, .sc (.int .u64 a0)), (1, .sc (.int .u64 a1)), (2, .sc (.int .u64 a2)), (3, .sc (.int .u64 a3)), (4, .sc (.int .u64 a4)), (5, .sc (.int .u64 a5)), (6, .sc (.int .u64 a6)), (7, .sc (.int .u64 a7))] = some (ints .u64 [a0, a1, a2, a3, a4, a5, a6, a7], fun r => .sl r 0 8 1) := bs_ints .u64 43 8 [(0, a0), (1, a1), (2, a2), (3, a3), (4, a4), (5, a5), (6, a6), (7, a7)] zero43 tyOk43 cells43 (by decide) (by simp)
theorem tyOk44 : tyOk Try.prog 44 = true := by kernel_rfl
theorem agg44 : aggB Try.prog 44 = false := by kernel_rfl
theorem cells44 : Try.prog.cellsOf 44 = 1 := by kernel_rfl
theorem tyOk45 : tyOk Try.prog 45 = true := by kernel_rfl
theorem agg45 : aggB Try.prog 45 = true := by kernel_rfl
theorem cells45 : Try.prog.cellsOf 45 = 4 := by kernel_rfl
theorem zero45 : zeroA Try.prog 45 = some [.sc (.pointer none), .sc (.pointer none), .sc (.pointer none), .sc (.string ByteArray.empty)] := by kernel_rfl
theorem tyOk46 : tyOk Try.prog 46 = true := by kernel_rfl
theorem agg46 : aggB Try.prog 46 = true := by kernel_rfl
theorem cells46 : Try.prog.cellsOf 46 = 4 := by kernel_rfl
theorem zero46 : zeroA Try.prog 46 = some [.sc (.pointer none), .sc (.pointer none), .sc (.pointer none), .sc (.string ByteArray.empty)] := by kernel_rfl
theorem tyOk47 : tyOk Try.prog 47 = true := by kernel_rfl
theorem agg47 : aggB Try.prog 47 = true := by kernel_rfl
theorem cells47 : Try.prog.cellsOf 47 = 0 := by kernel_rfl
theorem zero47 : zeroA Try.prog 47 = some [] := by kernel_rfl
theorem tyOk48 : tyOk Try.prog 48 = true := by kernel_rfl
theorem agg48 : aggB Try.prog 48 = true := by kernel_rfl
theorem cells48 : Try.prog.cellsOf 48 = 0 := by kernel_rfl
theorem zero48 : zeroA Try.prog 48 = some [] := by kernel_rfl
theorem tyOk49 : tyOk Try.prog 49 = true := by kernel_rfl
theorem agg49 : aggB Try.prog 49 = true := by kernel_rfl
theorem cells49 : Try.prog.cellsOf 49 = 0 := by kernel_rfl
theorem zero49 : zeroA Try.prog 49 = some [] := by kernel_rfl
theorem tyOk50 : tyOk Try.prog 50 = true := by kernel_rfl
theorem agg50 : aggB Try.prog 50 = false := by kernel_rfl
theorem cells50 : Try.prog.cellsOf 50 = 1 := by kernel_rfl
theorem tyOk51 : tyOk Try.prog 51 = true := by kernel_rfl
theorem agg51 : aggB Try.prog 51 = false := by kernel_rfl
theorem cells51 : Try.prog.cellsOf 51 = 1 := by kernel_rfl
theorem zero51 : zeroA Try.prog 51 = some [.sc (.int .u32 0)] := by kernel_rfl
theorem info51 : (Try.prog.info? 51).map (·.bytes) = some 4 := by kernel_rfl
theorem mk51 (a b : IntKind) (m : Int) (h0 : 0 ≤ m) (h1 : m ≤ 1000000000000) : mkV Try.prog (some (.slice 51)) (.sc (.int a m)) (.sc (.int b m)) = some (ints .u32 (List.replicate m.toNat 0), fun r => .sl r 0 m.toNat 1) := mk_ints .u32 51 a b m _ zero51 info51 cells51 h0 (by omega) (by omega)
theorem bs51_0 : bsV Try.prog (some (.slice 51)) 0 [] = some (ints .u32 [], fun r => .sl r 0 0 1) := bs_ints .u32 51 0 [] zero51 tyOk51 cells51 (by decide) (by simp)
theorem bs51_1 (a0 : Int) : bsV Try.prog (some (.slice 51)) 1 [(0, .sc (.int .u32 a0))] = some (ints .u32 [a0], fun r => .sl r 0 1 1) := bs_ints .u32 51 1 [(0, a0)] zero51 tyOk51 cells51 (by decide) (by simp)
theorem bs51_2 (a0 a1 : Int) : bsV Try.prog (some (.slice 51)) 2 [(0, .sc (.int .u32 a0)), (1, .sc (.int .u32 a1))] = some (ints .u32 [a0, a1], fun r => .sl r 0 2 1) := bs_ints .u32 51 2 [(0, a0), (1, a1)] zero51 tyOk51 cells51 (by decide) (by simp)
theorem bs51_3 (a0 a1 a2 : Int) : bsV Try.prog (some (.slice 51)) 3 [(0, .sc (.int .u32 a0)), (1, .sc (.int .u32 a1)), (2, .sc (.int .u32 a2))] = some (ints .u32 [a0, a1, a2], fun r => .sl r 0 3 1) := bs_ints .u32 51 3 [(0, a0), (1, a1), (2, a2)] zero51 tyOk51 cells51 (by decide) (by simp)
theorem bs51_4 (a0 a1 a2 a3 : Int) : bsV Try.prog (some (.slice 51)) 4 [(0, .sc (.int .u32 a0)), (1, .sc (.int .u32 a1)), (2, .sc (.int .u32 a2)), (3, .sc (.int .u32 a3))] = some (ints .u32 [a0, a1, a2, a3], fun r => .sl r 0 4 1) := bs_ints .u32 51 4 [(0, a0), (1, a1), (2, a2), (3, a3)] zero51 tyOk51 cells51 (by decide) (by simp)
theorem bs51_5 (a0 a1 a2 a3 a4 : Int) : bsV Try.prog (some (.slice 51)) 5 [(0, .sc (.int .u32 a0)), (1, .sc (.int .u32 a1)), (2, .sc (.int .u32 a2)), (3, .sc (.int .u32 a3)), (4, .sc (.int .u32 a4))] = some (ints .u32 [a0, a1, a2, a3, a4], fun r => .sl r 0 5 1) := bs_ints .u32 51 5 [(0, a0), (1, a1), (2, a2), (3, a3), (4, a4)] zero51 tyOk51 cells51 (by decide) (by simp)
theorem bs51_8 (a0 a1 a2 a3 a4 a5 a6 a7 : Int) : bsV Try.prog (some (.slice 51)) 8 [(0, .sc (.int .u32 a0)), (1, .sc (.int .u32 a1)), (2, .sc (.int .u32 a2)), (3, .sc (.int .u32 a3)), (4, .sc (.int .u32 a4)), (5, .sc (.int .u32 a5)), (6, .sc (.int .u32 a6)), (7, .sc (.int .u32 a7))] = some (ints .u32 [a0, a1, a2, a3, a4, a5, a6, a7], fun r => .sl r 0 8 1) := bs_ints .u32 51 8 [(0, a0), (1, a1), (2, a2), (3, a3), (4, a4), (5, a5), (6, a6), (7, a7)] zero51 tyOk51 cells51 (by decide) (by simp)
theorem tyOk52 : tyOk Try.prog 52 = true := by kernel_rfl
theorem agg52 : aggB Try.prog 52 = false := by kernel_rfl
theorem cells52 : Try.prog.cellsOf 52 = 1 := by kernel_rfl
theorem isU52 : isU8 Try.prog 52 = true := by kernel_rfl
theorem zero52 : zeroA Try.prog 52 = some [.sc (.int .u8 0)] := by kernel_rfl
theorem info52 : (Try.prog.info? 52).map (·.bytes) = some 1 := by kernel_rfl
theorem mk52 (a b : IntKind) (m : Int) (h0 : 0 ≤ m) (h1 : m ≤ 1000000000000) : mkV Try.prog (some (.slice 52)) (.sc (.int a m)) (.sc (.int b m)) = some (ints .u8 (List.replicate m.toNat 0), fun r => .sl r 0 m.toNat 1) := mk_ints .u8 52 a b m _ zero52 info52 cells52 h0 (by omega) (by omega)
theorem bs52_0 : bsV Try.prog (some (.slice 52)) 0 [] = some (ints .u8 [], fun r => .sl r 0 0 1) := bs_ints .u8 52 0 [] zero52 tyOk52 cells52 (by decide) (by simp)
theorem bs52_1 (a0 : Int) : bsV Try.prog (some (.slice 52)) 1 [(0, .sc (.int .u8 a0))] = some (ints .u8 [a0], fun r => .sl r 0 1 1) := bs_ints .u8 52 1 [(0, a0)] zero52 tyOk52 cells52 (by decide) (by simp)
theorem bs52_2 (a0 a1 : Int) : bsV Try.prog (some (.slice 52)) 2 [(0, .sc (.int .u8 a0)), (1, .sc (.int .u8 a1))] = some (ints .u8 [a0, a1], fun r => .sl r 0 2 1) := bs_ints .u8 52 2 [(0, a0), (1, a1)] zero52 tyOk52 cells52 (by decide) (by simp)
theorem bs52_3 (a0 a1 a2 : Int) : bsV Try.prog (some (.slice 52)) 3 [(0, .sc (.int .u8 a0)), (1, .sc (.int .u8 a1)), (2, .sc (.int .u8 a2))] = some (ints .u8 [a0, a1, a2], fun r => .sl r 0 3 1) := bs_ints .u8 52 3 [(0, a0), (1, a1), (2, a2)] zero52 tyOk52 cells52 (by decide) (by simp)
theorem bs52_4 (a0 a1 a2 a3 : Int) : bsV Try.prog (some (.slice 52)) 4 [(0, .sc (.int .u8 a0)), (1, .sc (.int .u8 a1)), (2, .sc (.int .u8 a2)), (3, .sc (.int .u8 a3))] = some (ints .u8 [a0, a1, a2, a3], fun r => .sl r 0 4 1) := bs_ints .u8 52 4 [(0, a0), (1, a1), (2, a2), (3, a3)] zero52 tyOk52 cells52 (by decide) (by simp)
theorem bs52_5 (a0 a1 a2 a3 a4 : Int) : bsV Try.prog (some (.slice 52)) 5 [(0, .sc (.int .u8 a0)), (1, .sc (.int .u8 a1)), (2, .sc (.int .u8 a2)), (3, .sc (.int .u8 a3)), (4, .sc (.int .u8 a4))] = some (ints .u8 [a0, a1, a2, a3, a4], fun r => .sl r 0 5 1) := bs_ints .u8 52 5 [(0, a0), (1, a1), (2, a2), (3, a3), (4, a4)] zero52 tyOk52 cells52 (by decide) (by simp)
theorem bs52_8 (a0 a1 a2 a3 a4 a5 a6 a7 : Int) : bsV Try.prog (some (.slice 52)) 8 [(0, .sc (.int .u8 a0)), (1, .sc (.int .u8 a1)), (2, .sc (.int .u8 a2)), (3, .sc (.int .u8 a3)), (4, .sc (.int .u8 a4)), (5, .sc (.int .u8 a5)), (6, .sc (.int .u8 a6)), (7, .sc (.int .u8 a7))] = some (ints .u8 [a0, a1, a2, a3, a4, a5, a6, a7], fun r => .sl r 0 8 1) := bs_ints .u8 52 8 [(0, a0), (1, a1), (2, a2), (3, a3), (4, a4), (5, a5), (6, a6), (7, a7)] zero52 tyOk52 cells52 (by decide) (by simp)
theorem tyOk53 : tyOk Try.prog 53 = true := by kernel_rfl
theorem agg53 : aggB Try.prog 53 = false := by kernel_rfl
theorem cells53 : Try.prog.cellsOf 53 = 1 := by kernel_rfl
theorem isU53 : isU8 Try.prog 53 = true := by kernel_rfl
theorem zero53 : zeroA Try.prog 53 = some [.sc (.int .u8 0)] := by kernel_rfl
theorem info53 : (Try.prog.info? 53).map (·.bytes) = some 1 := by kernel_rfl
theorem mk53 (a b : IntKind) (m : Int) (h0 : 0 ≤ m) (h1 : m ≤ 1000000000000) : mkV Try.prog (some (.slice 53)) (.sc (.int a m)) (.sc (.int b m)) = some (ints .u8 (List.replicate m.toNat 0), fun r => .sl r 0 m.toNat 1) := mk_ints .u8 53 a b m _ zero53 info53 cells53 h0 (by omega) (by omega)
theorem bs53_0 : bsV Try.prog (some (.slice 53)) 0 [] = some (ints .u8 [], fun r => .sl r 0 0 1) := bs_ints .u8 53 0 [] zero53 tyOk53 cells53 (by decide) (by simp)
theorem bs53_1 (a0 : Int) : bsV Try.prog (some (.slice 53)) 1 [(0, .sc (.int .u8 a0))] = some (ints .u8 [a0], fun r => .sl r 0 1 1) := bs_ints .u8 53 1 [(0, a0)] zero53 tyOk53 cells53 (by decide) (by simp)
theorem bs53_2 (a0 a1 : Int) : bsV Try.prog (some (.slice 53)) 2 [(0, .sc (.int .u8 a0)), (1, .sc (.int .u8 a1))] = some (ints .u8 [a0, a1], fun r => .sl r 0 2 1) := bs_ints .u8 53 2 [(0, a0), (1, a1)] zero53 tyOk53 cells53 (by decide) (by simp)
theorem bs53_3 (a0 a1 a2 : Int) : bsV Try.prog (some (.slice 53)) 3 [(0, .sc (.int .u8 a0)), (1, .sc (.int .u8 a1)), (2, .sc (.int .u8 a2))] = some (ints .u8 [a0, a1, a2], fun r => .sl r 0 3 1) := bs_ints .u8 53 3 [(0, a0), (1, a1), (2, a2)] zero53 tyOk53 cells53 (by decide) (by simp)
theorem bs53_4 (a0 a1 a2 a3 : Int) : bsV Try.prog (some (.slice 53)) 4 [(0, .sc (.int .u8 a0)), (1, .sc (.int .u8 a1)), (2, .sc (.int .u8 a2)), (3, .sc (.int .u8 a3))] = some (ints .u8 [a0, a1, a2, a3], fun r => .sl r 0 4 1) := bs_ints .u8 53 4 [(0, a0), (1, a1), (2, a2), (3, a3)] zero53 tyOk53 cells53 (by decide) (by simp)
theorem bs53_5 (a0 a1 a2 a3 a4 : Int) : bsV Try.prog (some (.slice 53)) 5 [(0, .sc (.int .u8 a0)), (1, .sc (.int .u8 a1)), (2, .sc (.int .u8 a2)), (3, .sc (.int .u8 a3)), (4, .sc (.int .u8 a4))] = some (ints .u8 [a0, a1, a2, a3, a4], fun r => .sl r 0 5 1) := bs_ints .u8 53 5 [(0, a0), (1, a1), (2, a2), (3, a3), (4, a4)] zero53 tyOk53 cells53 (by decide) (by simp)
theorem bs53_8 (a0 a1 a2 a3 a4 a5 a6 a7 : Int) : bsV Try.prog (some (.slice 53)) 8 [(0, .sc (.int .u8 a0)), (1, .sc (.int .u8 a1)), (2, .sc (.int .u8 a2)), (3, .sc (.int .u8 a3)), (4, .sc (.int .u8 a4)), (5, .sc (.int .u8 a5)), (6, .sc (.int .u8 a6)), (7, .sc (.int .u8 a7))] = some (ints .u8 [a0, a1, a2, a3, a4, a5, a6, a7], fun r => .sl r 0 8 1) := bs_ints .u8 53 8 [(0, a0), (1, a1), (2, a2), (3, a3), (4, a4), (5, a5), (6, a6), (7, a7)] zero53 tyOk53 cells53 (by decide) (by simp)
theorem tyOk54 : tyOk Try.prog 54 = true := by kernel_rfl
theorem agg54 : aggB Try.prog 54 = false := by kernel_rfl
theorem cells54 : Try.prog.cellsOf 54 = 1 := by kernel_rfl
theorem tyOk55 : tyOk Try.prog 55 = true := by kernel_rfl
theorem agg55 : aggB Try.prog 55 = false := by kernel_rfl
theorem cells55 : Try.prog.cellsOf 55 = 1 := by kernel_rfl
theorem zero55 : zeroA Try.prog 55 = some [.sc (.pointer none)] := by kernel_rfl
theorem tyOk56 : tyOk Try.prog 56 = true := by kernel_rfl
theorem agg56 : aggB Try.prog 56 = false := by kernel_rfl
theorem cells56 : Try.prog.cellsOf 56 = 1 := by kernel_rfl
theorem zero56 : zeroA Try.prog 56 = some [.sc (.int .i32 0)] := by kernel_rfl
theorem info56 : (Try.prog.info? 56).map (·.bytes) = some 4 := by kernel_rfl
theorem mk56 (a b : IntKind) (m : Int) (h0 : 0 ≤ m) (h1 : m ≤ 1000000000000) : mkV Try.prog (some (.slice 56)) (.sc (.int a m)) (.sc (.int b m)) = some (ints .i32 (List.replicate m.toNat 0), fun r => .sl r 0 m.toNat 1) := mk_ints .i32 56 a b m _ zero56 info56 cells56 h0 (by omega) (by omega)
theorem bs56_0 : bsV Try.prog (some (.slice 56)) 0 [] = some (ints .i32 [], fun r => .sl r 0 0 1) := bs_ints .i32 56 0 [] zero56 tyOk56 cells56 (by decide) (by simp)
theorem bs56_1 (a0 : Int) : bsV Try.prog (some (.slice 56)) 1 [(0, .sc (.int .i32 a0))] = some (ints .i32 [a0], fun r => .sl r 0 1 1) := bs_ints .i32 56 1 [(0, a0)] zero56 tyOk56 cells56 (by decide) (by simp)
theorem bs56_2 (a0 a1 : Int) : bsV Try.prog (some (.slice 56)) 2 [(0, .sc (.int .i32 a0)), (1, .sc (.int .i32 a1))] = some (ints .i32 [a0, a1], fun r => .sl r 0 2 1) := bs_ints .i32 56 2 [(0, a0), (1, a1)] zero56 tyOk56 cells56 (by decide) (by simp)
theorem bs56_3 (a0 a1 a2 : Int) : bsV Try.prog (some (.slice 56)) 3 [(0, .sc (.int .i32 a0)), (1, .sc (.int .i32 a1)), (2, .sc (.int .i32 a2))] = some (ints .i32 [a0, a1, a2], fun r => .sl r 0 3 1) := bs_ints .i32 56 3 [(0, a0), (1, a1), (2, a2)] zero56 tyOk56 cells56 (by decide) (by simp)
theorem bs56_4 (a0 a1 a2 a3 : Int) : bsV Try.prog (some (.slice 56)) 4 [(0, .sc (.int .i32 a0)), (1, .sc (.int .i32 a1)), (2, .sc (.int .i32 a2)), (3, .sc (.int .i32 a3))] = some (ints .i32 [a0, a1, a2, a3], fun r => .sl r 0 4 1) := bs_ints .i32 56 4 [(0, a0), (1, a1), (2, a2), (3, a3)] zero56 tyOk56 cells56 (by decide) (by simp)
theorem bs56_5 (a0 a1 a2 a3 a4 : Int) : bsV Try.prog (some (.slice 56)) 5 [(0, .sc (.int .i32 a0)), (1, .sc (.int .i32 a1)), (2, .sc (.int .i32 a2)), (3, .sc (.int .i32 a3)), (4, .sc (.int .i32 a4))] = some (ints .i32 [a0, a1, a2, a3, a4], fun r => .sl r 0 5 1) := bs_ints .i32 56 5 [(0, a0), (1, a1), (2, a2), (3, a3), (4, a4)] zero56 tyOk56 cells56 (by decide) (by simp)
theorem bs56_8 (a0 a1 a2 a3 a4 a5 a6 a7 : Int) : bsV Try.prog (some (.slice 56)) 8 [(0, .sc (.int .i32 a0)), (1, .sc (.int .i32 a1)), (2, .sc (.int .i32 a2)), (3, .sc (.int .i32 a3)), (4, .sc (.int .i32 a4)), (5, .sc (.int .i32 a5)), (6, .sc (.int .i32 a6)), (7, .sc (.int .i32 a7))] = some (ints .i32 [a0, a1, a2, a3, a4, a5, a6, a7], fun r => .sl r 0 8 1) := bs_ints .i32 56 8 [(0, a0), (1, a1), (2, a2), (3, a3), (4, a4), (5, a5), (6, a6), (7, a7)] zero56 tyOk56 cells56 (by decide) (by simp)
theorem tyOk57 : tyOk Try.prog 57 = true := by kernel_rfl
theorem agg57 : aggB Try.prog 57 = false := by kernel_rfl
theorem cells57 : Try.prog.cellsOf 57 = 1 := by kernel_rfl
theorem zero57 : zeroA Try.prog 57 = some [.sc (.int .i32 0)] := by kernel_rfl
theorem info57 : (Try.prog.info? 57).map (·.bytes) = some 4 := by kernel_rfl
theorem mk57 (a b : IntKind) (m : Int) (h0 : 0 ≤ m) (h1 : m ≤ 1000000000000) : mkV Try.prog (some (.slice 57)) (.sc (.int a m)) (.sc (.int b m)) = some (ints .i32 (List.replicate m.toNat 0), fun r => .sl r 0 m.toNat 1) := mk_ints .i32 57 a b m _ zero57 info57 cells57 h0 (by omega) (by omega)
theorem bs57_0 : bsV Try.prog (some (.slice 57)) 0 [] = some (ints .i32 [], fun r => .sl r 0 0 1) := bs_ints .i32 57 0 [] zero57 tyOk57 cells57 (by decide) (by simp)
theorem bs57_1 (a0 : Int) : bsV Try.prog (some (.slice 57)) 1 [(0, .sc (.int .i32 a0))] = some (ints .i32 [a0], fun r => .sl r 0 1 1) := bs_ints .i32 57 1 [(0, a0)] zero57 tyOk57 cells57 (by decide) (by simp)
theorem bs57_2 (a0 a1 : Int) : bsV Try.prog (some (.slice 57)) 2 [(0, .sc (.int .i32 a0)), (1, .sc (.int .i32 a1))] = some (ints .i32 [a0, a1], fun r => .sl r 0 2 1) := bs_ints .i32 57 2 [(0, a0), (1, a1)] zero57 tyOk57 cells57 (by decide) (by simp)
theorem bs57_3 (a0 a1 a2 : Int) : bsV Try.prog (some (.slice 57)) 3 [(0, .sc (.int .i32 a0)), (1, .sc (.int .i32 a1)), (2, .sc (.int .i32 a2))] = some (ints .i32 [a0, a1, a2], fun r => .sl r 0 3 1) := bs_ints .i32 57 3 [(0, a0), (1, a1), (2, a2)] zero57 tyOk57 cells57 (by decide) (by simp)
theorem bs57_4 (a0 a1 a2 a3 : Int) : bsV Try.prog (some (.slice 57)) 4 [(0, .sc (.int .i32 a0)), (1, .sc (.int .i32 a1)), (2, .sc (.int .i32 a2)), (3, .sc (.int .i32 a3))] = some (ints .i32 [a0, a1, a2, a3], fun r => .sl r 0 4 1) := bs_ints .i32 57 4 [(0, a0), (1, a1), (2, a2), (3, a3)] zero57 tyOk57 cells57 (by decide) (by simp)
theorem bs57_5 (a0 a1 a2 a3 a4 : Int) : bsV Try.prog (some (.slice 57)) 5 [(0, .sc (.int .i32 a0)), (1, .sc (.int .i32 a1)), (2, .sc (.int .i32 a2)), (3, .sc (.int .i32 a3)), (4, .sc (.int .i32 a4))] = some (ints .i32 [a0, a1, a2, a3, a4], fun r => .sl r 0 5 1) := bs_ints .i32 57 5 [(0, a0), (1, a1), (2, a2), (3, a3), (4, a4)] zero57 tyOk57 cells57 (by decide) (by simp)
theorem bs57_8 (a0 a1 a2 a3 a4 a5 a6 a7 : Int) : bsV Try.prog (some (.slice 57)) 8 [(0, .sc (.int .i32 a0)), (1, .sc (.int .i32 a1)), (2, .sc (.int .i32 a2)), (3, .sc (.int .i32 a3)), (4, .sc (.int .i32 a4)), (5, .sc (.int .i32 a5)), (6, .sc (.int .i32 a6)), (7, .sc (.int .i32 a7))] = some (ints .i32 [a0, a1, a2, a3, a4, a5, a6, a7], fun r => .sl r 0 8 1) := bs_ints .i32 57 8 [(0, a0), (1, a1), (2, a2), (3, a3), (4, a4), (5, a5), (6, a6), (7, a7)] zero57 tyOk57 cells57 (by decide) (by simp)
theorem tyOk58 : tyOk Try.prog 58 = true := by kernel_rfl
theorem agg58 : aggB Try.prog 58 = true := by kernel_rfl
theorem cells58 : Try.prog.cellsOf 58 = 11 := by kernel_rfl
theorem tyOk59 : tyOk Try.prog 59 = true := by kernel_rfl
theorem agg59 : aggB Try.prog 59 = true := by kernel_rfl
theorem cells59 : Try.prog.cellsOf 59 = 11 := by kernel_rfl
theorem tyOk60 : tyOk Try.prog 60 = true := by kernel_rfl
theorem agg60 : aggB Try.prog 60 = false := by kernel_rfl
theorem cells60 : Try.prog.cellsOf 60 = 1 := by kernel_rfl
theorem zero60 : zeroA Try.prog 60 = some [.sc (.pointer none)] := by kernel_rfl
theorem apS40 (r len : Nat) (x : AV) (H : AHeap) : apV Try.prog (some (.slice 5)) (some (.slice 5)) (.sl r 0 len 1) x H = apT 1 H r len H[r]? (srcCells H x 1) := ap_sl zero5 info5 cells5 rfl r len x
theorem apN40 (x : AV) (H : AHeap) : apV Try.prog (some (.slice 5)) (some (.slice 5)) (.sc (.slice none 0 0)) x H = apN 1 H (srcCells H x 1) := ap_nil zero5 info5 cells5 rfl x
theorem apStr40 (r len : Nat) (x : AV) (H : AHeap) : apV Try.prog (some (.slice 5)) (some .string) (.sl r 0 len 1) x H = apT 1 H r len H[r]? (srcCells H x 1) := ap_sl zero5 info5 cells5 rfl r len x
theorem fadr7_0 (r off : Nat) : fadrT Try.prog 7 (.ptr r off) 0 = some (.ptr r (off + 0)) := fadr_st Try.underlying7 rfl tyOk2 (by rw [cells2]; decide) r off
theorem fld7_0 (cs : List AV) : fldT Try.prog 7 (.agg cs) 0 = cs[0]? := fld_one Try.underlying7 rfl tyOk2 agg2 cs
theorem fadr7_1 (r off : Nat) : fadrT Try.prog 7 (.ptr r off) 1 = some (.ptr r (off + 1)) := fadr_st Try.underlying7 rfl tyOk3 (by rw [cells3]; decide) r off
theorem fld7_1 (cs : List AV) : fldT Try.prog 7 (.agg cs) 1 = cs[1]? := fld_one Try.underlying7 rfl tyOk3 agg3 cs
theorem fadr7_2 (r off : Nat) : fadrT Try.prog 7 (.ptr r off) 2 = some (.ptr r (off + 2)) := fadr_st Try.underlying7 rfl tyOk4 (by rw [cells4]; decide) r off
theorem fld7_2 (cs : List AV) : fldT Try.prog 7 (.agg cs) 2 = cs[2]? := fld_one Try.underlying7 rfl tyOk4 agg4 cs
theorem fadr7_3 (r off : Nat) : fadrT Try.prog 7 (.ptr r off) 3 = some (.ptr r (off + 3)) := fadr_st Try.underlying7 rfl tyOk6 (by rw [cells6]; decide) r off
theorem fld7_3 (cs : List AV) : fldT Try.prog 7 (.agg cs) 3 = cs[3]? := fld_one Try.underlying7 rfl tyOk6 agg6 cs
theorem bz7 : buildV Try.prog 7 [] = some (.agg [.sc (.int .i64 0), .sc (.int .i64 0), .sc (.bool false), .sc (.int .u8 0)]) := by simp [buildV, Try.underlying7, zero7, fillA, tyOk2, cells2, tyOk3, cells3, tyOk4, cells4, tyOk6, cells6]
theorem bds7 (v0 v1 v2 v3 : AV) (hv0 : v0.cells = [v0]) (hv1 : v1.cells = [v1]) (hv2 : v2.cells = [v2]) (hv3 : v3.cells = [v3]) : buildV Try.prog 7 [(0, v0), (1, v1), (2, v2), (3, v3)] = some (.agg [v0, v1, v2, v3]) := by simp [buildV, Try.underlying7, zero7, fillA, placeS, overA, tyOk2, cells2, tyOk3, cells3, tyOk4, cells4, tyOk6, cells6, hv0, hv1, hv2, hv3]
theorem fadr8_0 (r off : Nat) : fadrT Try.prog 8 (.ptr r off) 0 = some (.ptr r (off + 0)) := fadr_st Try.underlying8 rfl tyOk2 (by rw [cells2]; decide) r off
theorem fld8_0 (cs : List AV) : fldT Try.prog 8 (.agg cs) 0 = cs[0]? := fld_one Try.underlying8 rfl tyOk2 agg2 cs
theorem fadr8_1 (r off : Nat) : fadrT Try.prog 8 (.ptr r off) 1 = some (.ptr r (off + 1)) := fadr_st Try.underlying8 rfl tyOk3 (by rw [cells3]; decide) r off
theorem fld8_1 (cs : List AV) : fldT Try.prog 8 (.agg cs) 1 = cs[1]? := fld_one Try.underlying8 rfl tyOk3 agg3 cs
theorem fadr8_2 (r off : Nat) : fadrT Try.prog 8 (.ptr r off) 2 = some (.ptr r (off + 2)) := fadr_st Try.underlying8 rfl tyOk4 (by rw [cells4]; decide) r off
theorem fld8_2 (cs : List AV) : fldT Try.prog 8 (.agg cs) 2 = cs[2]? := fld_one Try.underlying8 rfl tyOk4 agg4 cs
theorem fadr8_3 (r off : Nat) : fadrT Try.prog 8 (.ptr r off) 3 = some (.ptr r (off + 3)) := fadr_st Try.underlying8 rfl tyOk6 (by rw [cells6]; decide) r off
theorem fld8_3 (cs : List AV) : fldT Try.prog 8 (.agg cs) 3 = cs[3]? := fld_one Try.underlying8 rfl tyOk6 agg6 cs
theorem bz8 : buildV Try.prog 8 [] = some (.agg [.sc (.int .i64 0), .sc (.int .i64 0), .sc (.bool false), .sc (.int .u8 0)]) := by simp [buildV, Try.underlying8, zero8, fillA, tyOk2, cells2, tyOk3, cells3, tyOk4, cells4, tyOk6, cells6]
theorem bds8 (v0 v1 v2 v3 : AV) (hv0 : v0.cells = [v0]) (hv1 : v1.cells = [v1]) (hv2 : v2.cells = [v2]) (hv3 : v3.cells = [v3]) : buildV Try.prog 8 [(0, v0), (1, v1), (2, v2), (3, v3)] = some (.agg [v0, v1, v2, v3]) := by simp [buildV, Try.underlying8, zero8, fillA, placeS, overA, tyOk2, cells2, tyOk3, cells3, tyOk4, cells4, tyOk6, cells6, hv0, hv1, hv2, hv3]
theorem fadr13_0 (r off : Nat) : fadrT Try.prog 13 (.ptr r off) 0 = some (.ptr r (off + 0)) := fadr_st Try.underlying13 rfl tyOk9 (by rw [cells9]; decide) r off
theorem fld13_0 (cs : List AV) : fldT Try.prog 13 (.agg cs) 0 = cs[0]? := fld_one Try.underlying13 rfl tyOk9 agg9 cs
theorem fadr13_1 (r off : Nat) : fadrT Try.prog 13 (.ptr r off) 1 = some (.ptr r (off + 1)) := fadr_st Try.underlying13 rfl tyOk12 (by rw [cells12]; decide) r off
theorem fld13_1 (cs : List AV) : fldT Try.prog 13 (.agg cs) 1 = cs[1]? := fld_one Try.underlying13 rfl tyOk12 agg12 cs
theorem bz13 : buildV Try.prog 13 [] = some (.agg [.sc (.string ByteArray.empty), .sc (.int .u64 0)]) := by simp [buildV, Try.underlying13, zero13, fillA, tyOk9, cells9, tyOk12, cells12]
theorem bds13 (v0 v1 : AV) (hv0 : v0.cells = [v0]) (hv1 : v1.cells = [v1]) : buildV Try.prog 13 [(0, v0), (1, v1)] = some (.agg [v0, v1]) := by simp [buildV, Try.underlying13, zero13, fillA, placeS, overA, tyOk9, cells9, tyOk12, cells12, hv0, hv1]
theorem fadr14_0 (r off : Nat) : fadrT Try.prog 14 (.ptr r off) 0 = some (.ptr r (off + 0)) := fadr_st Try.underlying14 rfl tyOk9 (by rw [cells9]; decide) r off
theorem fld14_0 (cs : List AV) : fldT Try.prog 14 (.agg cs) 0 = cs[0]? := fld_one Try.underlying14 rfl tyOk9 agg9 cs
theorem fadr14_1 (r off : Nat) : fadrT Try.prog 14 (.ptr r off) 1 = some (.ptr r (off + 1)) := fadr_st Try.underlying14 rfl tyOk12 (by rw [cells12]; decide) r off
theorem fld14_1 (cs : List AV) : fldT Try.prog 14 (.agg cs) 1 = cs[1]? := fld_one Try.underlying14 rfl tyOk12 agg12 cs
theorem bz14 : buildV Try.prog 14 [] = some (.agg [.sc (.string ByteArray.empty), .sc (.int .u64 0)]) := by simp [buildV, Try.underlying14, zero14, fillA, tyOk9, cells9, tyOk12, cells12]
theorem bds14 (v0 v1 : AV) (hv0 : v0.cells = [v0]) (hv1 : v1.cells = [v1]) : buildV Try.prog 14 [(0, v0), (1, v1)] = some (.agg [v0, v1]) := by simp [buildV, Try.underlying14, zero14, fillA, placeS, overA, tyOk9, cells9, tyOk12, cells12, hv0, hv1]
theorem fadr18_0 (r off : Nat) : fadrT Try.prog 18 (.ptr r off) 0 = some (.ptr r (off + 0)) := fadr_st Try.underlying18 rfl tyOk17 (by rw [cells17]; decide) r off
theorem fld18_0 (cs : List AV) : fldT Try.prog 18 (.agg cs) 0 = cs[0]? := fld_one Try.underlying18 rfl tyOk17 agg17 cs
theorem bz18 : buildV Try.prog 18 [] = some (.agg [.sc (.pointer none)]) := by simp [buildV, Try.underlying18, zero18, fillA, tyOk17, cells17]
theorem bds18 (v0 : AV) (hv0 : v0.cells = [v0]) : buildV Try.prog 18 [(0, v0)] = some (.agg [v0]) := by simp [buildV, Try.underlying18, zero18, fillA, placeS, overA, tyOk17, cells17, hv0]
theorem fadr19_0 (r off : Nat) : fadrT Try.prog 19 (.ptr r off) 0 = some (.ptr r (off + 0)) := fadr_st Try.underlying19 rfl tyOk17 (by rw [cells17]; decide) r off
theorem fld19_0 (cs : List AV) : fldT Try.prog 19 (.agg cs) 0 = cs[0]? := fld_one Try.underlying19 rfl tyOk17 agg17 cs
theorem bz19 : buildV Try.prog 19 [] = some (.agg [.sc (.pointer none)]) := by simp [buildV, Try.underlying19, zero19, fillA, tyOk17, cells17]
theorem bds19 (v0 : AV) (hv0 : v0.cells = [v0]) : buildV Try.prog 19 [(0, v0)] = some (.agg [v0]) := by simp [buildV, Try.underlying19, zero19, fillA, placeS, overA, tyOk17, cells17, hv0]
theorem fadr28_0 (r off : Nat) : fadrT Try.prog 28 (.ptr r off) 0 = some (.ptr r (off + 0)) := fadr_st Try.underlying28 rfl tyOk3 (by rw [cells3]; decide) r off
theorem fld28_0 (cs : List AV) : fldT Try.prog 28 (.agg cs) 0 = cs[0]? := fld_one Try.underlying28 rfl tyOk3 agg3 cs
theorem fadr28_1 (r off : Nat) : fadrT Try.prog 28 (.ptr r off) 1 = some (.ptr r (off + 1)) := fadr_st Try.underlying28 rfl tyOk3 (by rw [cells3]; decide) r off
theorem fld28_1 (cs : List AV) : fldT Try.prog 28 (.agg cs) 1 = cs[1]? := fld_one Try.underlying28 rfl tyOk3 agg3 cs
theorem fadr28_2 (r off : Nat) : fadrT Try.prog 28 (.ptr r off) 2 = some (.ptr r (off + 2)) := fadr_st Try.underlying28 rfl tyOk3 (by rw [cells3]; decide) r off
theorem fld28_2 (cs : List AV) : fldT Try.prog 28 (.agg cs) 2 = cs[2]? := fld_one Try.underlying28 rfl tyOk3 agg3 cs
theorem fadr28_3 (r off : Nat) : fadrT Try.prog 28 (.ptr r off) 3 = some (.ptr r (off + 3)) := fadr_st Try.underlying28 rfl tyOk9 (by rw [cells9]; decide) r off
theorem fld28_3 (cs : List AV) : fldT Try.prog 28 (.agg cs) 3 = cs[3]? := fld_one Try.underlying28 rfl tyOk9 agg9 cs
theorem bz28 : buildV Try.prog 28 [] = some (.agg [.sc (.int .i64 0), .sc (.int .i64 0), .sc (.int .i64 0), .sc (.string ByteArray.empty)]) := by simp [buildV, Try.underlying28, zero28, fillA, tyOk3, cells3, tyOk3, cells3, tyOk3, cells3, tyOk9, cells9]
theorem bds28 (v0 v1 v2 v3 : AV) (hv0 : v0.cells = [v0]) (hv1 : v1.cells = [v1]) (hv2 : v2.cells = [v2]) (hv3 : v3.cells = [v3]) : buildV Try.prog 28 [(0, v0), (1, v1), (2, v2), (3, v3)] = some (.agg [v0, v1, v2, v3]) := by simp [buildV, Try.underlying28, zero28, fillA, placeS, overA, tyOk3, cells3, tyOk3, cells3, tyOk3, cells3, tyOk9, cells9, hv0, hv1, hv2, hv3]
theorem fadr29_0 (r off : Nat) : fadrT Try.prog 29 (.ptr r off) 0 = some (.ptr r (off + 0)) := fadr_st Try.underlying29 rfl tyOk3 (by rw [cells3]; decide) r off
theorem fld29_0 (cs : List AV) : fldT Try.prog 29 (.agg cs) 0 = cs[0]? := fld_one Try.underlying29 rfl tyOk3 agg3 cs
theorem fadr29_1 (r off : Nat) : fadrT Try.prog 29 (.ptr r off) 1 = some (.ptr r (off + 1)) := fadr_st Try.underlying29 rfl tyOk3 (by rw [cells3]; decide) r off
theorem fld29_1 (cs : List AV) : fldT Try.prog 29 (.agg cs) 1 = cs[1]? := fld_one Try.underlying29 rfl tyOk3 agg3 cs
theorem fadr29_2 (r off : Nat) : fadrT Try.prog 29 (.ptr r off) 2 = some (.ptr r (off + 2)) := fadr_st Try.underlying29 rfl tyOk3 (by rw [cells3]; decide) r off
theorem fld29_2 (cs : List AV) : fldT Try.prog 29 (.agg cs) 2 = cs[2]? := fld_one Try.underlying29 rfl tyOk3 agg3 cs
theorem fadr29_3 (r off : Nat) : fadrT Try.prog 29 (.ptr r off) 3 = some (.ptr r (off + 3)) := fadr_st Try.underlying29 rfl tyOk9 (by rw [cells9]; decide) r off
theorem fld29_3 (cs : List AV) : fldT Try.prog 29 (.agg cs) 3 = cs[3]? := fld_one Try.underlying29 rfl tyOk9 agg9 cs
theorem bz29 : buildV Try.prog 29 [] = some (.agg [.sc (.int .i64 0), .sc (.int .i64 0), .sc (.int .i64 0), .sc (.string ByteArray.empty)]) := by simp [buildV, Try.underlying29, zero29, fillA, tyOk3, cells3, tyOk3, cells3, tyOk3, cells3, tyOk9, cells9]
theorem bds29 (v0 v1 v2 v3 : AV) (hv0 : v0.cells = [v0]) (hv1 : v1.cells = [v1]) (hv2 : v2.cells = [v2]) (hv3 : v3.cells = [v3]) : buildV Try.prog 29 [(0, v0), (1, v1), (2, v2), (3, v3)] = some (.agg [v0, v1, v2, v3]) := by simp [buildV, Try.underlying29, zero29, fillA, placeS, overA, tyOk3, cells3, tyOk3, cells3, tyOk3, cells3, tyOk9, cells9, hv0, hv1, hv2, hv3]
theorem fadr32_0 (r off : Nat) : fadrT Try.prog 32 (.ptr r off) 0 = some (.ptr r (off + 0)) := fadr_st Try.underlying32 rfl tyOk3 (by rw [cells3]; decide) r off
theorem fld32_0 (cs : List AV) : fldT Try.prog 32 (.agg cs) 0 = cs[0]? := fld_one Try.underlying32 rfl tyOk3 agg3 cs
theorem fadr32_1 (r off : Nat) : fadrT Try.prog 32 (.ptr r off) 1 = some (.ptr r (off + 1)) := fadr_st Try.underlying32 rfl tyOk3 (by rw [cells3]; decide) r off
theorem fld32_1 (cs : List AV) : fldT Try.prog 32 (.agg cs) 1 = cs[1]? := fld_one Try.underlying32 rfl tyOk3 agg3 cs
theorem fadr32_2 (r off : Nat) : fadrT Try.prog 32 (.ptr r off) 2 = some (.ptr r (off + 2)) := fadr_st Try.underlying32 rfl tyOk3 (by rw [cells3]; decide) r off
theorem fld32_2 (cs : List AV) : fldT Try.prog 32 (.agg cs) 2 = cs[2]? := fld_one Try.underlying32 rfl tyOk3 agg3 cs
theorem fadr32_3 (r off : Nat) : fadrT Try.prog 32 (.ptr r off) 3 = some (.ptr r (off + 3)) := fadr_st Try.underlying32 rfl tyOk9 (by rw [cells9]; decide) r off
theorem fld32_3 (cs : List AV) : fldT Try.prog 32 (.agg cs) 3 = cs[3]? := fld_one Try.underlying32 rfl tyOk9 agg9 cs
theorem bz32 : buildV Try.prog 32 [] = some (.agg [.sc (.int .i64 0), .sc (.int .i64 0), .sc (.int .i64 0), .sc (.string ByteArray.empty)]) := by simp [buildV, Try.underlying32, zero32, fillA, tyOk3, cells3, tyOk3, cells3, tyOk3, cells3, tyOk9, cells9]
theorem bds32 (v0 v1 v2 v3 : AV) (hv0 : v0.cells = [v0]) (hv1 : v1.cells = [v1]) (hv2 : v2.cells = [v2]) (hv3 : v3.cells = [v3]) : buildV Try.prog 32 [(0, v0), (1, v1), (2, v2), (3, v3)] = some (.agg [v0, v1, v2, v3]) := by simp [buildV, Try.underlying32, zero32, fillA, placeS, overA, tyOk3, cells3, tyOk3, cells3, tyOk3, cells3, tyOk9, cells9, hv0, hv1, hv2, hv3]
theorem fadr45_0 (r off : Nat) : fadrT Try.prog 45 (.ptr r off) 0 = some (.ptr r (off + 0)) := fadr_st Try.underlying45 rfl tyOk17 (by rw [cells17]; decide) r off
theorem fld45_0 (cs : List AV) : fldT Try.prog 45 (.agg cs) 0 = cs[0]? := fld_one Try.underlying45 rfl tyOk17 agg17 cs
theorem fadr45_1 (r off : Nat) : fadrT Try.prog 45 (.ptr r off) 1 = some (.ptr r (off + 1)) := fadr_st Try.underlying45 rfl tyOk17 (by rw [cells17]; decide) r off
theorem fld45_1 (cs : List AV) : fldT Try.prog 45 (.agg cs) 1 = cs[1]? := fld_one Try.underlying45 rfl tyOk17 agg17 cs
theorem fadr45_2 (r off : Nat) : fadrT Try.prog 45 (.ptr r off) 2 = some (.ptr r (off + 2)) := fadr_st Try.underlying45 rfl tyOk17 (by rw [cells17]; decide) r off
theorem fld45_2 (cs : List AV) : fldT Try.prog 45 (.agg cs) 2 = cs[2]? := fld_one Try.underlying45 rfl tyOk17 agg17 cs
theorem fadr45_3 (r off : Nat) : fadrT Try.prog 45 (.ptr r off) 3 = some (.ptr r (off + 3)) := fadr_st Try.underlying45 rfl tyOk9 (by rw [cells9]; decide) r off
theorem fld45_3 (cs : List AV) : fldT Try.prog 45 (.agg cs) 3 = cs[3]? := fld_one Try.underlying45 rfl tyOk9 agg9 cs
theorem bz45 : buildV Try.prog 45 [] = some (.agg [.sc (.pointer none), .sc (.pointer none), .sc (.pointer none), .sc (.string ByteArray.empty)]) := by simp [buildV, Try.underlying45, zero45, fillA, tyOk17, cells17, tyOk17, cells17, tyOk17, cells17, tyOk9, cells9]
theorem bds45 (v0 v1 v2 v3 : AV) (hv0 : v0.cells = [v0]) (hv1 : v1.cells = [v1]) (hv2 : v2.cells = [v2]) (hv3 : v3.cells = [v3]) : buildV Try.prog 45 [(0, v0), (1, v1), (2, v2), (3, v3)] = some (.agg [v0, v1, v2, v3]) := by simp [buildV, Try.underlying45, zero45, fillA, placeS, overA, tyOk17, cells17, tyOk17, cells17, tyOk17, cells17, tyOk9, cells9, hv0, hv1, hv2, hv3]
theorem fadr46_0 (r off : Nat) : fadrT Try.prog 46 (.ptr r off) 0 = some (.ptr r (off + 0)) := fadr_st Try.underlying46 rfl tyOk17 (by rw [cells17]; decide) r off
theorem fld46_0 (cs : List AV) : fldT Try.prog 46 (.agg cs) 0 = cs[0]? := fld_one Try.underlying46 rfl tyOk17 agg17 cs
theorem fadr46_1 (r off : Nat) : fadrT Try.prog 46 (.ptr r off) 1 = some (.ptr r (off + 1)) := fadr_st Try.underlying46 rfl tyOk17 (by rw [cells17]; decide) r off
theorem fld46_1 (cs : List AV) : fldT Try.prog 46 (.agg cs) 1 = cs[1]? := fld_one Try.underlying46 rfl tyOk17 agg17 cs
theorem fadr46_2 (r off : Nat) : fadrT Try.prog 46 (.ptr r off) 2 = some (.ptr r (off + 2)) := fadr_st Try.underlying46 rfl tyOk17 (by rw [cells17]; decide) r off
theorem fld46_2 (cs : List AV) : fldT Try.prog 46 (.agg cs) 2 = cs[2]? := fld_one Try.underlying46 rfl tyOk17 agg17 cs
theorem fadr46_3 (r off : Nat) : fadrT Try.prog 46 (.ptr r off) 3 = some (.ptr r (off + 3)) := fadr_st Try.underlying46 rfl tyOk9 (by rw [cells9]; decide) r off
theorem fld46_3 (cs : List AV) : fldT Try.prog 46 (.agg cs) 3 = cs[3]? := fld_one Try.underlying46 rfl tyOk9 agg9 cs
theorem bz46 : buildV Try.prog 46 [] = some (.agg [.sc (.pointer none), .sc (.pointer none), .sc (.pointer none), .sc (.string ByteArray.empty)]) := by simp [buildV, Try.underlying46, zero46, fillA, tyOk17, cells17, tyOk17, cells17, tyOk17, cells17, tyOk9, cells9]
theorem bds46 (v0 v1 v2 v3 : AV) (hv0 : v0.cells = [v0]) (hv1 : v1.cells = [v1]) (hv2 : v2.cells = [v2]) (hv3 : v3.cells = [v3]) : buildV Try.prog 46 [(0, v0), (1, v1), (2, v2), (3, v3)] = some (.agg [v0, v1, v2, v3]) := by simp [buildV, Try.underlying46, zero46, fillA, placeS, overA, tyOk17, cells17, tyOk17, cells17, tyOk17, cells17, tyOk9, cells9, hv0, hv1, hv2, hv3]
theorem fadr58_0 (r off : Nat) : fadrT Try.prog 58 (.ptr r off) 0 = some (.ptr r (off + 0)) := fadr_st Try.underlying58 rfl tyOk12 (by rw [cells12]; decide) r off
theorem fld58_0 (cs : List AV) : fldT Try.prog 58 (.agg cs) 0 = cs[0]? := fld_one Try.underlying58 rfl tyOk12 agg12 cs
theorem fadr58_1 (r off : Nat) : fadrT Try.prog 58 (.ptr r off) 1 = some (.ptr r (off + 1)) := fadr_st Try.underlying58 rfl tyOk12 (by rw [cells12]; decide) r off
theorem fld58_1 (cs : List AV) : fldT Try.prog 58 (.agg cs) 1 = cs[1]? := fld_one Try.underlying58 rfl tyOk12 agg12 cs
theorem fadr58_2 (r off : Nat) : fadrT Try.prog 58 (.ptr r off) 2 = some (.ptr r (off + 2)) := fadr_st Try.underlying58 rfl tyOk51 (by rw [cells51]; decide) r off
theorem fld58_2 (cs : List AV) : fldT Try.prog 58 (.agg cs) 2 = cs[2]? := fld_one Try.underlying58 rfl tyOk51 agg51 cs
theorem fadr58_3 (r off : Nat) : fadrT Try.prog 58 (.ptr r off) 3 = some (.ptr r (off + 3)) := fadr_st Try.underlying58 rfl tyOk52 (by rw [cells52]; decide) r off
theorem fld58_3 (cs : List AV) : fldT Try.prog 58 (.agg cs) 3 = cs[3]? := fld_one Try.underlying58 rfl tyOk52 agg52 cs
theorem fadr58_4 (r off : Nat) : fadrT Try.prog 58 (.ptr r off) 4 = some (.ptr r (off + 4)) := fadr_st Try.underlying58 rfl tyOk5 (by rw [cells5]; decide) r off
theorem fld58_4 (cs : List AV) : fldT Try.prog 58 (.agg cs) 4 = cs[4]? := fld_one Try.underlying58 rfl tyOk5 agg5 cs
theorem fadr58_5 (r off : Nat) : fadrT Try.prog 58 (.ptr r off) 5 = some (.ptr r (off + 5)) := fadr_st Try.underlying58 rfl tyOk5 (by rw [cells5]; decide) r off
theorem fld58_5 (cs : List AV) : fldT Try.prog 58 (.agg cs) 5 = cs[5]? := fld_one Try.underlying58 rfl tyOk5 agg5 cs
theorem fadr58_6 (r off : Nat) : fadrT Try.prog 58 (.ptr r off) 6 = some (.ptr r (off + 6)) := fadr_st Try.underlying58 rfl tyOk53 (by rw [cells53]; decide) r off
theorem fld58_6 (cs : List AV) : fldT Try.prog 58 (.agg cs) 6 = cs[6]? := fld_one Try.underlying58 rfl tyOk53 agg53 cs
theorem fadr58_7 (r off : Nat) : fadrT Try.prog 58 (.ptr r off) 7 = some (.ptr r (off + 7)) := fadr_st Try.underlying58 rfl tyOk54 (by rw [cells54]; decide) r off
theorem fld58_7 (cs : List AV) : fldT Try.prog 58 (.agg cs) 7 = cs[7]? := fld_one Try.underlying58 rfl tyOk54 agg54 cs
theorem fadr58_8 (r off : Nat) : fadrT Try.prog 58 (.ptr r off) 8 = some (.ptr r (off + 8)) := fadr_st Try.underlying58 rfl tyOk55 (by rw [cells55]; decide) r off
theorem fld58_8 (cs : List AV) : fldT Try.prog 58 (.agg cs) 8 = cs[8]? := fld_one Try.underlying58 rfl tyOk55 agg55 cs
theorem fadr58_9 (r off : Nat) : fadrT Try.prog 58 (.ptr r off) 9 = some (.ptr r (off + 9)) := fadr_st Try.underlying58 rfl tyOk56 (by rw [cells56]; decide) r off
theorem fld58_9 (cs : List AV) : fldT Try.prog 58 (.agg cs) 9 = cs[9]? := fld_one Try.underlying58 rfl tyOk56 agg56 cs
theorem fadr58_10 (r off : Nat) : fadrT Try.prog 58 (.ptr r off) 10 = some (.ptr r (off + 10)) := fadr_st Try.underlying58 rfl tyOk57 (by rw [cells57]; decide) r off
theorem fld58_10 (cs : List AV) : fldT Try.prog 58 (.agg cs) 10 = cs[10]? := fld_one Try.underlying58 rfl tyOk57 agg57 cs
theorem fadr59_0 (r off : Nat) : fadrT Try.prog 59 (.ptr r off) 0 = some (.ptr r (off + 0)) := fadr_st Try.underlying59 rfl tyOk12 (by rw [cells12]; decide) r off
theorem fld59_0 (cs : List AV) : fldT Try.prog 59 (.agg cs) 0 = cs[0]? := fld_one Try.underlying59 rfl tyOk12 agg12 cs
theorem fadr59_1 (r off : Nat) : fadrT Try.prog 59 (.ptr r off) 1 = some (.ptr r (off + 1)) := fadr_st Try.underlying59 rfl tyOk12 (by rw [cells12]; decide) r off
theorem fld59_1 (cs : List AV) : fldT Try.prog 59 (.agg cs) 1 = cs[1]? := fld_one Try.underlying59 rfl tyOk12 agg12 cs
theorem fadr59_2 (r off : Nat) : fadrT Try.prog 59 (.ptr r off) 2 = some (.ptr r (off + 2)) := fadr_st Try.underlying59 rfl tyOk51 (by rw [cells51]; decide) r off
theorem fld59_2 (cs : List AV) : fldT Try.prog 59 (.agg cs) 2 = cs[2]? := fld_one Try.underlying59 rfl tyOk51 agg51 cs
theorem fadr59_3 (r off : Nat) : fadrT Try.prog 59 (.ptr r off) 3 = some (.ptr r (off + 3)) := fadr_st Try.underlying59 rfl tyOk52 (by rw [cells52]; decide) r off
theorem fld59_3 (cs : List AV) : fldT Try.prog 59 (.agg cs) 3 = cs[3]? := fld_one Try.underlying59 rfl tyOk52 agg52 cs
theorem fadr59_4 (r off : Nat) : fadrT Try.prog 59 (.ptr r off) 4 = some (.ptr r (off + 4)) := fadr_st Try.underlying59 rfl tyOk5 (by rw [cells5]; decide) r off
theorem fld59_4 (cs : List AV) : fldT Try.prog 59 (.agg cs) 4 = cs[4]? := fld_one Try.underlying59 rfl tyOk5 agg5 cs
theorem fadr59_5 (r off : Nat) : fadrT Try.prog 59 (.ptr r off) 5 = some (.ptr r (off + 5)) := fadr_st Try.underlying59 rfl tyOk5 (by rw [cells5]; decide) r off
theorem fld59_5 (cs : List AV) : fldT Try.prog 59 (.agg cs) 5 = cs[5]? := fld_one Try.underlying59 rfl tyOk5 agg5 cs
theorem fadr59_6 (r off : Nat) : fadrT Try.prog 59 (.ptr r off) 6 = some (.ptr r (off + 6)) := fadr_st Try.underlying59 rfl tyOk53 (by rw [cells53]; decide) r off
theorem fld59_6 (cs : List AV) : fldT Try.prog 59 (.agg cs) 6 = cs[6]? := fld_one Try.underlying59 rfl tyOk53 agg53 cs
theorem fadr59_7 (r off : Nat) : fadrT Try.prog 59 (.ptr r off) 7 = some (.ptr r (off + 7)) := fadr_st Try.underlying59 rfl tyOk54 (by rw [cells54]; decide) r off
theorem fld59_7 (cs : List AV) : fldT Try.prog 59 (.agg cs) 7 = cs[7]? := fld_one Try.underlying59 rfl tyOk54 agg54 cs
theorem fadr59_8 (r off : Nat) : fadrT Try.prog 59 (.ptr r off) 8 = some (.ptr r (off + 8)) := fadr_st Try.underlying59 rfl tyOk55 (by rw [cells55]; decide) r off
theorem fld59_8 (cs : List AV) : fldT Try.prog 59 (.agg cs) 8 = cs[8]? := fld_one Try.underlying59 rfl tyOk55 agg55 cs
theorem fadr59_9 (r off : Nat) : fadrT Try.prog 59 (.ptr r off) 9 = some (.ptr r (off + 9)) := fadr_st Try.underlying59 rfl tyOk56 (by rw [cells56]; decide) r off
theorem fld59_9 (cs : List AV) : fldT Try.prog 59 (.agg cs) 9 = cs[9]? := fld_one Try.underlying59 rfl tyOk56 agg56 cs
theorem fadr59_10 (r off : Nat) : fadrT Try.prog 59 (.ptr r off) 10 = some (.ptr r (off + 10)) := fadr_st Try.underlying59 rfl tyOk57 (by rw [cells57]; decide) r off
theorem fld59_10 (cs : List AV) : fldT Try.prog 59 (.agg cs) 10 = cs[10]? := fld_one Try.underlying59 rfl tyOk57 agg57 cs
theorem follows : Try.prog.follows .mixedOrders = true := by kernel_rfl
end Go.Proofs.Ytjljicfolmdkfaa.Sim
