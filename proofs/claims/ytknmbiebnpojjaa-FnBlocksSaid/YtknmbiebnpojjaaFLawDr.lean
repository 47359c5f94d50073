/- What the drawn laws ask: whether a text is too long; whether numbers are alike. -/
import Derived.Test.YtknmbiebnpojjaaFDraw3
namespace Go.Proofs.Ytknmbiebnpojjaa.Sim
open Go
set_option maxRecDepth 100000
set_option maxHeartbeats 4000000
set_option linter.unusedSimpArgs false
set_option linter.unusedVariables false
theorem bigS {H : AHeap} {x : AV} {L : List Int} (hx : IsL H x .u8 L) : Sound Try.prog 8 [x] H (.sc (.bool (decide ((1048576 : Int) < L.length)))) H := by
  refine Sound.run 6 [.tmp 2] Try.func8 rfl rfl rfl rfl (by simp) ?_
  have lx := fun e => hx.len e
  simp -implicitDefEqProofs only [↓w_seq, ↓w_region, ↓ops_cons, ↓g_assign, ↓ops_nil, ev_const, of_bool, ↓g_move, ↓g_len, Try.underlying22, Nat.reduceLT, ev_tab, ne_eq, reduceCtorEq, not_false_eq_true, upd_ne, par0, upd_eq, lx, ↓g_binOp, of_int, ↓w_ret, ret_one, and_true, onS_some, b_gtr]
theorem bigNo {L : List Int} (h : L.length ≤ 1048576) : decide ((1048576 : Int) < L.length) = false := decide_eq_false (by omega)
theorem bigYes {L : List Int} (h : ¬ L.length ≤ 1048576) : decide ((1048576 : Int) < L.length) = true := decide_eq_true (by omega)
end Go.Proofs.Ytknmbiebnpojjaa.Sim

