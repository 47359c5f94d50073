/- What is shown of a world. By wip/tools/shwgen.py. -/
import Derived.Test.YtfgmmklljibbiaaDoorFShGI
import Derived.Test.YtfgmmklljibbiaaDoorFCli
import Derived.Test.YtfgmmklljibbiaaDoorFRwNL
import Derived.Test.YtfgmmklljibbiaaDoorFRwC
namespace Go.Proofs.YtfgmmklljibbiaaDoor.Sim
open Go
set_option maxRecDepth 100000
set_option maxHeartbeats 40000000
set_option linter.unusedSimpArgs false
set_option linter.unusedVariables false
def Rw.bool {ks : List Kd} (r : Rw ks) (j : Nat) : Bool := match r.val[j]? with | some (.bool b) => b | _ => false
theorem Rw.bool_is {ks : List Kd} (r : Rw ks) (j : Nat) (h : ks[j]? = some .b) : r.cs[j]? = some (.sc (.bool (r.bool j))) := by
  have hl : j < r.val.length := by rw [r.ok.1]; exact (List.getElem?_eq_some_iff.1 h).1
  have hv := List.getElem?_eq_getElem hl
  obtain ⟨b, hb⟩ := r.ok.2 j _ _ h hv
  rw [hb] at hv
  have e : r.bool j = b := by simp only [Rw.bool, hv]
  rw [e, Rw.cs, List.getElem?_map, hv]
  rfl
def clOf (r : Rw kClient) : Cl := ⟨r.int 0, r.int 1, r.int 2, r.int 3, r.int 4, r.bool 5, r.int 6, r.int 7, r.int 8, r.int 9, r.int 10, r.int 11, r.int 12, r.int 13, r.int 14, r.int 15, r.int 16, r.int 17, r.int 18, r.int 19, r.int 20, r.int 21, r.int 22⟩
theorem cl_cs (r : Rw kClient) : r.cs = [.sc (.int .i64 (r.int 0)), .sc (.int .i64 (r.int 1)), .sc (.int .i64 (r.int 2)), .sc (.int .i64 (r.int 3)), .sc (.int .i64 (r.int 4)), .sc (.bool (r.bool 5)), .sc (.int .i64 (r.int 6)), .sc (.int .i64 (r.int 7)), .sc (.int .i64 (r.int 8)), .sc (.int .i64 (r.int 9)), .sc (.int .i64 (r.int 10)), .sc (.int .i64 (r.int 11)), .sc (.int .i64 (r.int 12)), .sc (.int .i64 (r.int 13)), .sc (.int .i64 (r.int 14)), .sc (.int .i64 (r.int 15)), .sc (.int .i64 (r.int 16)), .sc (.int .i64 (r.int 17)), .sc (.int .i64 (r.int 18)), .sc (.int .i64 (r.int 19)), .sc (.int .i64 (r.int 20)), .sc (.int .i64 (r.int 21)), .sc (.int .i64 (r.int 22))] := by
  have e0 := (r.int_at 0 (k := .i64) rfl).1
  have e1 := (r.int_at 1 (k := .i64) rfl).1
  have e2 := (r.int_at 2 (k := .i64) rfl).1
  have e3 := (r.int_at 3 (k := .i64) rfl).1
  have e4 := (r.int_at 4 (k := .i64) rfl).1
  have e5 := r.bool_is 5 rfl
  have e6 := (r.int_at 6 (k := .i64) rfl).1
  have e7 := (r.int_at 7 (k := .i64) rfl).1
  have e8 := (r.int_at 8 (k := .i64) rfl).1
  have e9 := (r.int_at 9 (k := .i64) rfl).1
  have e10 := (r.int_at 10 (k := .i64) rfl).1
  have e11 := (r.int_at 11 (k := .i64) rfl).1
  have e12 := (r.int_at 12 (k := .i64) rfl).1
  have e13 := (r.int_at 13 (k := .i64) rfl).1
  have e14 := (r.int_at 14 (k := .i64) rfl).1
  have e15 := (r.int_at 15 (k := .i64) rfl).1
  have e16 := (r.int_at 16 (k := .i64) rfl).1
  have e17 := (r.int_at 17 (k := .i64) rfl).1
  have e18 := (r.int_at 18 (k := .i64) rfl).1
  have e19 := (r.int_at 19 (k := .i64) rfl).1
  have e20 := (r.int_at 20 (k := .i64) rfl).1
  have e21 := (r.int_at 21 (k := .i64) rfl).1
  have e22 := (r.int_at 22 (k := .i64) rfl).1
  have hl := r.cs_len
  generalize r.cs = z at *
  match z, hl with
  | [x0, x1, x2, x3, x4, x5, x6, x7, x8, x9, x10, x11, x12, x13, x14, x15, x16, x17, x18, x19, x20, x21, x22], _ =>
    simp only [List.getElem?_cons_zero, List.getElem?_cons_succ, Option.some.injEq] at e0 e1 e2 e3 e4 e5 e6 e7 e8 e9 e10 e11 e12 e13 e14 e15 e16 e17 e18 e19 e20 e21 e22
    rw [e0, e1, e2, e3, e4, e5, e6, e7, e8, e9, e10, e11, e12, e13, e14, e15, e16, e17, e18, e19, e20, e21, e22]
theorem clOf_cs (r : Rw kClient) : r.cs = (clOf r).cs := cl_cs r
theorem cl_n (r : Rw kClient) : (clOf r).n ≤ 9223372036854775807 := wf_le (r.int_at 0 rfl).2
theorem cl_le (r : Rw kClient) : (clOf r).le ≤ 9223372036854775807 := wf_le (r.int_at 10 rfl).2
def clsT (l : List (Rw kClient)) : ByteArray := l.foldl (fun a r => a ++ cliT (clOf r)) ByteArray.empty
theorem clsT_s (l : List (Rw kClient)) (i : Nat) (r : Rw kClient) (h : l[i]? = some r) : clsT (l.take (i + 1)) = clsT (l.take i) ++ cliT (clOf r) := by
  simp only [clsT, List.take_add_one, h, List.foldl_append]
  rfl
theorem clsT_size' (P : ByteArray) : ∀ l : List (Rw kClient), (l.foldl (fun a r => a ++ cliT (clOf r)) P).size ≤ P.size + 60 * l.length := by
  intro l
  induction l generalizing P with
  | nil => exact Nat.le_refl _
  | cons r l ih =>
    have := ih (P ++ cliT (clOf r))
    have h := cliT_size (clOf r) (cl_n r) (cl_le r)
    simp only [List.foldl_cons, List.length_cons, ByteArray.size_append] at *
    omega
theorem clsT_size (l : List (Rw kClient)) : (clsT l).size ≤ 60 * l.length := by
  have := clsT_size' ByteArray.empty l
  simpa [clsT] using this
def worldT (lb : List (Rw kClient)) (G : ByteArray) (np : Nat) : ByteArray := clsT lb ++ G ++ (⟨#[103, 111, 116, 32]⟩ : ByteArray) ++ decT np ++ (⟨#[10]⟩ : ByteArray)
theorem zg4 : ((⟨#[103, 111, 116, 32]⟩ : ByteArray)).size = 4 := rfl
theorem showWorldS {H : AHeap} {xa xb xd xe xf xg xh xi xj xk xl xm xo xp xq : AV} {lb : List (Rw kClient)} {le : List (Rw kSess)} {lh : List (Rw kOut)} {lp : List (Rw kNote)} (n nx dr nw dw : Int) (hb : IsR H xb lb) (he : IsR H xe le) (hh : IsR H xh lh) (hp : IsR H xp lp)
    (oa : xa.cells = [xa] ∧ xa.one = true)
    (od : xd.cells = [xd] ∧ xd.one = true)
    (of : xf.cells = [xf] ∧ xf.one = true)
    (og : xg.cells = [xg] ∧ xg.one = true)
    (oi : xi.cells = [xi] ∧ xi.one = true)
    (oj : xj.cells = [xj] ∧ xj.one = true)
    (ok : xk.cells = [xk] ∧ xk.one = true)
    (ol : xl.cells = [xl] ∧ xl.one = true)
    (om : xm.cells = [xm] ∧ xm.one = true)
    (oo : xo.cells = [xo] ∧ xo.one = true)
    (oq : xq.cells = [xq] ∧ xq.one = true)
    (bb : lb.length ≤ 1048576) (be : le.length ≤ 1048576) (bh : lh.length ≤ 1048576) (bp : lp.length ≤ 1048576) (hd : dr ≤ 9223372036854775807) :
    ∃ (Z : AHeap), Sound Tryd.prog 21 [.agg [xa, xb, xd, .sc (.int .i64 n), .sc (.int .i64 nx), xe, xf, xg, xh, .sc (.int .i64 dr), xi, .sc (.int .i64 nw), .sc (.int .i64 dw), xj, xk, xl, xm, xo, xp, xq]] H (.sc (.string (worldT lb (outsT (gateH le dr) lh) lp.length))) Z ∧ Ext H Z := by
  suffices h : ∃ v Z, Sound Tryd.prog 21 [.agg [xa, xb, xd, .sc (.int .i64 n), .sc (.int .i64 nx), xe, xf, xg, xh, .sc (.int .i64 dr), xi, .sc (.int .i64 nw), .sc (.int .i64 dw), xj, xk, xl, xm, xo, xp, xq]] H v Z ∧ v = .sc (.string (worldT lb (outsT (gateH le dr) lh) lp.length)) ∧ Ext H Z by
    obtain ⟨v, Z, h1, rfl, h2⟩ := h
    exact ⟨Z, h1, h2⟩
  refine Sound.runP (args := [.agg [xa, xb, xd, .sc (.int .i64 n), .sc (.int .i64 nx), xe, xf, xg, xh, .sc (.int .i64 dr), xi, .sc (.int .i64 nw), .sc (.int .i64 dw), xj, xk, xl, xm, xo, xp, xq]]) 32 [.tmp 2] Tryd.func21 rfl rfl rfl rfl (by simp) (fun v Z => v = .sc (.string (worldT lb (outsT (gateH le dr) lh) lp.length)) ∧ Ext H Z) ?_
  have ob := hb.one
  have oe := he.one
  have oh := hh.one
  have op := hp.one
  have lB := fun e => hb.len e
  have lP := fun e => hp.len e
  obtain ⟨A, hA⟩ : ∃ A : Reg, A = ⟨[xa, xb, xd, .sc (.int .i64 n), .sc (.int .i64 nx), xe, xf, xg, xh, .sc (.int .i64 dr), xi, .sc (.int .i64 nw), .sc (.int .i64 dw), xj, xk, xl, xm, xo, xp, xq], true, true⟩ := ⟨_, rfl⟩
  have e0 := Ext.more H [A]
  have b0 : (H ++ [A])[H.length]? = some ⟨[xa, xb, xd, .sc (.int .i64 n), .sc (.int .i64 nx), xe, xf, xg, xh, .sc (.int .i64 dr), xi, .sc (.int .i64 nw), .sc (.int .i64 dw), xj, xk, xl, xm, xo, xp, xq], true, true⟩ := by rw [← hA]; exact hap_0 H [A]
  have m1 := e0.isR hb
  simp -implicitDefEqProofs only [↓w_seq, ↓w_region, ↓ops_cons, ↓g_box, Nat.reduceLT, ev_tab, par0, cells_agg, ↓g_assign, ↓ops_nil, ev_const, of_str, ↓w_block, of_int, alK_some, List.all_cons, oa, ob, od, one_int, oe, of, og, oh, oi, oj, ok, ol, om, oo, op, oq, List.all_nil, Bool.and_self, true_and]
  rw [← hA]
  refine w_loop (ι := Nat) (fun i s => ∃ (T : Nat → AV) (G : AHeap), s = ⟨tab 32 T, G⟩ ∧ Ext (H ++ [A]) G ∧ i ≤ lb.length ∧ T 1 = .ptr H.length 0 ∧ T 3 = .sc (.string (clsT (lb.take i))) ∧ T 4 = .sc (.int .i64 i)) (fun i => lb.length - i) ?_ (i := 0) ?_
  · rintro i s ⟨T, G, rfl, eG, a1, a2, a3, a4⟩
    have b0 := eG.at b0
    have m1 := eG.isR m1
    by_cases h : i < lb.length
    · have k1 : (i : Int) < lb.length := by omega
      have k2 : (0 : Int) ≤ i := by omega
      have e1 : IntKind.i64.wrap ((i : Int) + 1) = i + 1 := w64 (by omega) (by omega)
      obtain ⟨r, o, hx, hr⟩ := m1.get h
      have ha : lb[i]? = some lb[i] := List.getElem?_eq_getElem h
      generalize lb[i] = p at ha
      have on := clsT_s lb i p ha
      have rr := fun (o : Bool) => rd_row encClient ha o
      rw [clOf_cs p] at rr
      have kl : kClient.length = 23 := rfl
      have s1 := clsT_size (lb.take i)
      rw [List.length_take] at s1
      have s2 := cliT_size (clOf p) (cl_n p) (cl_le p)
      have cc := showCliS (clOf p) (cl_n p) (cl_le p)
      have one : (clOf p).cs.all AV.one = true := rfl
      simp -implicitDefEqProofs only [↓w_seq, ↓w_region, ↓ops_cons, ↓g_move, ↓g_fieldAddrT, Nat.reduceLT, ev_tab, a4, ne_eq, Nat.reduceEqDiff, not_false_eq_true, upd_ne, a2, fadr76_1, Nat.zero_add, ↓g_load, upd_eq, ↓g_len, Tryd.underlying72, ↓g_binOp, ↓ops_nil, ↓w_cond, ↓w_skip, ↓w_block, a3, ↓g_indexAddr, onS_some, rd_def, tyOk72, agg72, cells72, b0, rd_onec, List.getElem?_cons_succ, List.getElem?_cons_zero, ↓w_exit, if_true, lB, b_lss, k1, decide_true, onB_true]
      simp only [hx] at *
      simp -implicitDefEqProofs only [kl, adr_sl, k2, k1, cells33, tyOk33, and_self, Int.toNat_natCast, Nat.zero_add, if_true, onS_some, rd_def, agg33, hr, rr]
      refine call1 (by simp -implicitDefEqProofs only [List.map_cons, Nat.reduceLT, ev_tab, upd_eq, List.map_nil] <;> rfl) cc ?_
      simp -implicitDefEqProofs only [↓ops_cons, ↓g_binOp, Nat.reduceLT, ev_tab, ne_eq, Nat.reduceEqDiff, not_false_eq_true, upd_ne, upd_eq, t_add, ↓g_assign, ↓ops_nil, ↓w_region, ↓g_move, a4, ev_const, of_int, b_add, e1, onS_some, onS_ite]
      refine ⟨by omega, ?_⟩
      try simp -implicitDefEqProofs only []
      refine ⟨i + 1, by omega, _, _, rfl, eG, by omega, ?_, ?_, ?_⟩ <;> simp -implicitDefEqProofs only [ne_eq, Nat.reduceEqDiff, not_false_eq_true, upd_ne, a2, upd_eq, on] <;> rfl
    · have k1 : ¬ (i : Int) < lb.length := by omega
      have hi : i = lb.length := by omega
      rw [hi, List.take_length] at a3
      have s1 := clsT_size lb
      have s2 := outsT_size (gateH le dr) lh
      have s3 := gateH_size le dr be hd
      have s4 := decT_size lp.length (by omega)
      obtain ⟨Z, g1, g2⟩ := showGateS n nx dr (eG.isR (e0.isR he)) of og (eG.isR (e0.isR hh)) be bh hd
      have bz := g2.at b0
      have ct := decS lp.length (by omega)
      skip
      generalize hGt : outsT (gateH le dr) lh = Gt at *
      simp -implicitDefEqProofs only [↓w_seq, ↓w_region, ↓ops_cons, ↓g_move, ↓g_fieldAddrT, Nat.reduceLT, ev_tab, a4, ne_eq, Nat.reduceEqDiff, not_false_eq_true, upd_ne, a2, fadr76_1, Nat.zero_add, ↓g_load, upd_eq, ↓g_len, Tryd.underlying72, ↓g_binOp, ↓ops_nil, ↓w_cond, ↓w_skip, ↓w_block, a3, ↓g_indexAddr, onS_some, rd_def, tyOk72, agg72, cells72, b0, rd_onec, List.getElem?_cons_succ, List.getElem?_cons_zero, ↓w_exit, if_true, lB, b_lss, k1, decide_false, onB_false]
      refine drawn [(2, 0), (7, 0), (7, 4)] follows (by kernel_rfl) (by kernel_rfl) ?_
      simp -implicitDefEqProofs only [↓dops_cons, ↓g_move, ↓g_fieldAddrT, Nat.reduceLT, ev_tab, ne_eq, Nat.reduceEqDiff, not_false_eq_true, upd_ne, a3, a2, fadr76_3, Nat.zero_add, ↓g_load, upd_eq, onS_some, rd_def, tyOk60, agg60, cells60, b0, rd_aggc, Nat.reduceAdd, List.length_cons, List.length_nil, Nat.reduceLeDiff, List.drop_succ_cons, List.drop_zero, List.take_succ_cons, List.take_zero, if_true]
      refine call1S (by simp -implicitDefEqProofs only [List.map_cons, Nat.reduceLT, ev_tab, upd_eq, List.map_nil] <;> rfl) g1 ?_
      simp -implicitDefEqProofs only [↓dops_cons, ↓g_binOp, Nat.reduceLT, ev_tab, ne_eq, Nat.reduceEqDiff, not_false_eq_true, upd_ne, upd_eq, t_add, ev_const, of_str, ↓g_fieldAddrT, a2, fadr76_12, Nat.zero_add, ↓g_load, ↓g_len, Tryd.underlying74, onS_some, rd_def, tyOk74, agg74, cells74, bz, rd_onec, List.getElem?_cons_succ, List.getElem?_cons_zero, lP, onS_ite]
      refine ⟨by ((try simp only [ByteArray.size_append, zg4, yn]); omega), by ((try simp only [ByteArray.size_append, zg4, yn]); omega), ?_⟩
      try simp -implicitDefEqProofs only []
      refine call1 (by (try simp -implicitDefEqProofs only [List.map_cons, Nat.reduceLT, ev_tab, upd_eq, List.map_nil]) <;> rfl) ct ?_
      simp -implicitDefEqProofs only [↓dops_cons, ↓g_binOp, Nat.reduceLT, ev_tab, ne_eq, Nat.reduceEqDiff, not_false_eq_true, upd_ne, upd_eq, t_add, ev_const, of_str, ↓g_assign, ↓dops_p, ↓w_ret, retP_1, res_tmp, onS_some, onS_ite]
      refine ⟨by ((try simp only [ByteArray.size_append, zg4, yn]); omega), by ((try simp only [ByteArray.size_append, zg4, yn]); omega), ?_⟩
      try simp -implicitDefEqProofs only []
      exact ⟨pairs_cons (same_calm (by kernel_rfl)) (pairs_cons (same_ld _ _ H.length 18 rfl rfl (b0.trans bz.symm)) (pairs_cons (same_H rfl) pairs_nil)), rfl, e0.trans (eG.trans g2)⟩
  · refine ⟨_, _, rfl, .refl _, by omega, ?_, ?_, ?_⟩ <;> simp -implicitDefEqProofs only [ne_eq, Nat.reduceEqDiff, not_false_eq_true, upd_ne, upd_eq, List.take_zero, Int.cast_ofNat_Int] <;> rfl
theorem showWorldI {H : AHeap} {xa xb xd xe xf xg xh xi xj xk xl xm xo xp xq : AV} {lb : List (Rw kClient)} {le : List (Rw kSess)} {lh : List (Rw kOut)} {lp : List (Rw kNote)} (n nx dr nw dw : Int) (hb : IsR H xb lb) (he : IsR H xe le) (hh : IsR H xh lh) (hp : IsR H xp lp)
    (oa : xa.cells = [xa] ∧ xa.one = true)
    (od : xd.cells = [xd] ∧ xd.one = true)
    (of : xf.cells = [xf] ∧ xf.one = true)
    (og : xg.cells = [xg] ∧ xg.one = true)
    (oi : xi.cells = [xi] ∧ xi.one = true)
    (oj : xj.cells = [xj] ∧ xj.one = true)
    (ok : xk.cells = [xk] ∧ xk.one = true)
    (ol : xl.cells = [xl] ∧ xl.one = true)
    (om : xm.cells = [xm] ∧ xm.one = true)
    (oo : xo.cells = [xo] ∧ xo.one = true)
    (oq : xq.cells = [xq] ∧ xq.one = true)
    (bb : lb.length ≤ 1048576) (be : le.length ≤ 1048576) (bh : lh.length ≤ 1048576) (bp : lp.length ≤ 1048576) (hd : dr ≤ 9223372036854775807) :
    ∃ (Z : AHeap), Sound Tryd.prog 23 [.agg [xa, xb, xd, .sc (.int .i64 n), .sc (.int .i64 nx), xe, xf, xg, xh, .sc (.int .i64 dr), xi, .sc (.int .i64 nw), .sc (.int .i64 dw), xj, xk, xl, xm, xo, xp, xq]] H (.sc (.string (worldT lb (outsT (gateH le dr) lh) lp.length))) Z ∧ Ext H Z := by
  suffices h : ∃ v Z, Sound Tryd.prog 23 [.agg [xa, xb, xd, .sc (.int .i64 n), .sc (.int .i64 nx), xe, xf, xg, xh, .sc (.int .i64 dr), xi, .sc (.int .i64 nw), .sc (.int .i64 dw), xj, xk, xl, xm, xo, xp, xq]] H v Z ∧ v = .sc (.string (worldT lb (outsT (gateH le dr) lh) lp.length)) ∧ Ext H Z by
    obtain ⟨v, Z, h1, rfl, h2⟩ := h
    exact ⟨Z, h1, h2⟩
  refine Sound.runP (args := [.agg [xa, xb, xd, .sc (.int .i64 n), .sc (.int .i64 nx), xe, xf, xg, xh, .sc (.int .i64 dr), xi, .sc (.int .i64 nw), .sc (.int .i64 dw), xj, xk, xl, xm, xo, xp, xq]]) 30 [.tmp 2] Tryd.func23 rfl rfl rfl rfl (by simp) (fun v Z => v = .sc (.string (worldT lb (outsT (gateH le dr) lh) lp.length)) ∧ Ext H Z) ?_
  have ob := hb.one
  have oe := he.one
  have oh := hh.one
  have op := hp.one
  have lB := fun e => hb.len e
  have lP := fun e => hp.len e
  obtain ⟨A, hA⟩ : ∃ A : Reg, A = ⟨[xa, xb, xd, .sc (.int .i64 n), .sc (.int .i64 nx), xe, xf, xg, xh, .sc (.int .i64 dr), xi, .sc (.int .i64 nw), .sc (.int .i64 dw), xj, xk, xl, xm, xo, xp, xq], true, true⟩ := ⟨_, rfl⟩
  have e0 := Ext.more H [A]
  have b0 : (H ++ [A])[H.length]? = some ⟨[xa, xb, xd, .sc (.int .i64 n), .sc (.int .i64 nx), xe, xf, xg, xh, .sc (.int .i64 dr), xi, .sc (.int .i64 nw), .sc (.int .i64 dw), xj, xk, xl, xm, xo, xp, xq], true, true⟩ := by rw [← hA]; exact hap_0 H [A]
  have m1 := e0.isR hb
  simp -implicitDefEqProofs only [↓w_seq, ↓w_region, ↓ops_cons, ↓g_box, Nat.reduceLT, ev_tab, par0, cells_agg, ↓g_assign, ↓ops_nil, ev_const, of_str, ↓g_fieldAddrT, ne_eq, Nat.reduceEqDiff, not_false_eq_true, upd_ne, upd_eq, ↓g_load, ↓g_len, Tryd.underlying72, ↓g_move, ↓w_block, of_int, alK_some, List.all_cons, oa, ob, od, one_int, oe, of, og, oh, oi, oj, ok, ol, om, oo, op, oq, List.all_nil, Bool.and_self, fadr76_1, Nat.zero_add, onS_some, rd_def, tyOk72, agg72, cells72, at_end, rd_onec, List.getElem?_cons_succ, List.getElem?_cons_zero, lB, true_and]
  rw [← hA]
  refine w_loop (ι := Nat) (fun i s => ∃ (T : Nat → AV) (G : AHeap), s = ⟨tab 30 T, G⟩ ∧ Ext (H ++ [A]) G ∧ i ≤ lb.length ∧ T 1 = .ptr H.length 0 ∧ T 3 = .sc (.string (clsT (lb.take i))) ∧ T 7 = xb ∧ T 8 = .sc (.int .i64 lb.length) ∧ T 9 = .sc (.int .i64 i)) (fun i => lb.length - i) ?_ (i := 0) ?_
  · rintro i s ⟨T, G, rfl, eG, a1, a2, a3, a5, a6, a4⟩
    have b0 := eG.at b0
    have m1 := eG.isR m1
    by_cases h : i < lb.length
    · have k1 : (i : Int) < lb.length := by omega
      have k2 : (0 : Int) ≤ i := by omega
      have e1 : IntKind.i64.wrap ((i : Int) + 1) = i + 1 := w64 (by omega) (by omega)
      obtain ⟨r, o, hx, hr⟩ := m1.get h
      have ha : lb[i]? = some lb[i] := List.getElem?_eq_getElem h
      generalize lb[i] = p at ha
      have on := clsT_s lb i p ha
      have rr := fun (o : Bool) => rd_row encClient ha o
      rw [cl_cs p] at rr
      have kl : kClient.length = 23 := rfl
      have s1 := clsT_size (lb.take i)
      rw [List.length_take] at s1
      have s2 := cliT_size (clOf p) (cl_n p) (cl_le p)
      have cc := showCliI (clOf p) (cl_n p) (cl_le p)
      have one : (clOf p).cs.all AV.one = true := rfl
      simp -implicitDefEqProofs only [↓w_seq, ↓w_region, ↓ops_cons, ↓g_binOp, Nat.reduceLT, ev_tab, a4, a6, b_lss, k1, decide_true, ↓ops_nil, ↓w_cond, upd_eq, ↓w_skip, ↓w_block, ↓g_indexAddr, Tryd.underlying72, ne_eq, Nat.reduceEqDiff, not_false_eq_true, upd_ne, a5, ↓g_load, ↓g_alloc, zero33, Option.map_some, ↓g_store, ↓g_move, a3, alK_some, List.all_cons, one_int, one_bool, List.all_nil, Bool.and_self, wr_def, tyOk33, cells33, at_end, wr_c, Nat.zero_add, List.length_cons, List.length_nil, Nat.reduceAdd, Nat.le_refl, true_and, rd_def, agg33, onS_ite, ↓w_exit, if_true, onS_some, onB_true]
      simp only [hx] at *
      simp -implicitDefEqProofs only [kl, adr_sl, k2, k1, cells33, tyOk33, and_self, Int.toNat_natCast, Nat.zero_add, if_true, hset_0, List.set_cons_zero, hap_0, List.getElem?_cons_zero, onS_some, rd_def, agg33, hr, rr, cells_agg, List.length_cons, List.length_nil, Nat.reduceAdd, List.all_cons, one_int, one_bool, List.all_nil, Bool.and_self, ovC, ovN, rd_aggc, Nat.le_refl, List.drop_zero, List.take_succ_cons, List.take_zero, true_and]
      refine call1 (by simp -implicitDefEqProofs only [List.map_cons, Nat.reduceLT, ev_tab, upd_eq, List.map_nil] <;> rfl) cc ?_
      simp -implicitDefEqProofs only [↓ops_cons, ↓g_binOp, Nat.reduceLT, ev_tab, ne_eq, Nat.reduceEqDiff, not_false_eq_true, upd_ne, upd_eq, t_add, ↓g_assign, ↓ops_nil, ↓w_region, a4, ev_const, of_int, b_add, e1, ↓g_move, onS_some, onS_ite]
      refine ⟨by omega, ?_⟩
      try simp -implicitDefEqProofs only []
      refine ⟨i + 1, by omega, _, _, rfl, eG.add _, by omega, ?_, ?_, ?_, ?_, ?_⟩ <;> simp -implicitDefEqProofs only [ne_eq, Nat.reduceEqDiff, not_false_eq_true, upd_ne, a2, upd_eq, on, a5, kl, a6] <;> rfl
    · have k1 : ¬ (i : Int) < lb.length := by omega
      have hi : i = lb.length := by omega
      rw [hi, List.take_length] at a3
      have s1 := clsT_size lb
      have s2 := outsT_size (gateH le dr) lh
      have s3 := gateH_size le dr be hd
      have s4 := decT_size lp.length (by omega)
      obtain ⟨Z, g1, g2⟩ := showGateI n nx dr (eG.isR (e0.isR he)) of og (eG.isR (e0.isR hh)) be bh hd
      have bz := g2.at b0
      have ct := toldI lp.length (by omega)
      simp only [Int.toNat_natCast] at ct
      generalize hGt : outsT (gateH le dr) lh = Gt at *
      simp -implicitDefEqProofs only [↓w_seq, ↓w_region, ↓ops_cons, ↓g_binOp, Nat.reduceLT, ev_tab, a4, a6, b_lss, k1, decide_false, ↓ops_nil, ↓w_cond, upd_eq, ↓w_skip, ↓w_block, ↓g_indexAddr, Tryd.underlying72, ne_eq, Nat.reduceEqDiff, not_false_eq_true, upd_ne, a5, ↓g_load, ↓g_alloc, zero33, Option.map_some, ↓g_store, ↓g_move, a3, alK_some, List.all_cons, one_int, one_bool, List.all_nil, Bool.and_self, wr_def, tyOk33, cells33, at_end, wr_c, Nat.zero_add, List.length_cons, List.length_nil, Nat.reduceAdd, Nat.le_refl, true_and, rd_def, agg33, onS_ite, ↓w_exit, if_true, onS_some, onB_false]
      refine drawn [(2, 0), (7, 0), (7, 4)] follows (by kernel_rfl) (by kernel_rfl) ?_
      simp -implicitDefEqProofs only [↓dops_cons, ↓g_move, ↓g_fieldAddrT, Nat.reduceLT, ev_tab, ne_eq, Nat.reduceEqDiff, not_false_eq_true, upd_ne, a3, a2, fadr76_3, Nat.zero_add, ↓g_load, upd_eq, onS_some, rd_def, tyOk60, agg60, cells60, b0, rd_aggc, Nat.reduceAdd, List.length_cons, List.length_nil, Nat.reduceLeDiff, List.drop_succ_cons, List.drop_zero, List.take_succ_cons, List.take_zero, if_true]
      refine call1S (by simp -implicitDefEqProofs only [List.map_cons, Nat.reduceLT, ev_tab, upd_eq, List.map_nil] <;> rfl) g1 ?_
      simp -implicitDefEqProofs only [↓dops_cons, ↓g_binOp, Nat.reduceLT, ev_tab, ne_eq, Nat.reduceEqDiff, not_false_eq_true, upd_ne, upd_eq, t_add, ev_const, of_str, ↓g_fieldAddrT, a2, fadr76_12, Nat.zero_add, ↓g_load, ↓g_len, Tryd.underlying74, onS_some, rd_def, tyOk74, agg74, cells74, bz, rd_onec, List.getElem?_cons_succ, List.getElem?_cons_zero, lP, onS_ite]
      refine ⟨by ((try simp only [ByteArray.size_append, zg4, yn]); omega), by ((try simp only [ByteArray.size_append, zg4, yn]); omega), ?_⟩
      try simp -implicitDefEqProofs only []
      refine call1 (by (try simp -implicitDefEqProofs only [List.map_cons, Nat.reduceLT, ev_tab, upd_eq, List.map_nil]) <;> rfl) ct ?_
      simp -implicitDefEqProofs only [↓dops_cons, ↓g_binOp, Nat.reduceLT, ev_tab, ne_eq, Nat.reduceEqDiff, not_false_eq_true, upd_ne, upd_eq, t_add, ev_const, of_str, ↓g_assign, ↓dops_p, ↓w_ret, retP_1, res_tmp, onS_some, onS_ite]
      refine ⟨by ((try simp only [ByteArray.size_append, zg4, yn]); omega), by ((try simp only [ByteArray.size_append, zg4, yn]); omega), ?_⟩
      try simp -implicitDefEqProofs only []
      exact ⟨pairs_cons (same_calm (by kernel_rfl)) (pairs_cons (same_ld _ _ H.length 18 rfl rfl (b0.trans bz.symm)) (pairs_cons (same_H rfl) pairs_nil)), rfl, e0.trans (eG.trans g2)⟩
  · refine ⟨_, _, rfl, .refl _, by omega, ?_, ?_, ?_, ?_, ?_⟩ <;> simp -implicitDefEqProofs only [ne_eq, Nat.reduceEqDiff, not_false_eq_true, upd_ne, upd_eq, List.take_zero, Int.cast_ofNat_Int] <;> rfl
end Go.Proofs.YtfgmmklljibbiaaDoor.Sim

