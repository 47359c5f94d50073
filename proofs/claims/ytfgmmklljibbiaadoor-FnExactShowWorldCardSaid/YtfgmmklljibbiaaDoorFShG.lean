/- What is shown of a gate. -/
import Derived.Test.YtfgmmklljibbiaaDoorFRwSO
import Derived.Test.YtfgmmklljibbiaaDoorFItoaC
namespace Go.Proofs.YtfgmmklljibbiaaDoor.Sim
open Go
set_option maxRecDepth 100000
set_option maxHeartbeats 40000000
set_option linter.unusedSimpArgs false
set_option linter.unusedVariables false
def outT (r : Rw kOut) : ByteArray := (⟨#[111, 117, 116, 32]⟩ : ByteArray) ++ decT (r.int 0).toNat ++ (⟨#[32]⟩ : ByteArray) ++ decT (r.int 1).toNat ++ (⟨#[32]⟩ : ByteArray) ++ decT (r.int 2).toNat ++ (⟨#[32]⟩ : ByteArray) ++ decT (r.int 4).toNat ++ (⟨#[10]⟩ : ByteArray)
def outsT (P : ByteArray) (l : List (Rw kOut)) : ByteArray := l.foldl (fun a r => a ++ outT r) P
def openN (l : List (Rw kSess)) : Nat := (l.filter fun r => decide (r.int 2 = 2)).length
def gateH (l : List (Rw kSess)) (dr : Int) : ByteArray := (⟨#[103, 97, 116, 101, 32]⟩ : ByteArray) ++ decT l.length ++ (⟨#[32, 111, 112, 101, 110, 32]⟩ : ByteArray) ++ decT (openN l) ++ (⟨#[32, 100, 114, 111, 112, 115, 32]⟩ : ByteArray) ++ decT dr.toNat ++ (⟨#[10]⟩ : ByteArray)
theorem y4 : ((⟨#[111, 117, 116, 32]⟩ : ByteArray)).size = 4 := rfl
theorem y1 : ((⟨#[32]⟩ : ByteArray)).size = 1 := rfl
theorem yn : ((⟨#[10]⟩ : ByteArray)).size = 1 := rfl
theorem yg : ((⟨#[103, 97, 116, 101, 32]⟩ : ByteArray)).size = 5 := rfl
theorem yo : ((⟨#[32, 111, 112, 101, 110, 32]⟩ : ByteArray)).size = 6 := rfl
theorem yd : ((⟨#[32, 100, 114, 111, 112, 115, 32]⟩ : ByteArray)).size = 7 := rfl
theorem num_ok (r : Rw kOut) (j : Nat) (h : kOut[j]? = some (.i .i64)) : r.int j ≤ 9223372036854775807 := wf_le (r.int_at j h).2
theorem outT_size (r : Rw kOut) : (outT r).size ≤ 88 := by
  have d0 := decT_size (r.int 0).toNat (by have := num_ok r 0 rfl; omega)
  have d1 := decT_size (r.int 1).toNat (by have := num_ok r 1 rfl; omega)
  have d2 := decT_size (r.int 2).toNat (by have := num_ok r 2 rfl; omega)
  have d4 := decT_size (r.int 4).toNat (by have := num_ok r 4 rfl; omega)
  simp only [outT, ByteArray.size_append, y4, y1, yn]
  omega
theorem outsT_size (P : ByteArray) : ∀ l : List (Rw kOut), (outsT P l).size ≤ P.size + 88 * l.length := by
  intro l
  induction l generalizing P with
  | nil => exact Nat.le_refl _
  | cons r l ih =>
    have := ih (P ++ outT r)
    have h := outT_size r
    simp only [outsT, List.foldl_cons, List.length_cons, ByteArray.size_append] at *
    omega
theorem outsT_s (P : ByteArray) (l : List (Rw kOut)) (i : Nat) (r : Rw kOut) (h : l[i]? = some r) : outsT P (l.take (i + 1)) = outsT P (l.take i) ++ outT r := by
  simp only [outsT, List.take_add_one, h, List.foldl_append]
  rfl
theorem openN_s (l : List (Rw kSess)) (i : Nat) (r : Rw kSess) (h : l[i]? = some r) : openN (l.take (i + 1)) = openN (l.take i) + (if r.int 2 = 2 then 1 else 0) := by
  simp only [openN, List.take_add_one, h, List.filter_append, List.length_append]
  congr 1
  by_cases e : r.int 2 = 2 <;> simp [e]
theorem openN_le (l : List (Rw kSess)) : openN l ≤ l.length := List.length_filter_le _ _
theorem gateH_size (l : List (Rw kSess)) (dr : Int) (hl : l.length ≤ 1048576) (hd : dr ≤ 9223372036854775807) : (gateH l dr).size ≤ 100 := by
  have d0 := decT_size l.length (by omega)
  have d1 := decT_size (openN l) (by have := openN_le l; omega)
  have d2 := decT_size dr.toNat (by omega)
  simp only [gateH, ByteArray.size_append, yg, yo, yd, yn]
  omega
theorem outCs (r : Rw kOut) : r.cs = [.sc (.int .i64 (r.int 0)), .sc (.int .i64 (r.int 1)), .sc (.int .i64 (r.int 2)), .sc (.int .i64 (r.int 3)), .sc (.int .i64 (r.int 4))] := by
  have e0 := (r.int_at 0 (k := .i64) rfl).1
  have e1 := (r.int_at 1 (k := .i64) rfl).1
  have e2 := (r.int_at 2 (k := .i64) rfl).1
  have e3 := (r.int_at 3 (k := .i64) rfl).1
  have e4 := (r.int_at 4 (k := .i64) rfl).1
  have hl := r.cs_len
  generalize r.cs = z at *
  match z, hl with
  | [x0, x1, x2, x3, x4], _ =>
    simp only [List.getElem?_cons_zero, List.getElem?_cons_succ, Option.some.injEq] at e0 e1 e2 e3 e4
    rw [e0, e1, e2, e3, e4]
theorem rd_part {α : Type} {f : α → List AV} {m : Nat} (h : Enc f m) {l : List α} {i j n : Nat} {a : α} (ha : l[i]? = some a) (hj : j + n ≤ m) (own : Bool) : rdT true true n (some ⟨rows f l, own, true⟩) (i * m + j) = some (.agg (((f a).drop j).take n)) := by
  obtain ⟨h1, h2⟩ := rows_split h l i a ha
  have hl : i * m + j + n ≤ (rows f l).length := by rw [h1, List.length_append, List.length_append, h2, h.len]; omega
  have hd : ((rows f l).drop (i * m + j)).take n = ((f a).drop j).take n := by
    rw [h1, List.drop_append, List.drop_of_length_le (by omega), h2, Nat.add_sub_cancel_left, List.nil_append, List.drop_append_of_le_length (by rw [h.len]; omega), List.take_append_of_le_length (by rw [List.length_drop, h.len]; omega)]
  simp only [rdT, if_true, true_and, hl, hd]
theorem showGateS {H : AHeap} {x1 x2 x3 x4 : AV} {l1 : List (Rw kSess)} {l4 : List (Rw kOut)} (n nx dr : Int) (h1 : IsR H x1 l1) (o2 : x2.cells = [x2] ∧ x2.one = true) (o3 : x3.cells = [x3] ∧ x3.one = true) (h4 : IsR H x4 l4)
    (b1 : l1.length ≤ 1048576) (b4 : l4.length ≤ 1048576) (hd : dr ≤ 9223372036854775807) :
    ∃ (Z : AHeap), Sound Tryd.prog 16 [.agg [.sc (.int .i64 n), .sc (.int .i64 nx), x1, x2, x3, x4, .sc (.int .i64 dr)]] H (.sc (.string (outsT (gateH l1 dr) l4))) Z ∧ Ext H Z := by
  suffices h : ∃ v Z, Sound Tryd.prog 16 [.agg [.sc (.int .i64 n), .sc (.int .i64 nx), x1, x2, x3, x4, .sc (.int .i64 dr)]] H v Z ∧ v = .sc (.string (outsT (gateH l1 dr) l4)) ∧ Ext H Z by
    obtain ⟨v, Z, h1, rfl, h2⟩ := h
    exact ⟨Z, h1, h2⟩
  refine Sound.runP (args := [.agg [.sc (.int .i64 n), .sc (.int .i64 nx), x1, x2, x3, x4, .sc (.int .i64 dr)]]) 79 [.tmp 2] Tryd.func16 rfl rfl rfl rfl (by simp) (fun v Z => v = .sc (.string (outsT (gateH l1 dr) l4)) ∧ Ext H Z) ?_
  have o1 := h1.one
  have o4 := h4.one
  have l1' := fun e => h1.len e
  have l4' := fun e => h4.len e
  obtain ⟨A, hA⟩ : ∃ A : Reg, A = ⟨[.sc (.int .i64 n), .sc (.int .i64 nx), x1, x2, x3, x4, .sc (.int .i64 dr)], true, true⟩ := ⟨_, rfl⟩
  have e0 := Ext.more H [A]
  have b0 : (H ++ [A])[H.length]? = some ⟨[.sc (.int .i64 n), .sc (.int .i64 nx), x1, x2, x3, x4, .sc (.int .i64 dr)], true, true⟩ := by rw [← hA]; exact hap_0 H [A]
  have m1 := e0.isR h1
  have m4 := e0.isR h4
  have hop := openN_le l1
  simp -implicitDefEqProofs only [↓w_seq, ↓w_region, ↓ops_cons, ↓g_box, Nat.reduceLT, ev_tab, par0, cells_agg, ↓g_assign, ↓ops_nil, ev_const, of_str, of_int, ↓w_block, alK_some, List.all_cons, one_int, o1, o2, o3, o4, List.all_nil, Bool.and_self, true_and]
  rw [← hA]
  refine w_loop (ι := Nat) (fun i s => ∃ T : Nat → AV, s = ⟨tab 79 T, H ++ [A]⟩ ∧ i ≤ l1.length ∧ T 1 = .ptr H.length 0 ∧ T 3 = .sc (.int .i64 (openN (l1.take i))) ∧ T 4 = .sc (.int .i64 i)) (fun i => l1.length - i) ?_ (i := 0) ?_
  · rintro i s ⟨T, rfl, a1, a2, a3, a4⟩
    by_cases h : i < l1.length
    · have k1 : (i : Int) < l1.length := by omega
      have k2 : (0 : Int) ≤ i := by omega
      have e1 : IntKind.i64.wrap ((i : Int) + 1) = i + 1 := w64 (by omega) (by omega)
      have hot := openN_le (l1.take i)
      rw [List.length_take] at hot
      have e2 : IntKind.i64.wrap ((openN (l1.take i) : Int) + 1) = ((openN (l1.take i) + 1 : Nat) : Int) := by rw [w64 (by omega) (by omega)]; omega
      obtain ⟨r, o, hx, hr⟩ := m1.get h
      subst hx
      have ha : l1[i]? = some l1[i] := List.getElem?_eq_getElem h
      generalize l1[i] = p at ha
      have on := openN_s l1 i p ha
      have rc := fun (o : Bool) (k : Nat) => (rd_cell encSess (k := k) ha (j := 2) (by decide) o).trans (p.int_at 2 rfl).1
      have kl : kSess.length = 20 := rfl
      by_cases hp : p.int 2 = 2
      · rw [if_pos hp] at on
        simp -implicitDefEqProofs only [↓w_seq, ↓w_region, ↓ops_cons, ↓g_move, ↓g_fieldAddrT, Nat.reduceLT, ev_tab, a4, ne_eq, Nat.reduceEqDiff, not_false_eq_true, upd_ne, a2, fadr60_2, Nat.zero_add, ↓g_load, upd_eq, ↓g_len, Tryd.underlying55, ↓g_binOp, ↓ops_nil, ↓w_cond, ↓w_skip, ↓w_block, ↓g_indexAddr, ev_const, of_int, a3, b_add, e2, ↓g_assign, e1, onS_some, rd_def, tyOk55, agg55, cells55, b0, kl, rd_onec, List.getElem?_cons_succ, List.getElem?_cons_zero, adr_sl, k2, k1, cells95, tyOk95, and_self, Int.toNat_natCast, if_true, fadr95_2, tyOk3, agg3, cells3, hr, rc, hp, b_eql, decide_true, onB_true, ↓w_exit, len_sl, b_lss]
        refine ⟨i + 1, by omega, _, rfl, by omega, ?_, ?_, ?_⟩ <;> simp -implicitDefEqProofs only [ne_eq, Nat.reduceEqDiff, not_false_eq_true, upd_ne, a2, upd_eq, on] <;> rfl
      · rw [if_neg hp] at on
        simp -implicitDefEqProofs only [↓w_seq, ↓w_region, ↓ops_cons, ↓g_move, ↓g_fieldAddrT, Nat.reduceLT, ev_tab, a4, ne_eq, Nat.reduceEqDiff, not_false_eq_true, upd_ne, a2, fadr60_2, Nat.zero_add, ↓g_load, upd_eq, ↓g_len, Tryd.underlying55, ↓g_binOp, ↓ops_nil, ↓w_cond, ↓w_skip, ↓w_block, ↓g_indexAddr, ev_const, of_int, a3, b_add, e2, ↓g_assign, e1, onS_some, rd_def, tyOk55, agg55, cells55, b0, kl, rd_onec, List.getElem?_cons_succ, List.getElem?_cons_zero, adr_sl, k2, k1, cells95, tyOk95, and_self, Int.toNat_natCast, if_true, fadr95_2, tyOk3, agg3, cells3, hr, rc, b_eql, hp, decide_false, onB_false, ↓w_exit, len_sl, b_lss, decide_true, onB_true]
        refine ⟨i + 1, by omega, _, rfl, by omega, ?_, ?_, ?_⟩ <;> simp -implicitDefEqProofs only [ne_eq, Nat.reduceEqDiff, not_false_eq_true, upd_ne, a2, a3, on, upd_eq] <;> rfl
    · have k1 : ¬ (i : Int) < l1.length := by omega
      have hi : i = l1.length := by omega
      rw [hi, List.take_length] at a3
      have c1 := decS l1.length (by omega)
      have c2 := decS (openN l1) (by omega)
      have c3 := numS dr hd
      have s1 := decT_size l1.length (by omega)
      have s2 := decT_size (openN l1) (by omega)
      have s3 := decT_size dr.toNat (by omega)
      simp -implicitDefEqProofs only [↓w_seq, ↓w_region, ↓ops_cons, ↓g_move, ↓g_fieldAddrT, Nat.reduceLT, ev_tab, a4, ne_eq, Nat.reduceEqDiff, not_false_eq_true, upd_ne, a2, fadr60_2, Nat.zero_add, ↓g_load, upd_eq, ↓g_len, Tryd.underlying55, ↓g_binOp, ↓ops_nil, ↓w_cond, ↓w_skip, ↓w_block, ↓g_indexAddr, ev_const, of_int, a3, b_add, ↓g_assign, onS_some, rd_def, tyOk55, agg55, cells55, b0, rd_onec, List.getElem?_cons_succ, List.getElem?_cons_zero, ↓w_exit, if_true, l1', b_lss, k1, decide_false, onB_false]
      refine drawn [(1, 0), (11, 0), (11, 4), (11, 8)] follows (by kernel_rfl) (by kernel_rfl) ?_
      simp -implicitDefEqProofs only [↓dops_cons, ↓g_fieldAddrT, Nat.reduceLT, ev_tab, ne_eq, Nat.reduceEqDiff, not_false_eq_true, upd_ne, a2, fadr60_2, Nat.zero_add, ↓g_load, upd_eq, ↓g_len, Tryd.underlying55, onS_some, rd_def, tyOk55, agg55, cells55, b0, rd_onec, List.getElem?_cons_succ, List.getElem?_cons_zero, l1']
      refine call1 (by simp -implicitDefEqProofs only [List.map_cons, Nat.reduceLT, ev_tab, upd_eq, List.map_nil] <;> rfl) c1 ?_
      simp -implicitDefEqProofs only [↓dops_cons, ↓g_binOp, ev_const, of_str, Nat.reduceLT, ev_tab, upd_eq, t_add, ↓g_move, ne_eq, Nat.reduceEqDiff, not_false_eq_true, upd_ne, a3, onS_ite]
      refine ⟨by (simp only [ByteArray.size_append, y4, y1, yn, yg, yo, yd]; omega), by (simp only [ByteArray.size_append, y4, y1, yn, yg, yo, yd]; omega), ?_⟩
      refine call1 (by simp -implicitDefEqProofs only [List.map_cons, Nat.reduceLT, ev_tab, upd_eq, List.map_nil] <;> rfl) c2 ?_
      simp -implicitDefEqProofs only [↓dops_cons, ↓g_binOp, Nat.reduceLT, ev_tab, ne_eq, Nat.reduceEqDiff, not_false_eq_true, upd_ne, upd_eq, t_add, ev_const, of_str, ↓g_fieldAddrT, a2, fadr60_6, Nat.zero_add, ↓g_load, onS_some, rd_def, tyOk3, agg3, cells3, b0, rd_onec, List.getElem?_cons_succ, List.getElem?_cons_zero, onS_ite]
      refine ⟨by (simp only [ByteArray.size_append, y4, y1, yn, yg, yo, yd]; omega), by (simp only [ByteArray.size_append, y4, y1, yn, yg, yo, yd]; omega), ?_⟩
      refine call1 (by simp -implicitDefEqProofs only [List.map_cons, Nat.reduceLT, ev_tab, upd_eq, List.map_nil] <;> rfl) c3 ?_
      simp -implicitDefEqProofs only [↓dops_cons, ↓g_binOp, Nat.reduceLT, ev_tab, ne_eq, Nat.reduceEqDiff, not_false_eq_true, upd_ne, upd_eq, t_add, ev_const, of_str, ↓g_assign, ↓dops_p, ↓w_seq, ↓w_region, ↓ops_cons, ↓ops_nil, ↓w_block, of_int, onS_ite]
      refine ⟨by (simp only [ByteArray.size_append, y4, y1, yn, yg, yo, yd]; omega), by (simp only [ByteArray.size_append, y4, y1, yn, yg, yo, yd]; omega), ?_⟩
      refine ⟨pairs_cons (same_H rfl) (pairs_cons (same_H rfl) (pairs_cons (same_H rfl) (pairs_cons (same_H rfl) (pairs_nil)))), ?_⟩
      have hG : gateH l1 dr = (⟨#[103, 97, 116, 101, 32]⟩ : ByteArray) ++ decT l1.length ++ (⟨#[32, 111, 112, 101, 110, 32]⟩ : ByteArray) ++ decT (openN l1) ++ (⟨#[32, 100, 114, 111, 112, 115, 32]⟩ : ByteArray) ++ decT dr.toNat ++ (⟨#[10]⟩ : ByteArray) := rfl
      rw [← hG]
      have gs := gateH_size l1 dr b1 hd
      generalize gateH l1 dr = P at gs
      clear hG
      try simp -implicitDefEqProofs only []
      refine w_loop (ι := Nat) (fun i s => ∃ (T : Nat → AV) (G : AHeap), s = ⟨tab 79 T, G⟩ ∧ Ext (H ++ [A]) G ∧ i ≤ l4.length ∧ T 1 = .ptr H.length 0 ∧ T 5 = .sc (.string (outsT P (l4.take i))) ∧ T 6 = .sc (.int .i64 i)) (fun i => l4.length - i) ?_ (i := 0) ?_
      · rintro i s ⟨T, G, rfl, eG, a1, a2, a3, a4⟩
        have b0 := eG.at b0
        have m4 := eG.isR m4
        by_cases h : i < l4.length
        · have k1 : (i : Int) < l4.length := by omega
          have k2 : (0 : Int) ≤ i := by omega
          have e1 : IntKind.i64.wrap ((i : Int) + 1) = i + 1 := w64 (by omega) (by omega)
          obtain ⟨r, o, hx, hr⟩ := m4.get h
          subst hx
          have ha : l4[i]? = some l4[i] := List.getElem?_eq_getElem h
          generalize l4[i] = p at ha
          have on := outsT_s P l4 i p ha
          have rc := fun (o : Bool) (k : Nat) => (rd_cell encOut (k := k) ha (j := 0) (by decide) o).trans (p.int_at 0 rfl).1
          have rp := fun (o : Bool) => rd_part encOut ha (j := 1) (n := 4) (by decide) o
          rw [outCs p] at rp
          simp only [List.drop_succ_cons, List.drop_zero, List.take_succ_cons, List.take_zero] at rp
          have kl : kOut.length = 5 := rfl
          have c0 := numS (p.int 0) (num_ok p 0 rfl)
          have c1 := numS (p.int 1) (num_ok p 1 rfl)
          have c2 := numS (p.int 2) (num_ok p 2 rfl)
          have c4 := numS (p.int 4) (num_ok p 4 rfl)
          have s0 := decT_size (p.int 0).toNat (by have := num_ok p 0 rfl; omega)
          have s1 := decT_size (p.int 1).toNat (by have := num_ok p 1 rfl; omega)
          have s2 := decT_size (p.int 2).toNat (by have := num_ok p 2 rfl; omega)
          have s4 := decT_size (p.int 4).toNat (by have := num_ok p 4 rfl; omega)
          have so := outsT_size P (l4.take i)
          rw [List.length_take] at so
          have rlt := at_lt hr
          have nlt := at_lt b0
          have hr' := fun g => at_more G [g] r rlt
          have b0' := fun g => at_more G [g] H.length nlt
          rw [hr] at hr'
          rw [b0] at b0'
          simp -implicitDefEqProofs only [↓w_seq, ↓w_region, ↓ops_cons, ↓g_move, ↓g_fieldAddrT, Nat.reduceLT, ev_tab, a4, ne_eq, Nat.reduceEqDiff, not_false_eq_true, upd_ne, a2, fadr60_5, Nat.zero_add, ↓g_load, upd_eq, ↓g_len, Tryd.underlying58, ↓g_binOp, ↓ops_nil, ↓w_cond, ↓w_skip, ↓w_block, ↓g_indexAddr, ↓g_alloc, zero97, Option.map_some, ↓g_store, alK_some, List.all_cons, one_int, List.all_nil, Bool.and_self, wr_def, tyOk97, cells97, at_end, wr_c, List.length_cons, List.length_nil, Nat.reduceAdd, Nat.le_refl, true_and, onS_ite, onS_some, rd_def, tyOk58, agg58, cells58, b0, kl, rd_onec, List.getElem?_cons_succ, List.getElem?_cons_zero, adr_sl, k2, k1, cells99, tyOk99, and_self, Int.toNat_natCast, if_true, fadr99_1, agg97, hr, rp, cells_agg, ↓w_exit, ↓g_assign, ↓w_ret, a3, retP_1, res_tmp, len_sl, b_lss, decide_true, onB_true]
          refine drawn [(3, 0), (7, 0), (12, 0), (12, 9), (17, 0), (17, 9), (17, 14), (22, 0), (22, 9), (22, 14), (22, 19)] follows (by kernel_rfl) (by kernel_rfl) ?_
          simp -implicitDefEqProofs only [hset_0, List.set_cons_zero, ↓dops_cons, ↓g_move, ↓g_binOp, Nat.reduceLT, ev_tab, ne_eq, Nat.reduceEqDiff, not_false_eq_true, upd_ne, a3, upd_eq, ev_const, of_str, t_add, ↓g_fieldAddrT, a2, fadr60_5, Nat.zero_add, ↓g_load, ↓g_indexAddr, Tryd.underlying58, a4, onS_some, rd_def, tyOk58, agg58, cells58, b0', kl, rd_onec, List.getElem?_cons_succ, List.getElem?_cons_zero, adr_sl, k2, k1, cells99, tyOk99, and_self, Int.toNat_natCast, if_true, fadr99_0, tyOk3, agg3, cells3, hr', rc, onS_ite]
          refine ⟨by (simp only [ByteArray.size_append, y4, y1, yn, yg, yo, yd]; omega), ?_⟩
          try simp -implicitDefEqProofs only [ovC, ovN]
          refine call1 (by simp -implicitDefEqProofs only [List.map_cons, Nat.reduceLT, ev_tab, upd_eq, List.map_nil] <;> rfl) c0 ?_
          simp -implicitDefEqProofs only [↓dops_cons, ↓g_binOp, Nat.reduceLT, ev_tab, ne_eq, Nat.reduceEqDiff, not_false_eq_true, upd_ne, upd_eq, t_add, ev_const, of_str, ↓g_fieldAddrT, fadr97_0, Nat.zero_add, ↓g_load, onS_some, rd_def, tyOk3, agg3, cells3, hap_0, List.getElem?_cons_zero, rd_onec, onS_ite]
          refine ⟨by (simp only [ByteArray.size_append, y4, y1, yn, yg, yo, yd]; omega), by (simp only [ByteArray.size_append, y4, y1, yn, yg, yo, yd]; omega), ?_⟩
          try simp -implicitDefEqProofs only []
          refine call1 (by simp -implicitDefEqProofs only [List.map_cons, Nat.reduceLT, ev_tab, upd_eq, List.map_nil] <;> rfl) c1 ?_
          simp -implicitDefEqProofs only [↓dops_cons, ↓g_binOp, Nat.reduceLT, ev_tab, ne_eq, Nat.reduceEqDiff, not_false_eq_true, upd_ne, upd_eq, t_add, ev_const, of_str, ↓g_fieldAddrT, fadr97_1, Nat.zero_add, ↓g_load, onS_some, rd_def, tyOk3, agg3, cells3, hap_0, List.getElem?_cons_zero, rd_onec, List.getElem?_cons_succ, onS_ite]
          refine ⟨by (simp only [ByteArray.size_append, y4, y1, yn, yg, yo, yd]; omega), by (simp only [ByteArray.size_append, y4, y1, yn, yg, yo, yd]; omega), ?_⟩
          try simp -implicitDefEqProofs only []
          refine call1 (by simp -implicitDefEqProofs only [List.map_cons, Nat.reduceLT, ev_tab, upd_eq, List.map_nil] <;> rfl) c2 ?_
          simp -implicitDefEqProofs only [↓dops_cons, ↓g_binOp, Nat.reduceLT, ev_tab, ne_eq, Nat.reduceEqDiff, not_false_eq_true, upd_ne, upd_eq, t_add, ev_const, of_str, ↓g_fieldAddrT, fadr97_3, Nat.zero_add, ↓g_load, onS_some, rd_def, tyOk3, agg3, cells3, hap_0, List.getElem?_cons_zero, rd_onec, List.getElem?_cons_succ, onS_ite]
          refine ⟨by (simp only [ByteArray.size_append, y4, y1, yn, yg, yo, yd]; omega), by (simp only [ByteArray.size_append, y4, y1, yn, yg, yo, yd]; omega), ?_⟩
          try simp -implicitDefEqProofs only []
          refine call1 (by simp -implicitDefEqProofs only [List.map_cons, Nat.reduceLT, ev_tab, upd_eq, List.map_nil] <;> rfl) c4 ?_
          simp -implicitDefEqProofs only [↓dops_cons, ↓g_binOp, Nat.reduceLT, ev_tab, ne_eq, Nat.reduceEqDiff, not_false_eq_true, upd_ne, upd_eq, t_add, ev_const, of_str, ↓g_assign, ↓dops_p, ↓w_region, ↓ops_cons, ↓g_move, a4, of_int, b_add, ↓ops_nil, onS_some, onS_ite]
          refine ⟨by (simp only [ByteArray.size_append, y4, y1, yn, yg, yo, yd]; omega), by (simp only [ByteArray.size_append, y4, y1, yn, yg, yo, yd]; omega), ?_⟩
          refine ⟨pairs_cons (same_H rfl) (pairs_cons (same_H rfl) (pairs_cons (same_H rfl) (pairs_cons (same_H rfl) (pairs_cons (same_H rfl) (pairs_cons (same_H rfl) (pairs_cons (same_H rfl) (pairs_cons (same_H rfl) (pairs_cons (same_H rfl) (pairs_cons (same_H rfl) (pairs_cons (same_H rfl) (pairs_nil))))))))))), ?_⟩
          have on' : outsT P (l4.take i) ++ (⟨#[111, 117, 116, 32]⟩ : ByteArray) ++ decT (p.int 0).toNat ++ (⟨#[32]⟩ : ByteArray) ++ decT (p.int 1).toNat ++ (⟨#[32]⟩ : ByteArray) ++ decT (p.int 2).toNat ++ (⟨#[32]⟩ : ByteArray) ++ decT (p.int 4).toNat ++ (⟨#[10]⟩ : ByteArray) = outsT P (l4.take (i + 1)) := by
            rw [on]
            simp only [outT, ByteArray.append_assoc]
          rw [on']
          simp -implicitDefEqProofs only [e1]
          refine ⟨i + 1, by omega, _, _, rfl, eG.add _, by omega, ?_, ?_, ?_⟩ <;> simp -implicitDefEqProofs only [ne_eq, Nat.reduceEqDiff, not_false_eq_true, upd_ne, a2, upd_eq] <;> rfl
        · have k1 : ¬ (i : Int) < l4.length := by omega
          have hi : i = l4.length := by omega
          rw [hi, List.take_length] at a3
          simp -implicitDefEqProofs only [↓w_seq, ↓w_region, ↓ops_cons, ↓g_move, ↓g_fieldAddrT, Nat.reduceLT, ev_tab, a4, ne_eq, Nat.reduceEqDiff, not_false_eq_true, upd_ne, a2, fadr60_5, Nat.zero_add, ↓g_load, upd_eq, ↓g_len, Tryd.underlying58, ↓g_binOp, ↓ops_nil, ↓w_cond, ↓w_skip, ↓w_block, ↓g_indexAddr, ↓g_alloc, zero97, Option.map_some, ↓g_store, alK_some, List.all_cons, one_int, List.all_nil, Bool.and_self, wr_def, tyOk97, cells97, at_end, wr_c, List.length_cons, List.length_nil, Nat.reduceAdd, Nat.le_refl, true_and, onS_ite, onS_some, rd_def, tyOk58, agg58, cells58, b0, rd_onec, List.getElem?_cons_succ, List.getElem?_cons_zero, ↓w_exit, ↓g_assign, ↓w_ret, a3, retP_1, res_tmp, if_true, l4', b_lss, k1, decide_false, onB_false]
          exact e0.trans eG
      · refine ⟨_, _, rfl, .refl _, by omega, ?_, ?_, ?_⟩ <;> simp -implicitDefEqProofs only [ne_eq, Nat.reduceEqDiff, not_false_eq_true, upd_ne, a2, upd_eq, List.take_zero, Int.cast_ofNat_Int] <;> rfl
  · refine ⟨_, rfl, by omega, ?_, ?_, ?_⟩ <;> simp -implicitDefEqProofs only [ne_eq, Nat.reduceEqDiff, not_false_eq_true, upd_ne, upd_eq, List.take_zero, Int.cast_ofNat_Int] <;> rfl
end Go.Proofs.YtfgmmklljibbiaaDoor.Sim

