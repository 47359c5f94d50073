/- What is shown of a term: the program. -/
import Derived.Test.YtfgmmklljibbiaaDoorFTermS
namespace Go.Proofs.YtfgmmklljibbiaaDoor.Sim
open Go
set_option maxRecDepth 100000
set_option maxHeartbeats 40000000
set_option linter.unusedSimpArgs false
set_option linter.unusedVariables false
theorem decI (n : Nat) (hn : n ≤ 9223372036854775807) : Fn Tryd.prog 63 [.sc (.int .i64 n)] (.sc (.string (decT n))) := by
  refine Fn.run 5 [.tmp 2] Tryd.func63 rfl rfl rfl rfl (by simp) (flats_cons (.sc _) flats_nil) (.sc _) ?_
  simp -implicitDefEqProofs only [↓w_seq, ↓w_region, ↓ops_cons, ↓g_assign, ↓ops_nil, ev_const, of_str, ↓g_move, Nat.reduceLT, ev_tab, ne_eq, reduceCtorEq, not_false_eq_true, upd_ne, par0]
  refine call1 (by simp -implicitDefEqProofs only [List.map_cons, Nat.reduceLT, ev_tab, upd_eq, List.map_nil] <;> rfl) (itoaC n hn) ?_
  simp -implicitDefEqProofs only [↓ops_cons, ↓g_assign, ↓ops_nil, ↓w_ret, Nat.reduceLT, ev_tab, upd_eq, ret_one]
/-- Bytes that one may add to: none, or a whole region of its own. -/
def OwnU (H : AHeap) (y : AV) (b : List Int) (n : Nat) : Prop := b.length = n ∧ ((y = .sc (.slice none 0 0) ∧ b = []) ∨ ∃ r, y = .sl r 0 n 1 ∧ H[r]? = some ⟨ints .u8 b, true, true⟩)
def NotIn (y : AV) (i : Nat) : Prop := ∀ r o n k, y = .sl r o n k → i ≠ r
theorem nums_add (a b : ByteArray) : nums (a ++ b) = nums a ++ nums b := by
  simp [nums]
theorem apU {G : AHeap} {y : AV} {b : List Int} {n : Nat} (hy : OwnU G y b n) (z : ByteArray) (h0 : z.size ≠ 0) (hb : n + z.size ≤ 1000000000) :
    ∃ K : AHeap, K.length = G.length ∧ (∀ i, NotIn y i → K[i]? = G[i]?) ∧ apV Tryd.prog (some (.slice 5)) (some .string) y (.sc (.string z)) G = some (.sl K.length 0 (n + z.size) 1, K ++ [⟨ints .u8 (b ++ nums z), true, true⟩]) := by
  have h1 : z.size ≤ 140737488355328 := by omega
  have h2 : n + z.size ≤ 140737488355328 := by omega
  obtain ⟨hn, ⟨rfl, rfl⟩ | ⟨r, rfl, hr⟩⟩ := hy
  · refine ⟨G, rfl, fun _ _ => rfl, ?_⟩
    have hn : n = 0 := by simpa using hn.symm
    subst hn
    have an : ∀ x : AV, apV Tryd.prog (some (.slice 5)) (some .string) (.sc (.slice none 0 0)) x G = apN 1 G (srcCells G x 1) := fun x => ap_nil zero5 info5 cells5 rfl x
    simp -implicitDefEqProofs only [an, src_str, ap_intsN, nums_len, Nat.mul_one, h1, and_self, h0, if_false, if_true, Nat.zero_add, List.nil_append]
  · refine ⟨killReg G r, kill_len _, fun i hi => kill_at _ _ _ (hi _ _ _ _ rfl), ?_⟩
    have ht : b.take n = b := List.take_of_length_le (by omega)
    have hle : n ≤ b.length := by omega
    simp -implicitDefEqProofs only [apStr87, hr, src_str, ap_ints, hle, nums_len, Nat.mul_one, h2, and_self, ht, if_true, kill_len]
theorem n40 : nums (⟨#[40]⟩ : ByteArray) = [40] := rfl
theorem n41 : nums (⟨#[41]⟩ : ByteArray) = [41] := rfl
theorem n44 : nums (⟨#[44]⟩ : ByteArray) = [44] := rfl
theorem n0 : nums ByteArray.empty = [] := rfl
theorem at_kk (Z : AHeap) (R R' : Reg) (q i : Nat) (hi : i < Z.length) (hne : i ≠ q) : (killReg (Z ++ [R]) q ++ [R'])[i]? = Z[i]? := by
  rw [at_more _ _ _ (by rw [kill_len, List.length_append]; omega), kill_at _ _ _ hne, at_more _ _ _ hi]
theorem bytesI {r0 : Nat} {ow : Bool} {l : List (Rw kNode)} (hl : l.length ≤ 1048576) (m : Nat) (hm : m ≤ l.length) (al : allTo l m) : ∀ n, n < m → (szs l).getD n 0 ≤ 2000 → ∀ {H : AHeap} {y : AV} {b : List Int} {c : Nat}, OwnU H y b c → c ≤ 100000000 + 25 * (2000 - ((szs l).getD n 0).toNat) → H[r0]? = some ⟨rows Rw.cs l, ow, true⟩ → NotIn y r0 →
    ∃ q Z, Sound Tryd.prog 35 [y, .agg [.sl r0 0 l.length 4], .sc (.int .i64 n)] H (.sl q 0 (c + ((txs l).getD n ByteArray.empty).size) 1) Z ∧ H.length ≤ q ∧ Z[q]? = some ⟨ints .u8 (b ++ nums ((txs l).getD n ByteArray.empty)), true, true⟩ ∧ H.length ≤ Z.length ∧ ∀ i, i < H.length → NotIn y i → Z[i]? = H[i]? := by
  intro n
  induction n using Nat.strongRecOn with
  | _ n ih =>
  intro hn hs H y b c hy hc hr0 hny
  suffices h : ∃ w Z, Sound Tryd.prog 35 [y, .agg [.sl r0 0 l.length 4], .sc (.int .i64 n)] H w Z ∧ ∃ q, w = .sl q 0 (c + ((txs l).getD n ByteArray.empty).size) 1 ∧ H.length ≤ q ∧ Z[q]? = some ⟨ints .u8 (b ++ nums ((txs l).getD n ByteArray.empty)), true, true⟩ ∧ H.length ≤ Z.length ∧ ∀ i, i < H.length → NotIn y i → Z[i]? = H[i]? by
    obtain ⟨w, Z, h1, q, rfl, h2⟩ := h
    exact ⟨q, Z, h1, h2⟩
  refine Sound.runP (args := [y, .agg [.sl r0 0 l.length 4], .sc (.int .i64 n)]) 48 [.tmp 6] Tryd.func35 rfl rfl rfl rfl (by simp) (fun w Z => ∃ q, w = .sl q 0 (c + ((txs l).getD n ByteArray.empty).size) 1 ∧ H.length ≤ q ∧ Z[q]? = some ⟨ints .u8 (b ++ nums ((txs l).getD n ByteArray.empty)), true, true⟩ ∧ H.length ≤ Z.length ∧ ∀ i, i < H.length → NotIn y i → Z[i]? = H[i]?) ?_
  have hp : l[n]? = some l[n] := List.getElem?_eq_getElem (by omega)
  generalize l[n] = p at hp
  have ok := al n p hn hp
  have et := txs_at l n p hp ok
  have rr := fun (o : Bool) => rd_row encNode hp o
  rw [csNode p] at rr
  obtain ⟨A, hA⟩ : ∃ A : Reg, A = ⟨[.sl r0 0 l.length 4], true, true⟩ := ⟨_, rfl⟩
  obtain ⟨B, hB⟩ : ∃ B : Reg, B = ⟨[.sc (.int .i64 (p.int 0)), .sc (.int .i64 (p.int 1)), .sc (.int .i64 (p.int 2)), .sc (.int .i64 (p.int 3))], true, true⟩ := ⟨_, rfl⟩
  have b0 : (H ++ [A])[H.length]? = some ⟨[.sl r0 0 l.length 4], true, true⟩ := by rw [← hA]; exact hap_0 H [A]
  have r1 := at_more H [A] r0 (at_lt hr0)
  rw [hr0] at r1
  have k2 : (0 : Int) ≤ n := by omega
  have k3 : (n : Int) < l.length := by omega
  have k4 : n < l.length := by omega
  have ok' := ok
  unfold okR okN at ok'
  have L := letT_size (p.int 0) (by omega)
  have cl := letterI (p.int 0) (by omega)
  have hy2 : OwnU (H ++ [A, B]) y b c := by
    refine ⟨hy.1, ?_⟩
    rcases hy.2 with h | ⟨r, h, hr⟩
    · exact .inl h
    · exact .inr ⟨r, h, (Ext.more H [A, B]).at hr⟩
  obtain ⟨K, hK1, hK2, apx⟩ := apU hy2 (letT (p.int 0)) (by omega) (by omega)
  have hK3 : K.length = H.length + 2 := by rw [hK1]; simp
  have hK4 : ∀ i, i < H.length + 2 → NotIn y i → ∀ Y, (K ++ Y)[i]? = (H ++ [A, B])[i]? := fun i hi hq Y => (at_more K Y i (by omega)).trans (hK2 i hq)
  have ny : ∀ i, H.length ≤ i → NotIn y i := fun i hi r o nn kk e => by
    rcases hy.2 with ⟨h, _⟩ | ⟨r', h, hr⟩
    · rw [h] at e; cases e
    · rw [h] at e
      injection e with e1
      have := at_lt hr
      omega
  have f1 : ∀ Y, (K ++ Y)[H.length]? = some ⟨[.sl r0 0 l.length 4], true, true⟩ := fun Y => (hK4 _ (by omega) (ny _ (by omega)) Y).trans (by rw [← hA]; exact hap_0 H [A, B])
  have f2 : ∀ Y, (K ++ Y)[H.length + 1]? = some ⟨[.sc (.int .i64 (p.int 0)), .sc (.int .i64 (p.int 1)), .sc (.int .i64 (p.int 2)), .sc (.int .i64 (p.int 3))], true, true⟩ := fun Y => (hK4 _ (by omega) (ny _ (by omega)) Y).trans (by rw [← hB]; exact hap_k H [A, B] 1)
  have f3 : ∀ Y, (K ++ Y)[r0]? = some ⟨rows Rw.cs l, ow, true⟩ := fun Y => (hK4 _ (by have := at_lt hr0; omega) hny Y).trans ((Ext.more H [A, B]).at hr0)
  have f4 : ∀ i, i < H.length → NotIn y i → ∀ Y, (K ++ Y)[i]? = H[i]? := fun i hi hq Y => (hK4 i (by omega) hq Y).trans (at_more _ _ _ hi)
  rw [L] at apx
  by_cases h1 : p.int 0 = 1
  · rw [if_pos h1] at et
    rw [et]
    have cd := decI (p.int 1).toNat (by omega)
    rw [show (((p.int 1).toNat : Nat) : Int) = p.int 1 by omega] at cd
    have sd := decT_size (p.int 1).toNat (by omega)
    have hlt : letT (p.int 0) = (⟨#[97]⟩ : ByteArray) := by rw [h1]; rfl
    have hbl : b.length = c := hy.1
    generalize decT (p.int 1).toNat = d at *
    simp -implicitDefEqProofs only [↓w_seq, ↓w_region, ↓ops_cons, ↓g_box, Nat.reduceLT, ev_tab, par1, cells_agg, ↓g_assign, ↓ops_nil, ev_const, ↓g_fieldAddrT, ne_eq, Nat.reduceEqDiff, not_false_eq_true, upd_ne, upd_eq, ↓g_load, ↓g_move, ↓g_indexAddr, Tryd.underlying41, par2, ↓g_alloc, zero123, Option.map_some, ↓g_store, reduceCtorEq, par0, alK_some, List.all_cons, one_int, List.all_nil, Bool.and_self, wr_def, tyOk123, cells123, at_end, wr_c, Nat.zero_add, List.length_cons, List.length_nil, Nat.reduceAdd, Nat.le_refl, true_and, fadr123_0, onS_some, rd_def, tyOk3, agg3, cells3, onS_ite, one_sl, fadr43_0, List.length_append, tyOk41, agg41, cells41, rd_onec, List.getElem?_cons_zero, adr_sl, and_self, and_true, agg123]
    rw [← hA]
    simp -implicitDefEqProofs only [k2, k3, and_self, r1, Int.toNat_natCast, rr, List.append_assoc, List.cons_append, List.nil_append, hset_k, List.set_cons_succ, List.set_cons_zero, hap_k, List.getElem?_cons_succ, List.getElem?_cons_zero, onS_some, cells_agg, List.length_cons, List.length_nil, Nat.zero_add, Nat.reduceAdd, List.all_cons, one_int, List.all_nil, Bool.and_self, ovC, ovN, rd_onec, true_and]
    try rw [← hB]
    try refine call1 (by simp -implicitDefEqProofs only [List.map_cons, Nat.reduceLT, ev_tab, upd_eq, List.map_nil] <;> rfl) cl ?_
    have apx' := apx
    rw [h1] at apx'
    have q1 : c + 1 ≤ 140737488355328 := by omega
    have q2 : c + 1 + d.size ≤ 140737488355328 := by omega
    have q3 : (b ++ nums (letT 1)).length = c + 1 := by rw [List.length_append, nums_len, hbl, ← h1, L]
    have q4 : c + 1 ≤ (b ++ nums (letT 1)).length := by omega
    have q5 : (b ++ nums (letT 1)).take (c + 1) = b ++ nums (letT 1) := List.take_of_length_le (by omega)
    simp -implicitDefEqProofs only [↓ops_cons, ↓g_append, Tryd.underlying87, Tryd.underlying9, h1, Nat.reduceLT, ev_tab, ne_eq, Nat.reduceEqDiff, not_false_eq_true, upd_ne, upd_eq, apx', ↓g_assign, ↓ops_nil, ↓w_seq, ↓w_region, ↓g_fieldAddrT, reduceCtorEq, fadr123_0, Nat.zero_add, ↓g_load, ↓g_binOp, ev_const, of_int, ↓w_cond, ↓g_move, fadr123_1, onS_some, rd_def, tyOk3, agg3, cells3, ↓w_skip, ↓g_buildSlice, List.map_cons, List.map_nil, bs5_1, tyOk43, agg43, cells43, fadr123_2, alK_some, ints_one, true_and, f2, rd_onec, List.getElem?_cons_zero, List.getElem?_cons_succ, List.length_append, List.length_cons, List.length_nil, apS87, at_a, src_sl, at_b, at_ints, Nat.le_refl, List.drop_zero, List.take_succ_cons, List.take_zero, if_true, ap_ints, nums_len, Nat.mul_one, Nat.reduceLeDiff, and_self, onS_ite, b_eql, decide_true, onB_true]
    refine call1 (by simp -implicitDefEqProofs only [List.map_cons, Nat.reduceLT, ev_tab, upd_eq, List.map_nil] <;> rfl) cd ?_
    simp -implicitDefEqProofs only [↓ops_cons, ↓g_append, Tryd.underlying87, Tryd.underlying9, Nat.reduceLT, ev_tab, ne_eq, Nat.reduceEqDiff, not_false_eq_true, upd_ne, upd_eq, apStr87, hap_0, List.getElem?_cons_zero, src_str, ap_ints, List.length_append, nums_len, Nat.add_assoc, Nat.mul_one, and_self, List.length_cons, List.length_nil, Nat.zero_add, hkill_0, kill_0, q5, List.append_assoc, List.cons_append, List.nil_append, ↓g_assign, ↓ops_nil, ↓w_ret, retP_1, res_tmp, onS_some, onS_ite, Nat.reduceAdd]
    have la : letT 1 = (⟨#[97]⟩ : ByteArray) := rfl
    refine ⟨⟨by rw [hbl, ← h1, L]; omega, by omega⟩, K.length + 1, by rw [ByteArray.size_append, zt4], by omega, ?_, by omega, fun i hi hq => f4 i hi hq _⟩
    rw [hap_k K _ 1, la]
    simp only [List.getElem?_cons_succ, List.getElem?_cons_zero, nums_append, List.append_assoc]
  · rw [if_neg h1] at et
    have sm := small_a l n p hp m hm hn al hs h1
    have P2 := szs_pos l m hm al (p.int 2).toNat (by omega)
    have hA2 : (p.int 2).toNat < n := by omega
    have hb := hasBI (p.int 0)
    have hsA : (szs l).getD (p.int 2).toNat 0 + 1 ≤ (szs l).getD n 0 := by split at sm <;> (try unfold hasB at *) <;> first | omega | (have := szs_pos l m hm al (p.int 3).toNat (by omega); omega)
    have tA := txs_size l m hm al (p.int 2).toNat (by omega) (by omega)
    obtain ⟨R1, hR1⟩ : ∃ R1 : Reg, R1 = ⟨ints .u8 (b ++ nums (letT (p.int 0)) ++ [40]), true, true⟩ := ⟨_, rfl⟩
    have hbl : b.length = c := hy.1
    have q1 : c + 1 ≤ 140737488355328 := by omega
    have q2 : c + 1 + 1 ≤ 140737488355328 := by omega
    have q3 : (b ++ nums (letT (p.int 0))).length = c + 1 := by rw [List.length_append, nums_len, hbl, L]
    have q4 : c + 1 ≤ (b ++ nums (letT (p.int 0))).length := by omega
    have q5 : (b ++ nums (letT (p.int 0))).take (c + 1) = b ++ nums (letT (p.int 0)) := List.take_of_length_le (by omega)
    simp -implicitDefEqProofs only [↓w_seq, ↓w_region, ↓ops_cons, ↓g_box, Nat.reduceLT, ev_tab, par1, cells_agg, ↓g_assign, ↓ops_nil, ev_const, ↓g_fieldAddrT, ne_eq, Nat.reduceEqDiff, not_false_eq_true, upd_ne, upd_eq, ↓g_load, ↓g_move, ↓g_indexAddr, Tryd.underlying41, par2, ↓g_alloc, zero123, Option.map_some, ↓g_store, reduceCtorEq, par0, alK_some, List.all_cons, one_int, List.all_nil, Bool.and_self, wr_def, tyOk123, cells123, at_end, wr_c, Nat.zero_add, List.length_cons, List.length_nil, Nat.reduceAdd, Nat.le_refl, true_and, fadr123_0, onS_some, rd_def, tyOk3, agg3, cells3, onS_ite, one_sl, fadr43_0, List.length_append, tyOk41, agg41, cells41, rd_onec, List.getElem?_cons_zero, adr_sl, and_self, and_true, agg123]
    rw [← hA]
    simp -implicitDefEqProofs only [k2, k3, and_self, r1, Int.toNat_natCast, rr, List.append_assoc, List.cons_append, List.nil_append, hset_k, List.set_cons_succ, List.set_cons_zero, hap_k, List.getElem?_cons_succ, List.getElem?_cons_zero, onS_some, cells_agg, List.length_cons, List.length_nil, Nat.zero_add, Nat.reduceAdd, List.all_cons, one_int, List.all_nil, Bool.and_self, ovC, ovN, rd_onec, true_and]
    try rw [← hB]
    try refine call1 (by simp -implicitDefEqProofs only [List.map_cons, Nat.reduceLT, ev_tab, upd_eq, List.map_nil] <;> rfl) cl ?_
    obtain ⟨J, hJ⟩ : ∃ J : AHeap, J = K ++ [⟨ints .u8 (b ++ nums (letT (p.int 0))), true, false⟩, ⟨ints .u8 [40], true, true⟩, ⟨ints .u8 (b ++ (nums (letT (p.int 0)) ++ [40])), true, true⟩] := ⟨_, rfl⟩
    have J1 : J.length = H.length + 5 := by rw [hJ, List.length_append, hK3]; rfl
    have J2 : J[K.length + 2]? = some ⟨ints .u8 (b ++ (nums (letT (p.int 0)) ++ [40])), true, true⟩ := by rw [hJ]; exact hap_k K _ 2
    have g1 : J[H.length]? = some ⟨[.sl r0 0 l.length 4], true, true⟩ := by rw [hJ]; exact f1 _
    have g2 : J[H.length + 1]? = some ⟨[.sc (.int .i64 (p.int 0)), .sc (.int .i64 (p.int 1)), .sc (.int .i64 (p.int 2)), .sc (.int .i64 (p.int 3))], true, true⟩ := by rw [hJ]; exact f2 _
    have g3 : J[r0]? = some ⟨rows Rw.cs l, ow, true⟩ := by rw [hJ]; exact f3 _
    have g4 : ∀ i, i < H.length → NotIn y i → J[i]? = H[i]? := fun i hi hq => by rw [hJ]; exact f4 i hi hq _
    have r0l := at_lt hr0
    have not : ∀ (q n i : Nat), i ≠ q → NotIn (.sl q 0 n 1) i := fun q n i h r o nn kk e => by injection e with e1; omega
    obtain ⟨qa, Za, za, za1, za2, za3, za4⟩ := ih (p.int 2).toNat hA2 (by omega) (by omega) (H := J) (y := .sl (K.length + 2) 0 (c + 2) 1) (b := b ++ (nums (letT (p.int 0)) ++ [40])) (c := c + 2) ⟨by rw [List.length_append, List.length_append, nums_len, hbl, L]; rfl, .inr ⟨_, rfl, J2⟩⟩ (by omega) g3 (not _ _ _ (by omega))
    rw [show (((p.int 2).toNat : Nat) : Int) = p.int 2 by omega] at za
    have ga1 := (za4 _ (by omega) (not _ _ _ (by omega))).trans g1
    have ga2 := (za4 _ (by omega) (not _ _ _ (by omega))).trans g2
    have ga3 := (za4 _ (by omega) (not _ _ _ (by omega))).trans g3
    have ga4 : ∀ i, i < H.length → NotIn y i → Za[i]? = H[i]? := fun i hi hq => (za4 _ (by omega) (not _ _ _ (by omega))).trans (g4 i hi hq)
    generalize hta : (txs l).getD (p.int 2).toNat ByteArray.empty = ta at *
    have qal := at_lt za2
    have za2' := fun g => at_more Za [g] qa qal
    rw [za2] at za2'
    obtain ⟨U, hU⟩ : ∃ U : List Int, U = b ++ (nums (letT (p.int 0)) ++ [40]) ++ nums ta := ⟨_, rfl⟩
    have Ul : U.length = c + 2 + ta.size := by
      rw [hU, List.length_append, List.length_append, List.length_append, nums_len, nums_len, hbl, L]
      rfl
    rw [← hU] at za2 za2'
    have Ut : U.take (c + 2 + ta.size) = U := List.take_of_length_le (by omega)
    have u1 : c + 2 + ta.size ≤ U.length := by omega
    have u2 : c + 2 + ta.size + 1 ≤ 140737488355328 := by omega
    have Ut' : U.take (c + (2 + ta.size)) = U := List.take_of_length_le (by omega)
    have u1' : c + (2 + ta.size) ≤ U.length := by omega
    have u2' : c + (2 + (ta.size + 1)) ≤ 140737488355328 := by omega
    simp -implicitDefEqProofs only [↓ops_cons, ↓g_append, Tryd.underlying87, Tryd.underlying9, Nat.reduceLT, ev_tab, ne_eq, Nat.reduceEqDiff, not_false_eq_true, upd_ne, upd_eq, apx, ↓g_assign, ↓ops_nil, ↓w_seq, ↓w_region, ↓g_fieldAddrT, reduceCtorEq, fadr123_0, Nat.zero_add, ↓g_load, ↓g_binOp, ev_const, of_int, ↓w_cond, ↓g_move, fadr123_1, onS_some, rd_def, tyOk3, agg3, cells3, ↓w_skip, ↓g_buildSlice, List.map_cons, List.map_nil, bs5_1, tyOk43, agg43, cells43, fadr123_2, alK_some, ints_one, true_and, f2, rd_onec, List.getElem?_cons_zero, List.getElem?_cons_succ, List.length_append, List.length_cons, List.length_nil, List.append_assoc, List.cons_append, List.nil_append, apS87, hap_0, src_sl, hap_k, at_ints, Nat.le_refl, List.drop_zero, List.take_succ_cons, List.take_zero, if_true, ap_ints, hbl, nums_len, L, Nat.add_assoc, Nat.reduceAdd, Nat.mul_one, q2, and_self, hkill_0, kill_0, q5, f1, rd_aggc, b_eql, h1, decide_false, onB_false]
    rw [← hJ]
    try refine call1S (by simp -implicitDefEqProofs only [List.map_cons, Nat.reduceLT, ev_tab, ne_eq, Nat.reduceEqDiff, not_false_eq_true, upd_ne, upd_eq, List.map_nil] <;> rfl) za ?_
    try simp -implicitDefEqProofs only [↓ops_cons, ↓g_assign, ↓ops_nil, ↓w_seq, ↓w_region, Nat.reduceLT, ev_tab, upd_eq, ↓g_fieldAddrT, ne_eq, reduceCtorEq, not_false_eq_true, upd_ne, Nat.reduceEqDiff, fadr123_0, Nat.zero_add, ↓g_load, onS_some, rd_def, tyOk3, agg3, cells3, ga2, rd_onec, List.getElem?_cons_zero]
    refine call1 (by simp -implicitDefEqProofs only [List.map_cons, Nat.reduceLT, ev_tab, upd_eq, List.map_nil] <;> rfl) hb ?_
    by_cases h2 : hasB (p.int 0)
    · rw [decide_eq_true h2]
      rw [if_pos h2] at et sm
      have h2' := h2
      unfold hasB at h2'
      have P3 := szs_pos l m hm al (p.int 3).toNat (by omega)
      have hB2 : (p.int 3).toNat < n := by omega
      obtain ⟨M, hM⟩ : ∃ M : AHeap, M = killReg (Za ++ [⟨ints .u8 [44], true, true⟩]) qa ++ [⟨ints .u8 (U ++ [44]), true, true⟩] := ⟨_, rfl⟩
      have M1 : M.length = Za.length + 2 := by rw [hM, List.length_append, kill_len, List.length_append]; rfl
      have M2 : M[Za.length + 1]? = some ⟨ints .u8 (U ++ [44]), true, true⟩ := by rw [hM]; exact at_kill Za _ qa _
      have mk := fun i (hi : i < Za.length) (hne : i ≠ qa) => at_kk Za ⟨ints .u8 [44], true, true⟩ ⟨ints .u8 (U ++ [44]), true, true⟩ qa i hi hne
      rw [← hM] at mk
      have m1 := (mk H.length (by omega) (by omega)).trans ga1
      have m2 := (mk (H.length + 1) (by omega) (by omega)).trans ga2
      have m3 := (mk r0 (by omega) (by omega)).trans ga3
      have m4 : ∀ i, i < H.length → NotIn y i → M[i]? = H[i]? := fun i hi hq => (mk i (by omega) (by omega)).trans (ga4 i hi hq)
      have tB := txs_size l m hm al (p.int 3).toNat (by omega) (by omega)
      obtain ⟨qb, Zb, zb, zb1, zb2, zb3, zb4⟩ := ih (p.int 3).toNat hB2 (by omega) (by omega) (H := M) (y := .sl (Za.length + 1) 0 (c + (2 + (ta.size + 1))) 1) (b := U ++ [44]) (c := c + (2 + (ta.size + 1))) ⟨by rw [List.length_append, Ul]; simp; omega, .inr ⟨_, rfl, M2⟩⟩ (by omega) m3 (not _ _ _ (by omega))
      rw [show (((p.int 3).toNat : Nat) : Int) = p.int 3 by omega] at zb
      have gb4 : ∀ i, i < H.length → NotIn y i → Zb[i]? = H[i]? := fun i hi hq => (zb4 _ (by omega) (not _ _ _ (by omega))).trans (m4 i hi hq)
      generalize htb : (txs l).getD (p.int 3).toNat ByteArray.empty = tb at *
      have qbl := at_lt zb2
      have zb2' := fun g => at_more Zb [g] qb qbl
      rw [zb2] at zb2'
      obtain ⟨V, hV⟩ : ∃ V : List Int, V = U ++ [44] ++ nums tb := ⟨_, rfl⟩
      have Vl : V.length = c + (2 + (ta.size + 1)) + tb.size := by
        rw [hV, List.length_append, List.length_append, nums_len, Ul]
        simp
        omega
      rw [← hV] at zb2 zb2'
      have Vt : V.take (c + (2 + (ta.size + (1 + tb.size)))) = V := List.take_of_length_le (by omega)
      have v1 : c + (2 + (ta.size + (1 + tb.size))) ≤ V.length := by omega
      have v2 : c + (2 + (ta.size + (1 + (tb.size + 1)))) ≤ 140737488355328 := by omega
      simp -implicitDefEqProofs only [↓ops_nil, ↓w_cond, Nat.add_assoc, Nat.reduceLT, ev_tab, upd_eq, ↓w_seq, ↓w_region, ↓ops_cons, ↓g_move, ↓g_buildSlice, Tryd.underlying87, ne_eq, reduceCtorEq, not_false_eq_true, upd_ne, List.map_cons, ev_const, of_int, List.map_nil, bs5_1, ↓g_append, Nat.reduceEqDiff, apS87, ↓g_assign, ↓g_load, rd_def, tyOk43, agg43, cells43, ↓g_fieldAddrT, fadr123_3, Nat.zero_add, onS_some, tyOk3, agg3, cells3, alK_some, ints_one, za2', src_sl, hap_0, List.getElem?_cons_zero, at_ints, List.length_cons, List.length_nil, Nat.le_refl, List.drop_zero, List.take_succ_cons, List.take_zero, if_true, ap_ints, Ul, Nat.mul_one, u2', and_self, List.length_append, Ut', true_and, ↓w_skip, ↓w_ret, retP_1, res_tmp, kill_len, Nat.reduceAdd, onB_true]
      try rw [← hM]
      try simp -implicitDefEqProofs only [m1, rd_aggc, Nat.zero_add, List.length_cons, List.length_nil, Nat.le_refl, List.drop_zero, List.take_succ_cons, List.take_zero, if_true, m2, rd_onec, List.getElem?_cons_succ, List.getElem?_cons_zero, onS_some]
      try refine call1S (by simp -implicitDefEqProofs only [List.map_cons, Nat.reduceLT, ev_tab, ne_eq, Nat.reduceEqDiff, not_false_eq_true, upd_ne, upd_eq, List.map_nil] <;> rfl) zb ?_
      simp -implicitDefEqProofs only [↓ops_cons, ↓g_assign, ↓ops_nil, ↓w_seq, ↓w_region, Nat.add_assoc, Nat.reduceLT, ev_tab, upd_eq, ↓g_move, ↓g_buildSlice, Tryd.underlying87, List.map_cons, ev_const, of_int, List.map_nil, bs5_1, ↓g_append, ne_eq, Nat.reduceEqDiff, not_false_eq_true, upd_ne, apS87, ↓w_ret, retP_1, res_tmp, onS_some, alK_some, ints_one, zb2', src_sl, hap_0, List.getElem?_cons_zero, at_ints, Nat.zero_add, List.length_cons, List.length_nil, Nat.le_refl, List.drop_zero, List.take_succ_cons, List.take_zero, if_true, ap_ints, Vl, Nat.mul_one, v2, and_self, List.length_append, Vt, kill_len, Nat.reduceAdd, true_and]
      have hsz : ((txs l).getD n ByteArray.empty).size = 2 + (ta.size + (1 + (tb.size + 1))) := by
        rw [et]
        simp only [ByteArray.size_append, zt1, zt2, zt3, L]
        omega
      refine ⟨Zb.length + 1, by rw [hsz], by omega, (at_kill Zb _ qb _).trans ?_, by omega, fun i hi hq => (at_kk _ _ _ _ _ (by omega) (by omega)).trans (gb4 i hi hq)⟩
      rw [et, hV, hU]
      simp only [nums_append, n40, n41, n44, List.append_assoc, List.nil_append]
    · rw [decide_eq_false h2]
      rw [if_neg h2] at et
      simp -implicitDefEqProofs only [↓ops_nil, ↓w_cond, Nat.add_assoc, Nat.reduceLT, ev_tab, upd_eq, ↓w_seq, ↓w_region, ↓ops_cons, ↓g_move, ↓g_buildSlice, Tryd.underlying87, ne_eq, reduceCtorEq, not_false_eq_true, upd_ne, List.map_cons, ev_const, of_int, List.map_nil, bs5_1, ↓g_append, Nat.reduceEqDiff, apS87, ↓g_assign, ↓g_load, rd_def, tyOk43, agg43, cells43, ↓g_fieldAddrT, fadr123_3, Nat.zero_add, onS_some, tyOk3, agg3, cells3, alK_some, ints_one, za2', src_sl, hap_0, List.getElem?_cons_zero, at_ints, List.length_cons, List.length_nil, Nat.le_refl, List.drop_zero, List.take_succ_cons, List.take_zero, if_true, ap_ints, Ul, Nat.mul_one, u2', and_self, List.length_append, Ut', true_and, ↓w_skip, ↓w_ret, retP_1, res_tmp, kill_len, Nat.reduceAdd, onB_false]
      have hsz : ((txs l).getD n ByteArray.empty).size = 2 + (ta.size + 1) := by
        rw [et]
        simp only [ByteArray.size_append, zt1, zt3, L, ByteArray.size_empty]
        omega
      refine ⟨Za.length + 1, by rw [hsz], by omega, (at_kill Za _ qa _).trans ?_, by omega, fun i hi hq => (at_kk _ _ _ _ _ (by omega) (by omega)).trans (ga4 i hi hq)⟩
      rw [et, hU]
      simp only [nums_append, n40, n41, n0, List.append_assoc, List.nil_append]
end Go.Proofs.YtfgmmklljibbiaaDoor.Sim

