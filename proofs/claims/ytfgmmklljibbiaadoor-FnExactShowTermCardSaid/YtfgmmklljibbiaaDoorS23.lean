/- What a function does with few regions it does among many: its regions may bear other names, and what it leaves behind may be forgotten. -/
import Derived.Test.YtfgmmklljibbiaaDoorS22
namespace Go.Proofs.YtfgmmklljibbiaaDoor.Sim
open Go
set_option linter.unusedSimpArgs false
set_option linter.unusedVariables false
/-- A value whose regions have other names. -/
inductive MV (s : Nat → Option Nat) : AV → AV → Prop where
  | flat {a : AV} : Flat a → MV s a a
  | ptr {r x off : Nat} : s r = some x → MV s (.ptr r off) (.ptr x off)
  | sl {r x off len sz : Nat} : s r = some x → MV s (.sl r off len sz) (.sl x off len sz)
  | agg {cs ds : List AV} : cs.length = ds.length → (∀ (i : Nat) (a b : AV), cs[i]? = some a → ds[i]? = some b → MV s a b) → MV s (.agg cs) (.agg ds)
  | tup {cs ds : List AV} : cs.length = ds.length → (∀ (i : Nat) (a b : AV), cs[i]? = some a → ds[i]? = some b → MV s a b) → MV s (.tup cs) (.tup ds)
theorem MV.there {s : Nat → Option Nat} {ρ ρ2 : Ren} (hx : ∀ r x l, s r = some x → ρ r = some l → ρ2 x = some l) {a b : AV} {v : Value} (h : MV s a b) : VR ρ a v → VR ρ2 b v := by
  induction h generalizing v with
  | flat hf => exact fun k => hf.vr k
  | ptr e => intro k; cases k with | ptr k => exact .ptr (hx _ _ _ e k)
  | sl e =>
    intro k
    cases k with
    | sl a1 a2 a3 => exact .sl (hx _ _ _ e a1) a2 a3
    | sl0 a1 => exact .sl0 (hx _ _ _ e a1)
  | @agg cs ds hl _ ih =>
    intro k
    cases k with
    | agg a1 a2 =>
      refine .agg (hl ▸ a1) fun i b v hb hv => ?_
      have hi : i < cs.length := by rw [hl]; exact (List.getElem?_eq_some_iff.1 hb).1
      have ha : cs[i]? = some (cs[i]'hi) := List.getElem?_eq_getElem _
      exact ih i _ b ha hb (a2 i _ v ha hv)
  | @tup cs ds hl _ ih =>
    intro k
    cases k with
    | tup a1 a2 =>
      refine .tup (hl ▸ a1) fun i b v hb hv => ?_
      have hi : i < cs.length := by rw [hl]; exact (List.getElem?_eq_some_iff.1 hb).1
      have ha : cs[i]? = some (cs[i]'hi) := List.getElem?_eq_getElem _
      exact ih i _ b ha hb (a2 i _ v ha hv)
theorem MV.back {s : Nat → Option Nat} {ρ ρ2 : Ren} (hx : ∀ r x l, s r = some x → ρ x = some l → ρ2 r = some l) {a b : AV} {v : Value} (h : MV s a b) : VR ρ b v → VR ρ2 a v := by
  induction h generalizing v with
  | flat hf => exact fun k => hf.vr k
  | ptr e => intro k; cases k with | ptr k => exact .ptr (hx _ _ _ e k)
  | sl e =>
    intro k
    cases k with
    | sl a1 a2 a3 => exact .sl (hx _ _ _ e a1) a2 a3
    | sl0 a1 => exact .sl0 (hx _ _ _ e a1)
  | @agg cs ds hl _ ih =>
    intro k
    cases k with
    | agg a1 a2 =>
      refine .agg (hl.trans a1) fun i a v ha hv => ?_
      have hi : i < ds.length := by rw [← hl]; exact (List.getElem?_eq_some_iff.1 ha).1
      have hb : ds[i]? = some (ds[i]'hi) := List.getElem?_eq_getElem _
      exact ih i a _ ha hb (a2 i _ v hb hv)
  | @tup cs ds hl _ ih =>
    intro k
    cases k with
    | tup a1 a2 =>
      refine .tup (hl.trans a1) fun i a v ha hv => ?_
      have hi : i < ds.length := by rw [← hl]; exact (List.getElem?_eq_some_iff.1 ha).1
      have hb : ds[i]? = some (ds[i]'hi) := List.getElem?_eq_getElem _
      exact ih i a _ ha hb (a2 i _ v hb hv)
inductive ML (s : Nat → Option Nat) : List AV → List AV → Prop where
  | nil : ML s [] []
  | cons {a b : AV} {as bs : List AV} : MV s a b → ML s as bs → ML s (a :: as) (b :: bs)
theorem ML.len {s : Nat → Option Nat} {as bs : List AV} (h : ML s as bs) : as.length = bs.length := by
  induction h with
  | nil => rfl
  | cons _ _ ih => simp [ih]
theorem ML.get {s : Nat → Option Nat} {as bs : List AV} (h : ML s as bs) : ∀ (i : Nat) (a b : AV), as[i]? = some a → bs[i]? = some b → MV s a b := by
  induction h with
  | nil => intro i a b h; simp at h
  | cons h1 _ ih =>
    intro i a b ha hb
    cases i with
    | zero => simp at ha hb; subst ha; subst hb; exact h1
    | succ i => simp at ha hb; exact ih i a b ha hb
theorem MV.tups {s : Nat → Option Nat} {as bs : List AV} (h : ML s as bs) : MV s (.tup as) (.tup bs) := .tup h.len h.get
theorem MV.aggs {s : Nat → Option Nat} {as bs : List AV} (h : ML s as bs) : MV s (.agg as) (.agg bs) := .agg h.len h.get
theorem ML.back {s : Nat → Option Nat} {ρ ρ2 : Ren} (hx : ∀ r x l, s r = some x → ρ x = some l → ρ2 r = some l) {as bs : List AV} {vs : List Value} (h : ML s as bs) (k : LR ρ bs vs) : LR ρ2 as vs := by
  refine ⟨h.len.trans k.1, fun i a v ha hv => ?_⟩
  have hi : i < bs.length := by rw [← h.len]; exact (List.getElem?_eq_some_iff.1 ha).1
  have hb : bs[i]? = some (bs[i]'hi) := List.getElem?_eq_getElem _
  exact (h.get i a _ ha hb).back hx (k.2 i _ v hb hv)
theorem RegOk.flat {ρ ρ' : Ren} {base : Nat} {w : World} {l : Loc} {g : Reg} (hc : ∀ a, a ∈ g.cs → Flat a) (k : RegOk ρ base w l g) : RegOk ρ' base w l g := by
  obtain ⟨c, e, fz, h1, h2, h3, h4, h5⟩ := k
  exact ⟨c, e, fz, h1, h2, h3, Flat.lr hc h4, h5⟩
def FlatReg (g : Reg) : Prop := g.live = true → ∀ a, a ∈ g.cs → Flat a
open Classical in
theorem Sound.move {P : Program} {f : FuncId} {as bs : List AV} {v u : AV} {G Z H H' : AHeap} (s s' : Nat → Option Nat) (hs : Sound P f as G v Z)
    (d1 : ∀ r x, s r = some x → ∃ g, G[r]? = some g ∧ H[x]? = some g ∧ FlatReg g)
    (i1 : ∀ r q x, s' r = some x → s' q = some x → r = q)
    (e : ∀ r, r < G.length → s' r = s r)
    (d2 : ∀ r x, s' r = some x → ∃ g, Z[r]? = some g ∧ H'[x]? = some g ∧ FlatReg g)
    (n1 : ∀ r x, G.length ≤ r → s' r = some x → H.length ≤ x)
    (h1 : ∀ x, x < H.length → (∀ r, s r ≠ some x) → H'[x]? = H[x]?)
    (h3 : ∀ x, H.length ≤ x → x < H'.length → ∃ r, s' r = some x)
    (h4 : H.length ≤ H'.length)
    (ma : ML s as bs) (mv : MV s' v u) : Sound P f bs H u H' := by
  obtain ⟨hfn, hlen, hrun⟩ := hs
  refine ⟨hfn, h4, ?_⟩
  intro M ρ base w cargs hM hR hA
  have hlt : ∀ r x, s r = some x → r < G.length := fun r x h => by
    obtain ⟨g, hg, _⟩ := d1 r x h
    exact (List.getElem?_eq_some_iff.1 hg).1
  have hs' : ∀ r x, s r = some x → s' r = some x := fun r x h => (e r (hlt r x h)).trans h
  have hold : ∀ r x, s' r = some x → x < H.length → s r = some x := fun r x h hx => by
    rcases Nat.lt_or_ge r G.length with k | k
    · rw [← e r k]; exact h
    · have := n1 r x k h; omega
  have hin : ∀ r x, s' r = some x → x < H'.length := fun r x h => by
    obtain ⟨g, _, hg, _⟩ := d2 r x h
    exact (List.getElem?_eq_some_iff.1 hg).1
  let ρs : Ren := fun r => (s r).bind ρ
  have hρs : ∀ r x, s r = some x → ρs r = ρ x := fun r x h => by show (s r).bind ρ = ρ x; rw [h]; rfl
  have hρs' : ∀ r l, ρs r = some l → ∃ x, s r = some x ∧ ρ x = some l := fun r l h => by
    have h : (s r).bind ρ = some l := h
    cases hx : s r with
    | none => rw [hx] at h; cases h
    | some x => rw [hx] at h; exact ⟨x, rfl, h⟩
  have hR1 : Rel Z.length ρs base (hf G) w := by
    refine ⟨hR.bs, ?_, ?_, ?_, ?_, ?_⟩
    · intro r l h
      obtain ⟨x, _, hx⟩ := hρs' r l h
      exact hR.lt x l hx
    · intro r l h
      obtain ⟨x, h, _⟩ := hρs' r l h
      obtain ⟨g, hg, _⟩ := d1 r x h
      exact .inl ⟨g, hg⟩
    · intro r g h
      exact Nat.lt_of_lt_of_le (List.getElem?_eq_some_iff.1 h).1 hlen
    · intro r g l hg hl h
      obtain ⟨x, h, hx⟩ := hρs' r l h
      obtain ⟨g', hg', hgx, hfl⟩ := d1 r x h
      have hg : G[r]? = some g := hg
      rw [hg] at hg'
      injection hg' with hg'
      subst hg'
      exact (hR.reg x g l hgx hl hx).flat (hfl hl)
    · intro r1 r2 g1 g2 l1 l2 a1 a2 b1 b2 c1 c2 k1 k2 q
      obtain ⟨x1, k1, y1⟩ := hρs' r1 l1 k1
      obtain ⟨x2, k2, y2⟩ := hρs' r2 l2 k2
      obtain ⟨g1', p1, p1', _⟩ := d1 r1 x1 k1
      obtain ⟨g2', p2, p2', _⟩ := d1 r2 x2 k2
      have a1 : G[r1]? = some g1 := a1
      have a2 : G[r2]? = some g2 := a2
      rw [a1] at p1; injection p1 with p1; subst p1
      rw [a2] at p2; injection p2 with p2; subst p2
      have := hR.inj x1 x2 g1 g2 l1 l2 p1' p2' b1 b2 c1 c2 y1 y2 q
      subst this
      exact i1 r1 r2 x1 (hs' r1 x1 k1) (hs' r2 x1 k2)
  refine (hrun Z.length ρs base w cargs (Nat.le_refl _) hR1 (ma.back (fun r x l h k => (hρs r x h).trans k) hA)).mono ?_
  rintro ee w' ⟨cv, ρ', rfl, hvr, hR', hG⟩
  let ρ2 : Ren := fun x => if h : ∃ r, s' r = some x then ρ' (Classical.choose h) else ρ x
  have e1 : ∀ r x, s' r = some x → ρ2 x = ρ' r := fun r x h => by
    have hh : ∃ r, s' r = some x := ⟨r, h⟩
    show (if h : ∃ r, s' r = some x then ρ' (Classical.choose h) else ρ x) = _
    rw [dif_pos hh, i1 _ r x (Classical.choose_spec hh) h]
  have e2 : ∀ x, (¬ ∃ r, s' r = some x) → ρ2 x = ρ x := fun x h => dif_neg h
  have hnone : ∀ x, (¬ ∃ r, s' r = some x) → ∀ r, s r ≠ some x := fun x h r k => h ⟨r, hs' r x k⟩
  have hbelow : ∀ x l, ρ x = some l → x < H'.length → x < H.length := fun x l h hx => by
    rcases hR.dom x l h with ⟨g, hg⟩ | k
    · exact (List.getElem?_eq_some_iff.1 hg).1
    · omega
  have ext : ∀ x l, ρ x = some l → ρ2 x = some l := fun x l h => by
    by_cases hh : ∃ r, s' r = some x
    · obtain ⟨r, hr⟩ := hh
      rw [e1 r x hr]
      have hx := hbelow x l h (hin r x hr)
      exact hG.ext r l ((hρs r x (hold r x hr hx)).trans h)
    · rw [e2 x hh]; exact h
  have hkeep : ∀ x g, (¬ ∃ r, s' r = some x) → H'[x]? = some g → H[x]? = some g := fun x g hh hg => by
    rcases Nat.lt_or_ge x H.length with k | k
    · rw [← h1 x k (hnone x hh)]; exact hg
    · exact (hh (h3 x k (List.getElem?_eq_some_iff.1 hg).1)).elim
  have hblk : ∀ x g l, H[x]? = some g → g.live = true → ρ x = some l → (¬ ∃ r, s' r = some x) → ∀ r0 g0 l0, G[r0]? = some g0 → g0.live = true → g0.own = true → ρs r0 = some l0 → l0.b ≠ l.b := by
    intro x g l hg hl hx hh r0 g0 l0 a b c d q
    obtain ⟨x0, k0, y0⟩ := hρs' r0 l0 d
    obtain ⟨g0', p0, p0', _⟩ := d1 r0 x0 k0
    rw [a] at p0; injection p0 with p0; subst p0
    cases ho : g.own with
    | true =>
      have := hR.inj x0 x g0 g l0 l p0' hg b hl c ho y0 hx q
      subst this
      exact hh ⟨r0, hs' r0 x0 k0⟩
    | false =>
      obtain ⟨_, _, _, _, _, _, _, m1, _⟩ := hR.reg x0 g0 l0 p0' b y0
      obtain ⟨_, _, _, _, _, _, _, _, m2⟩ := hR.reg x g l hg hl hx
      have t1 := (m1 c).2.1
      have t2 := m2 ho
      omega
  refine ⟨cv, ρ2, rfl, mv.there (fun r x l h k => (e1 r x h).trans k) hvr, ?_, ?_⟩
  · refine ⟨⟨Nat.le_trans hR.bs.1 hG.size, hR'.bs.2⟩, ?_, ?_, ?_, ?_, ?_⟩
    · intro x l h
      by_cases hh : ∃ r, s' r = some x
      · obtain ⟨r, hr⟩ := hh
        rw [e1 r x hr] at h
        exact hR'.lt r l h
      · rw [e2 x hh] at h
        exact Nat.lt_of_lt_of_le (hR.lt x l h) hG.size
    · intro x l h
      by_cases hh : ∃ r, s' r = some x
      · obtain ⟨r, hr⟩ := hh
        obtain ⟨g, _, hg, _⟩ := d2 r x hr
        exact .inl ⟨g, hg⟩
      · rw [e2 x hh] at h
        rcases hR.dom x l h with ⟨g, hg⟩ | k
        · have hg : H[x]? = some g := hg
          exact .inl ⟨g, (h1 x (List.getElem?_eq_some_iff.1 hg).1 (hnone x hh)).trans hg⟩
        · exact .inr k
    · intro x g h
      exact Nat.lt_of_lt_of_le (List.getElem?_eq_some_iff.1 h).1 hM
    · intro x g l hg hl h
      by_cases hh : ∃ r, s' r = some x
      · obtain ⟨r, hr⟩ := hh
        rw [e1 r x hr] at h
        obtain ⟨g', p1, p2, p3⟩ := d2 r x hr
        have hg : H'[x]? = some g := hg
        rw [hg] at p2; injection p2 with p2; subst p2
        exact (hR'.reg r g l p1 hl h).flat (p3 hl)
      · rw [e2 x hh] at h
        have hg0 := hkeep x g hh hg
        exact (hR.reg x g l hg0 hl h).mono ext (hG.frame l.b (hR.lt x l h) fun r0 g0 l0 a b c d => hblk x g l hg0 hl h hh r0 g0 l0 a b c d)
    · have half : ∀ x y g1 g2 l1 l2, H'[x]? = some g1 → H'[y]? = some g2 → g1.live = true → g2.live = true → g1.own = true → g2.own = true → ρ2 x = some l1 → ρ2 y = some l2 → l1.b = l2.b → (∃ r, s' r = some x) → (¬ ∃ r, s' r = some y) → False := by
        intro x y g1 g2 l1 l2 a1 a2 b1 b2 c1 c2 k1 k2 q hx hy
        obtain ⟨r, hr⟩ := hx
        rw [e1 r x hr] at k1
        rw [e2 y hy] at k2
        have a2 := hkeep y g2 hy a2
        obtain ⟨g1', p1, p2, _⟩ := d2 r x hr
        rw [a1] at p2; injection p2 with p2; subst p2
        cases h0 : ρs r with
        | some l =>
          have := hG.ext r l h0
          rw [k1] at this
          injection this with this
          subst this
          obtain ⟨x0, z1, z2⟩ := hρs' r _ h0
          obtain ⟨g0, z3, _, _⟩ := d1 r x0 z1
          obtain ⟨t1, t2⟩ := hG.back r g0 g1 z3 p1 b1
          exact hblk y g2 l2 a2 b2 k2 hy r g0 _ z3 t1 (by rw [← t2]; exact c1) h0 q
        | none =>
          rcases hG.prov r l1 k1 h0 with t | ⟨r0, g0, l0, t1, t2, t3, t4, t5⟩
          · have := hR.lt y l2 k2
            omega
          · exact hblk y g2 l2 a2 b2 k2 hy r0 g0 l0 t1 t2 t3 t4 (t5.trans q)
      intro x y g1 g2 l1 l2 a1 a2 b1 b2 c1 c2 k1 k2 q
      by_cases hx : ∃ r, s' r = some x
      · by_cases hy : ∃ r, s' r = some y
        · obtain ⟨r, hr⟩ := hx
          obtain ⟨t, ht⟩ := hy
          rw [e1 r x hr] at k1
          rw [e1 t y ht] at k2
          obtain ⟨g1', p1, p2, _⟩ := d2 r x hr
          obtain ⟨g2', p3, p4, _⟩ := d2 t y ht
          have a1 : H'[x]? = some g1 := a1
          have a2 : H'[y]? = some g2 := a2
          rw [a1] at p2; injection p2 with p2; subst p2
          rw [a2] at p4; injection p4 with p4; subst p4
          have := hR'.inj r t g1 g2 l1 l2 p1 p3 b1 b2 c1 c2 k1 k2 q
          subst this
          rw [hr] at ht
          injection ht
        · exact (half x y g1 g2 l1 l2 a1 a2 b1 b2 c1 c2 k1 k2 q hx hy).elim
      · by_cases hy : ∃ r, s' r = some y
        · exact (half y x g2 g1 l2 l1 a2 a1 b2 b1 c2 c1 k2 k1 q.symm hy hx).elim
        · rw [e2 x hx] at k1
          rw [e2 y hy] at k2
          exact hR.inj x y g1 g2 l1 l2 (hkeep x g1 hx a1) (hkeep y g2 hy a2) b1 b2 c1 c2 k1 k2 q
  · refine ⟨hG.os, hG.tape, hG.output, hG.size, ?_, ext, ?_, ?_, ?_, ?_, ?_⟩
    · intro b hb hn
      refine hG.frame b hb fun r g l hg hl ho h => ?_
      obtain ⟨x, h, hx⟩ := hρs' r l h
      obtain ⟨g', hg', hgx, _⟩ := d1 r x h
      have hg : G[r]? = some g := hg
      rw [hg] at hg'
      injection hg' with hg'
      subst hg'
      exact hn x g l hgx hl ho hx
    · intro x g hx hg hn
      have hg : H[x]? = some g := hg
      by_cases hh : ∃ r, s' r = some x
      · obtain ⟨r, hr⟩ := hh
        have hr0 := hold r x hr hx
        obtain ⟨g', p1, p2, _⟩ := d1 r x hr0
        obtain ⟨g2, p3, p4, _⟩ := d2 r x hr
        obtain ⟨k1, k2⟩ := hG.unt r g' (hlt r x hr0) p1 ((hρs r x hr0).trans hn)
        refine ⟨(e1 r x hr).trans k1, ?_⟩
        show H'[x]? = H[x]?
        have k2 : Z[r]? = G[r]? := k2
        rw [p4, p2, ← p1, ← k2, p3]
      · exact ⟨(e2 x hh).trans hn, h1 x hx (hnone x hh)⟩
    · intro x l h hn
      by_cases hh : ∃ r, s' r = some x
      · obtain ⟨r, hr⟩ := hh
        rw [e1 r x hr] at h
        have h0 : ρs r = none := by
          cases hq : ρs r with
          | none => rfl
          | some l0 =>
            obtain ⟨x0, z1, z2⟩ := hρs' r l0 hq
            have := hs' r x0 z1
            rw [hr] at this
            injection this with this
            subst this
            rw [hn] at z2
            cases z2
        rcases hG.prov r l h h0 with t | ⟨r0, g0, l0, t1, t2, t3, t4, t5⟩
        · exact .inl t
        · obtain ⟨x0, k0, y0⟩ := hρs' r0 l0 t4
          obtain ⟨g0', p0, p0', _⟩ := d1 r0 x0 k0
          have t1 : G[r0]? = some g0 := t1
          rw [t1] at p0; injection p0 with p0; subst p0
          exact .inr ⟨x0, g0, l0, p0', t2, t3, y0, t5⟩
      · rw [e2 x hh, hn] at h; cases h
    · intro x g g' hg hg' hl
      have hg : H[x]? = some g := hg
      have hg' : H'[x]? = some g' := hg'
      by_cases hh : ∃ r, s' r = some x
      · obtain ⟨r, hr⟩ := hh
        have hr0 := hold r x hr (List.getElem?_eq_some_iff.1 hg).1
        obtain ⟨q, p1, p2, _⟩ := d1 r x hr0
        obtain ⟨q2, p3, p4, _⟩ := d2 r x hr
        rw [hg] at p2; injection p2 with p2; subst p2
        rw [hg'] at p4; injection p4 with p4; subst p4
        exact hG.back r g g' p1 p3 hl
      · have := hkeep x g' hh hg'
        rw [hg] at this
        injection this with this
        subst this
        exact ⟨hl, rfl⟩
    · intro x g hg
      have hg : H[x]? = some g := hg
      by_cases hh : ∃ r, s' r = some x
      · obtain ⟨r, hr⟩ := hh
        obtain ⟨q2, _, p4, _⟩ := d2 r x hr
        exact ⟨q2, p4⟩
      · exact ⟨g, (h1 x (List.getElem?_eq_some_iff.1 hg).1 (hnone x hh)).trans hg⟩
    · intro x hx
      refine e2 x ?_
      rintro ⟨r, hr⟩
      have := hin r x hr
      omega
end Go.Proofs.YtfgmmklljibbiaaDoor.Sim

