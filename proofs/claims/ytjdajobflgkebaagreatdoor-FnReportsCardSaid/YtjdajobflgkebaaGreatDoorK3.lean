/- Texts of this proof, put together and made small by a program: part 3. -/
import Derived.Test.YtjdajobflgkebaaGreatDoorK2
set_option linter.all false
set_option maxRecDepth 100000
set_option maxHeartbeats 40000000
namespace Go.Proofs.YtjdajobflgkebaaGreatDoor.Sim
open Go
inductive Flat:AV→Prop where
 | sc (v:Value):Flat (.sc v)
 | agg {cs:List AV}:(∀ a,a∈cs→Flat a)→Flat (.agg cs)
 | tup {cs:List AV}:(∀ a,a∈cs→Flat a)→Flat (.tup cs)
theorem Flat.vr {ρ ρ':Ren}{a:AV}{v:Value}(h:Flat a)(k:VR ρ a v):VR ρ' a v:=by
 induction k with
 | sc v=>exact .sc v
 | ptr _=>cases h
 | sl _ _ _=>cases h
 | sl0 _=>cases h
 | agg h1 _ ih =>
  cases h with
  | agg hc=>exact .agg h1 fun i a v ha hv=>ih i a v ha hv (hc a (List.mem_of_getElem? ha))
 | tup h1 _ ih =>
  cases h with
  | tup hc=>exact .tup h1 fun i a v ha hv=>ih i a v ha hv (hc a (List.mem_of_getElem? ha))
theorem Flat.lr {ρ ρ':Ren}{as:List AV}{vs:List Value}(h:∀ a,a∈as→Flat a)(k:LR ρ as vs):LR ρ' as vs:=⟨k.1,fun i a v ha hv=>(h a (List.mem_of_getElem? ha)).vr (k.2 i a v ha hv)⟩
theorem yV:∀ a,a∈([]:List AV)→Flat a:=fun _ h=>by cases h
theorem qV {x:AV}{l:List AV}(h:Flat x)(k:∀ a,a∈l→Flat a):∀ a,a∈x :: l→Flat a:=fun a ha=>by
 rcases List.mem_cons.1 ha with rfl | ha
 ·exact h
 ·exact k a ha
def Fn (P:Program)(f:FuncId)(args:List AV)(v:AV):Prop:=∀ H,Sound P f args H v H
theorem Fn.of {P:Program}{f:FuncId}{args:List AV}{v:AV}{Z:qE}(ha:∀ a,a∈args→Flat a)(hv:Flat v)(k:Sound P f args [] v Z):Fn P f args v:=by
 intro H
 obtain⟨h1,_,h3⟩:=k
 refine⟨h1,Nat.le_refl _,?_⟩
 intro M ρ base w cargs hM hR hA
 have hR1:Rel Z.length (fun _=>none) base (hf []) w:=⟨hR.bs,fun _ _ h=>by (cases h),fun _ _ h=>by (cases h),fun r g h=>by simp[hf] at h,fun r g l h=>by simp[hf] at h,fun r1 r2 g1 g2 l1 l2 h=>by simp[hf] at h⟩
 refine(h3 Z.length (fun _=>none) base w cargs (Nat.le_refl _) hR1 (Flat.lr ha hA)).mono ?_
 rintro e w' ⟨cv,ρ',rfl,hvr,hR',hG⟩
 have hfr:∀ b,b<w.heap.size→w'.heap[b]?=w.heap[b]?:=fun b hb=>hG.frame b hb fun r g l h=>by simp[hf] at h
 refine⟨cv,ρ,rfl,hv.vr hvr,⟨⟨Nat.le_trans hR.bs.1 hG.size,hR'.bs.2⟩,fun r l h=>Nat.lt_of_lt_of_le (hR.lt r l h) hG.size,hR.dom,hR.top,fun r g l h1 h2 h3=>(hR.reg r g l h1 h2 h3).mono (fun _ _ h=>h) (hfr _ (hR.lt r l h3)),hR.inj⟩,?_⟩
 exact⟨hG.os,hG.tape,hG.output,hG.size,fun b hb _=>hfr b hb,fun _ _ h=>h,fun _ _ _ _ k=>⟨k,rfl⟩,fun _ _ a b=>(by rw[a] at b;cases b),fun _ _ _ a b c=>(by rw[a] at b;injection b with b;subst b;exact⟨c,rfl⟩),fun _ g k=>⟨g,k⟩,fun _ _=>rfl,fun _ _ a _=>⟨a,rfl⟩,Grow.alive fun _ _ a _=>a⟩
def qY (n:Nat)(T:Nat→AV):List AV:=(List.range n).map T
def jB (T:Nat→AV)(d:Nat)(v:AV):Nat→AV:=fun t=>if t=d then v else T t
theorem upd_eq (T:Nat→AV)(d:Nat)(v:AV):jB T d v d=v:=if_pos rfl
theorem upd_ne (T:Nat→AV)(d:Nat)(v:AV)(t:Nat)(h:t≠d):jB T d v t=T t:=if_neg h
theorem ev_tab (n:Nat)(T:Nat→AV)(t:Nat)(h:t<n):ev (qY n T) (.tmp t)=T t:=by simp[ev,qY,h]
theorem ev_const (ts:List AV)(v:Value):ev ts (.const v)=ofV v:=rfl
theorem uL (n:Nat)(T:Nat→AV)(d:Nat)(v:AV):jH (qY n T) (some d) v=qY n (jB T d v):=by
 apply List.ext_getElem?
 intro i
 simp only[jH,qY,List.getElem?_set,List.length_map,List.length_range,List.getElem?_map,jB]
 by_cases h:d=i
 ·subst h
  by_cases h2:d<n
  ·simp[h2,jB]
  ·simp[h2]
 ·by_cases h2:i<n
  ·simp[h2,h,jB,Ne.symm h]
  ·simp[h2,h]
theorem tab_init (args:List AV)(n:Nat)(h:args.length≤n):args++List.replicate (n - args.length) und=qY n (fun t=>args.getD t und):=by
 apply List.ext_getElem?
 intro i
 simp only[qY,List.getElem?_map,List.getD_eq_getElem?_getD]
 rcases Nat.lt_or_ge i args.length with h1 | h1
 ·rw[List.getElem?_append_left h1,List.getElem?_range (by omega)]
  simp[List.getElem?_eq_getElem h1]
 ·rw[List.getElem?_append_right h1,List.getElem?_replicate]
  rcases Nat.lt_or_ge i n with h2 | h2
  ·rw[if_pos (by omega),List.getElem?_range h2,Option.map_some,List.getElem?_eq_none h1]
   rfl
  ·rw[if_neg (by omega),List.getElem?_eq_none (by simp;omega)]
   rfl
section
variable (P : Program)
def opW (o:Oper)(K:St→Prop)(s:St):Prop:=
 match jZ P o with
 | .pure=>match yJ P s.ts o.op with
  | some v=>K (s.put o.dst v)
  | none=>False
 | .read=>match xH P s.ts o.op s.H with
  | some v=>K (s.put o.dst v)
  | none=>False
 | .alloc=>match xW P s.ts o.op with
  | some (cs,mk)=>cs.all AV.one=true∧K ⟨jH s.ts o.dst (mk s.H.length),s.H++[{cs:=cs}]⟩
  | none=>False
 | .write=>match jF s.ts o with
  | some (g,as)=>∃ v H',Sound P g as s.H v H'∧K ⟨jH s.ts o.dst v,H'⟩
  | none=>match wI P s.ts o.op s.H with
   | some (v,H')=>K ⟨jH s.ts o.dst v,H'⟩
   | none=>False
def kR (ops:Array Oper)(o:Oper)(K:St→Prop)(s:St):Prop:=
 match o.guard with
 | none=>opW P o K s
 | some (j,want)=>match wE ops s.ts j == some want with
  | true=>opW P o K s
  | false=>K (s.put o.dst und)
def uW (ops:Array Oper):List Oper→(St→Prop)→St→Prop
 | [],K,s=>K s
 | o :: l,K,s=>kR P ops o (uW ops l K) s
def pairs (ops:Array Oper):List (Nat×Nat):=
 (List.range ops.size).flatMap fun j=>if isR P (yP ops j) then ((List.range (ops.size+1)).filter fun k=>moment P ops k&&mayAt P ops j k).map fun k=>(j,k) else []
def wK (ops:Array Oper)(hs:List St)(p:Nat×Nat):Prop:=
 let sj:=hs.getD (ops.size - p.1) ⟨[],[]⟩
 let sk:=hs.getD (ops.size - p.2) ⟨[],[]⟩
 Region.wanted (yP ops p.1) (wE ops sj.ts)=true→calm P ops p.1 p.2=true∨xH P sj.ts (yP ops p.1).op sk.H=xH P sj.ts (yP ops p.1).op sj.H
def wQ (ops:Array Oper)(ps:List (Nat×Nat))(K:St→Prop):List Oper→List St→St→Prop
 | [],hs,s=>(∀ p,p∈ps→wK P ops (s :: hs) p)∧K s
 | o :: l,hs,s=>kR P ops o (fun s'=>wQ ops ps K l (s :: hs) s') s
def kO:Code→(St→Prop)→(Nat→St→Prop)→(St→Prop)→St→Prop
 | .skip,K,_,_,s=>K s
 | .region _ ops false,K,_,_,s=>uW P ops ops.toList K s
 | .region _ ops true,K,_,_,s=>P.follows .mixedOrders=true∧drawOk P ops=true∧∃ ps,pairs P ops=ps∧wQ P ops ps K ops.toList [] s
 | .seq a b,K,E,R,s=>kO a (fun s'=>kO b K E R s') E R s
 | .cond c a b,K,E,R,s=>match ev s.ts c with
  | .sc (.bool t)=>if t=true then kO a K E R s else kO b K E R s
  | _=>False
 | .block id c,K,E,R,s=>kO c K (fun i s'=>if i=id then K s' else E i s') R s
 | .loop c,_,E,R,s=>∃ n,Nat.rec (motive:=fun _=>St→Prop) (fun _=>False) (fun _ ih s=>kO c ih E R s) n s
 | .exit id,_,E,_,s=>E id s
 | .ret,_,_,R,s=>R s
 | _,_,_,_,_=>False
end
section
variable {P : Program}
theorem opW_eff {o:Oper}{K:St→Prop}{s:St}(h:opW P o K s):∃ s',Eff P (Sound P) o s s'∧K s':=by
 unfold opW at h
 unfold Eff
 split at h
 ·rename_i hc
  rw[hc]
  split at h
  ·rename_i v hv;exact⟨_,⟨v,hv,rfl⟩,h⟩
  ·exact h.elim
 ·rename_i hc
  rw[hc]
  split at h
  ·rename_i v hv;exact⟨_,⟨v,hv,rfl⟩,h⟩
  ·exact h.elim
 ·rename_i hc
  rw[hc]
  split at h
  ·rename_i cs mk hv;exact⟨_,⟨cs,mk,hv,h.1,rfl⟩,h.2⟩
  ·exact h.elim
 ·rename_i hc
  rw[hc]
  simp only
  split at h
  ·rename_i g as hcal
   obtain⟨v,H',h1,h2⟩:=h
   rw[hcal]
   exact⟨_,⟨v,H',h1,rfl⟩,h2⟩
  ·rename_i hcal
   rw[hcal]
   simp only
   split at h
   ·rename_i v H' hv;exact⟨_,⟨v,H',hv,rfl⟩,h⟩
   ·exact h.elim
theorem opG_step {ops:Array Oper}{i:Nat}{o:Oper}(ho:ops[i]?=some o){K:St→Prop}{s:St}(h:kR P ops o K s):∃ s',OpStep P (Sound P) ops i s s'∧K s':=by
 have key:(Region.wanted o (wE ops s.ts)=true∧opW P o K s)∨(Region.wanted o (wE ops s.ts)=false∧K (s.put o.dst und)):=by
  unfold kR at h
  unfold Region.wanted
  split at h
  ·rename_i hg
   rw[hg]
   exact .inl ⟨rfl,h⟩
  ·rename_i j want hg
   rw[hg]
   split at h
   ·rename_i hy
    exact .inl ⟨hy,h⟩
   ·rename_i hy
    exact .inr ⟨hy,h⟩
 unfold OpStep
 rw[ho]
 simp only
 rcases key with ⟨k1,k2⟩ | ⟨k1,k2⟩
 ·obtain⟨s',h1,h2⟩:=opW_eff k2
  exact⟨s',by rw[if_pos k1];exact h1,h2⟩
 ·exact⟨_,by rw[if_neg (by simp[k1])],k2⟩
theorem opsW_run {ops:Array Oper}{K:St→Prop}:∀ (l:List Oper)(i:Nat)(s:St),ops.toList=ops.toList.take i++l→i+l.length=ops.size→uW P ops l K s→∃ s',OpsR P (Sound P) ops i s s'∧K s'
 | [],i,s,_,hi,h=>⟨s,.done (by simpa using hi),h⟩
 | o :: l,i,s,hl,hi,h=>by
  have hlt:(ops.toList.take i).length=i:=by simp at hi ⊢;omega
  have ho:ops[i]?=some o:=by
   rw[←Array.getElem?_toList,hl,List.getElem?_append_right (by omega),hlt]
   simp
  obtain⟨s1,h1,h2⟩:=opG_step ho h
  obtain⟨s2,h3,h4⟩:=opsW_run l (i+1) s1 (by
   have e:ops.toList.take (i+1)=ops.toList.take i++[o]:=by
    rw[List.take_add_one,Array.getElem?_toList,ho]
    rfl
   rw[e,List.append_assoc]
   exact hl) (by simp at hi;omega) h2
  exact⟨s2,.step h1 h3,h4⟩
theorem dopsW_run {ops:Array Oper}{ps:List (Nat×Nat)}{K:St→Prop}:∀ (l:List Oper)(hs:List St)(s:St),ops.toList=ops.toList.take hs.length++l→hs.length+l.length=ops.size→wQ P ops ps K l hs s →
  ∃ xs:List St,xs.length=l.length+1∧(∀ i,i<l.length→OpStep P (Sound P) ops (hs.length+i) (xs.getD i ⟨[],[]⟩) (xs.getD (i+1) ⟨[],[]⟩))∧xs[0]?=some s∧(∀ p,p∈ps→wK P ops (xs.reverse++hs) p)∧K (xs.getD l.length ⟨[],[]⟩)
 | [],hs,s,_,hi,h=>⟨[s],rfl,fun i hi=>by simp at hi,rfl,by simpa using h.1,h.2⟩
 | o :: l,hs,s,hl,hi,h=>by
  have hlt:(ops.toList.take hs.length).length=hs.length:=by simp at hi ⊢;omega
  have ho:ops[hs.length]?=some o:=by
   rw[←Array.getElem?_toList,hl,List.getElem?_append_right (by omega),hlt]
   simp
  obtain⟨s1,h1,h2⟩:=opG_step ho h
  obtain⟨xs,a1,a2,a3,a4,a5⟩:=dopsW_run l (s :: hs) s1 (by
   have e:ops.toList.take (hs.length+1)=ops.toList.take hs.length++[o]:=by
    rw[List.take_add_one,Array.getElem?_toList,ho]
    rfl
   rw[List.length_cons,e,List.append_assoc]
   exact hl) (by simp at hi ⊢;omega) h2
  have g0:xs.getD 0 ⟨[],[]⟩=s1:=by rw[List.getD_eq_getElem?_getD,a3];rfl
  refine⟨s :: xs,by simp[a1],?_,rfl,by simpa using a4,by simpa using a5⟩
  intro i hi2
  cases i with
  | zero =>
   show OpStep P (Sound P) ops (hs.length+0) s (xs.getD 0 ⟨[],[]⟩)
   rw[g0]
   exact h1
  | succ i =>
   have:=a2 i (by simp at hi2;omega)
   rw[List.length_cons] at this
   rw[show hs.length+(i+1)=hs.length+1+i by omega]
   simpa using this
theorem vA:∀ (c:Code)(K:St→Prop)(E:Nat→St→Prop)(R:St→Prop)(s:St),kO P c K E R s→∃ e s',Ex P (Sound P) c s e s'∧(match e with
  | .normal=>K s'
  | .exit id=>E id s'
  | .ret=>R s')
 | .skip,K,E,R,s,h=>⟨.normal,s,.skip,h⟩
 | .region id ops false,K,E,R,s,h=>by
  obtain⟨s',h1,h2⟩:=opsW_run (P:=P) ops.toList 0 s (by simp) (by simp) h
  exact⟨.normal,s',.region h1,h2⟩
 | .region id ops true,K,E,R,s,h=>by
  obtain⟨h1,h2,ps,hp,h3⟩:=h
  obtain⟨xs,a1,a2,a3,a4,a5⟩:=dopsW_run (P:=P) ops.toList [] s (by simp) (by simp) h3
  have e0:xs.getD 0 ⟨[],[]⟩=s:=by rw[List.getD_eq_getElem?_getD,a3];rfl
  have ex:=Ex.draw (P:=P) (C:=Sound P) (id:=id) (ops:=ops) (fun i=>xs.getD i ⟨[],[]⟩) h1 h2 (fun i hi=>by simpa using a2 i (by simpa using hi)) ?_
  ·rw[e0] at ex
   exact⟨.normal,_,ex,by simpa using a5⟩
  ·intro j hj hr hw k hk hm hmay
   have hrev:∀ i,i≤ops.size→(xs.reverse++[]).getD (ops.size - i) ⟨[],[]⟩=xs.getD i ⟨[],[]⟩:=by
    intro i hi
    rw[List.append_nil,List.getD_eq_getElem?_getD,List.getElem?_reverse (by simp at a1;omega),List.getD_eq_getElem?_getD]
    congr 2
    simp at a1
    omega
   have:=a4 (j,k) (by
    rw[←hp]
    simp only[pairs,List.mem_flatMap,List.mem_range]
    refine⟨j,hj,?_⟩
    rw[if_pos hr]
    simp only[List.mem_map,List.mem_filter,List.mem_range,Bool.and_eq_true]
    exact⟨k,⟨by omega,hm,hmay⟩,rfl⟩)
   unfold wK at this
   simp only at this
   rw[hrev j (by omega),hrev k hk] at this
   exact this hw
 | .seq a b,K,E,R,s,h=>by
  obtain⟨e,s1,h1,h2⟩:=vA a _ E R s h
  cases e with
  | normal =>
   obtain⟨e2,s2,h3,h4⟩:=vA b K E R s1 h2
   exact⟨e2,s2,.seq h1 h3,h4⟩
  | exit id=>exact⟨_,s1,.seqx h1 (by simp),h2⟩
  | ret=>exact⟨_,s1,.seqx h1 (by simp),h2⟩
 | .cond c a b,K,E,R,s,h=>by
  simp only[kO] at h
  split at h
  ·rename_i t ht
   cases t with
   | true =>
    obtain⟨e,s1,h1,h2⟩:=vA a K E R s h
    exact⟨e,s1,.cond ht h1,h2⟩
   | false =>
    obtain⟨e,s1,h1,h2⟩:=vA b K E R s (by simpa using h)
    exact⟨e,s1,.cond ht (by simpa using h1),h2⟩
  ·exact h.elim
 | .block id c,K,E,R,s,h=>by
  obtain⟨e,s1,h1,h2⟩:=vA c K _ R s h
  cases e with
  | normal=>exact⟨.normal,s1,.block h1 (by simp),h2⟩
  | exit i =>
   by_cases hi:i=id
   ·subst hi
    exact⟨.normal,s1,.blockx h1,by simpa using h2⟩
   ·exact⟨.exit i,s1,.block h1 (by simpa using hi),by simpa [hi] using h2⟩
  | ret=>exact⟨.ret,s1,.block h1 (by simp),h2⟩
 | .loop c,K,E,R,s,h=>by
  obtain⟨n,hn⟩:=h
  have ihc:=vA c
  induction n generalizing s with
  | zero=>exact hn.elim
  | succ n ih =>
   obtain⟨e,s1,h1,h2⟩:=ihc _ E R s hn
   cases e with
   | normal =>
    obtain⟨e2,s2,h3,h4⟩:=ih s1 h2
    exact⟨e2,s2,.loop h1 h3,h4⟩
   | exit id=>exact⟨_,s1,.loopx h1 (by simp),h2⟩
   | ret=>exact⟨_,s1,.loopx h1 (by simp),h2⟩
 | .exit id,K,E,R,s,h=>⟨.exit id,s,.exit,h⟩
 | .ret,K,E,R,s,h=>⟨.ret,s,.ret,h⟩
 | .label _,_,_,_,_,h=>(by simp[kO] at h)
 | .goto _,_,_,_,_,h=>(by simp[kO] at h)
 | .scope ..,_,_,_,_,h=>(by simp[kO] at h)
 | .rangeFunc ..,_,_,_,_,h=>(by simp[kO] at h)
 | .refuse ..,_,_,_,_,h=>(by simp[kO] at h)
end
def onB (v:AV)(A B:Prop):Prop:=
 match v with
 | .sc (.bool t)=>if t=true then A else B
 | _=>False
def vP {α:Type}(v:Option α)(K:α→Prop):Prop:=
 match v with
 | some v=>K v
 | none=>False
def wS (P:Program)(b:BinOp)(t:TypeId)(x y:AV):Option AV:=
 match kL b x y with
 | some v=>some (.sc v)
 | none=>(uT P b t x y).map .sc
section
variable {P : Program} {ops : Array Oper} {K : St → Prop} {E : Nat → St → Prop} {R : St → Prop} {n : Nat} {T : Nat → AV} {H : qE} {d : Tmp} {ty : TypeId} {pos : String} {af : Array Edge} {l : List Oper} {o : Oper} {s : St}
theorem w_seq (a b:Code):kO P (.seq a b) K E R ⟨qY n T,H⟩=kO P a (fun s'=>kO P b K E R s') E R ⟨qY n T,H⟩:=rfl
theorem w_skip:kO P .skip K E R ⟨qY n T,H⟩=K ⟨qY n T,H⟩:=rfl
theorem w_ret:kO P .ret K E R ⟨qY n T,H⟩=R ⟨qY n T,H⟩:=rfl
theorem w_exit (i:Nat):kO P (.exit i) K E R ⟨qY n T,H⟩=E i ⟨qY n T,H⟩:=rfl
theorem w_block (i:Nat)(c:Code):kO P (.block i c) K E R ⟨qY n T,H⟩=kO P c K (fun j s'=>if j=i then K s' else E j s') R ⟨qY n T,H⟩:=rfl
theorem w_cond (c:Operand)(a b:Code):kO P (.cond c a b) K E R ⟨qY n T,H⟩=onB (ev (qY n T) c) (kO P a K E R ⟨qY n T,H⟩) (kO P b K E R ⟨qY n T,H⟩):=rfl
theorem w_region (i:Nat)(ops:Array Oper):kO P (.region i ops false) K E R ⟨qY n T,H⟩=uW P ops ops.toList K ⟨qY n T,H⟩:=rfl
theorem onB_true (A B:Prop):onB (.sc (.bool true)) A B=A:=rfl
theorem onB_false (A B:Prop):onB (.sc (.bool false)) A B=B:=by simp[onB]
theorem onB_dec (p:Prop)[Decidable p](A B:Prop):onB (.sc (.bool (decide p))) A B=if p then A else B:=by simp[onB]
theorem onB_not (b:Bool)(A B:Prop):onB (.sc (.bool (!b))) A B=onB (.sc (.bool b)) B A:=by cases b<;>simp[onB]
theorem onS_some {α:Type}(v:α)(K:α→Prop):vP (some v) K=K v:=rfl
theorem onS_ite {α:Type}(p:Prop)[Decidable p](v:α)(K:α→Prop):vP (if p then some v else none) K=(p∧K v):=by
 by_cases h:p<;>simp[h,vP]
theorem onS_not {α:Type}(p:Prop)[Decidable p](v:α)(K:α→Prop):vP (if p then none else some v) K=(¬ p∧K v):=by
 by_cases h:p<;>simp[h,vP]
theorem ops_nil:uW P ops [] K ⟨qY n T,H⟩=K ⟨qY n T,H⟩:=rfl
theorem ops_cons:uW P ops (o :: l) K ⟨qY n T,H⟩=kR P ops o (fun s'=>uW P ops l K s') ⟨qY n T,H⟩:=rfl
theorem dops_cons {ps:List (Nat×Nat)}{hs:List St}:wQ P ops ps K (o :: l) hs ⟨qY n T,H⟩=kR P ops o (fun s'=>wQ P ops ps K l (⟨qY n T,H⟩ :: hs) s') ⟨qY n T,H⟩:=rfl
theorem g_guard (dd:Option Tmp)(op:Op)(j:Nat)(want:Bool):kR P ops ⟨dd,op,ty,pos,af,some (j,want)⟩ K s=match wE ops s.ts j == some want with
  | true=>kR P ops ⟨dd,op,ty,pos,af,none⟩ K s
  | false=>K (s.put dd und):=rfl
theorem uG {op:Op}(h:jZ P ⟨some d,op,ty,pos,af,none⟩=.pure):kR P ops ⟨some d,op,ty,pos,af,none⟩ K ⟨qY n T,H⟩=vP (yJ P (qY n T) op) fun v=>K ⟨qY n (jB T d v),H⟩:=by
 simp only[kR,opW,h,St.put,uL]
 cases yJ P (qY n T) op<;>rfl
theorem g_move (x:Operand):kR P ops ⟨some d,.move x,ty,pos,af,none⟩ K ⟨qY n T,H⟩=K ⟨qY n (jB T d (ev (qY n T) x)),H⟩:=by rw[uG rfl];rfl
theorem g_assign (x:Operand):kR P ops ⟨some d,.assign x,ty,pos,af,none⟩ K ⟨qY n T,H⟩=K ⟨qY n (jB T d (ev (qY n T) x)),H⟩:=by rw[uG rfl];rfl
theorem g_binOp (b:BinOp)(t u:TypeId)(x y:Operand):kR P ops ⟨some d,.binOp b t x y u,ty,pos,af,none⟩ K ⟨qY n T,H⟩=vP (wS P b t (ev (qY n T) x) (ev (qY n T) y)) fun v=>K ⟨qY n (jB T d v),H⟩:=by rw[uG rfl];rfl
theorem g_unOp (b:UnOp)(t:TypeId)(x:Operand):kR P ops ⟨some d,.unOp b t x,ty,pos,af,none⟩ K ⟨qY n T,H⟩=vP ((evUn b (ev (qY n T) x)).map .sc) fun v=>K ⟨qY n (jB T d v),H⟩:=by rw[uG rfl];rfl
def pickV (c a b:AV):Option AV:=
 match c with
 | .sc (.bool t)=>some (if t then a else b)
 | _=>none
theorem g_pick (c a b:Operand):kR P ops ⟨some d,.pick c a b,ty,pos,af,none⟩ K ⟨qY n T,H⟩=vP (pickV (ev (qY n T) c) (ev (qY n T) a) (ev (qY n T) b)) fun v=>K ⟨qY n (jB T d v),H⟩:=by rw[uG rfl];rfl
theorem pick_b (t:Bool)(a b:AV):pickV (.sc (.bool t)) a b=some (if t then a else b):=rfl
def idxV (P:Program)(e:Option TypeDesc)(x i:AV):Option AV:=
 match e,x,i with
 | some .string,.sc (.string z),.sc (.int _ n)=>if h:0≤n∧n.toNat<z.size then some (.sc (.int .u8 (z[n.toNat]'h.2).toNat)) else none
 | some (.array len e),.agg cs,.sc (.int _ n)=>if 0≤n∧n<len∧xE P e=true then partA P e cs (n.toNat*P.cellsOf e) else none
 | _,_,_=>none
theorem g_index (t:TypeId)(x i:Operand):kR P ops ⟨some d,.index t x i,ty,pos,af,none⟩ K ⟨qY n T,H⟩=vP (idxV P (P.underlying t) (ev (qY n T) x) (ev (qY n T) i)) fun v=>K ⟨qY n (jB T d v),H⟩:=by rw[uG rfl];rfl
def jA (z:ByteArray)(n:Nat):Int:=((z.data[n]?).getD 0).toNat
theorem idx_str (z:ByteArray)(k:IntKind)(i:Int):idxV P (some .string) (.sc (.string z)) (.sc (.int k i))=if 0≤i∧i.toNat<z.size then some (.sc (.int .u8 (jA z i.toNat))) else none:=by
 by_cases h:0≤i∧i.toNat<z.size
 ·have h2:i.toNat<z.data.size:=h.2
  have:z[i.toNat]'h.2=(z.data[i.toNat]?).getD 0:=by
   rw[Array.getElem?_eq_getElem h2]
   rfl
  simp only[idxV,dif_pos h,if_pos h,this,jA]
 ·simp only[idxV,dif_neg h,if_neg h]
def adrV (P:Program)(e:Option TypeDesc)(x i:AV):Option AV:=
 match e,x,i with
 | some (.slice e),.sl r off len sz,.sc (.int _ n)=>if 0≤n∧n<len∧P.cellsOf e=sz∧xE P e=true then some (.ptr r (off+n.toNat*sz)) else none
 | some (.array len e),.ptr r off,.sc (.int _ n)=>if 0≤n∧n<len∧xE P e=true then some (.ptr r (off+n.toNat*P.cellsOf e)) else none
 | _,_,_=>none
theorem g_indexAddr (t:TypeId)(x i:Operand):kR P ops ⟨some d,.indexAddr t x i,ty,pos,af,none⟩ K ⟨qY n T,H⟩=vP (adrV P (P.underlying t) (ev (qY n T) x) (ev (qY n T) i)) fun v=>K ⟨qY n (jB T d v),H⟩:=by rw[uG rfl];rfl
theorem adr_sl (e:TypeId)(r off len sz:Nat)(k:IntKind)(i:Int):adrV P (some (.slice e)) (.sl r off len sz) (.sc (.int k i))=if 0≤i∧i<len∧P.cellsOf e=sz∧xE P e=true then some (.ptr r (off+i.toNat*sz)) else none:=rfl
theorem adr_arr (e:TypeId)(r off len:Nat)(k:IntKind)(i:Int):adrV P (some (.array len e)) (.ptr r off) (.sc (.int k i))=if 0≤i∧i<len∧xE P e=true then some (.ptr r (off+i.toNat*P.cellsOf e)) else none:=rfl
def fadrV (P:Program)(e:Option TypeDesc)(x:AV)(f:Nat):Option AV:=
 match e,x with
 | some (.struct fs),.ptr r off=>match fs[f]? with
  | some fd=>if P.cellsOf fd.type≠0∧xE P fd.type=true then some (.ptr r (off+fd.offset)) else none
  | none=>none
 | _,_=>none
theorem g_fieldAddr (t:TypeId)(x:Operand)(f:Nat):kR P ops ⟨some d,.fieldAddr t x f,ty,pos,af,none⟩ K ⟨qY n T,H⟩=vP (fadrV P (P.underlying t) (ev (qY n T) x) f) fun v=>K ⟨qY n (jB T d v),H⟩:=by rw[uG rfl];rfl
def fldV (P:Program)(e:Option TypeDesc)(x:AV)(f:Nat):Option AV:=
 match e,x with
 | some (.struct fs),.agg cs=>match fs[f]? with
  | some fd=>if xE P fd.type=true then partA P fd.type cs fd.offset else none
  | none=>none
 | _,_=>none
theorem g_field (t:TypeId)(x:Operand)(f:Nat):kR P ops ⟨some d,.field t x f,ty,pos,af,none⟩ K ⟨qY n T,H⟩=vP (fldV P (P.underlying t) (ev (qY n T) x) f) fun v=>K ⟨qY n (jB T d v),H⟩:=by rw[uG rfl];rfl
def nilV (x:AV):Option AV:=
 match x with
 | .ptr r off=>some (.ptr r off)
 | _=>none
theorem g_nilCheck (x:Operand):kR P ops ⟨some d,.nilCheck x,ty,pos,af,none⟩ K ⟨qY n T,H⟩=vP (nilV (ev (qY n T) x)) fun v=>K ⟨qY n (jB T d v),H⟩:=by rw[uG rfl];rfl
def extV (x:AV)(i:Nat):Option AV:=
 match x with
 | .tup vs=>vs[i]?
 | _=>none
theorem g_extract (t:Operand)(i:Nat):kR P ops ⟨some d,.extract t i,ty,pos,af,none⟩ K ⟨qY n T,H⟩=vP (extV (ev (qY n T) t) i) fun v=>K ⟨qY n (jB T d v),H⟩:=by rw[uG rfl];rfl
def lenV (e:Option TypeDesc)(x:AV):Option AV:=
 match e,x with
 | some .string,.sc (.string z)=>some (.sc (.int .i64 z.size))
 | some (.array n _),_=>some (.sc (.int .i64 n))
 | some (.slice _),.sl _ _ len _=>some (.sc (.int .i64 len))
 | some (.slice _),.sc (.slice none 0 0)=>some (.sc (.int .i64 0))
 | _,_=>none
theorem g_len (x:Operand)(t:TypeId):kR P ops ⟨some d,.call ⟨.builtin .len,#[x],#[t]⟩,ty,pos,af,none⟩ K ⟨qY n T,H⟩=vP (lenV (P.underlying t) (ev (qY n T) x)) fun v=>K ⟨qY n (jB T d v),H⟩:=by rw[uG rfl];rfl
theorem len_str (z:ByteArray):lenV (some .string) (.sc (.string z))=some (.sc (.int .i64 z.size)):=rfl
theorem len_arr (k:Nat)(e:TypeId)(x:AV):lenV (some (.array k e)) x=some (.sc (.int .i64 k)):=rfl
theorem len_sl (e:TypeId)(r off len sz:Nat):lenV (some (.slice e)) (.sl r off len sz)=some (.sc (.int .i64 len)):=rfl
theorem g_min (xs:Array Operand)(ts:Array TypeId):kR P ops ⟨some d,.call ⟨.builtin .min,xs,ts⟩,ty,pos,af,none⟩ K ⟨qY n T,H⟩=vP ((minI (xs.toList.map (ev (qY n T)))).map .sc) fun v=>K ⟨qY n (jB T d v),H⟩:=by rw[uG rfl];rfl
theorem g_max (xs:Array Operand)(ts:Array TypeId):kR P ops ⟨some d,.call ⟨.builtin .max,xs,ts⟩,ty,pos,af,none⟩ K ⟨qY n T,H⟩=vP ((maxI (xs.toList.map (ev (qY n T)))).map .sc) fun v=>K ⟨qY n (jB T d v),H⟩:=by rw[uG rfl];rfl
def bndV (x:Option AV)(d:Nat):Option Nat:=
 match x with
 | none=>some d
 | some (.sc (.int _ n))=>if 0≤n then some n.toNat else none
 | some _=>none
theorem bnd_V (ts:List AV)(x:Option Operand)(d:Nat):bnd ts x d=bndV (x.map (ev ts)) d:=by
 cases x with
 | none=>rfl
 | some x =>
  simp only[bnd,bndV,Option.map_some]
  cases ev ts x with
  | sc v=>cases v<;>rfl
  | _=>rfl
def cutV (P:Program)(e:Option TypeDesc)(x:AV)(lo hi:Option AV):Option AV:=
 match e,x with
 | some .string,.sc (.string z)=>match bndV lo 0,bndV hi z.size with
   | some l,some h=>if l≤h∧h≤z.size then some (.sc (.string (z.extract l h))) else none
   | _,_=>none
 | some (.slice e),.sl r off len sz=>match bndV lo 0,bndV hi len with
   | some l,some h=>if l≤h∧h≤len∧P.cellsOf e=sz∧xE P e=true then some (.sl r (off+l*sz) (h - l) sz) else none
   | _,_=>none
 | some (.slice e),.sc (.slice none 0 0)=>match bndV lo 0,bndV hi 0 with
   | some 0,some 0=>if xE P e=true then some (.sc (.slice none 0 0)) else none
   | _,_=>none
 | _,_=>none
theorem g_slice (t:TypeId)(x:Operand)(lo hi:Option Operand):kR P ops ⟨some d,.slice t x lo hi none,ty,pos,af,none⟩ K ⟨qY n T,H⟩=vP (cutV P (P.underlying t) (ev (qY n T) x) (lo.map (ev (qY n T))) (hi.map (ev (qY n T)))) fun v=>K ⟨qY n (jB T d v),H⟩:=by
 rw[uG rfl]
 simp only[yJ,bnd_V]
 rfl
def clsC (s d:Option TypeDesc):Cls:=
 match s,d with
 | some (.slice _),some .string=>.read
 | some .string,some (.slice _)=>.alloc
 | _,_=>.pure
def pC (s d:Option TypeDesc)(x:AV):Option AV:=
 (match s,d,x with
 | some _,some (.int k),.sc (.int _ n)=>some (.int k (k.wrap n))
 | some _,some .string,.sc (.string z)=>some (.string z)
 | _,_,_=>none:Option Value).map .sc
def rdC (P:Program)(s d:Option TypeDesc)(x:AV)(H:qE):Option AV:=
  match s,d,x with
  | some (.slice e),some .string,.sl r off len sz =>
   if isU8 P e=true∧sz=1 then ((wR H r off len).bind vN).map fun l=>.sc (.string (strOfNums l)) else none
  | some (.slice e),some .string,.sc (.slice none 0 0)=>if isU8 P e then some (.sc (.string ByteArray.empty)) else none
  | _,_,_=>none
def alC (P:Program)(s d:Option TypeDesc)(x:AV):Option (List AV×(Nat→AV)):=
  match s,d,x with
  | some _,some (.slice e),.sc (.string z)=>if isU8 P e=true∧P.cellsOf e=1 then some (z.data.toList.map (fun b=>.sc (.int .u8 b.toNat)),fun r=>.sl r 0 z.size 1) else none
  | _,_,_=>none
def alK (o:Option (List AV×(Nat→AV)))(H:qE)(K:AV→qE→Prop):Prop:=
 match o with
 | some (cs,mk)=>cs.all AV.one=true∧K (mk H.length) (H++[{cs:=cs}])
 | none=>False
def convW (P:Program)(s d:Option TypeDesc)(x:AV)(H:qE)(K:AV→qE→Prop):Prop:=
 match clsC s d with
 | .pure=>vP (pC s d x) fun v=>K v H
 | .read=>vP (rdC P s d x H) fun v=>K v H
 | .alloc=>alK (alC P s d x) H K
 | .write=>False
theorem bytes_one (z:ByteArray):((z.data.toList.map (fun b=>AV.sc (.int .u8 b.toNat))).all AV.one)=true:=List.all_eq_true.2 fun a ha=>by
  obtain⟨b,_,rfl⟩:=List.mem_map.1 ha
  rfl
theorem g_convert (a b:TypeId)(x:Operand):kR P ops ⟨some d,.convert a b x,ty,pos,af,none⟩ K ⟨qY n T,H⟩=convW P (P.underlying a) (P.underlying b) (ev (qY n T) x) H fun v H'=>K ⟨qY n (jB T d v),H'⟩:=by
 have e0:jZ P ⟨some d,.convert a b x,ty,pos,af,none⟩=clsC (P.underlying a) (P.underlying b):=rfl
 have e1:yJ P (qY n T) (.convert a b x)=pC (P.underlying a) (P.underlying b) (ev (qY n T) x):=rfl
 have e2:xH P (qY n T) (.convert a b x) H=rdC P (P.underlying a) (P.underlying b) (ev (qY n T) x) H:=rfl
 have e3:xW P (qY n T) (.convert a b x)=alC P (P.underlying a) (P.underlying b) (ev (qY n T) x):=rfl
 simp only[kR,opW,e0,convW,e1,e2,e3,St.put,uL]
 have hw:clsC (P.underlying a) (P.underlying b)≠.write:=by
  unfold clsC
  split<;>simp
 cases hc:clsC (P.underlying a) (P.underlying b) with
 | pure=>simp only;cases pC (P.underlying a) (P.underlying b) (ev (qY n T) x)<;>rfl
 | read=>simp only;cases rdC P (P.underlying a) (P.underlying b) (ev (qY n T) x) H<;>rfl
 | alloc=>simp only;cases alC P (P.underlying a) (P.underlying b) (ev (qY n T) x)<;>rfl
 | write=>exact absurd hc hw
theorem c_int (j k i:IntKind)(m:Int)(K:AV→qE→Prop):convW P (some (.int j)) (some (.int k)) (.sc (.int i m)) H K=K (.sc (.int k (k.wrap m))) H:=rfl
theorem c_str (z:ByteArray)(K:AV→qE→Prop):convW P (some .string) (some .string) (.sc (.string z)) H K=K (.sc (.string z)) H:=rfl
theorem c_bytes (e:TypeId)(z:ByteArray)(K:AV→qE→Prop):convW P (some .string) (some (.slice e)) (.sc (.string z)) H K=((isU8 P e=true∧P.cellsOf e=1)∧K (.sl H.length 0 z.size 1) (H++[{cs:=z.data.toList.map (fun b=>.sc (.int .u8 b.toNat))}])):=by
 by_cases h:isU8 P e=true∧P.cellsOf e=1
 ·simp only[convW,clsC,alC,alK,bytes_one,h,true_and,and_self,if_true]
 ·simp only[convW,clsC,alC,alK,h,false_and,if_false]
theorem c_text (e:TypeId)(r off len sz:Nat)(K:AV→qE→Prop):convW P (some (.slice e)) (some .string) (.sl r off len sz) H K=vP (if isU8 P e=true∧sz=1 then ((wR H r off len).bind vN).map fun l=>AV.sc (.string (strOfNums l)) else none) fun v=>K v H:=rfl
def rdV (P:Program)(t:TypeId)(x:AV)(H:qE):Option AV:=
 match x with
 | .ptr r off =>
   if xE P t=true then
    if kB P t then (wR H r off (P.cellsOf t)).map .agg
    else match wR H r off 1 with
     | some [v]=>some v
     | _=>none
   else none
 | _=>none
theorem g_load (t:TypeId)(x:Operand):kR P ops ⟨some d,.load t x,ty,pos,af,none⟩ K ⟨qY n T,H⟩=vP (rdV P t (ev (qY n T) x) H) fun v=>K ⟨qY n (jB T d v),H⟩:=by
 have e:xH P (qY n T) (.load t x) H=rdV P t (ev (qY n T) x) H:=rfl
 simp only[kR,opW,jZ,e,St.put,uL]
 cases rdV P t (ev (qY n T) x) H<;>rfl
def wrV (P:Program)(t:TypeId)(x y:AV)(H:qE):Option qE:=
 match x with
 | .ptr r off=>match H[r]? with
  | some g=>if g.live∧g.own∧xE P t=true∧y.cells.length=P.cellsOf t∧off+P.cellsOf t≤g.cs.length∧y.cells.all AV.one then some (setReg H r (qW g.cs off y.cells)) else none
  | none=>none
 | _=>none
theorem g_store (t:TypeId)(x y:Operand):kR P ops ⟨none,.store t x y,ty,pos,af,none⟩ K ⟨qY n T,H⟩=vP (wrV P t (ev (qY n T) x) (ev (qY n T) y) H) fun H'=>K ⟨qY n T,H'⟩:=by
 simp only[kR,opW,jZ,wI,jF,jH]
 cases hx:ev (qY n T) x with
 | ptr r off =>
  simp only[wrV]
  cases H[r]? with
  | none=>rfl
  | some g =>
   by_cases hc:g.live=true∧g.own=true∧xE P t=true∧(ev (qY n T) y).cells.length=P.cellsOf t∧off+P.cellsOf t≤g.cs.length∧(ev (qY n T) y).cells.all AV.one=true
   ·simp only[if_pos hc,vP]
   ·simp only[if_neg hc,vP]
 | _=>rfl
theorem g_call (f:FuncId)(xs:Array Operand)(ts:Array TypeId):kR P ops ⟨some d,.call ⟨.value (.func f),xs,ts⟩,ty,pos,af,none⟩ K ⟨qY n T,H⟩=∃ v H',Sound P f (xs.toList.map (ev (qY n T))) H v H'∧K ⟨qY n (jB T d v),H'⟩:=by
 simp only[kR,opW,jZ,jF,uL,ev]
 rfl
theorem opW_mono {o:Oper}{K K':St→Prop}{s:St}(h:∀ s,K s→K' s)(k:opW P o K s):opW P o K' s:=by
 unfold opW at *
 split at k
 ·split at k
  ·exact h _ k
  ·exact k.elim
 ·split at k
  ·exact h _ k
  ·exact k.elim
 ·split at k
  ·exact⟨k.1,h _ k.2⟩
  ·exact k.elim
 ·split at k
  ·obtain⟨v,H',k1,k2⟩:=k;exact⟨v,H',k1,h _ k2⟩
  ·split at k
   ·exact h _ k
   ·exact k.elim
theorem opG_mono {o:Oper}{K K':St→Prop}{s:St}(h:∀ s,K s→K' s)(k:kR P ops o K s):kR P ops o K' s:=by
 unfold kR at *
 split at k
 ·exact opW_mono h k
 ·split at k
  ·exact opW_mono h k
  ·exact h _ k
theorem opsW_mono {K K':St→Prop}(h:∀ s,K s→K' s):∀ {l:List Oper}{s:St},uW P ops l K s→uW P ops l K' s
 | [],_,k=>h _ k
 | _ :: _,_,k=>opG_mono (fun _=>opsW_mono h) k
theorem dopsW_mono {ps:List (Nat×Nat)}{K K':St→Prop}(h:∀ s,K s→K' s):∀ {l:List Oper}{hs:List St}{s:St},wQ P ops ps K l hs s→wQ P ops ps K' l hs s
 | [],_,_,k=>⟨k.1,h _ k.2⟩
 | _ :: _,_,_,k=>opG_mono (fun _=>dopsW_mono h) k
theorem uA:∀ (c:Code){K K':St→Prop}{E E':Nat→St→Prop}{R R':St→Prop}{s:St},(∀ s,K s→K' s)→(∀ i s,E i s→E' i s)→(∀ s,R s→R' s)→kO P c K E R s→kO P c K' E' R' s
 | .skip,_,_,_,_,_,_,_,h1,_,_,k=>h1 _ k
 | .region _ _ false,_,_,_,_,_,_,_,h1,_,_,k=>opsW_mono h1 k
 | .region _ _ true,_,_,_,_,_,_,_,h1,_,_,⟨k1,k2,ps,k3,k4⟩=>⟨k1,k2,ps,k3,dopsW_mono h1 k4⟩
 | .seq a b,_,_,_,_,_,_,_,h1,h2,h3,k=>uA a (fun _=>uA b h1 h2 h3) h2 h3 k
 | .cond c a b,_,_,_,_,_,_,s,h1,h2,h3,k=>by
  simp only[kO] at k ⊢
  split at k
  ·rename_i t ht
   cases t with
   | true=>exact uA a h1 h2 h3 k
   | false=>exact uA b h1 h2 h3 k
  ·exact k.elim
 | .block id c,_,_,_,_,_,_,_,h1,h2,h3,k=>uA c h1 (fun i s h=>by
   split
   ·rename_i e;rw[if_pos e] at h;exact h1 _ h
   ·rename_i e;rw[if_neg e] at h;exact h2 _ _ h) h3 k
 | .loop c,_,_,E,E',R,R',s,_,h2,h3,⟨n,k⟩=>⟨n,by
   have ih:=fun K K' s=>@uA c K K' E E' R R' s
   induction n generalizing s with
   | zero=>exact k.elim
   | succ n ihn=>exact ih _ _ s (fun s=>ihn s) h2 h3 k⟩
 | .exit _,_,_,_,_,_,_,_,_,h2,_,k=>h2 _ _ k
 | .ret,_,_,_,_,_,_,_,_,_,h3,k=>h3 _ k
 | .label _,_,_,_,_,_,_,_,_,_,_,k=>(by simp[kO] at k)
 | .goto _,_,_,_,_,_,_,_,_,_,_,k=>(by simp[kO] at k)
 | .scope ..,_,_,_,_,_,_,_,_,_,_,k=>(by simp[kO] at k)
 | .rangeFunc ..,_,_,_,_,_,_,_,_,_,_,k=>(by simp[kO] at k)
 | .refuse ..,_,_,_,_,_,_,_,_,_,_,k=>(by simp[kO] at k)
theorem yL {ι:Type}(I:ι→St→Prop)(μ:ι→Nat){c:Code}(hI:∀ i s,I i s→kO P c (fun s'=>∃ i',μ i'<μ i∧I i' s') E R s){i:ι}{s:St}(h:I i s):kO P (.loop c) K E R s:=by
 have key:∀ m i s,μ i<m→I i s→Nat.rec (motive:=fun _=>St→Prop) (fun _=>False) (fun _ ih s=>kO P c ih E R s) m s:=by
  intro m
  induction m with
  | zero=>intro i s h;omega
  | succ m ih =>
   intro i s hm hs
   exact uA c (fun s' ⟨i',h1,h2⟩=>ih i' s' (by omega) h2) (fun _ _ h=>h) (fun _ h=>h) (hI i s hs)
 exact⟨μ i+1,key (μ i+1) i s (Nat.lt_succ_self _) h⟩
end
section
variable (P : Program) (t : TypeId) (k : IntKind) (a b : Int)
theorem nob_int (o:BinOp)(j:IntKind):uT P o t (.sc (.int k a)) (.sc (.int j b))=none:=by
 unfold uT
 split<;>simp_all
theorem nob_str (o:BinOp)(x y:ByteArray):uT P o t (.sc (.string x)) (.sc (.string y))=none:=by
 unfold uT
 split<;>simp_all
theorem b_add:wS P .add t (.sc (.int k a)) (.sc (.int k b))=some (.sc (.int k (k.wrap (a+b)))):=by simp[wS,kL,wD,kQ]
theorem b_sub:wS P .sub t (.sc (.int k a)) (.sc (.int k b))=some (.sc (.int k (k.wrap (a - b)))):=by simp[wS,kL,wD,kQ]
theorem b_mul:wS P .mul t (.sc (.int k a)) (.sc (.int k b))=some (.sc (.int k (k.wrap (a*b)))):=by simp[wS,kL,wD,kQ]
theorem b_quo:wS P .quo t (.sc (.int k a)) (.sc (.int k b))=if b=0 then none else some (.sc (.int k (k.wrap (a.tdiv b)))):=by
 by_cases h:b=0<;>simp[wS,kL,wD,kQ,h,nob_int]
theorem b_rem:wS P .rem t (.sc (.int k a)) (.sc (.int k b))=if b=0 then none else some (.sc (.int k (a.tmod b))):=by
 by_cases h:b=0<;>simp[wS,kL,wD,kQ,h,nob_int]
theorem b_and:wS P .and t (.sc (.int k a)) (.sc (.int k b))=some (.sc (.int k (bits .and k a b))):=by simp[wS,kL,wD,kQ]
theorem b_or:wS P .or t (.sc (.int k a)) (.sc (.int k b))=some (.sc (.int k (bits .or k a b))):=by simp[wS,kL,wD,kQ]
theorem b_xor:wS P .xor t (.sc (.int k a)) (.sc (.int k b))=some (.sc (.int k (bits .xor k a b))):=by simp[wS,kL,wD,kQ]
theorem b_andNot:wS P .andNot t (.sc (.int k a)) (.sc (.int k b))=some (.sc (.int k (bits .andNot k a b))):=by simp[wS,kL,wD,kQ]
theorem b_eql:wS P .eql t (.sc (.int k a)) (.sc (.int k b))=some (.sc (.bool (decide (a=b)))):=by simp[wS,kL,wD,kQ];rfl
theorem b_neq:wS P .neq t (.sc (.int k a)) (.sc (.int k b))=some (.sc (.bool (!decide (a=b)))):=by simp[wS,kL,wD,kQ];rfl
theorem b_lss:wS P .lss t (.sc (.int k a)) (.sc (.int k b))=some (.sc (.bool (decide (a<b)))):=by simp[wS,kL,wD,kQ]
theorem b_leq:wS P .leq t (.sc (.int k a)) (.sc (.int k b))=some (.sc (.bool (decide (a≤b)))):=by simp[wS,kL,wD,kQ]
theorem b_gtr:wS P .gtr t (.sc (.int k a)) (.sc (.int k b))=some (.sc (.bool (decide (b<a)))):=by simp[wS,kL,wD,kQ]
theorem b_geq:wS P .geq t (.sc (.int k a)) (.sc (.int k b))=some (.sc (.bool (decide (b≤a)))):=by simp[wS,kL,wD,kQ]
theorem b_shl (j:IntKind):wS P .shl t (.sc (.int k a)) (.sc (.int j b))=if b<0 then none else some (.sc (.int k (k.wrap (a*2 ^ min b.toNat k.bits)))):=by
 by_cases h:b<0<;>simp[wS,kL,wD,shiftBin,h,nob_int]
theorem b_shr (j:IntKind):wS P .shr t (.sc (.int k a)) (.sc (.int j b))=if b<0 then none else some (.sc (.int k (a / 2 ^ min b.toNat k.bits))):=by
 by_cases h:b<0<;>simp[wS,kL,wD,shiftBin,h,nob_int]
theorem t_add (x y:ByteArray):wS P .add t (.sc (.string x)) (.sc (.string y))=if x.size+y.size≤9223372036854775807 then some (.sc (.string (x++y))) else none:=by
 by_cases h:x.size+y.size≤9223372036854775807<;>simp[wS,kL,strBin,h,nob_str]
theorem t_eql (x y:ByteArray):wS P .eql t (.sc (.string x)) (.sc (.string y))=some (.sc (.bool (x.toList == y.toList))):=rfl
theorem t_neq (x y:ByteArray):wS P .neq t (.sc (.string x)) (.sc (.string y))=some (.sc (.bool (!(x.toList == y.toList)))):=rfl
theorem v_eql (x y:Bool)(h:P.underlying t=some .bool):wS P .eql t (.sc (.bool x)) (.sc (.bool y))=some (.sc (.bool (x == y))):=by
 simp[wS,kL,uT,h]
theorem v_neq (x y:Bool)(h:P.underlying t=some .bool):wS P .neq t (.sc (.bool x)) (.sc (.bool y))=some (.sc (.bool (!(x == y)))):=by
 cases x<;>cases y<;>simp[wS,kL,uT,h]
theorem u_not (t:Bool):evUn .not (.sc (.bool t))=some (.bool (!t)):=rfl
theorem of_int (k:IntKind)(a:Int):ofV (.int k a)=.sc (.int k a):=rfl
theorem of_str (z:ByteArray):ofV (.string z)=.sc (.string z):=rfl
theorem of_bool (t:Bool):ofV (.bool t)=.sc (.bool t):=rfl
end
def kD (P:Program)(rs:List ResultVar)(v:AV)(s:St):Prop:=
 match uX P s rs with
 | some vs=>packA vs=v
 | none=>False
theorem ret_one {P:Program}{n:Nat}{T:Nat→AV}{H:qE}{t:Tmp}{v:AV}(h:t<n):kD P [.tmp t] v ⟨qY n T,H⟩=(T t=v):=by
 simp[kD,uX,uK,packA,qY,h]
theorem ret_two {P:Program}{n:Nat}{T:Nat→AV}{H:qE}{t u:Tmp}{v:AV}(h:t<n)(k:u<n):kD P [.tmp t,.tmp u] v ⟨qY n T,H⟩=(.tup [T t,T u]=v):=by
 simp[kD,uX,uK,packA,qY,h,k]
theorem ret_three {P:Program}{n:Nat}{T:Nat→AV}{H:qE}{t u x:Tmp}{v:AV}(h:t<n)(k:u<n)(j:x<n):kD P [.tmp t,.tmp u,.tmp x] v ⟨qY n T,H⟩=(.tup [T t,T u,T x]=v):=by
 simp[kD,uX,uK,packA,qY,h,k,j]
def par:List AV→Nat→AV:=fun l t=>l.getD t und
theorem par0 (a:AV)(l:List AV):par (a :: l) 0=a:=rfl
theorem par1 (a b:AV)(l:List AV):par (a :: b :: l) 1=b:=rfl
theorem par2 (a b c:AV)(l:List AV):par (a :: b :: c :: l) 2=c:=rfl
theorem par3 (a b c d:AV)(l:List AV):par (a :: b :: c :: d :: l) 3=d:=rfl
theorem par4 (a b c d e:AV)(l:List AV):par (a :: b :: c :: d :: e :: l) 4=e:=rfl
theorem par5 (a b c d e f:AV)(l:List AV):par (a :: b :: c :: d :: e :: f :: l) 5=f:=rfl
theorem Sound.run {P : Program}{f : FuncId}{fn : Func}{c : Code}{args : List AV}{H H' : qE}{v : AV}(n : Nat)(rs : List ResultVar)(hf : P.funcs[f]? = some fn)(hb : fn.body = some c)(hnt : fn.ntmps = n)(hrs : fn.results.toList = rs)(hn : (fn.name == "runtime.NumGoroutine") = false)(hl : args.length ≤ n)
  (h:kO P c (fun s=>kD P rs v s∧s.H=H') (fun _ _=>False) (fun s=>kD P rs v s∧s.H=H') ⟨qY n (par args),H⟩):Sound P f args H v H':=by
 subst hnt
 subst hrs
 have h0:=tab_init _ _ hl
 change _=qY fn.ntmps (par args) at h0
 rw[←h0] at h
 obtain⟨e,s',h1,h2⟩:=vA _ _ _ _ _ h
 have key:(e=.normal∨e=.ret)∧kD P fn.results.toList v s'∧s'.H=H':=by
  cases e with
  | normal=>exact⟨.inl rfl,h2⟩
  | exit id=>exact h2.elim
  | ret=>exact⟨.inr rfl,h2⟩
 obtain⟨k1,k2,rfl⟩:=key
 unfold kD at k2
 split at k2
 ·rename_i vs hvs
  exact Body.sound ⟨fn,c,e,s',vs,hf,hb,hn,hl,h1,k1,hvs,k2.symm,rfl⟩
 ·exact k2.elim
theorem Fn.run {P : Program}{f : FuncId}{fn : Func}{c : Code}{args : List AV}{v : AV}(n : Nat)(rs : List ResultVar)(hf : P.funcs[f]? = some fn)(hb : fn.body = some c)(hnt : fn.ntmps = n)(hrs : fn.results.toList = rs)(hn : (fn.name == "runtime.NumGoroutine") = false)(hl : args.length ≤ n)(ha : ∀ a, a ∈ args → Flat a)(hv : Flat v)
  (h:kO P c (kD P rs v) (fun _ _=>False) (kD P rs v) ⟨qY n (par args),[]⟩):Fn P f args v:=by
 subst hnt
 subst hrs
 have h0:=tab_init _ _ hl
 change _=qY fn.ntmps (par args) at h0
 rw[←h0] at h
 obtain⟨e,s',h1,h2⟩:=vA _ _ _ _ _ h
 have key:(e=.normal∨e=.ret)∧kD P fn.results.toList v s':=by
  cases e with
  | normal=>exact⟨.inl rfl,h2⟩
  | exit id=>exact h2.elim
  | ret=>exact⟨.inr rfl,h2⟩
 obtain⟨k1,k2⟩:=key
 unfold kD at k2
 split at k2
 ·rename_i vs hvs
  exact Fn.of ha hv (Body.sound ⟨fn,c,e,s',vs,hf,hb,hn,hl,h1,k1,hvs,k2.symm,rfl⟩)
 ·exact k2.elim
def ints (k:IntKind)(l:List Int):List AV:=l.map fun n=>.sc (.int k n)
def xO (z:ByteArray):List Int:=z.data.toList.map fun b=>(b.toNat:Int)
theorem kX (k:IntKind)(l:List Int):(ints k l).length=l.length:=by simp[ints]
theorem wV (z:ByteArray):(xO z).length=z.size:=by simp[xO]
theorem bytes_ints (z:ByteArray):z.data.toList.map (fun b=>AV.sc (.int .u8 b.toNat))=ints .u8 (xO z):=by simp[ints,xO]
theorem bytesA_ints (l:List Int):vN (ints .u8 l)=some l:=by
 induction l with
 | nil=>rfl
 | cons a l ih =>
  show vN (.sc (.int .u8 a) :: ints .u8 l)=_
  simp only[vN,byteOf,ih]
theorem ints_get (k:IntKind)(l:List Int)(i:Nat)(h:i<l.length):(ints k l)[i]?=some (.sc (.int k (l.getD i 0))):=by
 simp[ints,h]
theorem ints_set (k:IntKind)(l:List Int)(i:Nat)(v:Int):(ints k l).set i (.sc (.int k v))=ints k (l.set i v):=by
 simp[ints,List.map_set]
theorem ints_append (k:IntKind)(a b:List Int):ints k a++ints k b=ints k (a++b):=by simp[ints]
theorem ints_take (k:IntKind)(a:List Int)(n:Nat):(ints k a).take n=ints k (a.take n):=by simp[ints,List.map_take]
theorem ints_drop (k:IntKind)(a:List Int)(n:Nat):(ints k a).drop n=ints k (a.drop n):=by simp[ints,List.map_drop]
theorem vY (k:IntKind)(l:List Int):(ints k l).all AV.one=true:=List.all_eq_true.2 fun a ha=>by
 obtain⟨b,_,rfl⟩:=List.mem_map.1 ha
 rfl
theorem ints_rep (k:IntKind)(n:Nat)(v:Int):(List.replicate n [AV.sc (.int k v)]).flatten=ints k (List.replicate n v):=by
 induction n with
 | zero=>rfl
 | succ n ih=>simp only[List.replicate_succ,List.flatten_cons,ih];rfl
def jG (ok agg:Bool)(m:Nat)(g:Option Reg)(off:Nat):Option AV:=
 match g with
 | some g=>if ok=true then if agg=true then (if g.live=true∧off+m≤g.cs.length then some (.agg ((g.cs.drop off).take m)) else none) else (if g.live=true∧off+1≤g.cs.length then g.cs[off]? else none) else none
 | none=>none
section
variable {P : Program} {H : qE}
theorem rd_def (t:TypeId)(r off:Nat):rdV P t (.ptr r off) H=jG (xE P t) (kB P t) (P.cellsOf t) H[r]? off:=by
 unfold rdV jG
 simp only
 cases hg:H[r]? with
 | none=>simp[wR,hg]
 | some g =>
  by_cases h1:xE P t=true
  ·rw[if_pos h1]
   by_cases h2:kB P t=true
   ·simp only[h1,h2,if_true,wR,hg]
    split<;>rfl
   ·simp only[h1,h2,if_true,if_false,wR,hg]
    by_cases h3:g.live=true∧off+1≤g.cs.length
    ·simp only[h3,and_self,if_true]
     have:(g.cs.drop off).take 1=[g.cs[off]'(by omega)]:=by
      rw[List.drop_eq_getElem_cons (by omega)]
      rfl
     rw[this,List.getElem?_eq_getElem (by omega)]
     rfl
    ·simp only[if_neg h3]
     rfl
  ·simp[h1]
theorem rd_ints (m:Nat)(k:IntKind)(l:List Int)(own:Bool)(off:Nat):jG true false m (some ⟨ints k l,own,true⟩) off=if off<l.length then some (.sc (.int k (l.getD off 0))) else none:=by
 simp only[jG,if_true,kX,true_and]
 by_cases h:off<l.length
 ·rw[if_pos h]
  simp only[Bool.false_eq_true,if_false]
  rw[if_pos (by omega),ints_get k l off h]
 ·rw[if_neg h]
  simp only[Bool.false_eq_true,if_false]
  rw[if_neg (by omega)]
def uJ (ok:Bool)(m:Nat)(H:qE)(r:Nat)(g:Option Reg)(off:Nat)(y:AV):Option qE:=
 match g with
 | some g=>if g.live=true∧g.own=true∧ok=true∧y.cells.length=m∧off+m≤g.cs.length∧y.cells.all AV.one=true then some (H.set r {cs:=qW g.cs off y.cells}) else none
 | none=>none
theorem wr_def (t:TypeId)(r off:Nat)(y:AV):wrV P t (.ptr r off) y H=uJ (xE P t) (P.cellsOf t) H r H[r]? off y:=by
 unfold wrV uJ
 simp only
 cases hg:H[r]? with
 | none=>rfl
 | some g =>
  simp only
  by_cases hc:g.live=true∧g.own=true∧xE P t=true∧y.cells.length=P.cellsOf t∧off+P.cellsOf t≤g.cs.length∧y.cells.all AV.one=true
  ·rw[if_pos hc,if_pos hc]
   congr 1
   obtain⟨h1,h2,_⟩:=hc
   unfold setReg
   apply List.ext_getElem?
   intro i
   rw[List.getElem?_modify,List.getElem?_set]
   by_cases hi:r=i
   ·subst hi
    rw[hg]
    have:=(List.getElem?_eq_some_iff.1 hg).1
    simp[this,h1,h2]
   ·simp[hi]
  ·rw[if_neg hc,if_neg hc]
theorem wr_ints (k:IntKind)(l:List Int)(r off:Nat)(v:Int):uJ true 1 H r (some {cs:=ints k l}) off (.sc (.int k v))=if off<l.length then some (H.set r {cs:=ints k (l.set off v)}) else none:=by
 have h1:(AV.sc (.int k v)).cells=[.sc (.int k v)]:=rfl
 have h2:[AV.sc (.int k v)].all AV.one=true:=rfl
 simp only[uJ,h1,List.length_singleton,kX,h2,and_true,true_and]
 by_cases h:off<l.length
 ·rw[if_pos h,if_pos (by omega)]
  congr 3
  unfold qW
  have hs:=List.set_eq_take_append_cons_drop (l:=ints k l) (i:=off) (a:=AV.sc (.int k v))
  rw[←ints_set,hs,if_pos (by rw[kX];exact h)]
  simp
 ·rw[if_neg h,if_neg (by omega)]
def atT (g:Option Reg)(off n:Nat):Option (List AV):=
 match g with
 | some g=>if g.live∧off+n≤g.cs.length then some ((g.cs.drop off).take n) else none
 | none=>none
theorem at_def (r off n:Nat):wR H r off n=atT H[r]? off n:=rfl
theorem at_ints (k:IntKind)(l:List Int)(own:Bool)(off n:Nat):atT (some ⟨ints k l,own,true⟩) off n=if off+n≤l.length then some (ints k ((l.drop off).take n)) else none:=by
 simp only[atT,kX,true_and,ints_drop,ints_take]
end
section
variable {P : Program} {ops : Array Oper} {K : St → Prop} {n : Nat} {T : Nat → AV} {H : qE} {d : Tmp} {ty : TypeId} {pos : String} {af : Array Edge}
def dstAt:List Oper→Nat→Option Tmp
 | [],_=>none
 | o :: _,0=>o.dst
 | _ :: l,k+1=>dstAt l k
theorem dstAt_0 (o:Oper)(l:List Oper):dstAt (o :: l) 0=o.dst:=rfl
theorem dstAt_s (o:Oper)(l:List Oper)(k:Nat):dstAt (o :: l) (k+1)=dstAt l k:=rfl
theorem dstAt_eq:∀ (l:List Oper)(j:Nat),(l[j]?).bind (·.dst)=dstAt l j
 | [],_=>rfl
 | _ :: _,0=>rfl
 | _ :: l,j+1=>dstAt_eq l j
def boolOf (v:AV):Option Bool:=
 match v with
 | .sc (.bool b)=>some b
 | _=>none
theorem boolOf_b (b:Bool):boolOf (.sc (.bool b))=some b:=rfl
def ybv (n:Nat)(T:Nat→AV)(t:Option Tmp):Option Bool:=
 match t with
 | some t=>if t<n then boolOf (T t) else none
 | none=>none
theorem ybv_some (t:Tmp)(h:t<n):ybv n T (some t)=boolOf (T t):=if_pos h
theorem yielded_tab (j:Nat):wE ops (qY n T) j=ybv n T (dstAt ops.toList j):=by
 unfold wE ybv
 rw[←dstAt_eq,←Array.getElem?_toList]
 cases ((ops.toList[j]?).bind (·.dst)) with
 | none=>rfl
 | some t =>
  simp only[Option.bind_some,qY,List.getElem?_map]
  by_cases h:t<n
  ·rw[List.getElem?_range h,if_pos h]
   simp only[Option.map_some,boolOf]
   cases T t with
   | sc v=>cases v<;>rfl
   | _=>rfl
  ·rw[List.getElem?_eq_none (by rw[List.length_range];exact Nat.le_of_not_lt h),if_neg h]
   rfl
theorem g_guard_t {dd:Option Tmp}{op:Op}{j:Nat}{want:Bool}(h:wE ops (qY n T) j=some want):kR P ops ⟨dd,op,ty,pos,af,some (j,want)⟩ K ⟨qY n T,H⟩=kR P ops ⟨dd,op,ty,pos,af,none⟩ K ⟨qY n T,H⟩:=by
 rw[g_guard]
 simp only[h]
 simp
theorem g_guard_f {op:Op}{j:Nat}{want:Bool}(h:wE ops (qY n T) j=some (!want)):kR P ops ⟨some d,op,ty,pos,af,some (j,want)⟩ K ⟨qY n T,H⟩=K ⟨qY n (jB T d und),H⟩:=by
 rw[g_guard]
 simp only[h]
 have:(some (!want) == some want)=false:=by cases want<;>rfl
 simp only[this,St.put,uL]
theorem ext_0 (a:AV)(l:List AV):extV (.tup (a :: l)) 0=some a:=rfl
theorem ext_1 (a b:AV)(l:List AV):extV (.tup (a :: b :: l)) 1=some b:=rfl
theorem ext_2 (a b c:AV)(l:List AV):extV (.tup (a :: b :: c :: l)) 2=some c:=rfl
theorem ext_3 (a b c d:AV)(l:List AV):extV (.tup (a :: b :: c :: d :: l)) 3=some d:=rfl
theorem g_alloc (t:TypeId):kR P ops ⟨some d,.alloc t,ty,pos,af,none⟩ K ⟨qY n T,H⟩=alK ((xC P t).map fun z=>(z,fun r=>.ptr r 0)) H fun v H'=>K ⟨qY n (jB T d v),H'⟩:=by
 have e:xW P (qY n T) (.alloc t)=(xC P t).map fun z=>(z,fun r=>.ptr r 0):=rfl
 simp only[kR,opW,jZ,e,uL]
 cases (xC P t).map fun z=>(z,fun r=>AV.ptr r 0)<;>rfl
theorem g_box (t:TypeId)(x:Operand):kR P ops ⟨some d,.box t x,ty,pos,af,none⟩ K ⟨qY n T,H⟩=alK (some ((ev (qY n T) x).cells,fun r=>.ptr r 0)) H fun v H'=>K ⟨qY n (jB T d v),H'⟩:=by
 have e:xW P (qY n T) (.box t x)=some ((ev (qY n T) x).cells,fun r=>.ptr r 0):=rfl
 simp only[kR,opW,jZ,e,uL]
 rfl
theorem alK_some (cs:List AV)(mk:Nat→AV)(Q:AV→qE→Prop):alK (some (cs,mk)) H Q=(cs.all AV.one=true∧Q (mk H.length) (H++[{cs:=cs}])):=rfl
def vC (P:Program)(e:Option TypeDesc)(len:Nat)(parts:List (Nat×AV)):Option (List AV×(Nat→AV)):=
  match e with
  | some (.slice e)=>match xC P e with
   | some z =>
    if xE P e=true∧0<P.cellsOf e∧z.length=P.cellsOf e∧len*P.cellsOf e≤16777216 then
     (yR (fun i=>some (i*P.cellsOf e,P.cellsOf e)) ((List.replicate len z).flatten) parts).map fun cs=>(cs,fun r=>.sl r 0 len (P.cellsOf e))
    else none
   | none=>none
  | _=>none
theorem g_buildSlice (t:TypeId)(len:Nat)(parts:Array (Nat×Operand)):kR P ops ⟨some d,.buildSlice t len parts,ty,pos,af,none⟩ K ⟨qY n T,H⟩=alK (vC P (P.underlying t) len (parts.toList.map fun p=>(p.1,ev (qY n T) p.2))) H fun v H'=>K ⟨qY n (jB T d v),H'⟩:=by
 have e:xW P (qY n T) (.buildSlice t len parts)=vC P (P.underlying t) len (parts.toList.map fun p=>(p.1,ev (qY n T) p.2)):=rfl
 simp only[kR,opW,jZ,e,uL]
 cases vC P (P.underlying t) len (parts.toList.map fun p=>(p.1,ev (qY n T) p.2))<;>rfl
def lay:List Int→List (Nat×Int)→List Int
 | l,[]=>l
 | l,(i,v) :: r=>lay (l.set i v) r
theorem fill_ints (k:IntKind):∀ (ps:List (Nat×Int))(l:List Int),(∀ p,p∈ps→p.1<l.length)→yR (fun i=>some (i*1,1)) (ints k l) (ps.map fun p=>(p.1,AV.sc (.int k p.2)))=some (ints k (lay l ps))
 | [],l,_=>rfl
 | (i,v) :: ps,l,h=>by
  have hi:i<l.length:=h (i,v) (by simp)
  have hc:(AV.sc (.int k v)).cells=[.sc (.int k v)]:=rfl
  simp only[List.map_cons,yR,hc,List.length_singleton,kX,lay,true_and,Nat.mul_one]
  rw[if_pos (by omega)]
  have:qW (ints k l) i [.sc (.int k v)]=ints k (l.set i v):=by
   have hs:=List.set_eq_take_append_cons_drop (l:=ints k l) (i:=i) (a:=AV.sc (.int k v))
   rw[←ints_set,hs,if_pos (by rw[kX];exact hi)]
   simp[qW]
  rw[this]
  have:=fill_ints k ps (l.set i v) (fun p hp=>by rw[List.length_set];exact h p (List.mem_cons_of_mem _ hp))
  simpa using this
theorem jD (k:IntKind)(e:TypeId)(len:Nat)(ps:List (Nat×Int))(hz:xC P e=some [.sc (.int k 0)])(ht:xE P e=true)(hc:P.cellsOf e=1)(hl:len≤16777216)(hp:∀ p,p∈ps→p.1<len) :
  vC P (some (.slice e)) len (ps.map fun p=>(p.1,.sc (.int k p.2)))=some (ints k (lay (List.replicate len 0) ps),fun r=>.sl r 0 len 1):=by
 simp only[vC,hz,ht,hc,List.length_singleton,Nat.mul_one,true_and]
 rw[if_pos ⟨by omega,hl⟩,ints_rep]
 have:=fill_ints k ps (List.replicate len 0) (by simpa using hp)
 simp only[Nat.mul_one] at this
 rw[this]
 rfl
def mkV (P:Program)(e:Option TypeDesc)(l c:AV):Option (List AV×(Nat→AV)):=
  match e,l,c with
  | some (.slice e),.sc (.int _ n),.sc (.int _ m)=>match P.info? e,xC P e with
   | some i,some z =>
    if 0≤n∧n=m∧n≤140737488355328∧i.bytes*n≤281474976710656∧0<P.cellsOf e∧z.length=P.cellsOf e then some ((List.replicate n.toNat z).flatten,fun r=>.sl r 0 n.toNat (P.cellsOf e)) else none
   | _,_=>none
  | _,_,_=>none
theorem g_makeSlice (t:TypeId)(l c:Operand):kR P ops ⟨some d,.makeSlice t l c,ty,pos,af,none⟩ K ⟨qY n T,H⟩=alK (mkV P (P.underlying t) (ev (qY n T) l) (ev (qY n T) c)) H fun v H'=>K ⟨qY n (jB T d v),H'⟩:=by
 have e:xW P (qY n T) (.makeSlice t l c)=mkV P (P.underlying t) (ev (qY n T) l) (ev (qY n T) c):=rfl
 simp only[kR,opW,jZ,e,uL]
 cases mkV P (P.underlying t) (ev (qY n T) l) (ev (qY n T) c)<;>rfl
end
theorem toL (s:ByteArray):s.toList=s.data.toList:=Go.ByteArray.toList_eq s
theorem toL_inj {a b:ByteArray}:a.toList=b.toList↔a=b:=by
 rw[toL,toL]
 constructor
 ·intro h
  apply ByteArray.ext
  exact Array.toList_inj.1 h
 ·intro h;rw[h]
theorem son_append (a b:List Int):strOfNums a++strOfNums b=strOfNums (a++b):=by
 apply ByteArray.ext
 simp[strOfNums]
theorem son_size (a:List Int):(strOfNums a).size=a.length:=by simp[strOfNums,ByteArray.size]
theorem son_nums (z:ByteArray):strOfNums (xO z)=z:=by
 apply ByteArray.ext
 simp only[strOfNums,xO,List.map_map]
 have:(z.data.toList.map ((fun n:Int=>UInt8.ofNat n.toNat)∘fun b=>((b.toNat:Nat):Int)))=z.data.toList:=by
  rw[List.map_congr_left (g:=id)]
  ·simp
  ·intro b _
   simp
 rw[this]
theorem nums_son {l:List Int}(h:∀ x∈l,0≤x∧x<256):xO (strOfNums l)=l:=by
 simp only[strOfNums,xO,List.map_map]
 rw[List.map_congr_left (g:=id)]
 ·simp
 ·intro b hb
  obtain⟨h1,h2⟩:=h b hb
  simp
  omega
theorem vF (a b:ByteArray):xO (a++b)=xO a++xO b:=by simp[xO]
theorem nums_inj {a b:ByteArray}(h:xO a=xO b):a=b:=by rw[←son_nums a,←son_nums b,h]
theorem byteAt_nums (z:ByteArray)(i:Nat):jA z i=(xO z).getD i 0:=by
 simp only[jA,xO,List.getD_eq_getElem?_getD,List.getElem?_map,Array.getElem?_toList]
 cases z.data[i]?<;>rfl
theorem nums_extract (z:ByteArray)(i j:Nat):xO (z.extract i j)=((xO z).take j).drop i:=by
 simp only[xO,ByteArray.data_extract,Array.toList_extract,List.extract_eq_take_drop,List.map_take,List.map_drop]
 rw[List.drop_take]
theorem w64 {x:Int}(h0 : -9223372036854775808≤x)(h1:x≤9223372036854775807):IntKind.i64.wrap x=x:=by rw[IntKind.wrap_i64];omega
theorem bits_i64:IntKind.i64.bits=64:=rfl
theorem bits_u32:IntKind.u32.bits=32:=rfl
theorem bits_u8:IntKind.u8.bits=8:=rfl
theorem u8_id {x:Int}(h0:0≤x)(h1:x<256):IntKind.u8.wrap x=x:=by rw[IntKind.wrap_u8];omega
def hiL (x:Int):Nat→List Int
 | 0=>[]
 | w+1=>hiL (x / 256) w++[x % 256]
def vK (P:Program)(a b:Option TypeDesc)(s x:AV)(H:qE):Option (AV×qE):=
 match a,b with
   | some (.slice e),some u =>
    match P.info? e,(P.info? e).bind (·.zero),qU H x (P.cellsOf e) with
    | some i,some z,some news =>
     if 0<P.cellsOf e∧z.cells.size=P.cellsOf e∧noInt u=true∧news.all AV.one=true then
      match s with
      | .sc (.slice none 0 0) =>
       if news.length / P.cellsOf e*i.bytes≤140737488355328∧news.length≤140737488355328 then
        if news.length=0 then some (.sc (.slice none 0 0),H)
        else some (.sl H.length 0 (news.length / P.cellsOf e) (P.cellsOf e),H++[{cs:=news}]) else none
      | .sl r 0 len sz =>
       match H[r]? with
       | some g =>
        if sz=P.cellsOf e∧g.live∧g.own∧len*sz≤g.cs.length∧(len+news.length / sz)*i.bytes≤140737488355328∧len+news.length≤140737488355328 then
         some (.sl H.length 0 (len+news.length / sz) sz,yG H r++[{cs:=g.cs.take (len*sz)++news}])
        else none
       | none=>none
      | _=>none
     else none
    | _,_,_=>none
   | _,_=>none
def apT (B:Nat)(H:qE)(r len:Nat)(g:Option Reg)(news:Option (List AV)):Option (AV×qE):=
 match g,news with
 | some g,some ns=>if g.live=true∧g.own=true∧len≤g.cs.length∧(len+ns.length)*B≤140737488355328∧len+ns.length≤140737488355328∧ns.all AV.one=true then
   some (.sl H.length 0 (len+ns.length) 1,yG H r++[{cs:=g.cs.take len++ns}]) else none
 | _,_=>none
def apN (B:Nat)(H:qE)(news:Option (List AV)):Option (AV×qE):=
 match news with
 | some ns=>if ns.length*B≤140737488355328∧ns.length≤140737488355328∧ns.all AV.one=true then (if ns.length=0 then some (.sc (.slice none 0 0),H) else some (.sl H.length 0 ns.length 1,H++[{cs:=ns}])) else none
 | none=>none
section
variable {P : Program} {ops : Array Oper} {K : St → Prop} {n : Nat} {T : Nat → AV} {H : qE} {d : Tmp} {ty : TypeId} {pos : String} {af : Array Edge}
theorem g_append (s x:Operand)(t t':TypeId):kR P ops ⟨some d,.call ⟨.builtin .append,#[s,x],#[t,t']⟩,ty,pos,af,none⟩ K ⟨qY n T,H⟩=vP (vK P (P.underlying t) (P.underlying t') (ev (qY n T) s) (ev (qY n T) x) H) fun p=>K ⟨qY n (jB T d p.1),p.2⟩:=by
 have e:wI P (qY n T) (.call ⟨.builtin .append,#[s,x],#[t,t']⟩) H=vK P (P.underlying t) (P.underlying t') (ev (qY n T) s) (ev (qY n T) x) H:=rfl
 simp only[kR,opW,jZ,jF,e,uL]
 cases vK P (P.underlying t) (P.underlying t') (ev (qY n T) s) (ev (qY n T) x) H<;>rfl
theorem zero_size {e:TypeId}{c:AV}(hz:xC P e=some [c]):∃ z,(P.info? e).bind (·.zero)=some z∧z.cells.size=1:=by
 unfold xC at hz
 simp only[Option.map_eq_some_iff] at hz
 obtain⟨z,h1,h2⟩:=hz
 refine⟨z,h1,?_⟩
 have:=(VR.ofV (ρ:=fun _=>none) z).cells.1
 rw[h2] at this
 simpa using this.symm
theorem src_sl (r off q:Nat):qU H (.sl r off q 1) 1=atT H[r]? off q:=by simp[qU,at_def]
theorem src_nil:qU H (.sc (.slice none 0 0)) 1=some []:=rfl
theorem src_str (z:ByteArray):qU H (.sc (.string z)) 1=some (ints .u8 (xO z)):=by simp[qU,ints,xO]
theorem ap_sl {e:TypeId}{c:AV}{B:Nat}{u:TypeDesc}(hz:xC P e=some [c])(hi:(P.info? e).map (·.bytes)=some B)(hc:P.cellsOf e=1)(hu:noInt u=true)(r len:Nat)(x:AV):vK P (some (.slice e)) (some u) (.sl r 0 len 1) x H=apT B H r len H[r]? (qU H x 1):=by
 obtain⟨z,z1,z2⟩:=zero_size hz
 simp only[Option.map_eq_some_iff] at hi
 obtain⟨i,i1,rfl⟩:=hi
 unfold vK apT
 simp only[i1,Option.bind_some] at z1 ⊢
 rw[z1]
 simp only[hc,z2,hu]
 cases qU H x 1 with
 | none=>cases H[r]?<;>rfl
 | some ns =>
  cases hr:H[r]? with
  | none=>simp only;split<;>rfl
  | some g =>
   simp only[Nat.mul_one,Nat.div_one]
   by_cases h1:ns.all AV.one=true
   ·by_cases h2:g.live=true∧g.own=true∧len≤g.cs.length∧(len+ns.length)*i.bytes≤140737488355328∧len+ns.length≤140737488355328
    ·simp[h1,h2,z2]
    ·rw[if_pos ⟨by omega,z2,trivial,h1⟩,if_neg (fun h=>h2 h.2),if_neg (fun h=>h2 ⟨h.1,h.2.1,h.2.2.1,h.2.2.2.1,h.2.2.2.2.1⟩)]
   ·rw[if_neg (fun h=>h1 h.2.2.2),if_neg (fun h=>h1 h.2.2.2.2.2)]
theorem ap_nil {e:TypeId}{c:AV}{B:Nat}{u:TypeDesc}(hz:xC P e=some [c])(hi:(P.info? e).map (·.bytes)=some B)(hc:P.cellsOf e=1)(hu:noInt u=true)(x:AV):vK P (some (.slice e)) (some u) (.sc (.slice none 0 0)) x H=apN B H (qU H x 1):=by
 obtain⟨z,z1,z2⟩:=zero_size hz
 simp only[Option.map_eq_some_iff] at hi
 obtain⟨i,i1,rfl⟩:=hi
 unfold vK apN
 simp only[i1,Option.bind_some] at z1 ⊢
 rw[z1]
 simp only[hc,z2,hu]
 cases qU H x 1 with
 | none=>rfl
 | some ns =>
  simp only[Nat.div_one]
  by_cases h1:ns.all AV.one=true
  ·by_cases h2:ns.length*i.bytes≤140737488355328∧ns.length≤140737488355328
   ·simp[h1,h2,z2]
   ·rw[if_pos ⟨by omega,z2,trivial,h1⟩,if_neg h2,if_neg (fun h=>h2 ⟨h.1,h.2.1⟩)]
  ·rw[if_neg (fun h=>h1 h.2.2.2),if_neg (fun h=>h1 h.2.2)]
theorem ap_ints (B r len:Nat)(k:IntKind)(l m:List Int):apT B H r len (some {cs:=ints k l}) (some (ints k m))=if len≤l.length∧(len+m.length)*B≤140737488355328∧len+m.length≤140737488355328 then some (.sl H.length 0 (len+m.length) 1,yG H r++[{cs:=ints k (l.take len++m)}]) else none:=by
 simp only[apT,kX,vY,true_and,and_true,ints_take,ints_append]
theorem ap_intsN (B:Nat)(k:IntKind)(m:List Int):apN B H (some (ints k m))=if m.length*B≤140737488355328∧m.length≤140737488355328 then (if m.length=0 then some (.sc (.slice none 0 0),H) else some (.sl H.length 0 m.length 1,H++[{cs:=ints k m}])) else none:=by
 simp only[apN,kX,vY,and_true]
theorem yZ (r:Nat):(yG H r).length=H.length:=by simp[yG,uM]
end
theorem yA (G:qE)(g:Reg):(G++[g])[G.length]?=some g:=by simp
theorem at_a (G:qE)(g b:Reg):((G++[g])++[b])[G.length]?=some g:=by simp
theorem at_b (G:qE)(g b:Reg):((G++[g])++[b])[G.length+1]?=some b:=by
 rw[List.getElem?_append_right (by simp)]
 simp
theorem yS (G Z:qE)(r:Nat)(h:r<G.length):(G++Z)[r]?=G[r]?:=List.getElem?_append_left h
theorem bnd_none (d:Nat):bndV none d=some d:=rfl
theorem bnd_int (k:IntKind)(m:Int)(d:Nat):bndV (some (.sc (.int k m))) d=if 0≤m then some m.toNat else none:=rfl
def cutS (z:ByteArray)(l h:Option Nat):Option AV:=
 match l,h with
 | some l,some h=>if l≤h∧h≤z.size then some (.sc (.string (z.extract l h))) else none
 | _,_=>none
theorem cut_str (P:Program)(z:ByteArray)(lo hi:Option AV):cutV P (some .string) (.sc (.string z)) lo hi=cutS z (bndV lo 0) (bndV hi z.size):=by
 unfold cutV cutS
 rfl
theorem cutS_some (z:ByteArray)(l h:Nat):cutS z (some l) (some h)=if l≤h∧h≤z.size then some (.sc (.string (z.extract l h))) else none:=rfl
def cutL (P:Program)(e:TypeId)(r off len sz:Nat)(l h:Option Nat):Option AV:=
 match l,h with
 | some l,some h=>if l≤h∧h≤len∧P.cellsOf e=sz∧xE P e=true then some (.sl r (off+l*sz) (h - l) sz) else none
 | _,_=>none
theorem cut_sl (P:Program)(e:TypeId)(r off len sz:Nat)(lo hi:Option AV):cutV P (some (.slice e)) (.sl r off len sz) lo hi=cutL P e r off len sz (bndV lo 0) (bndV hi len):=rfl
theorem cutL_some (P:Program)(e:TypeId)(r off len sz l h:Nat):cutL P e r off len sz (some l) (some h)=if l≤h∧h≤len∧P.cellsOf e=sz∧xE P e=true then some (.sl r (off+l*sz) (h - l) sz) else none:=rfl
def lp (P:Program)(c:Code)(E:Nat→St→Prop)(R:St→Prop):Nat→St→Prop
 | 0,_=>False
 | n+1,s=>kO P c (fun s'=>lp P c E R n s') E R s
theorem lp_s (P:Program)(c:Code)(E:Nat→St→Prop)(R:St→Prop)(n:Nat)(s:St):lp P c E R (n+1) s=kO P c (fun s'=>lp P c E R n s') E R s:=rfl
theorem w_times {P:Program}{c:Code}{K:St→Prop}{E:Nat→St→Prop}{R:St→Prop}{s:St}(n:Nat)(h:lp P c E R n s):kO P (.loop c) K E R s:=by
 refine⟨n,?_⟩
 have:∀ n s,lp P c E R n s→Nat.rec (motive:=fun _=>St→Prop) (fun _=>False) (fun _ ih s=>kO P c ih E R s) n s:=by
  intro n
  induction n with
  | zero=>intro s h;exact h.elim
  | succ n ih=>intro s h;exact uA c (fun s' h'=>ih s' h') (fun _ _ h=>h) (fun _ h=>h) h
 exact this n s h
theorem drawn {P:Program}{i:Nat}{ops:Array Oper}{K:St→Prop}{E:Nat→St→Prop}{R:St→Prop}{s:St}(ps:List (Nat×Nat))(h1:P.follows .mixedOrders=true)(h2:drawOk P ops=true)(h3:pairs P ops=ps)(h:wQ P ops ps K ops.toList [] s):kO P (.region i ops true) K E R s:=⟨h1,h2,ps,h3,h⟩
theorem dops_0 {P:Program}{ops:Array Oper}{K:St→Prop}{hs:List St}{s:St}:wQ P ops [] K [] hs s=K s:=by simp[wQ]
theorem ret_none {P:Program}{s:St}:kD P [] (.tup []) s=True:=by simp[kD,uX,packA]
theorem dops_p {P:Program}{ops:Array Oper}{p:Nat×Nat}{ps:List (Nat×Nat)}{K:St→Prop}{hs:List St}{s:St}:wQ P ops (p :: ps) K [] hs s=((∀ q,q∈p :: ps→wK P ops (s :: hs) q)∧K s):=rfl
section
variable {P : Program} {ops : Array Oper} {K : St → Prop} {n : Nat} {T : Nat → AV} {H : qE} {d : Tmp} {ty : TypeId} {pos : String} {af : Array Edge} {f : FuncId} {xs : Array Operand} {ts : Array TypeId} {args : List AV} {v : AV}
theorem qN (ha:xs.toList.map (ev (qY n T))=args)(h:Fn P f args v)(k:K ⟨qY n (jB T d v),H⟩):kR P ops ⟨some d,.call ⟨.value (.func f),xs,ts⟩,ty,pos,af,none⟩ K ⟨qY n T,H⟩:=by
 rw[g_call,ha]
 exact⟨v,H,h H,k⟩
theorem qF {H':qE}(ha:xs.toList.map (ev (qY n T))=args)(h:Sound P f args H v H')(hk:K ⟨qY n (jB T d v),H'⟩):kR P ops ⟨some d,.call ⟨.value (.func f),xs,ts⟩,ty,pos,af,none⟩ K ⟨qY n T,H⟩:=by
 rw[g_call,ha]
 exact⟨_,_,h,hk⟩
end
theorem yC {P:Program}{ops:Array Oper}{hs:List St}{j k:Nat}(h:(hs.getD (ops.size - k) ⟨[],[]⟩).H=(hs.getD (ops.size - j) ⟨[],[]⟩).H):wK P ops hs (j,k):=fun _=>.inr <| by
 show xH P (hs.getD (ops.size - j) ⟨[],[]⟩).ts _ (hs.getD (ops.size - k) ⟨[],[]⟩).H=_
 rw[h]
theorem same_calm {P:Program}{ops:Array Oper}{hs:List St}{j k:Nat}(h:calm P ops j k=true):wK P ops hs (j,k):=fun _=>.inl h
theorem qI {P:Program}{ops:Array Oper}{hs:List St}{p:Nat×Nat}{l:List (Nat×Nat)}(h:wK P ops hs p)(k:∀ q,q∈l→wK P ops hs q):∀ q,q∈p :: l→wK P ops hs q:=fun q hq=>by
 rcases List.mem_cons.1 hq with rfl | hq
 ·exact h
 ·exact k q hq
theorem qH {P:Program}{ops:Array Oper}{hs:List St}:∀ q,q∈([]:List (Nat×Nat))→wK P ops hs q:=fun q hq=>by cases hq
inductive MV (s:Nat→Option Nat):AV→AV→Prop where
 | flat {a:AV}:Flat a→MV s a a
 | ptr {r x off:Nat}:s r=some x→MV s (.ptr r off) (.ptr x off)
 | sl {r x off len sz:Nat}:s r=some x→MV s (.sl r off len sz) (.sl x off len sz)
 | agg {cs ds:List AV}:cs.length=ds.length→(∀ (i:Nat)(a b:AV),cs[i]?=some a→ds[i]?=some b→MV s a b)→MV s (.agg cs) (.agg ds)
 | tup {cs ds:List AV}:cs.length=ds.length→(∀ (i:Nat)(a b:AV),cs[i]?=some a→ds[i]?=some b→MV s a b)→MV s (.tup cs) (.tup ds)
inductive ML (s:Nat→Option Nat):List AV→List AV→Prop where
 | nil:ML s [] []
 | cons {a b:AV} {as bs:List AV}:MV s a b→ML s as bs→ML s (a :: as) (b :: bs)
section
variable {P : Program} {ops : Array Oper} {K : St → Prop} {n : Nat} {T : Nat → AV} {H : qE} {d : Tmp} {ty : TypeId} {pos : String} {af : Array Edge}
theorem rd_arr (m:Nat)(k:IntKind)(l:List Int)(own:Bool)(off:Nat):jG true true m (some ⟨ints k l,own,true⟩) off=if off+m≤l.length then some (.agg (ints k ((l.drop off).take m))) else none:=by
 simp only[jG,if_true,kX,true_and,ints_drop,ints_take]
theorem wr_arr (k:IntKind)(l v:List Int)(m r off:Nat):uJ true m H r (some {cs:=ints k l}) off (.agg (ints k v))=if v.length=m∧off+m≤l.length then some (H.set r {cs:=ints k (l.take off++v++l.drop (off+v.length))}) else none:=by
 have h1:(AV.agg (ints k v)).cells=ints k v:=rfl
 simp only[uJ,h1,kX,vY,and_true,true_and]
 by_cases h:v.length=m∧off+m≤l.length
 ·rw[if_pos h,if_pos h]
  congr 3
  simp only[qW,kX,ints_take,ints_drop,ints_append]
 ·rw[if_neg h,if_neg h]
def qT (P:Program)(t:TypeId)(parts:List (Nat×AV)):Option AV:=
 match P.underlying t,xC P t with
 | some (.struct fs),some z=>if fs.all (fun f=>xE P f.type) then (yR (yT P fs) z parts).map .agg else none
 | some (.array _ e),some z=>if xE P e then (yR (fun i=>some (i*P.cellsOf e,P.cellsOf e)) z parts).map .agg else none
 | _,_=>none
theorem g_buildV (t:TypeId)(parts:Array (Nat×Operand)):kR P ops ⟨some d,.build t parts,ty,pos,af,none⟩ K ⟨qY n T,H⟩=vP (qT P t (parts.toList.map fun p=>(p.1,ev (qY n T) p.2))) fun v=>K ⟨qY n (jB T d v),H⟩:=uG rfl
end
def fldT (P:Program)(t:TypeId)(x:AV)(f:Nat):Option AV:=fldV P (P.underlying t) x f
def qZ (P:Program)(t:TypeId)(x:AV)(f:Nat):Option AV:=fadrV P (P.underlying t) x f
theorem of_agg (cs:Array Value):ofV (.agg cs)=.agg (cs.toList.map .sc):=rfl
theorem yF (k:IntKind)(v:Int):(AV.sc (.int k v)).cells=[.sc (.int k v)]:=rfl
theorem xJ (z:ByteArray):(AV.sc (.string z)).cells=[.sc (.string z)]:=rfl
theorem yI (b:Bool):(AV.sc (.bool b)).cells=[.sc (.bool b)]:=rfl
theorem xN (p:Option Addr)(m c:Nat):(AV.sc (.slice p m c)).cells=[.sc (.slice p m c)]:=rfl
theorem xU (r off len sz:Nat):(AV.sl r off len sz).cells=[.sl r off len sz]:=rfl
theorem cells_ptr (r off:Nat):(AV.ptr r off).cells=[.ptr r off]:=rfl
theorem yO (cs:List AV):(AV.agg cs).cells=cs:=rfl
theorem one_int (k:IntKind)(v:Int):(AV.sc (.int k v)).one=true:=rfl
theorem one_str (z:ByteArray):(AV.sc (.string z)).one=true:=rfl
theorem one_bool (b:Bool):(AV.sc (.bool b)).one=true:=rfl
theorem one_nil (p:Option Addr)(m c:Nat):(AV.sc (.slice p m c)).one=true:=rfl
theorem one_sl (r off len sz:Nat):(AV.sl r off len sz).one=true:=rfl
theorem one_ptr (r off:Nat):(AV.ptr r off).one=true:=rfl
theorem over_0 (a:AV)(cs:List AV)(y:AV):qW (a :: cs) 0 [y]=y :: cs:=rfl
theorem over_s (a:AV)(cs ys:List AV)(off:Nat):qW (a :: cs) (off+1) ys=a :: qW cs off ys:=by
 simp[qW,Nat.add_right_comm]
theorem over_all (cs ys:List AV)(h:ys.length=cs.length):qW cs 0 ys=ys:=by
 simp[qW,h]
section
variable {P : Program} {ops : Array Oper} {K : St → Prop} {n : Nat} {T : Nat → AV} {H : qE} {d : Tmp} {ty : TypeId} {pos : String} {af : Array Edge}
theorem g_fieldT (t:TypeId)(x:Operand)(f:Nat):kR P ops ⟨some d,.field t x f,ty,pos,af,none⟩ K ⟨qY n T,H⟩=vP (fldT P t (ev (qY n T) x) f) fun v=>K ⟨qY n (jB T d v),H⟩:=g_field t x f
theorem g_fieldAddrT (t:TypeId)(x:Operand)(f:Nat):kR P ops ⟨some d,.fieldAddr t x f,ty,pos,af,none⟩ K ⟨qY n T,H⟩=vP (qZ P t (ev (qY n T) x) f) fun v=>K ⟨qY n (jB T d v),H⟩:=g_fieldAddr t x f
theorem qQ {t ft o:Nat}{fs:Array Field}{f:Nat}(hu:P.underlying t=some (.struct fs))(hf:(fs[f]?).map (fun fd=>(fd.type,fd.offset))=some (ft,o))(ht:xE P ft=true)(hc:P.cellsOf ft≠0)(r off:Nat):qZ P t (.ptr r off) f=some (.ptr r (off+o)):=by
 simp only[Option.map_eq_some_iff,Prod.mk.injEq] at hf
 obtain⟨fd,hf,rfl,rfl⟩:=hf
 simp[qZ,hu,fadrV,hf,ht,hc]
theorem rd_aggc (m:Nat)(a:AV)(cs:List AV)(own:Bool)(off:Nat):jG true true m (some ⟨a :: cs,own,true⟩) off=if off+m≤(a :: cs).length then some (.agg (((a :: cs).drop off).take m)) else none:=by
 simp only[jG,if_true,true_and]
theorem rd_onec (m:Nat)(a:AV)(cs:List AV)(own:Bool)(off:Nat):jG true false m (some ⟨a :: cs,own,true⟩) off=(a :: cs)[off]?:=by
 simp only[jG,if_true,true_and,Bool.false_eq_true,if_false]
 by_cases h:off+1≤(a :: cs).length
 ·rw[if_pos h]
 ·rw[if_neg h,List.getElem?_eq_none (by omega)]
theorem wr_c (m:Nat)(a:AV)(cs:List AV)(r off:Nat)(y:AV):uJ true m H r (some {cs:=a :: cs}) off y=if y.cells.length=m∧off+m≤(a :: cs).length∧y.cells.all AV.one=true then some (H.set r {cs:=qW (a :: cs) off y.cells}) else none:=by
 simp only[uJ,true_and]
end
theorem wrA {H:qE}(k:IntKind)(l v:List Int)(m r:Nat)(hv:v.length=m)(hl:l.length=m):uJ true m H r (some {cs:=ints k l}) 0 (.agg (ints k v))=some (H.set r {cs:=ints k v}):=by
 rw[wr_arr,if_pos ⟨hv,by omega⟩,List.take_zero,List.nil_append,List.drop_of_length_le (by omega),List.append_nil]
theorem rdA (k:IntKind)(l:List Int)(m:Nat)(own:Bool)(hl:l.length=m):jG true true m (some ⟨ints k l,own,true⟩) 0=some (.agg (ints k l)):=by
 rw[rd_arr,if_pos (by omega),List.drop_zero,List.take_of_length_le (by omega)]
theorem kill_0 (cs:List AV)(o v:Bool)(H:qE):yG (⟨cs,o,v⟩ :: H) 0=⟨.ptr (H.length+1) 0 :: cs,o,false⟩ :: H:=rfl
theorem kill_s (g:Reg)(H:qE)(r:Nat):yG (g :: H) (r+1)=g :: uM (H.length+1) H r:=rfl
theorem killAt_0 (n:Nat)(cs:List AV)(o v:Bool)(H:qE):uM n (⟨cs,o,v⟩ :: H) 0=⟨.ptr n 0 :: cs,o,false⟩ :: H:=rfl
theorem killAt_s (n:Nat)(g:Reg)(H:qE)(r:Nat):uM n (g :: H) (r+1)=g :: uM n H r:=rfl
theorem ret_cell {P:Program}{n:Nat}{T:Nat→AV}{H:qE}{a:Tmp}{t:TypeId}{v:AV}(h:a<n):kD P [.cell a t] v ⟨qY n T,H⟩=vP (rdV P t (T a) H) fun u=>u=v:=by
 have e:xH P (qY n T) (.load t (.tmp a)) H=rdV P t (T a) H:=by
  rw[←ev_tab n T a h]
  rfl
 simp only[kD,uX,uK,e]
 cases rdV P t (T a) H<;>rfl
def IsL (H:qE)(x:AV)(k:IntKind)(l:List Int):Prop:=(x=.sc (.slice none 0 0)∧l=[])∨∃ r own,x=.sl r 0 l.length 1∧H[r]?=some ⟨ints k l,own,true⟩
theorem IsL.mk {H:qE}{r:Nat}{own:Bool}{k:IntKind}{l:List Int}(h:H[r]?=some ⟨ints k l,own,true⟩):IsL H (.sl r 0 l.length 1) k l:=.inr ⟨r,own,rfl,h⟩
theorem IsL.at {H:qE}{r n:Nat}{own:Bool}{k:IntKind}{l:List Int}(h:H[r]?=some ⟨ints k l,own,true⟩)(hn:l.length=n):IsL H (.sl r 0 n 1) k l:=hn▸.mk h
theorem IsL.nil (H:qE)(k:IntKind):IsL H (.sc (.slice none 0 0)) k []:=.inl ⟨rfl,rfl⟩
theorem IsL.len {H:qE}{x:AV}{k:IntKind}{l:List Int}(e:TypeId)(h:IsL H x k l):lenV (some (.slice e)) x=some (.sc (.int .i64 l.length)):=by
 rcases h with ⟨rfl,rfl⟩ | ⟨r,own,rfl,_⟩<;>rfl
theorem IsL.get {H:qE}{x:AV}{k:IntKind}{l:List Int}(h:IsL H x k l){i:Nat}(hi:i<l.length):∃ r own,x=.sl r 0 l.length 1∧H[r]?=some ⟨ints k l,own,true⟩:=by
 rcases h with ⟨rfl,rfl⟩ | h
 ·simp at hi
 ·exact h
theorem LR.scs_eq {ρ:Ren}:∀ {vs us:List Value},LR ρ (vs.map .sc) us→us=vs
 | [],us,h=>List.eq_nil_of_length_eq_zero h.1.symm
 | v :: vs,[],h=>absurd h.1 (by simp)
 | v :: vs,u :: us,h=>by
  have h0:u=v:=(h.2 0 _ _ rfl rfl).sc_inv
  have h1:LR ρ (vs.map .sc) us:=⟨by have:=h.1;simpa using this,fun i a b ha hb=>h.2 (i+1) a b (by simpa using ha) (by simpa using hb)⟩
  rw[h0,LR.scs_eq h1]
def retP (P:Program)(rs:List ResultVar)(Q:AV→qE→Prop)(s:St):Prop:=
 match uX P s rs with
 | some vs=>Q (packA vs) s.H
 | none=>False
theorem Sound.runP {P : Program}{f : FuncId}{fn : Func}{c : Code}{args : List AV}{H : qE}(n : Nat)(rs : List ResultVar)(hf : P.funcs[f]? = some fn)(hb : fn.body = some c)(hnt : fn.ntmps = n)(hrs : fn.results.toList = rs)(hn : (fn.name == "runtime.NumGoroutine") = false)(hl : args.length ≤ n)
  (Q:AV→qE→Prop) (h:kO P c (retP P rs Q) (fun _ _=>False) (retP P rs Q) ⟨qY n (par args),H⟩):∃ v H',Sound P f args H v H'∧Q v H':=by
 subst hnt
 subst hrs
 have h0:=tab_init _ _ hl
 change _=qY fn.ntmps (par args) at h0
 rw[←h0] at h
 obtain⟨e,s',h1,h2⟩:=vA _ _ _ _ _ h
 have key:(e=.normal∨e=.ret)∧retP P fn.results.toList Q s':=by
  cases e with
  | normal=>exact⟨.inl rfl,h2⟩
  | exit id=>exact h2.elim
  | ret=>exact⟨.inr rfl,h2⟩
 obtain⟨k1,k2⟩:=key
 unfold retP at k2
 split at k2
 ·rename_i vs hvs
  exact⟨_,_,Body.sound ⟨fn,c,e,s',vs,hf,hb,hn,hl,h1,k1,hvs,rfl,rfl⟩,k2⟩
 ·exact k2.elim
section
variable {P : Program} {n : Nat} {T : Nat → AV} {H : qE} {Q : AV → qE → Prop}
theorem res_tmp {t:Tmp}(h:t<n):uK P ⟨qY n T,H⟩ (.tmp t)=some (T t):=by simp[uK,qY,h]
theorem res_cell {a:Tmp}{t:TypeId}(h:a<n):uK P ⟨qY n T,H⟩ (.cell a t)=rdV P t (T a) H:=by
 have e:xH P (qY n T) (.load t (.tmp a)) H=rdV P t (T a) H:=by
  rw[←ev_tab n T a h]
  rfl
 simp only[uK,e]
theorem retP_0:retP P [] Q ⟨qY n T,H⟩=Q (.tup []) H:=rfl
theorem retP_1 {x:ResultVar}:retP P [x] Q ⟨qY n T,H⟩=vP (uK P ⟨qY n T,H⟩ x) fun u=>Q u H:=by
 simp only[retP,uX]
 cases uK P ⟨qY n T,H⟩ x<;>rfl
theorem retP_2 {x y:ResultVar}:retP P [x,y] Q ⟨qY n T,H⟩=vP (uK P ⟨qY n T,H⟩ x) fun u=>vP (uK P ⟨qY n T,H⟩ y) fun v=>Q (.tup [u,v]) H:=by
 simp only[retP,uX]
 cases uK P ⟨qY n T,H⟩ x<;>cases uK P ⟨qY n T,H⟩ y<;>rfl
theorem retP_3 {x y z:ResultVar}:retP P [x,y,z] Q ⟨qY n T,H⟩=vP (uK P ⟨qY n T,H⟩ x) fun u=>vP (uK P ⟨qY n T,H⟩ y) fun v=>vP (uK P ⟨qY n T,H⟩ z) fun w=>Q (.tup [u,v,w]) H:=by
 simp only[retP,uX]
 cases uK P ⟨qY n T,H⟩ x<;>cases uK P ⟨qY n T,H⟩ y<;>cases uK P ⟨qY n T,H⟩ z<;>rfl
theorem ret_ct {a u:Tmp}{t:TypeId}{v:AV}(h:a<n)(k:u<n):kD P [.cell a t,.tmp u] v ⟨qY n T,H⟩=vP (rdV P t (T a) H) fun x=>.tup [x,T u]=v:=by
 simp only[kD,uX,res_cell h,res_tmp k]
 cases rdV P t (T a) H<;>rfl
end
structure Lit1 {α:Type} (f:α→Value):Prop where
 one:∀ a,(AV.sc (f a)).one=true
 cells:∀ a,(AV.sc (f a)).cells=[.sc (f a)]
def kW {α:Type}(f:α→Value)(l:List α):List AV:=l.map fun a=>.sc (f a)
theorem lit_bool:Lit1 Value.bool:=⟨fun _=>rfl,fun _=>rfl⟩
theorem lit_str:Lit1 Value.string:=⟨fun _=>rfl,fun _=>rfl⟩
section
variable {α : Type} {f : α → Value} {H : qE}
theorem vW (l:List α):(kW f l).length=l.length:=by simp[kW]
theorem lits_one (h:Lit1 f)(l:List α):(kW f l).all AV.one=true:=List.all_eq_true.2 fun a ha=>by
 obtain⟨b,_,rfl⟩:=List.mem_map.1 ha
 exact h.one b
theorem lits_append (a b:List α):kW f a++kW f b=kW f (a++b):=by simp[kW]
theorem lits_take (a:List α)(n:Nat):(kW f a).take n=kW f (a.take n):=by simp[kW,List.map_take]
theorem lits_drop (a:List α)(n:Nat):(kW f a).drop n=kW f (a.drop n):=by simp[kW,List.map_drop]
theorem lits_set (l:List α)(i:Nat)(v:α):(kW f l).set i (.sc (f v))=kW f (l.set i v):=by simp[kW,List.map_set]
theorem lits_rep (n:Nat)(v:α):(List.replicate n [AV.sc (f v)]).flatten=kW f (List.replicate n v):=by
 induction n with
 | zero=>rfl
 | succ n ih=>simp only[List.replicate_succ,List.flatten_cons,ih];rfl
theorem lits_get (d:α)(l:List α)(i:Nat)(h:i<l.length):(kW f l)[i]?=some (.sc (f (l.getD i d))):=by simp[kW,h]
theorem rd_lits (d:α)(m:Nat)(l:List α)(own:Bool)(off:Nat):jG true false m (some ⟨kW f l,own,true⟩) off=if off<l.length then some (.sc (f (l.getD off d))) else none:=by
 simp only[jG,if_true,vW,true_and]
 by_cases h:off<l.length
 ·rw[if_pos h]
  simp only[Bool.false_eq_true,if_false]
  rw[if_pos (by omega),lits_get d l off h]
 ·rw[if_neg h]
  simp only[Bool.false_eq_true,if_false]
  rw[if_neg (by omega)]
theorem wr_lits (hf:Lit1 f)(l:List α)(r off:Nat)(v:α):uJ true 1 H r (some {cs:=kW f l}) off (.sc (f v))=if off<l.length then some (H.set r {cs:=kW f (l.set off v)}) else none:=by
 have h2:[AV.sc (f v)].all AV.one=true:=by simp[hf.one]
 simp only[uJ,hf.cells,List.length_singleton,vW,h2,and_true,true_and]
 by_cases h:off<l.length
 ·rw[if_pos h,if_pos (by omega)]
  congr 3
  unfold qW
  have hs:=List.set_eq_take_append_cons_drop (l:=kW f l) (i:=off) (a:=AV.sc (f v))
  rw[←lits_set,hs,if_pos (by rw[vW];exact h)]
  simp
 ·rw[if_neg h,if_neg (by omega)]
theorem at_lits (l:List α)(own:Bool)(off n:Nat):atT (some ⟨kW f l,own,true⟩) off n=if off+n≤l.length then some (kW f ((l.drop off).take n)) else none:=by
 simp only[atT,vW,true_and,lits_drop,lits_take]
theorem ap_lits (hf:Lit1 f)(B r len:Nat)(l m:List α):apT B H r len (some {cs:=kW f l}) (some (kW f m))=if len≤l.length∧(len+m.length)*B≤140737488355328∧len+m.length≤140737488355328 then some (.sl H.length 0 (len+m.length) 1,yG H r++[{cs:=kW f (l.take len++m)}]) else none:=by
 simp only[apT,vW,lits_one hf,true_and,and_true,lits_take,lits_append]
theorem ap_litsN (hf:Lit1 f)(B:Nat)(m:List α):apN B H (some (kW f m))=if m.length*B≤140737488355328∧m.length≤140737488355328 then (if m.length=0 then some (.sc (.slice none 0 0),H) else some (.sl H.length 0 m.length 1,H++[{cs:=kW f m}])) else none:=by
 simp only[apN,vW,lits_one hf,and_true]
end
def kU (l:List Bool):List AV:=kW .bool l
def strs (l:List ByteArray):List AV:=kW .string l
theorem bools_one (l:List Bool):(kU l).all AV.one=true:=lits_one lit_bool l
theorem strs_one (l:List ByteArray):(strs l).all AV.one=true:=lits_one lit_str l
section
variable {P : Program} {H : qE}
theorem rd_bools (m:Nat)(l:List Bool)(own:Bool)(off:Nat):jG true false m (some ⟨kU l,own,true⟩) off=if off<l.length then some (.sc (.bool (l.getD off false))) else none:=rd_lits false m l own off
theorem rd_strs (m:Nat)(l:List ByteArray)(own:Bool)(off:Nat):jG true false m (some ⟨strs l,own,true⟩) off=if off<l.length then some (.sc (.string (l.getD off ByteArray.empty))) else none:=rd_lits ByteArray.empty m l own off
theorem wr_bools (l:List Bool)(r off:Nat)(v:Bool):uJ true 1 H r (some {cs:=kU l}) off (.sc (.bool v))=if off<l.length then some (H.set r {cs:=kU (l.set off v)}) else none:=wr_lits lit_bool l r off v
theorem wr_strs (l:List ByteArray)(r off:Nat)(v:ByteArray):uJ true 1 H r (some {cs:=strs l}) off (.sc (.string v))=if off<l.length then some (H.set r {cs:=strs (l.set off v)}) else none:=wr_lits lit_str l r off v
theorem at_bools (l:List Bool)(own:Bool)(off n:Nat):atT (some ⟨kU l,own,true⟩) off n=if off+n≤l.length then some (kU ((l.drop off).take n)) else none:=at_lits l own off n
theorem at_strs (l:List ByteArray)(own:Bool)(off n:Nat):atT (some ⟨strs l,own,true⟩) off n=if off+n≤l.length then some (strs ((l.drop off).take n)) else none:=at_lits l own off n
theorem ap_bools (B r len:Nat)(l m:List Bool):apT B H r len (some {cs:=kU l}) (some (kU m))=if len≤l.length∧(len+m.length)*B≤140737488355328∧len+m.length≤140737488355328 then some (.sl H.length 0 (len+m.length) 1,yG H r++[{cs:=kU (l.take len++m)}]) else none:=ap_lits lit_bool B r len l m
theorem ap_boolsN (B:Nat)(m:List Bool):apN B H (some (kU m))=if m.length*B≤140737488355328∧m.length≤140737488355328 then (if m.length=0 then some (.sc (.slice none 0 0),H) else some (.sl H.length 0 m.length 1,H++[{cs:=kU m}])) else none:=ap_litsN lit_bool B m
theorem ap_strs (B r len:Nat)(l m:List ByteArray):apT B H r len (some {cs:=strs l}) (some (strs m))=if len≤l.length∧(len+m.length)*B≤140737488355328∧len+m.length≤140737488355328 then some (.sl H.length 0 (len+m.length) 1,yG H r++[{cs:=strs (l.take len++m)}]) else none:=ap_lits lit_str B r len l m
theorem ap_strsN (B:Nat)(m:List ByteArray):apN B H (some (strs m))=if m.length*B≤140737488355328∧m.length≤140737488355328 then (if m.length=0 then some (.sc (.slice none 0 0),H) else some (.sl H.length 0 m.length 1,H++[{cs:=strs m}])) else none:=ap_litsN lit_str B m
theorem mk_lits {α:Type}{f:α→Value}(d:α)(e:TypeId)(a b:IntKind)(m:Int)(B:Nat)(hz:xC P e=some [.sc (f d)])(hi:(P.info? e).map (·.bytes)=some B)(hc:P.cellsOf e=1)(h0:0≤m)(h1:m≤140737488355328)(h2:B*m≤281474976710656) :
  mkV P (some (.slice e)) (.sc (.int a m)) (.sc (.int b m))=some (kW f (List.replicate m.toNat d),fun r=>.sl r 0 m.toNat 1):=by
 simp only[Option.map_eq_some_iff] at hi
 obtain⟨i,hi,rfl⟩:=hi
 simp only[mkV,hz,hi,hc,List.length_singleton,lits_rep]
 rw[if_pos ⟨h0,trivial,h1,h2,by omega,trivial⟩]
theorem IsL.one {H:qE}{x:AV}{k:IntKind}{l:List Int}(h:IsL H x k l):x.cells=[x]∧x.one=true:=by
 rcases h with ⟨rfl,rfl⟩ | ⟨r,own,rfl,_⟩<;>exact⟨rfl,rfl⟩
end
def rows {α:Type}(f:α→List AV)(l:List α):List AV:=(l.map f).flatten
structure Enc {α:Type} (f:α→List AV) (m:Nat):Prop where
 len:∀ a,(f a).length=m
 one:∀ a,(f a).all AV.one=true
 pos:0<m
section
variable {P : Program} {H : qE} {α : Type} {f : α → List AV} {m : Nat}
theorem kC (a:α)(l:List α):rows f (a :: l)=f a++rows f l:=rfl
theorem rows_append (a b:List α):rows f a++rows f b=rows f (a++b):=by simp[rows]
theorem vT (a:α):rows f [a]=f a:=by simp[rows]
theorem jE (h:Enc f m)(l:List α):(rows f l).length=l.length*m:=by
 induction l with
 | nil=>simp[rows]
 | cons a l ih=>rw[kC,List.length_append,ih,h.len,List.length_cons,Nat.add_mul,Nat.one_mul,Nat.add_comm]
theorem rows_all (h:Enc f m)(l:List α):(rows f l).all AV.one=true:=by
 induction l with
 | nil=>rfl
 | cons a l ih=>rw[kC,List.all_append,ih,h.one];rfl
theorem wL (h:Enc f m):∀ (l:List α)(i:Nat)(a:α),l[i]?=some a→rows f l=rows f (l.take i)++(f a++rows f (l.drop (i+1)))∧(rows f (l.take i)).length=i*m
 | [],i,a,h1=>by simp at h1
 | b :: l,0,a,h1=>by
  simp at h1
  subst h1
  exact⟨rfl,by simp[rows]⟩
 | b :: l,i+1,a,h1=>by
  rw[List.getElem?_cons_succ] at h1
  obtain⟨h2,h3⟩:=wL h l i a h1
  refine⟨?_,?_⟩
  ·rw[kC,h2,List.take_succ_cons,kC,List.append_assoc,List.drop_succ_cons]
  ·rw[List.take_succ_cons,kC,List.length_append,h3,h.len,Nat.add_mul,Nat.one_mul,Nat.add_comm]
theorem rows_cut (h:Enc f m){l:List α}{i:Nat}{a:α}(ha:l[i]?=some a):((rows f l).drop (i*m)).take m=f a:=by
 obtain⟨h1,h2⟩:=wL h l i a ha
 rw[h1,←h2,List.drop_left,←h.len a,List.take_left]
theorem rows_at (h:Enc f m){l:List α}{i j:Nat}{a:α}(ha:l[i]?=some a)(hj:j<m):(rows f l)[i*m+j]?=(f a)[j]?:=by
 obtain⟨h1,h2⟩:=wL h l i a ha
 rw[h1,←h2,List.getElem?_append_right (by omega),Nat.add_sub_cancel_left,List.getElem?_append_left (by rw[h.len];exact hj)]
theorem rows_take (h:Enc f m)(l:List α)(n:Nat):(rows f l).take (n*m)=rows f (l.take n):=by
 by_cases hn:n<l.length
 ·obtain⟨h1,h2⟩:=wL h l n l[n] (List.getElem?_eq_getElem hn)
  rw[h1,←h2,List.take_left]
 ·rw[List.take_of_length_le (l:=rows f l) (by rw[jE h];exact Nat.mul_le_mul_right _ (by omega)),List.take_of_length_le (by omega)]
theorem drop_two (a b c:List AV):(a++(b++c)).drop (a.length+b.length)=c:=by
 rw[←List.drop_drop,List.drop_left,List.drop_left]
theorem rows_set (h:Enc f m){l:List α}{i:Nat}(hi:i<l.length)(b:α):rows f (l.set i b)=qW (rows f l) (i*m) (f b):=by
 obtain⟨h1,h2⟩:=wL h l i l[i] (List.getElem?_eq_getElem hi)
 have h3:l.set i b=l.take i++(b :: l.drop (i+1)):=by
  rw[List.set_eq_take_append_cons_drop,if_pos hi]
 rw[h3,←rows_append,kC,qW,h1,←h2,List.take_left,List.append_assoc]
 congr 2
 rw[h.len,←h.len l[i]]
 exact(drop_two _ _ _).symm
theorem xD (h:Enc f m){l:List α}{i:Nat}{a:α}(ha:l[i]?=some a)(own:Bool):jG true true m (some ⟨rows f l,own,true⟩) (i*m)=some (.agg (f a)):=by
 obtain⟨h1,h2⟩:=wL h l i a ha
 have hl:i*m+m≤(rows f l).length:=by rw[h1,List.length_append,List.length_append,h2,h.len];omega
 simp only[jG,if_true,true_and,hl,rows_cut h ha]
theorem qX (h:Enc f m){l:List α}{i j k:Nat}{a:α}(ha:l[i]?=some a)(hj:j<m)(own:Bool):jG true false k (some ⟨rows f l,own,true⟩) (i*m+j)=(f a)[j]?:=by
 obtain⟨h1,h2⟩:=wL h l i a ha
 have hl:i*m+j+1≤(rows f l).length:=by rw[h1,List.length_append,List.length_append,h2,h.len];omega
 simp only[jG,if_true,true_and,hl,rows_at h ha hj,Bool.false_eq_true,if_false]
theorem wr_row (h:Enc f m){l:List α}{i:Nat}(hi:i<l.length)(r:Nat)(b:α):uJ true m H r (some {cs:=rows f l}) (i*m) (.agg (f b))=some (H.set r {cs:=rows f (l.set i b)}):=by
 have h1:(AV.agg (f b)).cells=f b:=rfl
 have hl:i*m+m≤(rows f l).length:=by
  rw[jE h]
  have:(i+1)*m≤l.length*m:=Nat.mul_le_mul_right _ hi
  rw[Nat.add_mul,Nat.one_mul] at this
  exact this
 simp only[uJ,h1,h.len,h.one,hl,and_self,if_true,rows_set h hi]
theorem kH (h:Enc f m){l:List α}{i j:Nat}{a b:α}{y:AV}(ha:l[i]?=some a)(hj:j<m)(hb:f b=(f a).set j y)(hy:y.cells=[y]∧y.one=true)(r:Nat):uJ true 1 H r (some {cs:=rows f l}) (i*m+j) y=some (H.set r {cs:=rows f (l.set i b)}):=by
 have hi:i<l.length:=(List.getElem?_eq_some_iff.1 ha).1
 obtain⟨h1,h2⟩:=wL h l i a ha
 have hl:i*m+j+1≤(rows f l).length:=by rw[h1,List.length_append,List.length_append,h2,h.len];omega
 have h3:[y].all AV.one=true:=by simp[hy.2]
 simp only[uJ,hy.1,List.length_singleton,h3,hl,and_self,if_true]
 congr 3
 have h4:l.set i b=l.take i++(b :: l.drop (i+1)):=by
  rw[List.set_eq_take_append_cons_drop,if_pos hi]
 have h5:qW (rows f l) (i*m+j) [y]=(rows f l).set (i*m+j) y:=by
  rw[List.set_eq_take_append_cons_drop,if_pos (by omega),qW]
  simp
 rw[h5,h4,←rows_append,kC,h1,←h2,List.set_append_right _ _ (by omega),Nat.add_sub_cancel_left,List.set_append_left _ _ (by rw[h.len];exact hj),hb]
def apR (m B:Nat)(H:qE)(r len:Nat)(g:Option Reg)(news:Option (List AV)):Option (AV×qE):=
 match g,news with
 | some g,some ns=>if g.live=true∧g.own=true∧len*m≤g.cs.length∧(len+ns.length / m)*B≤140737488355328∧len+ns.length≤140737488355328∧ns.all AV.one=true then
   some (.sl H.length 0 (len+ns.length / m) m,yG H r++[{cs:=g.cs.take (len*m)++ns}]) else none
 | _,_=>none
def apRN (m B:Nat)(H:qE)(news:Option (List AV)):Option (AV×qE):=
 match news with
 | some ns=>if ns.length / m*B≤140737488355328∧ns.length≤140737488355328∧ns.all AV.one=true then (if ns.length=0 then some (.sc (.slice none 0 0),H) else some (.sl H.length 0 (ns.length / m) m,H++[{cs:=ns}])) else none
 | none=>none
theorem zero_sizeR {e:TypeId}{z0:List AV}(hz:xC P e=some z0):∃ z,(P.info? e).bind (·.zero)=some z∧z.cells.size=z0.length:=by
 unfold xC at hz
 simp only[Option.map_eq_some_iff] at hz
 obtain⟨z,h1,h2⟩:=hz
 refine⟨z,h1,?_⟩
 have:=(VR.ofV (ρ:=fun _=>none) z).cells.1
 rw[h2] at this
 simpa using this.symm
theorem vO {e:TypeId}{z0:List AV}{B:Nat}{u:TypeDesc}(hz:xC P e=some z0)(hl:z0.length=m)(hm:0<m)(hi:(P.info? e).map (·.bytes)=some B)(hc:P.cellsOf e=m)(hu:noInt u=true)(r len:Nat)(x:AV):vK P (some (.slice e)) (some u) (.sl r 0 len m) x H=apR m B H r len H[r]? (qU H x m):=by
 obtain⟨z,z1,z2⟩:=zero_sizeR hz
 rw[hl] at z2
 simp only[Option.map_eq_some_iff] at hi
 obtain⟨i,i1,rfl⟩:=hi
 unfold vK apR
 simp only[i1,Option.bind_some] at z1 ⊢
 rw[z1]
 simp only[hc,z2,hu]
 cases qU H x m with
 | none=>cases H[r]?<;>rfl
 | some ns =>
  cases hr:H[r]? with
  | none=>simp only;split<;>rfl
  | some g =>
   simp only
   by_cases h1:ns.all AV.one=true
   ·by_cases h2:g.live=true∧g.own=true∧len*m≤g.cs.length∧(len+ns.length / m)*i.bytes≤140737488355328∧len+ns.length≤140737488355328
    ·simp[h1,h2,z2,hm]
    ·rw[if_pos ⟨hm,z2,trivial,h1⟩,if_neg (fun h=>h2 h.2),if_neg (fun h=>h2 ⟨h.1,h.2.1,h.2.2.1,h.2.2.2.1,h.2.2.2.2.1⟩)]
   ·rw[if_neg (fun h=>h1 h.2.2.2),if_neg (fun h=>h1 h.2.2.2.2.2)]
theorem vJ {e:TypeId}{z0:List AV}{B:Nat}{u:TypeDesc}(hz:xC P e=some z0)(hl:z0.length=m)(hm:0<m)(hi:(P.info? e).map (·.bytes)=some B)(hc:P.cellsOf e=m)(hu:noInt u=true)(x:AV):vK P (some (.slice e)) (some u) (.sc (.slice none 0 0)) x H=apRN m B H (qU H x m):=by
 obtain⟨z,z1,z2⟩:=zero_sizeR hz
 rw[hl] at z2
 simp only[Option.map_eq_some_iff] at hi
 obtain⟨i,i1,rfl⟩:=hi
 unfold vK apRN
 simp only[i1,Option.bind_some] at z1 ⊢
 rw[z1]
 simp only[hc,z2,hu]
 cases qU H x m with
 | none=>rfl
 | some ns =>
  simp only
  by_cases h1:ns.all AV.one=true
  ·by_cases h2:ns.length / m*i.bytes≤140737488355328∧ns.length≤140737488355328
   ·simp[h1,h2,z2,hm]
   ·rw[if_pos ⟨hm,z2,trivial,h1⟩,if_neg h2,if_neg (fun h=>h2 ⟨h.1,h.2.1⟩)]
  ·rw[if_neg (fun h=>h1 h.2.2.2),if_neg (fun h=>h1 h.2.2)]
theorem src_slR (r q:Nat):qU H (.sl r 0 q m) m=atT H[r]? 0 (q*m):=by simp[qU,at_def]
theorem at_rows (h:Enc f m)(l:List α)(own:Bool)(n:Nat):atT (some ⟨rows f l,own,true⟩) 0 (n*m)=if n≤l.length then some (rows f (l.take n)) else none:=by
 simp only[atT,jE h,true_and,List.drop_zero,Nat.zero_add,rows_take h]
 by_cases hn:n≤l.length
 ·rw[if_pos hn,if_pos (Nat.mul_le_mul_right _ hn)]
 ·rw[if_neg hn,if_neg]
  intro hh
  exact hn (Nat.le_of_mul_le_mul_right hh h.pos)
theorem ap_rows (h:Enc f m)(B r len:Nat)(l k:List α):apR m B H r len (some {cs:=rows f l}) (some (rows f k))=if len≤l.length∧(len+k.length)*B≤140737488355328∧len+k.length*m≤140737488355328 then some (.sl H.length 0 (len+k.length) m,yG H r++[{cs:=rows f (l.take len++k)}]) else none:=by
 have h1:k.length*m / m=k.length:=Nat.mul_div_cancel _ h.pos
 have h2:len*m≤l.length*m↔len≤l.length:=⟨fun hh=>Nat.le_of_mul_le_mul_right hh h.pos,fun hh=>Nat.mul_le_mul_right _ hh⟩
 simp only[apR,jE h,rows_all h,true_and,and_true,h1,h2,rows_take h,rows_append]
theorem jK (e:TypeId)(z cs:List AV)(hz:xC P e=some z)(ht:xE P e=true)(hc:P.cellsOf e=m)(hm:0<m)(hm2:m≤16777216)(hl:z.length=m)(hcs:cs.length=m):vC P (some (.slice e)) 1 [(0,.agg cs)]=some (cs,fun r=>.sl r 0 1 m):=by
 simp[vC,hz,ht,hc,hm,hm2,hl,yR,AV.cells,hcs,qW]
theorem jN (e:TypeId)(z:List AV)(hz:xC P e=some z)(ht:xE P e=true)(hc:P.cellsOf e=m)(hm:0<m)(hl:z.length=m):vC P (some (.slice e)) 0 []=some ([],fun r=>.sl r 0 0 m):=by
 simp[vC,hz,ht,hc,hm,hl,yR]
end
end Go.Proofs.YtjdajobflgkebaaGreatDoor.Sim
