/- Texts of this proof, put together and made small by a program: part 7. -/
import Derived.Test.YtjdajobflgkebaaGreatDoorK6
set_option linter.all false
set_option maxRecDepth 100000
set_option maxHeartbeats 40000000
namespace Go.Proofs.YtjdajobflgkebaaGreatDoor.Sim
open Go
section
attribute [local irreducible] kO uW kR wQ
theorem Sound.two {P : Program}{f : FuncId}{fn : Func}{c0 rest : Code}{id : Nat}{ops : Array Oper}{args : List AV}{H H' : qE}{v : AV}{s1 : St}(n : Nat)(rs : List ResultVar)(hfn : P.funcs[f]? = some fn)(hb : fn.body = some (.seq c0 (.seq (.region id ops true) rest)))(hnt : fn.ntmps = n)(hrs : fn.results.toList = rs)(hn : (fn.name == "runtime.NumGoroutine") = false)(hl : args.length ≤ n)
  (h0:kO P c0 (fun s=>s=s1) (fun _ _=>False) (fun _=>False) ⟨qY n (par args),H⟩) (O:St→Prop) (hO:∀ s,O s→s1.H.length≤s.H.length) (hne:∃ s,O s)
  (hd:∀ (M:Nat)(ρ:Ren)(base:Nat)(A:Act)(w:World)(Q:Exit→Act→World→Prop),(∀ s,O s→s.H.length≤M)→(∀ c A A' w,Q (.panic c) A w→Q (.panic c) A' w)→Rel M ρ base (hf s1.H) w→LR ρ s1.ts A.tmps.toList →
   (∀ s A' w' ρ',O s→LR ρ' s.ts A'.tmps.toList→A'.defers=A.defers→Rel M ρ' base (hf s.H) w'→Grow M s1.H.length ρ (hf s1.H) w ρ' (hf s.H) w'→Q .normal A' w')→(Code.region id ops true).wp P Q A w)
  (hr:∀ s,O s→kO P rest (fun s=>kD P rs v s∧s.H=H') (fun _ _=>False) (fun s=>kD P rs v s∧s.H=H') s):Sound P f args H v H':=by
 subst hnt
 subst hrs
 have hi:=tab_init _ _ hl
 change _=qY fn.ntmps (par args) at hi
 rw[←hi] at h0
 obtain⟨e0,s0,x0,k0⟩:=vA _ _ _ _ _ h0
 have:e0=.normal∧s0=s1:=by
  cases e0 with
  | normal=>exact⟨rfl,k0⟩
  | exit id=>exact k0.elim
  | ret=>exact k0.elim
 obtain⟨rfl,rfl⟩:=this
 have l0:H.length≤s0.H.length:=x0.len Sound.ln
 have fin:∀ s,O s→∃ e s',Ex P (Sound P) rest s e s'∧(e=.normal∨e=.ret)∧kD P fn.results.toList v s'∧s'.H=H':=by
  intro s hs
  obtain⟨e,s',x,k⟩:=vA _ _ _ _ _ (hr s hs)
  refine⟨e,s',x,?_⟩
  cases e with
  | normal=>exact⟨.inl rfl,k⟩
  | exit id=>exact k.elim
  | ret=>exact⟨.inr rfl,k⟩
 have l1:∀ s,O s→s.H.length≤H'.length:=by
  intro s hs
  obtain⟨e,s',x,_,_,rfl⟩:=fin s hs
  exact x.len Sound.ln
 have l2:s0.H.length≤H'.length:=by
  obtain⟨s,hs⟩:=hne
  exact Nat.le_trans (hO s hs) (l1 s hs)
 refine⟨⟨fn,_,hfn,hb,hn⟩,Nat.le_trans l0 l2,?_⟩
 intro M ρ base w cargs hM hR hA
 have hsz:cargs.size=args.length:=by have:=hA.1;simpa using this.symm
 refine calls_of_wp hfn hb (wp_seq (x0.does.1 M ρ base _ w _ (by omega) hR ?_ ?_))
 ·have:LR ρ (List.replicate (fn.ntmps - args.length) und) (Array.replicate (fn.ntmps - cargs.size) undef).toList:=by
   rw[Array.toList_replicate,hsz]
   have:=LR.scs (ρ:=ρ) (List.replicate (fn.ntmps - args.length) undef)
   rw[List.map_replicate] at this
   exact this
  have:=hA.append this
  simpa using this
 ·intro A1 w1 ρ1 a1 d1 r1 g1
  refine wp_seq (hd M ρ1 base A1 w1 _ (fun s hs=>Nat.le_trans (l1 s hs) hM) ?_ r1 a1 ?_)
  ·rintro c A A' w ⟨_,_,_,h,_⟩
   cases h
  ·intro s A2 w2 ρ2 hs a2 d2 r2 g2
   obtain⟨e,s',x,he,hret,hH⟩:=fin s hs
   refine x.does.1 M ρ2 base A2 w2 _ (by rw[hH];exact hM) r2 a2 ?_
   intro A3 w3 ρ3 a3 d3 r3 g3
   unfold kD at hret
   split at hret
   ·rename_i vs hvs
    subst hret
    obtain⟨cv,hc1,hc2⟩:=results_run (P:=P) (fn:=fn) a3 w3 r3 hvs
    have gA:=Grow.trans hR r1.top r1.dom r2.top g1 (g2.less (Nat.le_refl _) l0)
    have gB:=Grow.trans hR r2.top r2.dom r3.top gA (g3.less (Nat.le_refl _) (Nat.le_trans l0 (hO s hs)))
    rw[hH] at r3 gB
    rcases he with rfl | rfl
    ·exact⟨(d3.trans d2).trans d1,cv,hc1,cv,ρ3,rfl,hc2,r3,gB⟩
    ·exact⟨(d3.trans d2).trans d1,cv,hc1,cv,ρ3,rfl,hc2,r3,gB⟩
   ·exact hret.elim
theorem Sound.twoP {P : Program}{f : FuncId}{fn : Func}{c0 rest : Code}{id : Nat}{ops : Array Oper}{args : List AV}{H : qE}{s1 : St}(n : Nat)(rs : List ResultVar)(hfn : P.funcs[f]? = some fn)(hb : fn.body = some (.seq c0 (.seq (.region id ops true) rest)))(hnt : fn.ntmps = n)(hrs : fn.results.toList = rs)(hn : (fn.name == "runtime.NumGoroutine") = false)(hl : args.length ≤ n)
  (h0:kO P c0 (fun s=>s=s1) (fun _ _=>False) (fun _=>False) ⟨qY n (par args),H⟩) (O:St→Prop) (hO:∀ s,O s→s1.H.length≤s.H.length) (hne:∃ s,O s)
  (hd:∀ (M:Nat)(ρ:Ren)(base:Nat)(A:Act)(w:World)(Q:Exit→Act→World→Prop),(∀ s,O s→s.H.length≤M)→(∀ c A A' w,Q (.panic c) A w→Q (.panic c) A' w)→Rel M ρ base (hf s1.H) w→LR ρ s1.ts A.tmps.toList →
   (∀ s A' w' ρ',O s→LR ρ' s.ts A'.tmps.toList→A'.defers=A.defers→Rel M ρ' base (hf s.H) w'→Grow M s1.H.length ρ (hf s1.H) w ρ' (hf s.H) w'→Q .normal A' w')→(Code.region id ops true).wp P Q A w)
  (Q:AV→qE→Prop) (hr:∃ v H',Q v H'∧∀ s,O s→kO P rest (fun s=>kD P rs v s∧s.H=H') (fun _ _=>False) (fun s=>kD P rs v s∧s.H=H') s):∃ v H',Sound P f args H v H'∧Q v H':=by
 obtain⟨v,H',h1,h2⟩:=hr
 exact⟨v,H',Sound.two n rs hfn hb hnt hrs hn hl h0 O hO hne hd h2,h1⟩
section
variable {P : Program} {ops : Array Oper} {Q : Exit → Act → World → Prop} {fuel n : Nat} {listed : Array Bool} {A : Act} {w : World} {ρ : Ren} {T : Nat → AV} {d i : Nat} {ty : TypeId} {pos : String} {af : Array Edge} {x : Operand}
theorem uC {v:AV}{cv:Value}(h:LR ρ (qY n T) A.tmps.toList)(k:VR ρ v cv):LR ρ (qY n (jB T d v)) (A.put (some d) cv).tmps.toList:=by
 rw[←uL]
 exact put_LR h k _
theorem vR (hA:LR ρ (qY n T) A.tmps.toList)(hi:ops[i]?=some ⟨some d,.move x,ty,pos,af,none⟩)(hs:Region.noSelect ops=true)(hf:Region.free .any ops listed i=true)(hr:(Region.ready .any ops listed).contains i=true)(hQ:∀ c A A' w,Q (.panic c) A w→Q (.panic c) A' w)
  (k:∀ A':Act,LR ρ (qY n (jB T d (ev (qY n T) x))) A'.tmps.toList→A'.defers=A.defers→wpAny P .any ops Q fuel (listed.setIfInBounds i true) A' w):wpAny P .any ops Q (fuel+1) listed A w:=
 wpAny_take hi hs hf hr (fun c a w h=>hQ c _ _ w h) (.inl ⟨rfl,fun w=>rfl⟩) (k _ (uC hA (VR.eval hA x)) (wB ..))
theorem takeA (hA:LR ρ (qY n T) A.tmps.toList)(hi:ops[i]?=some ⟨some d,.assign x,ty,pos,af,none⟩)(hs:Region.noSelect ops=true)(hf:Region.free .any ops listed i=true)(hr:(Region.ready .any ops listed).contains i=true)(hQ:∀ c A A' w,Q (.panic c) A w→Q (.panic c) A' w)
  (k:∀ A':Act,LR ρ (qY n (jB T d (ev (qY n T) x))) A'.tmps.toList→A'.defers=A.defers→wpAny P .any ops Q fuel (listed.setIfInBounds i true) A' w):wpAny P .any ops Q (fuel+1) listed A w:=
 wpAny_take hi hs hf hr (fun c a w h=>hQ c _ _ w h) (.inl ⟨rfl,fun w=>rfl⟩) (k _ (uC hA (VR.eval hA x)) (wB ..))
theorem takeN {r off:Nat}(hA:LR ρ (qY n T) A.tmps.toList)(hi:ops[i]?=some ⟨some d,.nilCheck x,ty,pos,af,none⟩)(hx:ev (qY n T) x=.ptr r off)(hs:Region.noSelect ops=true)(hf:Region.free .any ops listed i=true)(hr:(Region.ready .any ops listed).contains i=true)(hQ:∀ c A A' w,Q (.panic c) A w→Q (.panic c) A' w)
  (k:∀ A':Act,LR ρ (qY n (jB T d (.ptr r off))) A'.tmps.toList→A'.defers=A.defers→wpAny P .any ops Q fuel (listed.setIfInBounds i true) A' w):wpAny P .any ops Q (fuel+1) listed A w:=by
 obtain⟨l,hl,e⟩:=ptr_ev hA hx
 refine wpAny_take (v:=.pointer (some ⟨l.b,l.o+off,none⟩)) hi hs hf hr (fun c a w h=>hQ c _ _ w h) (.inl ⟨rfl,fun w=>?_⟩) (k _ (uC hA (.ptr hl)) (wB ..))
 unfold execOp
 simp only[e]
 rfl
theorem takeX {j:Nat}{vs:List AV}{v:AV}(hA:LR ρ (qY n T) A.tmps.toList)(hi:ops[i]?=some ⟨some d,.extract x j,ty,pos,af,none⟩)(hx:ev (qY n T) x=.tup vs)(hj:vs[j]?=some v)(hs:Region.noSelect ops=true)(hf:Region.free .any ops listed i=true)(hr:(Region.ready .any ops listed).contains i=true)(hQ:∀ c A A' w,Q (.panic c) A w→Q (.panic c) A' w)
  (k:∀ A':Act,LR ρ (qY n (jB T d v)) A'.tmps.toList→A'.defers=A.defers→wpAny P .any ops Q fuel (listed.setIfInBounds i true) A' w):wpAny P .any ops Q (fuel+1) listed A w:=by
 obtain⟨us,e,hus⟩:=tup_ev hA hx
 obtain⟨cv,h1,h2⟩:=hus.get hj
 rw[Array.getElem?_toList] at h1
 refine wpAny_take (v:=cv) hi hs hf hr (fun c a w h=>hQ c _ _ w h) (.inl ⟨rfl,fun w=>?_⟩) (k _ (uC hA h2) (wB ..))
 unfold execOp
 simp only[e]
 simp[Instr.extract,h1]
variable {K : Act → World → Prop} {M base : Nat} {H : qE}
theorem stepV {o:Oper}{cv:Value}(hi:ops[i]?=some o)(hg:o.guard=none)(hrun:(execOp A.eval o).run P w=.ok (.value cv) w)(k:K (A.put o.dst cv) w):wpOp P ops Q i K A w:=by
 unfold wpOp
 rw[hi]
 simp only[(by simp[Region.wanted,hg]:Region.wanted o (yielded ops A.tmps)=true),if_true]
 refine .inl ?_
 unfold Oper.wp
 rw[hrun,Oper.upon_value]
 exact k
theorem stepL {t:TypeId}{v:AV}(hA:LR ρ (qY n T) A.tmps.toList)(hR:Rel M ρ base (hf H) w)(hi:ops[i]?=some ⟨some d,.load t x,ty,pos,af,none⟩)(hv:xH P (qY n T) (.load t x) H=some v)
  (k:∀ A':Act,LR ρ (qY n (jB T d v)) A'.tmps.toList→A'.defers=A.defers→K A' w):wpOp P ops Q i K A w:=by
 obtain⟨cv,h1,h2⟩:=read_f (o:=⟨some d,.load t x,ty,pos,af,none⟩) hR (fun _ _ _ _ h=>h) (EV.of hA _) hv
 exact stepV hi rfl h1 (k _ (uC hA h2) (wB ..))
theorem stepE {o : Oper}{g : FuncId}{as_ : List AV}(hA : LR ρ (qY n T) A.tmps.toList)(hi : ops[i]? = some o)(hg : o.guard = none)(hc : jF (qY n T) o = some (g, as_))(hfn : ∃ fn c, P.funcs[g]? = some fn ∧ fn.body = some c ∧ (fn.name == "runtime.NumGoroutine") = false)
  (hcall:∀ cargs:Array Value,LR ρ as_ cargs.toList→Calls P g cargs w fun e w'=>∃ cv,e=.returned cv∧K (A.put o.dst cv) w'):wpOp P ops Q i K A w:=by
 obtain⟨fn,c,f1,f2,f3⟩:=hfn
 obtain⟨cargs,r1,r2⟩:=run_call (EV.of hA o) hc f1 f2 f3 w
 unfold wpOp
 rw[hi]
 simp only[(by simp[Region.wanted,hg]:Region.wanted o (yielded ops A.tmps)=true),if_true]
 refine .inl ?_
 unfold Oper.wp
 rw[r1,Oper.upon_enter]
 refine(hcall cargs r2).mono ?_
 rintro en w' ⟨cv,rfl,k⟩
 exact k
theorem ldA {H:qE}{r off:Nat}{cs:List AV}{x:AV}{l:List (Rw qK)}{T:Nat→AV}{n:Nat}{y:Operand}(p:PlN H r off cs x l)(hy:ev (qY n T) y=.ptr r off):xH Tryz.prog (qY n T) (.load 26 y) H=some (.agg [x]):=by
 have e:xH Tryz.prog (qY n T) (.load 26 y) H=rdV Tryz.prog 26 (ev (qY n T) y) H:=rfl
 rw[e,hy]
 simp only[rd_def,tyOk26,agg26,cells26,p.1,if_true]
 exact(yY (off:=off) p.2.1 true)
end
theorem lookAckG {H:qE}{r off:Nat}{cs:List AV}{x:AV}{l:List (Rw qK)}(hP:PlN H r off cs x l)(hl:l.length≤3000)(ha sa k:Int):∃ (vv:Int)(bb:Bool)(l':List (Rw qK))(x':AV)(Z:qE),Sound Tryz.prog 166 [.ptr r off,ha,sa,k] H (.tup [.sc (.int .i64 vv),.sc (.bool bb)]) Z∧PlN Z r off (cs.set off x') x' l'∧Only H Z r x x'∧Grw l l'∧W64 vv:=by
 suffices h:∃ w Z,Sound Tryz.prog 166 [.ptr r off,ha,sa,k] H w Z∧∃ (vv:Int)(bb:Bool)(l':List (Rw qK))(x':AV),w=.tup [.sc (.int .i64 vv),.sc (.bool bb)]∧PlN Z r off (cs.set off x') x' l'∧Only H Z r x x'∧Grw l l'∧W64 vv by
  obtain⟨w,Z,h1,vv,bb,l',x',rfl,h2⟩:=h
  exact⟨vv,bb,l',x',Z,h1,h2⟩
 have p0:=xB hP
 have b0:=hl
 obtain⟨vs,ls,xs,Zs,cS,pS,oS,gS,nS,tS⟩:=sideT p0 hl (ha) (40)
 rw[qM] at pS
 obtain⟨vo,bo,_,_,_,wo,io⟩:=openE (OwnN.rd p0.2.2.1) (by omega) vs (k)
 have hO1:∀ G:qE,RdN G x l→∃ Y,Sound Tryz.prog 182 [.agg [x],vs,k] G (.tup [.sc (.int .i64 vo),.sc (.bool bo)]) Y:=fun G hG=>by
  obtain⟨v2,b2,Y,c2,_,_,i2⟩:=openE hG (by omega) vs (k)
  obtain⟨rfl,rfl⟩:=io.two i2
  exact⟨Y,c2⟩
 have hO2:∀ G:qE,RdN G xs ls→∃ Y,Sound Tryz.prog 182 [.agg [xs],vs,k] G (.tup [.sc (.int .i64 vo),.sc (.bool bo)]) Y:=fun G hG=>by
  have hb:=gS.1.2.1 hl
  obtain⟨v2,b2,Y,c2,_,_,i2⟩:=openE hG (by omega) vs (k)
  obtain⟨rfl,rfl⟩:=(io.grow gS.1 nS).two i2
  exact⟨Y,c2⟩
 have fv:Flat (.tup [.sc (.int .i64 vo),.sc (.bool bo)]):=.tup (qV (.sc _) (qV (.sc _) yV))
 have fy:∀ a,a∈[AV.sc (.int .i64 vs),.sc (.int .i64 (k))]→Flat a:=qV (.sc _) (qV (.sc _) yV)
 have hne:∃ s,(fun s:St=>∃ T:Nat→AV,s=(⟨qY 63 T,Zs⟩:St)∧T 0=.ptr r off∧T 1=.sc (.int .i64 (ha))∧T 2=.sc (.int .i64 (sa))∧T 3=.sc (.int .i64 (k))∧T 8=.sc (.int .i64 (0))∧T 9=.sc (.bool false)∧T 10=.sc (.int .i64 (vo))∧T 11=.sc (.bool bo)) s:=⟨_,jB (jB (jB (jB (par [.ptr r off,.sc (.int .i64 (ha)),.sc (.int .i64 (sa)),.sc (.int .i64 (k))]) 8 (.sc (.int .i64 (0)))) 9 (.sc (.bool false))) 10 (.sc (.int .i64 (vo)))) 11 (.sc (.bool bo)),rfl,rfl,rfl,rfl,rfl,rfl,rfl,rfl,rfl⟩
 refine Sound.twoP (args:=[.ptr r off,.sc (.int .i64 (ha)),.sc (.int .i64 (sa)),.sc (.int .i64 (k))]) (s1:=⟨qY 63 (jB (jB (par [.ptr r off,.sc (.int .i64 (ha)),.sc (.int .i64 (sa)),.sc (.int .i64 (k))]) 8 (.sc (.int .i64 (0)))) 9 (.sc (.bool false))),H⟩) 63 [.tmp 8,.tmp 9] Tryz.func166 rfl rfl rfl rfl (by simp) ?_ (fun s:St=>∃ T:Nat→AV,s=(⟨qY 63 T,Zs⟩:St)∧T 0=.ptr r off∧T 1=.sc (.int .i64 (ha))∧T 2=.sc (.int .i64 (sa))∧T 3=.sc (.int .i64 (k))∧T 8=.sc (.int .i64 (0))∧T 9=.sc (.bool false)∧T 10=.sc (.int .i64 (vo))∧T 11=.sc (.bool bo)) ?_ hne ?_ (fun w Z=>∃ (vv:Int)(bb:Bool)(l':List (Rw qK))(x':AV),w=.tup [.sc (.int .i64 vv),.sc (.bool bb)]∧PlN Z r off (cs.set off x') x' l'∧Only H Z r x x'∧Grw l l'∧W64 vv) ?_
 ·simp only[↓zP,zQ]
 ·rintro s ⟨T,rfl,_⟩
  exact oS.1
 ·intro M ρ base A w Q hM hQ hR hA hQn
  have hMs:Zs.length≤M:=by
   obtain⟨s,hs⟩:=hne
   have h:=hM s hs
   obtain⟨T,rfl,_⟩:=hs
   exact h
  have hR1:Rel M ρ base (hf H) { w with drawn:=w.drawn+1 }:=hR.heap rfl
  refine wp_region_any follows ?_
  refine vR (fuel:=12) hA (i:=0) rfl (by kernel_rfl) (by kernel_rfl) (by kernel_rfl) hQ ?_
  intro A0 h0 d0
  refine takeN (r:=r) (off:=off) h0 (i:=1) rfl rfl (by kernel_rfl) (by kernel_rfl) (by kernel_rfl) hQ ?_
  intro A1 h1 d1
  refine vR h1 (i:=3) rfl (by kernel_rfl) (by kernel_rfl) (by kernel_rfl) hQ ?_
  intro A2 h2 d2
  refine vR h2 (i:=4) rfl (by kernel_rfl) (by kernel_rfl) (by kernel_rfl) hQ ?_
  intro A3 h3 d3
  refine vR h3 (i:=6) rfl (by kernel_rfl) (by kernel_rfl) (by kernel_rfl) hQ ?_
  intro A4 h4 d4
  refine wpAny_all (rs:=[2,5]) (by kernel_rfl) (by simp) ?_
  intro i hi
  rcases List.mem_cons.1 hi with rfl | hi
  ·refine stepL h4 hR1 rfl (ldA p0 rfl) ?_
   intro Aa hq0 da
   refine wpAny_all (rs:=[5]) (by kernel_rfl) (by simp) ?_
   intro i hi
   obtain rfl:=List.mem_singleton.1 hi
   have hu:∃ u,VR ρ x u:=vr_in hq0 (t:=18) rfl (by decide)
   obtain⟨u,hu⟩:=hu
   refine stepE (g:=130) (as_:=[.ptr r off,.sc (.int .i64 (ha)),.sc (.int .i64 (40))]) hq0 rfl rfl rfl cS.1 ?_
   intro cargs hc
   refine(cS.2.2 M ρ base _ cargs hMs hR1 hc).mono ?_
   rintro e w1 ⟨cv,ρ1,rfl,hv,R1,G1⟩
   refine⟨cv,rfl,?_⟩
   have hb:=uC (d:=21) (hq0.mono G1.ext) hv
   obtain⟨_,cO⟩:=hO1 H (OwnN.rd p0.2.2.1)
   refine wpAny_all (rs:=[7]) (by kernel_rfl) (by simp) ?_
   intro i hi
   obtain rfl:=List.mem_singleton.1 hi
   refine stepE (g:=182) (as_:=[.agg [x],.sc (.int .i64 vs),.sc (.int .i64 (k))]) hb rfl rfl rfl cO.1 ?_
   intro cargs hc
   refine(jS hO1 fv fy R1 (stale p0.2.2.1 hu R1 G1 tS) hc).mono ?_
   rintro e w2 ⟨cv2,rfl,hv2,q1,q2,q3,q4,q5⟩
   refine⟨cv2,rfl,?_⟩
   obtain⟨R2,G2⟩:=vU (N:=Zs.length) R1 q1 q2 q3 q4 q5
   have k0:=uC (d:=23) hb hv2
   refine vR k0 (i:=8) rfl (by kernel_rfl) (by kernel_rfl) (by kernel_rfl) hQ ?_
   intro B1 k1 f1
   refine takeX (vs:=[.sc (.int .i64 vo),.sc (.bool bo)]) k1 (i:=9) rfl rfl rfl (by kernel_rfl) (by kernel_rfl) (by kernel_rfl) hQ ?_
   intro B2 k2 f2
   refine takeX (vs:=[.sc (.int .i64 vo),.sc (.bool bo)]) k2 (i:=10) rfl rfl rfl (by kernel_rfl) (by kernel_rfl) (by kernel_rfl) hQ ?_
   intro B3 k3 f3
   refine takeA k3 (i:=11) rfl (by kernel_rfl) (by kernel_rfl) (by kernel_rfl) hQ ?_
   intro B4 k4 f4
   refine takeA k4 (i:=12) rfl (by kernel_rfl) (by kernel_rfl) (by kernel_rfl) hQ ?_
   intro B5 k5 f5
   refine wpAny_done (by kernel_rfl) ?_ _
   refine hQn _ _ _ ρ1 ⟨_,rfl,rfl,rfl,rfl,rfl,rfl,rfl,rfl,rfl⟩ k5 ?_ R2 ((Grow.trans hR1 R1.top R1.dom R2.top G1 (G2.less (Nat.le_refl _) oS.1)).from rfl rfl rfl rfl)
   simp only[f5,f4,f3,f2,f1,da,d4,d3,d2,d1,d0,wB]
  ·obtain rfl:=List.mem_singleton.1 hi
   refine stepE (g:=130) (as_:=[.ptr r off,.sc (.int .i64 (ha)),.sc (.int .i64 (40))]) h4 rfl rfl rfl cS.1 ?_
   intro cargs hc
   refine(cS.2.2 M ρ base _ cargs hMs hR1 hc).mono ?_
   rintro e w1 ⟨cv,ρ1,rfl,hv,R1,G1⟩
   refine⟨cv,rfl,?_⟩
   have hb:=uC (d:=21) (h4.mono G1.ext) hv
   refine wpAny_all (rs:=[2]) (by kernel_rfl) (by simp) ?_
   intro i hi
   obtain rfl:=List.mem_singleton.1 hi
   refine stepL hb R1 rfl (ldA pS rfl) ?_
   intro Aa hq0 da
   have hu:∃ u,VR ρ1 xs u:=vr_in hq0 (t:=18) rfl (by decide)
   obtain⟨u,hu⟩:=hu
   obtain⟨_,cO⟩:=hO2 Zs (OwnN.rd pS.2.2.1)
   refine wpAny_all (rs:=[7]) (by kernel_rfl) (by simp) ?_
   intro i hi
   obtain rfl:=List.mem_singleton.1 hi
   refine stepE (g:=182) (as_:=[.agg [xs],.sc (.int .i64 vs),.sc (.int .i64 (k))]) hq0 rfl rfl rfl cO.1 ?_
   intro cargs hc
   refine(jS hO2 fv fy R1 (OwnN.holds pS.2.2.1 R1 hu) hc).mono ?_
   rintro e w2 ⟨cv2,rfl,hv2,q1,q2,q3,q4,q5⟩
   refine⟨cv2,rfl,?_⟩
   obtain⟨R2,G2⟩:=vU (N:=Zs.length) R1 q1 q2 q3 q4 q5
   have k0:=uC (d:=23) hq0 hv2
   refine vR k0 (i:=8) rfl (by kernel_rfl) (by kernel_rfl) (by kernel_rfl) hQ ?_
   intro B1 k1 f1
   refine takeX (vs:=[.sc (.int .i64 vo),.sc (.bool bo)]) k1 (i:=9) rfl rfl rfl (by kernel_rfl) (by kernel_rfl) (by kernel_rfl) hQ ?_
   intro B2 k2 f2
   refine takeX (vs:=[.sc (.int .i64 vo),.sc (.bool bo)]) k2 (i:=10) rfl rfl rfl (by kernel_rfl) (by kernel_rfl) (by kernel_rfl) hQ ?_
   intro B3 k3 f3
   refine takeA k3 (i:=11) rfl (by kernel_rfl) (by kernel_rfl) (by kernel_rfl) hQ ?_
   intro B4 k4 f4
   refine takeA k4 (i:=12) rfl (by kernel_rfl) (by kernel_rfl) (by kernel_rfl) hQ ?_
   intro B5 k5 f5
   refine wpAny_done (by kernel_rfl) ?_ _
   refine hQn _ _ _ ρ1 ⟨_,rfl,rfl,rfl,rfl,rfl,rfl,rfl,rfl,rfl⟩ k5 ?_ R2 ((Grow.trans hR1 R1.top R1.dom R2.top G1 (G2.less (Nat.le_refl _) oS.1)).from rfl rfl rfl rfl)
   simp only[f5,f4,f3,f2,f1,da,d4,d3,d2,d1,d0,wB]
 ·have OS:=(Only.refl H r x).trans oS
  have GS:=(Grw.refl l).trans gS.1
  have bS:=GS.2.1 hl
  have r05:=pS.1
  have ra7:=PlN.ra pS
  have lx8:=fun e=>OwnF.len e pS.2.2.1
  obtain⟨t9,L10,y11,Z12,c13,e14,hy15,hn16,hp17⟩:=jI (OwnN.rd pS.2.2.1) (by omega) (vo) 2 2 rfl (by decide)
  have p18:=pS.ext e14
  have O19:=OS.trans (Only.ext e14 r xs)
  have r020:=p18.1
  have lx23:=fun e=>OwnF.len e p18.2.2.1
  cases t9 with
  | false =>
   obtain⟨v24,l25,x26,Z27,c28,p29,o30,g31⟩:=wG p18 bS (3) (sa) (0)
   rw[qM] at p29
   have O32:=O19.trans o30
   have G33:=GS.trans g31.1
   have bl34:=G33.2.1 hl
   have r035:=p29.1
   have lx38:=fun e=>OwnF.len e p29.2.2.1
   cases bo with
   | false =>
    refine⟨_,Z27,⟨(0),false,l25,x26,rfl,p29,O32,G33,⟨by decide,by decide⟩⟩,fun s hs=>?_⟩
    obtain⟨T,rfl,a0,a1,a2,a3,a4,a5,a6,a7⟩:=hs
    try simp only[↓zP,zQ,↓qC,a0,qJ,a6,r05,ra7]
    refine qF rfl c13 ?_
    try simp only[↓zP,zQ,↓qC,a0,a2]
    refine qF rfl c28 ?_
    try simp only[↓zP,zQ,↓qC,Nat.reduceLT,a7]
    try exact⟨rfl,rfl⟩
   | true =>
    refine⟨_,Z27,⟨(0),false,l25,x26,rfl,p29,O32,G33,⟨by decide,by decide⟩⟩,fun s hs=>?_⟩
    obtain⟨T,rfl,a0,a1,a2,a3,a4,a5,a6,a7⟩:=hs
    try simp only[↓zP,zQ,↓qC,a0,qJ,a6,r05,ra7]
    refine qF rfl c13 ?_
    try simp only[↓zP,zQ,↓qC,a0,a2]
    refine qF rfl c28 ?_
    try simp only[↓zP,zQ,↓qC,Nat.reduceLT,a7,qA]
    try exact⟨rfl,rfl⟩
  | true =>
   obtain⟨a40,a41,rfl⟩:=len2 hp17.len
   obtain⟨q42,o43,rfl,hq44⟩:=hy15.reg (by simp)
   have hw45:=hp17.w64
   have u46:=NotIn.ge hn16
   have b47:Lcl Z12 r xs q42 ⟨ints .i64 [a40,a41],o43,true⟩:=Lcl.mk hq44 u46 pS
   have u48:=OS.ge u46
   have c49:=b47.1
   obtain⟨v50,l51,x52,Z53,c54,p55,o56,g57⟩:=wG p18 bS (3) (sa) (0)
   rw[qM] at p55
   have b58:=b47.only o56
   have c59:=b58.1
   have O60:=O19.trans o56
   have G61:=GS.trans g57.1
   have bl62:=G61.2.1 hl
   have lx66:=fun e=>OwnF.len e p55.2.2.1
   cases bo with
   | false =>
    refine⟨_,Z53,⟨(0),false,l51,x52,rfl,p55,O60,G61,⟨by decide,by decide⟩⟩,fun s hs=>?_⟩
    obtain⟨T,rfl,a0,a1,a2,a3,a4,a5,a6,a7⟩:=hs
    try simp only[↓zP,zQ,↓qC,a0,qJ,a6,r05,ra7]
    refine qF rfl c13 ?_
    try simp -implicitDefEqProofs only[↓zP,zQ,Nat.reduceAdd,↓qC,a0,a2]
    refine qF rfl c54 ?_
    try simp only[↓zP,zQ,↓qC,Nat.reduceLT,a7]
    try exact⟨rfl,rfl⟩
   | true =>
    by_cases h68:v50<(0:Int)
    ·refine⟨_,Z53,⟨(0),false,l51,x52,rfl,p55,O60,G61,⟨by decide,by decide⟩⟩,fun s hs=>?_⟩
     obtain⟨T,rfl,a0,a1,a2,a3,a4,a5,a6,a7⟩:=hs
     try simp only[↓zP,zQ,↓qC,a0,qJ,a6,r05,ra7]
     refine qF rfl c13 ?_
     try simp -implicitDefEqProofs only[↓zP,zQ,Nat.reduceAdd,↓qC,a0,a2]
     refine qF rfl c54 ?_
     try simp only[↓zP,zQ,↓qC,Nat.reduceLT,a7,qA,h68]
     try exact⟨rfl,rfl⟩
    ·by_cases h69:a41=v50
     ·have h70:=eq_true h69
      obtain⟨v71,t72,Z73,c74,e75,hn76⟩:=numE (OwnN.rd p55.2.2.1) (by omega) (a40)
      have c78:=(b58.ext e75).1
      have p79:=p55.ext e75
      have r081:=p79.1
      have lx84:=fun e=>OwnF.len e p79.2.2.1
      refine⟨_,Z73,⟨(v71),t72,l51,x52,rfl,p79,(O60.trans (Only.ext e75 r x52)),G61,(hn76.w64)⟩,fun s hs=>?_⟩
      obtain⟨T,rfl,a0,a1,a2,a3,a4,a5,a6,a7⟩:=hs
      try simp only[↓zP,zQ,↓qC,a0,qJ,a6,r05,ra7]
      refine qF rfl c13 ?_
      try simp -implicitDefEqProofs only[↓zP,zQ,Nat.reduceAdd,↓qC,a0,a2]
      refine qF rfl c54 ?_
      try simp -implicitDefEqProofs only[↓zP,zQ,↓qC,Nat.reduceLT,a7,qA,h68,Int.reduceLE,Int.reduceLT,Int.reduceToNat,c59,Nat.reduceAdd,h70]
      refine zD [(2,0),(5,0)] ?_
      try simp -implicitDefEqProofs only[↓zP,zQ,Nat.reduceLT,a0,qJ,qD,Int.reduceLT,c59,Nat.reduceAdd,(p55.1),(PlN.ra p55)]
      refine qF rfl c74 ?_
      try simp only[↓zP,zQ,Nat.reduceLT]
      first | exact zX (zX (qH)) | refine⟨zX (zX (qH)),?_⟩
      try exact⟨rfl,rfl⟩
     ·refine⟨_,Z53,⟨(0),false,l51,x52,rfl,p55,O60,G61,⟨by decide,by decide⟩⟩,fun s hs=>?_⟩
      obtain⟨T,rfl,a0,a1,a2,a3,a4,a5,a6,a7⟩:=hs
      try simp only[↓zP,zQ,↓qC,a0,qJ,a6,r05,ra7]
      refine qF rfl c13 ?_
      try simp -implicitDefEqProofs only[↓zP,zQ,Nat.reduceAdd,↓qC,a0,a2]
      refine qF rfl c54 ?_
      try simp -implicitDefEqProofs only[↓zP,zQ,↓qC,Nat.reduceLT,a7,qA,h68,Int.reduceLE,Int.reduceLT,Int.reduceToNat,c59,Nat.reduceAdd,h69]
      try exact⟨rfl,rfl⟩
theorem lookG {H:qE}{r off:Nat}{cs:List AV}{x:AV}{l:List (Rw qK)}(hP:PlN H r off cs x l)(hl:l.length≤3000)(si ha mo na sa k:Int):∃ (bb:Bool)(l':List (Rw qK))(x':AV)(Z:qE),Sound Tryz.prog 172 [.ptr r off,si,ha,mo,na,sa,k] H (.sc (.bool bb)) Z∧PlN Z r off (cs.set off x') x' l'∧Only H Z r x x'∧Grw l l':=by
 suffices h:∃ w Z,Sound Tryz.prog 172 [.ptr r off,si,ha,mo,na,sa,k] H w Z∧∃ (bb:Bool)(l':List (Rw qK))(x':AV),w=.sc (.bool bb)∧PlN Z r off (cs.set off x') x' l'∧Only H Z r x x'∧Grw l l' by
  obtain⟨w,Z,h1,bb,l',x',rfl,h2⟩:=h
  exact⟨bb,l',x',Z,h1,h2⟩
 have p0:=xB hP
 have O0:=Only.refl H r x
 have G0:=Grw.refl l
 have b0:=hl
 obtain⟨vs,ls,xs,Zs,cS,pS,oS,gS,nS,tS⟩:=sideT p0 hl (ha) (si)
 rw[qM] at pS
 obtain⟨vo,bo,_,_,_,wo,io⟩:=openE (OwnN.rd p0.2.2.1) (by omega) vs (k)
 have hO1:∀ G:qE,RdN G x l→∃ Y,Sound Tryz.prog 182 [.agg [x],vs,k] G (.tup [.sc (.int .i64 vo),.sc (.bool bo)]) Y:=fun G hG=>by
  obtain⟨v2,b2,Y,c2,_,_,i2⟩:=openE hG (by omega) vs (k)
  obtain⟨rfl,rfl⟩:=io.two i2
  exact⟨Y,c2⟩
 have hO2:∀ G:qE,RdN G xs ls→∃ Y,Sound Tryz.prog 182 [.agg [xs],vs,k] G (.tup [.sc (.int .i64 vo),.sc (.bool bo)]) Y:=fun G hG=>by
  have hb:=gS.1.2.1 hl
  obtain⟨v2,b2,Y,c2,_,_,i2⟩:=openE hG (by omega) vs (k)
  obtain⟨rfl,rfl⟩:=(io.grow gS.1 nS).two i2
  exact⟨Y,c2⟩
 have fv:Flat (.tup [.sc (.int .i64 vo),.sc (.bool bo)]):=.tup (qV (.sc _) (qV (.sc _) yV))
 have fy:∀ a,a∈[AV.sc (.int .i64 vs),.sc (.int .i64 (k))]→Flat a:=qV (.sc _) (qV (.sc _) yV)
 have hne:∃ s,(fun s:St=>∃ T:Nat→AV,s=(⟨qY 128 T,Zs⟩:St)∧T 0=.ptr r off∧T 1=.sc (.int .i64 (si))∧T 2=.sc (.int .i64 (ha))∧T 3=.sc (.int .i64 (mo))∧T 4=.sc (.int .i64 (na))∧T 5=.sc (.int .i64 (sa))∧T 6=.sc (.int .i64 (k))∧T 14=.sc (.bool false)∧T 15=.sc (.int .i64 (vo))∧T 16=.sc (.bool bo)) s:=⟨_,jB (jB (jB (par [.ptr r off,.sc (.int .i64 (si)),.sc (.int .i64 (ha)),.sc (.int .i64 (mo)),.sc (.int .i64 (na)),.sc (.int .i64 (sa)),.sc (.int .i64 (k))]) 14 (.sc (.bool false))) 15 (.sc (.int .i64 (vo)))) 16 (.sc (.bool bo)),rfl,rfl,rfl,rfl,rfl,rfl,rfl,rfl,rfl,rfl,rfl⟩
 refine Sound.twoP (args:=[.ptr r off,.sc (.int .i64 (si)),.sc (.int .i64 (ha)),.sc (.int .i64 (mo)),.sc (.int .i64 (na)),.sc (.int .i64 (sa)),.sc (.int .i64 (k))]) (s1:=⟨qY 128 (jB (par [.ptr r off,.sc (.int .i64 (si)),.sc (.int .i64 (ha)),.sc (.int .i64 (mo)),.sc (.int .i64 (na)),.sc (.int .i64 (sa)),.sc (.int .i64 (k))]) 14 (.sc (.bool false))),H⟩) 128 [.tmp 14] Tryz.func172 rfl rfl rfl rfl (by simp) ?_ (fun s:St=>∃ T:Nat→AV,s=(⟨qY 128 T,Zs⟩:St)∧T 0=.ptr r off∧T 1=.sc (.int .i64 (si))∧T 2=.sc (.int .i64 (ha))∧T 3=.sc (.int .i64 (mo))∧T 4=.sc (.int .i64 (na))∧T 5=.sc (.int .i64 (sa))∧T 6=.sc (.int .i64 (k))∧T 14=.sc (.bool false)∧T 15=.sc (.int .i64 (vo))∧T 16=.sc (.bool bo)) ?_ hne ?_ (fun w Z=>∃ (bb:Bool)(l':List (Rw qK))(x':AV),w=.sc (.bool bb)∧PlN Z r off (cs.set off x') x' l'∧Only H Z r x x'∧Grw l l') ?_
 ·simp only[↓zP,zQ]
 ·rintro s ⟨T,rfl,_⟩
  exact oS.1
 ·intro M ρ base A w Q hM hQ hR hA hQn
  have hMs:Zs.length≤M:=by
   obtain⟨s,hs⟩:=hne
   have h:=hM s hs
   obtain⟨T,rfl,_⟩:=hs
   exact h
  have hR1:Rel M ρ base (hf H) { w with drawn:=w.drawn+1 }:=hR.heap rfl
  refine wp_region_any follows ?_
  refine vR (fuel:=13) hA (i:=0) rfl (by kernel_rfl) (by kernel_rfl) (by kernel_rfl) hQ ?_
  intro A0 h0 d0
  refine takeN (r:=r) (off:=off) h0 (i:=1) rfl rfl (by kernel_rfl) (by kernel_rfl) (by kernel_rfl) hQ ?_
  intro A1 h1 d1
  refine vR h1 (i:=3) rfl (by kernel_rfl) (by kernel_rfl) (by kernel_rfl) hQ ?_
  intro A2 h2 d2
  refine vR h2 (i:=4) rfl (by kernel_rfl) (by kernel_rfl) (by kernel_rfl) hQ ?_
  intro A3 h3 d3
  refine vR h3 (i:=5) rfl (by kernel_rfl) (by kernel_rfl) (by kernel_rfl) hQ ?_
  intro A4 h4 d4
  refine vR h4 (i:=7) rfl (by kernel_rfl) (by kernel_rfl) (by kernel_rfl) hQ ?_
  intro A5 h5 d5
  refine wpAny_all (rs:=[2,6]) (by kernel_rfl) (by simp) ?_
  intro i hi
  rcases List.mem_cons.1 hi with rfl | hi
  ·refine stepL h5 hR1 rfl (ldA p0 rfl) ?_
   intro Aa hq0 da
   refine wpAny_all (rs:=[6]) (by kernel_rfl) (by simp) ?_
   intro i hi
   obtain rfl:=List.mem_singleton.1 hi
   have hu:∃ u,VR ρ x u:=vr_in hq0 (t:=29) rfl (by decide)
   obtain⟨u,hu⟩:=hu
   refine stepE (g:=130) (as_:=[.ptr r off,.sc (.int .i64 (ha)),.sc (.int .i64 (si))]) hq0 rfl rfl rfl cS.1 ?_
   intro cargs hc
   refine(cS.2.2 M ρ base _ cargs hMs hR1 hc).mono ?_
   rintro e w1 ⟨cv,ρ1,rfl,hv,R1,G1⟩
   refine⟨cv,rfl,?_⟩
   have hb:=uC (d:=33) (hq0.mono G1.ext) hv
   obtain⟨_,cO⟩:=hO1 H (OwnN.rd p0.2.2.1)
   refine wpAny_all (rs:=[8]) (by kernel_rfl) (by simp) ?_
   intro i hi
   obtain rfl:=List.mem_singleton.1 hi
   refine stepE (g:=182) (as_:=[.agg [x],.sc (.int .i64 vs),.sc (.int .i64 (k))]) hb rfl rfl rfl cO.1 ?_
   intro cargs hc
   refine(jS hO1 fv fy R1 (stale p0.2.2.1 hu R1 G1 tS) hc).mono ?_
   rintro e w2 ⟨cv2,rfl,hv2,q1,q2,q3,q4,q5⟩
   refine⟨cv2,rfl,?_⟩
   obtain⟨R2,G2⟩:=vU (N:=Zs.length) R1 q1 q2 q3 q4 q5
   have k0:=uC (d:=35) hb hv2
   refine vR k0 (i:=9) rfl (by kernel_rfl) (by kernel_rfl) (by kernel_rfl) hQ ?_
   intro B1 k1 f1
   refine takeX (vs:=[.sc (.int .i64 vo),.sc (.bool bo)]) k1 (i:=10) rfl rfl rfl (by kernel_rfl) (by kernel_rfl) (by kernel_rfl) hQ ?_
   intro B2 k2 f2
   refine takeX (vs:=[.sc (.int .i64 vo),.sc (.bool bo)]) k2 (i:=11) rfl rfl rfl (by kernel_rfl) (by kernel_rfl) (by kernel_rfl) hQ ?_
   intro B3 k3 f3
   refine takeA k3 (i:=12) rfl (by kernel_rfl) (by kernel_rfl) (by kernel_rfl) hQ ?_
   intro B4 k4 f4
   refine takeA k4 (i:=13) rfl (by kernel_rfl) (by kernel_rfl) (by kernel_rfl) hQ ?_
   intro B5 k5 f5
   refine wpAny_done (by kernel_rfl) ?_ _
   refine hQn _ _ _ ρ1 ⟨_,rfl,rfl,rfl,rfl,rfl,rfl,rfl,rfl,rfl,rfl,rfl⟩ k5 ?_ R2 ((Grow.trans hR1 R1.top R1.dom R2.top G1 (G2.less (Nat.le_refl _) oS.1)).from rfl rfl rfl rfl)
   simp only[f5,f4,f3,f2,f1,da,d5,d4,d3,d2,d1,d0,wB]
  ·obtain rfl:=List.mem_singleton.1 hi
   refine stepE (g:=130) (as_:=[.ptr r off,.sc (.int .i64 (ha)),.sc (.int .i64 (si))]) h5 rfl rfl rfl cS.1 ?_
   intro cargs hc
   refine(cS.2.2 M ρ base _ cargs hMs hR1 hc).mono ?_
   rintro e w1 ⟨cv,ρ1,rfl,hv,R1,G1⟩
   refine⟨cv,rfl,?_⟩
   have hb:=uC (d:=33) (h5.mono G1.ext) hv
   refine wpAny_all (rs:=[2]) (by kernel_rfl) (by simp) ?_
   intro i hi
   obtain rfl:=List.mem_singleton.1 hi
   refine stepL hb R1 rfl (ldA pS rfl) ?_
   intro Aa hq0 da
   have hu:∃ u,VR ρ1 xs u:=vr_in hq0 (t:=29) rfl (by decide)
   obtain⟨u,hu⟩:=hu
   obtain⟨_,cO⟩:=hO2 Zs (OwnN.rd pS.2.2.1)
   refine wpAny_all (rs:=[8]) (by kernel_rfl) (by simp) ?_
   intro i hi
   obtain rfl:=List.mem_singleton.1 hi
   refine stepE (g:=182) (as_:=[.agg [xs],.sc (.int .i64 vs),.sc (.int .i64 (k))]) hq0 rfl rfl rfl cO.1 ?_
   intro cargs hc
   refine(jS hO2 fv fy R1 (OwnN.holds pS.2.2.1 R1 hu) hc).mono ?_
   rintro e w2 ⟨cv2,rfl,hv2,q1,q2,q3,q4,q5⟩
   refine⟨cv2,rfl,?_⟩
   obtain⟨R2,G2⟩:=vU (N:=Zs.length) R1 q1 q2 q3 q4 q5
   have k0:=uC (d:=35) hq0 hv2
   refine vR k0 (i:=9) rfl (by kernel_rfl) (by kernel_rfl) (by kernel_rfl) hQ ?_
   intro B1 k1 f1
   refine takeX (vs:=[.sc (.int .i64 vo),.sc (.bool bo)]) k1 (i:=10) rfl rfl rfl (by kernel_rfl) (by kernel_rfl) (by kernel_rfl) hQ ?_
   intro B2 k2 f2
   refine takeX (vs:=[.sc (.int .i64 vo),.sc (.bool bo)]) k2 (i:=11) rfl rfl rfl (by kernel_rfl) (by kernel_rfl) (by kernel_rfl) hQ ?_
   intro B3 k3 f3
   refine takeA k3 (i:=12) rfl (by kernel_rfl) (by kernel_rfl) (by kernel_rfl) hQ ?_
   intro B4 k4 f4
   refine takeA k4 (i:=13) rfl (by kernel_rfl) (by kernel_rfl) (by kernel_rfl) hQ ?_
   intro B5 k5 f5
   refine wpAny_done (by kernel_rfl) ?_ _
   refine hQn _ _ _ ρ1 ⟨_,rfl,rfl,rfl,rfl,rfl,rfl,rfl,rfl,rfl,rfl,rfl⟩ k5 ?_ R2 ((Grow.trans hR1 R1.top R1.dom R2.top G1 (G2.less (Nat.le_refl _) oS.1)).from rfl rfl rfl rfl)
   simp only[f5,f4,f3,f2,f1,da,d5,d4,d3,d2,d1,d0,wB]
 ·have OS:=O0.trans oS
  have GS:=G0.trans gS.1
  have bS:=GS.2.1 hl
  have r05:=pS.1
  have ra7:=PlN.ra pS
  have lx8:=fun e=>OwnF.len e pS.2.2.1
  obtain⟨t9,L10,y11,Z12,c13,e14,hy15,hn16,hp17⟩:=jI (OwnN.rd pS.2.2.1) (by omega) (vo) 3 3 rfl (by decide)
  have p18:=pS.ext e14
  have O19:=OS.trans (Only.ext e14 r xs)
  have r020:=p18.1
  have lx23:=fun e=>OwnF.len e p18.2.2.1
  cases t9 with
  | false =>
   cases bo with
   | false =>
    refine⟨_,Z12,⟨false,ls,xs,rfl,p18,O19,GS⟩,fun s hs=>?_⟩
    obtain⟨T,rfl,a0,a1,a2,a3,a4,a5,a6,a7,a8,a9⟩:=hs
    try simp only[↓zP,zQ,↓qC,a0,qJ,a8,r05,ra7]
    refine qF rfl c13 ?_
    try simp only[↓zP,zQ,↓qC,a9,a0,a2,a1,a5]
    try exact⟨rfl,rfl⟩
   | true =>
    refine⟨_,Z12,⟨false,ls,xs,rfl,p18,O19,GS⟩,fun s hs=>?_⟩
    obtain⟨T,rfl,a0,a1,a2,a3,a4,a5,a6,a7,a8,a9⟩:=hs
    try simp only[↓zP,zQ,↓qC,a0,qJ,a8,r05,ra7]
    refine qF rfl c13 ?_
    try simp only[↓zP,zQ,↓qC,a9,qA,a0,a2,a1,a5]
    try exact⟨rfl,rfl⟩
  | true =>
   obtain⟨a24,a25,a26,rfl⟩:=len3 hp17.len
   obtain⟨q27,o28,rfl,hq29⟩:=hy15.reg (by simp)
   have hw30:=hp17.w64
   have u31:=NotIn.ge hn16
   have b32:Lcl Z12 r xs q27 ⟨ints .i64 [a24,a25,a26],o28,true⟩:=Lcl.mk hq29 u31 pS
   have u33:=OS.ge u31
   have c34:=b32.1
   cases bo with
   | false =>
    refine⟨_,Z12,⟨false,ls,xs,rfl,p18,O19,GS⟩,fun s hs=>?_⟩
    obtain⟨T,rfl,a0,a1,a2,a3,a4,a5,a6,a7,a8,a9⟩:=hs
    try simp only[↓zP,zQ,↓qC,a0,qJ,a8,r05,ra7]
    refine qF rfl c13 ?_
    try simp -implicitDefEqProofs only[↓zP,zQ,Nat.reduceAdd,↓qC,a9,a0,a2,a1,a5]
    try exact⟨rfl,rfl⟩
   | true =>
    obtain⟨v35,l36,x37,Z38,c39,p40,o41,g42⟩:=doneG p18 bS (ha) (si) (sa)
    rw[qM] at p40
    have b43:=b32.only o41
    have c44:=b43.1
    have O45:=O19.trans o41
    have G46:=GS.trans g42.1
    have bl47:=G46.2.1 hl
    have r048:=p40.1
    have ra50:=PlN.ra p40
    have lx51:=fun e=>OwnF.len e p40.2.2.1
    have w52:W64 v35:=by have h:=g42.2;unfold W64;omega
    by_cases h53:v35<(0:Int)
    ·refine⟨_,Z38,⟨false,l36,x37,rfl,p40,O45,G46⟩,fun s hs=>?_⟩
     obtain⟨T,rfl,a0,a1,a2,a3,a4,a5,a6,a7,a8,a9⟩:=hs
     try simp only[↓zP,zQ,↓qC,a0,qJ,a8,r05,ra7]
     refine qF rfl c13 ?_
     try simp -implicitDefEqProofs only[↓zP,zQ,Nat.reduceAdd,↓qC,a9,qA,a0,a2,a1,a5]
     refine qF rfl c39 ?_
     try simp only[↓zP,zQ,↓qC,h53,a3]
     try exact⟨rfl,rfl⟩
    ·by_cases h54:a26=v35
     ·have h55:=eq_true h54
      by_cases h56:mo=(1:Int)
      ·subst h56
       obtain⟨r57,r58,r59,Z60,c61,e62,f63⟩:=certInE (OwnN.rd p40.2.2.1) (by omega) (a24)
       have b64:=b43.ext e62
       have c65:=b64.1
       have p66:=p40.ext e62
       have r068:=p66.1
       have ra70:=PlN.ra p66
       have lx71:=fun e=>OwnF.len e p66.2.2.1
       obtain⟨w72,w73⟩:=f63
       obtain⟨r74,r75,Z76,c77,e78,f79⟩:=signedE (OwnN.rd p66.2.2.1) (by omega) (r58) (a25)
       have b80:=b64.ext e78
       have c81:=b80.1
       have p82:=p66.ext e78
       have r084:=p82.1
       have lx87:=fun e=>OwnF.len e p82.2.2.1
       obtain⟨v88,l89,x90,Z91,c92,p93,o94,g95⟩:=wordsG p82 bl47 (si) (sa)
       rw[qM] at p93
       have c97:=(b80.only o94).1
       have O98:=((O45.trans (Only.ext e62 r x37)).trans (Only.ext e78 r x37)).trans o94
       have G99:=G46.trans g95.1
       have bl100:=G99.2.1 hl
       have r0101:=p93.1
       have lx104:=fun e=>OwnF.len e p93.2.2.1
       have w105:W64 v88:=by have h:=g95.2;unfold W64;omega
       cases r59 with
       | false =>
        refine⟨_,Z91,⟨false,l89,x90,rfl,p93,O98,G99⟩,fun s hs=>?_⟩
        obtain⟨T,rfl,a0,a1,a2,a3,a4,a5,a6,a7,a8,a9⟩:=hs
        try simp only[↓zP,zQ,↓qC,a0,qJ,a8,r05,ra7]
        refine qF rfl c13 ?_
        try simp -implicitDefEqProofs only[↓zP,zQ,Nat.reduceAdd,↓qC,a9,qA,a0,a2,a1,a5]
        refine qF rfl c39 ?_
        try simp -implicitDefEqProofs only[↓zP,zQ,↓qC,Nat.reduceLT,h53,Int.reduceLE,Int.reduceLT,Int.reduceToNat,qA,a3,c44,Nat.reduceAdd,h55]
        refine zD [(2,0),(5,0)] ?_
        try simp -implicitDefEqProofs only[↓zP,zQ,Nat.reduceLT,a0,qJ,qD,Int.reduceLT,c44,Nat.reduceAdd,r048,ra50]
        refine qF rfl c61 ?_
        try simp only[↓zP,zQ,↓qC]
        first | exact zX (zX (qH)) | refine⟨zX (zX (qH)),?_⟩
        refine zD [(2,0),(6,0)] ?_
        try simp -implicitDefEqProofs only[↓zP,zQ,Nat.reduceLT,a0,qJ,Int.reduceLE,Int.reduceLT,Int.reduceToNat,c65,Nat.reduceAdd,r068,ra70]
        refine qF rfl c77 ?_
        try simp only[↓zP,zQ,↓qC,a0,a1,a5]
        first | exact zX (zX (qH)) | refine⟨zX (zX (qH)),?_⟩
        refine qF rfl c92 ?_
        try simp only[↓zP,zQ,↓qC,qA]
        try exact⟨rfl,rfl⟩
       | true =>
        cases r75 with
        | false =>
         refine⟨_,Z91,⟨false,l89,x90,rfl,p93,O98,G99⟩,fun s hs=>?_⟩
         obtain⟨T,rfl,a0,a1,a2,a3,a4,a5,a6,a7,a8,a9⟩:=hs
         try simp only[↓zP,zQ,↓qC,a0,qJ,a8,r05,ra7]
         refine qF rfl c13 ?_
         try simp -implicitDefEqProofs only[↓zP,zQ,Nat.reduceAdd,↓qC,a9,qA,a0,a2,a1,a5]
         refine qF rfl c39 ?_
         try simp -implicitDefEqProofs only[↓zP,zQ,↓qC,Nat.reduceLT,h53,Int.reduceLE,Int.reduceLT,Int.reduceToNat,qA,a3,c44,Nat.reduceAdd,h55]
         refine zD [(2,0),(5,0)] ?_
         try simp -implicitDefEqProofs only[↓zP,zQ,Nat.reduceLT,a0,qJ,qD,Int.reduceLT,c44,Nat.reduceAdd,r048,ra50]
         refine qF rfl c61 ?_
         try simp only[↓zP,zQ,↓qC]
         first | exact zX (zX (qH)) | refine⟨zX (zX (qH)),?_⟩
         refine zD [(2,0),(6,0)] ?_
         try simp -implicitDefEqProofs only[↓zP,zQ,Nat.reduceLT,a0,qJ,Int.reduceLE,Int.reduceLT,Int.reduceToNat,c65,Nat.reduceAdd,r068,ra70]
         refine qF rfl c77 ?_
         try simp only[↓zP,zQ,↓qC,a0,a1,a5]
         first | exact zX (zX (qH)) | refine⟨zX (zX (qH)),?_⟩
         refine qF rfl c92 ?_
         try simp only[↓zP,zQ,↓qC,qA]
         try exact⟨rfl,rfl⟩
        | true =>
         by_cases h106:r57=na
         ·have h107:=eq_true h106
          by_cases h108:r74=v88
          ·have h109:=eq_true h108
           refine⟨_,Z91,⟨decide ((0:Int)≤v88),l89,x90,rfl,p93,O98,G99⟩,fun s hs=>?_⟩
           obtain⟨T,rfl,a0,a1,a2,a3,a4,a5,a6,a7,a8,a9⟩:=hs
           try simp only[↓zP,zQ,↓qC,a0,qJ,a8,r05,ra7]
           refine qF rfl c13 ?_
           try simp -implicitDefEqProofs only[↓zP,zQ,Nat.reduceAdd,↓qC,a9,qA,a0,a2,a1,a5]
           refine qF rfl c39 ?_
           try simp -implicitDefEqProofs only[↓zP,zQ,↓qC,Nat.reduceLT,h53,Int.reduceLE,Int.reduceLT,Int.reduceToNat,qA,a3,c44,Nat.reduceAdd,h55]
           refine zD [(2,0),(5,0)] ?_
           try simp -implicitDefEqProofs only[↓zP,zQ,Nat.reduceLT,a0,qJ,qD,Int.reduceLT,c44,Nat.reduceAdd,r048,ra50]
           refine qF rfl c61 ?_
           try simp only[↓zP,zQ,↓qC]
           first | exact zX (zX (qH)) | refine⟨zX (zX (qH)),?_⟩
           refine zD [(2,0),(6,0)] ?_
           try simp -implicitDefEqProofs only[↓zP,zQ,Nat.reduceLT,a0,qJ,Int.reduceLE,Int.reduceLT,Int.reduceToNat,c65,Nat.reduceAdd,r068,ra70]
           refine qF rfl c77 ?_
           try simp only[↓zP,zQ,↓qC,a0,a1,a5]
           first | exact zX (zX (qH)) | refine⟨zX (zX (qH)),?_⟩
           refine qF rfl c92 ?_
           try simp only[↓zP,zQ,↓qC,a4,h107,h109]
           try exact⟨rfl,rfl⟩
          ·refine⟨_,Z91,⟨false,l89,x90,rfl,p93,O98,G99⟩,fun s hs=>?_⟩
           obtain⟨T,rfl,a0,a1,a2,a3,a4,a5,a6,a7,a8,a9⟩:=hs
           try simp only[↓zP,zQ,↓qC,a0,qJ,a8,r05,ra7]
           refine qF rfl c13 ?_
           try simp -implicitDefEqProofs only[↓zP,zQ,Nat.reduceAdd,↓qC,a9,qA,a0,a2,a1,a5]
           refine qF rfl c39 ?_
           try simp -implicitDefEqProofs only[↓zP,zQ,↓qC,Nat.reduceLT,h53,Int.reduceLE,Int.reduceLT,Int.reduceToNat,qA,a3,c44,Nat.reduceAdd,h55]
           refine zD [(2,0),(5,0)] ?_
           try simp -implicitDefEqProofs only[↓zP,zQ,Nat.reduceLT,a0,qJ,qD,Int.reduceLT,c44,Nat.reduceAdd,r048,ra50]
           refine qF rfl c61 ?_
           try simp only[↓zP,zQ,↓qC]
           first | exact zX (zX (qH)) | refine⟨zX (zX (qH)),?_⟩
           refine zD [(2,0),(6,0)] ?_
           try simp -implicitDefEqProofs only[↓zP,zQ,Nat.reduceLT,a0,qJ,Int.reduceLE,Int.reduceLT,Int.reduceToNat,c65,Nat.reduceAdd,r068,ra70]
           refine qF rfl c77 ?_
           try simp only[↓zP,zQ,↓qC,a0,a1,a5]
           first | exact zX (zX (qH)) | refine⟨zX (zX (qH)),?_⟩
           refine qF rfl c92 ?_
           try simp only[↓zP,zQ,↓qC,a4,h107,h108,qA]
           try exact⟨rfl,rfl⟩
         ·refine⟨_,Z91,⟨false,l89,x90,rfl,p93,O98,G99⟩,fun s hs=>?_⟩
          obtain⟨T,rfl,a0,a1,a2,a3,a4,a5,a6,a7,a8,a9⟩:=hs
          try simp only[↓zP,zQ,↓qC,a0,qJ,a8,r05,ra7]
          refine qF rfl c13 ?_
          try simp -implicitDefEqProofs only[↓zP,zQ,Nat.reduceAdd,↓qC,a9,qA,a0,a2,a1,a5]
          refine qF rfl c39 ?_
          try simp -implicitDefEqProofs only[↓zP,zQ,↓qC,Nat.reduceLT,h53,Int.reduceLE,Int.reduceLT,Int.reduceToNat,qA,a3,c44,Nat.reduceAdd,h55]
          refine zD [(2,0),(5,0)] ?_
          try simp -implicitDefEqProofs only[↓zP,zQ,Nat.reduceLT,a0,qJ,qD,Int.reduceLT,c44,Nat.reduceAdd,r048,ra50]
          refine qF rfl c61 ?_
          try simp only[↓zP,zQ,↓qC]
          first | exact zX (zX (qH)) | refine⟨zX (zX (qH)),?_⟩
          refine zD [(2,0),(6,0)] ?_
          try simp -implicitDefEqProofs only[↓zP,zQ,Nat.reduceLT,a0,qJ,Int.reduceLE,Int.reduceLT,Int.reduceToNat,c65,Nat.reduceAdd,r068,ra70]
          refine qF rfl c77 ?_
          try simp only[↓zP,zQ,↓qC,a0,a1,a5]
          first | exact zX (zX (qH)) | refine⟨zX (zX (qH)),?_⟩
          refine qF rfl c92 ?_
          try simp only[↓zP,zQ,↓qC,a4,h106,qA]
          try exact⟨rfl,rfl⟩
      ·obtain⟨t110,Z111,c112,e113,ht114⟩:=num10S (OwnN.rd p40.2.2.1) (by omega) (a24) (0)
       have b115:=b43.ext e113
       have c116:=b115.1
       have p117:=p40.ext e113
       have O118:=O45.trans (Only.ext e113 r x37)
       have r0119:=p117.1
       have lx122:=fun e=>OwnF.len e p117.2.2.1
       cases t110 with
       | false =>
        refine⟨_,Z111,⟨false,l36,x37,rfl,p117,O118,G46⟩,fun s hs=>?_⟩
        obtain⟨T,rfl,a0,a1,a2,a3,a4,a5,a6,a7,a8,a9⟩:=hs
        try simp only[↓zP,zQ,↓qC,a0,qJ,a8,r05,ra7]
        refine qF rfl c13 ?_
        try simp -implicitDefEqProofs only[↓zP,zQ,Nat.reduceAdd,↓qC,a9,qA,a0,a2,a1,a5]
        refine qF rfl c39 ?_
        try simp -implicitDefEqProofs only[↓zP,zQ,↓qC,Nat.reduceLT,h53,Int.reduceLE,Int.reduceLT,Int.reduceToNat,qA,a3,h56,c44,Nat.reduceAdd,h55]
        refine zD [(2,0),(5,0),(10,7),(13,7)] ?_
        try simp -implicitDefEqProofs only[↓zP,zQ,Nat.reduceLT,a0,qJ,qD,Int.reduceLT,c44,Nat.reduceAdd,r048,ra50]
        refine qF rfl c112 ?_
        try simp only[↓zP,zQ,qA]
        first | exact zX (zX (zX (zX (qH)))) | refine⟨zX (zX (zX (zX (qH)))),?_⟩
        try exact⟨rfl,rfl⟩
       | true =>
        obtain⟨t123,Z124,c125,e126,ht127⟩:=num10S (OwnN.rd p117.2.2.1) (by omega) (a25) (0)
        have c129:=(b115.ext e126).1
        have p130:=p117.ext e126
        have r0132:=p130.1
        have lx135:=fun e=>OwnF.len e p130.2.2.1
        refine⟨_,Z124,⟨t123,l36,x37,rfl,p130,(O118.trans (Only.ext e126 r x37)),G46⟩,fun s hs=>?_⟩
        obtain⟨T,rfl,a0,a1,a2,a3,a4,a5,a6,a7,a8,a9⟩:=hs
        try simp only[↓zP,zQ,↓qC,a0,qJ,a8,r05,ra7]
        refine qF rfl c13 ?_
        try simp -implicitDefEqProofs only[↓zP,zQ,Nat.reduceAdd,↓qC,a9,qA,a0,a2,a1,a5]
        refine qF rfl c39 ?_
        try simp -implicitDefEqProofs only[↓zP,zQ,↓qC,Nat.reduceLT,h53,Int.reduceLE,Int.reduceLT,Int.reduceToNat,qA,a3,h56,c44,Nat.reduceAdd,h55]
        refine zD [(2,0),(5,0),(10,7),(13,7)] ?_
        try simp -implicitDefEqProofs only[↓zP,zQ,Nat.reduceLT,a0,qJ,qD,Int.reduceLT,c44,Nat.reduceAdd,r048,ra50]
        refine qF rfl c112 ?_
        try simp -implicitDefEqProofs only[↓zP,zQ,Nat.reduceLT,a0,qJ,Int.reduceLE,Int.reduceLT,Int.reduceToNat,c116,Nat.reduceAdd,r0119,ra50]
        refine qF rfl c125 ?_
        try simp only[↓zP,zQ]
        first | exact zX (zX (zX (zX (qH)))) | refine⟨zX (zX (zX (zX (qH)))),?_⟩
        try exact⟨rfl,rfl⟩
     ·refine⟨_,Z38,⟨false,l36,x37,rfl,p40,O45,G46⟩,fun s hs=>?_⟩
      obtain⟨T,rfl,a0,a1,a2,a3,a4,a5,a6,a7,a8,a9⟩:=hs
      try simp only[↓zP,zQ,↓qC,a0,qJ,a8,r05,ra7]
      refine qF rfl c13 ?_
      try simp -implicitDefEqProofs only[↓zP,zQ,Nat.reduceAdd,↓qC,a9,qA,a0,a2,a1,a5]
      refine qF rfl c39 ?_
      try simp -implicitDefEqProofs only[↓zP,zQ,↓qC,Nat.reduceLT,h53,Int.reduceLE,Int.reduceLT,Int.reduceToNat,qA,a3,c44,Nat.reduceAdd,h54]
      try exact⟨rfl,rfl⟩
theorem epochG {H:qE}{r off:Nat}{cs:List AV}{x:AV}{l:List (Rw qK)}(hP:PlN H r off cs x l)(hl:l.length≤3000)(a b:Int):ArC 131 [.ptr r off,.sc (.int .i64 a),.sc (.int .i64 b)] H r off cs x l (GQ l):=by
 refine ArC.of ?_
 refine zR 28 [.tmp 6] Tryz.func131 ?_
 obtain⟨t,c1,ht⟩:=zH b 0 8
 simp only[↓zP,zQ,↓qC]
 refine qN rfl c1 ?_
 cases t with
 | false =>
  simp only[↓zP,zQ,↓qC]
  exact⟨-1,l,x,rfl,xB hP,Only.refl H r x,GQ.no l⟩
 | true =>
  obtain⟨b2,Z,c2,e2,h2⟩:=nodeOkE (OwnN.rd hP.2.2.1) (by omega) a
  have hb:=ht.1 rfl
  simp only[↓zP,zQ,qJ,(hP.1),(PlN.ra hP)]
  refine qF rfl c2 ?_
  have p2:=(xB hP).ext e2
  have o2:=Only.ext e2 r x
  cases b2 with
  | false =>
   simp only[↓zP,zQ,qA,↓qC]
   exact⟨-1,l,x,rfl,p2,o2,GQ.no l⟩
  | true =>
   have ha : -1≤a∧a≤3000:=by
    obtain⟨j,p,rfl,hp,_⟩:=h2.1 rfl
    have:=(List.getElem?_eq_some_iff.1 hp).1
    omega
   simp only[↓zP,zQ,qA,↓qC]
   refine yL (ι:=Nat) (fun i s=>∃ (T:Nat→AV)(G:qE)(v:Int)(l1:List (Rw qK))(x1:AV),s=⟨qY 28 T,G⟩∧PlN G r off (cs.set off x1) x1 l1∧Only H G r x x1∧Grw l l1∧(-1≤v∧v≤3000)∧(i:Int)≤b∧T 0=.ptr r off∧T 1=.sc (.int .i64 v)∧T 2=.sc (.int .i64 b)∧T 7=.sc (.int .i64 i)) (fun i=>8 - i) ?_ (i:=0) ?_
   ·rintro i s ⟨T,G,v,l1,x1,rfl,p1,o1,g1,hv,hi,t0,t1,t2,t7⟩
    by_cases h:(i:Int)<b
    ·have e1:IntKind.i64.wrap ((i:Int)+1)=i+1:=w64 (by omega) (by omega)
     obtain⟨v3,l3,x3,Z3,c3,p3,o3,g3⟩:=sideG p1 (g1.2.1 hl) v 30
     rw[qM] at p3
     simp only[↓zP,zQ,↓qC,t7,t2,h,t0,t1]
     refine qF rfl c3 ?_
     simp only[↓zP,zQ,t7,e1]
     refine⟨i+1,by omega,_,Z3,v3,l3,x3,rfl,p3,o1.trans o3,g1.trans g3.1,g3.2,by omega,?_,?_,?_,?_⟩<;>simp only[zQ,t0,t2]<;>rfl
    ·simp only[↓zP,zQ,↓qC,t7,t2,h,t0,t1]
     exact⟨v,l1,x1,rfl,p1,o1,g1,hv⟩
   ·exact⟨_,_,a,l,x,rfl,p2,o2,Grw.refl l,ha,by omega,rfl,rfl,rfl,rfl⟩
end
def vL (l:List (Rw qK))(n:Nat):Prop:=∀ (i:Nat) p,i<n→l[i]?=some p→okR p i
def SizeIs (l:List (Rw qK))(k v:Int):Prop:=(¬ (0≤k∧k≤(l.length:Int) - 1)∧v=0)∨((0≤k∧k≤(l.length:Int) - 1)∧((vL l (k.toNat+1)∧v=(szs l).getD k.toNat 0)∨(¬ vL l (k.toNat+1)∧v=0)))
theorem szs_len (l:List (Rw qK)):(szs l).length=l.length:=fl_len xP l
theorem allTo_s {l:List (Rw qK)}{n:Nat}{p:Rw qK}(h:vL l n)(hp:l[n]?=some p)(ok:okR p n):vL l (n+1):=by
 intro i q hi hq
 rcases Nat.lt_or_ge i n with h1 | h1
 ·exact h i q h1 hq
 ·have:i=n:=by omega
  subst this
  rw[hp] at hq
  cases hq
  exact ok
theorem allTo_n {l:List (Rw qK)}{n m:Nat}{p:Rw qK}(hn:n<m)(hp:l[n]?=some p)(ok:¬ okR p n):¬ vL l m:=fun h=>ok (h n p hn hp)
theorem kV (G Y:qE)(q:Nat)(g:Reg):(yG (G++Y) q++[g])[G.length+Y.length]?=some g:=by
 have h:(yG (G++Y) q).length=G.length+Y.length:=by rw[yZ,List.length_append]
 rw[←h]
 exact yA _ _
theorem min_i (k q:IntKind)(x y:Int):minI [.sc (.int k x),.sc (.int q y)]=some (.int k (if y<x then y else x)):=rfl
theorem sizeI {H:qE}{x:AV}{l:List (Rw qK)}(hx:RdN H x l)(hl:l.length≤1048576)(k v:Int)(hv:SizeIs l k v):∃ Z,Sound Tryz.prog 25 [.agg [x],k] H (.sc (.int .i64 v)) Z∧Ext H Z:=by
 suffices h:∃ w Z,Sound Tryz.prog 25 [.agg [x],k] H w Z∧w=.sc (.int .i64 v)∧Ext H Z by
  obtain⟨w,Z,h1,rfl,h2⟩:=h
  exact⟨Z,h1,h2⟩
 refine zR 59 [.tmp 4] Tryz.func25 ?_
 obtain⟨A,hA⟩:∃ A:Reg,A=⟨[x],true,true⟩:=⟨_,rfl⟩
 have e0:=Ext.more H [A]
 have b0:(H++[A])[H.length]?=some ⟨[x],true,true⟩:=by rw[←hA];exact yD H [A]
 obtain⟨Z1,c1,x1⟩:=hasNodeI hx.one (fun e=>hx.len e) hl k
 have b1:=x1.at b0
 simp only[↓zP,zQ,↓qC,Nat.reduceLT,Nat.reduceEqDiff,(hx.one),yD]
 rw[←hA]
 refine qF (by simp only[zQ,Nat.reduceLT,Nat.reduceEqDiff]<;>rfl) c1 ?_
 rcases hv with ⟨hk,rfl⟩ | ⟨hk,hv⟩
 ·rw[decide_eq_false hk]
  simp only[↓zP,zQ,Nat.reduceLT,↓qC,Nat.reduceEqDiff]
  exact e0.trans x1
 ·rw[decide_eq_true hk]
  have E1:=e0.trans x1
  obtain⟨n,rfl⟩:∃ n:Nat,k=n:=⟨k.toNat,by omega⟩
  simp only[Int.toNat_natCast] at hv
  have hn:n<l.length:=by omega
  have e1:IntKind.i64.wrap ((n:Int)+1)=((n+1:Nat):Int):=by rw[w64 (by omega) (by omega)];omega
  obtain⟨r,rest,ow,hxe,hr⟩:=(hx.ext E1).get hn
  have b2:=fun g=>yS Z1 [g] H.length (qP b1)
  rw[b1] at b2
  have n0:(0:Int)≤((n+1:Nat):Int):=by omega
  have n2:n+1≤l.length:=by omega
  simp -implicitDefEqProofs only[↓zP,zQ,hxe,Nat.reduceLT,↓qC,Nat.reduceEqDiff,e1,b2,n0,qB,Nat.reduceLeDiff,n2,Nat.reduceMul,Nat.sub_zero]
  refine yL (ι:=Nat) (fun i s=>∃ (T:Nat→AV)(G:qE)(q:Nat),s=⟨qY 59 T,G⟩∧Ext Z1 G∧Z1.length≤q∧G[q]?=some ⟨ints .i64 (szs (l.take i)),true,true⟩∧i≤n+1∧vL l i∧T 1=.sc (.int .i64 n)∧T 5=.sl q 0 i 1∧T 18=.sl r 0 (n+1) 4∧T 19=.sc (.int .i64 ((n+1:Nat):Int))∧T 20=.sc (.int .i64 i)) (fun i=>n+1 - i) ?_ (i:=0) ?_
  ·rintro i s ⟨T,G,q,rfl,eG,hq,gq,a1,ao,a2,a3,a4,a5,a6⟩
   have ul:(szs (l.take i)).length=i:=by rw[szs_len,List.length_take];omega
   by_cases h:i<n+1
   ·have k1:(i:Int)<((n+1:Nat):Int):=by omega
    have k2:(0:Int)≤i:=by omega
    have k3:(i:Int)<l.length:=by omega
    have e2:IntKind.i64.wrap ((i:Int)+1)=((i+1:Nat):Int):=by rw[w64 (by omega) (by omega)];omega
    have hr:=eG.at hr
    have hp:l[i]?=some l[i]:=List.getElem?_eq_getElem (by omega)
    generalize l[i]=p at hp
    have hp2:(l++rest)[i]?=some p:=by rw[List.getElem?_append_left (by omega)];exact hp
    have rr:=xD yU hp2
    rw[jY p] at rr
    have cn:=nodeI (p.int 0) (p.int 1) (p.int 2) (p.int 3) i (by omega)
    have gq':=fun g=>yS G [g] q (qP gq)
    rw[gq] at gq'
    by_cases ok:okR p i
    ·rw[decide_eq_true (show kJ (p.int 0) (p.int 1) (p.int 2) (p.int 3) i from ok)] at cn
     have ao':=allTo_s ao hp ok
     have us:=fl_s xP l i p hp
     rw[←jR,←jR] at us
     have ok':=ok
     unfold okR kJ at ok'
     have pos:=fun j (hj:j<i)=>kI l i (by omega) ao j hj
     have pre:=fun j (hj:j<i)=>fl_pre xP l i j 0 hj (by omega)
     simp only[←jR] at pre
     generalize hu:szs (l.take i)=u at *
     have gq2:=fun g g'=>yS G [g,g'] q (qP gq)
     rw[gq] at gq2
     have hk1:(i+1:Nat)≤140737488355328:=by omega
     have hk2:(i+1)*8≤140737488355328:=by omega
     have ut:u.take i=u:=List.take_of_length_le (by omega)
     by_cases h1:p.int 0=1
     ·have hV:xP u p=1:=by
       have:¬ wH (p.int 0):=by unfold wH;omega
       rw[xP,if_pos h1,if_neg this]
       omega
      rw[hV] at us
      have hb:=hasBI (p.int 0)
      rw[decide_eq_false (show ¬ wH (p.int 0) by unfold wH;omega)] at hb
      simp -implicitDefEqProofs only[↓zP,zQ,↓qC,Nat.reduceLT,a6,a5,k1,Nat.reduceEqDiff,a4,k2,qB,yD,Nat.reduceAdd,kY,hr,rr,xZ,xY,a3,a2]
      refine qN (by simp only[zQ,Nat.reduceLT,Nat.reduceEqDiff]<;>rfl) cn ?_
      simp only[↓zP,zQ,h1,Nat.reduceLT,↓qC,Nat.reduceEqDiff,a3,yD]
      refine qN (by simp only[zQ,Nat.reduceLT,h1]<;>rfl) hb ?_
      simp -implicitDefEqProofs only[↓zP,zQ,Nat.reduceLT,Nat.reduceEqDiff,a3,↓g_min,a6,e2,yD,gq',ul,min_i,List.append_assoc,gq2,wO,hk2,hk1,Nat.reduceAdd,ut,(by omega:¬ ((100000:Int)<1))]
      refine⟨i+1,by omega,_,_,G.length+2,rfl,((eG.add _).kill hq).add _,?_,?_,by omega,ao',?_,?_,?_,?_,?_⟩
      ·have:=eG.1;omega
      ·rw[us]
       exact kV G _ q _
      all_goals (simp only[zQ,Nat.reduceEqDiff,a2,a4,a5]<;>rfl)
     have hA0:0≤p.int 2:=by omega
     have hA1:p.int 2<(i:Int):=by omega
     have hA2:(p.int 2).toNat<i:=by omega
     have pa:=pos (p.int 2).toNat hA2
     rw[←pre _ hA2] at pa
     have e3:IntKind.i64.wrap (1+u.getD (p.int 2).toNat 0)=1+u.getD (p.int 2).toNat 0:=w64 (by omega) (by omega)
     by_cases h2:wH (p.int 0)
     ·have hB0:0≤p.int 3:=by unfold wH at h2;omega
      have hB1:p.int 3<(i:Int):=by unfold wH at h2;omega
      have hB2:(p.int 3).toNat<i:=by omega
      have pb:=pos (p.int 3).toNat hB2
      rw[←pre _ hB2] at pb
      have e4:IntKind.i64.wrap (1+u.getD (p.int 2).toNat 0+u.getD (p.int 3).toNat 0)=1+u.getD (p.int 2).toNat 0+u.getD (p.int 3).toNat 0:=w64 (by omega) (by omega)
      have mm:(if (100000:Int)<1+u.getD (p.int 2).toNat 0+u.getD (p.int 3).toNat 0 then 100000 else 1+u.getD (p.int 2).toNat 0+u.getD (p.int 3).toNat 0)=xP u p:=by
       rw[xP,if_neg h1,if_pos h2]
       split<;>omega
      have hb:=hasBI (p.int 0)
      rw[decide_eq_true h2] at hb
      simp -implicitDefEqProofs only[↓zP,zQ,↓qC,Nat.reduceLT,a6,a5,k1,Nat.reduceEqDiff,a4,k2,qB,yD,Nat.reduceAdd,kY,hr,rr,xZ,xY,a3,a2]
      refine qN (by simp only[zQ,Nat.reduceLT,Nat.reduceEqDiff]<;>rfl) cn ?_
      simp only[↓zP,zQ,Nat.reduceLT,↓qC,Nat.reduceEqDiff,a3,yD,hA0,hA1,gq',ul,hA2,e3,h1]
      refine qN (by simp only[zQ,Nat.reduceLT]<;>rfl) hb ?_
      simp -implicitDefEqProofs only[↓zP,zQ,Nat.reduceLT,Nat.reduceEqDiff,a3,↓g_min,a6,e2,yD,hB0,hB1,gq',ul,hB2,e4,min_i,mm,List.append_assoc,gq2,wO,hk2,hk1,Nat.reduceAdd,ut]
      refine⟨i+1,by omega,_,_,G.length+2,rfl,((eG.add _).kill hq).add _,?_,?_,by omega,ao',?_,?_,?_,?_,?_⟩
      ·have:=eG.1;omega
      ·rw[us]
       exact kV G _ q _
      all_goals (simp only[zQ,Nat.reduceEqDiff,a2,a4,a5]<;>rfl)
     ·have mm:(if (100000:Int)<1+u.getD (p.int 2).toNat 0 then 100000 else 1+u.getD (p.int 2).toNat 0)=xP u p:=by
       rw[xP,if_neg h1,if_neg h2]
       split<;>omega
      have hb:=hasBI (p.int 0)
      rw[decide_eq_false h2] at hb
      simp -implicitDefEqProofs only[↓zP,zQ,↓qC,Nat.reduceLT,a6,a5,k1,Nat.reduceEqDiff,a4,k2,qB,yD,Nat.reduceAdd,kY,hr,rr,xZ,xY,a3,a2]
      refine qN (by simp only[zQ,Nat.reduceLT,Nat.reduceEqDiff]<;>rfl) cn ?_
      simp only[↓zP,zQ,Nat.reduceLT,↓qC,Nat.reduceEqDiff,a3,yD,hA0,hA1,gq',ul,hA2,e3,h1]
      refine qN (by simp only[zQ,Nat.reduceLT]<;>rfl) hb ?_
      simp -implicitDefEqProofs only[↓zP,zQ,Nat.reduceLT,Nat.reduceEqDiff,a3,↓g_min,a6,e2,yD,gq',ul,min_i,List.append_assoc,gq2,wO,hk2,hk1,Nat.reduceAdd,ut,mm]
      refine⟨i+1,by omega,_,_,G.length+2,rfl,((eG.add _).kill hq).add _,?_,?_,by omega,ao',?_,?_,?_,?_,?_⟩
      ·have:=eG.1;omega
      ·rw[us]
       exact kV G _ q _
      all_goals (simp only[zQ,Nat.reduceEqDiff,a2,a4,a5]<;>rfl)
    ·rw[decide_eq_false (show ¬ kJ (p.int 0) (p.int 1) (p.int 2) (p.int 3) i from ok)] at cn
     have no:=allTo_n h hp ok
     have hv0:v=0:=by
      rcases hv with hv | hv
      ·exact absurd hv.1 no
      ·exact hv.2
     subst hv0
     simp -implicitDefEqProofs only[↓zP,zQ,↓qC,Nat.reduceLT,a6,a5,k1,Nat.reduceEqDiff,a4,k2,qB,yD,Nat.reduceAdd,kY,hr,rr,xZ,xY,a3,a2]
     refine qN (by simp only[zQ,Nat.reduceLT,Nat.reduceEqDiff]<;>rfl) cn ?_
     simp only[↓zP,zQ,Nat.reduceLT,↓qC,Nat.reduceEqDiff]
     exact(E1.trans eG).add _
   ·have hi:i=n+1:=by omega
    subst hi
    have k1:¬ (((n+1:Nat):Int)<((n+1:Nat):Int)):=by omega
    have k2:(0:Int)≤n:=by omega
    have k3:(n:Int)<((n+1:Nat):Int):=by omega
    have k4:n<n+1:=by omega
    have pv:=fl_pre xP l (n+1) n 0 (by omega) (by omega)
    rw[←jR,←jR] at pv
    have hv0:v=(szs l).getD n 0:=by
     rcases hv with hv | hv
     ·exact hv.2
     ·exact absurd ao hv.1
    rw[hv0,←pv]
    simp -implicitDefEqProofs only[↓zP,zQ,↓qC,Nat.reduceLT,a6,a5,k1,Nat.reduceEqDiff,a4,qB,Nat.reduceAdd,a3,a2,k2,k3,gq,ul,k4]
    exact E1.trans eG
  ·refine⟨_,_,_,rfl,Ext.more _ _,Nat.le_refl _,yD _ _,by omega,fun i p h=>absurd h (by omega),?_,?_,?_,?_,?_⟩<;>simp only[zQ,Nat.reduceEqDiff]<;>rfl
def UpTo (l:List (Rw qK))(i:Nat)(u:List Int):Prop:=(vL l i∧u=szs (l.take i))∨(¬ vL l i∧0<i∧u.getD (i - 1) 0=0)
theorem getD_last (u:List Int)(i:Nat)(z:Int)(h:u.length=i):(u++[z]).getD (i+1 - 1) 0=z:=by
 rw[Nat.add_sub_cancel,List.getD_eq_getElem?_getD,List.getElem?_append_right (by omega),h,Nat.sub_self]
 rfl
theorem sizesS {H:qE}{x:AV}{l:List (Rw qK)}(hx:RdN H x l)(hl:l.length≤1048576)(n:Nat)(hn:n<l.length):∃ q Z u,Sound Tryz.prog 43 [.agg [x],n] H (.sl q 0 (n+1) 1) Z∧Ext H Z∧Z[q]?=some {cs:=ints .i64 u}∧u.length=n+1∧UpTo l (n+1) u:=by
 suffices h:∃ w Z,Sound Tryz.prog 43 [.agg [x],n] H w Z∧∃ q u,w=.sl q 0 (n+1) 1∧Ext H Z∧Z[q]?=some {cs:=ints .i64 u}∧u.length=n+1∧UpTo l (n+1) u by
  obtain⟨w,Z,h1,q,u,rfl,h2⟩:=h
  exact⟨q,Z,u,h1,h2⟩
 refine zR 74 [.tmp 4] Tryz.func43 ?_
 obtain⟨A,hA⟩:∃ A:Reg,A={cs:=[x]}:=⟨_,rfl⟩
 have e0:=Ext.more H [A]
 have b0:(H++[A])[H.length]?=some {cs:=[x]}:=by rw[←hA];exact yD H [A]
 obtain⟨r,rest,ow,hxe,hr⟩:=(hx.ext e0).get hn
 simp only[↓zP,zQ,↓qC,(hx.one),List.append_assoc]
 rw[←hA]
 have hsp:H++[A,{cs:=ints .i64 []}]=(H++[A])++[{cs:=ints .i64 []}]:=by simp
 try rw[hsp]
 refine yL (ι:=Nat) (fun i s=>∃ (T:Nat→AV)(G:qE)(q:Nat)(u:List Int),s=⟨qY 74 T,G⟩∧Ext (H++[A]) G∧(H++[A]).length≤q∧G[q]?=some {cs:=ints .i64 u}∧u.length=i∧i≤n+1∧UpTo l i u∧T 1=.sc (.int .i64 n)∧T 2=.ptr H.length 0∧T 5=.sl q 0 i 1∧T 6=.sc (.int .i64 i)) (fun i=>n+1 - i) ?_ (i:=0) ?_
 ·rintro i s ⟨T,G,q,u,rfl,eG,hq,gq,ul,a1,up,a2,a3,a4,a5⟩
  have b0:=eG.at b0
  have h9:H.length+1≤G.length:=by have:=eG.1;simpa using this
  by_cases h:i<n+1
  ·have k1:(i:Int)≤n:=by omega
   have k2:(0:Int)≤i:=by omega
   have k3:(i:Int)<l.length:=by omega
   have e2:IntKind.i64.wrap ((i:Int)+1)=((i+1:Nat):Int):=by rw[w64 (by omega) (by omega)];omega
   have hr:=eG.at hr
   have hp:l[i]?=some l[i]:=List.getElem?_eq_getElem (by omega)
   generalize l[i]=p at hp
   have hp2:(l++rest)[i]?=some p:=by rw[List.getElem?_append_left (by omega)];exact hp
   have rr:=xD yU hp2
   rw[jY p] at rr
   have cn:=nodeS (p.int 0) (p.int 1) (p.int 2) (p.int 3) i (by omega)
   have gq':=fun g=>yS G [g] q (qP gq)
   rw[gq] at gq'
   have gq2:=fun g g'=>yS G [g,g'] q (qP gq)
   rw[gq] at gq2
   have b0':=fun g=>yS G [g] H.length (qP b0)
   rw[b0] at b0'
   have b0'':=fun g g'=>yS G [g,g'] H.length (qP b0)
   rw[b0] at b0''
   have hr':=fun g=>yS G [g] r (qP hr)
   rw[hr] at hr'
   have hk1:(i+1:Nat)≤140737488355328:=by omega
   have hk2:(i+1)*8≤140737488355328:=by omega
   have ut:u.take i=u:=List.take_of_length_le (by omega)
   by_cases ok:okR p i
   ·rw[decide_eq_true (show kJ (p.int 0) (p.int 1) (p.int 2) (p.int 3) i from ok)] at cn
    rcases up with ⟨ao,hu⟩ | ⟨ao,hi0,hz⟩
    ·have ao':=allTo_s ao hp ok
     have us:=fl_s xP l i p hp
     rw[←jR,←jR,←hu] at us
     have ok':=ok
     unfold okR kJ at ok'
     have pos:=fun j (hj:j<i)=>kI l i (by omega) ao j hj
     have pre:=fun j (hj:j<i)=>fl_pre xP l i j 0 hj (by omega)
     simp only[←jR,←hu] at pre
     have hI:UpTo l (i+1) (u++[xP u p]):=.inl ⟨ao',us.symm⟩
     have co:=oneS (p.int 0)
     by_cases i0:i=0
     ·have kz:¬ ((0:Int)<i):=by omega
      have h1:p.int 0=1:=by omega
      have hV:xP u p=1:=by
       have:¬ wH (p.int 0):=by unfold wH;omega
       rw[xP,if_pos h1,if_neg this]
       omega
      rw[hV] at hI
      have m1:¬ ((100000:Int)<1):=by omega
      simp -implicitDefEqProofs only[↓zP,zQ,↓qC,a5,a2,k1,a3,yD,Nat.reduceAdd,kY,b0,hxe,k2,k3,qB,hr,rr,xZ,xY,a4]
      refine qN rfl cn ?_
      simp only[↓zP,zQ,h1,a5,kz,qA,↓qC,a4,reduceCtorEq,List.append_assoc,wO,yD,gq',ul,m1]
      try simp -implicitDefEqProofs only[zQ,gq2,ul,hk2,hk1,Nat.reduceAdd,ut,e2]
      refine⟨i+1,by omega,_,_,G.length+2,_,rfl,((eG.add _).kill hq).add _,?_,kV G _ q _,by rw[List.length_append,ul];rfl,by omega,?_,?_,?_,?_,?_⟩
      ·exact Nat.le_trans h9 (Nat.le_add_right _ _)
      ·exact hI
      all_goals (simp only[zQ,a2,a3]<;>rfl)
     ·have kz:(0:Int)<i:=by omega
      have j1:IntKind.i64.wrap ((i:Int) - 1)=((i - 1:Nat):Int):=by rw[w64 (by omega) (by omega)];omega
      have j0:(0:Int)≤((i - 1:Nat):Int):=by omega
      have j2:((i - 1:Nat):Int)<i:=by omega
      have j3:i - 1<i:=by omega
      have pz:=pos (i - 1) j3
      rw[←pre _ j3] at pz
      have jz:¬ u.getD (i - 1) 0=0:=by omega
      by_cases h1:p.int 0=1
      ·have hV:xP u p=1:=by
        have:¬ wH (p.int 0):=by unfold wH;omega
        rw[xP,if_pos h1,if_neg this]
        omega
       rw[hV] at hI
       have m1:¬ ((100000:Int)<1):=by omega
       simp -implicitDefEqProofs only[↓zP,zQ,↓qC,a5,a2,k1,a3,yD,Nat.reduceAdd,kY,b0,hxe,k2,k3,qB,hr,rr,xZ,xY,a4]
       refine qN rfl cn ?_
       simp only[↓zP,zQ,h1,a5,kz,a4,j1,qA,↓qC,reduceCtorEq,List.append_assoc,wO,yD,gq',ul,m1,j0,j2,qB,j3,jz]
       try simp -implicitDefEqProofs only[zQ,gq2,ul,hk2,hk1,Nat.reduceAdd,ut,e2]
       refine⟨i+1,by omega,_,_,G.length+2,_,rfl,((eG.add _).kill hq).add _,?_,kV G _ q _,by rw[List.length_append,ul];rfl,by omega,?_,?_,?_,?_,?_⟩
       ·exact Nat.le_trans h9 (Nat.le_add_right _ _)
       ·exact hI
       all_goals (simp only[zQ,a2,a3]<;>rfl)
      have hA0:0≤p.int 2:=by omega
      have hA1:p.int 2<(i:Int):=by omega
      have hA2:(p.int 2).toNat<i:=by omega
      have pa:=pos (p.int 2).toNat hA2
      rw[←pre _ hA2] at pa
      have e3:IntKind.i64.wrap (1+u.getD (p.int 2).toNat 0)=1+u.getD (p.int 2).toNat 0:=w64 (by omega) (by omega)
      by_cases h2:wH (p.int 0)
      ·have hB0:0≤p.int 3:=by unfold wH at h2;omega
       have hB1:p.int 3<(i:Int):=by unfold wH at h2;omega
       have hB2:(p.int 3).toNat<i:=by omega
       have pb:=pos (p.int 3).toNat hB2
       rw[←pre _ hB2] at pb
       have e4:IntKind.i64.wrap (1+u.getD (p.int 2).toNat 0+u.getD (p.int 3).toNat 0)=1+u.getD (p.int 2).toNat 0+u.getD (p.int 3).toNat 0:=w64 (by omega) (by omega)
       rw[decide_eq_false (show ¬ (p.int 0=3∨p.int 0=6) by unfold wH at h2;omega)] at co
       have hV:xP u p=min 100000 (1+u.getD (p.int 2).toNat 0+u.getD (p.int 3).toNat 0):=by rw[xP,if_neg h1,if_pos h2]
       by_cases mm:(100000:Int)<1+u.getD (p.int 2).toNat 0+u.getD (p.int 3).toNat 0
       ·rw[show xP u p=100000 by omega] at hI
        simp -implicitDefEqProofs only[↓zP,zQ,↓qC,a5,a2,k1,a3,yD,Nat.reduceAdd,kY,b0,hxe,k2,k3,qB,hr,rr,xZ,xY,a4]
        refine qN rfl cn ?_
        simp only[↓zP,zQ,a5,kz,a4,j1,qA,↓qC,reduceCtorEq,List.append_assoc,wO,yD,hA0,hA1,gq',ul,hA2,e3,Int.reduceLT,h1,j0,j2,qB,j3,jz]
        refine qN rfl co ?_
        simp -implicitDefEqProofs only[↓zP,zQ,a4,↓qC,a5,e2,List.append_assoc,gq2,wO,ul,hk2,hk1,Nat.reduceAdd,ut,yD,hB0,hB1,gq',hB2,e4,mm]
        refine⟨i+1,by omega,_,_,G.length+2,_,rfl,((eG.add _).kill hq).add _,?_,kV G _ q _,by rw[List.length_append,ul];rfl,by omega,?_,?_,?_,?_,?_⟩
        ·exact Nat.le_trans h9 (Nat.le_add_right _ _)
        ·exact hI
        all_goals (simp only[zQ,a2,a3]<;>rfl)
       ·rw[show xP u p=1+u.getD (p.int 2).toNat 0+u.getD (p.int 3).toNat 0 by omega] at hI
        simp -implicitDefEqProofs only[↓zP,zQ,↓qC,a5,a2,k1,a3,yD,Nat.reduceAdd,kY,b0,hxe,k2,k3,qB,hr,rr,xZ,xY,a4]
        refine qN rfl cn ?_
        simp only[↓zP,zQ,a5,kz,a4,j1,qA,↓qC,reduceCtorEq,List.append_assoc,wO,yD,hA0,hA1,gq',ul,hA2,e3,Int.reduceLT,h1,j0,j2,qB,j3,jz]
        refine qN rfl co ?_
        simp -implicitDefEqProofs only[↓zP,zQ,a4,↓qC,a5,e2,List.append_assoc,gq2,wO,ul,hk2,hk1,Nat.reduceAdd,ut,yD,hB0,hB1,gq',hB2,e4,mm]
        refine⟨i+1,by omega,_,_,G.length+2,_,rfl,((eG.add _).kill hq).add _,?_,kV G _ q _,by rw[List.length_append,ul];rfl,by omega,?_,?_,?_,?_,?_⟩
        ·exact Nat.le_trans h9 (Nat.le_add_right _ _)
        ·exact hI
        all_goals (simp only[zQ,a2,a3]<;>rfl)
      ·rw[decide_eq_true (show (p.int 0=3∨p.int 0=6) by unfold wH at h2;omega)] at co
       have hV:xP u p=min 100000 (1+u.getD (p.int 2).toNat 0):=by rw[xP,if_neg h1,if_neg h2,Int.add_zero]
       by_cases mm:(100000:Int)<1+u.getD (p.int 2).toNat 0
       ·rw[show xP u p=100000 by omega] at hI
        simp -implicitDefEqProofs only[↓zP,zQ,↓qC,a5,a2,k1,a3,yD,Nat.reduceAdd,kY,b0,hxe,k2,k3,qB,hr,rr,xZ,xY,a4]
        refine qN rfl cn ?_
        simp only[↓zP,zQ,a5,kz,a4,j1,qA,↓qC,reduceCtorEq,List.append_assoc,wO,yD,hA0,hA1,gq',ul,hA2,e3,Int.reduceLT,h1,j0,j2,qB,j3,jz]
        refine qN rfl co ?_
        simp -implicitDefEqProofs only[↓zP,zQ,a4,↓qC,a5,e2,List.append_assoc,gq2,wO,ul,hk2,hk1,Nat.reduceAdd,ut,yD,gq',mm]
        refine⟨i+1,by omega,_,_,G.length+2,_,rfl,((eG.add _).kill hq).add _,?_,kV G _ q _,by rw[List.length_append,ul];rfl,by omega,?_,?_,?_,?_,?_⟩
        ·exact Nat.le_trans h9 (Nat.le_add_right _ _)
        ·exact hI
        all_goals (simp only[zQ,a2,a3]<;>rfl)
       ·rw[show xP u p=1+u.getD (p.int 2).toNat 0 by omega] at hI
        simp -implicitDefEqProofs only[↓zP,zQ,↓qC,a5,a2,k1,a3,yD,Nat.reduceAdd,kY,b0,hxe,k2,k3,qB,hr,rr,xZ,xY,a4]
        refine qN rfl cn ?_
        simp only[↓zP,zQ,a5,kz,a4,j1,qA,↓qC,reduceCtorEq,List.append_assoc,wO,yD,hA0,hA1,gq',ul,hA2,e3,Int.reduceLT,h1,j0,j2,qB,j3,jz]
        refine qN rfl co ?_
        simp -implicitDefEqProofs only[↓zP,zQ,a4,↓qC,a5,e2,List.append_assoc,gq2,wO,ul,hk2,hk1,Nat.reduceAdd,ut,yD,gq',mm]
        refine⟨i+1,by omega,_,_,G.length+2,_,rfl,((eG.add _).kill hq).add _,?_,kV G _ q _,by rw[List.length_append,ul];rfl,by omega,?_,?_,?_,?_,?_⟩
        ·exact Nat.le_trans h9 (Nat.le_add_right _ _)
        ·exact hI
        all_goals (simp only[zQ,a2,a3]<;>rfl)
    ·have kz:(0:Int)<i:=by omega
     have j1:IntKind.i64.wrap ((i:Int) - 1)=((i - 1:Nat):Int):=by rw[w64 (by omega) (by omega)];omega
     have j0:(0:Int)≤((i - 1:Nat):Int):=by omega
     have j2:((i - 1:Nat):Int)<i:=by omega
     have j3:i - 1<i:=by omega
     have hI:UpTo l (i+1) (u++[0]):=.inr ⟨fun h=>ao (fun j q hj hq=>h j q (by omega) hq),by omega,getD_last u i 0 ul⟩
     simp -implicitDefEqProofs only[↓zP,zQ,↓qC,a5,a2,k1,a3,yD,Nat.reduceAdd,kY,b0,hxe,k2,k3,qB,hr,rr,xZ,xY,a4]
     refine qN rfl cn ?_
     simp only[↓zP,zQ,a5,kz,a4,j1,qA,↓qC,reduceCtorEq,List.append_assoc,wO,yD,gq',ul,Int.reduceLT,j0,j2,qB,j3,hz]
     try simp -implicitDefEqProofs only[zQ,gq2,ul,hk2,hk1,Nat.reduceAdd,ut,e2]
     refine⟨i+1,by omega,_,_,G.length+2,_,rfl,((eG.add _).kill hq).add _,?_,kV G _ q _,by rw[List.length_append,ul];rfl,by omega,?_,?_,?_,?_,?_⟩
     ·exact Nat.le_trans h9 (Nat.le_add_right _ _)
     ·exact hI
     all_goals (simp only[zQ,a2,a3]<;>rfl)
   ·rw[decide_eq_false (show ¬ kJ (p.int 0) (p.int 1) (p.int 2) (p.int 3) i from ok)] at cn
    have no:=allTo_n (m:=i+1) (by omega) hp ok
    have hI:UpTo l (i+1) (u++[0]):=.inr ⟨no,by omega,getD_last u i 0 ul⟩
    simp -implicitDefEqProofs only[↓zP,zQ,↓qC,a5,a2,k1,a3,yD,Nat.reduceAdd,kY,b0,hxe,k2,k3,qB,hr,rr,xZ,xY,a4]
    refine qN rfl cn ?_
    simp only[↓zP,zQ,bo_v,↓uE,↓qC,a4,a5,reduceCtorEq,List.append_assoc,wO,yD,gq',ul,Int.reduceLT]
    try simp -implicitDefEqProofs only[zQ,gq2,ul,hk2,hk1,Nat.reduceAdd,ut,e2]
    refine⟨i+1,by omega,_,_,G.length+2,_,rfl,((eG.add _).kill hq).add _,?_,kV G _ q _,by rw[List.length_append,ul];rfl,by omega,?_,?_,?_,?_,?_⟩
    ·exact Nat.le_trans h9 (Nat.le_add_right _ _)
    ·exact hI
    all_goals (simp only[zQ,a2,a3]<;>rfl)
  ·have hi:i=n+1:=by omega
   subst hi
   have k1:¬ (((n+1:Nat):Int)≤(n:Int)):=by omega
   simp -implicitDefEqProofs only[↓zP,zQ,↓qC,a5,a2,k1,qA,a3,Nat.reduceAdd,a4]
   exact⟨_,_,rfl,e0.trans eG,gq,ul,up⟩
 ·refine⟨_,_,_,_,rfl,Ext.more _ _,Nat.le_refl _,yD _ _,rfl,by omega,.inl ⟨fun i p h=>absurd h (by omega),rfl⟩,?_,?_,?_,?_⟩<;>simp only[zQ]<;>rfl
theorem sizeS {H:qE}{x:AV}{l:List (Rw qK)}(hx:RdN H x l)(hl:l.length≤1048576)(k v:Int)(hv:SizeIs l k v):∃ Z,Sound Tryz.prog 28 [.agg [x],k] H (.sc (.int .i64 v)) Z∧Ext H Z:=by
 suffices h:∃ w Z,Sound Tryz.prog 28 [.agg [x],k] H w Z∧w=.sc (.int .i64 v)∧Ext H Z by
  obtain⟨w,Z,h1,rfl,h2⟩:=h
  exact⟨Z,h1,h2⟩
 refine zR 18 [.tmp 4] Tryz.func28 ?_
 obtain⟨A,hA⟩:∃ A:Reg,A={cs:=[x]}:=⟨_,rfl⟩
 have e0:=Ext.more H [A]
 have b0:(H++[A])[H.length]?=some {cs:=[x]}:=by rw[←hA];exact yD H [A]
 simp only[↓zP,zQ,↓qC,(hx.one),yD,(fun e=>hx.len e),(w64 (by omega) (by omega):IntKind.i64.wrap ((l.length:Int) - 1)=l.length - 1)]
 rw[←hA]
 refine qN rfl (inS k 0 (l.length - 1)) ?_
 rcases hv with ⟨hk,rfl⟩ | ⟨hk,hv⟩
 ·rw[decide_eq_false hk]
  simp only[↓zP,zQ,↓qC]
  exact e0
 ·rw[decide_eq_true hk]
  obtain⟨n,rfl⟩:∃ n:Nat,k=n:=⟨k.toNat,by omega⟩
  simp only[Int.toNat_natCast] at hv
  have hn:n<l.length:=by omega
  obtain⟨q,Z,u,s1,s2,s3,s4,s5⟩:=sizesS (hx.ext e0) hl n hn
  have hv0:v=u.getD n 0:=by
   have pv:=fl_pre xP l (n+1) n 0 (by omega) (by omega)
   rw[←jR,←jR] at pv
   rcases s5 with ⟨p1,p2⟩ | ⟨p1,p2,p3⟩
   ·rcases hv with hv | hv
    ·rw[hv.2,p2,pv]
    ·exact absurd p1 hv.1
   ·rcases hv with hv | hv
    ·exact absurd hv.1 p1
    ·rw[hv.2]
     exact p3.symm
  rw[hv0]
  have k2:(0:Int)≤n:=by omega
  have k3:(n:Int)<((n+1:Nat):Int):=by omega
  have k4:n<n+1:=by omega
  simp only[↓zP,zQ,↓qC,b0]
  refine qF rfl s1 ?_
  simp only[↓zP,zQ,k2,k3,qB,s3,s4,k4]
  exact e0.trans s2
def varN (n:Nat):List Int:=if 127<n then ((n % 128+128:Nat):Int) :: varN (n / 128) else [(n:Int)]
termination_by n
decreasing_by omega
theorem varN_big {n:Nat}(h:127<n):varN n=((n % 128+128:Nat):Int) :: varN (n / 128):=by rw[varN,if_pos h]
theorem jP {n:Nat}(h:¬ 127<n):varN n=[(n:Int)]:=by rw[varN,if_neg h]
theorem varN_len (k:Nat):∀ n,n<128 ^ (k+1)→(varN n).length≤k+1:=by
 induction k with
 | zero =>
  intro n h
  rw[jP (by omega)]
  simp
 | succ k ih =>
  intro n h
  by_cases hb:127<n
  ·rw[varN_big hb]
   have:n / 128<128 ^ (k+1):=by
    rw[Nat.div_lt_iff_lt_mul (by decide)]
    rw[Nat.pow_succ] at h
    exact h
   have:=ih _ this
   simp only[List.length_cons]
   omega
  ·rw[jP hb]
   simp
theorem varN_5 (n:Nat)(h:n≤1000000000):(varN n).length≤5:=varN_len 4 n (by omega)
def varT (n:Nat):ByteArray:=strOfNums (varN n)
theorem at_kill2 (G:qE)(X Y g:Reg):(yG ((G++[X])++[Y]) G.length++[g])[G.length+1+1]?=some g:=by
 have:=yA (yG ((G++[X])++[Y]) G.length) g
 rwa [yZ,List.length_append,List.length_append] at this
theorem varS (n:Nat)(hn:n≤1000000000):Fn Tryz.prog 137 [.sc (.int .i64 n)] (.sc (.string (varT n))):=by
 refine Fn.run 22 [.tmp 2] Tryz.func137 rfl rfl rfl rfl (by simp) (qV (.sc _) yV) (.sc _) ?_
 simp only[↓zP,zQ,↓qC]
 refine yL (ι:=Nat) (fun c s=>∃ (T:Nat→AV)(G:qE)(A:List Int),s=⟨qY 22 T,G++[{cs:=ints .u8 A}]⟩∧c≤1000000000∧A.length≤1000000000 - c∧A++varN c=varN n∧T 0=.sc (.int .i64 c)∧T 3=.sl G.length 0 A.length 1) (fun c=>c) ?_ (i:=n) ?_
 ·rintro c s ⟨T,G,A,rfl,a0,a1,a2,a3,a4⟩
  by_cases h:127<c
  ·have k1:(127:Int)<c:=by omega
   have e1:((c:Int)).tmod 128=((c % 128:Nat):Int):=by rw[Int.tmod_eq_emod_of_nonneg (by omega)];omega
   have e2:IntKind.i64.wrap (((c % 128:Nat):Int)+128)=((c % 128+128:Nat):Int):=by rw[w64 (by omega) (by omega)];omega
   have e3:IntKind.u8.wrap ((c % 128+128:Nat):Int)=((c % 128+128:Nat):Int):=u8_id (by omega) (by omega)
   have e4:IntKind.i64.wrap (((c:Int)).tdiv 128)=((c / 128:Nat):Int):=by rw[Int.tdiv_eq_ediv_of_nonneg (by omega),w64 (by omega) (by omega)];omega
   rw[varN_big h] at a2
   simp only[↓zP,zQ,↓qC,a3,k1,a4,Int.reduceEq,e1,e4,e2,e3,Nat.reduceLeDiff]
   refine⟨by omega,c / 128,by omega,_,_,A++[((c % 128+128:Nat):Int)],rfl,by omega,by simp;omega,by rw[List.append_assoc];exact a2,?_,?_⟩
   ·simp only[zQ]
   ·simp only[zQ]
    try simp only[yZ,List.length_append,List.length_cons,List.length_nil]
    try rfl
  ·have k1:¬ (127:Int)<c:=by omega
   have e3:IntKind.u8.wrap (c:Int)=c:=u8_id (by omega) (by omega)
   rw[jP h] at a2
   have htk2:(A++[(c:Int)]).take (A.length+1)=A++[(c:Int)]:=List.take_of_length_le (by simp)
   simp only[↓zP,zQ,↓qC,a3,k1,a4,Int.reduceEq,Nat.reduceLeDiff,e3,at_kill2,htk2]
   refine⟨by omega,?_⟩
   rw[a2]
   rfl
 ·refine⟨_,[],[],rfl,hn,by simp,rfl,?_,?_⟩<;>simp only[zQ]<;>rfl
section
attribute [local irreducible] kO uW kR wQ
theorem varT_size (n:Nat)(h:n≤1000000000):(varT n).size≤5:=by
 rw[varT,son_size]
 exact varN_5 n h
theorem textS {x:AV}{l:List (Rw qK)}(hl:l.length≤1048576)(m:Nat)(hm:m≤l.length)(al:vL l m):∀ n,n<m→(szs l).getD n 0≤2000→∀ {H:qE},RdN H x l →
  ∃ (tx:ByteArray)(Z:qE),Sound Tryz.prog 118 [.agg [x],n] H (.sc (.string tx)) Z∧Ext H Z∧(tx.size:Int)≤10*(szs l).getD n 0:=by
 intro n
 induction n using Nat.strongRecOn with
 | _ n ih =>
 intro hn hs H hx
 suffices h:∃ w Z,Sound Tryz.prog 118 [.agg [x],n] H w Z∧∃ tx:ByteArray,w=.sc (.string tx)∧Ext H Z∧(tx.size:Int)≤10*(szs l).getD n 0 by
  obtain⟨w,Z,h1,tx,rfl,h2⟩:=h
  exact⟨tx,Z,h1,h2⟩
 refine zR 39 [.tmp 4] Tryz.func118 ?_
 have o:=hx.one
 have hp:l[n]?=some l[n]:=List.getElem?_eq_getElem (by omega)
 generalize l[n]=p at hp
 have ok:=al n p hn hp
 obtain⟨H1,hH1⟩:∃ H1:qE,H1=H++[⟨[x],true,true⟩]:=⟨_,rfl⟩
 have e0:Ext H H1:=hH1▸Ext.more H _
 have b0:H1[H.length]?=some ⟨[x],true,true⟩:=by rw[hH1];exact yA H _
 obtain⟨r,rest,ow,hxe,hr⟩:=(hx.ext e0).get (i:=n) (by omega)
 subst hxe
 have hp2:(l++rest)[n]?=some p:=by rw[List.getElem?_append_left (by omega)];exact hp
 have rr:=xD yU hp2
 rw[jY p] at rr
 obtain⟨H2,hH2⟩:∃ H2:qE,H2=List.set (H1++[⟨[(0:Int),(0:Int),(0:Int),(0:Int)],true,true⟩]) H1.length ⟨[p.int 0,p.int 1,p.int 2,p.int 3],true,true⟩:=⟨_,rfl⟩
 have e1:Ext H1 H2:=by
  rw[hH2]
  exact(Ext.more H1 [⟨[(0:Int),(0:Int),(0:Int),(0:Int)],true,true⟩]).set (Nat.le_refl _) _
 have c0:=e1.at b0
 have c1:H2[H1.length]?=some ⟨[p.int 0,p.int 1,p.int 2,p.int 3],true,true⟩:=by rw[hH2];exact List.getElem?_set_self (by simp)
 have k2:(0:Int)≤n:=by omega
 have k3:(n:Int)<l.length:=by omega
 have ok':=ok
 unfold okR kJ at ok'
 have v0:=varS (p.int 0).toNat (by omega)
 rw[show (((p.int 0).toNat:Nat):Int)=p.int 0 by omega] at v0
 have s0:=varT_size (p.int 0).toNat (by omega)
 generalize varT (p.int 0).toNat=t0 at *
 have E2:=e0.trans e1
 have P1:=kI l m hm al n hn
 by_cases h1:p.int 0=1
 ·have v1:=varS (p.int 1).toNat (by omega)
  rw[show (((p.int 1).toNat:Nat):Int)=p.int 1 by omega] at v1
  have s1:=varT_size (p.int 1).toNat (by omega)
  generalize varT (p.int 1).toNat=t1 at *
  simp -implicitDefEqProofs only[↓zP,zQ,↓qC,Nat.reduceLT,Nat.reduceEqDiff,Nat.reduceAdd,o,←hH1,b0,k2,k3,qB,hr,rr,xZ,xY,←hH2,c1]
  refine qN rfl v0 ?_
  simp only[↓zP,zQ,↓qC,h1,Nat.reduceLT,Nat.reduceEqDiff,c1]
  refine qN rfl v1 ?_
  simp only[↓zP,zQ,Nat.reduceLT,Nat.reduceEqDiff]
  refine⟨by omega,?_⟩
  exact⟨_,rfl,E2,by rw[ByteArray.size_append];omega⟩
 ·have sm:=small_a l n p hp m hm hn al hs h1
  have P2:=kI l m hm al (p.int 2).toNat (by omega)
  have hsA:(szs l).getD (p.int 2).toNat 0≤2000:=by split at sm<;>(try unfold wH at *)<;>first | omega | (have:=kI l m hm al (p.int 3).toNat (by omega);omega)
  obtain⟨ta,Z,z1,z2,za⟩:=ih (p.int 2).toNat (by omega) (by omega) hsA (hx.ext E2)
  rw[show (((p.int 2).toNat:Nat):Int)=p.int 2 by omega] at z1
  have co:=oneS (p.int 0)
  have d0:=z2.at c0
  have d1:=z2.at c1
  simp -implicitDefEqProofs only[↓zP,zQ,↓qC,Nat.reduceLT,Nat.reduceEqDiff,Nat.reduceAdd,o,←hH1,b0,k2,k3,qB,hr,rr,xZ,xY,←hH2,c1]
  refine qN rfl v0 ?_
  simp only[↓zP,zQ,↓qC,Nat.reduceLT,Nat.reduceEqDiff,c1,c0,h1]
  refine qF rfl z1 ?_
  simp only[↓zP,zQ,Nat.reduceLT,Nat.reduceEqDiff,↓qC]
  by_cases h2:wH (p.int 0)
  ·rw[if_pos h2] at sm
   have h2':=h2
   unfold wH at h2'
   have P3:=kI l m hm al (p.int 3).toNat (by omega)
   obtain⟨tb,Y,y1,y2,yb⟩:=ih (p.int 3).toNat (by omega) (by omega) (by omega) (hx.ext (E2.trans z2))
   rw[show (((p.int 3).toNat:Nat):Int)=p.int 3 by omega] at y1
   rw[decide_eq_false (show ¬ (p.int 0=3∨p.int 0=6) by omega)] at co
   refine⟨by omega,?_⟩
   simp only[zQ,d1]
   refine qN rfl co ?_
   simp only[↓zP,zQ,Nat.reduceLT,↓qC,Nat.reduceEqDiff,d0,d1]
   refine qF rfl y1 ?_
   simp only[↓zP,zQ,Nat.reduceLT,Nat.reduceEqDiff]
   refine⟨by rw[ByteArray.size_append];omega,?_⟩
   exact⟨_,rfl,(E2.trans z2).trans y2,by rw[ByteArray.size_append,ByteArray.size_append];omega⟩
  ·rw[if_neg h2] at sm
   unfold wH at h2
   rw[decide_eq_true (show (p.int 0=3∨p.int 0=6) by omega)] at co
   refine⟨by omega,?_⟩
   simp only[zQ,d1]
   refine qN rfl co ?_
   simp only[↓zP,zQ,Nat.reduceLT,↓qC,Nat.reduceEqDiff]
   exact⟨_,rfl,E2.trans z2,by rw[ByteArray.size_append];omega⟩
theorem sizeIs (l:List (Rw qK))(k:Int):∃ v,SizeIs l k v:=by
 by_cases h:0≤k∧k≤(l.length:Int) - 1
 ·by_cases g:vL l (k.toNat+1)
  ·exact⟨_,.inr ⟨h,.inl ⟨g,rfl⟩⟩⟩
  ·exact⟨0,.inr ⟨h,.inr ⟨g,rfl⟩⟩⟩
 ·exact⟨0,.inl ⟨h,rfl⟩⟩
theorem termTextS {H:qE}{x:AV}{l:List (Rw qK)}(hx:RdN H x l)(hl:l.length≤1048576)(k:Int) :
  ∃ (tx:ByteArray)(b:Bool)(Z:qE),Sound Tryz.prog 100 [.agg [x],k] H (.tup [.sc (.string tx),.sc (.bool b)]) Z∧Ext H Z∧tx.size≤20000:=by
 suffices h:∃ w Z,Sound Tryz.prog 100 [.agg [x],k] H w Z∧∃ (tx:ByteArray)(b:Bool),w=.tup [.sc (.string tx),.sc (.bool b)]∧Ext H Z∧tx.size≤20000 by
  obtain⟨w,Z,h1,tx,b,rfl,h2⟩:=h
  exact⟨tx,b,Z,h1,h2⟩
 refine zR 14 [.tmp 4,.tmp 5] Tryz.func100 ?_
 obtain⟨H1,hH1⟩:∃ H1:qE,H1=H++[{cs:=[x]}]:=⟨_,rfl⟩
 have e0:Ext H H1:=hH1▸Ext.more H _
 have b0:H1[H.length]?=some {cs:=[x]}:=by rw[hH1];exact yA H _
 obtain⟨v,hv⟩:=sizeIs l k
 obtain⟨Z,z1,z2⟩:=sizeS (hx.ext e0) hl k v hv
 simp only[↓zP,zQ,↓qC,(hx.one),←hH1,b0]
 refine qF rfl z1 ?_
 simp only[↓zP]
 refine qN rfl (inS v 1 2000) ?_
 by_cases hv2:1≤v∧v≤2000
 ·rw[decide_eq_true hv2]
  have hv3:∃ n:Nat,k=n∧n<l.length∧vL l (n+1)∧(szs l).getD n 0≤2000:=by
   rcases hv with ⟨_,h⟩ | ⟨hk,⟨h1,h2⟩ | ⟨_,h⟩⟩
   ·omega
   ·exact⟨k.toNat,by omega,by omega,h1,by omega⟩
   ·omega
  obtain⟨n,rfl,hn,al,hs⟩:=hv3
  obtain⟨tx,Y,y1,y2,yt⟩:=textS hl (n+1) (by omega) al n (by omega) hs (hx.ext (e0.trans z2))
  simp only[↓zP,zQ,↓qC,(z2.at b0)]
  refine qF rfl y1 ?_
  simp only[↓zP,zQ]
  exact⟨tx,true,rfl,(e0.trans z2).trans y2,by omega⟩
 ·rw[decide_eq_false hv2]
  simp only[↓zP,zQ,↓qC]
  exact⟨_,false,rfl,e0.trans z2,by decide⟩
theorem gtr_str (s t:ByteArray):∃ g:Bool,wS Tryz.prog .gtr 9 (.sc (.string s)) (.sc (.string t))=some (.sc (.bool g)):=⟨_,rfl⟩
theorem dhG {H:qE}{r off:Nat}{cs:List AV}{x:AV}{l:List (Rw qK)}(hP:PlN H r off cs x l)(hl:l.length≤3000)(a b:Int):ArC 178 [.ptr r off,.sc (.int .i64 a),.sc (.int .i64 b)] H r off cs x l (GQ l):=by
 refine ArC.of ?_
 refine zR 72 [.tmp 6] Tryz.func178 ?_
 obtain⟨b1,Z1,c1,e1,h1⟩:=isE (OwnN.rd hP.2.2.1) (by omega) b 6
 simp only[↓zP,zQ,↓qC,qJ,(hP.1),(PlN.ra hP)]
 refine qF rfl c1 ?_
 cases b1 with
 | false =>
  simp only[↓zP,zQ,↓qC]
  exact⟨-1,l,x,rfl,((xB hP).ext e1),(Only.ext e1 r x),GQ.no l⟩
 | true =>
  have q1:=hP.ext e1
  obtain⟨b2,Z2,c2,e2,h2⟩:=nodeOkE (OwnN.rd q1.2.2.1) (by omega) a
  simp only[↓zP,zQ,qJ,(q1.1),(PlN.ra q1)]
  refine qF rfl c2 ?_
  have q2:=q1.ext e2
  have E2:=e1.trans e2
  cases b2 with
  | false =>
   simp only[↓zP,zQ,qA,↓qC]
   exact⟨-1,l,x,rfl,(xB hP).ext E2,Only.ext E2 r x,GQ.no l⟩
  | true =>
   obtain⟨j,p,rfl,hp,ok,_⟩:=h1.1 rfl
   have hj:=(List.getElem?_eq_some_iff.1 hp).1
   obtain⟨q,rest,rfl,hq⟩:=q2.2.2.1.get hj
   have hp2:(l++rest)[j]?=some p:=by rw[List.getElem?_append_left hj];exact hp
   have re:=fun (o:Bool)(kk:Nat)=>(qX yU (k:=kk) hp2 (j:=2) (by decide) o).trans (p.int_at 2 rfl).1
   obtain⟨y,hy⟩:∃ y,p.int 2=y:=⟨_,rfl⟩
   obtain⟨s,bs,Z3,c3,e3,_⟩:=termTextS (OwnN.rd q2.2.2.1) (by omega) a
   have q3:=q2.ext e3
   obtain⟨t,bt,Z4,c4,e4,_⟩:=termTextS (OwnN.rd q3.2.2.1) (by omega) y
   have q4:=q3.ext e4
   have E4:=(E2.trans e3).trans e4
   simp only[↓zP,zQ,qA,↓qC,qJ,(q2.1),(PlN.ra q2),(qL (off:=off+0) q2.2.1),(by omega:(0:Int)≤(j:Int)),(by omega:(j:Int)<(l.length:Int)),qB,hq,re,hy]
   refine qF rfl c3 ?_
   simp only[↓zP,zQ,↓qC,qJ,(q3.1),(PlN.ra q3)]
   refine qF rfl c4 ?_
   obtain⟨g,hg⟩:=gtr_str s t
   have wa:W64 a:=by
    obtain⟨j',p',rfl,hp',_⟩:=h2.1 rfl
    have:=(List.getElem?_eq_some_iff.1 hp').1
    unfold W64
    omega
   have bd:=fun (u v:Int)=>bdMake 7 u v
   cases g with
   | true =>
    obtain⟨w,l',x',Z,c,pl,o,pr⟩:=putS q4 hl 7 0 y a
    simp only[↓zP,zQ,↓qC,hg,bo_v,↓uE,bd]
    refine qF rfl c ?_
    simp only[↓zP,zQ]
    exact⟨w,l',x',rfl,pl,(Only.ext E4 r _).trans o,pr.gq hl⟩
   | false =>
    generalize he:(s.toList == t.toList)=e
    cases e with
    | false =>
     obtain⟨w,l',x',Z,c,pl,o,pr⟩:=putS q4 hl 7 0 a y
     simp only[↓zP,zQ,↓qC,hg,he,qA,bd]
     refine qF rfl c ?_
     simp only[↓zP,zQ]
     exact⟨w,l',x',rfl,pl,(Only.ext E4 r _).trans o,pr.gq hl⟩
    | true =>
     by_cases hay:y<a
     ·obtain⟨w,l',x',Z,c,pl,o,pr⟩:=putS q4 hl 7 0 y a
      simp only[↓zP,zQ,↓qC,hg,he,hay,qA,bd]
      refine qF rfl c ?_
      simp only[↓zP,zQ]
      exact⟨w,l',x',rfl,pl,(Only.ext E4 r _).trans o,pr.gq hl⟩
     ·obtain⟨w,l',x',Z,c,pl,o,pr⟩:=putS q4 hl 7 0 a y
      simp only[↓zP,zQ,↓qC,hg,he,hay,qA,bd]
      refine qF rfl c ?_
      simp only[↓zP,zQ]
      exact⟨w,l',x',rfl,pl,(Only.ext E4 r _).trans o,pr.gq hl⟩
end
theorem jL {H:qE}{r off:Nat}{cs:List AV}{x:AV}{l:List (Rw qK)}(hP:PlN H r off cs x l)(hl:l.length≤3000)(old:Nat) :
  ∃ (w x':AV)(Z:qE),Sound Tryz.prog 85 [.ptr r off,old] H w Z∧PlN Z r off (cs.set off x') x' (l.take old)∧Only H Z r x x':=by
 suffices h:∃ w Z,Sound Tryz.prog 85 [.ptr r off,old] H w Z∧∃ (x':AV),PlN Z r off (cs.set off x') x' (l.take old)∧Only H Z r x x' by
  obtain⟨w,Z,h1,x',h2⟩:=h
  exact⟨w,x',Z,h1,h2⟩
 refine zR 20 [] Tryz.func85 ?_
 have r0:=hP.1
 have rc:=qL (off:=off+0) hP.2.1
 have lx:=fun e=>hP.2.2.1.len e
 by_cases h:old<l.length
 ·have k1:(old:Int)<l.length:=by omega
  obtain⟨q,rest,hxe,hq⟩:=hP.2.2.1.get (i:=old) h
  have k4:old≤l.length:=by omega
  have ww:=fun (Hh:qE)=>uO (H:=Hh) (y:=.sl q 0 old 4) (off:=off+0) hP.2.1 ⟨rfl,rfl⟩ r
  simp only[↓zP,zQ,↓qC,qJ,r0,rc,lx,k1]
  simp only[hxe]
  simp -implicitDefEqProofs only[zQ,(by omega:(0:Int)≤old),qB,k4,Nat.reduceMul,Nat.sub_zero,ww]
  have hne:r≠q:=hP.2.2.2 q 0 _ _ hxe
  have hcl:off<cs.length:=(List.getElem?_eq_some_iff.1 hP.2.1).1
  refine⟨by omega,.sl q 0 old 4,⟨List.getElem?_set_self (qP hP.1),List.getElem?_set_self hcl,.inr ⟨q,l.drop old++rest,by rw[List.length_take,Nat.min_eq_left k4],?_⟩,.sl hne⟩,⟨by rw[List.length_set];exact Nat.le_refl _,fun i hi hir _=>List.getElem?_set_ne (Ne.symm hir),fun i hi hx=>.sl (hx q 0 _ _ rfl)⟩⟩
  rw[List.getElem?_set_ne hne,hq,←List.append_assoc,List.take_append_drop]
 ·have k1:¬ ((old:Int)<l.length):=by omega
  have e:l.take old=l:=List.take_of_length_le (by omega)
  rw[e]
  simp only[↓zP,zQ,↓qC,qJ,r0,rc,lx,k1]
  exact⟨x,xB hP,Only.refl H r x⟩
section
attribute [local irreducible] kO uW kR wQ
theorem recordG {H:qE}{r off:Nat}{cs:List AV}{x:AV}{l:List (Rw qK)}(hP:PlN H r off cs x l)(hl:l.length≤3000)(key ep sq body:Int):∃ (vv:Int)(l':List (Rw qK))(x':AV)(Z:qE),Sound Tryz.prog 132 [.ptr r off,key,ep,sq,body] H (.sc (.int .i64 vv)) Z∧PlN Z r off (cs.set off x') x' l'∧Only H Z r x x'∧Grw l l'∧-1≤vv∧vv≤3000:=by
 suffices h:∃ w Z,Sound Tryz.prog 132 [.ptr r off,key,ep,sq,body] H w Z∧∃ (vv:Int)(l':List (Rw qK))(x':AV),w=.sc (.int .i64 vv)∧PlN Z r off (cs.set off x') x' l'∧Only H Z r x x'∧Grw l l'∧-1≤vv∧vv≤3000 by
  obtain⟨w,Z,h1,vv,l',x',rfl,h2⟩:=h
  exact⟨vv,l',x',Z,h1,h2⟩
 refine zR 59 [.tmp 10] Tryz.func132 ?_
 have p0:=xB hP
 have O0:=Only.refl H r x
 have G0:=Grw.refl l
 have ra3:=PlN.ra p0
 obtain⟨t5,c6,ht7⟩:=zH (ep) (0) (8)
 try simp only[↓zP,zQ,↓qC]
 refine qN rfl c6 ?_
 cases t5 with
 | false =>
  have k8:¬ (0≤ep∧ep≤8):=fun h=>by have:=ht7.2 h;cases this
  try simp only[↓zP,zQ,↓qC]
  exact⟨_,l,x,rfl,p0,O0,G0,(by omega)⟩
 | true =>
  obtain⟨t10,c11,ht12⟩:=zH (sq) (0) (9999)
  try simp only[↓zP,zQ]
  refine qN rfl c11 ?_
  cases t10 with
  | false =>
   have k13:¬ (0≤sq∧sq≤9999):=fun h=>by have:=ht12.2 h;cases this
   try simp only[↓zP,zQ,qA,↓qC]
   exact⟨_,l,x,rfl,p0,O0,G0,(by omega)⟩
  | true =>
   obtain⟨t15,Z16,c17,e18,ht19⟩:=nodeOkE (OwnN.rd p0.2.2.1) (by omega) (key)
   try simp only[↓zP,zQ,qA,qJ,(p0.1),ra3]
   refine qF rfl c17 ?_
   have p20:=p0.ext e18
   have O21:=O0.trans (Only.ext e18 r x)
   cases t15 with
   | false =>
    try simp only[↓zP,zQ,qA,↓qC]
    exact⟨_,l,x,rfl,p20,O21,G0,(by omega)⟩
   | true =>
    obtain⟨j26,p27,hk28,hp29,ok30⟩:=ht19.1 rfl
    subst hk28
    obtain⟨t35,Z36,c37,e38,ht39⟩:=nodeOkE (OwnN.rd p20.2.2.1) (by omega) (body)
    try simp only[↓zP,zQ,qA,qJ,(p20.1),ra3]
    refine qF rfl c37 ?_
    have p40:=p20.ext e38
    have O41:=O21.trans (Only.ext e38 r x)
    cases t35 with
    | false =>
     try simp only[↓zP,zQ,qA,↓qC]
     exact⟨_,l,x,rfl,p40,O41,G0,(by omega)⟩
    | true =>
     obtain⟨j46,p47,hk48,hp49,ok50⟩:=ht39.1 rfl
     subst hk48
     obtain⟨v55,l56,x57,Z58,c59,p60,o61,g62⟩:=xK p40 hl (ep)
     try simp only[↓zP,zQ,qA,↓qC]
     refine qF rfl c59 ?_
     rw[qM] at p60
     have G64:=G0.trans g62.1
     obtain⟨v71,l72,x73,Z74,c75,p76,o77,g78⟩:=xK p60 (G64.2.1 hl) (sq)
     try simp only[↓zP,zQ,↓qC]
     refine qF rfl c75 ?_
     rw[qM] at p76
     have G80:=G64.trans g78.1
     obtain⟨v87,l88,x89,Z90,c91,p92,o93,g94,i95⟩:=listG p76 (G80.2.1 hl) [v55,v71,(j46:Int)] 3 rfl (by decide)
     try simp only[↓zP,zQ,↓qC]
     refine qF rfl c91 ?_
     rw[qM] at p92
     have G97:=G80.trans g94.1
     obtain⟨v104,l105,x106,Z107,c108,p109,o110,g111⟩:=wG p92 (G97.2.1 hl) (5) ((j26:Int)) (v87)
     try simp only[↓zP,zQ,↓qC]
     refine qF rfl c108 ?_
     rw[qM] at p109
     have G113:=G97.trans g111.1
     obtain⟨v120,l121,x122,Z123,c124,p125,o126,g127,i128⟩:=listG p109 (G113.2.1 hl) [v55,v71,v104] 3 rfl (by decide)
     try simp only[↓zP,zQ]
     refine qF rfl c124 ?_
     rw[qM] at p125
     try simp only[↓zP,zQ]
     exact⟨_,l121,x122,rfl,p125,(((((O41.trans o61).trans o77).trans o93).trans o110).trans o126),(G113.trans g127.1),g127.2⟩
theorem helloG {H:qE}{r off:Nat}{cs:List AV}{x:AV}{l:List (Rw qK)}(hP:PlN H r off cs x l)(hl:l.length≤3000)(mo na no pu:Int):∃ (vv:Int)(l':List (Rw qK))(x':AV)(Z:qE),Sound Tryz.prog 83 [.ptr r off,.agg [mo,na,no,pu]] H (.sc (.int .i64 vv)) Z∧PlN Z r off (cs.set off x') x' l'∧Only H Z r x x'∧Grw l l'∧-1≤vv∧vv≤3000:=by
 suffices h:∃ w Z,Sound Tryz.prog 83 [.ptr r off,.agg [mo,na,no,pu]] H w Z∧∃ (vv:Int)(l':List (Rw qK))(x':AV),w=.sc (.int .i64 vv)∧PlN Z r off (cs.set off x') x' l'∧Only H Z r x x'∧Grw l l'∧-1≤vv∧vv≤3000 by
  obtain⟨w,Z,h1,vv,l',x',rfl,h2⟩:=h
  exact⟨vv,l',x',Z,h1,h2⟩
 refine zR 28 [.tmp 4] Tryz.func83 ?_
 have p0:=xB hP
 have O0:=Only.refl H r x
 obtain⟨b6,u7,e5,nn8⟩:=Lcl.alloc p0 O0 (i:=H.length) (by simp) {cs:=[mo,na,no,pu]}
 obtain⟨v16,l17,x18,Z19,c20,p21,o22,g23⟩:=xK (p0.ext e5) hl (61)
 try simp only[↓zP,zQ,↓qC]
 refine qF rfl c20 ?_
 rw[qM] at p21
 have b24:=b6.only o22
 have G27:=(Grw.refl l).trans g23.1
 obtain⟨v34,l35,x36,Z37,c38,p39,o40,g41⟩:=xK p21 (G27.2.1 hl) (mo)
 try simp only[↓zP,zQ,↓qC,(b24.1)]
 refine qF rfl c38 ?_
 rw[qM] at p39
 have b42:=b24.only o40
 have G45:=G27.trans g41.1
 obtain⟨v52,l53,x54,Z55,c56,p57,o58,g59⟩:=xK p39 (G45.2.1 hl) (na)
 try simp only[↓zP,zQ,↓qC,(b42.1)]
 refine qF rfl c56 ?_
 rw[qM] at p57
 have G63:=G45.trans g59.1
 obtain⟨v70,l71,x72,Z73,c74,p75,o76,g77,i78⟩:=listG p57 (G63.2.1 hl) [v16,v34,v52,no,pu] 5 rfl (by decide)
 try simp only[↓zP,zQ,↓qC,((b42.only o58).1)]
 refine qF rfl c74 ?_
 rw[qM] at p75
 try simp only[↓zP,zQ]
 exact⟨_,l71,x72,rfl,p75,(((((O0.trans (Only.ext e5 r x)).trans o22).trans o40).trans o58).trans o76),(G63.trans g77.1),g77.2⟩
theorem packetG {H:qE}{r off:Nat}{cs:List AV}{x:AV}{l:List (Rw qK)}(hP:PlN H r off cs x l)(hl:l.length≤3000)(sr ds ho va:Int):∃ (vv:Int)(l':List (Rw qK))(x':AV)(Z:qE),Sound Tryz.prog 89 [.ptr r off,.agg [sr,ds,ho,va]] H (.sc (.int .i64 vv)) Z∧PlN Z r off (cs.set off x') x' l'∧Only H Z r x x'∧Grw l l'∧-1≤vv∧vv≤3000:=by
 suffices h:∃ w Z,Sound Tryz.prog 89 [.ptr r off,.agg [sr,ds,ho,va]] H w Z∧∃ (vv:Int)(l':List (Rw qK))(x':AV),w=.sc (.int .i64 vv)∧PlN Z r off (cs.set off x') x' l'∧Only H Z r x x'∧Grw l l'∧-1≤vv∧vv≤3000 by
  obtain⟨w,Z,h1,vv,l',x',rfl,h2⟩:=h
  exact⟨vv,l',x',Z,h1,h2⟩
 refine zR 42 [.tmp 4] Tryz.func89 ?_
 have p0:=xB hP
 have O0:=Only.refl H r x
 have G0:=Grw.refl l
 obtain⟨b6,u7,e5,nn8⟩:=Lcl.alloc p0 O0 (i:=H.length) (by simp) {cs:=[sr,ds,ho,va]}
 obtain⟨r16,Z17,c18,e19⟩:=packetOkE (H:=(H++[{cs:=[sr,ds,ho,va]}])) (sr) (ds) (ho) (va)
 try simp -implicitDefEqProofs only[↓zP,zQ,↓qC,(b6.1),Nat.reduceAdd]
 refine qF rfl c18 ?_
 have b21:=b6.ext e19
 have c22:=b21.1
 have p23:=(p0.ext e5).ext e19
 have O24:=(O0.trans (Only.ext e5 r x)).trans (Only.ext e19 r x)
 cases r16 with
 | false =>
  try simp only[↓zP,zQ,↓qC]
  exact⟨_,l,x,rfl,p23,O24,G0,(by omega)⟩
 | true =>
  try simp only[↓zP,zQ,↓qC]
  refine zD [(5,0),(5,3),(9,0),(9,3),(9,7),(13,0),(13,3),(13,7),(13,11),(17,0),(17,3),(17,7),(17,11),(17,15),(21,0),(21,3),(21,7),(21,11),(21,15),(21,19),(23,0),(23,3),(23,7),(23,11),(23,15),(23,19),(26,0),(26,3),(26,7),(26,11),(26,15),(26,19),(29,0),(29,3),(29,7),(29,11),(29,15),(29,19)] ?_
  obtain⟨v29,l30,x31,Z32,c33,p34,o35,g36⟩:=xK p23 hl (90)
  try simp only[↓zP,zQ]
  refine qF rfl c33 ?_
  rw[qM] at p34
  have b37:=b21.only o35
  have c38:=b37.1
  have G40:=G0.trans g36.1
  obtain⟨v47,l48,x49,Z50,c51,p52,o53,g54⟩:=xK p34 (G40.2.1 hl) (sr)
  try simp only[↓zP,zQ,c38]
  refine qF rfl c51 ?_
  rw[qM] at p52
  have b55:=b37.only o53
  have c56:=b55.1
  have G58:=G40.trans g54.1
  obtain⟨v65,l66,x67,Z68,c69,p70,o71,g72⟩:=xK p52 (G58.2.1 hl) (ds)
  try simp only[↓zP,zQ,c56]
  refine qF rfl c69 ?_
  rw[qM] at p70
  have b73:=b55.only o71
  have c74:=b73.1
  have G76:=G58.trans g72.1
  obtain⟨v83,l84,x85,Z86,c87,p88,o89,g90⟩:=xK p70 (G76.2.1 hl) (ho)
  try simp only[↓zP,zQ,c74]
  refine qF rfl c87 ?_
  rw[qM] at p88
  have b91:=b73.only o89
  have c92:=b91.1
  have G94:=G76.trans g90.1
  obtain⟨v101,l102,x103,Z104,c105,p106,o107,g108⟩:=xK p88 (G94.2.1 hl) (va)
  try simp only[↓zP,zQ,c92]
  refine qF rfl c105 ?_
  rw[qM] at p106
  have c110:=(b91.only o107).1
  have G112:=G94.trans g108.1
  obtain⟨v119,l120,x121,Z122,c123,p124,o125,g126⟩:=xK p106 (G112.2.1 hl) (IntKind.i64.wrap ((IntKind.i64.wrap ((IntKind.i64.wrap (sr+ds))+ho))+va))
  try simp only[↓zP,zQ,c110]
  refine qF rfl c123 ?_
  rw[qM] at p124
  have G130:=G112.trans g126.1
  obtain⟨v137,l138,x139,Z140,c141,p142,o143,g144,i145⟩:=listG p124 (G130.2.1 hl) [v29,v47,v65,v83,v101,v119] 6 rfl (by decide)
  try simp only[↓zP,zQ]
  refine qF rfl c141 ?_
  rw[qM] at p142
  try simp only[↓zP,zQ]
  refine⟨qI (qS _ _ (H.length) 0 rfl rfl (c22.trans c38.symm)) (zX (qI (qS _ _ (H.length) 1 rfl rfl (c22.trans c56.symm)) (qI (qS _ _ (H.length) 1 rfl rfl (c38.trans c56.symm)) (zX (qI (qS _ _ (H.length) 2 rfl rfl (c22.trans c74.symm)) (qI (qS _ _ (H.length) 2 rfl rfl (c38.trans c74.symm)) (qI (qS _ _ (H.length) 2 rfl rfl (c56.trans c74.symm)) (zX (qI (qS _ _ (H.length) 3 rfl rfl (c22.trans c92.symm)) (qI (qS _ _ (H.length) 3 rfl rfl (c38.trans c92.symm)) (qI (qS _ _ (H.length) 3 rfl rfl (c56.trans c92.symm)) (qI (qS _ _ (H.length) 3 rfl rfl (c74.trans c92.symm)) (zX (qI (qS _ _ (H.length) 0 rfl rfl (c22.trans c110.symm)) (qI (qS _ _ (H.length) 0 rfl rfl (c38.trans c110.symm)) (qI (qS _ _ (H.length) 0 rfl rfl (c56.trans c110.symm)) (qI (qS _ _ (H.length) 0 rfl rfl (c74.trans c110.symm)) (qI (qS _ _ (H.length) 0 rfl rfl (c92.trans c110.symm)) (zX (qI (qS _ _ (H.length) 1 rfl rfl (c22.trans c110.symm)) (qI (qS _ _ (H.length) 1 rfl rfl (c38.trans c110.symm)) (qI (qS _ _ (H.length) 1 rfl rfl (c56.trans c110.symm)) (qI (qS _ _ (H.length) 1 rfl rfl (c74.trans c110.symm)) (qI (qS _ _ (H.length) 1 rfl rfl (c92.trans c110.symm)) (zX (qI (qS _ _ (H.length) 2 rfl rfl (c22.trans c110.symm)) (qI (qS _ _ (H.length) 2 rfl rfl (c38.trans c110.symm)) (qI (qS _ _ (H.length) 2 rfl rfl (c56.trans c110.symm)) (qI (qS _ _ (H.length) 2 rfl rfl (c74.trans c110.symm)) (qI (qS _ _ (H.length) 2 rfl rfl (c92.trans c110.symm)) (zX (qI (qS _ _ (H.length) 3 rfl rfl (c22.trans c110.symm)) (qI (qS _ _ (H.length) 3 rfl rfl (c38.trans c110.symm)) (qI (qS _ _ (H.length) 3 rfl rfl (c56.trans c110.symm)) (qI (qS _ _ (H.length) 3 rfl rfl (c74.trans c110.symm)) (qI (qS _ _ (H.length) 3 rfl rfl (c92.trans c110.symm)) (zX (qH)))))))))))))))))))))))))))))))))))))),?_⟩
  exact⟨_,l138,x139,rfl,p142,(((((((O24.trans o35).trans o53).trans o71).trans o89).trans o107).trans o125).trans o143),(G130.trans g144.1),g144.2⟩
theorem handoG {H:qE}{r off:Nat}{cs:List AV}{x:AV}{l:List (Rw qK)}(hP:PlN H r off cs x l)(hl:l.length≤3000)(se pu mo na nb bo:Int):∃ (vv:Int)(l':List (Rw qK))(x':AV)(Z:qE),Sound Tryz.prog 164 [.ptr r off,se,pu,mo,na,nb,bo] H (.sc (.int .i64 vv)) Z∧PlN Z r off (cs.set off x') x' l'∧Only H Z r x x'∧Grw l l'∧-1≤vv∧vv≤3000:=by
 suffices h:∃ w Z,Sound Tryz.prog 164 [.ptr r off,se,pu,mo,na,nb,bo] H w Z∧∃ (vv:Int)(l':List (Rw qK))(x':AV),w=.sc (.int .i64 vv)∧PlN Z r off (cs.set off x') x' l'∧Only H Z r x x'∧Grw l l'∧-1≤vv∧vv≤3000 by
  obtain⟨w,Z,h1,vv,l',x',rfl,h2⟩:=h
  exact⟨vv,l',x',Z,h1,h2⟩
 refine zR 34 [.tmp 14] Tryz.func164 ?_
 obtain⟨v5,l6,x7,Z8,c9,p10,o11,g12⟩:=dhG (xB hP) hl (se) (pu)
 try simp only[↓zP,zQ,↓qC]
 refine qF rfl c9 ?_
 rw[qM] at p10
 have O13:=(Only.refl H r x).trans o11
 have G14:=(Grw.refl l).trans g12.1
 have bl15:=G14.2.1 hl
 by_cases h21:mo=(2:Int)
 ·subst h21
  obtain⟨v22,l23,x24,Z25,c26,p27,o28,g29⟩:=pskG p10 bl15 (na) (nb)
  try simp only[↓zP,zQ,↓qC]
  refine qF rfl c26 ?_
  rw[qM] at p27
  have G31:=G14.trans g29.1
  obtain⟨v38,l39,x40,Z41,c42,p43,o44,g45⟩:=handG p27 (G31.2.1 hl) (v5) (v22) (bo)
  try simp only[↓zP,zQ,↓qC]
  refine qF rfl c42 ?_
  rw[qM] at p43
  try simp only[↓zP,zQ]
  exact⟨_,l39,x40,rfl,p43,((O13.trans o28).trans o44),(G31.trans g45.1),g45.2⟩
 ·obtain⟨v54,l55,x56,Z57,c58,p59,o60,g61⟩:=xK p10 bl15 (0)
  try simp only[↓zP,zQ,↓qC,h21]
  refine qF rfl c58 ?_
  rw[qM] at p59
  have G63:=G14.trans g61.1
  obtain⟨v70,l71,x72,Z73,c74,p75,o76,g77⟩:=handG p59 (G63.2.1 hl) (v5) (v54) (bo)
  try simp only[↓zP,zQ,↓qC]
  refine qF rfl c74 ?_
  rw[qM] at p75
  try simp only[↓zP,zQ]
  exact⟨_,l71,x72,rfl,p75,((O13.trans o60).trans o76),(G63.trans g77.1),g77.2⟩
theorem ackInG {H:qE}{r off:Nat}{cs:List AV}{x:AV}{l:List (Rw qK)}(hP:PlN H r off cs x l)(hl:l.length≤3000)(ha sa k:Int):∃ (vv:Int)(bb:Bool)(l':List (Rw qK))(x':AV)(Z:qE),Sound Tryz.prog 152 [.ptr r off,ha,sa,k] H (.tup [.sc (.int .i64 vv),.sc (.bool bb)]) Z∧PlN Z r off (cs.set off x') x' l'∧Only H Z r x x'∧Grw l l'∧W64 vv:=by
 suffices h:∃ w Z,Sound Tryz.prog 152 [.ptr r off,ha,sa,k] H w Z∧∃ (vv:Int)(bb:Bool)(l':List (Rw qK))(x':AV),w=.tup [.sc (.int .i64 vv),.sc (.bool bb)]∧PlN Z r off (cs.set off x') x' l'∧Only H Z r x x'∧Grw l l'∧W64 vv by
  obtain⟨w,Z,h1,vv,bb,l',x',rfl,h2⟩:=h
  exact⟨vv,bb,l',x',Z,h1,h2⟩
 refine zR 31 [.tmp 8,.tmp 9] Tryz.func152 ?_
 have p0:=xB hP
 obtain⟨r5,r6,l7,x8,Z9,c10,p11,o12,g13,f14⟩:=lookAckG p0 hl (ha) (sa) (k)
 try simp only[↓zP,zQ,↓qC,qJ,(p0.1),(PlN.rd p0),(fun e=>OwnF.len e p0.2.2.1)]
 refine qF rfl c10 ?_
 have g15:=And.intro g13 trivial
 rw[qM] at p11
 have G17:=(Grw.refl l).trans g15.1
 obtain⟨w23,x24,Z25,c26,p27,o28⟩:=jL p11 (G17.2.1 hl) l.length
 try simp only[↓zP,zQ,↓qC]
 refine qF rfl c26 ?_
 rw[G17.back] at p27
 rw[qM] at p27
 try simp only[↓zP,zQ,↓qC]
 exact⟨_,_,l,x24,rfl,p27,(((Only.refl H r x).trans o12).trans o28),(Grw.refl l),f14⟩
theorem okG {H:qE}{r off:Nat}{cs:List AV}{x:AV}{l:List (Rw qK)}(hP:PlN H r off cs x l)(hl:l.length≤3000)(si ha mo na sa k:Int):∃ (bb:Bool)(l':List (Rw qK))(x':AV)(Z:qE),Sound Tryz.prog 158 [.ptr r off,si,ha,mo,na,sa,k] H (.sc (.bool bb)) Z∧PlN Z r off (cs.set off x') x' l'∧Only H Z r x x'∧Grw l l':=by
 suffices h:∃ w Z,Sound Tryz.prog 158 [.ptr r off,si,ha,mo,na,sa,k] H w Z∧∃ (bb:Bool)(l':List (Rw qK))(x':AV),w=.sc (.bool bb)∧PlN Z r off (cs.set off x') x' l'∧Only H Z r x x'∧Grw l l' by
  obtain⟨w,Z,h1,bb,l',x',rfl,h2⟩:=h
  exact⟨bb,l',x',Z,h1,h2⟩
 refine zR 34 [.tmp 14] Tryz.func158 ?_
 have p0:=xB hP
 obtain⟨r5,l6,x7,Z8,c9,p10,o11,g12⟩:=lookG p0 hl (si) (ha) (mo) (na) (sa) (k)
 try simp only[↓zP,zQ,↓qC,qJ,(p0.1),(PlN.rd p0),(fun e=>OwnF.len e p0.2.2.1)]
 refine qF rfl c9 ?_
 have g14:=And.intro g12 trivial
 rw[qM] at p10
 have G16:=(Grw.refl l).trans g14.1
 obtain⟨w22,x23,Z24,c25,p26,o27⟩:=jL p10 (G16.2.1 hl) l.length
 try simp only[↓zP,zQ,↓qC]
 refine qF rfl c25 ?_
 rw[G16.back] at p26
 rw[qM] at p26
 try simp only[↓zP,zQ,↓qC]
 exact⟨_,l,x23,rfl,p26,(((Only.refl H r x).trans o11).trans o27),(Grw.refl l)⟩
theorem sayG {H:qE}{r off:Nat}{cs:List AV}{x:AV}{l:List (Rw qK)}(hP:PlN H r off cs x l)(hl:l.length≤3000)(app side ep sq hd nt ns lt ls body:Int)(wapp:W64 app)(wside:W64 side)(wep:W64 ep)(wsq:W64 sq)(whd:W64 hd)(wnt:W64 nt)(wns:W64 ns)(wlt:W64 lt)(wls:W64 ls):∃ (u0:Int)(u1:Int)(u2:Int)(u3:Int)(u4:Int)(u5:Int)(u6:Int)(u7:Int)(u8:Int)(kk:Int)(l':List (Rw qK))(x':AV)(Z:qE),Sound Tryz.prog 108 [.ptr r off,.agg [app,side,ep,sq,hd,nt,ns,lt,ls],body] H (.tup [.agg [u0,u1,u2,u3,u4,u5,u6,u7,u8],.sc (.int .i64 kk)]) Z∧PlN Z r off (cs.set off x') x' l'∧Only H Z r x x'∧Grw l l'∧W64 u0∧W64 u1∧W64 u2∧W64 u3∧W64 u4∧W64 u5∧W64 u6∧W64 u7∧W64 u8∧W64 kk∧-1≤kk∧kk≤3000:=by
 suffices h:∃ w Z,Sound Tryz.prog 108 [.ptr r off,.agg [app,side,ep,sq,hd,nt,ns,lt,ls],body] H w Z∧∃ (u0:Int)(u1:Int)(u2:Int)(u3:Int)(u4:Int)(u5:Int)(u6:Int)(u7:Int)(u8:Int)(kk:Int)(l':List (Rw qK))(x':AV),w=.tup [.agg [u0,u1,u2,u3,u4,u5,u6,u7,u8],.sc (.int .i64 kk)]∧PlN Z r off (cs.set off x') x' l'∧Only H Z r x x'∧Grw l l'∧W64 u0∧W64 u1∧W64 u2∧W64 u3∧W64 u4∧W64 u5∧W64 u6∧W64 u7∧W64 u8∧W64 kk∧-1≤kk∧kk≤3000 by
  obtain⟨w,Z,h1,u0,u1,u2,u3,u4,u5,u6,u7,u8,kk,l',x',rfl,h2⟩:=h
  exact⟨u0,u1,u2,u3,u4,u5,u6,u7,u8,kk,l',x',Z,h1,h2⟩
 refine zR 55 [.cell 6 46,.tmp 7] Tryz.func108 ?_
 have p0:=xB hP
 have O0:=Only.refl H r x
 have G0:=Grw.refl l
 obtain⟨b6,u7,e5,nn8⟩:=Lcl.alloc p0 O0 (i:=H.length) (by simp) {cs:=[app,side,ep,sq,hd,nt,ns,lt,ls]}
 have p9:=p0.ext e5
 have O10:=O0.trans (Only.ext e5 r x)
 obtain⟨b17,u18,e16,nn19⟩:=Lcl.alloc p9 O10 (i:=H.length+1) (by simp) {cs:=[(0:Int),(0:Int),(0:Int),(0:Int),(0:Int),(0:Int),(0:Int),(0:Int),(0:Int)]}
 have b20:=b6.ext e16
 have p22:=p9.ext e16
 try simp only[↓zP,zQ,↓qC]
 refine zD [(2,0),(3,0)] ?_
 obtain⟨r29,Z30,c31,e32⟩:=chanOkE (OwnN.rd p22.2.2.1) (by omega) (app) (side) (ep) (sq) (hd) (nt) (ns) (lt) (ls)
 try simp -implicitDefEqProofs only[↓zP,zQ,qJ,(b20.1),Nat.reduceAdd,(p22.1),(PlN.ra p22)]
 refine qF rfl c31 ?_
 have b34:=b20.ext e32
 have c35:=b34.1
 have b36:=b17.ext e32
 have p38:=p22.ext e32
 have O39:=(O10.trans (Only.ext e16 r x)).trans (Only.ext e32 r x)
 try simp -implicitDefEqProofs only[↓zP,zQ,↓qC,c35,Nat.reduceAdd,(b36.1),xZ,xY,qJ,(p38.1),(PlN.rd p22),(fun e=>OwnF.len e p22.2.2.1)]
 refine⟨zX (zX (qH)),?_⟩
 cases r29 with
 | false =>
  try simp -implicitDefEqProofs only[zQ,((b36.set {cs:=[app,side,ep,sq,hd,nt,ns,lt,ls]}).1),Nat.reduceAdd]
  exact⟨_,_,_,_,_,_,_,_,_,_,l,x,rfl,(PlN.setL p38 b36.2 {cs:=[app,side,ep,sq,hd,nt,ns,lt,ls]}),(O39.setL u18 {cs:=[app,side,ep,sq,hd,nt,ns,lt,ls]}),G0,wapp,wside,wep,wsq,whd,wnt,wns,wlt,wls,⟨by decide,by decide⟩,(by omega)⟩
 | true =>
  try simp only[zQ]
  refine zD [(3,0),(5,0),(8,0),(8,7)] ?_
  obtain⟨v54,l55,x56,Z57,c58,p59,o60,g61⟩:=epochG p38 hl (app) (ep)
  try simp only[↓zP,zQ,c35]
  refine qF rfl c58 ?_
  rw[qM] at p59
  have b62:=b34.only o60
  have c63:=b62.1
  have G67:=G0.trans g61.1
  obtain⟨v74,l75,x76,Z77,c78,p79,o80,g81⟩:=sideG p59 (G67.2.1 hl) (v54) (side)
  try simp only[↓zP,zQ,c63]
  refine qF rfl c78 ?_
  rw[qM] at p79
  have b82:=b62.only o80
  have G87:=G67.trans g81.1
  try simp only[↓zP,zQ,↓qC,(b82.1)]
  refine⟨zX (zX (qI (qS _ _ (H.length) 1 rfl rfl (c35.trans c63.symm)) (zX (qH)))),?_⟩
  obtain⟨r94,l95,x96,Z97,c98,p99,o100,g101,f102⟩:=recordG p79 (G87.2.1 hl) (v74) (ep) (sq) (body)
  refine qF rfl c98 ?_
  have g103:=And.intro g101 trivial
  rw[qM] at p99
  have b104:=b82.only o100
  have c105:=b104.1
  have b106:=((b36.only o60).only o80).only o100
  have c107:=b106.1
  have O108:=((O39.trans o60).trans o80).trans o100
  have G109:=G87.trans g103.1
  have w115:W64 r94:=by have h:=f102;unfold W64;omega
  by_cases h116:r94<(0:Int)
  ·obtain⟨w117,x118,Z119,c120,p121,o122⟩:=jL p99 (G109.2.1 hl) l.length
   try simp -implicitDefEqProofs only[↓zP,zQ,↓qC,h116,c105,Nat.reduceAdd,xZ,xY]
   refine qF rfl c120 ?_
   rw[G109.back] at p121
   rw[qM] at p121
   have b125:=b106.only o122
   try simp -implicitDefEqProofs only[↓zP,zQ,↓qC,((b104.only o122).1),Nat.reduceAdd,(b125.1),xZ,xY,((b125.set {cs:=[app,side,ep,sq,hd,nt,ns,lt,ls]}).1)]
   exact⟨_,_,_,_,_,_,_,_,_,_,l,x118,rfl,(PlN.setL p121 b125.2 {cs:=[app,side,ep,sq,hd,nt,ns,lt,ls]}),((O108.trans o122).setL u18 {cs:=[app,side,ep,sq,hd,nt,ns,lt,ls]}),(Grw.refl l),wapp,wside,wep,wsq,whd,wnt,wns,wlt,wls,⟨by decide,by decide⟩,(by omega)⟩
  ·obtain⟨b144,u145,e143,nn146⟩:=Lcl.alloc p99 O108 (i:=Z97.length) (by simp) {cs:=[(0:Int),(0:Int),(0:Int),(0:Int),(0:Int),(0:Int),(0:Int),(0:Int),(0:Int)]}
   have b158:=Lcl.set' (b104.ext e143) (Ne.symm (nn146 _ _ c105)) {cs:=[app,side,ep,sq,hd,nt,ns,lt,ls]}
   have b160:=b144.set {cs:=[app,side,ep,sq,hd,nt,ns,lt,ls]}
   have b170:=Lcl.set' b158 (Ne.symm (nn146 _ _ c105)) {cs:=[app,side,ep,IntKind.i64.wrap (sq+1),hd,nt,ns,lt,ls]}
   have b171:=Lcl.set' (Lcl.set' (b106.ext e143) (Ne.symm (nn146 _ _ c107)) {cs:=[app,side,ep,sq,hd,nt,ns,lt,ls]}) (Ne.symm (nn146 _ _ c107)) {cs:=[app,side,ep,IntKind.i64.wrap (sq+1),hd,nt,ns,lt,ls]}
   have b172:=b160.set {cs:=[app,side,ep,IntKind.i64.wrap (sq+1),hd,nt,ns,lt,ls]}
   have p173:=PlN.setL (PlN.setL (p99.ext e143) b144.2 {cs:=[app,side,ep,sq,hd,nt,ns,lt,ls]}) b160.2 {cs:=[app,side,ep,IntKind.i64.wrap (sq+1),hd,nt,ns,lt,ls]}
   have O174:=((O108.trans (Only.ext e143 r x96)).setL u145 {cs:=[app,side,ep,sq,hd,nt,ns,lt,ls]}).setL u145 {cs:=[app,side,ep,IntKind.i64.wrap (sq+1),hd,nt,ns,lt,ls]}
   simp only[List.set_set] at b170 b171 b172 p173 O174
   try simp -implicitDefEqProofs only[↓zP,zQ,↓qC,h116,c105,Nat.reduceAdd,(b144.1),xZ,xY,(b158.1),(b160.1),Nat.reduceLeDiff,(b172.1),(b171.1),((b171.set {cs:=[app,side,ep,IntKind.i64.wrap (sq+1),hd,nt,ns,lt,ls]}).1)]
   exact⟨_,_,_,_,_,_,_,_,_,_,l95,x96,rfl,(PlN.setL p173 b171.2 {cs:=[app,side,ep,IntKind.i64.wrap (sq+1),hd,nt,ns,lt,ls]}),(O174.setL u18 {cs:=[app,side,ep,IntKind.i64.wrap (sq+1),hd,nt,ns,lt,ls]}),G109,wapp,wside,wep,(W64.wrap _),whd,wnt,wns,wlt,wls,w115,(And.intro trivial f102).2⟩
end
end Go.Proofs.YtjdajobflgkebaaGreatDoor.Sim
