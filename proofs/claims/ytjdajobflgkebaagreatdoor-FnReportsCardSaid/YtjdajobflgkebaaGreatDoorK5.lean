/- Texts of this proof, put together and made small by a program: part 5. -/
import Derived.Test.YtjdajobflgkebaaGreatDoorK4
set_option linter.all false
set_option maxRecDepth 100000
set_option maxHeartbeats 40000000
namespace Go.Proofs.YtjdajobflgkebaaGreatDoor.Sim
open Go
theorem hasBI (k:Int):Fn Tryz.prog 41 [.sc (.int .i64 k)] (.sc (.bool (decide (wH k)))):=by
 refine Fn.run 13 [.tmp 2] Tryz.func41 rfl rfl rfl rfl (by simp) (qV (.sc _) yV) (.sc _) ?_
 by_cases h1:k=1
 ·rw[decide_eq_false (by unfold wH;omega)]
  simp only[↓zP,zQ,↓qC,h1,qA]
 ·by_cases h3:k=3
  ·rw[decide_eq_false (by unfold wH;omega)]
   simp only[↓zP,zQ,↓qC,h3,Int.reduceEq,qA]
  ·by_cases h6:k=6
   ·rw[decide_eq_false (by unfold wH;omega)]
    simp only[↓zP,zQ,↓qC,h6,Int.reduceEq]
   ·rw[decide_eq_true (by unfold wH;omega)]
    simp only[↓zP,zQ,↓qC,h1,h3,h6]
theorem oneS (k:Int):Fn Tryz.prog 44 [.sc (.int .i64 k)] (.sc (.bool (decide (k=3∨k=6)))):=by
 refine Fn.run 9 [.tmp 2] Tryz.func44 rfl rfl rfl rfl (by simp) (qV (.sc _) yV) (.sc _) ?_
 by_cases h3:k=3
 ·rw[decide_eq_true (by omega)]
  simp only[↓zP,zQ,↓qC,h3]
 ·by_cases h6:k=6
  ·rw[decide_eq_true (by omega)]
   simp only[↓zP,zQ,↓qC,h6,Int.reduceEq,qA]
  ·rw[decide_eq_false (by omega)]
   simp only[↓zP,zQ,↓qC,h3,h6,qA]
theorem letterI (k:Int)(h:1≤k∧k≤9):Fn Tryz.prog 42 [.sc (.int .i64 k)] (.sc (.string (jM k))):=by
 refine Fn.run 7 [.tmp 2] Tryz.func42 rfl rfl rfl rfl (by simp) (qV (.sc _) yV) (.sc _) ?_
 simp -implicitDefEqProofs only[↓zP,zQ,↓qC,(by omega:0≤k),(by omega:k<10),Nat.reduceAdd,(by omega:k.toNat<10)]
 rfl
theorem nodeI (k n a c:Int)(i:Nat)(hi:i≤1000000000):Fn Tryz.prog 40 [.agg [k,n,a,c],.sc (.int .i64 i)] (.sc (.bool (decide (kJ k n a c i)))):=by
 refine Fn.run 62 [.tmp 4] Tryz.func40 rfl rfl rfl rfl (by simp) (qV (.agg (qV (.sc _) (qV (.sc _) (qV (.sc _) (qV (.sc _) yV))))) (qV (.sc _) yV)) (.sc _) ?_
 have e1:IntKind.i64.wrap ((i:Int) - 1)=i - 1:=w64 (by omega) (by omega)
 have cn:=inI n 0 999999
 have ca:=inI a 0 (i - 1)
 have cc:=inI c 0 (i - 1)
 have ck:=inI k 2 9
 by_cases h1:k=1
 ·by_cases q1:0≤n∧n≤999999
  ·rw[decide_eq_true q1] at cn
   by_cases q2:a=0
   ·by_cases q3:c=0
    ·rw[decide_eq_true (show kJ k n a c i by unfold kJ;omega)]
     simp only[↓zP,zQ,↓qC,h1,Int.reduceEq]
     refine qN rfl cn ?_
     simp only[↓zP,zQ,q2,q3]
    ·rw[decide_eq_false (show ¬ kJ k n a c i by unfold kJ;omega)]
     simp only[↓zP,zQ,↓qC,h1,Int.reduceEq]
     refine qN rfl cn ?_
     simp only[↓zP,zQ,q2,q3]
   ·rw[decide_eq_false (show ¬ kJ k n a c i by unfold kJ;omega)]
    simp only[↓zP,zQ,↓qC,h1,Int.reduceEq]
    refine qN rfl cn ?_
    simp only[↓zP,zQ,q2,reduceCtorEq]
  ·rw[decide_eq_false q1] at cn
   rw[decide_eq_false (show ¬ kJ k n a c i by unfold kJ;omega)]
   simp only[↓zP,zQ,↓qC,h1,Int.reduceEq]
   refine qN rfl cn ?_
   simp only[↓zP,zQ,qA]
 ·by_cases h3:k=3∨k=6
  ·by_cases q1:n=0
   ·by_cases q2:0≤a∧a≤(i:Int) - 1
    ·rw[decide_eq_true q2] at ca
     by_cases q3:c=0
     ·rw[decide_eq_true (show kJ k n a c i by unfold kJ;omega)]
      rcases h3 with h3 | h3 <;>
      (simp only[↓zP,zQ,↓qC,h3,q1,e1,Int.reduceEq]
       refine qN rfl ca ?_
       simp only[↓zP,zQ,q3] )
     ·rw[decide_eq_false (show ¬ kJ k n a c i by unfold kJ;omega)]
      rcases h3 with h3 | h3 <;>
      (simp only[↓zP,zQ,↓qC,h3,q1,e1,Int.reduceEq]
       refine qN rfl ca ?_
       simp only[↓zP,zQ,q3] )
    ·rw[decide_eq_false q2] at ca
     rw[decide_eq_false (show ¬ kJ k n a c i by unfold kJ;omega)]
     rcases h3 with h3 | h3 <;>
     (simp only[↓zP,zQ,↓qC,h3,q1,e1,Int.reduceEq]
      refine qN rfl ca ?_
      simp only[↓zP,zQ,qA] )
   ·rw[decide_eq_false (show ¬ kJ k n a c i by unfold kJ;omega)]
    rcases h3 with h3 | h3<;>simp only[↓zP,zQ,↓qC,h3,q1,qA,Int.reduceEq]
  ·have h31:¬ k=3:=by omega
   have h61:¬ k=6:=by omega
   by_cases q0:2≤k∧k≤9
   ·rw[decide_eq_true q0] at ck
    by_cases q1:n=0
    ·by_cases q2:0≤a∧a≤(i:Int) - 1
     ·rw[decide_eq_true q2] at ca
      by_cases q3:0≤c∧c≤(i:Int) - 1
      ·rw[decide_eq_true q3] at cc
       rw[decide_eq_true (show kJ k n a c i by unfold kJ;omega)]
       simp only[↓zP,zQ,↓qC,h1,h31,h61]
       refine qN rfl ck ?_
       simp only[↓zP,zQ,q1,e1]
       refine qN rfl ca ?_
       simp only[↓zP,zQ,e1]
       refine qN rfl cc ?_
       simp only[↓zP,zQ]
      ·rw[decide_eq_false q3] at cc
       rw[decide_eq_false (show ¬ kJ k n a c i by unfold kJ;omega)]
       simp only[↓zP,zQ,↓qC,h1,h31,h61]
       refine qN rfl ck ?_
       simp only[↓zP,zQ,q1,e1]
       refine qN rfl ca ?_
       simp only[↓zP,zQ,e1]
       refine qN rfl cc ?_
       simp only[↓zP,zQ]
     ·rw[decide_eq_false q2] at ca
      rw[decide_eq_false (show ¬ kJ k n a c i by unfold kJ;omega)]
      simp only[↓zP,zQ,↓qC,h1,h31,h61]
      refine qN rfl ck ?_
      simp only[↓zP,zQ,q1,e1]
      refine qN rfl ca ?_
      simp only[↓zP,zQ,qA]
    ·rw[decide_eq_false (show ¬ kJ k n a c i by unfold kJ;omega)]
     simp only[↓zP,zQ,↓qC,h1,h31,h61]
     refine qN rfl ck ?_
     simp only[↓zP,zQ,q1,qA]
   ·rw[decide_eq_false q0] at ck
    rw[decide_eq_false (show ¬ kJ k n a c i by unfold kJ;omega)]
    simp only[↓zP,zQ,↓qC,h1,h31,h61]
    refine qN rfl ck ?_
    simp only[↓zP,zQ,qA]
theorem nodeS (k n a c:Int)(i:Nat)(hi:i≤1000000000):Fn Tryz.prog 57 [.agg [k,n,a,c],.sc (.int .i64 i)] (.sc (.bool (decide (kJ k n a c i)))):=by
 refine Fn.run 47 [.tmp 4] Tryz.func57 rfl rfl rfl rfl (by simp) (qV (.agg (qV (.sc _) (qV (.sc _) (qV (.sc _) (qV (.sc _) yV))))) (qV (.sc _) yV)) (.sc _) ?_
 have e1:IntKind.i64.wrap ((i:Int) - 1)=i - 1:=w64 (by omega) (by omega)
 have cn:=inS n 0 999999
 have ca:=inS a 0 (i - 1)
 have cc:=inS c 0 (i - 1)
 have ck:=inS k 1 9
 have co:=oneS k
 by_cases q0:1≤k∧k≤9
 ·rw[decide_eq_true q0] at ck
  by_cases h1:k=1
  ·by_cases q1:0≤n∧n≤999999
   ·rw[decide_eq_true q1] at cn
    by_cases q2:a=0
    ·by_cases q3:c=0
     ·rw[decide_eq_true (show kJ k n a c i by unfold kJ;omega)]
      simp only[↓zP,zQ,↓qC]
      refine qN rfl ck ?_
      simp only[↓zP,zQ,h1,↓qC]
      refine qN rfl cn ?_
      simp only[↓zP,zQ,q2,q3]
     ·rw[decide_eq_false (show ¬ kJ k n a c i by unfold kJ;omega)]
      simp only[↓zP,zQ,↓qC]
      refine qN rfl ck ?_
      simp only[↓zP,zQ,h1,↓qC]
      refine qN rfl cn ?_
      simp only[↓zP,zQ,q2,q3]
    ·rw[decide_eq_false (show ¬ kJ k n a c i by unfold kJ;omega)]
     simp only[↓zP,zQ,↓qC]
     refine qN rfl ck ?_
     simp only[↓zP,zQ,h1,↓qC]
     refine qN rfl cn ?_
     simp only[↓zP,zQ,q2,qA]
   ·rw[decide_eq_false q1] at cn
    rw[decide_eq_false (show ¬ kJ k n a c i by unfold kJ;omega)]
    simp only[↓zP,zQ,↓qC]
    refine qN rfl ck ?_
    simp only[↓zP,zQ,h1,↓qC]
    refine qN rfl cn ?_
    simp only[↓zP,zQ,qA]
  ·by_cases q1:n=0
   ·by_cases q2:0≤a∧a≤(i:Int) - 1
    ·rw[decide_eq_true q2] at ca
     by_cases h3:k=3∨k=6
     ·rw[decide_eq_true h3] at co
      by_cases q3:c=0
      ·rw[decide_eq_true (show kJ k n a c i by unfold kJ;omega)]
       simp only[↓zP,zQ,↓qC]
       refine qN rfl ck ?_
       simp only[↓zP,zQ,q1,↓qC,e1,h1]
       refine qN rfl ca ?_
       simp only[↓zP,zQ,qA,↓qC]
       refine qN rfl co ?_
       simp only[↓zP,zQ,q3,↓qC]
      ·rw[decide_eq_false (show ¬ kJ k n a c i by unfold kJ;omega)]
       simp only[↓zP,zQ,↓qC]
       refine qN rfl ck ?_
       simp only[↓zP,zQ,q1,↓qC,e1,h1]
       refine qN rfl ca ?_
       simp only[↓zP,zQ,qA,↓qC]
       refine qN rfl co ?_
       simp only[↓zP,zQ,↓qC,q3]
     ·rw[decide_eq_false h3] at co
      by_cases q3:0≤c∧c≤(i:Int) - 1
      ·rw[decide_eq_true q3] at cc
       rw[decide_eq_true (show kJ k n a c i by unfold kJ;omega)]
       simp only[↓zP,zQ,↓qC]
       refine qN rfl ck ?_
       simp only[↓zP,zQ,q1,↓qC,e1,h1]
       refine qN rfl ca ?_
       simp only[↓zP,zQ,qA,↓qC]
       refine qN rfl co ?_
       simp only[↓zP,zQ,↓qC,e1]
       refine qN rfl cc ?_
       simp only[↓zP,zQ]
      ·rw[decide_eq_false q3] at cc
       rw[decide_eq_false (show ¬ kJ k n a c i by unfold kJ;omega)]
       simp only[↓zP,zQ,↓qC]
       refine qN rfl ck ?_
       simp only[↓zP,zQ,q1,↓qC,e1,h1]
       refine qN rfl ca ?_
       simp only[↓zP,zQ,qA,↓qC]
       refine qN rfl co ?_
       simp only[↓zP,zQ,↓qC,e1]
       refine qN rfl cc ?_
       simp only[↓zP,zQ]
    ·rw[decide_eq_false q2] at ca
     rw[decide_eq_false (show ¬ kJ k n a c i by unfold kJ;omega)]
     simp only[↓zP,zQ,↓qC]
     refine qN rfl ck ?_
     simp only[↓zP,zQ,q1,↓qC,e1,h1]
     refine qN rfl ca ?_
     simp only[↓zP,zQ,qA,↓qC]
   ·rw[decide_eq_false (show ¬ kJ k n a c i by unfold kJ;omega)]
    simp only[↓zP,zQ,↓qC]
    refine qN rfl ck ?_
    simp only[↓zP,zQ,↓qC,q1,h1]
 ·rw[decide_eq_false q0] at ck
  rw[decide_eq_false (show ¬ kJ k n a c i by unfold kJ;omega)]
  simp only[↓zP,zQ,↓qC]
  refine qN rfl ck ?_
  simp only[↓zP,zQ,↓qC]
theorem hasNodeI {H:qE}{x:AV}{l:List (Rw qK)}(o:x.cells=[x]∧x.one=true)(lx:∀ e,lenV (some (.slice e)) x=some (.sc (.int .i64 l.length)))(hl:l.length≤1048576)(k:Int):∃ Z,Sound Tryz.prog 39 [.agg [x],k] H (.sc (.bool (decide (0≤k∧k≤(l.length:Int) - 1)))) Z∧Ext H Z:=by
 suffices h:∃ v Z,Sound Tryz.prog 39 [.agg [x],k] H v Z∧v=.sc (.bool (decide (0≤k∧k≤(l.length:Int) - 1)))∧Ext H Z by
  obtain⟨v,Z,h1,rfl,h2⟩:=h
  exact⟨Z,h1,h2⟩
 refine zR 11 [.tmp 4] Tryz.func39 ?_
 simp only[↓zP,zQ,↓qC,o,yD,lx,(w64 (by omega) (by omega):IntKind.i64.wrap ((l.length:Int) - 1)=l.length - 1)]
 refine qN rfl (inI k 0 (l.length - 1)) ?_
 simp only[↓zP,zQ]
 exact Ext.more _ _
theorem qL {cs:List AV}{x:AV}{off:Nat}(h:cs[off]?=some x)(o:Bool)(k:Nat):jG true false k (some ⟨cs,o,true⟩) off=some x:=by
 have:=(List.getElem?_eq_some_iff.1 h).1
 simp only[jG,if_true,Bool.false_eq_true,if_false,true_and,h,show off+1≤cs.length from this]
theorem yY {cs:List AV}{x:AV}{off:Nat}(h:cs[off]?=some x)(o:Bool):jG true true 1 (some ⟨cs,o,true⟩) off=some (.agg [x]):=by
 have hl:=(List.getElem?_eq_some_iff.1 h).1
 have e:(cs.drop off).take 1=[x]:=by
  rw[List.drop_eq_getElem_cons hl,List.take_succ_cons,List.take_zero]
  rw[List.getElem?_eq_getElem hl] at h
  cases h
  rfl
 simp only[jG,if_true,true_and,show off+1≤cs.length from hl,e]
theorem uO {H:qE}{cs:List AV}{x y:AV}{off:Nat}(h:cs[off]?=some x)(hy:y.cells=[y]∧y.one=true)(r:Nat):uJ true 1 H r (some {cs:=cs}) off y=some (H.set r {cs:=cs.set off y}):=by
 have hl:=(List.getElem?_eq_some_iff.1 h).1
 have e:qW cs off [y]=cs.set off y:=by
  rw[List.set_eq_take_append_cons_drop,if_pos hl,qW]
  simp
 simp only[uJ,hy.1,List.length_singleton,(by simp[hy.2]:[y].all AV.one=true),show off+1≤cs.length from hl,and_self,if_true,e]
def NotIn (y:AV)(i:Nat):Prop:=∀ r o n k,y=.sl r o n k→i≠r
theorem NotIn.nil (i:Nat):NotIn (.sc (.slice none 0 0)) i:=fun _ _ _ _ e=>by cases e
theorem NotIn.sl {r o n k i:Nat}(h:i≠r):NotIn (.sl r o n k) i:=fun r' o' n' k' e=>by
 injection e with e1
 exact e1▸h
section
variable {α : Type} {f : α → List AV} {m : Nat}
def OwnF (f:α→List AV)(m:Nat)(H:qE)(x:AV)(l:List α):Prop:=(x=.sc (.slice none 0 0)∧l=[])∨∃ r rest,x=.sl r 0 l.length m∧H[r]?=some {cs:=rows f (l++rest)}
theorem OwnF.one {H:qE}{x:AV}{l:List α}(h:OwnF f m H x l):x.cells=[x]∧x.one=true:=by
 rcases h with ⟨rfl,rfl⟩ | ⟨r,rest,rfl,_⟩<;>exact⟨rfl,rfl⟩
theorem OwnF.len {H:qE}{x:AV}{l:List α}(e:TypeId)(h:OwnF f m H x l):lenV (some (.slice e)) x=some (.sc (.int .i64 l.length)):=by
 rcases h with ⟨rfl,rfl⟩ | ⟨r,rest,rfl,_⟩<;>rfl
theorem OwnF.get {H:qE}{x:AV}{l:List α}(h:OwnF f m H x l){i:Nat}(hi:i<l.length):∃ r rest,x=.sl r 0 l.length m∧H[r]?=some {cs:=rows f (l++rest)}:=by
 rcases h with ⟨rfl,rfl⟩ | h
 ·simp at hi
 ·exact h
theorem OwnF.keep {H Z:qE}{x:AV}{l:List α}(h:OwnF f m H x l)(k:∀ i,i<H.length→¬ NotIn x i→Z[i]?=H[i]?):OwnF f m Z x l:=by
 rcases h with h | ⟨r,rest,rfl,hr⟩
 ·exact .inl h
 ·exact .inr ⟨r,rest,rfl,(k r (qP hr) (fun h=>h r 0 _ _ rfl rfl)).trans hr⟩
theorem OwnF.ext {H Z:qE}{x:AV}{l:List α}(h:OwnF f m H x l)(e:Ext H Z):OwnF f m Z x l:=h.keep fun i hi _=>e.2 i hi
theorem OwnF.lt {H:qE}{x:AV}{l:List α}(h:OwnF f m H x l){i:Nat}(hi:H.length≤i):NotIn x i:=by
 rcases h with ⟨rfl,_⟩ | ⟨r,rest,rfl,hr⟩
 ·exact .nil i
 ·exact .sl (by have:=qP hr;omega)
def Plc (f:α→List AV)(m:Nat)(H:qE)(r off:Nat)(cs:List AV)(x:AV)(l:List α):Prop:=H[r]?=some {cs:=cs}∧cs[off]?=some x∧OwnF f m H x l∧NotIn x r
def Only (H Z:qE)(r:Nat)(x x':AV):Prop:=H.length≤Z.length∧(∀ i,i<H.length→i≠r→NotIn x i→Z[i]?=H[i]?)∧∀ i,i<H.length→NotIn x i→NotIn x' i
theorem Only.refl (H:qE)(r:Nat)(x:AV):Only H H r x x:=⟨Nat.le_refl _,fun _ _ _ _=>rfl,fun _ _ h=>h⟩
theorem Only.trans {H Z Y:qE}{r:Nat}{x x' x'':AV}(a:Only H Z r x x')(b:Only Z Y r x' x''):Only H Y r x x'':=
 ⟨Nat.le_trans a.1 b.1,fun i hi hr hx=>(b.2.1 i (Nat.lt_of_lt_of_le hi a.1) hr (a.2.2 i hi hx)).trans (a.2.1 i hi hr hx),fun i hi hx=>b.2.2 i (Nat.lt_of_lt_of_le hi a.1) (a.2.2 i hi hx)⟩
theorem Only.ext {H Z:qE}(e:Ext H Z)(r:Nat)(x:AV):Only H Z r x x:=⟨e.1,fun i hi _ _=>e.2 i hi,fun _ _ h=>h⟩
theorem Plc.ext {H Z:qE}{r off:Nat}{cs:List AV}{x:AV}{l:List α}(h:Plc f m H r off cs x l)(e:Ext H Z):Plc f m Z r off cs x l:=⟨e.at h.1,h.2.1,h.2.2.1.ext e,h.2.2.2⟩
theorem qM (cs:List AV)(off:Nat)(a b:AV):(cs.set off a).set off b=cs.set off b:=by simp
end
def Is4 (p:Rw qK)(k n a c:Int):Prop:=p.int 0=k∧p.int 1=n∧p.int 2=a∧p.int 3=c
def nv (k n a c:Int):AV:=.agg [.sc (.int .i64 k),.sc (.int .i64 n),.sc (.int .i64 a),.sc (.int .i64 c)]
theorem wf_in {n:Int}(h : -9223372036854775808≤n∧n≤9223372036854775807):(Lit.int .i64 n).wf=true:=by
 simp only[Lit.wf,Bool.and_eq_true,decide_eq_true_eq]
 exact h
def mkNd (k n a c:Int)(h:∀ z∈[k,n,a,c],-9223372036854775808≤z∧z≤9223372036854775807):Rw qK:=⟨[.int .i64 k,.int .i64 n,.int .i64 a,.int .i64 c],rfl,fun i q v h1 h2=>by
 match i,h1,h2 with
 | 0,h1,h2=>cases h1;cases h2;exact⟨_,rfl,wf_in (h k (by simp))⟩
 | 1,h1,h2=>cases h1;cases h2;exact⟨_,rfl,wf_in (h n (by simp))⟩
 | 2,h1,h2=>cases h1;cases h2;exact⟨_,rfl,wf_in (h a (by simp))⟩
 | 3,h1,h2=>cases h1;cases h2;exact⟨_,rfl,wf_in (h c (by simp))⟩
 | i+4,h1,h2=>simp at h1⟩
theorem mkNd_is (k n a c:Int)(h):Is4 (mkNd k n a c h) k n a c:=⟨rfl,rfl,rfl,rfl⟩
theorem okN_wf {k n a c:Int}{i:Nat}(h:kJ k n a c i)(hi:i≤1000000000):∀ z∈[k,n,a,c],-9223372036854775808≤z∧z≤9223372036854775807:=by
 unfold kJ at h
 intro z hz
 simp only[List.mem_cons,List.not_mem_nil,or_false] at hz
 rcases hz with rfl | rfl | rfl | rfl<;>omega
abbrev OwnN:=OwnF (Rw.cs (ks:=qK)) 4
abbrev PlN:=Plc (Rw.cs (ks:=qK)) 4
def rt (l:List (Rw qK)):Prop:=∀ (i:Nat) p,l[i]?=some p→okR p i
def Grw (l l':List (Rw qK)):Prop:=(∃ m,l'=l++m)∧(l.length≤3000→l'.length≤3000)∧(rt l→rt l')
theorem Grw.refl (l:List (Rw qK)):Grw l l:=⟨⟨[],by simp⟩,fun h=>h,fun h=>h⟩
theorem Grw.trans {a b c:List (Rw qK)}(h:Grw a b)(k:Grw b c):Grw a c:=by
 obtain⟨⟨m,rfl⟩,h2,h3⟩:=h
 obtain⟨⟨m',rfl⟩,k2,k3⟩:=k
 exact⟨⟨m++m',by simp⟩,fun h=>k2 (h2 h),fun h=>k3 (h3 h)⟩
theorem Grw.at {l l':List (Rw qK)}(h:Grw l l'){i:Nat}{p:Rw qK}(hp:l[i]?=some p):l'[i]?=some p:=by
 obtain⟨⟨m,rfl⟩,_,_⟩:=h
 rw[List.getElem?_append_left (List.getElem?_eq_some_iff.1 hp).1]
 exact hp
def PutR (l:List (Rw qK))(k n a c:Int)(l':List (Rw qK))(v:Int):Prop:=Grw l l'∧((v = -1∧l'=l)∨∃ (j:Nat)(p:Rw qK),v=j∧l'[j]?=some p∧Is4 p k n a c∧kJ k n a c l.length∧(l'=l∨∃ p',l'=l++[p']∧Is4 p' k n a c))
theorem eqNd (k n a c k' n' a' c':Int):wS Tryz.prog .eql 85 (nv k n a c) (nv k' n' a' c')=some (.sc (.bool (decide (k=k'∧n=n'∧a=a'∧c=c')))):=by
 have q:∀ x y:Int,(x == y)=decide (x=y):=fun _ _=>rfl
 by_cases e1:k=k'<;>by_cases e2:n=n'<;>by_cases e3:a=a'<;>by_cases e4:c=c'<;>simp[wS,kL,uT,nv,eqA,(by kernel_rfl:Tryz.prog.stoodInHeld 85=false),(by kernel_rfl:Tryz.prog.eqGuardType Tryz.prog.depth 85=false),eqF,partA,eq1,q,e1,e2,e3,e4,Tryz.underlying85,Tryz.underlying3,qR,agg3]
theorem atS {H:qE}{x:AV}{l:List (Rw qK)}(hx:OwnN H x l)(hl:l.length≤1000000)(k n a c:Int):∃ (v:Int)(B:Reg),Sound Tryz.prog 80 [x,nv k n a c] H (.sc (.int .i64 v)) (H++[B])∧(v = -1∨∃ (j:Nat)(p:Rw qK),v=j∧l[j]?=some p∧Is4 p k n a c):=by
 suffices h:∃ w Z,Sound Tryz.prog 80 [x,nv k n a c] H w Z∧∃ (v:Int)(B:Reg),w=.sc (.int .i64 v)∧Z=H++[B]∧(v = -1∨∃ (j:Nat)(p:Rw qK),v=j∧l[j]?=some p∧Is4 p k n a c) by
  obtain⟨w,Z,h1,v,B,rfl,rfl,h2⟩:=h
  exact⟨v,B,h1,h2⟩
 unfold nv
 refine zR 19 [.tmp 4] Tryz.func80 ?_
 have lx:=fun e=>hx.len e
 obtain⟨B,hB⟩:∃ B:Reg,B={cs:=[k,n,a,c]}:=⟨_,rfl⟩
 have b0:(H++[B])[H.length]?=some {cs:=[k,n,a,c]}:=by rw[←hB];exact yD H [B]
 have hx':=hx.ext (Ext.more H [B])
 simp only[↓zP,zQ,↓qC]
 rw[←hB]
 refine yL (ι:=Nat) (fun i s=>∃ T:Nat→AV,s=⟨qY 19 T,H++[B]⟩∧i≤l.length∧T 0=x∧T 3=.ptr H.length 0∧T 5=.sc (.int .i64 i)) (fun i=>l.length - i) ?_ (i:=0) ?_
 ·rintro i s ⟨T,rfl,a1,a2,a3,a4⟩
  by_cases h:i<l.length
  ·have k1:(i:Int)<l.length:=by omega
   have k2:(0:Int)≤i:=by omega
   have e1:IntKind.i64.wrap ((i:Int)+1)=i+1:=w64 (by omega) (by omega)
   obtain⟨r,rest,hxe,hr⟩:=hx'.get h
   have hp:l[i]?=some l[i]:=List.getElem?_eq_getElem h
   generalize l[i]=p at hp
   have hp2:(l++rest)[i]?=some p:=by rw[List.getElem?_append_left h];exact hp
   have rr:=xD yU hp2
   rw[jY p] at rr
   have eq:=eqNd (p.int 0) (p.int 1) (p.int 2) (p.int 3) k n a c
   unfold nv at eq
   by_cases hq:p.int 0=k∧p.int 1=n∧p.int 2=a∧p.int 3=c
   ·rw[decide_eq_true hq] at eq
    simp only[↓zP,zQ,↓qC,a4,a2,lx,k1]
    refine zD [(3,0),(4,0)] ?_
    simp -implicitDefEqProofs only[↓zP,zQ,hxe,a2,a4,k2,k1,qB,a3,b0,Nat.reduceAdd,↓qC,hr,rr,eq]
    refine⟨qI (yC rfl) (qI (yC rfl) (qH)),?_⟩
    exact⟨_,B,rfl,rfl,.inr ⟨i,p,rfl,hp,hq⟩⟩
   ·rw[decide_eq_false hq] at eq
    simp only[↓zP,zQ,↓qC,a4,a2,lx,k1]
    refine zD [(3,0),(4,0)] ?_
    simp -implicitDefEqProofs only[↓zP,zQ,hxe,a2,a4,k2,k1,qB,a3,b0,Nat.reduceAdd,↓qC,hr,rr,eq]
    refine⟨qI (yC rfl) (qI (yC rfl) (qH)),?_⟩
    try simp only[e1]
    refine⟨i+1,by omega,_,rfl,by omega,?_,?_,?_⟩<;>simp only[zQ,a2,hxe,a3]<;>rfl
  ·have k1:¬ (i:Int)<l.length:=by omega
   simp only[↓zP,zQ,↓qC,a4,a2,lx,k1]
   exact⟨-1,B,rfl,rfl,.inl rfl⟩
 ·refine⟨_,rfl,by omega,?_,?_,?_⟩<;>simp only[zQ]<;>rfl
theorem apNd {G:qE}{x:AV}{l:List (Rw qK)}(hx:OwnN G x l)(hl:l.length≤1000000){s:Nat}{own:Bool}{p:Rw qK}(hs:G[s]?=some ⟨p.cs,own,true⟩) :
  ∃ K:qE,K.length=G.length∧(∀ i,NotIn x i→K[i]?=G[i]?)∧(∀ q k,x=.sl q 0 k 4→∃ m,K[q]?=some ⟨.ptr G.length 0 :: rows Rw.cs (l++m),true,false⟩)∧vK Tryz.prog (some (.slice 85)) (some (.slice 85)) x (.sl s 0 1 4) G=some (.sl K.length 0 (l.length+1) 4,K++[{cs:=rows Rw.cs (l++[p])}]):=by
 have hs':G[s]?=some ⟨rows Rw.cs [p],own,true⟩:=by rw[vT];exact hs
 have src:qU G (.sl s 0 1 4) 4=some (rows Rw.cs [p]):=by
  have:=src_slR (H:=G) (m:=4) s 1
  rw[this,hs',at_rows yU [p] own 1]
  simp
 rcases hx with ⟨rfl,rfl⟩ | ⟨r,rest,rfl,hr⟩
 ·refine⟨G,rfl,fun _ _=>rfl,fun q k e=>(by cases e),?_⟩
  rw[apN24,src]
  simp[apRN,jE yU,rows_all yU]
 ·refine⟨yG G r,yZ _,fun i hi=>uR _ _ _ (hi _ _ _ _ rfl),fun q k e=>?_,?_⟩
  ·injection e with e
   subst e
   refine⟨rest,?_⟩
   simp only[yG,uM,List.getElem?_modify,hr]
   simp
  rw[apS24,hr,src,ap_rows yU]
  have h1:l.length≤(l++rest).length:=by simp
  have h2:(l.length+1)*32≤140737488355328:=by omega
  have h3:l.length+1*4≤140737488355328:=by omega
  rw[if_pos ⟨h1,h2,h3⟩,yZ,List.take_left']
  ·rfl
  ·rfl
theorem qJ (r off:Nat):nilV (.ptr r off)=some (.ptr r off):=rfl
theorem set_same {cs:List AV}{off:Nat}{x:AV}(h:cs[off]?=some x):cs.set off x=cs:=by
 have:=(List.getElem?_eq_some_iff.1 h).2
 rw[←this,List.set_getElem_self]
theorem xB {H:qE}{r off:Nat}{cs:List AV}{x:AV}{l:List (Rw qK)}(h:PlN H r off cs x l):PlN H r off (cs.set off x) x l:=by rwa [set_same h.2.1]
theorem grw_put {l:List (Rw qK)}{p:Rw qK}(hl:l.length<3000)(ok:okR p l.length):Grw l (l++[p]):=by
 refine⟨⟨[p],rfl⟩,fun _=>by simp;omega,fun h i q hq=>?_⟩
 rcases Nat.lt_or_ge i l.length with hi | hi
 ·rw[List.getElem?_append_left hi] at hq
  exact h i q hq
 ·rw[List.getElem?_append_right hi] at hq
  have:i - l.length=0:=by
   rcases Nat.eq_zero_or_pos (i - l.length) with h | h
   ·exact h
   ·rw[List.getElem?_eq_none (by simp;omega)] at hq
    cases hq
  rw[this] at hq
  cases hq
  have:i=l.length:=by omega
  rw[this]
  exact ok
inductive Stl (Z:qE) (n:Nat) (l:List (Rw qK)) (y:AV):Nat→Prop where
 | live {q k:Nat} {m:List (Rw qK)}:y=.sl q 0 k 4→Z[q]?=some {cs:=rows Rw.cs (l++m)}→Stl Z n l y q
 | dead {q s:Nat} {m:List (Rw qK)}:Z[q]?=some ⟨.ptr s 0 :: rows Rw.cs (l++m),true,false⟩→n≤s→Stl Z n l y s→Stl Z n l y q
theorem stl_same {Z:qE}{n:Nat}{l:List (Rw qK)}{x:AV}(h:OwnN Z x l):∀ q k,x=.sl q 0 k 4→Stl Z n l x q:=by
 intro q k e
 rcases h with ⟨rfl,_⟩ | ⟨r,rest,h1,hr⟩
 ·cases e
 ·rw[h1] at e
  injection e with e
  subst e
  exact .live h1 hr
theorem putT {H:qE}{r off:Nat}{cs:List AV}{x:AV}{l:List (Rw qK)}(hP:PlN H r off cs x l)(hl:l.length≤3000)(k n a c:Int) :
  ∃ (v:Int)(l':List (Rw qK))(x':AV)(Z:qE),Sound Tryz.prog 61 [.ptr r off,nv k n a c] H (.sc (.int .i64 v)) Z∧PlN Z r off (cs.set off x') x' l'∧Only H Z r x x'∧PutR l k n a c l' v∧(∀ q k,x=.sl q 0 k 4→Stl Z H.length l x' q)∧(kJ k n a c l.length→l.length<3000→l'≠[]):=by
 suffices h:∃ w Z,Sound Tryz.prog 61 [.ptr r off,nv k n a c] H w Z∧∃ (v:Int)(l':List (Rw qK))(x':AV),w=.sc (.int .i64 v)∧PlN Z r off (cs.set off x') x' l'∧Only H Z r x x'∧PutR l k n a c l' v∧(∀ q k,x=.sl q 0 k 4→Stl Z H.length l x' q)∧(kJ k n a c l.length→l.length<3000→l'≠[]) by
  obtain⟨w,Z,h1,v,l',x',rfl,h2⟩:=h
  exact⟨v,l',x',Z,h1,h2⟩
 unfold nv
 refine zR 47 [.tmp 4] Tryz.func61 ?_
 obtain⟨B,hB⟩:∃ B:Reg,B=⟨[k,n,a,c],true,true⟩:=⟨_,rfl⟩
 have b0:(H++[B])[H.length]?=some ⟨[k,n,a,c],true,true⟩:=by rw[←hB];exact yD H [B]
 have e0:=Ext.more H [B]
 have P0:=hP.ext e0
 have r0:=P0.1
 have rc:=qL (off:=off+0) P0.2.1
 have lx:=fun e=>P0.2.2.1.len e
 have cn:=nodeS k n a c l.length (by omega)
 have f85:∀ o,jG true true 4 (some ⟨[k,n,a,c],o,true⟩) 0=some (.agg [k,n,a,c]):=fun o=>rfl
 by_cases ok:kJ k n a c l.length
 ·rw[decide_eq_true ok] at cn
  obtain⟨v,B2,c1,hv⟩:=atS P0.2.2.1 (by omega) k n a c
  unfold nv at c1
  have e1:=Ext.more (H++[B]) [B2]
  have P1:=P0.ext e1
  have r1:=P1.1
  rcases hv with rfl | ⟨j,p,rfl,hp,hq⟩
  ·have km:¬ ((0:Int)≤-1):=by omega
   have rc1:=qL (off:=off+0) P1.2.1
   by_cases hf:(3000:Int)≤l.length
   ·simp only[↓zP,zQ,↓qC,Nat.reduceLT]
    rw[←hB]
    refine zD [(0,0),(4,0)] ?_
    simp only[↓zP,zQ,Nat.reduceLT,Nat.reduceEqDiff,b0,f85,reduceCtorEq,qJ,r0,rc,lx]
    refine qN rfl cn ?_
    simp only[↓zP,zQ,Nat.reduceLT,↓qC]
    refine⟨qI (yC rfl) (qI (yC rfl) (qH)),?_⟩
    refine zD [(3,0),(4,0)] ?_
    simp only[↓zP,zQ,Nat.reduceLT,reduceCtorEq,qJ,Nat.reduceEqDiff,b0,f85,r0,rc]
    refine qF rfl c1 ?_
    simp only[↓zP,zQ,Nat.reduceLT,↓qC,km,reduceCtorEq,Nat.reduceEqDiff,qJ,qA,r1,rc1,lx,hf]
    refine⟨qI (yC rfl) (qI (yC rfl) (qH)),?_⟩
    exact⟨_,l,x,rfl,xB P1,Only.ext (e0.trans e1) r x,⟨Grw.refl l,.inl ⟨rfl,rfl⟩⟩,stl_same P1.2.2.1,fun _ h=>by omega⟩
   ·have hl2:l.length<3000:=by omega
    have hw:=okN_wf ok (show l.length≤1000000000 by omega)
    obtain⟨C,hC⟩:∃ C:Reg,C=⟨[k,n,a,c],true,true⟩:=⟨_,rfl⟩
    have e2:=Ext.more (H++[B]++[B2]) [C]
    have P2:=P1.ext e2
    have hs:(H++[B]++[B2]++[C])[H.length+1+1]?=some ⟨(mkNd k n a c hw).cs,true,true⟩:=by
     have hlen:(H++[B]++[B2]).length=H.length+1+1:=by simp
     rw[←hlen,hC]
     exact yA _ _
    obtain⟨K,K1,K2,K4,apx⟩:=apNd P2.2.2.1 (by omega) hs
    have hrK:r<K.length:=by rw[K1];exact qP P2.1
    have r3:∀ Y,(K++Y)[r]?=some ⟨cs,true,true⟩:=fun Y=>((yS K Y r hrK).trans (K2 r P2.2.2.2)).trans P2.1
    obtain⟨y,hy⟩:∃ y:AV,y=.sl K.length 0 (l.length+1) 4:=⟨_,rfl⟩
    have yo:y.cells=[y]∧y.one=true:=by rw[hy];exact⟨rfl,rfl⟩
    have ww:=fun (Hh:qE)=>uO (H:=Hh) (off:=off+0) P2.2.1 yo r
    have hcl:off<cs.length:=(List.getElem?_eq_some_iff.1 P2.2.1).1
    have rd2:=qL (cs:=cs.set (off+0) y) (off:=off+0) (List.getElem?_set_self hcl)
    have ly:∀ e,lenV (some (.slice e)) y=some (.sc (.int .i64 ((l.length+1:Nat):Int))):=fun e=>by rw[hy];rfl
    have ats:∀ (Y:qE)(g:Reg),((K++Y).set r g)[r]?=some g:=fun Y g=>List.getElem?_set_self (by rw[List.length_append];omega)
    have e3:IntKind.i64.wrap (((l.length+1:Nat):Int) - 1)=l.length:=by rw[w64 (by omega) (by omega)];omega
    rw[←hy] at apx
    simp only[↓zP,zQ,↓qC,Nat.reduceLT]
    rw[←hB]
    refine zD [(0,0),(4,0)] ?_
    simp only[↓zP,zQ,Nat.reduceLT,Nat.reduceEqDiff,b0,f85,reduceCtorEq,qJ,r0,rc,lx]
    refine qN rfl cn ?_
    simp only[↓zP,zQ,Nat.reduceLT,↓qC]
    refine⟨qI (yC rfl) (qI (yC rfl) (qH)),?_⟩
    refine zD [(3,0),(4,0)] ?_
    simp only[↓zP,zQ,Nat.reduceLT,reduceCtorEq,qJ,Nat.reduceEqDiff,b0,f85,r0,rc]
    refine qF rfl c1 ?_
    simp only[↓zP,zQ,Nat.reduceLT,↓qC,km,reduceCtorEq,Nat.reduceEqDiff,qJ,qA,r1,rc1,lx,hf]
    refine⟨qI (yC rfl) (qI (yC rfl) (qH)),?_⟩
    refine zD [(4,0),(5,0)] ?_
    simp -implicitDefEqProofs only[↓zP,zQ,Nat.reduceLT,reduceCtorEq,qJ,Nat.reduceEqDiff,(e1.at b0),f85,↓qC,Nat.reduceAdd,r1,rc1]
    rw[←hC]
    simp only[zQ,apx,r3,ww,ats,rd2,ly,e3]
    refine⟨zA,?_⟩
    have hne:K.length≠r:=by omega
    have hK3:K.length=H.length+3:=by rw[K1];simp
    refine⟨_,l++[mkNd k n a c hw],y,rfl,⟨ats _ _,List.getElem?_set_self hcl,.inr ⟨K.length,[],by rw[hy,List.length_append];rfl,?_⟩,?_⟩,⟨?_,fun i hi hir hx=>?_,fun i hi _=>?_⟩,⟨grw_put hl2 (show kJ _ _ _ _ _ from ok),.inr ⟨l.length,_,rfl,?_,mkNd_is _ _ _ _ hw,ok,.inr ⟨_,rfl,mkNd_is _ _ _ _ hw⟩⟩⟩,?_,fun _ _=>by simp⟩
    ·rw[List.getElem?_set_ne (Ne.symm hne),yD,List.append_nil]
     rfl
    ·rw[hy]
     exact .sl (by omega)
    ·rw[List.length_set,List.length_append]
     omega
    ·rw[List.getElem?_set_ne (Ne.symm hir),yS K _ i (by omega),K2 i hx]
     exact((e0.trans e1).trans e2).2 i hi
    ·rw[hy]
     exact .sl (by omega)
    ·rw[List.getElem?_append_right (Nat.le_refl _),Nat.sub_self]
     rfl
    ·intro q kk hx
     obtain⟨m,hm⟩:=K4 q kk hx
     have hqr:q≠r:=fun e=>P2.2.2.2 q 0 _ _ hx e.symm
     have hqK:=qP hm
     refine .dead (s:=K.length) (m:=m) ?_ (by omega) (.live (m:=[mkNd k n a c hw]) hy ?_)
     ·rw[List.getElem?_set_ne (Ne.symm hqr),yS K _ q hqK,hm,←K1]
     ·rw[List.getElem?_set_ne (Ne.symm hne),yD]
      rfl
  ·simp only[↓zP,zQ,↓qC,Nat.reduceLT]
   rw[←hB]
   refine zD [(0,0),(4,0)] ?_
   simp only[↓zP,zQ,Nat.reduceLT,Nat.reduceEqDiff,b0,f85,reduceCtorEq,qJ,r0,rc,lx]
   refine qN rfl cn ?_
   simp only[↓zP,zQ,Nat.reduceLT,↓qC]
   refine⟨qI (yC rfl) (qI (yC rfl) (qH)),?_⟩
   refine zD [(3,0),(4,0)] ?_
   simp only[↓zP,zQ,Nat.reduceLT,reduceCtorEq,qJ,Nat.reduceEqDiff,b0,f85,r0,rc]
   refine qF rfl c1 ?_
   have kj:(0:Int)≤(j:Int):=by omega
   simp only[↓zP,zQ,Nat.reduceLT,↓qC,kj,Nat.reduceEqDiff]
   refine⟨qI (yC rfl) (qI (yC rfl) (qH)),?_⟩
   exact⟨_,l,x,rfl,xB P1,Only.ext (e0.trans e1) r x,⟨Grw.refl l,.inr ⟨j,p,rfl,hp,hq,ok,.inl rfl⟩⟩,stl_same P1.2.2.1,fun _ _ h=>by rw[h] at hp;cases hp⟩
 ·rw[decide_eq_false ok] at cn
  simp only[↓zP,zQ,↓qC,Nat.reduceLT]
  rw[←hB]
  refine zD [(0,0),(4,0)] ?_
  simp only[↓zP,zQ,Nat.reduceLT,Nat.reduceEqDiff,b0,f85,reduceCtorEq,qJ,r0,rc,lx]
  refine qN rfl cn ?_
  simp only[↓zP,zQ,Nat.reduceLT,↓qC]
  refine⟨qI (yC rfl) (qI (yC rfl) (qH)),?_⟩
  exact⟨-1,l,x,rfl,xB P0,Only.ext e0 r x,⟨Grw.refl l,.inl ⟨rfl,rfl⟩⟩,stl_same P0.2.2.1,fun h=>absurd h ok⟩
theorem putS {H:qE}{r off:Nat}{cs:List AV}{x:AV}{l:List (Rw qK)}(hP:PlN H r off cs x l)(hl:l.length≤3000)(k n a c:Int) :
  ∃ (v:Int)(l':List (Rw qK))(x':AV)(Z:qE),Sound Tryz.prog 61 [.ptr r off,nv k n a c] H (.sc (.int .i64 v)) Z∧PlN Z r off (cs.set off x') x' l'∧Only H Z r x x'∧PutR l k n a c l' v:=by
 obtain⟨v,l',x',Z,h1,h2,h3,h4,_⟩:=putT hP hl k n a c
 exact⟨v,l',x',Z,h1,h2,h3,h4⟩
def W64 (z:Int):Prop := -9223372036854775808≤z∧z≤9223372036854775807
theorem W64.wf {z:Int}(h:W64 z):(Lit.int .i64 z).wf=true:=wf_in h
theorem W64.of {z:Int}(h:(Lit.int .i64 z).wf=true):W64 z:=by
 simp only[Lit.wf,Bool.and_eq_true,decide_eq_true_eq] at h
 exact h
theorem W64.wrap (z:Int):W64 (IntKind.i64.wrap z):=by
 rw[IntKind.wrap_i64]
 unfold W64
 omega
theorem Rw.w64 {ks:List Kd}(r:Rw ks)(j:Nat)(h:ks[j]?=some (.i .i64)):W64 (r.int j):=.of (r.int_at j h).2
def RowOk (ks:List Kd)(cs:List AV):Prop:=∃ p:Rw ks,p.cs=cs
theorem RowOk.nil:RowOk [] []:=⟨⟨[],rfl,fun i k v h _=>by simp at h⟩,rfl⟩
theorem RowOk.cons {ks:List Kd}{cs:List AV}{k:Kd}{v:Value}(h:k.ok v)(r:RowOk ks cs):RowOk (k :: ks) (.sc v :: cs):=by
 obtain⟨⟨vs,h1,h2⟩,rfl⟩:=r
 refine⟨⟨v :: vs,by simp[h1],fun i k' v' a b=>?_⟩,rfl⟩
 cases i with
 | zero=>simp at a b;subst a;subst b;exact h
 | succ i=>exact h2 i k' v' (by simpa using a) (by simpa using b)
theorem RowOk.int {ks:List Kd}{cs:List AV}{z:Int}(h:W64 z)(r:RowOk ks cs):RowOk (.i .i64 :: ks) (.sc (.int .i64 z) :: cs):=.cons ⟨z,rfl,h.wf⟩ r
theorem RowOk.bool {ks:List Kd}{cs:List AV}{b:Bool}(r:RowOk ks cs):RowOk (.b :: ks) (.sc (.bool b) :: cs):=.cons ⟨b,rfl⟩ r
theorem RowOk.of {ks:List Kd}(p:Rw ks):RowOk ks p.cs:=⟨p,rfl⟩
theorem RowOk.app {ks js:List Kd}{cs ds:List AV}(a:RowOk ks cs)(b:RowOk js ds):RowOk (ks++js) (cs++ds):=by
 obtain⟨⟨vs,h1,h2⟩,rfl⟩:=a
 obtain⟨⟨us,g1,g2⟩,rfl⟩:=b
 refine⟨⟨vs++us,by simp[h1,g1],fun i k v a b=>?_⟩,by simp[Rw.cs]⟩
 rcases Nat.lt_or_ge i ks.length with h | h
 ·rw[List.getElem?_append_left h] at a
  rw[List.getElem?_append_left (by omega)] at b
  exact h2 i k v a b
 ·rw[List.getElem?_append_right h] at a
  rw[List.getElem?_append_right (by omega),h1] at b
  exact g2 _ k v a b
theorem RowOk.take {ks:List Kd}{cs:List AV}(a:RowOk ks cs)(n:Nat):RowOk (ks.take n) (cs.take n):=by
 obtain⟨⟨vs,h1,h2⟩,rfl⟩:=a
 refine⟨⟨vs.take n,by simp[h1],fun i k v a b=>?_⟩,by simp[Rw.cs,List.map_take]⟩
 rw[List.getElem?_take] at a b
 split at a
 ·rename_i hi
  rw[if_pos hi] at b
  exact h2 i k v a b
 ·cases a
theorem RowOk.drop {ks:List Kd}{cs:List AV}(a:RowOk ks cs)(n:Nat):RowOk (ks.drop n) (cs.drop n):=by
 obtain⟨⟨vs,h1,h2⟩,rfl⟩:=a
 refine⟨⟨vs.drop n,by simp[h1],fun i k v a b=>?_⟩,by simp[Rw.cs,List.map_drop]⟩
 rw[List.getElem?_drop] at a b
 exact h2 _ k v a b
theorem RowOk.len {ks:List Kd}{cs:List AV}(a:RowOk ks cs):cs.length=ks.length:=by
 obtain⟨p,rfl⟩:=a
 exact p.cs_len
theorem RowOk.over {ks js:List Kd}{cs ds:List AV}{n:Nat}(a:RowOk ks cs)(b:RowOk js ds)(h:(ks.drop n).take js.length=js)(hn:n≤ks.length):RowOk ks (qW cs n ds):=by
 have e:ks.take n++js++ks.drop (n+js.length)=ks:=by
  conv=>rhs;rw[←List.take_append_drop n ks,←List.take_append_drop js.length (ks.drop n),h,List.drop_drop]
  rw[List.append_assoc]
 have:=((a.take n).app b).app (a.drop (n+js.length))
 rw[e] at this
 unfold qW
 rwa [(b.len)]
def OwnX {α:Type}(f:α→List AV)(m:Nat)(H:qE)(x:AV)(l:List α):Prop:=(x=.sc (.slice none 0 0)∧l=[])∨∃ r,x=.sl r 0 l.length m∧H[r]?=some {cs:=rows f l}
section
variable {α : Type} {f : α → List AV} {m : Nat} {H Z : qE} {x : AV} {l : List α}
theorem OwnX.own (h:OwnX f m H x l):OwnF f m H x l:=by
 rcases h with h | ⟨r,h1,h2⟩
 ·exact .inl h
 ·exact .inr ⟨r,[],h1,by rw[List.append_nil];exact h2⟩
theorem OwnX.isR {ks:List Kd}{l:List (Rw ks)}(h:OwnX Rw.cs ks.length H x l):IsR H x l:=by
 rcases h with h | ⟨r,h1,h2⟩
 ·exact .inl h
 ·exact .inr ⟨r,true,h1,h2⟩
theorem OwnX.nil:OwnX f m H (.sc (.slice none 0 0)) []:=.inl ⟨rfl,rfl⟩
theorem OwnX.one (h:OwnX f m H x l):x.cells=[x]∧x.one=true:=h.own.one
theorem OwnX.len (e:TypeId)(h:OwnX f m H x l):lenV (some (.slice e)) x=some (.sc (.int .i64 l.length)):=h.own.len e
theorem OwnX.keep (h:OwnX f m H x l)(k:∀ i,i<H.length→¬ NotIn x i→Z[i]?=H[i]?):OwnX f m Z x l:=by
 rcases h with h | ⟨r,rfl,hr⟩
 ·exact .inl h
 ·exact .inr ⟨r,rfl,(k r (qP hr) (fun h=>h r 0 _ _ rfl rfl)).trans hr⟩
theorem OwnX.ext (h:OwnX f m H x l)(e:Ext H Z):OwnX f m Z x l:=h.keep fun i hi _=>e.2 i hi
theorem OwnX.lt (h:OwnX f m H x l){i:Nat}(hi:H.length≤i):NotIn x i:=h.own.lt hi
theorem OwnX.get (h:OwnX f m H x l){i:Nat}(hi:i<l.length):∃ r,x=.sl r 0 l.length m∧H[r]?=some {cs:=rows f l}:=by
 rcases h with ⟨_,rfl⟩ | h
 ·simp at hi
 ·exact h
theorem OwnX.src (he:Enc f m)(h:OwnX f m H x l):qU H x m=some (rows f l):=by
 rcases h with ⟨rfl,rfl⟩ | ⟨r,rfl,hr⟩
 ·rfl
 ·rw[src_slR,hr,at_rows he]
  simp
end
def intF (z:Int):List AV:=[.sc (.int .i64 z)]
theorem vD:Enc intF 1:=⟨fun _=>rfl,fun _=>rfl,by decide⟩
theorem rows_intF (l:List Int):rows intF l=ints .i64 l:=by
 induction l with
 | nil=>rfl
 | cons a l ih=>rw[kC,ih];rfl
theorem OwnX.isL {H:qE}{x:AV}{l:List Int}(h:OwnX intF 1 H x l):IsL H x .i64 l:=by
 rcases h with h | ⟨r,h1,h2⟩
 ·exact .inl h
 ·exact .inr ⟨r,true,h1,by rw[←rows_intF];exact h2⟩
inductive CK:Type 1 where
 | int (P:Int→Prop)
 | own {α:Type} (f:α→List AV) (m:Nat) (P:List α→Prop)
 | nds (P:List (Rw qK)→Prop)
def CkOk (H:qE):CK→AV→Prop
 | .int P,x=>∃ z,x=.sc (.int .i64 z)∧P z
 | .own f m P,x=>∃ l,OwnX f m H x l∧P l
 | .nds P,x=>∃ l,OwnN H x l∧P l
theorem CkOk.one {H:qE}{k:CK}{x:AV}(h:CkOk H k x):x.cells=[x]∧x.one=true:=by
 cases k with
 | int P=>obtain⟨z,rfl,_⟩:=h;exact⟨rfl,rfl⟩
 | own f m P=>obtain⟨l,h,_⟩:=h;exact h.one
 | nds P=>obtain⟨l,h,_⟩:=h;exact h.one
theorem CkOk.keep {H Z:qE}{k:CK}{x:AV}(h:CkOk H k x)(g:∀ i,i<H.length→¬ NotIn x i→Z[i]?=H[i]?):CkOk Z k x:=by
 cases k with
 | int P=>exact h
 | own f m P=>obtain⟨l,h,p⟩:=h;exact⟨l,h.keep g,p⟩
 | nds P=>obtain⟨l,h,p⟩:=h;exact⟨l,OwnF.keep h g,p⟩
theorem CkOk.lt {H:qE}{k:CK}{x:AV}(h:CkOk H k x){i:Nat}(hi:H.length≤i):NotIn x i:=by
 cases k with
 | int P=>obtain⟨z,rfl,_⟩:=h;exact fun r o n k e=>by cases e
 | own f m P=>obtain⟨l,h,p⟩:=h;exact h.lt hi
 | nds P=>obtain⟨l,h,p⟩:=h;exact OwnF.lt h hi
structure Wd (H:qE) (r:Nat) (K:List CK) (cs:List AV):Prop where
 at_:H[r]?=some {cs:=cs}
 len:cs.length=K.length
 ok:∀ (i:Nat) k x,K[i]?=some k→cs[i]?=some x→CkOk H k x
 out:∀ x,x∈cs→NotIn x r
 sep:∀ (i j:Nat) x y q,i≠j→cs[i]?=some x→cs[j]?=some y→¬ NotIn x q→NotIn y q
structure OnlyW (H Z:qE) (r:Nat) (cs cs':List AV):Prop where
 le:H.length≤Z.length
 at_:∀ i,i<H.length→i≠r→(∀ x,x∈cs→NotIn x i)→Z[i]?=H[i]?
 nw:∀ i,i<H.length→(∀ x,x∈cs→NotIn x i)→∀ y,y∈cs'→NotIn y i
theorem OnlyW.refl (H:qE)(r:Nat)(cs:List AV):OnlyW H H r cs cs:=⟨Nat.le_refl _,fun _ _ _ _=>rfl,fun _ _ h=>h⟩
theorem OnlyW.trans {H Z Y:qE}{r:Nat}{a b c:List AV}(h:OnlyW H Z r a b)(k:OnlyW Z Y r b c):OnlyW H Y r a c:=
 ⟨Nat.le_trans h.le k.le,fun i hi hr hx=>(k.at_ i (Nat.lt_of_lt_of_le hi h.le) hr (h.nw i hi hx)).trans (h.at_ i hi hr hx),fun i hi hx=>k.nw i (Nat.lt_of_lt_of_le hi h.le) (h.nw i hi hx)⟩
theorem OnlyW.ext {H Z:qE}(e:Ext H Z)(r:Nat)(cs:List AV):OnlyW H Z r cs cs:=⟨e.1,fun i hi _ _=>e.2 i hi,fun _ _ h=>h⟩
section
variable {H Z : qE} {r : Nat} {K : List CK} {cs : List AV}
theorem Wd.lt (h:Wd H r K cs):r<H.length:=qP h.at_
theorem Wd.ext (h:Wd H r K cs)(e:Ext H Z):Wd Z r K cs:=⟨e.at h.at_,h.len,fun i k x a b=>(h.ok i k x a b).keep fun j hj _=>e.2 j hj,h.out,h.sep⟩
theorem Wd.keep (h:Wd H r K cs)(hr:Z[r]?=H[r]?)(g:∀ i,i<H.length→(∃ x,x∈cs∧¬ NotIn x i)→Z[i]?=H[i]?):Wd Z r K cs:=
 ⟨hr.trans h.at_,h.len,fun i k x a b=>(h.ok i k x a b).keep fun j hj hx=>g j hj ⟨x,List.mem_of_getElem? b,hx⟩,h.out,h.sep⟩
theorem Wd.mono {K':List CK}(h:Wd H r K cs)(hl:K'.length=K.length)(g:∀ (i:Nat) k k' x,K[i]?=some k→K'[i]?=some k'→CkOk H k x→CkOk H k' x):Wd H r K' cs:=
 ⟨h.at_,h.len.trans hl.symm,fun i k x a b=>by
  have hi:i<K.length:=by rw[←hl];exact(List.getElem?_eq_some_iff.1 a).1
  exact g i _ k x (List.getElem?_eq_getElem hi) a (h.ok i _ x (List.getElem?_eq_getElem hi) b),h.out,h.sep⟩
theorem Wd.get (h:Wd H r K cs)(i:Nat){k:CK}(hk:K[i]?=some k):∃ x,cs[i]?=some x∧CkOk H k x:=by
 have hi:i<cs.length:=by rw[h.len];exact(List.getElem?_eq_some_iff.1 hk).1
 exact⟨_,List.getElem?_eq_getElem hi,h.ok i k _ hk (List.getElem?_eq_getElem hi)⟩
theorem Wd.put {i:Nat}{k:CK}{x y:AV}(h:Wd H r K cs)(hi:cs[i]?=some x)(hk:K[i]?=some k)(hl:H.length≤Z.length)(hf:∀ j,j<H.length→j≠r→NotIn x j→Z[j]?=H[j]?)
  (hr:Z[r]?=some {cs:=cs.set i y}) (hy:CkOk Z k y) (hn:∀ j,j<H.length→NotIn x j→NotIn y j):Wd Z r K (cs.set i y)∧OnlyW H Z r cs (cs.set i y):=by
 have hc:i<cs.length:=(List.getElem?_eq_some_iff.1 hi).1
 have hx:x∈cs:=List.mem_of_getElem? hi
 have key:∀ (j:Nat) z,(cs.set i y)[j]?=some z→(j=i∧z=y)∨(j≠i∧cs[j]?=some z):=fun j z hz=>by
  by_cases e:j=i
  ·subst e
   rw[List.getElem?_set_self hc] at hz
   exact .inl ⟨rfl,(Option.some.inj hz).symm⟩
  ·rw[List.getElem?_set_ne (Ne.symm e)] at hz
   exact .inr ⟨e,hz⟩
 have old:∀ (j:Nat) z,j≠i→cs[j]?=some z→∀ q,¬ NotIn z q→q<H.length∧q≠r∧NotIn x q:=fun j z hj hz q hq=>by
  have hjK:j<K.length:=by rw[←h.len];exact(List.getElem?_eq_some_iff.1 hz).1
  refine⟨?_,?_,h.sep j i z x q hj hz hi hq⟩
  ·rcases Nat.lt_or_ge q H.length with g | g
   ·exact g
   ·exact absurd ((h.ok j _ z (List.getElem?_eq_getElem hjK) hz).lt g) hq
  ·rintro rfl
   exact hq (h.out z (List.mem_of_getElem? hz))
 refine⟨⟨hr,by rw[List.length_set];exact h.len,?_,?_,?_⟩,⟨hl,fun j hj hr hx'=>hf j hj hr (hx' x hx),?_⟩⟩
 ·intro j k' z hK hz
  rcases key j z hz with ⟨rfl,rfl⟩ | ⟨e,hz⟩
  ·rw[hk] at hK
   cases hK
   exact hy
  ·refine(h.ok j k' z hK hz).keep fun q hq hzq=>?_
   obtain⟨_,g2,g3⟩:=old j z e hz q hzq
   exact hf q hq g2 g3
 ·intro z hz
  obtain⟨j,hj⟩:=List.getElem?_of_mem hz
  rcases key j z hj with ⟨rfl,rfl⟩ | ⟨_,hj⟩
  ·exact hn r h.lt (h.out x hx)
  ·exact h.out z (List.mem_of_getElem? hj)
 ·intro a b u v q hab ha hb hq
  rcases key a u ha with ⟨rfl,rfl⟩ | ⟨ea,ha⟩
  ·rcases key b v hb with ⟨rfl,rfl⟩ | ⟨eb,hb⟩
   ·exact absurd rfl hab
   ·rcases Nat.lt_or_ge q H.length with g | g
    ·refine h.sep a b x v q hab hi hb fun hx=>hq (hn q g hx)
    ·have hbK:b<K.length:=by rw[←h.len];exact(List.getElem?_eq_some_iff.1 hb).1
     exact(h.ok b _ v (List.getElem?_eq_getElem hbK) hb).lt g
  ·obtain⟨g1,g2,g3⟩:=old a u ea ha q hq
   rcases key b v hb with ⟨rfl,rfl⟩ | ⟨eb,hb⟩
   ·exact hn q g1 g3
   ·exact h.sep a b u v q hab ha hb hq
 ·intro j hj hx' z hz
  obtain⟨a,ha⟩:=List.getElem?_of_mem hz
  rcases key a z ha with ⟨rfl,rfl⟩ | ⟨_,ha⟩
  ·exact hn j hj (hx' x hx)
  ·exact hx' z (List.mem_of_getElem? ha)
theorem Wd.setI {i:Nat}{P:Int→Prop}{z:Int}(h:Wd H r K cs)(hk:K[i]?=some (.int P))(hz:P z):Wd (H.set r {cs:=cs.set i (.sc (.int .i64 z))}) r K (cs.set i (.sc (.int .i64 z)))∧OnlyW H (H.set r {cs:=cs.set i (.sc (.int .i64 z))}) r cs (cs.set i (.sc (.int .i64 z))):=by
 obtain⟨x,hx,_⟩:=h.get i hk
 exact h.put hx hk (by rw[List.length_set];exact Nat.le_refl _) (fun j _ hj _=>List.getElem?_set_ne (Ne.symm hj)) (List.getElem?_set_self h.lt) ⟨z,rfl,hz⟩ (fun _ _ _ _ _ _ _ e=>by cases e)
theorem Wd.setN {i:Nat}{k:CK}{x y:AV}{G:qE}(h:Wd H r K cs)(hk:K[i]?=some k)(e:Ext H Z)(hy:CkOk Z k y)(hn:∀ j,j<H.length→NotIn y j):Wd (Z.set r {cs:=cs.set i y}) r K (cs.set i y)∧OnlyW H (Z.set r {cs:=cs.set i y}) r cs (cs.set i y):=by
 obtain⟨x,hx,_⟩:=h.get i hk
 refine h.put hx hk (by rw[List.length_set];exact e.1) (fun j hj hr _=>(List.getElem?_set_ne (Ne.symm hr)).trans (e.2 j hj)) (List.getElem?_set_self (Nat.lt_of_lt_of_le h.lt e.1)) (hy.keep fun j hj hq=>List.getElem?_set_ne ?_) (fun j hj _=>hn j hj)
 rintro rfl
 exact hq (hn _ h.lt)
theorem Wd.pln {i:Nat}{P:List (Rw qK)→Prop}(h:Wd H r K cs)(hk:K[i]?=some (.nds P)):∃ x l,PlN H r i cs x l∧P l:=by
 obtain⟨x,hx,l,hl,p⟩:=h.get i hk
 exact⟨x,l,⟨h.at_,hx,hl,h.out x (List.mem_of_getElem? hx)⟩,p⟩
theorem Wd.unpln {i:Nat}{P:List (Rw qK)→Prop}{x x':AV}{l':List (Rw qK)}(h:Wd H r K cs)(hk:K[i]?=some (.nds P))(hx:cs[i]?=some x)(p:PlN Z r i (cs.set i x') x' l')(o:Only H Z r x x')(q:P l'):Wd Z r K (cs.set i x')∧OnlyW H Z r cs (cs.set i x'):=
 h.put hx hk o.1 o.2.1 p.1 ⟨l',p.2.2.1,q⟩ o.2.2
theorem own_ap {α:Type}{f:α→List AV}{m B:Nat}{e:TypeId}(hs:∀ r len x H,vK Tryz.prog (some (.slice e)) (some (.slice e)) (.sl r 0 len m) x H=apR m B H r len H[r]? (qU H x m))
  (hn:∀ x H,vK Tryz.prog (some (.slice e)) (some (.slice e)) (.sc (.slice none 0 0)) x H=apRN m B H (qU H x m)) (he:Enc f m) {x y:AV} {l l2:List α} (hx:OwnX f m H x l) (hy:qU H y m=some (rows f l2)) (hb:(l.length+l2.length)*B≤140737488355328∧l.length+l2.length*m≤140737488355328) :
  ∃ (x':AV)(G:qE),vK Tryz.prog (some (.slice e)) (some (.slice e)) x y H=some (x',G)∧OwnX f m G x' (l++l2)∧H.length≤G.length∧(∀ j,j<H.length→NotIn x j→G[j]?=H[j]?)∧(∀ j,j<H.length→NotIn x j→NotIn x' j):=by
 rcases hx with ⟨rfl,rfl⟩ | ⟨r,rfl,hr⟩
 ·rw[hn,hy]
  have h1:l2.length*m / m=l2.length:=Nat.mul_div_cancel _ he.pos
  simp only[apRN,jE he,rows_all he,h1,and_true]
  rw[if_pos ⟨by simpa using hb.1,by simpa using hb.2⟩]
  by_cases h0:l2.length*m=0
  ·rw[if_pos h0]
   have:l2=[]:=by
    rcases Nat.mul_eq_zero.1 h0 with h | h
    ·exact List.eq_nil_of_length_eq_zero h
    ·have:=he.pos;omega
   subst this
   exact⟨_,_,rfl,.nil,Nat.le_refl _,fun _ _ _=>rfl,fun _ _ h=>h⟩
  ·rw[if_neg h0]
   refine⟨_,_,rfl,.inr ⟨H.length,rfl,yA _ _⟩,by simp,fun j hj _=>yS _ _ _ hj,fun j hj _=>.sl (by omega)⟩
 ·rw[hs,hr,hy,ap_rows he,if_pos ⟨Nat.le_refl _,hb.1,hb.2⟩,List.take_length]
  refine⟨_,_,rfl,.inr ⟨H.length,by simp,by have hk:(yG H r).length=H.length:=yZ .. ;rw[←hk];exact yA _ _⟩,by simp[yZ],fun j hj hq=>?_,fun j hj _=>.sl (by omega)⟩
  rw[yS _ _ _ (by rw[yZ];exact hj),uR _ _ _ (hq r _ _ _ rfl)]
end
section
variable {ks : List Kd}
def Rw.boo (r:Rw ks)(j:Nat):Bool:=match r.val[j]? with | some (.bool b)=>b | _=>false
theorem Rw.boo_at (r:Rw ks)(j:Nat)(h:ks[j]?=some .b):r.cs[j]?=some (.sc (.bool (r.boo j))):=by
 have hv:=List.getElem?_eq_getElem (by rw[r.ok.1];exact(List.getElem?_eq_some_iff.1 h).1:j<r.val.length)
 obtain⟨b,hb⟩:=r.ok.2 j _ _ h hv
 rw[hb] at hv
 have e:r.boo j=b:=by simp only[Rw.boo,hv]
 rw[e,Rw.cs,List.getElem?_map,hv]
 rfl
theorem Rw.int_of (r:Rw ks){j:Nat}{z:Int}(h:r.cs[j]?=some (.sc (.int .i64 z))):r.int j=z:=by
 rw[Rw.cs,List.getElem?_map] at h
 cases hv:r.val[j]? with
 | none=>rw[hv] at h;cases h
 | some v =>
  rw[hv] at h
  simp only[Option.map_some,Option.some.injEq,AV.sc.injEq] at h
  subst h
  simp only[Rw.int,hv]
theorem Rw.boo_of (r:Rw ks){j:Nat}{b:Bool}(h:r.cs[j]?=some (.sc (.bool b))):r.boo j=b:=by
 rw[Rw.cs,List.getElem?_map] at h
 cases hv:r.val[j]? with
 | none=>rw[hv] at h;cases h
 | some v =>
  rw[hv] at h
  simp only[Option.map_some,Option.some.injEq,AV.sc.injEq] at h
  subst h
  simp only[Rw.boo,hv]
theorem Rw.same_int {p q:Rw ks}{j:Nat}(h:q.cs[j]?=p.cs[j]?):q.int j=p.int j:=by
 rw[Rw.cs,Rw.cs,List.getElem?_map,List.getElem?_map] at h
 have:q.val[j]?=p.val[j]?:=by
  revert h
  cases q.val[j]?<;>cases p.val[j]?<;>simp
 simp only[Rw.int,this]
theorem Rw.same_boo {p q:Rw ks}{j:Nat}(h:q.cs[j]?=p.cs[j]?):q.boo j=p.boo j:=by
 rw[Rw.cs,Rw.cs,List.getElem?_map,List.getElem?_map] at h
 have:q.val[j]?=p.val[j]?:=by
  revert h
  cases q.val[j]?<;>cases p.val[j]?<;>simp
 simp only[Rw.boo,this]
theorem Rw.rdI (p:Rw ks){j:Nat}(hk:ks[j]?=some (.i .i64))(o:Bool)(k:Nat):jG true false k (some ⟨p.cs,o,true⟩) j=some (.sc (.int .i64 (p.int j))):=qL (p.int_at j hk).1 o k
theorem Rw.rdB (p:Rw ks){j:Nat}(hk:ks[j]?=some .b)(o:Bool)(k:Nat):jG true false k (some ⟨p.cs,o,true⟩) j=some (.sc (.bool (p.boo j))):=qL (p.boo_at j hk) o k
theorem Rw.rdA (p:Rw ks){m:Nat}(hm:ks.length=m)(o:Bool):jG true true m (some ⟨p.cs,o,true⟩) 0=some (.agg p.cs):=by
 have h:p.cs.length=m:=p.cs_len.trans hm
 simp only[jG,if_true,true_and,Nat.zero_add,h,Nat.le_refl,List.drop_zero,List.take_of_length_le (Nat.le_of_eq h)]
theorem Rw.ones (p:Rw ks):p.cs.all AV.one=true:=by
 refine List.all_eq_true.2 fun x hx=>?_
 obtain⟨v,hv,rfl⟩:=List.mem_map.1 hx
 obtain⟨i,hi⟩:=List.getElem?_of_mem hv
 have hlt:=(List.getElem?_eq_some_iff.1 hi).1
 rw[p.ok.1] at hlt
 exact(p.ok.2 i ks[i] v (List.getElem?_eq_getElem hlt) hi).one
theorem over_set (cs:List AV)(j:Nat)(y:AV)(h:j<cs.length):qW cs j [y]=cs.set j y:=by
 rw[List.set_eq_take_append_cons_drop,if_pos h,qW]
 simp
theorem Rw.wr1 (p:Rw ks){j:Nat}{k:Kd}{v:Value}(hk:ks[j]?=some k)(hv:k.ok v)(h1:(AV.sc v).cells=[.sc v]):∃ q:Rw ks,q.cs=p.cs.set j (.sc v)∧∀ (H:qE)(r:Nat),uJ true 1 H r (some ⟨p.cs,true,true⟩) j (.sc v)=some (H.set r ⟨q.cs,true,true⟩):=by
 have hj:j<ks.length:=(List.getElem?_eq_some_iff.1 hk).1
 have hl:j<p.cs.length:=by rw[p.cs_len];exact hj
 have hq:RowOk ks (p.cs.set j (.sc v)):=by
  refine⟨⟨p.val.set j v,by rw[List.length_set];exact p.ok.1,fun i k' v' a b=>?_⟩,by rw[Rw.cs,Rw.cs,List.map_set]⟩
  by_cases e:j=i
  ·subst e
   rw[hk] at a
   cases a
   rw[List.getElem?_set_self (by rw[p.ok.1];exact hj)] at b
   cases b
   exact hv
  ·rw[List.getElem?_set_ne e] at b
   exact p.ok.2 i k' v' a b
 obtain⟨q,hq⟩:=hq
 refine⟨q,hq,fun H r=>?_⟩
 have h2:([AV.sc v]:List AV).all AV.one=true:=by simp[hv.one]
 have h3:j+1≤p.cs.length:=hl
 simp only[uJ,h1,h2,h3,List.length_singleton,and_self,if_true,over_set _ _ _ hl,hq]
theorem Rw.wrI (p:Rw ks){j:Nat}{z:Int}(hk:ks[j]?=some (.i .i64))(hz:W64 z):∃ q:Rw ks,(∀ (H:qE)(r:Nat),uJ true 1 H r (some {cs:=p.cs}) j (.sc (.int .i64 z))=some (H.set r {cs:=q.cs}))∧q.int j=z∧(∀ i,i≠j→q.int i=p.int i)∧∀ i,i≠j→q.boo i=p.boo i:=by
 obtain⟨q,h1,h2⟩:=p.wr1 hk (v:=.int .i64 z) ⟨z,rfl,hz.wf⟩ rfl
 have hl:j<p.cs.length:=by rw[p.cs_len];exact(List.getElem?_eq_some_iff.1 hk).1
 exact⟨q,h2,q.int_of (by rw[h1];exact List.getElem?_set_self hl),fun i hi=>Rw.same_int (by rw[h1];exact List.getElem?_set_ne (Ne.symm hi)),fun i hi=>Rw.same_boo (by rw[h1];exact List.getElem?_set_ne (Ne.symm hi))⟩
theorem Rw.wrB (p:Rw ks){j:Nat}{b:Bool}(hk:ks[j]?=some .b):∃ q:Rw ks,(∀ (H:qE)(r:Nat),uJ true 1 H r (some {cs:=p.cs}) j (.sc (.bool b))=some (H.set r {cs:=q.cs}))∧q.boo j=b∧(∀ i,i≠j→q.int i=p.int i)∧∀ i,i≠j→q.boo i=p.boo i:=by
 obtain⟨q,h1,h2⟩:=p.wr1 hk (v:=.bool b) ⟨b,rfl⟩ rfl
 have hl:j<p.cs.length:=by rw[p.cs_len];exact(List.getElem?_eq_some_iff.1 hk).1
 exact⟨q,h2,q.boo_of (by rw[h1];exact List.getElem?_set_self hl),fun i hi=>Rw.same_int (by rw[h1];exact List.getElem?_set_ne (Ne.symm hi)),fun i hi=>Rw.same_boo (by rw[h1];exact List.getElem?_set_ne (Ne.symm hi))⟩
theorem Rw.wrA (p q:Rw ks){m:Nat}(hm:ks.length=m)(H:qE)(r:Nat):uJ true m H r (some ⟨p.cs,true,true⟩) 0 (.agg q.cs)=some (H.set r ⟨q.cs,true,true⟩):=by
 have h1:(AV.agg q.cs).cells=q.cs:=rfl
 have h2:q.cs.length=m:=q.cs_len.trans hm
 have h3:p.cs.length=m:=p.cs_len.trans hm
 simp only[uJ,h1,h2,h3,q.ones,Nat.zero_add,Nat.le_refl,and_self,if_true,over_all _ _ (h2.trans h3.symm)]
theorem Rw.part (p:Rw ks){js:List Kd}{j:Nat}(h:(ks.drop j).take js.length=js):∃ c:Rw js,c.cs=(p.cs.drop j).take js.length∧(∀ i,i<js.length→c.int i=p.int (j+i)):=by
 have hc:=((RowOk.of p).drop j).take js.length
 rw[h] at hc
 obtain⟨c,hc⟩:=hc
 refine⟨c,hc,fun i hi=>?_⟩
 have e:c.val[i]?=p.val[j+i]?:=by
  have:c.cs[i]?=p.cs[j+i]?:=by rw[hc,List.getElem?_take_of_lt hi,List.getElem?_drop]
  rw[Rw.cs,Rw.cs,List.getElem?_map,List.getElem?_map] at this
  revert this
  cases c.val[i]?<;>cases p.val[j+i]?<;>simp
 simp only[Rw.int,e]
theorem Rw.rdP (p:Rw ks){j m:Nat}(h:j+m≤ks.length)(o:Bool):jG true true m (some ⟨p.cs,o,true⟩) j=some (.agg ((p.cs.drop j).take m)):=by
 simp only[jG,if_true,true_and,(by rw[p.cs_len];exact h:j+m≤p.cs.length)]
theorem Rw.wrP (p:Rw ks){js:List Kd}{j m:Nat}(hm:js.length=m)(h:(ks.drop j).take js.length=js)(hj:j≤ks.length){cs:List AV}(hc:RowOk js cs):∃ q:Rw ks,(∀ (H:qE)(r:Nat),uJ true m H r (some ⟨p.cs,true,true⟩) j (.agg cs)=some (H.set r ⟨q.cs,true,true⟩))∧(∀ i,i<m→q.cs[j+i]?=cs[i]?)∧(∀ i,i<j∨j+m≤i→q.int i=p.int i)∧∀ i,i<j∨j+m≤i→q.boo i=p.boo i:=by
 obtain⟨q,hq⟩:=(RowOk.of p).over hc h hj
 have hl:cs.length=m:=hc.len.trans hm
 have hjm:j+m≤p.cs.length:=by
  have:=congrArg List.length h
  rw[List.length_take,List.length_drop] at this
  rw[p.cs_len]
  omega
 have old:∀ i,i<j∨j+m≤i→q.cs[i]?=p.cs[i]?:=by
  intro i hi
  rw[hq]
  unfold qW
  rcases hi with hi | hi
  ·rw[List.append_assoc,List.getElem?_append_left (by rw[List.length_take];omega),List.getElem?_take_of_lt hi]
  ·have e:(p.cs.take j++cs).length=j+m:=by rw[List.length_append,List.length_take,hl];omega
   rw[List.getElem?_append_right (by rw[e];exact hi),e,List.getElem?_drop,hl]
   congr 1
   omega
 refine⟨q,fun H r=>?_,fun i hi=>?_,fun i hi=>Rw.same_int (old i hi),fun i hi=>Rw.same_boo (old i hi)⟩
 ·obtain⟨c,hc'⟩:=hc
  have h1:(AV.agg cs).cells=cs:=rfl
  have h2:cs.all AV.one=true:=by rw[←hc'];exact c.ones
  simp only[uJ,h1,h2,hl,hjm,and_self,if_true,hq]
 ·rw[hq]
  unfold qW
  rw[List.append_assoc,List.getElem?_append_right (by rw[List.length_take];omega),List.length_take,Nat.min_eq_left (by omega),Nat.add_sub_cancel_left,List.getElem?_append_left (by omega)]
end
theorem Rw.chan {ks:List Kd}(p:Rw ks){j:Nat}(h:(ks.drop j).take 9=kChan)(o:Bool):jG true true 9 (some ⟨p.cs,o,true⟩) j=some (.agg [p.int j,p.int (j+1),p.int (j+2),p.int (j+3),p.int (j+4),p.int (j+5),p.int (j+6),p.int (j+7),p.int (j+8)]):=by
 have hj:j+9≤ks.length:=by
  have:=congrArg List.length h
  rw[List.length_take,List.length_drop] at this
  have e:kChan.length=9:=rfl
  omega
 rw[p.rdP hj o]
 obtain⟨c,h1,h2⟩:=p.part (js:=kChan) h
 have e:kChan.length=9:=rfl
 rw[e] at h1 h2
 rw[←h1]
 have hc:∀ i,i<9→c.cs[i]?=some (.sc (.int .i64 (p.int (j+i)))):=by
  intro i hi
  have hk:kChan[i]?=some (.i .i64):=by
   rcases i with _ | _ | _ | _ | _ | _ | _ | _ | _ | i
   all_goals first | rfl | omega
  rw[(c.int_at i hk).1,h2 i hi]
 have hl:c.cs.length=9:=c.cs_len
 congr 2
 apply List.ext_getElem?
 intro i
 rcases i with _ | _ | _ | _ | _ | _ | _ | _ | _ | i
 any_goals (rw[hc _ (by omega)];rfl)
 rw[List.getElem?_eq_none (by omega)]
 rfl
theorem Rw.wrC {ks:List Kd}(p:Rw ks){j:Nat}(h:(ks.drop j).take 9=kChan)(hj:j≤ks.length){u0 u1 u2 u3 u4 u5 u6 u7 u8:Int}(w0:W64 u0)(w1:W64 u1)(w2:W64 u2)(w3:W64 u3)(w4:W64 u4)(w5:W64 u5)(w6:W64 u6)(w7:W64 u7)(w8:W64 u8) :
  ∃ q:Rw ks,(∀ (H:qE)(r:Nat),uJ true 9 H r (some {cs:=p.cs}) j (.agg [u0,u1,u2,u3,u4,u5,u6,u7,u8])=some (H.set r {cs:=q.cs}))∧q.int j=u0∧(∀ i,i<j∨j+9≤i→q.int i=p.int i)∧∀ i,i<j∨j+9≤i→q.boo i=p.boo i:=by
 obtain⟨q,h1,h2,h3,h4⟩:=p.wrP (js:=kChan) (m:=9) rfl h hj (RowOk.int w0 (.int w1 (.int w2 (.int w3 (.int w4 (.int w5 (.int w6 (.int w7 (.int w8 .nil)))))))))
 exact⟨q,h1,q.int_of (j:=j) (h2 0 (by decide)),h3,h4⟩
theorem vB:xC Tryz.prog 48=some (Rw.zero kClient).cs:=by
 rw[zero48]
 rfl
theorem z65:xC Tryz.prog 65=some (Rw.zero kSess).cs:=by
 rw[zero65]
 rfl
section
attribute [local irreducible] kO uW kR wQ
def RdN (H:qE)(x:AV)(l:List (Rw qK)):Prop:=(x=.sc (.slice none 0 0)∧l=[])∨∃ r o rest,x=.sl r 0 l.length 4∧H[r]?=some ⟨rows Rw.cs (l++rest),o,true⟩
section
variable {H Z : qE} {x : AV} {l : List (Rw qK)}
theorem OwnN.rd (h:OwnN H x l):RdN H x l:=by
 rcases h with h | ⟨r,rest,h1,h2⟩
 ·exact .inl h
 ·exact .inr ⟨r,true,rest,h1,h2⟩
theorem RdN.one (h:RdN H x l):x.cells=[x]∧x.one=true:=by
 rcases h with ⟨rfl,rfl⟩ | ⟨r,o,rest,rfl,_⟩<;>exact⟨rfl,rfl⟩
theorem RdN.len (e:TypeId)(h:RdN H x l):lenV (some (.slice e)) x=some (.sc (.int .i64 l.length)):=by
 rcases h with ⟨rfl,rfl⟩ | ⟨r,o,rest,rfl,_⟩<;>rfl
theorem RdN.get (h:RdN H x l){i:Nat}(hi:i<l.length):∃ r rest o,x=.sl r 0 l.length 4∧H[r]?=some ⟨rows Rw.cs (l++rest),o,true⟩:=by
 rcases h with ⟨rfl,rfl⟩ | ⟨r,o,rest,h⟩
 ·simp at hi
 ·exact⟨r,rest,o,h⟩
theorem RdN.keep (h:RdN H x l)(k:∀ i,i<H.length→¬ NotIn x i→Z[i]?=H[i]?):RdN Z x l:=by
 rcases h with h | ⟨r,o,rest,rfl,hr⟩
 ·exact .inl h
 ·exact .inr ⟨r,o,rest,rfl,(k r (qP hr) (fun h=>h r 0 _ _ rfl rfl)).trans hr⟩
theorem RdN.ext (h:RdN H x l)(e:Ext H Z):RdN Z x l:=h.keep fun i hi _=>e.2 i hi
theorem RdN.lt (h:RdN H x l){i:Nat}(hi:H.length≤i):NotIn x i:=by
 rcases h with ⟨rfl,_⟩ | ⟨r,o,rest,rfl,hr⟩
 ·exact .nil i
 ·exact .sl (by have:=qP hr;omega)
end
def okAt (l:List (Rw qK))(k:Int):Prop:=∃ (j:Nat)(p:Rw qK),k=j∧l[j]?=some p∧okR p j
theorem nodeOkS {H:qE}{x:AV}{l:List (Rw qK)}(hx:RdN H x l)(hl:l.length≤1000000)(k:Int)(b:Bool)(hb:b=true↔okAt l k):∃ (B:Reg),Sound Tryz.prog 133 [.agg [x],k] H (.sc (.bool b)) (H++[B]):=by
 suffices h:∃ w Z,Sound Tryz.prog 133 [.agg [x],k] H w Z∧w=.sc (.bool b)∧∃ B:Reg,Z=H++[B] by
  obtain⟨w,Z,h1,rfl,B,rfl⟩:=h
  exact⟨B,h1⟩
 refine zR 20 [.tmp 4] Tryz.func133 ?_
 have o:=hx.one
 have lx:=fun e=>hx.len e
 have e1:IntKind.i64.wrap ((l.length:Int) - 1)=l.length - 1:=w64 (by omega) (by omega)
 obtain⟨A,hA⟩:∃ A:Reg,A={cs:=[x]}:=⟨_,rfl⟩
 have b0:(H++[A])[H.length]?=some {cs:=[x]}:=by rw[←hA];exact yD H [A]
 have hx':=hx.ext (Ext.more H [A])
 have ci:=inS k 0 (l.length - 1)
 by_cases h:0≤k∧k≤(l.length:Int) - 1
 ·rw[decide_eq_true h] at ci
  obtain⟨j,rfl⟩:∃ j:Nat,k=j:=⟨k.toNat,by omega⟩
  have hj:j<l.length:=by omega
  obtain⟨r,rest,ow,hxe,hr⟩:=hx'.get hj
  have hp:l[j]?=some l[j]:=List.getElem?_eq_getElem hj
  generalize l[j]=p at hp
  have hp2:(l++rest)[j]?=some p:=by rw[List.getElem?_append_left hj];exact hp
  have rr:=xD yU hp2
  rw[jY p] at rr
  have cn:=nodeS (p.int 0) (p.int 1) (p.int 2) (p.int 3) j (by omega)
  have hbv:b=decide (kJ (p.int 0) (p.int 1) (p.int 2) (p.int 3) j):=by
   rw[Bool.eq_iff_iff,hb,decide_eq_true_eq]
   constructor
   ·rintro⟨j',p',h1,h2,h3⟩
    have:j'=j:=by omega
    subst this
    rw[hp] at h2
    cases h2
    exact h3
   ·exact fun h=>⟨j,p,rfl,hp,h⟩
  rw[←hbv] at cn
  have k1:(0:Int)≤j:=by omega
  have k2:(j:Int)<l.length:=by omega
  simp only[↓zP,zQ,↓qC,o,yD]
  rw[←hA]
  simp only[zQ,lx,e1]
  refine qN rfl ci ?_
  simp only[↓zP,zQ,hxe,b0,k1,k2,qB,hr,rr]
  refine qN rfl cn ?_
  simp only[↓zP,zQ]
  exact⟨A,rfl⟩
 ·rw[decide_eq_false h] at ci
  have hbv:b=false:=by
   cases b with
   | false=>rfl
   | true =>
    obtain⟨j,p,h1,h2,_⟩:=hb.1 rfl
    have:=(List.getElem?_eq_some_iff.1 h2).1
    exact absurd (show 0≤k∧k≤(l.length:Int) - 1 by omega) h
  rw[hbv]
  simp only[↓zP,zQ,↓qC,o,yD]
  rw[←hA]
  simp only[zQ,lx,e1]
  refine qN rfl ci ?_
  simp only[↓zP,zQ,qA]
  exact⟨A,rfl⟩
def isAt (l:List (Rw qK))(k kind:Int):Prop:=∃ (j:Nat)(p:Rw qK),k=j∧l[j]?=some p∧okR p j∧p.int 0=kind
theorem isS {H:qE}{x:AV}{l:List (Rw qK)}(hx:RdN H x l)(hl:l.length≤1000000)(k kind:Int)(b:Bool)(hb:b=true↔isAt l k kind):∃ Z,Sound Tryz.prog 109 [.agg [x],k,kind] H (.sc (.bool b)) Z∧Ext H Z:=by
 suffices h:∃ w Z,Sound Tryz.prog 109 [.agg [x],k,kind] H w Z∧w=.sc (.bool b)∧Ext H Z by
  obtain⟨w,Z,h1,rfl,h2⟩:=h
  exact⟨Z,h1,h2⟩
 refine zR 20 [.tmp 6] Tryz.func109 ?_
 have o:=hx.one
 obtain⟨A,hA⟩:∃ A:Reg,A={cs:=[x]}:=⟨_,rfl⟩
 have b0:(H++[A])[H.length]?=some {cs:=[x]}:=by rw[←hA];exact yD H [A]
 have e0:=Ext.more H [A]
 have hx':=hx.ext e0
 by_cases h:okAt l k
 ·obtain⟨B,c1⟩:=nodeOkS hx' hl k true (by simp[h])
  have e1:=Ext.more (H++[A]) [B]
  have b1:=e1.at b0
  obtain⟨j,p,rfl,hp,ok⟩:=h
  have hj:=(List.getElem?_eq_some_iff.1 hp).1
  obtain⟨r,rest,ow,hxe,hr⟩:=(hx'.ext e1).get hj
  have hp2:(l++rest)[j]?=some p:=by rw[List.getElem?_append_left hj];exact hp
  have rc:=fun (o:Bool)(kk:Nat)=>(qX yU (k:=kk) hp2 (j:=0) (by decide) o).trans (p.int_at 0 rfl).1
  have k1:(0:Int)≤j:=by omega
  have k2:(j:Int)<l.length:=by omega
  by_cases hk:p.int 0=kind
  ·have hbv:b=true:=hb.2 ⟨j,p,rfl,hp,ok,hk⟩
   rw[hbv]
   simp only[↓zP,zQ,↓qC,o,yD]
   rw[←hA]
   refine qF rfl c1 ?_
   simp only[↓zP,zQ,hxe,b1,k1,k2,qB,hr,rc,hk]
   exact e0.trans e1
  ·have hbv:b=false:=by
    cases b with
    | false=>rfl
    | true =>
     obtain⟨j',p',h1,h2,_,h3⟩:=hb.1 rfl
     have:j'=j:=by omega
     subst this
     rw[hp] at h2
     cases h2
     exact absurd h3 hk
   rw[hbv]
   simp only[↓zP,zQ,↓qC,o,yD]
   rw[←hA]
   refine qF rfl c1 ?_
   simp only[↓zP,zQ,hxe,b1,k1,k2,qB,hr,rc,hk]
   exact e0.trans e1
 ·obtain⟨B,c1⟩:=nodeOkS hx' hl k false (by simp[h])
  have hbv:b=false:=by
   cases b with
   | false=>rfl
   | true =>
    obtain⟨j,p,h1,h2,h3,_⟩:=hb.1 rfl
    exact absurd ⟨j,p,h1,h2,h3⟩ h
  rw[hbv]
  simp only[↓zP,zQ,↓qC,o,yD]
  rw[←hA]
  refine qF rfl c1 ?_
  simp only[↓zP,zQ,qA]
  exact e0.trans (Ext.more _ _)
def numAt (l:List (Rw qK))(k:Int)(v:Int)(b:Bool):Prop:=(b=true∧∃ (j:Nat)(p:Rw qK),k=j∧l[j]?=some p∧okR p j∧p.int 0=1∧p.int 1=v)∨(b=false∧v=0∧¬ isAt l k 1)
theorem num_is (l:List (Rw qK))(k:Int):∃ v b,numAt l k v b:=by
 by_cases h:isAt l k 1
 ·obtain⟨j,p,h1,h2,h3,h4⟩:=h
  exact⟨_,true,.inl ⟨rfl,j,p,h1,h2,h3,h4,rfl⟩⟩
 ·exact⟨0,false,.inr ⟨rfl,rfl,h⟩⟩
theorem numOfS {H:qE}{x:AV}{l:List (Rw qK)}(hx:RdN H x l)(hl:l.length≤1000000)(k:Int)(v:Int)(b:Bool)(hb:numAt l k v b):∃ Z,Sound Tryz.prog 110 [.agg [x],k] H (.tup [.sc (.int .i64 v),.sc (.bool b)]) Z∧Ext H Z:=by
 suffices h:∃ w Z,Sound Tryz.prog 110 [.agg [x],k] H w Z∧w=.tup [.sc (.int .i64 v),.sc (.bool b)]∧Ext H Z by
  obtain⟨w,Z,h1,rfl,h2⟩:=h
  exact⟨Z,h1,h2⟩
 refine zR 16 [.tmp 4,.tmp 5] Tryz.func110 ?_
 have o:=hx.one
 obtain⟨A,hA⟩:∃ A:Reg,A={cs:=[x]}:=⟨_,rfl⟩
 have b0:(H++[A])[H.length]?=some {cs:=[x]}:=by rw[←hA];exact yD H [A]
 have e0:=Ext.more H [A]
 have hx':=hx.ext e0
 rcases hb with ⟨rfl,j,p,rfl,hp,ok,h0,rfl⟩ | ⟨rfl,rfl,hn⟩
 ·obtain⟨Z,c1,e1⟩:=isS hx' hl j 1 true (by simp;exact⟨j,p,rfl,hp,ok,h0⟩)
  have b1:=e1.at b0
  have hj:=(List.getElem?_eq_some_iff.1 hp).1
  obtain⟨r,rest,ow,hxe,hr⟩:=(hx'.ext e1).get hj
  have rc:=fun (o:Bool)(kk:Nat)=>(qX yU (k:=kk) (by rw[List.getElem?_append_left hj];exact hp:(l++rest)[j]?=some p) (j:=1) (by decide) o).trans (p.int_at 1 rfl).1
  simp only[↓zP,zQ,↓qC,o,yD]
  rw[←hA]
  refine qF rfl c1 ?_
  simp only[↓zP,zQ,hxe,↓qC,b1,(by omega:(0:Int)≤j),(by omega:(j:Int)<l.length),qB,hr,rc]
  exact e0.trans e1
 ·obtain⟨Z,c1,e1⟩:=isS hx' hl k 1 false (by simp[hn])
  simp only[↓zP,zQ,↓qC,o,yD]
  rw[←hA]
  refine qF rfl c1 ?_
  simp only[↓zP,zQ,↓qC]
  exact e0.trans e1
def Chain (l:List (Rw qK)):Int→List Int→Int→Prop
 | k,[],w=>k=w
 | k,a :: L,w=>∃ (j:Nat)(p:Rw qK),k=j∧l[j]?=some p∧okR p j∧p.int 0=2∧p.int 2=a∧Chain l (p.int 3) L w
theorem Chain.snoc {l:List (Rw qK)}:∀ {L:List Int}{k w:Int},Chain l k L w→∀ {j:Nat}{p:Rw qK},w=j→l[j]?=some p→okR p j→p.int 0=2→Chain l k (L++[p.int 2]) (p.int 3)
 | [],k,w,h,j,p,hw,hp,ok,h0=>by
  have h:k=w:=h
  subst h
  exact⟨j,p,hw,hp,ok,h0,rfl,rfl⟩
 | a :: L,k,w,⟨i,q,h1,h2,h3,h4,h5,h6⟩,j,p,hw,hp,ok,h0=>⟨i,q,h1,h2,h3,h4,h5,h6.snoc hw hp ok h0⟩
theorem Chain.two {l:List (Rw qK)}:∀ {L M:List Int}{k w u:Int},Chain l k L w→Chain l k M u→M.length=L.length→M=L∧u=w
 | [],[],k,w,u,h,g,_=>⟨rfl,(show k=u from g).symm.trans (show k=w from h)⟩
 | a :: L,b :: M,k,w,u,⟨i,q,h1,h2,_,_,h5,h6⟩,⟨i',q',g1,g2,_,_,g5,g6⟩,e=>by
  have:i'=i:=by omega
  subst this
  rw[h2] at g2
  cases g2
  obtain⟨r1,r2⟩:=h6.two g6 (by simpa using e)
  exact⟨by rw[r1,←h5,←g5],r2⟩
theorem Chain.more {l:List (Rw qK)}:∀ {L M:List Int}{k w u:Int},Chain l k L w→Chain l k M u→L.length<M.length→isAt l w 2
 | [],b :: M,k,w,u,h,⟨j,p,g1,g2,g3,g4,_,_⟩,_=>⟨j,p,by rw[←(show k=w from h)];exact g1,g2,g3,g4⟩
 | a :: L,b :: M,k,w,u,⟨i,q,h1,h2,_,_,_,h6⟩,⟨i',q',g1,g2,_,_,_,g6⟩,e=>by
  have:i'=i:=by omega
  subst this
  rw[h2] at g2
  cases g2
  exact h6.more g6 (by simpa using e)
def PartsIs (l:List (Rw qK))(k:Int)(n:Nat)(L:List Int)(b:Bool):Prop:=(b=true∧L.length=n∧∃ w,Chain l k L w∧numAt l w 0 true)∨(b=false∧L=[]∧∀ M w,M.length=n→Chain l k M w→¬ numAt l w 0 true)
theorem at_kil (G Y:qE)(q:Nat)(g:Reg):(yG (G++Y) q++[g])[G.length+Y.length]?=some g:=by
 have h:(yG (G++Y) q).length=G.length+Y.length:=by rw[yZ,List.length_append]
 rw[←h]
 exact yA _ _
theorem partsS {H:qE}{x:AV}{l:List (Rw qK)}(hx:RdN H x l)(hl:l.length≤1000000)(k:Int)(n:Nat)(hn:n≤1000)(L:List Int)(b:Bool)(hb:PartsIs l k n L b) :
  ∃ (y:AV)(Z:qE),Sound Tryz.prog 112 [.agg [x],k,n] H (.tup [y,.sc (.bool b)]) Z∧Ext H Z∧IsL Z y .i64 L∧∀ i,i<H.length→NotIn y i:=by
 suffices h:∃ w Z,Sound Tryz.prog 112 [.agg [x],k,n] H w Z∧∃ y,w=.tup [y,.sc (.bool b)]∧Ext H Z∧IsL Z y .i64 L∧∀ i,i<H.length→NotIn y i by
  obtain⟨w,Z,h1,y,rfl,h2⟩:=h
  exact⟨y,Z,h1,h2⟩
 refine zR 56 [.tmp 6,.tmp 7] Tryz.func112 ?_
 have o:=hx.one
 obtain⟨A,hA⟩:∃ A:Reg,A={cs:=[x]}:=⟨_,rfl⟩
 have b0:(H++[A])[H.length]?=some {cs:=[x]}:=by rw[←hA];exact yD H [A]
 have e0:=Ext.more H [A]
 have hx':=hx.ext e0
 simp only[↓zP,zQ,↓qC,o,List.append_assoc]
 rw[←hA]
 have hsp:H++[A,{cs:=ints .i64 []}]=(H++[A])++[{cs:=ints .i64 []}]:=by simp
 try rw[hsp]
 refine yL (ι:=Nat) (fun i s=>∃ (T:Nat→AV)(G:qE)(q:Nat)(M:List Int)(w:Int),s=⟨qY 56 T,G⟩∧Ext (H++[A]) G∧H.length+1≤q∧G[q]?=some {cs:=ints .i64 M}∧M.length=i∧i≤n∧Chain l k M w∧T 1=.sc (.int .i64 w)∧T 2=.sc (.int .i64 n)∧T 3=.ptr H.length 0∧T 8=.sl q 0 i 1∧T 9=.sc (.int .i64 i)) (fun i=>n - i) ?_ (i:=0) ?_
 ·rintro i s ⟨T,G,q,M,w,rfl,eG,hq,gq,Ml,hi,ch,t1,t2,t3,t8,t9⟩
  have g0:=eG.at b0
  have hxG:=hx'.ext eG
  by_cases h:i<n
  ·have k1:(i:Int)<n:=by omega
   by_cases hw:isAt l w 2
   ·obtain⟨Z,c1,e1⟩:=isS hxG hl w 2 true (by simp[hw])
    obtain⟨j,p,rfl,hp,ok,h0⟩:=hw
    have hj:=(List.getElem?_eq_some_iff.1 hp).1
    have z0:=e1.at g0
    have zq:=e1.at gq
    obtain⟨r,rest,ow,hxe,hr⟩:=(hxG.ext e1).get hj
    have hp2:(l++rest)[j]?=some p:=by rw[List.getElem?_append_left hj];exact hp
    have rc2:=fun (o:Bool)(kk:Nat)=>(qX yU (k:=kk) hp2 (j:=2) (by decide) o).trans (p.int_at 2 rfl).1
    have rc3:=fun (o:Bool)(kk:Nat)=>(qX yU (k:=kk) hp2 (j:=3) (by decide) o).trans (p.int_at 3 rfl).1
    have k2:(0:Int)≤j:=by omega
    have k3:(j:Int)<l.length:=by omega
    have zq1:=fun g=>yS Z [g] q (qP zq)
    rw[zq] at zq1
    have z01:∀ g g',(yG (Z++[g]) q++[g'])[H.length]?=some {cs:=[x]}:=fun g g'=>by
     rw[yS _ _ _ (by rw[yZ,List.length_append];have:=qP z0;omega),uR _ _ _ (by omega),yS _ _ _ (qP z0)]
     exact z0
    have zr1:r≠q→∀ g g',(yG (Z++[g]) q++[g'])[r]?=some ⟨rows Rw.cs (l++rest),ow,true⟩:=fun hne g g'=>by
     rw[yS _ _ _ (by rw[yZ,List.length_append];have:=qP hr;omega),uR _ _ _ hne,yS _ _ _ (qP hr)]
     exact hr
    have hne:r≠q:=fun e=>(hx.lt (i:=q) (by omega)) r 0 _ _ hxe e.symm
    have zr:=zr1 hne
    have Mt:M.take i=M:=List.take_of_length_le (by omega)
    have q2:(i+1)*8≤140737488355328:=by omega
    have q3:i+1≤140737488355328:=by omega
    have e2:IntKind.i64.wrap ((i:Int)+1)=((i+1:Nat):Int):=by rw[w64 (by omega) (by omega)];omega
    simp only[↓zP,zQ,↓qC,t9,t2,k1,t3,g0,t1]
    refine qF rfl c1 ?_
    simp only[↓zP,zQ,hxe,↓qC,t8,t3,t1,t9,e2,z0,k2,k3,qB,hr,rc2,zq1,Ml,q2,q3,Mt,z01,zr,rc3]
    refine⟨i+1,by omega,_,_,Z.length+1,M++[p.int 2],p.int 3,rfl,((((eG.trans e1).add _).kill (by simpa using hq)).add _),?_,at_kil Z _ q _,by rw[List.length_append,Ml];rfl,by omega,ch.snoc rfl hp ok h0,?_,?_,?_,?_,?_⟩
    ·have h1:=eG.1
     have h2:=e1.1
     rw[List.length_append] at h1
     simp at h1
     omega
    all_goals (simp only[zQ,t2,t3]<;>rfl)
   ·obtain⟨Z,c1,e1⟩:=isS hxG hl w 2 false (by simp[hw])
    simp only[↓zP,zQ,↓qC,t9,t2,k1,t3,g0,t1]
    refine qF rfl c1 ?_
    simp only[↓zP,zQ,↓qC]
    have hbf:b=false∧L=[]:=by
     rcases hb with ⟨_,h1,u,h2,_⟩ | ⟨h1,h2,_⟩
     ·exact absurd (ch.more h2 (by omega)) hw
     ·exact⟨h1,h2⟩
    obtain⟨rfl,rfl⟩:=hbf
    have eZ:=(e0.trans eG).trans e1
    exact⟨_,rfl,eZ.add _,IsL.at (yD _ _) rfl,fun i hi=>.sl (by have:=eZ.1;omega)⟩
  ·have hin:i=n:=by omega
   have k1:¬ (i:Int)<n:=by omega
   obtain⟨v,c,hv⟩:=num_is l w
   obtain⟨Z,c1,e1⟩:=numOfS hxG hl w v c hv
   have eZ:=(e0.trans eG).trans e1
   have zq:=e1.at gq
   have k2:¬ (n:Int)<0:=by omega
   by_cases hz:c=true∧v=0
   ·obtain⟨rfl,rfl⟩:=hz
    have hbt:b=true∧L=M:=by
     rcases hb with ⟨h1,h2,u,h3,_⟩ | ⟨_,_,h3⟩
     ·exact⟨h1,(ch.two h3 (by omega)).1⟩
     ·exact absurd hv (h3 M w (by omega) ch)
    obtain⟨rfl,rfl⟩:=hbt
    simp only[↓zP,zQ,↓qC,t9,t2,k1,t3,g0,t1]
    refine qF rfl c1 ?_
    simp only[↓zP,zQ,↓qC,qA,t2,k2,t8]
    exact⟨_,rfl,eZ,IsL.at zq Ml,fun i hi=>.sl (by omega)⟩
   ·have hbf:b=false∧L=[]:=by
     rcases hb with ⟨h1,h2,u,h3,h4⟩ | ⟨h1,h2,_⟩
     ·exfalso
      obtain⟨_,rfl⟩:=ch.two h3 (by omega)
      apply hz
      rcases h4 with ⟨_,j,p,g1,g2,g3,g4,g5⟩ | ⟨h,_,_⟩
      ·rcases hv with ⟨r1,j',p',r2,r3,_,_,r5⟩ | ⟨_,_,r3⟩
       ·have:j'=j:=by omega
        subst this
        rw[g2] at r3
        cases r3
        exact⟨r1,by rw[←r5,g5]⟩
       ·exact absurd ⟨j,p,g1,g2,g3,g4⟩ r3
      ·cases h
     ·exact⟨h1,h2⟩
    obtain⟨rfl,rfl⟩:=hbf
    simp only[↓zP,zQ,↓qC,t9,t2,k1,t3,g0,t1]
    refine qF rfl c1 ?_
    cases c with
    | false =>
     simp only[↓zP,zQ,↓qC,t8]
     exact⟨_,rfl,eZ.add _,IsL.at (yD _ _) rfl,fun i hi=>.sl (by have:=eZ.1;omega)⟩
    | true =>
     have hv0:¬ v=0:=fun h=>hz ⟨rfl,h⟩
     simp only[↓zP,zQ,↓qC,qA,hv0,t8]
     exact⟨_,rfl,eZ.add _,IsL.at (yD _ _) rfl,fun i hi=>.sl (by have:=eZ.1;omega)⟩
 ·refine⟨_,_,H.length+1,[],k,rfl,Ext.more _ _,Nat.le_refl _,by have:=yD (H++[A]) [{cs:=ints .i64 []}];simpa using this,rfl,by omega,rfl,?_,?_,?_,?_,?_⟩<;>simp only[zQ]<;>rfl
theorem num10S {H:qE}{x:AV}{l:List (Rw qK)}(hx:RdN H x l)(hl:l.length≤1000000)(k n:Int):∃ (b:Bool)(Z:qE),Sound Tryz.prog 170 [.agg [x],k,n] H (.sc (.bool b)) Z∧Ext H Z∧(b=true↔numAt l k n true):=by
 suffices h:∃ w Z,Sound Tryz.prog 170 [.agg [x],k,n] H w Z∧∃ b,w=.sc (.bool b)∧Ext H Z∧(b=true↔numAt l k n true) by
  obtain⟨w,Z,h1,b,rfl,h2⟩:=h
  exact⟨b,Z,h1,h2⟩
 refine zR 21 [.tmp 6] Tryz.func170 ?_
 obtain⟨A,hA⟩:∃ A:Reg,A={cs:=[x]}:=⟨_,rfl⟩
 have e0:=Ext.more H [A]
 obtain⟨v,c,hv⟩:=num_is l k
 obtain⟨Z,c1,e1⟩:=numOfS (hx.ext e0) hl k v c hv
 have two:∀ u,numAt l k u true→c=true∧v=u:=fun u hu=>by
  rcases hu with ⟨_,j,p,g1,g2,g3,g4,g5⟩ | ⟨h,_⟩
  ·rcases hv with ⟨r1,j',p',r2,r3,_,_,r5⟩ | ⟨_,_,r3⟩
   ·have:j'=j:=by omega
    subst this
    rw[g2] at r3
    cases r3
    exact⟨r1,by rw[←r5,g5]⟩
   ·exact absurd ⟨j,p,g1,g2,g3,g4⟩ r3
  ·cases h
 simp only[↓zP,zQ,↓qC,(hx.one),yD]
 rw[←hA]
 refine qF rfl c1 ?_
 cases c with
 | false =>
  simp only[↓zP,zQ,↓qC,qA]
  exact⟨false,rfl,e0.trans e1,by simp,fun h=>absurd (two n h).1 (by simp)⟩
 | true =>
  by_cases h:v=n
  ·simp only[↓zP,zQ,h,↓qC]
   exact⟨true,rfl,e0.trans e1,fun _=>h▸hv,fun _=>rfl⟩
  ·simp only[↓zP,zQ,↓qC,h]
   exact⟨false,rfl,e0.trans e1,by simp,fun g=>absurd (two n g).2 h⟩
end
def ArC (f:FuncId)(args:List AV)(H:qE)(r off:Nat)(cs:List AV)(x:AV)(l:List (Rw qK))(Q:Int→List (Rw qK)→Prop):Prop:=
 ∃ (v:Int)(l':List (Rw qK))(x':AV)(Z:qE),Sound Tryz.prog f args H (.sc (.int .i64 v)) Z∧PlN Z r off (cs.set off x') x' l'∧Only H Z r x x'∧Q v l'
theorem bdAtom (n:Int):qT Tryz.prog 85 [(0,.sc (.int .i64 1)),(1,.sc (.int .i64 n))]=some (.agg [(1:Int),n,(0:Int),(0:Int)]):=by
 simp[qT,yR,yT,qW,yF,Tryz.underlying85,zero85,qR,qO]
theorem bdMake (k a c:Int):qT Tryz.prog 85 [(0,.sc (.int .i64 k)),(2,.sc (.int .i64 a)),(3,.sc (.int .i64 c))]=some (.agg [k,(0:Int),a,c]):=by
 simp[qT,yR,yT,qW,yF,Tryz.underlying85,zero85,qR,qO]
theorem atomS {H:qE}{r off:Nat}{cs:List AV}{x:AV}{l:List (Rw qK)}(hP:PlN H r off cs x l)(hl:l.length≤3000)(n:Int):ArC 68 [.ptr r off,.sc (.int .i64 n)] H r off cs x l (fun v l'=>PutR l 1 n 0 0 l' v):=by
 obtain⟨v,l',x',Z,c1,c2,c3,c4⟩:=putS hP hl 1 n 0 0
 refine⟨v,l',x',Z,?_,c2,c3,c4⟩
 unfold nv at c1
 refine Sound.run 9 [.tmp 4] Tryz.func68 rfl rfl rfl rfl (by simp) ?_
 simp only[↓zP,zQ,↓qC,bdAtom]
 refine qF rfl c1 ?_
 simp only[↓zP,zQ]
theorem makeS {H:qE}{r off:Nat}{cs:List AV}{x:AV}{l:List (Rw qK)}(hP:PlN H r off cs x l)(hl:l.length≤3000)(k a c:Int) :
  ArC 81 [.ptr r off,.sc (.int .i64 k),.sc (.int .i64 a),.sc (.int .i64 c)] H r off cs x l (fun v l'=>(v = -1∧l'=l)∨(0≤a∧k≠1∧k≠7∧PutR l k 0 a (if k=3∨k=6 then 0 else c) l' v)):=by
 have co:=oneS k
 by_cases h3:k=3∨k=6
 ·rw[decide_eq_true h3] at co
  rw[if_pos h3]
  by_cases ha:a<0
  ·refine⟨-1,l,x,H,?_,xB hP,Only.refl H r x,.inl ⟨rfl,rfl⟩⟩
   refine Sound.run 31 [.tmp 8] Tryz.func81 rfl rfl rfl rfl (by simp) ?_
   have h1:¬ k=1:=by omega
   have h7:¬ k=7:=by omega
   simp only[↓zP,zQ,↓qC,Nat.reduceLT,Nat.reduceEqDiff]
   refine qN rfl co ?_
   simp only[↓zP,zQ,Nat.reduceLT,↓qC,Nat.reduceEqDiff,h1,h7,qA,ha,reduceCtorEq]
  ·obtain⟨v,l',x',Z,c1,c2,c3,c4⟩:=putS hP hl k 0 a 0
   refine⟨v,l',x',Z,?_,c2,c3,.inr ⟨by omega,by omega,by omega,c4⟩⟩
   unfold nv at c1
   refine Sound.run 31 [.tmp 8] Tryz.func81 rfl rfl rfl rfl (by simp) ?_
   have h1:¬ k=1:=by omega
   have h7:¬ k=7:=by omega
   have h0:¬ ((0:Int)<0):=by omega
   simp only[↓zP,zQ,↓qC,Nat.reduceLT,Nat.reduceEqDiff]
   refine qN rfl co ?_
   simp only[↓zP,zQ,Nat.reduceLT,↓qC,Nat.reduceEqDiff,h1,h7,qA,ha,h0,reduceCtorEq,bdMake]
   refine qF rfl c1 ?_
   simp only[↓zP,zQ,Nat.reduceLT]
 ·rw[decide_eq_false h3] at co
  rw[if_neg h3]
  by_cases hb:k=1∨k=7∨a<0∨c<0
  ·refine⟨-1,l,x,H,?_,xB hP,Only.refl H r x,.inl ⟨rfl,rfl⟩⟩
   refine Sound.run 31 [.tmp 8] Tryz.func81 rfl rfl rfl rfl (by simp) ?_
   simp only[↓zP,zQ,↓qC,Nat.reduceLT,Nat.reduceEqDiff]
   refine qN rfl co ?_
   by_cases h1:k=1
   ·simp only[↓zP,zQ,h1,Nat.reduceLT,↓qC,Nat.reduceEqDiff,reduceCtorEq]
   ·by_cases h7:k=7
    ·simp only[↓zP,zQ,h7,Nat.reduceLT,↓qC,Nat.reduceEqDiff,Int.reduceEq,qA,reduceCtorEq]
    ·by_cases ha:a<0
     ·simp only[↓zP,zQ,Nat.reduceLT,↓qC,Nat.reduceEqDiff,h1,h7,qA,ha,reduceCtorEq]
     ·have hc:c<0:=by omega
      simp only[↓zP,zQ,Nat.reduceLT,↓qC,Nat.reduceEqDiff,h1,h7,qA,ha,Int.reduceLT,reduceCtorEq,hc]
  ·obtain⟨v,l',x',Z,c1,c2,c3,c4⟩:=putS hP hl k 0 a c
   refine⟨v,l',x',Z,?_,c2,c3,.inr ⟨by omega,by omega,by omega,c4⟩⟩
   unfold nv at c1
   refine Sound.run 31 [.tmp 8] Tryz.func81 rfl rfl rfl rfl (by simp) ?_
   have h1:¬ k=1:=by omega
   have h7:¬ k=7:=by omega
   have ha:¬ a<0:=by omega
   have hc:¬ c<0:=by omega
   simp only[↓zP,zQ,↓qC,Nat.reduceLT,Nat.reduceEqDiff]
   refine qN rfl co ?_
   simp only[↓zP,zQ,Nat.reduceLT,↓qC,Nat.reduceEqDiff,h1,h7,qA,ha,Int.reduceLT,reduceCtorEq,bdMake,hc]
   refine qF rfl c1 ?_
   simp only[↓zP,zQ,Nat.reduceLT]
def ListAt (l:List (Rw qK)):List Int→Int→Prop
 | [],v=>∃ (j:Nat)(p:Rw qK),v=j∧l[j]?=some p∧Is4 p 1 0 0 0
 | a :: L,v=>∃ (j:Nat)(p:Rw qK)(w:Int),v=j∧l[j]?=some p∧Is4 p 2 0 a w∧0≤a∧ListAt l L w
theorem ListAt.grw {l l':List (Rw qK)}(g:Grw l l'):∀ {L:List Int}{v:Int},ListAt l L v→ListAt l' L v
 | [],v,⟨j,p,h1,h2,h3⟩=>⟨j,p,h1,g.at h2,h3⟩
 | a :: L,v,⟨j,p,w,h1,h2,h3,ha,h4⟩=>⟨j,p,w,h1,g.at h2,h3,ha,h4.grw g⟩
theorem listS {H:qE}{r off:Nat}{cs:List AV}{x:AV}{l:List (Rw qK)}(hP:PlN H r off cs x l)(hl:l.length≤3000){y:AV}{L:List Int}(hy:IsL H y .i64 L)(hL:L.length≤1000000)(hd:∀ q o n k,y=.sl q o n k→q≠r∧NotIn x q) :
  ArC 82 [.ptr r off,y] H r off cs x l (fun v l'=>Grw l l'∧(v = -1∨ListAt l' L v)):=by
 suffices h:∃ w Z,Sound Tryz.prog 82 [.ptr r off,y] H w Z∧∃ (v:Int)(l':List (Rw qK))(x':AV),w=.sc (.int .i64 v)∧PlN Z r off (cs.set off x') x' l'∧Only H Z r x x'∧Grw l l'∧(v = -1∨ListAt l' L v) by
  obtain⟨w,Z,h1,v,l',x',rfl,h2⟩:=h
  exact⟨v,l',x',Z,h1,h2⟩
 refine zR 24 [.tmp 4] Tryz.func82 ?_
 have e1:IntKind.i64.wrap ((L.length:Int) - 1)=L.length - 1:=w64 (by omega) (by omega)
 obtain⟨v0,l0,x0,Z0,a1,a2,a3,a4,a5⟩:=atomS hP hl 0
 have s0:v0 = -1∨ListAt l0 [] v0:=by
  rcases a5 with ⟨h,_⟩ | ⟨j,p,h1,h2,h3,_⟩
  ·exact .inl h
  ·exact .inr ⟨j,p,h1,h2,h3⟩
 simp only[↓zP,zQ,↓qC]
 refine qF rfl a1 ?_
 simp only[↓zP,zQ,↓qC,(fun e=>hy.len e),e1]
 refine yL (ι:=Nat) (fun i s=>∃ (T:Nat→AV)(G:qE)(v:Int)(l1:List (Rw qK))(x1:AV),s=⟨qY 24 T,G⟩∧PlN G r off (cs.set off x1) x1 l1∧Only H G r x x1∧Grw l l1∧i≤L.length∧(v = -1∨ListAt l1 (L.drop i) v)∧T 0=.ptr r off∧T 1=y∧T 5=.sc (.int .i64 v)∧T 6=.sc (.int .i64 ((i:Int) - 1))) (fun i=>i) ?_ (i:=L.length) ?_
 ·rintro i s ⟨T,G,v,l1,x1,rfl,p1,o1,g1,b1,b2,t0,t1,t5,t6⟩
  cases i with
  | zero =>
   have k1:¬ ((0:Int)≤((0:Nat):Int) - 1):=by omega
   rw[List.drop_zero] at b2
   simp -implicitDefEqProofs only[↓zP,zQ,↓qC,t6,Int.reduceSub,Int.reduceLE,t0,t1,t5]
   exact⟨v,l1,x1,rfl,p1,o1,g1,b2⟩
  | succ i =>
   have e2:(((i+1:Nat):Int) - 1)=(i:Int):=by omega
   rw[e2] at t6
   have k1:(0:Int)≤(i:Int):=by omega
   have k2:(i:Int)<L.length:=by omega
   have k3:i<L.length:=by omega
   have e3:IntKind.i64.wrap ((i:Int) - 1)=(i:Int) - 1:=w64 (by omega) (by omega)
   obtain⟨q,o,hye,hq⟩:=hy.get k3
   have hG:G[q]?=some ⟨ints .i64 L,o,true⟩:=(o1.2.1 q (qP hq) (hd _ _ _ _ hye).1 (hd _ _ _ _ hye).2).trans hq
   obtain⟨v2,l2,x2,Z2,m1,m2,m3,m4⟩:=makeS p1 (g1.2.1 hl) 2 (L.getD i 0) v
   rw[qM] at m2
   have hdr:L.drop i=L.getD i 0 :: L.drop (i+1):=by
    rw[List.drop_eq_getElem_cons k3,List.getD_eq_getElem?_getD,List.getElem?_eq_getElem k3]
    rfl
   have g2:Grw l1 l2:=by
    rcases m4 with ⟨_,rfl⟩ | ⟨_,_,_,g,_⟩
    ·exact Grw.refl _
    ·exact g
   have s2:v2 = -1∨ListAt l2 (L.drop i) v2:=by
    rcases m4 with ⟨h,_⟩ | ⟨ha,_,_,g,hh⟩
    ·exact .inl h
    ·rcases hh with ⟨h,_⟩ | ⟨j,p,h1,h2,h3,h4,_⟩
     ·exact .inl h
     ·right
      rw[hdr]
      rcases b2 with rfl | b2
      ·exfalso
       rw[if_neg (by omega)] at h4
       unfold kJ at h4
       omega
      ·rw[if_neg (by omega)] at h3
       exact⟨j,p,v,h1,h2,h3,ha,b2.grw g⟩
   simp only[↓zP,zQ,↓qC,hye,t6,k1,t0,t1,k2,qB,t5,hG,k3]
   refine qF rfl m1 ?_
   simp only[↓zP,zQ,t6,e3]
   refine⟨i,by omega,_,Z2,v2,l2,x2,rfl,m2,o1.trans m3,g1.trans g2,by omega,s2,?_,?_,?_,?_⟩<;>simp only[zQ,t0,t1,hye]<;>rfl
 ·refine⟨_,Z0,v0,l0,x0,rfl,a2,a3,a4,Nat.le_refl _,by rw[List.drop_length];exact s0,?_,?_,?_,?_⟩<;>simp only[zQ]<;>rfl
def GQ (l:List (Rw qK))(v:Int)(l':List (Rw qK)):Prop:=Grw l l'∧-1≤v∧v≤3000
theorem PutR.gq {l l':List (Rw qK)}{k n a c v:Int}(hl:l.length≤3000)(h:PutR l k n a c l' v):GQ l v l':=by
 obtain⟨g,h | ⟨j,p,h,hp,_⟩⟩:=h
 ·exact⟨g,by omega⟩
 ·have:=(List.getElem?_eq_some_iff.1 hp).1
  have:=g.2.1 hl
  exact⟨g,by omega⟩
theorem xK {H:qE}{r off:Nat}{cs:List AV}{x:AV}{l:List (Rw qK)}(hP:PlN H r off cs x l)(hl:l.length≤3000)(n:Int):ArC 68 [.ptr r off,.sc (.int .i64 n)] H r off cs x l (GQ l):=by
 obtain⟨v,l',x',Z,h1,h2,h3,h4⟩:=atomS hP hl n
 exact⟨v,l',x',Z,h1,h2,h3,h4.gq hl⟩
theorem wG {H:qE}{r off:Nat}{cs:List AV}{x:AV}{l:List (Rw qK)}(hP:PlN H r off cs x l)(hl:l.length≤3000)(k a c:Int):ArC 81 [.ptr r off,.sc (.int .i64 k),.sc (.int .i64 a),.sc (.int .i64 c)] H r off cs x l (GQ l):=by
 obtain⟨v,l',x',Z,h1,h2,h3,h4⟩:=makeS hP hl k a c
 refine⟨v,l',x',Z,h1,h2,h3,?_⟩
 rcases h4 with ⟨h,rfl⟩ | ⟨_,_,_,h⟩
 ·exact⟨Grw.refl _,by omega⟩
 ·exact h.gq hl
theorem sideG {H:qE}{r off:Nat}{cs:List AV}{x:AV}{l:List (Rw qK)}(hP:PlN H r off cs x l)(hl:l.length≤3000)(s i:Int):ArC 130 [.ptr r off,.sc (.int .i64 s),.sc (.int .i64 i)] H r off cs x l (GQ l):=by
 obtain⟨v1,l1,x1,Z1,a1,a2,a3,a4⟩:=xK hP hl i
 obtain⟨v2,l2,x2,Z2,b1,b2,b3,b4⟩:=wG a2 (a4.1.2.1 hl) 4 s v1
 rw[qM] at b2
 refine⟨v2,l2,x2,Z2,?_,b2,a3.trans b3,a4.1.trans b4.1,b4.2⟩
 refine Sound.run 13 [.tmp 6] Tryz.func130 rfl rfl rfl rfl (by simp) ?_
 simp only[↓zP,zQ,↓qC]
 refine qF rfl a1 ?_
 simp only[↓zP]
 refine qF rfl b1 ?_
 simp only[↓zP,zQ]
theorem appG {H:qE}{r off:Nat}{cs:List AV}{x:AV}{l:List (Rw qK)}(hP:PlN H r off cs x l)(hl:l.length≤3000)(s i:Int):ArC 128 [.ptr r off,.sc (.int .i64 s),.sc (.int .i64 i)] H r off cs x l (GQ l):=by
 obtain⟨v1,l1,x1,Z1,a1,a2,a3,a4⟩:=sideG hP hl s 20
 obtain⟨v2,l2,x2,Z2,b1,b2,b3,b4⟩:=wG a2 (a4.1.2.1 hl) 3 i 0
 rw[qM] at b2
 obtain⟨v3,l3,x3,Z3,c1,c2,c3,c4⟩:=wG b2 ((a4.1.trans b4.1).2.1 hl) 4 v1 v2
 rw[qM] at c2
 refine⟨v3,l3,x3,Z3,?_,c2,(a3.trans b3).trans c3,(a4.1.trans b4.1).trans c4.1,c4.2⟩
 refine Sound.run 15 [.tmp 6] Tryz.func128 rfl rfl rfl rfl (by simp) ?_
 simp only[↓zP,zQ,↓qC]
 refine qF rfl a1 ?_
 simp only[↓zP,zQ]
 refine qF rfl b1 ?_
 simp only[↓zP]
 refine qF rfl c1 ?_
 simp only[↓zP,zQ]
theorem longG {H:qE}{r off:Nat}{cs:List AV}{x:AV}{l:List (Rw qK)}(hP:PlN H r off cs x l)(hl:l.length≤3000)(n:Int):ArC 66 [.ptr r off,.sc (.int .i64 n)] H r off cs x l (GQ l):=by
 have ci:=inS n 0 9
 by_cases h:0≤n∧n≤9
 ·rw[decide_eq_true h] at ci
  obtain⟨v1,l1,x1,Z1,a1,a2,a3,a4⟩:=xK hP hl (2000+n)
  refine⟨v1,l1,x1,Z1,?_,a2,a3,a4⟩
  refine Sound.run 12 [.tmp 4] Tryz.func66 rfl rfl rfl rfl (by simp) ?_
  simp only[↓zP,zQ,↓qC]
  refine qN rfl ci ?_
  simp only[↓zP,zQ,↓qC,(w64 (by omega) (by omega):IntKind.i64.wrap (2000+n)=2000+n)]
  refine qF rfl a1 ?_
  simp only[↓zP,zQ]
 ·rw[decide_eq_false h] at ci
  refine⟨-1,l,x,H,?_,xB hP,Only.refl H r x,Grw.refl l,by omega⟩
  refine Sound.run 12 [.tmp 4] Tryz.func66 rfl rfl rfl rfl (by simp) ?_
  simp only[↓zP,zQ,↓qC]
  refine qN rfl ci ?_
  simp only[↓zP,zQ,↓qC]
theorem pskG {H:qE}{r off:Nat}{cs:List AV}{x:AV}{l:List (Rw qK)}(hP:PlN H r off cs x l)(hl:l.length≤3000)(a b:Int):ArC 67 [.ptr r off,.sc (.int .i64 a),.sc (.int .i64 b)] H r off cs x l (GQ l):=by
 have ca:=inS a 0 9
 have cb:=inS b 0 9
 have no:∀ H,(Sound Tryz.prog 67 [.ptr r off,a,b] H (.sc (.int .i64 (-1))) H)→PlN H r off cs x l→ArC 67 [.ptr r off,.sc (.int .i64 a),.sc (.int .i64 b)] H r off cs x l (GQ l):=fun H h p=>⟨-1,l,x,H,h,xB p,Only.refl H r x,Grw.refl l,by omega⟩
 by_cases h:0≤a∧a≤9
 ·rw[decide_eq_true h] at ca
  by_cases g:0≤b∧b≤9
  ·rw[decide_eq_true g] at cb
   by_cases k:b<a
   ·have e1:IntKind.i64.wrap (10*b)=10*b:=w64 (by omega) (by omega)
    have e2:IntKind.i64.wrap (3000+10*b)=3000+10*b:=w64 (by omega) (by omega)
    have e3:IntKind.i64.wrap (3000+10*b+a)=3000+10*b+a:=w64 (by omega) (by omega)
    obtain⟨v1,l1,x1,Z1,a1,a2,a3,a4⟩:=xK hP hl (3000+10*b+a)
    refine⟨v1,l1,x1,Z1,?_,a2,a3,a4⟩
    refine Sound.run 32 [.tmp 6] Tryz.func67 rfl rfl rfl rfl (by simp) ?_
    simp only[↓zP,zQ,↓qC]
    refine qN rfl ca ?_
    simp only[↓zP,zQ]
    refine qN rfl cb ?_
    simp only[↓zP,zQ,qA,↓qC,k,e1,e2,e3]
    refine qF rfl a1 ?_
    simp only[↓zP,zQ]
   ·have e1:IntKind.i64.wrap (10*a)=10*a:=w64 (by omega) (by omega)
    have e2:IntKind.i64.wrap (3000+10*a)=3000+10*a:=w64 (by omega) (by omega)
    have e3:IntKind.i64.wrap (3000+10*a+b)=3000+10*a+b:=w64 (by omega) (by omega)
    obtain⟨v1,l1,x1,Z1,a1,a2,a3,a4⟩:=xK hP hl (3000+10*a+b)
    refine⟨v1,l1,x1,Z1,?_,a2,a3,a4⟩
    refine Sound.run 32 [.tmp 6] Tryz.func67 rfl rfl rfl rfl (by simp) ?_
    simp only[↓zP,zQ,↓qC]
    refine qN rfl ca ?_
    simp only[↓zP,zQ]
    refine qN rfl cb ?_
    simp only[↓zP,zQ,qA,↓qC,k,e1,e2,e3]
    refine qF rfl a1 ?_
    simp only[↓zP,zQ]
  ·rw[decide_eq_false g] at cb
   refine no H ?_ hP
   refine Sound.run 32 [.tmp 6] Tryz.func67 rfl rfl rfl rfl (by simp) ?_
   simp only[↓zP,zQ,↓qC]
   refine qN rfl ca ?_
   simp only[↓zP,zQ]
   refine qN rfl cb ?_
   simp only[↓zP,zQ,qA,↓qC]
 ·rw[decide_eq_false h] at ca
  refine no H ?_ hP
  refine Sound.run 32 [.tmp 6] Tryz.func67 rfl rfl rfl rfl (by simp) ?_
  simp only[↓zP,zQ,↓qC]
  refine qN rfl ca ?_
  simp only[↓zP,zQ,↓qC]
theorem listG {Z:qE}{r off:Nat}{cs:List AV}{x:AV}{l:List (Rw qK)}(hP:PlN Z r off cs x l)(hl:l.length≤3000)(L:List Int)(n:Nat)(hn:L.length=n)(hL:n≤1000) :
  ∃ (v:Int)(l':List (Rw qK))(x':AV)(Z':qE),Sound Tryz.prog 82 [.ptr r off,.sl Z.length 0 n 1] (Z++[⟨ints .i64 L,true,true⟩]) (.sc (.int .i64 v)) Z'∧PlN Z' r off (cs.set off x') x' l'∧Only Z Z' r x x'∧GQ l v l'∧(v = -1∨ListAt l' L v):=by
 have e:=Ext.more Z [⟨ints .i64 L,true,true⟩]
 have hr:=qP hP.1
 obtain⟨v,l',x',Z',h1,h2,h3,h4,h5⟩:=listS (hP.ext e) hl (y:=.sl Z.length 0 n 1) (L:=L) (IsL.at (own:=true) (yD _ _) hn) (by omega) (fun q o n k h=>by
  injection h with h
  subst h
  exact⟨by omega,hP.2.2.1.lt (Nat.le_refl _)⟩)
 have hl':=h4.2.1 hl
 refine⟨v,l',x',Z',h1,h2,(Only.ext e r x).trans h3,⟨h4,?_⟩,h5⟩
 rcases h5 with h | h
 ·omega
 ·cases L with
  | nil=>obtain⟨j,p,h1,h2,_⟩:=h;have:=(List.getElem?_eq_some_iff.1 h2).1;omega
  | cons a L=>obtain⟨j,p,w,h1,h2,_⟩:=h;have:=(List.getElem?_eq_some_iff.1 h2).1;omega
def AR (H:qE)(r off:Nat)(cs:List AV)(x:AV)(Q:Int→List (Rw qK)→Prop)(w:AV)(Z:qE):Prop:=∃ (v:Int)(l':List (Rw qK))(x':AV),w=.sc (.int .i64 v)∧PlN Z r off (cs.set off x') x' l'∧Only H Z r x x'∧Q v l'
theorem ArC.of {f:FuncId}{args:List AV}{H:qE}{r off:Nat}{cs:List AV}{x:AV}{l:List (Rw qK)}{Q:Int→List (Rw qK)→Prop}(h:∃ w Z,Sound Tryz.prog f args H w Z∧AR H r off cs x Q w Z):ArC f args H r off cs x l Q:=by
 obtain⟨w,Z,h1,v,l',x',rfl,h2⟩:=h
 exact⟨v,l',x',Z,h1,h2⟩
theorem GQ.no (l:List (Rw qK)):GQ l (-1) l:=⟨Grw.refl l,by omega,by omega⟩
theorem GQ.tr {l l1 l2:List (Rw qK)}{v:Int}(g:Grw l l1)(h:GQ l1 v l2):GQ l v l2:=⟨g.trans h.1,h.2⟩
theorem Only.reg {H Z:qE}{r:Nat}{x x':AV}(o:Only H Z r x x'){q:Nat}{g:Reg}(h:H[q]?=some g)(hq:q≠r)(hx:NotIn x q):Z[q]?=some g:=(o.2.1 q (qP h) hq hx).trans h
theorem Grw.back {l l':List (Rw qK)}(g:Grw l l'):l'.take l.length=l:=by
 obtain⟨⟨m,rfl⟩,_⟩:=g
 simp
def Lcl (Z:qE)(r:Nat)(x:AV)(q:Nat)(g:Reg):Prop:=Z[q]?=some g∧q≠r∧NotIn x q
theorem Lcl.only {Z Y:qE}{r q:Nat}{x x':AV}{g:Reg}(h:Lcl Z r x q g)(o:Only Z Y r x x'):Lcl Y r x' q g:=⟨o.reg h.1 h.2.1 h.2.2,h.2.1,o.2.2 q (qP h.1) h.2.2⟩
theorem Lcl.ext {Z Y:qE}{r q:Nat}{x:AV}{g:Reg}(h:Lcl Z r x q g)(e:Ext Z Y):Lcl Y r x q g:=⟨e.at h.1,h.2⟩
theorem Lcl.new {Z Y:qE}{r off:Nat}{cs:List AV}{x:AV}{l:List (Rw qK)}(p:PlN Z r off cs x l)(j:Nat){g:Reg}(hj:Y[j]?=some g):Lcl (Z++Y) r x (Z.length+j) g:=
 ⟨(wO Z Y j).trans hj,by have:=qP p.1;omega,p.2.2.1.lt (by omega)⟩
theorem Lcl.set {Z:qE}{r q:Nat}{x:AV}{g:Reg}(h:Lcl Z r x q g)(g':Reg):Lcl (Z.set q g') r x q g':=⟨List.getElem?_set_self (qP h.1),h.2⟩
theorem Lcl.set' {Z:qE}{r q p:Nat}{x:AV}{g:Reg}(h:Lcl Z r x q g)(hp:p≠q)(g':Reg):Lcl (Z.set p g') r x q g:=⟨(List.getElem?_set_ne hp).trans h.1,h.2⟩
theorem PlN.rd {Z:qE}{r off:Nat}{cs:List AV}{x:AV}{l:List (Rw qK)}(p:PlN Z r off cs x l)(o:Bool)(k:Nat):jG true false k (some ⟨cs,o,true⟩) (off+0)=some x:=qL p.2.1 o k
theorem PlN.ra {Z:qE}{r off:Nat}{cs:List AV}{x:AV}{l:List (Rw qK)}(p:PlN Z r off cs x l)(o:Bool):jG true true 1 (some ⟨cs,o,true⟩) off=some (.agg [x]):=yY p.2.1 o
theorem zH (a b c:Int):∃ t:Bool,Fn Tryz.prog 27 [.sc (.int .i64 a),.sc (.int .i64 b),.sc (.int .i64 c)] (.sc (.bool t))∧(t=true↔b≤a∧a≤c):=⟨_,inS a b c,by simp⟩
section
attribute [local irreducible] kO uW kR wQ
section
variable {H : qE} {x : AV} {l : List (Rw qK)}
open Classical in
theorem nodeOkE (hx:RdN H x l)(hl:l.length≤1000000)(k:Int):∃ (b:Bool)(Z:qE),Sound Tryz.prog 133 [.agg [x],k] H (.sc (.bool b)) Z∧Ext H Z∧(b=true↔okAt l k):=by
 obtain⟨B,h⟩:=nodeOkS hx hl k (decide (okAt l k)) (by simp)
 exact⟨_,_,h,Ext.more _ _,by simp⟩
open Classical in
theorem isE (hx:RdN H x l)(hl:l.length≤1000000)(k kind:Int):∃ (b:Bool)(Z:qE),Sound Tryz.prog 109 [.agg [x],k,kind] H (.sc (.bool b)) Z∧Ext H Z∧(b=true↔isAt l k kind):=by
 obtain⟨Z,h,e⟩:=isS hx hl k kind (decide (isAt l k kind)) (by simp)
 exact⟨_,_,h,e,by simp⟩
theorem numE (hx:RdN H x l)(hl:l.length≤1000000)(k:Int):∃ (v:Int)(b:Bool)(Z:qE),Sound Tryz.prog 110 [.agg [x],k] H (.tup [.sc (.int .i64 v),.sc (.bool b)]) Z∧Ext H Z∧numAt l k v b:=by
 obtain⟨v,b,h⟩:=num_is l k
 obtain⟨Z,c,e⟩:=numOfS hx hl k v b h
 exact⟨v,b,Z,c,e,h⟩
theorem numAt.w64 {k v:Int}{b:Bool}(h:numAt l k v b):W64 v:=by
 rcases h with ⟨_,j,p,_,_,_,_,rfl⟩ | ⟨_,rfl,_⟩
 ·exact p.w64 1 rfl
 ·exact⟨by decide,by decide⟩
theorem partsIs_ex (l:List (Rw qK))(k:Int)(n:Nat):∃ L b,PartsIs l k n L b:=by
 by_cases h:∃ (L:List Int)(w:Int),L.length=n∧Chain l k L w∧numAt l w 0 true
 ·obtain⟨L,w,h1,h2,h3⟩:=h
  exact⟨L,true,.inl ⟨rfl,h1,w,h2,h3⟩⟩
 ·exact⟨[],false,.inr ⟨rfl,rfl,fun M w h1 h2 h3=>h ⟨M,w,h1,h2,h3⟩⟩⟩
theorem Chain.w64 {l:List (Rw qK)}:∀ {L:List Int}{k w:Int},Chain l k L w→∀ z∈L,W64 z
 | [],_,_,_,z,hz=>by cases hz
 | a :: L,k,w,⟨j,p,_,_,_,_,h5,h6⟩,z,hz=>by
  rcases List.mem_cons.1 hz with rfl | hz
  ·rw[←h5];exact p.w64 2 rfl
  ·exact h6.w64 z hz
theorem PartsIs.w64 {k:Int}{n:Nat}{L:List Int}{b:Bool}(h:PartsIs l k n L b):∀ z∈L,W64 z:=by
 rcases h with ⟨_,_,w,h,_⟩ | ⟨_,rfl,_⟩
 ·exact h.w64
 ·intro z hz;cases hz
theorem jI (hx:RdN H x l)(hl:l.length≤1000000)(k m:Int)(n:Nat)(hm:m=n)(hn:n≤1000):∃ (b:Bool)(L:List Int)(y:AV)(Z:qE),Sound Tryz.prog 112 [.agg [x],k,m] H (.tup [y,.sc (.bool b)]) Z∧Ext H Z∧IsL Z y .i64 L∧(∀ i,i<H.length→NotIn y i)∧PartsIs l k n L b:=by
 subst hm
 obtain⟨L,b,h⟩:=partsIs_ex l k n
 obtain⟨y,Z,h1,h2,h3,h4⟩:=partsS hx hl k n hn L b h
 exact⟨b,L,y,Z,h1,h2,h3,h4,h⟩
end
theorem PartsIs.len {l:List (Rw qK)}{k:Int}{n:Nat}{L:List Int}(h:PartsIs l k n L true):L.length=n:=by
 rcases h with ⟨_,h,_⟩ | ⟨h,_⟩
 ·exact h
 ·cases h
theorem len1 {L:List Int}(h:L.length=1):∃ a,L=[a]:=by match L,h with | [a],_=>exact⟨a,rfl⟩
theorem len2 {L:List Int}(h:L.length=2):∃ a b,L=[a,b]:=by match L,h with | [a,b],_=>exact⟨a,b,rfl⟩
theorem len3 {L:List Int}(h:L.length=3):∃ a b c,L=[a,b,c]:=by match L,h with | [a,b,c],_=>exact⟨a,b,c,rfl⟩
theorem len5 {L:List Int}(h:L.length=5):∃ a b c d e,L=[a,b,c,d,e]:=by match L,h with | [a,b,c,d,e],_=>exact⟨a,b,c,d,e,rfl⟩
theorem IsL.reg {H:qE}{y:AV}{L:List Int}(h:IsL H y .i64 L)(h0:0<L.length):∃ q o,y=.sl q 0 L.length 1∧H[q]?=some ⟨ints .i64 L,o,true⟩:=h.get h0
theorem PlN.setL {Z:qE}{r off:Nat}{cs:List AV}{x:AV}{l:List (Rw qK)}(p:PlN Z r off cs x l){q:Nat}(h:q≠r∧NotIn x q)(g:Reg):PlN (Z.set q g) r off cs x l:=
 ⟨(List.getElem?_set_ne h.1).trans p.1,p.2.1,OwnF.keep p.2.2.1 (fun i _ hi=>List.getElem?_set_ne (fun e=>hi (by rw[←e];exact h.2))),p.2.2.2⟩
theorem Only.setL {H Z:qE}{r:Nat}{x x':AV}(o:Only H Z r x x'){q:Nat}(h:H.length≤q)(g:Reg):Only H (Z.set q g) r x x':=
 ⟨by rw[List.length_set];exact o.1,fun i hi hr hx=>(List.getElem?_set_ne (by omega)).trans (o.2.1 i hi hr hx),o.2.2⟩
theorem u64n (z:Int):¬ (IntKind.u64.wrap z<0):=by
 have e:IntKind.u64.wrap z=z % 2 ^ 64:=by simp[IntKind.wrap,IntKind.bits,IntKind.signed]
 rw[e]
 omega
theorem W64.bits {o:BinOp}{a b:Int}:W64 (bits o .i64 a b):=by
 unfold Go.bits
 exact W64.wrap _
theorem PartsIs.clash {l:List (Rw qK)}{k:Int}{n:Nat}{L M:List Int}(h:PartsIs l k n L true)(g:PartsIs l k n M false):False:=by
 rcases h with ⟨_,h1,w,h2,h3⟩ | ⟨h,_⟩
 ·rcases g with ⟨g,_⟩ | ⟨_,_,g⟩
  ·cases g
  ·exact g L w h1 h2 h3
 ·cases h
def OpnIs (l:List (Rw qK))(key k v:Int)(b:Bool):Prop:=(b=true∧∃ (j:Nat)(p:Rw qK),k=j∧l[j]?=some p∧okR p j∧p.int 0=5∧p.int 2=key∧p.int 3=v)∨(b=false∧v = -1∧¬ ∃ (j:Nat)(p:Rw qK),k=j∧l[j]?=some p∧okR p j∧p.int 0=5∧p.int 2=key)
theorem opn_no {l:List (Rw qK)}{key:Int}{j:Nat}{p:Rw qK}(hp:l[j]?=some p)(h:¬ p.int 2=key):¬ ∃ (i:Nat)(q:Rw qK),(j:Int)=i∧l[i]?=some q∧okR q i∧q.int 0=5∧q.int 2=key:=by
 rintro⟨i,q,a,b,_,_,e⟩
 have:i=j:=by omega
 subst this
 rw[hp] at b
 cases b
 exact h e
theorem OpnIs.two {l:List (Rw qK)}{key k v v':Int}{b b':Bool}(h:OpnIs l key k v b)(g:OpnIs l key k v' b'):v'=v∧b'=b:=by
 rcases h with ⟨rfl,j,p,h1,h2,h3,h4,h5,h6⟩ | ⟨rfl,rfl,h⟩
 ·rcases g with ⟨rfl,j',p',g1,g2,g3,g4,g5,g6⟩ | ⟨_,_,g⟩
  ·have:j'=j:=by omega
   subst this
   rw[h2] at g2
   cases g2
   exact⟨by rw[←h6,←g6],rfl⟩
  ·exact absurd ⟨j,p,h1,h2,h3,h4,h5⟩ g
 ·rcases g with ⟨rfl,j',p',g1,g2,g3,g4,g5,g6⟩ | ⟨rfl,rfl,g⟩
  ·exact absurd ⟨j',p',g1,g2,g3,g4,g5⟩ h
  ·exact⟨rfl,rfl⟩
theorem OpnIs.grow {l l':List (Rw qK)}{key k v:Int}{b:Bool}(h:OpnIs l key k v b)(g:Grw l l')(n:∀ (j:Nat) p,l.length≤j→l'[j]?=some p→p.int 0≠5):OpnIs l' key k v b:=by
 rcases h with ⟨rfl,j,p,h1,h2,h3,h4,h5,h6⟩ | ⟨rfl,rfl,h⟩
 ·exact .inl ⟨rfl,j,p,h1,g.at h2,h3,h4,h5,h6⟩
 ·refine .inr ⟨rfl,rfl,?_⟩
  rintro⟨j,p,g1,g2,g3,g4,g5⟩
  rcases Nat.lt_or_ge j l.length with hj | hj
  ·have h2:=List.getElem?_eq_getElem hj
   have h3:=g.at h2
   rw[g2] at h3
   cases h3
   exact h ⟨j,_,g1,h2,g3,g4,g5⟩
  ·exact n j p hj g2 g4
theorem NotIn.ge {n q o m k:Nat}(h:∀ i,i<n→NotIn (.sl q o m k) i):n≤q:=by
 rcases Nat.lt_or_ge q n with g | g
 ·exact absurd rfl (h q g q o m k rfl)
 ·exact g
end
theorem Ext.alloc {H Z:qE}(E:Ext H Z){i:Nat}(hi:Z.length=i)(g:Reg):(Z++[g])[i]?=some g∧H.length≤i∧Ext Z (Z++[g])∧∀ j g',Z[j]?=some g'→j≠i:=by
 subst hi
 exact⟨yA Z g,E.1,Ext.more Z [g],fun j g' h=>Nat.ne_of_lt (qP h)⟩
theorem Lcl.alloc {H Z:qE}{r off:Nat}{cs:List AV}{x x0:AV}{l:List (Rw qK)}(p:PlN Z r off cs x l)(o:Only H Z r x0 x){i:Nat}(hi:Z.length=i)(g:Reg):Lcl (Z++[g]) r x i g∧H.length≤i∧Ext Z (Z++[g])∧∀ j g',Z[j]?=some g'→j≠i:=by
 subst hi
 exact⟨Lcl.new (Y:=[g]) p 0 rfl,o.1,Ext.more Z [g],fun j g' h=>Nat.ne_of_lt (qP h)⟩
theorem yE {Z:qE}{i:Nat}{g:Reg}(b:Z[i]?=some g)(g':Reg):(Z.set i g')[i]?=some g':=List.getElem?_set_self (qP b)
theorem yQ {Z:qE}{i j:Nat}{g:Reg}(b:Z[j]?=some g)(h:i≠j)(g':Reg):(Z.set i g')[j]?=some g:=(List.getElem?_set_ne h).trans b
theorem RdN.put {H Z:qE}{x:AV}{l:List (Rw qK)}(h:RdN Z x l)(h0:RdN H x l){i:Nat}(u:H.length≤i)(g:Reg):RdN (Z.set i g) x l:=
 RdN.keep h fun j _ hj=>List.getElem?_set_ne fun e=>hj (by rw[←e];exact RdN.lt h0 u)
theorem Ext.ge {H Z:qE}(E:Ext H Z){i:Nat}(h:Z.length≤i):H.length≤i:=Nat.le_trans E.1 h
theorem Only.ge {H Z:qE}{r:Nat}{x x':AV}(o:Only H Z r x x'){i:Nat}(h:Z.length≤i):H.length≤i:=Nat.le_trans o.1 h
theorem csLease (r:Rw kLease):r.cs=[.sc (.int .i64 (r.int 0)),.sc (.int .i64 (r.int 1))]:=by
 have e0:=(r.int_at 0 (k:=.i64) rfl).1
 have e1:=(r.int_at 1 (k:=.i64) rfl).1
 have hl:=r.cs_len
 generalize r.cs=z at *
 match z,hl with
 | [x0,x1],_ =>
  simp only[List.getElem?_cons_zero,List.getElem?_cons_succ,Option.some.injEq] at e0 e1
  rw[e0,e1]
theorem csRoute (r:Rw xM):r.cs=[.sc (.int .i64 (r.int 0)),.sc (.int .i64 (r.int 1)),.sc (.int .i64 (r.int 2))]:=by
 have e0:=(r.int_at 0 (k:=.i64) rfl).1
 have e1:=(r.int_at 1 (k:=.i64) rfl).1
 have e2:=(r.int_at 2 (k:=.i64) rfl).1
 have hl:=r.cs_len
 generalize r.cs=z at *
 match z,hl with
 | [x0,x1,x2],_ =>
  simp only[List.getElem?_cons_zero,List.getElem?_cons_succ,Option.some.injEq] at e0 e1 e2
  rw[e0,e1,e2]
theorem csSess (r:Rw kSess):r.cs=[.sc (.int .i64 (r.int 0)),.sc (.int .i64 (r.int 1)),.sc (.int .i64 (r.int 2)),.sc (.int .i64 (r.int 3)),.sc (.int .i64 (r.int 4)),.sc (.int .i64 (r.int 5)),.sc (.int .i64 (r.int 6)),.sc (.int .i64 (r.int 7)),.sc (.int .i64 (r.int 8)),.sc (.int .i64 (r.int 9)),.sc (.int .i64 (r.int 10)),.sc (.int .i64 (r.int 11)),.sc (.int .i64 (r.int 12)),.sc (.int .i64 (r.int 13)),.sc (.int .i64 (r.int 14)),.sc (.int .i64 (r.int 15)),.sc (.int .i64 (r.int 16)),.sc (.int .i64 (r.int 17)),.sc (.int .i64 (r.int 18)),.sc (.int .i64 (r.int 19))]:=by
 have e0:=(r.int_at 0 (k:=.i64) rfl).1
 have e1:=(r.int_at 1 (k:=.i64) rfl).1
 have e2:=(r.int_at 2 (k:=.i64) rfl).1
 have e3:=(r.int_at 3 (k:=.i64) rfl).1
 have e4:=(r.int_at 4 (k:=.i64) rfl).1
 have e5:=(r.int_at 5 (k:=.i64) rfl).1
 have e6:=(r.int_at 6 (k:=.i64) rfl).1
 have e7:=(r.int_at 7 (k:=.i64) rfl).1
 have e8:=(r.int_at 8 (k:=.i64) rfl).1
 have e9:=(r.int_at 9 (k:=.i64) rfl).1
 have e10:=(r.int_at 10 (k:=.i64) rfl).1
 have e11:=(r.int_at 11 (k:=.i64) rfl).1
 have e12:=(r.int_at 12 (k:=.i64) rfl).1
 have e13:=(r.int_at 13 (k:=.i64) rfl).1
 have e14:=(r.int_at 14 (k:=.i64) rfl).1
 have e15:=(r.int_at 15 (k:=.i64) rfl).1
 have e16:=(r.int_at 16 (k:=.i64) rfl).1
 have e17:=(r.int_at 17 (k:=.i64) rfl).1
 have e18:=(r.int_at 18 (k:=.i64) rfl).1
 have e19:=(r.int_at 19 (k:=.i64) rfl).1
 have hl:=r.cs_len
 generalize r.cs=z at *
 match z,hl with
 | [x0,x1,x2,x3,x4,x5,x6,x7,x8,x9,x10,x11,x12,x13,x14,x15,x16,x17,x18,x19],_ =>
  simp only[List.getElem?_cons_zero,List.getElem?_cons_succ,Option.some.injEq] at e0 e1 e2 e3 e4 e5 e6 e7 e8 e9 e10 e11 e12 e13 e14 e15 e16 e17 e18 e19
  rw[e0,e1,e2,e3,e4,e5,e6,e7,e8,e9,e10,e11,e12,e13,e14,e15,e16,e17,e18,e19]
theorem csOut (r:Rw kOut):r.cs=[.sc (.int .i64 (r.int 0)),.sc (.int .i64 (r.int 1)),.sc (.int .i64 (r.int 2)),.sc (.int .i64 (r.int 3)),.sc (.int .i64 (r.int 4))]:=by
 have e0:=(r.int_at 0 (k:=.i64) rfl).1
 have e1:=(r.int_at 1 (k:=.i64) rfl).1
 have e2:=(r.int_at 2 (k:=.i64) rfl).1
 have e3:=(r.int_at 3 (k:=.i64) rfl).1
 have e4:=(r.int_at 4 (k:=.i64) rfl).1
 have hl:=r.cs_len
 generalize r.cs=z at *
 match z,hl with
 | [x0,x1,x2,x3,x4],_ =>
  simp only[List.getElem?_cons_zero,List.getElem?_cons_succ,Option.some.injEq] at e0 e1 e2 e3 e4
  rw[e0,e1,e2,e3,e4]
section
attribute [local irreducible] kO uW kR wQ
def SessIs (l:List (Rw kSess))(c k:Int):Prop:=(k = -1∧∀ p,p∈l→p.int 0≠c)∨∃ (j:Nat)(p:Rw kSess),k=j∧l[j]?=some p∧p.int 0=c
theorem sessAtS {H:qE}{x1 x2 x3 x4:AV}{l:List (Rw kSess)}(n nx dr:Int)(h1:IsR H x1 l)(o2:x2.cells=[x2]∧x2.one=true)(o3:x3.cells=[x3]∧x3.one=true)(o4:x4.cells=[x4]∧x4.one=true)(hl:l.length≤1048576)(c:Int) :
  ∃ (k:Int)(Z:qE),Sound Tryz.prog 115 [.agg [n,nx,x1,x2,x3,x4,dr],c] H (.sc (.int .i64 k)) Z∧Ext H Z∧SessIs l c k:=by
 suffices h:∃ v Z,Sound Tryz.prog 115 [.agg [n,nx,x1,x2,x3,x4,dr],c] H v Z∧∃ k,v=.sc (.int .i64 k)∧Ext H Z∧SessIs l c k by
  obtain⟨v,Z,h1,k,rfl,h2⟩:=h
  exact⟨k,Z,h1,h2⟩
 refine zR 22 [.tmp 4] Tryz.func115 ?_
 obtain⟨A,hA⟩:∃ A:Reg,A={cs:=[n,nx,x1,x2,x3,x4,dr]}:=⟨_,rfl⟩
 have e0:=Ext.more H [A]
 have b0:(H++[A])[H.length]?=some {cs:=[n,nx,x1,x2,x3,x4,dr]}:=by rw[←hA];exact yD H [A]
 simp only[↓zP,zQ,↓qC,(h1.one),o2,o3,o4]
 rw[←hA]
 refine yL (ι:=Nat) (fun i s=>∃ T:Nat→AV,s=⟨qY 22 T,H++[A]⟩∧i≤l.length∧(∀ (j:Nat) p,j<i→l[j]?=some p→p.int 0≠c)∧T 1=.sc (.int .i64 c)∧T 2=.ptr H.length 0∧T 5=.sc (.int .i64 i)) (fun i=>l.length - i) ?_ (i:=0) ?_
 ·rintro i s ⟨T,rfl,a1,a2,a3,a4,a5⟩
  by_cases h:i<l.length
  ·have k1:(i:Int)<l.length:=by omega
   have k2:(0:Int)≤i:=by omega
   have e1:IntKind.i64.wrap ((i:Int)+1)=i+1:=w64 (by omega) (by omega)
   obtain⟨r,o,hx,hr⟩:=(e0.isR h1).get h
   subst hx
   have ha:l[i]?=some l[i]:=List.getElem?_eq_getElem h
   generalize l[i]=p at ha
   have rc:=fun (o:Bool)(k:Nat)=>(qX yK (k:=k) ha (j:=0) (by decide) o).trans (p.int_at 0 rfl).1
   have kl:kSess.length=20:=rfl
   by_cases hp:p.int 0=c
   ·simp only[↓zP,zQ,↓qC,a5,a4,a3,e1,b0,kl,k2,k1,qB,hr,rc,hp]
    exact⟨_,rfl,e0,.inr ⟨i,p,rfl,ha,hp⟩⟩
   ·simp only[↓zP,zQ,↓qC,a5,a4,a3,e1,b0,kl,k2,k1,qB,hr,rc,hp]
    refine⟨i+1,by omega,_,rfl,by omega,?_,?_,?_,?_⟩
    ·intro j q hj hq
     by_cases e:j=i
     ·subst e
      rw[ha] at hq
      cases hq
      exact hp
     ·exact a2 j q (by omega) hq
    all_goals (simp only[zQ,a3,a4]<;>rfl)
  ·have k1:¬ (i:Int)<l.length:=by omega
   simp only[↓zP,zQ,↓qC,a5,a4,a3,b0,(fun e=>h1.len e),k1]
   refine⟨_,rfl,e0,.inl ⟨rfl,fun p hp=>?_⟩⟩
   obtain⟨j,hj,rfl⟩:=List.getElem_of_mem hp
   exact a2 j _ (by omega) (List.getElem?_eq_getElem hj)
 ·exact⟨_,rfl,Nat.zero_le _,fun j p hj=>by omega,rfl,rfl,rfl⟩
theorem placeOfS {H:qE}{x:AV}{l:List (Rw kLease)}(hx:IsR H x l)(hl:l.length≤1048576)(c:Int) :
  ∃ (k:Int)(Z:qE),Sound Tryz.prog 175 [x,c] H (.sc (.int .i64 k)) Z∧Ext H Z∧W64 k:=by
 suffices h:∃ v Z,Sound Tryz.prog 175 [x,c] H v Z∧∃ k,v=.sc (.int .i64 k)∧Ext H Z∧W64 k by
  obtain⟨v,Z,h1,k,rfl,h2⟩:=h
  exact⟨k,Z,h1,h2⟩
 refine zR 24 [.tmp 4] Tryz.func175 ?_
 simp only[↓zP,zQ,↓qC]
 refine yL (ι:=Nat) (fun i s=>∃ T:Nat→AV,s=⟨qY 24 T,H⟩∧i≤l.length∧T 0=x∧T 1=.sc (.int .i64 c)∧T 5=.sc (.int .i64 i)) (fun i=>l.length - i) ?_ (i:=0) ?_
 ·rintro i s ⟨T,rfl,a1,a2,a3,a5⟩
  by_cases h:i<l.length
  ·have k1:(i:Int)<l.length:=by omega
   have k2:(0:Int)≤i:=by omega
   have e1:IntKind.i64.wrap ((i:Int)+1)=i+1:=w64 (by omega) (by omega)
   obtain⟨r,o,hx,hr⟩:=hx.get h
   subst hx
   have ha:l[i]?=some l[i]:=List.getElem?_eq_getElem h
   generalize l[i]=p at ha
   have rc0:=fun (o:Bool)(k:Nat)=>(qX yW (k:=k) ha (j:=0) (by decide) o).trans (p.int_at 0 rfl).1
   have rc1:=fun (o:Bool)(k:Nat)=>(qX yW (k:=k) ha (j:=1) (by decide) o).trans (p.int_at 1 rfl).1
   have kl:kLease.length=2:=rfl
   by_cases hp:p.int 1=c
   ·simp only[↓zP,zQ,↓qC,kl,a5,a2,k2,k1,qB,a3,hr,rc0,e1,rc1,hp]
    exact⟨_,rfl,Ext.refl H,p.w64 0 rfl⟩
   ·simp only[↓zP,zQ,↓qC,kl,a5,a2,k2,k1,qB,a3,hr,rc0,e1,rc1,hp]
    refine⟨i+1,by omega,_,rfl,by omega,?_,?_,?_⟩<;>simp -implicitDefEqProofs only[zQ,a2,Nat.reduceAdd,a3]<;>rfl
  ·have k1:¬ (i:Int)<l.length:=by omega
   simp only[↓zP,zQ,↓qC,a5,a2,(fun e=>hx.len e),a3,k1]
   exact⟨_,rfl,Ext.refl H,by unfold W64;omega⟩
 ·exact⟨_,rfl,Nat.zero_le _,rfl,rfl,rfl⟩
theorem cidOfS {H:qE}{x:AV}{l:List (Rw kLease)}(hx:IsR H x l)(hl:l.length≤1048576)(c:Int) :
  ∃ (k:Int)(Z:qE),Sound Tryz.prog 176 [x,c] H (.sc (.int .i64 k)) Z∧Ext H Z∧W64 k:=by
 suffices h:∃ v Z,Sound Tryz.prog 176 [x,c] H v Z∧∃ k,v=.sc (.int .i64 k)∧Ext H Z∧W64 k by
  obtain⟨v,Z,h1,k,rfl,h2⟩:=h
  exact⟨k,Z,h1,h2⟩
 refine zR 24 [.tmp 4] Tryz.func176 ?_
 simp only[↓zP,zQ,↓qC]
 refine yL (ι:=Nat) (fun i s=>∃ T:Nat→AV,s=⟨qY 24 T,H⟩∧i≤l.length∧T 0=x∧T 1=.sc (.int .i64 c)∧T 5=.sc (.int .i64 i)) (fun i=>l.length - i) ?_ (i:=0) ?_
 ·rintro i s ⟨T,rfl,a1,a2,a3,a5⟩
  by_cases h:i<l.length
  ·have k1:(i:Int)<l.length:=by omega
   have k2:(0:Int)≤i:=by omega
   have e1:IntKind.i64.wrap ((i:Int)+1)=i+1:=w64 (by omega) (by omega)
   obtain⟨r,o,hx,hr⟩:=hx.get h
   subst hx
   have ha:l[i]?=some l[i]:=List.getElem?_eq_getElem h
   generalize l[i]=p at ha
   have rc0:=fun (o:Bool)(k:Nat)=>(qX yW (k:=k) ha (j:=0) (by decide) o).trans (p.int_at 0 rfl).1
   have rc1:=fun (o:Bool)(k:Nat)=>(qX yW (k:=k) ha (j:=1) (by decide) o).trans (p.int_at 1 rfl).1
   have kl:kLease.length=2:=rfl
   by_cases hp:p.int 0=c
   ·simp only[↓zP,zQ,↓qC,kl,a5,a2,k2,k1,qB,a3,hr,rc1,e1,rc0,hp]
    exact⟨_,rfl,Ext.refl H,p.w64 1 rfl⟩
   ·simp only[↓zP,zQ,↓qC,kl,a5,a2,k2,k1,qB,a3,hr,rc1,e1,rc0,hp]
    refine⟨i+1,by omega,_,rfl,by omega,?_,?_,?_⟩<;>simp -implicitDefEqProofs only[zQ,a2,Nat.reduceAdd,a3]<;>rfl
  ·have k1:¬ (i:Int)<l.length:=by omega
   simp only[↓zP,zQ,↓qC,a5,a2,(fun e=>hx.len e),a3,k1]
   exact⟨_,rfl,Ext.refl H,by unfold W64;omega⟩
 ·exact⟨_,rfl,Nat.zero_le _,rfl,rfl,rfl⟩
theorem takenS {H:qE}{r:Nat}{cs:List AV}{x:AV}{l:List Int}(hr:H[r]?=some {cs:=cs})(hc:cs[14]?=some x)(hx:IsL H x .i64 l)(hl:l.length≤1048576)(c:Int) :
  ∃ (b:Bool)(Z:qE),Sound Tryz.prog 98 [.ptr r 0,c] H (.sc (.bool b)) Z∧Ext H Z:=by
 suffices h:∃ v Z,Sound Tryz.prog 98 [.ptr r 0,c] H v Z∧∃ b,v=.sc (.bool b)∧Ext H Z by
  obtain⟨v,Z,h1,k,rfl,h2⟩:=h
  exact⟨k,Z,h1,h2⟩
 refine zR 24 [.tmp 4] Tryz.func98 ?_
 have l1:=fun e=>hx.len e
 have rx:∀ (o:Bool)(k:Nat),jG true false k (some ⟨cs,o,true⟩) (0+14)=some x:=fun o k=>qL hc o k
 simp only[↓zP,zQ,↓qC]
 refine yL (ι:=Nat) (fun i s=>∃ T:Nat→AV,s=⟨qY 24 T,H⟩∧i≤l.length∧T 0=.ptr r 0∧T 1=.sc (.int .i64 c)∧T 5=.sc (.int .i64 i)) (fun i=>l.length - i) ?_ (i:=0) ?_
 ·rintro i s ⟨T,rfl,a1,a2,a3,a5⟩
  by_cases h:i<l.length
  ·have k1:(i:Int)<l.length:=by omega
   have k2:(0:Int)≤i:=by omega
   have e1:IntKind.i64.wrap ((i:Int)+1)=i+1:=w64 (by omega) (by omega)
   obtain⟨q,o,hx,hq⟩:=hx.get h
   subst hx
   by_cases hp:l.getD i 0=c
   ·simp only[↓zP,zQ,↓qC,a5,a2,qJ,a3,e1,hr,rx,k2,k1,qB,hq,h,hp,l1]
    exact⟨_,rfl,Ext.refl H⟩
   ·simp only[↓zP,zQ,↓qC,a5,a2,qJ,a3,e1,hr,rx,k2,k1,qB,hq,h,hp,l1]
    refine⟨i+1,by omega,_,rfl,by omega,?_,?_,?_⟩<;>simp only[zQ,a2,a3]<;>rfl
  ·have k1:¬ (i:Int)<l.length:=by omega
   simp only[↓zP,zQ,↓qC,a5,a2,qJ,a3,hr,rx,l1,k1]
   exact⟨_,rfl,Ext.refl H⟩
 ·exact⟨_,rfl,Nat.zero_le _,rfl,rfl,rfl⟩
end
end Go.Proofs.YtjdajobflgkebaaGreatDoor.Sim
