/- Texts of this proof, put together and made small by a program: part 10. -/
import Derived.Test.YtjdajobflgkebaaGreatDoorK9
set_option linter.all false
set_option maxRecDepth 100000
set_option maxHeartbeats 40000000
namespace Go.Proofs.YtjdajobflgkebaaGreatDoor.Sim
open Go
section
attribute [local irreducible] kO uW kR wQ
theorem atR {H:qE}{x:AV}{l:List (Rw qK)}(hx:RdN H x l)(hl:l.length≤1000000)(k n a c:Int):∃ (v:Int)(B:Reg),Sound Tryz.prog 80 [x,.agg [k,n,a,c]] H (.sc (.int .i64 v)) (H++[B]):=by
 suffices h:∃ w Z,Sound Tryz.prog 80 [x,.agg [k,n,a,c]] H w Z∧∃ (v:Int)(B:Reg),w=.sc (.int .i64 v)∧Z=H++[B] by
  obtain⟨w,Z,h1,v,B,rfl,rfl⟩:=h
  exact⟨v,B,h1⟩
 refine zR 19 [.tmp 4] Tryz.func80 ?_
 have lx:=fun e=>hx.len e
 obtain⟨B,hB⟩:∃ B:Reg,B={cs:=[k,n,a,c]}:=⟨_,rfl⟩
 have b0:(H++[B])[H.length]?=some {cs:=[k,n,a,c]}:=by rw[←hB];exact yD H [B]
 have hx':=hx.ext (Ext.more H [B])
 simp only[↓zP,zQ,↓qC]
 rw[←hB]
 refine yL (ι:=Nat) (fun i s=>∃ T:Nat→AV,s=⟨qY 19 T,H++[B]⟩∧i≤l.length∧T 0=x∧T 3=.ptr H.length 0∧T 5=.sc (.int .i64 i)) (fun i=>l.length - i) ?_ (i:=0) ?_
 ·rintro i s ⟨T,rfl,a1,a2,a3,a4⟩
  by_cases h:i<l.length
  ·have k1:(i:Int)<l.length:=by omega
   have k2:(0:Int)≤i:=by omega
   have e1:IntKind.i64.wrap ((i:Int)+1)=i+1:=w64 (by omega) (by omega)
   obtain⟨r,rest,o,hxe,hr⟩:=hx'.get h
   have hp:l[i]?=some l[i]:=List.getElem?_eq_getElem h
   generalize l[i]=p at hp
   have hp2:(l++rest)[i]?=some p:=by rw[List.getElem?_append_left h];exact hp
   have rr:=xD yU hp2
   rw[jY p] at rr
   have eq:=eqNd (p.int 0) (p.int 1) (p.int 2) (p.int 3) k n a c
   unfold nv at eq
   by_cases hq:p.int 0=k∧p.int 1=n∧p.int 2=a∧p.int 3=c
   ·rw[decide_eq_true hq] at eq
    simp only[↓zP,zQ,↓qC,a4,a2,lx,k1]
    refine zD [(3,0),(4,0)] ?_
    simp -implicitDefEqProofs only[↓zP,zQ,hxe,a2,a4,k2,k1,qB,a3,b0,Nat.reduceAdd,↓qC,hr,rr,eq]
    refine⟨zX (zX (qH)),?_⟩
    exact⟨_,B,rfl,rfl⟩
   ·rw[decide_eq_false hq] at eq
    simp only[↓zP,zQ,↓qC,a4,a2,lx,k1]
    refine zD [(3,0),(4,0)] ?_
    simp -implicitDefEqProofs only[↓zP,zQ,hxe,a2,a4,k2,k1,qB,a3,b0,Nat.reduceAdd,↓qC,hr,rr,eq]
    refine⟨zX (zX (qH)),?_⟩
    try simp only[e1]
    refine⟨i+1,by omega,_,rfl,by omega,?_,?_,?_⟩<;>simp only[zQ,a2,hxe,a3]<;>rfl
  ·have k1:¬ (i:Int)<l.length:=by omega
   simp only[↓zP,zQ,↓qC,a4,a2,lx,k1]
   exact⟨-1,B,rfl,rfl⟩
 ·refine⟨_,rfl,by omega,?_,?_,?_⟩<;>simp only[zQ]<;>rfl
theorem arenaOkE {H:qE}{x:AV}{l:List (Rw qK)}(hx:RdN H x l)(hl:l.length≤3000):∃ (b:Bool)(Z:qE),Sound Tryz.prog 135 [.agg [x]] H (.sc (.bool b)) Z∧Ext H Z∧(b=true→rt l):=by
 suffices h:∃ w Z,Sound Tryz.prog 135 [.agg [x]] H w Z∧∃ b:Bool,w=.sc (.bool b)∧Ext H Z∧(b=true→rt l) by
  obtain⟨w,Z,h1,b,rfl,h2⟩:=h
  exact⟨b,Z,h1,h2⟩
 refine zR 35 [.tmp 2] Tryz.func135 ?_
 have lx:=fun e=>hx.len e
 obtain⟨H1,hH1⟩:∃ H1:qE,H1=H++[⟨[x],true,true⟩]:=⟨_,rfl⟩
 have e1:Ext H H1:=hH1▸Ext.more H _
 have b1:H1[H.length]?=some ⟨[x],true,true⟩:=by rw[hH1];exact yA H _
 have k0:¬ (3000:Int)<(l.length:Int):=by omega
 simp only[↓zP,zQ,↓qC,Nat.reduceLT,Nat.reduceEqDiff,(hx.one),←hH1,b1,lx,k0]
 refine yL (ι:=Nat) (fun i s=>∃ (T:Nat→AV)(G:qE),s=⟨qY 35 T,G⟩∧Ext H1 G∧i≤l.length∧(∀ (j:Nat) p,j<i→l[j]?=some p→okR p j)∧T 1=.ptr H.length 0∧T 3=.sc (.int .i64 (i:Int))) (fun i=>l.length - i) ?_ (i:=0) ?_
 ·rintro i s ⟨T,G,rfl,eG,hi,al,t1,t3⟩
  have g1:=eG.at b1
  have EG:=e1.trans eG
  by_cases h:i<l.length
  ·have k1:(i:Int)<(l.length:Int):=by omega
   have k2:(0:Int)≤(i:Int):=by omega
   have ei:IntKind.i64.wrap ((i:Int)+1)=((i+1:Nat):Int):=by rw[w64 (by omega) (by omega)];omega
   obtain⟨r,rest,ow,hxe,hr⟩:=(hx.ext EG).get h
   have hp:l[i]?=some l[i]:=List.getElem?_eq_getElem h
   generalize l[i]=p at hp
   have hp2:(l++rest)[i]?=some p:=by rw[List.getElem?_append_left h];exact hp
   have rr:=xD yU hp2
   rw[jY p] at rr
   have cn:=nodeS (p.int 0) (p.int 1) (p.int 2) (p.int 3) i (by omega)
   by_cases hok:kJ (p.int 0) (p.int 1) (p.int 2) (p.int 3) i
   ·rw[decide_eq_true hok] at cn
    obtain⟨v,B,c2⟩:=atR (hx.ext EG) (by omega) (p.int 0) (p.int 1) (p.int 2) (p.int 3)
    have e2:=Ext.more G [B]
    rw[hxe] at c2
    have al':∀ (j:Nat) p,j<i+1→l[j]?=some p→okR p j:=by
     intro j q hj hq
     rcases Nat.lt_or_ge j i with h | h
     ·exact al j q h hq
     ·obtain rfl:j=i:=by omega
      rw[hp] at hq
      cases hq
      exact hok
    simp only[↓zP,zQ,↓qC,Nat.reduceLT,t3,Nat.reduceEqDiff,t1,g1,lx,k1]
    refine zD [(1,0),(4,0),(10,7),(12,7),(15,7)] ?_
    simp only[↓zP,zQ,hxe,Nat.reduceLT,Nat.reduceEqDiff,t1,t3,g1,k2,k1,qB,hr,rr]
    refine qN rfl cn ?_
    simp only[↓zP,zQ,Nat.reduceLT,Nat.reduceEqDiff,t1,t3,g1,hxe,k2,k1,qB,hr,rr]
    refine qF rfl c2 ?_
    by_cases hv:v=(i:Int)
    ·simp only[↓zP,zQ,hv,Nat.reduceLT,Nat.reduceEqDiff,t3,qA,↓qC]
     refine⟨zX (zX (zX (zX (zX (qH))))),?_⟩
     simp only[ei]
     refine⟨i+1,by omega,_,_,rfl,eG.trans e2,by omega,al',?_,?_⟩<;>simp only[zQ,Nat.reduceEqDiff,t1]<;>rfl
    ·simp only[↓zP,zQ,Nat.reduceLT,Nat.reduceEqDiff,t3,hv,qA,↓qC]
     refine⟨zX (zX (zX (zX (zX (qH))))),?_⟩
     exact⟨false,rfl,EG.trans e2,fun h=>by cases h⟩
   ·rw[decide_eq_false hok] at cn
    simp only[↓zP,zQ,↓qC,Nat.reduceLT,t3,Nat.reduceEqDiff,t1,g1,lx,k1]
    refine zD [(1,0),(4,0),(10,7),(12,7),(15,7)] ?_
    simp only[↓zP,zQ,hxe,Nat.reduceLT,Nat.reduceEqDiff,t1,t3,g1,k2,k1,qB,hr,rr]
    refine qN rfl cn ?_
    simp only[↓zP,zQ,Nat.reduceLT,Nat.reduceEqDiff,↓qC,t3]
    refine⟨zX (zX (zX (zX (zX (qH))))),?_⟩
    exact⟨false,rfl,EG,fun h=>by cases h⟩
  ·have k1:¬ (i:Int)<(l.length:Int):=by omega
   simp only[↓zP,zQ,↓qC,Nat.reduceLT,t3,Nat.reduceEqDiff,t1,g1,lx,k1]
   exact⟨true,rfl,EG,fun _ j p hp=>al j p (by have:=(List.getElem?_eq_some_iff.1 hp).1;omega) hp⟩
 ·refine⟨_,H1,rfl,⟨Nat.le_refl _,fun _ _=>rfl⟩,by omega,fun j p hj=>absurd hj (by omega),?_,?_⟩<;>simp only[zQ,Nat.reduceEqDiff]<;>rfl
theorem ok_bnd {p:Rw qK}{i n:Nat}(h:okR p i)(hn:i<n):0≤p.int 2∧p.int 2<n∧0≤p.int 3∧p.int 3<n:=by
 unfold okR kJ at h
 omega
theorem getD_mem {P:List Int}{j:Nat}(h:j<P.length):P.getD j 0∈P:=by
 rw[List.getD_eq_getElem?_getD,List.getElem?_eq_getElem h]
 exact List.getElem_mem h
theorem madeE {H:qE}{x:AV}{l:List (Rw qK)}(hx:RdN H x l)(rl:rt l){q u:Nat}{o1 o2:Bool}{B:List Bool}{P:List Int}(hb:H[q]?=some ⟨kU B,o1,true⟩)(lb:B.length=l.length)(hp:H[u]?=some ⟨ints .i64 P,o2,true⟩)(lp:P.length=l.length)(bp:∀ z∈P,-1≤z∧z<l.length){k:Nat}(hk:k<l.length) :
  ∃ (b:Bool)(Z:qE),Sound Tryz.prog 145 [.agg [x],.sl q 0 l.length 1,.sl u 0 l.length 1,k] H (.sc (.bool b)) Z∧Ext H Z:=by
 suffices h:∃ w Z,Sound Tryz.prog 145 [.agg [x],.sl q 0 l.length 1,.sl u 0 l.length 1,k] H w Z∧∃ b:Bool,w=.sc (.bool b)∧Ext H Z by
  obtain⟨w,Z,h1,b,rfl,h2⟩:=h
  exact⟨b,Z,h1,h2⟩
 refine zR 92 [.tmp 8] Tryz.func145 ?_
 have hpk:l[k]?=some l[k]:=List.getElem?_eq_getElem hk
 generalize l[k]=p at hpk
 obtain⟨a0,a1,c0,c1⟩:=ok_bnd (rl k p hpk) hk
 obtain⟨H1,hH1⟩:∃ H1:qE,H1=H++[{cs:=[x]}]:=⟨_,rfl⟩
 have e1:Ext H H1:=hH1▸Ext.more H _
 have b1:H1[H.length]?=some {cs:=[x]}:=by rw[hH1];exact yA H _
 obtain⟨r,rest,ow,hxe,hr⟩:=(hx.ext e1).get hk
 subst hxe
 have hp2:(l++rest)[k]?=some p:=by rw[List.getElem?_append_left hk];exact hpk
 have rr:=xD yU hp2
 rw[jY p] at rr
 obtain⟨H2,hH2⟩:∃ H2:qE,H2=List.set (H1++[{cs:=[(0:Int),(0:Int),(0:Int),(0:Int)]}]) H1.length {cs:=[p.int 0,p.int 1,p.int 2,p.int 3]}:=⟨_,rfl⟩
 have e2:Ext H1 H2:=by
  rw[hH2]
  exact(Ext.more H1 [{cs:=[(0:Int),(0:Int),(0:Int),(0:Int)]}]).set (Nat.le_refl _) _
 have E2:=e1.trans e2
 have n2:H2[H1.length]?=some {cs:=[p.int 0,p.int 1,p.int 2,p.int 3]}:=by rw[hH2];exact List.getElem?_set_self (by simp)
 have hb2:=E2.at hb
 have hp3:=E2.at hp
 have k2:(0:Int)≤(k:Int):=by omega
 have k3:(k:Int)<(l.length:Int):=by omega
 generalize p.int 0=kd at *
 generalize p.int 1=nn at *
 generalize p.int 2=a at *
 generalize p.int 3=c at *
 have a2:a.toNat<l.length:=by omega
 have c2:c.toNat<l.length:=by omega
 simp -implicitDefEqProofs only[↓zP,zQ,↓qC,Nat.reduceAdd,(hx.one),←hH1,b1,k2,k3,qB,hr,rr,xZ,xY,←hH2,n2]
 by_cases h1:kd=1
 ·simp only[zQ,h1,Int.reduceEq]
  exact⟨_,rfl,E2⟩
 ·by_cases h3:kd=3∨kd=6
  ·rcases h3 with h3 | h3
   all_goals
    simp only[zQ,h3,Int.reduceEq,a0,a1,hb2,lb,a2]
    exact⟨_,rfl,E2⟩
  ·have h3':¬ kd=3:=fun h=>h3 (.inl h)
   have h6:¬ kd=6:=fun h=>h3 (.inr h)
   by_cases h7:kd=7
   ·have bA:P.getD a.toNat 0<l.length∧(P.getD a.toNat 0).toNat<l.length:=by
     have:=bp _ (getD_mem (P:=P) (j:=a.toNat) (by omega))
     omega
    have bC:P.getD c.toNat 0<l.length∧(P.getD c.toNat 0).toNat<l.length:=by
     have:=bp _ (getD_mem (P:=P) (j:=c.toNat) (by omega))
     omega
    obtain⟨bA1,bA2⟩:=bA
    obtain⟨bC1,bC2⟩:=bC
    simp only[zQ,h7,Int.reduceEq,a0,a1,hb2,lb,a2]
    have left:B.getD a.toNat false=false∨(B.getD a.toNat false=true∧¬ 0≤P.getD c.toNat 0)∨(B.getD a.toNat false=true∧0≤P.getD c.toNat 0∧B.getD (P.getD c.toNat 0).toNat false=false)∨(B.getD a.toNat false=true∧0≤P.getD c.toNat 0∧B.getD (P.getD c.toNat 0).toNat false=true):=by
     cases B.getD a.toNat false<;>cases B.getD (P.getD c.toNat 0).toNat false<;>by_cases 0≤P.getD c.toNat 0<;>simp_all
    have right:B.getD c.toNat false=false∨(B.getD c.toNat false=true∧¬ 0≤P.getD a.toNat 0)∨(B.getD c.toNat false=true∧0≤P.getD a.toNat 0):=by
     cases B.getD c.toNat false<;>by_cases 0≤P.getD a.toNat 0<;>simp_all
    rcases left with hA | ⟨hA,gC⟩ | ⟨hA,gC,hC⟩ | ⟨hA,gC,hC⟩
    ·simp only[↓zP,zQ,hA,qA,n2,c0,c1,hb2,lb,c2]
     rcases right with hB | ⟨hB,gA⟩ | ⟨hB,gA⟩<;>first | (simp only[↓zP,zQ,hB,n2,a0,a1,hp3,lp,a2,gA,qA,bA1,hb2,lb,bA2];exact⟨_,rfl,E2⟩) | (simp only[↓zP,zQ,hB,qA];exact⟨_,rfl,E2⟩)
    ·simp only[↓zP,zQ,hA,n2,c0,c1,hp3,lp,c2,gC,qA,hb2,lb]
     rcases right with hB | ⟨hB,gA⟩ | ⟨hB,gA⟩<;>first | (simp only[↓zP,zQ,hB,n2,a0,a1,hp3,lp,a2,gA,qA,bA1,hb2,lb,bA2];exact⟨_,rfl,E2⟩) | (simp only[↓zP,zQ,hB,qA];exact⟨_,rfl,E2⟩)
    ·simp only[↓zP,zQ,hA,n2,c0,c1,hp3,lp,c2,gC,bC1,hb2,lb,bC2,hC]
     rcases right with hB | ⟨hB,gA⟩ | ⟨hB,gA⟩<;>first | (simp only[↓zP,zQ,hB,n2,a0,a1,hp3,lp,a2,gA,qA,bA1,hb2,lb,bA2];exact⟨_,rfl,E2⟩) | (simp only[↓zP,zQ,hB,qA];exact⟨_,rfl,E2⟩)
    ·simp only[↓zP,zQ,hA,n2,c0,c1,hp3,lp,c2,gC,bC1,hb2,lb,bC2,hC,bo_v,↓uE]
     exact⟨_,rfl,E2⟩
   ·simp only[zQ,h1,h3',a0,a1,hb2,lb,a2,h7,h6]
    cases hA:B.getD a.toNat false with
    | false =>
     simp only[↓zP,zQ,qA]
     exact⟨_,rfl,E2⟩
    | true =>
     simp only[↓zP,zQ,n2,c0,c1,hb2,lb,c2]
     exact⟨_,rfl,E2⟩
def nF:List Bool→Nat
 | []=>0
 | b :: l=>(if b then 0 else 1)+nF l
theorem nF_set:∀ (B:List Bool)(i:Nat),i<B.length→nF (B.set i true)+(if B.getD i false then 0 else 1)=nF B
 | [],i,h=>by simp at h
 | b :: l,0,_=>by cases b<;>simp[nF];omega
 | b :: l,i+1,h=>by
  have:=nF_set l i (by simpa using h)
  simp only[List.set_cons_succ,nF,List.getD_cons_succ]
  omega
theorem nF_le (B:List Bool)(i:Nat):nF (B.set i true)≤nF B:=by
 by_cases h:i<B.length
 ·have:=nF_set B i h
  omega
 ·rw[List.set_eq_of_length_le (by omega)]
  exact Nat.le_refl _
theorem nF_lt {B:List Bool}{i:Nat}(h:i<B.length)(hf:B.getD i false=false):nF (B.set i true)<nF B:=by
 have:=nF_set B i h
 rw[hf] at this
 simp at this
 omega
theorem nF_two {B:List Bool}{i j:Nat}(h:i<B.length)(k:j<B.length)(hf:B.getD i false=false∨B.getD j false=false):nF ((B.set i true).set j true)<nF B:=by
 by_cases hi:B.getD i false=false
 ·exact Nat.lt_of_le_of_lt (nF_le _ _) (nF_lt h hi)
 ·have hj:B.getD j false=false:=hf.resolve_left hi
  have hij:i≠j:=fun e=>hi (e▸hj)
  refine Nat.lt_of_lt_of_le (nF_lt (by rw[List.length_set];exact k) ?_) (nF_le B i)
  rw[List.getD_eq_getElem?_getD,List.getElem?_set_ne hij,←List.getD_eq_getElem?_getD]
  exact hj
def PQ (H:qE)(q:Nat)(B:List Bool)(w:AV)(Z:qE):Prop:=
 ∃ (s:Bool)(B':List Bool),w=.sc (.bool s)∧H.length≤Z.length∧(∀ i,i<H.length→i≠q→Z[i]?=H[i]?)∧Z[q]?=some {cs:=kU B'}∧B'.length=B.length∧nF B'≤nF B∧(s=true→nF B'<nF B)
theorem partsR {H:qE}{x:AV}{l:List (Rw qK)}(hx:RdN H x l)(rl:rt l){q:Nat}{B:List Bool}(hb:H[q]?=some {cs:=kU B})(hq:NotIn x q)(lb:B.length=l.length){k:Nat}(hk:k<l.length) :
  ∃ (w:AV)(Z:qE),Sound Tryz.prog 146 [.agg [x],.sl q 0 l.length 1,k] H w Z∧PQ H q B w Z:=by
 refine zR 70 [.tmp 6] Tryz.func146 ?_
 have hpk:l[k]?=some l[k]:=List.getElem?_eq_getElem hk
 generalize l[k]=p at hpk
 obtain⟨a0,a1,c0,c1⟩:=ok_bnd (rl k p hpk) hk
 obtain⟨H1,hH1⟩:∃ H1:qE,H1=H++[{cs:=[x]}]:=⟨_,rfl⟩
 have e1:Ext H H1:=hH1▸Ext.more H _
 have b1:H1[H.length]?=some {cs:=[x]}:=by rw[hH1];exact yA H _
 obtain⟨r,rest,ow,hxe,hr⟩:=(hx.ext e1).get hk
 subst hxe
 have hp2:(l++rest)[k]?=some p:=by rw[List.getElem?_append_left hk];exact hpk
 have rr:=xD yU hp2
 rw[jY p] at rr
 obtain⟨H2,hH2⟩:∃ H2:qE,H2=List.set (H1++[{cs:=[(0:Int),(0:Int),(0:Int),(0:Int)]}]) H1.length {cs:=[p.int 0,p.int 1,p.int 2,p.int 3]}:=⟨_,rfl⟩
 have e2:Ext H1 H2:=by
  rw[hH2]
  exact(Ext.more H1 [{cs:=[(0:Int),(0:Int),(0:Int),(0:Int)]}]).set (Nat.le_refl _) _
 have E2:=e1.trans e2
 have n2:H2[H1.length]?=some {cs:=[p.int 0,p.int 1,p.int 2,p.int 3]}:=by rw[hH2];exact List.getElem?_set_self (by simp)
 have hb2:=E2.at hb
 have k2:(0:Int)≤(k:Int):=by omega
 have k3:(k:Int)<(l.length:Int):=by omega
 have qn:q≠H1.length:=by
  have:=qP hb
  have:=e1.1
  omega
 have qs:∀ B':List Bool,(H2.set q {cs:=kU B'})[q]?=some {cs:=kU B'}:=fun B'=>List.getElem?_set_self (qP hb2)
 have ns:∀ g,(H2.set q g)[H1.length]?=some {cs:=[p.int 0,p.int 1,p.int 2,p.int 3]}:=fun g=>(List.getElem?_set_ne qn).trans n2
 have keep:∀ g,H.length≤(H2.set q g).length∧∀ i,i<H.length→i≠q→(H2.set q g)[i]?=H[i]?:=fun g=>⟨by rw[List.length_set];exact E2.1,fun i hi hn=>(List.getElem?_set_ne (Ne.symm hn)).trans (E2.2 i hi)⟩
 have a2:(p.int 2).toNat<l.length:=by omega
 have c2:(p.int 3).toNat<l.length:=by omega
 generalize p.int 0=kd at *
 generalize p.int 1=nn at *
 generalize p.int 2=a at *
 generalize p.int 3=c at *
 simp -implicitDefEqProofs only[↓zP,zQ,↓qC,Nat.reduceAdd,(hx.one),←hH1,b1,k2,k3,qB,hr,rr,xZ,xY,←hH2,n2]
 by_cases h2:kd=2
 ·cases hA:B.getD a.toNat false with
  | false =>
   simp only[↓zP,zQ,h2,a0,a1,hb2,lb,a2,hA,↓qC,n2,ns,c0,c1,qs,c2,Int.reduceEq]
   exact⟨_,(B.set a.toNat true).set c.toNat true,rfl,(keep _).1,(keep _).2,qs _,by simp,Nat.le_of_lt (nF_two (by omega) (by omega) (.inl hA)),fun _=>nF_two (by omega) (by omega) (.inl hA)⟩
  | true =>
   simp only[↓zP,zQ,h2,a0,a1,hb2,lb,a2,hA,qA,↓qC,n2,ns,c0,c1,qs,c2,Int.reduceEq]
   exact⟨_,(B.set a.toNat true).set c.toNat true,rfl,(keep _).1,(keep _).2,qs _,by simp,Nat.le_trans (nF_le _ _) (nF_le _ _),fun h=>nF_two (by omega) (by omega) (.inr (by simpa using h))⟩
 ·by_cases h8:kd=8
  ·simp only[zQ,h8,Int.reduceEq,a0,a1,hb2,lb,a2,c0,c1,c2]
   exact⟨_,B.set c.toNat true,rfl,(keep _).1,(keep _).2,qs _,by simp,nF_le _ _,fun h=>nF_lt (by omega) (by simpa using h)⟩
  ·by_cases h5:kd=5
   ·cases hA:B.getD a.toNat false with
    | false =>
     simp only[↓zP,zQ,h5,Int.reduceEq,a0,a1,hb2,lb,a2,hA,↓qC,n2,ns,c0,c1,qs,c2]
     exact⟨_,B,rfl,E2.1,fun i hi _=>E2.2 i hi,hb2,rfl,Nat.le_refl _,fun h=>by cases h⟩
    | true =>
     simp only[↓zP,zQ,h5,Int.reduceEq,a0,a1,hb2,lb,a2,hA,qA,↓qC,n2,ns,c0,c1,qs,c2]
     exact⟨_,B.set c.toNat true,rfl,(keep _).1,(keep _).2,qs _,by simp,nF_le _ _,fun h=>nF_lt (by omega) (by simpa using h)⟩
   ·simp only[zQ,h2,hb2,lb,h8,h5]
    exact⟨_,B,rfl,E2.1,fun i hi _=>E2.2 i hi,hb2,rfl,Nat.le_refl _,fun h=>by cases h⟩
theorem pubsE {H:qE}{x:AV}{l:List (Rw qK)}(hx:RdN H x l)(rl:rt l)(hl:l.length≤3000) :
  ∃ (u:Nat)(P:List Int)(Z:qE),Sound Tryz.prog 144 [.agg [x]] H (.sl u 0 l.length 1) Z∧Ext H Z∧H.length≤u∧Z[u]?=some {cs:=ints .i64 P}∧P.length=l.length∧∀ z∈P,-1≤z∧z<l.length:=by
 suffices h:∃ w Z,Sound Tryz.prog 144 [.agg [x]] H w Z∧∃ (u:Nat)(P:List Int),w=.sl u 0 l.length 1∧Ext H Z∧H.length≤u∧Z[u]?=some {cs:=ints .i64 P}∧P.length=l.length∧∀ z∈P,-1≤z∧z<l.length by
  obtain⟨w,Z,h1,u,P,rfl,h2⟩:=h
  exact⟨u,P,Z,h1,h2⟩
 refine zR 41 [.tmp 2] Tryz.func144 ?_
 have o:=hx.one
 have lx:=fun e=>hx.len e
 obtain⟨H1,hH1⟩:∃ H1:qE,H1=H++[{cs:=[x]}]:=⟨_,rfl⟩
 have e1:Ext H H1:=hH1▸Ext.more H _
 have b1:H1[H.length]?=some {cs:=[x]}:=by rw[hH1];exact yA H _
 simp only[↓zP,zQ,↓qC,o,←hH1]
 refine yL (ι:=Nat) (fun i s=>∃ (T:Nat→AV)(G:qE)(q:Nat)(M:List Int),s=⟨qY 41 T,G⟩∧Ext H1 G∧H1.length≤q∧G[q]?=some {cs:=ints .i64 M}∧M.length=i∧i≤l.length∧(∀ z∈M,-1≤z∧z<l.length)∧T 1=.ptr H.length 0∧T 3=.sl q 0 i 1∧T 4=.sc (.int .i64 (i:Int))) (fun i=>l.length - i) ?_ (i:=0) ?_
 ·rintro i s ⟨T,G,q,M,rfl,eG,hq,gq,Ml,hi,wM,t1,t3,t4⟩
  have g1:=eG.at b1
  by_cases h:i<l.length
  ·have k1:(i:Int)<(l.length:Int):=by omega
   obtain⟨Y,hY⟩:∃ Y:qE,Y=G++[{cs:=ints .i64 [-1]}]:=⟨_,rfl⟩
   have e5:Ext G Y:=hY▸Ext.more G _
   have y2:Y[G.length]?=some {cs:=ints .i64 [-1]}:=by rw[hY];exact yA G _
   have Mt:M.take i=M:=List.take_of_length_le (by omega)
   have q1:i≤M.length:=by omega
   have q2:(i+1)*8≤140737488355328:=by omega
   have q3:i+1≤140737488355328:=by omega
   have ew:IntKind.i64.wrap ((i:Int)+1)=((i+1:Nat):Int):=by rw[w64 (by omega) (by omega)];omega
   have e6:=eG.trans e5
   have eF:Ext H1 (yG Y q++[{cs:=ints .i64 (M++[-1])}]):=by
    refine⟨by have:=e6.1;simp[yZ];omega,fun j hj=>?_⟩
    have hjY:j<Y.length:=Nat.lt_of_lt_of_le hj e6.1
    rw[List.getElem?_append_left (by rw[yZ];exact hjY),uR _ _ _ (by omega)]
    exact e6.2 j hj
   have lF:(yG Y q++[{cs:=ints .i64 (M++[-1])}])[Y.length]?=some {cs:=ints .i64 (M++[-1])}:=by
    have:=yA (yG Y q) {cs:=ints .i64 (M++[-1])}
    rwa [yZ] at this
   have wF:∀ z:Int,z∈M++[-1]→-1≤z∧z<(l.length:Int):=by
    intro z hz
    rcases List.mem_append.1 hz with hz | hz
    ·exact wM z hz
    ·rw[List.mem_singleton.1 hz];omega
   simp only[↓zP,zQ,↓qC,t4,t1,t3,ew,←hY,(e5.at gq),y2,q1,q2,q3,Mt,g1,lx,k1]
   refine⟨i+1,by omega,_,_,Y.length,M++[-1],rfl,eF,by have:=e6.1;omega,lF,by simp[Ml],by omega,wF,?_,?_,?_⟩<;>simp only[zQ,t1]<;>rfl
  ·have k1:¬ (i:Int)<(l.length:Int):=by omega
   obtain rfl:i=l.length:=by omega
   simp only[↓zP,zQ,↓qC,t4,t1,t3,g1,lx,k1]
   refine yL (ι:=Nat) (fun i s=>∃ (T:Nat→AV)(P:List Int),s=⟨qY 41 T,G.set q {cs:=ints .i64 P}⟩∧P.length=l.length∧i≤l.length∧(∀ z∈P,-1≤z∧z<l.length)∧T 1=.ptr H.length 0∧T 3=.sl q 0 l.length 1∧T 5=.sc (.int .i64 (i:Int))) (fun i=>l.length - i) ?_ (i:=0) ?_
   ·rintro i s ⟨T,P,rfl,lP,hi2,wP,t1,t3,t5⟩
    have E3:Ext H1 (G.set q {cs:=ints .i64 P}):=eG.set hq _
    have g1:=E3.at b1
    have gs:(G.set q {cs:=ints .i64 P})[q]?=some {cs:=ints .i64 P}:=List.getElem?_set_self (qP gq)
    by_cases h:i<l.length
    ·have k1:(i:Int)<(l.length:Int):=by omega
     have k2:(0:Int)≤(i:Int):=by omega
     have ew:IntKind.i64.wrap ((i:Int)+1)=((i+1:Nat):Int):=by rw[w64 (by omega) (by omega)];omega
     have hp:l[i]?=some l[i]:=List.getElem?_eq_getElem h
     generalize l[i]=p at hp
     obtain⟨a0,a1,_,_⟩:=ok_bnd (rl i p hp) h
     obtain⟨r,rest,ow,hxe,hr⟩:=(hx.ext (e1.trans E3)).get h
     have hp2:(l++rest)[i]?=some p:=by rw[List.getElem?_append_left h];exact hp
     have r0:=fun (o:Bool)(kk:Nat)=>(qX yU (k:=kk) hp2 (j:=0) (by decide) o).trans (p.int_at 0 rfl).1
     have r2:=fun (o:Bool)(kk:Nat)=>(qX yU (k:=kk) hp2 (j:=2) (by decide) o).trans (p.int_at 2 rfl).1
     have a2:(p.int 2).toNat<l.length:=by omega
     by_cases h6:p.int 0=6
     ·have wF:∀ z∈P.set (p.int 2).toNat (i:Int),-1≤z∧z<l.length:=by
       intro z hz
       rcases List.mem_or_eq_of_mem_set hz with hz | rfl
       ·exact wP z hz
       ·omega
      simp only[↓zP,zQ,↓qC,t5,t1,t3,g1,hxe,k2,k1,qB,hr,r2,gs,r0,h6]
      simp only[zQ,a0,a1,lP,a2,ew]
      refine⟨i+1,by omega,_,P.set (p.int 2).toNat (i:Int),rfl,by simp[lP],by omega,wF,?_,?_,?_⟩<;>simp only[zQ,t1,t3]<;>rfl
     ·simp only[↓zP,zQ,↓qC,t5,t1,t3,ew,g1,hxe,k2,k1,qB,hr,r2,gs,r0,h6]
      refine⟨i+1,by omega,_,P,rfl,lP,by omega,wP,?_,?_,?_⟩<;>simp only[zQ,t1,t3]<;>rfl
    ·have k1:¬ (i:Int)<(l.length:Int):=by omega
     simp only[↓zP,zQ,↓qC,t5,t1,t3,g1,lx,k1]
     exact⟨q,P,rfl,e1.trans E3,by have:=e1.1;omega,gs,lP,wP⟩
   ·have hs:G=G.set q {cs:=ints .i64 M}:=by
     have:=(List.getElem?_eq_some_iff.1 gq).2
     rw[←this,List.set_getElem_self]
    refine⟨_,M,congrArg (St.mk _) hs,Ml,by omega,wM,?_,?_,?_⟩
    all_goals (simp only[zQ,t1,t3]<;>rfl)
 ·refine⟨_,_,H1.length,[],rfl,Ext.more H1 _,Nat.le_refl _,yA H1 _,rfl,Nat.zero_le _,by simp,?_,?_,?_⟩<;>simp only[zQ]<;>rfl
theorem mkB (n:Nat)(h:n≤3000):mkV Tryz.prog (some (.slice 4)) (.sc (.int .i64 n)) (.sc (.int .i64 n))=some (kU (List.replicate n false),fun r=>.sl r 0 n 1):=by
 have:=mk_lits (P:=Tryz.prog) (f:=.bool) false 4 .i64 .i64 (n:Int) 1 zero4 info4 jJ (by omega) (by omega) (by omega)
 rw[Int.toNat_natCast] at this
 exact this
def RchQ (H:qE)(n:Nat)(w:AV)(Z:qE):Prop:=∃ (q:Nat)(B:List Bool),w=.sl q 0 n 1∧Ext H Z∧H.length≤q∧Z[q]?=some {cs:=kU B}∧B.length=n
theorem reachR {H:qE}{x y:AV}{l:List (Rw qK)}{L:List Int}(hx:RdN H x l)(rl:rt l)(hl:l.length≤3000)(hy:IsL H y .i64 L)(hL:L.length≤1000000) :
  ∃ (w:AV)(Z:qE),Sound Tryz.prog 136 [.agg [x],y] H w Z∧RchQ H l.length w Z:=by
 refine zR 77 [.tmp 4] Tryz.func136 ?_
 have oy:=hy.one
 have lx:=fun e=>hx.len e
 have ly:=fun e=>hy.len e
 obtain⟨H1,hH1⟩:∃ H1:qE,H1=H++[⟨[x],true,true⟩]:=⟨_,rfl⟩
 have e1:Ext H H1:=hH1▸Ext.more H _
 have b1:H1[H.length]?=some ⟨[x],true,true⟩:=by rw[hH1];exact yA H _
 have el:IntKind.i64.wrap ((l.length:Int) - 1)=(l.length:Int) - 1:=w64 (by omega) (by omega)
 simp only[↓zP,zQ,↓qC,Nat.reduceLT,Nat.reduceEqDiff,(hx.one),←hH1,b1,lx,(mkB l.length hl)]
 refine yL (ι:=Nat) (fun i s=>∃ (T:Nat→AV)(G:qE)(B:List Bool),s=⟨qY 77 T,G⟩∧Ext H1 G∧G[H1.length]?=some ⟨kU B,true,true⟩∧B.length=l.length∧i≤L.length∧T 1=y∧T 2=.ptr H.length 0∧T 5=.sl H1.length 0 l.length 1∧T 6=.sc (.int .i64 (i:Int))) (fun i=>L.length - i) ?_ (i:=0) ?_
 ·rintro i s ⟨T,G,B,rfl,eG,gB,lB,hi,t1,t2,t5,t6⟩
  have g1:=eG.at b1
  by_cases h:i<L.length
  ·have k1:(i:Int)<(L.length:Int):=by omega
   have k2:(0:Int)≤(i:Int):=by omega
   have ew:IntKind.i64.wrap ((i:Int)+1)=((i+1:Nat):Int):=by rw[w64 (by omega) (by omega)];omega
   obtain⟨ry,ow,hye,hry⟩:=((e1.trans eG).isL hy).get h
   have ci:=inS (L.getD i 0) 0 ((l.length:Int) - 1)
   by_cases hu:0≤L.getD i 0∧L.getD i 0≤(l.length:Int) - 1
   ·rw[decide_eq_true hu] at ci
    obtain⟨u0,u1⟩:=hu
    have u1':L.getD i 0<(l.length:Int):=by omega
    have u2:(L.getD i 0).toNat<l.length:=by omega
    simp only[↓zP,zQ,↓qC,hye,Nat.reduceLT,t6,Nat.reduceEqDiff,t1,k2,k1,qB,t5,el,hry,h,t2]
    refine qN rfl ci ?_
    simp only[↓zP,zQ,Nat.reduceLT,Nat.reduceEqDiff,t5,t1,hye,t6,k2,k1,qB,ew,hry,h,u0,u1',gB,lB,u2]
    refine⟨i+1,by omega,_,_,B.set (L.getD i 0).toNat true,rfl,eG.set (Nat.le_refl _) _,List.getElem?_set_self (qP gB),by simp[lB],by omega,?_,?_,?_,?_⟩<;>simp only[zQ,Nat.reduceEqDiff,t1,hye,t2,t5]<;>rfl
   ·rw[decide_eq_false hu] at ci
    simp only[↓zP,zQ,↓qC,hye,Nat.reduceLT,t6,Nat.reduceEqDiff,t1,k2,k1,qB,t5,el,hry,h,t2]
    refine qN rfl ci ?_
    simp only[↓zP,zQ,Nat.reduceLT,Nat.reduceEqDiff,t6,ew]
    refine⟨i+1,by omega,_,_,B,rfl,eG,gB,lB,by omega,?_,?_,?_,?_⟩<;>simp only[zQ,Nat.reduceEqDiff,t1,hye,t2,t5]<;>rfl
  ·have k1:¬ (i:Int)<(L.length:Int):=by omega
   have rgx:=yY (cs:=[x]) (off:=0) rfl
   obtain⟨u,P,Z0,c0,e0,hu,zu,lP,bP⟩:=pubsE (hx.ext (e1.trans eG)) rl hl
   have une:u≠H1.length:=by have:=qP gB;omega
   simp only[↓zP,zQ,↓qC,Nat.reduceLT,t6,Nat.reduceEqDiff,t1,ly,t5,t2,g1,rgx,k1]
   refine qF rfl c0 ?_
   simp only[↓zP,zQ,↓qC,Nat.reduceLT]
   refine yL (ι:=List Bool×Bool) (fun i s=>∃ (T:Nat→AV)(G:qE),s=⟨qY 77 T,G⟩∧Ext H1 G∧G[H1.length]?=some ⟨kU i.1,true,true⟩∧i.1.length=l.length∧G[u]?=some ⟨ints .i64 P,true,true⟩∧T 2=.ptr H.length 0∧T 5=.sl H1.length 0 l.length 1∧T 7=.sl u 0 l.length 1∧T 8=.sc (.bool i.2)) (fun i=>2*nF i.1+(if i.2 then 1 else 0)) ?_ (i:=(B,true)) ?_
   ·rintro⟨B1,s1⟩ s ⟨T,G,rfl,eG,gB,lB,gu,t2,t5,t7,t8⟩
    dsimp only at gB lB t8
    cases s1 with
    | false =>
     simp only[↓zP,zQ,↓qC,qA,Nat.reduceLT,t8,Nat.reduceEqDiff,t5]
     exact⟨H1.length,B1,rfl,e1.trans eG,e1.1,gB,lB⟩
    | true =>
     simp only[↓zP,zQ,↓qC,Nat.reduceLT,t8,Nat.reduceEqDiff,t5]
     refine yL (ι:=Nat) (fun i s=>∃ (T:Nat→AV)(G:qE)(B2:List Bool)(s2:Bool),s=⟨qY 77 T,G⟩∧Ext H1 G∧G[H1.length]?=some ⟨kU B2,true,true⟩∧B2.length=l.length∧G[u]?=some ⟨ints .i64 P,true,true⟩∧i≤l.length∧nF B2≤nF B1∧(s2=true→nF B2<nF B1)∧T 2=.ptr H.length 0∧T 5=.sl H1.length 0 l.length 1∧T 7=.sl u 0 l.length 1∧T 8=.sc (.bool s2)∧T 9=.sc (.int .i64 (i:Int))) (fun i=>l.length - i) ?_ (i:=0) ?_
     ·clear gB gu eG t2 t5 t7 t8
      rintro i s ⟨T,G,B2,s2,rfl,eG,gB,lB2,gu,hi,m1,m2,t2,t5,t7,t8,t9⟩
      have g1:=eG.at b1
      by_cases h:i<l.length
      ·have k1:(i:Int)<(l.length:Int):=by omega
       have k2:(0:Int)≤(i:Int):=by omega
       have ew:IntKind.i64.wrap ((i:Int)+1)=((i+1:Nat):Int):=by rw[w64 (by omega) (by omega)];omega
       cases hb:B2.getD i false with
       | true =>
        simp only[↓zP,zQ,↓qC,Nat.reduceLT,t9,Nat.reduceEqDiff,t5,k2,k1,qB,gB,lB2,h,hb,qA]
        simp only[ew]
        refine⟨i+1,by omega,_,_,B2,s2,rfl,eG,gB,lB2,gu,by omega,m1,m2,?_,?_,?_,?_,?_⟩<;>simp only[zQ,Nat.reduceEqDiff,t2,t5,t7,t8]<;>rfl
       | false =>
        obtain⟨b,Z,c2,e2⟩:=madeE (hx.ext (e1.trans eG)) rl gB lB2 gu lP bP h
        have zB:=e2.at gB
        have zu:=e2.at gu
        simp only[↓zP,zQ,↓qC,Nat.reduceLT,t9,Nat.reduceEqDiff,t5,k2,k1,qB,gB,lB2,h,hb,t2,g1,rgx,t7]
        refine qF rfl c2 ?_
        cases b with
        | true =>
         have lt:=nF_lt (by omega) hb
         simp only[↓zP,zQ,Nat.reduceLT,Nat.reduceEqDiff,↓qC,t5,t9,k2,k1,qB,ew,zB,lB2,h]
         refine⟨i+1,by omega,_,_,B2.set i true,true,rfl,(eG.trans e2).set (Nat.le_refl _) _,List.getElem?_set_self (qP zB),by simp[lB2],(List.getElem?_set_ne (Ne.symm une)).trans zu,by omega,by omega,fun _=>by omega,?_,?_,?_,?_,?_⟩<;>simp only[zQ,Nat.reduceEqDiff,t2,t5,t7]<;>rfl
        | false =>
         simp only[↓zP,zQ,Nat.reduceLT,Nat.reduceEqDiff,↓qC,t9,ew]
         refine⟨i+1,by omega,_,_,B2,s2,rfl,eG.trans e2,zB,lB2,zu,by omega,m1,m2,?_,?_,?_,?_,?_⟩<;>simp only[zQ,Nat.reduceEqDiff,t2,t5,t7,t8]<;>rfl
      ·have k1:¬ (i:Int)<(l.length:Int):=by omega
       simp only[↓zP,zQ,↓qC,Nat.reduceLT,t9,Nat.reduceEqDiff,t5,k1,el]
       refine yL (ι:=Nat) (fun i s=>∃ (T:Nat→AV)(G:qE)(B3:List Bool)(s3:Bool),s=⟨qY 77 T,G⟩∧Ext H1 G∧G[H1.length]?=some ⟨kU B3,true,true⟩∧B3.length=l.length∧G[u]?=some ⟨ints .i64 P,true,true⟩∧i≤l.length∧nF B3≤nF B1∧(s3=true→nF B3<nF B1)∧T 2=.ptr H.length 0∧T 5=.sl H1.length 0 l.length 1∧T 7=.sl u 0 l.length 1∧T 8=.sc (.bool s3)∧T 10=.sc (.int .i64 ((i:Int) - 1))) (fun i=>i) ?_ (i:=l.length) ?_
       ·clear gB gu eG t2 t5 t7 t8 t9 g1 k1
        rintro i s ⟨T,G,B3,s3,rfl,eG,gB,lB3,gu,hi,m1,m2,t2,t5,t7,t8,t10⟩
        have g1:=eG.at b1
        cases i with
        | zero =>
         have k1:¬ ((0:Int)≤((0:Nat):Int) - 1):=by omega
         simp -implicitDefEqProofs only[↓zP,zQ,↓qC,Nat.reduceLT,t10,Int.reduceSub,Int.reduceLE,Nat.reduceEqDiff,t5,Int.reduceToNat]
         refine⟨(B3,s3),?_,_,_,rfl,eG,gB,lB3,gu,?_,?_,?_,?_⟩
         ·show 2*nF B3+(if s3=true then 1 else 0)<2*nF B1+(if true=true then 1 else 0)
          by_cases h3:s3=true
          ·have:=m2 h3
           simp[h3]
           omega
          ·simp[h3]
           omega
         all_goals (simp only[zQ,Nat.reduceEqDiff,t2,t5,t7,t8]<;>rfl)
        | succ i =>
         have h:i<l.length:=by omega
         have e2:(((i+1:Nat):Int) - 1)=(i:Int):=by omega
         rw[e2] at t10
         have k1:(0:Int)≤(i:Int):=by omega
         have k2:(i:Int)<(l.length:Int):=by omega
         have ew:IntKind.i64.wrap ((i:Int) - 1)=(i:Int) - 1:=w64 (by omega) (by omega)
         cases hb:B3.getD i false with
         | false =>
          simp only[↓zP,zQ,↓qC,Nat.reduceLT,t10,k1,Nat.reduceEqDiff,t5,k2,qB,gB,lB3,h,hb,qA]
          simp only[ew]
          refine⟨i,by omega,_,_,B3,s3,rfl,eG,gB,lB3,gu,by omega,m1,m2,?_,?_,?_,?_,?_⟩<;>simp only[zQ,Nat.reduceEqDiff,t2,t5,t7,t8]<;>rfl
         | true =>
          obtain⟨_,Z,c2,b,B4,rfl,p1,p2,p3,p4,p5,p6⟩:=partsR (hx.ext (e1.trans eG)) rl gB (RdN.lt hx e1.1) lB3 h
          have eZ:Ext H1 Z:=⟨Nat.le_trans eG.1 p1,fun j hj=>(p2 j (Nat.lt_of_lt_of_le hj eG.1) (by omega)).trans (eG.2 j hj)⟩
          have zu:=(p2 u (qP gu) une).trans gu
          simp only[↓zP,zQ,↓qC,Nat.reduceLT,t10,k1,Nat.reduceEqDiff,t5,k2,qB,gB,lB3,h,hb,t2,g1,rgx]
          refine qF rfl c2 ?_
          cases b with
          | true =>
           have:=p6 rfl
           simp only[↓zP,zQ,Nat.reduceLT,Nat.reduceEqDiff,t10,ew]
           refine⟨i,by omega,_,_,B4,true,rfl,eZ,p3,by omega,zu,by omega,by omega,fun _=>by omega,?_,?_,?_,?_,?_⟩<;>simp only[zQ,Nat.reduceEqDiff,t2,t5,t7]<;>rfl
          | false =>
           simp only[↓zP,zQ,Nat.reduceLT,Nat.reduceEqDiff,t10,ew]
           refine⟨i,by omega,_,_,B4,s3,rfl,eZ,p3,by omega,zu,by omega,by omega,fun h=>by have:=m2 h;omega,?_,?_,?_,?_,?_⟩<;>simp only[zQ,Nat.reduceEqDiff,t2,t5,t7,t8]<;>rfl
       ·refine⟨_,_,B2,s2,rfl,eG,gB,lB2,gu,Nat.le_refl _,m1,m2,?_,?_,?_,?_,?_⟩<;>simp only[zQ,Nat.reduceEqDiff,t2,t5,t7,t8]<;>rfl
     ·refine⟨_,_,B1,false,rfl,eG,gB,lB,gu,by omega,Nat.le_refl _,(fun h=>by cases h),?_,?_,?_,?_,?_⟩<;>simp only[zQ,Nat.reduceEqDiff,t2,t5,t7]<;>rfl
   ·refine⟨_,_,rfl,eG.trans e0,e0.at gB,lB,zu,?_,?_,?_,?_⟩<;>simp only[zQ,Nat.reduceEqDiff,t2,t5]<;>rfl
 ·refine⟨_,_,List.replicate l.length false,rfl,Ext.more H1 _,yA H1 _,by simp,by omega,?_,?_,?_,?_⟩<;>simp only[zQ,Nat.reduceEqDiff]<;>rfl
theorem reachE {H:qE}{x y:AV}{l:List (Rw qK)}{L:List Int}(hx:RdN H x l)(hl:l.length≤3000)(hy:IsL H y .i64 L)(hL:L.length≤1000000) :
  ∃ (n:Nat)(w:AV)(Z:qE),Sound Tryz.prog 117 [.agg [x],y] H w Z∧n≤3000∧RchQ H n w Z:=by
 suffices h:∃ w Z,Sound Tryz.prog 117 [.agg [x],y] H w Z∧∃ n,n≤3000∧RchQ H n w Z by
  obtain⟨w,Z,h1,n,h2⟩:=h
  exact⟨n,w,Z,h1,h2⟩
 refine zR 12 [.tmp 4] Tryz.func117 ?_
 obtain⟨H1,hH1⟩:∃ H1:qE,H1=H++[{cs:=[x]}]:=⟨_,rfl⟩
 have e1:Ext H H1:=hH1▸Ext.more H _
 have b1:H1[H.length]?=some {cs:=[x]}:=by rw[hH1];exact yA H _
 have rgx:=yY (cs:=[x]) (off:=0) rfl
 obtain⟨b,Z,c1,e2,hb⟩:=arenaOkE (hx.ext e1) hl
 simp only[↓zP,zQ,↓qC,(hx.one),←hH1,b1,rgx]
 refine qF rfl c1 ?_
 cases b with
 | false =>
  simp only[↓zP,zQ,↓qC]
  exact⟨0,by omega,Z.length,[],rfl,(e1.trans e2).trans (Ext.more Z _),(e1.trans e2).1,yA Z _,rfl⟩
 | true =>
  obtain⟨w,Y,c2,q,B,rfl,h1,h2,h3⟩:=reachR (hx.ext (e1.trans e2)) (hb rfl) hl ((e1.trans e2).isL hy) hL
  simp only[↓zP,zQ,↓qC,(e2.at b1),rgx]
  refine qF rfl c2 ?_
  simp only[↓zP,zQ]
  exact⟨l.length,hl,q,B,rfl,(e1.trans e2).trans h1,by have:=(e1.trans e2).1;omega,h3⟩
theorem derivesE {H:qE}{x y:AV}{l:List (Rw qK)}{L:List Int}(hx:RdN H x l)(hl:l.length≤3000)(hy:IsL H y .i64 L)(hL:L.length≤1000000)(k:Int) :
  ∃ (bb:Bool)(Z:qE),Sound Tryz.prog 97 [.agg [x],y,k] H (.sc (.bool bb)) Z∧Ext H Z:=by
 suffices h:∃ w Z,Sound Tryz.prog 97 [.agg [x],y,k] H w Z∧∃ bb:Bool,w=.sc (.bool bb)∧Ext H Z by
  obtain⟨w,Z,h1,b,rfl,h2⟩:=h
  exact⟨b,Z,h1,h2⟩
 refine zR 22 [.tmp 6] Tryz.func97 ?_
 obtain⟨H1,hH1⟩:∃ H1:qE,H1=H++[{cs:=[x]}]:=⟨_,rfl⟩
 have e1:Ext H H1:=hH1▸Ext.more H _
 have b1:H1[H.length]?=some {cs:=[x]}:=by rw[hH1];exact yA H _
 have rgx:=yY (cs:=[x]) (off:=0) rfl
 obtain⟨n,w,Z,c1,hn,q,B,rfl,e2,_,zB,lB⟩:=reachE (hx.ext e1) hl (e1.isL hy) hL
 simp only[↓zP,zQ,↓qC,(hx.one),←hH1,b1,rgx]
 refine qF rfl c1 ?_
 simp only[↓zP,zQ,↓qC,(w64 (by omega) (by omega):IntKind.i64.wrap ((n:Int) - 1)=(n:Int) - 1)]
 refine qN rfl (inS k 0 ((n:Int) - 1)) ?_
 by_cases hk:0≤k∧k≤(n:Int) - 1
 ·rw[decide_eq_true hk]
  obtain⟨k0,k1⟩:=hk
  have k1':k<(n:Int):=by omega
  simp only[↓zP,zQ,k0,k1',zB,lB,(by omega:k.toNat<n)]
  exact⟨_,rfl,e1.trans e2⟩
 ·rw[decide_eq_false hk]
  simp only[↓zP,zQ,qA]
  exact⟨_,rfl,e1.trans e2⟩
theorem turnGateE {H:qE}{N:Nat}{x5 x6 x7 x8:AV}{l5:List (Rw kSess)}{l6:List (Rw kLease)}{l7:List (Rw xM)}{l8:List (Rw kOut)}(n nx dr:Int)(wn:W64 n)(wx:W64 nx)(wd:W64 dr)(h5:OwnX Rw.cs 20 H x5 l5)(h6:OwnX Rw.cs 2 H x6 l6)(h7:OwnX Rw.cs 3 H x7 l7)(h8:OwnX Rw.cs 5 H x8 l8)
  (b5:l5.length≤64) (b6:l6.length≤N) (b7:l7.length≤N) (b8:l8.length≤N) (hN:N≤1000000) (c:Int) (wc:W64 c) :
  ∃ (ds:List AV)(bb:Bool)(Z:qE),Sound Tryz.prog 94 [.agg [n,nx,x5,x6,x7,x8,dr],c] H (.tup [.agg ds,.sc (.bool bb)]) Z∧Ext H Z∧Vd Z H.length (KG N) ds:=
 turnGateW n nx dr c wn wx wd wc hN h5.rdx b5 h6.rdx b6 h7.rdx b7 h8.rdx b8
theorem idleGateE {H:qE}{N:Nat}{x5 x6 x7 x8:AV}{l5:List (Rw kSess)}{l6:List (Rw kLease)}{l7:List (Rw xM)}{l8:List (Rw kOut)}(n nx dr:Int)(wn:W64 n)(wx:W64 nx)(wd:W64 dr)(h5:OwnX Rw.cs 20 H x5 l5)(h6:OwnX Rw.cs 2 H x6 l6)(h7:OwnX Rw.cs 3 H x7 l7)(h8:OwnX Rw.cs 5 H x8 l8)
  (b5:l5.length≤64) (b6:l6.length≤N) (b7:l7.length≤N) (b8:l8.length≤N) (hN:N≤1000000) (c:Int) (wc:W64 c) :
  ∃ (ds:List AV)(Z:qE),Sound Tryz.prog 73 [.agg [n,nx,x5,x6,x7,x8,dr],c] H (.agg ds) Z∧Ext H Z∧Vd Z H.length (KG N) ds:=
 idleGateW n nx dr c wn wx wd wc hN h5.rdx b5 h6.rdx b6 h7.rdx b7 h8.rdx b8
theorem routeOfE {H:qE}{x:AV}{l:List (Rw xM)}(hx:OwnX Rw.cs 3 H x l)(hl:l.length≤1000000)(k:Int)(wk:W64 k):∃ (a b c:Int)(bb:Bool)(Z:qE),Sound Tryz.prog 177 [x,k] H (.tup [.agg [a,b,c],.sc (.bool bb)]) Z∧Ext H Z∧W64 a∧W64 b∧W64 c:=routeOfW k wk hx.rdx hl
theorem leasedE {H:qE}{x:AV}{l:List (Rw kLease)}(hx:OwnX Rw.cs 2 H x l)(hl:l.length≤1000000)(k:Int)(wk:W64 k):∃ (q:Nat)(m:List (Rw kLease))(p:Int)(bb:Bool)(Z:qE),Sound Tryz.prog 173 [x,k] H (.tup [.sl q 0 m.length 2,.sc (.int .i64 p),.sc (.bool bb)]) Z∧Ext H Z∧H.length≤q∧Z[q]?=some {cs:=rows Rw.cs m}∧m.length≤l.length+60∧W64 p:=leasedW k wk hx.rdx hl
theorem sayW {H:qE}{r N:Nat}{cs:List AV}(w0:Wd H r (KW 2 2 1 N) cs)(hN:N+2≤900000)(f t k:Int)(wf:W64 f)(wt:W64 t)(wk:W64 k):∃ (cs':List AV)(Z:qE),Sound Tryz.prog 70 [.ptr r 0,f,t,k] H (.tup []) Z∧Wd Z r (KW 2 2 1 (N+2)) cs'∧OnlyW H Z r cs cs':=by
 suffices h:∃ w Z,Sound Tryz.prog 70 [.ptr r 0,f,t,k] H w Z∧∃ (cs':List AV),w=.tup []∧Wd Z r (KW 2 2 1 (N+2)) cs'∧OnlyW H Z r cs cs' by
  obtain⟨w,Z,h1,cs',rfl,h2⟩:=h
  exact⟨cs',Z,h1,h2⟩
 refine zR 39 [] Tryz.func70 ?_
 have S0:=WS.start w0
 by_cases h1:k<(0:Int)
 ·try simp -implicitDefEqProofs only[↓zP,zQ,↓qC,h1,qJ,Nat.reduceAdd]
  have S2:=S0.up (M:=N+2) (by omega)
  exact⟨_,S2.w,S2.o⟩
 ·have sr3:=S0.w.at_
  obtain⟨x4,l5,hx6,hl7,pl8⟩:=S0.w.gO 13 rfl
  obtain⟨pl9,pw10⟩:=pl8
  have rx12:=qL hx6
  obtain⟨b13,e14,nn15⟩:=S0.alloc (i:=H.length) (by simp) {cs:=ints .i64 [k]}
  have S17:=(S0.ext e14).up (M:=N+1) (by omega)
  obtain⟨x19,G20,Z21,cs22,ap23,o24,gr25,wr26,hx27,hl28,C29⟩:=S17.w.apC (k:=13) uV uU vD rfl hx6 (hl7.ext e14) (xX (L:=([k]:List Int)) (n:=1) b13.1 rfl) (by simp only[List.length_cons,List.length_nil];omega) (⟨by simp only[List.length_append,List.length_cons,List.length_nil];omega,xF pw10 (xA (show W64 (k) from wk) xR)⟩)
  obtain⟨l30,e31⟩:∃ l,l=l5++([k]:List Int):=⟨_,rfl⟩
  rw[←e31] at hl28
  have S40:=S17.chg C29
  have sr41:=S40.w.at_
  obtain⟨x42,l43,hx44,hl45,pl46⟩:=S40.w.gO 10 rfl
  have rx48:=qL hx44
  have ln49:=fun e=>hl45.len e
  by_cases h50:(l43.length:Int)<(12:Int)
  ·obtain⟨p51,hp52⟩:=((RowOk.int wf (RowOk.int wt (RowOk.int wk RowOk.nil))):RowOk kT [.sc (.int .i64 (f)),.sc (.int .i64 (t)),.sc (.int .i64 (k))])
   obtain⟨b53,e54,nn55⟩:=S40.alloc (i:=Z21.length) (by simp) {cs:=[f,t,k]}
   have b56:=b53
   rw[←hp52] at b56
   have S58:=(S40.ext e54).up (M:=N+2) (by omega)
   obtain⟨x60,G61,Z62,cs63,ap64,o65,gr66,wr67,hx68,hl69,C70⟩:=S58.w.apC (k:=10) apS35 apN35 uF rfl hx44 (hl45.ext e54) (xL uF (a:=p51) (by rw[hp52];exact b53.1)) (by simp only[List.length_cons,List.length_nil];omega) (by simp only[List.length_append,List.length_cons,List.length_nil];omega)
   obtain⟨l71,e72⟩:∃ l,l=l43++[p51]:=⟨_,rfl⟩
   rw[←e72] at hl69
   try simp -implicitDefEqProofs only[↓zP,zQ,↓qC,h1,qJ,Nat.reduceAdd,sr3,rx12,ap23,gr25,wr26,sr41,rx48,ap64,gr66,wr67,ln49,h50]
   have S80:=S58.chg C70
   exact⟨_,S80.w,S80.o⟩
  ·try simp -implicitDefEqProofs only[↓zP,zQ,↓qC,h1,qJ,Nat.reduceAdd,sr3,rx12,ap23,gr25,wr26,sr41,rx48,ln49,h50]
   have S81:=S40.up (M:=N+2) (by omega)
   exact⟨_,S81.w,S81.o⟩
theorem cidW {H:qE}{r N:Nat}{cs:List AV}(w0:Wd H r (KW 2 2 1 N) cs)(hN:N+0≤900000)(k:Int)(wk:W64 k):∃ (vv:Int)(Z:qE),Sound Tryz.prog 91 [.ptr r 0,k] H (.sc (.int .i64 vv)) Z∧Ext H Z∧W64 vv:=by
 suffices h:∃ w Z,Sound Tryz.prog 91 [.ptr r 0,k] H w Z∧∃ (vv:Int),w=.sc (.int .i64 vv)∧Ext H Z∧W64 vv by
  obtain⟨w,Z,h1,vv,rfl,h2⟩:=h
  exact⟨vv,Z,h1,h2⟩
 refine zR 37 [.tmp 4] Tryz.func91 ?_
 have S0:=WS.start w0
 obtain⟨x2,l3,hx4,hl5,pl6⟩:=S0.w.gO 5 rfl
 have rx8:=qL hx4
 try simp only[↓zP,zQ,↓qC]
 refine yL (ι:=Nat) (fun i s=>∃ (T:Nat→AV)(G:qE)(v14:Int),s=⟨qY 37 T,G⟩∧Ext H G∧i≤l3.length∧W64 v14∧T 0=.ptr (r) 0∧T 1=.sc (.int .i64 (k))∧T 4=.sc (.int .i64 (v14))∧T 5=.sc (.int .i64 i)) (fun i=>l3.length - i) ?_ (i:=0) ?_
 rotate_left
 ·exact⟨_,_,_,rfl,Ext.refl _,Nat.zero_le _,⟨by decide,by decide⟩,rfl,rfl,rfl,rfl⟩
 rintro i10 s ⟨T11,Z12,v14,rfl,C21,hi20,w19,a15,a16,a17,a18⟩
 have e22:i10<l3.length→IntKind.i64.wrap ((i10:Int)+1)=((i10+1:Nat):Int):=fun h=>by rw[w64 (by omega) (by omega)];omega
 have S23:=S0.ext C21
 have sr24:=S23.w.at_
 have hl25:=hl5.ext C21
 have ln26:=fun e=>hl25.len e
 by_cases h27:((i10:Int))<(l3.length:Int)
 ·have hb28:i10<l3.length:=by omega
  obtain⟨q29,xe30,_⟩:=hl25.get hb28
  subst xe30
  obtain⟨p31,hp32⟩:∃ p,l3[i10]?=some p:=⟨_,List.getElem?_eq_getElem hb28⟩
  have k33:(0:Int)≤(i10:Int):=by omega
  have hq35:=hl25.at
  have re36:=xD yK hp32
  obtain⟨b37,e38,nn39⟩:=S23.alloc (i:=Z12.length) (by simp) {cs:=(Rw.zero kSess).cs}
  have c40:=b37.1
  have wr42:=fun (H:qE)(r:Nat)=>Rw.wrA (Rw.zero kSess) p31 (m:=20) rfl H r
  have c44:=(b37.put {cs:=p31.cs}).1
  have rf45:=p31.rdI (j:=2) rfl
  by_cases h46:(p31.int 2)=(2:Int)
  ·have h47:=eq_true h46
   have rf48:=p31.rdI (j:=10) rfl
   by_cases h49:(p31.int 10)=k
   ·have h50:=eq_true h49
    have rf51:=p31.rdI (j:=0) rfl
    try simp -implicitDefEqProofs only[↓zP,zQ,↓qC,a18,a15,qJ,z65,Rw.ones,c40,Nat.reduceAdd,sr24,rx8,k33,h27,qB,hq35,re36,wr42,c44,rf45,h47,a16,rf51,rf48,h50,ln26]
    exact⟨_,rfl,((((Ext.refl H).trans C21).trans e38).set b37.2.1 {cs:=p31.cs}),(p31.w64 0 rfl)⟩
   ·have e56:=e22 (by omega)
    try simp -implicitDefEqProofs only[↓zP,zQ,↓qC,a18,a15,qJ,z65,Rw.ones,c40,Nat.reduceAdd,sr24,rx8,k33,h27,qB,hq35,re36,wr42,c44,rf45,h47,a16,e56,rf48,h49,ln26]
    have u57:(H:qE).length≤Z12.length:=by have h:=C21.1;simpa using h
    refine⟨i10+1,by omega,_,_,v14,rfl,((C21.trans e38).set u57 {cs:=p31.cs}),by omega,w19,?_,?_,?_,?_⟩<;>simp only[zQ,a15,a16,a17]<;>rfl
  ·have e60:=e22 (by omega)
   try simp -implicitDefEqProofs only[↓zP,zQ,↓qC,a18,a15,qJ,z65,Rw.ones,c40,Nat.reduceAdd,sr24,rx8,k33,h27,qB,hq35,re36,wr42,c44,rf45,h46,qA,e60,ln26]
   have u61:(H:qE).length≤Z12.length:=by have h:=C21.1;simpa using h
   refine⟨i10+1,by omega,_,_,v14,rfl,((C21.trans e38).set u61 {cs:=p31.cs}),by omega,w19,?_,?_,?_,?_⟩<;>simp only[zQ,a15,a16,a17]<;>rfl
 ·try simp -implicitDefEqProofs only[↓zP,zQ,↓qC,a18,a15,qJ,Nat.reduceAdd,sr24,rx8,ln26,h27]
  exact⟨_,rfl,((Ext.refl H).trans C21),⟨by decide,by decide⟩⟩
theorem safeW {H:qE}{r N:Nat}{cs:List AV}(w0:Wd H r (KW 2 2 1 N) cs)(hN:N+0≤900000)(n k:Int)(wn:W64 n)(wk:W64 k):∃ (vv:Int)(bb:Bool)(Z:qE),Sound Tryz.prog 114 [.ptr r 0,n,k] H (.tup [.sc (.int .i64 vv),.sc (.bool bb)]) Z∧Ext H Z∧W64 vv:=by
 suffices h:∃ w Z,Sound Tryz.prog 114 [.ptr r 0,n,k] H w Z∧∃ (vv:Int)(bb:Bool),w=.tup [.sc (.int .i64 vv),.sc (.bool bb)]∧Ext H Z∧W64 vv by
  obtain⟨w,Z,h1,vv,bb,rfl,h2⟩:=h
  exact⟨vv,bb,Z,h1,h2⟩
 refine zR 56 [.tmp 6,.tmp 7] Tryz.func114 ?_
 have S0:=WS.start w0
 have sr1:=S0.w.at_
 obtain⟨x2,l3,hx4,hl5,pl6⟩:=S0.w.gO 16 rfl
 have rx8:=qL hx4
 try simp only[↓zP,zQ,↓qC]
 refine yL (ι:=Nat) (fun i s=>∃ (T:Nat→AV)(v14:Int)(t15:Bool),s=⟨qY 56 T,H⟩∧i≤l3.length∧W64 v14∧T 0=.ptr (r) 0∧T 1=.sc (.int .i64 (n))∧T 2=.sc (.int .i64 (k))∧T 6=.sc (.int .i64 (v14))∧T 7=.sc (.bool t15)∧T 8=.sc (.int .i64 i)) (fun i=>l3.length - i) ?_ (i:=0) ?_
 rotate_left
 ·exact⟨_,_,_,rfl,Nat.zero_le _,⟨by decide,by decide⟩,rfl,rfl,rfl,rfl,rfl,rfl⟩
 rintro i10 s ⟨T11,v14,t15,rfl,hi23,w22,a16,a17,a18,a19,a20,a21⟩
 have e25:i10<l3.length→IntKind.i64.wrap ((i10:Int)+1)=((i10+1:Nat):Int):=fun h=>by rw[w64 (by omega) (by omega)];omega
 have ln26:=fun e=>hl5.len e
 by_cases h27:((i10:Int))<(l3.length:Int)
 ·have hb28:i10<l3.length:=by omega
  obtain⟨q29,xe30,_⟩:=hl5.get hb28
  subst xe30
  obtain⟨p31,hp32⟩:∃ p,l3[i10]?=some p:=⟨_,List.getElem?_eq_getElem hb28⟩
  have k33:(0:Int)≤(i10:Int):=by omega
  have hq35:=hl5.at
  have re36:=fun (o:Bool)(kk:Nat)=>(qX xG (k:=kk) hp32 (j:=0) (by decide) o).trans (p31.int_at 0 rfl).1
  by_cases h37:(p31.int 0)=n
  ·have h38:=eq_true h37
   have re39:=fun (o:Bool)(kk:Nat)=>(qX xG (k:=kk) hp32 (j:=2) (by decide) o).trans (p31.int_at 2 rfl).1
   by_cases h40:(p31.int 2)=k
   ·have h41:=eq_true h40
    try simp only[↓zP,zQ,↓qC,a21,a16,qJ,a17,sr1,rx8,k33,h27,qB,hq35,re36,h38,a18,re39,h41,ln26]
    refine zD [(3,0),(7,0),(11,0),(15,0)] ?_
    have re42:=fun (o:Bool)(kk:Nat)=>(qX xG (k:=kk) hp32 (j:=1) (by decide) o).trans (p31.int_at 1 rfl).1
    have re43:=fun (o:Bool)(kk:Nat)=>(qX xG (k:=kk) hp32 (j:=6) (by decide) o).trans (p31.boo_at 6 rfl)
    obtain⟨t44,ht45⟩:∃ b,p31.boo 6=b:=⟨_,rfl⟩
    try simp only[↓zP,zQ,a16,qJ,a21,sr1,rx8,k33,h27,qB,hq35,re43,ht45,re42]
    refine⟨zX (zX (zX (zX (qH)))),?_⟩
    exact⟨_,_,rfl,(Ext.refl H),(p31.w64 1 rfl)⟩
   ·have e47:=e25 (by omega)
    try simp only[↓zP,zQ,↓qC,a21,a16,qJ,a17,sr1,rx8,k33,h27,qB,hq35,re36,h38,a18,e47,re39,h40,ln26]
    refine⟨i10+1,by omega,_,v14,t15,rfl,by omega,w22,?_,?_,?_,?_,?_,?_⟩<;>simp only[zQ,a16,a17,a18,a19,a20]<;>rfl
  ·have e48:=e25 (by omega)
   try simp only[↓zP,zQ,↓qC,a21,a16,qJ,a17,sr1,rx8,k33,h27,qB,hq35,re36,h37,qA,e48,ln26]
   refine⟨i10+1,by omega,_,v14,t15,rfl,by omega,w22,?_,?_,?_,?_,?_,?_⟩<;>simp only[zQ,a16,a17,a18,a19,a20]<;>rfl
 ·try simp only[↓zP,zQ,↓qC,a21,a16,qJ,a17,sr1,rx8,ln26,h27]
  exact⟨_,_,rfl,(Ext.refl H),⟨by decide,by decide⟩⟩
theorem forwardW {H:qE}{r N:Nat}{cs:List AV}(w0:Wd H r (KW 2 2 1 N) cs)(hN:N+1≤900000){x0:AV}{l0:List (Rw qK)}(hP:PlN H r 0 cs x0 l0)(hl0:l0.length≤3000)(rt0:rt l0){x5:AV}{l5:List (Rw kSess)}(hx5:cs[5]?=some x5)(hl5:OwnX Rw.cs 20 H x5 l5)(pl5:l5.length≤64)(cid sr ds ho va:Int)(wcid:W64 cid)(wsr:W64 sr)(wds:W64 ds)(who:W64 ho)(wva:W64 va):∃ (q:Nat)(ml:List (Rw vX))(x1:AV)(l1:List (Rw qK))(x6:AV)(l6:List (Rw kSess))(cs':List AV)(Z:qE),Sound Tryz.prog 162 [.ptr r 0,.ptr r 3,cid,.agg [sr,ds,ho,va]] H (.sl q 0 ml.length 2) Z∧Wd Z r (KW 2 2 1 (N+1)) cs'∧OnlyW H Z r cs cs'∧PlN Z r 0 cs' x1 l1∧Grw l0 l1∧cs'[5]?=some x6∧OwnX Rw.cs 20 Z x6 l6∧uI l6=uI l5∧LclW Z H.length r cs' q {cs:=rows Rw.cs ml}∧ml.length≤1:=by
 suffices h:∃ w Z,Sound Tryz.prog 162 [.ptr r 0,.ptr r 3,cid,.agg [sr,ds,ho,va]] H w Z∧∃ (q:Nat)(ml:List (Rw vX))(x1:AV)(l1:List (Rw qK))(x6:AV)(l6:List (Rw kSess))(cs':List AV),w=.sl q 0 ml.length 2∧Wd Z r (KW 2 2 1 (N+1)) cs'∧OnlyW H Z r cs cs'∧PlN Z r 0 cs' x1 l1∧Grw l0 l1∧cs'[5]?=some x6∧OwnX Rw.cs 20 Z x6 l6∧uI l6=uI l5∧LclW Z H.length r cs' q {cs:=rows Rw.cs ml}∧ml.length≤1 by
  obtain⟨w,Z,h1,q,ml,x1,l1,x6,l6,cs',rfl,h2⟩:=h
  exact⟨q,ml,x1,l1,x6,l6,cs',Z,h1,h2⟩
 refine zR 192 [.tmp 8] Tryz.func162 ?_
 have S0:=WS.start w0
 have G0:=Grw.refl l0
 have o5:=hl5.one
 have cid0:uI l5=uI l5:=rfl
 obtain⟨b1,e2,nn3⟩:=S0.alloc (i:=H.length) (by simp) {cs:=[sr,ds,ho,va]}
 have S4:=S0.ext e2
 obtain⟨b5,e6,nn7⟩:=S4.alloc (i:=H.length+1) (by simp) {cs:=[]}
 have S8:=S4.ext e6
 have sr9:=S8.w.at_
 obtain⟨x10,l11,hx12,hl13,pl14⟩:=S8.w.gO 6 rfl
 have rx16:=qL hx12
 obtain⟨v17,Z18,c19,e20,w21⟩:=placeOfS (OwnX.isR (ks:=kLease) hl13) (by omega) (cid)
 try simp -implicitDefEqProofs only[↓zP,zQ,↓qC,qJ,Nat.reduceAdd,sr9,rx16]
 refine qF rfl c19 ?_
 by_cases h22:v17=(0:Int)
 ·subst h22
  have S23:=S8.ext e20
  have sr24:=S23.w.at_
  obtain⟨v25,hx26,w27⟩:=S23.w.gI 9 rfl
  obtain⟨Z29,cs30,wr31,hx32,C33⟩:=S23.w.stI (k:=9) (z:=IntKind.i64.wrap (v25+1)) rfl (W64.wrap _)
  try simp -implicitDefEqProofs only[↓zP,zQ,↓qC,qJ,Nat.reduceAdd,sr24,(qL hx26),wr31]
  have b35:=(b5.ext e20).only C33.o
  have S37:=(S23.chg C33).up (M:=N+1) (by omega)
  exact⟨(H.length+1),[],x0,l0,x5,l5,_,rfl,S37.w,S37.o,(PlN.chg (PlN.extW (PlN.extW (PlN.extW hP e2) e6) e20) C33 (by decide)),G0,(C33.cc _ _ (by decide) hx5),((((hl5.ext e2).ext e6).ext e20).chg C33 (by decide) hx5),cid0,b35,(by simp)⟩
 ·have b47:=b1.ext e6
  have b48:=b47.ext e20
  have c49:=b48.1
  by_cases h50:sr=v17
  ·have h51:=eq_true h50
   by_cases h52:ho≤(1:Int)
   ·have S53:=S8.ext e20
    have sr54:=S53.w.at_
    obtain⟨v55,hx56,w57⟩:=S53.w.gI 9 rfl
    obtain⟨Z59,cs60,wr61,hx62,C63⟩:=S53.w.stI (k:=9) (z:=IntKind.i64.wrap (v55+1)) rfl (W64.wrap _)
    try simp -implicitDefEqProofs only[↓zP,zQ,↓qC,h22,qA,c49,h51,h52,qJ,Nat.reduceAdd,sr54,(qL hx56),wr61,Nat.reduceLeDiff,xZ,xY]
    have b65:=(b5.ext e20).only C63.o
    have S67:=(S53.chg C63).up (M:=N+1) (by omega)
    exact⟨(H.length+1),[],x0,l0,x5,l5,_,rfl,S67.w,S67.o,(PlN.chg (PlN.extW (PlN.extW (PlN.extW hP e2) e6) e20) C63 (by decide)),G0,(C63.cc _ _ (by decide) hx5),((((hl5.ext e2).ext e6).ext e20).chg C63 (by decide) hx5),cid0,b65,(by simp)⟩
   ·obtain⟨r77,Z78,c79,e80⟩:=packetOkE (H:=Z18) (sr) (ds) (ho) (va)
    try simp -implicitDefEqProofs only[↓zP,zQ,↓qC,h22,qA,c49,h51,h52,Nat.reduceAdd]
    refine qF rfl c79 ?_
    cases r77 with
    | false =>
     have S83:=(S8.ext e20).ext e80
     have sr84:=S83.w.at_
     obtain⟨v85,hx86,w87⟩:=S83.w.gI 9 rfl
     obtain⟨Z89,cs90,wr91,hx92,C93⟩:=S83.w.stI (k:=9) (z:=IntKind.i64.wrap (v85+1)) rfl (W64.wrap _)
     try simp -implicitDefEqProofs only[↓zP,zQ,qA,↓qC,qJ,Nat.reduceAdd,sr84,(qL hx86),wr91]
     have b96:=((b5.ext e20).ext e80).only C93.o
     have S98:=(S83.chg C93).up (M:=N+1) (by omega)
     exact⟨(H.length+1),[],x0,l0,x5,l5,_,rfl,S98.w,S98.o,(PlN.chg (PlN.extW (PlN.extW (PlN.extW (PlN.extW hP e2) e6) e20) e80) C93 (by decide)),G0,(C93.cc _ _ (by decide) hx5),(((((hl5.ext e2).ext e6).ext e20).ext e80).chg C93 (by decide) hx5),cid0,b96,(by simp)⟩
    | true =>
     have b110:=b48.ext e80
     try simp -implicitDefEqProofs only[↓zP,zQ,qA,↓qC,qJ,Nat.reduceAdd,(b110.1),Nat.reduceLeDiff,xZ,xY]
     refine zD [(3,0),(5,0)] ?_
     have S114:=((S8.ext e20).ext e80).put b110 {cs:=[sr,ds,IntKind.i64.wrap (ho - 1),va]}
     have sr115:=S114.w.at_
     have b116:=b110.put {cs:=[sr,ds,IntKind.i64.wrap (ho - 1),va]}
     have hl125:=((hl13.ext e20).ext e80).put (g':={cs:=[sr,ds,IntKind.i64.wrap (ho - 1),va]}) hx12 b110
     obtain⟨v118,Z119,c120,e121,w122⟩:=cidOfS (OwnX.isR (ks:=kLease) hl125) (by omega) (ds)
     try simp -implicitDefEqProofs only[↓zP,zQ,qJ,(b116.1),Nat.reduceAdd,sr115,rx16]
     refine qF rfl c120 ?_
     try simp only[↓zP,zQ,↓qC,qJ]
     refine⟨zX (zX (qH)),?_⟩
     have S126:=S114.ext e121
     have sr127:=S126.w.at_
     obtain⟨v128,hx129,w130⟩:=S126.w.gI 3 rfl
     obtain⟨v131,hx132,w133⟩:=S126.w.gI 4 rfl
     obtain⟨x134,l135,hx136,hl137,pl138⟩:=S126.w.gO 7 rfl
     obtain⟨x140,l141,hx142,hl143,pl144⟩:=S126.w.gO 8 rfl
     obtain⟨v146,hx147,w148⟩:=S126.w.gI 9 rfl
     have ra149:=fun (o:Bool)=>rd_agg7 (off:=3) hx129 hx132 hx5 hx12 hx136 hx142 hx147 o
     have hl161:=((((hl5.ext e2).ext e6).ext e20).ext e80).put (g':={cs:=[sr,ds,IntKind.i64.wrap (ho - 1),va]}) hx5 b110
     have hl162:=hl161.ext e121
     obtain⟨v150,Z151,c152,e153,si154⟩:=sessAtS (v128) (v131) (v146) (OwnX.isR (ks:=kSess) hl162) (hl13.one) (hl137.one) (hl143.one) (by omega) (v118)
     try simp only[zQ,sr127,ra149]
     refine qF rfl c152 ?_
     have sl155:=si154.lt
     by_cases h163:(0:Int)≤v150
     ·have S164:=S126.ext e153
      have sr165:=S164.w.at_
      have rx166:=qL hx5
      obtain⟨j168,hj169,hb167⟩:∃ j:Nat,v150=(j:Int)∧j<l5.length:=⟨Int.toNat v150,by omega,by omega⟩
      subst hj169
      have hl170:=hl162.ext e153
      obtain⟨q171,xe172,_⟩:=hl170.get hb167
      subst xe172
      obtain⟨p173,hp174⟩:∃ p,l5[j168]?=some p:=⟨_,List.getElem?_eq_getElem hb167⟩
      have k176:(j168:Int)<(l5.length:Int):=by omega
      have hq177:=hl170.at
      have re178:=fun (o:Bool)(kk:Nat)=>(qX yK (k:=kk) hp174 (j:=2) (by decide) o).trans (p173.int_at 2 rfl).1
      by_cases h179:(p173.int 2)=(2:Int)
      ·have h180:=eq_true h179
       have p185:=PlN.putW (g':={cs:=[sr,ds,IntKind.i64.wrap (ho - 1),va]}) (PlN.extW (PlN.extW (PlN.extW (PlN.extW hP e2) e6) e20) e80) b110
       have p187:=PlN.extW (PlN.extW p185 e121) e153
       have ln189:=fun e=>OwnF.len e p187.2.2.1
       have G190:=Grw.refl l0
       obtain⟨v191,l192,x193,Z194,c195,p196,o197,g198⟩:=xK p187 hl0 (v118)
       try simp -implicitDefEqProofs only[↓zP,zQ,↓qC,h163,qJ,sr165,(qL (hP.2.1)),ln189,Nat.reduceAdd,rx166,k176,qB,hq177,re178,h180]
       refine qF rfl c195 ?_
       have G202:=g198.1
       have bl203:=G202.2.1 hl0
       have rt204:=G202.2.2 rt0
       obtain⟨cs201,C199,p200⟩:=S164.w.arC rfl p187 p196 o197 ⟨bl203,rt204⟩
       have hx206:=p200.2.1
       try simp only[↓zP,zQ,↓qC]
       refine zD [(4,0),(4,12),(8,0),(8,12),(10,0)] ?_
       have S208:=S164.chg C199
       have sr209:=S208.w.at_
       have hx210:=C199.cc _ _ (by decide) hx5
       have hl212:=hl170.chg C199 (by decide) hx5
       have re214:=fun (o:Bool)=>rd_chan yK (j:=10) hp174 rfl (by decide) o
       have b217:=((b116.ext e121).ext e153).only C199.o
       obtain⟨r219,l220,x221,Z222,c223,p224,o225,g226,f227⟩:=packetG p200 bl203 (sr) (ds) (IntKind.i64.wrap (ho - 1)) (va)
       try simp -implicitDefEqProofs only[↓zP,zQ,qJ,(b217.1),Nat.reduceAdd,sr209,(qL hx210),h163,k176,qB,(hl212.at),re214]
       refine qF rfl c223 ?_
       have g228:=And.intro g226 trivial
       have G232:=g228.1
       have bl233:=G232.2.1 bl203
       have rt234:=G232.2.2 rt204
       obtain⟨cs231,C229,p230⟩:=S208.w.arC rfl p200 p224 o225 ⟨bl233,rt234⟩
       have hx236:=p230.2.1
       obtain⟨r238,r239,r240,r241,r242,r243,r244,r245,r246,r247,l248,x249,Z250,c251,p252,o253,g254,f255⟩:=sayG p230 bl233 (p173.int 10) (p173.int 11) (p173.int 12) (p173.int 13) (p173.int 14) (p173.int 15) (p173.int 16) (p173.int 17) (p173.int 18) (r219) (p173.w64 10 rfl) (p173.w64 11 rfl) (p173.w64 12 rfl) (p173.w64 13 rfl) (p173.w64 14 rfl) (p173.w64 15 rfl) (p173.w64 16 rfl) (p173.w64 17 rfl) (p173.w64 18 rfl)
       try simp only[↓zP]
       refine qF rfl c251 ?_
       have g256:=And.intro g254 trivial
       have S257:=S208.chg C229
       have G261:=g256.1
       have bl262:=G261.2.1 bl233
       have rt263:=G261.2.2 rt234
       obtain⟨cs260,C258,p259⟩:=S257.w.arC rfl p230 p252 o253 ⟨bl262,rt263⟩
       have hx265:=p259.2.1
       obtain⟨w266,w267,w268,w269,w270,w271,w272,w273,w274,w275,w276⟩:=f255
       have S277:=S257.chg C258
       obtain⟨b278,e279,nn280⟩:=S277.alloc (i:=Z250.length) (by simp) {cs:=[(0:Int),(0:Int),(0:Int),(0:Int),(0:Int),(0:Int),(0:Int),(0:Int),(0:Int)]}
       try simp -implicitDefEqProofs only[↓zP,zQ,↓qC,(b278.1),Nat.reduceAdd,xZ,xY]
       have S283:=(S277.ext e279).put b278 {cs:=[r238,r239,r240,r241,r242,r243,r244,r245,r246]}
       have hx284:=C229.cc _ _ (by decide) hx210
       have hx285:=C258.cc _ _ (by decide) hx284
       have hl286:=hl212.chg C229 (by decide) hx210
       have hl289:=((hl286.chg C258 (by decide) hx284).ext e279).put (g':={cs:=[r238,r239,r240,r241,r242,r243,r244,r245,r246]}) hx285 b278
       refine⟨zX (qI (xS _ _ rfl rfl rfl (S208.w.at_) (S257.w.at_) hx210 hx284) (zX (qI (qS _ _ _ _ rfl rfl ((hl286).at.trans (hl212).at.symm)) (zX (qH))))),?_⟩
       have p291:=PlN.putW (g':={cs:=[r238,r239,r240,r241,r242,r243,r244,r245,r246]}) (PlN.extW p259 e279) b278
       obtain⟨v292,l293,x294,Z295,c296,p297,o298,g299,i300⟩:=uD p291 bl262 (76) [v191,r247] 2 rfl (by decide)
       simp only[List.length_set,List.length_append,List.length_cons,List.length_nil,Nat.zero_add] at c296
       refine qF rfl c296 ?_
       have G304:=g299.1
       have bl305:=G304.2.1 bl262
       obtain⟨cs303,C301,p302⟩:=S283.w.arC rfl p291 p297 o298 ⟨bl305,(G304.2.2 rt263)⟩
       have G307:=(((G190.trans G202).trans G232).trans G261).trans G304
       have hx308:=p302.2.1
       have w309:W64 v292:=by have h:=g299.2;unfold W64;omega
       by_cases h310:(0:Int)≤r247
       ·by_cases h311:(0:Int)≤v292
        ·try simp only[↓zP,zQ,↓qC,h310,h311]
         refine zD [(3,0),(5,0)] ?_
         have S312:=S283.chg C301
         have sr313:=S312.w.at_
         have hx314:=C301.cc _ _ (by decide) hx285
         have b316:=b278.put {cs:=[r238,r239,r240,r241,r242,r243,r244,r245,r246]}
         have b317:=b316.only C301.o
         have hl319:=hl289.chg C301 (by decide) hx285
         obtain⟨p321,hb322,ho323⟩:=p173.putP (js:=kChan) (ds:=[.sc (.int .i64 (r238)),.sc (.int .i64 (r239)),.sc (.int .i64 (r240)),.sc (.int .i64 (r241)),.sc (.int .i64 (r242)),.sc (.int .i64 (r243)),.sc (.int .i64 (r244)),.sc (.int .i64 (r245)),.sc (.int .i64 (r246))]) 10 (RowOk.int w266 (RowOk.int w267 (RowOk.int w268 (RowOk.int w269 (RowOk.int w270 (RowOk.int w271 (RowOk.int w272 (RowOk.int w273 (RowOk.int w274 RowOk.nil))))))))) rfl (by decide)
         obtain⟨Z324,l325,hZ326,e327,e328,hp329,ot330,hl331,C332⟩:=S312.w.stRow (k:=5) rfl hx314 hl319 rfl hp174 p321 (by rw[List.length_set];exact pl5)
         have wr333:uJ true 9 Z295 q171 (some {cs:=rows Rw.cs l5}) (j168*20+10) (.agg [r238,r239,r240,r241,r242,r243,r244,r245,r246])=some Z324:=by rw[hZ326];exact wr_part yK (n:=9) hp174 rfl (by decide) hb322 rfl q171
         have pl334:=pl5;rw[←e328] at pl334
         have cid335:uI l325=uI l5:=by rw[e327];exact(cids_set hp174 (ho323 0 (.inl (by decide)))).trans cid0
         have k337:(j168:Int)<(l325.length:Int):=by omega
         have hx338:=hx314;rw[←e328] at hx338
         have hl339:=hl331;rw[←e328] at hl339
         try simp -implicitDefEqProofs only[↓zP,zQ,qJ,(b317.1),Nat.reduceAdd,↓qC,sr313,(qL hx314),h163,k176,qB,(hl319.at),wr333]
         refine⟨zX (zX (qH)),?_⟩
         have S340:=S312.chg C332
         have sr341:=S340.w.at_
         have re344:=fun (o:Bool)(kk:Nat)=>(qX yK (k:=kk) hp329 (j:=1) (by decide) o).trans (p321.int_at 1 rfl).1
         obtain⟨p345,hp346⟩:=((RowOk.int (p321.w64 1 rfl) (RowOk.int w309 RowOk.nil)):RowOk vX [.sc (.int .i64 (p321.int 1)),.sc (.int .i64 (v292))])
         obtain⟨b347,e348,nn349⟩:=S340.alloc (i:=Z324.length) (by simp) {cs:=[p321.int 1,v292]}
         have b350:=b347
         rw[←hp346] at b350
         try simp -implicitDefEqProofs only[zQ,sr341,(qL hx338),h163,k337,qB,(hl339.at),re344,Nat.reduceAdd]
         have S352:=(S340.ext e348).up (M:=N+1) (by omega)
         have p354:=PlN.extW (PlN.chg p302 C332 (by decide)) e348
         have hl355:=hl339.ext e348
         exact⟨(Z324.length),[p345],x294,l293,(.sl q171 0 l325.length 20),l325,_,rfl,S352.w,S352.o,p354,G307,hx338,hl355,cid335,(by rw[vT,hp346];exact b347),(by simp)⟩
        ·obtain⟨w356,x357,Z358,c359,p360,o361⟩:=jL p302 bl305 (l0.length)
         rw[G307.back] at p360
         try simp only[↓zP,zQ,↓qC,h310,h311]
         refine qF rfl c359 ?_
         have S362:=S283.chg C301
         obtain⟨cs365,C363,p364⟩:=S362.w.arC rfl p302 p360 o361 ⟨hl0,rt0⟩
         have hx369:=p364.2.1
         have S370:=S362.chg C363
         have sr371:=S370.w.at_
         obtain⟨Z378,cs379,wr380,hx381,C382⟩:=S370.w.stI (k:=9) (z:=IntKind.i64.wrap (v146+1)) rfl (W64.wrap _)
         try simp -implicitDefEqProofs only[↓zP,zQ,↓qC,qJ,Nat.reduceAdd,sr371,(qL (C363.cc _ _ (by decide) (C301.cc _ _ (by decide) (C258.cc _ _ (by decide) (C229.cc _ _ (by decide) (C199.cc _ _ (by decide) hx147)))))),wr380]
         have b385:=((b5.ext e20).ext e80).oth (nn7 _ _ b1.1) {cs:=[sr,ds,IntKind.i64.wrap (ho - 1),va]}
         have b388:=((b385.ext e121).ext e153).only C199.o
         have b389:=b388.only C229.o
         have b390:=b389.only C258.o
         have b392:=(b390.ext e279).oth (Ne.symm (nn280 _ _ b390.1)) {cs:=[r238,r239,r240,r241,r242,r243,r244,r245,r246]}
         have b393:=b392.only C301.o
         have b394:=b393.only C363.o
         have b395:=b394.only C382.o
         have S397:=(S370.chg C382).up (M:=N+1) (by omega)
         have hx400:=C301.cc _ _ (by decide) hx285
         have hx401:=C363.cc _ _ (by decide) hx400
         exact⟨(H.length+1),[],x357,l0,(.sl q171 0 l5.length 20),l5,_,rfl,S397.w,S397.o,(PlN.chg p364 C382 (by decide)),G190,(C382.cc _ _ (by decide) hx401),(((hl289.chg C301 (by decide) hx285).chg C363 (by decide) hx400).chg C382 (by decide) hx401),cid0,b395,(by simp)⟩
       ·obtain⟨w405,x406,Z407,c408,p409,o410⟩:=jL p302 bl305 (l0.length)
        rw[G307.back] at p409
        try simp only[↓zP,zQ,↓qC,h310,qA]
        refine qF rfl c408 ?_
        have S411:=S283.chg C301
        obtain⟨cs414,C412,p413⟩:=S411.w.arC rfl p302 p409 o410 ⟨hl0,rt0⟩
        have hx418:=p413.2.1
        have S419:=S411.chg C412
        have sr420:=S419.w.at_
        obtain⟨Z427,cs428,wr429,hx430,C431⟩:=S419.w.stI (k:=9) (z:=IntKind.i64.wrap (v146+1)) rfl (W64.wrap _)
        try simp -implicitDefEqProofs only[↓zP,zQ,↓qC,qJ,Nat.reduceAdd,sr420,(qL (C412.cc _ _ (by decide) (C301.cc _ _ (by decide) (C258.cc _ _ (by decide) (C229.cc _ _ (by decide) (C199.cc _ _ (by decide) hx147)))))),wr429]
        have b434:=((b5.ext e20).ext e80).oth (nn7 _ _ b1.1) {cs:=[sr,ds,IntKind.i64.wrap (ho - 1),va]}
        have b437:=((b434.ext e121).ext e153).only C199.o
        have b438:=b437.only C229.o
        have b439:=b438.only C258.o
        have b441:=(b439.ext e279).oth (Ne.symm (nn280 _ _ b439.1)) {cs:=[r238,r239,r240,r241,r242,r243,r244,r245,r246]}
        have b442:=b441.only C301.o
        have b443:=b442.only C412.o
        have b444:=b443.only C431.o
        have S446:=(S419.chg C431).up (M:=N+1) (by omega)
        have hx449:=C301.cc _ _ (by decide) hx285
        have hx450:=C412.cc _ _ (by decide) hx449
        exact⟨(H.length+1),[],x406,l0,(.sl q171 0 l5.length 20),l5,_,rfl,S446.w,S446.o,(PlN.chg p413 C431 (by decide)),G190,(C431.cc _ _ (by decide) hx450),(((hl289.chg C301 (by decide) hx285).chg C412 (by decide) hx449).chg C431 (by decide) hx450),cid0,b444,(by simp)⟩
      ·try simp -implicitDefEqProofs only[↓zP,zQ,↓qC,h163,qJ,sr165,Nat.reduceAdd,rx166,k176,qB,hq177,re178,h179]
       refine zD [(3,0),(5,0)] ?_
       have b456:=(b116.ext e121).ext e153
       obtain⟨v458,v459,v460,t461,Z462,c463,e464,w465,w466,w467⟩:=routeOfE (hl137.ext e153) (by omega) (ds) wds
       try simp -implicitDefEqProofs only[↓zP,zQ,qJ,(b456.1),Nat.reduceAdd,sr165,(qL hx136)]
       refine qF rfl c463 ?_
       have S469:=S164.ext e464
       obtain⟨b470,e471,nn472⟩:=S469.alloc (i:=Z462.length) (by simp) {cs:=[(0:Int),(0:Int),(0:Int)]}
       have S474:=S469.ext e471
       try simp -implicitDefEqProofs only[↓zP,zQ,↓qC,(b470.1),Nat.reduceAdd,xZ,xY]
       refine⟨zX (zX (qH)),?_⟩
       cases t461 with
       | false =>
        have S475:=S474.put b470 {cs:=[v458,v459,v460]}
        have sr476:=S475.w.at_
        obtain⟨Z478,cs479,wr480,hx481,C482⟩:=S475.w.stI (k:=9) (z:=IntKind.i64.wrap (v146+1)) rfl (W64.wrap _)
        try simp -implicitDefEqProofs only[↓zP,zQ,↓qC,qJ,Nat.reduceAdd,sr476,(qL hx147),wr480]
        have b485:=((b5.ext e20).ext e80).oth (nn7 _ _ b1.1) {cs:=[sr,ds,IntKind.i64.wrap (ho - 1),va]}
        have b488:=((b485.ext e121).ext e153).ext e464
        have b490:=(b488.ext e471).oth (Ne.symm (nn472 _ _ b488.1)) {cs:=[v458,v459,v460]}
        have b491:=b490.only C482.o
        have S493:=(S475.chg C482).up (M:=N+1) (by omega)
        have p498:=PlN.putW (g':={cs:=[sr,ds,IntKind.i64.wrap (ho - 1),va]}) (PlN.extW (PlN.extW (PlN.extW (PlN.extW hP e2) e6) e20) e80) b110
        have p503:=PlN.putW (g':={cs:=[v458,v459,v460]}) (PlN.extW (PlN.extW (PlN.extW (PlN.extW p498 e121) e153) e464) e471) b470
        have hl507:=((hl170.ext e464).ext e471).put (g':={cs:=[v458,v459,v460]}) hx5 b470
        exact⟨(H.length+1),[],x0,l0,(.sl q171 0 l5.length 20),l5,_,rfl,S493.w,S493.o,(PlN.chg p503 C482 (by decide)),G0,(C482.cc _ _ (by decide) hx5),(hl507.chg C482 (by decide) hx5),cid0,b491,(by simp)⟩
       | true =>
        have S510:=S474.put b470 {cs:=[v458,v459,v460]}
        have sr511:=S510.w.at_
        have rx512:=qL hx142
        have hl516:=(((hl143.ext e153).ext e464).ext e471).put (g':={cs:=[v458,v459,v460]}) hx142 b470
        have ln517:=fun e=>hl516.len e
        by_cases h518:(50:Int)≤(l141.length:Int)
        ·have rx519:=qL hx147
         obtain⟨Z520,cs521,wr522,hx523,C524⟩:=S510.w.stI (k:=9) (z:=IntKind.i64.wrap (v146+1)) rfl (W64.wrap _)
         try simp -implicitDefEqProofs only[↓zP,zQ,qJ,qA,↓qC,Nat.reduceAdd,sr511,rx519,wr522,rx512,ln517,h518]
         have b527:=((b5.ext e20).ext e80).oth (nn7 _ _ b1.1) {cs:=[sr,ds,IntKind.i64.wrap (ho - 1),va]}
         have b530:=((b527.ext e121).ext e153).ext e464
         have b532:=(b530.ext e471).oth (Ne.symm (nn472 _ _ b530.1)) {cs:=[v458,v459,v460]}
         have b533:=b532.only C524.o
         have S535:=(S510.chg C524).up (M:=N+1) (by omega)
         have p540:=PlN.putW (g':={cs:=[sr,ds,IntKind.i64.wrap (ho - 1),va]}) (PlN.extW (PlN.extW (PlN.extW (PlN.extW hP e2) e6) e20) e80) b110
         have p545:=PlN.putW (g':={cs:=[v458,v459,v460]}) (PlN.extW (PlN.extW (PlN.extW (PlN.extW p540 e121) e153) e464) e471) b470
         have hl549:=((hl170.ext e464).ext e471).put (g':={cs:=[v458,v459,v460]}) hx5 b470
         exact⟨(H.length+1),[],x0,l0,(.sl q171 0 l5.length 20),l5,_,rfl,S535.w,S535.o,(PlN.chg p545 C524 (by decide)),G0,(C524.cc _ _ (by decide) hx5),(hl549.chg C524 (by decide) hx5),cid0,b533,(by simp)⟩
        ·try simp -implicitDefEqProofs only[↓zP,zQ,qJ,qA,↓qC,Nat.reduceAdd,sr511,rx512,ln517,h518]
         refine zD [(4,0),(6,0),(7,0)] ?_
         have b552:=b470.put {cs:=[v458,v459,v460]}
         have b554:=b456.ext e464
         have b556:=(b554.ext e471).oth (Ne.symm (nn472 _ _ b554.1)) {cs:=[v458,v459,v460]}
         obtain⟨p559,hp560⟩:=((RowOk.int w467 (RowOk.int wsr (RowOk.int wds (RowOk.int (W64.wrap _) (RowOk.int wva RowOk.nil))))):RowOk kOut [.sc (.int .i64 (v460)),.sc (.int .i64 (sr)),.sc (.int .i64 (ds)),.sc (.int .i64 (IntKind.i64.wrap (ho - 1))),.sc (.int .i64 (va))])
         obtain⟨b561,e562,nn563⟩:=S510.alloc (i:=Z462.length+1) (by simp) {cs:=[v460,sr,ds,IntKind.i64.wrap (ho - 1),va]}
         have b564:=b561
         rw[←hp560] at b564
         have S566:=(S510.ext e562).up (M:=N+1) (by omega)
         obtain⟨x568,G569,Z570,cs571,ap572,o573,gr574,wr575,hx576,hl577,C578⟩:=S566.w.apC (k:=8) apS32 apN32 jX rfl hx142 (hl516.ext e562) (xL jX (a:=p559) (by rw[hp560];exact b561.1)) (by simp only[List.length_cons,List.length_nil];omega) (by simp only[List.length_append,List.length_cons,List.length_nil];omega)
         obtain⟨l579,e580⟩:∃ l,l=l141++[p559]:=⟨_,rfl⟩
         rw[←e580] at hl577
         try simp -implicitDefEqProofs only[↓zP,zQ,qJ,(b556.1),Nat.reduceAdd,↓qC,(b552.1),(by simp[qT,yR,yT,qW,yF,yI,yO,Tryz.underlying69,zero69,qR,qO,tyOk67,cells67]:qT Tryz.prog 69 [(0,.sc (.int .i64 (v460))),(1,.agg [sr,ds,IntKind.i64.wrap (ho - 1),va])]=some (.agg [v460,sr,ds,IntKind.i64.wrap (ho - 1),va])),sr511,rx512,ap572,gr574,wr575]
         refine⟨zX (zX (zX (qH))),?_⟩
         have b590:=((b5.ext e20).ext e80).oth (nn7 _ _ b1.1) {cs:=[sr,ds,IntKind.i64.wrap (ho - 1),va]}
         have b593:=((b590.ext e121).ext e153).ext e464
         have b595:=(b593.ext e471).oth (Ne.symm (nn472 _ _ b593.1)) {cs:=[v458,v459,v460]}
         have b597:=(b595.ext e562).only C578.o
         have S598:=S566.chg C578
         have p603:=PlN.putW (g':={cs:=[sr,ds,IntKind.i64.wrap (ho - 1),va]}) (PlN.extW (PlN.extW (PlN.extW (PlN.extW hP e2) e6) e20) e80) b110
         have p608:=PlN.putW (g':={cs:=[v458,v459,v460]}) (PlN.extW (PlN.extW (PlN.extW (PlN.extW p603 e121) e153) e464) e471) b470
         have hl613:=((hl170.ext e464).ext e471).put (g':={cs:=[v458,v459,v460]}) hx5 b470
         exact⟨(H.length+1),[],x0,l0,(.sl q171 0 l5.length 20),l5,_,rfl,S598.w,S598.o,(PlN.chg (PlN.extW p608 e562) C578 (by decide)),G0,(C578.cc _ _ (by decide) hx5),((hl613.ext e562).chg C578 (by decide) hx5),cid0,b597,(by simp)⟩
     ·try simp only[↓zP,zQ,↓qC,h163,qA,qJ]
      refine zD [(3,0),(5,0)] ?_
      have S617:=S126.ext e153
      have sr618:=S617.w.at_
      have b621:=(b116.ext e121).ext e153
      obtain⟨v623,v624,v625,t626,Z627,c628,e629,w630,w631,w632⟩:=routeOfE (hl137.ext e153) (by omega) (ds) wds
      try simp -implicitDefEqProofs only[↓zP,zQ,qJ,(b621.1),Nat.reduceAdd,sr618,(qL hx136)]
      refine qF rfl c628 ?_
      have S634:=S617.ext e629
      obtain⟨b635,e636,nn637⟩:=S634.alloc (i:=Z627.length) (by simp) {cs:=[(0:Int),(0:Int),(0:Int)]}
      have S639:=S634.ext e636
      try simp -implicitDefEqProofs only[↓zP,zQ,↓qC,(b635.1),Nat.reduceAdd,xZ,xY]
      refine⟨zX (zX (qH)),?_⟩
      cases t626 with
      | false =>
       have S640:=S639.put b635 {cs:=[v623,v624,v625]}
       have sr641:=S640.w.at_
       obtain⟨Z643,cs644,wr645,hx646,C647⟩:=S640.w.stI (k:=9) (z:=IntKind.i64.wrap (v146+1)) rfl (W64.wrap _)
       try simp -implicitDefEqProofs only[↓zP,zQ,↓qC,qJ,Nat.reduceAdd,sr641,(qL hx147),wr645]
       have b650:=((b5.ext e20).ext e80).oth (nn7 _ _ b1.1) {cs:=[sr,ds,IntKind.i64.wrap (ho - 1),va]}
       have b653:=((b650.ext e121).ext e153).ext e629
       have b655:=(b653.ext e636).oth (Ne.symm (nn637 _ _ b653.1)) {cs:=[v623,v624,v625]}
       have b656:=b655.only C647.o
       have S658:=(S640.chg C647).up (M:=N+1) (by omega)
       have p663:=PlN.putW (g':={cs:=[sr,ds,IntKind.i64.wrap (ho - 1),va]}) (PlN.extW (PlN.extW (PlN.extW (PlN.extW hP e2) e6) e20) e80) b110
       have p668:=PlN.putW (g':={cs:=[v623,v624,v625]}) (PlN.extW (PlN.extW (PlN.extW (PlN.extW p663 e121) e153) e629) e636) b635
       have hl673:=(((hl162.ext e153).ext e629).ext e636).put (g':={cs:=[v623,v624,v625]}) hx5 b635
       exact⟨(H.length+1),[],x0,l0,x5,l5,_,rfl,S658.w,S658.o,(PlN.chg p668 C647 (by decide)),G0,(C647.cc _ _ (by decide) hx5),(hl673.chg C647 (by decide) hx5),cid0,b656,(by simp)⟩
      | true =>
       have S676:=S639.put b635 {cs:=[v623,v624,v625]}
       have sr677:=S676.w.at_
       have rx678:=qL hx142
       have hl682:=(((hl143.ext e153).ext e629).ext e636).put (g':={cs:=[v623,v624,v625]}) hx142 b635
       have ln683:=fun e=>hl682.len e
       by_cases h684:(50:Int)≤(l141.length:Int)
       ·have rx685:=qL hx147
        obtain⟨Z686,cs687,wr688,hx689,C690⟩:=S676.w.stI (k:=9) (z:=IntKind.i64.wrap (v146+1)) rfl (W64.wrap _)
        try simp -implicitDefEqProofs only[↓zP,zQ,qJ,qA,↓qC,Nat.reduceAdd,sr677,rx685,wr688,rx678,ln683,h684]
        have b693:=((b5.ext e20).ext e80).oth (nn7 _ _ b1.1) {cs:=[sr,ds,IntKind.i64.wrap (ho - 1),va]}
        have b696:=((b693.ext e121).ext e153).ext e629
        have b698:=(b696.ext e636).oth (Ne.symm (nn637 _ _ b696.1)) {cs:=[v623,v624,v625]}
        have b699:=b698.only C690.o
        have S701:=(S676.chg C690).up (M:=N+1) (by omega)
        have p706:=PlN.putW (g':={cs:=[sr,ds,IntKind.i64.wrap (ho - 1),va]}) (PlN.extW (PlN.extW (PlN.extW (PlN.extW hP e2) e6) e20) e80) b110
        have p711:=PlN.putW (g':={cs:=[v623,v624,v625]}) (PlN.extW (PlN.extW (PlN.extW (PlN.extW p706 e121) e153) e629) e636) b635
        have hl716:=(((hl162.ext e153).ext e629).ext e636).put (g':={cs:=[v623,v624,v625]}) hx5 b635
        exact⟨(H.length+1),[],x0,l0,x5,l5,_,rfl,S701.w,S701.o,(PlN.chg p711 C690 (by decide)),G0,(C690.cc _ _ (by decide) hx5),(hl716.chg C690 (by decide) hx5),cid0,b699,(by simp)⟩
       ·try simp -implicitDefEqProofs only[↓zP,zQ,qJ,qA,↓qC,Nat.reduceAdd,sr677,rx678,ln683,h684]
        refine zD [(4,0),(6,0),(7,0)] ?_
        have b719:=b635.put {cs:=[v623,v624,v625]}
        have b721:=b621.ext e629
        have b723:=(b721.ext e636).oth (Ne.symm (nn637 _ _ b721.1)) {cs:=[v623,v624,v625]}
        obtain⟨p726,hp727⟩:=((RowOk.int w632 (RowOk.int wsr (RowOk.int wds (RowOk.int (W64.wrap _) (RowOk.int wva RowOk.nil))))):RowOk kOut [.sc (.int .i64 (v625)),.sc (.int .i64 (sr)),.sc (.int .i64 (ds)),.sc (.int .i64 (IntKind.i64.wrap (ho - 1))),.sc (.int .i64 (va))])
        obtain⟨b728,e729,nn730⟩:=S676.alloc (i:=Z627.length+1) (by simp) {cs:=[v625,sr,ds,IntKind.i64.wrap (ho - 1),va]}
        have b731:=b728
        rw[←hp727] at b731
        have S733:=(S676.ext e729).up (M:=N+1) (by omega)
        obtain⟨x735,G736,Z737,cs738,ap739,o740,gr741,wr742,hx743,hl744,C745⟩:=S733.w.apC (k:=8) apS32 apN32 jX rfl hx142 (hl682.ext e729) (xL jX (a:=p726) (by rw[hp727];exact b728.1)) (by simp only[List.length_cons,List.length_nil];omega) (by simp only[List.length_append,List.length_cons,List.length_nil];omega)
        obtain⟨l746,e747⟩:∃ l,l=l141++[p726]:=⟨_,rfl⟩
        rw[←e747] at hl744
        try simp -implicitDefEqProofs only[↓zP,zQ,qJ,(b723.1),Nat.reduceAdd,↓qC,(b719.1),(by simp[qT,yR,yT,qW,yF,yI,yO,Tryz.underlying69,zero69,qR,qO,tyOk67,cells67]:qT Tryz.prog 69 [(0,.sc (.int .i64 (v625))),(1,.agg [sr,ds,IntKind.i64.wrap (ho - 1),va])]=some (.agg [v625,sr,ds,IntKind.i64.wrap (ho - 1),va])),sr677,rx678,ap739,gr741,wr742]
        refine⟨zX (zX (zX (qH))),?_⟩
        have b757:=((b5.ext e20).ext e80).oth (nn7 _ _ b1.1) {cs:=[sr,ds,IntKind.i64.wrap (ho - 1),va]}
        have b760:=((b757.ext e121).ext e153).ext e629
        have b762:=(b760.ext e636).oth (Ne.symm (nn637 _ _ b760.1)) {cs:=[v623,v624,v625]}
        have b764:=(b762.ext e729).only C745.o
        have S765:=S733.chg C745
        have p770:=PlN.putW (g':={cs:=[sr,ds,IntKind.i64.wrap (ho - 1),va]}) (PlN.extW (PlN.extW (PlN.extW (PlN.extW hP e2) e6) e20) e80) b110
        have p775:=PlN.putW (g':={cs:=[v623,v624,v625]}) (PlN.extW (PlN.extW (PlN.extW (PlN.extW p770 e121) e153) e629) e636) b635
        have hl781:=(((hl162.ext e153).ext e629).ext e636).put (g':={cs:=[v623,v624,v625]}) hx5 b635
        exact⟨(H.length+1),[],x0,l0,x5,l5,_,rfl,S765.w,S765.o,(PlN.chg (PlN.extW p775 e729) C745 (by decide)),G0,(C745.cc _ _ (by decide) hx5),((hl781.ext e729).chg C745 (by decide) hx5),cid0,b764,(by simp)⟩
  ·have S785:=S8.ext e20
   have sr786:=S785.w.at_
   obtain⟨v787,hx788,w789⟩:=S785.w.gI 9 rfl
   obtain⟨Z791,cs792,wr793,hx794,C795⟩:=S785.w.stI (k:=9) (z:=IntKind.i64.wrap (v787+1)) rfl (W64.wrap _)
   try simp -implicitDefEqProofs only[↓zP,zQ,↓qC,h22,qA,c49,h50,qJ,Nat.reduceAdd,sr786,(qL hx788),wr793,Nat.reduceLeDiff,xZ,xY]
   have b797:=(b5.ext e20).only C795.o
   have S799:=(S785.chg C795).up (M:=N+1) (by omega)
   exact⟨(H.length+1),[],x0,l0,x5,l5,_,rfl,S799.w,S799.o,(PlN.chg (PlN.extW (PlN.extW (PlN.extW hP e2) e6) e20) C795 (by decide)),G0,(C795.cc _ _ (by decide) hx5),((((hl5.ext e2).ext e6).ext e20).chg C795 (by decide) hx5),cid0,b797,(by simp)⟩
theorem recordW {H:qE}{r N:Nat}{cs:List AV}(w0:Wd H r (KW 2 2 1 N) cs)(hN:N+1≤900000){x0:AV}{l0:List (Rw qK)}(hP:PlN H r 0 cs x0 l0)(hl0:l0.length≤3000)(rt0:rt l0){x5:AV}{l5:List (Rw kSess)}(hx5:cs[5]?=some x5)(hl5:OwnX Rw.cs 20 H x5 l5)(pl5:l5.length≤64)(ma mt p0 p1 now:Int)(wma:W64 ma)(wmt:W64 mt)(wp0:W64 p0)(wp1:W64 p1)(wnow:W64 now){qp:Nat}{oqp:Bool}(qp0:Int)(hqp:LclW H 0 r cs qp ⟨ints .i64 [qp0,p0,p1],oqp,true⟩)(v:Int)(hn:numAt l0 p0 v true):∃ (q:Nat)(ml:List (Rw vX))(bo:Int)(bb:Bool)(x1:AV)(l1:List (Rw qK))(x6:AV)(l6:List (Rw kSess))(cs':List AV)(Z:qE),Sound Tryz.prog 149 [.ptr r 0,.ptr r 3,.agg [ma,mt],.sl qp 1 2 1,now] H (.tup [.sl q 0 ml.length 2,.sc (.int .i64 bo),.sc (.bool bb)]) Z∧Wd Z r (KW 2 2 1 (N+1)) cs'∧OnlyW H Z r cs cs'∧PlN Z r 0 cs' x1 l1∧Grw l0 l1∧cs'[5]?=some x6∧OwnX Rw.cs 20 Z x6 l6∧uI l6=uI l5∧LclW Z H.length r cs' q {cs:=rows Rw.cs ml}∧ml.length≤1∧W64 bo∧(bb=true→∃ (j:Nat)(p:Rw kSess),l6[j]?=some p∧p.int 0=v):=by
 suffices h:∃ w Z,Sound Tryz.prog 149 [.ptr r 0,.ptr r 3,.agg [ma,mt],.sl qp 1 2 1,now] H w Z∧∃ (q:Nat)(ml:List (Rw vX))(bo:Int)(bb:Bool)(x1:AV)(l1:List (Rw qK))(x6:AV)(l6:List (Rw kSess))(cs':List AV),w=.tup [.sl q 0 ml.length 2,.sc (.int .i64 bo),.sc (.bool bb)]∧Wd Z r (KW 2 2 1 (N+1)) cs'∧OnlyW H Z r cs cs'∧PlN Z r 0 cs' x1 l1∧Grw l0 l1∧cs'[5]?=some x6∧OwnX Rw.cs 20 Z x6 l6∧uI l6=uI l5∧LclW Z H.length r cs' q {cs:=rows Rw.cs ml}∧ml.length≤1∧W64 bo∧(bb=true→∃ (j:Nat)(p:Rw kSess),l6[j]?=some p∧p.int 0=v) by
  obtain⟨w,Z,h1,q,ml,bo,bb,x1,l1,x6,l6,cs',rfl,h2⟩:=h
  exact⟨q,ml,bo,bb,x1,l1,x6,l6,cs',Z,h1,h2⟩
 refine zR 138 [.tmp 10,.tmp 11,.tmp 12] Tryz.func149 ?_
 have S0:=WS.start w0
 have hx0:=hP.2.1
 have G0:=Grw.refl l0
 have o5:=hl5.one
 have cid0:uI l5=uI l5:=rfl
 obtain⟨b1,e2,nn3⟩:=S0.alloc (i:=H.length) (by simp) {cs:=[ma,mt]}
 try simp only[↓zP,zQ,↓qC]
 refine zD [(2,0),(5,0)] ?_
 have S4:=S0.ext e2
 have sr5:=S4.w.at_
 have p6:=PlN.extW hP e2
 have b8:=hqp.ext e2
 obtain⟨v10,t11,Z12,c13,e14,hn15⟩:=numE (OwnN.rd p6.2.2.1) (by omega) (p0)
 try simp -implicitDefEqProofs only[↓zP,zQ,Nat.reduceLT,qJ,qD,Int.reduceLT,Nat.reduceAdd,(b8.1),sr5,(yY hx0)]
 refine qF rfl c13 ?_
 have w16:=hn15.w64
 have hv:v10=v:=(hn15.two hn).1
 try simp only[↓zP,zQ,↓qC,qJ]
 refine⟨zX (zX (qH)),?_⟩
 have S17:=S4.ext e14
 have sr18:=S17.w.at_
 obtain⟨v19,hx20,w21⟩:=S17.w.gI 3 rfl
 obtain⟨v22,hx23,w24⟩:=S17.w.gI 4 rfl
 obtain⟨x25,l26,hx27,hl28,pl29⟩:=S17.w.gO 6 rfl
 obtain⟨x31,l32,hx33,hl34,pl35⟩:=S17.w.gO 7 rfl
 obtain⟨x37,l38,hx39,hl40,pl41⟩:=S17.w.gO 8 rfl
 obtain⟨v43,hx44,w45⟩:=S17.w.gI 9 rfl
 have ra46:=fun (o:Bool)=>rd_agg7 (off:=3) hx20 hx23 hx5 hx27 hx33 hx39 hx44 o
 have hl55:=(hl5.ext e2).ext e14
 obtain⟨v47,Z48,c49,e50,si51⟩:=sessAtS (v19) (v22) (v43) (OwnX.isR (ks:=kSess) hl55) (hl28.one) (hl34.one) (hl40.one) (by omega) (v10)
 try simp only[zQ,sr18,ra46]
 refine qF rfl c49 ?_
 have sl52:=si51.lt
 by_cases h56:v47<(0:Int)
 ·have S57:=S17.ext e50
  obtain⟨b58,e59,nn60⟩:=S57.alloc (i:=Z48.length) (by simp) {cs:=[]}
  try simp only[↓zP,zQ,↓qC,h56]
  have S62:=(S57.ext e59).up (M:=N+1) (by omega)
  exact⟨(Z48.length),[],_,_,x0,l0,x5,l5,_,rfl,S62.w,S62.o,(PlN.extW (PlN.extW (PlN.extW p6 e14) e50) e59),G0,hx5,((hl55.ext e50).ext e59),cid0,b58,(by simp),⟨by decide,by decide⟩,fun h=>by cases h⟩
 ·have S68:=S17.ext e50
  have sr69:=S68.w.at_
  have rx70:=qL hx5
  obtain⟨j72,hj73,hb71⟩:∃ j:Nat,v47=(j:Int)∧j<l5.length:=⟨Int.toNat v47,by omega,by omega⟩
  subst hj73
  have hl74:=hl55.ext e50
  obtain⟨q75,xe76,_⟩:=hl74.get hb71
  subst xe76
  obtain⟨p77,hp78⟩:∃ p,l5[j72]?=some p:=⟨_,List.getElem?_eq_getElem hb71⟩
  have k79:(0:Int)≤(j72:Int):=by omega
  have k80:(j72:Int)<(l5.length:Int):=by omega
  have hq81:=hl74.at
  have re82:=fun (o:Bool)(kk:Nat)=>(qX yK (k:=kk) hp78 (j:=2) (by decide) o).trans (p77.int_at 2 rfl).1
  by_cases h83:(p77.int 2)=(2:Int)
  ·have h84:=eq_true h83
   try simp -implicitDefEqProofs only[↓zP,zQ,↓qC,h56,qJ,qA,Nat.reduceAdd,sr69,rx70,k79,k80,qB,hq81,re82,h84]
   refine zD [(2,0),(6,0),(10,0),(13,0)] ?_
   have p86:=PlN.extW (PlN.extW p6 e14) e50
   have re88:=fun (o:Bool)=>rd_chan yK (j:=10) hp78 rfl (by decide) o
   have b90:=(b8.ext e14).ext e50
   obtain⟨r92,Z93,c94,e95⟩:=newerE (OwnN.rd p86.2.2.1) (by omega) (p77.int 10) (p77.int 11) (p77.int 12) (p77.int 13) (p77.int 14) (p77.int 15) (p77.int 16) (p77.int 17) (p77.int 18) (p1)
   try simp -implicitDefEqProofs only[↓zP,zQ,Nat.reduceLT,qJ,Int.reduceLE,Int.reduceLT,Int.reduceToNat,Nat.reduceAdd,(b90.1),sr69,rx70,k79,k80,qB,hq81,re88,(yY hx0)]
   refine qF rfl c94 ?_
   try simp only[↓zP,zQ,↓qC]
   refine⟨zX (zX (zX (zX (qH)))),?_⟩
   refine zD [(4,0),(8,0),(11,0)] ?_
   have S97:=S68.ext e95
   have sr98:=S97.w.at_
   have hl99:=hl74.ext e95
   have re101:=fun (o:Bool)=>rd_chan yK (j:=10) hp78 rfl (by decide) o
   have p104:=PlN.extW p86 e95
   obtain⟨r105,r106,r107,r108,r109,r110,r111,r112,r113,r114,r115,l116,x117,Z118,c119,p120,o121,g122,f123⟩:=hearG p104 hl0 (p77.int 10) (p77.int 11) (p77.int 12) (p77.int 13) (p77.int 14) (p77.int 15) (p77.int 16) (p77.int 17) (p77.int 18) (p1) (p77.w64 10 rfl) (p77.w64 11 rfl) (p77.w64 12 rfl) (p77.w64 13 rfl) (p77.w64 14 rfl) (p77.w64 15 rfl) (p77.w64 16 rfl) (p77.w64 17 rfl) (p77.w64 18 rfl) wp1
   try simp -implicitDefEqProofs only[↓zP,zQ,Nat.reduceLT,qJ,Int.reduceLE,Int.reduceLT,Int.reduceToNat,Nat.reduceAdd,((b90.ext e95).1),sr98,rx70,k79,k80,qB,(hl99.at),re101]
   refine qF rfl c119 ?_
   have g124:=And.intro g122 trivial
   have G128:=g124.1
   have bl129:=G128.2.1 hl0
   have rt130:=G128.2.2 rt0
   obtain⟨cs127,C125,p126⟩:=S97.w.arC rfl p104 p120 o121 ⟨bl129,rt130⟩
   have G131:=G0.trans G128
   have hx132:=p126.2.1
   obtain⟨w133,w134,w135,w136,w137,w138,w139,w140,w141,w142,w143⟩:=f123
   have S144:=S97.chg C125
   obtain⟨b145,e146,nn147⟩:=S144.alloc (i:=Z118.length) (by simp) {cs:=[(0:Int),(0:Int),(0:Int),(0:Int),(0:Int),(0:Int),(0:Int),(0:Int),(0:Int)]}
   have S149:=S144.ext e146
   try simp -implicitDefEqProofs only[↓zP,zQ,↓qC,(b145.1),Nat.reduceAdd,xZ,xY]
   refine⟨zX (zX (zX (qH))),?_⟩
   by_cases h150:r115=(0:Int)
   ·subst h150
    try simp only[zQ]
    refine zD [(3,0),(5,0)] ?_
    have S151:=S149.put b145 {cs:=[r105,r106,r107,r108,r109,r110,r111,r112,r113]}
    have sr152:=S151.w.at_
    have hx153:=C125.cc _ _ (by decide) hx5
    have b155:=b145.put {cs:=[r105,r106,r107,r108,r109,r110,r111,r112,r113]}
    have hl159:=((hl99.chg C125 (by decide) hx5).ext e146).put (g':={cs:=[r105,r106,r107,r108,r109,r110,r111,r112,r113]}) hx153 b145
    obtain⟨p161,hb162,ho163⟩:=p77.putP (js:=kChan) (ds:=[.sc (.int .i64 (r105)),.sc (.int .i64 (r106)),.sc (.int .i64 (r107)),.sc (.int .i64 (r108)),.sc (.int .i64 (r109)),.sc (.int .i64 (r110)),.sc (.int .i64 (r111)),.sc (.int .i64 (r112)),.sc (.int .i64 (r113))]) 10 (RowOk.int w133 (RowOk.int w134 (RowOk.int w135 (RowOk.int w136 (RowOk.int w137 (RowOk.int w138 (RowOk.int w139 (RowOk.int w140 (RowOk.int w141 RowOk.nil))))))))) rfl (by decide)
    obtain⟨Z164,l165,hZ166,e167,e168,hp169,ot170,hl171,C172⟩:=S151.w.stRow (k:=5) rfl hx153 hl159 rfl hp78 p161 (by rw[List.length_set];exact pl5)
    have wr173:uJ true 9 ((Z118++[{cs:=[(0:Int),(0:Int),(0:Int),(0:Int),(0:Int),(0:Int),(0:Int),(0:Int),(0:Int)]}]:qE).set (Z118.length) {cs:=[r105,r106,r107,r108,r109,r110,r111,r112,r113]}) q75 (some {cs:=rows Rw.cs l5}) (j72*20+10) (.agg [r105,r106,r107,r108,r109,r110,r111,r112,r113])=some Z164:=by rw[hZ166];exact wr_part yK (n:=9) hp78 rfl (by decide) hb162 rfl q75
    have pl174:=pl5;rw[←e168] at pl174
    have cid175:uI l165=uI l5:=by rw[e167];exact(cids_set hp78 (ho163 0 (.inl (by decide)))).trans cid0
    have k177:(j72:Int)<(l165.length:Int):=by omega
    have hx178:=hx153;rw[←e168] at hx178
    have hl179:=hl171;rw[←e168] at hl179
    try simp -implicitDefEqProofs only[↓zP,zQ,qJ,(b155.1),Nat.reduceAdd,↓qC,sr152,(qL hx153),k79,k80,qB,(hl159.at),wr173]
    refine⟨zX (zX (qH)),?_⟩
    have S180:=S151.chg C172
    have sr181:=S180.w.at_
    have rx182:=qL hx178
    have hq183:=hl179.at
    obtain⟨p184,hb185,hj186,ho187⟩:=p161.putI 19 rfl (show W64 (now) from wnow)
    obtain⟨Z188,l189,hZ190,e191,e192,hp193,ot194,hl195,C196⟩:=S180.w.stRow (k:=5) rfl hx178 hl179 rfl hp169 p184 (by rw[List.length_set];exact pl174)
    have wr197:uJ true 1 Z164 q75 (some {cs:=rows Rw.cs l165}) (j72*20+19) (.sc (.int .i64 (now)))=some Z188:=by rw[hZ190];exact kH yK hp169 (by decide) hb185 ⟨rfl,rfl⟩ q75
    have pl198:=pl174;rw[←e192] at pl198
    have cid199:uI l189=uI l5:=by rw[e191];exact(cids_set hp169 (ho187 0 (by decide))).trans cid175
    have k201:(j72:Int)<(l189.length:Int):=by omega
    have hx202:=hx178;rw[←e192] at hx202
    have hl203:=hl195;rw[←e192] at hl203
    cases r92 with
    | false =>
     have S204:=S180.chg C196
     have sr205:=S204.w.at_
     have p207:=PlN.putW (g':={cs:=[r105,r106,r107,r108,r109,r110,r111,r112,r113]}) (PlN.extW p126 e146) b145
     have p209:=PlN.chg (PlN.chg p207 C172 (by decide)) C196 (by decide)
     have hx210:=C172.cc _ _ (by decide) hx132
     have hx211:=C196.cc _ _ (by decide) hx210
     obtain⟨v213,v214,v215,v216,t217,Z218,c219,e220,w221,w222,w223,w224⟩:=packetInE (OwnN.rd p209.2.2.1) (by omega) (r114)
     try simp only[zQ,sr181,rx182,k79,k177,qB,hq183,wr197,sr205,(yY hx211)]
     refine qF rfl c219 ?_
     have S225:=S204.ext e220
     obtain⟨b226,e227,nn228⟩:=S225.alloc (i:=Z218.length) (by simp) {cs:=[(0:Int),(0:Int),(0:Int),(0:Int)]}
     have c229:=b226.1
     have S230:=S225.ext e227
     cases t217 with
     | false =>
      have S231:=S230.put b226 {cs:=[v213,v214,v215,v216]}
      have sr232:=S231.w.at_
      have hx233:=C125.cc _ _ (by decide) hx44
      have hx234:=C172.cc _ _ (by decide) hx233
      have hx235:=C196.cc _ _ (by decide) hx234
      obtain⟨Z237,cs238,wr239,hx240,C241⟩:=S231.w.stI (k:=9) (z:=IntKind.i64.wrap (v43+1)) rfl (W64.wrap _)
      have S242:=S231.chg C241
      obtain⟨b243,e244,nn245⟩:=S242.alloc (i:=Z237.length) (by simp) {cs:=[]}
      try simp -implicitDefEqProofs only[↓zP,zQ,↓qC,qJ,Nat.reduceAdd,c229,xZ,xY,sr232,(qL hx235),wr239]
      have S247:=(S242.ext e244).up (M:=N+1) (by omega)
      have p250:=PlN.putW (g':={cs:=[v213,v214,v215,v216]}) (PlN.extW (PlN.extW p209 e220) e227) b226
      have hx256:=C241.cc _ _ (by decide) hx202
      have hl255:=((hl203.ext e220).ext e227).put (g':={cs:=[v213,v214,v215,v216]}) hx202 b226
      exact⟨(Z237.length),[],_,_,x117,l116,(.sl q75 0 l189.length 20),l189,_,rfl,S247.w,S247.o,(PlN.extW (PlN.chg p250 C241 (by decide)) e244),G131,hx256,((hl255.chg C241 (by decide) hx202).ext e244),cid199,b243,(by simp),w142,fun _=>cids_row si51 (by omega) hv cid199⟩
     | true =>
      have b259:=b226.put {cs:=[v213,v214,v215,v216]}
      have S261:=S230.put b226 {cs:=[v213,v214,v215,v216]}
      have p272:=PlN.putW (g':={cs:=[v213,v214,v215,v216]}) (PlN.extW (PlN.extW p209 e220) e227) b226
      have hl275:=((hl203.ext e220).ext e227).put (g':={cs:=[v213,v214,v215,v216]}) hx202 b226
      obtain⟨r262,r263,x276,l277,x278,l279,cs264,Z265,c266,W267,O268,p280,G281,hx282,hl283,ci284,f269⟩:=forwardW S261.w (by omega) p272 bl129 rt130 hx202 hl275 pl198 (v10) (v213) (v214) (v215) (v216) w16 w221 w222 w223 w224
      try simp -implicitDefEqProofs only[↓zP,zQ,↓qC,qJ,Nat.reduceAdd,c229,xZ,xY,(b259.1)]
      refine qF rfl c266 ?_
      have bl285:=G281.2.1 bl129
      have rt286:=G281.2.2 rt130
      have hx287:=p280.2.1
      have o289:=hl283.one
      have cid291:=ci284.trans cid199
      obtain⟨b292,le293⟩:=f269
      have b294:=LclW.less b292 S261.o.le
      try simp only[↓zP,zQ]
      have S295:=S261.call W267 O268
      exact⟨r262,r263,_,_,x276,l277,x278,l279,_,rfl,S295.w,S295.o,p280,(G131.trans G281),hx282,hl283,cid291,b294,le293,w142,fun _=>cids_row si51 (by omega) hv cid291⟩
    | true =>
     try simp only[zQ,sr181,rx182,k79,k177,qB,hq183,wr197]
     refine zD [(3,0),(6,0)] ?_
     have S296:=S180.chg C196
     have sr297:=S296.w.at_
     have b302:=(((b1.ext e14).ext e50).ext e95).only C125.o
     have b304:=(b302.ext e146).oth (Ne.symm (nn147 _ _ b302.1)) {cs:=[r105,r106,r107,r108,r109,r110,r111,r112,r113]}
     have b305:=b304.only C172.o
     have b306:=b305.only C196.o
     obtain⟨p309,hb310,hj311,ho312⟩:=p184.putI 1 rfl (show W64 (ma) from wma)
     obtain⟨Z313,l314,hZ315,e316,e317,hp318,ot319,hl320,C321⟩:=S296.w.stRow (k:=5) rfl hx202 hl203 rfl hp193 p309 (by rw[List.length_set];exact pl198)
     have wr322:uJ true 1 Z188 q75 (some {cs:=rows Rw.cs l189}) (j72*20+1) (.sc (.int .i64 (ma)))=some Z313:=by rw[hZ315];exact kH yK hp193 (by decide) hb310 ⟨rfl,rfl⟩ q75
     have pl323:=pl198;rw[←e317] at pl323
     have cid324:uI l314=uI l5:=by rw[e316];exact(cids_set hp193 (ho312 0 (by decide))).trans cid199
     have hx327:=hx202;rw[←e317] at hx327
     have hl328:=hl320;rw[←e317] at hl328
     try simp -implicitDefEqProofs only[↓zP,zQ,qJ,↓qC,(b306.1),Nat.reduceAdd,sr297,(qL hx202),k79,k201,qB,(hl203.at),wr322]
     refine⟨zX (zX (qH)),?_⟩
     have S329:=S296.chg C321
     have sr330:=S329.w.at_
     have p332:=PlN.putW (g':={cs:=[r105,r106,r107,r108,r109,r110,r111,r112,r113]}) (PlN.extW p126 e146) b145
     have p335:=PlN.chg (PlN.chg (PlN.chg p332 C172 (by decide)) C196 (by decide)) C321 (by decide)
     have hx336:=C172.cc _ _ (by decide) hx132
     have hx337:=C196.cc _ _ (by decide) hx336
     have hx338:=C321.cc _ _ (by decide) hx337
     obtain⟨v340,v341,v342,v343,t344,Z345,c346,e347,w348,w349,w350,w351⟩:=packetInE (OwnN.rd p335.2.2.1) (by omega) (r114)
     try simp only[zQ,sr330,(yY hx338)]
     refine qF rfl c346 ?_
     have S352:=S329.ext e347
     obtain⟨b353,e354,nn355⟩:=S352.alloc (i:=Z345.length) (by simp) {cs:=[(0:Int),(0:Int),(0:Int),(0:Int)]}
     have c356:=b353.1
     have S357:=S352.ext e354
     cases t344 with
     | false =>
      have S358:=S357.put b353 {cs:=[v340,v341,v342,v343]}
      have sr359:=S358.w.at_
      have hx360:=C125.cc _ _ (by decide) hx44
      have hx361:=C172.cc _ _ (by decide) hx360
      have hx362:=C196.cc _ _ (by decide) hx361
      have hx363:=C321.cc _ _ (by decide) hx362
      obtain⟨Z365,cs366,wr367,hx368,C369⟩:=S358.w.stI (k:=9) (z:=IntKind.i64.wrap (v43+1)) rfl (W64.wrap _)
      have S370:=S358.chg C369
      obtain⟨b371,e372,nn373⟩:=S370.alloc (i:=Z365.length) (by simp) {cs:=[]}
      try simp -implicitDefEqProofs only[↓zP,zQ,↓qC,qJ,Nat.reduceAdd,c356,xZ,xY,sr359,(qL hx363),wr367]
      have S375:=(S370.ext e372).up (M:=N+1) (by omega)
      have p378:=PlN.putW (g':={cs:=[v340,v341,v342,v343]}) (PlN.extW (PlN.extW p335 e347) e354) b353
      have hx384:=C369.cc _ _ (by decide) hx327
      have hl383:=((hl328.ext e347).ext e354).put (g':={cs:=[v340,v341,v342,v343]}) hx327 b353
      exact⟨(Z365.length),[],_,_,x117,l116,(.sl q75 0 l314.length 20),l314,_,rfl,S375.w,S375.o,(PlN.extW (PlN.chg p378 C369 (by decide)) e372),G131,hx384,((hl383.chg C369 (by decide) hx327).ext e372),cid324,b371,(by simp),w142,fun _=>cids_row si51 (by omega) hv cid324⟩
     | true =>
      have b387:=b353.put {cs:=[v340,v341,v342,v343]}
      have S389:=S357.put b353 {cs:=[v340,v341,v342,v343]}
      have p400:=PlN.putW (g':={cs:=[v340,v341,v342,v343]}) (PlN.extW (PlN.extW p335 e347) e354) b353
      have hl403:=((hl328.ext e347).ext e354).put (g':={cs:=[v340,v341,v342,v343]}) hx327 b353
      obtain⟨r390,r391,x404,l405,x406,l407,cs392,Z393,c394,W395,O396,p408,G409,hx410,hl411,ci412,f397⟩:=forwardW S389.w (by omega) p400 bl129 rt130 hx327 hl403 pl323 (v10) (v340) (v341) (v342) (v343) w16 w348 w349 w350 w351
      try simp -implicitDefEqProofs only[↓zP,zQ,↓qC,qJ,Nat.reduceAdd,c356,xZ,xY,(b387.1)]
      refine qF rfl c394 ?_
      have bl413:=G409.2.1 bl129
      have rt414:=G409.2.2 rt130
      have hx415:=p408.2.1
      have o417:=hl411.one
      have cid419:=ci412.trans cid324
      obtain⟨b420,le421⟩:=f397
      have b422:=LclW.less b420 S389.o.le
      try simp only[↓zP,zQ]
      have S423:=S389.call W395 O396
      exact⟨r390,r391,_,_,x404,l405,x406,l407,_,rfl,S423.w,S423.o,p408,(G131.trans G409),hx410,hl411,cid419,b422,le421,w142,fun _=>cids_row si51 (by omega) hv cid419⟩
   ·have S424:=S149.put b145 {cs:=[r105,r106,r107,r108,r109,r110,r111,r112,r113]}
    obtain⟨b425,e426,nn427⟩:=S424.alloc (i:=Z118.length+1) (by simp) {cs:=[]}
    try simp only[zQ,h150]
    have S429:=(S424.ext e426).up (M:=N+1) (by omega)
    have p431:=PlN.putW (g':={cs:=[r105,r106,r107,r108,r109,r110,r111,r112,r113]}) (PlN.extW p126 e146) b145
    have hx434:=C125.cc _ _ (by decide) hx5
    have hl436:=((hl99.chg C125 (by decide) hx5).ext e146).put (g':={cs:=[r105,r106,r107,r108,r109,r110,r111,r112,r113]}) hx434 b145
    exact⟨(Z118.length+1),[],_,_,x117,l116,(.sl q75 0 l5.length 20),l5,_,rfl,S429.w,S429.o,(PlN.extW p431 e426),G131,hx434,(hl436.ext e426),cid0,b425,(by simp),⟨by decide,by decide⟩,fun h=>by cases h⟩
  ·obtain⟨b438,e439,nn440⟩:=S68.alloc (i:=Z48.length) (by simp) {cs:=[]}
   try simp -implicitDefEqProofs only[↓zP,zQ,↓qC,h56,qJ,qA,Nat.reduceAdd,sr69,rx70,k79,k80,qB,hq81,re82,h83]
   have S442:=(S68.ext e439).up (M:=N+1) (by omega)
   exact⟨(Z48.length),[],_,_,x0,l0,(.sl q75 0 l5.length 20),l5,_,rfl,S442.w,S442.o,(PlN.extW (PlN.extW (PlN.extW p6 e14) e50) e439),G0,hx5,(hl74.ext e439),cid0,b438,(by simp),⟨by decide,by decide⟩,fun h=>by cases h⟩
end
end Go.Proofs.YtjdajobflgkebaaGreatDoor.Sim
