/- Texts of this proof, put together and made small by a program: part 15. -/
import Derived.Test.YtjdajobflgkebaaGreatDoorK14
set_option linter.all false
set_option maxRecDepth 100000
set_option maxHeartbeats 40000000
namespace Go.Proofs.YtjdajobflgkebaaGreatDoor.Sim
open Go
section
attribute [local irreducible] kO uW kR wQ
theorem put_len {l l':List (Rw qK)}{k n a c v:Int}(h:PutR l k n a c l' v):l'.length≤l.length+1:=by
 obtain⟨_,⟨_,rfl⟩ | ⟨_,_,_,_,_,_,rfl | ⟨p,rfl,_⟩⟩⟩:=h
 ·omega
 ·omega
 ·simp
theorem put_ne {l l':List (Rw qK)}{k n a c v:Int}(h:PutR l k n a c l' v)(h0:l≠[]):l'≠[]:=by
 obtain⟨⟨⟨m,rfl⟩,_⟩,_⟩:=h
 simp[h0]
theorem arenaW {H:qE}{rc:Nat}{xc:AV}{Lc:List Int}(hc:Cur H rc xc Lc)(hL:Lc.length≤4000000) :
  ∃ (x:AV)(l:List (Rw qK))(Z:qE),Sound Tryz.prog 50 [.ptr rc 0] H (.agg [x]) Z∧Dr rc xc H Z∧OwnN Z x l∧1≤l.length∧l.length≤14∧∀ i,i<H.length→NotIn x i:=by
 suffices h:∃ w Z,Sound Tryz.prog 50 [.ptr rc 0] H w Z∧∃ (x:AV)(l:List (Rw qK)),w=.agg [x]∧Dr rc xc H Z∧OwnN Z x l∧1≤l.length∧l.length≤14∧∀ i,i<H.length→NotIn x i by
  obtain⟨w,Z,h1,x,l,rfl,h2⟩:=h
  exact⟨x,l,Z,h1,h2⟩
 refine zR 48 [.cell 2 26] Tryz.func50 ?_
 obtain⟨H1,hH1⟩:∃ H1:qE,H1=H++[{cs:=[.sc (.slice none 0 0)]}]:=⟨_,rfl⟩
 have e1:Ext H H1:=hH1▸Ext.more H _
 have z1:H1[H.length]?=some {cs:=[.sc (.slice none 0 0)]}:=by rw[hH1];exact yA _ _
 obtain⟨H2,hH2⟩:∃ H2:qE,H2=List.set (H1++[{cs:=[.sc (.slice none 0 0)]}]) H1.length {cs:=[.sc (.slice none 0 0)]}:=⟨_,rfl⟩
 have e2:Ext H1 H2:=by
  rw[hH2]
  exact(Ext.more H1 _).set (Nat.le_refl _) _
 have z2:H2[H1.length]?=some {cs:=[.sc (.slice none 0 0)]}:=by rw[hH2];exact List.getElem?_set_self (by simp)
 have C2:=((CurE.start hc).ext e1).c
 have CY:=(CurE.start C2).ext e2
 have A0:AO H1 H2 H1.length (.sc (.slice none 0 0)) []:=⟨⟨z2,rfl,.inl ⟨rfl,rfl⟩,.nil _⟩,Nat.le_refl _,fun i _=>.nil i⟩
 have bd0:qT Tryz.prog 26 []=some (.agg [.sc (.slice none 0 0)]):=by simp[qT,yR,yT,qW,Tryz.underlying26,zero26,tyOk24,cells24]
 simp only[↓zP,zQ,↓qC,bd0,←hH1,←hH2]
 refine yL (ι:=Nat) (fun i s=>∃ (T:Nat→AV)(G:qE)(x:AV)(l:List (Rw qK)),s=⟨qY 48 T,G⟩∧AO H1 G H1.length x l∧CurE H1 G rc xc Lc∧i≤13∧l.length≤i∧(0<i→l≠[])∧T 0=.ptr rc 0∧T 2=.ptr H.length 0∧T 3=.ptr H1.length 0∧T 4=.sc (.int .i64 (i:Int))) (fun i=>14 - i) ?_ (i:=0) ?_
 ·rintro i s ⟨T,G,x,l,rfl,A,C,hi,hl,hne,t0,t2,t3,t4⟩
  obtain⟨v,Za,hv,a1,D1⟩:=yB C.c hL 10 (by omega) (by omega)
  have Aa:=A.dr D1 C.lt
  have Ca:=C.dr D1
  have ev:IntKind.i64.wrap (3+(v:Int))=3+(v:Int):=w64 (by omega) (by omega)
  by_cases h:(i:Int)<3+(v:Int)
  ·have ei:IntKind.i64.wrap ((i:Int)+1)=((i+1:Nat):Int):=by rw[w64 (by omega) (by omega)];omega
   have ra:=Aa.p.1
   have rc1:=qL (off:=0) Aa.p.2.1
   have lx:=fun e=>OwnF.len e Aa.p.2.2.1
   simp only[↓zP,zQ,↓qC,t4,t0]
   refine qF (by simp only[zQ]<;>rfl) a1 ?_
   by_cases hn:(l.length:Int)<2
   ·obtain⟨Y,hY⟩:∃ Y:qE,Y=Za++[{cs:=ints .i64 [0,1,5,1000,5000,10000,10001]}]:=⟨_,rfl⟩
    have eY:Ext Za Y:=hY▸Ext.more _ _
    have AY:=Aa.ext eY
    have CY':=Ca.ext eY
    obtain⟨j,Zc,hj,a3,D3⟩:=vH CY'.c hL (y:=.sl Za.length 0 7 1) (l:=[0,1,5,1000,5000,10000,10001]) (IsL.at (own:=true) (by rw[hY];exact yA _ _) rfl) (by decide) (by decide)
    obtain⟨n,hn'⟩:∃ n,([0,1,5,1000,5000,10000,10001]:List Int).getD j 0=n:=⟨_,rfl⟩
    rw[hn'] at a3
    have nb:0≤n∧n≤900000:=hv_in hn' (getD_in (by decide) hj)
    have Ac:=AY.dr D3 C.lt
    have Cc:=CY'.dr D3
    obtain⟨w,l',x',Zd,a4,p4,o4,pr,_,pn⟩:=putT Ac.p (by omega) 1 n 0 0
    obtain⟨Ad,g4,s4⟩:=Ac.step p4 o4 Cc.d.1
    have ln:=put_len pr
    have bd:=bdAtom n
    simp only[↓zP,zQ,ev,↓qC,t3,ra,rc1,lx,hn,t0,←hY,t2,h]
    refine qF (by simp only[zQ]<;>rfl) a3 ?_
    simp only[↓zP,zQ,bd]
    refine qF (by simp only[zQ,t3]<;>rfl) a4 ?_
    simp only[↓zP,zQ,t4,ei,reduceCtorEq,↓qC,t3,t2]
    refine⟨i+1,by omega,_,_,x',l',rfl,Ad,Cc.mk' g4 s4,by omega,by omega,fun _=>pn (.inl ⟨rfl,nb.1,by omega,rfl,rfl⟩) (by omega),?_,?_,?_,?_⟩<;>simp only[zQ,t0,t2,t3]<;>rfl
   ·obtain⟨b,Zb,a2,D2⟩:=drawOnce Ca.c hL 3 (by omega) (by omega)
    have Ab:=Aa.dr D2 C.lt
    have Cb:=Ca.dr D2
    simp only[↓zP,zQ,ev,↓qC,t3,ra,rc1,lx,hn,t0,t2,h]
    refine qF (by simp only[zQ]<;>rfl) a2 ?_
    cases b with
    | true =>
     obtain⟨Y,hY⟩:∃ Y:qE,Y=Zb++[{cs:=ints .i64 [0,1,5,1000,5000,10000,10001]}]:=⟨_,rfl⟩
     have eY:Ext Zb Y:=hY▸Ext.more _ _
     have AY:=Ab.ext eY
     have CY':=Cb.ext eY
     obtain⟨j,Zc,hj,a3,D3⟩:=vH CY'.c hL (y:=.sl Zb.length 0 7 1) (l:=[0,1,5,1000,5000,10000,10001]) (IsL.at (own:=true) (by rw[hY];exact yA _ _) rfl) (by decide) (by decide)
     obtain⟨n,hn'⟩:∃ n,([0,1,5,1000,5000,10000,10001]:List Int).getD j 0=n:=⟨_,rfl⟩
     rw[hn'] at a3
     have nb:0≤n∧n≤900000:=hv_in hn' (getD_in (by decide) hj)
     have Ac:=AY.dr D3 C.lt
     have Cc:=CY'.dr D3
     obtain⟨w,l',x',Zd,a4,p4,o4,pr,_,pn⟩:=putT Ac.p (by omega) 1 n 0 0
     obtain⟨Ad,g4,s4⟩:=Ac.step p4 o4 Cc.d.1
     have ln:=put_len pr
     have bd:=bdAtom n
     simp only[↓zP,zQ,reduceCtorEq,↓qC,t0,←hY]
     refine qF (by simp only[zQ]<;>rfl) a3 ?_
     simp only[↓zP,zQ,bd]
     refine qF (by simp only[zQ,t3]<;>rfl) a4 ?_
     simp only[↓zP,zQ,t4,ei,reduceCtorEq,↓qC,t3,t2]
     refine⟨i+1,by omega,_,_,x',l',rfl,Ad,Cc.mk' g4 s4,by omega,by omega,fun _=>pn (.inl ⟨rfl,nb.1,by omega,rfl,rfl⟩) (by omega),?_,?_,?_,?_⟩<;>simp only[zQ,t0,t2,t3]<;>rfl
    | false =>
     obtain⟨kd,Zc,hkd,a3,D3⟩:=yB Cb.c hL 8 (by omega) (by omega)
     have Ac:=Ab.dr D3 C.lt
     have Cc:=Cb.dr D3
     obtain⟨u,Zd,hu,a4,D4⟩:=yB Cc.c hL l.length (by omega) (by omega)
     have Ad:=Ac.dr D4 C.lt
     have Cd:=Cc.dr D4
     obtain⟨w,Ze,hw,a5,D5⟩:=yB Cd.c hL l.length (by omega) (by omega)
     have Ae:=Ad.dr D5 C.lt
     have Ce:=Cd.dr D5
     have ek:IntKind.i64.wrap (2+(kd:Int))=2+(kd:Int):=w64 (by omega) (by omega)
     have co:=oneS (2+(kd:Int))
     simp only[↓zP,zQ,qA,↓qC,t0]
     refine qF (by simp only[zQ]<;>rfl) a3 ?_
     simp only[↓zP,zQ,ek,↓qC,t0]
     refine qF (by simp only[zQ]<;>rfl) a4 ?_
     simp only[↓zP,zQ,↓qC,t0]
     refine qF (by simp only[zQ]<;>rfl) a5 ?_
     simp only[↓zP,zQ,↓qC]
     refine qN (by simp only[zQ]<;>rfl) co ?_
     by_cases ho:2+(kd:Int)=3∨2+(kd:Int)=6
     ·rw[decide_eq_true ho]
      obtain⟨vv,l',x',Zf,a6,p6,o6,pr,_,_⟩:=putT Ae.p (by omega) (2+(kd:Int)) 0 (u:Int) 0
      obtain⟨Af,g6,s6⟩:=Ae.step p6 o6 Ce.d.1
      have ln:=put_len pr
      have bd:=bdMake (2+(kd:Int)) (u:Int) 0
      have l0:l≠[]:=fun h=>by rw[h] at hn;exact hn (by decide)
      simp only[↓zP,zQ,bd]
      refine qF (by simp only[zQ,t3]<;>rfl) a6 ?_
      simp only[↓zP,zQ,t4,ei]
      refine⟨i+1,by omega,_,_,x',l',rfl,Af,Ce.mk' g6 s6,by omega,by omega,fun _=>put_ne pr l0,?_,?_,?_,?_⟩<;>simp only[zQ,t0,t2,t3]<;>rfl
     ·rw[decide_eq_false ho]
      obtain⟨vv,l',x',Zf,a6,p6,o6,pr,_,_⟩:=putT Ae.p (by omega) (2+(kd:Int)) 0 (u:Int) (w:Int)
      obtain⟨Af,g6,s6⟩:=Ae.step p6 o6 Ce.d.1
      have ln:=put_len pr
      have bd:=bdMake (2+(kd:Int)) (u:Int) (w:Int)
      have l0:l≠[]:=fun h=>by rw[h] at hn;exact hn (by decide)
      simp only[↓zP,zQ,bd]
      refine qF (by simp only[zQ,t3]<;>rfl) a6 ?_
      simp only[↓zP,zQ,t4,ei]
      refine⟨i+1,by omega,_,_,x',l',rfl,Af,Ce.mk' g6 s6,by omega,by omega,fun _=>put_ne pr l0,?_,?_,?_,?_⟩<;>simp only[zQ,t0,t2,t3]<;>rfl
  ·have ei:l≠[]:=hne (by omega)
   have ra:=Aa.p.1
   have rg:=yY Aa.p.2.1
   have zG:Za[H.length]?=some {cs:=[.sc (.slice none 0 0)]}:=(Ca.d.2.1 _ (qP z1) (by have:=hc.lt;omega)).trans z1
   have ow:x.cells=[x]∧x.one=true:=OwnF.one Aa.p.2.2.1
   have zF:(Za.set H.length {cs:=[x]})[H.length]?=some {cs:=[x]}:=List.getElem?_set_self (qP zG)
   have CF:=((CurE.start hc).ext e1).dr Ca.d
   have bF:LclE Za H.length H.length {cs:=[.sc (.slice none 0 0)]}:=⟨zG,Nat.le_refl _⟩
   have CE:=CF.put bF {cs:=[x]}
   simp only[↓zP,zQ,↓qC,t4,t0]
   refine qF (by simp only[zQ]<;>rfl) a1 ?_
   simp only[↓zP,zQ,ev,↓qC,t3,ra,rg,t2,zG,ow,zF,h]
   refine⟨x,l,rfl,CE.d,OwnF.keep Aa.p.2.2.1 fun q hq hn=>List.getElem?_set_ne (by rintro rfl;exact hn (Aa.nw _ (qP z1))),?_,by omega,fun q hq=>Aa.nw q (Nat.lt_of_lt_of_le hq e1.1)⟩
   exact List.length_pos_iff.2 ei
 ·exact⟨_,_,_,_,rfl,A0,CY,by omega,by simp,fun h=>absurd h (by omega),rfl,rfl,rfl,rfl⟩
theorem AO.row {H0 Y:qE}{r q:Nat}{l:List (Rw qK)}(A:AO H0 Y r (.sl q 0 l.length 4) l)(hq:Y[q]?=some {cs:=rows Rw.cs l})(i:Nat)(b:Rw qK):AO H0 (Y.set q {cs:=rows Rw.cs (l.set i b)}) r (.sl q 0 l.length 4) (l.set i b):=by
 obtain⟨p1,p2,p3,p4⟩:=A.p
 refine⟨⟨(List.getElem?_set_ne ?_).trans p1,p2,.inr ⟨q,[],by rw[List.length_set],by rw[List.append_nil];exact List.getElem?_set_self (qP hq)⟩,p4⟩,A.fr,A.nw⟩
 exact fun e=>p4 q 0 _ _ rfl e.symm
theorem any03 {H:qE}{rc:Nat}{xc:AV}{Lc:List Int}(hc:Cur H rc xc Lc)(hL:Lc.length≤4000000) :
  ∃ (x:AV)(l:List (Rw qK))(Z:qE),Sound Tryz.prog 34 [.ptr rc 0] H (.agg [x]) Z∧Dr rc xc H Z∧OwnN Z x l∧l.length≤20∧∀ i,i<H.length→NotIn x i:=by
 suffices h:∃ w Z,Sound Tryz.prog 34 [.ptr rc 0] H w Z∧∃ (x:AV)(l:List (Rw qK)),w=.agg [x]∧Dr rc xc H Z∧OwnN Z x l∧l.length≤20∧∀ i,i<H.length→NotIn x i by
  obtain⟨w,Z,h1,x,l,rfl,h2⟩:=h
  exact⟨x,l,Z,h1,h2⟩
 refine zR 63 [.cell 2 26] Tryz.func34 ?_
 obtain⟨H1,hH1⟩:∃ H1:qE,H1=H++[{cs:=[.sc (.slice none 0 0)]}]:=⟨_,rfl⟩
 have e1:Ext H H1:=hH1▸Ext.more H _
 have z1:H1[H.length]?=some {cs:=[.sc (.slice none 0 0)]}:=by rw[hH1];exact yA _ _
 have c1:=((CurE.start hc).ext e1).c
 obtain⟨k,Za,hk,a1,D1⟩:=yB c1 hL 12 (by omega) (by omega)
 have C1:=(CurE.start c1).dr D1
 obtain⟨y,Zb,hy,a2,D2⟩:=yB C1.c hL 60 (by omega) (by omega)
 have C2:=C1.dr D2
 obtain⟨x0,l,Zc,a3,D3,on,l1,l14,_⟩:=arenaW C2.c hL
 have C3:=C2.dr D3
 obtain⟨q,Zd,a4,e4,hq0,hq⟩:=copyE on.rd (by omega)
 have C4:=C3.ext e4
 obtain⟨Y,hY⟩:∃ Y:qE,Y=List.set (Zd++[{cs:=[.sc (.slice none 0 0)]}]) Zd.length {cs:=[.sl q 0 l.length 4]}:=⟨_,rfl⟩
 have eY:Ext Zd Y:=by
  rw[hY]
  exact(Ext.more Zd [{cs:=[.sc (.slice none 0 0)]}]).set (Nat.le_refl _) _
 have CY:=C4.ext eY
 have sY:Y[Zd.length]?=some {cs:=[.sl q 0 l.length 4]}:=by rw[hY];exact List.getElem?_set_self (by simp)
 have hqY:=eY.at hq
 have A:AO H1 Y Zd.length (.sl q 0 l.length 4) l:=⟨⟨sY,rfl,.inr ⟨q,[],rfl,by rw[List.append_nil];exact hqY⟩,.sl (by have:=qP hq;omega)⟩,C4.d.1,fun i hi=>.sl (by have:=C3.d.1;omega)⟩
 have rx:=qL (cs:=[.sl q 0 l.length 4]) (off:=0) rfl
 have wr1:=fun (Hh:qE)(x:AV)(g:x.cells=[x]∧x.one=true)=>yX (cs:=[AV.sc (.slice none 0 0)]) (ds:=[x]) (m:=1) rfl rfl (by simp[g.2]) Hh
 have wrY:=wr1 (Zd++[{cs:=[.sc (.slice none 0 0)]}]) (.sl q 0 l.length 4) ⟨rfl,rfl⟩ Zd.length
 obtain⟨i,hi,hil⟩:=wJ y (n:=(l.length:Int)) (by omega)
 have hz:¬ (l.length:Int)=0:=by omega
 simp only[↓zP,zQ,↓qC,←hH1]
 refine qF rfl a1 ?_
 simp only[↓zP,zQ,↓qC]
 refine qF rfl a2 ?_
 simp only[↓zP,zQ,↓qC]
 refine qF rfl a3 ?_
 simp only[↓zP]
 refine qF rfl a4 ?_
 simp only[↓zP,zQ,wrY,←hY]
 rw[w_seq]
 simp only[↓zP,zQ,sY,rx,hz,hi]
 refine w_cut1 (fun s=>∃ (T:Nat→AV)(G:qE)(x:AV)(m:List (Rw qK)),s=⟨qY 63 T,G⟩∧AO H1 G Zd.length x m∧CurE H1 G rc xc Lc∧m.length≤20∧T 2=.ptr H.length 0∧T 5=.ptr Zd.length 0) ?_ ?_
 ·have kl:i<l.length:=by omega
  have k0:(0:Int)≤(i:Int):=by omega
  obtain⟨p,hp⟩:∃ p,l[i]?=some p:=⟨_,List.getElem?_eq_getElem kl⟩
  have bq:LclE Y H1.length q {cs:=rows Rw.cs l}:=⟨hqY,by have:=C3.d.1;omega⟩
  have st:∀ (f:Nat)(b:Rw qK)(z:Int),b.cs=p.cs.set f (.sc (.int .i64 z))→f<4→∃ G,uJ true 1 Y q (some {cs:=rows Rw.cs l}) (i*4+f) (.sc (.int .i64 z))=some G∧AO H1 G Zd.length (.sl q 0 l.length 4) (l.set i b)∧CurE H1 G rc xc Lc∧(l.set i b).length≤20:=fun f b z hb hf =>
   ⟨_,kH yU hp hf hb ⟨rfl,rfl⟩ q,A.row hqY i b,CY.put bq _,by rw[List.length_set];omega⟩
  by_cases q0:(k:Int)=0
  ·obtain⟨j,hj,hj3⟩:=wJ y (n:=11) (by omega)
   obtain⟨b,hb,_,_⟩:=p.putI 0 rfl (show W64 (j:Int) by unfold W64;omega)
   obtain⟨G,w1,g1,g2,g3⟩:=st 0 b _ hb (by decide)
   simp only[↓zP,zQ,↓qC,q0,Int.reduceEq,hj,sY,rx,k0,hil,qB,hqY,w1]
   exact⟨_,G,_,_,rfl,g1,g2,g3,rfl,rfl⟩
  ·by_cases q1:(k:Int)=1
   ·obtain⟨j,hj,hj3⟩:=wJ y (n:=9) (by omega)
    have ej:IntKind.i64.wrap ((j:Int) - 1)=(j:Int) - 1:=w64 (by omega) (by omega)
    obtain⟨b,hb,_,_⟩:=p.putI 2 rfl (show W64 ((j:Int) - 1) by unfold W64;omega)
    obtain⟨G,w1,g1,g2,g3⟩:=st 2 b _ hb (by decide)
    simp only[↓zP,zQ,↓qC,q1,Int.reduceEq,sY,rx,k0,hil,qB,hqY,hj,ej,w1]
    exact⟨_,G,_,_,rfl,g1,g2,g3,rfl,rfl⟩
   ·by_cases q2:(k:Int)=2
    ·obtain⟨j,hj,hj3⟩:=wJ y (n:=3) (by omega)
     obtain⟨Y1,h1⟩:∃ Y1:qE,Y1=Y++[{cs:=ints .i64 [-1,5,1000000]}]:=⟨_,rfl⟩
     have eX:Ext Y Y1:=h1▸Ext.more _ _
     have hy1:Y1[Y.length]?=some {cs:=ints .i64 [-1,5,1000000]}:=by rw[h1];exact yA _ _
     have hq1:=eX.at hqY
     rcases(by omega:j=0∨j=1∨j=2) with rfl | rfl | rfl
     ·obtain⟨b,hb,_,_⟩:=p.putI 1 rfl (show W64 (-1) by unfold W64;omega)
      have w1:=kH yU (H:=Y1) hp (by decide) hb ⟨rfl,rfl⟩ q
      simp only[↓zP,zQ,↓qC,q2,Int.reduceEq]
      refine zD [(1,0),(7,0)] ?_
      simp -implicitDefEqProofs only[↓zP,zQ,Nat.reduceLT,Int.reduceEq,hj,Int.reduceLE,Int.reduceLT,←h1,hy1,Nat.reduceAdd,sY,rx,k0,hil,qB,hq1,w1]
      refine⟨zA,?_⟩
      exact⟨_,_,_,_,rfl,(A.ext eX).row hq1 i b,(CY.ext eX).put (bq.ext eX) _,by rw[List.length_set];omega,rfl,rfl⟩
     ·obtain⟨b,hb,_,_⟩:=p.putI 1 rfl (show W64 (5) by unfold W64;omega)
      have w1:=kH yU (H:=Y1) hp (by decide) hb ⟨rfl,rfl⟩ q
      simp only[↓zP,zQ,↓qC,q2,Int.reduceEq]
      refine zD [(1,0),(7,0)] ?_
      simp -implicitDefEqProofs only[↓zP,zQ,Nat.reduceLT,Int.reduceEq,hj,Int.reduceLE,Int.reduceLT,Int.reduceToNat,←h1,hy1,Nat.reduceAdd,sY,rx,k0,hil,qB,hq1,w1]
      refine⟨zA,?_⟩
      exact⟨_,_,_,_,rfl,(A.ext eX).row hq1 i b,(CY.ext eX).put (bq.ext eX) _,by rw[List.length_set];omega,rfl,rfl⟩
     ·obtain⟨b,hb,_,_⟩:=p.putI 1 rfl (show W64 (1000000) by unfold W64;omega)
      have w1:=kH yU (H:=Y1) hp (by decide) hb ⟨rfl,rfl⟩ q
      simp only[↓zP,zQ,↓qC,q2,Int.reduceEq]
      refine zD [(1,0),(7,0)] ?_
      simp -implicitDefEqProofs only[↓zP,zQ,Nat.reduceLT,Int.reduceEq,hj,Int.reduceLE,Int.reduceLT,Int.reduceToNat,←h1,hy1,Nat.reduceAdd,sY,rx,k0,hil,qB,hq1,w1]
      refine⟨zA,?_⟩
      exact⟨_,_,_,_,rfl,(A.ext eX).row hq1 i b,(CY.ext eX).put (bq.ext eX) _,by rw[List.length_set];omega,rfl,rfl⟩
    ·by_cases q3:(k:Int)=3
     ·obtain⟨p0,hp0⟩:∃ p,l[0]?=some p:=⟨_,List.getElem?_eq_getElem (by omega)⟩
      have bs:=jK (P:=Tryz.prog) (m:=4) 85 _ p0.cs zero85 tyOk85 cells85 (by decide) (by decide) rfl p0.cs_len
      have kz:(0:Int)<(l.length:Int):=by omega
      have kz2:0<l.length:=by omega
      obtain⟨Y1,h1⟩:∃ Y1:qE,Y1=Y++[{cs:=p0.cs}]:=⟨_,rfl⟩
      have eX:Ext Y Y1:=h1▸Ext.more _ _
      have hs:Y1[Y.length]?=some {cs:=p0.cs}:=by rw[h1];exact yA _ _
      have AX:=A.ext eX
      have CX:=CY.ext eX
      obtain⟨K,K1,K2,K4,apx⟩:=apNd AX.p.2.2.1 (by omega) hs
      have sK:K[Zd.length]?=some {cs:=[.sl q 0 l.length 4]}:=(K2 _ AX.p.2.2.2).trans AX.p.1
      have rK:=qP sK
      have sK2:(K++[{cs:=rows Rw.cs (l++[p0])}])[Zd.length]?=some {cs:=[.sl q 0 l.length 4]}:=(yS _ _ _ rK).trans sK
      have w1:=fun (Hh:qE)=>uO (H:=Hh) (cs:=[.sl q 0 l.length 4]) (off:=0) (x:=.sl q 0 l.length 4) (y:=.sl K.length 0 (l.length+1) 4) rfl ⟨rfl,rfl⟩ Zd.length
      simp only[↓zP,zQ,↓qC,q3,Int.reduceEq]
      refine zD [(1,0),(3,0),(5,0)] ?_
      simp -implicitDefEqProofs only[↓zP,zQ,sY,rx,Int.reduceLE,kz,Nat.reduceMul,hqY,(xD yU hp0),bs,p0.ones,←h1,apx,sK2,w1]
      refine⟨zA,?_⟩
      refine⟨_,_,.sl K.length 0 (l.length+1) 4,l++[p0],rfl,⟨⟨List.getElem?_set_self (qP sK2),rfl,.inr ⟨K.length,[],by rw[List.length_append];rfl,?_⟩,.sl (by omega)⟩,C4.d.1,fun i hi=>.sl (by have:=C4.d.1;omega)⟩,?_,by rw[List.length_append,List.length_singleton];omega,rfl,rfl⟩
      ·rw[List.append_nil,List.getElem?_set_ne (by omega)]
       exact yA _ _
      ·have hg:=CX.d.1
       refine CX.mk' (by rw[List.length_set,List.length_append,K1];omega) fun i hi=>?_
       have:=C4.d.1
       rw[List.getElem?_set_ne (by omega),yS _ _ _ (by omega)]
       exact K2 i (AX.nw i hi)
     ·simp only[↓zP,zQ,↓qC,q0,Int.reduceEq,q1,q2,q3]
      exact⟨_,_,_,_,rfl,A,CY,by omega,rfl,rfl⟩
 ·rintro s ⟨T,G,x,m,rfl,A2,C,hm,t2,t5⟩
  have ra:=A2.p.1
  have rg:=yY A2.p.2.1
  have zG:G[H.length]?=some {cs:=[.sc (.slice none 0 0)]}:=(C.d.2.1 _ (qP z1) (by have:=hc.lt;omega)).trans z1
  have ow:x.cells=[x]∧x.one=true:=OwnF.one A2.p.2.2.1
  have ww:=wr1 G x ow H.length
  have zF:(G.set H.length {cs:=[x]})[H.length]?=some {cs:=[x]}:=List.getElem?_set_self (qP zG)
  have CF:=((CurE.start hc).ext e1).dr C.d
  have bF:LclE G H.length H.length {cs:=[.sc (.slice none 0 0)]}:=⟨zG,Nat.le_refl _⟩
  have CE:=CF.put bF {cs:=[x]}
  simp only[↓zP,zQ,↓qC,t5,ra,rg,t2,zG,ow,zF]
  exact⟨x,m,rfl,CE.d,OwnF.keep A2.p.2.2.1 fun q hq hn=>List.getElem?_set_ne (by rintro rfl;exact hn (A2.nw _ (qP z1))),hm,fun q hq=>A2.nw q (Nat.lt_of_lt_of_le hq e1.1)⟩
theorem pair03 {H:qE}{x:AV}{L:List Int}(hx:IsL H x .u8 L)(hL:L.length≤4000000) :
  ∃ (a:AV)(l:List (Rw qK))(k:Int)(Z:qE),Sound Tryz.prog 19 [x] H (.tup [.agg [a],.sc (.int .i64 k)]) Z∧Ext H Z∧OwnN Z a l∧l.length≤20∧-1≤k∧k≤100∧∀ i,i<H.length→NotIn a i:=by
 suffices h:∃ w Z,Sound Tryz.prog 19 [x] H w Z∧∃ (a:AV)(l:List (Rw qK))(k:Int),w=.tup [.agg [a],.sc (.int .i64 k)]∧Ext H Z∧OwnN Z a l∧l.length≤20∧-1≤k∧k≤100∧(∀ i,i<H.length→NotIn a i) by
  obtain⟨w,Z,h1,a,l,k,rfl,h2⟩:=h
  exact⟨a,l,k,Z,h1,h2⟩
 refine zR 21 [.cell 2 26,.tmp 3] Tryz.func19 ?_
 obtain⟨H1,hH1⟩:∃ H1:qE,H1=H++[{cs:=[.sc (.slice none 0 0)]}]:=⟨_,rfl⟩
 have e1:Ext H H1:=hH1▸Ext.more H _
 have z1:H1[H.length]?=some {cs:=[.sc (.slice none 0 0)]}:=by rw[hH1];exact yA _ _
 obtain⟨rc,Za,a0,hrc,c0,e0⟩:=drawNew (jC hx e1) hL
 obtain⟨k,Zb,hk,a1,D1⟩:=yB c0 hL 40 (by omega) (by omega)
 have C1:=(CurE.start c0).dr D1
 obtain⟨a,l,Zc,a2,D2,on,hl,nw⟩:=any03 C1.c hL
 have C2:=C1.dr D2
 have e2:Ext H1 Zc:=C2.d.ext e0 hrc
 have ow:a.cells=[a]∧a.one=true:=OwnF.one on
 have wr1:=fun (Hh:qE)=>yX (cs:=[AV.sc (.slice none 0 0)]) (ds:=[a]) (m:=1) rfl rfl (by simp[ow.2]) Hh
 obtain⟨Y,hY⟩:∃ Y:qE,Y=List.set (Zc++[{cs:=[.sc (.slice none 0 0)]}]) Zc.length {cs:=[a]}:=⟨_,rfl⟩
 have eY:Ext Zc Y:=by
  rw[hY]
  exact(Ext.more Zc [{cs:=[.sc (.slice none 0 0)]}]).set (Nat.le_refl _) _
 have sY:Y[Zc.length]?=some {cs:=[a]}:=by rw[hY];exact List.getElem?_set_self (by simp)
 have onY:OwnN Y a l:=OwnF.ext on eY
 have E:=e2.trans eY
 have zY:Y[H.length]?=some {cs:=[.sc (.slice none 0 0)]}:=E.at z1
 have wr3:=wr1 (Zc++[{cs:=[.sc (.slice none 0 0)]}]) Zc.length
 have rg:=wU (cs:=[a]) (m:=1) rfl
 have rx:=qL (cs:=[a]) (off:=0) rfl
 have zF:(Y.set H.length {cs:=[a]})[H.length]?=some {cs:=[a]}:=List.getElem?_set_self (qP zY)
 have yH:H.length≠Zc.length:=by have:=qP z1;have:=e2.1;omega
 obtain⟨j,hj,hj2⟩:=wJ k (n:=(l.length:Int)+2) (by omega)
 have ew:IntKind.i64.wrap ((l.length:Int)+2)=(l.length:Int)+2:=w64 (by omega) (by omega)
 have ez:¬ (l.length:Int)+2=0:=by omega
 have ej:IntKind.i64.wrap ((j:Int) - 1)=(j:Int) - 1:=w64 (by omega) (by omega)
 have r3:(Y.set H.length {cs:=[a]})[Zc.length]?=some {cs:=[a]}:=(List.getElem?_set_ne yH).trans sY
 simp only[↓zP,zQ,↓qC,←hH1]
 refine qF rfl a0 ?_
 simp only[↓zP,zQ,↓qC]
 refine qF rfl a1 ?_
 simp only[↓zP,zQ,↓qC]
 refine qF rfl a2 ?_
 simp only[↓zP,zQ,↓qC,wr3,←hY]
 refine zD [(0,0),(3,0),(3,9)] ?_
 simp only[↓zP,zQ,sY,rg,zY,rx,(fun e=>OwnF.len e onY),ew,ez,hj,ej,ow,zF]
 refine⟨zX (zX (qI (qS _ _ Zc.length 0 rfl rfl (r3.trans sY.symm)) qH)),?_⟩
 exact⟨a,l,_,rfl,(e1.trans E).set (Nat.le_refl _) _,OwnF.keep onY fun q hq hn=>List.getElem?_set_ne (by rintro rfl;exact hn (nw _ (Nat.lt_of_lt_of_le (qP z1) (Nat.le_trans e0.1 C1.d.1)))),hl,by omega,by omega,fun i hi=>nw i (by have:=e1.1;have:=e0.1;have:=C1.d.1;omega)⟩
theorem drawShowTerm {H:qE}{x:AV}{L:List Int}(hx:IsL H x .u8 L)(hL:L.length≤4000000) :
  ∃ (a:AV)(l:List (Rw qK))(k:Int)(Z:qE),Sound Tryz.prog 7 [x] H (.tup [.agg [a],.sc (.int .i64 k)]) Z∧Ext H Z∧OwnN Z a l∧l.length≤20∧-1≤k∧k≤100∧∀ i,i<H.length→NotIn a i:=by
 suffices h:∃ w Z,Sound Tryz.prog 7 [x] H w Z∧∃ (a:AV)(l:List (Rw qK))(k:Int),w=.tup [.agg [a],.sc (.int .i64 k)]∧Ext H Z∧OwnN Z a l∧l.length≤20∧-1≤k∧k≤100∧(∀ i,i<H.length→NotIn a i) by
  obtain⟨w,Z,h1,a,l,k,rfl,h2⟩:=h
  exact⟨a,l,k,Z,h1,h2⟩
 refine zR 8 [.cell 2 26,.tmp 3] Tryz.func7 ?_
 obtain⟨H1,hH1⟩:∃ H1:qE,H1=H++[{cs:=[.sc (.slice none 0 0)]}]:=⟨_,rfl⟩
 have e1:Ext H H1:=hH1▸Ext.more H _
 have z1:H1[H.length]?=some {cs:=[.sc (.slice none 0 0)]}:=by rw[hH1];exact yA _ _
 obtain⟨a,l,k,Z,a1,e2,on,hl,k1,k2,nw⟩:=pair03 (jC hx e1) hL
 have ow:a.cells=[a]∧a.one=true:=OwnF.one on
 have zZ:=e2.at z1
 have rg:=wU (cs:=[a]) (m:=1) rfl
 have zF:(Z.set H.length {cs:=[a]})[H.length]?=some {cs:=[a]}:=List.getElem?_set_self (qP zZ)
 simp only[↓zP,zQ,↓qC,←hH1]
 refine qF rfl a1 ?_
 simp only[↓zP,zQ,zZ,ow,zF,rg]
 exact⟨a,l,_,rfl,(e1.trans e2).set (Nat.le_refl _) _,OwnF.keep on fun q hq hn=>List.getElem?_set_ne (by rintro rfl;exact hn (nw _ (qP z1))),hl,k1,k2,fun i hi=>nw i (Nat.lt_of_lt_of_le hi e1.1)⟩
end
theorem letS (k:Int)(h:2≤k∧k≤9):([ByteArray.empty,ByteArray.empty,(⟨#[112]⟩:ByteArray),(⟨#[104]⟩:ByteArray),(⟨#[107]⟩:ByteArray),(⟨#[115]⟩:ByteArray),(⟨#[117]⟩:ByteArray),(⟨#[100]⟩:ByteArray),(⟨#[103]⟩:ByteArray),(⟨#[109]⟩:ByteArray)]:List ByteArray).getD k.toNat ByteArray.empty=jM k:=by
 have:∀ j<10,2≤j→([ByteArray.empty,ByteArray.empty,(⟨#[112]⟩:ByteArray),(⟨#[104]⟩:ByteArray),(⟨#[107]⟩:ByteArray),(⟨#[115]⟩:ByteArray),(⟨#[117]⟩:ByteArray),(⟨#[100]⟩:ByteArray),(⟨#[103]⟩:ByteArray),(⟨#[109]⟩:ByteArray)]:List ByteArray).getD j ByteArray.empty=[ByteArray.empty,(⟨#[97]⟩:ByteArray),(⟨#[112]⟩:ByteArray),(⟨#[104]⟩:ByteArray),(⟨#[107]⟩:ByteArray),(⟨#[115]⟩:ByteArray),(⟨#[117]⟩:ByteArray),(⟨#[100]⟩:ByteArray),(⟨#[103]⟩:ByteArray),(⟨#[109]⟩:ByteArray)].getD j ByteArray.empty:=by decide
 exact this k.toNat (by omega) (by omega)
theorem emp_is:(⟨#[]⟩:ByteArray)=ByteArray.empty:=rfl
theorem termS {x:AV}{l:List (Rw qK)}(hl:l.length≤1048576)(m:Nat)(hm:m≤l.length)(al:vL l m):∀ n,n<m→(szs l).getD n 0≤2000→∀ {H:qE},RdN H x l →
  ∃ Z,Sound Tryz.prog 29 [.agg [x],n] H (.sc (.string ((txs l).getD n ByteArray.empty))) Z∧Ext H Z:=by
 intro n
 induction n using Nat.strongRecOn with
 | _ n ih =>
 intro hn hs H hx
 suffices h:∃ w Z,Sound Tryz.prog 29 [.agg [x],n] H w Z∧w=.sc (.string ((txs l).getD n ByteArray.empty))∧Ext H Z by
  obtain⟨w,Z,h1,rfl,h2⟩:=h
  exact⟨Z,h1,h2⟩
 refine zR 45 [.tmp 4] Tryz.func29 ?_
 have o:=hx.one
 have hp:l[n]?=some l[n]:=List.getElem?_eq_getElem (by omega)
 generalize l[n]=p at hp
 have ok:=al n p hn hp
 have et:=txs_at l n p hp ok
 obtain⟨A,hA⟩:∃ A:Reg,A=⟨[x],true,true⟩:=⟨_,rfl⟩
 obtain⟨B,hB⟩:∃ B:Reg,B=⟨[p.int 0,p.int 1,p.int 2,p.int 3],true,true⟩:=⟨_,rfl⟩
 have e0:=Ext.more H [A]
 obtain⟨r,rest,ow,hxe,hr⟩:=(hx.ext e0).get (i:=n) (by omega)
 have hp2:(l++rest)[n]?=some p:=by rw[List.getElem?_append_left (by omega)];exact hp
 have rr:=xD yU hp2
 rw[jY p] at rr
 have hxe:x=.sl r 0 l.length 4:=hxe
 subst hxe
 have k2:(0:Int)≤n:=by omega
 have k3:(n:Int)<l.length:=by omega
 have hr':=fun g=>yS (H++[A]) [g] r (qP hr)
 rw[hr] at hr'
 have hq:(H++[A])[r]?=some ⟨rows Rw.cs (l++rest),ow,true⟩:=hr
 have ok':=ok
 unfold okR kJ at ok'
 by_cases h1:p.int 0=1
 ·rw[if_pos h1] at et
  rw[et]
  have cd:=decS (p.int 1).toNat (by omega)
  rw[show (((p.int 1).toNat:Nat):Int)=p.int 1 by omega] at cd
  have sd:=yM (p.int 1).toNat (by omega)
  simp -implicitDefEqProofs only[↓zP,zQ,↓qC,Nat.reduceLT,Nat.reduceEqDiff,Nat.reduceAdd]
  rw[←hA]
  simp -implicitDefEqProofs only[zQ,k2,k3,hq,qB,rr,h1,List.append_assoc,hset_k,wO,Nat.add_assoc,Nat.reduceAdd,xZ,xY]
  refine qN rfl cd ?_
  simp only[↓zP,zQ,Nat.reduceLT]
  refine⟨by ((try simp only[ByteArray.size_append,zt1,zt2,zt3,zt4]);omega),?_⟩
  exact Ext.more _ _
 ·rw[if_neg h1] at et
  have sm:=small_a l n p hp m hm hn al hs h1
  have P2:=kI l m hm al (p.int 2).toNat (by omega)
  have hA2:(p.int 2).toNat<n:=by omega
  have cA:=fun (G:qE)(g:RdN G (.sl r 0 l.length 4) l)(hs':(szs l).getD (p.int 2).toNat 0≤2000)=>ih (p.int 2).toNat hA2 (by omega) hs' g
  rw[show (((p.int 2).toNat:Nat):Int)=p.int 2 by omega] at cA
  obtain⟨C,hC⟩:∃ C:Reg,C=⟨strs [ByteArray.empty,ByteArray.empty,(⟨#[112]⟩:ByteArray),(⟨#[104]⟩:ByteArray),(⟨#[107]⟩:ByteArray),(⟨#[115]⟩:ByteArray),(⟨#[117]⟩:ByteArray),(⟨#[100]⟩:ByteArray),(⟨#[103]⟩:ByteArray),(⟨#[109]⟩:ByteArray)],true,true⟩:=⟨_,rfl⟩
  have e2:=Ext.more H [A,B,C]
  have f1:(H++[A,B,C])[H.length]?=some ⟨[.sl r 0 l.length 4],true,true⟩:=by rw[←hA];exact yD H [A,B,C]
  have f2:(H++[A,B,C])[H.length+1]?=some ⟨[p.int 0,p.int 1,p.int 2,p.int 3],true,true⟩:=by rw[←hB];exact wO H [A,B,C] 1
  have f3:(H++[A,B,C])[H.length+2]?=some ⟨strs [ByteArray.empty,ByteArray.empty,(⟨#[112]⟩:ByteArray),(⟨#[104]⟩:ByteArray),(⟨#[107]⟩:ByteArray),(⟨#[115]⟩:ByteArray),(⟨#[117]⟩:ByteArray),(⟨#[100]⟩:ByteArray),(⟨#[103]⟩:ByteArray),(⟨#[109]⟩:ByteArray)],true,true⟩:=by rw[←hC];exact wO H [A,B,C] 2
  have nm:=letS (p.int 0) (by omega)
  have j0:0≤p.int 0:=by omega
  have j1:p.int 0<10:=by omega
  have j2:(p.int 0).toNat<10:=by omega
  have co:=oneS (p.int 0)
  have L:=letT_size (p.int 0) (by omega)
  have hsA:(szs l).getD (p.int 2).toNat 0≤2000:=by split at sm<;>(try unfold wH at *)<;>first | omega | (have:=kI l m hm al (p.int 3).toNat (by omega);omega)
  have tA:=txs_size l m hm al (p.int 2).toNat (by omega) hsA
  obtain⟨Z,z1,z2⟩:=cA (H++[A,B,C]) (hx.ext e2) hsA
  have g1:=z2.at f1
  have g2:=z2.at f2
  have g3:=z2.at f3
  have E:=e2.trans z2
  generalize hta:(txs l).getD (p.int 2).toNat ByteArray.empty=ta at *
  by_cases h2:wH (p.int 0)
  ·rw[if_pos h2] at sm et
   have h2':=h2
   unfold wH at h2'
   have P3:=kI l m hm al (p.int 3).toNat (by omega)
   have hB2:(p.int 3).toNat<n:=by omega
   have hsB:(szs l).getD (p.int 3).toNat 0≤2000:=by omega
   have tB:=txs_size l m hm al (p.int 3).toNat (by omega) hsB
   obtain⟨Y,y1,y2⟩:=ih (p.int 3).toNat hB2 (by omega) hsB (hx.ext E)
   rw[show (((p.int 3).toNat:Nat):Int)=p.int 3 by omega] at y1
   generalize htb:(txs l).getD (p.int 3).toNat ByteArray.empty=tb at *
   rw[decide_eq_false (show ¬ (p.int 0=3∨p.int 0=6) by omega)] at co
   have fin:jM (p.int 0)++(⟨#[40]⟩:ByteArray)++ta++(⟨#[44]⟩:ByteArray)++tb++(⟨#[41]⟩:ByteArray)=(txs l).getD n ByteArray.empty:=by
    rw[et]
    simp only[ByteArray.append_assoc]
   simp -implicitDefEqProofs only[↓zP,zQ,↓qC,Nat.reduceLT,Nat.reduceEqDiff,Nat.reduceAdd]
   rw[←hA]
   simp -implicitDefEqProofs only[zQ,k2,k3,hq,qB,rr,List.append_assoc,hset_k,wO,emp_is,Nat.add_assoc,Nat.reduceAdd,xZ,xY,h1]
   try rw[←hB]
   try rw[←hC]
   refine zD [(2,0),(2,10),(4,0),(4,10),(6,0),(8,0)] ?_
   simp -implicitDefEqProofs only[↓zP,zQ,Nat.reduceLT,Nat.reduceEqDiff,f1,f2,j0,j1,f3,Nat.reduceAdd,j2,nm]
   refine⟨by ((try simp only[ByteArray.size_append,zt1,zt2,zt3,zt4]);omega),?_⟩
   refine qF rfl z1 ?_
   try simp only[↓zP,zQ,Nat.reduceLT,Nat.reduceEqDiff,↓qC,g2]
   refine⟨by ((try simp only[ByteArray.size_append,zt1,zt2,zt3,zt4]);omega),?_⟩
   refine⟨zX (qI (qS _ _ (H.length+1) 0 rfl rfl (g2.trans f2.symm)) (zX (qI (qS _ _ (H.length+2) _ rfl rfl (g3.trans f3.symm)) (zA)))),?_⟩
   refine qN rfl co ?_
   simp only[↓zP,zQ,Nat.reduceLT,Nat.reduceEqDiff,g1,g2,↓qC]
   refine⟨by ((try simp only[ByteArray.size_append,zt1,zt2,zt3,zt4]);omega),?_⟩
   refine qF rfl y1 ?_
   try simp only[↓zP,zQ,Nat.reduceLT,Nat.reduceEqDiff,↓qC]
   refine⟨by ((try simp only[ByteArray.size_append,zt1,zt2,zt3,zt4]);omega),by ((try simp only[ByteArray.size_append,zt1,zt2,zt3,zt4]);omega),?_⟩
   exact⟨congrArg (fun z=>AV.sc (Value.string z)) fin,E.trans y2⟩
  ·rw[if_neg h2] at sm et
   have h2':=h2
   unfold wH at h2'
   rw[decide_eq_true (show (p.int 0=3∨p.int 0=6) by omega)] at co
   have fin:jM (p.int 0)++(⟨#[40]⟩:ByteArray)++ta++(⟨#[41]⟩:ByteArray)=(txs l).getD n ByteArray.empty:=by
    rw[et]
    simp only[ByteArray.append_assoc,ByteArray.append_empty,ByteArray.empty_append]
   simp -implicitDefEqProofs only[↓zP,zQ,↓qC,Nat.reduceLT,Nat.reduceEqDiff,Nat.reduceAdd]
   rw[←hA]
   simp -implicitDefEqProofs only[zQ,k2,k3,hq,qB,rr,List.append_assoc,hset_k,wO,emp_is,Nat.add_assoc,Nat.reduceAdd,xZ,xY,h1]
   try rw[←hB]
   try rw[←hC]
   refine zD [(2,0),(2,10),(4,0),(4,10),(6,0),(8,0)] ?_
   simp -implicitDefEqProofs only[↓zP,zQ,Nat.reduceLT,Nat.reduceEqDiff,f1,f2,j0,j1,f3,Nat.reduceAdd,j2,nm]
   refine⟨by ((try simp only[ByteArray.size_append,zt1,zt2,zt3,zt4]);omega),?_⟩
   refine qF rfl z1 ?_
   try simp only[↓zP,zQ,Nat.reduceLT,Nat.reduceEqDiff,↓qC,g2]
   refine⟨by ((try simp only[ByteArray.size_append,zt1,zt2,zt3,zt4]);omega),?_⟩
   refine⟨zX (qI (qS _ _ (H.length+1) 0 rfl rfl (g2.trans f2.symm)) (zX (qI (qS _ _ (H.length+2) _ rfl rfl (g3.trans f3.symm)) (zA)))),?_⟩
   refine qN rfl co ?_
   simp only[↓zP,zQ,Nat.reduceLT,Nat.reduceEqDiff,g1,g2,↓qC]
   refine⟨by ((try simp only[ByteArray.size_append,zt1,zt2,zt3,zt4]);omega),?_⟩
   exact⟨congrArg (fun z=>AV.sc (Value.string z)) fin,E⟩
theorem decI (n:Nat)(hn:n≤9223372036854775807):Fn Tryz.prog 33 [.sc (.int .i64 n)] (.sc (.string (wZ n))):=by
 refine Fn.run 5 [.tmp 2] Tryz.func33 rfl rfl rfl rfl (by simp) (qV (.sc _) yV) (.sc _) ?_
 simp only[↓zP,zQ,↓qC]
 refine qN rfl (itoaC n hn) ?_
 simp only[↓zP,zQ]
def OwnU (H:qE)(y:AV)(b:List Int)(n:Nat):Prop:=b.length=n∧((y=.sc (.slice none 0 0)∧b=[])∨∃ r,y=.sl r 0 n 1∧H[r]?=some {cs:=ints .u8 b})
theorem apU {G:qE}{y:AV}{b:List Int}{n:Nat}(hy:OwnU G y b n)(z:ByteArray)(h0:z.size≠0)(hb:n+z.size≤1000000000) :
  ∃ K:qE,K.length=G.length∧(∀ i,NotIn y i→K[i]?=G[i]?)∧vK Tryz.prog (some (.slice 5)) (some .string) y (.sc (.string z)) G=some (.sl K.length 0 (n+z.size) 1,K++[{cs:=ints .u8 (b++xO z)}]):=by
 obtain⟨hn,⟨rfl,rfl⟩ | ⟨r,rfl,hr⟩⟩:=hy
 ·refine⟨G,rfl,fun _ _=>rfl,?_⟩
  have hn:n=0:=by simpa using hn.symm
  subst hn
  have an:∀ x:AV,vK Tryz.prog (some (.slice 5)) (some .string) (.sc (.slice none 0 0)) x G=apN 1 G (qU G x 1):=fun x=>ap_nil zero5 info5 cells5 rfl x
  simp only[zQ,an,(by omega:z.size≤140737488355328),h0]
 ·refine⟨yG G r,yZ _,fun i hi=>uR _ _ _ (hi _ _ _ _ rfl),?_⟩
  simp only[zQ,hr,(by omega:n≤b.length),(by omega:n+z.size≤140737488355328),(List.take_of_length_le (by omega):b.take n=b)]
theorem n40:xO (⟨#[40]⟩:ByteArray)=[40]:=rfl
theorem n41:xO (⟨#[41]⟩:ByteArray)=[41]:=rfl
theorem n44:xO (⟨#[44]⟩:ByteArray)=[44]:=rfl
theorem n0:xO ByteArray.empty=[]:=rfl
theorem at_kk (Z:qE)(R R':Reg)(q i:Nat)(hi:i<Z.length)(hne:i≠q):(yG (Z++[R]) q++[R'])[i]?=Z[i]?:=by
 rw[yS _ _ _ (by rw[yZ,List.length_append];omega),uR _ _ _ hne,yS _ _ _ hi]
theorem bytesI {r0:Nat}{ow:Bool}{l rest:List (Rw qK)}(hl:l.length≤1048576)(m:Nat)(hm:m≤l.length)(al:vL l m):∀ n,n<m→(szs l).getD n 0≤2000→∀ {H:qE}{y:AV}{b:List Int}{c:Nat},OwnU H y b c→c≤100000000+25*(2000 - ((szs l).getD n 0).toNat)→H[r0]?=some ⟨rows Rw.cs (l++rest),ow,true⟩→NotIn y r0 →
  ∃ q Z,Sound Tryz.prog 26 [y,.agg [.sl r0 0 l.length 4],n] H (.sl q 0 (c+((txs l).getD n ByteArray.empty).size) 1) Z∧H.length≤q∧Z[q]?=some ⟨ints .u8 (b++xO ((txs l).getD n ByteArray.empty)),true,true⟩∧H.length≤Z.length∧∀ i,i<H.length→NotIn y i→Z[i]?=H[i]?:=by
 intro n
 induction n using Nat.strongRecOn with
 | _ n ih =>
 intro hn hs H y b c hy hc hr0 hny
 suffices h:∃ w Z,Sound Tryz.prog 26 [y,.agg [.sl r0 0 l.length 4],n] H w Z∧∃ q,w=.sl q 0 (c+((txs l).getD n ByteArray.empty).size) 1∧H.length≤q∧Z[q]?=some ⟨ints .u8 (b++xO ((txs l).getD n ByteArray.empty)),true,true⟩∧H.length≤Z.length∧∀ i,i<H.length→NotIn y i→Z[i]?=H[i]? by
  obtain⟨w,Z,h1,q,rfl,h2⟩:=h
  exact⟨q,Z,h1,h2⟩
 refine zR 48 [.tmp 6] Tryz.func26 ?_
 have hp:l[n]?=some l[n]:=List.getElem?_eq_getElem (by omega)
 generalize l[n]=p at hp
 have ok:=al n p hn hp
 have et:=txs_at l n p hp ok
 have hp2:(l++rest)[n]?=some p:=by rw[List.getElem?_append_left (by omega)];exact hp
 have rr:=xD yU hp2
 rw[jY p] at rr
 obtain⟨A,hA⟩:∃ A:Reg,A=⟨[.sl r0 0 l.length 4],true,true⟩:=⟨_,rfl⟩
 obtain⟨B,hB⟩:∃ B:Reg,B=⟨[p.int 0,p.int 1,p.int 2,p.int 3],true,true⟩:=⟨_,rfl⟩
 have b0:(H++[A])[H.length]?=some ⟨[.sl r0 0 l.length 4],true,true⟩:=by rw[←hA];exact yD H [A]
 have r1:=yS H [A] r0 (qP hr0)
 rw[hr0] at r1
 have k2:(0:Int)≤n:=by omega
 have k3:(n:Int)<l.length:=by omega
 have k4:n<l.length:=by omega
 have ok':=ok
 unfold okR kJ at ok'
 have L:=letT_size (p.int 0) (by omega)
 have cl:=letterI (p.int 0) (by omega)
 have hy2:OwnU (H++[A,B]) y b c:=by
  refine⟨hy.1,?_⟩
  rcases hy.2 with h | ⟨r,h,hr⟩
  ·exact .inl h
  ·exact .inr ⟨r,h,(Ext.more H [A,B]).at hr⟩
 obtain⟨K,hK1,hK2,apx⟩:=apU hy2 (jM (p.int 0)) (by omega) (by omega)
 have hK3:K.length=H.length+2:=by rw[hK1];simp
 have hK4:∀ i,i<H.length+2→NotIn y i→∀ Y,(K++Y)[i]?=(H++[A,B])[i]?:=fun i hi hq Y=>(yS K Y i (by omega)).trans (hK2 i hq)
 have ny:∀ i,H.length≤i→NotIn y i:=fun i hi r o nn kk e=>by
  rcases hy.2 with ⟨h,_⟩ | ⟨r',h,hr⟩
  ·rw[h] at e;cases e
  ·rw[h] at e
   injection e with e1
   have:=qP hr
   omega
 have f1:∀ Y,(K++Y)[H.length]?=some ⟨[.sl r0 0 l.length 4],true,true⟩:=fun Y=>(hK4 _ (by omega) (ny _ (by omega)) Y).trans (by rw[←hA];exact yD H [A,B])
 have f2:∀ Y,(K++Y)[H.length+1]?=some ⟨[p.int 0,p.int 1,p.int 2,p.int 3],true,true⟩:=fun Y=>(hK4 _ (by omega) (ny _ (by omega)) Y).trans (by rw[←hB];exact wO H [A,B] 1)
 have f3:∀ Y,(K++Y)[r0]?=some ⟨rows Rw.cs (l++rest),ow,true⟩:=fun Y=>(hK4 _ (by have:=qP hr0;omega) hny Y).trans ((Ext.more H [A,B]).at hr0)
 have f4:∀ i,i<H.length→NotIn y i→∀ Y,(K++Y)[i]?=H[i]?:=fun i hi hq Y=>(hK4 i (by omega) hq Y).trans (yS _ _ _ hi)
 rw[L] at apx
 by_cases h1:p.int 0=1
 ·rw[if_pos h1] at et
  rw[et]
  have cd:=decI (p.int 1).toNat (by omega)
  rw[show (((p.int 1).toNat:Nat):Int)=p.int 1 by omega] at cd
  have sd:=yM (p.int 1).toNat (by omega)
  have hlt:jM (p.int 0)=(⟨#[97]⟩:ByteArray):=by rw[h1];rfl
  have hbl:b.length=c:=hy.1
  generalize wZ (p.int 1).toNat=d at *
  simp -implicitDefEqProofs only[↓zP,zQ,↓qC,Nat.reduceLT,Nat.reduceEqDiff,reduceCtorEq,Nat.reduceAdd]
  rw[←hA]
  simp -implicitDefEqProofs only[zQ,k2,k3,r1,qB,rr,List.append_assoc,hset_k,wO,Nat.reduceAdd,xZ,xY]
  try rw[←hB]
  try refine qN rfl cl ?_
  have apx':=apx
  rw[h1] at apx'
  have q1:c+1≤140737488355328:=by omega
  have q2:c+1+d.size≤140737488355328:=by omega
  have q3:(b++xO (jM 1)).length=c+1:=by rw[List.length_append,wV,hbl,←h1,L]
  have q4:c+1≤(b++xO (jM 1)).length:=by omega
  have q5:(b++xO (jM 1)).take (c+1)=b++xO (jM 1):=List.take_of_length_le (by omega)
  simp only[↓zP,zQ,h1,Nat.reduceLT,Nat.reduceEqDiff,apx',↓qC,reduceCtorEq,f2,Nat.reduceLeDiff]
  refine qN rfl cd ?_
  simp -implicitDefEqProofs only[↓zP,zQ,Nat.reduceLT,Nat.reduceEqDiff,yD,Nat.add_assoc,hkill_0,q5,List.append_assoc,Nat.reduceAdd]
  have la:jM 1=(⟨#[97]⟩:ByteArray):=rfl
  refine⟨⟨by rw[hbl,←h1,L];omega,by omega⟩,K.length+1,by rw[ByteArray.size_append,zt4],by omega,?_,by omega,fun i hi hq=>f4 i hi hq _⟩
  rw[wO K _ 1,la]
  simp only[List.getElem?_cons_succ,List.getElem?_cons_zero,vF,List.append_assoc]
 ·rw[if_neg h1] at et
  have sm:=small_a l n p hp m hm hn al hs h1
  have P2:=kI l m hm al (p.int 2).toNat (by omega)
  have hA2:(p.int 2).toNat<n:=by omega
  have hb:=hasBI (p.int 0)
  have hsA:(szs l).getD (p.int 2).toNat 0+1≤(szs l).getD n 0:=by split at sm<;>(try unfold wH at *)<;>first | omega | (have:=kI l m hm al (p.int 3).toNat (by omega);omega)
  have tA:=txs_size l m hm al (p.int 2).toNat (by omega) (by omega)
  obtain⟨R1,hR1⟩:∃ R1:Reg,R1=⟨ints .u8 (b++xO (jM (p.int 0))++[40]),true,true⟩:=⟨_,rfl⟩
  have hbl:b.length=c:=hy.1
  have q1:c+1≤140737488355328:=by omega
  have q2:c+1+1≤140737488355328:=by omega
  have q3:(b++xO (jM (p.int 0))).length=c+1:=by rw[List.length_append,wV,hbl,L]
  have q4:c+1≤(b++xO (jM (p.int 0))).length:=by omega
  have q5:(b++xO (jM (p.int 0))).take (c+1)=b++xO (jM (p.int 0)):=List.take_of_length_le (by omega)
  simp -implicitDefEqProofs only[↓zP,zQ,↓qC,Nat.reduceLT,Nat.reduceEqDiff,reduceCtorEq,Nat.reduceAdd]
  rw[←hA]
  simp -implicitDefEqProofs only[zQ,k2,k3,r1,qB,rr,List.append_assoc,hset_k,wO,Nat.reduceAdd,xZ,xY]
  try rw[←hB]
  try refine qN rfl cl ?_
  obtain⟨J,hJ⟩:∃ J:qE,J=K++[⟨.ptr (K.length+2) 0 :: ints .u8 (b++xO (jM (p.int 0))),true,false⟩,⟨ints .u8 [40],true,true⟩,⟨ints .u8 (b++(xO (jM (p.int 0))++[40])),true,true⟩]:=⟨_,rfl⟩
  have J1:J.length=H.length+5:=by rw[hJ,List.length_append,hK3];rfl
  have J2:J[K.length+2]?=some ⟨ints .u8 (b++(xO (jM (p.int 0))++[40])),true,true⟩:=by rw[hJ];exact wO K _ 2
  have g1:J[H.length]?=some ⟨[.sl r0 0 l.length 4],true,true⟩:=by rw[hJ];exact f1 _
  have g2:J[H.length+1]?=some ⟨[p.int 0,p.int 1,p.int 2,p.int 3],true,true⟩:=by rw[hJ];exact f2 _
  have g3:J[r0]?=some ⟨rows Rw.cs (l++rest),ow,true⟩:=by rw[hJ];exact f3 _
  have g4:∀ i,i<H.length→NotIn y i→J[i]?=H[i]?:=fun i hi hq=>by rw[hJ];exact f4 i hi hq _
  have r0l:=qP hr0
  have not:∀ (q n i:Nat),i≠q→NotIn (.sl q 0 n 1) i:=fun q n i h r o nn kk e=>by injection e with e1;omega
  obtain⟨qa,Za,za,za1,za2,za3,za4⟩:=ih (p.int 2).toNat hA2 (by omega) (by omega) (H:=J) (y:=.sl (K.length+2) 0 (c+2) 1) (b:=b++(xO (jM (p.int 0))++[40])) (c:=c+2) ⟨by rw[List.length_append,List.length_append,wV,hbl,L];rfl,.inr ⟨_,rfl,J2⟩⟩ (by omega) g3 (not _ _ _ (by omega))
  rw[show (((p.int 2).toNat:Nat):Int)=p.int 2 by omega] at za
  have ga1:=(za4 _ (by omega) (not _ _ _ (by omega))).trans g1
  have ga2:=(za4 _ (by omega) (not _ _ _ (by omega))).trans g2
  have ga3:=(za4 _ (by omega) (not _ _ _ (by omega))).trans g3
  have ga4:∀ i,i<H.length→NotIn y i→Za[i]?=H[i]?:=fun i hi hq=>(za4 _ (by omega) (not _ _ _ (by omega))).trans (g4 i hi hq)
  generalize hta:(txs l).getD (p.int 2).toNat ByteArray.empty=ta at *
  have qal:=qP za2
  have za2':=fun g=>yS Za [g] qa qal
  rw[za2] at za2'
  obtain⟨U,hU⟩:∃ U:List Int,U=b++(xO (jM (p.int 0))++[40])++xO ta:=⟨_,rfl⟩
  have Ul:U.length=c+2+ta.size:=by
   rw[hU,List.length_append,List.length_append,List.length_append,wV,wV,hbl,L]
   rfl
  rw[←hU] at za2 za2'
  have Ut:U.take (c+2+ta.size)=U:=List.take_of_length_le (by omega)
  have u1:c+2+ta.size≤U.length:=by omega
  have u2:c+2+ta.size+1≤140737488355328:=by omega
  have Ut':U.take (c+(2+ta.size))=U:=List.take_of_length_le (by omega)
  have u1':c+(2+ta.size)≤U.length:=by omega
  have u2':c+(2+(ta.size+1))≤140737488355328:=by omega
  simp -implicitDefEqProofs only[↓zP,zQ,Nat.reduceLT,Nat.reduceEqDiff,apx,↓qC,reduceCtorEq,f2,List.append_assoc,yD,wO,hbl,L,Nat.add_assoc,Nat.reduceAdd,q2,hkill_0,q5,f1,h1]
  rw[←hJ]
  try refine qF rfl za ?_
  try simp only[↓zP,zQ,↓qC,Nat.reduceLT,reduceCtorEq,Nat.reduceEqDiff,ga2]
  refine qN rfl hb ?_
  by_cases h2:wH (p.int 0)
  ·rw[decide_eq_true h2]
   rw[if_pos h2] at et sm
   have h2':=h2
   unfold wH at h2'
   have P3:=kI l m hm al (p.int 3).toNat (by omega)
   have hB2:(p.int 3).toNat<n:=by omega
   obtain⟨M,hM⟩:∃ M:qE,M=yG (Za++[⟨ints .u8 [44],true,true⟩]) qa++[⟨ints .u8 (U++[44]),true,true⟩]:=⟨_,rfl⟩
   have M1:M.length=Za.length+2:=by rw[hM,List.length_append,yZ,List.length_append];rfl
   have M2:M[Za.length+1]?=some ⟨ints .u8 (U++[44]),true,true⟩:=by rw[hM];exact kV Za _ qa _
   have mk:=fun i (hi:i<Za.length) (hne:i≠qa)=>at_kk Za ⟨ints .u8 [44],true,true⟩ ⟨ints .u8 (U++[44]),true,true⟩ qa i hi hne
   rw[←hM] at mk
   have m1:=(mk H.length (by omega) (by omega)).trans ga1
   have m2:=(mk (H.length+1) (by omega) (by omega)).trans ga2
   have m3:=(mk r0 (by omega) (by omega)).trans ga3
   have m4:∀ i,i<H.length→NotIn y i→M[i]?=H[i]?:=fun i hi hq=>(mk i (by omega) (by omega)).trans (ga4 i hi hq)
   have tB:=txs_size l m hm al (p.int 3).toNat (by omega) (by omega)
   obtain⟨qb,Zb,zb,zb1,zb2,zb3,zb4⟩:=ih (p.int 3).toNat hB2 (by omega) (by omega) (H:=M) (y:=.sl (Za.length+1) 0 (c+(2+(ta.size+1))) 1) (b:=U++[44]) (c:=c+(2+(ta.size+1))) ⟨by rw[List.length_append,Ul];simp;omega,.inr ⟨_,rfl,M2⟩⟩ (by omega) m3 (not _ _ _ (by omega))
   rw[show (((p.int 3).toNat:Nat):Int)=p.int 3 by omega] at zb
   have gb4:∀ i,i<H.length→NotIn y i→Zb[i]?=H[i]?:=fun i hi hq=>(zb4 _ (by omega) (not _ _ _ (by omega))).trans (m4 i hi hq)
   generalize htb:(txs l).getD (p.int 3).toNat ByteArray.empty=tb at *
   have qbl:=qP zb2
   have zb2':=fun g=>yS Zb [g] qb qbl
   rw[zb2] at zb2'
   obtain⟨V,hV⟩:∃ V:List Int,V=U++[44]++xO tb:=⟨_,rfl⟩
   have Vl:V.length=c+(2+(ta.size+1))+tb.size:=by
    rw[hV,List.length_append,List.length_append,wV,Ul]
    simp
    omega
   rw[←hV] at zb2 zb2'
   have Vt:V.take (c+(2+(ta.size+(1+tb.size))))=V:=List.take_of_length_le (by omega)
   have v1:c+(2+(ta.size+(1+tb.size)))≤V.length:=by omega
   have v2:c+(2+(ta.size+(1+(tb.size+1))))≤140737488355328:=by omega
   simp -implicitDefEqProofs only[↓zP,zQ,Nat.add_assoc,Nat.reduceLT,↓qC,reduceCtorEq,Nat.reduceEqDiff,za2',yD,Ul,u2',Ut',Nat.reduceAdd]
   try rw[←hM]
   try simp only[zQ,m1,m2]
   try refine qF rfl zb ?_
   simp -implicitDefEqProofs only[↓zP,zQ,↓qC,Nat.add_assoc,Nat.reduceLT,Nat.reduceEqDiff,zb2',yD,Vl,v2,Vt,Nat.reduceAdd]
   have hsz:((txs l).getD n ByteArray.empty).size=2+(ta.size+(1+(tb.size+1))):=by
    rw[et]
    simp only[ByteArray.size_append,zt1,zt2,zt3,L]
    omega
   refine⟨Zb.length+1,by rw[hsz],by omega,(kV Zb _ qb _).trans ?_,by omega,fun i hi hq=>(at_kk _ _ _ _ _ (by omega) (by omega)).trans (gb4 i hi hq)⟩
   rw[et,hV,hU]
   simp only[vF,n40,n41,n44,List.append_assoc,List.nil_append]
  ·rw[decide_eq_false h2]
   rw[if_neg h2] at et
   simp -implicitDefEqProofs only[↓zP,zQ,Nat.add_assoc,Nat.reduceLT,↓qC,reduceCtorEq,Nat.reduceEqDiff,za2',yD,Ul,u2',Ut',Nat.reduceAdd]
   have hsz:((txs l).getD n ByteArray.empty).size=2+(ta.size+1):=by
    rw[et]
    simp only[ByteArray.size_append,zt1,zt3,L,ByteArray.size_empty]
    omega
   refine⟨Za.length+1,by rw[hsz],by omega,(kV Za _ qa _).trans ?_,by omega,fun i hi hq=>(at_kk _ _ _ _ _ (by omega) (by omega)).trans (ga4 i hi hq)⟩
   rw[et,hU]
   simp only[vF,n40,n41,n0,List.append_assoc,List.nil_append]
def ShowIs (l:List (Rw qK))(k:Int)(t:ByteArray):Prop:=∃ v,SizeIs l k v∧(((1≤v∧v≤2000)∧t=(txs l).getD k.toNat ByteArray.empty)∨(¬ (1≤v∧v≤2000)∧t=ByteArray.empty))
theorem size_is (l:List (Rw qK))(k:Int):∃ v,SizeIs l k v:=by
 by_cases h:0≤k∧k≤(l.length:Int) - 1
 ·by_cases h2:vL l (k.toNat+1)
  ·exact⟨_,.inr ⟨h,.inl ⟨h2,rfl⟩⟩⟩
  ·exact⟨_,.inr ⟨h,.inr ⟨h2,rfl⟩⟩⟩
 ·exact⟨_,.inl ⟨h,rfl⟩⟩
theorem show_is (l:List (Rw qK))(k:Int):∃ t,ShowIs l k t:=by
 obtain⟨v,hv⟩:=size_is l k
 by_cases h:1≤v∧v≤2000
 ·exact⟨_,v,hv,.inl ⟨h,rfl⟩⟩
 ·exact⟨_,v,hv,.inr ⟨h,rfl⟩⟩
theorem showTS {H:qE}{x:AV}{l:List (Rw qK)}(hx:RdN H x l)(hl:l.length≤1048576)(k:Int)(t:ByteArray)(ht:ShowIs l k t):∃ Z,Sound Tryz.prog 12 [.agg [x],k] H (.sc (.string t)) Z∧Ext H Z:=by
 suffices h:∃ w Z,Sound Tryz.prog 12 [.agg [x],k] H w Z∧w=.sc (.string t)∧Ext H Z by
  obtain⟨w,Z,h1,rfl,h2⟩:=h
  exact⟨Z,h1,h2⟩
 refine zR 13 [.tmp 4] Tryz.func12 ?_
 obtain⟨v,hv,hs⟩:=ht
 obtain⟨A,hA⟩:∃ A:Reg,A={cs:=[x]}:=⟨_,rfl⟩
 have e0:=Ext.more H [A]
 have b0:(H++[A])[H.length]?=some {cs:=[x]}:=by rw[←hA];exact yD H [A]
 obtain⟨Z,z1,z2⟩:=sizeS (hx.ext e0) hl k v hv
 have E:=e0.trans z2
 simp only[↓zP,zQ,↓qC,(hx.one),yD]
 rw[←hA]
 refine qF rfl z1 ?_
 try simp only[↓zP]
 refine qN rfl (inS v 1 2000) ?_
 rcases hs with ⟨h,rfl⟩ | ⟨h,rfl⟩
 ·rw[decide_eq_true h]
  rcases hv with hv | ⟨hk,hv⟩
  ·omega
  rcases hv with ⟨al,hv⟩ | hv
  ·obtain⟨n,rfl⟩:∃ n:Nat,k=n:=⟨k.toNat,by omega⟩
   simp only[Int.toNat_natCast] at *
   obtain⟨Y,y1,y2⟩:=termS hl (n+1) (by omega) al n (by omega) (by omega) (hx.ext E)
   simp only[↓zP,zQ,↓qC,(z2.at b0)]
   refine qF rfl y1 ?_
   simp only[↓zP,zQ]
   exact E.trans y2
  ·omega
 ·rw[decide_eq_false h]
  simp only[↓zP,zQ,↓qC]
  exact⟨rfl,E⟩
theorem showTI {H:qE}{x:AV}{l:List (Rw qK)}(hx:RdN H x l)(hl:l.length≤1048576)(k:Int)(t:ByteArray)(ht:ShowIs l k t):∃ Z,Sound Tryz.prog 11 [.agg [x],k] H (.sc (.string t)) Z∧Ext H Z:=by
 suffices h:∃ w Z,Sound Tryz.prog 11 [.agg [x],k] H w Z∧w=.sc (.string t)∧Ext H Z by
  obtain⟨w,Z,h1,rfl,h2⟩:=h
  exact⟨Z,h1,h2⟩
 refine zR 14 [.tmp 4] Tryz.func11 ?_
 have o:=hx.one
 obtain⟨v,hv,hs⟩:=ht
 obtain⟨A,hA⟩:∃ A:Reg,A={cs:=[x]}:=⟨_,rfl⟩
 have e0:=Ext.more H [A]
 have b0:(H++[A])[H.length]?=some {cs:=[x]}:=by rw[←hA];exact yD H [A]
 obtain⟨Z,z1,z2⟩:=sizeI (hx.ext e0) hl k v hv
 have E:=e0.trans z2
 simp only[↓zP,zQ,↓qC,o,yD]
 rw[←hA]
 refine qF rfl z1 ?_
 try simp only[↓zP]
 refine qN rfl (inI v 1 2000) ?_
 rcases hs with ⟨h,rfl⟩ | ⟨h,rfl⟩
 ·rw[decide_eq_true h]
  rcases hv with hv | ⟨hk,hv⟩
  ·omega
  rcases hv with ⟨al,hv⟩ | hv
  ·obtain⟨n,rfl⟩:∃ n:Nat,k=n:=⟨k.toNat,by omega⟩
   simp only[Int.toNat_natCast] at *
   obtain⟨r0,rest,ow,hxe,hr⟩:=(hx.ext E).get (i:=n) (by omega)
   have hxe:x=.sl r0 0 l.length 4:=hxe
   subst hxe
   obtain⟨q,Y,y1,y2,y3,y4,y5⟩:=bytesI hl (n+1) (by omega) al n (by omega) (by omega) (H:=Z) (y:=.sc (.slice none 0 0)) (b:=[]) (c:=0) ⟨rfl,.inl ⟨rfl,rfl⟩⟩ (by omega) hr (fun r o nn kk e=>by cases e)
   have EY:Ext H Y:=E.trans ⟨y4,fun i hi=>y5 i hi (fun r o nn kk e=>by cases e)⟩
   generalize (txs l).getD n ByteArray.empty=T at *
   rw[List.nil_append] at y3
   rw[Nat.zero_add] at y1
   simp only[↓zP,zQ,↓qC,(z2.at b0)]
   refine qF rfl y1 ?_
   have ts:(xO T).take T.size=xO T:=List.take_of_length_le (by rw[wV];omega)
   simp only[↓zP,zQ,y3,ts,son_nums]
   exact EY
  ·omega
 ·rw[decide_eq_false h]
  simp only[↓zP,zQ,↓qC]
  exact⟨rfl,E⟩
def outT (r:Rw kOut):ByteArray:=(⟨#[111,117,116,32]⟩:ByteArray)++wZ (r.int 0).toNat++(⟨#[32]⟩:ByteArray)++wZ (r.int 1).toNat++(⟨#[32]⟩:ByteArray)++wZ (r.int 2).toNat++(⟨#[32]⟩:ByteArray)++wZ (r.int 4).toNat++(⟨#[10]⟩:ByteArray)
def kF (P:ByteArray)(l:List (Rw kOut)):ByteArray:=l.foldl (fun a r=>a++outT r) P
def uY (l:List (Rw kSess)):Nat:=(l.filter fun r=>decide (r.int 2=2)).length
def kZ (l:List (Rw kSess))(dr:Int):ByteArray:=(⟨#[103,97,116,101,32]⟩:ByteArray)++wZ l.length++(⟨#[32,111,112,101,110,32]⟩:ByteArray)++wZ (uY l)++(⟨#[32,100,114,111,112,115,32]⟩:ByteArray)++wZ dr.toNat++(⟨#[10]⟩:ByteArray)
theorem y4:((⟨#[111,117,116,32]⟩:ByteArray)).size=4:=rfl
theorem y1:((⟨#[32]⟩:ByteArray)).size=1:=rfl
theorem yn:((⟨#[10]⟩:ByteArray)).size=1:=rfl
theorem yg:((⟨#[103,97,116,101,32]⟩:ByteArray)).size=5:=rfl
theorem yo:((⟨#[32,111,112,101,110,32]⟩:ByteArray)).size=6:=rfl
theorem yd:((⟨#[32,100,114,111,112,115,32]⟩:ByteArray)).size=7:=rfl
theorem kE (r:Rw kOut)(j:Nat)(h:kOut[j]?=some (.i .i64)):r.int j≤9223372036854775807:=wf_le (r.int_at j h).2
theorem outT_size (r:Rw kOut):(outT r).size≤88:=by
 have d0:=yM (r.int 0).toNat (by have:=kE r 0 rfl;omega)
 have d1:=yM (r.int 1).toNat (by have:=kE r 1 rfl;omega)
 have d2:=yM (r.int 2).toNat (by have:=kE r 2 rfl;omega)
 have d4:=yM (r.int 4).toNat (by have:=kE r 4 rfl;omega)
 simp only[outT,ByteArray.size_append,y4,y1,yn]
 omega
theorem outsT_size (P:ByteArray):∀ l:List (Rw kOut),(kF P l).size≤P.size+88*l.length:=by
 intro l
 induction l generalizing P with
 | nil=>exact Nat.le_refl _
 | cons r l ih =>
  have:=ih (P++outT r)
  have h:=outT_size r
  simp only[kF,List.foldl_cons,List.length_cons,ByteArray.size_append] at *
  omega
theorem outsT_s (P:ByteArray)(l:List (Rw kOut))(i:Nat)(r:Rw kOut)(h:l[i]?=some r):kF P (l.take (i+1))=kF P (l.take i)++outT r:=by
 simp only[kF,List.take_add_one,h,List.foldl_append]
 rfl
theorem openN_s (l:List (Rw kSess))(i:Nat)(r:Rw kSess)(h:l[i]?=some r):uY (l.take (i+1))=uY (l.take i)+(if r.int 2=2 then 1 else 0):=by
 simp only[uY,List.take_add_one,h,List.filter_append,List.length_append]
 congr 1
 by_cases e:r.int 2=2<;>simp[e]
theorem openN_le (l:List (Rw kSess)):uY l≤l.length:=List.length_filter_le _ _
theorem gateH_size (l:List (Rw kSess))(dr:Int)(hl:l.length≤1048576)(hd:dr≤9223372036854775807):(kZ l dr).size≤100:=by
 have d0:=yM l.length (by omega)
 have d1:=yM (uY l) (by have:=openN_le l;omega)
 have d2:=yM dr.toNat (by omega)
 simp only[kZ,ByteArray.size_append,yg,yo,yd,yn]
 omega
theorem outCs (r:Rw kOut):r.cs=[.sc (.int .i64 (r.int 0)),.sc (.int .i64 (r.int 1)),.sc (.int .i64 (r.int 2)),.sc (.int .i64 (r.int 3)),.sc (.int .i64 (r.int 4))]:=by
 have e0:=(r.int_at 0 (k:=.i64) rfl).1
 have e1:=(r.int_at 1 (k:=.i64) rfl).1
 have e2:=(r.int_at 2 (k:=.i64) rfl).1
 have e3:=(r.int_at 3 (k:=.i64) rfl).1
 have e4:=(r.int_at 4 (k:=.i64) rfl).1
 have hl:=r.cs_len
 generalize r.cs=z at *
 match z,hl with
 | [x0,x1,x2,x3,x4],_ =>
  simp only[List.getElem?_cons_zero,List.getElem?_cons_succ,Option.some.injEq] at e0 e1 e2 e3 e4
  rw[e0,e1,e2,e3,e4]
theorem rd_prtG {α:Type}{f:α→List AV}{m:Nat}(h:Enc f m){l:List α}{i j n:Nat}{a:α}(ha:l[i]?=some a)(hj:j+n≤m)(own:Bool):jG true true n (some ⟨rows f l,own,true⟩) (i*m+j)=some (.agg (((f a).drop j).take n)):=by
 obtain⟨h1,h2⟩:=wL h l i a ha
 have hd:((rows f l).drop (i*m+j)).take n=((f a).drop j).take n:=by
  rw[h1,List.drop_append,List.drop_of_length_le (by omega),h2,Nat.add_sub_cancel_left,List.nil_append,List.drop_append_of_le_length (by rw[h.len];omega),List.take_append_of_le_length (by rw[List.length_drop,h.len];omega)]
 simp only[jG,if_true,true_and,(by rw[h1,List.length_append,List.length_append,h2,h.len];omega:i*m+j+n≤(rows f l).length),hd]
theorem showGateS {H:qE}{x1 x2 x3 x4:AV}{l1:List (Rw kSess)}{l4:List (Rw kOut)}(n nx dr:Int)(h1:IsR H x1 l1)(o2:x2.cells=[x2]∧x2.one=true)(o3:x3.cells=[x3]∧x3.one=true)(h4:IsR H x4 l4)
  (b1:l1.length≤1048576) (b4:l4.length≤1048576) (hd:dr≤9223372036854775807) :
  ∃ (Z:qE),Sound Tryz.prog 16 [.agg [n,nx,x1,x2,x3,x4,dr]] H (.sc (.string (kF (kZ l1 dr) l4))) Z∧Ext H Z:=by
 suffices h:∃ v Z,Sound Tryz.prog 16 [.agg [n,nx,x1,x2,x3,x4,dr]] H v Z∧v=.sc (.string (kF (kZ l1 dr) l4))∧Ext H Z by
  obtain⟨v,Z,h1,rfl,h2⟩:=h
  exact⟨Z,h1,h2⟩
 refine zR 79 [.tmp 2] Tryz.func16 ?_
 have l1':=fun e=>h1.len e
 have l4':=fun e=>h4.len e
 obtain⟨A,hA⟩:∃ A:Reg,A=⟨[n,nx,x1,x2,x3,x4,dr],true,true⟩:=⟨_,rfl⟩
 have e0:=Ext.more H [A]
 have b0:(H++[A])[H.length]?=some ⟨[n,nx,x1,x2,x3,x4,dr],true,true⟩:=by rw[←hA];exact yD H [A]
 have m4:=e0.isR h4
 have hop:=openN_le l1
 simp only[↓zP,zQ,↓qC,Nat.reduceLT,(h1.one),o2,o3,(h4.one)]
 rw[←hA]
 refine yL (ι:=Nat) (fun i s=>∃ T:Nat→AV,s=⟨qY 79 T,H++[A]⟩∧i≤l1.length∧T 1=.ptr H.length 0∧T 3=.sc (.int .i64 (uY (l1.take i)))∧T 4=.sc (.int .i64 i)) (fun i=>l1.length - i) ?_ (i:=0) ?_
 ·rintro i s ⟨T,rfl,a1,a2,a3,a4⟩
  by_cases h:i<l1.length
  ·have k1:(i:Int)<l1.length:=by omega
   have k2:(0:Int)≤i:=by omega
   have e1:IntKind.i64.wrap ((i:Int)+1)=i+1:=w64 (by omega) (by omega)
   have hot:=openN_le (l1.take i)
   rw[List.length_take] at hot
   have e2:IntKind.i64.wrap ((uY (l1.take i):Int)+1)=((uY (l1.take i)+1:Nat):Int):=by rw[w64 (by omega) (by omega)];omega
   obtain⟨r,o,hx,hr⟩:=(e0.isR h1).get h
   subst hx
   have ha:l1[i]?=some l1[i]:=List.getElem?_eq_getElem h
   generalize l1[i]=p at ha
   have on:=openN_s l1 i p ha
   have rc:=fun (o:Bool)(k:Nat)=>(qX yK (k:=k) ha (j:=2) (by decide) o).trans (p.int_at 2 rfl).1
   have kl:kSess.length=20:=rfl
   by_cases hp:p.int 2=2
   ·rw[if_pos hp] at on
    simp only[↓zP,zQ,↓qC,Nat.reduceLT,a4,Nat.reduceEqDiff,a2,a3,e2,e1,b0,kl,k2,k1,qB,hr,rc,hp]
    refine⟨i+1,by omega,_,rfl,by omega,?_,?_,?_⟩<;>simp only[zQ,Nat.reduceEqDiff,a2,on]<;>rfl
   ·rw[if_neg hp] at on
    simp only[↓zP,zQ,↓qC,Nat.reduceLT,a4,Nat.reduceEqDiff,a2,a3,e2,e1,b0,kl,k2,k1,qB,hr,rc,hp]
    refine⟨i+1,by omega,_,rfl,by omega,?_,?_,?_⟩<;>simp only[zQ,Nat.reduceEqDiff,a2,a3,on]<;>rfl
  ·have k1:¬ (i:Int)<l1.length:=by omega
   have hi:i=l1.length:=by omega
   rw[hi,List.take_length] at a3
   have c1:=decS l1.length (by omega)
   have c2:=decS (uY l1) (by omega)
   have c3:=numS dr hd
   have s1:=yM l1.length (by omega)
   have s2:=yM (uY l1) (by omega)
   have s3:=yM dr.toNat (by omega)
   simp only[↓zP,zQ,↓qC,Nat.reduceLT,a4,Nat.reduceEqDiff,a2,a3,b0,l1',k1]
   refine zD [(1,0),(11,0),(11,4),(11,8)] ?_
   simp only[↓zP,zQ,Nat.reduceLT,Nat.reduceEqDiff,a2,b0,l1']
   refine qN rfl c1 ?_
   simp only[↓zP,zQ,Nat.reduceLT,Nat.reduceEqDiff,a3]
   refine⟨by (simp only[ByteArray.size_append,y4,y1,yn,yg,yo,yd];omega),by (simp only[ByteArray.size_append,y4,y1,yn,yg,yo,yd];omega),?_⟩
   refine qN rfl c2 ?_
   simp only[↓zP,zQ,Nat.reduceLT,Nat.reduceEqDiff,a2,b0]
   refine⟨by (simp only[ByteArray.size_append,y4,y1,yn,yg,yo,yd];omega),by (simp only[ByteArray.size_append,y4,y1,yn,yg,yo,yd];omega),?_⟩
   refine qN rfl c3 ?_
   simp only[↓zP,zQ,Nat.reduceLT,Nat.reduceEqDiff,↓qC]
   refine⟨by (simp only[ByteArray.size_append,y4,y1,yn,yg,yo,yd];omega),by (simp only[ByteArray.size_append,y4,y1,yn,yg,yo,yd];omega),?_⟩
   refine⟨qI (yC rfl) (qI (yC rfl) (qI (yC rfl) (qI (yC rfl) (qH)))),?_⟩
   have hG:kZ l1 dr=(⟨#[103,97,116,101,32]⟩:ByteArray)++wZ l1.length++(⟨#[32,111,112,101,110,32]⟩:ByteArray)++wZ (uY l1)++(⟨#[32,100,114,111,112,115,32]⟩:ByteArray)++wZ dr.toNat++(⟨#[10]⟩:ByteArray):=rfl
   rw[←hG]
   have gs:=gateH_size l1 dr b1 hd
   generalize kZ l1 dr=P at gs
   clear hG
   refine yL (ι:=Nat) (fun i s=>∃ (T:Nat→AV)(G:qE),s=⟨qY 79 T,G⟩∧Ext (H++[A]) G∧i≤l4.length∧T 1=.ptr H.length 0∧T 5=.sc (.string (kF P (l4.take i)))∧T 6=.sc (.int .i64 i)) (fun i=>l4.length - i) ?_ (i:=0) ?_
   ·rintro i s ⟨T,G,rfl,eG,a1,a2,a3,a4⟩
    have b0:=eG.at b0
    have m4:=eG.isR m4
    by_cases h:i<l4.length
    ·have k1:(i:Int)<l4.length:=by omega
     have k2:(0:Int)≤i:=by omega
     have e1:IntKind.i64.wrap ((i:Int)+1)=i+1:=w64 (by omega) (by omega)
     obtain⟨r,o,hx,hr⟩:=m4.get h
     subst hx
     have ha:l4[i]?=some l4[i]:=List.getElem?_eq_getElem h
     generalize l4[i]=p at ha
     have on:=outsT_s P l4 i p ha
     have rc:=fun (o:Bool)(k:Nat)=>(qX jX (k:=k) ha (j:=0) (by decide) o).trans (p.int_at 0 rfl).1
     have rp:=fun (o:Bool)=>rd_prtG jX ha (j:=1) (n:=4) (by decide) o
     rw[outCs p] at rp
     simp only[List.drop_succ_cons,List.drop_zero,List.take_succ_cons,List.take_zero] at rp
     have kl:kOut.length=5:=rfl
     have c0:=numS (p.int 0) (kE p 0 rfl)
     have c1:=numS (p.int 1) (kE p 1 rfl)
     have c2:=numS (p.int 2) (kE p 2 rfl)
     have c4:=numS (p.int 4) (kE p 4 rfl)
     have s0:=yM (p.int 0).toNat (by have:=kE p 0 rfl;omega)
     have s1:=yM (p.int 1).toNat (by have:=kE p 1 rfl;omega)
     have s2:=yM (p.int 2).toNat (by have:=kE p 2 rfl;omega)
     have s4:=yM (p.int 4).toNat (by have:=kE p 4 rfl;omega)
     have so:=outsT_size P (l4.take i)
     rw[List.length_take] at so
     have rlt:=qP hr
     have nlt:=qP b0
     have hr':=fun g=>yS G [g] r rlt
     have b0':=fun g=>yS G [g] H.length nlt
     rw[hr] at hr'
     rw[b0] at b0'
     simp -implicitDefEqProofs only[↓zP,zQ,↓qC,Nat.reduceLT,a4,Nat.reduceEqDiff,a2,Nat.reduceAdd,b0,kl,k2,k1,qB,hr,rp,a3]
     refine zD [(3,0),(7,0),(12,0),(12,9),(17,0),(17,9),(17,14),(22,0),(22,9),(22,14),(22,19)] ?_
     simp only[↓zP,zQ,kY,Nat.reduceLT,Nat.reduceEqDiff,a3,a2,a4,b0',kl,k2,k1,qB,hr',rc]
     refine⟨by (simp only[ByteArray.size_append,y4,y1,yn,yg,yo,yd];omega),?_⟩
     try simp only[xZ,xY]
     refine qN rfl c0 ?_
     simp only[↓zP,zQ,Nat.reduceLT,Nat.reduceEqDiff,yD]
     refine⟨by (simp only[ByteArray.size_append,y4,y1,yn,yg,yo,yd];omega),by (simp only[ByteArray.size_append,y4,y1,yn,yg,yo,yd];omega),?_⟩
     refine qN rfl c1 ?_
     simp only[↓zP,zQ,Nat.reduceLT,Nat.reduceEqDiff,yD]
     refine⟨by (simp only[ByteArray.size_append,y4,y1,yn,yg,yo,yd];omega),by (simp only[ByteArray.size_append,y4,y1,yn,yg,yo,yd];omega),?_⟩
     refine qN rfl c2 ?_
     simp only[↓zP,zQ,Nat.reduceLT,Nat.reduceEqDiff,yD]
     refine⟨by (simp only[ByteArray.size_append,y4,y1,yn,yg,yo,yd];omega),by (simp only[ByteArray.size_append,y4,y1,yn,yg,yo,yd];omega),?_⟩
     refine qN rfl c4 ?_
     simp only[↓zP,zQ,Nat.reduceLT,Nat.reduceEqDiff,a4]
     refine⟨by (simp only[ByteArray.size_append,y4,y1,yn,yg,yo,yd];omega),by (simp only[ByteArray.size_append,y4,y1,yn,yg,yo,yd];omega),?_⟩
     refine⟨qI (yC rfl) (qI (yC rfl) (qI (yC rfl) (qI (yC rfl) (qI (yC rfl) (qI (yC rfl) (qI (yC rfl) (qI (yC rfl) (qI (yC rfl) (qI (yC rfl) (qI (yC rfl) (qH))))))))))),?_⟩
     have on':kF P (l4.take i)++(⟨#[111,117,116,32]⟩:ByteArray)++wZ (p.int 0).toNat++(⟨#[32]⟩:ByteArray)++wZ (p.int 1).toNat++(⟨#[32]⟩:ByteArray)++wZ (p.int 2).toNat++(⟨#[32]⟩:ByteArray)++wZ (p.int 4).toNat++(⟨#[10]⟩:ByteArray)=kF P (l4.take (i+1)):=by
      rw[on]
      simp only[outT,ByteArray.append_assoc]
     rw[on']
     simp only[e1]
     refine⟨i+1,by omega,_,_,rfl,eG.add _,by omega,?_,?_,?_⟩<;>simp only[zQ,Nat.reduceEqDiff,a2]<;>rfl
    ·have k1:¬ (i:Int)<l4.length:=by omega
     have hi:i=l4.length:=by omega
     rw[hi,List.take_length] at a3
     simp -implicitDefEqProofs only[↓zP,zQ,↓qC,Nat.reduceLT,a4,Nat.reduceEqDiff,a2,Nat.reduceAdd,b0,a3,l4',k1]
     exact e0.trans eG
   ·refine⟨_,_,rfl,.refl _,by omega,?_,?_,?_⟩<;>simp only[zQ,Nat.reduceEqDiff,a2]<;>rfl
 ·refine⟨_,rfl,by omega,?_,?_,?_⟩<;>simp only[zQ,Nat.reduceEqDiff]<;>rfl
theorem showGateI {H:qE}{x1 x2 x3 x4:AV}{l1:List (Rw kSess)}{l4:List (Rw kOut)}(n nx dr:Int)(h1:IsR H x1 l1)(o2:x2.cells=[x2]∧x2.one=true)(o3:x3.cells=[x3]∧x3.one=true)(h4:IsR H x4 l4)
  (b1:l1.length≤1048576) (b4:l4.length≤1048576) (hd:dr≤9223372036854775807) :
  ∃ (Z:qE),Sound Tryz.prog 15 [.agg [n,nx,x1,x2,x3,x4,dr]] H (.sc (.string (kF (kZ l1 dr) l4))) Z∧Ext H Z:=by
 suffices h:∃ v Z,Sound Tryz.prog 15 [.agg [n,nx,x1,x2,x3,x4,dr]] H v Z∧v=.sc (.string (kF (kZ l1 dr) l4))∧Ext H Z by
  obtain⟨v,Z,h1,rfl,h2⟩:=h
  exact⟨Z,h1,h2⟩
 refine zR 71 [.tmp 2] Tryz.func15 ?_
 have l1':=fun e=>h1.len e
 have l4':=fun e=>h4.len e
 obtain⟨A,hA⟩:∃ A:Reg,A=⟨[n,nx,x1,x2,x3,x4,dr],true,true⟩:=⟨_,rfl⟩
 have e0:=Ext.more H [A]
 have b0:(H++[A])[H.length]?=some ⟨[n,nx,x1,x2,x3,x4,dr],true,true⟩:=by rw[←hA];exact yD H [A]
 have m1:=e0.isR h1
 have m4:=e0.isR h4
 have hop:=openN_le l1
 simp only[↓zP,zQ,↓qC,Nat.reduceLT,Nat.reduceEqDiff,(h1.one),o2,o3,(h4.one),l1']
 rw[←hA]
 refine yL (ι:=Nat) (fun i s=>∃ (T:Nat→AV)(G:qE),s=⟨qY 71 T,G⟩∧Ext (H++[A]) G∧i≤l1.length∧T 1=.ptr H.length 0∧T 3=.sc (.int .i64 (uY (l1.take i)))∧T 11=x1∧T 12=.sc (.int .i64 l1.length)∧T 13=.sc (.int .i64 i)) (fun i=>l1.length - i) ?_ (i:=0) ?_
 ·rintro i s ⟨T,G,rfl,eG,a1,a2,a3,a5,a6,a4⟩
  have b0:=eG.at b0
  have m1:=eG.isR m1
  by_cases h:i<l1.length
  ·have k1:(i:Int)<l1.length:=by omega
   have k2:(0:Int)≤i:=by omega
   have e1:IntKind.i64.wrap ((i:Int)+1)=i+1:=w64 (by omega) (by omega)
   have hot:=openN_le (l1.take i)
   rw[List.length_take] at hot
   have e2:IntKind.i64.wrap ((uY (l1.take i):Int)+1)=((uY (l1.take i)+1:Nat):Int):=by rw[w64 (by omega) (by omega)];omega
   obtain⟨r,o,hx,hr⟩:=m1.get h
   have ha:l1[i]?=some l1[i]:=List.getElem?_eq_getElem h
   generalize l1[i]=p at ha
   have on:=openN_s l1 i p ha
   have rr:=xD yK ha
   rw[csSess p] at rr
   have kl:kSess.length=20:=rfl
   by_cases hp:p.int 2=2
   ·rw[if_pos hp] at on
    simp -implicitDefEqProofs only[↓zP,zQ,↓qC,hx,kl,Nat.reduceLT,a4,a6,k1,Nat.reduceEqDiff,a5,k2,qB,zero65,a3,e2,e1,yD,Nat.reduceAdd,kY,hr,rr,hp,xZ,xY]
    refine⟨i+1,by omega,_,_,rfl,eG.add _,by omega,?_,?_,?_,?_,?_⟩<;>simp only[zQ,Nat.reduceEqDiff,a2,on,a5,hx,kl,a6]<;>rfl
   ·rw[if_neg hp] at on
    simp -implicitDefEqProofs only[↓zP,zQ,↓qC,hx,kl,Nat.reduceLT,a4,a6,k1,Nat.reduceEqDiff,a5,k2,qB,zero65,a3,e2,e1,yD,Nat.reduceAdd,kY,hr,rr,xZ,xY,hp]
    refine⟨i+1,by omega,_,_,rfl,eG.add _,by omega,?_,?_,?_,?_,?_⟩<;>simp only[zQ,Nat.reduceEqDiff,a2,a3,on,a5,hx,kl,a6]<;>rfl
  ·have k1:¬ (i:Int)<l1.length:=by omega
   have hi:i=l1.length:=by omega
   rw[hi,List.take_length] at a3
   have c1:=toldI l1.length (by omega)
   have c2:=toldI (uY l1) (by omega)
   have c3:=toldI dr hd
   simp only[Int.toNat_natCast] at c1 c2
   have s1:=yM l1.length (by omega)
   have s2:=yM (uY l1) (by omega)
   have s3:=yM dr.toNat (by omega)
   simp only[↓zP,zQ,↓qC,Nat.reduceLT,a4,a6,k1,Nat.reduceEqDiff,a5,a3]
   refine zD [(1,0),(11,0),(11,4),(11,8)] ?_
   simp only[↓zP,zQ,Nat.reduceLT,Nat.reduceEqDiff,a2,b0,l1']
   refine qN rfl c1 ?_
   simp only[↓zP,zQ,Nat.reduceLT,Nat.reduceEqDiff,a3]
   refine⟨by (simp only[ByteArray.size_append,y4,y1,yn,yg,yo,yd];omega),by (simp only[ByteArray.size_append,y4,y1,yn,yg,yo,yd];omega),?_⟩
   refine qN rfl c2 ?_
   simp only[↓zP,zQ,Nat.reduceLT,Nat.reduceEqDiff,a2,b0]
   refine⟨by (simp only[ByteArray.size_append,y4,y1,yn,yg,yo,yd];omega),by (simp only[ByteArray.size_append,y4,y1,yn,yg,yo,yd];omega),?_⟩
   refine qN rfl c3 ?_
   simp only[↓zP,zQ,Nat.reduceLT,Nat.reduceEqDiff,↓qC,a2,b0]
   refine⟨by (simp only[ByteArray.size_append,y4,y1,yn,yg,yo,yd];omega),by (simp only[ByteArray.size_append,y4,y1,yn,yg,yo,yd];omega),?_⟩
   refine⟨qI (yC rfl) (qI (yC rfl) (qI (yC rfl) (qI (yC rfl) (qH)))),?_⟩
   have hG:kZ l1 dr=(⟨#[103,97,116,101,32]⟩:ByteArray)++wZ l1.length++(⟨#[32,111,112,101,110,32]⟩:ByteArray)++wZ (uY l1)++(⟨#[32,100,114,111,112,115,32]⟩:ByteArray)++wZ dr.toNat++(⟨#[10]⟩:ByteArray):=rfl
   rw[←hG]
   have gs:=gateH_size l1 dr b1 hd
   generalize kZ l1 dr=P at gs
   clear hG
   try simp only[zQ,l4']
   refine yL (ι:=Nat) (fun i s=>∃ (T:Nat→AV)(G:qE),s=⟨qY 71 T,G⟩∧Ext (H++[A]) G∧i≤l4.length∧T 6=.sc (.string (kF P (l4.take i)))∧T 39=x4∧T 40=.sc (.int .i64 l4.length)∧T 41=.sc (.int .i64 i)) (fun i=>l4.length - i) ?_ (i:=0) ?_
   ·rintro i s ⟨T,G,rfl,eG,a1,a3,a5,a6,a4⟩
    have m4:=eG.isR m4
    by_cases h:i<l4.length
    ·have k1:(i:Int)<l4.length:=by omega
     have k2:(0:Int)≤i:=by omega
     have e1:IntKind.i64.wrap ((i:Int)+1)=i+1:=w64 (by omega) (by omega)
     obtain⟨r,o,hx,hr⟩:=m4.get h
     have ha:l4[i]?=some l4[i]:=List.getElem?_eq_getElem h
     generalize l4[i]=p at ha
     have on:=outsT_s P l4 i p ha
     have rr:=xD jX ha
     rw[csOut p] at rr
     have kl:kOut.length=5:=rfl
     have c0:=toldI (p.int 0) (kE p 0 rfl)
     have c1:=toldI (p.int 1) (kE p 1 rfl)
     have c2:=toldI (p.int 2) (kE p 2 rfl)
     have c4:=toldI (p.int 4) (kE p 4 rfl)
     have s0:=yM (p.int 0).toNat (by have:=kE p 0 rfl;omega)
     have s1:=yM (p.int 1).toNat (by have:=kE p 1 rfl;omega)
     have s2:=yM (p.int 2).toNat (by have:=kE p 2 rfl;omega)
     have s4:=yM (p.int 4).toNat (by have:=kE p 4 rfl;omega)
     have so:=outsT_size P (l4.take i)
     rw[List.length_take] at so
     have ot:=outT_size p
     simp -implicitDefEqProofs only[↓zP,zQ,↓qC,hx,kl,Nat.reduceLT,a4,a6,k1,Nat.reduceEqDiff,a5,k2,qB,yD,Nat.reduceAdd,kY,List.append_assoc,hr,rr,xZ,xY,a3]
     refine zD [(2,0),(7,0),(7,4),(12,0),(12,4),(12,9),(17,0),(17,4),(17,9),(17,14)] ?_
     simp only[↓zP,zQ,Nat.reduceLT,Nat.reduceEqDiff,a3,yD]
     refine qN rfl c0 ?_
     simp only[↓zP,zQ,Nat.reduceLT,Nat.reduceEqDiff,wO]
     refine⟨by (simp only[ByteArray.size_append,y4,y1,yn,yg,yo,yd];omega),by (simp only[ByteArray.size_append,y4,y1,yn,yg,yo,yd];omega),?_⟩
     refine qN rfl c1 ?_
     simp only[↓zP,zQ,Nat.reduceLT,Nat.reduceEqDiff,wO]
     refine⟨by (simp only[ByteArray.size_append,y4,y1,yn,yg,yo,yd];omega),by (simp only[ByteArray.size_append,y4,y1,yn,yg,yo,yd];omega),?_⟩
     refine qN rfl c2 ?_
     simp only[↓zP,zQ,Nat.reduceLT,Nat.reduceEqDiff,wO]
     refine⟨by (simp only[ByteArray.size_append,y4,y1,yn,yg,yo,yd];omega),by (simp only[ByteArray.size_append,y4,y1,yn,yg,yo,yd];omega),?_⟩
     refine qN rfl c4 ?_
     simp only[↓zP,zQ,Nat.reduceLT,Nat.reduceEqDiff]
     refine⟨by (simp only[ByteArray.size_append,y4,y1,yn,yg,yo,yd];omega),by (simp only[ByteArray.size_append,y4,y1,yn,yg,yo,yd];omega),by (simp only[ByteArray.size_append,y4,y1,yn,yg,yo,yd];omega),?_⟩
     refine⟨qI (yC rfl) (qI (yC rfl) (qI (yC rfl) (qI (yC rfl) (qI (yC rfl) (qI (yC rfl) (qI (yC rfl) (qI (yC rfl) (qI (yC rfl) (qI (yC rfl) (qH)))))))))),?_⟩
     have on':kF P (l4.take i)++((⟨#[111,117,116,32]⟩:ByteArray)++wZ (p.int 0).toNat++(⟨#[32]⟩:ByteArray)++wZ (p.int 1).toNat++(⟨#[32]⟩:ByteArray)++wZ (p.int 2).toNat++(⟨#[32]⟩:ByteArray)++wZ (p.int 4).toNat++(⟨#[10]⟩:ByteArray))=kF P (l4.take (i+1)):=on.symm
     rw[on']
     simp only[zQ,a4,e1]
     refine⟨i+1,by omega,_,_,rfl,eG.add _,by omega,?_,?_,?_,?_⟩<;>simp only[zQ,Nat.reduceEqDiff,a5,hx,kl,a6]<;>rfl
    ·have k1:¬ (i:Int)<l4.length:=by omega
     have hi:i=l4.length:=by omega
     rw[hi,List.take_length] at a3
     simp -implicitDefEqProofs only[↓zP,zQ,↓qC,Nat.reduceLT,a4,a6,k1,Nat.reduceEqDiff,a5,Nat.reduceAdd,a3]
     exact e0.trans eG
   ·refine⟨_,_,rfl,eG,by omega,?_,?_,?_,?_⟩<;>simp only[zQ,Nat.reduceEqDiff]<;>rfl
 ·refine⟨_,_,rfl,.refl _,by omega,?_,?_,?_,?_,?_⟩<;>simp only[zQ,Nat.reduceEqDiff]<;>rfl
structure Cl where
 n:Int
 g:Int
 m:Int
 s:Int
 d:Int
 k:Bool
 h:Int
 sd:Int
 hd:Int
 la:Int
 le:Int
 c0:Int
 c1:Int
 c2:Int
 c3:Int
 c4:Int
 c5:Int
 c6:Int
 c7:Int
 c8:Int
 du:Int
 w:Int
 t:Int
def Cl.cs (c:Cl):List AV:=[.sc (.int .i64 c.n),.sc (.int .i64 c.g),.sc (.int .i64 c.m),.sc (.int .i64 c.s),.sc (.int .i64 c.d),.sc (.bool c.k),.sc (.int .i64 c.h),.sc (.int .i64 c.sd),.sc (.int .i64 c.hd),.sc (.int .i64 c.la),.sc (.int .i64 c.le),.sc (.int .i64 c.c0),.sc (.int .i64 c.c1),.sc (.int .i64 c.c2),.sc (.int .i64 c.c3),.sc (.int .i64 c.c4),.sc (.int .i64 c.c5),.sc (.int .i64 c.c6),.sc (.int .i64 c.c7),.sc (.int .i64 c.c8),.sc (.int .i64 c.du),.sc (.int .i64 c.w),.sc (.int .i64 c.t)]
theorem Cl.flat (c:Cl):Flat (.agg c.cs):=.agg fun a ha=>by
 simp only[Cl.cs,List.mem_cons,List.not_mem_nil,or_false] at ha
 rcases ha with rfl | rfl | rfl | rfl | rfl | rfl | rfl | rfl | rfl | rfl | rfl | rfl | rfl | rfl | rfl | rfl | rfl | rfl | rfl | rfl | rfl | rfl | rfl<;>exact .sc _
def stT (s:Int):ByteArray:=if 0≤s∧s≤4 then [(⟨#[105,100,108,101]⟩:ByteArray),(⟨#[104,101,108,108,111]⟩:ByteArray),(⟨#[119,104,111]⟩:ByteArray),(⟨#[111,112,101,110]⟩:ByteArray),(⟨#[102,97,105,108,101,100]⟩:ByteArray)].getD s.toNat ByteArray.empty else (⟨#[63]⟩:ByteArray)
theorem stT_size (s:Int):(stT s).size≤6:=by
 unfold stT
 split
 ·exact(by decide:∀ j<5,(([(⟨#[105,100,108,101]⟩:ByteArray),(⟨#[104,101,108,108,111]⟩:ByteArray),(⟨#[119,104,111]⟩:ByteArray),(⟨#[111,112,101,110]⟩:ByteArray),(⟨#[102,97,105,108,101,100]⟩:ByteArray)]:List ByteArray).getD j ByteArray.empty).size≤6) _ (by omega)
 ·decide
def cliT (c:Cl):ByteArray:=(⟨#[99,108,105,101,110,116,32]⟩:ByteArray)++wZ c.n.toNat++(⟨#[32]⟩:ByteArray)++stT c.s++(⟨#[32]⟩:ByteArray)++wZ c.le.toNat++(⟨#[10]⟩:ByteArray)
theorem cliT_size (c:Cl)(h1:c.n≤9223372036854775807)(h2:c.le≤9223372036854775807):(cliT c).size≤60:=by
 have:=yM c.n.toNat (by omega)
 have:=yM c.le.toNat (by omega)
 have:=stT_size c.s
 unfold cliT
 simp only[ByteArray.size_append]
 have e1:((⟨#[99,108,105,101,110,116,32]⟩:ByteArray)).size=7:=rfl
 have e2:((⟨#[32]⟩:ByteArray)).size=1:=rfl
 have e3:((⟨#[10]⟩:ByteArray)).size=1:=rfl
 omega
theorem z7:((⟨#[99,108,105,101,110,116,32]⟩:ByteArray)).size=7:=rfl
theorem z1:((⟨#[32]⟩:ByteArray)).size=1:=rfl
theorem zn:((⟨#[10]⟩:ByteArray)).size=1:=rfl
theorem zq:((⟨#[63]⟩:ByteArray)).size=1:=rfl
theorem showCliI (c:Cl)(h1:c.n≤9223372036854775807)(h2:c.le≤9223372036854775807):Fn Tryz.prog 13 [.agg c.cs] (.sc (.string (cliT c))):=by
 refine Fn.run 25 [.tmp 2] Tryz.func13 rfl rfl rfl rfl (by simp) (qV c.flat yV) (.sc _) ?_
 have hcs:c.cs=[.sc (.int .i64 c.n),.sc (.int .i64 c.g),.sc (.int .i64 c.m),.sc (.int .i64 c.s),.sc (.int .i64 c.d),.sc (.bool c.k),.sc (.int .i64 c.h),.sc (.int .i64 c.sd),.sc (.int .i64 c.hd),.sc (.int .i64 c.la),.sc (.int .i64 c.le),.sc (.int .i64 c.c0),.sc (.int .i64 c.c1),.sc (.int .i64 c.c2),.sc (.int .i64 c.c3),.sc (.int .i64 c.c4),.sc (.int .i64 c.c5),.sc (.int .i64 c.c6),.sc (.int .i64 c.c7),.sc (.int .i64 c.c8),.sc (.int .i64 c.du),.sc (.int .i64 c.w),.sc (.int .i64 c.t)]:=rfl
 rw[hcs]
 have d1:=yM c.n.toNat (by omega)
 have d2:=yM c.le.toNat (by omega)
 have d3:=stT_size c.s
 have t1:=toldI c.n h1
 have t2:=toldI c.le h2
 simp only[↓zP,zQ,↓qC,Nat.reduceLT,Nat.reduceEqDiff]
 refine qN rfl (inI c.s 0 4) ?_
 by_cases h:0≤c.s∧c.s≤4
 ·have hd:decide (0≤c.s∧c.s≤4)=true:=decide_eq_true h
  rw[hd]
  have hst:stT c.s=[(⟨#[105,100,108,101]⟩:ByteArray),(⟨#[104,101,108,108,111]⟩:ByteArray),(⟨#[119,104,111]⟩:ByteArray),(⟨#[111,112,101,110]⟩:ByteArray),(⟨#[102,97,105,108,101,100]⟩:ByteArray)].getD c.s.toNat ByteArray.empty:=by rw[stT,if_pos h]
  simp -implicitDefEqProofs only[↓zP,zQ,Nat.reduceLT,Nat.reduceEqDiff,↓qC,(h.1:0≤c.s),(by omega:c.s<5),Nat.reduceAdd,(by omega:c.s.toNat<5)]
  refine zD [(1,0),(9,0),(9,3)] ?_
  rw[←hst]
  simp only[↓zP,zQ,Nat.reduceLT,Nat.reduceEqDiff]
  refine qN rfl t1 ?_
  simp only[↓zP,zQ,Nat.reduceLT,Nat.reduceEqDiff]
  refine⟨by (simp only[ByteArray.size_append,z7,z1,zn,zq];omega),by (simp only[ByteArray.size_append,z7,z1,zn,zq];omega),by (simp only[ByteArray.size_append,z7,z1,zn,zq];omega),by (simp only[ByteArray.size_append,z7,z1,zn,zq];omega),?_⟩
  refine qN rfl t2 ?_
  simp only[↓zP,zQ,Nat.reduceLT,Nat.reduceEqDiff]
  refine⟨by (simp only[ByteArray.size_append,z7,z1,zn,zq];omega),by (simp only[ByteArray.size_append,z7,z1,zn,zq];omega),?_⟩
  exact⟨qI (yC rfl) (qI (yC rfl) (qI (yC rfl) qH)),rfl⟩
 ·have hd:decide (0≤c.s∧c.s≤4)=false:=decide_eq_false h
  rw[hd]
  have hst:stT c.s=(⟨#[63]⟩:ByteArray):=by rw[stT,if_neg h]
  simp -implicitDefEqProofs only[↓zP,zQ,Nat.reduceLT,Nat.reduceEqDiff,↓qC,Nat.reduceAdd]
  refine zD [(1,0),(9,0),(9,3)] ?_
  rw[←hst]
  simp only[↓zP,zQ,Nat.reduceLT,Nat.reduceEqDiff]
  refine qN rfl t1 ?_
  simp only[↓zP,zQ,Nat.reduceLT,Nat.reduceEqDiff]
  refine⟨by (simp only[ByteArray.size_append,z7,z1,zn,zq];omega),by (simp only[ByteArray.size_append,z7,z1,zn,zq];omega),by (simp only[ByteArray.size_append,z7,z1,zn,zq];omega),by (simp only[ByteArray.size_append,z7,z1,zn,zq];omega),?_⟩
  refine qN rfl t2 ?_
  simp only[↓zP,zQ,Nat.reduceLT,Nat.reduceEqDiff]
  refine⟨by (simp only[ByteArray.size_append,z7,z1,zn,zq];omega),by (simp only[ByteArray.size_append,z7,z1,zn,zq];omega),?_⟩
  exact⟨qI (yC rfl) (qI (yC rfl) (qI (yC rfl) qH)),rfl⟩
theorem showCliS (c:Cl)(h1:c.n≤9223372036854775807)(h2:c.le≤9223372036854775807):Fn Tryz.prog 14 [.agg c.cs] (.sc (.string (cliT c))):=by
 refine Fn.run 27 [.tmp 2] Tryz.func14 rfl rfl rfl rfl (by simp) (qV c.flat yV) (.sc _) ?_
 have hcs:c.cs=[.sc (.int .i64 c.n),.sc (.int .i64 c.g),.sc (.int .i64 c.m),.sc (.int .i64 c.s),.sc (.int .i64 c.d),.sc (.bool c.k),.sc (.int .i64 c.h),.sc (.int .i64 c.sd),.sc (.int .i64 c.hd),.sc (.int .i64 c.la),.sc (.int .i64 c.le),.sc (.int .i64 c.c0),.sc (.int .i64 c.c1),.sc (.int .i64 c.c2),.sc (.int .i64 c.c3),.sc (.int .i64 c.c4),.sc (.int .i64 c.c5),.sc (.int .i64 c.c6),.sc (.int .i64 c.c7),.sc (.int .i64 c.c8),.sc (.int .i64 c.du),.sc (.int .i64 c.w),.sc (.int .i64 c.t)]:=rfl
 rw[hcs]
 have d1:=yM c.n.toNat (by omega)
 have d2:=yM c.le.toNat (by omega)
 have d3:=stT_size c.s
 have t1:=numS c.n h1
 have t2:=numS c.le h2
 simp only[↓zP,zQ,↓qC,Nat.reduceLT,Nat.reduceEqDiff]
 refine qN rfl (inS c.s 0 4) ?_
 by_cases h:0≤c.s∧c.s≤4
 ·have hd:decide (0≤c.s∧c.s≤4)=true:=decide_eq_true h
  rw[hd]
  have hst:stT c.s=[(⟨#[105,100,108,101]⟩:ByteArray),(⟨#[104,101,108,108,111]⟩:ByteArray),(⟨#[119,104,111]⟩:ByteArray),(⟨#[111,112,101,110]⟩:ByteArray),(⟨#[102,97,105,108,101,100]⟩:ByteArray)].getD c.s.toNat ByteArray.empty:=by rw[stT,if_pos h]
  simp -implicitDefEqProofs only[↓zP,zQ,Nat.reduceLT,Nat.reduceEqDiff,↓qC,(h.1:0≤c.s),(by omega:c.s<5),Nat.reduceAdd,(by omega:c.s.toNat<5)]
  refine zD [(1,0),(9,0),(9,3)] ?_
  rw[←hst]
  simp only[↓zP,zQ,Nat.reduceLT,Nat.reduceEqDiff]
  refine qN rfl t1 ?_
  simp only[↓zP,zQ,Nat.reduceLT,Nat.reduceEqDiff]
  refine⟨by (simp only[ByteArray.size_append,z7,z1,zn,zq];omega),by (simp only[ByteArray.size_append,z7,z1,zn,zq];omega),by (simp only[ByteArray.size_append,z7,z1,zn,zq];omega),by (simp only[ByteArray.size_append,z7,z1,zn,zq];omega),?_⟩
  refine qN rfl t2 ?_
  simp only[↓zP,zQ,Nat.reduceLT,Nat.reduceEqDiff]
  refine⟨by (simp only[ByteArray.size_append,z7,z1,zn,zq];omega),by (simp only[ByteArray.size_append,z7,z1,zn,zq];omega),?_⟩
  exact⟨qI (yC rfl) (qI (yC rfl) (qI (yC rfl) qH)),rfl⟩
 ·have hd:decide (0≤c.s∧c.s≤4)=false:=decide_eq_false h
  rw[hd]
  have hst:stT c.s=(⟨#[63]⟩:ByteArray):=by rw[stT,if_neg h]
  simp -implicitDefEqProofs only[↓zP,zQ,Nat.reduceLT,Nat.reduceEqDiff,↓qC,Nat.reduceAdd]
  refine zD [(1,0),(9,0),(9,3)] ?_
  rw[←hst]
  simp only[↓zP,zQ,Nat.reduceLT,Nat.reduceEqDiff]
  refine qN rfl t1 ?_
  simp only[↓zP,zQ,Nat.reduceLT,Nat.reduceEqDiff]
  refine⟨by (simp only[ByteArray.size_append,z7,z1,zn,zq];omega),by (simp only[ByteArray.size_append,z7,z1,zn,zq];omega),by (simp only[ByteArray.size_append,z7,z1,zn,zq];omega),by (simp only[ByteArray.size_append,z7,z1,zn,zq];omega),?_⟩
  refine qN rfl t2 ?_
  simp only[↓zP,zQ,Nat.reduceLT,Nat.reduceEqDiff]
  refine⟨by (simp only[ByteArray.size_append,z7,z1,zn,zq];omega),by (simp only[ByteArray.size_append,z7,z1,zn,zq];omega),?_⟩
  exact⟨qI (yC rfl) (qI (yC rfl) (qI (yC rfl) qH)),rfl⟩
def Rw.bool {ks:List Kd}(r:Rw ks)(j:Nat):Bool:=match r.val[j]? with | some (.bool b)=>b | _=>false
theorem Rw.bool_is {ks:List Kd}(r:Rw ks)(j:Nat)(h:ks[j]?=some .b):r.cs[j]?=some (.sc (.bool (r.bool j))):=by
 have hv:=List.getElem?_eq_getElem (by rw[r.ok.1];exact(List.getElem?_eq_some_iff.1 h).1:j<r.val.length)
 obtain⟨b,hb⟩:=r.ok.2 j _ _ h hv
 rw[hb] at hv
 have e:r.bool j=b:=by simp only[Rw.bool,hv]
 rw[e,Rw.cs,List.getElem?_map,hv]
 rfl
def clOf (r:Rw kClient):Cl:=⟨r.int 0,r.int 1,r.int 2,r.int 3,r.int 4,r.bool 5,r.int 6,r.int 7,r.int 8,r.int 9,r.int 10,r.int 11,r.int 12,r.int 13,r.int 14,r.int 15,r.int 16,r.int 17,r.int 18,r.int 19,r.int 20,r.int 21,r.int 22⟩
theorem cl_cs (r:Rw kClient):r.cs=[.sc (.int .i64 (r.int 0)),.sc (.int .i64 (r.int 1)),.sc (.int .i64 (r.int 2)),.sc (.int .i64 (r.int 3)),.sc (.int .i64 (r.int 4)),.sc (.bool (r.bool 5)),.sc (.int .i64 (r.int 6)),.sc (.int .i64 (r.int 7)),.sc (.int .i64 (r.int 8)),.sc (.int .i64 (r.int 9)),.sc (.int .i64 (r.int 10)),.sc (.int .i64 (r.int 11)),.sc (.int .i64 (r.int 12)),.sc (.int .i64 (r.int 13)),.sc (.int .i64 (r.int 14)),.sc (.int .i64 (r.int 15)),.sc (.int .i64 (r.int 16)),.sc (.int .i64 (r.int 17)),.sc (.int .i64 (r.int 18)),.sc (.int .i64 (r.int 19)),.sc (.int .i64 (r.int 20)),.sc (.int .i64 (r.int 21)),.sc (.int .i64 (r.int 22))]:=by
 have e0:=(r.int_at 0 (k:=.i64) rfl).1
 have e1:=(r.int_at 1 (k:=.i64) rfl).1
 have e2:=(r.int_at 2 (k:=.i64) rfl).1
 have e3:=(r.int_at 3 (k:=.i64) rfl).1
 have e4:=(r.int_at 4 (k:=.i64) rfl).1
 have e5:=r.bool_is 5 rfl
 have e6:=(r.int_at 6 (k:=.i64) rfl).1
 have e7:=(r.int_at 7 (k:=.i64) rfl).1
 have e8:=(r.int_at 8 (k:=.i64) rfl).1
 have e9:=(r.int_at 9 (k:=.i64) rfl).1
 have e10:=(r.int_at 10 (k:=.i64) rfl).1
 have e11:=(r.int_at 11 (k:=.i64) rfl).1
 have e12:=(r.int_at 12 (k:=.i64) rfl).1
 have e13:=(r.int_at 13 (k:=.i64) rfl).1
 have e14:=(r.int_at 14 (k:=.i64) rfl).1
 have e15:=(r.int_at 15 (k:=.i64) rfl).1
 have e16:=(r.int_at 16 (k:=.i64) rfl).1
 have e17:=(r.int_at 17 (k:=.i64) rfl).1
 have e18:=(r.int_at 18 (k:=.i64) rfl).1
 have e19:=(r.int_at 19 (k:=.i64) rfl).1
 have e20:=(r.int_at 20 (k:=.i64) rfl).1
 have e21:=(r.int_at 21 (k:=.i64) rfl).1
 have e22:=(r.int_at 22 (k:=.i64) rfl).1
 have hl:=r.cs_len
 generalize r.cs=z at *
 match z,hl with
 | [x0,x1,x2,x3,x4,x5,x6,x7,x8,x9,x10,x11,x12,x13,x14,x15,x16,x17,x18,x19,x20,x21,x22],_ =>
  simp only[List.getElem?_cons_zero,List.getElem?_cons_succ,Option.some.injEq] at e0 e1 e2 e3 e4 e5 e6 e7 e8 e9 e10 e11 e12 e13 e14 e15 e16 e17 e18 e19 e20 e21 e22
  rw[e0,e1,e2,e3,e4,e5,e6,e7,e8,e9,e10,e11,e12,e13,e14,e15,e16,e17,e18,e19,e20,e21,e22]
theorem clOf_cs (r:Rw kClient):r.cs=(clOf r).cs:=cl_cs r
theorem cl_n (r:Rw kClient):(clOf r).n≤9223372036854775807:=wf_le (r.int_at 0 rfl).2
theorem cl_le (r:Rw kClient):(clOf r).le≤9223372036854775807:=wf_le (r.int_at 10 rfl).2
def clsT (l:List (Rw kClient)):ByteArray:=l.foldl (fun a r=>a++cliT (clOf r)) ByteArray.empty
theorem clsT_s (l:List (Rw kClient))(i:Nat)(r:Rw kClient)(h:l[i]?=some r):clsT (l.take (i+1))=clsT (l.take i)++cliT (clOf r):=by
 simp only[clsT,List.take_add_one,h,List.foldl_append]
 rfl
theorem clsT_size' (P:ByteArray):∀ l:List (Rw kClient),(l.foldl (fun a r=>a++cliT (clOf r)) P).size≤P.size+60*l.length:=by
 intro l
 induction l generalizing P with
 | nil=>exact Nat.le_refl _
 | cons r l ih =>
  have:=ih (P++cliT (clOf r))
  have h:=cliT_size (clOf r) (cl_n r) (cl_le r)
  simp only[List.foldl_cons,List.length_cons,ByteArray.size_append] at *
  omega
theorem clsT_size (l:List (Rw kClient)):(clsT l).size≤60*l.length:=by
 have:=clsT_size' ByteArray.empty l
 simpa [clsT] using this
def worldT (lb:List (Rw kClient))(G:ByteArray)(np:Nat):ByteArray:=clsT lb++G++(⟨#[103,111,116,32]⟩:ByteArray)++wZ np++(⟨#[10]⟩:ByteArray)
theorem zg4:((⟨#[103,111,116,32]⟩:ByteArray)).size=4:=rfl
theorem showWorldS {H:qE}{xa xb xd xe xf xg xh xi xj xk xl xm xo xp xq:AV}{lb:List (Rw kClient)}{le:List (Rw kSess)}{lh:List (Rw kOut)}{lp:List (Rw kA)}(n nx dr nw dw:Int)(hb:IsR H xb lb)(he:IsR H xe le)(hh:IsR H xh lh)(hp:IsR H xp lp)
  (oa:xa.cells=[xa]∧xa.one=true)
  (od:xd.cells=[xd]∧xd.one=true)
  (of:xf.cells=[xf]∧xf.one=true)
  (og:xg.cells=[xg]∧xg.one=true)
  (oi:xi.cells=[xi]∧xi.one=true)
  (oj:xj.cells=[xj]∧xj.one=true)
  (ok:xk.cells=[xk]∧xk.one=true)
  (ol:xl.cells=[xl]∧xl.one=true)
  (om:xm.cells=[xm]∧xm.one=true)
  (oo:xo.cells=[xo]∧xo.one=true)
  (oq:xq.cells=[xq]∧xq.one=true)
  (bb:lb.length≤1048576) (be:le.length≤1048576) (bh:lh.length≤1048576) (bp:lp.length≤1048576) (hd:dr≤9223372036854775807) :
  ∃ (Z:qE),Sound Tryz.prog 10 [.agg [xa,xb,xd,n,nx,xe,xf,xg,xh,dr,xi,nw,dw,xj,xk,xl,xm,xo,xp,xq]] H (.sc (.string (worldT lb (kF (kZ le dr) lh) lp.length))) Z∧Ext H Z:=by
 suffices h:∃ v Z,Sound Tryz.prog 10 [.agg [xa,xb,xd,n,nx,xe,xf,xg,xh,dr,xi,nw,dw,xj,xk,xl,xm,xo,xp,xq]] H v Z∧v=.sc (.string (worldT lb (kF (kZ le dr) lh) lp.length))∧Ext H Z by
  obtain⟨v,Z,h1,rfl,h2⟩:=h
  exact⟨Z,h1,h2⟩
 refine zR 32 [.tmp 2] Tryz.func10 ?_
 have lB:=fun e=>hb.len e
 have lP:=fun e=>hp.len e
 obtain⟨A,hA⟩:∃ A:Reg,A=⟨[xa,xb,xd,n,nx,xe,xf,xg,xh,dr,xi,nw,dw,xj,xk,xl,xm,xo,xp,xq],true,true⟩:=⟨_,rfl⟩
 have e0:=Ext.more H [A]
 have b0:(H++[A])[H.length]?=some ⟨[xa,xb,xd,n,nx,xe,xf,xg,xh,dr,xi,nw,dw,xj,xk,xl,xm,xo,xp,xq],true,true⟩:=by rw[←hA];exact yD H [A]
 have m1:=e0.isR hb
 simp only[↓zP,zQ,↓qC,Nat.reduceLT,oa,(hb.one),od,(he.one),of,og,(hh.one),oi,oj,ok,ol,om,oo,(hp.one),oq]
 rw[←hA]
 refine yL (ι:=Nat) (fun i s=>∃ (T:Nat→AV)(G:qE),s=⟨qY 32 T,G⟩∧Ext (H++[A]) G∧i≤lb.length∧T 1=.ptr H.length 0∧T 3=.sc (.string (clsT (lb.take i)))∧T 4=.sc (.int .i64 i)) (fun i=>lb.length - i) ?_ (i:=0) ?_
 ·rintro i s ⟨T,G,rfl,eG,a1,a2,a3,a4⟩
  have b0:=eG.at b0
  have m1:=eG.isR m1
  by_cases h:i<lb.length
  ·have k1:(i:Int)<lb.length:=by omega
   have k2:(0:Int)≤i:=by omega
   have e1:IntKind.i64.wrap ((i:Int)+1)=i+1:=w64 (by omega) (by omega)
   obtain⟨r,o,hx,hr⟩:=m1.get h
   have ha:lb[i]?=some lb[i]:=List.getElem?_eq_getElem h
   generalize lb[i]=p at ha
   have on:=clsT_s lb i p ha
   have rr:=xD xI ha
   rw[clOf_cs p] at rr
   have kl:kClient.length=23:=rfl
   have s1:=clsT_size (lb.take i)
   rw[List.length_take] at s1
   have s2:=cliT_size (clOf p) (cl_n p) (cl_le p)
   simp only[↓zP,zQ,↓qC,Nat.reduceLT,a4,Nat.reduceEqDiff,a2,a3,b0,lB,k1]
   simp only[hx] at *
   simp only[zQ,kl,k2,k1,qB,hr,rr]
   refine qN rfl (showCliS (clOf p) (cl_n p) (cl_le p)) ?_
   simp only[↓zP,zQ,Nat.reduceLT,Nat.reduceEqDiff,a4,e1]
   refine⟨by omega,?_⟩
   refine⟨i+1,by omega,_,_,rfl,eG,by omega,?_,?_,?_⟩<;>simp only[zQ,Nat.reduceEqDiff,a2,on]<;>rfl
  ·have k1:¬ (i:Int)<lb.length:=by omega
   have hi:i=lb.length:=by omega
   rw[hi,List.take_length] at a3
   have s1:=clsT_size lb
   have s2:=outsT_size (kZ le dr) lh
   have s3:=gateH_size le dr be hd
   have s4:=yM lp.length (by omega)
   obtain⟨Z,g1,g2⟩:=showGateS n nx dr (eG.isR (e0.isR he)) of og (eG.isR (e0.isR hh)) be bh hd
   have bz:=g2.at b0
   skip
   generalize hGt:kF (kZ le dr) lh=Gt at *
   simp only[↓zP,zQ,↓qC,Nat.reduceLT,a4,Nat.reduceEqDiff,a2,a3,b0,lB,k1]
   refine zD [(2,0),(7,0),(7,4)] ?_
   simp -implicitDefEqProofs only[↓zP,zQ,Nat.reduceLT,Nat.reduceEqDiff,a3,a2,b0,Nat.reduceAdd,Nat.reduceLeDiff]
   refine qF rfl g1 ?_
   simp only[↓zP,zQ,Nat.reduceLT,Nat.reduceEqDiff,a2,bz,lP]
   refine⟨by ((try simp only[ByteArray.size_append,zg4,yn]);omega),by ((try simp only[ByteArray.size_append,zg4,yn]);omega),?_⟩
   refine qN (by (try simp only[zQ,Nat.reduceLT])<;>rfl) (decS lp.length (by omega)) ?_
   simp only[↓zP,zQ,Nat.reduceLT,Nat.reduceEqDiff]
   refine⟨by ((try simp only[ByteArray.size_append,zg4,yn]);omega),by ((try simp only[ByteArray.size_append,zg4,yn]);omega),?_⟩
   exact⟨zX (qI (qS _ _ H.length 18 rfl rfl (b0.trans bz.symm)) (qI (yC rfl) qH)),rfl,e0.trans (eG.trans g2)⟩
 ·refine⟨_,_,rfl,.refl _,by omega,?_,?_,?_⟩<;>simp only[zQ,Nat.reduceEqDiff]<;>rfl
theorem showWorldI {H:qE}{xa xb xd xe xf xg xh xi xj xk xl xm xo xp xq:AV}{lb:List (Rw kClient)}{le:List (Rw kSess)}{lh:List (Rw kOut)}{lp:List (Rw kA)}(n nx dr nw dw:Int)(hb:IsR H xb lb)(he:IsR H xe le)(hh:IsR H xh lh)(hp:IsR H xp lp)
  (oa:xa.cells=[xa]∧xa.one=true)
  (od:xd.cells=[xd]∧xd.one=true)
  (of:xf.cells=[xf]∧xf.one=true)
  (og:xg.cells=[xg]∧xg.one=true)
  (oi:xi.cells=[xi]∧xi.one=true)
  (oj:xj.cells=[xj]∧xj.one=true)
  (ok:xk.cells=[xk]∧xk.one=true)
  (ol:xl.cells=[xl]∧xl.one=true)
  (om:xm.cells=[xm]∧xm.one=true)
  (oo:xo.cells=[xo]∧xo.one=true)
  (oq:xq.cells=[xq]∧xq.one=true)
  (bb:lb.length≤1048576) (be:le.length≤1048576) (bh:lh.length≤1048576) (bp:lp.length≤1048576) (hd:dr≤9223372036854775807) :
  ∃ (Z:qE),Sound Tryz.prog 6 [.agg [xa,xb,xd,n,nx,xe,xf,xg,xh,dr,xi,nw,dw,xj,xk,xl,xm,xo,xp,xq]] H (.sc (.string (worldT lb (kF (kZ le dr) lh) lp.length))) Z∧Ext H Z:=by
 suffices h:∃ v Z,Sound Tryz.prog 6 [.agg [xa,xb,xd,n,nx,xe,xf,xg,xh,dr,xi,nw,dw,xj,xk,xl,xm,xo,xp,xq]] H v Z∧v=.sc (.string (worldT lb (kF (kZ le dr) lh) lp.length))∧Ext H Z by
  obtain⟨v,Z,h1,rfl,h2⟩:=h
  exact⟨Z,h1,h2⟩
 refine zR 30 [.tmp 2] Tryz.func6 ?_
 have lB:=fun e=>hb.len e
 have lP:=fun e=>hp.len e
 obtain⟨A,hA⟩:∃ A:Reg,A=⟨[xa,xb,xd,n,nx,xe,xf,xg,xh,dr,xi,nw,dw,xj,xk,xl,xm,xo,xp,xq],true,true⟩:=⟨_,rfl⟩
 have e0:=Ext.more H [A]
 have b0:(H++[A])[H.length]?=some ⟨[xa,xb,xd,n,nx,xe,xf,xg,xh,dr,xi,nw,dw,xj,xk,xl,xm,xo,xp,xq],true,true⟩:=by rw[←hA];exact yD H [A]
 have m1:=e0.isR hb
 simp only[↓zP,zQ,↓qC,Nat.reduceLT,Nat.reduceEqDiff,oa,(hb.one),od,(he.one),of,og,(hh.one),oi,oj,ok,ol,om,oo,(hp.one),oq,lB]
 rw[←hA]
 refine yL (ι:=Nat) (fun i s=>∃ (T:Nat→AV)(G:qE),s=⟨qY 30 T,G⟩∧Ext (H++[A]) G∧i≤lb.length∧T 1=.ptr H.length 0∧T 3=.sc (.string (clsT (lb.take i)))∧T 7=xb∧T 8=.sc (.int .i64 lb.length)∧T 9=.sc (.int .i64 i)) (fun i=>lb.length - i) ?_ (i:=0) ?_
 ·rintro i s ⟨T,G,rfl,eG,a1,a2,a3,a5,a6,a4⟩
  have b0:=eG.at b0
  have m1:=eG.isR m1
  by_cases h:i<lb.length
  ·have k1:(i:Int)<lb.length:=by omega
   have k2:(0:Int)≤i:=by omega
   have e1:IntKind.i64.wrap ((i:Int)+1)=i+1:=w64 (by omega) (by omega)
   obtain⟨r,o,hx,hr⟩:=m1.get h
   have ha:lb[i]?=some lb[i]:=List.getElem?_eq_getElem h
   generalize lb[i]=p at ha
   have on:=clsT_s lb i p ha
   have rr:=xD xI ha
   rw[cl_cs p] at rr
   have kl:kClient.length=23:=rfl
   have s1:=clsT_size (lb.take i)
   rw[List.length_take] at s1
   have s2:=cliT_size (clOf p) (cl_n p) (cl_le p)
   simp only[↓zP,zQ,↓qC,Nat.reduceLT,a4,a6,k1,Nat.reduceEqDiff,a5,a3]
   simp only[hx] at *
   simp -implicitDefEqProofs only[zQ,kl,k2,k1,qB,zero48,yD,Nat.reduceAdd,kY,hr,rr,xZ,xY]
   refine qN rfl (showCliI (clOf p) (cl_n p) (cl_le p)) ?_
   simp only[↓zP,zQ,Nat.reduceLT,Nat.reduceEqDiff,a4,e1]
   refine⟨by omega,?_⟩
   refine⟨i+1,by omega,_,_,rfl,eG.add _,by omega,?_,?_,?_,?_,?_⟩<;>simp only[zQ,Nat.reduceEqDiff,a2,on,a5,kl,a6]<;>rfl
  ·have k1:¬ (i:Int)<lb.length:=by omega
   have hi:i=lb.length:=by omega
   rw[hi,List.take_length] at a3
   have s1:=clsT_size lb
   have s2:=outsT_size (kZ le dr) lh
   have s3:=gateH_size le dr be hd
   have s4:=yM lp.length (by omega)
   obtain⟨Z,g1,g2⟩:=showGateI n nx dr (eG.isR (e0.isR he)) of og (eG.isR (e0.isR hh)) be bh hd
   have bz:=g2.at b0
   have ct:=toldI lp.length (by omega)
   simp only[Int.toNat_natCast] at ct
   generalize hGt:kF (kZ le dr) lh=Gt at *
   simp only[↓zP,zQ,↓qC,Nat.reduceLT,a4,a6,k1,Nat.reduceEqDiff,a5,a3]
   refine zD [(2,0),(7,0),(7,4)] ?_
   simp -implicitDefEqProofs only[↓zP,zQ,Nat.reduceLT,Nat.reduceEqDiff,a3,a2,b0,Nat.reduceAdd,Nat.reduceLeDiff]
   refine qF rfl g1 ?_
   simp only[↓zP,zQ,Nat.reduceLT,Nat.reduceEqDiff,a2,bz,lP]
   refine⟨by ((try simp only[ByteArray.size_append,zg4,yn]);omega),by ((try simp only[ByteArray.size_append,zg4,yn]);omega),?_⟩
   refine qN (by (try simp only[zQ,Nat.reduceLT])<;>rfl) ct ?_
   simp only[↓zP,zQ,Nat.reduceLT,Nat.reduceEqDiff]
   refine⟨by ((try simp only[ByteArray.size_append,zg4,yn]);omega),by ((try simp only[ByteArray.size_append,zg4,yn]);omega),?_⟩
   exact⟨zX (qI (qS _ _ H.length 18 rfl rfl (b0.trans bz.symm)) (qI (yC rfl) qH)),rfl,e0.trans (eG.trans g2)⟩
 ·refine⟨_,_,rfl,.refl _,by omega,?_,?_,?_,?_,?_⟩<;>simp only[zQ,Nat.reduceEqDiff]<;>rfl
theorem bigS {H:qE}{x:AV}{L:List Int}(hx:IsL H x .u8 L):Sound Tryz.prog 4 [x] H (.sc (.bool (decide ((1048576:Int)<L.length)))) H:=by
 refine Sound.run 6 [.tmp 2] Tryz.func4 rfl rfl rfl rfl (by simp) ?_
 simp only[↓zP,zQ,↓qC,(fun e=>hx.len e)]
def nlN (l:List Int):Nat:=l.countP fun x=>decide (x=10)
def nl (z:ByteArray):Nat:=nlN (xO z)
theorem nl_app (a b:ByteArray):nl (a++b)=nl a+nl b:=by rw[nl,vF,nlN,List.countP_append];rfl
theorem nlN_s (z:ByteArray)(i:Nat)(h:i<z.size):nlN ((xO z).take (i+1))=nlN ((xO z).take i)+if jA z i=10 then 1 else 0:=by
 have hl:i<(xO z).length:=by rw[wV];exact h
 rw[nlN,List.take_add_one,List.getElem?_eq_getElem hl,List.countP_append,byteAt_nums,List.getD_eq_getElem?_getD,List.getElem?_eq_getElem hl]
 by_cases h:(xO z)[i]=10<;>simp[nlN,h]
theorem dgs_in (n:Nat):∀ x∈dgs n,48≤x∧x≤57:=by
 induction n using Nat.strongRecOn with
 | _ n ih =>
  intro x hx
  by_cases h:n=0
  ·subst h
   rw[dgs_0] at hx
   cases hx
  ·rw[dgs_s (by omega)] at hx
   rcases List.mem_append.1 hx with hx | hx
   ·exact ih (n / 10) (by omega) x hx
   ·rw[List.mem_singleton.1 hx]
    omega
theorem nl_dec (n:Nat):nl (wZ n)=0:=by
 have h:∀ x∈decL n,48≤x∧x≤57:=by
  unfold decL
  split
  ·intro x hx
   rw[List.mem_singleton.1 hx]
   omega
  ·exact dgs_in n
 rw[nl,wZ,nums_son (fun x hx=>by have:=h x hx;omega),nlN,List.countP_eq_zero]
 intro x hx
 have:=h x hx
 rw[decide_eq_true_eq]
 omega
theorem nl_st (s:Int):nl (stT s)=0:=by
 unfold stT
 split
 ·exact(by decide:∀ j<5,nl (([(⟨#[105,100,108,101]⟩:ByteArray),(⟨#[104,101,108,108,111]⟩:ByteArray),(⟨#[119,104,111]⟩:ByteArray),(⟨#[111,112,101,110]⟩:ByteArray),(⟨#[102,97,105,108,101,100]⟩:ByteArray)]:List ByteArray).getD j ByteArray.empty)=0) _ (by omega)
 ·rfl
theorem nl_cli (c:Cl):nl (cliT c)=1:=by
 have e1:nl (⟨#[99,108,105,101,110,116,32]⟩:ByteArray)=0:=rfl
 have e2:nl (⟨#[32]⟩:ByteArray)=0:=rfl
 have e3:nl (⟨#[10]⟩:ByteArray)=1:=rfl
 simp only[cliT,nl_app,nl_dec,nl_st,e1,e2,e3]
theorem nl_out (r:Rw kOut):nl (outT r)=1:=by
 have e1:nl (⟨#[111,117,116,32]⟩:ByteArray)=0:=rfl
 have e2:nl (⟨#[32]⟩:ByteArray)=0:=rfl
 have e3:nl (⟨#[10]⟩:ByteArray)=1:=rfl
 simp only[outT,nl_app,nl_dec,e1,e2,e3]
theorem nl_outs (P:ByteArray):∀ l:List (Rw kOut),nl (kF P l)=nl P+l.length:=by
 intro l
 unfold kF
 induction l generalizing P with
 | nil=>rfl
 | cons r l ih=>rw[List.foldl_cons,ih,nl_app,nl_out,List.length_cons];omega
theorem nl_clis (P:ByteArray):∀ l:List (Rw kClient),nl (l.foldl (fun a r=>a++cliT (clOf r)) P)=nl P+l.length:=by
 intro l
 induction l generalizing P with
 | nil=>rfl
 | cons r l ih=>rw[List.foldl_cons,ih,nl_app,nl_cli,List.length_cons];omega
theorem nl_gate (l:List (Rw kSess))(dr:Int):nl (kZ l dr)=1:=by
 have e1:nl (⟨#[103,97,116,101,32]⟩:ByteArray)=0:=rfl
 have e2:nl (⟨#[32,111,112,101,110,32]⟩:ByteArray)=0:=rfl
 have e4:nl (⟨#[32,100,114,111,112,115,32]⟩:ByteArray)=0:=rfl
 have e3:nl (⟨#[10]⟩:ByteArray)=1:=rfl
 simp only[kZ,nl_app,nl_dec,e1,e2,e3,e4]
theorem nl_world (lb:List (Rw kClient))(le:List (Rw kSess))(dr:Int)(lh:List (Rw kOut))(np:Nat):nl (worldT lb (kF (kZ le dr) lh) np)=lb.length+lh.length+2:=by
 have e1:nl (⟨#[103,111,116,32]⟩:ByteArray)=0:=rfl
 have e0:nl ByteArray.empty=0:=rfl
 have e3:nl (⟨#[10]⟩:ByteArray)=1:=rfl
 simp only[worldT,nl_app,nl_dec,nl_outs,nl_gate,clsT,nl_clis,e0,e1,e3]
 omega
end Go.Proofs.YtjdajobflgkebaaGreatDoor.Sim
