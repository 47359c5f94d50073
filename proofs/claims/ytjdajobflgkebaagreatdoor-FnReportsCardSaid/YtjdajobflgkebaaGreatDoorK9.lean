/- Texts of this proof, put together and made small by a program: part 9. -/
import Derived.Test.YtjdajobflgkebaaGreatDoorK8
set_option linter.all false
set_option maxRecDepth 100000
set_option maxHeartbeats 40000000
namespace Go.Proofs.YtjdajobflgkebaaGreatDoor.Sim
open Go
section
attribute [local irreducible] kO uW kR wQ
theorem routeOfW {H:qE}(k:Int)(wk:W64 k){x:AV}{l:List (Rw xM)}(hx:RdX Rw.cs 3 H x l)(bx:l.length≤1000000):∃ (a:Int)(b:Int)(c:Int)(bb:Bool)(Z:qE),Sound Tryz.prog 177 [x,k] H (.tup [.agg [a,b,c],.sc (.bool bb)]) Z∧Ext H Z∧W64 a∧W64 b∧W64 c:=by
 suffices h:∃ w Z,Sound Tryz.prog 177 [x,k] H w Z∧∃ (a:Int)(b:Int)(c:Int)(bb:Bool),w=.tup [.agg [a,b,c],.sc (.bool bb)]∧Ext H Z∧W64 a∧W64 b∧W64 c by
  obtain⟨w,Z,h1,a,b,c,bb,rfl,h2⟩:=h
  exact⟨a,b,c,bb,Z,h1,h2⟩
 refine zR 45 [.cell 4 104,.tmp 5] Tryz.func177 ?_
 have E0:=Ext.refl H
 obtain⟨b2,e3,nn4⟩:=yN (H0:=H) (i:=H.length) (by simp) E0.1 {cs:=[(0:Int),(0:Int),(0:Int)]}
 try simp only[↓zP,zQ,↓qC]
 refine yL (ι:=Nat) (fun i s=>∃ (T:Nat→AV)(G:qE)(v11:Int),s=⟨qY 45 T,G⟩∧Ext H G∧i≤l.length∧LclE G H.length (H.length) {cs:=[(0:Int),(0:Int),(0:Int)]}∧W64 v11∧(-1≤v11∧v11<(l.length:Int))∧T 0=x∧T 1=.sc (.int .i64 (k))∧T 4=.ptr (H.length) 0∧T 5=.sc (.bool false)∧T 6=.sc (.int .i64 (v11))∧T 7=.sc (.int .i64 i)) (fun i=>l.length - i) ?_ (i:=0) ?_
 rotate_left
 ·exact⟨_,_,(-1),rfl,(E0.trans e3),Nat.zero_le _,b2,⟨by decide,by decide⟩,(by omega),rfl,rfl,rfl,rfl,rfl,rfl⟩
 rintro i8 s ⟨T9,Z10,v11,rfl,E18,hi19,b20,w21,iv22,a12,a13,a14,a15,a16,a17⟩
 have e23:i8<l.length→IntKind.i64.wrap ((i8:Int)+1)=((i8+1:Nat):Int):=fun h=>by rw[w64 (by omega) (by omega)];omega
 have hx25:=hx.ext E18
 have ln24:=fun e=>hx25.len e
 by_cases h26:((i8:Int))<(l.length:Int)
 ·try simp only[↓zP,zQ,↓qC,a17,a12,ln24,a16,a14,h26]
  refine zD [(3,0),(14,6),(19,6)] ?_
  have hb27:i8<l.length:=by omega
  obtain⟨q28,_,xe29,_⟩:=hx25.get hb27
  subst xe29
  obtain⟨p30,hp31⟩:∃ p,l[i8]?=some p:=⟨_,List.getElem?_eq_getElem hb27⟩
  have k32:(0:Int)≤(i8:Int):=by omega
  obtain⟨_,hq34⟩:=hx25.at
  have re35:=fun (o:Bool)=>(xD xT hp31 o).trans (by rw[csRoute])
  obtain⟨r36,Z37,c38,e39⟩:=fitsE (H:=Z10) (p30.int 0) (p30.int 1) (p30.int 2) (k)
  try simp only[↓zP,zQ,a12,a17,k32,h26,qB,a13,hq34,re35]
  refine qF rfl c38 ?_
  cases r36 with
  | false =>
   try simp only[↓zP,zQ,bo_v,↓uE,qA,a17]
   refine⟨zX (zX (zX (qH))),?_⟩
   try simp only[(e23 (by omega))]
   refine⟨i8+1,by omega,_,_,(v11),rfl,(E18.trans e39),by omega,(b20.ext e39),w21,by omega,?_,?_,?_,?_,?_,?_⟩<;>simp only[zQ,a12,a13,a14,a15,a16]<;>rfl
  | true =>
   by_cases h44:v11<(0:Int)
   ·try simp only[↓zP,zQ,a16,h44,a17]
    refine⟨zX (zX (zX (qH))),?_⟩
    try simp only[(e23 (by omega))]
    refine⟨i8+1,by omega,_,_,((i8:Int)),rfl,(E18.trans e39),by omega,(b20.ext e39),(by unfold W64;omega),by omega,?_,?_,?_,?_,?_,?_⟩<;>simp only[zQ,a12,a13,a14,a15]<;>rfl
   ·have E48:=E18.trans e39
    obtain⟨_,hq50⟩:=(hx.ext E48).at
    have re51:=fun (o:Bool)(kk:Nat)=>(qX xT (k:=kk) hp31 (j:=1) (by decide) o).trans (p30.int_at 1 rfl).1
    obtain⟨j53,hj54,hb52⟩:∃ j:Nat,v11=(j:Int)∧j<l.length:=⟨Int.toNat v11,by omega,by omega⟩
    subst hj54
    obtain⟨p55,hp56⟩:∃ p,l[j53]?=some p:=⟨_,List.getElem?_eq_getElem hb52⟩
    have k57:(0:Int)≤(j53:Int):=by omega
    have k58:(j53:Int)<(l.length:Int):=by omega
    have re59:=fun (o:Bool)(kk:Nat)=>(qX xT (k:=kk) hp56 (j:=1) (by decide) o).trans (p55.int_at 1 rfl).1
    try simp only[↓zP,zQ,a16,h44,a12,a17,k32,h26,qB,k57,k58,qA,hq50,re59,re51]
    refine⟨zX (zX (zX (qH))),?_⟩
    by_cases h60:(p55.int 1)<(p30.int 1)
    ·have e61:=e23 (by omega)
     try simp only[zQ,h60,e61]
     refine⟨i8+1,by omega,_,_,((i8:Int)),rfl,E48,by omega,(b20.ext e39),(by unfold W64;omega),by omega,?_,?_,?_,?_,?_,?_⟩<;>simp only[zQ,a12,a13,a14,a15]<;>rfl
    ·have e63:=e23 (by omega)
     try simp only[zQ,h60,e63]
     refine⟨i8+1,by omega,_,_,((j53:Int)),rfl,E48,by omega,(b20.ext e39),w21,by omega,?_,?_,?_,?_,?_,?_⟩<;>simp only[zQ,a12,a13,a14,a15,a16]<;>rfl
 ·by_cases h65:v11<(0:Int)
  ·have c66:=b20.1
   have b67:=b20.put {cs:=[(0:Int),(0:Int),(0:Int)]}
   try simp -implicitDefEqProofs only[↓zP,zQ,↓qC,a17,a12,ln24,a16,h65,a14,c66,Nat.reduceAdd,xZ,xY,(b67.1),h26]
   have E69:=E18.set b20.2 {cs:=[(0:Int),(0:Int),(0:Int)]}
   exact⟨_,_,_,_,rfl,E69,⟨by decide,by decide⟩,⟨by decide,by decide⟩,⟨by decide,by decide⟩⟩
  ·obtain⟨j71,hj72,hb70⟩:∃ j:Nat,v11=(j:Int)∧j<l.length:=⟨Int.toNat v11,by omega,by omega⟩
   subst hj72
   obtain⟨q73,_,xe74,_⟩:=hx25.get hb70
   subst xe74
   obtain⟨p75,hp76⟩:∃ p,l[j71]?=some p:=⟨_,List.getElem?_eq_getElem hb70⟩
   have k77:(0:Int)≤(j71:Int):=by omega
   have k78:(j71:Int)<(l.length:Int):=by omega
   obtain⟨_,hq79⟩:=hx25.at
   have re80:=fun (o:Bool)=>(xD xT hp76 o).trans (by rw[csRoute])
   try simp -implicitDefEqProofs only[↓zP,zQ,↓qC,a17,a12,ln24,a16,h65,a14,(b20.1),Nat.reduceAdd,xZ,xY,k77,k78,qB,hq79,re80,((b20.put {cs:=[p75.int 0,p75.int 1,p75.int 2]}).1),h26]
   exact⟨_,_,_,_,rfl,(E18.set b20.2 {cs:=[p75.int 0,p75.int 1,p75.int 2]}),(p75.w64 0 rfl),(p75.w64 1 rfl),(p75.w64 2 rfl)⟩
theorem givenW {H:qE}(k:Int)(wk:W64 k){x:AV}{l:List (Rw kLease)}(hx:RdX Rw.cs 2 H x l)(bx:l.length≤1000000):∃ (q:Nat)(m:List (Rw kLease))(Z:qE),Sound Tryz.prog 88 [x,k] H (.sl q 0 m.length 2) Z∧Ext H Z∧H.length≤q∧Z[q]?=some ⟨rows Rw.cs m,true,true⟩∧m.length≤l.length:=by
 suffices h:∃ w Z,Sound Tryz.prog 88 [x,k] H w Z∧∃ (q:Nat)(m:List (Rw kLease)),w=.sl q 0 m.length 2∧Ext H Z∧H.length≤q∧Z[q]?=some ⟨rows Rw.cs m,true,true⟩∧m.length≤l.length by
  obtain⟨w,Z,h1,q,m,rfl,h2⟩:=h
  exact⟨q,m,Z,h1,h2⟩
 refine zR 29 [.tmp 4] Tryz.func88 ?_
 have E0:=Ext.refl H
 obtain⟨b2,e3,nn4⟩:=yN (H0:=H) (i:=H.length) (by simp) E0.1 ⟨[],true,true⟩
 try simp only[↓zP,zQ,↓qC,Nat.reduceLT]
 refine yL (ι:=Nat) (fun i s=>∃ (T:Nat→AV)(G:qE)(q11:Nat)(l12:List (Rw kLease)),s=⟨qY 29 T,G⟩∧Ext H G∧i≤l.length∧LclE G H.length q11 ⟨rows Rw.cs l12,true,true⟩∧l12.length≤0+1*i∧T 0=x∧T 1=.sc (.int .i64 (k))∧T 4=.sc (.slice none 0 0)∧T 5=.sl q11 0 l12.length 2∧T 6=.sc (.int .i64 i)) (fun i=>l.length - i) ?_ (i:=0) ?_
 rotate_left
 ·exact⟨_,_,(H.length),[],rfl,(E0.trans e3),Nat.zero_le _,b2,(by simp),rfl,rfl,rfl,rfl,rfl⟩
 rintro i8 s ⟨T9,Z10,q11,l12,rfl,E18,hi19,b20,hl21,a13,a14,a15,a16,a17⟩
 have e22:i8<l.length→IntKind.i64.wrap ((i8:Int)+1)=((i8+1:Nat):Int):=fun h=>by rw[w64 (by omega) (by omega)];omega
 have hx24:=hx.ext E18
 have ln23:=fun e=>hx24.len e
 by_cases h25:((i8:Int))<(l.length:Int)
 ·have hb26:i8<l.length:=by omega
  obtain⟨q27,_,xe28,_⟩:=hx24.get hb26
  subst xe28
  obtain⟨p29,hp30⟩:∃ p,l[i8]?=some p:=⟨_,List.getElem?_eq_getElem hb26⟩
  have k31:(0:Int)≤(i8:Int):=by omega
  have k32:(i8:Int)<(l.length:Int):=by omega
  obtain⟨_,hq33⟩:=hx24.at
  have re34:=fun (o:Bool)(kk:Nat)=>(qX yW (k:=kk) hp30 (j:=1) (by decide) o).trans (p29.int_at 1 rfl).1
  by_cases h35:(p29.int 1)=k
  ·have h36:=eq_true h35
   try simp only[↓zP,zQ,↓qC,Nat.reduceLT,a17,reduceCtorEq,a13,ln23,Nat.reduceEqDiff,k31,h25,qB,a14,a16,(e22 (by omega)),hq33,re34,h36]
   refine⟨i8+1,by omega,_,_,(q11),l12,rfl,E18,by omega,b20,by omega,?_,?_,?_,?_,?_⟩<;>simp only[zQ,reduceCtorEq,a13,Nat.reduceEqDiff,a14,a15,a16]<;>rfl
  ·have re38:=fun (o:Bool)=>(xD yW hp30 o).trans (by rw[csLease])
   obtain⟨p39,hp40⟩:=((RowOk.int (p29.w64 0 rfl) (RowOk.int (p29.w64 1 rfl) RowOk.nil)):RowOk kLease [.sc (.int .i64 (p29.int 0)),.sc (.int .i64 (p29.int 1))])
   obtain⟨b41,e42,nn43⟩:=yN (H0:=H) (i:=Z10.length) (by simp) E18.1 ⟨[p29.int 0,p29.int 1],true,true⟩
   have b44:=b20.ext e42
   have E46:=E18.trans e42
   obtain⟨q47,l48,Z49,ap50,e51,b52,K53,nn54⟩:=uB apS30 yW (l1:=l12) (n:=l12.length) b44 E46.1 rfl (xL yW (a:=p39) (by rw[hp40];exact b41.1)) rfl (by (try simp only[List.length_cons,List.length_nil]);omega)
   have ln55:l48.length=l12.length+1:=by rw[e51,List.length_append];try rfl
   try simp -implicitDefEqProofs only[↓zP,zQ,↓qC,Nat.reduceLT,a17,reduceCtorEq,a13,ln23,Nat.reduceEqDiff,k31,h25,qB,a14,a16,(e22 (by omega)),hq33,re38,Nat.reduceAdd,(b44.1),ap50,re34,h35]
   refine⟨i8+1,by omega,_,_,(q47),l48,rfl,(E46.kil K53 b44.2),by omega,b52,by omega,?_,?_,?_,?_,?_⟩<;>simp only[zQ,reduceCtorEq,a13,Nat.reduceEqDiff,a14,a15]<;>rfl
 ·try simp only[↓zP,zQ,↓qC,Nat.reduceLT,a17,reduceCtorEq,a13,ln23,Nat.reduceEqDiff,a14,a16,h25]
  exact⟨(q11),l12,rfl,E18,b20.2,b20.1,by omega⟩
theorem poolOkW {H:qE}{x:AV}{l:List (Rw kLease)}(hx:RdX Rw.cs 2 H x l)(bx:l.length≤1000000):∃ (bb:Bool)(Z:qE),Sound Tryz.prog 186 [x] H (.sc (.bool bb)) Z∧Ext H Z∧(bb=true→l.length≤3):=by
 suffices h:∃ w Z,Sound Tryz.prog 186 [x] H w Z∧∃ (bb:Bool),w=.sc (.bool bb)∧Ext H Z∧(bb=true→l.length≤3) by
  obtain⟨w,Z,h1,bb,rfl,h2⟩:=h
  exact⟨bb,Z,h1,h2⟩
 refine zR 55 [.tmp 2] Tryz.func186 ?_
 try simp only[↓zP,zQ,↓qC]
 refine yL (ι:=Nat) (fun i s=>∃ (T:Nat→AV)(G:qE),s=⟨qY 55 T,G⟩∧Ext H G∧i≤l.length∧T 0=x∧T 2=.sc (.bool false)∧T 3=.sc (.int .i64 i)) (fun i=>l.length - i) ?_ (i:=0) ?_
 rotate_left
 ·exact⟨_,_,rfl,(Ext.refl H),Nat.zero_le _,rfl,rfl,rfl⟩
 rintro i4 s ⟨T5,Z6,rfl,E10,hi11,a7,a8,a9⟩
 have e12:i4<l.length→IntKind.i64.wrap ((i4:Int)+1)=((i4+1:Nat):Int):=fun h=>by rw[w64 (by omega) (by omega)];omega
 have hx14:=hx.ext E10
 have ln13:=fun e=>hx14.len e
 by_cases h15:((i4:Int))<(l.length:Int)
 ·try simp only[↓zP,zQ,↓qC,a9,a7,ln13,h15]
  refine zD [(4,0),(16,6),(21,6)] ?_
  have hb16:i4<l.length:=by omega
  obtain⟨q17,_,xe18,_⟩:=hx14.get hb16
  subst xe18
  obtain⟨p19,hp20⟩:∃ p,l[i4]?=some p:=⟨_,List.getElem?_eq_getElem hb16⟩
  have k21:(0:Int)≤(i4:Int):=by omega
  obtain⟨_,hq23⟩:=hx14.at
  have re24:=fun (o:Bool)(kk:Nat)=>(qX yW (k:=kk) hp20 (j:=0) (by decide) o).trans (p19.int_at 0 rfl).1
  obtain⟨t25,c26,ht27⟩:=zH (p19.int 0) (10) (12)
  try simp only[↓zP,zQ,a7,a9,k21,h15,qB,hq23,re24]
  refine qN rfl c26 ?_
  cases t25 with
  | false =>
   have k28:¬ (10≤p19.int 0∧p19.int 0≤12):=fun h=>by have:=ht27.2 h;cases this
   try simp only[↓zP,zQ,bo_v,↓uE,↓qC]
   refine⟨zX (zX (zX (qH))),?_⟩
   exact⟨_,rfl,E10,fun h=>by first | (cases h;done) | (simp at h;done) | (have h2:=of_decide_eq_true h;omega) | omega⟩
  | true =>
   by_cases h30:(0:Int)<((i4:Int))
   ·have e31:IntKind.i64.wrap (((i4:Int)) - 1)=((i4:Int)) - 1:=w64 (by omega) (by omega)
    obtain⟨j33,hj34,hb32⟩:∃ j:Nat,((i4:Int)) - 1=(j:Int)∧j<l.length:=⟨Int.toNat (((i4:Int)) - 1),by omega,by omega⟩
    obtain⟨p35,hp36⟩:∃ p,l[j33]?=some p:=⟨_,List.getElem?_eq_getElem hb32⟩
    have k38:(0:Int)≤(j33:Int):=by omega
    have k39:(j33:Int)<(l.length:Int):=by omega
    have re40:=fun (o:Bool)(kk:Nat)=>(qX yW (k:=kk) hp36 (j:=0) (by decide) o).trans (p35.int_at 0 rfl).1
    have re41:=fun (o:Bool)(kk:Nat)=>(qX yW (k:=kk) hp20 (j:=0) (by decide) o).trans (p19.int_at 0 rfl).1
    try simp only[↓zP,zQ,a9,h30,a7,(e31.trans hj34),k21,h15,qB,qA,↓qC,hq23,re41,k38,k39,re40]
    refine⟨zX (zX (zX (qH))),?_⟩
    by_cases h42:(p19.int 0)≤(p35.int 0)
    ·try simp only[zQ,h42]
     exact⟨_,rfl,E10,fun h=>by first | (cases h;done) | (simp at h;done) | (have h2:=of_decide_eq_true h;omega) | omega⟩
    ·try simp only[zQ,h42]
     refine yL (ι:=Nat) (fun i s=>∃ (T:Nat→AV)(G:qE),s=⟨qY 55 T,G⟩∧Ext H G∧i≤i4∧T 0=.sl q17 0 l.length 2∧T 2=.sc (.bool false)∧T 3=.sc (.int .i64 ((i4:Int)))∧T 4=.sc (.int .i64 i)) (fun i=>i4 - i) ?_ (i:=0) ?_
     rotate_left
     ·exact⟨_,_,rfl,E10,Nat.zero_le _,(by first | rfl | simp only[zQ,a7]),(by first | rfl | simp only[zQ,a8]),(by first | rfl | simp only[zQ,a9]),(by first | rfl | simp only[])⟩
     rintro i43 s ⟨T44,Z45,rfl,E50,hi51,a46,a47,a48,a49⟩
     have e52:i43<i4→IntKind.i64.wrap ((i43:Int)+1)=((i43+1:Nat):Int):=fun h=>by rw[w64 (by omega) (by omega)];omega
     by_cases h53:((i43:Int))<((i4:Int))
     ·try simp only[↓zP,zQ,↓qC,a49,Nat.reduceEqDiff,a48,h53,reduceCtorEq,a46]
      refine zD [(4,0),(9,0)] ?_
      have hb54:i43<l.length:=by omega
      obtain⟨p55,hp56⟩:∃ p,l[i43]?=some p:=⟨_,List.getElem?_eq_getElem hb54⟩
      have k57:(0:Int)≤(i43:Int):=by omega
      have k58:(i43:Int)<(l.length:Int):=by omega
      obtain⟨_,hq60⟩:=(hx.ext E50).at
      have re61:=fun (o:Bool)(kk:Nat)=>(qX yW (k:=kk) hp56 (j:=1) (by decide) o).trans (p55.int_at 1 rfl).1
      have re62:=fun (o:Bool)(kk:Nat)=>(qX yW (k:=kk) hp20 (j:=1) (by decide) o).trans (p19.int_at 1 rfl).1
      try simp only[↓zP,zQ,a46,a49,k57,k58,qB,a48,k21,h15,↓qC,hq60,re62,re61]
      refine⟨zX (zX (qH)),?_⟩
      by_cases h63:(p55.int 1)=(p19.int 1)
      ·have h64:=eq_true h63
       try simp only[zQ,h64]
       exact⟨_,rfl,E50,fun h=>by first | (cases h;done) | (simp at h;done) | (have h2:=of_decide_eq_true h;omega) | omega⟩
      ·have e65:=e52 (by omega)
       try simp only[zQ,h63,e65]
       refine⟨i43+1,by omega,_,_,rfl,E50,by omega,?_,?_,?_,?_⟩<;>simp only[zQ,a46,a47,a48]<;>rfl
     ·have e66:=e12 (by omega)
      try simp only[↓zP,zQ,↓qC,a49,Nat.reduceEqDiff,a48,h53,e66,reduceCtorEq,a46]
      refine⟨i4+1,by omega,_,_,rfl,E50,by omega,?_,?_,?_⟩<;>simp only[zQ,a46,a47]<;>rfl
   ·try simp only[↓zP,zQ,a9,h30,qA,↓qC]
    refine⟨zX (zX (zX (qH))),?_⟩
    refine yL (ι:=Nat) (fun i s=>∃ (T:Nat→AV)(G:qE),s=⟨qY 55 T,G⟩∧Ext H G∧i≤i4∧T 0=.sl q17 0 l.length 2∧T 2=.sc (.bool false)∧T 3=.sc (.int .i64 ((i4:Int)))∧T 4=.sc (.int .i64 i)) (fun i=>i4 - i) ?_ (i:=0) ?_
    rotate_left
    ·exact⟨_,_,rfl,E10,Nat.zero_le _,(by first | rfl | simp only[zQ,a7]),(by first | rfl | simp only[zQ,a8]),(by first | rfl | simp only[zQ,a9]),(by first | rfl | simp only[])⟩
    rintro i67 s ⟨T68,Z69,rfl,E74,hi75,a70,a71,a72,a73⟩
    have e76:i67<i4→IntKind.i64.wrap ((i67:Int)+1)=((i67+1:Nat):Int):=fun h=>by rw[w64 (by omega) (by omega)];omega
    by_cases h77:((i67:Int))<((i4:Int))
    ·try simp only[↓zP,zQ,↓qC,a73,Nat.reduceEqDiff,a72,h77,reduceCtorEq,a70]
     refine zD [(4,0),(9,0)] ?_
     have hb78:i67<l.length:=by omega
     obtain⟨p79,hp80⟩:∃ p,l[i67]?=some p:=⟨_,List.getElem?_eq_getElem hb78⟩
     have k81:(0:Int)≤(i67:Int):=by omega
     have k82:(i67:Int)<(l.length:Int):=by omega
     obtain⟨_,hq84⟩:=(hx.ext E74).at
     have re85:=fun (o:Bool)(kk:Nat)=>(qX yW (k:=kk) hp80 (j:=1) (by decide) o).trans (p79.int_at 1 rfl).1
     have re86:=fun (o:Bool)(kk:Nat)=>(qX yW (k:=kk) hp20 (j:=1) (by decide) o).trans (p19.int_at 1 rfl).1
     try simp only[↓zP,zQ,a70,a73,k81,k82,qB,a72,k21,h15,↓qC,hq84,re86,re85]
     refine⟨zX (zX (qH)),?_⟩
     by_cases h87:(p79.int 1)=(p19.int 1)
     ·have h88:=eq_true h87
      try simp only[zQ,h88]
      exact⟨_,rfl,E74,fun h=>by first | (cases h;done) | (simp at h;done) | (have h2:=of_decide_eq_true h;omega) | omega⟩
     ·have e89:=e76 (by omega)
      try simp only[zQ,h87,e89]
      refine⟨i67+1,by omega,_,_,rfl,E74,by omega,?_,?_,?_,?_⟩<;>simp only[zQ,a70,a71,a72]<;>rfl
    ·have e90:=e12 (by omega)
     try simp only[↓zP,zQ,↓qC,a73,Nat.reduceEqDiff,a72,h77,e90,reduceCtorEq,a70]
     refine⟨i4+1,by omega,_,_,rfl,E74,by omega,?_,?_,?_⟩<;>simp only[zQ,a70,a71]<;>rfl
 ·have ln91:=fun e=>hx14.len e
  try simp only[↓zP,zQ,↓qC,a9,a7,ln13,h15]
  exact⟨_,rfl,E10,fun h=>by first | (cases h;done) | (simp at h;done) | (have h2:=of_decide_eq_true h;omega) | omega⟩
theorem leasedW {H:qE}(k:Int)(wk:W64 k){x:AV}{l:List (Rw kLease)}(hx:RdX Rw.cs 2 H x l)(bx:l.length≤1000000):∃ (q:Nat)(m:List (Rw kLease))(p:Int)(bb:Bool)(Z:qE),Sound Tryz.prog 173 [x,k] H (.tup [.sl q 0 m.length 2,.sc (.int .i64 p),.sc (.bool bb)]) Z∧Ext H Z∧H.length≤q∧Z[q]?=some ⟨rows Rw.cs m,true,true⟩∧m.length≤l.length+60∧W64 p:=by
 suffices h:∃ w Z,Sound Tryz.prog 173 [x,k] H w Z∧∃ (q:Nat)(m:List (Rw kLease))(p:Int)(bb:Bool),w=.tup [.sl q 0 m.length 2,.sc (.int .i64 p),.sc (.bool bb)]∧Ext H Z∧H.length≤q∧Z[q]?=some ⟨rows Rw.cs m,true,true⟩∧m.length≤l.length+60∧W64 p by
  obtain⟨w,Z,h1,q,m,p,bb,rfl,h2⟩:=h
  exact⟨q,m,p,bb,Z,h1,h2⟩
 refine zR 83 [.tmp 4,.tmp 5,.tmp 6] Tryz.func173 ?_
 have E0:=Ext.refl H
 have o1:=hx.one
 obtain⟨b2,e3,nn4⟩:=yN (H0:=H) (i:=H.length) (by simp) E0.1 ⟨[],true,true⟩
 have c5:=b2.1
 have E6:=E0.trans e3
 have hx7:=hx.ext E6
 obtain⟨q8,l9,Z10,ap11,e12,b13,K14,nn15⟩:=uB apS30 yW (l1:=[]) (n:=0) b2 E6.1 rfl (hx7.src yW) rfl (by (try simp only[List.length_cons,List.length_nil]);omega)
 have ap16:apR _ _ _ _ _ (some ⟨[],true,true⟩) _=_:=ap11
 have ln17:l9.length=0+l.length:=by rw[e12,List.length_append];try rfl
 have E18:=E6.kil K14 b2.2
 have hx19:=hx.ext E18
 obtain⟨r20,Z21,c22,e23,f24⟩:=poolOkW hx19 (by omega)
 try simp only[↓zP,zQ,↓qC,Nat.reduceLT,reduceCtorEq,Nat.reduceEqDiff,c5,ap16]
 refine qF rfl c22 ?_
 cases r20 with
 | false =>
  try simp only[↓zP,zQ,Nat.reduceLT,↓qC,Nat.reduceEqDiff]
  have b25:=b13.ext e23
  have E26:=E18.trans e23
  exact⟨(q8),l9,_,_,rfl,E26,b25.2,b25.1,by omega,⟨by decide,by decide⟩⟩
 | true =>
  have pk27:=f24 rfl
  have E29:=E18.trans e23
  have hx30:=hx.ext E29
  have ln28:=fun e=>hx30.len e
  try simp only[↓zP,zQ,Nat.reduceLT,↓qC,Nat.reduceEqDiff]
  have b34:=b13.ext e23
  refine yL (ι:=Nat) (fun i s=>∃ (T:Nat→AV)(G:qE),s=⟨qY 83 T,G⟩∧Ext H G∧i≤l.length∧LclE G H.length (q8) ⟨rows Rw.cs l9,true,true⟩∧T 0=x∧T 1=.sc (.int .i64 (k))∧T 4=.sc (.slice none 0 0)∧T 5=.sc (.int .i64 (0))∧T 6=.sc (.bool false)∧T 7=.sl (q8) 0 l9.length 2∧T 8=.sc (.int .i64 i)) (fun i=>l.length - i) ?_ (i:=0) ?_
  rotate_left
  ·exact⟨_,_,rfl,E29,Nat.zero_le _,b34,rfl,rfl,rfl,rfl,rfl,rfl,rfl⟩
  rintro i31 s ⟨T32,Z33,rfl,E42,hi43,b44,a35,a36,a37,a38,a39,a40,a41⟩
  have e45:i31<l.length→IntKind.i64.wrap ((i31:Int)+1)=((i31+1:Nat):Int):=fun h=>by rw[w64 (by omega) (by omega)];omega
  have hx47:=hx.ext E42
  have ln46:=fun e=>hx47.len e
  by_cases h48:((i31:Int))<(l.length:Int)
  ·have hb49:i31<l.length:=by omega
   obtain⟨q50,_,xe51,_⟩:=hx47.get hb49
   subst xe51
   obtain⟨p52,hp53⟩:∃ p,l[i31]?=some p:=⟨_,List.getElem?_eq_getElem hb49⟩
   have k54:(0:Int)≤(i31:Int):=by omega
   have k55:(i31:Int)<(l.length:Int):=by omega
   obtain⟨_,hq56⟩:=hx47.at
   have re57:=fun (o:Bool)(kk:Nat)=>(qX yW (k:=kk) hp53 (j:=1) (by decide) o).trans (p52.int_at 1 rfl).1
   by_cases h58:(p52.int 1)=k
   ·have h59:=eq_true h58
    try simp only[↓zP,zQ,↓qC,Nat.reduceLT,a41,reduceCtorEq,a35,ln46,Nat.reduceEqDiff,k54,h48,qB,a36,hq56,re57,h59]
    refine zD [(5,0)] ?_
    have re60:=fun (o:Bool)(kk:Nat)=>(qX yW (k:=kk) hp53 (j:=0) (by decide) o).trans (p52.int_at 0 rfl).1
    try simp only[↓zP,zQ,Nat.reduceLT,Nat.reduceEqDiff,a40,reduceCtorEq,a35,a41,k54,h48,qB,hq56,re60]
    refine⟨zX (qH),?_⟩
    exact⟨(q8),l9,_,_,rfl,E42,b44.2,b44.1,by omega,(p52.w64 0 rfl)⟩
   ·have e61:=e45 (by omega)
    try simp only[↓zP,zQ,↓qC,Nat.reduceLT,a41,reduceCtorEq,a35,ln46,Nat.reduceEqDiff,k54,h48,qB,a36,e61,hq56,re57,h58]
    refine⟨i31+1,by omega,_,_,rfl,E42,by omega,b44,?_,?_,?_,?_,?_,?_,?_⟩<;>simp only[zQ,reduceCtorEq,a35,Nat.reduceEqDiff,a36,a37,a38,a39,a40]<;>rfl
  ·obtain⟨b62,e63,nn64⟩:=yN (H0:=H) (i:=Z33.length) (by simp) E42.1 ⟨[],true,true⟩
   try simp only[↓zP,zQ,↓qC,Nat.reduceLT,a41,reduceCtorEq,a35,ln46,Nat.reduceEqDiff,a36,h48]
   have E68:=E42.trans e63
   have b71:=b44.ext e63
   refine yL (ι:=Nat) (fun i s=>∃ (T:Nat→AV)(G:qE)(v72:Int)(q69:Nat)(l70:List (Rw kLease)),s=⟨qY 83 T,G⟩∧Ext H G∧10≤i∧i≤13∧LclE G H.length (q8) ⟨rows Rw.cs l9,true,true⟩∧W64 v72∧LclE G H.length q69 ⟨rows Rw.cs l70,true,true⟩∧l70.length≤0+4*i∧(q8)≠q69∧T 0=x∧T 1=.sc (.int .i64 (k))∧T 4=.sc (.slice none 0 0)∧T 5=.sc (.int .i64 (0))∧T 6=.sc (.bool false)∧T 7=.sl (q8) 0 l9.length 2∧T 10=.sc (.int .i64 (v72))∧T 9=.sl q69 0 l70.length 2∧T 11=.sc (.int .i64 i)) (fun i=>13 - i) ?_ (i:=10) ?_
   rotate_left
   ·exact⟨_,_,(0),(Z33.length),[],rfl,E68,Nat.le_refl _,(by omega),b71,⟨by decide,by decide⟩,b62,(by simp),(Ne.symm (Ne.symm (nn64 _ _ b44.1))),(by first | rfl | simp only[zQ,reduceCtorEq,a35]),(by first | rfl | simp only[zQ,Nat.reduceEqDiff,a36]),(by first | rfl | simp only[zQ,Nat.reduceEqDiff,a37]),(by first | rfl | simp only[zQ,Nat.reduceEqDiff,a38]),(by first | rfl | simp only[zQ,Nat.reduceEqDiff,a39]),(by first | rfl | simp only[zQ,Nat.reduceEqDiff,a40]),(by first | rfl | simp only[]),(by first | rfl | simp only[]),(by first | rfl | simp only[])⟩
   rintro i65 s ⟨T66,Z67,v72,q69,l70,rfl,E82,hi83,hi84,b85,w86,b87,hl88,ne89,a73,a74,a75,a76,a77,a78,a79,a80,a81⟩
   have e90:i65<13→IntKind.i64.wrap ((i65:Int)+1)=((i65+1:Nat):Int):=fun h=>by rw[w64 (by omega) (by omega)];omega
   by_cases h91:((i65:Int))<(13:Int)
   ·have hx93:=hx.ext E82
    have ln92:=fun e=>hx93.len e
    try simp only[↓zP,zQ,↓qC,Nat.reduceLT,a81,h91,Nat.reduceEqDiff,a79,a78,a80]
    refine yL (ι:=Nat) (fun i s=>∃ (T:Nat→AV)(G:qE)(t99:Bool)(q97:Nat)(l98:List (Rw kLease)),s=⟨qY 83 T,G⟩∧Ext H G∧i≤l.length∧LclE G H.length (q8) ⟨rows Rw.cs l9,true,true⟩∧LclE G H.length q97 ⟨rows Rw.cs l98,true,true⟩∧l98.length≤l70.length+1*i∧(q8)≠q97∧T 0=x∧T 1=.sc (.int .i64 (k))∧T 4=.sc (.slice none 0 0)∧T 5=.sc (.int .i64 (0))∧T 6=.sc (.bool false)∧T 7=.sl (q8) 0 l9.length 2∧T 10=.sc (.int .i64 (v72))∧T 11=.sc (.int .i64 ((i65:Int)))∧T 12=.sc (.bool t99)∧T 9=.sl q97 0 l98.length 2∧T 13=.sc (.int .i64 i)) (fun i=>l.length - i) ?_ (i:=0) ?_
    rotate_left
    ·exact⟨_,_,false,(q69),l70,rfl,E82,Nat.zero_le _,b85,b87,(by omega),(Ne.symm (Ne.symm ne89)),(by first | rfl | simp only[zQ,reduceCtorEq,a73]),(by first | rfl | simp only[zQ,Nat.reduceEqDiff,a74]),(by first | rfl | simp only[zQ,Nat.reduceEqDiff,a75]),(by first | rfl | simp only[zQ,Nat.reduceEqDiff,a76]),(by first | rfl | simp only[zQ,Nat.reduceEqDiff,a77]),(by first | rfl | simp only[zQ,Nat.reduceEqDiff,a78]),(by first | rfl | simp only[zQ,Nat.reduceEqDiff,a79]),(by first | rfl | simp only[zQ,Nat.reduceEqDiff,a81]),(by first | rfl | simp only[]),(by first | rfl | simp only[zQ,Nat.reduceEqDiff,a80]),(by first | rfl | simp only[])⟩
    rintro i94 s ⟨T95,Z96,t99,q97,l98,rfl,E111,hi112,b113,b114,hl115,ne116,a100,a101,a102,a103,a104,a105,a106,a107,a108,a109,a110⟩
    have e117:i94<l.length→IntKind.i64.wrap ((i94:Int)+1)=((i94+1:Nat):Int):=fun h=>by rw[w64 (by omega) (by omega)];omega
    have hx119:=hx.ext E111
    have ln118:=fun e=>hx119.len e
    by_cases h120:((i94:Int))<(l.length:Int)
    ·have hb121:i94<l.length:=by omega
     obtain⟨q122,_,xe123,_⟩:=hx119.get hb121
     subst xe123
     obtain⟨p124,hp125⟩:∃ p,l[i94]?=some p:=⟨_,List.getElem?_eq_getElem hb121⟩
     have k126:(0:Int)≤(i94:Int):=by omega
     have k127:(i94:Int)<(l.length:Int):=by omega
     obtain⟨_,hq128⟩:=hx119.at
     have re129:=fun (o:Bool)(kk:Nat)=>(qX yW (k:=kk) hp125 (j:=0) (by decide) o).trans (p124.int_at 0 rfl).1
     by_cases h130:(p124.int 0)=((i65:Int))
     ·have h131:=eq_true h130
      have re132:=fun (o:Bool)=>(xD yW hp125 o).trans (by rw[csLease])
      obtain⟨p133,hp134⟩:=((RowOk.int (p124.w64 0 rfl) (RowOk.int (p124.w64 1 rfl) RowOk.nil)):RowOk kLease [.sc (.int .i64 (p124.int 0)),.sc (.int .i64 (p124.int 1))])
      obtain⟨b135,e136,nn137⟩:=yN (H0:=H) (i:=Z96.length) (by simp) E111.1 ⟨[p124.int 0,p124.int 1],true,true⟩
      have b138:=b114.ext e136
      have c139:=b138.1
      have E140:=E111.trans e136
      obtain⟨q141,l142,Z143,ap144,e145,b146,K147,nn148⟩:=uB apS30 yW (l1:=l98) (n:=l98.length) b138 E140.1 rfl (xL yW (a:=p133) (by rw[hp134];exact b135.1)) rfl (by (try simp only[List.length_cons,List.length_nil]);omega)
      have ln149:l142.length=l98.length+1:=by rw[e145,List.length_append];try rfl
      have e150:=e117 (by omega)
      try simp -implicitDefEqProofs only[↓zP,zQ,↓qC,Nat.reduceLT,a110,reduceCtorEq,a100,ln118,Nat.reduceEqDiff,k126,h120,qB,a107,a109,e150,hq128,re132,Nat.reduceAdd,c139,ap144,re129,h131,a108,a106,a105]
      have E151:=E140.kil K147 b138.2
      have b152:=b113.ext e136
      have b153:=b152.kil K147 (Ne.symm (Ne.symm ne116))
      refine⟨i94+1,by omega,_,_,true,(q141),l142,rfl,E151,by omega,b153,b146,by omega,(Ne.symm (Ne.symm (nn148 _ _ b152.1))),?_,?_,?_,?_,?_,?_,?_,?_,?_,?_,?_⟩<;>simp only[zQ,reduceCtorEq,a100,Nat.reduceEqDiff,a101,a102,a103,a104,a105,a106,a107]<;>rfl
     ·have e154:=e117 (by omega)
      try simp only[↓zP,zQ,↓qC,Nat.reduceLT,a110,reduceCtorEq,a100,ln118,Nat.reduceEqDiff,k126,h120,qB,a107,a109,e154,hq128,re129,h130,a108,a106,a105]
      refine⟨i94+1,by omega,_,_,t99,(q97),l98,rfl,E111,by omega,b113,b114,by omega,(Ne.symm (Ne.symm ne116)),?_,?_,?_,?_,?_,?_,?_,?_,?_,?_,?_⟩<;>simp only[zQ,reduceCtorEq,a100,Nat.reduceEqDiff,a101,a102,a103,a104,a105,a106,a107,a108,a109]<;>rfl
    ·cases t99 with
     | false =>
      by_cases h155:v72=(0:Int)
      ·subst h155
       obtain⟨p156,hp157⟩:=((RowOk.int (by unfold W64;omega) (RowOk.int wk RowOk.nil)):RowOk kLease [.sc (.int .i64 ((i65:Int))),.sc (.int .i64 (k))])
       obtain⟨b158,e159,nn160⟩:=yN (H0:=H) (i:=Z96.length) (by simp) E111.1 ⟨[((i65:Int)),k],true,true⟩
       have b161:=b114.ext e159
       have c162:=b161.1
       have E163:=E111.trans e159
       obtain⟨q164,l165,Z166,ap167,e168,b169,K170,nn171⟩:=uB apS30 yW (l1:=l98) (n:=l98.length) b161 E163.1 rfl (xL yW (a:=p156) (by rw[hp157];exact b158.1)) rfl (by (try simp only[List.length_cons,List.length_nil]);omega)
       have ln172:l165.length=l98.length+1:=by rw[e168,List.length_append];try rfl
       have e173:=e90 (by omega)
       try simp -implicitDefEqProofs only[↓zP,zQ,↓qC,Nat.reduceLT,a110,reduceCtorEq,a100,ln118,Nat.reduceEqDiff,a107,a109,a108,a106,a101,e173,Nat.reduceAdd,c162,ap167,a105,h120]
       have E174:=E163.kil K170 b161.2
       have b175:=b113.ext e159
       have b176:=b175.kil K170 (Ne.symm (Ne.symm ne116))
       refine⟨i65+1,by omega,_,_,((i65:Int)),(q164),l165,rfl,E174,by omega,by omega,b176,(by unfold W64;omega),b169,by omega,(Ne.symm (Ne.symm (nn171 _ _ b175.1))),?_,?_,?_,?_,?_,?_,?_,?_,?_⟩<;>simp only[zQ,reduceCtorEq,a100,Nat.reduceEqDiff,a101,a102,a103,a104,a105]<;>rfl
      ·have e177:=e90 (by omega)
       try simp -implicitDefEqProofs only[↓zP,zQ,↓qC,Nat.reduceLT,a110,reduceCtorEq,a100,ln118,Nat.reduceEqDiff,a107,a109,a108,a106,h155,a101,e177,Nat.reduceAdd,a105,h120]
       refine⟨i65+1,by omega,_,_,(v72),(q97),l98,rfl,E111,by omega,by omega,b113,w86,b114,by omega,(Ne.symm (Ne.symm ne116)),?_,?_,?_,?_,?_,?_,?_,?_,?_⟩<;>simp only[zQ,reduceCtorEq,a100,Nat.reduceEqDiff,a101,a102,a103,a104,a105,a106,a109]<;>rfl
     | true =>
      have e178:=e90 (by omega)
      try simp -implicitDefEqProofs only[↓zP,zQ,↓qC,Nat.reduceLT,a110,reduceCtorEq,a100,ln118,Nat.reduceEqDiff,a107,a109,a108,qA,a101,e178,Nat.reduceAdd,a106,a105,h120]
      refine⟨i65+1,by omega,_,_,(v72),(q97),l98,rfl,E111,by omega,by omega,b113,w86,b114,by omega,(Ne.symm (Ne.symm ne116)),?_,?_,?_,?_,?_,?_,?_,?_,?_⟩<;>simp only[zQ,reduceCtorEq,a100,Nat.reduceEqDiff,a101,a102,a103,a104,a105,a106,a109]<;>rfl
   ·by_cases h179:v72=(0:Int)
    ·subst h179
     try simp only[↓zP,zQ,↓qC,Nat.reduceLT,a81,h91,Nat.reduceEqDiff,a79,a78,a80]
     exact⟨(q8),l9,_,_,rfl,E82,b85.2,b85.1,by omega,⟨by decide,by decide⟩⟩
    ·try simp only[↓zP,zQ,↓qC,Nat.reduceLT,a81,h91,Nat.reduceEqDiff,a79,h179,a78,a80]
     exact⟨(q69),l70,_,_,rfl,E82,b87.2,b87.1,by omega,w86⟩
theorem routesOkW {H:qE}{x:AV}{l:List (Rw xM)}(hx:RdX Rw.cs 3 H x l)(bx:l.length≤1000000):∃ (bb:Bool)(Z:qE),Sound Tryz.prog 58 [x] H (.sc (.bool bb)) Z∧Ext H Z:=by
 suffices h:∃ w Z,Sound Tryz.prog 58 [x] H w Z∧∃ (bb:Bool),w=.sc (.bool bb)∧Ext H Z by
  obtain⟨w,Z,h1,bb,rfl,h2⟩:=h
  exact⟨bb,Z,h1,h2⟩
 refine zR 69 [.tmp 2] Tryz.func58 ?_
 have E0:=Ext.refl H
 have o1:=hx.one
 have ln2:=fun e=>(hx.ext E0).len e
 try simp only[↓zP,zQ,↓qC]
 refine yL (ι:=Nat) (fun i s=>∃ (T:Nat→AV)(G:qE),s=⟨qY 69 T,G⟩∧Ext H G∧i≤l.length∧T 0=x∧T 2=.sc (.bool false)∧T 3=.sc (.int .i64 i)) (fun i=>l.length - i) ?_ (i:=0) ?_
 rotate_left
 ·exact⟨_,_,rfl,E0,Nat.zero_le _,rfl,rfl,rfl⟩
 rintro i4 s ⟨T5,Z6,rfl,E10,hi11,a7,a8,a9⟩
 have e12:i4<l.length→IntKind.i64.wrap ((i4:Int)+1)=((i4+1:Nat):Int):=fun h=>by rw[w64 (by omega) (by omega)];omega
 have hx14:=hx.ext E10
 have ln13:=fun e=>hx14.len e
 by_cases h15:((i4:Int))<(l.length:Int)
 ·have hb16:i4<l.length:=by omega
  obtain⟨q17,_,xe18,_⟩:=hx14.get hb16
  subst xe18
  obtain⟨p19,hp20⟩:∃ p,l[i4]?=some p:=⟨_,List.getElem?_eq_getElem hb16⟩
  have k21:(0:Int)≤(i4:Int):=by omega
  obtain⟨_,hq23⟩:=hx14.at
  have re24:=fun (o:Bool)=>(xD xT hp20 o).trans (by rw[csRoute])
  obtain⟨b25,e26,nn27⟩:=yN (H0:=H) (i:=Z6.length) (by simp) E10.1 ⟨[(0:Int),(0:Int),(0:Int)],true,true⟩
  have E29:=E10.trans e26
  have b30:=b25.put ⟨[p19.int 0,p19.int 1,p19.int 2],true,true⟩
  have c31:=b30.1
  obtain⟨t32,c33,ht34⟩:=zH (p19.int 1) (0) (8)
  try simp -implicitDefEqProofs only[↓zP,zQ,↓qC,Nat.reduceLT,a9,reduceCtorEq,a7,ln13,Nat.reduceEqDiff,k21,h15,qB,(b25.1),Nat.reduceAdd,hq23,re24,xZ,xY,c31]
  refine qN rfl c33 ?_
  cases t32 with
  | false =>
   have k35:¬ (0≤p19.int 1∧p19.int 1≤8):=fun h=>by have:=ht34.2 h;cases this
   try simp only[↓zP,zQ,Nat.reduceLT,Nat.reduceEqDiff,↓qC]
   have E36:=E29.set b25.2 ⟨[p19.int 0,p19.int 1,p19.int 2],true,true⟩
   exact⟨_,rfl,E36⟩
  | true =>
   have k37:=ht34.1 rfl
   obtain⟨t38,c39,ht40⟩:=zH (p19.int 0) (0) (255)
   try simp only[↓zP,zQ,Nat.reduceLT,Nat.reduceEqDiff,c31]
   refine qN rfl c39 ?_
   cases t38 with
   | false =>
    have k41:¬ (0≤p19.int 0∧p19.int 0≤255):=fun h=>by have:=ht40.2 h;cases this
    try simp only[↓zP,zQ,Nat.reduceLT,Nat.reduceEqDiff,qA,↓qC]
    have E42:=E29.set b25.2 ⟨[p19.int 0,p19.int 1,p19.int 2],true,true⟩
    exact⟨_,rfl,E42⟩
   | true =>
    have k43:=ht40.1 rfl
    obtain⟨t44,c45,ht46⟩:=zH (p19.int 2) (0) (9)
    try simp only[↓zP,zQ,Nat.reduceLT,Nat.reduceEqDiff,qA,c31]
    refine qN rfl c45 ?_
    cases t44 with
    | false =>
     have k47:¬ (0≤p19.int 2∧p19.int 2≤9):=fun h=>by have:=ht46.2 h;cases this
     try simp only[↓zP,zQ,Nat.reduceLT,Nat.reduceEqDiff,qA,↓qC]
     have E48:=E29.set b25.2 ⟨[p19.int 0,p19.int 1,p19.int 2],true,true⟩
     exact⟨_,rfl,E48⟩
    | true =>
     have k49:=ht46.1 rfl
     have nu50:=u64n (IntKind.i64.wrap (8 - (p19.int 1)))
     have hz51:¬ (IntKind.i64.wrap (1*2 ^ min (IntKind.u64.wrap (IntKind.i64.wrap (8 - (p19.int 1)))).toNat 64))=0:=by
      have h:p19.int 1=0∨p19.int 1=1∨p19.int 1=2∨p19.int 1=3∨p19.int 1=4∨p19.int 1=5∨p19.int 1=6∨p19.int 1=7∨p19.int 1=8:=by omega
      rcases h with h | h | h | h | h | h | h | h | h<;>rw[h]<;>decide
     by_cases h52:(Int.tmod (p19.int 0) (IntKind.i64.wrap (1*2 ^ min (IntKind.u64.wrap (IntKind.i64.wrap (8 - (p19.int 1)))).toNat 64)))=(0:Int)
     ·have h53:=eq_true h52
      try simp only[↓zP,zQ,Nat.reduceLT,Nat.reduceEqDiff,qA,↓qC,c31,nu50,hz51,h53]
      have E57:=E29.set b25.2 ⟨[p19.int 0,p19.int 1,p19.int 2],true,true⟩
      refine yL (ι:=Nat) (fun i s=>∃ (T:Nat→AV)(G:qE),s=⟨qY 69 T,G⟩∧Ext H G∧i≤i4∧LclE G H.length (Z6.length) ⟨[p19.int 0,p19.int 1,p19.int 2],true,true⟩∧T 0=.sl q17 0 l.length 3∧T 2=.sc (.bool false)∧T 3=.sc (.int .i64 ((i4:Int)))∧T 4=.ptr (Z6.length) 0∧T 5=.sc (.int .i64 i)) (fun i=>i4 - i) ?_ (i:=0) ?_
      rotate_left
      ·exact⟨_,_,rfl,E57,Nat.zero_le _,b30,(by first | rfl | simp only[zQ,reduceCtorEq,a7]),(by first | rfl | simp only[zQ,Nat.reduceEqDiff,a8]),(by first | rfl | simp only[zQ,Nat.reduceEqDiff,a9]),(by first | rfl | simp only[]),(by first | rfl | simp only[])⟩
      rintro i54 s ⟨T55,Z56,rfl,E63,hi64,b65,a58,a59,a60,a61,a62⟩
      have e66:i54<i4→IntKind.i64.wrap ((i54:Int)+1)=((i54+1:Nat):Int):=fun h=>by rw[w64 (by omega) (by omega)];omega
      by_cases h67:((i54:Int))<((i4:Int))
      ·try simp only[↓zP,zQ,↓qC,Nat.reduceLT,a62,Nat.reduceEqDiff,a60,h67,reduceCtorEq,a58]
       refine zD [(4,0),(6,0),(13,0),(15,0)] ?_
       have hb68:i54<l.length:=by omega
       obtain⟨p69,hp70⟩:∃ p,l[i54]?=some p:=⟨_,List.getElem?_eq_getElem hb68⟩
       have k71:(0:Int)≤(i54:Int):=by omega
       have k72:(i54:Int)<(l.length:Int):=by omega
       obtain⟨_,hq74⟩:=(hx.ext E63).at
       have re75:=fun (o:Bool)(kk:Nat)=>(qX xT (k:=kk) hp70 (j:=0) (by decide) o).trans (p69.int_at 0 rfl).1
       have c76:=b65.1
       by_cases h77:(p69.int 0)=(p19.int 0)
       ·have h78:=eq_true h77
        have re79:=fun (o:Bool)(kk:Nat)=>(qX xT (k:=kk) hp70 (j:=1) (by decide) o).trans (p69.int_at 1 rfl).1
        try simp only[↓zP,zQ,Nat.reduceLT,reduceCtorEq,a58,Nat.reduceEqDiff,a62,k71,k72,qB,a61,c76,hq74,re75,h78,↓qC,re79]
        refine⟨zX (zX (zX (zX (qH)))),?_⟩
        by_cases h80:(p69.int 1)=(p19.int 1)
        ·have h81:=eq_true h80
         try simp only[zQ,h81]
         exact⟨_,rfl,E63⟩
        ·have e82:=e66 (by omega)
         try simp only[zQ,h80,e82]
         refine⟨i54+1,by omega,_,_,rfl,E63,by omega,b65,?_,?_,?_,?_,?_⟩<;>simp only[zQ,reduceCtorEq,a58,Nat.reduceEqDiff,a59,a60,a61]<;>rfl
       ·try simp only[↓zP,zQ,Nat.reduceLT,reduceCtorEq,a58,Nat.reduceEqDiff,a62,k71,k72,qB,a61,c76,hq74,re75,h77,qA,↓qC]
        refine⟨zX (zX (zX (zX (qH)))),?_⟩
        try simp only[(e66 (by omega))]
        refine⟨i54+1,by omega,_,_,rfl,E63,by omega,b65,?_,?_,?_,?_,?_⟩<;>simp only[zQ,reduceCtorEq,a58,Nat.reduceEqDiff,a59,a60,a61]<;>rfl
      ·have e84:=e12 (by omega)
       try simp only[↓zP,zQ,↓qC,Nat.reduceLT,a62,Nat.reduceEqDiff,a60,h67,e84,reduceCtorEq,a58]
       refine⟨i4+1,by omega,_,_,rfl,E63,by omega,?_,?_,?_⟩<;>simp only[zQ,reduceCtorEq,a58,Nat.reduceEqDiff,a59]<;>rfl
     ·try simp only[↓zP,zQ,Nat.reduceLT,Nat.reduceEqDiff,qA,↓qC,c31,nu50,hz51,h52]
      have E85:=E29.set b25.2 ⟨[p19.int 0,p19.int 1,p19.int 2],true,true⟩
      exact⟨_,rfl,E85⟩
 ·have ln86:=fun e=>hx14.len e
  try simp -implicitDefEqProofs only[↓zP,zQ,↓qC,Nat.reduceLT,a9,reduceCtorEq,a7,ln13,Nat.reduceEqDiff,Nat.reduceAdd,h15]
  exact⟨_,rfl,E10⟩
theorem copyW {H:qE}(gn gx gd:Int)(wgn:W64 gn)(wgx:W64 gx)(wgd:W64 gd){N:Nat}(hN:N≤1000000){x5:AV}{l5:List (Rw kSess)}(hx5:RdX Rw.cs 20 H x5 l5)(bx5:l5.length≤64){x6:AV}{l6:List (Rw kLease)}(hx6:RdX Rw.cs 2 H x6 l6)(bx6:l6.length≤N){x7:AV}{l7:List (Rw xM)}(hx7:RdX Rw.cs 3 H x7 l7)(bx7:l7.length≤N){x8:AV}{l8:List (Rw kOut)}(hx8:RdX Rw.cs 5 H x8 l8)(bx8:l8.length≤N):∃ (q5:Nat)(q6:Nat)(q7:Nat)(q8:Nat)(Z:qE),Sound Tryz.prog 87 [.agg [gn,gx,x5,x6,x7,x8,gd]] H (.agg [gn,gx,.sl q5 0 l5.length 20,.sl q6 0 l6.length 2,.sl q7 0 l7.length 3,.sl q8 0 l8.length 5,gd]) Z∧Ext H Z∧LclE Z H.length q5 ⟨rows Rw.cs l5,true,true⟩∧LclE Z H.length q6 ⟨rows Rw.cs l6,true,true⟩∧LclE Z H.length q7 ⟨rows Rw.cs l7,true,true⟩∧LclE Z H.length q8 ⟨rows Rw.cs l8,true,true⟩∧(q5≠q6∧q5≠q7∧q5≠q8∧q6≠q7∧q6≠q8∧q7≠q8):=by
 suffices h:∃ w Z,Sound Tryz.prog 87 [.agg [gn,gx,x5,x6,x7,x8,gd]] H w Z∧∃ (q5:Nat)(q6:Nat)(q7:Nat)(q8:Nat),w=.agg [gn,gx,.sl q5 0 l5.length 20,.sl q6 0 l6.length 2,.sl q7 0 l7.length 3,.sl q8 0 l8.length 5,gd]∧Ext H Z∧LclE Z H.length q5 ⟨rows Rw.cs l5,true,true⟩∧LclE Z H.length q6 ⟨rows Rw.cs l6,true,true⟩∧LclE Z H.length q7 ⟨rows Rw.cs l7,true,true⟩∧LclE Z H.length q8 ⟨rows Rw.cs l8,true,true⟩∧(q5≠q6∧q5≠q7∧q5≠q8∧q6≠q7∧q6≠q8∧q7≠q8) by
  obtain⟨w,Z,h1,q5,q6,q7,q8,rfl,h2⟩:=h
  exact⟨q5,q6,q7,q8,Z,h1,h2⟩
 refine zR 26 [.cell 2 34] Tryz.func87 ?_
 have E0:=Ext.refl H
 obtain⟨b5,e6,nn7⟩:=yN (H0:=H) (i:=H.length) (by simp) E0.1 ⟨[gn,gx,x5,x6,x7,x8,gd],true,true⟩
 have E8:=E0.trans e6
 obtain⟨b9,e10,nn11⟩:=yN (H0:=H) (i:=H.length+1) (by simp) E8.1 ⟨[(0:Int),(0:Int),.sc (.slice none 0 0),.sc (.slice none 0 0),.sc (.slice none 0 0),.sc (.slice none 0 0),(0:Int)],true,true⟩
 have b12:=b5.ext e10
 have E14:=E8.trans e10
 obtain⟨b15,e16,nn17⟩:=yN (H0:=H) (i:=H.length+1+1) (by simp) E14.1 ⟨[(0:Int),(0:Int),.sc (.slice none 0 0),.sc (.slice none 0 0),.sc (.slice none 0 0),.sc (.slice none 0 0),(0:Int)],true,true⟩
 have E20:=(E14.trans e16).set b15.2 ⟨[gn,gx,x5,x6,x7,x8,gd],true,true⟩
 obtain⟨b21,e22,nn23⟩:=yN (H0:=H) (i:=H.length+1+1+1) (by simp) E20.1 ⟨[],true,true⟩
 have b25:=(b12.ext e16).oth (Ne.symm (nn17 _ _ b12.1)) ⟨[gn,gx,x5,x6,x7,x8,gd],true,true⟩
 have b26:=b25.ext e22
 have E29:=E20.trans e22
 obtain⟨q31,l32,Z33,ap34,e35,b36,K37,nn38⟩:=uB apS29 yK (l1:=[]) (n:=0) b21 E29.1 rfl ((hx5.ext E29).src yK) rfl (by (try simp only[List.length_cons,List.length_nil]);omega)
 have ap39:apR _ _ _ _ _ (some ⟨[],true,true⟩) _=_:=ap34
 have b41:=b15.put ⟨[gn,gx,x5,x6,x7,x8,gd],true,true⟩
 have b42:=b41.ext e22
 have b43:=b42.kil K37 (Ne.symm (Ne.symm (nn23 _ _ b41.1)))
 have E46:=(E29.kil K37 b21.2).set b43.2 ⟨[gn,gx,.sl q31 0 l32.length 20,x6,x7,x8,gd],true,true⟩
 obtain⟨b47,e48,nn49⟩:=yN (H0:=H) (i:=Z33.length) (by simp) E46.1 ⟨[],true,true⟩
 have b51:=(b26.kil K37 (Ne.symm (Ne.symm (nn23 _ _ b25.1)))).oth (Ne.symm (nn17 _ _ b12.1)) ⟨[gn,gx,.sl q31 0 l32.length 20,x6,x7,x8,gd],true,true⟩
 have b52:=b51.ext e48
 have E55:=E46.trans e48
 obtain⟨q57,l58,Z59,ap60,e61,b62,K63,nn64⟩:=uB apS30 yW (l1:=[]) (n:=0) b47 E55.1 rfl ((hx6.ext E55).src yW) rfl (by (try simp only[List.length_cons,List.length_nil]);omega)
 have ap65:apR _ _ _ _ _ (some ⟨[],true,true⟩) _=_:=ap60
 have b67:=b43.put ⟨[gn,gx,.sl q31 0 l32.length 20,x6,x7,x8,gd],true,true⟩
 have b68:=b67.ext e48
 have b69:=b68.kil K63 (Ne.symm (Ne.symm (nn49 _ _ b67.1)))
 have E72:=(E55.kil K63 b47.2).set b69.2 ⟨[gn,gx,.sl q31 0 l32.length 20,.sl q57 0 l58.length 2,x7,x8,gd],true,true⟩
 obtain⟨b73,e74,nn75⟩:=yN (H0:=H) (i:=Z59.length) (by simp) E72.1 ⟨[],true,true⟩
 have b77:=(b52.kil K63 (Ne.symm (Ne.symm (nn49 _ _ b51.1)))).oth (Ne.symm (nn17 _ _ b12.1)) ⟨[gn,gx,.sl q31 0 l32.length 20,.sl q57 0 l58.length 2,x7,x8,gd],true,true⟩
 have b78:=b77.ext e74
 have E81:=E72.trans e74
 obtain⟨q83,l84,Z85,ap86,e87,b88,K89,nn90⟩:=uB apS31 xT (l1:=[]) (n:=0) b73 E81.1 rfl ((hx7.ext E81).src xT) rfl (by (try simp only[List.length_cons,List.length_nil]);omega)
 have ap91:apR _ _ _ _ _ (some ⟨[],true,true⟩) _=_:=ap86
 have b93:=b69.put ⟨[gn,gx,.sl q31 0 l32.length 20,.sl q57 0 l58.length 2,x7,x8,gd],true,true⟩
 have b94:=b93.ext e74
 have b95:=b94.kil K89 (Ne.symm (Ne.symm (nn75 _ _ b93.1)))
 have E98:=(E81.kil K89 b73.2).set b95.2 ⟨[gn,gx,.sl q31 0 l32.length 20,.sl q57 0 l58.length 2,.sl q83 0 l84.length 3,x8,gd],true,true⟩
 obtain⟨b99,e100,nn101⟩:=yN (H0:=H) (i:=Z85.length) (by simp) E98.1 ⟨[],true,true⟩
 have E107:=E98.trans e100
 obtain⟨q109,l110,Z111,ap112,e113,b114,K115,nn116⟩:=uB apS32 jX (l1:=[]) (n:=0) b99 E107.1 rfl ((hx8.ext E107).src jX) rfl (by (try simp only[List.length_cons,List.length_nil]);omega)
 have ap117:apR _ _ _ _ _ (some ⟨[],true,true⟩) _=_:=ap112
 have b119:=b95.put ⟨[gn,gx,.sl q31 0 l32.length 20,.sl q57 0 l58.length 2,.sl q83 0 l84.length 3,x8,gd],true,true⟩
 have b120:=b119.ext e100
 have b121:=b120.kil K115 (Ne.symm (Ne.symm (nn101 _ _ b119.1)))
 have b127:=(b9.ext e16).oth (Ne.symm (nn17 _ _ b9.1)) ⟨[gn,gx,x5,x6,x7,x8,gd],true,true⟩
 have b128:=b127.ext e22
 have b130:=(b128.kil K37 (Ne.symm (Ne.symm (nn23 _ _ b127.1)))).oth (Ne.symm (nn17 _ _ b9.1)) ⟨[gn,gx,.sl q31 0 l32.length 20,x6,x7,x8,gd],true,true⟩
 have b131:=b130.ext e48
 have b133:=(b131.kil K63 (Ne.symm (Ne.symm (nn49 _ _ b130.1)))).oth (Ne.symm (nn17 _ _ b9.1)) ⟨[gn,gx,.sl q31 0 l32.length 20,.sl q57 0 l58.length 2,x7,x8,gd],true,true⟩
 have b134:=b133.ext e74
 have b136:=(b134.kil K89 (Ne.symm (Ne.symm (nn75 _ _ b133.1)))).oth (Ne.symm (nn17 _ _ b9.1)) ⟨[gn,gx,.sl q31 0 l32.length 20,.sl q57 0 l58.length 2,.sl q83 0 l84.length 3,x8,gd],true,true⟩
 have b137:=b136.ext e100
 have b139:=(b137.kil K115 (Ne.symm (Ne.symm (nn101 _ _ b136.1)))).oth (Ne.symm (nn17 _ _ b9.1)) ⟨[gn,gx,.sl q31 0 l32.length 20,.sl q57 0 l58.length 2,.sl q83 0 l84.length 3,.sl q109 0 l110.length 5,gd],true,true⟩
 try simp -implicitDefEqProofs only[↓zP,zQ,↓qC,Nat.reduceLT,Nat.reduceEqDiff,Nat.reduceAdd,(hx5.one),(hx6.one),(hx7.one),(hx8.one),(b12.1),xZ,xY,(b26.1),ap39,(b43.1),Nat.reduceLeDiff,(b52.1),ap65,(b69.1),(b78.1),ap91,(b95.1),((((b78.kil K89 (Ne.symm (Ne.symm (nn75 _ _ b77.1)))).oth (Ne.symm (nn17 _ _ b12.1)) ⟨[gn,gx,.sl q31 0 l32.length 20,.sl q57 0 l58.length 2,.sl q83 0 l84.length 3,x8,gd],true,true⟩).ext e100).1),ap117,(b121.1),((b121.put ⟨[gn,gx,.sl q31 0 l32.length 20,.sl q57 0 l58.length 2,.sl q83 0 l84.length 3,.sl q109 0 l110.length 5,gd],true,true⟩).1),(b139.1),((b139.put ⟨[gn,gx,.sl q31 0 l32.length 20,.sl q57 0 l58.length 2,.sl q83 0 l84.length 3,.sl q109 0 l110.length 5,gd],true,true⟩).1)]
 have b144:=b36.oth (nn38 _ _ b42.1) ⟨[gn,gx,.sl q31 0 l32.length 20,x6,x7,x8,gd],true,true⟩
 have b145:=b144.ext e48
 have b147:=(b145.kil K63 (Ne.symm (Ne.symm (nn49 _ _ b144.1)))).oth (nn38 _ _ b42.1) ⟨[gn,gx,.sl q31 0 l32.length 20,.sl q57 0 l58.length 2,x7,x8,gd],true,true⟩
 have b148:=b147.ext e74
 have b150:=(b148.kil K89 (Ne.symm (Ne.symm (nn75 _ _ b147.1)))).oth (nn38 _ _ b42.1) ⟨[gn,gx,.sl q31 0 l32.length 20,.sl q57 0 l58.length 2,.sl q83 0 l84.length 3,x8,gd],true,true⟩
 have b151:=b150.ext e100
 have b154:=((b151.kil K115 (Ne.symm (Ne.symm (nn101 _ _ b150.1)))).oth (nn38 _ _ b42.1) ⟨[gn,gx,.sl q31 0 l32.length 20,.sl q57 0 l58.length 2,.sl q83 0 l84.length 3,.sl q109 0 l110.length 5,gd],true,true⟩).oth (nn38 _ _ b128.1) ⟨[gn,gx,.sl q31 0 l32.length 20,.sl q57 0 l58.length 2,.sl q83 0 l84.length 3,.sl q109 0 l110.length 5,gd],true,true⟩
 have b155:=b62.oth (nn64 _ _ b68.1) ⟨[gn,gx,.sl q31 0 l32.length 20,.sl q57 0 l58.length 2,x7,x8,gd],true,true⟩
 have b156:=b155.ext e74
 have b158:=(b156.kil K89 (Ne.symm (Ne.symm (nn75 _ _ b155.1)))).oth (nn64 _ _ b68.1) ⟨[gn,gx,.sl q31 0 l32.length 20,.sl q57 0 l58.length 2,.sl q83 0 l84.length 3,x8,gd],true,true⟩
 have b159:=b158.ext e100
 have b162:=((b159.kil K115 (Ne.symm (Ne.symm (nn101 _ _ b158.1)))).oth (nn64 _ _ b68.1) ⟨[gn,gx,.sl q31 0 l32.length 20,.sl q57 0 l58.length 2,.sl q83 0 l84.length 3,.sl q109 0 l110.length 5,gd],true,true⟩).oth (nn64 _ _ b131.1) ⟨[gn,gx,.sl q31 0 l32.length 20,.sl q57 0 l58.length 2,.sl q83 0 l84.length 3,.sl q109 0 l110.length 5,gd],true,true⟩
 have b163:=b88.oth (nn90 _ _ b94.1) ⟨[gn,gx,.sl q31 0 l32.length 20,.sl q57 0 l58.length 2,.sl q83 0 l84.length 3,x8,gd],true,true⟩
 have b164:=b163.ext e100
 have b167:=((b164.kil K115 (Ne.symm (Ne.symm (nn101 _ _ b163.1)))).oth (nn90 _ _ b94.1) ⟨[gn,gx,.sl q31 0 l32.length 20,.sl q57 0 l58.length 2,.sl q83 0 l84.length 3,.sl q109 0 l110.length 5,gd],true,true⟩).oth (nn90 _ _ b134.1) ⟨[gn,gx,.sl q31 0 l32.length 20,.sl q57 0 l58.length 2,.sl q83 0 l84.length 3,.sl q109 0 l110.length 5,gd],true,true⟩
 have b169:=(b114.oth (nn116 _ _ b120.1) ⟨[gn,gx,.sl q31 0 l32.length 20,.sl q57 0 l58.length 2,.sl q83 0 l84.length 3,.sl q109 0 l110.length 5,gd],true,true⟩).oth (nn116 _ _ b137.1) ⟨[gn,gx,.sl q31 0 l32.length 20,.sl q57 0 l58.length 2,.sl q83 0 l84.length 3,.sl q109 0 l110.length 5,gd],true,true⟩
 have e170:l32=l5:=by rw[e35];rfl
 have e171:l58=l6:=by rw[e61];rfl
 have e172:l84=l7:=by rw[e87];rfl
 have e173:l110=l8:=by rw[e113];rfl
 have E174:=((E107.kil K115 b99.2).set b121.2 ⟨[gn,gx,.sl q31 0 l32.length 20,.sl q57 0 l58.length 2,.sl q83 0 l84.length 3,.sl q109 0 l110.length 5,gd],true,true⟩).set b139.2 ⟨[gn,gx,.sl q31 0 l32.length 20,.sl q57 0 l58.length 2,.sl q83 0 l84.length 3,.sl q109 0 l110.length 5,gd],true,true⟩
 exact⟨(q31),(q57),(q83),(q109),(by rw[e170,e171,e172,e173]),E174,(by rw[←e170];exact b154),(by rw[←e171];exact b162),(by rw[←e172];exact b167),(by rw[←e173];exact b169),⟨(Ne.symm (Ne.symm (nn64 _ _ b145.1))),(Ne.symm (Ne.symm (nn90 _ _ b148.1))),(Ne.symm (Ne.symm (nn116 _ _ b151.1))),(Ne.symm (Ne.symm (nn90 _ _ b156.1))),(Ne.symm (Ne.symm (nn116 _ _ b159.1))),(Ne.symm (Ne.symm (nn116 _ _ b164.1)))⟩⟩
theorem turnGateW {H:qE}(gn gx gd c:Int)(wgn:W64 gn)(wgx:W64 gx)(wgd:W64 gd)(wc:W64 c){N:Nat}(hN:N≤1000000){x5:AV}{l5:List (Rw kSess)}(hx5:RdX Rw.cs 20 H x5 l5)(bx5:l5.length≤64){x6:AV}{l6:List (Rw kLease)}(hx6:RdX Rw.cs 2 H x6 l6)(bx6:l6.length≤N){x7:AV}{l7:List (Rw xM)}(hx7:RdX Rw.cs 3 H x7 l7)(bx7:l7.length≤N){x8:AV}{l8:List (Rw kOut)}(hx8:RdX Rw.cs 5 H x8 l8)(bx8:l8.length≤N):∃ (ds:List AV)(bb:Bool)(Z:qE),Sound Tryz.prog 94 [.agg [gn,gx,x5,x6,x7,x8,gd],c] H (.tup [.agg ds,.sc (.bool bb)]) Z∧Ext H Z∧Vd Z H.length (KG N) ds:=by
 suffices h:∃ w Z,Sound Tryz.prog 94 [.agg [gn,gx,x5,x6,x7,x8,gd],c] H w Z∧∃ (ds:List AV)(bb:Bool),w=.tup [.agg ds,.sc (.bool bb)]∧Ext H Z∧Vd Z H.length (KG N) ds by
  obtain⟨w,Z,h1,ds,bb,rfl,h2⟩:=h
  exact⟨ds,bb,Z,h1,h2⟩
 refine zR 45 [.cell 4 34,.tmp 5] Tryz.func94 ?_
 have E0:=Ext.refl H
 have o2:=hx6.one
 have o3:=hx7.one
 have o4:=hx8.one
 obtain⟨b5,e6,nn7⟩:=yN (H0:=H) (i:=H.length) (by simp) E0.1 ⟨[gn,gx,x5,x6,x7,x8,gd],true,true⟩
 have E8:=E0.trans e6
 obtain⟨b9,e10,nn11⟩:=yN (H0:=H) (i:=H.length+1) (by simp) E8.1 ⟨[(0:Int),(0:Int),.sc (.slice none 0 0),.sc (.slice none 0 0),.sc (.slice none 0 0),.sc (.slice none 0 0),(0:Int)],true,true⟩
 have b12:=b5.ext e10
 have E14:=E8.trans e10
 obtain⟨q19,q20,q21,q22,Z33,c34,e35,b23,b24,b25,b26,⟨ne27,ne28,ne29,ne30,ne31,ne32⟩⟩:=copyW (N:=N) (gn) (gx) (gd) wgn wgx wgd hN (hx5.ext E14) (by omega) (hx6.ext E14) (by omega) (hx7.ext E14) (by omega) (hx8.ext E14) (by omega)
 try simp -implicitDefEqProofs only[↓zP,zQ,↓qC,Nat.reduceLT,Nat.reduceEqDiff,(hx5.one),o2,o3,o4,(b12.1),Nat.reduceAdd]
 refine qF rfl c34 ?_
 have b36:LclE Z33 H.length q19 _:=⟨b23.1,Nat.le_trans E14.1 b23.2⟩
 have b37:LclE Z33 H.length q20 _:=⟨b24.1,Nat.le_trans E14.1 b24.2⟩
 have b38:LclE Z33 H.length q21 _:=⟨b25.1,Nat.le_trans E14.1 b25.2⟩
 have b39:LclE Z33 H.length q22 _:=⟨b26.1,Nat.le_trans E14.1 b26.2⟩
 have E40:=E14.trans e35
 obtain⟨b41,e42,nn43⟩:=yN (H0:=H) (i:=Z33.length) (by simp) E40.1 ⟨[(0:Int),(0:Int),.sc (.slice none 0 0),.sc (.slice none 0 0),.sc (.slice none 0 0),.sc (.slice none 0 0),(0:Int)],true,true⟩
 have b46:=b12.ext e35
 have b48:=(b46.ext e42).oth (Ne.symm (nn43 _ _ b46.1)) ⟨[gn,gx,.sl q19 0 l5.length 20,.sl q20 0 l6.length 2,.sl q21 0 l7.length 3,.sl q22 0 l8.length 5,gd],true,true⟩
 have E57:=(E40.trans e42).set b41.2 ⟨[gn,gx,.sl q19 0 l5.length 20,.sl q20 0 l6.length 2,.sl q21 0 l7.length 3,.sl q22 0 l8.length 5,gd],true,true⟩
 obtain⟨v50,Z51,c52,e53,si54⟩:=sessAtS (gn) (gx) (gd) (RdX.isR (ks:=kSess) (hx5.ext E57)) o2 o3 o4 (by omega) (c)
 try simp -implicitDefEqProofs only[↓zP,zQ,Nat.reduceLT,Nat.reduceEqDiff,↓qC,(b41.1),Nat.reduceAdd,xZ,xY,(b48.1)]
 refine qF rfl c52 ?_
 have sl55:=si54.lt
 by_cases h59:v50<(0:Int)
 ·have b60:=b41.put ⟨[gn,gx,.sl q19 0 l5.length 20,.sl q20 0 l6.length 2,.sl q21 0 l7.length 3,.sl q22 0 l8.length 5,gd],true,true⟩
  have b63:=b9.ext e35
  have b65:=(b63.ext e42).oth (Ne.symm (nn43 _ _ b63.1)) ⟨[gn,gx,.sl q19 0 l5.length 20,.sl q20 0 l6.length 2,.sl q21 0 l7.length 3,.sl q22 0 l8.length 5,gd],true,true⟩
  have b66:=b65.ext e53
  have b69:=b66.put ⟨[gn,gx,.sl q19 0 l5.length 20,.sl q20 0 l6.length 2,.sl q21 0 l7.length 3,.sl q22 0 l8.length 5,gd],true,true⟩
  try simp -implicitDefEqProofs only[↓zP,zQ,↓qC,Nat.reduceLT,h59,Nat.reduceEqDiff,((b60.ext e53).1),Nat.reduceAdd,(b66.1),xZ,xY,(b69.1)]
  have b72:=(b36.ext e42).oth (Ne.symm (nn43 _ _ b36.1)) ⟨[gn,gx,.sl q19 0 l5.length 20,.sl q20 0 l6.length 2,.sl q21 0 l7.length 3,.sl q22 0 l8.length 5,gd],true,true⟩
  have b74:=(b72.ext e53).oth (Nat.ne_of_lt (Nat.lt_of_lt_of_le (qP b9.1) b23.2)) ⟨[gn,gx,.sl q19 0 l5.length 20,.sl q20 0 l6.length 2,.sl q21 0 l7.length 3,.sl q22 0 l8.length 5,gd],true,true⟩
  have b76:=(b37.ext e42).oth (Ne.symm (nn43 _ _ b37.1)) ⟨[gn,gx,.sl q19 0 l5.length 20,.sl q20 0 l6.length 2,.sl q21 0 l7.length 3,.sl q22 0 l8.length 5,gd],true,true⟩
  have b78:=(b76.ext e53).oth (Nat.ne_of_lt (Nat.lt_of_lt_of_le (qP b9.1) b24.2)) ⟨[gn,gx,.sl q19 0 l5.length 20,.sl q20 0 l6.length 2,.sl q21 0 l7.length 3,.sl q22 0 l8.length 5,gd],true,true⟩
  have b80:=(b38.ext e42).oth (Ne.symm (nn43 _ _ b38.1)) ⟨[gn,gx,.sl q19 0 l5.length 20,.sl q20 0 l6.length 2,.sl q21 0 l7.length 3,.sl q22 0 l8.length 5,gd],true,true⟩
  have b82:=(b80.ext e53).oth (Nat.ne_of_lt (Nat.lt_of_lt_of_le (qP b9.1) b25.2)) ⟨[gn,gx,.sl q19 0 l5.length 20,.sl q20 0 l6.length 2,.sl q21 0 l7.length 3,.sl q22 0 l8.length 5,gd],true,true⟩
  have b84:=(b39.ext e42).oth (Ne.symm (nn43 _ _ b39.1)) ⟨[gn,gx,.sl q19 0 l5.length 20,.sl q20 0 l6.length 2,.sl q21 0 l7.length 3,.sl q22 0 l8.length 5,gd],true,true⟩
  have b86:=(b84.ext e53).oth (Nat.ne_of_lt (Nat.lt_of_lt_of_le (qP b9.1) b26.2)) ⟨[gn,gx,.sl q19 0 l5.length 20,.sl q20 0 l6.length 2,.sl q21 0 l7.length 3,.sl q22 0 l8.length 5,gd],true,true⟩
  have E87:=(E57.trans e53).set b66.2 ⟨[gn,gx,.sl q19 0 l5.length 20,.sl q20 0 l6.length 2,.sl q21 0 l7.length 3,.sl q22 0 l8.length 5,gd],true,true⟩
  exact⟨_,_,rfl,E87,gate_vd wgn wgx wgd b74 b78 b82 b86 ⟨(Ne.symm (Ne.symm ne27)),(Ne.symm (Ne.symm ne28)),(Ne.symm (Ne.symm ne29)),(Ne.symm (Ne.symm ne30)),(Ne.symm (Ne.symm ne31)),(Ne.symm (Ne.symm ne32))⟩ (by omega) (by omega) (by omega) (by omega) E87.1⟩
 ·have b88:=b48.ext e53
  have c89:=b88.1
  obtain⟨j91,hj92,hb90⟩:∃ j:Nat,v50=(j:Int)∧j<l5.length:=⟨Int.toNat v50,by omega,by omega⟩
  subst hj92
  have E93:=E57.trans e53
  have hx94:=hx5.ext E93
  obtain⟨q95,_,xe96,_⟩:=hx94.get hb90
  subst xe96
  obtain⟨p97,hp98⟩:∃ p,l5[j91]?=some p:=⟨_,List.getElem?_eq_getElem hb90⟩
  have k99:(0:Int)≤(j91:Int):=by omega
  have k100:(j91:Int)<(l5.length:Int):=by omega
  obtain⟨_,hq101⟩:=hx94.at
  have re102:=fun (o:Bool)(kk:Nat)=>(qX yK (k:=kk) hp98 (j:=2) (by decide) o).trans (p97.int_at 2 rfl).1
  by_cases h103:(p97.int 2)=(2:Int)
  ·have h104:=eq_true h103
   have re105:=fun (o:Bool)=>rd_chan yK (j:=10) hp98 rfl (by decide) o
   obtain⟨r106,r107,r108,r109,r110,r111,r112,r113,r114,r115,Z116,c117,e118,f119⟩:=turnOnE (H:=Z51) (p97.int 10) (p97.int 11) (p97.int 12) (p97.int 13) (p97.int 14) (p97.int 15) (p97.int 16) (p97.int 17) (p97.int 18) (p97.w64 10 rfl) (p97.w64 11 rfl) (p97.w64 12 rfl) (p97.w64 13 rfl) (p97.w64 14 rfl) (p97.w64 15 rfl) (p97.w64 16 rfl) (p97.w64 17 rfl) (p97.w64 18 rfl)
   try simp -implicitDefEqProofs only[↓zP,zQ,↓qC,Nat.reduceLT,h59,Nat.reduceEqDiff,qA,c89,k99,k100,qB,hq101,re105,Nat.reduceAdd,re102,h104]
   refine qF rfl c117 ?_
   obtain⟨w120,w121,w122,w123,w124,w125,w126,w127,w128⟩:=f119
   have E129:=E93.trans e118
   obtain⟨b130,e131,nn132⟩:=yN (H0:=H) (i:=Z116.length) (by simp) E129.1 ⟨[(0:Int),(0:Int),(0:Int),(0:Int),(0:Int),(0:Int),(0:Int),(0:Int),(0:Int)],true,true⟩
   have b135:=b41.put ⟨[gn,gx,.sl q19 0 l5.length 20,.sl q20 0 l6.length 2,.sl q21 0 l7.length 3,.sl q22 0 l8.length 5,gd],true,true⟩
   have b137:=(b135.ext e53).ext e118
   have b139:=(b137.ext e131).oth (Ne.symm (nn132 _ _ b137.1)) ⟨[r106,r107,r108,r109,r110,r111,r112,r113,r114],true,true⟩
   have hb143:j91<l5.length:=by omega
   obtain⟨p144,hp145⟩:∃ p,l5[j91]?=some p:=⟨_,List.getElem?_eq_getElem hb143⟩
   have k146:(0:Int)≤(j91:Int):=by omega
   have k147:(j91:Int)<(l5.length:Int):=by omega
   have b149:=(b36.ext e42).oth (Ne.symm (nn43 _ _ b36.1)) ⟨[gn,gx,.sl q19 0 l5.length 20,.sl q20 0 l6.length 2,.sl q21 0 l7.length 3,.sl q22 0 l8.length 5,gd],true,true⟩
   have b151:=(b149.ext e53).ext e118
   have b153:=(b151.ext e131).oth (Ne.symm (nn132 _ _ b151.1)) ⟨[r106,r107,r108,r109,r110,r111,r112,r113,r114],true,true⟩
   obtain⟨p155,hb156,_⟩:=p144.putP (js:=kChan) (ds:=[.sc (.int .i64 (r106)),.sc (.int .i64 (r107)),.sc (.int .i64 (r108)),.sc (.int .i64 (r109)),.sc (.int .i64 (r110)),.sc (.int .i64 (r111)),.sc (.int .i64 (r112)),.sc (.int .i64 (r113)),.sc (.int .i64 (r114))]) 10 (RowOk.int w120 (RowOk.int w121 (RowOk.int w122 (RowOk.int w123 (RowOk.int w124 (RowOk.int w125 (RowOk.int w126 (RowOk.int w127 (RowOk.int w128 RowOk.nil))))))))) rfl (by decide)
   obtain⟨l157,hl158⟩:∃ l,l=l5.set j91 p155:=⟨_,rfl⟩
   have ln159:l157.length=l5.length:=by rw[hl158,List.length_set]
   have wr160:=fun (H:qE)=>((wr_part (H:=H) yK (n:=9) hp145 rfl (by decide) hb156 rfl q19).trans (by rw[←hl158]):uJ true 9 H q19 _ _ _=some (H.set q19 ⟨rows Rw.cs l157,true,true⟩))
   have b161:=b139.oth (nn43 _ _ b36.1) ⟨rows Rw.cs l157,true,true⟩
   have b163:=b9.ext e35
   have b165:=(b163.ext e42).oth (Ne.symm (nn43 _ _ b163.1)) ⟨[gn,gx,.sl q19 0 l5.length 20,.sl q20 0 l6.length 2,.sl q21 0 l7.length 3,.sl q22 0 l8.length 5,gd],true,true⟩
   have b167:=(b165.ext e53).ext e118
   have b169:=(b167.ext e131).oth (Ne.symm (nn132 _ _ b167.1)) ⟨[r106,r107,r108,r109,r110,r111,r112,r113,r114],true,true⟩
   have b170:=b169.oth (Ne.symm (Nat.ne_of_lt (Nat.lt_of_lt_of_le (qP b9.1) b23.2))) ⟨rows Rw.cs l157,true,true⟩
   have b174:=b170.put ⟨[gn,gx,.sl q19 0 l5.length 20,.sl q20 0 l6.length 2,.sl q21 0 l7.length 3,.sl q22 0 l8.length 5,gd],true,true⟩
   try simp -implicitDefEqProofs only[↓zP,zQ,Nat.reduceLT,Nat.reduceEqDiff,↓qC,(b130.1),Nat.reduceAdd,xZ,xY,(b139.1),((b130.put ⟨[r106,r107,r108,r109,r110,r111,r112,r113,r114],true,true⟩).1),k146,k147,qB,(b153.1),wr160,(b161.1),(b170.1),(b174.1)]
   have b177:=(b153.put ⟨rows Rw.cs l157,true,true⟩).oth (Nat.ne_of_lt (Nat.lt_of_lt_of_le (qP b9.1) b23.2)) ⟨[gn,gx,.sl q19 0 l5.length 20,.sl q20 0 l6.length 2,.sl q21 0 l7.length 3,.sl q22 0 l8.length 5,gd],true,true⟩
   have b179:=(b37.ext e42).oth (Ne.symm (nn43 _ _ b37.1)) ⟨[gn,gx,.sl q19 0 l5.length 20,.sl q20 0 l6.length 2,.sl q21 0 l7.length 3,.sl q22 0 l8.length 5,gd],true,true⟩
   have b181:=(b179.ext e53).ext e118
   have b183:=(b181.ext e131).oth (Ne.symm (nn132 _ _ b181.1)) ⟨[r106,r107,r108,r109,r110,r111,r112,r113,r114],true,true⟩
   have b185:=(b183.oth (Ne.symm (Ne.symm ne27)) ⟨rows Rw.cs l157,true,true⟩).oth (Nat.ne_of_lt (Nat.lt_of_lt_of_le (qP b9.1) b24.2)) ⟨[gn,gx,.sl q19 0 l5.length 20,.sl q20 0 l6.length 2,.sl q21 0 l7.length 3,.sl q22 0 l8.length 5,gd],true,true⟩
   have b187:=(b38.ext e42).oth (Ne.symm (nn43 _ _ b38.1)) ⟨[gn,gx,.sl q19 0 l5.length 20,.sl q20 0 l6.length 2,.sl q21 0 l7.length 3,.sl q22 0 l8.length 5,gd],true,true⟩
   have b189:=(b187.ext e53).ext e118
   have b191:=(b189.ext e131).oth (Ne.symm (nn132 _ _ b189.1)) ⟨[r106,r107,r108,r109,r110,r111,r112,r113,r114],true,true⟩
   have b193:=(b191.oth (Ne.symm (Ne.symm ne28)) ⟨rows Rw.cs l157,true,true⟩).oth (Nat.ne_of_lt (Nat.lt_of_lt_of_le (qP b9.1) b25.2)) ⟨[gn,gx,.sl q19 0 l5.length 20,.sl q20 0 l6.length 2,.sl q21 0 l7.length 3,.sl q22 0 l8.length 5,gd],true,true⟩
   have b195:=(b39.ext e42).oth (Ne.symm (nn43 _ _ b39.1)) ⟨[gn,gx,.sl q19 0 l5.length 20,.sl q20 0 l6.length 2,.sl q21 0 l7.length 3,.sl q22 0 l8.length 5,gd],true,true⟩
   have b197:=(b195.ext e53).ext e118
   have b199:=(b197.ext e131).oth (Ne.symm (nn132 _ _ b197.1)) ⟨[r106,r107,r108,r109,r110,r111,r112,r113,r114],true,true⟩
   have b201:=(b199.oth (Ne.symm (Ne.symm ne29)) ⟨rows Rw.cs l157,true,true⟩).oth (Nat.ne_of_lt (Nat.lt_of_lt_of_le (qP b9.1) b26.2)) ⟨[gn,gx,.sl q19 0 l5.length 20,.sl q20 0 l6.length 2,.sl q21 0 l7.length 3,.sl q22 0 l8.length 5,gd],true,true⟩
   have E202:=(((E129.trans e131).set b130.2 ⟨[r106,r107,r108,r109,r110,r111,r112,r113,r114],true,true⟩).set b153.2 ⟨rows Rw.cs l157,true,true⟩).set b170.2 ⟨[gn,gx,.sl q19 0 l5.length 20,.sl q20 0 l6.length 2,.sl q21 0 l7.length 3,.sl q22 0 l8.length 5,gd],true,true⟩
   exact⟨_,_,rfl,E202,(by have h:=gate_vd wgn wgx wgd b177 b185 b193 b201 ⟨(Ne.symm (Ne.symm ne27)),(Ne.symm (Ne.symm ne28)),(Ne.symm (Ne.symm ne29)),(Ne.symm (Ne.symm ne30)),(Ne.symm (Ne.symm ne31)),(Ne.symm (Ne.symm ne32))⟩ (by omega) (by omega) (by omega) (by omega) E202.1;rw[ln159] at h;exact h)⟩
  ·have b203:=b41.put ⟨[gn,gx,.sl q19 0 l5.length 20,.sl q20 0 l6.length 2,.sl q21 0 l7.length 3,.sl q22 0 l8.length 5,gd],true,true⟩
   have b206:=b9.ext e35
   have b208:=(b206.ext e42).oth (Ne.symm (nn43 _ _ b206.1)) ⟨[gn,gx,.sl q19 0 l5.length 20,.sl q20 0 l6.length 2,.sl q21 0 l7.length 3,.sl q22 0 l8.length 5,gd],true,true⟩
   have b209:=b208.ext e53
   have b211:=b209.put ⟨[gn,gx,.sl q19 0 l5.length 20,.sl q20 0 l6.length 2,.sl q21 0 l7.length 3,.sl q22 0 l8.length 5,gd],true,true⟩
   try simp -implicitDefEqProofs only[↓zP,zQ,↓qC,Nat.reduceLT,h59,Nat.reduceEqDiff,qA,((b203.ext e53).1),Nat.reduceAdd,(b209.1),xZ,xY,(b211.1),c89,k99,k100,qB,hq101,re102,h103]
   have b214:=(b36.ext e42).oth (Ne.symm (nn43 _ _ b36.1)) ⟨[gn,gx,.sl q19 0 l5.length 20,.sl q20 0 l6.length 2,.sl q21 0 l7.length 3,.sl q22 0 l8.length 5,gd],true,true⟩
   have b216:=(b214.ext e53).oth (Nat.ne_of_lt (Nat.lt_of_lt_of_le (qP b9.1) b23.2)) ⟨[gn,gx,.sl q19 0 l5.length 20,.sl q20 0 l6.length 2,.sl q21 0 l7.length 3,.sl q22 0 l8.length 5,gd],true,true⟩
   have b218:=(b37.ext e42).oth (Ne.symm (nn43 _ _ b37.1)) ⟨[gn,gx,.sl q19 0 l5.length 20,.sl q20 0 l6.length 2,.sl q21 0 l7.length 3,.sl q22 0 l8.length 5,gd],true,true⟩
   have b220:=(b218.ext e53).oth (Nat.ne_of_lt (Nat.lt_of_lt_of_le (qP b9.1) b24.2)) ⟨[gn,gx,.sl q19 0 l5.length 20,.sl q20 0 l6.length 2,.sl q21 0 l7.length 3,.sl q22 0 l8.length 5,gd],true,true⟩
   have b222:=(b38.ext e42).oth (Ne.symm (nn43 _ _ b38.1)) ⟨[gn,gx,.sl q19 0 l5.length 20,.sl q20 0 l6.length 2,.sl q21 0 l7.length 3,.sl q22 0 l8.length 5,gd],true,true⟩
   have b224:=(b222.ext e53).oth (Nat.ne_of_lt (Nat.lt_of_lt_of_le (qP b9.1) b25.2)) ⟨[gn,gx,.sl q19 0 l5.length 20,.sl q20 0 l6.length 2,.sl q21 0 l7.length 3,.sl q22 0 l8.length 5,gd],true,true⟩
   have b226:=(b39.ext e42).oth (Ne.symm (nn43 _ _ b39.1)) ⟨[gn,gx,.sl q19 0 l5.length 20,.sl q20 0 l6.length 2,.sl q21 0 l7.length 3,.sl q22 0 l8.length 5,gd],true,true⟩
   have b228:=(b226.ext e53).oth (Nat.ne_of_lt (Nat.lt_of_lt_of_le (qP b9.1) b26.2)) ⟨[gn,gx,.sl q19 0 l5.length 20,.sl q20 0 l6.length 2,.sl q21 0 l7.length 3,.sl q22 0 l8.length 5,gd],true,true⟩
   have E229:=E93.set b209.2 ⟨[gn,gx,.sl q19 0 l5.length 20,.sl q20 0 l6.length 2,.sl q21 0 l7.length 3,.sl q22 0 l8.length 5,gd],true,true⟩
   exact⟨_,_,rfl,E229,gate_vd wgn wgx wgd b216 b220 b224 b228 ⟨(Ne.symm (Ne.symm ne27)),(Ne.symm (Ne.symm ne28)),(Ne.symm (Ne.symm ne29)),(Ne.symm (Ne.symm ne30)),(Ne.symm (Ne.symm ne31)),(Ne.symm (Ne.symm ne32))⟩ (by omega) (by omega) (by omega) (by omega) E229.1⟩
theorem idleGateW {H:qE}(gn gx gd c:Int)(wgn:W64 gn)(wgx:W64 gx)(wgd:W64 gd)(wc:W64 c){N:Nat}(hN:N≤1000000){x5:AV}{l5:List (Rw kSess)}(hx5:RdX Rw.cs 20 H x5 l5)(bx5:l5.length≤64){x6:AV}{l6:List (Rw kLease)}(hx6:RdX Rw.cs 2 H x6 l6)(bx6:l6.length≤N){x7:AV}{l7:List (Rw xM)}(hx7:RdX Rw.cs 3 H x7 l7)(bx7:l7.length≤N){x8:AV}{l8:List (Rw kOut)}(hx8:RdX Rw.cs 5 H x8 l8)(bx8:l8.length≤N):∃ (ds:List AV)(Z:qE),Sound Tryz.prog 73 [.agg [gn,gx,x5,x6,x7,x8,gd],c] H (.agg ds) Z∧Ext H Z∧Vd Z H.length (KG N) ds:=by
 suffices h:∃ w Z,Sound Tryz.prog 73 [.agg [gn,gx,x5,x6,x7,x8,gd],c] H w Z∧∃ (ds:List AV),w=.agg ds∧Ext H Z∧Vd Z H.length (KG N) ds by
  obtain⟨w,Z,h1,ds,rfl,h2⟩:=h
  exact⟨ds,Z,h1,h2⟩
 refine zR 54 [.cell 4 34] Tryz.func73 ?_
 have E0:=Ext.refl H
 obtain⟨b5,e6,nn7⟩:=yN (H0:=H) (i:=H.length) (by simp) E0.1 ⟨[gn,gx,x5,x6,x7,x8,gd],true,true⟩
 have E8:=E0.trans e6
 obtain⟨b9,e10,nn11⟩:=yN (H0:=H) (i:=H.length+1) (by simp) E8.1 ⟨[(0:Int),(0:Int),.sc (.slice none 0 0),.sc (.slice none 0 0),.sc (.slice none 0 0),.sc (.slice none 0 0),(0:Int)],true,true⟩
 have b12:=b5.ext e10
 have E14:=E8.trans e10
 obtain⟨q19,q20,q21,q22,Z33,c34,e35,b23,b24,b25,b26,⟨ne27,ne28,ne29,ne30,ne31,ne32⟩⟩:=copyW (N:=N) (gn) (gx) (gd) wgn wgx wgd hN (hx5.ext E14) (by omega) (hx6.ext E14) (by omega) (hx7.ext E14) (by omega) (hx8.ext E14) (by omega)
 try simp -implicitDefEqProofs only[↓zP,zQ,↓qC,Nat.reduceLT,Nat.reduceEqDiff,(hx5.one),(hx6.one),(hx7.one),(hx8.one),(b12.1),Nat.reduceAdd]
 refine qF rfl c34 ?_
 have b36:LclE Z33 H.length q19 _:=⟨b23.1,Nat.le_trans E14.1 b23.2⟩
 have b37:LclE Z33 H.length q20 _:=⟨b24.1,Nat.le_trans E14.1 b24.2⟩
 have b38:LclE Z33 H.length q21 _:=⟨b25.1,Nat.le_trans E14.1 b25.2⟩
 have b39:LclE Z33 H.length q22 _:=⟨b26.1,Nat.le_trans E14.1 b26.2⟩
 have E40:=E14.trans e35
 obtain⟨b41,e42,nn43⟩:=yN (H0:=H) (i:=Z33.length) (by simp) E40.1 ⟨[(0:Int),(0:Int),.sc (.slice none 0 0),.sc (.slice none 0 0),.sc (.slice none 0 0),.sc (.slice none 0 0),(0:Int)],true,true⟩
 have E46:=(E40.trans e42).set b41.2 ⟨[gn,gx,.sl q19 0 l5.length 20,.sl q20 0 l6.length 2,.sl q21 0 l7.length 3,.sl q22 0 l8.length 5,gd],true,true⟩
 obtain⟨b47,e48,nn49⟩:=yN (H0:=H) (i:=Z33.length+1) (by simp) E46.1 ⟨[],true,true⟩
 have b50:=b41.put ⟨[gn,gx,.sl q19 0 l5.length 20,.sl q20 0 l6.length 2,.sl q21 0 l7.length 3,.sl q22 0 l8.length 5,gd],true,true⟩
 have b51:=b50.ext e48
 have b54:=b12.ext e35
 have b56:=(b54.ext e42).oth (Ne.symm (nn43 _ _ b54.1)) ⟨[gn,gx,.sl q19 0 l5.length 20,.sl q20 0 l6.length 2,.sl q21 0 l7.length 3,.sl q22 0 l8.length 5,gd],true,true⟩
 have b58:=(b56.ext e48).oth (Ne.symm (nn43 _ _ b54.1)) ⟨[gn,gx,.sl (Z33.length+1) 0 0 20,.sl q20 0 l6.length 2,.sl q21 0 l7.length 3,.sl q22 0 l8.length 5,gd],true,true⟩
 try simp -implicitDefEqProofs only[↓zP,zQ,Nat.reduceLT,Nat.reduceEqDiff,↓qC,(b41.1),Nat.reduceAdd,xZ,xY,(b51.1),Nat.reduceLeDiff]
 have b70:=b9.ext e35
 have b72:=(b70.ext e42).oth (Ne.symm (nn43 _ _ b70.1)) ⟨[gn,gx,.sl q19 0 l5.length 20,.sl q20 0 l6.length 2,.sl q21 0 l7.length 3,.sl q22 0 l8.length 5,gd],true,true⟩
 have b74:=(b72.ext e48).oth (Ne.symm (nn43 _ _ b70.1)) ⟨[gn,gx,.sl (Z33.length+1) 0 0 20,.sl q20 0 l6.length 2,.sl q21 0 l7.length 3,.sl q22 0 l8.length 5,gd],true,true⟩
 have b77:=(b38.ext e42).oth (Ne.symm (nn43 _ _ b38.1)) ⟨[gn,gx,.sl q19 0 l5.length 20,.sl q20 0 l6.length 2,.sl q21 0 l7.length 3,.sl q22 0 l8.length 5,gd],true,true⟩
 have b79:=(b77.ext e48).oth (Ne.symm (nn43 _ _ b38.1)) ⟨[gn,gx,.sl (Z33.length+1) 0 0 20,.sl q20 0 l6.length 2,.sl q21 0 l7.length 3,.sl q22 0 l8.length 5,gd],true,true⟩
 have b81:=(b39.ext e42).oth (Ne.symm (nn43 _ _ b39.1)) ⟨[gn,gx,.sl q19 0 l5.length 20,.sl q20 0 l6.length 2,.sl q21 0 l7.length 3,.sl q22 0 l8.length 5,gd],true,true⟩
 have b83:=(b81.ext e48).oth (Ne.symm (nn43 _ _ b39.1)) ⟨[gn,gx,.sl (Z33.length+1) 0 0 20,.sl q20 0 l6.length 2,.sl q21 0 l7.length 3,.sl q22 0 l8.length 5,gd],true,true⟩
 have b84:=b47.oth (nn49 _ _ b50.1) ⟨[gn,gx,.sl (Z33.length+1) 0 0 20,.sl q20 0 l6.length 2,.sl q21 0 l7.length 3,.sl q22 0 l8.length 5,gd],true,true⟩
 have b86:=(b37.ext e42).oth (Ne.symm (nn43 _ _ b37.1)) ⟨[gn,gx,.sl q19 0 l5.length 20,.sl q20 0 l6.length 2,.sl q21 0 l7.length 3,.sl q22 0 l8.length 5,gd],true,true⟩
 have b88:=(b86.ext e48).oth (Ne.symm (nn43 _ _ b37.1)) ⟨[gn,gx,.sl (Z33.length+1) 0 0 20,.sl q20 0 l6.length 2,.sl q21 0 l7.length 3,.sl q22 0 l8.length 5,gd],true,true⟩
 refine yL (ι:=Nat) (fun i s=>∃ (T:Nat→AV)(G:qE)(q66:Nat)(l67:List (Rw kSess))(q68:Nat)(l69:List (Rw kLease)),s=⟨qY 54 T,G⟩∧Ext H G∧i≤l5.length∧LclE G H.length (H.length) ⟨[gn,gx,x5,x6,x7,x8,gd],true,true⟩∧LclE G H.length (H.length+1) ⟨[(0:Int),(0:Int),.sc (.slice none 0 0),.sc (.slice none 0 0),.sc (.slice none 0 0),.sc (.slice none 0 0),(0:Int)],true,true⟩∧LclE G H.length (Z33.length) ⟨[gn,gx,.sl q66 0 l67.length 20,.sl q68 0 l69.length 2,.sl q21 0 l7.length 3,.sl q22 0 l8.length 5,gd],true,true⟩∧LclE G H.length (q21) ⟨rows Rw.cs l7,true,true⟩∧LclE G H.length (q22) ⟨rows Rw.cs l8,true,true⟩∧LclE G H.length q66 ⟨rows Rw.cs l67,true,true⟩∧l67.length≤0+1*i∧LclE G H.length q68 ⟨rows Rw.cs l69,true,true⟩∧l69.length≤l6.length+0*i∧(H.length)≠q66∧(H.length)≠q68∧(H.length+1)≠q66∧(H.length+1)≠q68∧(Z33.length)≠q66∧(Z33.length)≠q68∧(q21)≠q66∧(q21)≠q68∧(q22)≠q66∧(q22)≠q68∧q66≠q68∧(H.length:Nat)≠H.length+1∧(H.length:Nat)≠Z33.length∧(H.length:Nat)≠q21∧(H.length:Nat)≠q22∧(H.length+1:Nat)≠Z33.length∧(H.length+1:Nat)≠q21∧(H.length+1:Nat)≠q22∧(Z33.length:Nat)≠q21∧(Z33.length:Nat)≠q22∧(q21:Nat)≠q22∧T 1=.sc (.int .i64 (c))∧T 2=.ptr (H.length) 0∧T 4=.ptr (H.length+1) 0∧T 5=.ptr (Z33.length) 0∧T 6=.sc (.int .i64 i)) (fun i=>l5.length - i) ?_ (i:=0) ?_
 rotate_left
 ·exact⟨_,_,(Z33.length+1),[],(q20),l6,rfl,((E46.trans e48).set b51.2 ⟨[gn,gx,.sl (Z33.length+1) 0 0 20,.sl q20 0 l6.length 2,.sl q21 0 l7.length 3,.sl q22 0 l8.length 5,gd],true,true⟩),Nat.zero_le _,b58,b74,(b51.put ⟨[gn,gx,.sl (Z33.length+1) 0 0 20,.sl q20 0 l6.length 2,.sl q21 0 l7.length 3,.sl q22 0 l8.length 5,gd],true,true⟩),b79,b83,b84,(by simp),b88,(by omega),(Ne.symm (Ne.symm (nn49 _ _ b56.1))),(Ne.symm (Ne.symm (Nat.ne_of_lt (Nat.lt_of_lt_of_le (qP b12.1) b24.2)))),(Ne.symm (Ne.symm (nn49 _ _ b72.1))),(Ne.symm (Ne.symm (Nat.ne_of_lt (Nat.lt_of_lt_of_le (qP b9.1) b24.2)))),(Ne.symm (Ne.symm (nn49 _ _ b50.1))),(Ne.symm (nn43 _ _ b37.1)),(Ne.symm (Ne.symm (nn49 _ _ b77.1))),(Ne.symm (Ne.symm (Ne.symm ne30))),(Ne.symm (Ne.symm (nn49 _ _ b81.1))),(Ne.symm (Ne.symm (Ne.symm ne31))),(Ne.symm (nn49 _ _ b86.1)),(Ne.symm (Ne.symm (nn11 _ _ b5.1))),(Ne.symm (Ne.symm (nn43 _ _ b54.1))),(Ne.symm (Ne.symm (Nat.ne_of_lt (Nat.lt_of_lt_of_le (qP b12.1) b25.2)))),(Ne.symm (Ne.symm (Nat.ne_of_lt (Nat.lt_of_lt_of_le (qP b12.1) b26.2)))),(Ne.symm (Ne.symm (nn43 _ _ b70.1))),(Ne.symm (Ne.symm (Nat.ne_of_lt (Nat.lt_of_lt_of_le (qP b9.1) b25.2)))),(Ne.symm (Ne.symm (Nat.ne_of_lt (Nat.lt_of_lt_of_le (qP b9.1) b26.2)))),(Ne.symm (nn43 _ _ b38.1)),(Ne.symm (nn43 _ _ b39.1)),(Ne.symm (Ne.symm ne32)),rfl,rfl,rfl,rfl,rfl⟩
 rintro i63 s ⟨T64,Z65,q66,l67,q68,l69,rfl,E94,hi95,b96,b97,b98,b99,b100,b101,hl102,b103,hl104,ne105,ne106,ne107,ne108,ne109,ne110,ne111,ne112,ne113,ne114,ne115,ne116,ne117,ne118,ne119,ne120,ne121,ne122,ne123,ne124,ne125,a89,a90,a91,a92,a93⟩
 have e126:i63<l5.length→IntKind.i64.wrap ((i63:Int)+1)=((i63+1:Nat):Int):=fun h=>by rw[w64 (by omega) (by omega)];omega
 have c127:=b96.1
 have hx129:=hx5.ext E94
 have ln128:=fun e=>hx129.len e
 by_cases h130:((i63:Int))<(l5.length:Int)
 ·by_cases h131:(IntKind.i64.wrap (c - 20))<c
  ·have hb132:i63<l5.length:=by omega
   obtain⟨q133,_,xe134,_⟩:=hx129.get hb132
   subst xe134
   obtain⟨p135,hp136⟩:∃ p,l5[i63]?=some p:=⟨_,List.getElem?_eq_getElem hb132⟩
   have k137:(0:Int)≤(i63:Int):=by omega
   have k138:(i63:Int)<(l5.length:Int):=by omega
   obtain⟨_,hq139⟩:=hx129.at
   have re140:=fun (o:Bool)(kk:Nat)=>(qX yK (k:=kk) hp136 (j:=19) (by decide) o).trans (p135.int_at 19 rfl).1
   by_cases h141:(p135.int 19)<(IntKind.i64.wrap (c - 20))
   ·try simp only[↓zP,zQ,↓qC,Nat.reduceLT,a93,Nat.reduceEqDiff,a90,a89,h131,c127,k137,h130,qB,hq139,re140,h141,a92,a91,ln128]
    refine zD [(1,0),(3,0),(7,0)] ?_
    have re143:=fun (o:Bool)(kk:Nat)=>(qX yK (k:=kk) hp136 (j:=0) (by decide) o).trans (p135.int_at 0 rfl).1
    obtain⟨q144,m145,Z146,c147,e148,u149,hq150,hl151⟩:=givenW (p135.int 0) (p135.w64 0 rfl) (.inr ⟨_,_,rfl,b103.1⟩) (by omega)
    try simp only[↓zP,zQ,Nat.reduceLT,Nat.reduceEqDiff,a92,a90,a93,c127,k137,h130,qB,hq139,re143,(b98.1)]
    refine qF rfl c147 ?_
    have b152:LclE Z146 H.length q144 _:=⟨hq150,Nat.le_trans E94.1 u149⟩
    have b153:=b98.ext e148
    try simp -implicitDefEqProofs only[↓zP,zQ,Nat.reduceLT,Nat.reduceEqDiff,a92,a93,(b153.1),Nat.reduceAdd,Nat.reduceLeDiff,xZ,xY]
    refine⟨zX (zX (zX (qH))),?_⟩
    try simp only[(e126 (by omega))]
    have E157:=(E94.trans e148).set b153.2 ⟨[gn,gx,.sl q66 0 l67.length 20,.sl q144 0 m145.length 2,.sl q21 0 l7.length 3,.sl q22 0 l8.length 5,gd],true,true⟩
    have b159:=(b96.ext e148).oth (Ne.symm ne117) ⟨[gn,gx,.sl q66 0 l67.length 20,.sl q144 0 m145.length 2,.sl q21 0 l7.length 3,.sl q22 0 l8.length 5,gd],true,true⟩
    have b161:=(b97.ext e148).oth (Ne.symm ne120) ⟨[gn,gx,.sl q66 0 l67.length 20,.sl q144 0 m145.length 2,.sl q21 0 l7.length 3,.sl q22 0 l8.length 5,gd],true,true⟩
    have b162:=b153.put ⟨[gn,gx,.sl q66 0 l67.length 20,.sl q144 0 m145.length 2,.sl q21 0 l7.length 3,.sl q22 0 l8.length 5,gd],true,true⟩
    have b164:=(b99.ext e148).oth ne123 ⟨[gn,gx,.sl q66 0 l67.length 20,.sl q144 0 m145.length 2,.sl q21 0 l7.length 3,.sl q22 0 l8.length 5,gd],true,true⟩
    have b166:=(b100.ext e148).oth ne124 ⟨[gn,gx,.sl q66 0 l67.length 20,.sl q144 0 m145.length 2,.sl q21 0 l7.length 3,.sl q22 0 l8.length 5,gd],true,true⟩
    have b168:=(b101.ext e148).oth ne109 ⟨[gn,gx,.sl q66 0 l67.length 20,.sl q144 0 m145.length 2,.sl q21 0 l7.length 3,.sl q22 0 l8.length 5,gd],true,true⟩
    have b169:=b152.oth (Nat.ne_of_lt (Nat.lt_of_lt_of_le (qP b98.1) u149)) ⟨[gn,gx,.sl q66 0 l67.length 20,.sl q144 0 m145.length 2,.sl q21 0 l7.length 3,.sl q22 0 l8.length 5,gd],true,true⟩
    refine⟨i63+1,by omega,_,_,(q66),l67,(q144),m145,rfl,E157,by omega,b159,b161,b162,b164,b166,b168,by omega,b169,by omega,(Ne.symm (Ne.symm ne105)),(Ne.symm (Ne.symm (Nat.ne_of_lt (Nat.lt_of_lt_of_le (qP b96.1) u149)))),(Ne.symm (Ne.symm ne107)),(Ne.symm (Ne.symm (Nat.ne_of_lt (Nat.lt_of_lt_of_le (qP b97.1) u149)))),(Ne.symm (Ne.symm ne109)),(Ne.symm (Ne.symm (Nat.ne_of_lt (Nat.lt_of_lt_of_le (qP b98.1) u149)))),(Ne.symm (Ne.symm ne111)),(Ne.symm (Ne.symm (Nat.ne_of_lt (Nat.lt_of_lt_of_le (qP b99.1) u149)))),(Ne.symm (Ne.symm ne113)),(Ne.symm (Ne.symm (Nat.ne_of_lt (Nat.lt_of_lt_of_le (qP b100.1) u149)))),(Ne.symm (Ne.symm (Nat.ne_of_lt (Nat.lt_of_lt_of_le (qP b101.1) u149)))),(Ne.symm (Ne.symm ne116)),(Ne.symm (Ne.symm ne117)),(Ne.symm (Ne.symm ne118)),(Ne.symm (Ne.symm ne119)),(Ne.symm (Ne.symm ne120)),(Ne.symm (Ne.symm ne121)),(Ne.symm (Ne.symm ne122)),(Ne.symm (Ne.symm ne123)),(Ne.symm (Ne.symm ne124)),(Ne.symm (Ne.symm ne125)),?_,?_,?_,?_,?_⟩<;>simp only[zQ,Nat.reduceEqDiff,a89,a90,a91,a92]<;>rfl
   ·try simp only[↓zP,zQ,↓qC,Nat.reduceLT,a93,Nat.reduceEqDiff,a90,a89,h131,c127,k137,h130,qB,hq139,re140,h141,a92,a91,ln128]
    refine zD [(1,0),(3,0),(6,0)] ?_
    obtain⟨b173,e174,nn175⟩:=yN (H0:=H) (i:=Z65.length) (by simp) E94.1 ⟨p135.cs,true,true⟩
    have b176:=b101.ext e174
    have E178:=E94.trans e174
    obtain⟨q179,l180,Z181,ap182,e183,b184,K185,nn186⟩:=uB apS29 yK (l1:=l67) (n:=l67.length) b176 E178.1 rfl (xL yK (a:=p135) b173.1) rfl (by (try simp only[List.length_cons,List.length_nil]);omega)
    have ln187:l180.length=l67.length+1:=by rw[e183,List.length_append];try rfl
    have b188:=b98.ext e174
    have b189:=b188.kil K185 (Ne.symm (Ne.symm ne109))
    try simp -implicitDefEqProofs only[↓zP,zQ,Nat.reduceLT,Nat.reduceEqDiff,a92,a90,a93,c127,k137,h130,qB,hq139,(xD yK hp136),(p135.cs_len:p135.cs.length=20),Rw.ones,(b98.1),(b176.1),ap182,(b189.1),Nat.reduceAdd,Nat.reduceLeDiff,xZ,xY]
    refine⟨zX (zX (zX (qH))),?_⟩
    try simp only[(e126 (by omega))]
    have E193:=(E178.kil K185 b176.2).set b189.2 ⟨[gn,gx,.sl q179 0 l180.length 20,.sl q68 0 l69.length 2,.sl q21 0 l7.length 3,.sl q22 0 l8.length 5,gd],true,true⟩
    have b194:=b96.ext e174
    have b196:=(b194.kil K185 (Ne.symm (Ne.symm ne105))).oth (Ne.symm ne117) ⟨[gn,gx,.sl q179 0 l180.length 20,.sl q68 0 l69.length 2,.sl q21 0 l7.length 3,.sl q22 0 l8.length 5,gd],true,true⟩
    have b197:=b97.ext e174
    have b199:=(b197.kil K185 (Ne.symm (Ne.symm ne107))).oth (Ne.symm ne120) ⟨[gn,gx,.sl q179 0 l180.length 20,.sl q68 0 l69.length 2,.sl q21 0 l7.length 3,.sl q22 0 l8.length 5,gd],true,true⟩
    have b200:=b189.put ⟨[gn,gx,.sl q179 0 l180.length 20,.sl q68 0 l69.length 2,.sl q21 0 l7.length 3,.sl q22 0 l8.length 5,gd],true,true⟩
    have b201:=b99.ext e174
    have b203:=(b201.kil K185 (Ne.symm (Ne.symm ne111))).oth ne123 ⟨[gn,gx,.sl q179 0 l180.length 20,.sl q68 0 l69.length 2,.sl q21 0 l7.length 3,.sl q22 0 l8.length 5,gd],true,true⟩
    have b204:=b100.ext e174
    have b206:=(b204.kil K185 (Ne.symm (Ne.symm ne113))).oth ne124 ⟨[gn,gx,.sl q179 0 l180.length 20,.sl q68 0 l69.length 2,.sl q21 0 l7.length 3,.sl q22 0 l8.length 5,gd],true,true⟩
    have b207:=b184.oth (nn186 _ _ b188.1) ⟨[gn,gx,.sl q179 0 l180.length 20,.sl q68 0 l69.length 2,.sl q21 0 l7.length 3,.sl q22 0 l8.length 5,gd],true,true⟩
    have b208:=b103.ext e174
    have b210:=(b208.kil K185 (Ne.symm ne115)).oth ne110 ⟨[gn,gx,.sl q179 0 l180.length 20,.sl q68 0 l69.length 2,.sl q21 0 l7.length 3,.sl q22 0 l8.length 5,gd],true,true⟩
    refine⟨i63+1,by omega,_,_,(q179),l180,(q68),l69,rfl,E193,by omega,b196,b199,b200,b203,b206,b207,by omega,b210,by omega,(Ne.symm (Ne.symm (nn186 _ _ b194.1))),(Ne.symm (Ne.symm ne106)),(Ne.symm (Ne.symm (nn186 _ _ b197.1))),(Ne.symm (Ne.symm ne108)),(Ne.symm (Ne.symm (nn186 _ _ b188.1))),(Ne.symm (Ne.symm ne110)),(Ne.symm (Ne.symm (nn186 _ _ b201.1))),(Ne.symm (Ne.symm ne112)),(Ne.symm (Ne.symm (nn186 _ _ b204.1))),(Ne.symm (Ne.symm ne114)),(Ne.symm (nn186 _ _ b208.1)),(Ne.symm (Ne.symm ne116)),(Ne.symm (Ne.symm ne117)),(Ne.symm (Ne.symm ne118)),(Ne.symm (Ne.symm ne119)),(Ne.symm (Ne.symm ne120)),(Ne.symm (Ne.symm ne121)),(Ne.symm (Ne.symm ne122)),(Ne.symm (Ne.symm ne123)),(Ne.symm (Ne.symm ne124)),(Ne.symm (Ne.symm ne125)),?_,?_,?_,?_,?_⟩<;>simp only[zQ,Nat.reduceEqDiff,a89,a90,a91,a92]<;>rfl
  ·try simp only[↓zP,zQ,↓qC,Nat.reduceLT,a93,Nat.reduceEqDiff,a90,a89,h131,qA,a92,a91,c127,ln128,h130]
   refine zD [(1,0),(3,0),(6,0)] ?_
   have hb212:i63<l5.length:=by omega
   obtain⟨q213,_,xe214,_⟩:=hx129.get hb212
   subst xe214
   obtain⟨p215,hp216⟩:∃ p,l5[i63]?=some p:=⟨_,List.getElem?_eq_getElem hb212⟩
   have k217:(0:Int)≤(i63:Int):=by omega
   have k218:(i63:Int)<(l5.length:Int):=by omega
   obtain⟨_,hq219⟩:=hx129.at
   obtain⟨b222,e223,nn224⟩:=yN (H0:=H) (i:=Z65.length) (by simp) E94.1 ⟨p215.cs,true,true⟩
   have b225:=b101.ext e223
   have E227:=E94.trans e223
   obtain⟨q228,l229,Z230,ap231,e232,b233,K234,nn235⟩:=uB apS29 yK (l1:=l67) (n:=l67.length) b225 E227.1 rfl (xL yK (a:=p215) b222.1) rfl (by (try simp only[List.length_cons,List.length_nil]);omega)
   have ln236:l229.length=l67.length+1:=by rw[e232,List.length_append];try rfl
   have b237:=b98.ext e223
   have b238:=b237.kil K234 (Ne.symm (Ne.symm ne109))
   try simp -implicitDefEqProofs only[↓zP,zQ,Nat.reduceLT,Nat.reduceEqDiff,a92,a90,a93,c127,k217,h130,qB,hq219,(xD yK hp216),(p215.cs_len:p215.cs.length=20),Rw.ones,(b98.1),(b225.1),ap231,(b238.1),Nat.reduceAdd,Nat.reduceLeDiff,xZ,xY]
   refine⟨zX (zX (zX (qH))),?_⟩
   try simp only[(e126 (by omega))]
   have E242:=(E227.kil K234 b225.2).set b238.2 ⟨[gn,gx,.sl q228 0 l229.length 20,.sl q68 0 l69.length 2,.sl q21 0 l7.length 3,.sl q22 0 l8.length 5,gd],true,true⟩
   have b243:=b96.ext e223
   have b245:=(b243.kil K234 (Ne.symm (Ne.symm ne105))).oth (Ne.symm ne117) ⟨[gn,gx,.sl q228 0 l229.length 20,.sl q68 0 l69.length 2,.sl q21 0 l7.length 3,.sl q22 0 l8.length 5,gd],true,true⟩
   have b246:=b97.ext e223
   have b248:=(b246.kil K234 (Ne.symm (Ne.symm ne107))).oth (Ne.symm ne120) ⟨[gn,gx,.sl q228 0 l229.length 20,.sl q68 0 l69.length 2,.sl q21 0 l7.length 3,.sl q22 0 l8.length 5,gd],true,true⟩
   have b249:=b238.put ⟨[gn,gx,.sl q228 0 l229.length 20,.sl q68 0 l69.length 2,.sl q21 0 l7.length 3,.sl q22 0 l8.length 5,gd],true,true⟩
   have b250:=b99.ext e223
   have b252:=(b250.kil K234 (Ne.symm (Ne.symm ne111))).oth ne123 ⟨[gn,gx,.sl q228 0 l229.length 20,.sl q68 0 l69.length 2,.sl q21 0 l7.length 3,.sl q22 0 l8.length 5,gd],true,true⟩
   have b253:=b100.ext e223
   have b255:=(b253.kil K234 (Ne.symm (Ne.symm ne113))).oth ne124 ⟨[gn,gx,.sl q228 0 l229.length 20,.sl q68 0 l69.length 2,.sl q21 0 l7.length 3,.sl q22 0 l8.length 5,gd],true,true⟩
   have b256:=b233.oth (nn235 _ _ b237.1) ⟨[gn,gx,.sl q228 0 l229.length 20,.sl q68 0 l69.length 2,.sl q21 0 l7.length 3,.sl q22 0 l8.length 5,gd],true,true⟩
   have b257:=b103.ext e223
   have b259:=(b257.kil K234 (Ne.symm ne115)).oth ne110 ⟨[gn,gx,.sl q228 0 l229.length 20,.sl q68 0 l69.length 2,.sl q21 0 l7.length 3,.sl q22 0 l8.length 5,gd],true,true⟩
   refine⟨i63+1,by omega,_,_,(q228),l229,(q68),l69,rfl,E242,by omega,b245,b248,b249,b252,b255,b256,by omega,b259,by omega,(Ne.symm (Ne.symm (nn235 _ _ b243.1))),(Ne.symm (Ne.symm ne106)),(Ne.symm (Ne.symm (nn235 _ _ b246.1))),(Ne.symm (Ne.symm ne108)),(Ne.symm (Ne.symm (nn235 _ _ b237.1))),(Ne.symm (Ne.symm ne110)),(Ne.symm (Ne.symm (nn235 _ _ b250.1))),(Ne.symm (Ne.symm ne112)),(Ne.symm (Ne.symm (nn235 _ _ b253.1))),(Ne.symm (Ne.symm ne114)),(Ne.symm (nn235 _ _ b257.1)),(Ne.symm (Ne.symm ne116)),(Ne.symm (Ne.symm ne117)),(Ne.symm (Ne.symm ne118)),(Ne.symm (Ne.symm ne119)),(Ne.symm (Ne.symm ne120)),(Ne.symm (Ne.symm ne121)),(Ne.symm (Ne.symm ne122)),(Ne.symm (Ne.symm ne123)),(Ne.symm (Ne.symm ne124)),(Ne.symm (Ne.symm ne125)),?_,?_,?_,?_,?_⟩<;>simp only[zQ,Nat.reduceEqDiff,a89,a90,a91,a92]<;>rfl
 ·have c260:=b98.1
  have b262:=b97.put ⟨[gn,gx,.sl q66 0 l67.length 20,.sl q68 0 l69.length 2,.sl q21 0 l7.length 3,.sl q22 0 l8.length 5,gd],true,true⟩
  try simp -implicitDefEqProofs only[↓zP,zQ,↓qC,Nat.reduceLT,a93,Nat.reduceEqDiff,a90,a89,a92,c260,Nat.reduceAdd,a91,(b97.1),xZ,xY,(b262.1),c127,ln128,h130]
  have b264:=b101.oth ne107 ⟨[gn,gx,.sl q66 0 l67.length 20,.sl q68 0 l69.length 2,.sl q21 0 l7.length 3,.sl q22 0 l8.length 5,gd],true,true⟩
  have b265:=b103.oth ne108 ⟨[gn,gx,.sl q66 0 l67.length 20,.sl q68 0 l69.length 2,.sl q21 0 l7.length 3,.sl q22 0 l8.length 5,gd],true,true⟩
  have b266:=b99.oth ne121 ⟨[gn,gx,.sl q66 0 l67.length 20,.sl q68 0 l69.length 2,.sl q21 0 l7.length 3,.sl q22 0 l8.length 5,gd],true,true⟩
  have b267:=b100.oth ne122 ⟨[gn,gx,.sl q66 0 l67.length 20,.sl q68 0 l69.length 2,.sl q21 0 l7.length 3,.sl q22 0 l8.length 5,gd],true,true⟩
  have E268:=E94.set b97.2 ⟨[gn,gx,.sl q66 0 l67.length 20,.sl q68 0 l69.length 2,.sl q21 0 l7.length 3,.sl q22 0 l8.length 5,gd],true,true⟩
  exact⟨_,rfl,E268,gate_vd wgn wgx wgd b264 b265 b266 b267 ⟨(Ne.symm (Ne.symm ne115)),(Ne.symm ne111),(Ne.symm ne113),(Ne.symm ne112),(Ne.symm ne114),(Ne.symm (Ne.symm ne125))⟩ (by omega) (by omega) (by omega) (by omega) E268.1⟩
theorem RdN.src {H:qE}{x:AV}{l:List (Rw qK)}(h:RdN H x l):qU H x 4=some (rows Rw.cs l):=by
 rcases h with ⟨rfl,rfl⟩ | ⟨r,o,rest,rfl,hr⟩
 ·rfl
 ·rw[src_slR,hr,at_rows yU]
  simp
theorem copyE {H:qE}{x:AV}{l:List (Rw qK)}(hx:RdN H x l)(hl:l.length≤1000000) :
  ∃ (q:Nat)(Z:qE),Sound Tryz.prog 49 [.agg [x]] H (.agg [.sl q 0 l.length 4]) Z∧Ext H Z∧H.length≤q∧Z[q]?=some {cs:=rows Rw.cs l}:=by
 suffices h:∃ w Z,Sound Tryz.prog 49 [.agg [x]] H w Z∧∃ q,w=.agg [.sl q 0 l.length 4]∧Ext H Z∧H.length≤q∧Z[q]?=some {cs:=rows Rw.cs l} by
  obtain⟨w,Z,h1,q,rfl,h2⟩:=h
  exact⟨q,Z,h1,h2⟩
 refine zR 8 [.cell 2 26] Tryz.func49 ?_
 obtain⟨H1,hH1⟩:∃ H1:qE,H1=H++[{cs:=[x]}]:=⟨_,rfl⟩
 obtain⟨H2,hH2⟩:∃ H2:qE,H2=H1++[{cs:=[.sc (.slice none 0 0)]}]:=⟨_,rfl⟩
 obtain⟨H3,hH3⟩:∃ H3:qE,H3=H2++[{cs:=[]}]:=⟨_,rfl⟩
 have e1:Ext H H1:=hH1▸Ext.more H _
 have e2:Ext H1 H2:=hH2▸Ext.more H1 _
 have e3:Ext H2 H3:=hH3▸Ext.more H2 _
 have b1:H1[H.length]?=some {cs:=[x]}:=by rw[hH1];exact yA H _
 have b2:H2[H1.length]?=some {cs:=[.sc (.slice none 0 0)]}:=by rw[hH2];exact yA H1 _
 have b3:H3[H2.length]?=some {cs:=rows Rw.cs ([]:List (Rw qK))}:=by rw[hH3];exact yA H2 _
 have c2:=e3.at b2
 have E3:=(e1.trans e2).trans e3
 have l2:H.length≤H2.length:=(e1.trans e2).1
 obtain⟨s,l',G,ap,hl',bn,K,ne⟩:=uB (u:=H.length) apS24 yU (l1:=([]:List (Rw qK))) (n:=0) (k:=l.length) (⟨b3,l2⟩:LclE H3 H.length H2.length _) E3.1 rfl (hx.ext E3).src (by omega) (by omega)
 simp only[List.nil_append] at hl'
 subst hl'
 have ap':apR 4 32 H3 (H1.length+1) 0 (some {cs:=[]}) (qU H3 x 4)=some (.sl s 0 l'.length 4,G):=by
  have h:=ap
  rw[show H2.length=H1.length+1 by rw[hH2];simp] at h
  exact h
 have c2G:G[H1.length]?=some {cs:=[.sc (.slice none 0 0)]}:=(K.2 _ (qP c2) (by have:=qP b2;omega)).trans c2
 have zF:(G.set H1.length {cs:=[.sl s 0 l'.length 4]})[H1.length]?=some {cs:=[.sl s 0 l'.length 4]}:=List.getElem?_set_self (qP c2G)
 simp only[↓zP,zQ,↓qC,(hx.one),←hH1,←hH2,←hH3,((e2.trans e3).at b1),ap',c2G,zF]
 exact⟨s,rfl,(E3.kil K l2).set e1.1 _,bn.2,(List.getElem?_set_ne (Ne.symm (ne _ _ c2).symm)).trans bn.1⟩
structure AO (H0 G:qE) (r:Nat) (x:AV) (l:List (Rw qK)):Prop where
 p:PlN G r 0 [x] x l
 fr:H0.length≤r
 nw:∀ i,i<H0.length→NotIn x i
section
variable {H0 G Z : qE} {r : Nat} {x x' : AV} {l l' : List (Rw qK)}
theorem AO.dr {rc:Nat}{c:AV}(o:AO H0 G r x l)(d:Dr rc c G Z)(h:rc<H0.length):AO H0 Z r x l:=by
 obtain⟨p1,p2,p3,p4⟩:=o.p
 have:=o.fr
 exact⟨⟨(d.2.1 r (qP p1) (by omega)).trans p1,p2,OwnF.keep p3 fun i hi hn=>d.2.1 i hi (by rintro rfl;exact hn (o.nw _ h)),p4⟩,o.fr,o.nw⟩
theorem AO.ext (o:AO H0 G r x l)(e:Ext G Z):AO H0 Z r x l:=⟨o.p.ext e,o.fr,o.nw⟩
theorem AO.step (o:AO H0 G r x l)(p:PlN Z r 0 ([x].set 0 x') x' l')(k:Only G Z r x x')(h:H0.length≤G.length):AO H0 Z r x' l'∧G.length≤Z.length∧∀ i,i<H0.length→Z[i]?=G[i]?:=
 ⟨⟨p,o.fr,fun i hi=>k.2.2 i (by omega) (o.nw i hi)⟩,k.1,fun i hi=>k.2.1 i (by omega) (by have:=o.fr;omega) (o.nw i hi)⟩
end
def AL (G:qE)(r:Nat)(x:AV)(q:Nat)(g:Reg):Prop:=G[q]?=some g∧q≠r∧NotIn x q
section
variable {H0 G Z : qE} {r q : Nat} {x x' : AV} {l l' : List (Rw qK)} {g : Reg}
theorem AL.only (h:AL G r x q g)(k:Only G Z r x x'):AL Z r x' q g:=⟨(k.2.1 q (qP h.1) h.2.1 h.2.2).trans h.1,h.2.1,k.2.2 q (qP h.1) h.2.2⟩
theorem AL.dr {rc:Nat}{c:AV}(h:AL G r x q g)(d:Dr rc c G Z)(n:q≠rc):AL Z r x q g:=⟨(d.2.1 q (qP h.1) n).trans h.1,h.2⟩
theorem AO.mk' {rc:Nat}{c:AV}{L:List Int}(o:AO H0 G r x l)(C:CurE H0 G rc c L)(p:PlN Z r 0 ([x].set 0 x') x' l')(k:Only G Z r x x'):AO H0 Z r x' l'∧CurE H0 Z rc c L:=by
 obtain⟨h1,h2,h3⟩:=o.step p k C.d.1
 exact⟨h1,C.mk' h2 h3⟩
end
end
def bN (z:ByteArray)(j:Nat):Nat:=(jA z j).toNat
theorem bN_i (z:ByteArray)(j:Nat):jA z j=(bN z j:Int)∧bN z j<256:=by
 have h:0≤jA z j∧jA z j<256:=by
  unfold jA
  have:=((z.data[j]?).getD 0).toNat_lt
  omega
 unfold bN
 omega
def rdv (z:ByteArray)(a:Nat):Nat→Nat→Nat→Option (Nat×Nat)
 | 0,_,_=>none
 | f+1,i,n=>if a+i<z.size then (if 127<bN z (a+i) then rdv z a f (i+1) (n+bN z (a+i) % 128*128 ^ i) else if (0<i∧bN z (a+i)=0)∨1000000000<n+bN z (a+i) % 128*128 ^ i then none else some (n+bN z (a+i) % 128*128 ^ i,a+i+1)) else none
def rvV (r:Option (Nat×Nat)):AV:=
 match r with
 | some (n,k)=>.tup [.sc (.int .i64 n),.sc (.int .i64 k),.sc (.bool true)]
 | none=>.tup [.sc (.int .i64 0),.sc (.int .i64 0),.sc (.bool false)]
theorem rvV_flat (r:Option (Nat×Nat)):Flat (rvV r):=by
 unfold rvV
 split<;>exact .tup (qV (.sc _) (qV (.sc _) (qV (.sc _) yV)))
theorem pw7 (i:Nat)(h:i<5):(2:Int) ^ (7*i)=((128 ^ i:Nat):Int)∧128 ^ i≤268435456∧1≤128 ^ i:=by
 match i,h with
 | 0,_=>exact⟨rfl,by decide,by decide⟩
 | 1,_=>exact⟨rfl,by decide,by decide⟩
 | 2,_=>exact⟨rfl,by decide,by decide⟩
 | 3,_=>exact⟨rfl,by decide,by decide⟩
 | 4,_=>exact⟨rfl,by decide,by decide⟩
 | n+5,h=>exact absurd h (by omega)
def vl:List Nat→Nat
 | []=>0
 | b :: l=>b % 128+128*vl l
theorem vl_app (c:Nat):∀ l:List Nat,vl (l++[c])=vl l+c % 128*128 ^ l.length
 | []=>by simp[vl]
 | b :: l=>by
  simp only[List.cons_append,vl,vl_app c l,List.length_cons,Nat.pow_succ,Nat.mul_add]
  rw[Nat.mul_comm (128 ^ l.length) 128,←Nat.mul_assoc,←Nat.mul_assoc,Nat.mul_comm 128 (c % 128)]
  omega
theorem vl_pos (c:Nat)(hc:0<c % 128):∀ l:List Nat,1≤vl (l++[c])
 | []=>by simp[vl];omega
 | b :: l=>by
  have:=vl_pos c hc l
  simp only[List.cons_append,vl]
  omega
theorem vl_lt:∀ l:List Nat,vl l<128 ^ l.length
 | []=>by simp[vl]
 | b :: l=>by
  have:=vl_lt l
  simp only[vl,List.length_cons,Nat.pow_succ]
  omega
def ci (l:List Nat):List Int:=l.map fun b:Nat=>(b:Int)
theorem varN_good (c:Nat)(hc:c<128):∀ P:List Nat,(∀ b∈P,128≤b∧b<256)→(c≠0∨P=[])→varN (vl (P++[c]))=ci (P++[c])
 | [],_,_=>by
  simp only[List.nil_append,vl]
  rw[jP (by omega)]
  simp[ci]
  omega
 | b :: P,h,h0=>by
  have hc0:c≠0:=by
   rcases h0 with h0 | h0
   ·exact h0
   ·cases h0
  have hp:=vl_pos c (by omega) P
  have hb:=h b (by simp)
  have ih:=varN_good c hc P (fun x hx=>h x (by simp[hx])) (.inl hc0)
  simp only[List.cons_append,vl]
  rw[varN_big (by omega)]
  have e1:(b % 128+128*vl (P++[c])) % 128+128=b:=by omega
  have e2:(b % 128+128*vl (P++[c])) / 128=vl (P++[c]):=by omega
  rw[e1,e2,ih]
  rfl
theorem varN_bad (P:List Nat)(hP:P≠[]):varN (vl (P++[0]))≠ci (P++[0]):=by
 intro h
 have hl:(varN (vl (P++[0]))).length=P.length+1:=by rw[h];simp[ci]
 obtain⟨k,hk⟩:∃ k,P.length=k+1:=⟨P.length - 1,by have:=List.length_pos_iff.2 hP;omega⟩
 have hv:vl (P++[0])<128 ^ (k+1):=by
  rw[vl_app,←hk]
  have:=vl_lt P
  omega
 have:=varN_len k _ hv
 omega
theorem varN_range (n:Nat):∀ x∈varN n,0≤x∧x<256:=by
 induction n using Nat.strongRecOn with
 | _ n ih =>
  intro x hx
  by_cases h:127<n
  ·rw[varN_big h] at hx
   rcases List.mem_cons.1 hx with rfl | hx
   ·omega
   ·exact ih (n / 128) (by omega) x hx
  ·rw[jP h] at hx
   simp at hx
   omega
theorem ext_ci (z:ByteArray)(a i:Nat)(P:List Nat)(c:Nat)(hP:((xO z).drop a).take i=ci P)(hl:P.length=i)(hin:a+i<z.size)(hc:jA z (a+i)=(c:Int)):((xO z).drop a).take (i+1)=ci (P++[c]):=by
 have h:i<((xO z).drop a).length:=by rw[List.length_drop,wV];omega
 rw[List.take_add_one,hP,List.getElem?_eq_getElem h]
 have e:((xO z).drop a)[i]=jA z (a+i):=by
  rw[byteAt_nums,List.getElem_drop,List.getD_eq_getElem?_getD,List.getElem?_eq_getElem (by rw[wV];omega)]
  rfl
 rw[e,hc]
 simp[ci]
theorem ext_nums (z:ByteArray)(a k:Nat):xO (z.extract a (a+k))=((xO z).drop a).take k:=by
 rw[nums_extract,List.drop_take,Nat.add_sub_cancel_left]
theorem rvS (z:ByteArray)(a:Nat)(ha:a≤z.size)(hz:z.size≤1000000000):Fn Tryz.prog 134 [.sc (.string z),.sc (.int .i64 a)] (rvV (rdv z a 5 0 0)):=by
 refine Fn.run 58 [.tmp 4,.tmp 5,.tmp 6] Tryz.func134 rfl rfl rfl rfl (by simp) (qV (.sc _) (qV (.sc _) yV)) (rvV_flat _) ?_
 generalize hR:rdv z a 5 0 0=R
 simp only[↓zP,zQ,↓qC,Nat.reduceLT,Nat.reduceEqDiff,reduceCtorEq]
 refine qN rfl (inS _ 0 _) ?_
 rw[decide_eq_true (p:=0≤(a:Int)∧(a:Int)≤(z.size:Int)) (by omega)]
 simp only[↓zP,zQ,Nat.reduceLT,↓qC,Nat.reduceEqDiff]
 refine yL (ι:=Nat) (fun i s=>∃ (T:Nat→AV)(H:qE)(P:List Nat),s=⟨qY 58 T,H⟩∧i≤5∧a+i≤z.size∧P.length=i∧(∀ b∈P,128≤b∧b<256)∧((xO z).drop a).take i=ci P∧rdv z a (5 - i) i (vl P)=R∧T 0=.sc (.string z)∧T 1=.sc (.int .i64 a)∧T 7=.sc (.int .i64 (vl P))∧T 8=.sc (.int .i64 ((128 ^ i:Nat):Int))∧T 9=.sc (.int .i64 ((a+i:Nat):Int))) (fun i=>5 - i) ?_ (i:=0) ?_
 ·rintro i s ⟨T,H,P,rfl,a1,a1b,hPl,hPr,hPe,a3,a4,a5,a6,a7,a8⟩
  have e5:IntKind.i64.wrap ((a:Int)+5)=((a+5:Nat):Int):=by rw[w64 (by omega) (by omega)];omega
  have e9:IntKind.i64.wrap (((a+i:Nat):Int)+1)=((a+(i+1):Nat):Int):=by rw[w64 (by omega) (by omega)];omega
  by_cases hi:i<5
  ·have k1:((a+i:Nat):Int)<((a+5:Nat):Int):=by omega
   obtain⟨f,hf⟩:∃ f,5 - i=f+1:=⟨4 - i,by omega⟩
   have hf2:5 - (i+1)=f:=by omega
   rw[hf,rdv] at a3
   by_cases hin:a+i<z.size
   ·have k2:((a+i:Nat):Int)<z.size:=by omega
    rw[if_pos hin] at a3
    obtain⟨hb,hb2⟩:=bN_i z (a+i)
    obtain⟨p1,p2,p3⟩:=pw7 i hi
    have hvl:=vl_lt P
    rw[hPl] at hvl
    generalize hc:bN z (a+i)=c at *
    have hva:vl (P++[c])=vl P+c % 128*128 ^ i:=by rw[vl_app,hPl]
    have hex:=ext_ci z a i P c hPe hPl hin hb
    have k3:(0:Int)≤((a+i:Nat):Int):=by omega
    have e2:IntKind.i64.wrap (c:Int)=c:=w64 (by omega) (by omega)
    have e3:((c:Int)).tmod 128=((c % 128:Nat):Int):=by rw[Int.tmod_eq_emod_of_nonneg (by omega)];omega
    have hm:c % 128*128 ^ i≤127*268435456:=Nat.mul_le_mul (by omega) p2
    have e6:IntKind.i64.wrap (((c % 128:Nat):Int)*((128 ^ i:Nat):Int))=((c % 128*128 ^ i:Nat):Int):=by
     rw[←Int.natCast_mul,w64 (by omega) (by omega)]
    have e7:IntKind.i64.wrap ((vl P:Int)+((c % 128*128 ^ i:Nat):Int))=((vl (P++[c]):Nat):Int):=by rw[hva,w64 (by omega) (by omega)];omega
    have e10:IntKind.i64.wrap (((128 ^ i:Nat):Int)*128)=((128 ^ (i+1):Nat):Int):=by
     rw[Nat.pow_succ,w64 (by omega) (by omega)]
     omega
    rw[←hva] at a3
    by_cases hbig:127<c
    ·have k5:¬ (c:Int)<128:=by omega
     rw[if_pos hbig] at a3
     simp only[↓zP,zQ,↓qC,Nat.reduceLT,a8,reduceCtorEq,a4,Nat.reduceEqDiff,k2,a5,e5,a6,k3,qB,hin,hb,a7,e10,e9,k5,e2,Int.reduceEq,e3,e6,e7,k1]
     refine⟨i+1,by omega,_,_,P++[c],rfl,by omega,by omega,by simp[hPl],?_,hex,by rw[hf2];exact a3,?_,?_,?_,?_,?_⟩
     ·intro x hx
      rcases List.mem_append.1 hx with hx | hx
      ·exact hPr x hx
      ·simp at hx
       omega
     all_goals (simp only[zQ,reduceCtorEq,a4,Nat.reduceEqDiff,a5]<;>rfl)
    ·have k5:(c:Int)<128:=by omega
     rw[if_neg hbig] at a3
     simp only[↓zP,zQ,↓qC,Nat.reduceLT,a8,reduceCtorEq,a4,Nat.reduceEqDiff,k2,a5,e5,a6,k3,qB,hin,hb,a7,e10,e9,k5,e2,Int.reduceEq,e3,e6,e7,k1]
     refine zD [] ?_
     by_cases h1:1000000000<vl (P++[c])
     ·rw[if_pos (.inr h1)] at a3
      have k8:(1000000000:Int)<((vl (P++[c]):Nat):Int):=by omega
      subst a3
      simp only[↓zP,zQ,Nat.reduceLT,Nat.reduceEqDiff,k8,↓qC]
      try rfl
     ·have k8:¬ (1000000000:Int)<((vl (P++[c]):Nat):Int):=by omega
      simp only[↓zP,zQ,Nat.reduceLT,Nat.reduceEqDiff,k8]
      refine qN rfl (varS (vl (P++[c])) (by omega)) ?_
      have q1:(0:Int)≤(a:Int):=by omega
      have q2:(0:Int)≤((a+(i+1):Nat):Int):=by omega
      have q3:a≤a+(i+1):=by omega
      have q4:a+(i+1)≤z.size:=by omega
      have hnx:xO (z.extract a (a+(i+1)))=ci (P++[c]):=by rw[ext_nums];exact hex
      by_cases h0:0<i∧c=0
      ·rw[if_pos (.inl h0)] at a3
       subst a3
       have hne:((varT (vl (P++[c]))).toList == (z.extract a (a+(i+1))).toList)=false:=by
        rw[beq_eq_false_iff_ne]
        intro he
        have he3:xO (varT (vl (P++[c])))=ci (P++[c]):=by rw[(toL_inj.1 he),hnx]
        rw[varT,nums_son (varN_range _),h0.2] at he3
        exact varN_bad P (by intro hn;rw[hn] at hPl;simp at hPl;omega) he3
       simp only[↓zP,zQ,Nat.reduceLT,Nat.reduceEqDiff,reduceCtorEq,a4,a5,a8,e9,q1,qB,qA,↓qC,q2,q3,q4,hne]
       try rfl
      ·rw[if_neg (fun x=>x.elim h0 h1)] at a3
       subst a3
       have hg:c≠0∨P=[]:=by
        by_cases hi0:0<i
        ·exact .inl fun hc0=>h0 ⟨hi0,hc0⟩
        ·exact .inr (List.eq_nil_of_length_eq_zero (by omega))
       have heq:varT (vl (P++[c]))=z.extract a (a+(i+1)):=by
        apply nums_inj
        rw[varT,nums_son (varN_range _),hnx]
        exact varN_good c (by omega) P hPr hg
       rw[heq]
       simp only[↓zP,zQ,Nat.reduceLT,Nat.reduceEqDiff,reduceCtorEq,a4,a5,a8,e9,q1,qB,qA,↓qC,q2,q3,q4,beq_self_eq_true]
       try rfl
   ·have k2:¬ ((a+i:Nat):Int)<z.size:=by omega
    rw[if_neg hin] at a3
    subst a3
    simp only[↓zP,zQ,↓qC,Nat.reduceLT,a8,reduceCtorEq,a4,Nat.reduceEqDiff,k2,qA,a6,a7,Int.reduceEq]
    try rfl
  ·have k1:¬ ((a+i:Nat):Int)<((a+5:Nat):Int):=by omega
   have hi5:i=5:=by omega
   subst hi5
   have hRn:R=none:=a3.symm
   subst hRn
   by_cases hin:a+5<z.size
   ·have k2:((a+5:Nat):Int)<z.size:=by omega
    simp -implicitDefEqProofs only[↓zP,zQ,↓qC,Nat.reduceSub,Nat.reduceLT,a8,reduceCtorEq,a4,Nat.reduceEqDiff,k2,a5,e5,a6,a7,Nat.reducePow,Int.reduceMul,Int.reduceEq,k1]
    try rfl
   ·have k2:¬ ((a+5:Nat):Int)<z.size:=by omega
    simp -implicitDefEqProofs only[↓zP,zQ,↓qC,Nat.reduceSub,Nat.reduceLT,a8,reduceCtorEq,a4,Nat.reduceEqDiff,k2,qA,a6,a7,Nat.reducePow,Int.reduceMul,Int.reduceEq]
    try rfl
 ·refine⟨_,_,[],rfl,by omega,by omega,rfl,by simp,rfl,hR,?_,?_,?_,?_,?_⟩<;>simp -implicitDefEqProofs only[zQ,reduceCtorEq,Nat.reduceEqDiff,Nat.reducePow]<;>rfl
section
attribute [local irreducible] kO uW kR wQ
theorem rdv_bnd {z:ByteArray}{a m e:Nat}:∀ f i n,rdv z a f i n=some (m,e)→m≤1000000000∧e≤z.size
 | 0,i,n,h=>by simp[rdv] at h
 | f+1,i,n,h=>by
  rw[rdv] at h
  split at h
  ·split at h
   ·exact rdv_bnd f _ _ h
   ·split at h
    ·cases h
    ·injection h with h
     injection h with h3 h4
     omega
  ·cases h
theorem varE (t:ByteArray)(ht:t.size≤1000000)(a:Nat)(ha:a≤t.size):Fn Tryz.prog 134 [.sc (.string t),.sc (.int .i64 a)] (.tup [.sc (.int .i64 0),.sc (.int .i64 0),.sc (.bool false)])∨∃ m e:Nat,m≤1000000000∧e≤t.size∧Fn Tryz.prog 134 [.sc (.string t),.sc (.int .i64 a)] (.tup [.sc (.int .i64 m),.sc (.int .i64 e),.sc (.bool true)]):=by
 have h:=rvS t a ha (by omega)
 rcases hr:rdv t a 5 0 0 with _ | ⟨m,e⟩
 ·rw[hr] at h
  exact .inl h
 ·rw[hr] at h
  exact .inr ⟨m,e,(rdv_bnd _ _ _ hr).1,(rdv_bnd _ _ _ hr).2,h⟩
theorem bdOne (k a:Int):qT Tryz.prog 85 [(0,.sc (.int .i64 k)),(2,.sc (.int .i64 a))]=some (.agg [k,(0:Int),a,(0:Int)]):=by
 simp[qT,yR,yT,qW,yF,Tryz.underlying85,zero85,qR,qO]
def RT (t:ByteArray)(H:qE)(r off:Nat)(cs:List AV)(x:AV)(l:List (Rw qK))(w:AV)(Z:qE):Prop:=
 ∃ (v:Int)(e:Nat)(l':List (Rw qK))(x':AV),w=.tup [.sc (.int .i64 v),.sc (.int .i64 e)]∧PlN Z r off (cs.set off x') x' l'∧Only H Z r x x'∧Grw l l'∧v<l'.length∧e≤t.size
theorem put_lt {l l':List (Rw qK)}{k n a c v:Int}(h:PutR l k n a c l' v):Grw l l'∧v<l'.length:=by
 rcases h with ⟨g,⟨rfl,rfl⟩ | ⟨j,p,rfl,h2,_⟩⟩
 ·exact⟨g,by omega⟩
 ·have:=(List.getElem?_eq_some_iff.1 h2).1
  exact⟨g,by omega⟩
theorem RT.no {t:ByteArray}{H:qE}{r off:Nat}{cs:List AV}{x:AV}{l:List (Rw qK)}(p:PlN H r off cs x l):RT t H r off cs x l (.tup [.sc (.int .i64 (-1)),.sc (.int .i64 0)]) H:=
 ⟨-1,0,l,x,rfl,xB p,.refl H r x,.refl l,by omega,by omega⟩
theorem readS (t:ByteArray)(ht:t.size≤1000000):∀ (d:Nat){deep:Int},0≤deep→2002≤deep+d→∀ {H:qE}{r off:Nat}{cs:List AV}{x:AV}{l:List (Rw qK)},PlN H r off cs x l→l.length≤3000→∀ a:Nat,a≤t.size→∃ w Z,Sound Tryz.prog 116 [.ptr r off,.sc (.string t),a,deep] H w Z∧RT t H r off cs x l w Z:=by
 intro d
 induction d with
 | zero =>
  intro deep h0 hd H r off cs x l hP hl a ha
  refine zR 92 [.tmp 8,.tmp 9] Tryz.func116 ?_
  have k1:(2000:Int)<deep:=by omega
  rcases varE t ht a ha with rv | ⟨m,e,hm,he,rv⟩
  ·simp only[↓zP,zQ,↓qC]
   refine qN rfl rv ?_
   simp only[↓zP,zQ,↓qC]
   exact RT.no hP
  ·simp only[↓zP,zQ,↓qC]
   refine qN rfl rv ?_
   simp only[↓zP,zQ,↓qC,k1,qA]
   exact RT.no hP
 | succ d ih =>
  intro deep h0 hd H r off cs x l hP hl a ha
  refine zR 92 [.tmp 8,.tmp 9] Tryz.func116 ?_
  rcases varE t ht a ha with rv | ⟨m,e,hm,he,rv⟩
  ·simp only[↓zP,zQ,↓qC]
   refine qN rfl rv ?_
   simp only[↓zP,zQ,↓qC]
   exact RT.no hP
  ·by_cases k1:(2000:Int)<deep
   ·simp only[↓zP,zQ,↓qC]
    refine qN rfl rv ?_
    simp only[↓zP,zQ,↓qC,k1,qA]
    exact RT.no hP
   ·have ci:=inS m 1 9
    have ed:IntKind.i64.wrap (deep+1)=deep+1:=w64 (by omega) (by omega)
    by_cases k2:(1:Int)≤m∧(m:Int)≤9
    ·rw[decide_eq_true k2] at ci
     by_cases k3:(m:Int)=1
     ·rcases varE t ht e he with rw2 | ⟨n,e2,hn,he2,rw2⟩
      ·simp only[↓zP,zQ,↓qC]
       refine qN rfl rv ?_
       simp only[↓zP,zQ,↓qC,k1,qA]
       refine qN rfl ci ?_
       simp only[↓zP,zQ,k3,qA,↓qC]
       refine qN rfl rw2 ?_
       simp only[↓zP,zQ,↓qC]
       exact RT.no hP
      ·have bd:=bdAtom n
       rw[←k3] at bd
       obtain⟨v,l',x',Z,c1,c2,c3,c4⟩:=putS hP hl m n 0 0
       unfold nv at c1
       simp only[↓zP,zQ,↓qC]
       refine qN rfl rv ?_
       simp only[↓zP,zQ,↓qC,k1,qA]
       refine qN rfl ci ?_
       simp only[↓zP,zQ,qA,↓qC,decide_eq_true k3]
       refine qN rfl rw2 ?_
       simp only[↓zP,zQ,↓qC,bd]
       refine qF rfl c1 ?_
       simp only[↓zP,zQ]
       exact⟨v,e2,l',x',rfl,c2,c3,(put_lt c4).1,(put_lt c4).2,he2⟩
     ·obtain⟨_,Z1,c1,v1,e1,l1,x1,rfl,p1,o1,g1,b1,s1⟩:=ih (deep:=deep+1) (by omega) (by omega) hP hl e he
      by_cases k4:v1<0
      ·simp only[↓zP,zQ,↓qC]
       refine qN rfl rv ?_
       simp only[↓zP,zQ,↓qC,k1,qA]
       refine qN rfl ci ?_
       simp only[↓zP,zQ,qA,↓qC,k3,ed]
       refine qF rfl c1 ?_
       simp only[↓zP,zQ,↓qC,k4]
       exact⟨-1,0,l1,x1,rfl,p1,o1,g1,by omega,by omega⟩
      ·have co:=oneS m
       by_cases k5:(m:Int)=3∨(m:Int)=6
       ·rw[decide_eq_true k5] at co
        obtain⟨v,l',x',Z,c2,c3,c4,c5⟩:=putS p1 (g1.2.1 hl) m 0 v1 0
        have bd:=bdOne m v1
        unfold nv at c2
        rw[qM] at c3
        simp only[↓zP,zQ,↓qC]
        refine qN rfl rv ?_
        simp only[↓zP,zQ,↓qC,k1,qA]
        refine qN rfl ci ?_
        simp only[↓zP,zQ,qA,↓qC,k3,ed]
        refine qF rfl c1 ?_
        simp only[↓zP,zQ,↓qC,k4]
        refine qN rfl co ?_
        simp only[↓zP,zQ,↓qC,bd]
        refine qF rfl c2 ?_
        simp only[↓zP,zQ]
        exact⟨v,e1,l',x',rfl,c3,o1.trans c4,g1.trans (put_lt c5).1,(put_lt c5).2,s1⟩
       ·rw[decide_eq_false k5] at co
        obtain⟨_,Z2,c2,v2,e2,l2,x2,rfl,p2,o2,g2,b2,s2⟩:=ih (deep:=deep+1) (by omega) (by omega) p1 (g1.2.1 hl) e1 s1
        rw[qM] at p2
        by_cases k6:v2<0
        ·simp only[↓zP,zQ,↓qC]
         refine qN rfl rv ?_
         simp only[↓zP,zQ,↓qC,k1,qA]
         refine qN rfl ci ?_
         simp only[↓zP,zQ,qA,↓qC,k3,ed]
         refine qF rfl c1 ?_
         simp only[↓zP,zQ,↓qC,k4]
         refine qN rfl co ?_
         simp only[↓zP,zQ,↓qC,ed]
         refine qF rfl c2 ?_
         simp only[↓zP,zQ,↓qC,k6]
         exact⟨-1,0,l2,x2,rfl,p2,o1.trans o2,g1.trans g2,by omega,by omega⟩
        ·obtain⟨v,l',x',Z,c3,c4,c5,c6⟩:=putS p2 (g2.2.1 (g1.2.1 hl)) m 0 v1 v2
         have bd:=bdMake m v1 v2
         unfold nv at c3
         rw[qM] at c4
         simp only[↓zP,zQ,↓qC]
         refine qN rfl rv ?_
         simp only[↓zP,zQ,↓qC,k1,qA]
         refine qN rfl ci ?_
         simp only[↓zP,zQ,qA,↓qC,k3,ed]
         refine qF rfl c1 ?_
         simp only[↓zP,zQ,↓qC,k4]
         refine qN rfl co ?_
         simp only[↓zP,zQ,↓qC,ed]
         refine qF rfl c2 ?_
         simp only[↓zP,zQ,↓qC,k6,bd]
         refine qF rfl c3 ?_
         simp only[↓zP,zQ]
         exact⟨v,e2,l',x',rfl,c4,(o1.trans o2).trans c5,(g1.trans g2).trans (put_lt c6).1,(put_lt c6).2,s2⟩
    ·rw[decide_eq_false k2] at ci
     simp only[↓zP,zQ,↓qC]
     refine qN rfl rv ?_
     simp only[↓zP,zQ,↓qC,k1,qA]
     refine qN rfl ci ?_
     simp only[↓zP,zQ,qA,↓qC]
     exact RT.no hP
def RTQ (H:qE)(w:AV)(Z:qE):Prop:=
 ∃ (q:Nat)(l' rest:List (Rw qK))(k:Int)(bb:Bool),w=.tup [.agg [.sl q 0 l'.length 4],.sc (.int .i64 k),.sc (.bool bb)]∧Ext H Z∧H.length≤q∧Z[q]?=some {cs:=rows Rw.cs (l'++rest)}∧l'.length≤3000∧rt l'∧W64 k
theorem readTermE {H:qE}{x:AV}{l:List (Rw qK)}(hx:RdN H x l)(hl:l.length≤3000)(hr:rt l)(z:ByteArray)(hz:z.size≤1000000) :
  ∃ (q:Nat)(l' rest:List (Rw qK))(k:Int)(bb:Bool)(Z:qE),Sound Tryz.prog 96 [.agg [x],.sc (.string z)] H (.tup [.agg [.sl q 0 l'.length 4],.sc (.int .i64 k),.sc (.bool bb)]) Z∧Ext H Z∧H.length≤q∧Z[q]?=some {cs:=rows Rw.cs (l'++rest)}∧l'.length≤3000∧rt l'∧W64 k:=by
 suffices h:∃ w Z,Sound Tryz.prog 96 [.agg [x],.sc (.string z)] H w Z∧RTQ H w Z by
  obtain⟨w,Z,h1,q,l',rest,k,bb,rfl,h2⟩:=h
  exact⟨q,l',rest,k,bb,Z,h1,h2⟩
 refine zR 46 [.cell 4 26,.tmp 5,.tmp 6] Tryz.func96 ?_
 obtain⟨H1,hH1⟩:∃ H1:qE,H1=H++[{cs:=[x]}]:=⟨_,rfl⟩
 obtain⟨H2,hH2⟩:∃ H2:qE,H2=H1++[{cs:=[.sc (.slice none 0 0)]}]:=⟨_,rfl⟩
 have e1:Ext H H1:=hH1▸Ext.more H _
 have e2:Ext H1 H2:=hH2▸Ext.more H1 _
 have E2:=e1.trans e2
 have b1:H2[H.length]?=some {cs:=[x]}:=e2.at (by rw[hH1];exact yA H _)
 have b2:H2[H1.length]?=some {cs:=[.sc (.slice none 0 0)]}:=by rw[hH2];exact yA H1 _
 have cp:∀ {G:qE},Ext H2 G→∃ (q:Nat)(Z:qE),Sound Tryz.prog 49 [.agg [x]] G (.agg [.sl q 0 l.length 4]) Z∧Z[H1.length]?=some {cs:=[.sc (.slice none 0 0)]}∧(Z.set H1.length {cs:=[.sl q 0 l.length 4]})[H1.length]?=some {cs:=[.sl q 0 l.length 4]}∧RTQ H (.tup [.agg [.sl q 0 l.length 4],.sc (.int .i64 (-1)),.sc (.bool false)]) (Z.set H1.length {cs:=[.sl q 0 l.length 4]}):=by
  intro G e
  obtain⟨q,Z,h1,h2,h3,h4⟩:=copyE (hx.ext (E2.trans e)) (by omega)
  have h5:=h2.at (e.at b2)
  have:=qP b2
  have:=e.1
  refine⟨q,Z,h1,h5,List.getElem?_set_self (qP h5),q,l,[],-1,false,rfl,(E2.trans (e.trans h2)).set e1.1 _,by have:=E2.1;omega,?_,hl,hr,by unfold W64;omega⟩
  rw[List.getElem?_set_ne (by omega),List.append_nil]
  exact h4
 obtain⟨q0,Z1,a1,e3,hq0,zq0⟩:=copyE (hx.ext E2) (by omega)
 obtain⟨H4,hH4⟩:∃ H4:qE,H4=List.set (Z1++[{cs:=[.sc (.slice none 0 0)]}]) Z1.length {cs:=[.sl q0 0 l.length 4]}:=⟨_,rfl⟩
 have e4:Ext Z1 H4:=by rw[hH4];exact(Ext.more Z1 _).set (Nat.le_refl _) _
 have b4:H4[Z1.length]?=some {cs:=[.sl q0 0 l.length 4]}:=by rw[hH4];exact List.getElem?_set_self (by simp)
 have E4:=e3.trans e4
 have P4:PlN H4 Z1.length 0 [.sl q0 0 l.length 4] (.sl q0 0 l.length 4) l:=⟨b4,rfl,.inr ⟨q0,[],rfl,by rw[List.append_nil];exact e4.at zq0⟩,.sl (by have:=qP zq0;omega)⟩
 obtain⟨_,Z2,a2,v,e,l',x',rfl,P2,O2,g2,hv,he⟩:=readS z hz 2002 (deep:=0) (by omega) (by omega) P4 hl 0 (by omega)
 change Sound _ _ [.ptr Z1.length 0,.sc (.string z),.sc (.int .i64 0),.sc (.int .i64 0)] _ _ _ at a2
 rw[List.set_cons_zero] at P2
 have E5:Ext H2 Z2:=⟨by have:=E4.1;have:=O2.1;omega,fun i hi=>(O2.2.1 i (by have:=E4.1;omega) (by have:=e3.1;omega) (.sl (by omega))).trans (E4.2 i hi)⟩
 have c2:=E5.at b1
 have l2':=g2.2.1 hl
 simp only[↓zP,zQ,↓qC,(hx.one),←hH1,←hH2,b1]
 refine qF rfl a1 ?_
 simp only[↓zP,zQ,↓qC,←hH4]
 refine qF rfl a2 ?_
 by_cases k1:v<0
 ·obtain⟨q,Z,h1,h2,h3,h4⟩:=cp E5
  simp only[↓zP,zQ,↓qC,k1,c2]
  refine qF rfl h1 ?_
  simp only[↓zP,zQ,h2,h3]
  exact h4
 ·by_cases k2:(e:Int)=(z.size:Int)
  ·obtain⟨tx,b,Z3,a3,e6,htx⟩:=termTextS (OwnN.rd P2.2.2.1) (by omega) v
   have b7:=P2.1
   have E6:=E5.trans e6
   have c3:=e6.at c2
   simp only[↓zP,zQ,k2,↓qC,k1,qA,b7]
   refine qF rfl a3 ?_
   cases b with
   | false =>
    obtain⟨q,Z,h1,h2,h3,h4⟩:=cp E6
    simp only[↓zP,zQ,↓qC,c3]
    refine qF rfl h1 ?_
    simp only[↓zP,zQ,h2,h3]
    exact h4
   | true =>
    by_cases k3:(tx.toList == z.toList)=true
    ·have b8:=e6.at b7
     have b9:=E6.at b2
     obtain⟨q,rest,rfl,hq⟩:=P2.2.2.1.get (i:=v.toNat) (by omega)
     have z9:(Z3.set H1.length {cs:=[.sl q 0 l'.length 4]})[H1.length]?=some {cs:=[.sl q 0 l'.length 4]}:=List.getElem?_set_self (qP b9)
     have hq2:H2.length≤q:=by
      rcases Nat.lt_or_ge q H2.length with h | h
      ·exact absurd rfl (O2.2.2 q (by have:=E4.1;omega) (.sl (by omega)) _ _ _ _ rfl)
      ·exact h
     simp only[↓zP,zQ,↓qC,qA,b8,b9,z9,k3]
     refine⟨q,l',rest,v,true,rfl,(E2.trans E6).set e1.1 _,by have:=E2.1;omega,?_,l2',g2.2.2 hr,by unfold W64;omega⟩
     rw[List.getElem?_set_ne (by have:=qP b2;omega)]
     exact e6.at hq
    ·obtain⟨q,Z,h1,h2,h3,h4⟩:=cp E6
     rw[Bool.not_eq_true] at k3
     simp only[↓zP,zQ,↓qC,qA,c3,k3]
     refine qF rfl h1 ?_
     simp only[↓zP,zQ,h2,h3]
     exact h4
  ·obtain⟨q,Z,h1,h2,h3,h4⟩:=cp E5
   simp only[↓zP,zQ,↓qC,k1,qA,c2,k2]
   refine qF rfl h1 ?_
   simp only[↓zP,zQ,h2,h3]
   exact h4
end
end Go.Proofs.YtjdajobflgkebaaGreatDoor.Sim
