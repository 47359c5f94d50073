/- Texts of this proof, put together and made small by a program: part 8. -/
import Derived.Test.YtjdajobflgkebaaGreatDoorK7
set_option linter.all false
set_option maxRecDepth 100000
set_option maxHeartbeats 40000000
namespace Go.Proofs.YtjdajobflgkebaaGreatDoor.Sim
open Go
section
attribute [local irreducible] kO uW kR wQ
theorem fitsE {H:qE}(ne bi to k:Int):∃ (bb:Bool)(Z:qE),Sound Tryz.prog 187 [.agg [ne,bi,to],k] H (.sc (.bool bb)) Z∧Ext H Z:=by
 suffices h:∃ w Z,Sound Tryz.prog 187 [.agg [ne,bi,to],k] H w Z∧∃ (bb:Bool),w=.sc (.bool bb)∧Ext H Z by
  obtain⟨w,Z,h1,bb,rfl,h2⟩:=h
  exact⟨bb,Z,h1,h2⟩
 refine zR 34 [.tmp 4] Tryz.func187 ?_
 have E0:=Ext.refl H
 obtain⟨b2,u3,e1,nn4⟩:=E0.alloc (i:=H.length) (by simp) {cs:=[ne,bi,to]}
 have E5:=E0.trans e1
 obtain⟨t6,c7,ht8⟩:=zH (bi) (0) (8)
 try simp only[↓zP,zQ,↓qC,b2]
 refine qN rfl c7 ?_
 cases t6 with
 | false =>
  have k9:¬ (0≤bi∧bi≤8):=fun h=>by have:=ht8.2 h;cases this
  try simp only[↓zP,zQ,↓qC,b2]
  exact⟨_,rfl,E5⟩
 | true =>
  obtain⟨t11,c12,ht13⟩:=zH (k) (0) (255)
  try simp only[↓zP,zQ]
  refine qN rfl c12 ?_
  cases t11 with
  | false =>
   have k14:¬ (0≤k∧k≤255):=fun h=>by have:=ht13.2 h;cases this
   try simp only[↓zP,zQ,qA,↓qC,b2]
   exact⟨_,rfl,E5⟩
  | true =>
   obtain⟨t16,c17,ht18⟩:=zH (ne) (0) (255)
   try simp only[↓zP,zQ,qA,b2]
   refine qN rfl c17 ?_
   cases t16 with
   | false =>
    have k19:¬ (0≤ne∧ne≤255):=fun h=>by have:=ht18.2 h;cases this
    try simp only[↓zP,zQ,qA,↓qC,b2]
    exact⟨_,rfl,E5⟩
   | true =>
    try simp only[↓zP,zQ,qA,↓qC,b2,(u64n (IntKind.i64.wrap (8 - bi)))]
    exact⟨_,rfl,E5⟩
theorem windowNewE {H:qE}:∃ (Z:qE),Sound Tryz.prog 167 [] H (.agg [(-1:Int),(0:Int)]) Z∧Ext H Z:=by
 suffices h:∃ w Z,Sound Tryz.prog 167 [] H w Z∧w=.agg [(-1:Int),(0:Int)]∧Ext H Z by
  obtain⟨w,Z,h1,rfl,h2⟩:=h
  exact⟨Z,h1,h2⟩
 refine zR 2 [.cell 0 44] Tryz.func167 ?_
 have E0:=Ext.refl H
 obtain⟨b2,u3,e1,nn4⟩:=E0.alloc (i:=H.length) (by simp) {cs:=[(0:Int),(0:Int)]}
 have E7:=(E0.trans e1).set u3 {cs:=[(-1:Int),(0:Int)]}
 try simp -implicitDefEqProofs only[↓zP,zQ,↓qC,(by simp[qT,yR,yT,qW,yF,yI,yO,Tryz.underlying44,zero44,qR,qO]:qT Tryz.prog 44 [(0,.sc (.int .i64 (-1)))]=some (.agg [(-1:Int),(0:Int)])),b2,Nat.reduceAdd,xZ,xY,(yE b2 {cs:=[(-1:Int),(0:Int)]})]
 first | exact⟨rfl,E7⟩ | exact E7
theorem chanNewE {H:qE}(app side:Int):∃ (Z:qE),Sound Tryz.prog 153 [app,side] H (.agg [app,side,(0:Int),(0:Int),(0:Int),(-1:Int),(0:Int),(-1:Int),(0:Int)]) Z∧Ext H Z:=by
 suffices h:∃ w Z,Sound Tryz.prog 153 [app,side] H w Z∧w=.agg [app,side,(0:Int),(0:Int),(0:Int),(-1:Int),(0:Int),(-1:Int),(0:Int)]∧Ext H Z by
  obtain⟨w,Z,h1,rfl,h2⟩:=h
  exact⟨Z,h1,h2⟩
 refine zR 10 [.cell 4 46] Tryz.func153 ?_
 have E0:=Ext.refl H
 obtain⟨b2,u3,e1,nn4⟩:=E0.alloc (i:=H.length) (by simp) {cs:=[(0:Int),(0:Int),(0:Int),(0:Int),(0:Int),(0:Int),(0:Int),(0:Int),(0:Int)]}
 obtain⟨Z6,c7,e8⟩:=windowNewE (H:=(H++[{cs:=[(0:Int),(0:Int),(0:Int),(0:Int),(0:Int),(0:Int),(0:Int),(0:Int),(0:Int)]}]))
 try simp only[↓zP,zQ,↓qC]
 refine qF rfl c7 ?_
 have b10:=e8.at b2
 obtain⟨Z12,c13,e14⟩:=windowNewE (H:=Z6)
 try simp only[↓zP]
 refine qF rfl c13 ?_
 have b16:=e14.at b10
 have E19:=(((E0.trans e1).trans e8).trans e14).set u3 {cs:=[app,side,(0:Int),(0:Int),(0:Int),(-1:Int),(0:Int),(-1:Int),(0:Int)]}
 try simp -implicitDefEqProofs only[↓zP,zQ,(by simp[qT,yR,yT,qW,yF,yI,yO,Tryz.underlying46,zero46,qR,qO,tyOk44,cells44]:qT Tryz.prog 46 [(0,.sc (.int .i64 (app))),(1,.sc (.int .i64 (side))),(5,.agg [(-1:Int),(0:Int)]),(6,.agg [(-1:Int),(0:Int)])]=some (.agg [app,side,(0:Int),(0:Int),(0:Int),(-1:Int),(0:Int),(-1:Int),(0:Int)])),b16,Nat.reduceAdd,xZ,xY,(yE b16 {cs:=[app,side,(0:Int),(0:Int),(0:Int),(-1:Int),(0:Int),(-1:Int),(0:Int)]})]
 first | exact⟨rfl,E19⟩ | exact E19
theorem clientNewE {H:qE}(a b c:Int)(wa:W64 a)(wb:W64 b)(wc:W64 c):∃ (q:Rw kClient)(Z:qE),Sound Tryz.prog 64 [a,b,c] H (.agg q.cs) Z∧Ext H Z:=by
 suffices h:∃ w Z,Sound Tryz.prog 64 [a,b,c] H w Z∧∃ (q:Rw kClient),w=.agg q.cs∧Ext H Z by
  obtain⟨w,Z,h1,q,rfl,h2⟩:=h
  exact⟨q,Z,h1,h2⟩
 refine zR 11 [.cell 6 48] Tryz.func64 ?_
 have E0:=Ext.refl H
 obtain⟨b2,u3,e1,nn4⟩:=E0.alloc (i:=H.length) (by simp) {cs:=(Rw.zero kClient).cs}
 have bd6:qT Tryz.prog 48 [(0,.sc (.int .i64 (a))),(1,.sc (.int .i64 (b))),(2,.sc (.int .i64 (c)))]=some (.agg [a,b,c,(0:Int),(0:Int),.sc (.bool false),(0:Int),(0:Int),(0:Int),(0:Int),(0:Int),(0:Int),(0:Int),(0:Int),(0:Int),(0:Int),(0:Int),(0:Int),(0:Int),(0:Int),(0:Int),(0:Int),(0:Int)]):=by simp[qT,yR,yT,qW,yF,yI,yO,Tryz.underlying48,zero48,qR,qO,tyOk4,jJ,tyOk46,cells46]
 obtain⟨p7,hp8⟩:=((RowOk.int wa (RowOk.int wb (RowOk.int wc (RowOk.int ⟨by decide,by decide⟩ (RowOk.int ⟨by decide,by decide⟩ (RowOk.bool (RowOk.int ⟨by decide,by decide⟩ (RowOk.int ⟨by decide,by decide⟩ (RowOk.int ⟨by decide,by decide⟩ (RowOk.int ⟨by decide,by decide⟩ (RowOk.int ⟨by decide,by decide⟩ (RowOk.int ⟨by decide,by decide⟩ (RowOk.int ⟨by decide,by decide⟩ (RowOk.int ⟨by decide,by decide⟩ (RowOk.int ⟨by decide,by decide⟩ (RowOk.int ⟨by decide,by decide⟩ (RowOk.int ⟨by decide,by decide⟩ (RowOk.int ⟨by decide,by decide⟩ (RowOk.int ⟨by decide,by decide⟩ (RowOk.int ⟨by decide,by decide⟩ (RowOk.int ⟨by decide,by decide⟩ (RowOk.int ⟨by decide,by decide⟩ (RowOk.int ⟨by decide,by decide⟩ RowOk.nil))))))))))))))))))))))):RowOk kClient [.sc (.int .i64 (a)),.sc (.int .i64 (b)),.sc (.int .i64 (c)),.sc (.int .i64 (0)),.sc (.int .i64 (0)),.sc (.bool false),.sc (.int .i64 (0)),.sc (.int .i64 (0)),.sc (.int .i64 (0)),.sc (.int .i64 (0)),.sc (.int .i64 (0)),.sc (.int .i64 (0)),.sc (.int .i64 (0)),.sc (.int .i64 (0)),.sc (.int .i64 (0)),.sc (.int .i64 (0)),.sc (.int .i64 (0)),.sc (.int .i64 (0)),.sc (.int .i64 (0)),.sc (.int .i64 (0)),.sc (.int .i64 (0)),.sc (.int .i64 (0)),.sc (.int .i64 (0))])
 rw[←hp8] at bd6
 have wr9:=fun (H:qE)(r:Nat)=>Rw.wrA (Rw.zero kClient) p7 (m:=23) rfl H r
 try simp only[↓zP,zQ,↓qC,vB,bd6,Rw.ones,b2,wr9,(yE b2 {cs:=p7.cs}),(fun (o:Bool)=>p7.rdA (m:=23) rfl o)]
 exact⟨p7,rfl,((E0.trans e1).set u3 {cs:=p7.cs})⟩
theorem saidE {H:qE}(t k:Int)(wt:W64 t)(wk:W64 k)(p:Rw kClient):∃ (q:Rw kClient)(Z:qE),Sound Tryz.prog 150 [.agg p.cs,t,k] H (.agg q.cs) Z∧Ext H Z:=by
 suffices h:∃ w Z,Sound Tryz.prog 150 [.agg p.cs,t,k] H w Z∧∃ (q:Rw kClient),w=.agg q.cs∧Ext H Z by
  obtain⟨w,Z,h1,q,rfl,h2⟩:=h
  exact⟨q,Z,h1,h2⟩
 refine zR 15 [.cell 6 48] Tryz.func150 ?_
 have E0:=Ext.refl H
 obtain⟨b2,u3,e1,nn4⟩:=E0.alloc (i:=H.length) (by simp) {cs:=p.cs}
 have E5:=E0.trans e1
 obtain⟨b7,u8,e6,nn9⟩:=E5.alloc (i:=H.length+1) (by simp) {cs:=(Rw.zero kClient).cs}
 have b10:=e6.at b2
 obtain⟨q12,wr13,hj16,hi14,hb15⟩:=p.wrI (j:=9) rfl (show W64 (t) from wt)
 have b18:=yE b10 {cs:=q12.cs}
 obtain⟨q20,wr21,hj24,hi22,hb23⟩:=q12.wrI (j:=20) rfl (show W64 (IntKind.i64.wrap (k+1)) from (W64.wrap _))
 have E25:=((E5.trans e6).set u3 {cs:=q12.cs}).set u3 {cs:=q20.cs}
 have b26:=yE b18 {cs:=q20.cs}
 have b27:=yQ (yQ b7 (nn9 _ _ b2) {cs:=q12.cs}) (nn9 _ _ b2) {cs:=q20.cs}
 simp only[List.set_set] at b26 b27 E25
 obtain⟨q28,wr29,hj32,hi30,hb31⟩:=q20.wrI (j:=21) rfl (show W64 (1) from ⟨by decide,by decide⟩)
 have E33:=E25.set u3 {cs:=q28.cs}
 have b34:=yE b26 {cs:=q28.cs}
 have b35:=yQ b27 (nn9 _ _ b2) {cs:=q28.cs}
 simp only[List.set_set] at b34 b35 E33
 obtain⟨q36,wr37,hj40,hi38,hb39⟩:=q28.wrI (j:=22) rfl (show W64 (0) from ⟨by decide,by decide⟩)
 have E41:=E33.set u3 {cs:=q36.cs}
 have b42:=yE b34 {cs:=q36.cs}
 have b43:=yQ b35 (nn9 _ _ b2) {cs:=q36.cs}
 simp only[List.set_set] at b42 b43 E41
 have wr45:=fun (H:qE)(r:Nat)=>Rw.wrA (Rw.zero kClient) q36 (m:=23) rfl H r
 try simp only[↓zP,zQ,↓qC,vB,Rw.ones,b10,wr13,b18,wr21,b26,wr29,b34,wr37,b42,(fun (o:Bool)=>q36.rdA (m:=23) rfl o),b43,wr45,(yE b43 {cs:=q36.cs})]
 exact⟨q36,rfl,(E41.set u8 {cs:=q36.cs})⟩
theorem tickE {H:qE}(k:Int)(wk:W64 k)(p:Rw kClient):∃ (q:Rw kClient)(t:Int)(Z:qE),Sound Tryz.prog 72 [.agg p.cs,k] H (.tup [.agg q.cs,.sc (.int .i64 t)]) Z∧Ext H Z∧W64 t:=by
 suffices h:∃ w Z,Sound Tryz.prog 72 [.agg p.cs,k] H w Z∧∃ (q:Rw kClient)(t:Int),w=.tup [.agg q.cs,.sc (.int .i64 t)]∧Ext H Z∧W64 t by
  obtain⟨w,Z,h1,q,t,rfl,h2⟩:=h
  exact⟨q,t,Z,h1,h2⟩
 refine zR 59 [.cell 4 48,.tmp 5] Tryz.func72 ?_
 have E0:=Ext.refl H
 obtain⟨b2,u3,e1,nn4⟩:=E0.alloc (i:=H.length) (by simp) {cs:=p.cs}
 have E5:=E0.trans e1
 obtain⟨b7,u8,e6,nn9⟩:=E5.alloc (i:=H.length+1) (by simp) {cs:=(Rw.zero kClient).cs}
 have b10:=e6.at b2
 have E11:=E5.trans e6
 have rf12:=p.rdI (j:=3) rfl
 by_cases h13:(p.int 3)=(1:Int)
 ·have h14:=eq_true h13
  have rf15:=p.rdI (j:=20) rfl
  by_cases h16:k<(p.int 20)
  ·have ra17:=fun (o:Bool)=>p.rdA (m:=23) rfl o
   have wr18:=fun (H:qE)(r:Nat)=>Rw.wrA (Rw.zero kClient) p (m:=23) rfl H r
   have E19:=E11.set u8 {cs:=p.cs}
   have b21:=yE b7 {cs:=p.cs}
   try simp only[↓zP,zQ,↓qC,vB,Rw.ones,b10,rf12,h14,qA,rf15,h16,ra17,b7,wr18,b21]
   exact⟨p,_,rfl,E19,⟨by decide,by decide⟩⟩
  ·obtain⟨t23,c24,ht25⟩:=zH (k) (0) (99999)
   try simp only[↓zP,zQ,↓qC,vB,Rw.ones,b10,rf12,h14,qA,rf15,h16]
   refine qN rfl c24 ?_
   cases t23 with
   | false =>
    have k26:¬ (0≤k∧k≤99999):=fun h=>by have:=ht25.2 h;cases this
    have ra27:=fun (o:Bool)=>p.rdA (m:=23) rfl o
    have wr28:=fun (H:qE)(r:Nat)=>Rw.wrA (Rw.zero kClient) p (m:=23) rfl H r
    have E29:=E11.set u8 {cs:=p.cs}
    have b31:=yE b7 {cs:=p.cs}
    try simp only[↓zP,zQ,qA,↓qC,b10,ra27,b7,wr28,b31,vB,Rw.ones]
    exact⟨p,_,rfl,E29,⟨by decide,by decide⟩⟩
   | true =>
    have rf34:=p.rdI (j:=21) rfl
    obtain⟨t35,c36,ht37⟩:=zH (p.int 21) (1) (8)
    try simp only[↓zP,zQ,qA,b10,rf34]
    refine qN rfl c36 ?_
    cases t35 with
    | false =>
     have k38:¬ (1≤p.int 21∧p.int 21≤8):=fun h=>by have:=ht37.2 h;cases this
     have ra39:=fun (o:Bool)=>p.rdA (m:=23) rfl o
     have wr40:=fun (H:qE)(r:Nat)=>Rw.wrA (Rw.zero kClient) p (m:=23) rfl H r
     have E41:=E11.set u8 {cs:=p.cs}
     have b43:=yE b7 {cs:=p.cs}
     try simp only[↓zP,zQ,qA,↓qC,b10,ra39,b7,wr40,b43,vB,Rw.ones]
     exact⟨p,_,rfl,E41,⟨by decide,by decide⟩⟩
    | true =>
     have ra46:=fun (o:Bool)=>p.rdA (m:=23) rfl o
     obtain⟨b48,u49,e47,nn50⟩:=E11.alloc (i:=H.length+1+1) (by simp) {cs:=(Rw.zero kClient).cs}
     have wr54:=fun (H:qE)(r:Nat)=>Rw.wrA (Rw.zero kClient) p (m:=23) rfl H r
     have E55:=(E11.trans e47).set u49 {cs:=p.cs}
     have b56:=yQ (e47.at b10) (Ne.symm (nn50 _ _ b10)) {cs:=p.cs}
     have b57:=yQ (e47.at b7) (Ne.symm (nn50 _ _ b7)) {cs:=p.cs}
     have b58:=yE b48 {cs:=p.cs}
     have rf59:=p.rdI (j:=22) rfl
     by_cases h60:(4:Int)≤(p.int 22)
     ·obtain⟨q61,wr62,hj65,hi63,hb64⟩:=p.wrI (j:=3) rfl (show W64 (4) from ⟨by decide,by decide⟩)
      have E66:=E55.set u49 {cs:=q61.cs}
      have b67:=yQ b56 (Ne.symm (nn50 _ _ b10)) {cs:=q61.cs}
      have b68:=yQ b57 (Ne.symm (nn50 _ _ b7)) {cs:=q61.cs}
      have b69:=yE b58 {cs:=q61.cs}
      simp only[List.set_set] at b67 b68 b69 E66
      have ra70:=fun (o:Bool)=>q61.rdA (m:=23) rfl o
      have wr71:=fun (H:qE)(r:Nat)=>Rw.wrA (Rw.zero kClient) q61 (m:=23) rfl H r
      have E72:=E66.set u8 {cs:=q61.cs}
      have b74:=yE b68 {cs:=q61.cs}
      try simp only[↓zP,zQ,qA,↓qC,b10,ra46,b7,wr54,vB,Rw.ones,b48,b56,rf59,b58,wr62,b69,ra70,b68,wr71,b74,h60]
      exact⟨q61,_,rfl,E72,⟨by decide,by decide⟩⟩
     ·have rf77:=p.rdI (j:=22) rfl
      obtain⟨q78,wr79,hj82,hi80,hb81⟩:=p.wrI (j:=22) rfl (show W64 (IntKind.i64.wrap ((p.int 22)+1)) from (W64.wrap _))
      have E83:=E55.set u49 {cs:=q78.cs}
      have b84:=yQ b56 (Ne.symm (nn50 _ _ b10)) {cs:=q78.cs}
      have b85:=yQ b57 (Ne.symm (nn50 _ _ b7)) {cs:=q78.cs}
      have b86:=yE b58 {cs:=q78.cs}
      simp only[List.set_set] at b84 b85 b86 E83
      obtain⟨q87,wr88,hj91,hi89,hb90⟩:=q78.wrI (j:=21) rfl (show W64 (8) from ⟨by decide,by decide⟩)
      have E92:=E83.set u49 {cs:=q87.cs}
      have b93:=yQ b84 (Ne.symm (nn50 _ _ b10)) {cs:=q87.cs}
      have b94:=yQ b85 (Ne.symm (nn50 _ _ b7)) {cs:=q87.cs}
      have b95:=yE b86 {cs:=q87.cs}
      simp only[List.set_set] at b93 b94 b95 E92
      by_cases h97:(p.int 21)<(4:Int)
      ·have rf98:=p.rdI (j:=21) rfl
       obtain⟨q99,wr100,hj103,hi101,hb102⟩:=q87.wrI (j:=21) rfl (show W64 (IntKind.i64.wrap (2*(p.int 21))) from (W64.wrap _))
       have E104:=E92.set u49 {cs:=q99.cs}
       have b105:=yQ b93 (Ne.symm (nn50 _ _ b10)) {cs:=q99.cs}
       have b106:=yQ b94 (Ne.symm (nn50 _ _ b7)) {cs:=q99.cs}
       have b107:=yE b95 {cs:=q99.cs}
       simp only[List.set_set] at b105 b106 b107 E104
       have rf108:∀ (o:Bool)(k:Nat),jG true false k (some ⟨q99.cs,o,true⟩) 21=some (.sc (.int .i64 (IntKind.i64.wrap (2*(p.int 21))))):=fun o k=>by rw[q99.rdI rfl,hj103]
       obtain⟨q109,wr110,hj113,hi111,hb112⟩:=q99.wrI (j:=20) rfl (show W64 (IntKind.i64.wrap (k+(IntKind.i64.wrap (2*(p.int 21))))) from (W64.wrap _))
       have E114:=E104.set u49 {cs:=q109.cs}
       have b115:=yQ b105 (Ne.symm (nn50 _ _ b10)) {cs:=q109.cs}
       have b116:=yQ b106 (Ne.symm (nn50 _ _ b7)) {cs:=q109.cs}
       have b117:=yE b107 {cs:=q109.cs}
       simp only[List.set_set] at b115 b116 b117 E114
       try simp only[↓zP,zQ,qA,↓qC,b10,ra46,b7,wr54,vB,Rw.ones,b48,b56,rf59,b58,wr79,b86,wr88,b93,rf34,b95,wr100,b107,rf108,wr110,h97,h60]
       refine zD [(0,0),(2,0),(2,4)] ?_
       have ra118:=fun (o:Bool)=>q109.rdA (m:=23) rfl o
       have wr120:=fun (H:qE)(r:Nat)=>Rw.wrA (Rw.zero kClient) q109 (m:=23) rfl H r
       have E121:=E114.set u8 {cs:=q109.cs}
       have b122:=yQ b115 (Ne.symm (nn9 _ _ b2)) {cs:=q109.cs}
       have b123:=yE b116 {cs:=q109.cs}
       try simp only[↓zP,zQ,b117,ra118,b116,b115,(p.rdI (j:=9) rfl),wr120,b123]
       refine⟨zX (zX (qI (qS _ _ (H.length) 9 rfl rfl (b122.trans b115.symm)) (qH))),?_⟩
       exact⟨q109,_,rfl,E121,(p.w64 9 rfl)⟩
      ·have rf126:∀ (o:Bool)(k:Nat),jG true false k (some ⟨q87.cs,o,true⟩) 21=some (.sc (.int .i64 (8))):=fun o k=>by rw[q87.rdI rfl,hj91]
       obtain⟨q127,wr128,hj131,hi129,hb130⟩:=q87.wrI (j:=20) rfl (show W64 (IntKind.i64.wrap (k+8)) from (W64.wrap _))
       have E132:=E92.set u49 {cs:=q127.cs}
       have b133:=yQ b93 (Ne.symm (nn50 _ _ b10)) {cs:=q127.cs}
       have b134:=yQ b94 (Ne.symm (nn50 _ _ b7)) {cs:=q127.cs}
       have b135:=yE b95 {cs:=q127.cs}
       simp only[List.set_set] at b133 b134 b135 E132
       try simp only[↓zP,zQ,qA,↓qC,b10,ra46,b7,wr54,vB,Rw.ones,b48,b56,rf59,b58,wr79,b86,wr88,b93,rf34,b95,rf126,wr128,h97,h60]
       refine zD [(0,0),(2,0),(2,4)] ?_
       have ra136:=fun (o:Bool)=>q127.rdA (m:=23) rfl o
       have wr138:=fun (H:qE)(r:Nat)=>Rw.wrA (Rw.zero kClient) q127 (m:=23) rfl H r
       have E139:=E132.set u8 {cs:=q127.cs}
       have b140:=yQ b133 (Ne.symm (nn9 _ _ b2)) {cs:=q127.cs}
       have b141:=yE b134 {cs:=q127.cs}
       try simp only[↓zP,zQ,b135,ra136,b134,b133,(p.rdI (j:=9) rfl),wr138,b141]
       refine⟨zX (zX (qI (qS _ _ (H.length) 9 rfl rfl (b140.trans b133.symm)) (qH))),?_⟩
       exact⟨q127,_,rfl,E139,(p.w64 9 rfl)⟩
 ·have rf144:=p.rdI (j:=3) rfl
  by_cases h145:(p.int 3)=(2:Int)
  ·have h146:=eq_true h145
   have rf147:=p.rdI (j:=20) rfl
   by_cases h148:k<(p.int 20)
   ·have ra149:=fun (o:Bool)=>p.rdA (m:=23) rfl o
    have wr150:=fun (H:qE)(r:Nat)=>Rw.wrA (Rw.zero kClient) p (m:=23) rfl H r
    have E151:=E11.set u8 {cs:=p.cs}
    have b153:=yE b7 {cs:=p.cs}
    try simp only[↓zP,zQ,↓qC,vB,Rw.ones,b10,rf12,h13,h146,qA,rf147,h148,ra149,b7,wr150,b153]
    exact⟨p,_,rfl,E151,⟨by decide,by decide⟩⟩
   ·obtain⟨t155,c156,ht157⟩:=zH (k) (0) (99999)
    try simp only[↓zP,zQ,↓qC,vB,Rw.ones,b10,rf12,h13,h146,qA,rf147,h148]
    refine qN rfl c156 ?_
    cases t155 with
    | false =>
     have k158:¬ (0≤k∧k≤99999):=fun h=>by have:=ht157.2 h;cases this
     have ra159:=fun (o:Bool)=>p.rdA (m:=23) rfl o
     have wr160:=fun (H:qE)(r:Nat)=>Rw.wrA (Rw.zero kClient) p (m:=23) rfl H r
     have E161:=E11.set u8 {cs:=p.cs}
     have b163:=yE b7 {cs:=p.cs}
     try simp only[↓zP,zQ,qA,↓qC,b10,ra159,b7,wr160,b163,vB,Rw.ones]
     exact⟨p,_,rfl,E161,⟨by decide,by decide⟩⟩
    | true =>
     have rf166:=p.rdI (j:=21) rfl
     obtain⟨t167,c168,ht169⟩:=zH (p.int 21) (1) (8)
     try simp only[↓zP,zQ,qA,b10,rf166]
     refine qN rfl c168 ?_
     cases t167 with
     | false =>
      have k170:¬ (1≤p.int 21∧p.int 21≤8):=fun h=>by have:=ht169.2 h;cases this
      have ra171:=fun (o:Bool)=>p.rdA (m:=23) rfl o
      have wr172:=fun (H:qE)(r:Nat)=>Rw.wrA (Rw.zero kClient) p (m:=23) rfl H r
      have E173:=E11.set u8 {cs:=p.cs}
      have b175:=yE b7 {cs:=p.cs}
      try simp only[↓zP,zQ,qA,↓qC,b10,ra171,b7,wr172,b175,vB,Rw.ones]
      exact⟨p,_,rfl,E173,⟨by decide,by decide⟩⟩
     | true =>
      have ra178:=fun (o:Bool)=>p.rdA (m:=23) rfl o
      obtain⟨b180,u181,e179,nn182⟩:=E11.alloc (i:=H.length+1+1) (by simp) {cs:=(Rw.zero kClient).cs}
      have wr186:=fun (H:qE)(r:Nat)=>Rw.wrA (Rw.zero kClient) p (m:=23) rfl H r
      have E187:=(E11.trans e179).set u181 {cs:=p.cs}
      have b188:=yQ (e179.at b10) (Ne.symm (nn182 _ _ b10)) {cs:=p.cs}
      have b189:=yQ (e179.at b7) (Ne.symm (nn182 _ _ b7)) {cs:=p.cs}
      have b190:=yE b180 {cs:=p.cs}
      have rf191:=p.rdI (j:=22) rfl
      by_cases h192:(4:Int)≤(p.int 22)
      ·obtain⟨q193,wr194,hj197,hi195,hb196⟩:=p.wrI (j:=3) rfl (show W64 (4) from ⟨by decide,by decide⟩)
       have E198:=E187.set u181 {cs:=q193.cs}
       have b199:=yQ b188 (Ne.symm (nn182 _ _ b10)) {cs:=q193.cs}
       have b200:=yQ b189 (Ne.symm (nn182 _ _ b7)) {cs:=q193.cs}
       have b201:=yE b190 {cs:=q193.cs}
       simp only[List.set_set] at b199 b200 b201 E198
       have ra202:=fun (o:Bool)=>q193.rdA (m:=23) rfl o
       have wr203:=fun (H:qE)(r:Nat)=>Rw.wrA (Rw.zero kClient) q193 (m:=23) rfl H r
       have E204:=E198.set u8 {cs:=q193.cs}
       have b206:=yE b200 {cs:=q193.cs}
       try simp only[↓zP,zQ,qA,↓qC,b10,ra178,b7,wr186,vB,Rw.ones,b180,b188,rf191,b190,wr194,b201,ra202,b200,wr203,b206,h192]
       exact⟨q193,_,rfl,E204,⟨by decide,by decide⟩⟩
      ·have rf209:=p.rdI (j:=22) rfl
       obtain⟨q210,wr211,hj214,hi212,hb213⟩:=p.wrI (j:=22) rfl (show W64 (IntKind.i64.wrap ((p.int 22)+1)) from (W64.wrap _))
       have E215:=E187.set u181 {cs:=q210.cs}
       have b216:=yQ b188 (Ne.symm (nn182 _ _ b10)) {cs:=q210.cs}
       have b217:=yQ b189 (Ne.symm (nn182 _ _ b7)) {cs:=q210.cs}
       have b218:=yE b190 {cs:=q210.cs}
       simp only[List.set_set] at b216 b217 b218 E215
       obtain⟨q219,wr220,hj223,hi221,hb222⟩:=q210.wrI (j:=21) rfl (show W64 (8) from ⟨by decide,by decide⟩)
       have E224:=E215.set u181 {cs:=q219.cs}
       have b225:=yQ b216 (Ne.symm (nn182 _ _ b10)) {cs:=q219.cs}
       have b226:=yQ b217 (Ne.symm (nn182 _ _ b7)) {cs:=q219.cs}
       have b227:=yE b218 {cs:=q219.cs}
       simp only[List.set_set] at b225 b226 b227 E224
       by_cases h229:(p.int 21)<(4:Int)
       ·have rf230:=p.rdI (j:=21) rfl
        obtain⟨q231,wr232,hj235,hi233,hb234⟩:=q219.wrI (j:=21) rfl (show W64 (IntKind.i64.wrap (2*(p.int 21))) from (W64.wrap _))
        have E236:=E224.set u181 {cs:=q231.cs}
        have b237:=yQ b225 (Ne.symm (nn182 _ _ b10)) {cs:=q231.cs}
        have b238:=yQ b226 (Ne.symm (nn182 _ _ b7)) {cs:=q231.cs}
        have b239:=yE b227 {cs:=q231.cs}
        simp only[List.set_set] at b237 b238 b239 E236
        have rf240:∀ (o:Bool)(k:Nat),jG true false k (some ⟨q231.cs,o,true⟩) 21=some (.sc (.int .i64 (IntKind.i64.wrap (2*(p.int 21))))):=fun o k=>by rw[q231.rdI rfl,hj235]
        obtain⟨q241,wr242,hj245,hi243,hb244⟩:=q231.wrI (j:=20) rfl (show W64 (IntKind.i64.wrap (k+(IntKind.i64.wrap (2*(p.int 21))))) from (W64.wrap _))
        have E246:=E236.set u181 {cs:=q241.cs}
        have b247:=yQ b237 (Ne.symm (nn182 _ _ b10)) {cs:=q241.cs}
        have b248:=yQ b238 (Ne.symm (nn182 _ _ b7)) {cs:=q241.cs}
        have b249:=yE b239 {cs:=q241.cs}
        simp only[List.set_set] at b247 b248 b249 E246
        try simp only[↓zP,zQ,qA,↓qC,b10,ra178,b7,wr186,vB,Rw.ones,b180,b188,rf191,b190,wr211,b218,wr220,b225,rf166,b227,wr232,b239,rf240,wr242,h229,h192]
        refine zD [(0,0),(2,0),(2,4)] ?_
        have ra250:=fun (o:Bool)=>q241.rdA (m:=23) rfl o
        have wr252:=fun (H:qE)(r:Nat)=>Rw.wrA (Rw.zero kClient) q241 (m:=23) rfl H r
        have E253:=E246.set u8 {cs:=q241.cs}
        have b254:=yQ b247 (Ne.symm (nn9 _ _ b2)) {cs:=q241.cs}
        have b255:=yE b248 {cs:=q241.cs}
        try simp only[↓zP,zQ,b249,ra250,b248,b247,(p.rdI (j:=9) rfl),wr252,b255]
        refine⟨zX (zX (qI (qS _ _ (H.length) 9 rfl rfl (b254.trans b247.symm)) (qH))),?_⟩
        exact⟨q241,_,rfl,E253,(p.w64 9 rfl)⟩
       ·have rf258:∀ (o:Bool)(k:Nat),jG true false k (some ⟨q219.cs,o,true⟩) 21=some (.sc (.int .i64 (8))):=fun o k=>by rw[q219.rdI rfl,hj223]
        obtain⟨q259,wr260,hj263,hi261,hb262⟩:=q219.wrI (j:=20) rfl (show W64 (IntKind.i64.wrap (k+8)) from (W64.wrap _))
        have E264:=E224.set u181 {cs:=q259.cs}
        have b265:=yQ b225 (Ne.symm (nn182 _ _ b10)) {cs:=q259.cs}
        have b266:=yQ b226 (Ne.symm (nn182 _ _ b7)) {cs:=q259.cs}
        have b267:=yE b227 {cs:=q259.cs}
        simp only[List.set_set] at b265 b266 b267 E264
        try simp only[↓zP,zQ,qA,↓qC,b10,ra178,b7,wr186,vB,Rw.ones,b180,b188,rf191,b190,wr211,b218,wr220,b225,rf166,b227,rf258,wr260,h229,h192]
        refine zD [(0,0),(2,0),(2,4)] ?_
        have ra268:=fun (o:Bool)=>q259.rdA (m:=23) rfl o
        have wr270:=fun (H:qE)(r:Nat)=>Rw.wrA (Rw.zero kClient) q259 (m:=23) rfl H r
        have E271:=E264.set u8 {cs:=q259.cs}
        have b272:=yQ b265 (Ne.symm (nn9 _ _ b2)) {cs:=q259.cs}
        have b273:=yE b266 {cs:=q259.cs}
        try simp only[↓zP,zQ,b267,ra268,b266,b265,(p.rdI (j:=9) rfl),wr270,b273]
        refine⟨zX (zX (qI (qS _ _ (H.length) 9 rfl rfl (b272.trans b265.symm)) (qH))),?_⟩
        exact⟨q259,_,rfl,E271,(p.w64 9 rfl)⟩
  ·have ra276:=fun (o:Bool)=>p.rdA (m:=23) rfl o
   have wr277:=fun (H:qE)(r:Nat)=>Rw.wrA (Rw.zero kClient) p (m:=23) rfl H r
   have E278:=E11.set u8 {cs:=p.cs}
   have b280:=yE b7 {cs:=p.cs}
   try simp only[↓zP,zQ,↓qC,vB,Rw.ones,b10,rf12,h13,h145,ra276,b7,wr277,b280]
   exact⟨p,_,rfl,E278,⟨by decide,by decide⟩⟩
theorem turnOnE {H:qE}(app side ep sq hd nt ns lt ls:Int)(wapp:W64 app)(wside:W64 side)(wep:W64 ep)(wsq:W64 sq)(whd:W64 hd)(wnt:W64 nt)(wns:W64 ns)(wlt:W64 lt)(wls:W64 ls):∃ (u0:Int)(u1:Int)(u2:Int)(u3:Int)(u4:Int)(u5:Int)(u6:Int)(u7:Int)(u8:Int)(bb:Bool)(Z:qE),Sound Tryz.prog 95 [.agg [app,side,ep,sq,hd,nt,ns,lt,ls]] H (.tup [.agg [u0,u1,u2,u3,u4,u5,u6,u7,u8],.sc (.bool bb)]) Z∧Ext H Z∧W64 u0∧W64 u1∧W64 u2∧W64 u3∧W64 u4∧W64 u5∧W64 u6∧W64 u7∧W64 u8:=by
 suffices h:∃ w Z,Sound Tryz.prog 95 [.agg [app,side,ep,sq,hd,nt,ns,lt,ls]] H w Z∧∃ (u0:Int)(u1:Int)(u2:Int)(u3:Int)(u4:Int)(u5:Int)(u6:Int)(u7:Int)(u8:Int)(bb:Bool),w=.tup [.agg [u0,u1,u2,u3,u4,u5,u6,u7,u8],.sc (.bool bb)]∧Ext H Z∧W64 u0∧W64 u1∧W64 u2∧W64 u3∧W64 u4∧W64 u5∧W64 u6∧W64 u7∧W64 u8 by
  obtain⟨w,Z,h1,u0,u1,u2,u3,u4,u5,u6,u7,u8,bb,rfl,h2⟩:=h
  exact⟨u0,u1,u2,u3,u4,u5,u6,u7,u8,bb,Z,h1,h2⟩
 refine zR 24 [.cell 2 46,.tmp 3] Tryz.func95 ?_
 have E0:=Ext.refl H
 obtain⟨b2,u3,e1,nn4⟩:=E0.alloc (i:=H.length) (by simp) {cs:=[app,side,ep,sq,hd,nt,ns,lt,ls]}
 have E5:=E0.trans e1
 obtain⟨b7,u8,e6,nn9⟩:=E5.alloc (i:=H.length+1) (by simp) {cs:=[(0:Int),(0:Int),(0:Int),(0:Int),(0:Int),(0:Int),(0:Int),(0:Int),(0:Int)]}
 have b10:=e6.at b2
 have E11:=E5.trans e6
 obtain⟨t12,c13,ht14⟩:=zH (ep) (0) (7)
 try simp only[↓zP,zQ,↓qC,b10]
 refine qN rfl c13 ?_
 cases t12 with
 | false =>
  have k15:¬ (0≤ep∧ep≤7):=fun h=>by have:=ht14.2 h;cases this
  have E16:=E11.set u8 {cs:=[app,side,ep,sq,hd,nt,ns,lt,ls]}
  try simp -implicitDefEqProofs only[↓zP,zQ,↓qC,b10,Nat.reduceAdd,b7,xZ,xY,(yE b7 {cs:=[app,side,ep,sq,hd,nt,ns,lt,ls]})]
  exact⟨_,_,_,_,_,_,_,_,_,_,rfl,E16,wapp,wside,wep,wsq,whd,wnt,wns,wlt,wls⟩
 | true =>
  by_cases h20:hd<ep
  ·have E21:=E11.set u8 {cs:=[app,side,ep,sq,hd,nt,ns,lt,ls]}
   try simp -implicitDefEqProofs only[↓zP,zQ,qA,↓qC,b10,Nat.reduceAdd,b7,xZ,xY,(yE b7 {cs:=[app,side,ep,sq,hd,nt,ns,lt,ls]}),h20]
   exact⟨_,_,_,_,_,_,_,_,_,_,rfl,E21,wapp,wside,wep,wsq,whd,wnt,wns,wlt,wls⟩
  ·obtain⟨b25,u26,e24,nn27⟩:=E11.alloc (i:=H.length+1+1) (by simp) {cs:=[(0:Int),(0:Int),(0:Int),(0:Int),(0:Int),(0:Int),(0:Int),(0:Int),(0:Int)]}
   have b32:=yQ (e24.at b10) (Ne.symm (nn27 _ _ b10)) {cs:=[app,side,ep,sq,hd,nt,ns,lt,ls]}
   have b34:=yE b25 {cs:=[app,side,ep,sq,hd,nt,ns,lt,ls]}
   have E35:=((E11.trans e24).set u26 {cs:=[app,side,ep,sq,hd,nt,ns,lt,ls]}).set u26 {cs:=[app,side,IntKind.i64.wrap (ep+1),sq,hd,nt,ns,lt,ls]}
   have b36:=yQ b32 (Ne.symm (nn27 _ _ b10)) {cs:=[app,side,IntKind.i64.wrap (ep+1),sq,hd,nt,ns,lt,ls]}
   have b37:=yQ (yQ (e24.at b7) (Ne.symm (nn27 _ _ b7)) {cs:=[app,side,ep,sq,hd,nt,ns,lt,ls]}) (Ne.symm (nn27 _ _ b7)) {cs:=[app,side,IntKind.i64.wrap (ep+1),sq,hd,nt,ns,lt,ls]}
   have b38:=yE b34 {cs:=[app,side,IntKind.i64.wrap (ep+1),sq,hd,nt,ns,lt,ls]}
   simp only[List.set_set] at b36 b37 b38 E35
   have E39:=E35.set u26 {cs:=[app,side,IntKind.i64.wrap (ep+1),(0:Int),hd,nt,ns,lt,ls]}
   have b40:=yQ b36 (Ne.symm (nn27 _ _ b10)) {cs:=[app,side,IntKind.i64.wrap (ep+1),(0:Int),hd,nt,ns,lt,ls]}
   have b41:=yQ b37 (Ne.symm (nn27 _ _ b7)) {cs:=[app,side,IntKind.i64.wrap (ep+1),(0:Int),hd,nt,ns,lt,ls]}
   have b42:=yE b38 {cs:=[app,side,IntKind.i64.wrap (ep+1),(0:Int),hd,nt,ns,lt,ls]}
   simp only[List.set_set] at b40 b41 b42 E39
   have E43:=E39.set u8 {cs:=[app,side,IntKind.i64.wrap (ep+1),(0:Int),hd,nt,ns,lt,ls]}
   have b45:=yE b41 {cs:=[app,side,IntKind.i64.wrap (ep+1),(0:Int),hd,nt,ns,lt,ls]}
   try simp -implicitDefEqProofs only[↓zP,zQ,qA,↓qC,b10,Nat.reduceAdd,b7,xZ,xY,b25,b32,b34,Nat.reduceLeDiff,b38,b42,b41,b45,h20]
   exact⟨_,_,_,_,_,_,_,_,_,_,rfl,E43,wapp,wside,(W64.wrap _),⟨by decide,by decide⟩,whd,wnt,wns,wlt,wls⟩
theorem noteE {H:qE}(app side ep sq hd nt ns lt ls e k:Int)(wapp:W64 app)(wside:W64 side)(wep:W64 ep)(wsq:W64 sq)(whd:W64 hd)(wnt:W64 nt)(wns:W64 ns)(wlt:W64 lt)(wls:W64 ls)(we:W64 e)(wk:W64 k):∃ (u0:Int)(u1:Int)(u2:Int)(u3:Int)(u4:Int)(u5:Int)(u6:Int)(u7:Int)(u8:Int)(bb:Bool)(Z:qE),Sound Tryz.prog 169 [.agg [app,side,ep,sq,hd,nt,ns,lt,ls],e,k] H (.tup [.agg [u0,u1,u2,u3,u4,u5,u6,u7,u8],.sc (.bool bb)]) Z∧Ext H Z∧W64 u0∧W64 u1∧W64 u2∧W64 u3∧W64 u4∧W64 u5∧W64 u6∧W64 u7∧W64 u8:=by
 suffices h:∃ w Z,Sound Tryz.prog 169 [.agg [app,side,ep,sq,hd,nt,ns,lt,ls],e,k] H w Z∧∃ (u0:Int)(u1:Int)(u2:Int)(u3:Int)(u4:Int)(u5:Int)(u6:Int)(u7:Int)(u8:Int)(bb:Bool),w=.tup [.agg [u0,u1,u2,u3,u4,u5,u6,u7,u8],.sc (.bool bb)]∧Ext H Z∧W64 u0∧W64 u1∧W64 u2∧W64 u3∧W64 u4∧W64 u5∧W64 u6∧W64 u7∧W64 u8 by
  obtain⟨w,Z,h1,u0,u1,u2,u3,u4,u5,u6,u7,u8,bb,rfl,h2⟩:=h
  exact⟨u0,u1,u2,u3,u4,u5,u6,u7,u8,bb,Z,h1,h2⟩
 refine zR 53 [.cell 6 46,.tmp 7] Tryz.func169 ?_
 have E0:=Ext.refl H
 obtain⟨b2,u3,e1,nn4⟩:=E0.alloc (i:=H.length) (by simp) {cs:=[app,side,ep,sq,hd,nt,ns,lt,ls]}
 have E5:=E0.trans e1
 obtain⟨b7,u8,e6,nn9⟩:=E5.alloc (i:=H.length+1) (by simp) {cs:=[(0:Int),(0:Int),(0:Int),(0:Int),(0:Int),(0:Int),(0:Int),(0:Int),(0:Int)]}
 have b10:=e6.at b2
 have E11:=E5.trans e6
 obtain⟨b13,u14,e12,nn15⟩:=E11.alloc (i:=H.length+1+1) (by simp) {cs:=[(0:Int),(0:Int),(0:Int),(0:Int),(0:Int),(0:Int),(0:Int),(0:Int),(0:Int)]}
 have E19:=(E11.trans e12).set u14 {cs:=[app,side,ep,sq,hd,nt,ns,lt,ls]}
 have b20:=yQ (e12.at b10) (Ne.symm (nn15 _ _ b10)) {cs:=[app,side,ep,sq,hd,nt,ns,lt,ls]}
 have b21:=yQ (e12.at b7) (Ne.symm (nn15 _ _ b7)) {cs:=[app,side,ep,sq,hd,nt,ns,lt,ls]}
 have b22:=yE b13 {cs:=[app,side,ep,sq,hd,nt,ns,lt,ls]}
 by_cases h23:e=hd
 ·have h24:=eq_true h23
  obtain⟨r25,r26,r27,Z28,c29,e30,f31⟩:=notedE (H:=((((H++[{cs:=[app,side,ep,sq,hd,nt,ns,lt,ls]}])++[{cs:=[(0:Int),(0:Int),(0:Int),(0:Int),(0:Int),(0:Int),(0:Int),(0:Int),(0:Int)]}])++[{cs:=[(0:Int),(0:Int),(0:Int),(0:Int),(0:Int),(0:Int),(0:Int),(0:Int),(0:Int)]}]:qE).set (H.length+1+1) {cs:=[app,side,ep,sq,hd,nt,ns,lt,ls]})) (nt) (ns) (k) wnt wns wk
  try simp -implicitDefEqProofs only[↓zP,zQ,↓qC,Nat.reduceAdd,b10,xZ,xY,b20,Nat.reduceLeDiff,b22,h24]
  refine qF rfl c29 ?_
  have b34:=e30.at b22
  obtain⟨w36,w37⟩:=f31
  have b40:=yQ (e30.at b21) (Ne.symm (nn15 _ _ b7)) {cs:=[app,side,ep,sq,hd,r25,r26,lt,ls]}
  have E42:=((E19.trans e30).set u14 {cs:=[app,side,ep,sq,hd,r25,r26,lt,ls]}).set u8 {cs:=[app,side,ep,sq,hd,r25,r26,lt,ls]}
  try simp -implicitDefEqProofs only[↓zP,zQ,↓qC,b34,Nat.reduceAdd,Nat.reduceLeDiff,xZ,xY,(yE b34 {cs:=[app,side,ep,sq,hd,r25,r26,lt,ls]}),b40,(yE b40 {cs:=[app,side,ep,sq,hd,r25,r26,lt,ls]})]
  exact⟨_,_,_,_,_,_,_,_,_,_,rfl,E42,wapp,wside,wep,wsq,whd,w36,w37,wlt,wls⟩
 ·by_cases h46:e=(IntKind.i64.wrap (hd+1))
  ·have h47:=eq_true h46
   have E48:=E19.set u14 {cs:=[app,side,ep,sq,hd,nt,ns,nt,ns]}
   have b49:=yQ b20 (Ne.symm (nn15 _ _ b10)) {cs:=[app,side,ep,sq,hd,nt,ns,nt,ns]}
   have b50:=yQ b21 (Ne.symm (nn15 _ _ b7)) {cs:=[app,side,ep,sq,hd,nt,ns,nt,ns]}
   have b51:=yE b22 {cs:=[app,side,ep,sq,hd,nt,ns,nt,ns]}
   simp only[List.set_set] at b49 b50 b51 E48
   obtain⟨Z52,c53,e54⟩:=windowNewE (H:=((((H++[{cs:=[app,side,ep,sq,hd,nt,ns,lt,ls]}])++[{cs:=[(0:Int),(0:Int),(0:Int),(0:Int),(0:Int),(0:Int),(0:Int),(0:Int),(0:Int)]}])++[{cs:=[(0:Int),(0:Int),(0:Int),(0:Int),(0:Int),(0:Int),(0:Int),(0:Int),(0:Int)]}]:qE).set (H.length+1+1) {cs:=[app,side,ep,sq,hd,nt,ns,nt,ns]}))
   try simp -implicitDefEqProofs only[↓zP,zQ,↓qC,Nat.reduceAdd,b10,xZ,xY,b20,Nat.reduceLeDiff,b22,h47,h23]
   refine qF rfl c53 ?_
   have b56:=e54.at b49
   have b57:=e54.at b50
   have b58:=e54.at b51
   obtain⟨r60,r61,r62,Z63,c64,e65,f66⟩:=notedE (H:=Z52) (-1) (0) (k) ⟨by decide,by decide⟩ ⟨by decide,by decide⟩ wk
   try simp only[↓zP,zQ]
   refine qF rfl c64 ?_
   have b69:=e65.at b58
   obtain⟨w71,w72⟩:=f66
   have b74:=yQ (e65.at b56) (Ne.symm (nn15 _ _ b10)) {cs:=[app,side,ep,sq,hd,r60,r61,nt,ns]}
   have b76:=yE b69 {cs:=[app,side,ep,sq,hd,r60,r61,nt,ns]}
   have E77:=(((E48.trans e54).trans e65).set u14 {cs:=[app,side,ep,sq,hd,r60,r61,nt,ns]}).set u14 {cs:=[app,side,ep,sq,IntKind.i64.wrap (hd+1),r60,r61,nt,ns]}
   have b78:=yQ b74 (Ne.symm (nn15 _ _ b10)) {cs:=[app,side,ep,sq,IntKind.i64.wrap (hd+1),r60,r61,nt,ns]}
   have b79:=yQ (yQ (e65.at b57) (Ne.symm (nn15 _ _ b7)) {cs:=[app,side,ep,sq,hd,r60,r61,nt,ns]}) (Ne.symm (nn15 _ _ b7)) {cs:=[app,side,ep,sq,IntKind.i64.wrap (hd+1),r60,r61,nt,ns]}
   have b80:=yE b76 {cs:=[app,side,ep,sq,IntKind.i64.wrap (hd+1),r60,r61,nt,ns]}
   simp only[List.set_set] at b78 b79 b80 E77
   have E81:=E77.set u8 {cs:=[app,side,ep,sq,IntKind.i64.wrap (hd+1),r60,r61,nt,ns]}
   try simp -implicitDefEqProofs only[↓zP,zQ,↓qC,b69,Nat.reduceAdd,Nat.reduceLeDiff,xZ,xY,b74,b76,b80,b79,(yE b79 {cs:=[app,side,ep,sq,IntKind.i64.wrap (hd+1),r60,r61,nt,ns]})]
   exact⟨_,_,_,_,_,_,_,_,_,_,rfl,E81,wapp,wside,wep,wsq,(W64.wrap _),w71,w72,wnt,wns⟩
  ·obtain⟨r85,r86,r87,Z88,c89,e90,f91⟩:=notedE (H:=((((H++[{cs:=[app,side,ep,sq,hd,nt,ns,lt,ls]}])++[{cs:=[(0:Int),(0:Int),(0:Int),(0:Int),(0:Int),(0:Int),(0:Int),(0:Int),(0:Int)]}])++[{cs:=[(0:Int),(0:Int),(0:Int),(0:Int),(0:Int),(0:Int),(0:Int),(0:Int),(0:Int)]}]:qE).set (H.length+1+1) {cs:=[app,side,ep,sq,hd,nt,ns,lt,ls]})) (lt) (ls) (k) wlt wls wk
   try simp -implicitDefEqProofs only[↓zP,zQ,↓qC,Nat.reduceAdd,b10,xZ,xY,b20,Nat.reduceLeDiff,b22,h46,h23]
   refine qF rfl c89 ?_
   have b94:=e90.at b22
   obtain⟨w96,w97⟩:=f91
   have b100:=yQ (e90.at b21) (Ne.symm (nn15 _ _ b7)) {cs:=[app,side,ep,sq,hd,nt,ns,r85,r86]}
   have E102:=((E19.trans e90).set u14 {cs:=[app,side,ep,sq,hd,nt,ns,r85,r86]}).set u8 {cs:=[app,side,ep,sq,hd,nt,ns,r85,r86]}
   try simp -implicitDefEqProofs only[↓zP,zQ,↓qC,b94,Nat.reduceAdd,xZ,xY,(yE b94 {cs:=[app,side,ep,sq,hd,nt,ns,r85,r86]}),b100,(yE b100 {cs:=[app,side,ep,sq,hd,nt,ns,r85,r86]})]
   exact⟨_,_,_,_,_,_,_,_,_,_,rfl,E102,wapp,wside,wep,wsq,whd,wnt,wns,w96,w97⟩
theorem hearG {H:qE}{r off:Nat}{cs:List AV}{x:AV}{l:List (Rw qK)}(hP:PlN H r off cs x l)(hl:l.length≤3000)(app side ep sq hd nt ns lt ls k:Int)(wapp:W64 app)(wside:W64 side)(wep:W64 ep)(wsq:W64 sq)(whd:W64 hd)(wnt:W64 nt)(wns:W64 ns)(wlt:W64 lt)(wls:W64 ls)(wk:W64 k):∃ (u0:Int)(u1:Int)(u2:Int)(u3:Int)(u4:Int)(u5:Int)(u6:Int)(u7:Int)(u8:Int)(bo:Int)(co:Int)(l':List (Rw qK))(x':AV)(Z:qE),Sound Tryz.prog 154 [.ptr r off,.agg [app,side,ep,sq,hd,nt,ns,lt,ls],k] H (.tup [.agg [u0,u1,u2,u3,u4,u5,u6,u7,u8],.sc (.int .i64 bo),.sc (.int .i64 co)]) Z∧PlN Z r off (cs.set off x') x' l'∧Only H Z r x x'∧Grw l l'∧W64 u0∧W64 u1∧W64 u2∧W64 u3∧W64 u4∧W64 u5∧W64 u6∧W64 u7∧W64 u8∧W64 bo∧W64 co:=by
 suffices h:∃ w Z,Sound Tryz.prog 154 [.ptr r off,.agg [app,side,ep,sq,hd,nt,ns,lt,ls],k] H w Z∧∃ (u0:Int)(u1:Int)(u2:Int)(u3:Int)(u4:Int)(u5:Int)(u6:Int)(u7:Int)(u8:Int)(bo:Int)(co:Int)(l':List (Rw qK))(x':AV),w=.tup [.agg [u0,u1,u2,u3,u4,u5,u6,u7,u8],.sc (.int .i64 bo),.sc (.int .i64 co)]∧PlN Z r off (cs.set off x') x' l'∧Only H Z r x x'∧Grw l l'∧W64 u0∧W64 u1∧W64 u2∧W64 u3∧W64 u4∧W64 u5∧W64 u6∧W64 u7∧W64 u8∧W64 bo∧W64 co by
  obtain⟨w,Z,h1,u0,u1,u2,u3,u4,u5,u6,u7,u8,bo,co,l',x',rfl,h2⟩:=h
  exact⟨u0,u1,u2,u3,u4,u5,u6,u7,u8,bo,co,l',x',Z,h1,h2⟩
 refine zR 90 [.cell 6 46,.tmp 7,.tmp 8] Tryz.func154 ?_
 have p0:=xB hP
 have O0:=Only.refl H r x
 have G0:=Grw.refl l
 have b0:=hl
 have r01:=p0.1
 have lx4:=fun e=>OwnF.len e p0.2.2.1
 obtain⟨b6,u7,e5,nn8⟩:=Lcl.alloc p0 O0 (i:=H.length) (by simp) {cs:=[app,side,ep,sq,hd,nt,ns,lt,ls]}
 have p9:=p0.ext e5
 have O10:=O0.trans (Only.ext e5 r x)
 have r011:=p9.1
 have lx14:=fun e=>OwnF.len e p9.2.2.1
 have c15:=b6.1
 obtain⟨b17,u18,e16,nn19⟩:=Lcl.alloc p9 O10 (i:=H.length+1) (by simp) {cs:=[(0:Int),(0:Int),(0:Int),(0:Int),(0:Int),(0:Int),(0:Int),(0:Int),(0:Int)]}
 have b20:=b6.ext e16
 have c21:=b20.1
 have p22:=p9.ext e16
 have r024:=p22.1
 have lx27:=fun e=>OwnF.len e p22.2.2.1
 have c28:=b17.1
 obtain⟨r29,r30,r31,Z32,c33,e34,f35⟩:=recHeadE (OwnN.rd p22.2.2.1) (by omega) (k)
 try simp only[↓zP,zQ,↓qC,qJ,r024,(PlN.ra p0)]
 refine qF rfl c33 ?_
 have b36:=b20.ext e34
 have c37:=b36.1
 have b38:=b17.ext e34
 have c39:=b38.1
 have p40:=p22.ext e34
 have r042:=p40.1
 have lx45:=fun e=>OwnF.len e p40.2.2.1
 obtain⟨w46,w47,f48⟩:=f35
 try simp only[↓zP,zQ,↓qC]
 refine zD [(2,0),(3,0)] ?_
 obtain⟨r49,Z50,c51,e52⟩:=chanOkE (OwnN.rd p40.2.2.1) (by omega) (app) (side) (ep) (sq) (hd) (nt) (ns) (lt) (ls)
 try simp -implicitDefEqProofs only[↓zP,zQ,qJ,c37,Nat.reduceAdd,r042,(PlN.ra p40)]
 refine qF rfl c51 ?_
 have b54:=b36.ext e52
 have c55:=b54.1
 have b56:=b38.ext e52
 have c57:=b56.1
 have p58:=p40.ext e52
 have O59:=((O10.trans (Only.ext e16 r x)).trans (Only.ext e34 r x)).trans (Only.ext e52 r x)
 have r060:=p58.1
 have rc61:=PlN.rd p58
 have lx63:=fun e=>OwnF.len e p58.2.2.1
 cases r49 with
 | false =>
  try simp -implicitDefEqProofs only[↓zP,zQ,↓qC,c55,Nat.reduceAdd,c57,xZ,xY]
  refine⟨zX (zX (qH)),?_⟩
  have b64:=Lcl.set' b54 (Ne.symm (nn19 _ _ c15)) {cs:=[app,side,ep,sq,hd,nt,ns,lt,ls]}
  have b65:=b56.set {cs:=[app,side,ep,sq,hd,nt,ns,lt,ls]}
  have p66:=PlN.setL p58 b56.2 {cs:=[app,side,ep,sq,hd,nt,ns,lt,ls]}
  have O67:=O59.setL u18 {cs:=[app,side,ep,sq,hd,nt,ns,lt,ls]}
  have c68:=b64.1
  have c69:=b65.1
  have r070:=p66.1
  have lx73:=fun e=>OwnF.len e p66.2.2.1
  try simp -implicitDefEqProofs only[zQ,c69,Nat.reduceAdd]
  exact⟨_,_,_,_,_,_,_,_,_,_,_,l,x,rfl,p66,O67,G0,wapp,wside,wep,wsq,whd,wnt,wns,wlt,wls,⟨by decide,by decide⟩,⟨by decide,by decide⟩⟩
 | true =>
  try simp -implicitDefEqProofs only[↓zP,zQ,qA,↓qC,c55,Nat.reduceAdd,c57,xZ,xY]
  refine⟨zX (zX (qH)),?_⟩
  cases r31 with
  | false =>
   have b74:=Lcl.set' b54 (Ne.symm (nn19 _ _ c15)) {cs:=[app,side,ep,sq,hd,nt,ns,lt,ls]}
   have b75:=b56.set {cs:=[app,side,ep,sq,hd,nt,ns,lt,ls]}
   have p76:=PlN.setL p58 b56.2 {cs:=[app,side,ep,sq,hd,nt,ns,lt,ls]}
   have O77:=O59.setL u18 {cs:=[app,side,ep,sq,hd,nt,ns,lt,ls]}
   have c78:=b74.1
   have c79:=b75.1
   have r080:=p76.1
   have lx83:=fun e=>OwnF.len e p76.2.2.1
   try simp -implicitDefEqProofs only[zQ,c79,Nat.reduceAdd]
   exact⟨_,_,_,_,_,_,_,_,_,_,_,l,x,rfl,p76,O77,G0,wapp,wside,wep,wsq,whd,wnt,wns,wlt,wls,⟨by decide,by decide⟩,⟨by decide,by decide⟩⟩
  | true =>
   obtain⟨_,hp84⟩:=f48 rfl
   obtain⟨t85,c86,ht87⟩:=zH (r29) (IntKind.i64.wrap (hd - 1)) (IntKind.i64.wrap (hd+1))
   try simp only[zQ]
   refine qN rfl c86 ?_
   cases t85 with
   | false =>
    have k88:¬ (IntKind.i64.wrap (hd - 1)≤r29∧r29≤IntKind.i64.wrap (hd+1)):=fun h=>by have:=ht87.2 h;cases this
    have b89:=Lcl.set' b54 (Ne.symm (nn19 _ _ c15)) {cs:=[app,side,ep,sq,hd,nt,ns,lt,ls]}
    have b90:=b56.set {cs:=[app,side,ep,sq,hd,nt,ns,lt,ls]}
    have p91:=PlN.setL p58 b56.2 {cs:=[app,side,ep,sq,hd,nt,ns,lt,ls]}
    have O92:=O59.setL u18 {cs:=[app,side,ep,sq,hd,nt,ns,lt,ls]}
    have c93:=b89.1
    have c94:=b90.1
    have r095:=p91.1
    have lx98:=fun e=>OwnF.len e p91.2.2.1
    try simp -implicitDefEqProofs only[↓zP,zQ,↓qC,c55,Nat.reduceAdd,c57,xZ,xY,c94,qJ,r060,rc61,lx63]
    exact⟨_,_,_,_,_,_,_,_,_,_,_,l,x,rfl,p91,O92,G0,wapp,wside,wep,wsq,whd,wnt,wns,wlt,wls,⟨by decide,by decide⟩,⟨by decide,by decide⟩⟩
   | true =>
    have k99:=ht87.1 rfl
    try simp -implicitDefEqProofs only[↓zP,zQ,↓qC,c55,Nat.reduceAdd,c57,xZ,xY,qJ,r060,rc61,lx63]
    refine zD [(3,0),(7,0),(7,6)] ?_
    obtain⟨v100,l101,x102,Z103,c104,p105,o106,g107⟩:=epochG p58 b0 (app) (r29)
    try simp only[↓zP,zQ,c55]
    refine qF rfl c104 ?_
    rw[qM] at p105
    have b108:=b54.only o106
    have c109:=b108.1
    have b110:=b56.only o106
    have c111:=b110.1
    have G113:=G0.trans g107.1
    have bl114:=G113.2.1 hl
    have r0115:=p105.1
    have lx118:=fun e=>OwnF.len e p105.2.2.1
    have w119:W64 v100:=by have h:=g107.2;unfold W64;omega
    obtain⟨v120,l121,x122,Z123,c124,p125,o126,g127⟩:=sideG p105 bl114 (v100) (IntKind.i64.wrap (3 - side))
    try simp only[↓zP,zQ,c109]
    refine qF rfl c124 ?_
    rw[qM] at p125
    have b128:=b108.only o126
    have c129:=b128.1
    have b130:=b110.only o126
    have c131:=b130.1
    have G133:=G113.trans g127.1
    have bl134:=G133.2.1 hl
    have r0135:=p125.1
    have lx138:=fun e=>OwnF.len e p125.2.2.1
    have w139:W64 v120:=by have h:=g127.2;unfold W64;omega
    try simp only[↓zP,zQ,↓qC,qJ,r0135,(PlN.ra p125)]
    refine⟨zX (qI (qS _ _ (H.length) 1 rfl rfl (c55.trans c109.symm)) (zX (qH))),?_⟩
    obtain⟨r140,r141,Z142,c143,e144,f145⟩:=openRecE (OwnN.rd p125.2.2.1) (by omega) (v120) (k)
    refine qF rfl c143 ?_
    have b146:=b128.ext e144
    have c147:=b146.1
    have b148:=b130.ext e144
    have c149:=b148.1
    have p150:=p125.ext e144
    have r0152:=p150.1
    have lx155:=fun e=>OwnF.len e p150.2.2.1
    obtain⟨w156,x157,Z158,c159,p160,o161⟩:=jL p150 bl134 l.length
    try simp only[↓zP,zQ,↓qC]
    refine qF rfl c159 ?_
    rw[G133.back] at p160
    rw[qM] at p160
    have b162:=b146.only o161
    have c163:=b162.1
    have b164:=b148.only o161
    have c165:=b164.1
    have O166:=(((O59.trans o106).trans o126).trans (Only.ext e144 r x122)).trans o161
    have r0167:=p160.1
    have lx170:=fun e=>OwnF.len e p160.2.2.1
    have G171:=Grw.refl l
    cases r141 with
    | false =>
     have b172:=Lcl.set' b162 (Ne.symm (nn19 _ _ c15)) {cs:=[app,side,ep,sq,hd,nt,ns,lt,ls]}
     have b173:=b164.set {cs:=[app,side,ep,sq,hd,nt,ns,lt,ls]}
     have p174:=PlN.setL p160 b164.2 {cs:=[app,side,ep,sq,hd,nt,ns,lt,ls]}
     have O175:=O166.setL u18 {cs:=[app,side,ep,sq,hd,nt,ns,lt,ls]}
     have c176:=b172.1
     have c177:=b173.1
     have r0178:=p174.1
     have lx181:=fun e=>OwnF.len e p174.2.2.1
     try simp -implicitDefEqProofs only[↓zP,zQ,↓qC,c163,Nat.reduceAdd,c165,xZ,xY,c177]
     exact⟨_,_,_,_,_,_,_,_,_,_,_,l,x157,rfl,p174,O175,G171,wapp,wside,wep,wsq,whd,wnt,wns,wlt,wls,⟨by decide,by decide⟩,⟨by decide,by decide⟩⟩
    | true =>
     obtain⟨r182,r183,r184,r185,r186,r187,r188,r189,r190,r191,Z192,c193,e194,f195⟩:=noteE (H:=Z158) (app) (side) (ep) (sq) (hd) (nt) (ns) (lt) (ls) (r29) (r30) wapp wside wep wsq whd wnt wns wlt wls w46 w47
     try simp -implicitDefEqProofs only[↓zP,zQ,↓qC,c163,Nat.reduceAdd,c165,xZ,xY]
     refine qF rfl c193 ?_
     have b196:=b162.ext e194
     have c197:=b196.1
     have b198:=b164.ext e194
     have c199:=b198.1
     have p200:=p160.ext e194
     have O201:=O166.trans (Only.ext e194 r x157)
     have r0202:=p200.1
     have lx205:=fun e=>OwnF.len e p200.2.2.1
     obtain⟨w206,w207,w208,w209,w210,w211,w212,w213,w214⟩:=f195
     obtain⟨b216,u217,e215,nn218⟩:=Lcl.alloc p200 O201 (i:=Z192.length) (by simp) {cs:=[(0:Int),(0:Int),(0:Int),(0:Int),(0:Int),(0:Int),(0:Int),(0:Int),(0:Int)]}
     have b219:=b196.ext e215
     have c220:=b219.1
     have b221:=b198.ext e215
     have c222:=b221.1
     have p223:=p200.ext e215
     have r0225:=p223.1
     have lx228:=fun e=>OwnF.len e p223.2.2.1
     have c229:=b216.1
     have b230:=Lcl.set' b219 (Ne.symm (nn218 _ _ c197)) {cs:=[r182,r183,r184,r185,r186,r187,r188,r189,r190]}
     have b231:=Lcl.set' b221 (Ne.symm (nn218 _ _ c199)) {cs:=[r182,r183,r184,r185,r186,r187,r188,r189,r190]}
     have b232:=b216.set {cs:=[r182,r183,r184,r185,r186,r187,r188,r189,r190]}
     have p233:=PlN.setL p223 b216.2 {cs:=[r182,r183,r184,r185,r186,r187,r188,r189,r190]}
     have O234:=(O201.trans (Only.ext e215 r x157)).setL u217 {cs:=[r182,r183,r184,r185,r186,r187,r188,r189,r190]}
     have c235:=b230.1
     have c236:=b231.1
     have c237:=b232.1
     have r0238:=p233.1
     have lx241:=fun e=>OwnF.len e p233.2.2.1
     cases r191 with
     | false =>
      have b242:=Lcl.set' b230 (Ne.symm (nn19 _ _ c15)) {cs:=[app,side,ep,sq,hd,nt,ns,lt,ls]}
      have b243:=b231.set {cs:=[app,side,ep,sq,hd,nt,ns,lt,ls]}
      have b244:=Lcl.set' b232 (nn218 _ _ c199) {cs:=[app,side,ep,sq,hd,nt,ns,lt,ls]}
      have p245:=PlN.setL p233 b231.2 {cs:=[app,side,ep,sq,hd,nt,ns,lt,ls]}
      have O246:=O234.setL u18 {cs:=[app,side,ep,sq,hd,nt,ns,lt,ls]}
      have c247:=b242.1
      have c248:=b243.1
      have c249:=b244.1
      have r0250:=p245.1
      have lx253:=fun e=>OwnF.len e p245.2.2.1
      try simp -implicitDefEqProofs only[↓zP,zQ,↓qC,c229,Nat.reduceAdd,xZ,xY,c235,c236,c248]
      exact⟨_,_,_,_,_,_,_,_,_,_,_,l,x157,rfl,p245,O246,G171,wapp,wside,wep,wsq,whd,wnt,wns,wlt,wls,⟨by decide,by decide⟩,⟨by decide,by decide⟩⟩
     | true =>
      have b254:=Lcl.set' b230 (Ne.symm (nn19 _ _ c15)) {cs:=[r182,r183,r184,r185,r186,r187,r188,r189,r190]}
      have b255:=b231.set {cs:=[r182,r183,r184,r185,r186,r187,r188,r189,r190]}
      have b256:=Lcl.set' b232 (nn218 _ _ c199) {cs:=[r182,r183,r184,r185,r186,r187,r188,r189,r190]}
      have p257:=PlN.setL p233 b231.2 {cs:=[r182,r183,r184,r185,r186,r187,r188,r189,r190]}
      have O258:=O234.setL u18 {cs:=[r182,r183,r184,r185,r186,r187,r188,r189,r190]}
      have c259:=b254.1
      have c260:=b255.1
      have c261:=b256.1
      have r0262:=p257.1
      have lx265:=fun e=>OwnF.len e p257.2.2.1
      try simp -implicitDefEqProofs only[↓zP,zQ,↓qC,c229,Nat.reduceAdd,xZ,xY,c237,c236,c260]
      exact⟨_,_,_,_,_,_,_,_,_,_,_,l,x157,rfl,p257,O258,G171,w206,w207,w208,w209,w210,w211,w212,w213,w214,f145,⟨by decide,by decide⟩⟩
theorem startG {H:qE}{r off:Nat}{cs:List AV}{x:AV}{l:List (Rw qK)}(hP:PlN H r off cs x l)(hl:l.length≤3000)(d k:Int)(wd:W64 d)(wk:W64 k)(p:Rw kClient):∃ (q:Rw kClient)(t:Int)(l':List (Rw qK))(x':AV)(Z:qE),Sound Tryz.prog 69 [.ptr r off,.agg p.cs,d,k] H (.tup [.agg q.cs,.sc (.int .i64 t)]) Z∧PlN Z r off (cs.set off x') x' l'∧Only H Z r x x'∧Grw l l'∧W64 t:=by
 suffices h:∃ w Z,Sound Tryz.prog 69 [.ptr r off,.agg p.cs,d,k] H w Z∧∃ (q:Rw kClient)(t:Int)(l':List (Rw qK))(x':AV),w=.tup [.agg q.cs,.sc (.int .i64 t)]∧PlN Z r off (cs.set off x') x' l'∧Only H Z r x x'∧Grw l l'∧W64 t by
  obtain⟨w,Z,h1,q,t,l',x',rfl,h2⟩:=h
  exact⟨q,t,l',x',Z,h1,h2⟩
 refine zR 90 [.cell 8 48,.tmp 9] Tryz.func69 ?_
 have p0:=xB hP
 have O0:=Only.refl H r x
 have G0:=Grw.refl l
 have b0:=hl
 have lx4:=fun e=>OwnF.len e p0.2.2.1
 obtain⟨b6,u7,e5,nn8⟩:=Lcl.alloc p0 O0 (i:=H.length) (by simp) {cs:=p.cs}
 have p9:=p0.ext e5
 have O10:=O0.trans (Only.ext e5 r x)
 obtain⟨b17,u18,e16,nn19⟩:=Lcl.alloc p9 O10 (i:=H.length+1) (by simp) {cs:=(Rw.zero kClient).cs}
 have b20:=b6.ext e16
 have c21:=b20.1
 have p22:=p9.ext e16
 have O23:=O10.trans (Only.ext e16 r x)
 have r024:=p22.1
 have rc25:=PlN.rd p22
 have lx27:=fun e=>OwnF.len e p22.2.2.1
 have c28:=b17.1
 have rf29:=p.rdI (j:=3) rfl
 by_cases h30:(p.int 3)=(0:Int)
 ·have h31:=eq_true h30
  obtain⟨t32,c33,ht34⟩:=zH (d) (1000) (900000)
  try simp only[↓zP,zQ,↓qC,vB,Rw.ones,c21,rf29,h31,qA]
  refine qN rfl c33 ?_
  cases t32 with
  | false =>
   have k35:¬ (1000≤d∧d≤900000):=fun h=>by have:=ht34.2 h;cases this
   have ra36:=fun (o:Bool)=>p.rdA (m:=23) rfl o
   have wr37:=fun (H:qE)(r:Nat)=>Rw.wrA (Rw.zero kClient) p (m:=23) rfl H r
   have b39:=b17.set {cs:=p.cs}
   have p40:=PlN.setL p22 b17.2 {cs:=p.cs}
   have O41:=O23.setL u18 {cs:=p.cs}
   try simp only[↓zP,zQ,qA,↓qC,c21,ra36,c28,wr37,(b39.1),qJ,r024,rc25,lx27]
   exact⟨p,_,l,x,rfl,p40,O41,G0,⟨by decide,by decide⟩⟩
  | true =>
   obtain⟨t50,c51,ht52⟩:=zH (k) (0) (99999)
   try simp only[↓zP,zQ,qA]
   refine qN rfl c51 ?_
   cases t50 with
   | false =>
    have k53:¬ (0≤k∧k≤99999):=fun h=>by have:=ht52.2 h;cases this
    have ra54:=fun (o:Bool)=>p.rdA (m:=23) rfl o
    have wr55:=fun (H:qE)(r:Nat)=>Rw.wrA (Rw.zero kClient) p (m:=23) rfl H r
    have b57:=b17.set {cs:=p.cs}
    have p58:=PlN.setL p22 b17.2 {cs:=p.cs}
    have O59:=O23.setL u18 {cs:=p.cs}
    try simp only[↓zP,zQ,qA,↓qC,c21,ra54,c28,wr55,(b57.1),qJ,r024,rc25,lx27]
    exact⟨p,_,l,x,rfl,p58,O59,G0,⟨by decide,by decide⟩⟩
   | true =>
    obtain⟨v68,l69,x70,Z71,c72,p73,o74,g75⟩:=xK p22 b0 (IntKind.i64.wrap (d+1))
    try simp only[↓zP,zQ,qA,↓qC,c21,c28,qJ,r024,rc25,lx27]
    refine qF rfl c72 ?_
    rw[qM] at p73
    have G81:=G0.trans g75.1
    obtain⟨v88,l89,x90,Z91,c92,p93,o94,g95⟩:=xK p73 (G81.2.1 hl) (d)
    try simp only[↓zP,zQ,↓qC]
    refine qF rfl c92 ?_
    rw[qM] at p93
    have G101:=G81.trans g95.1
    obtain⟨v108,l109,x110,Z111,c112,p113,o114,g115⟩:=wG p93 (G101.2.1 hl) (6) (v88) (0)
    try simp only[↓zP]
    refine qF rfl c112 ?_
    rw[qM] at p113
    have b116:=((b20.only o74).only o94).only o114
    have G121:=G101.trans g115.1
    have rf128:=p.rdI (j:=2) rfl
    have rf129:=p.rdI (j:=0) rfl
    obtain⟨r130,l131,x132,Z133,c134,p135,o136,g137,f138⟩:=helloG p113 (G121.2.1 hl) (p.int 2) (p.int 0) (v68) (v108)
    try simp only[↓zP,zQ,↓qC,(b116.1),rf129,rf128]
    refine qF rfl c134 ?_
    have g139:=And.intro g137 trivial
    rw[qM] at p135
    have G145:=G121.trans g139.1
    have w151:W64 r130:=by have h:=f138;unfold W64;omega
    obtain⟨v152,l153,x154,Z155,c156,p157,o158,g159⟩:=xK p135 (G145.2.1 hl) (0)
    try simp only[↓zP,zQ,↓qC]
    refine qF rfl c156 ?_
    rw[qM] at p157
    have G165:=G145.trans g159.1
    obtain⟨v172,l173,x174,Z175,c176,p177,o178,g179,i180⟩:=uD p157 (G165.2.1 hl) (71) [r130,v152] 2 rfl (by decide)
    try simp only[↓zP,zQ]
    refine qF rfl c176 ?_
    rw[qM] at p177
    have b181:=((b116.only o136).only o158).only o178
    have c182:=b181.1
    have b183:=(((((b17.only o74).only o94).only o114).only o136).only o158).only o178
    have O185:=(((((O23.trans o74).trans o94).trans o114).trans o136).trans o158).trans o178
    have G186:=G165.trans g179.1
    have w192:W64 v172:=by have h:=g179.2;unfold W64;omega
    by_cases h193:v172<(0:Int)
    ·obtain⟨w194,x195,Z196,c197,p198,o199⟩:=jL p177 (G186.2.1 hl) l.length
     try simp only[↓zP,zQ,↓qC,h193,c182,rf128,rf129]
     refine qF rfl c197 ?_
     rw[G186.back] at p198
     rw[qM] at p198
     have b202:=b183.only o199
     have ra210:=fun (o:Bool)=>p.rdA (m:=23) rfl o
     have wr211:=fun (H:qE)(r:Nat)=>Rw.wrA (Rw.zero kClient) p (m:=23) rfl H r
     have b213:=b202.set {cs:=p.cs}
     have p214:=PlN.setL p198 b202.2 {cs:=p.cs}
     have O215:=(O185.trans o199).setL u18 {cs:=p.cs}
     try simp only[↓zP,zQ,↓qC,((b181.only o199).1),ra210,(b202.1),wr211,(b213.1)]
     exact⟨p,_,l,x195,rfl,p214,O215,(Grw.refl l),⟨by decide,by decide⟩⟩
    ·have rf223:=p.rdI (j:=0) rfl
     obtain⟨r226,Z227,c228,e229⟩:=clientNewE (H:=Z175) (p.int 0) (p.int 1) (p.int 2) (p.w64 0 rfl) (p.w64 1 rfl) (p.w64 2 rfl)
     try simp only[↓zP,zQ,↓qC,h193,c182,rf128,(p.rdI (j:=1) rfl),rf129]
     refine qF rfl c228 ?_
     have b231:=b181.ext e229
     have c232:=b231.1
     have b233:=b183.ext e229
     have c234:=b233.1
     have p235:=p177.ext e229
     have O236:=O185.trans (Only.ext e229 r x174)
     obtain⟨b242,u243,e241,nn244⟩:=Lcl.alloc p235 O236 (i:=Z227.length) (by simp) {cs:=(Rw.zero kClient).cs}
     have O250:=O236.trans (Only.ext e241 r x174)
     have wr256:=fun (H:qE)(r:Nat)=>Rw.wrA (Rw.zero kClient) r226 (m:=23) rfl H r
     have b257:=Lcl.set' (b231.ext e241) (Ne.symm (nn244 _ _ c232)) {cs:=r226.cs}
     have b258:=Lcl.set' (b233.ext e241) (Ne.symm (nn244 _ _ c234)) {cs:=r226.cs}
     have b259:=b242.set {cs:=r226.cs}
     have p260:=PlN.setL (p235.ext e241) b242.2 {cs:=r226.cs}
     have O261:=O250.setL u243 {cs:=r226.cs}
     obtain⟨q269,wr270,hj273,hi271,hb272⟩:=r226.wrI (j:=3) rfl (show W64 (1) from ⟨by decide,by decide⟩)
     have b274:=Lcl.set' b257 (Ne.symm (nn244 _ _ c232)) {cs:=q269.cs}
     have b275:=Lcl.set' b258 (Ne.symm (nn244 _ _ c234)) {cs:=q269.cs}
     have b276:=b259.set {cs:=q269.cs}
     have p277:=PlN.setL p260 b259.2 {cs:=q269.cs}
     have O278:=O261.setL u243 {cs:=q269.cs}
     simp only[List.set_set] at b274 b275 b276 p277 O278
     obtain⟨q286,wr287,hj290,hi288,hb289⟩:=q269.wrI (j:=4) rfl (show W64 (d) from wd)
     have b291:=Lcl.set' b274 (Ne.symm (nn244 _ _ c232)) {cs:=q286.cs}
     have b292:=Lcl.set' b275 (Ne.symm (nn244 _ _ c234)) {cs:=q286.cs}
     have b293:=b276.set {cs:=q286.cs}
     have p294:=PlN.setL p277 b276.2 {cs:=q286.cs}
     have O295:=O278.setL u243 {cs:=q286.cs}
     simp only[List.set_set] at b291 b292 b293 p294 O295
     obtain⟨q303,wr304,hj307,hi305,hb306⟩:=q286.wrI (j:=6) rfl (show W64 (r130) from w151)
     have b308:=Lcl.set' b291 (Ne.symm (nn244 _ _ c232)) {cs:=q303.cs}
     have b309:=Lcl.set' b292 (Ne.symm (nn244 _ _ c234)) {cs:=q303.cs}
     have b310:=b293.set {cs:=q303.cs}
     have p311:=PlN.setL p294 b293.2 {cs:=q303.cs}
     have O312:=O295.setL u243 {cs:=q303.cs}
     simp only[List.set_set] at b308 b309 b310 p311 O312
     obtain⟨q320,wr321,hj324,hi322,hb323⟩:=q303.wrI (j:=9) rfl (show W64 (v172) from w192)
     have b325:=Lcl.set' b308 (Ne.symm (nn244 _ _ c232)) {cs:=q320.cs}
     have b326:=Lcl.set' b309 (Ne.symm (nn244 _ _ c234)) {cs:=q320.cs}
     have b327:=b310.set {cs:=q320.cs}
     have p328:=PlN.setL p311 b310.2 {cs:=q320.cs}
     have O329:=O312.setL u243 {cs:=q320.cs}
     simp only[List.set_set] at b325 b326 b327 p328 O329
     obtain⟨q337,wr338,hj341,hi339,hb340⟩:=q320.wrI (j:=20) rfl (show W64 (IntKind.i64.wrap (k+1)) from (W64.wrap _))
     have b342:=Lcl.set' b325 (Ne.symm (nn244 _ _ c232)) {cs:=q337.cs}
     have b343:=Lcl.set' b326 (Ne.symm (nn244 _ _ c234)) {cs:=q337.cs}
     have b344:=b327.set {cs:=q337.cs}
     have p345:=PlN.setL p328 b327.2 {cs:=q337.cs}
     have O346:=O329.setL u243 {cs:=q337.cs}
     simp only[List.set_set] at b342 b343 b344 p345 O346
     obtain⟨q354,wr355,hj358,hi356,hb357⟩:=q337.wrI (j:=21) rfl (show W64 (1) from ⟨by decide,by decide⟩)
     have b359:=Lcl.set' b342 (Ne.symm (nn244 _ _ c232)) {cs:=q354.cs}
     have b360:=Lcl.set' b343 (Ne.symm (nn244 _ _ c234)) {cs:=q354.cs}
     have b361:=b344.set {cs:=q354.cs}
     have p362:=PlN.setL p345 b344.2 {cs:=q354.cs}
     have O363:=O346.setL u243 {cs:=q354.cs}
     simp only[List.set_set] at b359 b360 b361 p362 O363
     have ra371:=fun (o:Bool)=>q354.rdA (m:=23) rfl o
     have wr372:=fun (H:qE)(r:Nat)=>Rw.wrA (Rw.zero kClient) q354 (m:=23) rfl H r
     have b374:=b360.set {cs:=q354.cs}
     have p376:=PlN.setL p362 b360.2 {cs:=q354.cs}
     have O377:=O363.setL u18 {cs:=q354.cs}
     try simp only[↓zP,zQ,vB,↓qC,Rw.ones,(b242.1),wr256,(b259.1),wr270,(b276.1),wr287,(b293.1),wr304,(b310.1),wr321,(b327.1),wr338,(b344.1),wr355,(b361.1),ra371,(b360.1),wr372,(b374.1)]
     exact⟨q354,_,l173,x174,rfl,p376,O377,G186,w192⟩
 ·have rf386:=p.rdI (j:=3) rfl
  by_cases h387:(p.int 3)=(4:Int)
  ·have h388:=eq_true h387
   obtain⟨t389,c390,ht391⟩:=zH (d) (1000) (900000)
   try simp only[↓zP,zQ,↓qC,vB,Rw.ones,c21,rf29,h30,h388]
   refine qN rfl c390 ?_
   cases t389 with
   | false =>
    have k392:¬ (1000≤d∧d≤900000):=fun h=>by have:=ht391.2 h;cases this
    have ra393:=fun (o:Bool)=>p.rdA (m:=23) rfl o
    have wr394:=fun (H:qE)(r:Nat)=>Rw.wrA (Rw.zero kClient) p (m:=23) rfl H r
    have b396:=b17.set {cs:=p.cs}
    have p397:=PlN.setL p22 b17.2 {cs:=p.cs}
    have O398:=O23.setL u18 {cs:=p.cs}
    try simp only[↓zP,zQ,qA,↓qC,c21,ra393,c28,wr394,(b396.1),qJ,r024,rc25,lx27]
    exact⟨p,_,l,x,rfl,p397,O398,G0,⟨by decide,by decide⟩⟩
   | true =>
    obtain⟨t407,c408,ht409⟩:=zH (k) (0) (99999)
    try simp only[↓zP,zQ,qA]
    refine qN rfl c408 ?_
    cases t407 with
    | false =>
     have k410:¬ (0≤k∧k≤99999):=fun h=>by have:=ht409.2 h;cases this
     have ra411:=fun (o:Bool)=>p.rdA (m:=23) rfl o
     have wr412:=fun (H:qE)(r:Nat)=>Rw.wrA (Rw.zero kClient) p (m:=23) rfl H r
     have b414:=b17.set {cs:=p.cs}
     have p415:=PlN.setL p22 b17.2 {cs:=p.cs}
     have O416:=O23.setL u18 {cs:=p.cs}
     try simp only[↓zP,zQ,qA,↓qC,c21,ra411,c28,wr412,(b414.1),qJ,r024,rc25,lx27]
     exact⟨p,_,l,x,rfl,p415,O416,G0,⟨by decide,by decide⟩⟩
    | true =>
     obtain⟨v425,l426,x427,Z428,c429,p430,o431,g432⟩:=xK p22 b0 (IntKind.i64.wrap (d+1))
     try simp only[↓zP,zQ,qA,↓qC,c21,c28,qJ,r024,rc25,lx27]
     refine qF rfl c429 ?_
     rw[qM] at p430
     have G438:=G0.trans g432.1
     obtain⟨v445,l446,x447,Z448,c449,p450,o451,g452⟩:=xK p430 (G438.2.1 hl) (d)
     try simp only[↓zP,zQ,↓qC]
     refine qF rfl c449 ?_
     rw[qM] at p450
     have G458:=G438.trans g452.1
     obtain⟨v465,l466,x467,Z468,c469,p470,o471,g472⟩:=wG p450 (G458.2.1 hl) (6) (v445) (0)
     try simp only[↓zP]
     refine qF rfl c469 ?_
     rw[qM] at p470
     have b473:=((b20.only o431).only o451).only o471
     have G478:=G458.trans g472.1
     have rf485:=p.rdI (j:=2) rfl
     have rf486:=p.rdI (j:=0) rfl
     obtain⟨r487,l488,x489,Z490,c491,p492,o493,g494,f495⟩:=helloG p470 (G478.2.1 hl) (p.int 2) (p.int 0) (v425) (v465)
     try simp only[↓zP,zQ,↓qC,(b473.1),rf486,rf485]
     refine qF rfl c491 ?_
     have g496:=And.intro g494 trivial
     rw[qM] at p492
     have G502:=G478.trans g496.1
     have w508:W64 r487:=by have h:=f495;unfold W64;omega
     obtain⟨v509,l510,x511,Z512,c513,p514,o515,g516⟩:=xK p492 (G502.2.1 hl) (0)
     try simp only[↓zP,zQ,↓qC]
     refine qF rfl c513 ?_
     rw[qM] at p514
     have G522:=G502.trans g516.1
     obtain⟨v529,l530,x531,Z532,c533,p534,o535,g536,i537⟩:=uD p514 (G522.2.1 hl) (71) [r487,v509] 2 rfl (by decide)
     try simp only[↓zP,zQ]
     refine qF rfl c533 ?_
     rw[qM] at p534
     have b538:=((b473.only o493).only o515).only o535
     have c539:=b538.1
     have b540:=(((((b17.only o431).only o451).only o471).only o493).only o515).only o535
     have O542:=(((((O23.trans o431).trans o451).trans o471).trans o493).trans o515).trans o535
     have G543:=G522.trans g536.1
     have w549:W64 v529:=by have h:=g536.2;unfold W64;omega
     by_cases h550:v529<(0:Int)
     ·obtain⟨w551,x552,Z553,c554,p555,o556⟩:=jL p534 (G543.2.1 hl) l.length
      try simp only[↓zP,zQ,↓qC,h550,c539,rf485,rf486]
      refine qF rfl c554 ?_
      rw[G543.back] at p555
      rw[qM] at p555
      have b559:=b540.only o556
      have ra567:=fun (o:Bool)=>p.rdA (m:=23) rfl o
      have wr568:=fun (H:qE)(r:Nat)=>Rw.wrA (Rw.zero kClient) p (m:=23) rfl H r
      have b570:=b559.set {cs:=p.cs}
      have p571:=PlN.setL p555 b559.2 {cs:=p.cs}
      have O572:=(O542.trans o556).setL u18 {cs:=p.cs}
      try simp only[↓zP,zQ,↓qC,((b538.only o556).1),ra567,(b559.1),wr568,(b570.1)]
      exact⟨p,_,l,x552,rfl,p571,O572,(Grw.refl l),⟨by decide,by decide⟩⟩
     ·have rf580:=p.rdI (j:=0) rfl
      obtain⟨r583,Z584,c585,e586⟩:=clientNewE (H:=Z532) (p.int 0) (p.int 1) (p.int 2) (p.w64 0 rfl) (p.w64 1 rfl) (p.w64 2 rfl)
      try simp only[↓zP,zQ,↓qC,h550,c539,rf485,(p.rdI (j:=1) rfl),rf486]
      refine qF rfl c585 ?_
      have b588:=b538.ext e586
      have c589:=b588.1
      have b590:=b540.ext e586
      have c591:=b590.1
      have p592:=p534.ext e586
      have O593:=O542.trans (Only.ext e586 r x531)
      obtain⟨b599,u600,e598,nn601⟩:=Lcl.alloc p592 O593 (i:=Z584.length) (by simp) {cs:=(Rw.zero kClient).cs}
      have O607:=O593.trans (Only.ext e598 r x531)
      have wr613:=fun (H:qE)(r:Nat)=>Rw.wrA (Rw.zero kClient) r583 (m:=23) rfl H r
      have b614:=Lcl.set' (b588.ext e598) (Ne.symm (nn601 _ _ c589)) {cs:=r583.cs}
      have b615:=Lcl.set' (b590.ext e598) (Ne.symm (nn601 _ _ c591)) {cs:=r583.cs}
      have b616:=b599.set {cs:=r583.cs}
      have p617:=PlN.setL (p592.ext e598) b599.2 {cs:=r583.cs}
      have O618:=O607.setL u600 {cs:=r583.cs}
      obtain⟨q626,wr627,hj630,hi628,hb629⟩:=r583.wrI (j:=3) rfl (show W64 (1) from ⟨by decide,by decide⟩)
      have b631:=Lcl.set' b614 (Ne.symm (nn601 _ _ c589)) {cs:=q626.cs}
      have b632:=Lcl.set' b615 (Ne.symm (nn601 _ _ c591)) {cs:=q626.cs}
      have b633:=b616.set {cs:=q626.cs}
      have p634:=PlN.setL p617 b616.2 {cs:=q626.cs}
      have O635:=O618.setL u600 {cs:=q626.cs}
      simp only[List.set_set] at b631 b632 b633 p634 O635
      obtain⟨q643,wr644,hj647,hi645,hb646⟩:=q626.wrI (j:=4) rfl (show W64 (d) from wd)
      have b648:=Lcl.set' b631 (Ne.symm (nn601 _ _ c589)) {cs:=q643.cs}
      have b649:=Lcl.set' b632 (Ne.symm (nn601 _ _ c591)) {cs:=q643.cs}
      have b650:=b633.set {cs:=q643.cs}
      have p651:=PlN.setL p634 b633.2 {cs:=q643.cs}
      have O652:=O635.setL u600 {cs:=q643.cs}
      simp only[List.set_set] at b648 b649 b650 p651 O652
      obtain⟨q660,wr661,hj664,hi662,hb663⟩:=q643.wrI (j:=6) rfl (show W64 (r487) from w508)
      have b665:=Lcl.set' b648 (Ne.symm (nn601 _ _ c589)) {cs:=q660.cs}
      have b666:=Lcl.set' b649 (Ne.symm (nn601 _ _ c591)) {cs:=q660.cs}
      have b667:=b650.set {cs:=q660.cs}
      have p668:=PlN.setL p651 b650.2 {cs:=q660.cs}
      have O669:=O652.setL u600 {cs:=q660.cs}
      simp only[List.set_set] at b665 b666 b667 p668 O669
      obtain⟨q677,wr678,hj681,hi679,hb680⟩:=q660.wrI (j:=9) rfl (show W64 (v529) from w549)
      have b682:=Lcl.set' b665 (Ne.symm (nn601 _ _ c589)) {cs:=q677.cs}
      have b683:=Lcl.set' b666 (Ne.symm (nn601 _ _ c591)) {cs:=q677.cs}
      have b684:=b667.set {cs:=q677.cs}
      have p685:=PlN.setL p668 b667.2 {cs:=q677.cs}
      have O686:=O669.setL u600 {cs:=q677.cs}
      simp only[List.set_set] at b682 b683 b684 p685 O686
      obtain⟨q694,wr695,hj698,hi696,hb697⟩:=q677.wrI (j:=20) rfl (show W64 (IntKind.i64.wrap (k+1)) from (W64.wrap _))
      have b699:=Lcl.set' b682 (Ne.symm (nn601 _ _ c589)) {cs:=q694.cs}
      have b700:=Lcl.set' b683 (Ne.symm (nn601 _ _ c591)) {cs:=q694.cs}
      have b701:=b684.set {cs:=q694.cs}
      have p702:=PlN.setL p685 b684.2 {cs:=q694.cs}
      have O703:=O686.setL u600 {cs:=q694.cs}
      simp only[List.set_set] at b699 b700 b701 p702 O703
      obtain⟨q711,wr712,hj715,hi713,hb714⟩:=q694.wrI (j:=21) rfl (show W64 (1) from ⟨by decide,by decide⟩)
      have b716:=Lcl.set' b699 (Ne.symm (nn601 _ _ c589)) {cs:=q711.cs}
      have b717:=Lcl.set' b700 (Ne.symm (nn601 _ _ c591)) {cs:=q711.cs}
      have b718:=b701.set {cs:=q711.cs}
      have p719:=PlN.setL p702 b701.2 {cs:=q711.cs}
      have O720:=O703.setL u600 {cs:=q711.cs}
      simp only[List.set_set] at b716 b717 b718 p719 O720
      have ra728:=fun (o:Bool)=>q711.rdA (m:=23) rfl o
      have wr729:=fun (H:qE)(r:Nat)=>Rw.wrA (Rw.zero kClient) q711 (m:=23) rfl H r
      have b731:=b717.set {cs:=q711.cs}
      have p733:=PlN.setL p719 b717.2 {cs:=q711.cs}
      have O734:=O720.setL u18 {cs:=q711.cs}
      try simp only[↓zP,zQ,vB,↓qC,Rw.ones,(b599.1),wr613,(b616.1),wr627,(b633.1),wr644,(b650.1),wr661,(b667.1),wr678,(b684.1),wr695,(b701.1),wr712,(b718.1),ra728,(b717.1),wr729,(b731.1)]
      exact⟨q711,_,l530,x531,rfl,p733,O734,G543,w549⟩
  ·have ra743:=fun (o:Bool)=>p.rdA (m:=23) rfl o
   have wr744:=fun (H:qE)(r:Nat)=>Rw.wrA (Rw.zero kClient) p (m:=23) rfl H r
   have b746:=b17.set {cs:=p.cs}
   have p747:=PlN.setL p22 b17.2 {cs:=p.cs}
   have O748:=O23.setL u18 {cs:=p.cs}
   try simp only[↓zP,zQ,↓qC,vB,Rw.ones,c21,rf29,h30,h387,ra743,c28,wr744,(b746.1),qJ,r024,(PlN.rd p0),lx4]
   exact⟨p,_,l,x,rfl,p747,O748,G0,⟨by decide,by decide⟩⟩
def wY (c:Int):Nat:=if c=71∨c=73∨c=76 then 2 else if c=72∨c=74∨c=75 then 1 else 0
theorem manyS (c:Int):Fn Tryz.prog 111 [.sc (.int .i64 c)] (.sc (.int .i64 (wY c))):=by
 refine Fn.run 12 [.tmp 2] Tryz.func111 rfl rfl rfl rfl (by simp) (qV (.sc _) yV) (.sc _) ?_
 by_cases h1:c=71
 ·subst h1
  simp only[↓zP,zQ,↓qC,Int.reduceEq]
  rfl
 by_cases h2:c=73
 ·subst h2
  simp only[↓zP,zQ,↓qC,Int.reduceEq]
  rfl
 by_cases h3:c=76
 ·subst h3
  simp only[↓zP,zQ,↓qC,Int.reduceEq]
  rfl
 by_cases h4:c=72
 ·subst h4
  simp only[↓zP,zQ,↓qC,Int.reduceEq]
  rfl
 by_cases h5:c=74
 ·subst h5
  simp only[↓zP,zQ,↓qC,Int.reduceEq]
  rfl
 by_cases h6:c=75
 ·subst h6
  simp only[↓zP,zQ,↓qC,Int.reduceEq]
  rfl
 simp only[↓zP,zQ,↓qC,wY,h1,h2,h3,h4,h5,h6]
 try rfl
theorem manyOf_le (c:Int):wY c≤2:=by
 unfold wY
 split
 ·omega
 ·split<;>omega
def LetterAt (l:List (Rw qK))(k c:Int)(L:List Int):Prop:=
 ∃ (a:Int),(∃ (j:Nat)(p:Rw qK),k=j∧l[j]?=some p∧okR p j∧p.int 0=2∧p.int 2=a)∧numAt l a c true∧wY c≠0∧PartsIs l k (wY c+1) (a :: L) true∧(c=76→∃ (b:Int)(M:List Int)(v:Int),L=b :: M∧numAt l b v true)
theorem numAt.two {l:List (Rw qK)}{k v u:Int}{b c:Bool}(h:numAt l k v b)(g:numAt l k u c):v=u∧b=c:=by
 rcases h with ⟨rfl,j,p,h1,h2,h3,h4,h5⟩ | ⟨rfl,rfl,h1⟩
 ·rcases g with ⟨rfl,i,q,g1,g2,g3,g4,g5⟩ | ⟨rfl,rfl,g1⟩
  ·have:i=j:=by omega
   subst this
   rw[h2] at g2
   cases g2
   exact⟨by rw[←h5,←g5],rfl⟩
  ·exact absurd ⟨j,p,h1,h2,h3,h4⟩ g1
 ·rcases g with ⟨rfl,i,q,g1,g2,g3,g4,g5⟩ | ⟨rfl,rfl,g1⟩
  ·exact absurd ⟨i,q,g1,g2,g3,g4⟩ h1
  ·exact⟨rfl,rfl⟩
theorem PartsIs.same {l:List (Rw qK)}{k:Int}{n:Nat}{L M:List Int}(h:PartsIs l k n L true)(g:PartsIs l k n M true):L=M:=by
 rcases h with ⟨_,h1,w,h2,_⟩ | ⟨h,_⟩
 ·rcases g with ⟨_,g1,u,g2,_⟩ | ⟨g,_⟩
  ·exact(h2.two g2 (by omega)).1.symm
  ·cases g
 ·cases h
theorem LetterAt.two {l:List (Rw qK)}{k c d:Int}{L M:List Int}(h:LetterAt l k c L)(g:LetterAt l k d M):c=d∧L=M:=by
 obtain⟨a,⟨j,p,h1,h2,_,_,h3⟩,h4,_,h5,_⟩:=h
 obtain⟨b,⟨i,q,g1,g2,_,_,g3⟩,g4,_,g5,_⟩:=g
 have:i=j:=by omega
 subst this
 rw[h2] at g2
 cases g2
 have e:a=b:=by rw[←h3,←g3]
 subst e
 obtain⟨rfl,_⟩:=h4.two g4
 have:=h5.same g5
 exact⟨rfl,by simpa using this⟩
theorem numAt.grw {l l':List (Rw qK)}(g:Grw l l'){k v:Int}(h:numAt l k v true):numAt l' k v true:=by
 rcases h with ⟨_,j,p,h1,h2,h3⟩ | ⟨h,_⟩
 ·exact .inl ⟨rfl,j,p,h1,g.at h2,h3⟩
 ·cases h
def LetterIs (l:List (Rw qK))(k c:Int)(L:List Int):Prop:=LetterAt l k c L∨(c=0∧L=[]∧∀ d M,¬ LetterAt l k d M)
theorem LetterIs.two {l:List (Rw qK)}{k c d:Int}{L M:List Int}(h:LetterIs l k c L)(g:LetterIs l k d M):c=d∧L=M:=by
 rcases h with h | ⟨rfl,rfl,h⟩
 ·rcases g with g | ⟨_,_,g⟩
  ·exact h.two g
  ·exact absurd h (g _ _)
 ·rcases g with g | ⟨rfl,rfl,_⟩
  ·exact absurd g (h _ _)
  ·exact⟨rfl,rfl⟩
theorem LetterAt.isAt {l:List (Rw qK)}{k c:Int}{L:List Int}(h:LetterAt l k c L):isAt l k 2:=by
 obtain⟨a,⟨j,p,h1,h2,h3,h4,_⟩,_⟩:=h
 exact⟨j,p,h1,h2,h3,h4⟩
def LetSl (H Z:qE)(y:AV)(L:List Int):Prop:=(L=[]∧∃ q,y=.sl q 0 0 1∧H.length≤q∧Z[q]?=some {cs:=ints .i64 []})∨∃ (q:Nat)(a:Int)(o:Bool),y=.sl q 1 L.length 1∧H.length≤q∧Z[q]?=some ⟨ints .i64 (a :: L),o,true⟩∧W64 a
theorem vG {H:qE}{x:AV}{l:List (Rw qK)}(hx:RdN H x l)(hl:l.length≤1000000)(k:Int) :
  ∃ (c:Int)(L:List Int)(y:AV)(Z:qE),Sound Tryz.prog 92 [.agg [x],k] H (.tup [.sc (.int .i64 c),y]) Z∧Ext H Z∧LetSl H Z y L∧LetterIs l k c L:=by
 suffices h:∃ w Z,Sound Tryz.prog 92 [.agg [x],k] H w Z∧∃ c L y,w=.tup [.sc (.int .i64 c),y]∧Ext H Z∧LetSl H Z y L∧LetterIs l k c L by
  obtain⟨w,Z,h1,c,L,y,rfl,h2⟩:=h
  exact⟨c,L,y,Z,h1,h2⟩
 refine zR 68 [.tmp 4,.tmp 5] Tryz.func92 ?_
 have o:=hx.one
 obtain⟨Y,hY⟩:∃ Y:qE,Y=H++[⟨[x],true,true⟩,⟨ints .i64 [],true,true⟩]:=⟨_,rfl⟩
 have e0:Ext H Y:=hY▸Ext.more H _
 have y0:Y[H.length]?=some ⟨[x],true,true⟩:=by rw[hY];exact yD H _
 have y1:Y[H.length+1]?=some ⟨ints .i64 [],true,true⟩:=by rw[hY];exact wO H _ 1
 have hx0:=hx.ext e0
 obtain⟨b1,Z1,c1,e1,i1⟩:=isE hx0 hl k 2
 have z0:=e1.at y0
 have none:∀ Z,Ext Y Z→LetSl H Z (.sl (H.length+1) 0 0 1) []:=fun Z e=>.inl ⟨rfl,_,rfl,by omega,e.at y1⟩
 simp only[↓zP,zQ,↓qC,Nat.reduceLT,Nat.reduceEqDiff,o,List.append_assoc,yD]
 try rw[show H++[⟨[x],true,true⟩,⟨ints .i64 [],true,true⟩]=Y from hY.symm]
 refine qF rfl c1 ?_
 cases b1 with
 | false =>
  have no:¬ isAt l k 2:=fun h=>by have:=i1.2 h;cases this
  simp only[↓zP,zQ,Nat.reduceLT,↓qC,Nat.reduceEqDiff]
  exact⟨0,[],_,rfl,e0.trans e1,none _ e1,.inr ⟨rfl,rfl,fun d M g=>no g.isAt⟩⟩
 | true =>
  obtain⟨j,p,rfl,hp,ok,h0⟩:=i1.1 rfl
  have hj:=(List.getElem?_eq_some_iff.1 hp).1
  have hx1:=hx0.ext e1
  obtain⟨v,b2,Z2,c2,e2,i2⟩:=numE hx1 hl (p.int 2)
  have hx2:=hx1.ext e2
  have hm:=manyOf_le v
  obtain⟨b3,L,y,Z3,c3,e3,hy,hn,i3⟩:=jI hx2 hl (j:Int) ((wY v+1:Nat):Int) (wY v+1) rfl (by omega)
  have z2:=e2.at z0
  have z3:=e3.at z2
  obtain⟨r,rest,ow,hxe,hr⟩:=hx1.get hj
  have hp2:(l++rest)[j]?=some p:=by rw[List.getElem?_append_left hj];exact hp
  have rc2:=fun (o:Bool)(kk:Nat)=>(qX yU (k:=kk) hp2 (j:=2) (by decide) o).trans (p.int_at 2 rfl).1
  have k2:(0:Int)≤j:=by omega
  have k3:(j:Int)<l.length:=by omega
  have w1:IntKind.i64.wrap ((wY v:Int)+1)=((wY v+1:Nat):Int):=by rw[w64 (by omega) (by omega)];omega
  have e13:Ext Y Z3:=e1.trans (e2.trans e3)
  have key:∀ d M,LetterAt l (j:Int) d M→v=d∧b2=true∧wY v≠0∧PartsIs l (j:Int) (wY v+1) (p.int 2 :: M) true∧(d=76→∃ (b:Int)(N:List Int)(u:Int),M=b :: N∧numAt l b u true):=by
   rintro d M ⟨a,⟨i,q,g1,g2,_,_,g3⟩,g4,g5,g6,g7⟩
   have e:i=j:=by omega
   subst e
   rw[hp] at g2
   cases g2
   subst g3
   obtain⟨h1,h2⟩:=i2.two g4
   subst h1
   exact⟨rfl,h2,g5,g6,g7⟩
  simp only[↓zP,zQ,Nat.reduceLT,↓qC,Nat.reduceEqDiff]
  refine zD [(0,0),(2,0),(6,0)] ?_
  simp only[↓zP,zQ,hxe,Nat.reduceLT,Nat.reduceEqDiff,z0,k2,k3,qB,hr,rc2]
  rw[←hxe]
  refine qF rfl c2 ?_
  simp only[↓zP,zQ,Nat.reduceLT,Nat.reduceEqDiff,↓qC]
  refine⟨zA,?_⟩
  refine qN rfl (manyS v) ?_
  simp only[↓zP,zQ,↓qC,Nat.reduceLT,Nat.reduceEqDiff,z2,w1]
  refine qF rfl c3 ?_
  cases b2 with
  | false =>
   simp only[↓zP,zQ,Nat.reduceLT,Nat.reduceEqDiff,↓qC]
   exact⟨0,[],_,rfl,e0.trans e13,none _ e13,.inr ⟨rfl,rfl,fun d M g=>by cases (key d M g).2.1⟩⟩
  | true =>
   by_cases hm0:(wY v:Int)=0
   ·simp only[↓zP,zQ,hm0,Nat.reduceLT,Nat.reduceEqDiff,↓qC,qA]
    exact⟨0,[],_,rfl,e0.trans e13,none _ e13,.inr ⟨rfl,rfl,fun d M g=>(key d M g).2.2.1 (by omega)⟩⟩
   ·cases b3 with
    | false =>
     simp only[↓zP,zQ,Nat.reduceLT,Nat.reduceEqDiff,↓qC,hm0,qA]
     exact⟨0,[],_,rfl,e0.trans e13,none _ e13,.inr ⟨rfl,rfl,fun d M g=>(key d M g).2.2.2.1.clash i3⟩⟩
    | true =>
     have ln:=i3.len
     obtain⟨q,ow2,hye,hq⟩:=hy.reg (by omega)
     obtain⟨a,M,rfl⟩:∃ a M,L=a :: M:=by
      cases L with
      | nil=>simp at ln
      | cons a M=>exact⟨a,M,rfl⟩
     have ha:a=p.int 2:=by
      rcases i3 with ⟨_,_,w,⟨i,q',g1,g2,g3,g4,g5,g6⟩,_⟩ | ⟨h,_⟩
      ·have:i=j:=by omega
       subst this
       rw[hp] at g2
       cases g2
       exact g5.symm
      ·cases h
     have wa:W64 a:=i3.w64 a (by simp)
     have hqn:Z2.length≤q:=NotIn.ge (hye▸hn)
     have hqH:H.length≤q:=Nat.le_trans e0.1 (Nat.le_trans e1.1 (Nat.le_trans e2.1 hqn))
     have lnM:M.length=wY v:=by simpa using ln
     by_cases h76:v=76
     ·subst h76
      obtain⟨b,N,rfl⟩:∃ b N,M=b :: N:=by
       cases M with
       | nil=>simp at lnM;omega
       | cons b N=>exact⟨b,N,rfl⟩
      obtain⟨u,b4,Z4,c4,e4,i4⟩:=numE (hx2.ext e3) hl b
      have z4:=e4.at z3
      subst hye
      simp only[↓zP,zQ,Nat.reduceLT,Nat.reduceEqDiff,↓qC,hm0,qA]
      refine zD [(0,0),(3,0)] ?_
      have kN:(1:Int)<((N.length+1+1:Nat):Int):=by omega
      have kN2:1<N.length+1+1:=by omega
      simp -implicitDefEqProofs only[↓zP,zQ,Nat.reduceLT,Nat.reduceEqDiff,z3,Int.reduceLE,kN,Int.reduceToNat,hq,kN2]
      refine qF rfl c4 ?_
      try simp only[↓zP,zQ,Nat.reduceLT,Nat.reduceEqDiff,↓qC]
      refine⟨zA,?_⟩
      cases b4 with
      | false =>
       simp only[zQ]
       refine⟨0,[],_,rfl,e0.trans (e13.trans e4),none _ (e13.trans e4),.inr ⟨rfl,rfl,fun d M g=>?_⟩⟩
       obtain⟨rfl,_,_,g1,g2⟩:=key d M g
       obtain⟨_,this⟩:=List.cons.inj (g1.same i3)
       subst this
       obtain⟨b',N',u',g3,g4⟩:=g2 rfl
       cases g3
       cases (i4.two g4).2
      | true =>
       have kM:(1:Int)≤((N.length+1+1:Nat):Int):=by omega
       have kM2:1≤N.length+1+1:=by omega
       simp only[zQ]
       refine zD [] ?_
       simp -implicitDefEqProofs only[↓zP,zQ,Nat.reduceLT,Nat.reduceEqDiff,Int.reduceLE,Int.reduceToNat,kM2]
       refine⟨76,b :: N,_,rfl,e0.trans (e13.trans e4),.inr ⟨q,a,ow2,rfl,hqH,(e4.at hq),wa⟩,.inl ⟨a,⟨j,p,rfl,hp,ok,h0,ha.symm⟩,ha▸i2,by omega,i3,fun _=>⟨b,N,u,rfl,i4⟩⟩⟩
     ·subst hye
      have kM:(1:Int)≤((M.length+1:Nat):Int):=by omega
      have kM2:1≤M.length+1:=by omega
      simp only[↓zP,zQ,Nat.reduceLT,Nat.reduceEqDiff,↓qC,hm0,qA,h76]
      refine zD [] ?_
      simp -implicitDefEqProofs only[↓zP,zQ,Nat.reduceLT,Nat.reduceEqDiff,Int.reduceLE,Int.reduceToNat,kM2]
      refine⟨v,M,_,rfl,e0.trans e13,.inr ⟨q,a,ow2,rfl,hqH,hq,wa⟩,.inl ⟨a,⟨j,p,rfl,hp,ok,h0,ha.symm⟩,ha▸i2,by omega,i3,fun h=>absurd h h76⟩⟩
theorem LetterAt.len {l:List (Rw qK)}{k c:Int}{L:List Int}(h:LetterAt l k c L):L.length=wY c:=by
 obtain⟨a,_,_,_,h5,_⟩:=h
 have:=h5.len
 simpa using this
theorem LetterAt.w64 {l:List (Rw qK)}{k c:Int}{L:List Int}(h:LetterAt l k c L):∀ z,z∈L→W64 z:=by
 obtain⟨a,_,_,_,h5,_⟩:=h
 exact fun z hz=>h5.w64 z (List.mem_cons_of_mem _ hz)
theorem uQ {H Z:qE}{y:AV}{l:List (Rw qK)}{k c:Int}{L:List Int}(s:LetSl H Z y L)(h:LetterIs l k c L)(hc:c=71∨c=73∨c=76) :
  ∃ (a b:Int)(q:Nat)(a0:Int)(o:Bool),L=[a,b]∧y=.sl q 1 2 1∧H.length≤q∧Z[q]?=some ⟨ints .i64 [a0,a,b],o,true⟩∧W64 a∧W64 b∧W64 a0:=by
 rcases h with h | ⟨rfl,_,_⟩
 ·have h1:=h.len
  have h2:=h.w64
  rw[show wY c=2 by unfold wY;rw[if_pos hc]] at h1
  obtain⟨a,b,rfl⟩:=len2 h1
  rcases s with ⟨e,_⟩ | ⟨q,a0,o,s1,s2,s3,s4⟩
  ·cases e
  ·exact⟨a,b,q,a0,o,rfl,s1,s2,s3,h2 a (by simp),h2 b (by simp),s4⟩
 ·omega
theorem letter1 {H Z:qE}{y:AV}{l:List (Rw qK)}{k c:Int}{L:List Int}(s:LetSl H Z y L)(h:LetterIs l k c L)(hc:c=72∨c=74∨c=75) :
  ∃ (a:Int)(q:Nat)(a0:Int)(o:Bool),L=[a]∧y=.sl q 1 1 1∧H.length≤q∧Z[q]?=some ⟨ints .i64 [a0,a],o,true⟩∧W64 a∧W64 a0:=by
 rcases h with h | ⟨rfl,_,_⟩
 ·have h1:=h.len
  have h2:=h.w64
  rw[show wY c=1 by unfold wY;rw[if_neg (by omega),if_pos hc]] at h1
  obtain⟨a,rfl⟩:=len1 h1
  rcases s with ⟨e,_⟩ | ⟨q,a0,o,s1,s2,s3,s4⟩
  ·cases e
  ·exact⟨a,q,a0,o,rfl,s1,s2,s3,h2 a (by simp),s4⟩
 ·omega
theorem LetterIs.wc {l:List (Rw qK)}{k c:Int}{L:List Int}(h:LetterIs l k c L):W64 c:=by
 rcases h with ⟨a,_,h,_⟩ | ⟨rfl,_⟩
 ·exact h.w64
 ·unfold W64
  omega
section
variable {α : Type} {f : α → List AV} {m : Nat}
theorem rows_drop (h:Enc f m):∀ (l:List α)(n:Nat),(rows f l).drop (n*m)=rows f (l.drop n)
 | [],n=>by simp[rows]
 | a :: l,0=>by simp
 | a :: l,n+1=>by
  rw[kC,List.drop_succ_cons,←rows_drop h l n,Nat.add_mul,Nat.one_mul,Nat.add_comm,←List.drop_drop]
  congr 1
  rw[←h.len a,List.drop_left]
theorem src_cut (he:Enc f m){H:qE}{q a n:Nat}{l:List α}{o:Bool}(hq:H[q]?=some ⟨rows f l,o,true⟩)(h:a+n≤l.length):qU H (.sl q (a*m) n m) m=some (rows f ((l.drop a).take n)):=by
 have e:a*m+n*m≤(rows f l).length:=by
  rw[jE he,←Nat.add_mul]
  exact Nat.mul_le_mul_right _ h
 simp only[qU,wR,hq,true_and,e,if_true,rows_drop he,rows_take he]
theorem ap_cut {B:Nat}{e:TypeId}(hs:∀ r len x H,vK Tryz.prog (some (.slice e)) (some (.slice e)) (.sl r 0 len m) x H=apR m B H r len H[r]? (qU H x m))(he:Enc f m){H:qE}{p n k:Nat}{y:AV}{l1 l2:List α}(hp:H[p]?=some {cs:=rows f l1})(hn:l1.length=n)(hy:qU H y m=some (rows f l2))(hk:n+l2.length=k)(hb:k*B≤140737488355328∧n+l2.length*m≤140737488355328) :
  ∃ G,vK Tryz.prog (some (.slice e)) (some (.slice e)) (.sl p 0 n m) y H=some (.sl H.length 0 k m,G)∧G[H.length]?=some {cs:=rows f (l1++l2)}∧G.length=H.length+1∧∀ i,i<H.length→i≠p→G[i]?=H[i]?:=by
 rw[hs,hp,hy,ap_rows he,if_pos ⟨Nat.le_of_eq hn.symm,by rw[hk];exact hb.1,hb.2⟩,List.take_of_length_le (Nat.le_of_eq hn),hk]
 refine⟨_,rfl,?_,by simp[yZ],fun i hi hp=>?_⟩
 ·have h:(yG H p).length=H.length:=yZ ..
  rw[←h]
  exact yA _ _
 ·rw[yS _ _ _ (by rw[yZ];exact hi),uR _ _ _ hp]
end
theorem net_cut {B:qE}{q j:Nat}{l:List (Rw kT)}(hq:B[q]?=some ⟨rows Rw.cs l,true,true⟩)(hj:j<l.length)(hl:l.length≤1000000) :
  ∃ (G1 G2:qE)(l':List (Rw kT)),apR 3 24 (B++[⟨[],true,true⟩]) B.length 0 (some ⟨[],true,true⟩) (qU (B++[⟨[],true,true⟩]) (.sl q 0 j 3) 3)=some (.sl (B.length+1) 0 j 3,G1) ∧
   apR 3 24 G1 (B.length+1) j G1[B.length+1]? (qU G1 (.sl q ((j+1)*3) (l.length - (j+1)) 3) 3)=some (.sl (B.length+2) 0 l'.length 3,G2)∧(∀ i,i<B.length→G1[i]?=B[i]?)∧Ext B G2∧G2[B.length+2]?=some ⟨rows Rw.cs l',true,true⟩∧l'.length+1=l.length:=by
 have hqB:=qP hq
 have h0:(B++[⟨rows Rw.cs ([]:List (Rw kT)),true,true⟩])[B.length]?=some ⟨rows Rw.cs ([]:List (Rw kT)),true,true⟩:=yA _ _
 have hq0:(B++[⟨rows Rw.cs ([]:List (Rw kT)),true,true⟩])[q]?=some ⟨rows Rw.cs l,true,true⟩:=(yS _ _ _ hqB).trans hq
 have s0:=src_cut uF hq0 (a:=0) (n:=j) (by omega)
 rw[Nat.zero_mul,List.drop_zero] at s0
 have t0:(l.take j).length=j:=by rw[List.length_take];omega
 have lB:(B++[⟨rows Rw.cs ([]:List (Rw kT)),true,true⟩]:qE).length=B.length+1:=by simp
 obtain⟨G1,a1,a2,a3,a4⟩:=ap_cut apS35 uF h0 (n:=0) (k:=j) rfl s0 (by rw[t0];omega) (by rw[t0];omega)
 rw[lB] at a1 a2 a3 a4
 have hq1:=(a4 q (by omega) (by omega)).trans hq0
 have s1:=src_cut uF hq1 (a:=j+1) (n:=l.length - (j+1)) (by omega)
 rw[List.take_of_length_le (by rw[List.length_drop];omega)] at s1
 have t1:(l.drop (j+1)).length=l.length - (j+1):=List.length_drop
 have t2:([]++l.take j:List (Rw kT)).length=j:=by simpa using t0
 obtain⟨G2,b1,b2,b3,b4⟩:=ap_cut apS35 uF a2 (n:=j) (k:=([]++l.take j++l.drop (j+1)).length) t2 s1 (by rw[List.length_append,t2]) (by rw[List.length_append,t2,t1];omega)
 rw[a3] at b1 b2 b3 b4
 rw[apS35] at a1 b1
 rw[h0] at a1
 refine⟨G1,G2,_,a1,b1,fun i hi=>(a4 i (by omega) (by omega)).trans (yS _ _ _ hi),⟨by omega,fun i hi=>(b4 i (by omega) (by omega)).trans ((a4 i (by omega) (by omega)).trans (yS _ _ _ hi))⟩,b2,by rw[List.length_append,t2,t1];omega⟩
theorem Wd.new {H Z:qE}{r k q n m:Nat}{K:List CK}{cs:List AV}{kd:CK}{x:AV}(w:Wd H r K cs)(hk:K[k]?=some kd)(hi:cs[k]?=some x)(e:Ext H Z)(hy:CkOk Z kd (.sl q 0 n m))(hq:H.length≤q) :
  ∃ (Y:qE)(cs':List AV),uJ true 1 Z r (some {cs:=cs}) k (.sl q 0 n m)=some Y∧cs'[k]?=some (.sl q 0 n m)∧Chg H Y r K K cs cs' k:=by
 obtain⟨h1,h2⟩:=w.setN (x:=x) (G:=H) hk e hy (fun j hj=>.sl (by omega))
 exact⟨_,_,uO hi ⟨rfl,rfl⟩ r,List.getElem?_set_self (List.getElem?_eq_some_iff.1 hi).1,h1,h2,fun i y=>set_cc i y,w.keepX hi fun j hj hr _=>(List.getElem?_set_ne (Ne.symm hr)).trans (e.2 j hj)⟩
end
def lowB (x:Int):Nat:=(bits .and .i64 x 255).toNat
theorem lowB_b (x:Int):0≤bits .and .i64 x 255∧bits .and .i64 x 255<256:=by
 have h:((BitVec.ofInt IntKind.i64.bits x &&& BitVec.ofInt IntKind.i64.bits 255).toNat:Nat)≤255:=by
  rw[BitVec.toNat_and]
  exact Nat.and_le_right
 have e:∀ n:Nat,n≤255→IntKind.i64.wrap (n:Int)=n:=fun n h=>w64 (by omega) (by omega)
 show 0≤IntKind.i64.wrap (((BitVec.ofInt IntKind.i64.bits x &&& BitVec.ofInt IntKind.i64.bits 255).toNat:Nat):Int)∧IntKind.i64.wrap (((BitVec.ofInt IntKind.i64.bits x &&& BitVec.ofInt IntKind.i64.bits 255).toNat:Nat):Int)<256
 rw[e _ h]
 omega
theorem lowB_lt (x:Int):lowB x<256:=by
 have:=lowB_b x
 unfold lowB
 omega
theorem and255 (x:Int):bits .and .i64 x 255=(lowB x:Int):=by
 have:=lowB_b x
 unfold lowB
 omega
def cur (x:AV)(i:Nat)(h:Int):Reg:={cs:=[x,.sc (.int .i64 i),.sc (.int .i64 h)]}
def Cur (H:qE)(r:Nat)(x:AV)(L:List Int):Prop:=(∃ i h,H[r]?=some (cur x i h))∧IsL H x .u8 L
def Dr (r:Nat)(x:AV)(H Z:qE):Prop:=H.length≤Z.length∧(∀ i,i<H.length→i≠r→Z[i]?=H[i]?)∧∃ i h,Z[r]?=some (cur x i h)
theorem cur_ne {H:qE}{r q:Nat}{x:AV}{i:Nat}{h:Int}{k:IntKind}{l:List Int}{o v:Bool}(h1:H[r]?=some (cur x i h))(h2:H[q]?=some ⟨ints k l,o,v⟩)(hx:(∃ a b c,x=.sl a b c 1)∨x=.sc (.slice none 0 0)):q≠r:=by
 rintro rfl
 rw[h1] at h2
 injection h2 with h2
 have h3:[x,.sc (.int .i64 i),.sc (.int .i64 h)]=ints k l:=congrArg Reg.cs h2
 cases l with
 | nil=>cases h3
 | cons a l =>
  injection h3 with h3 _
  rcases hx with ⟨a,b,c,rfl⟩ | rfl<;>cases h3
theorem IsL.kind {H:qE}{x:AV}{k:IntKind}{l:List Int}(h:IsL H x k l):(∃ a b c,x=.sl a b c 1)∨x=.sc (.slice none 0 0):=by
 rcases h with ⟨rfl,_⟩ | ⟨r,o,rfl,_⟩
 ·exact .inr rfl
 ·exact .inl ⟨_,_,_,rfl⟩
theorem Cur.dr {H Z:qE}{r:Nat}{x:AV}{L:List Int}(c:Cur H r x L)(d:Dr r x H Z):Cur Z r x L:=by
 obtain⟨⟨i,h,c1⟩,c2⟩:=c
 obtain⟨_,d2,d3⟩:=d
 refine⟨d3,?_⟩
 rcases id c2 with ⟨e1,e2⟩ | ⟨q,o,rfl,hq⟩
 ·exact .inl ⟨e1,e2⟩
 ·exact .inr ⟨q,o,rfl,(d2 q (qP hq) (cur_ne c1 hq c2.kind)).trans hq⟩
theorem Dr.trans {r:Nat}{x:AV}{H Z Y:qE}(a:Dr r x H Z)(b:Dr r x Z Y):Dr r x H Y:=by
 obtain⟨a1,a2,_⟩:=a
 obtain⟨b1,b2,b3⟩:=b
 exact⟨by omega,fun i h k=>(b2 i (by omega) k).trans (a2 i h k),b3⟩
theorem Dr.rfl {r:Nat}{x:AV}{H:qE}{L:List Int}(c:Cur H r x L):Dr r x H H:=⟨Nat.le_refl _,fun _ _ _=>_root_.rfl,c.1⟩
theorem Dr.set {H:qE}{r:Nat}{x:AV}{L:List Int}(c:Cur H r x L)(i:Nat)(h:Int):Dr r x H (H.set r (cur x i h)):=by
 obtain⟨⟨i0,h0,c1⟩,_⟩:=c
 have hr:=qP c1
 refine⟨by rw[List.length_set];omega,fun j _ k=>List.getElem?_set_ne (fun e=>k e.symm),i,h,?_⟩
 rw[List.getElem?_set_self hr]
theorem Cur.lt {H:qE}{r:Nat}{x:AV}{L:List Int}(c:Cur H r x L):r<H.length:=by
 obtain⟨⟨i,h,c1⟩,_⟩:=c
 exact qP c1
theorem nil_ptr (r off:Nat):nilV (.ptr r off)=some (.ptr r off):=rfl
theorem drawByte {H:qE}{r:Nat}{x:AV}{L:List Int}(c:Cur H r x L)(hL:L.length≤4000000):∃ (v:Nat)(Z:qE),v<256∧Sound Tryz.prog 45 [.ptr r 0] H (.sc (.int .i64 v)) Z∧Dr r x H Z:=by
 suffices h:∃ v Z,Sound Tryz.prog 45 [.ptr r 0] H v Z∧∃ n:Nat,n<256∧v=.sc (.int .i64 n)∧Dr r x H Z by
  obtain⟨v,Z,h1,n,h2,rfl,h3⟩:=h
  exact⟨n,Z,h2,h1,h3⟩
 obtain⟨⟨i,h,c1⟩,c2⟩:=id c
 have hr:=qP c1
 have c1':H[r]?=some {cs:=[x,i,h]}:=c1
 have hs:∀ g:Reg,(H.set r g)[r]?=some g:=fun g=>List.getElem?_set_self hr
 have lx:=fun e=>c2.len e
 have x1:x.cells=[x]∧x.one=true:=by
  rcases c2.kind with ⟨_,_,_,rfl⟩ | rfl<;>exact⟨rfl,rfl⟩
 refine zR 58 [.tmp 2] Tryz.func45 ?_
 simp -implicitDefEqProofs only[↓zP,zQ,↓qC,nil_ptr,c1',Nat.reduceAdd]
 refine zD [(3,0),(8,0)] ?_
 simp -implicitDefEqProofs only[↓zP,zQ,nil_ptr,↓qC,hs,Int.reduceLT,Int.reduceToNat,Nat.reduceLeDiff,Int.reducePow,and255]
 refine⟨qI (yC rfl) (qI (yC rfl) (qH)),?_⟩
 refine zD [(3,0),(7,0)] ?_
 simp only[↓zP,zQ,nil_ptr,↓qC,hs,lx]
 refine⟨qI (yC rfl) (qI (yC rfl) (qH)),?_⟩
 by_cases hi:i<L.length
 ·have k1:(i:Int)<L.length:=by omega
  obtain⟨q,o,rfl,hq⟩:=c2.get hi
  have hne:=cur_ne c1 hq (.inl ⟨_,_,_,rfl⟩)
  have hq2:∀ g:Reg,(H.set r g)[q]?=some ⟨ints .u8 L,o,true⟩:=fun g=>(List.getElem?_set_ne (fun e=>hne e.symm)).trans hq
  have e1:IntKind.i64.wrap ((i:Int)+1)=((i+1:Nat):Int):=by rw[w64 (by omega) (by omega)];omega
  simp only[zQ,k1]
  refine zD [(4,0),(8,0),(10,0)] ?_
  simp -implicitDefEqProofs only[↓zP,zQ,nil_ptr,↓qC,hs,(by omega:(0:Int)≤i),k1,qB,hq2,hi,Nat.reduceAdd,Nat.reduceLeDiff,e1,and255]
  refine⟨qI (yC rfl) (qI (yC rfl) (qI (yC rfl) (qH))),?_⟩
  exact⟨_,lowB_lt _,rfl,Dr.set c _ _⟩
 ·have k1:¬ (i:Int)<L.length:=by omega
  simp only[zQ,k1]
  exact⟨_,lowB_lt _,rfl,Dr.set c _ _⟩
theorem Dr.ext {r:Nat}{x:AV}{G H Z:qE}(e:Ext G H)(d:Dr r x H Z)(hr:G.length≤r):Ext G Z:=by
 obtain⟨d1,d2,_⟩:=d
 exact⟨Nat.le_trans e.1 d1,fun i h=>(d2 i (Nat.lt_of_lt_of_le h e.1) (by omega)).trans (e.2 i h)⟩
theorem Cur.ne {H:qE}{r q:Nat}{x:AV}{L:List Int}{k:IntKind}{l:List Int}{o v:Bool}(c:Cur H r x L)(h2:H[q]?=some ⟨ints k l,o,v⟩):q≠r:=by
 obtain⟨⟨i,h,c1⟩,c2⟩:=c
 exact cur_ne c1 h2 c2.kind
theorem Dr.at {r q:Nat}{x:AV}{L:List Int}{H Z:qE}{k:IntKind}{l:List Int}{o v:Bool}(d:Dr r x H Z)(c:Cur H r x L)(h:H[q]?=some ⟨ints k l,o,v⟩):Z[q]?=some ⟨ints k l,o,v⟩:=(d.2.1 q (qP h) (c.ne h)).trans h
theorem Dr.isL {r:Nat}{x y:AV}{L:List Int}{H Z:qE}{k:IntKind}{l:List Int}(d:Dr r x H Z)(c:Cur H r x L)(h:IsL H y k l):IsL Z y k l:=by
 rcases h with ⟨rfl,rfl⟩ | ⟨q,o,rfl,hq⟩
 ·exact .nil _ _
 ·exact .inr ⟨q,o,_root_.rfl,d.at c hq⟩
theorem yB {H:qE}{r:Nat}{x:AV}{L:List Int}(c:Cur H r x L)(hL:L.length≤4000000)(n:Nat)(h0:0<n)(hn:n≤4294967296):∃ (v:Nat)(Z:qE),v<n∧Sound Tryz.prog 31 [.ptr r 0,.sc (.int .i64 n)] H (.sc (.int .i64 v)) Z∧Dr r x H Z:=by
 suffices h:∃ v Z,Sound Tryz.prog 31 [.ptr r 0,.sc (.int .i64 n)] H v Z∧∃ m:Nat,m<n∧v=.sc (.int .i64 m)∧Dr r x H Z by
  obtain⟨v,Z,h1,n,h2,rfl,h3⟩:=h
  exact⟨n,Z,h2,h1,h3⟩
 refine zR 37 [.tmp 4] Tryz.func31 ?_
 have k0:¬ (n:Int)≤0:=by omega
 have k1:¬ (n:Int)=0:=by omega
 have hm:∀ a:Nat,((a:Int)).tmod n=((a % n:Nat):Int):=fun a=>by rw[Int.tmod_eq_emod_of_nonneg (by omega)];omega
 simp only[↓zP,zQ,↓qC,Nat.reduceLT,Nat.reduceEqDiff,k0,reduceCtorEq]
 by_cases h:n≤256
 ·have k2:(n:Int)≤256:=by omega
  simp only[zQ,k2]
  obtain⟨a,Z,a1,a2,a3⟩:=drawByte c hL
  refine qF (by simp only[zQ,Nat.reduceLT]<;>rfl) a2 ?_
  simp only[↓zP,zQ,Nat.reduceLT,Nat.reduceEqDiff,k1,hm]
  exact⟨_,Nat.mod_lt _ h0,rfl,a3⟩
 ·have k2:¬ (n:Int)≤256:=by omega
  simp only[zQ,k2]
  obtain⟨a,Z1,a1,a2,a3⟩:=drawByte c hL
  refine qF (by simp only[zQ,Nat.reduceLT]<;>rfl) a2 ?_
  simp only[↓zP,zQ,↓qC,Nat.reduceLT,reduceCtorEq]
  obtain⟨b,Z2,b1,b2,b3⟩:=drawByte (c.dr a3) hL
  refine qF (by simp only[zQ,Nat.reduceLT]<;>rfl) b2 ?_
  simp only[↓zP,zQ,↓qC,Nat.reduceLT,reduceCtorEq]
  obtain⟨p,Z3,p1,p2,p3⟩:=drawByte ((c.dr a3).dr b3) hL
  refine qF (by simp only[zQ,Nat.reduceLT]<;>rfl) p2 ?_
  simp only[↓zP,zQ,↓qC,Nat.reduceLT,reduceCtorEq]
  obtain⟨q,Z4,q1,q2,q3⟩:=drawByte (((c.dr a3).dr b3).dr p3) hL
  refine qF (by simp only[zQ,Nat.reduceLT]<;>rfl) q2 ?_
  have e1:IntKind.i64.wrap ((a:Int)*16777216)=((a*16777216:Nat):Int):=by rw[w64 (by omega) (by omega)];omega
  have e2:IntKind.i64.wrap ((b:Int)*65536)=((b*65536:Nat):Int):=by rw[w64 (by omega) (by omega)];omega
  have e3:IntKind.i64.wrap (((a*16777216:Nat):Int)+((b*65536:Nat):Int))=((a*16777216+b*65536:Nat):Int):=by rw[w64 (by omega) (by omega)];omega
  have e4:IntKind.i64.wrap ((p:Int)*256)=((p*256:Nat):Int):=by rw[w64 (by omega) (by omega)];omega
  have e5:IntKind.i64.wrap (((a*16777216+b*65536:Nat):Int)+((p*256:Nat):Int))=((a*16777216+b*65536+p*256:Nat):Int):=by rw[w64 (by omega) (by omega)];omega
  have e6:IntKind.i64.wrap (((a*16777216+b*65536+p*256:Nat):Int)+(q:Int))=((a*16777216+b*65536+p*256+q:Nat):Int):=by rw[w64 (by omega) (by omega)];omega
  simp only[↓zP,zQ,↓qC,Nat.reduceLT,Nat.reduceEqDiff,e1,e2,e4,e3,e5,e6,k1,hm]
  exact⟨_,Nat.mod_lt _ h0,rfl,((a3.trans b3).trans p3).trans q3⟩
theorem drawOnce {H:qE}{r:Nat}{x:AV}{L:List Int}(c:Cur H r x L)(hL:L.length≤4000000)(n:Nat)(h0:0<n)(hn:n≤4294967296):∃ (b:Bool)(Z:qE),Sound Tryz.prog 55 [.ptr r 0,n] H (.sc (.bool b)) Z∧Dr r x H Z:=by
 suffices h:∃ v Z,Sound Tryz.prog 55 [.ptr r 0,n] H v Z∧∃ b:Bool,v=.sc (.bool b)∧Dr r x H Z by
  obtain⟨v,Z,h1,b,rfl,h3⟩:=h
  exact⟨b,Z,h1,h3⟩
 refine zR 9 [.tmp 4] Tryz.func55 ?_
 obtain⟨a,Z,a1,a2,a3⟩:=yB c hL n h0 hn
 simp only[↓zP,zQ,↓qC]
 refine qF rfl a2 ?_
 simp only[↓zP,zQ]
 exact⟨_,rfl,a3⟩
theorem vH {H:qE}{r:Nat}{x y:AV}{L l:List Int}(c:Cur H r x L)(hL:L.length≤4000000)(hy:IsL H y .i64 l)(h0:0<l.length)(hn:l.length≤256):∃ (j:Nat)(Z:qE),j<l.length∧Sound Tryz.prog 62 [.ptr r 0,y] H (.sc (.int .i64 (l.getD j 0))) Z∧Dr r x H Z:=by
 suffices h:∃ v Z,Sound Tryz.prog 62 [.ptr r 0,y] H v Z∧∃ j:Nat,j<l.length∧v=.sc (.int .i64 (l.getD j 0))∧Dr r x H Z by
  obtain⟨v,Z,h1,n,h2,rfl,h3⟩:=h
  exact⟨n,Z,h2,h1,h3⟩
 refine zR 12 [.tmp 4] Tryz.func62 ?_
 obtain⟨j,Z,a1,a2,a3⟩:=yB c hL l.length h0 (by omega)
 obtain⟨q,o,rfl,hq⟩:=(a3.isL c hy).get a1
 have k1:(j:Int)<l.length:=by omega
 have k2:(0:Int)≤j:=by omega
 simp only[↓zP,zQ,↓qC,(fun e=>hy.len e)]
 refine qF rfl a2 ?_
 simp only[↓zP,zQ,k2,k1,qB,hq,a1]
 exact⟨j,a1,rfl,a3⟩
section
attribute [local irreducible] kO uW kR wQ
def LclE (H:qE)(u i:Nat)(g:Reg):Prop:=H[i]?=some g∧u≤i
def Kil (H G:qE)(q:Nat):Prop:=G.length=H.length+1∧∀ i,i<H.length→i≠q→G[i]?=H[i]?
section
variable {H Z H0 : qE} {u i j q : Nat} {g : Reg}
theorem LclE.ext (h:LclE H u i g)(e:Ext H Z):LclE Z u i g:=⟨e.at h.1,h.2⟩
theorem LclE.put (h:LclE H u i g)(g':Reg):LclE (H.set i g') u i g':=⟨List.getElem?_set_self (qP h.1),h.2⟩
theorem LclE.oth (h:LclE H u i g)(hj:j≠i)(g':Reg):LclE (H.set j g') u i g:=⟨(List.getElem?_set_ne hj).trans h.1,h.2⟩
theorem LclE.kil (h:LclE H u i g)(k:Kil H Z q)(n:i≠q):LclE Z u i g:=⟨(k.2 i (qP h.1) n).trans h.1,h.2⟩
theorem Ext.kil (e:Ext H0 H)(k:Kil H Z q)(n:H0.length≤q):Ext H0 Z:=⟨by have:=e.1;have:=k.1;omega,fun i hi=>(k.2 i (Nat.lt_of_lt_of_le hi e.1) (by omega)).trans (e.2 i hi)⟩
theorem yN (hi:H.length=i)(u:H0.length≤H.length)(g:Reg):LclE (H++[g]) H0.length i g∧Ext H (H++[g])∧∀ j g',H[j]?=some g'→j≠i:=by
 subst hi
 exact⟨⟨yA H g,u⟩,Ext.more H [g],fun j g' h=>Nat.ne_of_lt (qP h)⟩
theorem uB {α:Type}{f:α→List AV}{m:Nat}{B:Nat}{e:TypeId}(hs:∀ r len x H,vK Tryz.prog (some (.slice e)) (some (.slice e)) (.sl r 0 len m) x H=apR m B H r len H[r]? (qU H x m))(he:Enc f m){n k:Nat}{y:AV}{l1 l2:List α}(b:LclE H u q {cs:=rows f l1})(uH:u≤H.length)(hn:l1.length=n)(hy:qU H y m=some (rows f l2))(hk:n+l2.length=k)(hb:k*B≤140737488355328∧n+l2.length*m≤140737488355328) :
  ∃ (s:Nat)(l:List α)(G:qE),apR m B H q n (some {cs:=rows f l1}) (qU H y m)=some (.sl s 0 l.length m,G)∧l=l1++l2∧LclE G u s {cs:=rows f l}∧Kil H G q∧∀ j g',H[j]?=some g'→j≠s:=by
 obtain⟨G,h1,h2,h3,h4⟩:=ap_cut hs he b.1 hn hy hk hb
 rw[hs,b.1] at h1
 refine⟨H.length,_,G,?_,rfl,⟨h2,uH⟩,⟨h3,h4⟩,fun j g' h=>Nat.ne_of_lt (qP h)⟩
 rw[h1,List.length_append,hn,hk]
structure CurE (H0 H:qE) (rc:Nat) (x:AV) (L:List Int):Prop where
 lt:rc<H0.length
 d:Dr rc x H0 H
 c0:Cur H0 rc x L
section
variable {rc : Nat} {x : AV} {L : List Int}
theorem CurE.start (c:Cur H rc x L):CurE H H rc x L:=⟨c.lt,Dr.rfl c,c⟩
theorem CurE.c (h:CurE H0 H rc x L):Cur H rc x L:=h.c0.dr h.d
theorem CurE.dr (h:CurE H0 H rc x L)(d:Dr rc x H Z):CurE H0 Z rc x L:=⟨h.lt,h.d.trans d,h.c0⟩
theorem CurE.mk' (h:CurE H0 H rc x L)(hl:H.length≤Z.length)(k:∀ i,i<H0.length→Z[i]?=H[i]?):CurE H0 Z rc x L:=
 ⟨h.lt,⟨Nat.le_trans h.d.1 hl,fun i hi hr=>(k i hi).trans (h.d.2.1 i hi hr),by
  obtain⟨a,b,hb⟩:=h.d.2.2
  exact⟨a,b,(k rc h.lt).trans hb⟩⟩,h.c0⟩
theorem CurE.ext (h:CurE H0 H rc x L)(e:Ext H Z):CurE H0 Z rc x L:=h.mk' e.1 fun i hi=>e.2 i (Nat.lt_of_lt_of_le hi h.d.1)
theorem CurE.put (h:CurE H0 H rc x L)(b:LclE H H0.length i g)(g':Reg):CurE H0 (H.set i g') rc x L:=h.mk' (by rw[List.length_set];exact Nat.le_refl _) fun j hj=>List.getElem?_set_ne (by have:=b.2;omega)
theorem CurE.kil (h:CurE H0 H rc x L)(k:Kil H Z q)(n:H0.length≤q):CurE H0 Z rc x L:=h.mk' (by have:=k.1;omega) fun j hj=>k.2 j (Nat.lt_of_lt_of_le hj h.d.1) (by omega)
theorem LclE.dr (h:LclE H u i g)(d:Dr rc x H Z)(n:rc<u):LclE Z u i g:=⟨(d.2.1 i (qP h.1) (by have:=h.2;omega)).trans h.1,h.2⟩
end
end
def RdX {α:Type}(f:α→List AV)(m:Nat)(H:qE)(x:AV)(l:List α):Prop:=(x=.sc (.slice none 0 0)∧l=[])∨∃ r o,x=.sl r 0 l.length m∧H[r]?=some ⟨rows f l,o,true⟩
section
variable {α : Type} {f : α → List AV} {m : Nat} {H Z : qE} {x : AV} {l : List α}
theorem RdX.keep (h:RdX f m H x l)(k:∀ i,i<H.length→¬ NotIn x i→Z[i]?=H[i]?):RdX f m Z x l:=by
 rcases h with h | ⟨r,o,rfl,hr⟩
 ·exact .inl h
 ·exact .inr ⟨r,o,rfl,(k r (qP hr) (fun h=>h r 0 _ _ rfl rfl)).trans hr⟩
theorem RdX.ext (h:RdX f m H x l)(e:Ext H Z):RdX f m Z x l:=h.keep fun i hi _=>e.2 i hi
theorem RdX.len (e:TypeId)(h:RdX f m H x l):lenV (some (.slice e)) x=some (.sc (.int .i64 l.length)):=by
 rcases h with ⟨rfl,rfl⟩ | ⟨r,o,rfl,_⟩<;>rfl
theorem RdX.one (h:RdX f m H x l):x.cells=[x]∧x.one=true:=by
 rcases h with ⟨rfl,rfl⟩ | ⟨r,o,rfl,_⟩<;>exact⟨rfl,rfl⟩
theorem RdX.get (h:RdX f m H x l){i:Nat}(hi:i<l.length):∃ r o,x=.sl r 0 l.length m∧H[r]?=some ⟨rows f l,o,true⟩:=by
 rcases h with ⟨_,rfl⟩ | h
 ·simp at hi
 ·exact h
theorem RdX.at {q n:Nat}(h:RdX f m H (.sl q 0 n m) l):∃ o,H[q]?=some ⟨rows f l,o,true⟩:=by
 rcases h with ⟨h,_⟩ | ⟨r,o,h1,h2⟩
 ·cases h
 ·injection h1 with a
  subst a
  exact⟨o,h2⟩
theorem RdX.src (he:Enc f m)(h:RdX f m H x l):qU H x m=some (rows f l):=by
 rcases h with ⟨rfl,rfl⟩ | ⟨r,o,rfl,hr⟩
 ·rfl
 ·rw[src_slR,hr,at_rows he]
  simp
theorem OwnX.rdx (h:OwnX f m H x l):RdX f m H x l:=by
 rcases h with h | ⟨r,h1,h2⟩
 ·exact .inl h
 ·exact .inr ⟨r,true,h1,h2⟩
end
theorem RdX.isR {ks:List Kd}{m:Nat}{H:qE}{x:AV}{l:List (Rw ks)}(h:RdX Rw.cs m H x l)(hm:ks.length=m:=by rfl):IsR H x l:=by
 subst hm
 exact h
theorem gate_vd {Z:qE}{u N q5 q6 q7 q8:Nat}{n nx dr:Int}{l5:List (Rw kSess)}{l6:List (Rw kLease)}{l7:List (Rw xM)}{l8:List (Rw kOut)}(wn:W64 n)(wx:W64 nx)(wd:W64 dr)(b5:LclE Z u q5 ⟨rows Rw.cs l5,true,true⟩)(b6:LclE Z u q6 ⟨rows Rw.cs l6,true,true⟩)(b7:LclE Z u q7 ⟨rows Rw.cs l7,true,true⟩)(b8:LclE Z u q8 ⟨rows Rw.cs l8,true,true⟩)
  (ne:q5≠q6∧q5≠q7∧q5≠q8∧q6≠q7∧q6≠q8∧q7≠q8) (k5:l5.length≤64) (k6:l6.length≤N) (k7:l7.length≤N) (k8:l8.length≤N) (hu:u≤Z.length) :
  Vd Z u (KG N) [.sc (.int .i64 n),.sc (.int .i64 nx),.sl q5 0 l5.length 20,.sl q6 0 l6.length 2,.sl q7 0 l7.length 3,.sl q8 0 l8.length 5,.sc (.int .i64 dr)]:=by
 obtain⟨n1,n2,n3,n4,n5,n6⟩:=ne
 refine⟨rfl,?_,?_,?_⟩
 ·intro i k x h1 h2
  rcases i with _ | _ | _ | _ | _ | _ | _ | i
  ·cases h1;cases h2;exact⟨_,rfl,wn⟩
  ·cases h1;cases h2;exact⟨_,rfl,wx⟩
  ·cases h1;cases h2;exact⟨l5,.inr ⟨q5,rfl,b5.1⟩,k5⟩
  ·cases h1;cases h2;exact⟨l6,.inr ⟨q6,rfl,b6.1⟩,k6⟩
  ·cases h1;cases h2;exact⟨l7,.inr ⟨q7,rfl,b7.1⟩,k7⟩
  ·cases h1;cases h2;exact⟨l8,.inr ⟨q8,rfl,b8.1⟩,k8⟩
  ·cases h1;cases h2;exact⟨_,rfl,wd⟩
  ·cases h1
 ·intro x hx i hi
  have:=b5.2
  have:=b6.2
  have:=b7.2
  have:=b8.2
  simp only[List.mem_cons,List.not_mem_nil,or_false] at hx
  rcases hx with rfl | rfl | rfl | rfl | rfl | rfl | rfl
  all_goals first | exact .sl (by omega) | exact fun _ _ _ _ e=>by cases e
 ·intro i j x y q hij h1 h2 hq
  have key:∀ (i:Nat) x q,([.sc (.int .i64 n),.sc (.int .i64 nx),.sl q5 0 l5.length 20,.sl q6 0 l6.length 2,.sl q7 0 l7.length 3,.sl q8 0 l8.length 5,.sc (.int .i64 dr)]:List AV)[i]?=some x→¬ NotIn x q→(i=2∧q=q5)∨(i=3∧q=q6)∨(i=4∧q=q7)∨(i=5∧q=q8):=by
   intro i x q h hq
   rcases i with _ | _ | _ | _ | _ | _ | _ | i
   ·cases h;exact absurd (fun _ _ _ _ e=>by cases e) hq
   ·cases h;exact absurd (fun _ _ _ _ e=>by cases e) hq
   ·cases h;by_cases e:q=q5
    ·exact .inl ⟨rfl,e⟩
    ·exact absurd (.sl e) hq
   ·cases h;by_cases e:q=q6
    ·exact .inr (.inl ⟨rfl,e⟩)
    ·exact absurd (.sl e) hq
   ·cases h;by_cases e:q=q7
    ·exact .inr (.inr (.inl ⟨rfl,e⟩))
    ·exact absurd (.sl e) hq
   ·cases h;by_cases e:q=q8
    ·exact .inr (.inr (.inr ⟨rfl,e⟩))
    ·exact absurd (.sl e) hq
   ·cases h;exact absurd (fun _ _ _ _ e=>by cases e) hq
   ·cases h
  by_cases hy:NotIn y q
  ·exact hy
  ·have k1:=key i x q h1 hq
   have k2:=key j y q h2 hy
   omega
theorem packetInE {H:qE}{x:AV}{l:List (Rw qK)}(hx:RdN H x l)(hl:l.length≤1000000)(k:Int):∃ (a b c d:Int)(bb:Bool)(Z:qE),Sound Tryz.prog 161 [.agg [x],k] H (.tup [.agg [a,b,c,d],.sc (.bool bb)]) Z∧Ext H Z∧W64 a∧W64 b∧W64 c∧W64 d:=by
 suffices h:∃ w Z,Sound Tryz.prog 161 [.agg [x],k] H w Z∧∃ (a b c d:Int)(bb:Bool),w=.tup [.agg [a,b,c,d],.sc (.bool bb)]∧Ext H Z∧W64 a∧W64 b∧W64 c∧W64 d by
  obtain⟨w,Z,h1,a,b,c,d,bb,rfl,h2⟩:=h
  exact⟨a,b,c,d,bb,Z,h1,h2⟩
 refine zR 87 [.cell 4 67,.tmp 5] Tryz.func161 ?_
 have o:=hx.one
 obtain⟨H1,hH1⟩:∃ H1:qE,H1=H++[{cs:=[x]}]:=⟨_,rfl⟩
 obtain⟨z4,hz4⟩:∃ z4:List AV,z4=[.sc (.int .i64 0),.sc (.int .i64 0),.sc (.int .i64 0),.sc (.int .i64 0)]:=⟨_,rfl⟩
 obtain⟨H2,hH2⟩:∃ H2:qE,H2=H1++[{cs:=[(0:Int),(0:Int),(0:Int),(0:Int)]}]:=⟨_,rfl⟩
 have e1:Ext H H1:=hH1▸Ext.more H _
 have e2:Ext H1 H2:=hH2▸Ext.more H1 _
 have b1:H2[H.length]?=some {cs:=[x]}:=e2.at (by rw[hH1];exact yA _ _)
 have b2:H2[H1.length]?=some {cs:=[(0:Int),(0:Int),(0:Int),(0:Int)]}:=by rw[hH2];exact yA _ _
 have E2:=e1.trans e2
 obtain⟨b,L,y,Z1,c1,e3,hy,hyn,pi⟩:=jI (hx.ext E2) hl k 6 6 rfl (by omega)
 have hLL:L.length≤6:=by
  rcases pi with ⟨_,h,_⟩ | ⟨_,h,_⟩
  ·omega
  ·rw[h];decide
 simp only[↓zP,zQ,↓qC,o,←hH1,←hH2,b1]
 refine qF rfl c1 ?_
 simp only[↓zP,zQ,↓qC]
 refine yL (ι:=Nat) (fun i s=>∃ (T:Nat→AV)(G:qE)(q:Nat)(M:List Int)(bo:Bool),s=⟨qY 87 T,G⟩∧Ext Z1 G∧Z1.length≤q∧G[q]?=some {cs:=ints .i64 M}∧M.length=i∧i≤L.length∧(∀ z∈M,W64 z)∧(bo=true→b=true)∧T 2=.ptr H.length 0∧T 4=.ptr H1.length 0∧T 6=y∧T 7=.sc (.bool bo)∧T 8=.sl q 0 i 1∧T 9=.sc (.int .i64 (i:Int))) (fun i=>L.length - i) ?_ (i:=0) ?_
 ·rintro i s ⟨T,G,q,M,bo,rfl,eG,hq,gq,Ml,hi,wM,hbo,t2,t4,t6,t7,t8,t9⟩
  have E3:=(E2.trans e3).trans eG
  have hyG:=eG.isL hy
  have ly:=fun e=>hyG.len e
  by_cases h:i<L.length
  ·have k1:(i:Int)<(L.length:Int):=by omega
   have k0:(0:Int)≤(i:Int):=by omega
   obtain⟨ry,oy,hye,hry⟩:=hyG.get h
   obtain⟨v,hs,Z,c2,e4,nv⟩:=numE (hx.ext E3) hl (L.getD i 0)
   obtain⟨Y,hY⟩:∃ Y:qE,Y=Z++[{cs:=ints .i64 [v]}]:=⟨_,rfl⟩
   have e5:Ext Z Y:=hY▸Ext.more Z _
   have yq:=e5.at (e4.at gq)
   have Mt:M.take i=M:=List.take_of_length_le (by omega)
   have q1:i≤M.length:=by omega
   have q2:(i+1)*8≤140737488355328:=by omega
   have q3:i+1≤140737488355328:=by omega
   have ew:IntKind.i64.wrap ((i:Int)+1)=((i+1:Nat):Int):=by rw[w64 (by omega) (by omega)];omega
   have eF:Ext Z1 (yG Y q++[{cs:=ints .i64 (M++[v])}]):=by
    have e6:=eG.trans (e4.trans e5)
    refine⟨by have:=e6.1;simp[yZ];omega,fun j hj=>?_⟩
    have hjY:j<Y.length:=Nat.lt_of_lt_of_le hj e6.1
    rw[List.getElem?_append_left (by rw[yZ];exact hjY),uR _ _ _ (by omega)]
    exact e6.2 j hj
   have lF:(yG Y q++[{cs:=ints .i64 (M++[v])}])[Y.length]?=some {cs:=ints .i64 (M++[v])}:=by
    have:=yA (yG Y q) {cs:=ints .i64 (M++[v])}
    rwa [yZ] at this
   have wF:∀ z∈M++[v],W64 z:=by
    intro z hz
    rcases List.mem_append.1 hz with hz | hz
    ·exact wM z hz
    ·rw[List.mem_singleton.1 hz];exact nv.w64
   simp only[↓zP,zQ,↓qC,t9,t6,ly,t7,t4,k1]
   refine zD [(0,0),(4,0)] ?_
   simp only[↓zP,zQ,hye,t2,(eG.at (e3.at b1)),t6,t9,k0,k1,qB,hry,h]
   refine qF rfl c2 ?_
   obtain⟨bo',hbo',hb2⟩:∃ bo':Bool,(bo'=true→b=true)∧bo'=(bo&&hs):=⟨_,fun h=>hbo (by revert h;cases bo<;>simp),rfl⟩
   cases bo with
   | true =>
    simp only[Bool.true_and] at hb2
    subst hb2
    simp only[↓zP,zQ,↓qC,t7,t8,t9]
    refine⟨zX (zX (qH)),?_⟩
    simp only[zQ,←hY,yq,q1,q2,q3,Mt,ew]
    refine⟨i+1,by omega,_,_,Y.length,M++[v],_,rfl,eF,by have:=(eG.trans (e4.trans e5)).1;omega,lF,by simp[Ml],by omega,wF,hbo',?_,?_,?_,?_,?_,?_⟩<;>simp only[zQ,t2,t4,t6,hye]<;>rfl
   | false =>
    simp only[Bool.false_and] at hb2
    subst hb2
    simp only[↓zP,zQ,↓qC,t7,reduceCtorEq,t8,t9]
    refine⟨zX (zX (qH)),?_⟩
    simp only[zQ,←hY,yq,q1,q2,q3,Mt,ew]
    refine⟨i+1,by omega,_,_,Y.length,M++[v],_,rfl,eF,by have:=(eG.trans (e4.trans e5)).1;omega,lF,by simp[Ml],by omega,wF,hbo',?_,?_,?_,?_,?_,?_⟩<;>simp only[zQ,t2,t4,t6,hye]<;>rfl
  ·have k1:¬ (i:Int)<(L.length:Int):=by omega
   have g2:=eG.at (e3.at b2)
   have z0:∀ Z:qE,Z[H1.length]?=some {cs:=[(0:Int),(0:Int),(0:Int),(0:Int)]}→∀ cs,(Z.set H1.length {cs:=cs})[H1.length]?=some {cs:=cs}:=fun Z h cs=>List.getElem?_set_self (qP h)
   have bd:qT Tryz.prog 67 []=some (.agg [(0:Int),(0:Int),(0:Int),(0:Int)]):=by simp[qT,yR,yT,qW,Tryz.underlying67,zero67,qR,qO]
   have f67:∀ (a b c d:Int) o,jG true true 4 (some ⟨[a,b,c,d],o,true⟩) 0=some (.agg [a,b,c,d]):=fun a b c d o=>rfl
   cases bo with
   | false =>
    have hf:=z0 G g2 [.sc (.int .i64 0),.sc (.int .i64 0),.sc (.int .i64 0),.sc (.int .i64 0)]
    simp -implicitDefEqProofs only[↓zP,zQ,↓qC,t9,t6,ly,t7,bd,t4,g2,Nat.reduceAdd,xZ,xY,hf,f67,k1]
    exact⟨0,0,0,0,false,rfl,E3.set e1.1 _,by unfold W64;omega,by unfold W64;omega,by unfold W64;omega,by unfold W64;omega⟩
   | true =>
    have hL6:L.length=6:=by
     rw[hbo rfl] at pi
     exact pi.len
    obtain rfl:i=6:=by omega
    obtain⟨a0,a1,a2,a3,a4,a5,rfl⟩:∃ a0 a1 a2 a3 a4 a5,M=[a0,a1,a2,a3,a4,a5]:=by
     rcases M with _ | ⟨a0,_ | ⟨a1,_ | ⟨a2,_ | ⟨a3,_ | ⟨a4,_ | ⟨a5,_ | ⟨a6,M⟩⟩⟩⟩⟩⟩⟩<;>simp at Ml
     exact⟨a0,a1,a2,a3,a4,a5,rfl⟩
    have bd4:qT Tryz.prog 67 [(0,.sc (.int .i64 a1)),(1,.sc (.int .i64 a2)),(2,.sc (.int .i64 a3)),(3,.sc (.int .i64 a4))]=some (.agg [a1,a2,a3,a4]):=by simp[qT,yR,yT,qW,yF,Tryz.underlying67,zero67,qR,qO]
    have k1':¬ (6:Int)<(L.length:Int):=by omega
    simp only[↓zP,zQ,↓qC,t9,t6,ly,t7,t4,k1']
    refine zD [(2,0),(5,0),(8,0),(11,0)] ?_
    simp -implicitDefEqProofs only[↓zP,zQ,Nat.reduceLT,t8,Int.reduceLE,Int.reduceLT,Int.reduceToNat,↓qC,Nat.reduceAdd,gq,bd4]
    refine⟨zX (zX (zX (zX (qH)))),?_⟩
    obtain⟨H5,hH5⟩:∃ H5:qE,H5=List.set (G++[{cs:=[(0:Int),(0:Int),(0:Int),(0:Int)]}]) G.length {cs:=[a1,a2,a3,a4]}:=⟨_,rfl⟩
    have e5:Ext G H5:=by rw[hH5];exact(Ext.more G _).set (Nat.le_refl _) _
    have q5:=e5.at gq
    have p5:H5[G.length]?=some {cs:=[a1,a2,a3,a4]}:=by rw[hH5];exact List.getElem?_set_self (by simp)
    have g5:=e5.at g2
    have E5:=E3.trans e5
    have fin:∀ {Z:qE},Ext H5 Z→Z[H1.length]?=some {cs:=[(0:Int),(0:Int),(0:Int),(0:Int)]}∧(∀ cs,(Z.set H1.length {cs:=cs})[H1.length]?=some {cs:=cs})∧∀ g,Ext H (Z.set H1.length g):=fun e=>⟨e.at g5,z0 _ (e.at g5),fun g=>(E5.trans e).set e1.1 g⟩
    have n0:W64 0:=by unfold W64;omega
    refine zD [(2,0),(5,0),(12,7),(14,7),(16,7),(19,7),(22,7)] ?_
    by_cases ka:a0=90
    ·obtain⟨bb,Z6,c6,e6⟩:=packetOkE (H:=H5) a1 a2 a3 a4
     obtain⟨f1,f2,f3⟩:=fin e6
     have q6:=e6.at q5
     have p6:=e6.at p5
     simp -implicitDefEqProofs only[↓zP,zQ,xZ,xY,←hH5,Nat.reduceLT,t8,Int.reduceLE,Int.reduceLT,q5,ka,Nat.reduceAdd,p5,f67]
     refine qF rfl c6 ?_
     cases bb with
     | false =>
      simp only[↓zP,zQ,qA,↓qC]
      refine⟨zX (zX (zX (zX (zX (zX (zX (qH))))))),?_⟩
      simp -implicitDefEqProofs only[zQ,t4,f1,Nat.reduceAdd,xZ,xY,f2,f67]
      exact⟨0,0,0,0,false,rfl,f3 _,n0,n0,n0,n0⟩
     | true =>
      by_cases kb:a5=IntKind.i64.wrap (IntKind.i64.wrap (IntKind.i64.wrap (a1+a2)+a3)+a4)
      ·simp -implicitDefEqProofs only[↓zP,zQ,Nat.reduceLT,qA,t8,Int.reduceLE,Int.reduceLT,Int.reduceToNat,↓qC,p6,Nat.reduceAdd,←kb,q6]
       refine⟨zX (zX (zX (zX (zX (zX (zX (qH))))))),?_⟩
       simp -implicitDefEqProofs only[zQ,t4,f1,Nat.reduceAdd,xZ,xY,f2,f67]
       exact⟨a1,a2,a3,a4,true,rfl,f3 _,wM _ (by simp),wM _ (by simp),wM _ (by simp),wM _ (by simp)⟩
      ·simp -implicitDefEqProofs only[↓zP,zQ,Nat.reduceLT,qA,t8,Int.reduceLE,Int.reduceLT,Int.reduceToNat,↓qC,p6,Nat.reduceAdd,q6,kb]
       refine⟨zX (zX (zX (zX (zX (zX (zX (qH))))))),?_⟩
       simp -implicitDefEqProofs only[zQ,t4,f1,Nat.reduceAdd,xZ,xY,f2,f67]
       exact⟨0,0,0,0,false,rfl,f3 _,n0,n0,n0,n0⟩
    ·obtain⟨f1,f2,f3⟩:=fin ⟨Nat.le_refl _,fun _ _=>rfl⟩
     simp -implicitDefEqProofs only[↓zP,zQ,xZ,xY,←hH5,Nat.reduceLT,t8,Int.reduceLE,Int.reduceLT,q5,Nat.reduceAdd,ka,↓qC,t4,p5,f67]
     refine⟨zX (zX (zX (zX (zX (zX (zX (qH))))))),?_⟩
     simp -implicitDefEqProofs only[zQ,f1,Nat.reduceAdd,xZ,xY,f2,f67]
     exact⟨0,0,0,0,false,rfl,f3 _,n0,n0,n0,n0⟩
 ·refine⟨_,_,Z1.length,[],b,rfl,Ext.more Z1 _,Nat.le_refl _,yA Z1 _,rfl,Nat.zero_le _,by simp,id,?_,?_,?_,?_,?_,?_⟩<;>simp only[zQ]<;>rfl
def Heard (Z:qE)(r:Nat)(cs':List AV)(l0:List (Rw qK))(mt:Int):Prop:=
 ∃ (p0 p1 v:Int)(x1:AV)(l1:List (Rw qK))(x6:AV)(l6:List (Rw kSess))(j:Nat)(p:Rw kSess),LetterAt l0 mt 76 [p0,p1]∧numAt l0 p0 v true∧PlN Z r 0 cs' x1 l1∧Grw l0 l1∧cs'[5]?=some x6∧OwnX Rw.cs 20 Z x6 l6∧l6.length≤64∧l6[j]?=some p∧p.int 0=v
theorem letter76 {l:List (Rw qK)}{k a b:Int}(h:LetterIs l k 76 [a,b]):LetterAt l k 76 [a,b]∧∃ v,numAt l a v true:=by
 rcases h with h | ⟨h,_⟩
 ·refine⟨h,?_⟩
  obtain⟨_,_,_,_,_,g⟩:=h
  obtain⟨b',M,v,e,hv⟩:=g rfl
  cases e
  exact⟨v,hv⟩
 ·omega
theorem atom_num {l:List (Rw qK)}{h k:Int}(a:atomAt l h k)(r:rt l):numAt l h k true:=by
 obtain⟨j,p,h1,h2,h3,h4,_⟩:=a
 exact .inl ⟨rfl,j,p,h1,h2,r j p h2,h3,h4⟩
theorem list_chain {l:List (Rw qK)}(r:rt l):∀ {L:List Int}{v:Int},ListAt l L v→∃ w,Chain l v L w∧numAt l w 0 true
 | [],v,⟨j,p,h1,h2,h3,h4,_⟩=>⟨v,rfl,.inl ⟨rfl,j,p,h1,h2,r j p h2,h3,h4⟩⟩
 | a :: L,v,⟨j,p,w,h1,h2,⟨g0,_,g2,g3⟩,_,h5⟩=>by
  obtain⟨u,c,n⟩:=list_chain r h5
  exact⟨u,⟨j,p,h1,h2,r j p h2,g0,g2,by rw[g3];exact c⟩,n⟩
theorem letter_at {l:List (Rw qK)}(r:rt l){h t c:Int}{L:List Int}(hl:ListAt l (h :: L) t)(ha:atomAt l h c)(hn:L.length=wY c)(h0:wY c≠0)(h76:c=76→∃ (b:Int)(M:List Int)(v:Int),L=b :: M∧numAt l b v true):LetterAt l t c L:=by
 obtain⟨w,hc,hw⟩:=list_chain r hl
 obtain⟨j,p,w',h1,h2,⟨g0,_,g2,_⟩,_⟩:=hl
 exact⟨h,⟨j,p,h1,h2,r j p h2,g0,g2⟩,atom_num ha r,h0,.inl ⟨rfl,by simp[hn],w,hc,hw⟩,h76⟩
theorem letter_two {l:List (Rw qK)}(r:rt l){t a b n:Int}(ha:a = -1∨atomAt l a n)(h:t = -1∨∃ h,ListAt l (h :: [a,b]) t∧atomAt l h 76)(ht:0≤t):LetterAt l t 76 [a,b]:=by
 rcases h with h | ⟨h,h1,h2⟩
 ·omega
 ·have h0:0≤a:=by
   obtain⟨_,_,w,_,_,_,_,_,_,_,_,_,_,h,_⟩:=h1
   exact h
  rcases ha with ha | ha
  ·omega
  ·exact letter_at r h1 h2 rfl (by decide) fun _=>⟨a,[b],n,rfl,atom_num ha r⟩
theorem put_atom {l l':List (Rw qK)}{n v:Int}(h:PutR l 1 n 0 0 l' v):v = -1∨atomAt l' v n:=by
 rcases h with ⟨_,⟨rfl,_⟩ | ⟨j,p,h1,h2,h3,_⟩⟩
 ·exact .inl rfl
 ·exact .inr ⟨j,p,h1,h2,h3⟩
theorem atomP {H:qE}{r off:Nat}{cs:List AV}{x:AV}{l:List (Rw qK)}(hP:PlN H r off cs x l)(hl:l.length≤3000)(n:Int) :
  ∃ (v:Int)(l':List (Rw qK))(x':AV)(Z:qE),Sound Tryz.prog 68 [.ptr r off,n] H (.sc (.int .i64 v)) Z∧PlN Z r off (cs.set off x') x' l'∧Only H Z r x x'∧GQ l v l'∧(v = -1∨atomAt l' v n):=by
 obtain⟨v,l',x',Z,h1,h2,h3,h4,_⟩:=atomT hP hl n
 have hl':=h4.1.2.1 hl
 refine⟨v,l',x',Z,h1,h2,h3,⟨h4.1,?_⟩,put_atom h4⟩
 rcases put_atom h4 with h | ⟨j,p,h,h5,_⟩
 ·omega
 ·have:=(List.getElem?_eq_some_iff.1 h5).1
  omega
theorem or_grw {l l':List (Rw qK)}{a n:Int}(g:Grw l l')(h:a = -1∨atomAt l a n):a = -1∨atomAt l' a n:=h.imp id (atomAt.grw g)
end
end Go.Proofs.YtjdajobflgkebaaGreatDoor.Sim
