/- Texts of this proof, put together and made small by a program: part 12. -/
import Derived.Test.YtjdajobflgkebaaGreatDoorK11
set_option linter.all false
set_option maxRecDepth 100000
set_option maxHeartbeats 40000000
namespace Go.Proofs.YtjdajobflgkebaaGreatDoor.Sim
open Go
section
attribute [local irreducible] kO uW kR wQ
theorem sayCW {H:qE}{r N:Nat}{cs:List AV}(w0:Wd H r (KW 2 2 1 N) cs)(hN:N+0≤900000){x0:AV}{l0:List (Rw qK)}(hP:PlN H r 0 cs x0 l0)(hl0:l0.length≤3000)(rt0:rt l0)(cid body:Int)(wcid:W64 cid)(wbody:W64 body)(c:Rw kClient):∃ (q:Rw kClient)(tt:Int)(x1:AV)(l1:List (Rw qK))(cs':List AV)(Z:qE),Sound Tryz.prog 90 [.ptr r 0,.agg c.cs,cid,body] H (.tup [.agg q.cs,.sc (.int .i64 tt)]) Z∧Chg H Z r (KW 2 2 1 N) (KW 2 2 1 (N+0)) cs cs' 0∧PlN Z r 0 cs' x1 l1∧Grw l0 l1∧W64 tt∧(0≤tt→∃ a b,LetterAt l1 tt 76 [a,b]):=by
 suffices h:∃ w Z,Sound Tryz.prog 90 [.ptr r 0,.agg c.cs,cid,body] H w Z∧∃ (q:Rw kClient)(tt:Int)(x1:AV)(l1:List (Rw qK))(cs':List AV),w=.tup [.agg q.cs,.sc (.int .i64 tt)]∧Chg H Z r (KW 2 2 1 N) (KW 2 2 1 (N+0)) cs cs' 0∧PlN Z r 0 cs' x1 l1∧Grw l0 l1∧W64 tt∧(0≤tt→∃ a b,LetterAt l1 tt 76 [a,b]) by
  obtain⟨w,Z,h1,q,tt,x1,l1,cs',rfl,h2⟩:=h
  exact⟨q,tt,x1,l1,cs',Z,h1,h2⟩
 refine zR 56 [.cell 8 48,.tmp 9] Tryz.func90 ?_
 have S0:=WS.start w0
 obtain⟨b1,e2,nn3⟩:=S0.alloc (i:=H.length) (by simp) {cs:=c.cs}
 have S4:=S0.ext e2
 obtain⟨b5,e6,nn7⟩:=S4.alloc (i:=H.length+1) (by simp) {cs:=(Rw.zero kClient).cs}
 have b8:=b1.ext e6
 have c9:=b8.1
 have rf10:=c.rdI (j:=3) rfl
 by_cases h11:(c.int 3)=(3:Int)
 ·have h12:=eq_true h11
  have S13:=S4.ext e6
  have sr14:=S13.w.at_
  have p16:=PlN.extW (PlN.extW hP e2) e6
  have G19:=Grw.refl l0
  obtain⟨v20,l21,x22,Z23,c24,p25,o26,g27,ha28⟩:=atomP p16 hl0 (cid)
  try simp only[↓zP,zQ,↓qC,vB,qJ,Rw.ones,c9,sr14,(qL (hP.2.1)),(fun e=>OwnF.len e p16.2.2.1),rf10,h12]
  refine qF rfl c24 ?_
  have G32:=g27.1
  have bl33:=G32.2.1 hl0
  have rt34:=G32.2.2 rt0
  obtain⟨cs31,C29,p30⟩:=S13.w.arC rfl p16 p25 o26 ⟨bl33,rt34⟩
  have b39:=b8.only C29.o
  have rc41:=fun (o:Bool)=>c.chan (j:=11) rfl o
  obtain⟨r42,r43,r44,r45,r46,r47,r48,r49,r50,r51,l52,x53,Z54,c55,p56,o57,g58,f59⟩:=sayG p30 bl33 (c.int 11) (c.int 12) (c.int 13) (c.int 14) (c.int 15) (c.int 16) (c.int 17) (c.int 18) (c.int 19) (body) (c.w64 11 rfl) (c.w64 12 rfl) (c.w64 13 rfl) (c.w64 14 rfl) (c.w64 15 rfl) (c.w64 16 rfl) (c.w64 17 rfl) (c.w64 18 rfl) (c.w64 19 rfl)
  try simp -implicitDefEqProofs only[↓zP,zQ,↓qC,(b39.1),rc41,Nat.reduceAdd]
  refine qF rfl c55 ?_
  have g60:=And.intro g58 trivial
  have S61:=S13.chg C29
  have G65:=g60.1
  have bl66:=G65.2.1 bl33
  have rt67:=G65.2.2 rt34
  obtain⟨cs64,C62,p63⟩:=S61.w.arC rfl p30 p56 o57 ⟨bl66,rt67⟩
  obtain⟨w71,w72,w73,w74,w75,w76,w77,w78,w79,w80,w81⟩:=f59
  have S82:=S61.chg C62
  obtain⟨b83,e84,nn85⟩:=S82.alloc (i:=Z54.length) (by simp) {cs:=[(0:Int),(0:Int),(0:Int),(0:Int),(0:Int),(0:Int),(0:Int),(0:Int),(0:Int)]}
  have p89:=PlN.putW (g':={cs:=[r42,r43,r44,r45,r46,r47,r48,r49,r50]}) (PlN.extW p63 e84) b83
  obtain⟨v90,l91,x92,Z93,c94,p95,o96,g97,i98⟩:=uD p89 bl66 (76) [v20,r51] 2 rfl (by decide)
  simp only[List.length_set,List.length_append,List.length_cons,List.length_nil,Nat.zero_add] at c94
  try simp -implicitDefEqProofs only[↓zP,zQ,↓qC,(b83.1),Nat.reduceAdd,xZ,xY]
  refine qF rfl c94 ?_
  have S99:=(S82.ext e84).put b83 {cs:=[r42,r43,r44,r45,r46,r47,r48,r49,r50]}
  have G103:=g97.1
  have bl104:=G103.2.1 bl66
  have rt105:=G103.2.2 rt67
  obtain⟨cs102,C100,p101⟩:=S99.w.arC rfl p89 p95 o96 ⟨bl104,rt105⟩
  have G106:=((G19.trans G32).trans G65).trans G103
  have w109:W64 v90:=by have h:=g97.2;unfold W64;omega
  by_cases h110:r51<(0:Int)
  ·obtain⟨w111,x112,Z113,c114,p115,o116⟩:=jL p101 bl104 (l0.length)
   rw[G106.back] at p115
   try simp only[↓zP,zQ,↓qC,h110]
   refine qF rfl c114 ?_
   obtain⟨cs120,C118,p119⟩:=(S99.chg C100).w.arC rfl p101 p115 o116 ⟨hl0,rt0⟩
   have b125:=b39.only C62.o
   have b128:=((b125.ext e84).oth (Ne.symm (nn85 _ _ b125.1)) {cs:=[r42,r43,r44,r45,r46,r47,r48,r49,r50]}).only C100.o
   have b129:=b128.only C118.o
   have ra131:=fun (o:Bool)=>c.rdA (m:=23) rfl o
   have b132:=b5.only C29.o
   have b133:=b132.only C62.o
   have b136:=((b133.ext e84).oth (Ne.symm (nn85 _ _ b133.1)) {cs:=[r42,r43,r44,r45,r46,r47,r48,r49,r50]}).only C100.o
   have b137:=b136.only C118.o
   have wr140:=fun (H:qE)(r:Nat)=>Rw.wrA (Rw.zero kClient) c (m:=23) rfl H r
   try simp only[↓zP,zQ,↓qC,(b129.1),ra131,(b137.1),wr140,((b137.put {cs:=c.cs}).1)]
   exact⟨c,_,x112,l0,_,rfl,((((((((((Chg.refl w0 0).ext e2).ext e6).trans C29).trans C62).ext e84).put b83 b83.2.1 {cs:=[r42,r43,r44,r45,r46,r47,r48,r49,r50]}).trans C100).trans C118).put b137 b137.2.1 {cs:=c.cs}).up (M:=N+0) (by omega),(PlN.putW (g':={cs:=c.cs}) p119 b137),G19,⟨by decide,by decide⟩,fun h=>by omega⟩
  ·by_cases h156:v90<(0:Int)
   ·obtain⟨w157,x158,Z159,c160,p161,o162⟩:=jL p101 bl104 (l0.length)
    rw[G106.back] at p161
    try simp only[↓zP,zQ,↓qC,h110,h156,qA]
    refine qF rfl c160 ?_
    obtain⟨cs166,C164,p165⟩:=(S99.chg C100).w.arC rfl p101 p161 o162 ⟨hl0,rt0⟩
    have b171:=b39.only C62.o
    have b174:=((b171.ext e84).oth (Ne.symm (nn85 _ _ b171.1)) {cs:=[r42,r43,r44,r45,r46,r47,r48,r49,r50]}).only C100.o
    have b175:=b174.only C164.o
    have ra177:=fun (o:Bool)=>c.rdA (m:=23) rfl o
    have b178:=b5.only C29.o
    have b179:=b178.only C62.o
    have b182:=((b179.ext e84).oth (Ne.symm (nn85 _ _ b179.1)) {cs:=[r42,r43,r44,r45,r46,r47,r48,r49,r50]}).only C100.o
    have b183:=b182.only C164.o
    have wr186:=fun (H:qE)(r:Nat)=>Rw.wrA (Rw.zero kClient) c (m:=23) rfl H r
    try simp only[↓zP,zQ,↓qC,(b175.1),ra177,(b183.1),wr186,((b183.put {cs:=c.cs}).1)]
    exact⟨c,_,x158,l0,_,rfl,((((((((((Chg.refl w0 0).ext e2).ext e6).trans C29).trans C62).ext e84).put b83 b83.2.1 {cs:=[r42,r43,r44,r45,r46,r47,r48,r49,r50]}).trans C100).trans C164).put b183 b183.2.1 {cs:=c.cs}).up (M:=N+0) (by omega),(PlN.putW (g':={cs:=c.cs}) p165 b183),G19,⟨by decide,by decide⟩,fun h=>by omega⟩
   ·have b202:=b39.only C62.o
    have b205:=((b202.ext e84).oth (Ne.symm (nn85 _ _ b202.1)) {cs:=[r42,r43,r44,r45,r46,r47,r48,r49,r50]}).only C100.o
    have ra207:=fun (o:Bool)=>c.rdA (m:=23) rfl o
    obtain⟨b209,e210,nn211⟩:=(S99.chg C100).alloc (i:=Z93.length) (by simp) {cs:=(Rw.zero kClient).cs}
    have wr214:=fun (H:qE)(r:Nat)=>Rw.wrA (Rw.zero kClient) c (m:=23) rfl H r
    have b216:=(b83.put {cs:=[r42,r43,r44,r45,r46,r47,r48,r49,r50]}).only C100.o
    obtain⟨q222,wr223,hj226,hi224,hb225⟩:=c.wrC (j:=11) rfl (by decide) (show W64 (r42) from w71) (show W64 (r43) from w72) (show W64 (r44) from w73) (show W64 (r45) from w74) (show W64 (r46) from w75) (show W64 (r47) from w76) (show W64 (r48) from w77) (show W64 (r49) from w78) (show W64 (r50) from w79)
    have ra229:=fun (o:Bool)=>q222.rdA (m:=23) rfl o
    have b230:=b5.only C29.o
    have b231:=b230.only C62.o
    have b234:=((b231.ext e84).oth (Ne.symm (nn85 _ _ b231.1)) {cs:=[r42,r43,r44,r45,r46,r47,r48,r49,r50]}).only C100.o
    have b236:=(b234.ext e210).oth (Ne.symm (nn211 _ _ b234.1)) {cs:=q222.cs}
    have wr239:=fun (H:qE)(r:Nat)=>Rw.wrA (Rw.zero kClient) q222 (m:=23) rfl H r
    try simp -implicitDefEqProofs only[↓zP,zQ,↓qC,h110,h156,qA,(b205.1),ra207,vB,Rw.ones,(b209.1),wr214,(((b216.ext e210).oth (Ne.symm (nn211 _ _ b216.1)) {cs:=c.cs}).1),Nat.reduceAdd,((b209.put {cs:=c.cs}).1),wr223,((b209.put {cs:=q222.cs}).1),ra229,(b236.1),wr239,((b236.put {cs:=q222.cs}).1)]
    exact⟨q222,_,x92,l91,_,rfl,(((((((((((Chg.refl w0 0).ext e2).ext e6).trans C29).trans C62).ext e84).put b83 b83.2.1 {cs:=[r42,r43,r44,r45,r46,r47,r48,r49,r50]}).trans C100).ext e210).put b209 b209.2.1 {cs:=q222.cs}).put b236 b236.2.1 {cs:=q222.cs}).up (M:=N+0) (by omega),(PlN.putW (g':={cs:=q222.cs}) (PlN.putW (g':={cs:=q222.cs}) (PlN.extW p101 e210) b209) b236),G106,w109,fun h=>⟨_,_,letter_two rt105 (or_grw (((Grw.refl l21).trans G65).trans G103) ha28) i98 h⟩⟩
 ·have ra258:=fun (o:Bool)=>c.rdA (m:=23) rfl o
  have wr261:=fun (H:qE)(r:Nat)=>Rw.wrA (Rw.zero kClient) c (m:=23) rfl H r
  try simp only[↓zP,zQ,↓qC,vB,qJ,Rw.ones,c9,ra258,wr261,((b5.put {cs:=c.cs}).1),rf10,h11]
  exact⟨c,_,x0,l0,_,rfl,((((Chg.refl w0 0).ext e2).ext e6).put b5 b5.2.1 {cs:=c.cs}).up (M:=N+0) (by omega),(PlN.putW (g':={cs:=c.cs}) (PlN.extW (PlN.extW hP e2) e6) b5),(Grw.refl l0),⟨by decide,by decide⟩,fun h=>by omega⟩
theorem serverCW {H:qE}{r N:Nat}{cs:List AV}(w0:Wd H r (KW 2 2 1 N) cs)(hN:N+0≤900000)(p0 p1 now:Int)(wp0:W64 p0)(wp1:W64 p1)(wnow:W64 now)(c:Rw kClient){qp:Nat}{oqp:Bool}(qp0:Int)(hqp:LclW H 0 r cs qp ⟨ints .i64 [qp0,p0,p1],oqp,true⟩):∃ (q:Rw kClient)(tt:Int)(bb:Bool)(cs':List AV)(Z:qE),Sound Tryz.prog 151 [.ptr r 0,.agg c.cs,.sl qp 1 2 1,now] H (.tup [.agg q.cs,.sc (.int .i64 tt),.sc (.bool bb)]) Z∧Chg H Z r (KW 2 2 1 N) (KW 2 2 1 (N+0)) cs cs' 0∧W64 tt:=by
 suffices h:∃ w Z,Sound Tryz.prog 151 [.ptr r 0,.agg c.cs,.sl qp 1 2 1,now] H w Z∧∃ (q:Rw kClient)(tt:Int)(bb:Bool)(cs':List AV),w=.tup [.agg q.cs,.sc (.int .i64 tt),.sc (.bool bb)]∧Chg H Z r (KW 2 2 1 N) (KW 2 2 1 (N+0)) cs cs' 0∧W64 tt by
  obtain⟨w,Z,h1,q,tt,bb,cs',rfl,h2⟩:=h
  exact⟨q,tt,bb,cs',Z,h1,h2⟩
 refine zR 113 [.cell 8 48,.tmp 9,.tmp 10] Tryz.func151 ?_
 have S0:=WS.start w0
 obtain⟨b1,e2,nn3⟩:=S0.alloc (i:=H.length) (by simp) {cs:=c.cs}
 have S4:=S0.ext e2
 obtain⟨b5,e6,nn7⟩:=S4.alloc (i:=H.length+1) (by simp) {cs:=(Rw.zero kClient).cs}
 try simp only[↓zP,zQ,↓qC,vB,Rw.ones]
 refine zD [(2,0),(5,0)] ?_
 have S8:=S4.ext e6
 have sr9:=S8.w.at_
 obtain⟨x10,l11,p12,bl13,rt14⟩:=S8.ar rfl
 have b18:=(hqp.ext e2).ext e6
 obtain⟨r20,r21,r22,Z23,c24,e25,f26⟩:=serverInE (OwnN.rd p12.2.2.1) (by omega) (p0)
 try simp -implicitDefEqProofs only[↓zP,zQ,Nat.reduceLT,qJ,qD,Int.reduceLT,Nat.reduceAdd,(b18.1),sr9,(yY (p12.2.1))]
 refine qF rfl c24 ?_
 obtain⟨w27,w28⟩:=f26
 try simp only[↓zP,zQ,↓qC]
 refine⟨zX (zX (qH)),?_⟩
 cases r22 with
 | false =>
  have ra32:=fun (o:Bool)=>c.rdA (m:=23) rfl o
  have b33:=b5.ext e25
  have wr36:=fun (H:qE)(r:Nat)=>Rw.wrA (Rw.zero kClient) c (m:=23) rfl H r
  have b37:=b33.put {cs:=c.cs}
  try simp only[zQ,(((b1.ext e6).ext e25).1),ra32,(b33.1),wr36,(b37.1)]
  have E45:=((((Chg.refl w0 0).ext e2).ext e6).ext e25).put b33 b33.2.1 {cs:=c.cs}
  exact⟨c,_,_,_,rfl,E45.up (M:=N+0) (by omega),⟨by decide,by decide⟩⟩
 | true =>
  try simp only[zQ]
  refine zD [(2,0),(5,0)] ?_
  have b47:=(b1.ext e6).ext e25
  have b50:=b18.ext e25
  have p52:=PlN.extW p12 e25
  obtain⟨v53,l54,x55,Z56,c57,p58,o59,g60⟩:=wG p52 bl13 (2) (c.int 6) (p0)
  try simp -implicitDefEqProofs only[↓zP,zQ,Nat.reduceLT,qD,Int.reduceLT,Nat.reduceAdd,(b50.1),(b47.1),(c.rdI (j:=6) rfl)]
  refine qF rfl c57 ?_
  have S61:=S8.ext e25
  have G65:=g60.1
  have bl66:=G65.2.1 bl13
  have rt67:=G65.2.2 rt14
  obtain⟨cs64,C62,p63⟩:=S61.w.arC rfl p52 p58 o59 ⟨bl66,rt67⟩
  try simp only[↓zP,zQ,↓qC]
  refine⟨zX (zX (qH)),?_⟩
  refine zD [(3,0),(7,0),(7,5),(9,0),(9,5),(11,0),(11,5)] ?_
  have b70:=b47.only C62.o
  obtain⟨v73,l74,x75,Z76,c77,p78,o79,g80⟩:=xK p63 bl66 (c.int 4)
  try simp only[↓zP,zQ,(b70.1),(c.rdI (j:=4) rfl)]
  refine qF rfl c77 ?_
  have S81:=S61.chg C62
  have G85:=g80.1
  have bl86:=G85.2.1 bl66
  have rt87:=G85.2.2 rt67
  obtain⟨cs84,C82,p83⟩:=S81.w.arC rfl p63 p78 o79 ⟨bl86,rt87⟩
  have b90:=b70.only C82.o
  obtain⟨r95,l96,x97,Z98,c99,p100,o101,g102,f103⟩:=handoG p83 bl86 (v73) (r21) (c.int 2) (c.int 0) (c.int 1) (v53)
  try simp only[↓zP,zQ,(b90.1),(c.rdI (j:=1) rfl),(c.rdI (j:=0) rfl),(c.rdI (j:=2) rfl)]
  refine qF rfl c99 ?_
  have g104:=And.intro g102 trivial
  have S105:=S81.chg C82
  have G109:=g104.1
  have bl110:=G109.2.1 bl86
  have rt111:=G109.2.2 rt87
  obtain⟨cs108,C106,p107⟩:=S105.w.arC rfl p83 p100 o101 ⟨bl110,rt111⟩
  have w113:W64 r95:=by have h:=f103;unfold W64;omega
  try simp only[↓zP,zQ,↓qC]
  have b114:=b90.only C106.o
  refine⟨zX (qI (qS _ _ (H.length) 2 rfl rfl ((b70).1.trans (b90).1.symm)) (zX (qI (qS _ _ (H.length) 0 rfl rfl ((b70).1.trans (b90).1.symm)) (zX (qI (qS _ _ (H.length) 1 rfl rfl ((b70).1.trans (b90).1.symm)) (zX (qH))))))),?_⟩
  refine zD [(6,0),(8,0),(12,0)] ?_
  by_cases h115:r95<(0:Int)
  ·try simp -implicitDefEqProofs only[↓zP,zQ,h115,↓qC,Int.reduceLE,Int.reduceLT,Int.reduceToNat,Nat.reduceAdd]
   refine⟨zX (zX (zX (qH))),?_⟩
   have ra117:=fun (o:Bool)=>c.rdA (m:=23) rfl o
   have b119:=(b5.ext e25).only C62.o
   have b120:=b119.only C82.o
   have b121:=b120.only C106.o
   have wr124:=fun (H:qE)(r:Nat)=>Rw.wrA (Rw.zero kClient) c (m:=23) rfl H r
   have b125:=b121.put {cs:=c.cs}
   try simp only[zQ,(b114.1),ra117,(b121.1),wr124,(b125.1)]
   have E136:=(((((((Chg.refl w0 0).ext e2).ext e6).ext e25).trans C62).trans C82).trans C106).put b121 b121.2.1 {cs:=c.cs}
   exact⟨c,_,_,_,rfl,E136.up (M:=N+0) (by omega),⟨by decide,by decide⟩⟩
  ·have c137:=b114.1
   have b140:=b50.only C62.o
   have b141:=b140.only C82.o
   have b142:=b141.only C106.o
   obtain⟨r144,l145,x146,Z147,c148,p149,o150,g151⟩:=okG p107 bl110 (2) (r95) (c.int 2) (c.int 1) (v53) (p1)
   try simp -implicitDefEqProofs only[↓zP,zQ,Nat.reduceLT,h115,Int.reduceLE,Int.reduceLT,Int.reduceToNat,Nat.reduceAdd,(b142.1),c137,(c.rdI (j:=1) rfl),(c.rdI (j:=2) rfl)]
   refine qF rfl c148 ?_
   have g153:=And.intro g151 trivial
   have S154:=S105.chg C106
   have G158:=g153.1
   have bl159:=G158.2.1 bl110
   have rt160:=G158.2.2 rt111
   obtain⟨cs157,C155,p156⟩:=S154.w.arC rfl p107 p149 o150 ⟨bl159,rt160⟩
   try simp -implicitDefEqProofs only[↓zP,zQ,qA,↓qC,Int.reduceLE,Int.reduceLT,Int.reduceToNat,Nat.reduceAdd]
   refine⟨zX (zX (zX (qH))),?_⟩
   cases r144 with
   | false =>
    have b162:=b114.only C155.o
    have ra164:=fun (o:Bool)=>c.rdA (m:=23) rfl o
    have b166:=(b5.ext e25).only C62.o
    have b167:=b166.only C82.o
    have b168:=b167.only C106.o
    have b169:=b168.only C155.o
    have wr172:=fun (H:qE)(r:Nat)=>Rw.wrA (Rw.zero kClient) c (m:=23) rfl H r
    have b173:=b169.put {cs:=c.cs}
    try simp only[zQ,(b162.1),ra164,(b169.1),wr172,(b173.1)]
    have E185:=((((((((Chg.refl w0 0).ext e2).ext e6).ext e25).trans C62).trans C82).trans C106).trans C155).put b169 b169.2.1 {cs:=c.cs}
    exact⟨c,_,_,_,rfl,E185.up (M:=N+0) (by omega),⟨by decide,by decide⟩⟩
   | true =>
    have b186:=b142.only C155.o
    obtain⟨v188,l189,x190,Z191,c192,p193,o194,g195⟩:=wG p156 bl159 (2) (v53) (p1)
    try simp -implicitDefEqProofs only[zQ,(b186.1),Nat.reduceAdd,Nat.reduceLT]
    refine qF rfl c192 ?_
    have S196:=S154.chg C155
    have G200:=g195.1
    have bl201:=G200.2.1 bl159
    have rt202:=G200.2.2 rt160
    obtain⟨cs199,C197,p198⟩:=S196.w.arC rfl p156 p193 o194 ⟨bl201,rt202⟩
    have b205:=b114.only C155.o
    have b206:=b205.only C197.o
    obtain⟨v210,l211,x212,Z213,c214,p215,o216,g217⟩:=partG p198 bl201 (1) (r95) (c.int 2) (c.int 0) (v188)
    try simp only[↓zP,zQ,↓qC,(b206.1),(c.rdI (j:=0) rfl),(c.rdI (j:=2) rfl)]
    refine qF rfl c214 ?_
    have S218:=S196.chg C197
    have G222:=g217.1
    have bl223:=G222.2.1 bl201
    have rt224:=G222.2.2 rt202
    obtain⟨cs221,C219,p220⟩:=S218.w.arC rfl p198 p215 o216 ⟨bl223,rt224⟩
    obtain⟨v227,l228,x229,Z230,c231,p232,o233,g234,i235⟩:=uD p220 bl223 (74) [v210] 1 rfl (by decide)
    try simp only[↓zP,zQ,↓qC]
    refine qF rfl c231 ?_
    have S236:=S218.chg C219
    have G240:=g234.1
    have bl241:=G240.2.1 bl223
    have rt242:=G240.2.2 rt224
    obtain⟨cs239,C237,p238⟩:=S236.w.arC rfl p220 p232 o233 ⟨bl241,rt242⟩
    have w244:W64 v227:=by have h:=g234.2;unfold W64;omega
    obtain⟨v245,l246,x247,Z248,c249,p250,o251,g252⟩:=wG p238 bl241 (2) (v188) (v210)
    try simp only[↓zP,zQ,↓qC]
    refine qF rfl c249 ?_
    have S253:=S236.chg C237
    have G257:=g252.1
    obtain⟨cs256,C254,p255⟩:=S253.w.arC rfl p238 p250 o251 ⟨(G257.2.1 bl241),(G257.2.2 rt242)⟩
    have w261:W64 v245:=by have h:=g252.2;unfold W64;omega
    by_cases h262:v227<(0:Int)
    ·have b263:=b206.only C219.o
     have b264:=b263.only C237.o
     have b265:=b264.only C254.o
     have ra267:=fun (o:Bool)=>c.rdA (m:=23) rfl o
     have b269:=(b5.ext e25).only C62.o
     have b270:=b269.only C82.o
     have b271:=b270.only C106.o
     have b272:=b271.only C155.o
     have b273:=b272.only C197.o
     have b274:=b273.only C219.o
     have b275:=b274.only C237.o
     have b276:=b275.only C254.o
     have wr279:=fun (H:qE)(r:Nat)=>Rw.wrA (Rw.zero kClient) c (m:=23) rfl H r
     have b280:=b276.put {cs:=c.cs}
     try simp only[↓zP,zQ,↓qC,h262,(b265.1),ra267,(b276.1),wr279,(b280.1)]
     have E296:=((((((((((((Chg.refl w0 0).ext e2).ext e6).ext e25).trans C62).trans C82).trans C106).trans C155).trans C197).trans C219).trans C237).trans C254).put b276 b276.2.1 {cs:=c.cs}
     exact⟨c,_,_,_,rfl,E296.up (M:=N+0) (by omega),⟨by decide,by decide⟩⟩
    ·by_cases h297:v245<(0:Int)
     ·have b298:=b206.only C219.o
      have b299:=b298.only C237.o
      have b300:=b299.only C254.o
      have ra302:=fun (o:Bool)=>c.rdA (m:=23) rfl o
      have b304:=(b5.ext e25).only C62.o
      have b305:=b304.only C82.o
      have b306:=b305.only C106.o
      have b307:=b306.only C155.o
      have b308:=b307.only C197.o
      have b309:=b308.only C219.o
      have b310:=b309.only C237.o
      have b311:=b310.only C254.o
      have wr314:=fun (H:qE)(r:Nat)=>Rw.wrA (Rw.zero kClient) c (m:=23) rfl H r
      have b315:=b311.put {cs:=c.cs}
      try simp only[↓zP,zQ,↓qC,h262,h297,qA,(b300.1),ra302,(b311.1),wr314,(b315.1)]
      have E331:=((((((((((((Chg.refl w0 0).ext e2).ext e6).ext e25).trans C62).trans C82).trans C106).trans C155).trans C197).trans C219).trans C237).trans C254).put b311 b311.2.1 {cs:=c.cs}
      exact⟨c,_,_,_,rfl,E331.up (M:=N+0) (by omega),⟨by decide,by decide⟩⟩
     ·have b332:=b206.only C219.o
      have b333:=b332.only C237.o
      have b334:=b333.only C254.o
      have ra336:=fun (o:Bool)=>c.rdA (m:=23) rfl o
      obtain⟨r337,Z338,c339,e340⟩:=saidE (H:=Z248) (v227) (now) w244 wnow c
      try simp only[↓zP,zQ,↓qC,h262,h297,qA,(b334.1),ra336]
      refine qF rfl c339 ?_
      obtain⟨b344,e345,nn346⟩:=((S253.chg C254).ext e340).alloc (i:=Z338.length) (by simp) {cs:=(Rw.zero kClient).cs}
      have wr349:=fun (H:qE)(r:Nat)=>Rw.wrA (Rw.zero kClient) r337 (m:=23) rfl H r
      have b350:=b344.put {cs:=r337.cs}
      obtain⟨q352,wr353,hj356,hi354,hb355⟩:=r337.wrI (j:=3) rfl (show W64 (2) from ⟨by decide,by decide⟩)
      have b357:=b344.put {cs:=q352.cs}
      obtain⟨q359,wr360,hj363,hi361,hb362⟩:=q352.wrI (j:=8) rfl (show W64 (r95) from w113)
      have b364:=b344.put {cs:=q359.cs}
      obtain⟨q366,wr367,hj370,hi368,hb369⟩:=q359.wrI (j:=7) rfl (show W64 (v245) from w261)
      have b371:=b344.put {cs:=q366.cs}
      have ra373:=fun (o:Bool)=>q366.rdA (m:=23) rfl o
      have b375:=(b5.ext e25).only C62.o
      have b376:=b375.only C82.o
      have b377:=b376.only C106.o
      have b378:=b377.only C155.o
      have b379:=b378.only C197.o
      have b380:=b379.only C219.o
      have b381:=b380.only C237.o
      have b382:=b381.only C254.o
      have b383:=b382.ext e340
      have b385:=(b383.ext e345).oth (Ne.symm (nn346 _ _ b383.1)) {cs:=q366.cs}
      have wr388:=fun (H:qE)(r:Nat)=>Rw.wrA (Rw.zero kClient) q366 (m:=23) rfl H r
      have b389:=b385.put {cs:=q366.cs}
      try simp only[↓zP,zQ,vB,↓qC,Rw.ones,(b344.1),wr349,(b350.1),wr353,(b357.1),wr360,(b364.1),wr367,(b371.1),ra373,(b385.1),wr388,(b389.1)]
      have E407:=((((((((((((((Chg.refl w0 0).ext e2).ext e6).ext e25).trans C62).trans C82).trans C106).trans C155).trans C197).trans C219).trans C237).trans C254).ext e340).ext e345).put b344 b344.2.1 {cs:=q366.cs}
      have E408:=E407.put b385 b385.2.1 {cs:=q366.cs}
      exact⟨q366,_,_,_,rfl,E408.up (M:=N+0) (by omega),w244⟩
theorem heardCW {H:qE}{r N:Nat}{cs:List AV}(w0:Wd H r (KW 2 2 1 N) cs)(hN:N+0≤900000){x0:AV}{l0:List (Rw qK)}(hP:PlN H r 0 cs x0 l0)(hl0:l0.length≤3000)(rt0:rt l0)(k now:Int)(wk:W64 k)(wnow:W64 now)(c:Rw kClient):∃ (q:Rw kClient)(tt:Int)(bo:Int)(co:Int)(cs':List AV)(Z:qE),Sound Tryz.prog 142 [.ptr r 0,.agg c.cs,k,now] H (.tup [.agg q.cs,.sc (.int .i64 tt),.sc (.int .i64 bo),.sc (.int .i64 co)]) Z∧Chg H Z r (KW 2 2 1 N) (KW 2 2 1 (N+0)) cs cs' 0∧W64 tt∧W64 bo∧W64 co∧(0≤bo→co=0→∃ a b,LetterAt l0 k 76 [a,b]):=by
 suffices h:∃ w Z,Sound Tryz.prog 142 [.ptr r 0,.agg c.cs,k,now] H w Z∧∃ (q:Rw kClient)(tt:Int)(bo:Int)(co:Int)(cs':List AV),w=.tup [.agg q.cs,.sc (.int .i64 tt),.sc (.int .i64 bo),.sc (.int .i64 co)]∧Chg H Z r (KW 2 2 1 N) (KW 2 2 1 (N+0)) cs cs' 0∧W64 tt∧W64 bo∧W64 co∧(0≤bo→co=0→∃ a b,LetterAt l0 k 76 [a,b]) by
  obtain⟨w,Z,h1,q,tt,bo,co,cs',rfl,h2⟩:=h
  exact⟨q,tt,bo,co,cs',Z,h1,h2⟩
 refine zR 157 [.cell 8 48,.tmp 9,.tmp 10,.tmp 11] Tryz.func142 ?_
 have S0:=WS.start w0
 obtain⟨b1,e2,nn3⟩:=S0.alloc (i:=H.length) (by simp) {cs:=c.cs}
 have S4:=S0.ext e2
 obtain⟨b5,e6,nn7⟩:=S4.alloc (i:=H.length+1) (by simp) {cs:=(Rw.zero kClient).cs}
 have S8:=S4.ext e6
 have sr9:=S8.w.at_
 have p11:=PlN.extW (PlN.extW hP e2) e6
 obtain⟨c13,L14,y15,Z16,c17,e18,sl19,li20⟩:=vG (OwnN.rd p11.2.2.1) (by omega) (k)
 try simp only[↓zP,zQ,↓qC,vB,qJ,Rw.ones,sr9,(yY (hP.2.1))]
 refine qF rfl c17 ?_
 obtain⟨t23,c24,ht25⟩:=zH (now) (0) (99999)
 try simp only[↓zP,zQ,↓qC]
 refine qN rfl c24 ?_
 cases t23 with
 | false =>
  have k26:¬ (0≤now∧now≤99999):=fun h=>by have:=ht25.2 h;cases this
  have ra30:=fun (o:Bool)=>c.rdA (m:=23) rfl o
  have b31:=b5.ext e18
  have wr34:=fun (H:qE)(r:Nat)=>Rw.wrA (Rw.zero kClient) c (m:=23) rfl H r
  have b35:=b31.put {cs:=c.cs}
  try simp only[↓zP,zQ,↓qC,(((b1.ext e6).ext e18).1),ra30,(b31.1),wN,wr34,(b35.1)]
  have E43:=((((Chg.refl w0 0).ext e2).ext e6).ext e18).put b31 b31.2.1 {cs:=c.cs}
  exact⟨c,_,_,_,_,rfl,E43.up (M:=N+0) (by omega),⟨by decide,by decide⟩,⟨by decide,by decide⟩,⟨by decide,by decide⟩,fun h _=>by omega⟩
 | true =>
  by_cases h45:c13=(72:Int)
  ·subst h45
   obtain⟨a52,q46,a50,o47,rfl,rfl,h49,hq48,w53,w51⟩:=letter1 sl19 li20 (by decide)
   have b56:=(b1.ext e6).ext e18
   have c57:=b56.1
   have rf58:=c.rdI (j:=3) rfl
   by_cases h59:(c.int 3)=(1:Int)
   ·have h60:=eq_true h59
    obtain⟨t62,ht63⟩:∃ b,c.boo 5=b:=⟨_,rfl⟩
    have rf61:∀ (o:Bool)(k:Nat),jG true false k (some ⟨c.cs,o,true⟩) 5=some (.sc (.bool t62)):=fun o k=>by rw[c.rdB rfl,ht63]
    cases t62 with
    | false =>
     try simp only[↓zP,zQ,↓qC,c57,wN,rf58,h60,Int.reduceEq,qA,rf61]
     refine zD [(2,0),(5,0)] ?_
     have rf64:=c.rdI (j:=6) rfl
     have p66:=PlN.extW p11 e18
     obtain⟨v67,l68,x69,Z70,c71,p72,o73,g74,i75⟩:=uD p66 hl0 (71) [c.int 6,a52] 2 rfl (by decide)
     try simp -implicitDefEqProofs only[↓zP,zQ,Nat.reduceLT,qD,Int.reduceLT,Nat.reduceAdd,((S8.made e18 hq48 h49).1),c57,rf64]
     refine qF rfl c71 ?_
     have S76:=S8.ext e18
     have G80:=g74.1
     obtain⟨cs79,C77,p78⟩:=S76.w.arC rfl p66 p72 o73 ⟨(G80.2.1 hl0),(G80.2.2 rt0)⟩
     have w85:W64 v67:=by have h:=g74.2;unfold W64;omega
     try simp only[↓zP,zQ,↓qC,wN]
     refine⟨zX (zX (qH)),?_⟩
     by_cases h86:v67<(0:Int)
     ·have b87:=b56.only C77.o
      have ra89:=fun (o:Bool)=>c.rdA (m:=23) rfl o
      have b91:=(b5.ext e18).only C77.o
      have wr94:=fun (H:qE)(r:Nat)=>Rw.wrA (Rw.zero kClient) c (m:=23) rfl H r
      have b95:=b91.put {cs:=c.cs}
      try simp only[zQ,h86,(b87.1),ra89,(b91.1),wr94,(b95.1)]
      have E104:=(((((Chg.refl w0 0).ext e2).ext e6).ext e18).trans C77).put b91 b91.2.1 {cs:=c.cs}
      exact⟨c,_,_,_,_,rfl,E104.up (M:=N+0) (by omega),⟨by decide,by decide⟩,⟨by decide,by decide⟩,⟨by decide,by decide⟩,fun h _=>by omega⟩
     ·have b105:=b56.only C77.o
      have ra107:=fun (o:Bool)=>c.rdA (m:=23) rfl o
      obtain⟨r108,Z109,c110,e111⟩:=saidE (H:=Z70) (v67) (now) w85 wnow c
      try simp only[zQ,h86,(b105.1),ra107]
      refine qF rfl c110 ?_
      obtain⟨b115,e116,nn117⟩:=((S76.chg C77).ext e111).alloc (i:=Z109.length) (by simp) {cs:=(Rw.zero kClient).cs}
      have wr120:=fun (H:qE)(r:Nat)=>Rw.wrA (Rw.zero kClient) r108 (m:=23) rfl H r
      have b121:=b115.put {cs:=r108.cs}
      obtain⟨q123,wr124,hj127,hi125,hb126⟩:=r108.wrB (j:=5) (b:=true) rfl
      have b128:=b115.put {cs:=q123.cs}
      have ra130:=fun (o:Bool)=>q123.rdA (m:=23) rfl o
      have b132:=(b5.ext e18).only C77.o
      have b133:=b132.ext e111
      have b135:=(b133.ext e116).oth (Ne.symm (nn117 _ _ b133.1)) {cs:=q123.cs}
      have wr138:=fun (H:qE)(r:Nat)=>Rw.wrA (Rw.zero kClient) q123 (m:=23) rfl H r
      have b139:=b135.put {cs:=q123.cs}
      try simp only[↓zP,zQ,vB,↓qC,wN,Rw.ones,(b115.1),wr120,(b121.1),wr124,(b128.1),ra130,(b135.1),wr138,(b139.1)]
      have E150:=(((((((Chg.refl w0 0).ext e2).ext e6).ext e18).trans C77).ext e111).ext e116).put b115 b115.2.1 {cs:=q123.cs}
      have E151:=E150.put b135 b135.2.1 {cs:=q123.cs}
      exact⟨q123,_,_,_,_,rfl,E151.up (M:=N+0) (by omega),w85,⟨by decide,by decide⟩,⟨by decide,by decide⟩,fun h _=>by omega⟩
    | true =>
     have ra152:=fun (o:Bool)=>c.rdA (m:=23) rfl o
     have b153:=b5.ext e18
     have wr156:=fun (H:qE)(r:Nat)=>Rw.wrA (Rw.zero kClient) c (m:=23) rfl H r
     have b157:=b153.put {cs:=c.cs}
     try simp only[↓zP,zQ,↓qC,c57,ra152,(b153.1),wN,wr156,(b157.1),rf58,h60,Int.reduceEq,qA,rf61]
     have E165:=((((Chg.refl w0 0).ext e2).ext e6).ext e18).put b153 b153.2.1 {cs:=c.cs}
     exact⟨c,_,_,_,_,rfl,E165.up (M:=N+0) (by omega),⟨by decide,by decide⟩,⟨by decide,by decide⟩,⟨by decide,by decide⟩,fun h _=>by omega⟩
   ·have ra166:=fun (o:Bool)=>c.rdA (m:=23) rfl o
    have b167:=b5.ext e18
    have wr170:=fun (H:qE)(r:Nat)=>Rw.wrA (Rw.zero kClient) c (m:=23) rfl H r
    have b171:=b167.put {cs:=c.cs}
    try simp only[↓zP,zQ,↓qC,c57,ra166,(b167.1),wN,wr170,(b171.1),rf58,h59,qA,Int.reduceEq]
    have E179:=((((Chg.refl w0 0).ext e2).ext e6).ext e18).put b167 b167.2.1 {cs:=c.cs}
    exact⟨c,_,_,_,_,rfl,E179.up (M:=N+0) (by omega),⟨by decide,by decide⟩,⟨by decide,by decide⟩,⟨by decide,by decide⟩,fun h _=>by omega⟩
  ·by_cases h180:c13=(73:Int)
   ·subst h180
    obtain⟨a187,a188,q181,a185,o182,rfl,rfl,h184,hq183,w189,w190,w186⟩:=uQ sl19 li20 (by decide)
    have b193:=(b1.ext e6).ext e18
    have c194:=b193.1
    have rf195:=c.rdI (j:=3) rfl
    by_cases h196:(c.int 3)=(1:Int)
    ·have h197:=eq_true h196
     have ra198:=fun (o:Bool)=>c.rdA (m:=23) rfl o
     have S199:=S8.ext e18
     obtain⟨r200,r201,r202,cs203,Z204,c205,C209,f208⟩:=serverCW S199.w (by omega) (a187) (a188) (now) w189 w190 wnow c a185 (LclW.low (S8.made e18 hq183 h184))
     try simp only[↓zP,zQ,↓qC,c194,ra198,wN,h45,qA,Int.reduceEq,rf195,h197]
     refine qF rfl c205 ?_
     obtain⟨b212,e213,nn214⟩:=(S199.chg C209).alloc (i:=Z204.length) (by simp) {cs:=(Rw.zero kClient).cs}
     have c215:=b212.1
     have wr217:=fun (H:qE)(r:Nat)=>Rw.wrA (Rw.zero kClient) r200 (m:=23) rfl H r
     cases r202 with
     | false =>
      have b218:=b193.only C209.o
      have b220:=(b218.ext e213).oth (Ne.symm (nn214 _ _ b218.1)) {cs:=r200.cs}
      have ra222:=fun (o:Bool)=>c.rdA (m:=23) rfl o
      have b224:=(b5.ext e18).only C209.o
      have b226:=(b224.ext e213).oth (Ne.symm (nn214 _ _ b224.1)) {cs:=r200.cs}
      have wr229:=fun (H:qE)(r:Nat)=>Rw.wrA (Rw.zero kClient) c (m:=23) rfl H r
      have b230:=b226.put {cs:=c.cs}
      try simp only[↓zP,zQ,vB,↓qC,wN,Rw.ones,c215,wr217,(b220.1),ra222,(b226.1),wr229,(b230.1)]
      have E240:=((((((Chg.refl w0 0).ext e2).ext e6).ext e18).trans C209).ext e213).put b212 b212.2.1 {cs:=r200.cs}
      have E241:=E240.put b226 b226.2.1 {cs:=c.cs}
      exact⟨c,_,_,_,_,rfl,E241.up (M:=N+0) (by omega),⟨by decide,by decide⟩,⟨by decide,by decide⟩,⟨by decide,by decide⟩,fun h _=>by omega⟩
     | true =>
      have b242:=b212.put {cs:=r200.cs}
      have ra244:=fun (o:Bool)=>r200.rdA (m:=23) rfl o
      have b246:=(b5.ext e18).only C209.o
      have b248:=(b246.ext e213).oth (Ne.symm (nn214 _ _ b246.1)) {cs:=r200.cs}
      have b252:=b248.put {cs:=r200.cs}
      try simp only[↓zP,zQ,vB,↓qC,wN,Rw.ones,c215,wr217,(b242.1),ra244,(b248.1),(b252.1)]
      have E262:=((((((Chg.refl w0 0).ext e2).ext e6).ext e18).trans C209).ext e213).put b212 b212.2.1 {cs:=r200.cs}
      have E263:=E262.put b248 b248.2.1 {cs:=r200.cs}
      exact⟨r200,_,_,_,_,rfl,E263.up (M:=N+0) (by omega),f208,⟨by decide,by decide⟩,⟨by decide,by decide⟩,fun h _=>by omega⟩
    ·have ra264:=fun (o:Bool)=>c.rdA (m:=23) rfl o
     have b265:=b5.ext e18
     have wr268:=fun (H:qE)(r:Nat)=>Rw.wrA (Rw.zero kClient) c (m:=23) rfl H r
     have b269:=b265.put {cs:=c.cs}
     try simp only[↓zP,zQ,↓qC,c194,ra264,(b265.1),wN,wr268,(b269.1),h45,qA,Int.reduceEq,rf195,h196]
     have E277:=((((Chg.refl w0 0).ext e2).ext e6).ext e18).put b265 b265.2.1 {cs:=c.cs}
     exact⟨c,_,_,_,_,rfl,E277.up (M:=N+0) (by omega),⟨by decide,by decide⟩,⟨by decide,by decide⟩,⟨by decide,by decide⟩,fun h _=>by omega⟩
   ·by_cases h278:c13=(75:Int)
    ·subst h278
     obtain⟨a285,q279,a283,o280,rfl,rfl,h282,hq281,w286,w284⟩:=letter1 sl19 li20 (by decide)
     have b289:=(b1.ext e6).ext e18
     have c290:=b289.1
     have rf291:=c.rdI (j:=3) rfl
     by_cases h292:(c.int 3)=(2:Int)
     ·have h293:=eq_true h292
      try simp only[↓zP,zQ,↓qC,c290,wN,h45,qA,h180,Int.reduceEq,rf291,h293]
      refine zD [(2,0),(4,0),(7,0)] ?_
      have rf294:=c.rdI (j:=8) rfl
      have rf295:=c.rdI (j:=7) rfl
      have p297:=PlN.extW p11 e18
      obtain⟨r298,r299,l300,x301,Z302,c303,p304,o305,g306,f307⟩:=ackInG p297 hl0 (c.int 8) (c.int 7) (a285)
      try simp -implicitDefEqProofs only[↓zP,zQ,Nat.reduceLT,qD,Int.reduceLT,Nat.reduceAdd,((S8.made e18 hq281 h282).1),c290,rf295,rf294]
      refine qF rfl c303 ?_
      have g308:=And.intro g306 trivial
      have S309:=S8.ext e18
      have G313:=g308.1
      have bl314:=G313.2.1 hl0
      have rt315:=G313.2.2 rt0
      obtain⟨cs312,C310,p311⟩:=S309.w.arC rfl p297 p304 o305 ⟨bl314,rt315⟩
      try simp only[↓zP,zQ,↓qC]
      refine⟨zX (zX (zX (qH))),?_⟩
      have b318:=b289.only C310.o
      have rf320:=c.rdI (j:=8) rfl
      have rf321:=c.rdI (j:=7) rfl
      obtain⟨v322,l323,x324,Z325,c326,p327,o328,g329⟩:=appG p311 bl314 (c.int 8) (c.int 7)
      try simp only[zQ,(b318.1),rf320,rf321]
      refine qF rfl c326 ?_
      have S330:=S309.chg C310
      have G334:=g329.1
      obtain⟨cs333,C331,p332⟩:=S330.w.arC rfl p311 p327 o328 ⟨(G334.2.1 bl314),(G334.2.2 rt315)⟩
      have w339:W64 v322:=by have h:=g329.2;unfold W64;omega
      cases r299 with
      | false =>
       have b340:=b318.only C331.o
       have ra342:=fun (o:Bool)=>c.rdA (m:=23) rfl o
       have b344:=(b5.ext e18).only C310.o
       have b345:=b344.only C331.o
       have wr348:=fun (H:qE)(r:Nat)=>Rw.wrA (Rw.zero kClient) c (m:=23) rfl H r
       have b349:=b345.put {cs:=c.cs}
       try simp only[↓zP,zQ,↓qC,qA,(b340.1),ra342,(b345.1),wN,wr348,(b349.1)]
       have E359:=((((((Chg.refl w0 0).ext e2).ext e6).ext e18).trans C310).trans C331).put b345 b345.2.1 {cs:=c.cs}
       exact⟨c,_,_,_,_,rfl,E359.up (M:=N+0) (by omega),⟨by decide,by decide⟩,⟨by decide,by decide⟩,⟨by decide,by decide⟩,fun h _=>by omega⟩
      | true =>
       by_cases h360:(0:Int)≤v322
       ·have b361:=b318.only C331.o
        have ra363:=fun (o:Bool)=>c.rdA (m:=23) rfl o
        obtain⟨b365,e366,nn367⟩:=(S330.chg C331).alloc (i:=Z325.length) (by simp) {cs:=(Rw.zero kClient).cs}
        have wr370:=fun (H:qE)(r:Nat)=>Rw.wrA (Rw.zero kClient) c (m:=23) rfl H r
        have b371:=b365.put {cs:=c.cs}
        obtain⟨q373,wr374,hj377,hi375,hb376⟩:=c.wrI (j:=3) rfl (show W64 (3) from ⟨by decide,by decide⟩)
        have b378:=b365.put {cs:=q373.cs}
        obtain⟨q380,wr381,hj384,hi382,hb383⟩:=q373.wrI (j:=10) rfl (show W64 (r298) from f307)
        obtain⟨Z385,c386,e387⟩:=chanNewE (H:=((Z325++[{cs:=(Rw.zero kClient).cs}]:qE).set (Z325.length) {cs:=q380.cs})) (v322) (1)
        try simp only[↓zP,zQ,↓qC,h360,(b361.1),ra363,vB,Rw.ones,(b365.1),wr370,(b371.1),wr374,(b378.1),wr381,wN]
        refine qF rfl c386 ?_
        have b388:=b365.put {cs:=q380.cs}
        have b389:=b388.ext e387
        obtain⟨q393,wr394,hj397,hi395,hb396⟩:=q380.wrC (j:=11) rfl (by decide) (show W64 (v322) from w339) (show W64 (1) from ⟨by decide,by decide⟩) (show W64 (0) from ⟨by decide,by decide⟩) (show W64 (0) from ⟨by decide,by decide⟩) (show W64 (0) from ⟨by decide,by decide⟩) (show W64 (-1) from ⟨by decide,by decide⟩) (show W64 (0) from ⟨by decide,by decide⟩) (show W64 (-1) from ⟨by decide,by decide⟩) (show W64 (0) from ⟨by decide,by decide⟩)
        have b398:=b389.put {cs:=q393.cs}
        have ra400:=fun (o:Bool)=>q393.rdA (m:=23) rfl o
        have b402:=(b5.ext e18).only C310.o
        have b403:=b402.only C331.o
        have b405:=(b403.ext e366).oth (Ne.symm (nn367 _ _ b403.1)) {cs:=q380.cs}
        have b407:=(b405.ext e387).oth (Ne.symm (nn367 _ _ b403.1)) {cs:=q393.cs}
        have wr410:=fun (H:qE)(r:Nat)=>Rw.wrA (Rw.zero kClient) q393 (m:=23) rfl H r
        have b411:=b407.put {cs:=q393.cs}
        try simp only[↓zP,zQ,↓qC,wN,(b389.1),wr394,(b398.1),ra400,(b407.1),wr410,(b411.1)]
        have E422:=(((((((Chg.refl w0 0).ext e2).ext e6).ext e18).trans C310).trans C331).ext e366).put b365 b365.2.1 {cs:=q380.cs}
        have E424:=(E422.ext e387).put b389 b389.2.1 {cs:=q393.cs}
        have E425:=E424.put b407 b407.2.1 {cs:=q393.cs}
        exact⟨q393,_,_,_,_,rfl,E425.up (M:=N+0) (by omega),⟨by decide,by decide⟩,⟨by decide,by decide⟩,⟨by decide,by decide⟩,fun h _=>by omega⟩
       ·have b426:=b318.only C331.o
        have ra428:=fun (o:Bool)=>c.rdA (m:=23) rfl o
        have b430:=(b5.ext e18).only C310.o
        have b431:=b430.only C331.o
        have wr434:=fun (H:qE)(r:Nat)=>Rw.wrA (Rw.zero kClient) c (m:=23) rfl H r
        have b435:=b431.put {cs:=c.cs}
        try simp only[↓zP,zQ,↓qC,h360,(b426.1),ra428,(b431.1),wN,wr434,(b435.1)]
        have E445:=((((((Chg.refl w0 0).ext e2).ext e6).ext e18).trans C310).trans C331).put b431 b431.2.1 {cs:=c.cs}
        exact⟨c,_,_,_,_,rfl,E445.up (M:=N+0) (by omega),⟨by decide,by decide⟩,⟨by decide,by decide⟩,⟨by decide,by decide⟩,fun h _=>by omega⟩
     ·have ra446:=fun (o:Bool)=>c.rdA (m:=23) rfl o
      have b447:=b5.ext e18
      have wr450:=fun (H:qE)(r:Nat)=>Rw.wrA (Rw.zero kClient) c (m:=23) rfl H r
      have b451:=b447.put {cs:=c.cs}
      try simp only[↓zP,zQ,↓qC,c290,ra446,(b447.1),wN,wr450,(b451.1),h45,qA,h180,Int.reduceEq,rf291,h292]
      have E459:=((((Chg.refl w0 0).ext e2).ext e6).ext e18).put b447 b447.2.1 {cs:=c.cs}
      exact⟨c,_,_,_,_,rfl,E459.up (M:=N+0) (by omega),⟨by decide,by decide⟩,⟨by decide,by decide⟩,⟨by decide,by decide⟩,fun h _=>by omega⟩
    ·by_cases h460:c13=(76:Int)
     ·subst h460
      obtain⟨a467,a468,q461,a465,o462,rfl,rfl,h464,hq463,w469,w470,w466⟩:=uQ sl19 li20 (by decide)
      obtain⟨la472,v473,hn474⟩:=letter76 li20
      have b476:=(b1.ext e6).ext e18
      have c477:=b476.1
      have rf478:=c.rdI (j:=3) rfl
      by_cases h479:(c.int 3)=(3:Int)
      ·have h480:=eq_true h479
       try simp only[↓zP,zQ,↓qC,c477,wN,h45,qA,h180,h278,rf478,h480]
       refine zD [(2,0),(5,0)] ?_
       have rc481:=fun (o:Bool)=>c.chan (j:=11) rfl o
       have p483:=PlN.extW p11 e18
       obtain⟨r484,r485,r486,r487,r488,r489,r490,r491,r492,r493,r494,l495,x496,Z497,c498,p499,o500,g501,f502⟩:=hearG p483 hl0 (c.int 11) (c.int 12) (c.int 13) (c.int 14) (c.int 15) (c.int 16) (c.int 17) (c.int 18) (c.int 19) (a468) (c.w64 11 rfl) (c.w64 12 rfl) (c.w64 13 rfl) (c.w64 14 rfl) (c.w64 15 rfl) (c.w64 16 rfl) (c.w64 17 rfl) (c.w64 18 rfl) (c.w64 19 rfl) w470
       try simp -implicitDefEqProofs only[↓zP,zQ,Nat.reduceLT,Int.reduceLE,Int.reduceLT,Int.reduceToNat,Nat.reduceAdd,((S8.made e18 hq463 h464).1),c477,rc481]
       refine qF rfl c498 ?_
       have g503:=And.intro g501 trivial
       have S504:=S8.ext e18
       have G508:=g503.1
       obtain⟨cs507,C505,p506⟩:=S504.w.arC rfl p483 p499 o500 ⟨(G508.2.1 hl0),(G508.2.2 rt0)⟩
       obtain⟨w513,w514,w515,w516,w517,w518,w519,w520,w521,w522,w523⟩:=f502
       have S524:=S504.chg C505
       obtain⟨b525,e526,nn527⟩:=S524.alloc (i:=Z497.length) (by simp) {cs:=[(0:Int),(0:Int),(0:Int),(0:Int),(0:Int),(0:Int),(0:Int),(0:Int),(0:Int)]}
       try simp -implicitDefEqProofs only[↓zP,zQ,↓qC,wN,(b525.1),Nat.reduceAdd,xZ,xY]
       refine⟨zX (zX (qH)),?_⟩
       by_cases h530:r494=(0:Int)
       ·subst h530
        have b531:=b476.only C505.o
        have b533:=(b531.ext e526).oth (Ne.symm (nn527 _ _ b531.1)) {cs:=[r484,r485,r486,r487,r488,r489,r490,r491,r492]}
        have ra535:=fun (o:Bool)=>c.rdA (m:=23) rfl o
        have S536:=(S524.ext e526).put b525 {cs:=[r484,r485,r486,r487,r488,r489,r490,r491,r492]}
        obtain⟨b537,e538,nn539⟩:=S536.alloc (i:=Z497.length+1) (by simp) {cs:=(Rw.zero kClient).cs}
        have wr542:=fun (H:qE)(r:Nat)=>Rw.wrA (Rw.zero kClient) c (m:=23) rfl H r
        have b543:=b525.put {cs:=[r484,r485,r486,r487,r488,r489,r490,r491,r492]}
        have b545:=(b543.ext e538).oth (Ne.symm (nn539 _ _ b543.1)) {cs:=c.cs}
        have b547:=b537.put {cs:=c.cs}
        obtain⟨q549,wr550,hj553,hi551,hb552⟩:=c.wrC (j:=11) rfl (by decide) (show W64 (r484) from w513) (show W64 (r485) from w514) (show W64 (r486) from w515) (show W64 (r487) from w516) (show W64 (r488) from w517) (show W64 (r489) from w518) (show W64 (r490) from w519) (show W64 (r491) from w520) (show W64 (r492) from w521)
        have b554:=b537.put {cs:=q549.cs}
        have ra556:=fun (o:Bool)=>q549.rdA (m:=23) rfl o
        have b558:=(b5.ext e18).only C505.o
        have b560:=(b558.ext e526).oth (Ne.symm (nn527 _ _ b558.1)) {cs:=[r484,r485,r486,r487,r488,r489,r490,r491,r492]}
        have b562:=(b560.ext e538).oth (Ne.symm (nn539 _ _ b560.1)) {cs:=q549.cs}
        have wr565:=fun (H:qE)(r:Nat)=>Rw.wrA (Rw.zero kClient) q549 (m:=23) rfl H r
        have b566:=b562.put {cs:=q549.cs}
        try simp -implicitDefEqProofs only[zQ,(b533.1),ra535,vB,Rw.ones,(b537.1),wr542,(b545.1),Nat.reduceAdd,(b547.1),wr550,(b554.1),ra556,(b562.1),wr565,(b566.1)]
        have E576:=((((((Chg.refl w0 0).ext e2).ext e6).ext e18).trans C505).ext e526).put b525 b525.2.1 {cs:=[r484,r485,r486,r487,r488,r489,r490,r491,r492]}
        have E578:=(E576.ext e538).put b537 b537.2.1 {cs:=q549.cs}
        have E579:=E578.put b562 b562.2.1 {cs:=q549.cs}
        exact⟨q549,_,_,_,_,rfl,E579.up (M:=N+0) (by omega),⟨by decide,by decide⟩,w522,⟨by decide,by decide⟩,fun _ _=>⟨_,_,la472⟩⟩
       ·have b580:=b476.only C505.o
        have b582:=(b580.ext e526).oth (Ne.symm (nn527 _ _ b580.1)) {cs:=[r484,r485,r486,r487,r488,r489,r490,r491,r492]}
        have ra584:=fun (o:Bool)=>c.rdA (m:=23) rfl o
        have b586:=(b5.ext e18).only C505.o
        have b588:=(b586.ext e526).oth (Ne.symm (nn527 _ _ b586.1)) {cs:=[r484,r485,r486,r487,r488,r489,r490,r491,r492]}
        have wr591:=fun (H:qE)(r:Nat)=>Rw.wrA (Rw.zero kClient) c (m:=23) rfl H r
        have b592:=b588.put {cs:=c.cs}
        try simp only[zQ,h530,(b582.1),ra584,(b588.1),wr591,(b592.1)]
        have E602:=((((((Chg.refl w0 0).ext e2).ext e6).ext e18).trans C505).ext e526).put b525 b525.2.1 {cs:=[r484,r485,r486,r487,r488,r489,r490,r491,r492]}
        have E603:=E602.put b588 b588.2.1 {cs:=c.cs}
        exact⟨c,_,_,_,_,rfl,E603.up (M:=N+0) (by omega),⟨by decide,by decide⟩,⟨by decide,by decide⟩,⟨by decide,by decide⟩,fun h _=>by omega⟩
      ·have ra604:=fun (o:Bool)=>c.rdA (m:=23) rfl o
       have b605:=b5.ext e18
       have wr608:=fun (H:qE)(r:Nat)=>Rw.wrA (Rw.zero kClient) c (m:=23) rfl H r
       have b609:=b605.put {cs:=c.cs}
       try simp only[↓zP,zQ,↓qC,c477,ra604,(b605.1),wN,wr608,(b609.1),h45,qA,h180,h278,rf478,h479]
       have E617:=((((Chg.refl w0 0).ext e2).ext e6).ext e18).put b605 b605.2.1 {cs:=c.cs}
       exact⟨c,_,_,_,_,rfl,E617.up (M:=N+0) (by omega),⟨by decide,by decide⟩,⟨by decide,by decide⟩,⟨by decide,by decide⟩,fun h _=>by omega⟩
     ·have b618:=b1.ext e6
      have ra621:=fun (o:Bool)=>c.rdA (m:=23) rfl o
      have b622:=b5.ext e18
      have wr625:=fun (H:qE)(r:Nat)=>Rw.wrA (Rw.zero kClient) c (m:=23) rfl H r
      have b626:=b622.put {cs:=c.cs}
      try simp only[↓zP,zQ,↓qC,((b618.ext e18).1),ra621,(b622.1),wN,wr625,(b626.1),h45,qA,h180,h278,h460]
      have E634:=((((Chg.refl w0 0).ext e2).ext e6).ext e18).put b622 b622.2.1 {cs:=c.cs}
      exact⟨c,_,_,_,_,rfl,E634.up (M:=N+0) (by omega),⟨by decide,by decide⟩,⟨by decide,by decide⟩,⟨by decide,by decide⟩,fun h _=>by omega⟩
theorem hearCW {H:qE}{r N:Nat}{cs:List AV}(w0:Wd H r (KW 2 2 1 N) cs)(hN:N+0≤900000){x0:AV}{l0:List (Rw qK)}(hP:PlN H r 0 cs x0 l0)(hl0:l0.length≤3000)(rt0:rt l0)(k now:Int)(wk:W64 k)(wnow:W64 now)(c:Rw kClient):∃ (q:Rw kClient)(tt:Int)(bo:Int)(co:Int)(cs':List AV)(Z:qE),Sound Tryz.prog 127 [.ptr r 0,.agg c.cs,k,now] H (.tup [.agg q.cs,.sc (.int .i64 tt),.sc (.int .i64 bo),.sc (.int .i64 co)]) Z∧Chg H Z r (KW 2 2 1 N) (KW 2 2 1 (N+0)) cs cs' 0∧W64 tt∧W64 bo∧W64 co∧(0≤bo→co=0→∃ a b,LetterAt l0 k 76 [a,b]):=by
 suffices h:∃ w Z,Sound Tryz.prog 127 [.ptr r 0,.agg c.cs,k,now] H w Z∧∃ (q:Rw kClient)(tt:Int)(bo:Int)(co:Int)(cs':List AV),w=.tup [.agg q.cs,.sc (.int .i64 tt),.sc (.int .i64 bo),.sc (.int .i64 co)]∧Chg H Z r (KW 2 2 1 N) (KW 2 2 1 (N+0)) cs cs' 0∧W64 tt∧W64 bo∧W64 co∧(0≤bo→co=0→∃ a b,LetterAt l0 k 76 [a,b]) by
  obtain⟨w,Z,h1,q,tt,bo,co,cs',rfl,h2⟩:=h
  exact⟨q,tt,bo,co,cs',Z,h1,h2⟩
 refine zR 41 [.cell 8 48,.tmp 9,.tmp 10,.tmp 11] Tryz.func127 ?_
 have S0:=WS.start w0
 obtain⟨b1,e2,nn3⟩:=S0.alloc (i:=H.length) (by simp) {cs:=c.cs}
 have S4:=S0.ext e2
 obtain⟨b5,e6,nn7⟩:=S4.alloc (i:=H.length+1) (by simp) {cs:=(Rw.zero kClient).cs}
 have S8:=S4.ext e6
 have sr9:=S8.w.at_
 have p11:=PlN.extW (PlN.extW hP e2) e6
 have ra17:=fun (o:Bool)=>c.rdA (m:=23) rfl o
 obtain⟨r18,r19,r20,r21,cs22,Z23,c24,C28,f27⟩:=heardCW S8.w (by omega) p11 hl0 rt0 (k) (now) wk wnow c
 try simp only[↓zP,zQ,↓qC,vB,qJ,Rw.ones,sr9,(qL (hP.2.1)),((b1.ext e6).1),ra17,(fun e=>OwnF.len e p11.2.2.1)]
 refine qF rfl c24 ?_
 obtain⟨w29,w30,w31,hh32⟩:=f27
 have S33:=S8.chg C28
 obtain⟨b34,e35,nn36⟩:=S33.alloc (i:=Z23.length) (by simp) {cs:=(Rw.zero kClient).cs}
 have c37:=b34.1
 have wr39:=fun (H:qE)(r:Nat)=>Rw.wrA (Rw.zero kClient) r18 (m:=23) rfl H r
 by_cases h40:r21=(0:Int)
 ·subst h40
  have ra43:=fun (o:Bool)=>r18.rdA (m:=23) rfl o
  have b44:=b5.only C28.o
  have b46:=(b44.ext e35).oth (Ne.symm (nn36 _ _ b44.1)) {cs:=r18.cs}
  try simp only[↓zP,zQ,vB,↓qC,wN,Rw.ones,c37,wr39,((b34.put {cs:=r18.cs}).1),ra43,(b46.1),((b46.put {cs:=r18.cs}).1)]
  exact⟨r18,_,_,_,_,rfl,(((((((Chg.refl w0 0).ext e2).ext e6).trans C28).ext e35).put b34 b34.2.1 {cs:=r18.cs}).put b46 b46.2.1 {cs:=r18.cs}).up (M:=N+0) (by omega),w29,w30,⟨by decide,by decide⟩,hh32⟩
 ·have S67:=(S33.ext e35).put b34 {cs:=r18.cs}
  obtain⟨x68,l69,p70,bl71,rt72⟩:=S67.ar rfl
  obtain⟨w61,x62,Z63,c64,p65,o66⟩:=jL p70 bl71 (l0.length)
  obtain⟨l74,hl75⟩:∃ l,l=List.take l0.length l69:=⟨_,rfl⟩
  rw[←hl75] at p65
  have bl76:l74.length≤3000:=by rw[hl75,List.length_take];omega
  try simp only[↓zP,zQ,vB,↓qC,wN,Rw.ones,c37,h40,wr39]
  refine qF rfl c64 ?_
  have rt82:=(show rt l74 by rw[hl75];exact rt_take rt72 _)
  obtain⟨cs79,C77,p78⟩:=S67.w.arC rfl p70 p65 o66 ⟨bl76,rt82⟩
  have b85:=(b34.put {cs:=r18.cs}).only C77.o
  have ra87:=fun (o:Bool)=>r18.rdA (m:=23) rfl o
  have b88:=b5.only C28.o
  have b91:=((b88.ext e35).oth (Ne.symm (nn36 _ _ b88.1)) {cs:=r18.cs}).only C77.o
  have wr94:=fun (H:qE)(r:Nat)=>Rw.wrA (Rw.zero kClient) r18 (m:=23) rfl H r
  try simp only[↓zP,zQ,↓qC,(b85.1),ra87,(b91.1),wN,wr94,((b91.put {cs:=r18.cs}).1)]
  exact⟨r18,_,_,_,_,rfl,((((((((Chg.refl w0 0).ext e2).ext e6).trans C28).ext e35).put b34 b34.2.1 {cs:=r18.cs}).trans C77).put b91 b91.2.1 {cs:=r18.cs}).up (M:=N+0) (by omega),w29,w30,w31,fun _ h=>absurd h h40⟩
theorem gateW {H:qE}{r N:Nat}{cs:List AV}(w0:Wd H r (KW 2 2 1 N) cs)(hN:N+130≤900000)(lf lt lm:Int)(wlf:W64 lf)(wlt:W64 lt)(wlm:W64 lm):∃ (vv:Int)(cs':List AV)(Z:qE),Sound Tryz.prog 105 [.ptr r 0,.agg [lf,lt,lm]] H (.sc (.int .i64 vv)) Z∧Wd Z r (KW 2 2 1 (N+130)) cs'∧OnlyW H Z r cs cs'∧W64 vv:=by
 suffices h:∃ w Z,Sound Tryz.prog 105 [.ptr r 0,.agg [lf,lt,lm]] H w Z∧∃ (vv:Int)(cs':List AV),w=.sc (.int .i64 vv)∧Wd Z r (KW 2 2 1 (N+130)) cs'∧OnlyW H Z r cs cs'∧W64 vv by
  obtain⟨w,Z,h1,vv,cs',rfl,h2⟩:=h
  exact⟨vv,cs',Z,h1,h2⟩
 refine zR 106 [.tmp 4] Tryz.func105 ?_
 have S0:=WS.start w0
 obtain⟨b1,e2,nn3⟩:=S0.alloc (i:=H.length) (by simp) {cs:=[lf,lt,lm]}
 try simp only[↓zP,zQ,↓qC]
 refine zD [(3,0),(5,0)] ?_
 have S4:=S0.ext e2
 have sr5:=S4.w.at_
 obtain⟨x6,l7,p8,bl9,rt10⟩:=S4.ar rfl
 obtain⟨c14,L15,y16,Z17,c18,e19,sl20,li21⟩:=vG (OwnN.rd p8.2.2.1) (by omega) (lm)
 try simp only[↓zP,zQ,qJ,(b1.1),sr5,(yY (p8.2.1))]
 refine qF rfl c18 ?_
 have w23:=li21.wc
 try simp only[↓zP,zQ,↓qC]
 refine⟨zX (zX (qH)),?_⟩
 refine zD [(7,0),(9,0),(14,0),(18,0)] ?_
 have S26:=S4.ext e19
 have sr27:=S26.w.at_
 obtain⟨v28,hx29,w30⟩:=S26.w.gI 12 rfl
 obtain⟨v32,hx33,w34⟩:=S26.w.gI 11 rfl
 obtain⟨x47,l48,hx49,hl50,pl51⟩:=S26.w.gO 5 rfl
 have o52:=hl50.one
 obtain⟨r37,r38,r39,r40,cs41,Z42,c43,W44,O45,f46⟩:=hearW S26.w (by omega) (PlN.extW p8 e19) bl9 rt10 hx49 hl50 pl51 (lf) (lm) (v28) (v32) wlf wlm w30 w34
 try simp only[↓zP,zQ,qJ,sr27,(qL hx33),(qL hx29),((b1.ext e19).1)]
 refine qF rfl c43 ?_
 obtain⟨b53,le54,w55,w56,hh57⟩:=f46
 have b58:=LclW.less b53 S26.o.le
 try simp only[↓zP,zQ,↓qC]
 refine⟨zX (zX (zX (zX (qH)))),?_⟩
 have S59:=S26.call W44 O45
 obtain⟨cs60,Z61,c62,C66⟩:=openedW S59.w (by omega)
 refine qF rfl c62 ?_
 by_cases h67:r40=(0:Int)
 ·subst h67
  by_cases h68:(0:Int)≤r39
  ·obtain⟨a69,a70,v71,x72,l73,x74,l75,j76,p77,la78,hn79,p80,G81,hx82,hl83,pl84,hj85,hp86⟩:=hh57 h68 rfl
   obtain⟨rfl,rfl⟩:=LetterIs.two li21 (.inl la78)
   obtain⟨_,_,q87,a91,o88,e95,e96,h90,hq89,w93,w94,w92⟩:=uQ sl20 li21 (by decide)
   cases e95
   subst e96
   have bl98:=G81.2.1 bl9
   have rt99:=G81.2.2 rt10
   have o101:=hl83.one
   try simp only[↓zP,zQ,↓qC,h68]
   refine zD [(3,0),(6,0)] ?_
   have S102:=S59.chg C66
   have sr103:=S102.w.at_
   have hx105:=C66.cc _ _ (by decide) (p80.2.1)
   have b108:=((S4.made e19 hq89 h90).only O45).only C66.o
   obtain⟨v110,t111,Z112,c113,e114,hn115⟩:=numE (OwnN.rd (PlN.chg p80 C66 (by decide)).2.2.1) (by omega) (a69)
   try simp -implicitDefEqProofs only[↓zP,zQ,Nat.reduceLT,qJ,qD,Int.reduceLT,Nat.reduceAdd,(b108.1),sr103,(yY hx105)]
   refine qF rfl c113 ?_
   have w116:=hn115.w64
   try simp only[↓zP,zQ,↓qC,qJ]
   refine⟨zX (zX (qH)),?_⟩
   have S118:=S102.ext e114
   have sr119:=S118.w.at_
   obtain⟨v120,hx121,w122⟩:=S118.w.gI 3 rfl
   obtain⟨v123,hx124,w125⟩:=S118.w.gI 4 rfl
   have hx126:=C66.cc _ _ (by decide) hx82
   obtain⟨x127,l128,hx129,hl130,pl131⟩:=S118.w.gO 6 rfl
   obtain⟨x133,l134,hx135,hl136,pl137⟩:=S118.w.gO 7 rfl
   obtain⟨x139,l140,hx141,hl142,pl143⟩:=S118.w.gO 8 rfl
   obtain⟨v145,hx146,w147⟩:=S118.w.gI 9 rfl
   have ra148:=fun (o:Bool)=>rd_agg7 (off:=3) hx121 hx124 hx126 hx129 hx135 hx141 hx146 o
   have hl157:=(hl83.chg C66 (by decide) hx82).ext e114
   obtain⟨v149,Z150,c151,e152,si153⟩:=sessAtS (v120) (v123) (v145) (OwnX.isR (ks:=kSess) hl157) (hl130.one) (hl136.one) (hl142.one) (by omega) (v110)
   try simp only[zQ,sr119,ra148]
   refine qF rfl c151 ?_
   have sl154:=si153.lt
   have k158:=SessIs.pos si153 hj85 (hp86.trans ((numAt.two hn115 (numAt.grw G81 hn79)).1).symm)
   try simp only[↓zP,zQ]
   refine zD [(4,0),(4,26),(10,0),(15,0),(20,0),(23,0)] ?_
   have S159:=S118.ext e152
   have sr160:=S159.w.at_
   obtain⟨x161,l162,hx163,hl164,pl165⟩:=S159.w.gO 18 rfl
   have o166:=hl164.one
   obtain⟨j171,hj172,hb170⟩:∃ j:Nat,v149=(j:Int)∧j<l75.length:=⟨Int.toNat v149,by omega,by omega⟩
   subst hj172
   have hl173:=hl157.ext e152
   obtain⟨q174,xe175,_⟩:=hl173.get hb170
   subst xe175
   obtain⟨p176,hp177⟩:∃ p,l75[j171]?=some p:=⟨_,List.getElem?_eq_getElem hb170⟩
   have k178:(0:Int)≤(j171:Int):=by omega
   have k179:(j171:Int)<(l75.length:Int):=by omega
   have re181:=fun (o:Bool)(kk:Nat)=>(qX yK (k:=kk) hp177 (j:=10) (by decide) o).trans (p176.int_at 10 rfl).1
   obtain⟨r185,Z186,c187,e188⟩:=noteW S159.w (by omega) (v120) (p176.int 10) (a70) (r39) w122 (p176.w64 10 rfl) w94 w55
   try simp -implicitDefEqProofs only[↓zP,zQ,Nat.reduceLT,qJ,Int.reduceLE,Int.reduceLT,Int.reduceToNat,Nat.reduceAdd,(((b108.ext e114).ext e152).1),sr160,(qL hx126),k178,k179,qB,(hl173.at),re181,(qL hx121),(qL hx163)]
   refine qF rfl c187 ?_
   have hl190:r185.cs.length=7:=r185.cs_len
   have S191:=S159.ext e188
   obtain⟨b192,e193,nn194⟩:=S191.alloc (i:=Z186.length) (by simp) {cs:=r185.cs}
   have S196:=(S191.ext e193).up (M:=N+125) (by omega)
   obtain⟨x199,G200,Z201,cs202,ap203,o204,gr205,wr206,hx207,hl208,C209⟩:=S196.w.apC (k:=18) apS36 apN36 xG rfl hx163 ((hl164.ext e188).ext e193) (xL xG (a:=r185) b192.1) (by simp only[List.length_cons,List.length_nil];omega) (by simp only[List.length_append,List.length_cons,List.length_nil];omega)
   obtain⟨l210,e211⟩:∃ l,l=l162++[r185]:=⟨_,rfl⟩
   rw[←e211] at hl208
   try simp only[↓zP,zQ,hl190,qJ,↓qC,Rw.ones,ap203,gr205,wr206]
   have S219:=S196.chg C209
   refine⟨zX (qI (qS _ _ _ _ rfl rfl ((S191.w.at_).trans (S159.w.at_).symm)) (zX (zX (zX (zX (qH)))))),?_⟩
   have b220:=b58.only C66.o
   have b225:=((((b220.ext e114).ext e152).ext e188).ext e193).only C209.o
   obtain⟨cs226,Z227,c228,W229,O230⟩:=mailsW S219.w (by omega) (LclW.low b225) le54
   refine qF rfl c228 ?_
   try simp only[↓zP,zQ,↓qC]
   have S233:=(S219.call W229 O230).up (M:=N+130) (by omega)
   exact⟨_,_,rfl,S233.w,S233.o,⟨by decide,by decide⟩⟩
  ·have b234:=b58.only C66.o
   have S235:=S59.chg C66
   obtain⟨cs236,Z237,c238,W239,O240⟩:=mailsW S235.w (by omega) (LclW.low b234) le54
   try simp only[↓zP,zQ,↓qC,h68]
   refine qF rfl c238 ?_
   try simp only[↓zP,zQ,↓qC]
   have S243:=(S235.call W239 O240).up (M:=N+130) (by omega)
   exact⟨_,_,rfl,S243.w,S243.o,⟨by decide,by decide⟩⟩
 ·have b244:=b58.only C66.o
  have S245:=S59.chg C66
  obtain⟨cs246,Z247,c248,W249,O250⟩:=mailsW S245.w (by omega) (LclW.low b244) le54
  try simp only[↓zP,zQ,↓qC,h67,qA]
  refine qF rfl c248 ?_
  try simp only[↓zP,zQ,↓qC]
  have S253:=(S245.call W249 O250).up (M:=N+130) (by omega)
  exact⟨_,_,rfl,S253.w,S253.o,w56⟩
theorem clientWW {H:qE}{r N:Nat}{cs:List AV}(w0:Wd H r (KW 2 2 1 N) cs)(hN:N+5≤900000)(i lf lt lm:Int)(wi:W64 i)(wlf:W64 lf)(wlt:W64 lt)(wlm:W64 lm)(hi:0≤i∧i<2):∃ (vv:Int)(cs':List AV)(Z:qE),Sound Tryz.prog 106 [.ptr r 0,i,.agg [lf,lt,lm]] H (.sc (.int .i64 vv)) Z∧Wd Z r (KW 2 2 1 (N+5)) cs'∧OnlyW H Z r cs cs'∧W64 vv:=by
 suffices h:∃ w Z,Sound Tryz.prog 106 [.ptr r 0,i,.agg [lf,lt,lm]] H w Z∧∃ (vv:Int)(cs':List AV),w=.sc (.int .i64 vv)∧Wd Z r (KW 2 2 1 (N+5)) cs'∧OnlyW H Z r cs cs'∧W64 vv by
  obtain⟨w,Z,h1,vv,cs',rfl,h2⟩:=h
  exact⟨vv,cs',Z,h1,h2⟩
 refine zR 178 [.tmp 6] Tryz.func106 ?_
 have S0:=WS.start w0
 obtain⟨b1,e2,nn3⟩:=S0.alloc (i:=H.length) (by simp) {cs:=[lf,lt,lm]}
 have S4:=S0.ext e2
 have sr5:=S4.w.at_
 obtain⟨x6,l7,hx8,hl9,pl10⟩:=S4.w.gO 1 rfl
 have rx12:=qL hx8
 obtain⟨j14,hj15,hb13⟩:∃ j:Nat,i=(j:Int)∧j<l7.length:=⟨Int.toNat i,by omega,by omega⟩
 subst hj15
 obtain⟨q16,xe17,_⟩:=hl9.get hb13
 subst xe17
 obtain⟨p18,hp19⟩:∃ p,l7[j14]?=some p:=⟨_,List.getElem?_eq_getElem hb13⟩
 have k20:(0:Int)≤(j14:Int):=by omega
 have k21:(j14:Int)<(l7.length:Int):=by omega
 have re23:=fun (o:Bool)(kk:Nat)=>(qX xI (k:=kk) hp19 (j:=3) (by decide) o).trans (p18.int_at 3 rfl).1
 try simp only[↓zP,zQ,↓qC,qJ,sr5,rx12,k20,k21,qB,(hl9.at),re23]
 refine zD [(3,0),(5,0)] ?_
 obtain⟨x24,l25,p26,bl27,rt28⟩:=S4.ar rfl
 obtain⟨c32,L33,y34,Z35,c36,e37,sl38,li39⟩:=vG (OwnN.rd p26.2.2.1) (by omega) (lm)
 try simp only[↓zP,zQ,qJ,(b1.1),sr5,(yY (p26.2.1))]
 refine qF rfl c36 ?_
 try simp only[↓zP,zQ,↓qC]
 refine⟨zX (zX (qH)),?_⟩
 refine zD [(6,0),(9,0),(11,0),(15,0)] ?_
 have S42:=S4.ext e37
 have sr43:=S42.w.at_
 have hl44:=hl9.ext e37
 have b47:=b1.ext e37
 obtain⟨v49,hx50,w51⟩:=S42.w.gI 11 rfl
 obtain⟨r53,r54,r55,r56,cs57,Z58,c59,C64,f62⟩:=hearCW S42.w (by omega) (PlN.extW p26 e37) bl27 rt28 (lm) (v49) wlm w51 p18
 try simp only[↓zP,zQ,qJ,sr43,(qL hx50),(b47.1),rx12,k20,k21,qB,(hl44.at),(xD xI hp19)]
 refine qF rfl c59 ?_
 obtain⟨w65,w66,w67,hh68⟩:=f62
 have S69:=S42.chg C64
 obtain⟨b70,e71,nn72⟩:=S69.alloc (i:=Z58.length) (by simp) {cs:=(Rw.zero kClient).cs}
 have S74:=S69.ext e71
 have wr75:=fun (H:qE)(r:Nat)=>Rw.wrA (Rw.zero kClient) r53 (m:=23) rfl H r
 try simp only[↓zP,zQ,vB,↓qC,Rw.ones,(b70.1),wr75]
 refine⟨zX (zX (zX (zX (qH)))),?_⟩
 refine zD [(3,0),(5,0)] ?_
 have S76:=S74.put b70 {cs:=r53.cs}
 have sr77:=S76.w.at_
 have hx78:=C64.cc _ _ (by decide) hx8
 have b80:=b70.put {cs:=r53.cs}
 have ra82:=fun (o:Bool)=>r53.rdA (m:=23) rfl o
 have hl83:=hl44.chg C64 (by decide) hx8
 have hl84:=hl83.ext e71
 have hl85:=hl84.put (g':={cs:=r53.cs}) hx78 b70
 obtain⟨Z89,l90,hZ91,e92,e93,hp94,ot95,hl96,C97⟩:=S76.w.stRow (k:=1) rfl hx78 hl85 rfl hp19 r53 (by rw[List.length_set];exact pl10)
 have wr98:uJ true 23 ((Z58++[{cs:=(Rw.zero kClient).cs}]:qE).set (Z58.length) {cs:=r53.cs}) q16 (some {cs:=rows Rw.cs l7}) (j14*23) (.agg r53.cs)=some Z89:=by rw[hZ91];exact wr_row xI hb13 q16 r53
 have pl99:=pl10;rw[←e93] at pl99
 have hx102:=hx78;rw[←e93] at hx102
 have hl103:=hl96;rw[←e93] at hl103
 try simp only[↓zP,zQ,qJ,(b80.1),ra82,sr77,(qL hx78),k20,k21,qB,(hl85.at),wr98]
 refine⟨zX (zX (qH)),?_⟩
 have S105:=S76.chg C97
 refine w_cut1 (fun s=>∃ (T:Nat→AV)(G:qE)(t104:Bool),s=⟨qY 178 T,G⟩∧Ext Z89 G∧T 0=.ptr (r) 0∧T 1=.sc (.int .i64 ((j14:Int)))∧T 6=.sc (.int .i64 (0))∧T 7=.sc (.int .i64 (p18.int 3))∧T 9=y34∧T 10=.ptr (Z58.length) 0∧T 11=.sc (.int .i64 (r54))∧T 12=.sc (.int .i64 (r55))∧T 13=.sc (.int .i64 (r56))∧T 14=.sc (.bool t104)) ?_ ?_
 ·have b106:=b80.only C97.o
  have rf108:=r53.rdI (j:=0) rfl
  obtain⟨x109,l110,hx111,hl112,pl113⟩:=S105.w.gO 14 rfl
  obtain⟨pl114,pw115⟩:=pl113
  obtain⟨t117,Z118,c119,e120⟩:=takenS S105.w.at_ hx111 (OwnX.isL hl112) (by omega) (r53.int 0)
  try simp only[↓zP,zQ,(b106.1),rf108]
  refine qF rfl c119 ?_
  cases t117 with
  | false =>
   have b121:=b106.ext e120
   have rf123:=r53.rdI (j:=1) rfl
   have hl124:=hl112.ext e120
   have S125:=S105.ext e120
   obtain⟨t126,Z127,c128,e129⟩:=takenS S125.w.at_ hx111 (OwnX.isL hl124) (by omega) (r53.int 1)
   try simp only[↓zP,zQ,(b121.1),rf123]
   refine qF rfl c128 ?_
   try simp only[↓zP,zQ]
   have E130:Ext Z89 Z89:=(Ext.refl _)
   have E131:=E130.trans e120
   have E132:=E131.trans e129
   exact⟨_,_,(!t126),rfl,E132,rfl,rfl,rfl,rfl,rfl,rfl,rfl,rfl,rfl,rfl⟩
  | true =>
   try simp only[↓zP,zQ,qA]
   have E133:Ext Z89 Z89:=(Ext.refl _)
   have E134:=E133.trans e120
   exact⟨_,_,false,rfl,E134,rfl,rfl,rfl,rfl,rfl,rfl,rfl,rfl,rfl,rfl⟩
 rintro s ⟨T135,Z136,t104,rfl,C138,a139,a140,a141,a142,a143,a144,a145,a146,a147,a148⟩
 have S149:=S105.ext C138
 refine w_cut1 (fun s=>∃ (T:Nat→AV)(G:qE)(c:List AV),s=⟨qY 178 T,G⟩∧(Wd G r (KW 2 2 1 (N+1)) c∧OnlyW Z136 G r cs57 c)∧T 0=.ptr (r) 0∧T 1=.sc (.int .i64 ((j14:Int)))∧T 6=.sc (.int .i64 (0))∧T 7=.sc (.int .i64 (p18.int 3))∧T 9=y34∧T 10=.ptr (Z58.length) 0∧T 11=.sc (.int .i64 (r54))∧T 12=.sc (.int .i64 (r55))∧T 13=.sc (.int .i64 (r56))∧T 14=.sc (.bool t104)) ?_ ?_
 ·by_cases h150:r56=(0:Int)
  ·subst h150
   by_cases h151:(p18.int 3)=(1:Int)
   ·have h152:=eq_true h151
    have b153:=b80.only C97.o
    have b154:=b153.ext C138
    have c155:=b154.1
    have rf156:=r53.rdI (j:=3) rfl
    by_cases h157:(r53.int 3)=(2:Int)
    ·have h158:=eq_true h157
     try simp only[↓zP,zQ,↓qC,a147,a142,h152,a144,c155,rf156,h158]
     refine zD [(4,0),(4,17),(6,0),(6,17),(8,0),(8,17),(13,0),(15,0),(18,0),(18,17)] ?_
     have sr159:=S149.w.at_
     obtain⟨x160,l161,hx162,hl163,pl164⟩:=S149.w.gO 15 rfl
     have rf167:=r53.rdI (j:=0) rfl
     have rf168:=r53.rdI (j:=1) rfl
     have rf169:=r53.rdI (j:=8) rfl
     have rf170:=r53.rdI (j:=7) rfl
     obtain⟨x171,l172,p173,bl174,rt175⟩:=S149.ar rfl
     obtain⟨v177,l178,x179,Z180,c181,p182,o183,g184⟩:=appG p173 bl174 (r53.int 8) (r53.int 7)
     try simp only[↓zP,zQ,a139,qJ,a144,c155,rf170,rf169,rf168,rf167,sr159,(qL hx162)]
     refine qF rfl c181 ?_
     have G188:=g184.1
     obtain⟨cs187,C185,p186⟩:=S149.w.arC rfl p173 p182 o183 ⟨(G188.2.1 bl174),(G188.2.2 rt175)⟩
     have w192:W64 v177:=by have h:=g184.2;unfold W64;omega
     have b193:=b154.only C185.o
     have rf195:=r53.rdI (j:=7) rfl
     have bd196:qT Tryz.prog 72 [(0,.sc (.int .i64 (r53.int 0))),(1,.sc (.int .i64 (r53.int 1))),(2,.sc (.int .i64 (v177))),(5,.sc (.int .i64 (r53.int 7))),(6,.sc (.bool t104))]=some (.agg [r53.int 0,r53.int 1,v177,(0:Int),(0:Int),r53.int 7,.sc (.bool t104)]):=by simp[qT,yR,yT,qW,yF,yI,yO,Tryz.underlying72,jO,qR,qO,tyOk4,jJ]
     obtain⟨p197,hp198⟩:=((RowOk.int (r53.w64 0 rfl) (RowOk.int (r53.w64 1 rfl) (RowOk.int w192 (RowOk.int ⟨by decide,by decide⟩ (RowOk.int ⟨by decide,by decide⟩ (RowOk.int (r53.w64 7 rfl) (RowOk.bool RowOk.nil))))))):RowOk kA [.sc (.int .i64 (r53.int 0)),.sc (.int .i64 (r53.int 1)),.sc (.int .i64 (v177)),.sc (.int .i64 (0)),.sc (.int .i64 (0)),.sc (.int .i64 (r53.int 7)),.sc (.bool t104)])
     have S199:=S149.chg C185
     obtain⟨b200,e201,nn202⟩:=S199.alloc (i:=Z180.length) (by simp) {cs:=[r53.int 0,r53.int 1,v177,(0:Int),(0:Int),r53.int 7,.sc (.bool t104)]}
     have b203:=b200
     rw[←hp198] at b203
     have S204:=S199.ext e201
     have S205:=S204.up (M:=N+1) (by omega)
     have hx207:=C185.cc _ _ (by decide) hx162
     have hl206:=hl163.chg C185 (by decide) hx162
     have hl208:=hl206.ext e201
     obtain⟨x209,G210,Z211,cs212,ap213,o214,gr215,wr216,hx217,hl218,C219⟩:=S205.w.apC (k:=15) apS36 apN36 xG rfl hx207 hl208 (xL xG (a:=p197) (by rw[hp198];exact b200.1)) (by simp only[List.length_cons,List.length_nil];omega) (by simp only[List.length_append,List.length_cons,List.length_nil];omega)
     obtain⟨l220,e221⟩:∃ l,l=l161++[p197]:=⟨_,rfl⟩
     rw[←e221] at hl218
     try simp -implicitDefEqProofs only[↓zP,zQ,a144,a148,qJ,(b193.1),rf195,bd196,Nat.reduceAdd,ap213,gr215,wr216]
     refine⟨zX (qI (xS _ _ rfl rfl rfl (S149.w.at_) (S199.w.at_) hx162 hx207) (zX (qI (qS _ _ (Z58.length) 0 rfl rfl ((b193).1.trans (b154).1.symm)) (zX (qI (qS _ _ (Z58.length) 1 rfl rfl ((b193).1.trans (b154).1.symm)) (zX (zX (qI (qS _ _ (Z58.length) 7 rfl rfl ((b154).1.trans (b193).1.symm)) (zX (qH)))))))))),?_⟩
     have E232:Wd Z136 r _ cs57∧OnlyW Z136 Z136 r cs57 cs57:=(And.intro S149.w (OnlyW.nop _ _ cs57))
     have E233:=And.intro C185.w (E232.2.trans C185.o)
     have E234:=And.intro (E233.1.ext e201) (E233.2.trans (.ext e201 r _))
     have E235:=And.intro C219.w (E234.2.trans C219.o)
     exact⟨_,_,_,rfl,(And.intro (E235.1.up (M:=N+1) (by omega)) E235.2),(by first | rfl | simp only[zQ,a139]),(by first | rfl | simp only[zQ,a140]),(by first | rfl | simp only[zQ,a141]),(by first | rfl | simp only[zQ,a142]),(by first | rfl | simp only[zQ,a143]),(by first | rfl | simp only[zQ,a144]),(by first | rfl | simp only[zQ,a145]),(by first | rfl | simp only[zQ,a146]),(by first | rfl | simp only[zQ,a147]),(by first | rfl | simp only[zQ,a148])⟩
    ·try simp only[↓zP,zQ,↓qC,a147,a142,h152,a144,c155,rf156,h157]
     have E236:Wd Z136 r _ cs57∧OnlyW Z136 Z136 r cs57 cs57:=(And.intro S149.w (OnlyW.nop _ _ cs57))
     exact⟨_,_,_,rfl,(And.intro (E236.1.up (M:=N+1) (by omega)) E236.2),(by first | rfl | simp only[zQ,a139]),(by first | rfl | simp only[zQ,a140]),(by first | rfl | simp only[zQ,a141]),(by first | rfl | simp only[zQ,a142]),(by first | rfl | simp only[zQ,a143]),(by first | rfl | simp only[zQ,a144]),(by first | rfl | simp only[zQ,a145]),(by first | rfl | simp only[zQ,a146]),(by first | rfl | simp only[zQ,a147]),(by first | rfl | simp only[zQ,a148])⟩
   ·try simp only[↓zP,zQ,↓qC,a147,a142,h151,qA]
    have E237:Wd Z136 r _ cs57∧OnlyW Z136 Z136 r cs57 cs57:=(And.intro S149.w (OnlyW.nop _ _ cs57))
    exact⟨_,_,_,rfl,(And.intro (E237.1.up (M:=N+1) (by omega)) E237.2),(by first | rfl | simp only[zQ,a139]),(by first | rfl | simp only[zQ,a140]),(by first | rfl | simp only[zQ,a141]),(by first | rfl | simp only[zQ,a142]),(by first | rfl | simp only[zQ,a143]),(by first | rfl | simp only[zQ,a144]),(by first | rfl | simp only[zQ,a145]),(by first | rfl | simp only[zQ,a146]),(by first | rfl | simp only[zQ,a147]),(by first | rfl | simp only[zQ,a148])⟩
  ·try simp only[↓zP,zQ,↓qC,a147,h150,qA]
   have E238:Wd Z136 r _ cs57∧OnlyW Z136 Z136 r cs57 cs57:=(And.intro S149.w (OnlyW.nop _ _ cs57))
   exact⟨_,_,_,rfl,(And.intro (E238.1.up (M:=N+1) (by omega)) E238.2),(by first | rfl | simp only[zQ,a139]),(by first | rfl | simp only[zQ,a140]),(by first | rfl | simp only[zQ,a141]),(by first | rfl | simp only[zQ,a142]),(by first | rfl | simp only[zQ,a143]),(by first | rfl | simp only[zQ,a144]),(by first | rfl | simp only[zQ,a145]),(by first | rfl | simp only[zQ,a146]),(by first | rfl | simp only[zQ,a147]),(by first | rfl | simp only[zQ,a148])⟩
 rintro s ⟨T239,Z240,cs241,rfl,⟨C242,C242o⟩,a243,a244,a245,a246,a247,a248,a249,a250,a251,a252⟩
 have S253:=S149.call C242 C242o
 refine w_cut1 (fun s=>∃ (T:Nat→AV)(G:qE)(c:List AV),s=⟨qY 178 T,G⟩∧(Wd G r (KW 2 2 1 (N+2)) c∧OnlyW Z240 G r cs241 c)∧T 0=.ptr (r) 0∧T 1=.sc (.int .i64 ((j14:Int)))∧T 6=.sc (.int .i64 (0))∧T 9=y34∧T 10=.ptr (Z58.length) 0∧T 11=.sc (.int .i64 (r54))∧T 12=.sc (.int .i64 (r55))∧T 13=.sc (.int .i64 (r56))) ?_ ?_
 ·by_cases h254:r56=(0:Int)
  ·subst h254
   by_cases h255:(p18.int 3)=(2:Int)
   ·have h256:=eq_true h255
    have b257:=b80.only C97.o
    have b258:=b257.ext C138
    have b259:=b258.only C242o
    have c260:=b259.1
    have rf261:=r53.rdI (j:=3) rfl
    by_cases h262:(r53.int 3)=(3:Int)
    ·have h263:=eq_true h262
     try simp only[↓zP,zQ,↓qC,a251,a246,h256,a248,c260,rf261,h263]
     refine zD [(4,0),(6,0),(8,0),(11,0),(13,0)] ?_
     have sr264:=S253.w.at_
     obtain⟨x265,l266,hx267,hl268,pl269⟩:=S253.w.gO 16 rfl
     have rf272:=r53.rdI (j:=0) rfl
     have rf273:=r53.rdI (j:=1) rfl
     have rf274:=r53.rdI (j:=11) rfl
     have rf275:=r53.rdI (j:=7) rfl
     have bd276:qT Tryz.prog 72 [(0,.sc (.int .i64 (r53.int 0))),(1,.sc (.int .i64 (r53.int 1))),(2,.sc (.int .i64 (r53.int 11))),(5,.sc (.int .i64 (r53.int 7))),(6,.sc (.bool t104))]=some (.agg [r53.int 0,r53.int 1,r53.int 11,(0:Int),(0:Int),r53.int 7,.sc (.bool t104)]):=by simp[qT,yR,yT,qW,yF,yI,yO,Tryz.underlying72,jO,qR,qO,tyOk4,jJ]
     obtain⟨p277,hp278⟩:=((RowOk.int (r53.w64 0 rfl) (RowOk.int (r53.w64 1 rfl) (RowOk.int (r53.w64 11 rfl) (RowOk.int ⟨by decide,by decide⟩ (RowOk.int ⟨by decide,by decide⟩ (RowOk.int (r53.w64 7 rfl) (RowOk.bool RowOk.nil))))))):RowOk kA [.sc (.int .i64 (r53.int 0)),.sc (.int .i64 (r53.int 1)),.sc (.int .i64 (r53.int 11)),.sc (.int .i64 (0)),.sc (.int .i64 (0)),.sc (.int .i64 (r53.int 7)),.sc (.bool t104)])
     obtain⟨b279,e280,nn281⟩:=S253.alloc (i:=Z240.length) (by simp) {cs:=[r53.int 0,r53.int 1,r53.int 11,(0:Int),(0:Int),r53.int 7,.sc (.bool t104)]}
     have b282:=b279
     rw[←hp278] at b282
     have S283:=S253.ext e280
     have S284:=S283.up (M:=N+2) (by omega)
     have hl285:=hl268.ext e280
     obtain⟨x286,G287,Z288,cs289,ap290,o291,gr292,wr293,hx294,hl295,C296⟩:=S284.w.apC (k:=16) apS36 apN36 xG rfl hx267 hl285 (xL xG (a:=p277) (by rw[hp278];exact b279.1)) (by simp only[List.length_cons,List.length_nil];omega) (by simp only[List.length_append,List.length_cons,List.length_nil];omega)
     obtain⟨l297,e298⟩:∃ l,l=l266++[p277]:=⟨_,rfl⟩
     rw[←e298] at hl295
     try simp -implicitDefEqProofs only[↓zP,zQ,a243,qJ,a248,a252,c260,rf275,Nat.reduceAdd,rf274,rf273,rf272,bd276,sr264,(qL hx267),ap290,gr292,wr293]
     refine⟨zX (zX (zX (zX (zX (qH))))),?_⟩
     have E306:Wd Z240 r _ cs241∧OnlyW Z240 Z240 r cs241 cs241:=(And.intro S253.w (OnlyW.nop _ _ cs241))
     have E307:=And.intro (E306.1.ext e280) (E306.2.trans (.ext e280 r _))
     have E308:=And.intro C296.w (E307.2.trans C296.o)
     exact⟨_,_,_,rfl,(And.intro (E308.1.up (M:=N+2) (by omega)) E308.2),(by first | rfl | simp only[zQ,a243]),(by first | rfl | simp only[zQ,a244]),(by first | rfl | simp only[zQ,a245]),(by first | rfl | simp only[zQ,a247]),(by first | rfl | simp only[zQ,a248]),(by first | rfl | simp only[zQ,a249]),(by first | rfl | simp only[zQ,a250]),(by first | rfl | simp only[zQ,a251])⟩
    ·try simp only[↓zP,zQ,↓qC,a251,a246,h256,a248,c260,rf261,h262]
     have E309:Wd Z240 r _ cs241∧OnlyW Z240 Z240 r cs241 cs241:=(And.intro S253.w (OnlyW.nop _ _ cs241))
     exact⟨_,_,_,rfl,(And.intro (E309.1.up (M:=N+2) (by omega)) E309.2),(by first | rfl | simp only[zQ,a243]),(by first | rfl | simp only[zQ,a244]),(by first | rfl | simp only[zQ,a245]),(by first | rfl | simp only[zQ,a247]),(by first | rfl | simp only[zQ,a248]),(by first | rfl | simp only[zQ,a249]),(by first | rfl | simp only[zQ,a250]),(by first | rfl | simp only[zQ,a251])⟩
   ·try simp only[↓zP,zQ,↓qC,a251,a246,h255,qA]
    have E310:Wd Z240 r _ cs241∧OnlyW Z240 Z240 r cs241 cs241:=(And.intro S253.w (OnlyW.nop _ _ cs241))
    exact⟨_,_,_,rfl,(And.intro (E310.1.up (M:=N+2) (by omega)) E310.2),(by first | rfl | simp only[zQ,a243]),(by first | rfl | simp only[zQ,a244]),(by first | rfl | simp only[zQ,a245]),(by first | rfl | simp only[zQ,a247]),(by first | rfl | simp only[zQ,a248]),(by first | rfl | simp only[zQ,a249]),(by first | rfl | simp only[zQ,a250]),(by first | rfl | simp only[zQ,a251])⟩
  ·try simp only[↓zP,zQ,↓qC,a251,h254,qA]
   have E311:Wd Z240 r _ cs241∧OnlyW Z240 Z240 r cs241 cs241:=(And.intro S253.w (OnlyW.nop _ _ cs241))
   exact⟨_,_,_,rfl,(And.intro (E311.1.up (M:=N+2) (by omega)) E311.2),(by first | rfl | simp only[zQ,a243]),(by first | rfl | simp only[zQ,a244]),(by first | rfl | simp only[zQ,a245]),(by first | rfl | simp only[zQ,a247]),(by first | rfl | simp only[zQ,a248]),(by first | rfl | simp only[zQ,a249]),(by first | rfl | simp only[zQ,a250]),(by first | rfl | simp only[zQ,a251])⟩
 rintro s ⟨T312,Z313,cs314,rfl,⟨C315,C315o⟩,a316,a317,a318,a319,a320,a321,a322,a323⟩
 have S324:=S253.call C315 C315o
 refine w_cut1 (fun s=>∃ (T:Nat→AV)(G:qE)(c:List AV),s=⟨qY 178 T,G⟩∧(Wd G r (KW 2 2 1 (N+3)) c∧OnlyW Z313 G r cs314 c)∧T 0=.ptr (r) 0∧T 1=.sc (.int .i64 ((j14:Int)))∧T 6=.sc (.int .i64 (0))∧T 11=.sc (.int .i64 (r54))∧T 13=.sc (.int .i64 (r56))) ?_ ?_
 ·by_cases h325:r56=(0:Int)
  ·subst h325
   by_cases h326:(0:Int)≤r55
   ·obtain⟨a327,a328,la329⟩:=hh68 h326 rfl
    obtain⟨rfl,rfl⟩:=LetterIs.two li39 (.inl la329)
    obtain⟨_,_,q330,a334,o331,e338,e339,h333,hq332,w336,w337,w335⟩:=uQ sl38 li39 (by decide)
    cases e338
    subst e339
    try simp only[↓zP,zQ,↓qC,a323,a322,h326]
    refine zD [(4,0),(4,16),(7,0),(10,0),(13,0)] ?_
    have sr341:=S324.w.at_
    obtain⟨x342,l343,hx344,hl345,pl346⟩:=S324.w.gO 18 rfl
    have b349:=b80.only C97.o
    have b350:=b349.ext C138
    have b351:=b350.only C242o
    have b352:=b351.only C315o
    have rf354:=r53.rdI (j:=0) rfl
    have rf355:=r53.rdI (j:=11) rfl
    have b356:=(S4.made e37 hq332 h333).only C64.o
    have b357:=b356.ext e71
    have b358:=b357.oth (Ne.symm (nn72 _ _ b356.1)) {cs:=r53.cs}
    have b359:=b358.only C97.o
    have b360:=b359.ext C138
    have b361:=b360.only C242o
    have b362:=b361.only C315o
    obtain⟨r364,Z365,c366,e367⟩:=noteW S324.w (by omega) (r53.int 0) (r53.int 11) (a328) (r55) (r53.w64 0 rfl) (r53.w64 11 rfl) w337 w66
    try simp -implicitDefEqProofs only[↓zP,zQ,Nat.reduceLT,a316,qJ,a320,a319,Int.reduceLE,Int.reduceLT,Int.reduceToNat,Nat.reduceAdd,a322,(b362.1),(b352.1),rf355,rf354,sr341,(qL hx344)]
    refine qF rfl c366 ?_
    have hl369:r364.cs.length=7:=r364.cs_len
    have S370:=S324.ext e367
    obtain⟨b371,e372,nn373⟩:=S370.alloc (i:=Z365.length) (by simp) {cs:=r364.cs}
    have S374:=S370.ext e372
    have S375:=S374.up (M:=N+3) (by omega)
    have hl376:=hl345.ext e367
    have hl377:=hl376.ext e372
    obtain⟨x378,G379,Z380,cs381,ap382,o383,gr384,wr385,hx386,hl387,C388⟩:=S375.w.apC (k:=18) apS36 apN36 xG rfl hx344 hl377 (xL xG (a:=r364) b371.1) (by simp only[List.length_cons,List.length_nil];omega) (by simp only[List.length_append,List.length_cons,List.length_nil];omega)
    obtain⟨l389,e390⟩:∃ l,l=l343++[r364]:=⟨_,rfl⟩
    rw[←e390] at hl387
    try simp only[↓zP,zQ,hl369,qJ,Rw.ones,ap382,gr384,wr385]
    refine⟨zX (qI (qS _ _ _ _ rfl rfl ((S370.w.at_).trans (S324.w.at_).symm)) (zX (zX (zX (qH))))),?_⟩
    have E399:Wd Z313 r _ cs314∧OnlyW Z313 Z313 r cs314 cs314:=(And.intro S324.w (OnlyW.nop _ _ cs314))
    have E400:=And.intro (E399.1.ext e367) (E399.2.trans (.ext e367 r _))
    have E401:=And.intro (E400.1.ext e372) (E400.2.trans (.ext e372 r _))
    have E402:=And.intro C388.w (E401.2.trans C388.o)
    exact⟨_,_,_,rfl,(And.intro (E402.1.up (M:=N+3) (by omega)) E402.2),(by first | rfl | simp only[zQ,a316]),(by first | rfl | simp only[zQ,a317]),(by first | rfl | simp only[zQ,a318]),(by first | rfl | simp only[zQ,a321]),(by first | rfl | simp only[zQ,a323])⟩
   ·try simp only[↓zP,zQ,↓qC,a323,a322,h326]
    have E403:Wd Z313 r _ cs314∧OnlyW Z313 Z313 r cs314 cs314:=(And.intro S324.w (OnlyW.nop _ _ cs314))
    exact⟨_,_,_,rfl,(And.intro (E403.1.up (M:=N+3) (by omega)) E403.2),(by first | rfl | simp only[zQ,a316]),(by first | rfl | simp only[zQ,a317]),(by first | rfl | simp only[zQ,a318]),(by first | rfl | simp only[zQ,a321]),(by first | rfl | simp only[zQ,a323])⟩
  ·try simp only[↓zP,zQ,↓qC,a323,h325,qA]
   have E404:Wd Z313 r _ cs314∧OnlyW Z313 Z313 r cs314 cs314:=(And.intro S324.w (OnlyW.nop _ _ cs314))
   exact⟨_,_,_,rfl,(And.intro (E404.1.up (M:=N+3) (by omega)) E404.2),(by first | rfl | simp only[zQ,a316]),(by first | rfl | simp only[zQ,a317]),(by first | rfl | simp only[zQ,a318]),(by first | rfl | simp only[zQ,a321]),(by first | rfl | simp only[zQ,a323])⟩
 rintro s ⟨T405,Z406,cs407,rfl,⟨C408,C408o⟩,a409,a410,a411,a412,a413⟩
 have S414:=S324.call C408 C408o
 have sr415:=S414.w.at_
 obtain⟨x416,l417,hx418,hl419,pl420⟩:=S414.w.gO 2 rfl
 obtain⟨pl421,pw422⟩:=pl420
 have hb425:j14<l417.length:=by omega
 obtain⟨q426,xe427,_⟩:=hl419.get hb425
 subst xe427
 obtain⟨p428,hp429⟩:∃ p,l417[j14]?=some p:=⟨_,List.getElem?_eq_getElem hb425⟩
 have w430:=pw422 _ (List.mem_of_getElem? hp429)
 have k431:(0:Int)≤(j14:Int):=by omega
 have k432:(j14:Int)<(l417.length:Int):=by omega
 have re434:=fun (o:Bool)(kk:Nat)=>rd_num (k:=kk) hp429 o
 obtain⟨cs435,Z436,c437,W438,O439⟩:=sayW S414.w (by omega) (p428) (99) (r54) w430 ⟨by decide,by decide⟩ w65
 try simp only[↓zP,zQ,↓qC,a409,qJ,a410,a412,sr415,(qL hx418),k431,k432,qB,(hl419.at),re434]
 refine qF rfl c437 ?_
 try simp only[↓zP,zQ,↓qC,a413]
 have S441:=S414.call W438 O439
 exact⟨_,_,rfl,S441.w,S441.o,w67⟩
theorem carryW {H:qE}{r N:Nat}{cs:List AV}(w0:Wd H r (KW 2 2 1 N) cs)(hN:N+130≤900000)(lf lt lm:Int)(wlf:W64 lf)(wlt:W64 lt)(wlm:W64 lm):∃ (vv:Int)(cs':List AV)(Z:qE),Sound Tryz.prog 86 [.ptr r 0,.agg [lf,lt,lm]] H (.sc (.int .i64 vv)) Z∧Wd Z r (KW 2 2 1 (N+130)) cs'∧OnlyW H Z r cs cs'∧W64 vv:=by
 suffices h:∃ w Z,Sound Tryz.prog 86 [.ptr r 0,.agg [lf,lt,lm]] H w Z∧∃ (vv:Int)(cs':List AV),w=.sc (.int .i64 vv)∧Wd Z r (KW 2 2 1 (N+130)) cs'∧OnlyW H Z r cs cs'∧W64 vv by
  obtain⟨w,Z,h1,vv,cs',rfl,h2⟩:=h
  exact⟨vv,cs',Z,h1,h2⟩
 refine zR 35 [.tmp 4] Tryz.func86 ?_
 have S0:=WS.start w0
 obtain⟨b1,e2,nn3⟩:=S0.alloc (i:=H.length) (by simp) {cs:=[lf,lt,lm]}
 have c4:=b1.1
 by_cases h5:lt=(99:Int)
 ·subst h5
  have S6:=S0.ext e2
  obtain⟨r7,cs8,Z9,c10,W11,O12,f13⟩:=gateW S6.w (by omega) (lf) (99) (lm) wlf ⟨by decide,by decide⟩ wlm
  try simp -implicitDefEqProofs only[↓zP,zQ,↓qC,c4,Nat.reduceAdd]
  refine qF rfl c10 ?_
  try simp only[↓zP,zQ]
  have S15:=S6.call W11 O12
  exact⟨_,_,rfl,S15.w,S15.o,f13⟩
 ·have S16:=S0.ext e2
  have sr17:=S16.w.at_
  obtain⟨x18,l19,hx20,hl21,pl22⟩:=S16.w.gO 1 rfl
  have rx24:=qL hx20
  try simp -implicitDefEqProofs only[↓zP,zQ,↓qC,c4,Nat.reduceAdd,h5]
  refine yL (ι:=Nat) (fun i s=>∃ (T:Nat→AV)(v30:Int),s=⟨qY 35 T,(H++[{cs:=[lf,lt,lm]}])⟩∧i≤l19.length∧W64 v30∧T 0=.ptr (r) 0∧T 3=.ptr (H.length) 0∧T 4=.sc (.int .i64 (v30))∧T 5=.sc (.int .i64 i)) (fun i=>l19.length - i) ?_ (i:=0) ?_
  rotate_left
  ·exact⟨_,_,rfl,Nat.zero_le _,⟨by decide,by decide⟩,rfl,rfl,rfl,rfl⟩
  rintro i26 s ⟨T27,v30,rfl,hi36,w35,a31,a32,a33,a34⟩
  have e38:i26<l19.length→IntKind.i64.wrap ((i26:Int)+1)=((i26+1:Nat):Int):=fun h=>by rw[w64 (by omega) (by omega)];omega
  have ln39:=fun e=>hl21.len e
  by_cases h40:((i26:Int))<(l19.length:Int)
  ·try simp only[↓zP,zQ,↓qC,a34,a31,qJ,sr17,rx24,ln39,h40]
   refine zD [(3,0),(6,0),(8,0)] ?_
   obtain⟨x41,l42,hx43,hl44,pl45⟩:=S16.w.gO 2 rfl
   obtain⟨pl46,pw47⟩:=pl45
   have hb50:i26<l42.length:=by omega
   obtain⟨q51,xe52,_⟩:=hl44.get hb50
   subst xe52
   obtain⟨p53,hp54⟩:∃ p,l42[i26]?=some p:=⟨_,List.getElem?_eq_getElem hb50⟩
   have k56:(0:Int)≤(i26:Int):=by omega
   have k57:(i26:Int)<(l42.length:Int):=by omega
   have re59:=fun (o:Bool)(kk:Nat)=>rd_num (k:=kk) hp54 o
   try simp -implicitDefEqProofs only[↓zP,zQ,a31,qJ,a34,a32,↓qC,c4,Nat.reduceAdd,sr17,(qL hx43),k56,k57,qB,(hl44.at),re59]
   refine⟨zX (zX (zX (qH))),?_⟩
   by_cases h60:p53=lt
   ·have h61:=eq_true h60
    obtain⟨r62,cs63,Z64,c65,W66,O67,f68⟩:=clientWW S16.w (by omega) ((i26:Int)) (lf) (lt) (lm) (by unfold W64;omega) wlf wlt wlm ⟨by omega,by omega⟩
    try simp only[zQ,h61]
    refine qF rfl c65 ?_
    try simp only[↓zP,zQ]
    have S71:=(S16.call W66 O67).up (M:=N+130) (by omega)
    exact⟨_,_,rfl,S71.w,S71.o,f68⟩
   ·have e72:=e38 (by omega)
    try simp only[zQ,h60,e72]
    refine⟨i26+1,by omega,_,v30,rfl,by omega,w35,?_,?_,?_,?_⟩<;>simp only[zQ,a31,a32,a33]<;>rfl
  ·try simp only[↓zP,zQ,↓qC,a34,a31,qJ,sr17,rx24,ln39,h40]
   have S73:=S16.up (M:=N+130) (by omega)
   exact⟨_,_,rfl,S73.w,S73.o,⟨by decide,by decide⟩⟩
theorem sendW {H:qE}{r N:Nat}{cs:List AV}(w0:Wd H r (KW 2 2 1 N) cs)(hN:N+5≤900000)(i num:Int)(wi:W64 i)(wnum:W64 num)(hi:0≤i∧i<2):∃ (vv:Int)(cs':List AV)(Z:qE),Sound Tryz.prog 74 [.ptr r 0,i,num] H (.sc (.int .i64 vv)) Z∧Wd Z r (KW 2 2 1 (N+5)) cs'∧OnlyW H Z r cs cs'∧W64 vv:=by
 suffices h:∃ w Z,Sound Tryz.prog 74 [.ptr r 0,i,num] H w Z∧∃ (vv:Int)(cs':List AV),w=.sc (.int .i64 vv)∧Wd Z r (KW 2 2 1 (N+5)) cs'∧OnlyW H Z r cs cs'∧W64 vv by
  obtain⟨w,Z,h1,vv,cs',rfl,h2⟩:=h
  exact⟨vv,cs',Z,h1,h2⟩
 refine zR 120 [.tmp 6] Tryz.func74 ?_
 have S0:=WS.start w0
 have sr1:=S0.w.at_
 obtain⟨x2,l3,hx4,hl5,pl6⟩:=S0.w.gO 1 rfl
 have o7:=hl5.one
 have rx8:=qL hx4
 obtain⟨j10,hj11,hb9⟩:∃ j:Nat,i=(j:Int)∧j<l3.length:=⟨Int.toNat i,by omega,by omega⟩
 subst hj11
 obtain⟨q12,xe13,_⟩:=hl5.get hb9
 subst xe13
 obtain⟨p14,hp15⟩:∃ p,l3[j10]?=some p:=⟨_,List.getElem?_eq_getElem hb9⟩
 have k16:(0:Int)≤(j10:Int):=by omega
 have k17:(j10:Int)<(l3.length:Int):=by omega
 have hq18:=hl5.at
 have re19:=xD xI hp15
 obtain⟨b20,e21,nn22⟩:=S0.alloc (i:=H.length) (by simp) {cs:=(Rw.zero kClient).cs}
 have c23:=b20.1
 have wr25:=fun (H:qE)(r:Nat)=>Rw.wrA (Rw.zero kClient) p14 (m:=23) rfl H r
 have b26:=b20.put {cs:=p14.cs}
 have c27:=b26.1
 have rf28:=p14.rdI (j:=10) rfl
 obtain⟨m29,hm30⟩:∃ m,Int.tmod num 40=m:=⟨_,rfl⟩
 have w31:W64 m29:=hm30▸W64.tmod wnum
 obtain⟨m32,hm33⟩:∃ m,Int.tmod num 1000=m:=⟨_,rfl⟩
 have w34:W64 m32:=hm33▸W64.tmod wnum
 have S35:=(S0.ext e21).put b20 {cs:=p14.cs}
 obtain⟨b36,e37,nn38⟩:=S35.alloc (i:=H.length+1) (by simp) {cs:=[(0:Int),(0:Int),(0:Int),(0:Int)]}
 have c39:=b36.1
 have S40:=S35.ext e37
 obtain⟨m41,hm42⟩:∃ m,Int.tmod num 2=m:=⟨_,rfl⟩
 have w43:W64 m41:=hm42▸W64.tmod wnum
 by_cases h44:m41=(1:Int)
 ·subst h44
  obtain⟨m45,hm46⟩:∃ m,Int.tmod num 256=m:=⟨_,rfl⟩
  have w47:W64 m45:=hm46▸W64.tmod wnum
  have b48:=b36.put {cs:=[p14.int 10,m29,(3:Int),m32]}
  have c49:=b48.1
  have S50:=S40.put b36 {cs:=[m45,m29,(3:Int),m32]}
  have sr51:=S50.w.at_
  obtain⟨x52,l53,p54,bl55,rt56⟩:=S50.ar rfl
  have hx57:=p54.2.1
  have ln59:=fun e=>OwnF.len e p54.2.2.1
  have G60:=Grw.refl l53
  try simp -implicitDefEqProofs only[↓zP,zQ,↓qC,qJ,vB,Int.reduceEq,hm30,hm33,hm42,hm46,Nat.reduceAdd,Rw.ones,c23,sr1,rx8,k16,k17,qB,hq18,re19,wr25,c27,rf28,xZ,xY,c49,Nat.reduceLeDiff,sr51,(qL hx57),ln59]
  refine zD [(3,0)] ?_
  have b61:=b36.put {cs:=[m45,m29,(3:Int),m32]}
  have c62:=b61.1
  obtain⟨r63,l64,x65,Z66,c67,p68,o69,g70,f71⟩:=packetG p54 bl55 (m45) (m29) (3) (m32)
  try simp -implicitDefEqProofs only[↓zP,zQ,qJ,c62,Nat.reduceAdd]
  refine qF rfl c67 ?_
  have g72:=And.intro g70 trivial
  have G76:=g72.1
  have bl77:=G76.2.1 bl55
  have rt78:=G76.2.2 rt56
  obtain⟨cs75,C73,p74⟩:=S50.w.arC rfl p54 p68 o69 ⟨bl77,rt78⟩
  have G79:=G60.trans G76
  have hx80:=p74.2.1
  have w81:W64 r63:=by have h:=f71;unfold W64;omega
  try simp only[↓zP,zQ,↓qC,qJ]
  refine⟨zX (qH),?_⟩
  by_cases h82:r63<(0:Int)
  ·obtain⟨w83,x84,Z85,c86,p87,o88⟩:=jL p74 bl77 (l53.length)
   rw[G79.back] at p87
   try simp only[zQ,h82]
   refine qF rfl c86 ?_
   have S89:=S50.chg C73
   have bl94:=bl55
   have rt95:=rt56
   obtain⟨cs92,C90,p91⟩:=S89.w.arC rfl p74 p87 o88 ⟨bl94,rt95⟩
   have hx96:=p91.2.1
   try simp only[↓zP,zQ,↓qC]
   have S98:=(S89.chg C90).up (M:=N+5) (by omega)
   exact⟨_,_,rfl,S98.w,S98.o,⟨by decide,by decide⟩⟩
  ·try simp only[zQ,h82]
   refine zD [(3,0),(3,9),(7,0)] ?_
   have b100:=(b26.ext e37).oth (Ne.symm (nn38 _ _ b26.1)) {cs:=[m45,m29,(3:Int),m32]}
   have b101:=b100.only C73.o
   have c102:=b101.1
   have ra103:=fun (o:Bool)=>p14.rdA (m:=23) rfl o
   have rf104:=p14.rdI (j:=11) rfl
   have S105:=S50.chg C73
   obtain⟨r106,Z107,c108,e109,f110⟩:=cidW S105.w (by omega) (p14.int 11) (p14.w64 11 rfl)
   try simp -implicitDefEqProofs only[↓zP,zQ,qJ,c102,ra103,Nat.reduceAdd,rf104]
   refine qF rfl c108 ?_
   have w111:=f110
   have S112:=S105.ext e109
   obtain⟨r113,r114,x122,l123,cs115,Z116,c117,C126,p124,G125,f120⟩:=sayCW S112.w (by omega) (PlN.extW p74 e109) bl77 rt78 (r106) (r63) w111 w81 p14
   try simp only[↓zP,zQ]
   refine qF rfl c117 ?_
   have bl127:=G125.2.1 bl77
   have rt128:=G125.2.2 rt78
   have hx129:=p124.2.1
   have G130:=G79.trans G125
   obtain⟨w131,la132⟩:=f120
   have S133:=S112.chg C126
   obtain⟨b134,e135,nn136⟩:=S133.alloc (i:=Z116.length) (by simp) {cs:=(Rw.zero kClient).cs}
   have c137:=b134.1
   have S138:=S133.ext e135
   have wr139:=fun (H:qE)(r:Nat)=>Rw.wrA (Rw.zero kClient) r113 (m:=23) rfl H r
   try simp only[↓zP,zQ,vB,↓qC,qJ,Rw.ones,c137,wr139]
   have b140:=b101.ext e109
   have b141:=b140.only C126.o
   have b143:=(b141.ext e135).oth (Ne.symm (nn136 _ _ b141.1)) {cs:=r113.cs}
   refine⟨zX (qI (qS _ _ (H.length) 0 rfl rfl ((b140).1.trans (b101).1.symm)) (zX (qH))),?_⟩
   by_cases h144:r114<(0:Int)
   ·have p151:=PlN.extW p124 e135
    have p152:=PlN.putW (g':={cs:=r113.cs}) p151 b134
    obtain⟨w145,x146,Z147,c148,p149,o150⟩:=jL p152 bl127 (l53.length)
    rw[G130.back] at p149
    try simp only[zQ,h144]
    refine qF rfl c148 ?_
    have S153:=S138.put b134 {cs:=r113.cs}
    have bl158:=bl55
    have rt159:=rt56
    obtain⟨cs156,C154,p155⟩:=S153.w.arC rfl p152 p149 o150 ⟨bl158,rt159⟩
    have hx160:=p155.2.1
    try simp only[↓zP,zQ,↓qC]
    have S162:=(S153.chg C154).up (M:=N+5) (by omega)
    exact⟨_,_,rfl,S162.w,S162.o,⟨by decide,by decide⟩⟩
   ·try simp only[zQ,h144]
    refine zD [(3,0),(5,0)] ?_
    have S163:=S138.put b134 {cs:=r113.cs}
    have sr164:=S163.w.at_
    have hx165:=C73.cc _ _ (by decide) hx4
    have hx166:=C126.cc _ _ (by decide) hx165
    have c169:=(b134.put {cs:=r113.cs}).1
    have ra170:=fun (o:Bool)=>r113.rdA (m:=23) rfl o
    have hl174:=(((hl5.ext e21).put (g':={cs:=p14.cs}) hx4 b20).ext e37).put (g':={cs:=[m45,m29,(3:Int),m32]}) hx4 b36
    have hl179:=((((hl174.chg C73 (by decide) hx4).ext e109).chg C126 (by decide) hx165).ext e135).put (g':={cs:=r113.cs}) hx166 b134
    obtain⟨Z183,l184,hZ185,e186,e187,hp188,ot189,hl190,C191⟩:=S163.w.stRow (k:=1) rfl hx166 hl179 rfl hp15 r113 (by rw[List.length_set];exact pl6)
    have wr192:uJ true 23 ((Z116++[{cs:=(Rw.zero kClient).cs}]:qE).set (Z116.length) {cs:=r113.cs}) q12 (some {cs:=rows Rw.cs l3}) (j10*23) (.agg r113.cs)=some Z183:=by rw[hZ185];exact wr_row xI hb9 q12 r113
    have pl193:=pl6;rw[←e187] at pl193
    have hb194:j10<l184.length:=by omega
    have k195:(j10:Int)<(l184.length:Int):=by omega
    have hx196:=hx166;rw[←e187] at hx196
    have hl197:=hl190;rw[←e187] at hl197
    try simp only[↓zP,zQ,qJ,c169,ra170,↓qC,sr164,(qL hx166),k16,k17,qB,(hl179.at),wr192]
    refine⟨zX (zX (qH)),?_⟩
    have S198:=S163.chg C191
    have sr199:=S198.w.at_
    have hx203:=C191.cc _ _ (by decide) hx129
    obtain⟨c205,L206,y207,Z208,c209,e210,sl211,li212⟩:=vG (OwnN.rd (PlN.chg (PlN.putW (g':={cs:=r113.cs}) (PlN.extW p124 e135) b134) C191 (by decide)).2.2.1) (by omega) (r114)
    try simp only[zQ,sr199,(yY hx203)]
    refine qF rfl c209 ?_
    have w214:=li212.wc
    obtain⟨a215,a216,la217⟩:=la132 (by omega)
    obtain⟨rfl,rfl⟩:=LetterIs.two li212 (.inl la217)
    obtain⟨_,_,q218,a222,o219,e226,e227,h221,hq220,w224,w225,w223⟩:=uQ sl211 li212 (by decide)
    cases e226
    subst e227
    have b228:=S198.made e210 hq220 h221
    try simp only[↓zP,zQ,↓qC]
    refine zD [(4,0),(4,16),(7,0),(10,0),(13,0)] ?_
    have S229:=S198.ext e210
    have sr230:=S229.w.at_
    obtain⟨x231,l232,hx233,hl234,pl235⟩:=S229.w.gO 17 rfl
    have o236:=hl234.one
    have b238:=b143.only C191.o
    have c240:=(b238.ext e210).1
    have rf241:=p14.rdI (j:=0) rfl
    have rf242:=p14.rdI (j:=11) rfl
    have c243:=b228.1
    obtain⟨r244,Z245,c246,e247⟩:=noteW S229.w (by omega) (p14.int 0) (p14.int 11) (a216) (r63) (p14.w64 0 rfl) (p14.w64 11 rfl) w225 w81
    try simp -implicitDefEqProofs only[↓zP,zQ,Nat.reduceLT,qJ,Int.reduceLE,Int.reduceLT,Int.reduceToNat,Nat.reduceAdd,c243,c240,rf242,rf241,sr230,(qL hx233)]
    refine qF rfl c246 ?_
    have hl249:r244.cs.length=7:=r244.cs_len
    have S250:=S229.ext e247
    obtain⟨b251,e252,nn253⟩:=S250.alloc (i:=Z245.length) (by simp) {cs:=r244.cs}
    have S255:=(S250.ext e252).up (M:=N+1) (by omega)
    obtain⟨x258,G259,Z260,cs261,ap262,o263,gr264,wr265,hx266,hl267,C268⟩:=S255.w.apC (k:=17) apS36 apN36 xG rfl hx233 ((hl234.ext e247).ext e252) (xL xG (a:=r244) b251.1) (by simp only[List.length_cons,List.length_nil];omega) (by simp only[List.length_append,List.length_cons,List.length_nil];omega)
    obtain⟨l269,e270⟩:∃ l,l=l232++[r244]:=⟨_,rfl⟩
    rw[←e270] at hl267
    have pl271:l269.length=l232.length+1:=by rw[e270,List.length_append];rfl
    try simp only[↓zP,zQ,hl249,qJ,↓qC,Rw.ones,ap262,gr264,wr265]
    have S278:=S255.chg C268
    refine⟨zX (qI (qS _ _ _ _ rfl rfl ((S250.w.at_).trans (S229.w.at_).symm)) (zX (zX (zX (qH))))),?_⟩
    have sr279:=S278.w.at_
    obtain⟨x280,l281,hx282,hl283,pl284⟩:=S278.w.gO 2 rfl
    obtain⟨pl285,pw286⟩:=pl284
    have o287:=hl283.one
    have hb289:j10<l281.length:=by omega
    obtain⟨q290,xe291,_⟩:=hl283.get hb289
    subst xe291
    obtain⟨p292,hp293⟩:∃ p,l281[j10]?=some p:=⟨_,List.getElem?_eq_getElem hb289⟩
    have w294:=pw286 _ (List.mem_of_getElem? hp293)
    have k295:(0:Int)≤(j10:Int):=by omega
    have k296:(j10:Int)<(l281.length:Int):=by omega
    have re298:=fun (o:Bool)(kk:Nat)=>rd_num (k:=kk) hp293 o
    obtain⟨cs299,Z300,c301,W302,O303⟩:=sayW S278.w (by omega) (p292) (99) (r114) w294 ⟨by decide,by decide⟩ w131
    try simp only[zQ,sr279,(qL hx282),k295,k296,qB,(hl283.at),re298]
    refine qF rfl c301 ?_
    try simp only[↓zP,zQ,↓qC]
    have S305:=S278.call W302 O303
    have S306:=S305.up (M:=N+5) (by omega)
    exact⟨_,_,rfl,S306.w,S306.o,⟨by decide,by decide⟩⟩
 ·have S307:=S40.put b36 {cs:=[p14.int 10,m29,(3:Int),m32]}
  have sr308:=S307.w.at_
  obtain⟨x309,l310,p311,bl312,rt313⟩:=S307.ar rfl
  have hx314:=p311.2.1
  have ln316:=fun e=>OwnF.len e p311.2.2.1
  have G317:=Grw.refl l310
  try simp -implicitDefEqProofs only[↓zP,zQ,↓qC,qJ,vB,Int.reduceEq,hm30,hm33,hm42,h44,Nat.reduceAdd,Rw.ones,c23,sr1,rx8,k16,k17,qB,hq18,re19,wr25,c27,rf28,xZ,xY,sr308,(qL hx314),ln316]
  refine zD [(3,0)] ?_
  have b318:=b36.put {cs:=[p14.int 10,m29,(3:Int),m32]}
  have c319:=b318.1
  obtain⟨r320,l321,x322,Z323,c324,p325,o326,g327,f328⟩:=packetG p311 bl312 (p14.int 10) (m29) (3) (m32)
  try simp -implicitDefEqProofs only[↓zP,zQ,qJ,c319,Nat.reduceAdd]
  refine qF rfl c324 ?_
  have g329:=And.intro g327 trivial
  have G333:=g329.1
  have bl334:=G333.2.1 bl312
  have rt335:=G333.2.2 rt313
  obtain⟨cs332,C330,p331⟩:=S307.w.arC rfl p311 p325 o326 ⟨bl334,rt335⟩
  have G336:=G317.trans G333
  have hx337:=p331.2.1
  have w338:W64 r320:=by have h:=f328;unfold W64;omega
  try simp only[↓zP,zQ,↓qC,qJ]
  refine⟨zX (qH),?_⟩
  by_cases h339:r320<(0:Int)
  ·obtain⟨w340,x341,Z342,c343,p344,o345⟩:=jL p331 bl334 (l310.length)
   rw[G336.back] at p344
   try simp only[zQ,h339]
   refine qF rfl c343 ?_
   have S346:=S307.chg C330
   have bl351:=bl312
   have rt352:=rt313
   obtain⟨cs349,C347,p348⟩:=S346.w.arC rfl p331 p344 o345 ⟨bl351,rt352⟩
   have hx353:=p348.2.1
   try simp only[↓zP,zQ,↓qC]
   have S355:=(S346.chg C347).up (M:=N+5) (by omega)
   exact⟨_,_,rfl,S355.w,S355.o,⟨by decide,by decide⟩⟩
  ·try simp only[zQ,h339]
   refine zD [(3,0),(3,9),(7,0)] ?_
   have b357:=(b26.ext e37).oth (Ne.symm (nn38 _ _ b26.1)) {cs:=[p14.int 10,m29,(3:Int),m32]}
   have b358:=b357.only C330.o
   have c359:=b358.1
   have ra360:=fun (o:Bool)=>p14.rdA (m:=23) rfl o
   have rf361:=p14.rdI (j:=11) rfl
   have S362:=S307.chg C330
   obtain⟨r363,Z364,c365,e366,f367⟩:=cidW S362.w (by omega) (p14.int 11) (p14.w64 11 rfl)
   try simp -implicitDefEqProofs only[↓zP,zQ,qJ,c359,ra360,Nat.reduceAdd,rf361]
   refine qF rfl c365 ?_
   have w368:=f367
   have S369:=S362.ext e366
   obtain⟨r370,r371,x379,l380,cs372,Z373,c374,C383,p381,G382,f377⟩:=sayCW S369.w (by omega) (PlN.extW p331 e366) bl334 rt335 (r363) (r320) w368 w338 p14
   try simp only[↓zP,zQ]
   refine qF rfl c374 ?_
   have bl384:=G382.2.1 bl334
   have rt385:=G382.2.2 rt335
   have hx386:=p381.2.1
   have G387:=G336.trans G382
   obtain⟨w388,la389⟩:=f377
   have S390:=S369.chg C383
   obtain⟨b391,e392,nn393⟩:=S390.alloc (i:=Z373.length) (by simp) {cs:=(Rw.zero kClient).cs}
   have c394:=b391.1
   have S395:=S390.ext e392
   have wr396:=fun (H:qE)(r:Nat)=>Rw.wrA (Rw.zero kClient) r370 (m:=23) rfl H r
   try simp only[↓zP,zQ,vB,↓qC,qJ,Rw.ones,c394,wr396]
   have b397:=b358.ext e366
   have b398:=b397.only C383.o
   have b400:=(b398.ext e392).oth (Ne.symm (nn393 _ _ b398.1)) {cs:=r370.cs}
   refine⟨zX (qI (qS _ _ (H.length) 0 rfl rfl ((b397).1.trans (b358).1.symm)) (zX (qH))),?_⟩
   by_cases h401:r371<(0:Int)
   ·have p408:=PlN.extW p381 e392
    have p409:=PlN.putW (g':={cs:=r370.cs}) p408 b391
    obtain⟨w402,x403,Z404,c405,p406,o407⟩:=jL p409 bl384 (l310.length)
    rw[G387.back] at p406
    try simp only[zQ,h401]
    refine qF rfl c405 ?_
    have S410:=S395.put b391 {cs:=r370.cs}
    have bl415:=bl312
    have rt416:=rt313
    obtain⟨cs413,C411,p412⟩:=S410.w.arC rfl p409 p406 o407 ⟨bl415,rt416⟩
    have hx417:=p412.2.1
    try simp only[↓zP,zQ,↓qC]
    have S419:=(S410.chg C411).up (M:=N+5) (by omega)
    exact⟨_,_,rfl,S419.w,S419.o,⟨by decide,by decide⟩⟩
   ·try simp only[zQ,h401]
    refine zD [(3,0),(5,0)] ?_
    have S420:=S395.put b391 {cs:=r370.cs}
    have sr421:=S420.w.at_
    have hx422:=C330.cc _ _ (by decide) hx4
    have hx423:=C383.cc _ _ (by decide) hx422
    have c426:=(b391.put {cs:=r370.cs}).1
    have ra427:=fun (o:Bool)=>r370.rdA (m:=23) rfl o
    have hl431:=(((hl5.ext e21).put (g':={cs:=p14.cs}) hx4 b20).ext e37).put (g':={cs:=[p14.int 10,m29,(3:Int),m32]}) hx4 b36
    have hl436:=((((hl431.chg C330 (by decide) hx4).ext e366).chg C383 (by decide) hx422).ext e392).put (g':={cs:=r370.cs}) hx423 b391
    obtain⟨Z440,l441,hZ442,e443,e444,hp445,ot446,hl447,C448⟩:=S420.w.stRow (k:=1) rfl hx423 hl436 rfl hp15 r370 (by rw[List.length_set];exact pl6)
    have wr449:uJ true 23 ((Z373++[{cs:=(Rw.zero kClient).cs}]:qE).set (Z373.length) {cs:=r370.cs}) q12 (some {cs:=rows Rw.cs l3}) (j10*23) (.agg r370.cs)=some Z440:=by rw[hZ442];exact wr_row xI hb9 q12 r370
    have pl450:=pl6;rw[←e444] at pl450
    have hb451:j10<l441.length:=by omega
    have k452:(j10:Int)<(l441.length:Int):=by omega
    have hx453:=hx423;rw[←e444] at hx453
    have hl454:=hl447;rw[←e444] at hl454
    try simp only[↓zP,zQ,qJ,c426,ra427,↓qC,sr421,(qL hx423),k16,k17,qB,(hl436.at),wr449]
    refine⟨zX (zX (qH)),?_⟩
    have S455:=S420.chg C448
    have sr456:=S455.w.at_
    have hx460:=C448.cc _ _ (by decide) hx386
    obtain⟨c462,L463,y464,Z465,c466,e467,sl468,li469⟩:=vG (OwnN.rd (PlN.chg (PlN.putW (g':={cs:=r370.cs}) (PlN.extW p381 e392) b391) C448 (by decide)).2.2.1) (by omega) (r371)
    try simp only[zQ,sr456,(yY hx460)]
    refine qF rfl c466 ?_
    have w471:=li469.wc
    obtain⟨a472,a473,la474⟩:=la389 (by omega)
    obtain⟨rfl,rfl⟩:=LetterIs.two li469 (.inl la474)
    obtain⟨_,_,q475,a479,o476,e483,e484,h478,hq477,w481,w482,w480⟩:=uQ sl468 li469 (by decide)
    cases e483
    subst e484
    have b485:=S455.made e467 hq477 h478
    try simp only[↓zP,zQ,↓qC]
    refine zD [(4,0),(4,16),(7,0),(10,0),(13,0)] ?_
    have S486:=S455.ext e467
    have sr487:=S486.w.at_
    obtain⟨x488,l489,hx490,hl491,pl492⟩:=S486.w.gO 17 rfl
    have o493:=hl491.one
    have b495:=b400.only C448.o
    have c497:=(b495.ext e467).1
    have rf498:=p14.rdI (j:=0) rfl
    have rf499:=p14.rdI (j:=11) rfl
    have c500:=b485.1
    obtain⟨r501,Z502,c503,e504⟩:=noteW S486.w (by omega) (p14.int 0) (p14.int 11) (a473) (r320) (p14.w64 0 rfl) (p14.w64 11 rfl) w482 w338
    try simp -implicitDefEqProofs only[↓zP,zQ,Nat.reduceLT,qJ,Int.reduceLE,Int.reduceLT,Int.reduceToNat,Nat.reduceAdd,c500,c497,rf499,rf498,sr487,(qL hx490)]
    refine qF rfl c503 ?_
    have hl506:r501.cs.length=7:=r501.cs_len
    have S507:=S486.ext e504
    obtain⟨b508,e509,nn510⟩:=S507.alloc (i:=Z502.length) (by simp) {cs:=r501.cs}
    have S512:=(S507.ext e509).up (M:=N+1) (by omega)
    obtain⟨x515,G516,Z517,cs518,ap519,o520,gr521,wr522,hx523,hl524,C525⟩:=S512.w.apC (k:=17) apS36 apN36 xG rfl hx490 ((hl491.ext e504).ext e509) (xL xG (a:=r501) b508.1) (by simp only[List.length_cons,List.length_nil];omega) (by simp only[List.length_append,List.length_cons,List.length_nil];omega)
    obtain⟨l526,e527⟩:∃ l,l=l489++[r501]:=⟨_,rfl⟩
    rw[←e527] at hl524
    have pl528:l526.length=l489.length+1:=by rw[e527,List.length_append];rfl
    try simp only[↓zP,zQ,hl506,qJ,↓qC,Rw.ones,ap519,gr521,wr522]
    have S535:=S512.chg C525
    refine⟨zX (qI (qS _ _ _ _ rfl rfl ((S507.w.at_).trans (S486.w.at_).symm)) (zX (zX (zX (qH))))),?_⟩
    have sr536:=S535.w.at_
    obtain⟨x537,l538,hx539,hl540,pl541⟩:=S535.w.gO 2 rfl
    obtain⟨pl542,pw543⟩:=pl541
    have o544:=hl540.one
    have hb546:j10<l538.length:=by omega
    obtain⟨q547,xe548,_⟩:=hl540.get hb546
    subst xe548
    obtain⟨p549,hp550⟩:∃ p,l538[j10]?=some p:=⟨_,List.getElem?_eq_getElem hb546⟩
    have w551:=pw543 _ (List.mem_of_getElem? hp550)
    have k552:(0:Int)≤(j10:Int):=by omega
    have k553:(j10:Int)<(l538.length:Int):=by omega
    have re555:=fun (o:Bool)(kk:Nat)=>rd_num (k:=kk) hp550 o
    obtain⟨cs556,Z557,c558,W559,O560⟩:=sayW S535.w (by omega) (p549) (99) (r371) w551 ⟨by decide,by decide⟩ w388
    try simp only[zQ,sr536,(qL hx539),k552,k553,qB,(hl540.at),re555]
    refine qF rfl c558 ?_
    try simp only[↓zP,zQ,↓qC]
    have S562:=S535.call W559 O560
    have S563:=S562.up (M:=N+5) (by omega)
    exact⟨_,_,rfl,S563.w,S563.o,⟨by decide,by decide⟩⟩
end
end Go.Proofs.YtjdajobflgkebaaGreatDoor.Sim
