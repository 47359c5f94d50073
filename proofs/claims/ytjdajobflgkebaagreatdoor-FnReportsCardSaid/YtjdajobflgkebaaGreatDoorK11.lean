/- Texts of this proof, put together and made small by a program: part 11. -/
import Derived.Test.YtjdajobflgkebaaGreatDoorK10
set_option linter.all false
set_option maxRecDepth 100000
set_option maxHeartbeats 40000000
namespace Go.Proofs.YtjdajobflgkebaaGreatDoor.Sim
open Go
section
attribute [local irreducible] kO uW kR wQ
theorem halfW {H:qE}{r N:Nat}{cs:List AV}(w0:Wd H r (KW 2 2 1 N) cs)(hN:N+1≤900000)(ad he0 he1 he2 he3 he dr now:Int)(wad:W64 ad)(whe0:W64 he0)(whe1:W64 he1)(whe2:W64 he2)(whe3:W64 he3)(whe:W64 he)(wdr:W64 dr)(wnow:W64 now):∃ (tt:Int)(bb:Bool)(cs':List AV)(Z:qE),Sound Tryz.prog 157 [.ptr r 0,.ptr r 3,ad,.agg [he0,he1,he2,he3],he,dr,now] H (.tup [.sc (.int .i64 tt),.sc (.bool bb)]) Z∧Wd Z r (KW 2 2 1 (N+1)) cs'∧OnlyW H Z r cs cs'∧W64 tt:=by
 suffices h:∃ w Z,Sound Tryz.prog 157 [.ptr r 0,.ptr r 3,ad,.agg [he0,he1,he2,he3],he,dr,now] H w Z∧∃ (tt:Int)(bb:Bool)(cs':List AV),w=.tup [.sc (.int .i64 tt),.sc (.bool bb)]∧Wd Z r (KW 2 2 1 (N+1)) cs'∧OnlyW H Z r cs cs'∧W64 tt by
  obtain⟨w,Z,h1,tt,bb,cs',rfl,h2⟩:=h
  exact⟨tt,bb,cs',Z,h1,h2⟩
 refine zR 131 [.tmp 14,.tmp 15] Tryz.func157 ?_
 have S0:=WS.start w0
 obtain⟨b1,e2,nn3⟩:=S0.alloc (i:=H.length) (by simp) {cs:=[he0,he1,he2,he3]}
 have S4:=S0.ext e2
 have sr5:=S4.w.at_
 obtain⟨x6,l7,hx8,hl9,pl10⟩:=S4.w.gO 5 rfl
 have rx12:=qL hx8
 have ln13:=fun e=>hl9.len e
 by_cases h14:(3:Int)≤(l7.length:Int)
 ·try simp -implicitDefEqProofs only[↓zP,zQ,↓qC,qJ,Nat.reduceAdd,sr5,rx12,ln13,h14]
  have S15:=S4.up (M:=N+1) (by omega)
  exact⟨_,_,_,rfl,S15.w,S15.o,⟨by decide,by decide⟩⟩
 ·obtain⟨t16,c17,ht18⟩:=zH (dr) (1000) (900000)
  try simp -implicitDefEqProofs only[↓zP,zQ,↓qC,qJ,Nat.reduceAdd,sr5,rx12,ln13,h14]
  refine qN rfl c17 ?_
  cases t16 with
  | false =>
   have k19:¬ (1000≤dr∧dr≤900000):=fun h=>by have:=ht18.2 h;cases this
   try simp only[↓zP,zQ,qA,↓qC]
   have S20:=S4.up (M:=N+1) (by omega)
   exact⟨_,_,_,rfl,S20.w,S20.o,⟨by decide,by decide⟩⟩
  | true =>
   obtain⟨v22,hx23,w24⟩:=S4.w.gI 4 rfl
   have rx25:=qL hx23
   by_cases h26:(9999:Int)≤v22
   ·try simp -implicitDefEqProofs only[↓zP,zQ,qA,qJ,↓qC,Nat.reduceAdd,sr5,rx25,h26]
    have S27:=S4.up (M:=N+1) (by omega)
    exact⟨_,_,_,rfl,S27.w,S27.o,⟨by decide,by decide⟩⟩
   ·obtain⟨x28,l29,p30,bl31,rt32⟩:=S4.ar rfl
    obtain⟨v34,l35,x36,Z37,c38,p39,o40,g41⟩:=xK p30 bl31 (IntKind.i64.wrap (dr+1))
    try simp -implicitDefEqProofs only[↓zP,zQ,qA,qJ,↓qC,Nat.reduceAdd,sr5,rx25,h26]
    refine qF rfl c38 ?_
    have G45:=g41.1
    have bl46:=G45.2.1 bl31
    have rt47:=G45.2.2 rt32
    obtain⟨cs44,C42,p43⟩:=S4.w.arC rfl p30 p39 o40 ⟨bl46,rt47⟩
    obtain⟨v50,l51,x52,Z53,c54,p55,o56,g57⟩:=xK p43 bl46 (dr)
    try simp only[↓zP,zQ,↓qC]
    refine qF rfl c54 ?_
    have S58:=S4.chg C42
    have G62:=g57.1
    have bl63:=G62.2.1 bl46
    have rt64:=G62.2.2 rt47
    obtain⟨cs61,C59,p60⟩:=S58.w.arC rfl p43 p55 o56 ⟨bl63,rt64⟩
    obtain⟨v67,l68,x69,Z70,c71,p72,o73,g74⟩:=wG p60 bl63 (6) (v50) (0)
    try simp only[↓zP,zQ,↓qC]
    refine qF rfl c71 ?_
    have S75:=S58.chg C59
    have G79:=g74.1
    have bl80:=G79.2.1 bl63
    have rt81:=G79.2.2 rt64
    obtain⟨cs78,C76,p77⟩:=S75.w.arC rfl p60 p72 o73 ⟨bl80,rt81⟩
    obtain⟨v84,l85,x86,Z87,c88,p89,o90,g91⟩:=serverG p77 bl80 (v34) (v67)
    try simp only[↓zP]
    refine qF rfl c88 ?_
    have S92:=S75.chg C76
    have G96:=g91.1
    have bl97:=G96.2.1 bl80
    have rt98:=G96.2.2 rt81
    obtain⟨cs95,C93,p94⟩:=S92.w.arC rfl p77 p89 o90 ⟨bl97,rt98⟩
    obtain⟨v101,l102,x103,Z104,c105,p106,o107,g108⟩:=wG p94 bl97 (2) (he) (v84)
    try simp only[↓zP,zQ,↓qC]
    refine qF rfl c105 ?_
    have S109:=S92.chg C93
    have G113:=g108.1
    have bl114:=G113.2.1 bl97
    have rt115:=G113.2.2 rt98
    obtain⟨cs112,C110,p111⟩:=S109.w.arC rfl p94 p106 o107 ⟨bl114,rt115⟩
    try simp only[↓zP,zQ,↓qC]
    refine zD [(3,0),(5,0),(7,0),(11,0)] ?_
    have b122:=((((b1.only C42.o).only C59.o).only C76.o).only C93.o).only C110.o
    have S124:=S109.chg C110
    have sr125:=S124.w.at_
    obtain⟨v126,hx127,w128⟩:=S124.w.gI 3 rfl
    obtain⟨r130,l131,x132,Z133,c134,p135,o136,g137,f138⟩:=handoG p111 bl114 (v50) (he3) (he0) (he1) (v126) (v101)
    try simp -implicitDefEqProofs only[↓zP,zQ,qJ,Nat.reduceAdd,sr125,(qL hx127),(b122.1)]
    refine qF rfl c134 ?_
    have g139:=And.intro g137 trivial
    have G143:=g139.1
    have bl144:=G143.2.1 bl114
    have rt145:=G143.2.2 rt115
    obtain⟨cs142,C140,p141⟩:=S124.w.arC rfl p111 p135 o136 ⟨bl144,rt145⟩
    have w147:W64 r130:=by have h:=f138;unfold W64;omega
    try simp only[↓zP,zQ,↓qC]
    refine⟨zX (zX (zX (zX (qH)))),?_⟩
    refine zD [(3,0),(7,0)] ?_
    have b148:=b122.only C140.o
    have S150:=S124.chg C140
    have sr151:=S150.w.at_
    obtain⟨v154,l155,x156,Z157,c158,p159,o160,g161⟩:=partG p141 bl144 (2) (r130) (he0) (v126) (v101)
    try simp -implicitDefEqProofs only[↓zP,zQ,qJ,Nat.reduceAdd,sr151,(qL (C140.cc _ _ (by decide) hx127)),(b148.1)]
    refine qF rfl c158 ?_
    have G165:=g161.1
    have bl166:=G165.2.1 bl144
    have rt167:=G165.2.2 rt145
    obtain⟨cs164,C162,p163⟩:=S150.w.arC rfl p141 p159 o160 ⟨bl166,rt167⟩
    try simp only[↓zP,zQ,↓qC]
    refine⟨zX (zX (qH)),?_⟩
    obtain⟨v170,l171,x172,Z173,c174,p175,o176,g177,i178⟩:=uD p163 bl166 (73) [v84,v154] 2 rfl (by decide)
    refine qF rfl c174 ?_
    have S179:=S150.chg C162
    have G183:=g177.1
    have bl184:=G183.2.1 bl166
    have rt185:=G183.2.2 rt167
    obtain⟨cs182,C180,p181⟩:=S179.w.arC rfl p163 p175 o176 ⟨bl184,rt185⟩
    have w187:W64 v170:=by have h:=g177.2;unfold W64;omega
    obtain⟨v188,l189,x190,Z191,c192,p193,o194,g195⟩:=wG p181 bl184 (2) (v101) (v154)
    try simp only[↓zP,zQ,↓qC]
    refine qF rfl c192 ?_
    have S196:=S179.chg C180
    have G200:=g195.1
    obtain⟨cs199,C197,p198⟩:=S196.w.arC rfl p181 p193 o194 ⟨(G200.2.1 bl184),(G200.2.2 rt185)⟩
    have w204:W64 v188:=by have h:=g195.2;unfold W64;omega
    by_cases h205:v170<(0:Int)
    ·try simp only[↓zP,zQ,↓qC,h205]
     have S207:=(S196.chg C197).up (M:=N+1) (by omega)
     exact⟨_,_,_,rfl,S207.w,S207.o,⟨by decide,by decide⟩⟩
    ·by_cases h208:v188<(0:Int)
     ·try simp only[↓zP,zQ,↓qC,h205,h208,qA]
      have S210:=(S196.chg C197).up (M:=N+1) (by omega)
      exact⟨_,_,_,rfl,S210.w,S210.o,⟨by decide,by decide⟩⟩
     ·try simp only[↓zP,zQ,↓qC,h205,h208,qA]
      refine zD [(4,0),(8,0),(11,0),(13,0)] ?_
      have S211:=S196.chg C197
      have sr212:=S211.w.at_
      have hx213:=C42.cc _ _ (by decide) hx8
      have hx214:=C59.cc _ _ (by decide) hx213
      have hx215:=C76.cc _ _ (by decide) hx214
      have hx216:=C93.cc _ _ (by decide) hx215
      have hx217:=C110.cc _ _ (by decide) hx216
      have hx218:=C140.cc _ _ (by decide) hx217
      have hx219:=C162.cc _ _ (by decide) hx218
      have hx220:=C180.cc _ _ (by decide) hx219
      have hx221:=C197.cc _ _ (by decide) hx220
      have hx231:=C197.cc _ _ (by decide) (C180.cc _ _ (by decide) (C162.cc _ _ (by decide) (C140.cc _ _ (by decide) (C110.cc _ _ (by decide) (C93.cc _ _ (by decide) (C76.cc _ _ (by decide) (C59.cc _ _ (by decide) (C42.cc _ _ (by decide) hx23))))))))
      have bd237:qT Tryz.prog 65 [(0,.sc (.int .i64 (v22))),(1,.sc (.int .i64 (ad))),(2,.sc (.int .i64 (1))),(3,.sc (.int .i64 (he1))),(4,.sc (.int .i64 (he0))),(5,.sc (.int .i64 (he))),(6,.sc (.int .i64 (v188))),(8,.sc (.int .i64 (r130))),(9,.sc (.int .i64 (v170))),(11,.sc (.int .i64 (now)))]=some (.agg [v22,ad,(1:Int),he1,he0,he,v188,(0:Int),r130,v170,(0:Int),(0:Int),(0:Int),(0:Int),(0:Int),(0:Int),(0:Int),(0:Int),(0:Int),now]):=by simp[qT,yR,yT,qW,yF,yI,yO,Tryz.underlying65,zero65,qR,qO,tyOk46,cells46]
      obtain⟨p238,hp239⟩:=((RowOk.int w24 (RowOk.int wad (RowOk.int ⟨by decide,by decide⟩ (RowOk.int whe1 (RowOk.int whe0 (RowOk.int whe (RowOk.int w204 (RowOk.int ⟨by decide,by decide⟩ (RowOk.int w147 (RowOk.int w187 (RowOk.int ⟨by decide,by decide⟩ (RowOk.int ⟨by decide,by decide⟩ (RowOk.int ⟨by decide,by decide⟩ (RowOk.int ⟨by decide,by decide⟩ (RowOk.int ⟨by decide,by decide⟩ (RowOk.int ⟨by decide,by decide⟩ (RowOk.int ⟨by decide,by decide⟩ (RowOk.int ⟨by decide,by decide⟩ (RowOk.int ⟨by decide,by decide⟩ (RowOk.int wnow RowOk.nil)))))))))))))))))))):RowOk kSess [.sc (.int .i64 (v22)),.sc (.int .i64 (ad)),.sc (.int .i64 (1)),.sc (.int .i64 (he1)),.sc (.int .i64 (he0)),.sc (.int .i64 (he)),.sc (.int .i64 (v188)),.sc (.int .i64 (0)),.sc (.int .i64 (r130)),.sc (.int .i64 (v170)),.sc (.int .i64 (0)),.sc (.int .i64 (0)),.sc (.int .i64 (0)),.sc (.int .i64 (0)),.sc (.int .i64 (0)),.sc (.int .i64 (0)),.sc (.int .i64 (0)),.sc (.int .i64 (0)),.sc (.int .i64 (0)),.sc (.int .i64 (now))])
      rw[←hp239] at bd237
      have hl240:p238.cs.length=20:=p238.cs_len
      obtain⟨b241,e242,nn243⟩:=S211.alloc (i:=Z191.length) (by simp) {cs:=p238.cs}
      have S245:=(S211.ext e242).up (M:=N+1) (by omega)
      obtain⟨x256,G257,Z258,cs259,ap260,o261,gr262,wr263,hx264,hl265,C266⟩:=S245.w.apC (k:=5) apS29 apN29 yK rfl hx221 ((((((((((hl9.chg C42 (by decide) hx8).chg C59 (by decide) hx213).chg C76 (by decide) hx214).chg C93 (by decide) hx215).chg C110 (by decide) hx216).chg C140 (by decide) hx217).chg C162 (by decide) hx218).chg C180 (by decide) hx219).chg C197 (by decide) hx220).ext e242) (xL yK (a:=p238) b241.1) (by simp only[List.length_cons,List.length_nil];omega) (by simp only[List.length_append,List.length_cons,List.length_nil];omega)
      obtain⟨l267,e268⟩:∃ l,l=l7++[p238]:=⟨_,rfl⟩
      rw[←e268] at hl265
      try simp -implicitDefEqProofs only[↓zP,zQ,qJ,par6,↓qC,Nat.reduceAdd,((((b148.only C162.o).only C180.o).only C197.o).1),sr212,(qL hx231),bd237,hl240,Rw.ones,(qL hx221),ap260,gr262,wr263]
      refine⟨zX (zX (zX (zX (qH)))),?_⟩
      have S276:=S245.chg C266
      have sr277:=S276.w.at_
      obtain⟨Z280,cs281,wr282,hx283,C284⟩:=S276.w.stI (k:=4) (z:=IntKind.i64.wrap (v22+1)) rfl (W64.wrap _)
      try simp only[zQ,sr277,(qL (C266.cc _ _ (by decide) hx231)),wr282]
      have S285:=S276.chg C284
      exact⟨_,_,_,rfl,S285.w,S285.o,w187⟩
theorem openW {H:qE}{r N:Nat}{cs:List AV}(w0:Wd H r (KW 2 2 1 N) cs)(hN:N+60≤900000){x0:AV}{l0:List (Rw qK)}(hP:PlN H r 0 cs x0 l0)(hl0:l0.length≤3000)(rt0:rt l0){x5:AV}{l5:List (Rw kSess)}(hx5:cs[5]?=some x5)(hl5:OwnX Rw.cs 20 H x5 l5)(pl5:l5.length≤64)(i part now:Int)(wi:W64 i)(wpart:W64 part)(wnow:W64 now)(hi:0≤i∧i<(l5.length:Int)):∃ (tt:Int)(bb:Bool)(cs':List AV)(Z:qE),Sound Tryz.prog 159 [.ptr r 0,.ptr r 3,i,part,now] H (.tup [.sc (.int .i64 tt),.sc (.bool bb)]) Z∧Wd Z r (KW 2 2 1 (N+60)) cs'∧OnlyW H Z r cs cs'∧W64 tt:=by
 suffices h:∃ w Z,Sound Tryz.prog 159 [.ptr r 0,.ptr r 3,i,part,now] H w Z∧∃ (tt:Int)(bb:Bool)(cs':List AV),w=.tup [.sc (.int .i64 tt),.sc (.bool bb)]∧Wd Z r (KW 2 2 1 (N+60)) cs'∧OnlyW H Z r cs cs'∧W64 tt by
  obtain⟨w,Z,h1,tt,bb,cs',rfl,h2⟩:=h
  exact⟨tt,bb,cs',Z,h1,h2⟩
 refine zR 131 [.tmp 10,.tmp 11] Tryz.func159 ?_
 have S0:=WS.start w0
 have sr1:=S0.w.at_
 obtain⟨j4,hj5,hb3⟩:∃ j:Nat,i=(j:Int)∧j<l5.length:=⟨Int.toNat i,by omega,by omega⟩
 subst hj5
 obtain⟨q6,xe7,_⟩:=hl5.get hb3
 subst xe7
 obtain⟨p8,hp9⟩:∃ p,l5[j4]?=some p:=⟨_,List.getElem?_eq_getElem hb3⟩
 have k10:(0:Int)≤(j4:Int):=by omega
 have k11:(j4:Int)<(l5.length:Int):=by omega
 obtain⟨b14,e15,nn16⟩:=S0.alloc (i:=H.length) (by simp) {cs:=(Rw.zero kSess).cs}
 have wr19:=fun (H:qE)(r:Nat)=>Rw.wrA (Rw.zero kSess) p8 (m:=20) rfl H r
 have b20:=b14.put {cs:=p8.cs}
 have rf22:=p8.rdI (j:=8) rfl
 have rf23:=p8.rdI (j:=4) rfl
 have rf24:=p8.rdI (j:=3) rfl
 have rf25:=p8.rdI (j:=6) rfl
 have p27:=PlN.putW (g':={cs:=p8.cs}) (PlN.extW hP e15) b14
 obtain⟨r28,l29,x30,Z31,c32,p33,o34,g35⟩:=okG p27 hl0 (1) (p8.int 8) (p8.int 4) (p8.int 3) (p8.int 6) (part)
 try simp -implicitDefEqProofs only[↓zP,zQ,↓qC,qJ,z65,Rw.ones,(b14.1),Nat.reduceAdd,sr1,(qL hx5),k10,k11,qB,(hl5.at),(xD yK hp9),wr19,(b20.1),rf22,rf23,rf24,rf25]
 refine qF rfl c32 ?_
 have g37:=And.intro g35 trivial
 have S38:=(S0.ext e15).put b14 {cs:=p8.cs}
 have G42:=g37.1
 have bl43:=G42.2.1 hl0
 have rt44:=G42.2.2 rt0
 obtain⟨cs41,C39,p40⟩:=S38.w.arC rfl p27 p33 o34 ⟨bl43,rt44⟩
 cases r28 with
 | false =>
  try simp only[↓zP,zQ,↓qC]
  have S48:=(S38.chg C39).up (M:=N+60) (by omega)
  exact⟨_,_,_,rfl,S48.w,S48.o,⟨by decide,by decide⟩⟩
 | true =>
  try simp only[↓zP,zQ,↓qC]
  refine zD [(3,0),(5,0)] ?_
  have S49:=S38.chg C39
  have sr50:=S49.w.at_
  obtain⟨x51,l52,hx53,hl54,pl55⟩:=S49.w.gO 6 rfl
  have b58:=b20.only C39.o
  have rf60:=p8.rdI (j:=0) rfl
  obtain⟨q61,m62,v63,t64,Z65,c66,e67,u68,hq69,ml70,w71⟩:=leasedE hl54 (by omega) (p8.int 0) (p8.w64 0 rfl)
  try simp -implicitDefEqProofs only[↓zP,zQ,qJ,(b58.1),rf60,Nat.reduceAdd,sr50,(qL hx53)]
  refine qF rfl c66 ?_
  try simp only[↓zP,zQ,↓qC]
  refine⟨zX (zX (qH)),?_⟩
  have b73:=b58.ext e67
  have rf75:=p8.rdI (j:=6) rfl
  have p76:=PlN.extW p40 e67
  obtain⟨v77,l78,x79,Z80,c81,p82,o83,g84⟩:=wG p76 bl43 (2) (p8.int 6) (part)
  try simp only[zQ,(b73.1),rf75]
  refine qF rfl c81 ?_
  have S85:=S49.ext e67
  have G89:=g84.1
  have bl90:=G89.2.1 bl43
  have rt91:=G89.2.2 rt44
  obtain⟨cs88,C86,p87⟩:=S85.w.arC rfl p76 p82 o83 ⟨bl90,rt91⟩
  have w94:W64 v77:=by have h:=g84.2;unfold W64;omega
  have b95:=b73.only C86.o
  have rf97:=p8.rdI (j:=8) rfl
  obtain⟨v98,l99,x100,Z101,c102,p103,o104,g105⟩:=ackG p87 bl90 (p8.int 8) (v63) (v77)
  try simp only[↓zP,zQ,↓qC,(b95.1),rf97]
  refine qF rfl c102 ?_
  have S106:=S85.chg C86
  have G110:=g105.1
  have bl111:=G110.2.1 bl90
  have rt112:=G110.2.2 rt91
  obtain⟨cs109,C107,p108⟩:=S106.w.arC rfl p87 p103 o104 ⟨bl111,rt112⟩
  obtain⟨v116,l117,x118,Z119,c120,p121,o122,g123,i124⟩:=uD p108 bl111 (75) [v98] 1 rfl (by decide)
  try simp only[↓zP,zQ]
  refine qF rfl c120 ?_
  have S125:=S106.chg C107
  have G129:=g123.1
  have bl130:=G129.2.1 bl111
  have rt131:=G129.2.2 rt112
  obtain⟨cs128,C126,p127⟩:=S125.w.arC rfl p108 p121 o122 ⟨bl130,rt131⟩
  have w134:W64 v116:=by have h:=g123.2;unfold W64;omega
  have rf138:=p8.rdI (j:=8) rfl
  obtain⟨v139,l140,x141,Z142,c143,p144,o145,g146⟩:=appG p127 bl130 (p8.int 8) (v77)
  try simp only[↓zP,zQ,↓qC,(((b95.only C107.o).only C126.o).1),rf138]
  refine qF rfl c143 ?_
  have S147:=S125.chg C126
  have G151:=g146.1
  obtain⟨cs150,C148,p149⟩:=S147.w.arC rfl p127 p144 o145 ⟨(G151.2.1 bl130),(G151.2.2 rt131)⟩
  have w156:W64 v139:=by have h:=g146.2;unfold W64;omega
  cases t64 with
  | false =>
   try simp -implicitDefEqProofs only[↓zP,zQ,↓qC,qJ,Nat.reduceAdd]
   have S158:=(S147.chg C148).up (M:=N+60) (by omega)
   exact⟨_,_,_,rfl,S158.w,S158.o,⟨by decide,by decide⟩⟩
  | true =>
   by_cases h159:v116<(0:Int)
   ·try simp -implicitDefEqProofs only[↓zP,zQ,↓qC,h159,qA,qJ,Nat.reduceAdd]
    have S161:=(S147.chg C148).up (M:=N+60) (by omega)
    exact⟨_,_,_,rfl,S161.w,S161.o,⟨by decide,by decide⟩⟩
   ·by_cases h162:v139<(0:Int)
    ·try simp -implicitDefEqProofs only[↓zP,zQ,↓qC,h159,qA,h162,qJ,Nat.reduceAdd]
     have S164:=(S147.chg C148).up (M:=N+60) (by omega)
     exact⟨_,_,_,rfl,S164.w,S164.o,⟨by decide,by decide⟩⟩
    ·have S165:=S147.chg C148
     have sr166:=S165.w.at_
     have b175:=((((S49.made e67 hq69 u68).only C86.o).only C107.o).only C126.o).only C148.o
     have S181:=S165.up (M:=N+60) (by omega)
     obtain⟨Z167,cs168,wr169,hx170,ok180,C171⟩:=S181.w.give (k:=6) rfl (C148.cc _ _ (by decide) (C126.cc _ _ (by decide) (C107.cc _ _ (by decide) (C86.cc _ _ (by decide) hx53)))) (CkOk.rows b175.1 (by omega)) b175 rfl
     have S182:=S181.give C171 b175.2.1
     have sr183:=S182.w.at_
     have hx184:=C39.cc _ _ (by decide) hx5
     have hx185:=C86.cc _ _ (by decide) hx184
     have hx186:=C107.cc _ _ (by decide) hx185
     have hx187:=C126.cc _ _ (by decide) hx186
     have hx188:=C148.cc _ _ (by decide) hx187
     have hx189:=C171.cc _ _ (by decide) hx188
     have hl192:=(hl5.ext e15).put (g':={cs:=p8.cs}) hx5 b14
     have hl199:=((((((hl192.chg C39 (by decide) hx5).ext e67).chg C86 (by decide) hx184).chg C107 (by decide) hx185).chg C126 (by decide) hx186).chg C148 (by decide) hx187).giv C171 (by decide) hx188
     obtain⟨p201,hb202,hj203,ho204⟩:=p8.putI 2 rfl (show W64 (2) from ⟨by decide,by decide⟩)
     obtain⟨Z205,l206,hZ207,e208,e209,hp210,ot211,hl212,C213⟩:=S182.w.stRow (k:=5) rfl hx189 hl199 rfl hp9 p201 (by rw[List.length_set];exact pl5)
     have wr214:uJ true 1 Z167 q6 (some {cs:=rows Rw.cs l5}) (j4*20+2) (.sc (.int .i64 (2)))=some Z205:=by rw[hZ207];exact kH yK hp9 (by decide) hb202 ⟨rfl,rfl⟩ q6
     have pl215:=pl5;rw[←e209] at pl215
     have hx219:=hx189;rw[←e209] at hx219
     have hl220:=hl212;rw[←e209] at hl220
     have S221:=S182.chg C213
     have sr222:=S221.w.at_
     obtain⟨p225,hb226,hj227,ho228⟩:=p201.putI 7 rfl (show W64 (part) from wpart)
     obtain⟨Z229,l230,hZ231,e232,e233,hp234,ot235,hl236,C237⟩:=S221.w.stRow (k:=5) rfl hx219 hl220 rfl hp210 p225 (by rw[List.length_set];exact pl215)
     have wr238:uJ true 1 Z205 q6 (some {cs:=rows Rw.cs l206}) (j4*20+7) (.sc (.int .i64 (part)))=some Z229:=by rw[hZ231];exact kH yK hp210 (by decide) hb226 ⟨rfl,rfl⟩ q6
     have pl239:=pl215;rw[←e233] at pl239
     have hx243:=hx219;rw[←e233] at hx243
     have hl244:=hl236;rw[←e233] at hl244
     have S245:=S221.chg C237
     have sr246:=S245.w.at_
     obtain⟨p249,hb250,hj251,ho252⟩:=p225.putI 6 rfl (show W64 (v77) from w94)
     obtain⟨Z253,l254,hZ255,e256,e257,hp258,ot259,hl260,C261⟩:=S245.w.stRow (k:=5) rfl hx243 hl244 rfl hp234 p249 (by rw[List.length_set];exact pl239)
     have wr262:uJ true 1 Z229 q6 (some {cs:=rows Rw.cs l230}) (j4*20+6) (.sc (.int .i64 (v77)))=some Z253:=by rw[hZ255];exact kH yK hp234 (by decide) hb250 ⟨rfl,rfl⟩ q6
     have pl263:=pl239;rw[←e257] at pl263
     have hx267:=hx243;rw[←e257] at hx267
     have hl268:=hl260;rw[←e257] at hl268
     have S269:=S245.chg C261
     have sr270:=S269.w.at_
     obtain⟨p273,hb274,hj275,ho276⟩:=p249.putI 9 rfl (show W64 (v116) from w134)
     obtain⟨Z277,l278,hZ279,e280,e281,hp282,ot283,hl284,C285⟩:=S269.w.stRow (k:=5) rfl hx267 hl268 rfl hp258 p273 (by rw[List.length_set];exact pl263)
     have wr286:uJ true 1 Z253 q6 (some {cs:=rows Rw.cs l254}) (j4*20+9) (.sc (.int .i64 (v116)))=some Z277:=by rw[hZ279];exact kH yK hp258 (by decide) hb274 ⟨rfl,rfl⟩ q6
     have pl287:=pl263;rw[←e281] at pl287
     have k290:(j4:Int)<(l278.length:Int):=by omega
     have hx291:=hx267;rw[←e281] at hx291
     have hl292:=hl284;rw[←e281] at hl292
     try simp -implicitDefEqProofs only[↓zP,zQ,↓qC,h159,qA,h162,qJ,Nat.reduceAdd,sr166,wr169,sr183,(qL hx189),k10,k11,qB,(hl199.at),wr214,sr222,(hl220.at),wr238,sr246,(hl244.at),wr262,sr270,(hl268.at),wr286]
     refine zD [(3,0),(3,7)] ?_
     have S293:=S269.chg C285
     have sr294:=S293.w.at_
     obtain⟨Z296,c297,e298⟩:=chanNewE (H:=Z277) (v139) (2)
     try simp -implicitDefEqProofs only[↓zP,zQ,qJ,Nat.reduceAdd,sr294,(qL hx291)]
     refine qF rfl c297 ?_
     have hl299:=hl292.ext e298
     have S301:=S293.ext e298
     obtain⟨p302,hb303,ho304⟩:=p273.putP (js:=kChan) (ds:=[.sc (.int .i64 (v139)),.sc (.int .i64 (2)),.sc (.int .i64 (0)),.sc (.int .i64 (0)),.sc (.int .i64 (0)),.sc (.int .i64 (-1)),.sc (.int .i64 (0)),.sc (.int .i64 (-1)),.sc (.int .i64 (0))]) 10 (RowOk.int w156 (RowOk.int ⟨by decide,by decide⟩ (RowOk.int ⟨by decide,by decide⟩ (RowOk.int ⟨by decide,by decide⟩ (RowOk.int ⟨by decide,by decide⟩ (RowOk.int ⟨by decide,by decide⟩ (RowOk.int ⟨by decide,by decide⟩ (RowOk.int ⟨by decide,by decide⟩ (RowOk.int ⟨by decide,by decide⟩ RowOk.nil))))))))) rfl (by decide)
     obtain⟨Z305,l306,hZ307,e308,e309,hp310,ot311,hl312,C313⟩:=S301.w.stRow (k:=5) rfl hx291 hl299 rfl hp282 p302 (by rw[List.length_set];exact pl287)
     have wr314:uJ true 9 Z296 q6 (some {cs:=rows Rw.cs l278}) (j4*20+10) (.agg [v139,(2:Int),(0:Int),(0:Int),(0:Int),(-1:Int),(0:Int),(-1:Int),(0:Int)])=some Z305:=by rw[hZ307];exact wr_part yK (n:=9) hp282 rfl (by decide) hb303 rfl q6
     have pl315:=pl287;rw[←e309] at pl315
     have k318:(j4:Int)<(l306.length:Int):=by omega
     have hx319:=hx291;rw[←e309] at hx319
     have hl320:=hl312;rw[←e309] at hl320
     try simp -implicitDefEqProofs only[↓zP,zQ,k10,k290,qB,↓qC,qJ,Nat.reduceAdd,(hl299.at),wr314]
     have S321:=S301.chg C313
     refine⟨zX (qI (qS _ _ _ _ rfl rfl ((S301.w.at_).trans (S293.w.at_).symm)) (qH)),?_⟩
     have sr322:=S321.w.at_
     obtain⟨p325,hb326,hj327,ho328⟩:=p302.putI 19 rfl (show W64 (now) from wnow)
     obtain⟨Z329,l330,hZ331,e332,e333,hp334,ot335,hl336,C337⟩:=S321.w.stRow (k:=5) rfl hx319 hl320 rfl hp310 p325 (by rw[List.length_set];exact pl315)
     have wr338:uJ true 1 Z305 q6 (some {cs:=rows Rw.cs l306}) (j4*20+19) (.sc (.int .i64 (now)))=some Z329:=by rw[hZ331];exact kH yK hp310 (by decide) hb326 ⟨rfl,rfl⟩ q6
     have pl339:=pl315;rw[←e333] at pl339
     have hx343:=hx319;rw[←e333] at hx343
     have hl344:=hl336;rw[←e333] at hl344
     try simp only[zQ,sr322,(qL hx319),k10,k318,qB,(hl320.at),wr338]
     have S345:=S321.chg C337
     exact⟨_,_,_,rfl,S345.w,S345.o,w134⟩
theorem clientW {H:qE}{r N:Nat}{cs:List AV}(w0:Wd H r (KW 2 2 1 N) cs)(hN:N+60≤900000)(ma mt part now:Int)(wma:W64 ma)(wmt:W64 mt)(wpart:W64 part)(wnow:W64 now):∃ (tt:Int)(bb:Bool)(cs':List AV)(Z:qE),Sound Tryz.prog 148 [.ptr r 0,.ptr r 3,.agg [ma,mt],part,now] H (.tup [.sc (.int .i64 tt),.sc (.bool bb)]) Z∧Wd Z r (KW 2 2 1 (N+60)) cs'∧OnlyW H Z r cs cs'∧W64 tt:=by
 suffices h:∃ w Z,Sound Tryz.prog 148 [.ptr r 0,.ptr r 3,.agg [ma,mt],part,now] H w Z∧∃ (tt:Int)(bb:Bool)(cs':List AV),w=.tup [.sc (.int .i64 tt),.sc (.bool bb)]∧Wd Z r (KW 2 2 1 (N+60)) cs'∧OnlyW H Z r cs cs'∧W64 tt by
  obtain⟨w,Z,h1,tt,bb,cs',rfl,h2⟩:=h
  exact⟨tt,bb,cs',Z,h1,h2⟩
 refine zR 78 [.tmp 10,.tmp 11] Tryz.func148 ?_
 have S0:=WS.start w0
 obtain⟨b1,e2,nn3⟩:=S0.alloc (i:=H.length) (by simp) {cs:=[ma,mt]}
 have S4:=S0.ext e2
 obtain⟨x6,l7,hx8,hl9,pl10⟩:=S4.w.gO 5 rfl
 try simp only[↓zP,zQ,↓qC]
 refine yL (ι:=Nat) (fun i s=>∃ (T:Nat→AV)(G:qE)(c:List AV)(v18:Int)(t19:Bool),s=⟨qY 78 T,G⟩∧Chg (H++[{cs:=[ma,mt]}]) G r (KW 2 2 1 (N+0)) (KW 2 2 1 (N+0)) cs c 0∧i≤l7.length∧W64 v18∧T 0=.ptr (r) 0∧T 1=.ptr (r) 3∧T 3=.sc (.int .i64 (part))∧T 4=.sc (.int .i64 (now))∧T 7=.ptr (H.length) 0∧T 10=.sc (.int .i64 (v18))∧T 11=.sc (.bool t19)∧T 12=.sc (.int .i64 i)) (fun i=>l7.length - i) ?_ (i:=0) ?_
 rotate_left
 ·exact⟨_,_,_,_,_,rfl,Chg.refl (S4.w) _,Nat.zero_le _,⟨by decide,by decide⟩,rfl,rfl,rfl,rfl,rfl,rfl,rfl,rfl⟩
 rintro i14 s ⟨T15,Z16,cs17,v18,t19,rfl,C30,hi29,w28,a20,a21,a22,a23,a24,a25,a26,a27⟩
 have e31:i14<l7.length→IntKind.i64.wrap ((i14:Int)+1)=((i14+1:Nat):Int):=fun h=>by rw[w64 (by omega) (by omega)];omega
 have S32:=S4.chg C30
 have sr33:=S32.w.at_
 have hx34:=C30.cc _ _ (by decide) hx8
 have rx35:=qL hx34
 have hl36:=hl9.chg C30 (by decide) hx8
 have ln37:=fun e=>hl36.len e
 by_cases h38:((i14:Int))<(l7.length:Int)
 ·have hb39:i14<l7.length:=by omega
  obtain⟨q40,xe41,_⟩:=hl36.get hb39
  subst xe41
  obtain⟨p42,hp43⟩:∃ p,l7[i14]?=some p:=⟨_,List.getElem?_eq_getElem hb39⟩
  have k44:(0:Int)≤(i14:Int):=by omega
  have hq46:=hl36.at
  have re47:=xD yK hp43
  obtain⟨b48,e49,nn50⟩:=S32.alloc (i:=Z16.length) (by simp) {cs:=(Rw.zero kSess).cs}
  have c51:=b48.1
  have S52:=S32.ext e49
  have wr53:=fun (H:qE)(r:Nat)=>Rw.wrA (Rw.zero kSess) p42 (m:=20) rfl H r
  have b54:=b48.put {cs:=p42.cs}
  have c55:=b54.1
  have rf56:=p42.rdI (j:=1) rfl
  have b57:=b1.only C30.o
  have b59:=(b57.ext e49).oth (Ne.symm (nn50 _ _ b57.1)) {cs:=p42.cs}
  have c60:=b59.1
  by_cases h61:(p42.int 1)=ma
  ·have h62:=eq_true h61
   have rf63:=p42.rdI (j:=2) rfl
   by_cases h64:(p42.int 2)=(2:Int)
   ·have h65:=eq_true h64
    have rf66:=p42.rdI (j:=7) rfl
    by_cases h67:(p42.int 7)=part
    ·have h68:=eq_true h67
     have S69:=S52.put b48 {cs:=p42.cs}
     have sr70:=S69.w.at_
     have hl72:=(hl36.ext e49).put (g':={cs:=p42.cs}) hx34 b48
     obtain⟨p74,hb75,hj76,ho77⟩:=p42.putI 19 rfl (show W64 (now) from wnow)
     obtain⟨Z78,l79,hZ80,e81,e82,hp83,ot84,hl85,C86⟩:=S69.w.stRow (k:=5) rfl hx34 hl72 rfl hp43 p74 (by rw[List.length_set];exact pl10)
     have wr87:uJ true 1 ((Z16++[{cs:=(Rw.zero kSess).cs}]:qE).set (Z16.length) {cs:=p42.cs}) q40 (some {cs:=rows Rw.cs l7}) (i14*20+19) (.sc (.int .i64 (now)))=some Z78:=by rw[hZ80];exact kH yK hp43 (by decide) hb75 ⟨rfl,rfl⟩ q40
     have pl88:=pl10;rw[←e82] at pl88
     have hx91:=hx34;rw[←e82] at hx91
     have hl92:=hl85;rw[←e82] at hl92
     have rf95:=p42.rdI (j:=9) rfl
     try simp -implicitDefEqProofs only[↓zP,zQ,↓qC,a27,a21,qJ,z65,a24,reduceCtorEq,Rw.ones,c51,Nat.reduceAdd,sr33,rx35,k44,h38,qB,hq46,re47,wr53,c55,rf56,c60,rf63,h65,a22,a23,sr70,(hl72.at),wr87,((b54.only C86.o).1),rf95,rf66,h68,h62,ln37]
     have S97:=(S69.chg C86).up (M:=N+60) (by omega)
     exact⟨_,_,_,rfl,S97.w,S97.o,(p42.w64 9 rfl)⟩
    ·have rf98:=p42.rdI (j:=2) rfl
     by_cases h99:(p42.int 2)=(1:Int)
     ·have h100:=eq_true h99
      have rf101:=p42.rdI (j:=8) rfl
      have rf102:=p42.rdI (j:=4) rfl
      have rf103:=p42.rdI (j:=3) rfl
      have rf104:=p42.rdI (j:=6) rfl
      have S105:=S52.put b48 {cs:=p42.cs}
      obtain⟨x106,l107,p108,bl109,rt110⟩:=S105.ar rfl
      obtain⟨r112,l113,x114,Z115,c116,p117,o118,g119⟩:=okG p108 bl109 (1) (p42.int 8) (p42.int 4) (p42.int 3) (p42.int 6) (part)
      try simp -implicitDefEqProofs only[↓zP,zQ,↓qC,a27,a21,qJ,z65,a24,reduceCtorEq,Rw.ones,c51,Nat.reduceAdd,sr33,rx35,k44,h38,qB,hq46,re47,wr53,c55,rf56,c60,rf63,h65,a22,a23,h100,a20,rf104,rf103,rf102,rf101,rf66,h67,h62,ln37]
      refine qF rfl c116 ?_
      have g121:=And.intro g119 trivial
      have G125:=g121.1
      have bl126:=G125.2.1 bl109
      have rt127:=G125.2.2 rt110
      obtain⟨cs124,C122,p123⟩:=S105.w.arC rfl p108 p117 o118 ⟨bl126,rt127⟩
      cases r112 with
      | false =>
       try simp only[↓zP,zQ,↓qC,a20,a21,a27,a22,a23,(e31 (by omega))]
       have u130:((H++[{cs:=[ma,mt]}]):qE).length≤Z16.length:=by have h:=C30.o.le;simpa using h
       have E132:=(C30.ext e49).put b48 u130 {cs:=p42.cs}
       refine⟨i14+1,by omega,_,_,_,v18,t19,rfl,(E132.trans C122),by omega,w28,?_,?_,?_,?_,?_,?_,?_,?_⟩<;>simp only[zQ,a20,a21,a22,a23,a24,a25,a26]<;>rfl
      | true =>
       have S134:=S105.chg C122
       have hl145:=(hl36.ext e49).put (g':={cs:=p42.cs}) hx34 b48
       obtain⟨r135,r136,cs137,Z138,c139,W140,O141,f142⟩:=openW S134.w (by omega) p123 bl126 rt127 (C122.cc _ _ (by decide) hx34) (hl145.chg C122 (by decide) hx34) pl10 ((i14:Int)) (part) (now) (by unfold W64;omega) wpart wnow ⟨by omega,by omega⟩
       try simp only[↓zP,zQ,↓qC,a20,a21,a27,a22,a23]
       refine qF rfl c139 ?_
       try simp only[↓zP,zQ]
       have S148:=S134.call W140 O141
       exact⟨_,_,_,rfl,S148.w,S148.o,f142⟩
     ·have e149:=e31 (by omega)
      try simp -implicitDefEqProofs only[↓zP,zQ,↓qC,a27,a21,qJ,z65,a24,e149,reduceCtorEq,Rw.ones,c51,Nat.reduceAdd,sr33,rx35,k44,h38,qB,hq46,re47,wr53,c55,rf56,c60,rf63,h65,a22,a23,h99,qA,a20,rf66,h67,h62,ln37]
      have u150:((H++[{cs:=[ma,mt]}]):qE).length≤Z16.length:=by have h:=C30.o.le;simpa using h
      have E152:=(C30.ext e49).put b48 u150 {cs:=p42.cs}
      refine⟨i14+1,by omega,_,_,_,v18,t19,rfl,E152,by omega,w28,?_,?_,?_,?_,?_,?_,?_,?_⟩<;>simp only[zQ,a20,a21,a22,a23,a24,a25,a26]<;>rfl
   ·have rf153:=p42.rdI (j:=2) rfl
    by_cases h154:(p42.int 2)=(1:Int)
    ·have h155:=eq_true h154
     have rf156:=p42.rdI (j:=8) rfl
     have rf157:=p42.rdI (j:=4) rfl
     have rf158:=p42.rdI (j:=3) rfl
     have rf159:=p42.rdI (j:=6) rfl
     have S160:=S52.put b48 {cs:=p42.cs}
     obtain⟨x161,l162,p163,bl164,rt165⟩:=S160.ar rfl
     obtain⟨r167,l168,x169,Z170,c171,p172,o173,g174⟩:=okG p163 bl164 (1) (p42.int 8) (p42.int 4) (p42.int 3) (p42.int 6) (part)
     try simp -implicitDefEqProofs only[↓zP,zQ,↓qC,a27,a21,qJ,z65,a24,reduceCtorEq,Rw.ones,c51,Nat.reduceAdd,sr33,rx35,k44,h38,qB,hq46,re47,wr53,c55,rf56,c60,rf63,h64,qA,a23,h155,a20,a22,rf159,rf158,rf157,rf156,h62,ln37]
     refine qF rfl c171 ?_
     have g176:=And.intro g174 trivial
     have G180:=g176.1
     have bl181:=G180.2.1 bl164
     have rt182:=G180.2.2 rt165
     obtain⟨cs179,C177,p178⟩:=S160.w.arC rfl p163 p172 o173 ⟨bl181,rt182⟩
     cases r167 with
     | false =>
      try simp only[↓zP,zQ,↓qC,a20,a21,a27,a22,a23,(e31 (by omega))]
      have u185:((H++[{cs:=[ma,mt]}]):qE).length≤Z16.length:=by have h:=C30.o.le;simpa using h
      have E187:=(C30.ext e49).put b48 u185 {cs:=p42.cs}
      refine⟨i14+1,by omega,_,_,_,v18,t19,rfl,(E187.trans C177),by omega,w28,?_,?_,?_,?_,?_,?_,?_,?_⟩<;>simp only[zQ,a20,a21,a22,a23,a24,a25,a26]<;>rfl
     | true =>
      have S189:=S160.chg C177
      have hl200:=(hl36.ext e49).put (g':={cs:=p42.cs}) hx34 b48
      obtain⟨r190,r191,cs192,Z193,c194,W195,O196,f197⟩:=openW S189.w (by omega) p178 bl181 rt182 (C177.cc _ _ (by decide) hx34) (hl200.chg C177 (by decide) hx34) pl10 ((i14:Int)) (part) (now) (by unfold W64;omega) wpart wnow ⟨by omega,by omega⟩
      try simp only[↓zP,zQ,↓qC,a20,a21,a27,a22,a23]
      refine qF rfl c194 ?_
      try simp only[↓zP,zQ]
      have S203:=S189.call W195 O196
      exact⟨_,_,_,rfl,S203.w,S203.o,f197⟩
    ·have e204:=e31 (by omega)
     try simp -implicitDefEqProofs only[↓zP,zQ,↓qC,a27,a21,qJ,z65,a24,e204,reduceCtorEq,Rw.ones,c51,Nat.reduceAdd,sr33,rx35,k44,h38,qB,hq46,re47,wr53,c55,rf56,c60,rf63,h64,qA,a23,h154,a20,a22,h62,ln37]
     have u205:((H++[{cs:=[ma,mt]}]):qE).length≤Z16.length:=by have h:=C30.o.le;simpa using h
     have E207:=(C30.ext e49).put b48 u205 {cs:=p42.cs}
     refine⟨i14+1,by omega,_,_,_,v18,t19,rfl,E207,by omega,w28,?_,?_,?_,?_,?_,?_,?_,?_⟩<;>simp only[zQ,a20,a21,a22,a23,a24,a25,a26]<;>rfl
  ·have e208:=e31 (by omega)
   try simp -implicitDefEqProofs only[↓zP,zQ,↓qC,a27,a21,qJ,z65,a24,e208,reduceCtorEq,Rw.ones,c51,Nat.reduceAdd,sr33,rx35,k44,h38,qB,hq46,re47,wr53,c55,rf56,c60,h61,ln37]
   have u209:((H++[{cs:=[ma,mt]}]):qE).length≤Z16.length:=by have h:=C30.o.le;simpa using h
   have E211:=(C30.ext e49).put b48 u209 {cs:=p42.cs}
   refine⟨i14+1,by omega,_,_,_,v18,t19,rfl,E211,by omega,w28,?_,?_,?_,?_,?_,?_,?_,?_⟩<;>simp only[zQ,a20,a21,a22,a23,a24,a25,a26]<;>rfl
 ·try simp -implicitDefEqProofs only[↓zP,zQ,↓qC,a27,a21,qJ,a24,reduceCtorEq,Nat.reduceAdd,sr33,rx35,ln37,h38]
  have S212:=S32.up (M:=N+60) (by omega)
  exact⟨_,_,_,rfl,S212.w,S212.o,⟨by decide,by decide⟩⟩
theorem helloW {H:qE}{r N:Nat}{cs:List AV}(w0:Wd H r (KW 2 2 1 N) cs)(hN:N+1≤900000)(ma mt p0 p1 dr now:Int)(wma:W64 ma)(wmt:W64 mt)(wp0:W64 p0)(wp1:W64 p1)(wdr:W64 dr)(wnow:W64 now){qp:Nat}{oqp:Bool}(qp0:Int)(hqp:LclW H 0 r cs qp ⟨ints .i64 [qp0,p0,p1],oqp,true⟩):∃ (tt:Int)(bb:Bool)(cs':List AV)(Z:qE),Sound Tryz.prog 147 [.ptr r 0,.ptr r 3,.agg [ma,mt],.sl qp 1 2 1,dr,now] H (.tup [.sc (.int .i64 tt),.sc (.bool bb)]) Z∧Wd Z r (KW 2 2 1 (N+1)) cs'∧OnlyW H Z r cs cs'∧W64 tt:=by
 suffices h:∃ w Z,Sound Tryz.prog 147 [.ptr r 0,.ptr r 3,.agg [ma,mt],.sl qp 1 2 1,dr,now] H w Z∧∃ (tt:Int)(bb:Bool)(cs':List AV),w=.tup [.sc (.int .i64 tt),.sc (.bool bb)]∧Wd Z r (KW 2 2 1 (N+1)) cs'∧OnlyW H Z r cs cs'∧W64 tt by
  obtain⟨w,Z,h1,tt,bb,cs',rfl,h2⟩:=h
  exact⟨tt,bb,cs',Z,h1,h2⟩
 refine zR 108 [.tmp 12,.tmp 13] Tryz.func147 ?_
 have S0:=WS.start w0
 obtain⟨b1,e2,nn3⟩:=S0.alloc (i:=H.length) (by simp) {cs:=[ma,mt]}
 try simp only[↓zP,zQ,↓qC]
 refine zD [(2,0),(5,0)] ?_
 have S4:=S0.ext e2
 have sr5:=S4.w.at_
 obtain⟨x6,l7,p8,bl9,rt10⟩:=S4.ar rfl
 have b13:=hqp.ext e2
 obtain⟨r15,r16,r17,r18,r19,Z20,c21,e22,f23⟩:=helloInE (OwnN.rd p8.2.2.1) (by omega) (p0)
 try simp -implicitDefEqProofs only[↓zP,zQ,Nat.reduceLT,qJ,qD,Int.reduceLT,Nat.reduceAdd,(b13.1),sr5,(yY (p8.2.1))]
 refine qF rfl c21 ?_
 obtain⟨w24,w25,w26,w27⟩:=f23
 have S28:=S4.ext e22
 obtain⟨b29,e30,nn31⟩:=S28.alloc (i:=Z20.length) (by simp) {cs:=[(0:Int),(0:Int),(0:Int),(0:Int)]}
 have S33:=S28.ext e30
 try simp -implicitDefEqProofs only[↓zP,zQ,↓qC,(b29.1),Nat.reduceAdd,xZ,xY]
 refine⟨zX (zX (qH)),?_⟩
 cases r19 with
 | false =>
  try simp only[zQ]
  have S35:=(S33.put b29 {cs:=[r15,r16,r17,r18]}).up (M:=N+1) (by omega)
  exact⟨_,_,_,rfl,S35.w,S35.o,⟨by decide,by decide⟩⟩
 | true =>
  have S36:=S33.put b29 {cs:=[r15,r16,r17,r18]}
  obtain⟨x38,l39,hx40,hl41,pl42⟩:=S36.w.gO 5 rfl
  have rx44:=qL hx40
  try simp only[zQ]
  refine yL (ι:=Nat) (fun i s=>∃ (T:Nat→AV)(G:qE)(v50:Int)(t51:Bool),s=⟨qY 108 T,G⟩∧Ext ((Z20++[{cs:=[(0:Int),(0:Int),(0:Int),(0:Int)]}]:qE).set (Z20.length) {cs:=[r15,r16,r17,r18]}) G∧i≤l39.length∧W64 v50∧T 0=.ptr (r) 0∧T 1=.ptr (r) 3∧T 3=.sl qp 1 2 1∧T 4=.sc (.int .i64 (dr))∧T 5=.sc (.int .i64 (now))∧T 8=.ptr (H.length) 0∧T 14=.ptr (Z20.length) 0∧T 12=.sc (.int .i64 (v50))∧T 13=.sc (.bool t51)∧T 16=.sc (.int .i64 i)) (fun i=>l39.length - i) ?_ (i:=0) ?_
  rotate_left
  ·exact⟨_,_,_,_,rfl,Ext.refl _,Nat.zero_le _,⟨by decide,by decide⟩,rfl,rfl,rfl,rfl,rfl,rfl,rfl,rfl,rfl,rfl⟩
  rintro i46 s ⟨T47,Z48,v50,t51,rfl,C64,hi63,w62,a52,a53,a54,a55,a56,a57,a58,a59,a60,a61⟩
  have e65:i46<l39.length→IntKind.i64.wrap ((i46:Int)+1)=((i46+1:Nat):Int):=fun h=>by rw[w64 (by omega) (by omega)];omega
  have S66:=S36.ext C64
  have sr67:=S66.w.at_
  have hl68:=hl41.ext C64
  have ln69:=fun e=>hl68.len e
  by_cases h70:((i46:Int))<(l39.length:Int)
  ·have hb71:i46<l39.length:=by omega
   obtain⟨q72,xe73,_⟩:=hl68.get hb71
   subst xe73
   obtain⟨p74,hp75⟩:∃ p,l39[i46]?=some p:=⟨_,List.getElem?_eq_getElem hb71⟩
   have k76:(0:Int)≤(i46:Int):=by omega
   obtain⟨b80,e81,nn82⟩:=S66.alloc (i:=Z48.length) (by simp) {cs:=(Rw.zero kSess).cs}
   have S84:=S66.ext e81
   have wr85:=fun (H:qE)(r:Nat)=>Rw.wrA (Rw.zero kSess) p74 (m:=20) rfl H r
   try simp -implicitDefEqProofs only[↓zP,zQ,↓qC,a61,a53,qJ,z65,Rw.ones,(b80.1),Nat.reduceAdd,sr67,rx44,k76,h70,qB,(hl68.at),(xD yK hp75),wr85,ln69]
   refine zD [(1,0),(3,0),(7,0),(10,0)] ?_
   have b86:=b80.put {cs:=p74.cs}
   have c87:=b86.1
   have rf88:=p74.rdI (j:=1) rfl
   have b89:=b1.ext e22
   have b92:=((b89.ext e30).oth (Ne.symm (nn31 _ _ b89.1)) {cs:=[r15,r16,r17,r18]}).ext C64
   have c95:=((b92.ext e81).oth (Ne.symm (nn82 _ _ b92.1)) {cs:=p74.cs}).1
   by_cases h96:(p74.int 1)=ma
   ·have h97:=eq_true h96
    have rf98:=p74.rdI (j:=5) rfl
    have b99:=b13.ext e22
    have b102:=((b99.ext e30).oth (Ne.symm (nn31 _ _ b99.1)) {cs:=[r15,r16,r17,r18]}).ext C64
    try simp -implicitDefEqProofs only[↓zP,zQ,Nat.reduceLT,a57,c95,c87,rf88,h97,a54,qD,Int.reduceLT,Nat.reduceAdd,↓qC,a53,qJ,a61,a56,(((b102.ext e81).oth (Ne.symm (nn82 _ _ b102.1)) {cs:=p74.cs}).1),rf98]
    refine⟨zX (zX (zX (zX (qH)))),?_⟩
    by_cases h106:(p74.int 5)=p0
    ·have h107:=eq_true h106
     have rf108:=p74.rdI (j:=2) rfl
     by_cases h109:(p74.int 2)=(1:Int)
     ·have h110:=eq_true h109
      have S111:=S84.put b80 {cs:=p74.cs}
      have sr112:=S111.w.at_
      have hl114:=(hl68.ext e81).put (g':={cs:=p74.cs}) hx40 b80
      obtain⟨p116,hb117,hj118,ho119⟩:=p74.putI 19 rfl (show W64 (now) from wnow)
      obtain⟨Z120,l121,hZ122,e123,e124,hp125,ot126,hl127,C128⟩:=S111.w.stRow (k:=5) rfl hx40 hl114 rfl hp75 p116 (by rw[List.length_set];exact pl42)
      have wr129:uJ true 1 ((Z48++[{cs:=(Rw.zero kSess).cs}]:qE).set (Z48.length) {cs:=p74.cs}) q72 (some {cs:=rows Rw.cs l39}) (i46*20+19) (.sc (.int .i64 (now)))=some Z120:=by rw[hZ122];exact kH yK hp75 (by decide) hb117 ⟨rfl,rfl⟩ q72
      have pl130:=pl42;rw[←e124] at pl130
      have hx133:=hx40;rw[←e124] at hx133
      have hl134:=hl127;rw[←e124] at hl134
      have rf137:=p74.rdI (j:=9) rfl
      try simp only[zQ,h107,rf108,sr112,rx44,k76,h70,qB,(hl114.at),wr129,((b86.only C128.o).1),rf137,h110]
      have S139:=(S111.chg C128).up (M:=N+1) (by omega)
      exact⟨_,_,_,rfl,S139.w,S139.o,(p74.w64 9 rfl)⟩
     ·try simp only[zQ,h107,rf108,h109]
      have S141:=(S84.put b80 {cs:=p74.cs}).up (M:=N+1) (by omega)
      exact⟨_,_,_,rfl,S141.w,S141.o,⟨by decide,by decide⟩⟩
    ·have e142:=e65 (by omega)
     try simp only[zQ,h106,e142]
     have u143:(((Z20++[{cs:=[(0:Int),(0:Int),(0:Int),(0:Int)]}]:qE).set (Z20.length) {cs:=[r15,r16,r17,r18]}):qE).length≤Z48.length:=by have h:=C64.1;simpa using h
     refine⟨i46+1,by omega,_,_,v50,t51,rfl,((C64.trans e81).set u143 {cs:=p74.cs}),by omega,w62,?_,?_,?_,?_,?_,?_,?_,?_,?_,?_⟩<;>simp only[zQ,a52,a53,a54,a55,a56,a57,a58,a59,a60]<;>rfl
   ·try simp -implicitDefEqProofs only[↓zP,zQ,a57,c95,c87,rf88,h96,qA,↓qC,a53,qJ,a61,a56,Nat.reduceAdd]
    refine⟨zX (zX (zX (zX (qH)))),?_⟩
    try simp only[(e65 (by omega))]
    have u147:(((Z20++[{cs:=[(0:Int),(0:Int),(0:Int),(0:Int)]}]:qE).set (Z20.length) {cs:=[r15,r16,r17,r18]}):qE).length≤Z48.length:=by have h:=C64.1;simpa using h
    refine⟨i46+1,by omega,_,_,v50,t51,rfl,((C64.trans e81).set u147 {cs:=p74.cs}),by omega,w62,?_,?_,?_,?_,?_,?_,?_,?_,?_,?_⟩<;>simp only[zQ,a52,a53,a54,a55,a56,a57,a58,a59,a60]<;>rfl
  ·try simp -implicitDefEqProofs only[↓zP,zQ,↓qC,a61,a53,qJ,Nat.reduceAdd,sr67,rx44,ln69,h70]
   refine zD [(2,0),(5,0)] ?_
   have b150:=b1.ext e22
   have b153:=((b150.ext e30).oth (Ne.symm (nn31 _ _ b150.1)) {cs:=[r15,r16,r17,r18]}).ext C64
   have b155:=b13.ext e22
   have b158:=((b155.ext e30).oth (Ne.symm (nn31 _ _ b155.1)) {cs:=[r15,r16,r17,r18]}).ext C64
   have p163:=PlN.extW (PlN.putW (g':={cs:=[r15,r16,r17,r18]}) (PlN.extW (PlN.extW p8 e22) e30) b29) C64
   obtain⟨v164,l165,x166,Z167,c168,p169,o170,g171⟩:=cookieG p163 bl9 (9000) (ma) (p0)
   try simp -implicitDefEqProofs only[↓zP,zQ,Nat.reduceLT,a52,a57,a54,qD,Int.reduceLT,Nat.reduceAdd,(b158.1),(b153.1)]
   refine qF rfl c168 ?_
   have G175:=g171.1
   have bl176:=G175.2.1 bl9
   have rt177:=G175.2.2 rt10
   obtain⟨cs174,C172,p173⟩:=S66.w.arC rfl p163 p169 o170 ⟨bl176,rt177⟩
   try simp -implicitDefEqProofs only[↓zP,zQ,↓qC,a54,Int.reduceLE,Int.reduceLT,Int.reduceToNat,Nat.reduceAdd,a52]
   refine⟨zX (zX (qH)),?_⟩
   by_cases h180:v164<(0:Int)
   ·try simp only[zQ,h180]
    have S182:=(S66.chg C172).up (M:=N+1) (by omega)
    exact⟨_,_,_,rfl,S182.w,S182.o,⟨by decide,by decide⟩⟩
   ·have b183:=b158.only C172.o
    have c184:=b183.1
    by_cases h185:v164=p1
    ·have h186:=eq_true h185
     try simp -implicitDefEqProofs only[zQ,h180,c184,Nat.reduceAdd,Nat.reduceLT,h186]
     refine zD [(3,0),(4,0),(7,0)] ?_
     have S193:=S66.chg C172
     obtain⟨r194,r195,cs196,Z197,c198,W199,O200,f201⟩:=halfW S193.w (by omega) (ma) (r15) (r16) (r17) (r18) (p0) (dr) (now) wma w24 w25 w26 w27 wp0 wdr wnow
     try simp -implicitDefEqProofs only[↓zP,zQ,Nat.reduceLT,a52,a53,a57,a58,((((b29.put {cs:=[r15,r16,r17,r18]}).ext C64).only C172.o).1),Nat.reduceAdd,a54,qD,Int.reduceLT,a55,a56,c184,((b153.only C172.o).1)]
     refine qF rfl c198 ?_
     try simp only[↓zP,zQ]
     refine⟨zX (zX (zX (qH))),?_⟩
     have S203:=S193.call W199 O200
     exact⟨_,_,_,rfl,S203.w,S203.o,f201⟩
    ·obtain⟨v204,l205,x206,Z207,c208,p209,o210,g211,i212⟩:=uD p173 bl176 (72) [v164] 1 rfl (by decide)
     try simp -implicitDefEqProofs only[zQ,h180,c184,Nat.reduceAdd,Nat.reduceLT,h185]
     refine qF rfl c208 ?_
     have S213:=S66.chg C172
     have G217:=g211.1
     obtain⟨cs216,C214,p215⟩:=S213.w.arC rfl p173 p209 o210 ⟨(G217.2.1 bl176),(G217.2.2 rt177)⟩
     have w221:W64 v204:=by have h:=g211.2;unfold W64;omega
     try simp only[↓zP,zQ,↓qC]
     have S223:=(S213.chg C214).up (M:=N+1) (by omega)
     exact⟨_,_,_,rfl,S223.w,S223.o,w221⟩
theorem heardW {H:qE}{r N:Nat}{cs:List AV}(w0:Wd H r (KW 2 2 1 N) cs)(hN:N+60≤900000){x0:AV}{l0:List (Rw qK)}(hP:PlN H r 0 cs x0 l0)(hl0:l0.length≤3000)(rt0:rt l0){x5:AV}{l5:List (Rw kSess)}(hx5:cs[5]?=some x5)(hl5:OwnX Rw.cs 20 H x5 l5)(pl5:l5.length≤64)(ma mt dr now:Int)(wma:W64 ma)(wmt:W64 mt)(wdr:W64 dr)(wnow:W64 now):∃ (q:Nat)(ml:List (Rw vX))(bo:Int)(co:Int)(cs':List AV)(Z:qE),Sound Tryz.prog 140 [.ptr r 0,.ptr r 3,.agg [ma,mt],dr,now] H (.tup [.sl q 0 ml.length 2,.sc (.int .i64 bo),.sc (.int .i64 co)]) Z∧Wd Z r (KW 2 2 1 (N+60)) cs'∧OnlyW H Z r cs cs'∧LclW Z H.length r cs' q {cs:=rows Rw.cs ml}∧ml.length≤1∧W64 bo∧W64 co∧(0≤bo→co=0→Heard Z r cs' l0 mt):=by
 suffices h:∃ w Z,Sound Tryz.prog 140 [.ptr r 0,.ptr r 3,.agg [ma,mt],dr,now] H w Z∧∃ (q:Nat)(ml:List (Rw vX))(bo:Int)(co:Int)(cs':List AV),w=.tup [.sl q 0 ml.length 2,.sc (.int .i64 bo),.sc (.int .i64 co)]∧Wd Z r (KW 2 2 1 (N+60)) cs'∧OnlyW H Z r cs cs'∧LclW Z H.length r cs' q {cs:=rows Rw.cs ml}∧ml.length≤1∧W64 bo∧W64 co∧(0≤bo→co=0→Heard Z r cs' l0 mt) by
  obtain⟨w,Z,h1,q,ml,bo,co,cs',rfl,h2⟩:=h
  exact⟨q,ml,bo,co,cs',Z,h1,h2⟩
 refine zR 80 [.tmp 10,.tmp 11,.tmp 12] Tryz.func140 ?_
 have S0:=WS.start w0
 obtain⟨b1,e2,nn3⟩:=S0.alloc (i:=H.length) (by simp) {cs:=[ma,mt]}
 have S4:=S0.ext e2
 obtain⟨b5,e6,nn7⟩:=S4.alloc (i:=H.length+1) (by simp) {cs:=[]}
 try simp only[↓zP,zQ,↓qC]
 refine zD [(2,0),(4,0)] ?_
 have S8:=S4.ext e6
 have sr9:=S8.w.at_
 have p11:=PlN.extW (PlN.extW hP e2) e6
 have b13:=b1.ext e6
 obtain⟨c15,L16,y17,Z18,c19,e20,sl21,li22⟩:=vG (OwnN.rd p11.2.2.1) (by omega) (mt)
 try simp only[↓zP,zQ,qJ,(b13.1),sr9,(yY (hP.2.1))]
 refine qF rfl c19 ?_
 try simp only[↓zP,zQ,↓qC]
 refine⟨zX (zX (qH)),?_⟩
 by_cases h25:c15=(71:Int)
 ·subst h25
  obtain⟨a32,a33,q26,a30,o27,rfl,rfl,h29,hq28,w34,w35,w31⟩:=uQ sl21 li22 (by decide)
  have b37:=b13.ext e20
  have S39:=S8.ext e20
  obtain⟨r40,r41,cs42,Z43,c44,W45,O46,f47⟩:=helloW S39.w (by omega) (ma) (mt) (a32) (a33) (dr) (now) wma wmt w34 w35 wdr wnow a30 (LclW.low (S8.made e20 hq28 h29))
  try simp -implicitDefEqProofs only[zQ,(b37.1),Nat.reduceAdd,Int.reduceEq]
  refine qF rfl c44 ?_
  cases r41 with
  | false =>
   try simp only[↓zP,zQ,↓qC]
   have S52:=(S39.call W45 O46).up (M:=N+60) (by omega)
   exact⟨(H.length+1),[],_,_,_,rfl,S52.w,S52.o,((b5.ext e20).only O46),(by simp),⟨by decide,by decide⟩,⟨by decide,by decide⟩,fun h _=>by omega⟩
  | true =>
   obtain⟨p55,hp56⟩:=((RowOk.int wma (RowOk.int f47 RowOk.nil)):RowOk vX [.sc (.int .i64 (ma)),.sc (.int .i64 (r40))])
   have S57:=S39.call W45 O46
   obtain⟨b58,e59,nn60⟩:=S57.alloc (i:=Z43.length) (by simp) {cs:=[ma,r40]}
   have b61:=b58
   rw[←hp56] at b61
   try simp -implicitDefEqProofs only[↓zP,zQ,↓qC,((b37.only O46).1),Nat.reduceAdd]
   have S63:=(S57.ext e59).up (M:=N+60) (by omega)
   exact⟨(Z43.length),[p55],_,_,_,rfl,S63.w,S63.o,(by rw[vT,hp56];exact b58),(by simp),⟨by decide,by decide⟩,⟨by decide,by decide⟩,fun h _=>by omega⟩
 ·by_cases h64:c15=(74:Int)
  ·subst h64
   obtain⟨a71,q65,a69,o66,rfl,rfl,h68,hq67,w72,w70⟩:=letter1 sl21 li22 (by decide)
   try simp only[zQ,h25,Int.reduceEq]
   refine zD [(2,0),(5,0)] ?_
   have b74:=b13.ext e20
   have S77:=S8.ext e20
   obtain⟨r78,r79,cs80,Z81,c82,W83,O84,f85⟩:=clientW S77.w (by omega) (ma) (mt) (a71) (now) wma wmt w72 wnow
   try simp -implicitDefEqProofs only[↓zP,zQ,Nat.reduceLT,(b74.1),Nat.reduceAdd,qD,Int.reduceLT,((S8.made e20 hq67 h68).1)]
   refine qF rfl c82 ?_
   try simp only[↓zP,zQ,↓qC]
   refine⟨zX (zX (qH)),?_⟩
   cases r79 with
   | false =>
    try simp only[zQ]
    have S89:=S77.call W83 O84
    exact⟨(H.length+1),[],_,_,_,rfl,S89.w,S89.o,((b5.ext e20).only O84),(by simp),⟨by decide,by decide⟩,⟨by decide,by decide⟩,fun h _=>by omega⟩
   | true =>
    obtain⟨p92,hp93⟩:=((RowOk.int wma (RowOk.int f85 RowOk.nil)):RowOk vX [.sc (.int .i64 (ma)),.sc (.int .i64 (r78))])
    have S94:=S77.call W83 O84
    obtain⟨b95,e96,nn97⟩:=S94.alloc (i:=Z81.length) (by simp) {cs:=[ma,r78]}
    have b98:=b95
    rw[←hp93] at b98
    try simp -implicitDefEqProofs only[zQ,((b74.only O84).1),Nat.reduceAdd]
    have S99:=S94.ext e96
    exact⟨(Z81.length),[p92],_,_,_,rfl,S99.w,S99.o,(by rw[vT,hp93];exact b95),(by simp),⟨by decide,by decide⟩,⟨by decide,by decide⟩,fun h _=>by omega⟩
  ·by_cases h100:c15=(76:Int)
   ·subst h100
    obtain⟨a107,a108,q101,a105,o102,rfl,rfl,h104,hq103,w109,w110,w106⟩:=uQ sl21 li22 (by decide)
    obtain⟨la112,v113,hn114⟩:=letter76 li22
    have S117:=S8.ext e20
    obtain⟨r118,r119,r120,r121,x132,l133,x134,l135,cs122,Z123,c124,W125,O126,p136,G137,hx138,hl139,ci140,f127⟩:=recordW S117.w (by omega) (PlN.extW p11 e20) hl0 rt0 hx5 (((hl5.ext e2).ext e6).ext e20) pl5 (ma) (mt) (a107) (a108) (now) wma wmt w109 w110 wnow a105 (LclW.low (S8.made e20 hq103 h104)) v113 hn114
    try simp -implicitDefEqProofs only[zQ,h25,((b13.ext e20).1),Nat.reduceAdd,h64]
    refine qF rfl c124 ?_
    obtain⟨b148,le149,w150,rc151⟩:=f127
    cases r121 with
    | false =>
     try simp only[↓zP,zQ,↓qC]
     have S156:=(S117.call W125 O126).up (M:=N+60) (by omega)
     exact⟨(H.length+1),[],_,_,_,rfl,S156.w,S156.o,((b5.ext e20).only O126),(by simp),⟨by decide,by decide⟩,⟨by decide,by decide⟩,fun h _=>by omega⟩
    | true =>
     obtain⟨j157,p158,hj159,hp160⟩:=rc151 rfl
     try simp only[↓zP,zQ,↓qC]
     have S162:=(S117.call W125 O126).up (M:=N+60) (by omega)
     exact⟨r118,r119,_,_,_,rfl,S162.w,S162.o,(LclW.less b148 S117.o.le),le149,w150,⟨by decide,by decide⟩,fun _ _=>⟨a107,a108,v113,x132,l133,x134,l135,j157,p158,la112,hn114,p136,((Grw.refl l0).trans G137),hx138,hl139,(by rw[cids_len ci140];exact pl5:l135.length≤64),hj159,hp160⟩⟩
   ·try simp only[zQ,h25,h64,h100]
    have S165:=(S8.ext e20).up (M:=N+60) (by omega)
    exact⟨(H.length+1),[],_,_,_,rfl,S165.w,S165.o,(b5.ext e20),(by simp),⟨by decide,by decide⟩,⟨by decide,by decide⟩,fun h _=>by omega⟩
theorem hearW {H:qE}{r N:Nat}{cs:List AV}(w0:Wd H r (KW 2 2 1 N) cs)(hN:N+60≤900000){x0:AV}{l0:List (Rw qK)}(hP:PlN H r 0 cs x0 l0)(hl0:l0.length≤3000)(rt0:rt l0){x5:AV}{l5:List (Rw kSess)}(hx5:cs[5]?=some x5)(hl5:OwnX Rw.cs 20 H x5 l5)(pl5:l5.length≤64)(ma mt dr now:Int)(wma:W64 ma)(wmt:W64 mt)(wdr:W64 dr)(wnow:W64 now):∃ (q:Nat)(ml:List (Rw vX))(bo:Int)(co:Int)(cs':List AV)(Z:qE),Sound Tryz.prog 124 [.ptr r 0,.ptr r 3,.agg [ma,mt],dr,now] H (.tup [.sl q 0 ml.length 2,.sc (.int .i64 bo),.sc (.int .i64 co)]) Z∧Wd Z r (KW 2 2 1 (N+60)) cs'∧OnlyW H Z r cs cs'∧LclW Z H.length r cs' q {cs:=rows Rw.cs ml}∧ml.length≤1∧W64 bo∧W64 co∧(0≤bo→co=0→Heard Z r cs' l0 mt):=by
 suffices h:∃ w Z,Sound Tryz.prog 124 [.ptr r 0,.ptr r 3,.agg [ma,mt],dr,now] H w Z∧∃ (q:Nat)(ml:List (Rw vX))(bo:Int)(co:Int)(cs':List AV),w=.tup [.sl q 0 ml.length 2,.sc (.int .i64 bo),.sc (.int .i64 co)]∧Wd Z r (KW 2 2 1 (N+60)) cs'∧OnlyW H Z r cs cs'∧LclW Z H.length r cs' q {cs:=rows Rw.cs ml}∧ml.length≤1∧W64 bo∧W64 co∧(0≤bo→co=0→Heard Z r cs' l0 mt) by
  obtain⟨w,Z,h1,q,ml,bo,co,cs',rfl,h2⟩:=h
  exact⟨q,ml,bo,co,cs',Z,h1,h2⟩
 refine zR 40 [.tmp 10,.tmp 11,.tmp 12] Tryz.func124 ?_
 have S0:=WS.start w0
 obtain⟨b1,e2,nn3⟩:=S0.alloc (i:=H.length) (by simp) {cs:=[ma,mt]}
 have S4:=S0.ext e2
 have sr5:=S4.w.at_
 have p6:=PlN.extW hP e2
 obtain⟨r11,r12,r13,r14,cs15,Z16,c17,W18,O19,f20⟩:=heardW S4.w (by omega) p6 hl0 rt0 hx5 (hl5.ext e2) pl5 (ma) (mt) (dr) (now) wma wmt wdr wnow
 try simp -implicitDefEqProofs only[↓zP,zQ,↓qC,qJ,sr5,(qL (hP.2.1)),(b1.1),Nat.reduceAdd,(fun e=>OwnF.len e p6.2.2.1)]
 refine qF rfl c17 ?_
 obtain⟨b22,le23,w24,w25,hh26⟩:=f20
 have b27:=LclW.less b22 S4.o.le
 by_cases h28:r14=(0:Int)
 ·subst h28
  try simp only[↓zP,zQ,↓qC]
  have S29:=S4.call W18 O19
  exact⟨r11,r12,_,_,_,rfl,S29.w,S29.o,b27,le23,w24,⟨by decide,by decide⟩,hh26⟩
 ·have S36:=S4.call W18 O19
  obtain⟨x37,l38,p39,bl40,rt41⟩:=S36.ar rfl
  obtain⟨w30,x31,Z32,c33,p34,o35⟩:=jL p39 bl40 (l0.length)
  obtain⟨l43,hl44⟩:∃ l,l=List.take l0.length l38:=⟨_,rfl⟩
  rw[←hl44] at p34
  have bl45:l43.length≤3000:=by rw[hl44,List.length_take];omega
  try simp only[↓zP,zQ,↓qC,h28]
  refine qF rfl c33 ?_
  have rt51:=(show rt l43 by rw[hl44];exact rt_take rt41 _)
  obtain⟨cs48,C46,p47⟩:=S36.w.arC rfl p39 p34 o35 ⟨bl45,rt51⟩
  try simp only[↓zP,zQ,↓qC]
  have S54:=S36.chg C46
  exact⟨r11,r12,_,_,_,rfl,S54.w,S54.o,(b27.only C46.o),le23,w24,w25,fun _ h=>absurd h h28⟩
theorem noteW {H:qE}{r N:Nat}{cs:List AV}(w0:Wd H r (KW 2 2 1 N) cs)(hN:N+0≤900000)(n ap k bo:Int)(wn:W64 n)(wap:W64 ap)(wk:W64 k)(wbo:W64 bo):∃ (p:Rw kA)(Z:qE),Sound Tryz.prog 93 [.ptr r 0,n,ap,k,bo] H (.agg p.cs) Z∧Ext H Z:=by
 suffices h:∃ w Z,Sound Tryz.prog 93 [.ptr r 0,n,ap,k,bo] H w Z∧∃ (p:Rw kA),w=.agg p.cs∧Ext H Z by
  obtain⟨w,Z,h1,p,rfl,h2⟩:=h
  exact⟨p,Z,h1,h2⟩
 refine zR 41 [.cell 10 72] Tryz.func93 ?_
 have S0:=WS.start w0
 obtain⟨b1,e2,nn3⟩:=S0.alloc (i:=H.length) (by simp) {cs:=[(0:Int),(0:Int),(0:Int),(0:Int),(0:Int),(0:Int),.sc (.bool false)]}
 have S4:=S0.ext e2
 have sr5:=S4.w.at_
 obtain⟨x6,l7,p8,bl9,rt10⟩:=S4.ar rfl
 obtain⟨r13,r14,r15,Z16,c17,e18,f19⟩:=recHeadE (OwnN.rd p8.2.2.1) (by omega) (k)
 try simp only[↓zP,zQ,↓qC,qJ,sr5,(yY (p8.2.1))]
 refine qF rfl c17 ?_
 obtain⟨w20,w21,f22⟩:=f19
 obtain⟨r24,r25,Z26,c27,e28,f29⟩:=safeW (S4.ext e18).w (by omega) (n) (ap) wn wap
 try simp only[↓zP,zQ,↓qC]
 refine qF rfl c27 ?_
 have b32:=(b1.ext e18).ext e28
 try simp -implicitDefEqProofs only[↓zP,zQ,↓qC,(b32.1),Nat.reduceAdd,xZ,xY,((b32.put {cs:=[n,r24,ap,r13,r14,bo,.sc (.bool r25)]}).1)]
 obtain⟨p37,hp38⟩:=((RowOk.int wn (RowOk.int f29 (RowOk.int wap (RowOk.int w20 (RowOk.int w21 (RowOk.int wbo (RowOk.bool RowOk.nil))))))):RowOk kA [.sc (.int .i64 (n)),.sc (.int .i64 (r24)),.sc (.int .i64 (ap)),.sc (.int .i64 (r13)),.sc (.int .i64 (r14)),.sc (.int .i64 (bo)),.sc (.bool r25)])
 have E43:=((((Ext.refl H).trans e2).trans e18).trans e28).set b32.2.1 {cs:=[n,r24,ap,r13,r14,bo,.sc (.bool r25)]}
 exact⟨p37,(by rw[hp38]),E43⟩
theorem openedW {H:qE}{r N:Nat}{cs:List AV}(w0:Wd H r (KW 2 2 1 N) cs)(hN:N+64≤900000):∃ (cs':List AV)(Z:qE),Sound Tryz.prog 125 [.ptr r 0] H (.tup []) Z∧Chg H Z r (KW 2 2 1 N) (KW 2 2 1 (N+64)) cs cs' 16:=by
 suffices h:∃ w Z,Sound Tryz.prog 125 [.ptr r 0] H w Z∧∃ (cs':List AV),w=.tup []∧Chg H Z r (KW 2 2 1 N) (KW 2 2 1 (N+64)) cs cs' 16 by
  obtain⟨w,Z,h1,cs',rfl,h2⟩:=h
  exact⟨cs',Z,h1,h2⟩
 refine zR 123 [] Tryz.func125 ?_
 have S0:=WS.start w0
 obtain⟨x2,l3,hx4,hl5,pl6⟩:=S0.w.gO 5 rfl
 try simp only[↓zP,zQ,↓qC]
 refine yL (ι:=Nat) (fun i s=>∃ (T:Nat→AV)(G:qE)(c:List AV),s=⟨qY 123 T,G⟩∧Chg H G r (KW 2 2 1 (N+0)) (KW 2 2 1 (N+1*i)) cs c 16∧i≤l3.length∧T 0=.ptr (r) 0∧T 2=.sc (.int .i64 i)) (fun i=>l3.length - i) ?_ (i:=0) ?_
 rotate_left
 ·exact⟨_,_,_,rfl,Chg.refl (S0.w) _,Nat.zero_le _,rfl,rfl⟩
 rintro i10 s ⟨T11,Z12,cs13,rfl,C17,hi16,a14,a15⟩
 have e18:i10<l3.length→IntKind.i64.wrap ((i10:Int)+1)=((i10+1:Nat):Int):=fun h=>by rw[w64 (by omega) (by omega)];omega
 have S19:=S0.chg C17
 have sr20:=S19.w.at_
 have hx21:=C17.cc _ _ (by decide) hx4
 have rx22:=qL hx21
 have hl23:=hl5.chg C17 (by decide) hx4
 have ln24:=fun e=>hl23.len e
 by_cases h25:((i10:Int))<(l3.length:Int)
 ·have hb26:i10<l3.length:=by omega
  obtain⟨q27,xe28,_⟩:=hl23.get hb26
  subst xe28
  obtain⟨p29,hp30⟩:∃ p,l3[i10]?=some p:=⟨_,List.getElem?_eq_getElem hb26⟩
  have k31:(0:Int)≤(i10:Int):=by omega
  have hq33:=hl23.at
  have re34:=xD yK hp30
  obtain⟨b35,e36,nn37⟩:=S19.alloc (i:=Z12.length) (by simp) {cs:=(Rw.zero kSess).cs}
  have c38:=b35.1
  have wr40:=fun (H:qE)(r:Nat)=>Rw.wrA (Rw.zero kSess) p29 (m:=20) rfl H r
  have b41:=b35.put {cs:=p29.cs}
  have c42:=b41.1
  have rf43:=p29.rdI (j:=2) rfl
  by_cases h44:(p29.int 2)=(2:Int)
  ·have h45:=eq_true h44
   have S46:=(S19.ext e36).put b35 {cs:=p29.cs}
   have sr47:=S46.w.at_
   obtain⟨x48,l49,hx50,hl51,pl52⟩:=S46.w.gO 16 rfl
   have rx54:=qL hx50
   try simp -implicitDefEqProofs only[↓zP,zQ,↓qC,a15,reduceCtorEq,a14,qJ,z65,Rw.ones,c38,Nat.reduceAdd,sr20,rx22,k31,h25,qB,hq33,re34,wr40,c42,rf43,h45,ln24]
   refine yL (ι:=Nat) (fun i s=>∃ (T:Nat→AV)(t60:Bool),s=⟨qY 123 T,((Z12++[{cs:=(Rw.zero kSess).cs}]:qE).set (Z12.length) {cs:=p29.cs})⟩∧i≤l49.length∧T 0=.ptr (r) 0∧T 2=.sc (.int .i64 ((i10:Int)))∧T 3=.ptr (Z12.length) 0∧T 4=.sc (.bool t60)∧T 5=.sc (.int .i64 i)) (fun i=>l49.length - i) ?_ (i:=0) ?_
   rotate_left
   ·exact⟨_,_,rfl,Nat.zero_le _,(by first | rfl | simp only[zQ,a14]),(by first | rfl | simp only[zQ,a15]),(by first | rfl | simp only[]),(by first | rfl | simp only[]),(by first | rfl | simp only[])⟩
   rintro i56 s ⟨T57,t60,rfl,hi66,a61,a62,a63,a64,a65⟩
   have e68:i56<l49.length→IntKind.i64.wrap ((i56:Int)+1)=((i56+1:Nat):Int):=fun h=>by rw[w64 (by omega) (by omega)];omega
   have ln69:=fun e=>hl51.len e
   by_cases h70:((i56:Int))<(l49.length:Int)
   ·try simp -implicitDefEqProofs only[↓zP,zQ,↓qC,a65,reduceCtorEq,a61,qJ,Nat.reduceEqDiff,a64,Nat.reduceAdd,sr47,a62,rx54,ln69,h70]
    refine zD [(5,0),(9,0),(14,0),(20,0),(24,0),(27,0),(34,0),(38,0),(40,0)] ?_
    cases t60 with
    | false =>
     have hb71:i56<l49.length:=by omega
     obtain⟨q72,xe73,_⟩:=hl51.get hb71
     subst xe73
     obtain⟨p74,hp75⟩:∃ p,l49[i56]?=some p:=⟨_,List.getElem?_eq_getElem hb71⟩
     have k76:(0:Int)≤(i56:Int):=by omega
     have hq78:=hl51.at
     have re79:=fun (o:Bool)(kk:Nat)=>(qX xG (k:=kk) hp75 (j:=0) (by decide) o).trans (p74.int_at 0 rfl).1
     obtain⟨v80,hx81,w82⟩:=S46.w.gI 3 rfl
     have rx83:=qL hx81
     by_cases h84:(p74.int 0)=v80
     ·have h85:=eq_true h84
      have re86:=fun (o:Bool)(kk:Nat)=>(qX xG (k:=kk) hp75 (j:=2) (by decide) o).trans (p74.int_at 2 rfl).1
      have rf87:=p29.rdI (j:=10) rfl
      by_cases h88:(p74.int 2)=(p29.int 10)
      ·have h89:=eq_true h88
       have re90:=fun (o:Bool)(kk:Nat)=>(qX xG (k:=kk) hp75 (j:=3) (by decide) o).trans (p74.int_at 3 rfl).1
       have rf91:=p29.rdI (j:=0) rfl
       try simp -implicitDefEqProofs only[↓zP,zQ,a64,a61,qJ,a65,Nat.reduceAdd,sr47,rx83,rx54,k76,h70,qB,hq78,re79,h85,a63,c42,rf87,re86,h89,qA,rf91,re90]
       refine⟨zX (zX (zX (zX (zX (zX (zX (zX (zX (qH))))))))),?_⟩
       try simp only[(e68 (by omega))]
       refine⟨i56+1,by omega,_,decide ((p74.int 3)=(p29.int 0)),rfl,by omega,?_,?_,?_,?_,?_⟩<;>simp only[zQ,a61,a62,a63]<;>rfl
      ·try simp -implicitDefEqProofs only[↓zP,zQ,a64,a61,qJ,a65,Nat.reduceAdd,sr47,rx83,rx54,k76,h70,qB,hq78,re79,h85,a63,c42,rf87,re86,h88,qA]
       refine⟨zX (zX (zX (zX (zX (zX (zX (zX (zX (qH))))))))),?_⟩
       try simp only[(e68 (by omega))]
       refine⟨i56+1,by omega,_,false,rfl,by omega,?_,?_,?_,?_,?_⟩<;>simp only[zQ,a61,a62,a63]<;>rfl
     ·try simp -implicitDefEqProofs only[↓zP,zQ,a64,a61,qJ,a65,Nat.reduceAdd,sr47,rx83,rx54,k76,h70,qB,hq78,re79,h84,qA]
      refine⟨zX (zX (zX (zX (zX (zX (zX (zX (zX (qH))))))))),?_⟩
      try simp only[(e68 (by omega))]
      refine⟨i56+1,by omega,_,false,rfl,by omega,?_,?_,?_,?_,?_⟩<;>simp only[zQ,a61,a62,a63]<;>rfl
    | true =>
     try simp only[↓zP,zQ,a64,bo_v,↓uE,a65]
     refine⟨zX (zX (zX (zX (zX (zX (zX (zX (zX (qH))))))))),?_⟩
     try simp only[(e68 (by omega))]
     refine⟨i56+1,by omega,_,true,rfl,by omega,?_,?_,?_,?_,?_⟩<;>simp only[zQ,a61,a62,a63]<;>rfl
   ·cases t60 with
    | false =>
     obtain⟨v96,hx97,w98⟩:=S46.w.gI 3 rfl
     have rx99:=qL hx97
     obtain⟨x100,l101,hx102,hl103,pl104⟩:=S46.w.gO 14 rfl
     obtain⟨pl105,pw106⟩:=pl104
     obtain⟨t108,Z109,c110,e111⟩:=takenS S46.w.at_ hx102 (OwnX.isL hl103) (by omega) (v96)
     try simp -implicitDefEqProofs only[↓zP,zQ,↓qC,a65,reduceCtorEq,a61,qJ,Nat.reduceEqDiff,a64,Nat.reduceAdd,sr47,rx99,a62,rx54,ln69,h70]
     refine qF rfl c110 ?_
     cases t108 with
     | false =>
      have b112:=b41.ext e111
      have rf114:=p29.rdI (j:=3) rfl
      have S116:=S46.ext e111
      obtain⟨t117,Z118,c119,e120⟩:=takenS S116.w.at_ hx102 (OwnX.isL (hl103.ext e111)) (by omega) (p29.int 3)
      try simp only[↓zP,zQ,a61,a63,(b112.1),rf114]
      refine qF rfl c119 ?_
      try simp only[↓zP,zQ]
      refine zD [(4,0),(9,0),(11,0),(14,0),(16,0),(18,0)] ?_
      have S121:=S116.ext e120
      have sr122:=S121.w.at_
      have rf125:=p29.rdI (j:=3) rfl
      have rf126:=p29.rdI (j:=10) rfl
      have rf127:=p29.rdI (j:=0) rfl
      have rf128:=p29.rdI (j:=6) rfl
      have bd129:qT Tryz.prog 72 [(0,.sc (.int .i64 (v96))),(1,.sc (.int .i64 (p29.int 3))),(2,.sc (.int .i64 (p29.int 10))),(3,.sc (.int .i64 (p29.int 0))),(5,.sc (.int .i64 (p29.int 6))),(6,.sc (.bool !t117))]=some (.agg [v96,p29.int 3,p29.int 10,p29.int 0,(0:Int),p29.int 6,.sc (.bool !t117)]):=by simp[qT,yR,yT,qW,yF,yI,yO,Tryz.underlying72,jO,qR,qO,tyOk4,jJ]
      obtain⟨p130,hp131⟩:=((RowOk.int w98 (RowOk.int (p29.w64 3 rfl) (RowOk.int (p29.w64 10 rfl) (RowOk.int (p29.w64 0 rfl) (RowOk.int ⟨by decide,by decide⟩ (RowOk.int (p29.w64 6 rfl) (RowOk.bool RowOk.nil))))))):RowOk kA [.sc (.int .i64 (v96)),.sc (.int .i64 (p29.int 3)),.sc (.int .i64 (p29.int 10)),.sc (.int .i64 (p29.int 0)),.sc (.int .i64 (0)),.sc (.int .i64 (p29.int 6)),.sc (.bool !t117)])
      obtain⟨b132,e133,nn134⟩:=S121.alloc (i:=Z118.length) (by simp) {cs:=[v96,p29.int 3,p29.int 10,p29.int 0,(0:Int),p29.int 6,.sc (.bool !t117)]}
      have b135:=b132
      rw[←hp131] at b135
      have S137:=(S121.ext e133).up (M:=N+(1*i10+1)) (by omega)
      obtain⟨x141,G142,Z143,cs144,ap145,o146,gr147,wr148,hx149,hl150,C151⟩:=S137.w.apC (k:=16) apS36 apN36 xG rfl hx50 (((hl51.ext e111).ext e120).ext e133) (xL xG (a:=p130) (by rw[hp131];exact b132.1)) (by simp only[List.length_cons,List.length_nil];omega) (by simp only[List.length_append,List.length_cons,List.length_nil];omega)
      obtain⟨l152,e153⟩:∃ l,l=l49++[p130]:=⟨_,rfl⟩
      rw[←e153] at hl150
      try simp -implicitDefEqProofs only[↓zP,zQ,a61,qJ,a63,a62,((b112.ext e120).1),rf128,rf127,Nat.reduceAdd,rf126,rf125,sr122,rx99,bd129,rx54,ap145,gr147,wr148]
      refine⟨zX (zX (zX (zX (zX (zX (qH)))))),?_⟩
      try simp only[(e18 (by omega))]
      have u162:(H:qE).length≤Z12.length:=by have h:=C17.o.le;simpa using h
      have E164:=(C17.ext e36).put b35 u162 {cs:=p29.cs}
      have E169:=((((E164.ext e111).ext e120).ext e133).trans C151).up (M:=N+1*(i10+1)) (by omega)
      refine⟨i10+1,by omega,_,_,_,rfl,E169,by omega,?_,?_⟩<;>simp only[zQ,a61]<;>rfl
     | true =>
      try simp only[↓zP,zQ,qA]
      refine zD [(4,0),(9,0),(11,0),(14,0),(16,0),(18,0)] ?_
      have S170:=S46.ext e111
      have sr171:=S170.w.at_
      have rf174:=p29.rdI (j:=3) rfl
      have rf175:=p29.rdI (j:=10) rfl
      have rf176:=p29.rdI (j:=0) rfl
      have rf177:=p29.rdI (j:=6) rfl
      have bd178:qT Tryz.prog 72 [(0,.sc (.int .i64 (v96))),(1,.sc (.int .i64 (p29.int 3))),(2,.sc (.int .i64 (p29.int 10))),(3,.sc (.int .i64 (p29.int 0))),(5,.sc (.int .i64 (p29.int 6))),(6,.sc (.bool false))]=some (.agg [v96,p29.int 3,p29.int 10,p29.int 0,(0:Int),p29.int 6,.sc (.bool false)]):=by simp[qT,yR,yT,qW,yF,yI,yO,Tryz.underlying72,jO,qR,qO,tyOk4,jJ]
      obtain⟨p179,hp180⟩:=((RowOk.int w98 (RowOk.int (p29.w64 3 rfl) (RowOk.int (p29.w64 10 rfl) (RowOk.int (p29.w64 0 rfl) (RowOk.int ⟨by decide,by decide⟩ (RowOk.int (p29.w64 6 rfl) (RowOk.bool RowOk.nil))))))):RowOk kA [.sc (.int .i64 (v96)),.sc (.int .i64 (p29.int 3)),.sc (.int .i64 (p29.int 10)),.sc (.int .i64 (p29.int 0)),.sc (.int .i64 (0)),.sc (.int .i64 (p29.int 6)),.sc (.bool false)])
      obtain⟨b181,e182,nn183⟩:=S170.alloc (i:=Z109.length) (by simp) {cs:=[v96,p29.int 3,p29.int 10,p29.int 0,(0:Int),p29.int 6,.sc (.bool false)]}
      have b184:=b181
      rw[←hp180] at b184
      have S186:=(S170.ext e182).up (M:=N+(1*i10+1)) (by omega)
      obtain⟨x189,G190,Z191,cs192,ap193,o194,gr195,wr196,hx197,hl198,C199⟩:=S186.w.apC (k:=16) apS36 apN36 xG rfl hx50 ((hl51.ext e111).ext e182) (xL xG (a:=p179) (by rw[hp180];exact b181.1)) (by simp only[List.length_cons,List.length_nil];omega) (by simp only[List.length_append,List.length_cons,List.length_nil];omega)
      obtain⟨l200,e201⟩:∃ l,l=l49++[p179]:=⟨_,rfl⟩
      rw[←e201] at hl198
      try simp -implicitDefEqProofs only[↓zP,zQ,a61,qJ,a63,a62,((b41.ext e111).1),rf177,rf176,Nat.reduceAdd,rf175,rf174,sr171,rx99,bd178,rx54,ap193,gr195,wr196]
      refine⟨zX (zX (zX (zX (zX (zX (qH)))))),?_⟩
      try simp only[(e18 (by omega))]
      have u210:(H:qE).length≤Z12.length:=by have h:=C17.o.le;simpa using h
      have E212:=(C17.ext e36).put b35 u210 {cs:=p29.cs}
      have E216:=(((E212.ext e111).ext e182).trans C199).up (M:=N+1*(i10+1)) (by omega)
      refine⟨i10+1,by omega,_,_,_,rfl,E216,by omega,?_,?_⟩<;>simp only[zQ,a61]<;>rfl
    | true =>
     try simp -implicitDefEqProofs only[↓zP,zQ,↓qC,a65,reduceCtorEq,a61,qJ,Nat.reduceEqDiff,a64,Nat.reduceAdd,sr47,a62,(e18 (by omega)),rx54,ln69,h70]
     have u218:(H:qE).length≤Z12.length:=by have h:=C17.o.le;simpa using h
     have E220:=(C17.ext e36).put b35 u218 {cs:=p29.cs}
     have E221:=E220.up (M:=N+1*(i10+1)) (by omega)
     refine⟨i10+1,by omega,_,_,_,rfl,E221,by omega,?_,?_⟩<;>simp only[zQ,a61]<;>rfl
  ·have e222:=e18 (by omega)
   try simp -implicitDefEqProofs only[↓zP,zQ,↓qC,a15,reduceCtorEq,a14,qJ,z65,e222,Rw.ones,c38,Nat.reduceAdd,sr20,rx22,k31,h25,qB,hq33,re34,wr40,c42,rf43,h44,ln24]
   have u223:(H:qE).length≤Z12.length:=by have h:=C17.o.le;simpa using h
   have E225:=(C17.ext e36).put b35 u223 {cs:=p29.cs}
   have E226:=E225.up (M:=N+1*(i10+1)) (by omega)
   refine⟨i10+1,by omega,_,_,_,rfl,E226,by omega,?_,?_⟩<;>simp only[zQ,a14]<;>rfl
 ·try simp -implicitDefEqProofs only[↓zP,zQ,↓qC,a15,reduceCtorEq,a14,qJ,Nat.reduceAdd,sr20,rx22,ln24,h25]
  exact⟨_,((Chg.refl w0 16).trans C17).up (M:=N+64) (by omega)⟩
theorem mailsW {H:qE}{r N:Nat}{cs:List AV}(w0:Wd H r (KW 2 2 1 N) cs)(hN:N+3≤900000){q:Nat}{ml:List (Rw vX)}(hq:LclW H 0 r cs q {cs:=rows Rw.cs ml})(bq:ml.length≤1):∃ (cs':List AV)(Z:qE),Sound Tryz.prog 126 [.ptr r 0,.sl q 0 ml.length 2] H (.tup []) Z∧Wd Z r (KW 2 2 1 (N+3)) cs'∧OnlyW H Z r cs cs':=by
 suffices h:∃ w Z,Sound Tryz.prog 126 [.ptr r 0,.sl q 0 ml.length 2] H w Z∧∃ (cs':List AV),w=.tup []∧Wd Z r (KW 2 2 1 (N+3)) cs'∧OnlyW H Z r cs cs' by
  obtain⟨w,Z,h1,cs',rfl,h2⟩:=h
  exact⟨cs',Z,h1,h2⟩
 refine zR 99 [] Tryz.func126 ?_
 have S0:=WS.start w0
 try simp only[↓zP,zQ,↓qC]
 refine yL (ι:=Nat) (fun i s=>∃ (T:Nat→AV)(G:qE)(c:List AV),s=⟨qY 99 T,G⟩∧(Wd G r (KW 2 2 1 (N+3*i)) c∧OnlyW H G r cs c)∧i≤ml.length∧T 0=.ptr (r) 0∧T 1=.sl q 0 ml.length 2∧T 4=.sc (.int .i64 i)) (fun i=>ml.length - i) ?_ (i:=0) ?_
 rotate_left
 ·exact⟨_,_,_,rfl,⟨S0.w,OnlyW.nop ..⟩,Nat.zero_le _,rfl,rfl,rfl⟩
 rintro i1 s ⟨T2,Z3,cs4,rfl,⟨C9,C9o⟩,hi8,a5,a6,a7⟩
 have e10:i1<ml.length→IntKind.i64.wrap ((i1:Int)+1)=((i1+1:Nat):Int):=fun h=>by rw[w64 (by omega) (by omega)];omega
 by_cases h11:((i1:Int))<(ml.length:Int)
 ·try simp only[↓zP,zQ,↓qC,a7,a6,h11]
  refine zD [(3,0),(8,0)] ?_
  have S12:=S0.call C9 C9o
  have sr13:=S12.w.at_
  obtain⟨x14,l15,p16,bl17,rt18⟩:=S12.ar rfl
  have hx19:=p16.2.1
  have b21:=hq.only C9o
  have hb23:i1<ml.length:=by omega
  obtain⟨p24,hp25⟩:∃ p,ml[i1]?=some p:=⟨_,List.getElem?_eq_getElem hb23⟩
  have k26:(0:Int)≤(i1:Int):=by omega
  have re28:=fun (o:Bool)(kk:Nat)=>(qX encMail (k:=kk) hp25 (j:=1) (by decide) o).trans (p24.int_at 1 rfl).1
  obtain⟨c29,L30,y31,Z32,c33,e34,sl35,li36⟩:=vG (OwnN.rd p16.2.2.1) (by omega) (p24.int 1)
  try simp only[↓zP,zQ,a5,qJ,a6,a7,k26,h11,qB,(b21.1),re28,sr13,(yY hx19)]
  refine qF rfl c33 ?_
  have w38:=li36.wc
  try simp only[↓zP,zQ,↓qC]
  refine⟨zX (zX (qH)),?_⟩
  by_cases h39:c29=(76:Int)
  ·subst h39
   obtain⟨a46,a47,q40,a44,o41,rfl,rfl,h43,hq42,w48,w49,w45⟩:=uQ sl35 li36 (by decide)
   have b50:=S12.made e34 hq42 h43
   obtain⟨la51,v52,hn53⟩:=letter76 li36
   try simp only[zQ]
   refine zD [(3,0),(6,0)] ?_
   have S54:=S12.ext e34
   have sr55:=S54.w.at_
   have p56:=PlN.extW p16 e34
   obtain⟨v59,t60,Z61,c62,e63,hn64⟩:=numE (OwnN.rd p56.2.2.1) (by omega) (a46)
   try simp -implicitDefEqProofs only[↓zP,zQ,Nat.reduceLT,a5,qJ,qD,Int.reduceLT,Nat.reduceAdd,(b50.1),sr55,(yY hx19)]
   refine qF rfl c62 ?_
   have w65:=hn64.w64
   try simp only[↓zP,zQ,↓qC,a5,qJ]
   refine⟨zX (zX (qH)),?_⟩
   have S66:=S54.ext e63
   have sr67:=S66.w.at_
   obtain⟨v68,hx69,w70⟩:=S66.w.gI 3 rfl
   obtain⟨v71,hx72,w73⟩:=S66.w.gI 4 rfl
   obtain⟨x74,l75,hx76,hl77,pl78⟩:=S66.w.gO 5 rfl
   have o79:=hl77.one
   obtain⟨x80,l81,hx82,hl83,pl84⟩:=S66.w.gO 6 rfl
   obtain⟨x86,l87,hx88,hl89,pl90⟩:=S66.w.gO 7 rfl
   obtain⟨x92,l93,hx94,hl95,pl96⟩:=S66.w.gO 8 rfl
   obtain⟨v98,hx99,w100⟩:=S66.w.gI 9 rfl
   have ra101:=fun (o:Bool)=>rd_agg7 (off:=3) hx69 hx72 hx76 hx82 hx88 hx94 hx99 o
   obtain⟨v102,Z103,c104,e105,si106⟩:=sessAtS (v68) (v71) (v98) (OwnX.isR (ks:=kSess) hl77) (hl83.one) (hl89.one) (hl95.one) (by omega) (v59)
   try simp only[zQ,sr67,ra101]
   refine qF rfl c104 ?_
   have sl107:=si106.lt
   by_cases h109:(0:Int)≤v102
   ·try simp only[↓zP,zQ,↓qC,h109]
    refine zD [(4,0),(4,32),(4,33),(10,0),(10,32),(15,0),(15,32),(20,0),(20,32),(23,0),(23,32),(27,0),(30,0)] ?_
    have S110:=S66.ext e105
    have sr111:=S110.w.at_
    obtain⟨x112,l113,hx114,hl115,pl116⟩:=S110.w.gO 17 rfl
    have o117:=hl115.one
    obtain⟨j122,hj123,hb121⟩:∃ j:Nat,v102=(j:Int)∧j<l75.length:=⟨Int.toNat v102,by omega,by omega⟩
    subst hj123
    have hl124:=hl77.ext e105
    obtain⟨q125,xe126,_⟩:=hl124.get hb121
    subst xe126
    obtain⟨p127,hp128⟩:∃ p,l75[j122]?=some p:=⟨_,List.getElem?_eq_getElem hb121⟩
    have k130:(j122:Int)<(l75.length:Int):=by omega
    have re132:=fun (o:Bool)(kk:Nat)=>(qX yK (k:=kk) hp128 (j:=10) (by decide) o).trans (p127.int_at 10 rfl).1
    have b133:=b50.ext e63
    have b134:=b133.ext e105
    have p136:=PlN.extW p56 e63
    have p137:=PlN.extW p136 e105
    obtain⟨r139,Z140,c141,e142,f143⟩:=sealedE (OwnN.rd p137.2.2.1) (by omega) (a47)
    try simp -implicitDefEqProofs only[↓zP,zQ,Nat.reduceLT,a5,qJ,Int.reduceLE,Int.reduceLT,Int.reduceToNat,Nat.reduceAdd,(b134.1),sr111,(yY hx19),(qL hx76),h109,k130,qB,(hl124.at),re132,(qL hx69),(qL hx114)]
    refine qF rfl c141 ?_
    have S144:=S110.ext e142
    obtain⟨r145,Z146,c147,e148⟩:=noteW S144.w (by omega) (v68) (p127.int 10) (a47) (r139) w70 (p127.w64 10 rfl) w49 f143
    try simp only[↓zP]
    refine qF rfl c147 ?_
    have hl150:r145.cs.length=7:=r145.cs_len
    have S151:=S144.ext e148
    obtain⟨b152,e153,nn154⟩:=S151.alloc (i:=Z146.length) (by simp) {cs:=r145.cs}
    have S155:=S151.ext e153
    have S156:=S155.up (M:=N+(3*i1+1)) (by omega)
    have hl157:=hl115.ext e142
    have hl158:=hl157.ext e148
    have hl159:=hl158.ext e153
    obtain⟨x160,G161,Z162,cs163,ap164,o165,gr166,wr167,hx168,hl169,C170⟩:=S156.w.apC (k:=17) apS36 apN36 xG rfl hx114 hl159 (xL xG (a:=r145) b152.1) (by simp only[List.length_cons,List.length_nil];omega) (by simp only[List.length_append,List.length_cons,List.length_nil];omega)
    obtain⟨l171,e172⟩:∃ l,l=l113++[r145]:=⟨_,rfl⟩
    rw[←e172] at hl169
    try simp only[↓zP,zQ,hl150,qJ,Rw.ones,ap164,gr166,wr167]
    have S180:=S156.chg C170
    have hl181:=hl124.ext e142
    have b186:=b134.ext e142
    refine⟨zX (qI (qS _ _ _ _ rfl rfl ((S144.w.at_).trans (S110.w.at_).symm)) (qI (qS _ _ _ _ rfl rfl ((S151.w.at_).trans (S110.w.at_).symm)) (zX (qI (qS _ _ _ _ rfl rfl ((S144.w.at_).trans (S110.w.at_).symm)) (zX (qI (qS _ _ _ _ rfl rfl ((S144.w.at_).trans (S110.w.at_).symm)) (zX (qI (qS _ _ _ _ rfl rfl ((hl181).at.trans (hl124).at.symm)) (zX (qI (qS _ _ _ _ rfl rfl ((b186).1.trans (b134).1.symm)) (zX (zX (qH))))))))))))),?_⟩
    refine zD [(5,0),(10,0)] ?_
    have b190:=b21.ext e34
    have b191:=b190.ext e63
    have b192:=b191.ext e105
    have b193:=b192.ext e142
    have b194:=b193.ext e148
    have b195:=b194.ext e153
    have b196:=b195.only C170.o
    have re198:=fun (o:Bool)(kk:Nat)=>(qX encMail (k:=kk) hp25 (j:=0) (by decide) o).trans (p24.int_at 0 rfl).1
    have re199:=fun (o:Bool)(kk:Nat)=>(qX encMail (k:=kk) hp25 (j:=1) (by decide) o).trans (p24.int_at 1 rfl).1
    obtain⟨cs200,Z201,c202,W203,O204⟩:=sayW S180.w (by omega) (99) (p24.int 0) (p24.int 1) ⟨by decide,by decide⟩ (p24.w64 0 rfl) (p24.w64 1 rfl)
    try simp only[↓zP,zQ,a5,a6,a7,k26,h11,qB,(b196.1),re199,re198]
    refine qF rfl c202 ?_
    try simp only[↓zP,zQ,a7]
    refine⟨zX (zX (qH)),?_⟩
    have e206:=e10 (by omega)
    try simp only[e206]
    have E207:=And.intro ((And.intro C9 C9o).1.ext e34) ((And.intro C9 C9o).2.trans (.ext e34 r _))
    have E208:=And.intro (E207.1.ext e63) (E207.2.trans (.ext e63 r _))
    have E209:=And.intro (E208.1.ext e105) (E208.2.trans (.ext e105 r _))
    have E210:=And.intro (E209.1.ext e142) (E209.2.trans (.ext e142 r _))
    have E211:=And.intro (E210.1.ext e148) (E210.2.trans (.ext e148 r _))
    have E212:=And.intro (E211.1.ext e153) (E211.2.trans (.ext e153 r _))
    have E213:=And.intro C170.w (E212.2.trans C170.o)
    have E214:=And.intro W203 (E213.2.trans O204)
    have E215:=And.intro (E214.1.up (M:=N+3*(i1+1)) (by omega)) E214.2
    refine⟨i1+1,by omega,_,_,_,rfl,E215,by omega,?_,?_,?_⟩<;>simp only[zQ,a5,a6]<;>rfl
   ·try simp only[↓zP,zQ,↓qC,h109]
    refine zD [(5,0),(10,0)] ?_
    have b216:=b21.ext e34
    have b217:=b216.ext e63
    have b218:=b217.ext e105
    have re220:=fun (o:Bool)(kk:Nat)=>(qX encMail (k:=kk) hp25 (j:=0) (by decide) o).trans (p24.int_at 0 rfl).1
    have re221:=fun (o:Bool)(kk:Nat)=>(qX encMail (k:=kk) hp25 (j:=1) (by decide) o).trans (p24.int_at 1 rfl).1
    have S222:=S66.ext e105
    obtain⟨cs223,Z224,c225,W226,O227⟩:=sayW S222.w (by omega) (99) (p24.int 0) (p24.int 1) ⟨by decide,by decide⟩ (p24.w64 0 rfl) (p24.w64 1 rfl)
    try simp only[↓zP,zQ,a5,a6,a7,k26,h11,qB,(b218.1),re221,re220]
    refine qF rfl c225 ?_
    try simp only[↓zP,zQ,a7]
    refine⟨zX (zX (qH)),?_⟩
    have e229:=e10 (by omega)
    try simp only[e229]
    have E230:=And.intro ((And.intro C9 C9o).1.ext e34) ((And.intro C9 C9o).2.trans (.ext e34 r _))
    have E231:=And.intro (E230.1.ext e63) (E230.2.trans (.ext e63 r _))
    have E232:=And.intro (E231.1.ext e105) (E231.2.trans (.ext e105 r _))
    have E233:=And.intro W226 (E232.2.trans O227)
    have E234:=And.intro (E233.1.up (M:=N+3*(i1+1)) (by omega)) E233.2
    refine⟨i1+1,by omega,_,_,_,rfl,E234,by omega,?_,?_,?_⟩<;>simp only[zQ,a5,a6]<;>rfl
  ·try simp only[zQ,h39]
   refine zD [(5,0),(10,0)] ?_
   have b235:=b21.ext e34
   have re237:=fun (o:Bool)(kk:Nat)=>(qX encMail (k:=kk) hp25 (j:=0) (by decide) o).trans (p24.int_at 0 rfl).1
   have re238:=fun (o:Bool)(kk:Nat)=>(qX encMail (k:=kk) hp25 (j:=1) (by decide) o).trans (p24.int_at 1 rfl).1
   have S239:=S12.ext e34
   obtain⟨cs240,Z241,c242,W243,O244⟩:=sayW S239.w (by omega) (99) (p24.int 0) (p24.int 1) ⟨by decide,by decide⟩ (p24.w64 0 rfl) (p24.w64 1 rfl)
   try simp only[↓zP,zQ,a5,a6,a7,k26,h11,qB,(b235.1),re238,re237]
   refine qF rfl c242 ?_
   try simp only[↓zP,zQ,a7]
   refine⟨zX (zX (qH)),?_⟩
   have e246:=e10 (by omega)
   try simp only[e246]
   have E247:=And.intro ((And.intro C9 C9o).1.ext e34) ((And.intro C9 C9o).2.trans (.ext e34 r _))
   have E248:=And.intro W243 (E247.2.trans O244)
   have E249:=And.intro (E248.1.up (M:=N+3*(i1+1)) (by omega)) E248.2
   refine⟨i1+1,by omega,_,_,_,rfl,E249,by omega,?_,?_,?_⟩<;>simp only[zQ,a5,a6]<;>rfl
 ·try simp only[↓zP,zQ,↓qC,a7,a6,h11]
  have S250:=S0.call C9 C9o
  have S251:=S250.up (M:=N+3) (by omega)
  exact⟨_,S251.w,S251.o⟩
end
end Go.Proofs.YtjdajobflgkebaaGreatDoor.Sim
