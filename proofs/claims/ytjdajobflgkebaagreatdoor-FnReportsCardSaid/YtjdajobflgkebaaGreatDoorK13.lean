/- Texts of this proof, put together and made small by a program: part 13. -/
import Derived.Test.YtjdajobflgkebaaGreatDoorK12
set_option linter.all false
set_option maxRecDepth 100000
set_option maxHeartbeats 40000000
namespace Go.Proofs.YtjdajobflgkebaaGreatDoor.Sim
open Go
section
attribute [local irreducible] kO uW kR wQ
theorem takeW {H:qE}{r N:Nat}{cs:List AV}(w0:Wd H r (KW 2 2 1 N) cs)(hN:N+5≤900000)(i num:Int)(wi:W64 i)(wnum:W64 num)(hi:0≤i∧i<2):∃ (vv:Int)(cs':List AV)(Z:qE),Sound Tryz.prog 77 [.ptr r 0,i,num] H (.sc (.int .i64 vv)) Z∧Wd Z r (KW 2 2 1 (N+5)) cs'∧OnlyW H Z r cs cs'∧W64 vv:=by
 suffices h:∃ w Z,Sound Tryz.prog 77 [.ptr r 0,i,num] H w Z∧∃ (vv:Int)(cs':List AV),w=.sc (.int .i64 vv)∧Wd Z r (KW 2 2 1 (N+5)) cs'∧OnlyW H Z r cs cs'∧W64 vv by
  obtain⟨w,Z,h1,vv,cs',rfl,h2⟩:=h
  exact⟨vv,cs',Z,h1,h2⟩
 refine zR 76 [.tmp 6] Tryz.func77 ?_
 have S0:=WS.start w0
 have sr1:=S0.w.at_
 obtain⟨x2,l3,hx4,hl5,pl6⟩:=S0.w.gO 1 rfl
 have rx8:=qL hx4
 obtain⟨j10,hj11,hb9⟩:∃ j:Nat,i=(j:Int)∧j<l3.length:=⟨Int.toNat i,by omega,by omega⟩
 subst hj11
 obtain⟨q12,xe13,_⟩:=hl5.get hb9
 subst xe13
 obtain⟨p14,hp15⟩:∃ p,l3[j10]?=some p:=⟨_,List.getElem?_eq_getElem hb9⟩
 have k16:(0:Int)≤(j10:Int):=by omega
 have k17:(j10:Int)<(l3.length:Int):=by omega
 have hq18:=hl5.at
 have re19:=fun (o:Bool)(kk:Nat)=>(qX xI (k:=kk) hp15 (j:=0) (by decide) o).trans (p14.int_at 0 rfl).1
 obtain⟨m20,hm21⟩:∃ m,Int.tmod num 2=m:=⟨_,rfl⟩
 by_cases h23:m20=(0:Int)
 ·subst h23
  try simp only[↓zP,zQ,↓qC,qJ,Int.reduceEq,hm21,sr1,rx8,k16,k17,qB,hq18,re19]
  refine zD [(4,0),(4,10),(4,15)] ?_
  obtain⟨x24,l25,hx26,hl27,pl28⟩:=S0.w.gO 13 rfl
  obtain⟨pl29,pw30⟩:=pl28
  obtain⟨x33,l34,p35,bl36,rt37⟩:=S0.ar rfl
  obtain⟨v39,l40,x41,Z42,c43,p44,o45,g46⟩:=longG p35 bl36 (p14.int 0)
  try simp only[↓zP,zQ,qJ,sr1,(qL hx26)]
  refine qF rfl c43 ?_
  have G50:=g46.1
  have bl51:=G50.2.1 bl36
  have rt52:=G50.2.2 rt37
  obtain⟨cs49,C47,p48⟩:=S0.w.arC rfl p35 p44 o45 ⟨bl51,rt52⟩
  have w54:W64 v39:=by have h:=g46.2;unfold W64;omega
  obtain⟨v55,l56,x57,Z58,c59,p60,o61,g62⟩:=pskG p48 bl51 (p14.int 0) (9)
  try simp only[↓zP,zQ,qJ]
  refine qF rfl c59 ?_
  have S63:=S0.chg C47
  have G67:=g62.1
  obtain⟨cs66,C64,p65⟩:=S63.w.arC rfl p48 p60 o61 ⟨(G67.2.1 bl51),(G67.2.2 rt52)⟩
  have w71:W64 v55:=by have h:=g62.2;unfold W64;omega
  have S72:=S63.chg C64
  obtain⟨b73,e74,nn75⟩:=S72.alloc (i:=Z58.length) (by simp) {cs:=ints .i64 [v39,v55]}
  have S77:=(S72.ext e74).up (M:=N+2) (by omega)
  have hx79:=C47.cc _ _ (by decide) hx26
  have hx80:=C64.cc _ _ (by decide) hx79
  obtain⟨x83,G84,Z85,cs86,ap87,o88,gr89,wr90,hx91,hl92,C93⟩:=S77.w.apC (k:=13) uV uU vD rfl hx80 (((hl27.chg C47 (by decide) hx26).chg C64 (by decide) hx79).ext e74) (xX (L:=([v39,v55]:List Int)) (n:=2) b73.1 rfl) (by simp only[List.length_cons,List.length_nil];omega) (⟨by simp only[List.length_append,List.length_cons,List.length_nil];omega,xF pw30 (xA (show W64 (v39) from w54) (xA (show W64 (v55) from w71) xR))⟩)
  obtain⟨l94,e95⟩:∃ l,l=l25++([v39,v55]:List Int):=⟨_,rfl⟩
  rw[←e95] at hl92
  try simp only[↓zP,zQ,qJ,↓qC,ap87,gr89,wr90]
  have S104:=S77.chg C93
  refine⟨zX (qI (xS _ _ rfl rfl rfl (S0.w.at_) (S63.w.at_) hx26 hx79) (qI (xS _ _ rfl rfl rfl (S0.w.at_) (S72.w.at_) hx26 hx80) (qH))),?_⟩
  obtain⟨x105,l106,hx107,hl108,pl109⟩:=S104.w.gO 14 rfl
  obtain⟨pl110,pw111⟩:=pl109
  obtain⟨t113,Z114,c115,e116⟩:=takenS S104.w.at_ hx107 (OwnX.isL hl108) (by omega) (p14.int 0)
  refine qF rfl c115 ?_
  cases t113 with
  | false =>
   have S117:=S104.ext e116
   have sr118:=S117.w.at_
   obtain⟨b120,e121,nn122⟩:=S117.alloc (i:=Z114.length) (by simp) {cs:=ints .i64 [p14.int 0]}
   have S124:=(S117.ext e121).up (M:=N+3) (by omega)
   obtain⟨x127,G128,Z129,cs130,ap131,o132,gr133,wr134,hx135,hl136,C137⟩:=S124.w.apC (k:=14) uV uU vD rfl hx107 ((hl108.ext e116).ext e121) (xX (L:=([p14.int 0]:List Int)) (n:=1) b120.1 rfl) (by simp only[List.length_cons,List.length_nil];omega) (⟨by simp only[List.length_append,List.length_cons,List.length_nil];omega,xF pw111 (xA (show W64 (p14.int 0) from (p14.w64 0 rfl)) xR)⟩)
   obtain⟨l138,e139⟩:∃ l,l=l106++([p14.int 0]:List Int):=⟨_,rfl⟩
   rw[←e139] at hl136
   try simp only[↓zP,zQ,qJ,↓qC,sr118,(qL hx107),ap131,gr133,wr134]
   have S149:=(S124.chg C137).up (M:=N+5) (by omega)
   exact⟨_,_,rfl,S149.w,S149.o,⟨by decide,by decide⟩⟩
  | true =>
   try simp only[↓zP,zQ,qJ,↓qC]
   have S151:=(S104.ext e116).up (M:=N+5) (by omega)
   exact⟨_,_,rfl,S151.w,S151.o,⟨by decide,by decide⟩⟩
 ·try simp only[↓zP,zQ,↓qC,qJ,Int.reduceEq,hm21,h23,sr1,rx8,k16,k17,qB,hq18,re19]
  refine zD [(4,0),(4,10),(4,15),(4,20)] ?_
  obtain⟨x152,l153,hx154,hl155,pl156⟩:=S0.w.gO 13 rfl
  obtain⟨pl157,pw158⟩:=pl156
  obtain⟨x161,l162,p163,bl164,rt165⟩:=S0.ar rfl
  obtain⟨v167,l168,x169,Z170,c171,p172,o173,g174⟩:=longG p163 bl164 (9)
  try simp only[↓zP,zQ,qJ,sr1,(qL hx154)]
  refine qF rfl c171 ?_
  have G178:=g174.1
  have bl179:=G178.2.1 bl164
  have rt180:=G178.2.2 rt165
  obtain⟨cs177,C175,p176⟩:=S0.w.arC rfl p163 p172 o173 ⟨bl179,rt180⟩
  have w182:W64 v167:=by have h:=g174.2;unfold W64;omega
  obtain⟨v183,l184,x185,Z186,c187,p188,o189,g190⟩:=pskG p176 bl179 (9) (1)
  try simp only[↓zP,zQ,qJ]
  refine qF rfl c187 ?_
  have S191:=S0.chg C175
  have G195:=g190.1
  have bl196:=G195.2.1 bl179
  have rt197:=G195.2.2 rt180
  obtain⟨cs194,C192,p193⟩:=S191.w.arC rfl p176 p188 o189 ⟨bl196,rt197⟩
  have w199:W64 v183:=by have h:=g190.2;unfold W64;omega
  obtain⟨v200,l201,x202,Z203,c204,p205,o206,g207⟩:=pskG p193 bl196 (9) (2)
  try simp only[↓zP,zQ,qJ]
  refine qF rfl c204 ?_
  have S208:=S191.chg C192
  have G212:=g207.1
  obtain⟨cs211,C209,p210⟩:=S208.w.arC rfl p193 p205 o206 ⟨(G212.2.1 bl196),(G212.2.2 rt197)⟩
  have w216:W64 v200:=by have h:=g207.2;unfold W64;omega
  have S217:=S208.chg C209
  obtain⟨b218,e219,nn220⟩:=S217.alloc (i:=Z203.length) (by simp) {cs:=ints .i64 [v167,v183,v200]}
  have S222:=(S217.ext e219).up (M:=N+3) (by omega)
  have hx224:=C175.cc _ _ (by decide) hx154
  have hx225:=C192.cc _ _ (by decide) hx224
  have hx226:=C209.cc _ _ (by decide) hx225
  obtain⟨x230,G231,Z232,cs233,ap234,o235,gr236,wr237,hx238,hl239,C240⟩:=S222.w.apC (k:=13) uV uU vD rfl hx226 ((((hl155.chg C175 (by decide) hx154).chg C192 (by decide) hx224).chg C209 (by decide) hx225).ext e219) (xX (L:=([v167,v183,v200]:List Int)) (n:=3) b218.1 rfl) (by simp only[List.length_cons,List.length_nil];omega) (⟨by simp only[List.length_append,List.length_cons,List.length_nil];omega,xF pw158 (xA (show W64 (v167) from w182) (xA (show W64 (v183) from w199) (xA (show W64 (v200) from w216) xR)))⟩)
  obtain⟨l241,e242⟩:∃ l,l=l153++([v167,v183,v200]:List Int):=⟨_,rfl⟩
  rw[←e242] at hl239
  try simp only[↓zP,zQ,qJ,↓qC,ap234,gr236,wr237]
  have S251:=S222.chg C240
  refine⟨zX (qI (xS _ _ rfl rfl rfl (S0.w.at_) (S191.w.at_) hx154 hx224) (qI (xS _ _ rfl rfl rfl (S0.w.at_) (S208.w.at_) hx154 hx225) (qI (xS _ _ rfl rfl rfl (S0.w.at_) (S217.w.at_) hx154 hx226) (qH)))),?_⟩
  obtain⟨x252,l253,hx254,hl255,pl256⟩:=S251.w.gO 14 rfl
  obtain⟨pl257,pw258⟩:=pl256
  obtain⟨t260,Z261,c262,e263⟩:=takenS S251.w.at_ hx254 (OwnX.isL hl255) (by omega) (9)
  refine qF rfl c262 ?_
  cases t260 with
  | false =>
   have S264:=S251.ext e263
   have sr265:=S264.w.at_
   obtain⟨b267,e268,nn269⟩:=S264.alloc (i:=Z261.length) (by simp) {cs:=ints .i64 [9]}
   have S271:=(S264.ext e268).up (M:=N+4) (by omega)
   obtain⟨x274,G275,Z276,cs277,ap278,o279,gr280,wr281,hx282,hl283,C284⟩:=S271.w.apC (k:=14) uV uU vD rfl hx254 ((hl255.ext e263).ext e268) (xX (L:=([9]:List Int)) (n:=1) b267.1 rfl) (by simp only[List.length_cons,List.length_nil];omega) (⟨by simp only[List.length_append,List.length_cons,List.length_nil];omega,xF pw258 (xA (show W64 (9) from ⟨by decide,by decide⟩) xR)⟩)
   obtain⟨l285,e286⟩:∃ l,l=l253++([9]:List Int):=⟨_,rfl⟩
   rw[←e286] at hl283
   try simp only[↓zP,zQ,qJ,↓qC,sr265,(qL hx254),ap278,gr280,wr281]
   have S296:=(S271.chg C284).up (M:=N+5) (by omega)
   exact⟨_,_,rfl,S296.w,S296.o,⟨by decide,by decide⟩⟩
  | true =>
   try simp only[↓zP,zQ,qJ,↓qC]
   have S298:=(S251.ext e263).up (M:=N+5) (by omega)
   exact⟨_,_,rfl,S298.w,S298.o,⟨by decide,by decide⟩⟩
theorem turnW {H:qE}{r N:Nat}{cs:List AV}(w0:Wd H r (KW 2 2 1 N) cs)(hN:N+1≤900000)(i num:Int)(wi:W64 i)(wnum:W64 num)(hi:0≤i∧i<2):∃ (vv:Int)(cs':List AV)(Z:qE),Sound Tryz.prog 75 [.ptr r 0,i,num] H (.sc (.int .i64 vv)) Z∧Wd Z r (KW 2 2 1 (N+1)) cs'∧OnlyW H Z r cs cs'∧W64 vv:=by
 suffices h:∃ w Z,Sound Tryz.prog 75 [.ptr r 0,i,num] H w Z∧∃ (vv:Int)(cs':List AV),w=.sc (.int .i64 vv)∧Wd Z r (KW 2 2 1 (N+1)) cs'∧OnlyW H Z r cs cs'∧W64 vv by
  obtain⟨w,Z,h1,vv,cs',rfl,h2⟩:=h
  exact⟨vv,cs',Z,h1,h2⟩
 refine zR 52 [.tmp 6] Tryz.func75 ?_
 have S0:=WS.start w0
 have sr1:=S0.w.at_
 obtain⟨x2,l3,hx4,hl5,pl6⟩:=S0.w.gO 1 rfl
 have rx8:=qL hx4
 obtain⟨j10,hj11,hb9⟩:∃ j:Nat,i=(j:Int)∧j<l3.length:=⟨Int.toNat i,by omega,by omega⟩
 subst hj11
 obtain⟨q12,xe13,_⟩:=hl5.get hb9
 subst xe13
 obtain⟨p14,hp15⟩:∃ p,l3[j10]?=some p:=⟨_,List.getElem?_eq_getElem hb9⟩
 have k16:(0:Int)≤(j10:Int):=by omega
 have k17:(j10:Int)<(l3.length:Int):=by omega
 have hq18:=hl5.at
 have re19:=xD xI hp15
 obtain⟨b20,e21,nn22⟩:=S0.alloc (i:=H.length) (by simp) {cs:=(Rw.zero kClient).cs}
 have c23:=b20.1
 have S24:=S0.ext e21
 have wr25:=fun (H:qE)(r:Nat)=>Rw.wrA (Rw.zero kClient) p14 (m:=23) rfl H r
 obtain⟨m26,hm27⟩:∃ m,Int.tmod num 2=m:=⟨_,rfl⟩
 by_cases h29:m26=(1:Int)
 ·subst h29
  try simp only[↓zP,zQ,↓qC,qJ,vB,Int.reduceEq,hm27,Rw.ones,c23,sr1,rx8,k16,k17,qB,hq18,re19,wr25]
  refine zD [(4,0),(4,10),(8,0)] ?_
  have S30:=S24.put b20 {cs:=p14.cs}
  have sr31:=S30.w.at_
  obtain⟨v32,hx33,w34⟩:=S30.w.gI 3 rfl
  obtain⟨v35,hx36,w37⟩:=S30.w.gI 4 rfl
  obtain⟨x38,l39,hx40,hl41,pl42⟩:=S30.w.gO 5 rfl
  obtain⟨x44,l45,hx46,hl47,pl48⟩:=S30.w.gO 6 rfl
  obtain⟨x50,l51,hx52,hl53,pl54⟩:=S30.w.gO 7 rfl
  obtain⟨x56,l57,hx58,hl59,pl60⟩:=S30.w.gO 8 rfl
  obtain⟨v62,hx63,w64⟩:=S30.w.gI 9 rfl
  have ra65:=fun (o:Bool)=>rd_agg7 (off:=3) hx33 hx36 hx40 hx46 hx52 hx58 hx63 o
  have b66:=b20.put {cs:=p14.cs}
  have rf68:=p14.rdI (j:=11) rfl
  obtain⟨r69,Z70,c71,e72,f73⟩:=cidW S30.w (by omega) (p14.int 11) (p14.w64 11 rfl)
  try simp -implicitDefEqProofs only[↓zP,zQ,qJ,Nat.reduceAdd,(b66.1),rf68,sr31,ra65]
  refine qF rfl c71 ?_
  have S75:=S30.ext e72
  obtain⟨ds81,t82,Z83,c84,e85,vd86⟩:=turnGateE (N:=N+0) (v32) (v35) (v62) w34 w37 w64 (hl41.ext e72) (hl47.ext e72) (hl53.ext e72) (hl59.ext e72) (by omega) (by omega) (by omega) (by omega) (by omega) (r69) f73
  try simp only[↓zP]
  refine qF rfl c84 ?_
  have sr88:=(S75.ext e85).w.at_
  obtain⟨Z89,cs90,wr91,W92,O93⟩:=S75.w.gate e85 vd86
  try simp only[↓zP,zQ,qJ,↓qC,sr88,wr91]
  have S94:=S75.call W92 O93
  refine⟨zX (qI (qS _ _ _ _ rfl rfl ((S75.w.at_).trans (S30.w.at_).symm)) (zX (qH))),?_⟩
  cases t82 with
  | false =>
   try simp only[zQ]
   have S95:=S94.up (M:=N+1) (by omega)
   exact⟨_,_,rfl,S95.w,S95.o,⟨by decide,by decide⟩⟩
  | true =>
   try simp only[zQ]
   have S96:=S94.up (M:=N+1) (by omega)
   exact⟨_,_,rfl,S96.w,S96.o,⟨by decide,by decide⟩⟩
 ·have b97:=b20.put {cs:=p14.cs}
  have c98:=b97.1
  have rf99:=p14.rdI (j:=3) rfl
  by_cases h100:(p14.int 3)=(3:Int)
  ·have h101:=eq_true h100
   try simp only[↓zP,zQ,↓qC,qJ,vB,Int.reduceEq,hm27,h29,Rw.ones,c23,sr1,rx8,k16,k17,qB,hq18,re19,wr25,c98,rf99,h101]
   refine zD [(3,0),(3,8),(6,0)] ?_
   have S102:=S24.put b20 {cs:=p14.cs}
   have sr103:=S102.w.at_
   have rc104:=fun (o:Bool)=>p14.chan (j:=11) rfl o
   obtain⟨r105,r106,r107,r108,r109,r110,r111,r112,r113,r114,Z115,c116,e117,f118⟩:=turnOnE (H:=((H++[{cs:=(Rw.zero kClient).cs}]:qE).set (H.length) {cs:=p14.cs})) (p14.int 11) (p14.int 12) (p14.int 13) (p14.int 14) (p14.int 15) (p14.int 16) (p14.int 17) (p14.int 18) (p14.int 19) (p14.w64 11 rfl) (p14.w64 12 rfl) (p14.w64 13 rfl) (p14.w64 14 rfl) (p14.w64 15 rfl) (p14.w64 16 rfl) (p14.w64 17 rfl) (p14.w64 18 rfl) (p14.w64 19 rfl)
   try simp -implicitDefEqProofs only[↓zP,zQ,qJ,c98,rc104,Nat.reduceAdd,sr103,rx8]
   refine qF rfl c116 ?_
   obtain⟨w119,w120,w121,w122,w123,w124,w125,w126,w127⟩:=f118
   have hl129:=(hl5.ext e21).put (g':={cs:=p14.cs}) hx4 b20
   have hl130:=hl129.ext e117
   have S132:=S102.ext e117
   obtain⟨p133,hb134,ho135⟩:=p14.putP (js:=kChan) (ds:=[.sc (.int .i64 (r105)),.sc (.int .i64 (r106)),.sc (.int .i64 (r107)),.sc (.int .i64 (r108)),.sc (.int .i64 (r109)),.sc (.int .i64 (r110)),.sc (.int .i64 (r111)),.sc (.int .i64 (r112)),.sc (.int .i64 (r113))]) 11 (RowOk.int w119 (RowOk.int w120 (RowOk.int w121 (RowOk.int w122 (RowOk.int w123 (RowOk.int w124 (RowOk.int w125 (RowOk.int w126 (RowOk.int w127 RowOk.nil))))))))) rfl (by decide)
   obtain⟨Z136,l137,hZ138,e139,e140,hp141,ot142,hl143,C144⟩:=S132.w.stRow (k:=1) rfl hx4 hl130 rfl hp15 p133 (by rw[List.length_set];exact pl6)
   have wr145:uJ true 9 Z115 q12 (some {cs:=rows Rw.cs l3}) (j10*23+11) (.agg [r105,r106,r107,r108,r109,r110,r111,r112,r113])=some Z136:=by rw[hZ138];exact wr_part xI (n:=9) hp15 rfl (by decide) hb134 rfl q12
   have pl146:=pl6;rw[←e140] at pl146
   have hx149:=hx4;rw[←e140] at hx149
   have hl150:=hl143;rw[←e140] at hl150
   try simp only[↓zP,zQ,k16,k17,qB,↓qC,(hl130.at),wr145]
   have S151:=S132.chg C144
   refine⟨zX (qI (qS _ _ _ _ rfl rfl ((S132.w.at_).trans (S102.w.at_).symm)) (zX (qH))),?_⟩
   cases r114 with
   | false =>
    try simp only[zQ]
    have S152:=S151.up (M:=N+1) (by omega)
    exact⟨_,_,rfl,S152.w,S152.o,⟨by decide,by decide⟩⟩
   | true =>
    try simp only[zQ]
    have S153:=S151.up (M:=N+1) (by omega)
    exact⟨_,_,rfl,S153.w,S153.o,⟨by decide,by decide⟩⟩
  ·try simp only[↓zP,zQ,↓qC,qJ,vB,Int.reduceEq,hm27,h29,Rw.ones,c23,sr1,rx8,k16,k17,qB,hq18,re19,wr25,c98,rf99,h100]
   have S154:=S24.put b20 {cs:=p14.cs}
   have S155:=S154.up (M:=N+1) (by omega)
   exact⟨_,_,rfl,S155.w,S155.o,⟨by decide,by decide⟩⟩
theorem forgeW {H:qE}{r N:Nat}{cs:List AV}(w0:Wd H r (KW 2 2 1 N) cs)(hN:N+2≤900000)(ek ea en:Int)(wek:W64 ek)(wea:W64 ea)(wen:W64 en)(tx:ByteArray)(hea:0≤ea)(hen:0≤en)(htx:tx.size≤1000000):∃ (vv:Int)(cs':List AV)(Z:qE),Sound Tryz.prog 76 [.ptr r 0,.agg [ek,ea,en,.sc (.string tx)]] H (.sc (.int .i64 vv)) Z∧Wd Z r (KW 2 2 1 (N+2)) cs'∧OnlyW H Z r cs cs'∧W64 vv:=by
 suffices h:∃ w Z,Sound Tryz.prog 76 [.ptr r 0,.agg [ek,ea,en,.sc (.string tx)]] H w Z∧∃ (vv:Int)(cs':List AV),w=.sc (.int .i64 vv)∧Wd Z r (KW 2 2 1 (N+2)) cs'∧OnlyW H Z r cs cs'∧W64 vv by
  obtain⟨w,Z,h1,vv,cs',rfl,h2⟩:=h
  exact⟨vv,cs',Z,h1,h2⟩
 refine zR 54 [.tmp 4] Tryz.func76 ?_
 have S0:=WS.start w0
 obtain⟨b1,e2,nn3⟩:=S0.alloc (i:=H.length) (by simp) {cs:=[ek,ea,en,.sc (.string tx)]}
 try simp only[↓zP,zQ,↓qC]
 refine zD [(3,0),(5,0)] ?_
 have S4:=S0.ext e2
 have sr5:=S4.w.at_
 obtain⟨x6,l7,p8,bl9,rt10⟩:=S4.ar rfl
 have hx11:=p8.2.1
 obtain⟨q14,l15,rs16,v17,t18,Z19,c20,e21,u22,hq23,b24,rt25,w26⟩:=readTermE (OwnN.rd p8.2.2.1) bl9 rt10 tx htx
 try simp only[↓zP,zQ,qJ,(b1.1),sr5,(yY hx11)]
 refine qF rfl c20 ?_
 have b27:=S4.made e21 hq23 u22
 have S28:=S4.ext e21
 obtain⟨b29,e30,nn31⟩:=S28.alloc (i:=Z19.length) (by simp) {cs:=[.sc (.slice none 0 0)]}
 have S33:=S28.ext e30
 try simp only[↓zP,zQ,↓qC,(b29.1),xZ,xY]
 refine⟨zX (zX (qH)),?_⟩
 refine zD [(3,0),(7,0)] ?_
 cases t18 with
 | false =>
  try simp only[↓zP,zQ,↓qC,qJ]
  refine⟨zX (zX (qH)),?_⟩
  have S34:=S33.put b29 {cs:=[.sl q14 0 l15.length 4]}
  have S35:=S34.up (M:=N+2) (by omega)
  exact⟨_,_,rfl,S35.w,S35.o,⟨by decide,by decide⟩⟩
 | true =>
  have b36:=b29.put {cs:=[.sl q14 0 l15.length 4]}
  have S38:=S33.put b29 {cs:=[.sl q14 0 l15.length 4]}
  have sr39:=S38.w.at_
  obtain⟨x40,l41,hx42,hl43,pl44⟩:=S38.w.gO 13 rfl
  obtain⟨pl45,pw46⟩:=pl44
  have b50:=(b27.ext e30).oth (Ne.symm (nn31 _ _ b27.1)) {cs:=[.sl q14 0 l15.length 4]}
  obtain⟨t51,Z52,c53,e54⟩:=derivesE (RdN.ofReg b50.1) b24 (OwnX.isL hl43) (by omega) (v17)
  try simp only[↓zP,zQ,(b36.1),qJ,sr39,(qL hx42)]
  refine qF rfl c53 ?_
  try simp only[↓zP,zQ,qA,↓qC,qJ]
  refine⟨zX (zX (qH)),?_⟩
  cases t51 with
  | false =>
   try simp only[zQ]
   have S56:=(S38.ext e54).up (M:=N+2) (by omega)
   exact⟨_,_,rfl,S56.w,S56.o,⟨by decide,by decide⟩⟩
  | true =>
   have c58:=(b36.ext e54).1
   have S59:=S38.ext e54
   have sr60:=S59.w.at_
   have b61:=b50.ext e54
   obtain⟨Z66,cs67,wr68,hx69,ok70,C71⟩:=S59.w.give (k:=0) (y:=.sl q14 0 l15.length 4) rfl hx11 ⟨_,OwnF.ofReg b61.1,b24,rt25⟩ b61 rfl
   have wr72:=wr_agg1 wr68
   have b73:=b1.ext e21
   have b75:=(b73.ext e30).oth (Ne.symm (nn31 _ _ b73.1)) {cs:=[.sl q14 0 l15.length 4]}
   have b77:=(b75.ext e54).give C71 (Ne.symm (Ne.symm (Nat.ne_of_lt (Nat.lt_of_lt_of_le (qP b1.1) u22))))
   have c78:=b77.1
   by_cases h79:ea<(2:Int)
   ·try simp only[zQ,c58,sr60,wr72,c78,Int.reduceEq,h79]
    refine zD [(3,0),(5,0),(7,0)] ?_
    have S80:=S59.give C71 b61.2.1
    have sr81:=S80.w.at_
    obtain⟨x82,l83,hx84,hl85,pl86⟩:=S80.w.gO 2 rfl
    obtain⟨pl87,pw88⟩:=pl86
    obtain⟨j92,hj93,hb91⟩:∃ j:Nat,ea=(j:Int)∧j<l83.length:=⟨Int.toNat ea,by omega,by omega⟩
    subst hj93
    obtain⟨q94,xe95,_⟩:=hl85.get hb91
    subst xe95
    obtain⟨p96,hp97⟩:∃ p,l83[j92]?=some p:=⟨_,List.getElem?_eq_getElem hb91⟩
    have w98:=pw88 _ (List.mem_of_getElem? hp97)
    have k99:(0:Int)≤(j92:Int):=by omega
    have k100:(j92:Int)<(l83.length:Int):=by omega
    have re102:=fun (o:Bool)(kk:Nat)=>rd_num (k:=kk) hp97 o
    try simp only[↓zP,zQ,qJ,↓qC,c78,Int.reduceEq,sr81,(qL hx84),k99,k100,qB,(hl85.at),re102]
    refine⟨zX (zX (zX (qH))),?_⟩
    obtain⟨m103,hm104⟩:∃ m,Int.tmod en 10=m:=⟨_,rfl⟩
    have w105:W64 m103:=hm104▸W64.tmod wen
    obtain⟨cs107,Z108,c109,W110,O111⟩:=sayW S80.w (by omega) (m103) (p96) (v17) w105 w98 w26
    try simp only[hm104]
    refine qF rfl c109 ?_
    try simp only[↓zP,zQ,↓qC]
    have S113:=S80.call W110 O111
    exact⟨_,_,rfl,S113.w,S113.o,⟨by decide,by decide⟩⟩
   ·obtain⟨m114,hm115⟩:∃ m,Int.tmod en 10=m:=⟨_,rfl⟩
    have w116:W64 m114:=hm115▸W64.tmod wen
    have S118:=S59.give C71 b61.2.1
    obtain⟨cs119,Z120,c121,W122,O123⟩:=sayW S118.w (by omega) (m114) (99) (v17) w116 ⟨by decide,by decide⟩ w26
    try simp only[zQ,c58,sr60,wr72,c78,Int.reduceEq,hm115,h79]
    refine qF rfl c121 ?_
    try simp only[↓zP,zQ,↓qC]
    have S125:=S118.call W122 O123
    exact⟨_,_,rfl,S125.w,S125.o,⟨by decide,by decide⟩⟩
theorem netW {H:qE}{r N:Nat}{cs:List AV}(w0:Wd H r (KW 2 2 1 N) cs)(hN:N+131≤900000)(ek ea en:Int)(wek:W64 ek)(wea:W64 ea)(wen:W64 en)(tx:ByteArray)(hea:0≤ea)(hen:0≤en)(htx:tx.size≤1000000):∃ (vv:Int)(cs':List AV)(Z:qE),Sound Tryz.prog 71 [.ptr r 0,.agg [ek,ea,en,.sc (.string tx)]] H (.sc (.int .i64 vv)) Z∧Wd Z r (KW 2 2 1 (N+131)) cs'∧OnlyW H Z r cs cs'∧W64 vv:=by
 suffices h:∃ w Z,Sound Tryz.prog 71 [.ptr r 0,.agg [ek,ea,en,.sc (.string tx)]] H w Z∧∃ (vv:Int)(cs':List AV),w=.sc (.int .i64 vv)∧Wd Z r (KW 2 2 1 (N+131)) cs'∧OnlyW H Z r cs cs'∧W64 vv by
  obtain⟨w,Z,h1,vv,cs',rfl,h2⟩:=h
  exact⟨vv,cs',Z,h1,h2⟩
 refine zR 68 [.tmp 4] Tryz.func71 ?_
 have S0:=WS.start w0
 obtain⟨b1,e2,nn3⟩:=S0.alloc (i:=H.length) (by simp) {cs:=[ek,ea,en,.sc (.string tx)]}
 have c4:=b1.1
 obtain⟨m5,hm6⟩:∃ m,Int.tmod en 12=m:=⟨_,rfl⟩
 have w7:W64 m5:=hm6▸W64.tmod wen
 have im8:0≤m5∧m5<12:=hm6▸tmod_in hen (by decide)
 have S9:=S0.ext e2
 have sr10:=S9.w.at_
 obtain⟨x11,l12,hx13,hl14,pl15⟩:=S9.w.gO 10 rfl
 have rx17:=qL hx13
 have ln18:=fun e=>hl14.len e
 by_cases h19:(l12.length:Int)≤m5
 ·try simp -implicitDefEqProofs only[↓zP,zQ,↓qC,qJ,Nat.reduceAdd,sr10,rx17,ln18,c4,Int.reduceEq,hm6,h19]
  have S20:=S9.up (M:=N+131) (by omega)
  exact⟨_,_,rfl,S20.w,S20.o,⟨by decide,by decide⟩⟩
 ·obtain⟨j22,hj23,hb21⟩:∃ j:Nat,m5=(j:Int)∧j<l12.length:=⟨Int.toNat m5,by omega,by omega⟩
  subst hj23
  obtain⟨q24,xe25,_⟩:=hl14.get hb21
  subst xe25
  obtain⟨p26,hp27⟩:∃ p,l12[j22]?=some p:=⟨_,List.getElem?_eq_getElem hb21⟩
  have k28:(0:Int)≤(j22:Int):=by omega
  have k29:(j22:Int)<(l12.length:Int):=by omega
  have hq30:=hl14.at
  have re31:=fun (o:Bool)=>(xD uF hp27 o).trans (by rw[csLetter])
  obtain⟨b32,e33,nn34⟩:=S9.alloc (i:=H.length+1) (by simp) {cs:=[(0:Int),(0:Int),(0:Int)]}
  have S36:=S9.ext e33
  have b38:=(b1.ext e33).oth (Ne.symm (nn34 _ _ b1.1)) {cs:=[p26.int 0,p26.int 1,p26.int 2]}
  have c39:=b38.1
  by_cases h40:ek=(4:Int)
  ·subst h40
   have S41:=S36.put b32 {cs:=[p26.int 0,p26.int 1,p26.int 2]}
   have sr42:=S41.w.at_
   have hl44:=(hl14.ext e33).put (g':={cs:=[p26.int 0,p26.int 1,p26.int 2]}) hx13 b32
   by_cases h46:(l12.length:Int)<(12:Int)
   ·try simp -implicitDefEqProofs only[↓zP,zQ,↓qC,qJ,Nat.reduceAdd,sr10,rx17,ln18,c4,Int.reduceEq,hm6,h19,k28,k29,qB,hq30,re31,xZ,xY,c39,sr42,h46]
    refine zD [(4,0),(5,0)] ?_
    have b47:=b32.put {cs:=[p26.int 0,p26.int 1,p26.int 2]}
    obtain⟨p49,hp50⟩:=((RowOk.int (p26.w64 0 rfl) (RowOk.int (p26.w64 1 rfl) (RowOk.int (p26.w64 2 rfl) RowOk.nil))):RowOk kT [.sc (.int .i64 (p26.int 0)),.sc (.int .i64 (p26.int 1)),.sc (.int .i64 (p26.int 2))])
    obtain⟨b51,e52,nn53⟩:=S41.alloc (i:=H.length+1+1) (by simp) {cs:=[p26.int 0,p26.int 1,p26.int 2]}
    have b54:=b51
    rw[←hp50] at b54
    have S56:=(S41.ext e52).up (M:=N+1) (by omega)
    obtain⟨x58,G59,Z60,cs61,ap62,o63,gr64,wr65,hx66,hl67,C68⟩:=S56.w.apC (k:=10) apS35 apN35 uF rfl hx13 (hl44.ext e52) (xL uF (a:=p49) (by rw[hp50];exact b51.1)) (by simp only[List.length_cons,List.length_nil];omega) (by simp only[List.length_append,List.length_cons,List.length_nil];omega)
    obtain⟨l69,e70⟩:∃ l,l=l12++[p49]:=⟨_,rfl⟩
    rw[←e70] at hl67
    have pl71:l69.length=l12.length+1:=by rw[e70,List.length_append];rfl
    try simp -implicitDefEqProofs only[↓zP,zQ,qJ,(b47.1),Nat.reduceAdd,↓qC,sr42,rx17,ap62,gr64,wr65]
    refine⟨zX (zX (qH)),?_⟩
    have S79:=(S56.chg C68).up (M:=N+131) (by omega)
    exact⟨_,_,rfl,S79.w,S79.o,⟨by decide,by decide⟩⟩
   ·try simp -implicitDefEqProofs only[↓zP,zQ,↓qC,qJ,Nat.reduceAdd,sr10,rx17,ln18,c4,Int.reduceEq,hm6,h19,k28,k29,qB,hq30,re31,xZ,xY,c39,sr42,h46]
    have S80:=S41.up (M:=N+131) (by omega)
    exact⟨_,_,rfl,S80.w,S80.o,⟨by decide,by decide⟩⟩
  ·try simp -implicitDefEqProofs only[↓zP,zQ,↓qC,qJ,Nat.reduceAdd,sr10,rx17,ln18,c4,Int.reduceEq,hm6,h19,k28,k29,qB,hq30,re31,xZ,xY,c39,h40]
   have S81:=S36.put b32 {cs:=[p26.int 0,p26.int 1,p26.int 2]}
   have b82:=b32.put {cs:=[p26.int 0,p26.int 1,p26.int 2]}
   have hl84:=(hl14.ext e33).put (g':={cs:=[p26.int 0,p26.int 1,p26.int 2]}) hx13 b32
   obtain⟨Z85,hB86⟩:∃ B:qE,B=(((H++[{cs:=[ek,ea,en,.sc (.string tx)]}])++[{cs:=[(0:Int),(0:Int),(0:Int)]}]:qE).set (H.length+1) {cs:=[p26.int 0,p26.int 1,p26.int 2]}):=⟨_,rfl⟩
   rw[←hB86] at S81 b38 b82 hl84 ⊢
   refine zD [(5,0),(12,0),(12,9)] ?_
   have sr87:=S81.w.at_
   obtain⟨G89,G90,l91,ap92,ap93,g94,e95,h96,hl97⟩:=net_cut (hl84.at) hb21 (by omega)
   have sr98:=(S81.ext (Ext.more Z85 [{cs:=[]}])).w.at_
   have sr99:=(g94 r (qP sr87)).trans sr87
   have e101:IntKind.i64.wrap ((j22:Int)+1)=((j22+1:Nat):Int):=by rw[w64 (by omega) (by omega)];omega
   have k102:j22≤l12.length:=by omega
   have k103:(0:Int)≤((j22+1:Nat):Int):=by omega
   have k104:j22+1≤l12.length:=by omega
   obtain⟨Z105,cs106,wr107,hx108,C109⟩:=S81.w.new (k:=10) rfl hx13 e95 (CkOk.rows h96 (by omega)) (by omega)
   try simp only[↓zP,zQ,qJ,e101,↓qC,Nat.add_zero,sr98,rx17,k28,qB,Nat.zero_le,k102,Nat.zero_mul,Nat.sub_zero,ap92,sr99,k103,k104,ap93,(e95.at sr87),wr107]
   refine⟨zX (qI (qS _ _ _ _ rfl rfl (sr87.trans sr99.symm)) (zA)),?_⟩
   have c111:=(b38.only C109.o).1
   by_cases h112:ek=(3:Int)
   ·subst h112
    try simp only[zQ,c111]
    have S114:=(S81.chg C109).up (M:=N+131) (by omega)
    exact⟨_,_,rfl,S114.w,S114.o,⟨by decide,by decide⟩⟩
   ·have b115:=b82.only C109.o
    have S117:=S81.chg C109
    obtain⟨r118,cs119,Z120,c121,W122,O123,f124⟩:=carryW S117.w (by omega) (p26.int 0) (p26.int 1) (p26.int 2) (p26.w64 0 rfl) (p26.w64 1 rfl) (p26.w64 2 rfl)
    try simp -implicitDefEqProofs only[zQ,c111,(b115.1),Nat.reduceAdd,h112]
    refine qF rfl c121 ?_
    try simp only[↓zP,zQ]
    have S127:=(S117.call W122 O123).up (M:=N+131) (by omega)
    exact⟨_,_,rfl,S127.w,S127.o,f124⟩
theorem doW {H:qE}{r N:Nat}{cs:List AV}(w0:Wd H r (KW 2 2 1 N) cs)(hN:N+140≤900000)(ek ea en:Int)(wek:W64 ek)(wea:W64 ea)(wen:W64 en)(tx:ByteArray)(hea:0≤ea)(hen:0≤en)(htx:tx.size≤1000000):∃ (vv:Int)(cs':List AV)(Z:qE),Sound Tryz.prog 54 [.ptr r 0,.agg [ek,ea,en,.sc (.string tx)]] H (.sc (.int .i64 vv)) Z∧Wd Z r (KW 2 2 1 (N+140)) cs'∧OnlyW H Z r cs cs'∧W64 vv:=by
 suffices h:∃ w Z,Sound Tryz.prog 54 [.ptr r 0,.agg [ek,ea,en,.sc (.string tx)]] H w Z∧∃ (vv:Int)(cs':List AV),w=.sc (.int .i64 vv)∧Wd Z r (KW 2 2 1 (N+140)) cs'∧OnlyW H Z r cs cs'∧W64 vv by
  obtain⟨w,Z,h1,vv,cs',rfl,h2⟩:=h
  exact⟨vv,cs',Z,h1,h2⟩
 refine zR 177 [.tmp 4] Tryz.func54 ?_
 have S0:=WS.start w0
 obtain⟨b1,e2,nn3⟩:=S0.alloc (i:=H.length) (by simp) {cs:=[ek,ea,en,.sc (.string tx)]}
 have c4:=b1.1
 obtain⟨m5,hm6⟩:∃ m,Int.tmod ea 2=m:=⟨_,rfl⟩
 have w7:W64 m5:=hm6▸W64.tmod wea
 have im8:0≤m5∧m5<2:=hm6▸tmod_in hea (by decide)
 have S9:=S0.ext e2
 have sr10:=S9.w.at_
 obtain⟨v11,hx12,w13⟩:=S9.w.gI 12 rfl
 have rx14:=qL hx12
 obtain⟨Z15,cs16,wr17,hx18,C19⟩:=S9.w.stI (k:=12) (z:=IntKind.i64.wrap (v11+10)) rfl (W64.wrap _)
 have b20:=b1.only C19.o
 have c21:=b20.1
 by_cases h22:ek=(1:Int)
 ·subst h22
  try simp -implicitDefEqProofs only[↓zP,zQ,↓qC,qJ,sr10,rx14,wr17,c21,Nat.reduceAdd,Int.reduceEq,c4,hm6]
  refine zD [(6,0),(9,0),(13,0),(17,0)] ?_
  have S23:=S9.chg C19
  have sr24:=S23.w.at_
  obtain⟨x25,l26,hx27,hl28,pl29⟩:=S23.w.gO 1 rfl
  obtain⟨j33,hj34,hb32⟩:∃ j:Nat,m5=(j:Int)∧j<l26.length:=⟨Int.toNat m5,by omega,by omega⟩
  subst hj34
  obtain⟨q35,xe36,_⟩:=hl28.get hb32
  subst xe36
  obtain⟨p37,hp38⟩:∃ p,l26[j33]?=some p:=⟨_,List.getElem?_eq_getElem hb32⟩
  have k39:(0:Int)≤(j33:Int):=by omega
  have k40:(j33:Int)<(l26.length:Int):=by omega
  obtain⟨v44,hx45,w46⟩:=S23.w.gI 11 rfl
  obtain⟨x48,l49,p50,bl51,rt52⟩:=S23.ar rfl
  obtain⟨r54,r55,l56,x57,Z58,c59,p60,o61,g62,f63⟩:=startG p50 bl51 (IntKind.i64.wrap (v11+10)) (v44) (W64.wrap _) w46 p37
  try simp only[↓zP,zQ,qJ,sr24,(qL hx45),(qL hx18),(qL hx27),k39,k40,qB,(hl28.at),(xD xI hp38)]
  refine qF rfl c59 ?_
  have g64:=And.intro g62 trivial
  have G68:=g64.1
  obtain⟨cs67,C65,p66⟩:=S23.w.arC rfl p50 p60 o61 ⟨(G68.2.1 bl51),(G68.2.2 rt52)⟩
  have S73:=S23.chg C65
  obtain⟨b74,e75,nn76⟩:=S73.alloc (i:=Z58.length) (by simp) {cs:=(Rw.zero kClient).cs}
  have S78:=S73.ext e75
  have wr79:=fun (H:qE)(r:Nat)=>Rw.wrA (Rw.zero kClient) r54 (m:=23) rfl H r
  try simp only[↓zP,zQ,vB,↓qC,Rw.ones,(b74.1),wr79]
  refine⟨zX (zX (zX (zX (qH)))),?_⟩
  refine zD [(3,0),(5,0)] ?_
  have S80:=S78.put b74 {cs:=r54.cs}
  have sr81:=S80.w.at_
  have hx82:=C65.cc _ _ (by decide) hx27
  have ra86:=fun (o:Bool)=>r54.rdA (m:=23) rfl o
  have hl88:=(hl28.chg C65 (by decide) hx27).ext e75
  have hl89:=hl88.put (g':={cs:=r54.cs}) hx82 b74
  obtain⟨Z93,l94,hZ95,e96,e97,hp98,ot99,hl100,C101⟩:=S80.w.stRow (k:=1) rfl hx82 hl89 rfl hp38 r54 (by rw[List.length_set];exact pl29)
  have wr102:uJ true 23 ((Z58++[{cs:=(Rw.zero kClient).cs}]:qE).set (Z58.length) {cs:=r54.cs}) q35 (some {cs:=rows Rw.cs l26}) (j33*23) (.agg r54.cs)=some Z93:=by rw[hZ95];exact wr_row xI hb32 q35 r54
  have pl103:=pl29;rw[←e97] at pl103
  have hb104:j33<l94.length:=by omega
  have k105:(j33:Int)<(l94.length:Int):=by omega
  have hx106:=hx82;rw[←e97] at hx106
  have hl107:=hl100;rw[←e97] at hl107
  try simp only[↓zP,zQ,qJ,((b74.put {cs:=r54.cs}).1),ra86,↓qC,sr81,(qL hx82),k39,k40,qB,(hl89.at),wr102]
  refine⟨zX (zX (qH)),?_⟩
  have S108:=S80.chg C101
  have sr109:=S108.w.at_
  obtain⟨x110,l111,hx112,hl113,pl114⟩:=S108.w.gO 2 rfl
  obtain⟨pl115,pw116⟩:=pl114
  have hb119:j33<l111.length:=by omega
  obtain⟨q120,xe121,_⟩:=hl113.get hb119
  subst xe121
  obtain⟨p122,hp123⟩:∃ p,l111[j33]?=some p:=⟨_,List.getElem?_eq_getElem hb119⟩
  have w124:=pw116 _ (List.mem_of_getElem? hp123)
  have k125:(0:Int)≤(j33:Int):=by omega
  have k126:(j33:Int)<(l111.length:Int):=by omega
  have re128:=fun (o:Bool)(kk:Nat)=>rd_num (k:=kk) hp123 o
  obtain⟨cs129,Z130,c131,W132,O133⟩:=sayW S108.w (by omega) (p122) (99) (r55) w124 ⟨by decide,by decide⟩ f63
  try simp only[zQ,sr109,(qL hx112),k125,k126,qB,(hl113.at),re128]
  refine qF rfl c131 ?_
  by_cases h135:r55<(0:Int)
  ·try simp only[↓zP,zQ,↓qC,h135]
   have S137:=(S108.call W132 O133).up (M:=N+140) (by omega)
   exact⟨_,_,rfl,S137.w,S137.o,⟨by decide,by decide⟩⟩
  ·try simp only[↓zP,zQ,↓qC,h135]
   have S139:=(S108.call W132 O133).up (M:=N+140) (by omega)
   exact⟨_,_,rfl,S139.w,S139.o,⟨by decide,by decide⟩⟩
 ·by_cases h140:ek=(2:Int)
  ·subst h140
   have S141:=S9.chg C19
   obtain⟨r142,cs143,Z144,c145,W146,O147,f148⟩:=netW S141.w (by omega) (2) (ea) (en) ⟨by decide,by decide⟩ wea wen tx hea hen htx
   try simp -implicitDefEqProofs only[↓zP,zQ,↓qC,qJ,sr10,rx14,wr17,c21,Nat.reduceAdd,h22,Int.reduceEq,c4,hm6]
   refine qF rfl c145 ?_
   try simp only[↓zP,zQ]
   have S151:=(S141.call W146 O147).up (M:=N+140) (by omega)
   exact⟨_,_,rfl,S151.w,S151.o,f148⟩
  ·by_cases h152:ek=(3:Int)
   ·subst h152
    have S153:=S9.chg C19
    obtain⟨r154,cs155,Z156,c157,W158,O159,f160⟩:=netW S153.w (by omega) (3) (ea) (en) ⟨by decide,by decide⟩ wea wen tx hea hen htx
    try simp -implicitDefEqProofs only[↓zP,zQ,↓qC,qJ,sr10,rx14,wr17,c21,Nat.reduceAdd,h22,h140,Int.reduceEq,c4,hm6]
    refine qF rfl c157 ?_
    try simp only[↓zP,zQ]
    have S163:=(S153.call W158 O159).up (M:=N+140) (by omega)
    exact⟨_,_,rfl,S163.w,S163.o,f160⟩
   ·by_cases h164:ek=(4:Int)
    ·subst h164
     have S165:=S9.chg C19
     obtain⟨r166,cs167,Z168,c169,W170,O171,f172⟩:=netW S165.w (by omega) (4) (ea) (en) ⟨by decide,by decide⟩ wea wen tx hea hen htx
     try simp -implicitDefEqProofs only[↓zP,zQ,↓qC,qJ,sr10,rx14,wr17,c21,Nat.reduceAdd,h22,h140,Int.reduceEq,h152,c4,hm6]
     refine qF rfl c169 ?_
     try simp only[↓zP,zQ]
     have S175:=(S165.call W170 O171).up (M:=N+140) (by omega)
     exact⟨_,_,rfl,S175.w,S175.o,f172⟩
    ·by_cases h176:ek=(5:Int)
     ·subst h176
      try simp -implicitDefEqProofs only[↓zP,zQ,↓qC,qJ,sr10,rx14,wr17,c21,Nat.reduceAdd,h22,h140,Int.reduceEq,h152,h164,c4,hm6]
      refine zD [(4,0),(6,0)] ?_
      have S177:=S9.chg C19
      have sr178:=S177.w.at_
      obtain⟨v179,hx180,w181⟩:=S177.w.gI 11 rfl
      obtain⟨m183,hm184⟩:∃ m,Int.tmod en 4=m:=⟨_,rfl⟩
      have w185:W64 m183:=hm184▸W64.tmod wen
      have im186:0≤m183∧m183<4:=hm184▸tmod_in hen (by decide)
      obtain⟨Z187,cs188,wr189,hx190,C191⟩:=S177.w.stI (k:=11) (z:=IntKind.i64.wrap ((IntKind.i64.wrap (v179+m183))+1)) rfl (W64.wrap _)
      try simp only[↓zP,zQ,qJ,↓qC,sr178,c21,Int.reduceEq,hm184,(qL hx180),wr189]
      refine⟨zX (zX (qH)),?_⟩
      have S196:=S177.chg C191
      refine yL (ι:=Nat) (fun i s=>∃ (T:Nat→AV)(G:qE)(c:List AV),s=⟨qY 177 T,G⟩∧(Wd G r (KW 2 2 1 (N+2*i)) c∧OnlyW Z187 G r cs188 c)∧i≤2∧T 0=.ptr (r) 0∧T 4=.sc (.int .i64 (0))∧T 8=.sc (.int .i64 i)) (fun i=>2 - i) ?_ (i:=0) ?_
      rotate_left
      ·exact⟨_,_,_,rfl,⟨S196.w,OnlyW.nop ..⟩,Nat.zero_le _,rfl,rfl,rfl⟩
      rintro i192 s ⟨T193,Z194,cs195,rfl,⟨C201,C201o⟩,hi200,a197,a198,a199⟩
      have e202:i192<2→IntKind.i64.wrap ((i192:Int)+1)=((i192+1:Nat):Int):=fun h=>by rw[w64 (by omega) (by omega)];omega
      by_cases h203:((i192:Int))<(2:Int)
      ·try simp only[↓zP,zQ,↓qC,a199,h203,reduceCtorEq]
       refine zD [(3,0),(6,0),(10,0)] ?_
       have S204:=S196.call C201 C201o
       have sr205:=S204.w.at_
       obtain⟨x206,l207,hx208,hl209,pl210⟩:=S204.w.gO 1 rfl
       have rx212:=qL hx208
       have hb213:i192<l207.length:=by omega
       obtain⟨q214,xe215,_⟩:=hl209.get hb213
       subst xe215
       obtain⟨p216,hp217⟩:∃ p,l207[i192]?=some p:=⟨_,List.getElem?_eq_getElem hb213⟩
       have k218:(0:Int)≤(i192:Int):=by omega
       have k219:(i192:Int)<(l207.length:Int):=by omega
       obtain⟨v222,hx223,w224⟩:=S204.w.gI 11 rfl
       obtain⟨r226,r227,Z228,c229,e230,f231⟩:=tickE (H:=Z194) (v222) w224 p216
       try simp only[↓zP,zQ,a197,qJ,a199,sr205,(qL hx223),rx212,k218,k219,qB,(hl209.at),(xD xI hp217)]
       refine qF rfl c229 ?_
       have S232:=S204.ext e230
       obtain⟨b233,e234,nn235⟩:=S232.alloc (i:=Z228.length) (by simp) {cs:=(Rw.zero kClient).cs}
       have S237:=S232.ext e234
       have wr238:=fun (H:qE)(r:Nat)=>Rw.wrA (Rw.zero kClient) r226 (m:=23) rfl H r
       try simp only[↓zP,zQ,vB,↓qC,Rw.ones,(b233.1),wr238]
       refine⟨zX (zX (zX (qH))),?_⟩
       refine zD [(3,0),(5,0)] ?_
       have S239:=S237.put b233 {cs:=r226.cs}
       have sr240:=S239.w.at_
       have ra243:=fun (o:Bool)=>r226.rdA (m:=23) rfl o
       have hl244:=hl209.ext e230
       have hl245:=hl244.ext e234
       have hl246:=hl245.put (g':={cs:=r226.cs}) hx208 b233
       obtain⟨Z250,l251,hZ252,e253,e254,hp255,ot256,hl257,C258⟩:=S239.w.stRow (k:=1) rfl hx208 hl246 rfl hp217 r226 (by rw[List.length_set];exact pl210)
       have wr259:uJ true 23 ((Z228++[{cs:=(Rw.zero kClient).cs}]:qE).set (Z228.length) {cs:=r226.cs}) q214 (some {cs:=rows Rw.cs l207}) (i192*23) (.agg r226.cs)=some Z250:=by rw[hZ252];exact wr_row xI hb213 q214 r226
       have pl260:=pl210;rw[←e254] at pl260
       have hb261:i192<l251.length:=by omega
       have k262:(i192:Int)<(l251.length:Int):=by omega
       have hx263:=hx208;rw[←e254] at hx263
       have hl264:=hl257;rw[←e254] at hl264
       try simp only[↓zP,zQ,a197,qJ,a199,((b233.put {cs:=r226.cs}).1),ra243,sr240,rx212,k218,k219,qB,(hl246.at),wr259]
       refine⟨zX (zX (qH)),?_⟩
       have S265:=S239.chg C258
       have sr266:=S265.w.at_
       obtain⟨x267,l268,hx269,hl270,pl271⟩:=S265.w.gO 2 rfl
       obtain⟨pl272,pw273⟩:=pl271
       have hb276:i192<l268.length:=by omega
       obtain⟨q277,xe278,_⟩:=hl270.get hb276
       subst xe278
       obtain⟨p279,hp280⟩:∃ p,l268[i192]?=some p:=⟨_,List.getElem?_eq_getElem hb276⟩
       have w281:=pw273 _ (List.mem_of_getElem? hp280)
       have k282:(0:Int)≤(i192:Int):=by omega
       have k283:(i192:Int)<(l268.length:Int):=by omega
       have re285:=fun (o:Bool)(kk:Nat)=>rd_num (k:=kk) hp280 o
       obtain⟨cs286,Z287,c288,W289,O290⟩:=sayW S265.w (by omega) (p279) (99) (r227) w281 ⟨by decide,by decide⟩ f231
       try simp only[zQ,sr266,(qL hx269),k282,k283,qB,(hl270.at),re285]
       refine qF rfl c288 ?_
       try simp only[↓zP,zQ,a199,(e202 (by omega))]
       have E293:=And.intro ((And.intro C201 C201o).1.ext e230) ((And.intro C201 C201o).2.trans (.ext e230 r _))
       have u294:(Z187:qE).length≤Z228.length:=by have h:=E293.2.le;simpa using h
       have E295:=And.intro (E293.1.ext e234) (E293.2.trans (.ext e234 r _))
       have E296:=both_put E295 b233 u294 {cs:=r226.cs}
       have E297:=And.intro C258.w (E296.2.trans C258.o)
       have E298:=And.intro W289 (E297.2.trans O290)
       have E299:=And.intro (E298.1.up (M:=N+2*(i192+1)) (by omega)) E298.2
       refine⟨i192+1,by omega,_,_,_,rfl,E299,by omega,?_,?_,?_⟩<;>simp only[zQ,a197,a198]<;>rfl
      ·try simp only[↓zP,zQ,↓qC,a199,h203,reduceCtorEq]
       refine zD [(4,0),(8,0)] ?_
       have S300:=S196.call C201 C201o
       have sr301:=S300.w.at_
       obtain⟨v302,hx303,w304⟩:=S300.w.gI 3 rfl
       obtain⟨v305,hx306,w307⟩:=S300.w.gI 4 rfl
       obtain⟨x308,l309,hx310,hl311,pl312⟩:=S300.w.gO 5 rfl
       obtain⟨x314,l315,hx316,hl317,pl318⟩:=S300.w.gO 6 rfl
       obtain⟨x320,l321,hx322,hl323,pl324⟩:=S300.w.gO 7 rfl
       obtain⟨x326,l327,hx328,hl329,pl330⟩:=S300.w.gO 8 rfl
       obtain⟨v332,hx333,w334⟩:=S300.w.gI 9 rfl
       have ra335:=fun (o:Bool)=>rd_agg7 (off:=3) hx303 hx306 hx310 hx316 hx322 hx328 hx333 o
       obtain⟨v336,hx337,w338⟩:=S300.w.gI 11 rfl
       obtain⟨ds342,Z344,c345,e346,vd347⟩:=idleGateE (N:=N+(2*i192+0)) (v302) (v305) (v332) w304 w307 w334 hl311 hl317 hl323 hl329 (by omega) (by omega) (by omega) (by omega) (by omega) (v336) w338
       try simp only[↓zP,zQ,a197,qJ,sr301,(qL hx337),ra335]
       refine qF rfl c345 ?_
       have S348:=S300.ext e346
       have sr349:=S348.w.at_
       obtain⟨Z350,cs351,wr352,W353,O354⟩:=S300.w.gate e346 vd347
       try simp only[↓zP,zQ,qJ,↓qC,sr349,wr352]
       refine⟨zX (zX (qH)),?_⟩
       have S356:=(S300.call W353 O354).up (M:=N+140) (by omega)
       exact⟨_,_,rfl,S356.w,S356.o,⟨by decide,by decide⟩⟩
     ·by_cases h357:ek=(6:Int)
      ·subst h357
       have S358:=S9.chg C19
       obtain⟨r359,cs360,Z361,c362,W363,O364,f365⟩:=sendW S358.w (by omega) (m5) (en) w7 wen ⟨by omega,by omega⟩
       try simp -implicitDefEqProofs only[↓zP,zQ,↓qC,qJ,sr10,rx14,wr17,c21,Nat.reduceAdd,h22,h140,h176,Int.reduceEq,h152,h164,c4,hm6]
       refine qF rfl c362 ?_
       try simp only[↓zP,zQ]
       have S368:=(S358.call W363 O364).up (M:=N+140) (by omega)
       exact⟨_,_,rfl,S368.w,S368.o,f365⟩
      ·by_cases h369:ek=(7:Int)
       ·subst h369
        have S370:=S9.chg C19
        obtain⟨r371,cs372,Z373,c374,W375,O376,f377⟩:=turnW S370.w (by omega) (m5) (en) w7 wen ⟨by omega,by omega⟩
        try simp -implicitDefEqProofs only[↓zP,zQ,↓qC,qJ,sr10,rx14,wr17,c21,Nat.reduceAdd,h22,h140,h176,h357,Int.reduceEq,h152,h164,c4,hm6]
        refine qF rfl c374 ?_
        try simp only[↓zP,zQ]
        have S380:=(S370.call W375 O376).up (M:=N+140) (by omega)
        exact⟨_,_,rfl,S380.w,S380.o,f377⟩
       ·by_cases h381:ek=(8:Int)
        ·subst h381
         try simp -implicitDefEqProofs only[↓zP,zQ,↓qC,qJ,sr10,rx14,wr17,c21,Nat.reduceAdd,h22,h140,h176,h357,h369,Int.reduceEq,h152,h164,c4,hm6]
         refine zD [(3,0),(6,0)] ?_
         have S382:=S9.chg C19
         have sr383:=S382.w.at_
         obtain⟨x384,l385,hx386,hl387,pl388⟩:=S382.w.gO 2 rfl
         obtain⟨pl389,pw390⟩:=pl388
         obtain⟨m393,hm394⟩:∃ m,Int.tmod en 3=m:=⟨_,rfl⟩
         have w395:W64 m393:=hm394▸W64.tmod wen
         have im396:0≤m393∧m393<3:=hm394▸tmod_in hen (by decide)
         obtain⟨j398,hj399,hb397⟩:∃ j:Nat,m5=(j:Int)∧j<l385.length:=⟨Int.toNat m5,by omega,by omega⟩
         subst hj399
         obtain⟨q400,xe401,_⟩:=hl387.get hb397
         subst xe401
         obtain⟨p402,hp403⟩:∃ p,l385[j398]?=some p:=⟨_,List.getElem?_eq_getElem hb397⟩
         have k405:(0:Int)≤(j398:Int):=by omega
         have k406:(j398:Int)<(l385.length:Int):=by omega
         obtain⟨Z410,l411,hZ412,e413,e414,hp415,ot416,hl417,C418⟩:=S382.w.stRow (k:=2) rfl hx386 hl387 rfl hp403 (IntKind.i64.wrap ((IntKind.i64.wrap (3+(IntKind.i64.wrap (2*m393))))+(j398:Int)):Int) (⟨by rw[List.length_set];exact pl389,pw_set pw390 (W64.wrap _)⟩)
         have wr419:uJ true 1 Z15 q400 (some {cs:=rows intF l385}) j398 (.sc (.int .i64 (IntKind.i64.wrap ((IntKind.i64.wrap (3+(IntKind.i64.wrap (2*m393))))+(j398:Int)))))=some Z410:=by rw[hZ412];exact wr_num hp403 q400
         have pl420:=pl389;rw[←e414] at pl420
         have pw421:∀ z,z∈l411→W64 z:=by rw[e413];exact pw_set pw390 (W64.wrap _)
         have hb422:j398<l411.length:=by omega
         have k423:(j398:Int)<(l411.length:Int):=by omega
         have hx424:=hx386;rw[←e414] at hx424
         have hl425:=hl417;rw[←e414] at hl425
         try simp only[↓zP,zQ,qJ,↓qC,c21,Int.reduceEq,hm394,sr383,(qL hx386),k405,k406,qB,(hl387.at),wr419]
         refine⟨zX (zX (qH)),?_⟩
         have S427:=(S382.chg C418).up (M:=N+140) (by omega)
         exact⟨_,_,rfl,S427.w,S427.o,⟨by decide,by decide⟩⟩
        ·by_cases h428:ek=(9:Int)
         ·subst h428
          have S429:=S9.chg C19
          obtain⟨r430,cs431,Z432,c433,W434,O435,f436⟩:=forgeW S429.w (by omega) (9) (ea) (en) ⟨by decide,by decide⟩ wea wen tx hea hen htx
          try simp -implicitDefEqProofs only[↓zP,zQ,↓qC,qJ,sr10,rx14,wr17,c21,Nat.reduceAdd,h22,h140,h176,h357,h369,h381,Int.reduceEq,h152,h164,c4,hm6]
          refine qF rfl c433 ?_
          try simp only[↓zP,zQ]
          have S439:=(S429.call W434 O435).up (M:=N+140) (by omega)
          exact⟨_,_,rfl,S439.w,S439.o,f436⟩
         ·by_cases h440:ek=(10:Int)
          ·subst h440
           have S441:=S9.chg C19
           obtain⟨r442,cs443,Z444,c445,W446,O447,f448⟩:=takeW S441.w (by omega) (m5) (en) w7 wen ⟨by omega,by omega⟩
           try simp -implicitDefEqProofs only[↓zP,zQ,↓qC,qJ,sr10,rx14,wr17,c21,Nat.reduceAdd,h22,h140,h176,h357,h369,h381,h428,h152,h164,c4,Int.reduceEq,hm6]
           refine qF rfl c445 ?_
           try simp only[↓zP,zQ]
           have S451:=(S441.call W446 O447).up (M:=N+140) (by omega)
           exact⟨_,_,rfl,S451.w,S451.o,f448⟩
          ·try simp -implicitDefEqProofs only[↓zP,zQ,↓qC,qJ,sr10,rx14,wr17,c21,Nat.reduceAdd,h22,h140,h176,h357,h369,h381,h428,h440,h152,h164,c4,Int.reduceEq,hm6]
           have S453:=(S9.chg C19).up (M:=N+140) (by omega)
           exact⟨_,_,rfl,S453.w,S453.o,⟨by decide,by decide⟩⟩
structure OW (H0 H:qE) (r N:Nat) (cs:List AV):Prop where
 w:Wd H r (KW 2 2 1 N) cs
 fr:H0.length≤r
 nw:∀ y,y∈cs→∀ i,i<H0.length→NotIn y i
section
variable {H0 H Z : qE} {r N : Nat} {cs : List AV}
theorem OW.step {M:Nat}{cs':List AV}(o:OW H0 H r N cs)(w:Wd Z r (KW 2 2 1 M) cs')(k:OnlyW H Z r cs cs')(h:H0.length≤H.length):OW H0 Z r M cs'∧H.length≤Z.length∧∀ i,i<H0.length→Z[i]?=H[i]?:=
 ⟨⟨w,o.fr,fun y hy i hi=>k.nw i (by omega) (fun x hx=>o.nw x hx i hi) y hy⟩,k.le,fun i hi=>k.at_ i (by omega) (by have:=o.fr;omega) fun x hx=>o.nw x hx i hi⟩
theorem OW.ext (o:OW H0 H r N cs)(e:Ext H Z):OW H0 Z r N cs:=⟨o.w.ext e,o.fr,o.nw⟩
theorem OW.dr {rc:Nat}{x:AV}(o:OW H0 H r N cs)(d:Dr rc x H Z)(h:rc<H0.length):OW H0 Z r N cs:=by
 have hr:=o.fr
 refine⟨o.w.keep (d.2.1 r o.w.lt (by omega)) fun i hi hx=>d.2.1 i hi ?_,o.fr,o.nw⟩
 rintro rfl
 obtain⟨y,hy,hn⟩:=hx
 exact hn (o.nw y hy i h)
theorem OW.of {G:qE}{ds:List AV}(v:Vd G H0.length (KW 2 2 1 N) ds)(e:Ext G H)(h0:H0.length≤G.length)(hr:H[r]?=some {cs:=ds})(h:G.length≤r):OW H0 H r N ds:=by
 refine⟨⟨hr,v.len,fun i k x a b=>(v.ok i k x a b).ext e,fun x hx=>?_,v.sep⟩,by omega,v.new⟩
 obtain⟨j,hj⟩:=List.getElem?_of_mem hx
 exact(v.ok j _ x (List.getElem?_eq_getElem (by rw[←v.len];exact(List.getElem?_eq_some_iff.1 hj).1:j<(KW 2 2 1 N).length)) hj).lt h
theorem OW.vd (o:OW H0 H r N cs):Vd H H0.length (KW 2 2 1 N) cs:=o.w.vd o.nw
theorem OW.up (o:OW H0 H r N cs){M:Nat}(h:N≤M):OW H0 H r M cs:=⟨o.w.up h,o.fr,o.nw⟩
theorem OW.made {i:Nat}{g:Reg}(o:OW H0 H r N cs)(hi:Z[i]?=some g)(h:H.length≤i):i≠r∧∀ x,x∈cs→NotIn x i:=by
 refine⟨by have:=o.w.lt;omega,fun x hx=>?_⟩
 obtain⟨j,hj⟩:=List.getElem?_of_mem hx
 exact(o.w.ok j _ x (List.getElem?_eq_getElem (by rw[←o.w.len];exact(List.getElem?_eq_some_iff.1 hj).1:j<(KW 2 2 1 N).length)) hj).lt h
end
theorem wU {cs:List AV}{m:Nat}(h:cs.length=m)(o:Bool):jG true true m (some ⟨cs,o,true⟩) 0=some (.agg cs):=by
 simp only[jG,if_true,true_and,Nat.zero_add,h,Nat.le_refl,List.drop_zero,List.take_of_length_le (Nat.le_of_eq h)]
theorem yX {cs ds:List AV}{m:Nat}(h:cs.length=m)(hd:ds.length=m)(h1:ds.all AV.one=true)(H:qE)(r:Nat):uJ true m H r (some {cs:=cs}) 0 (.agg ds)=some (H.set r {cs:=ds}):=by
 have h2:(AV.agg ds).cells=ds:=rfl
 simp only[uJ,h2,hd,h,h1,Nat.zero_add,Nat.le_refl,and_self,if_true,over_all _ _ (hd.trans h.symm)]
theorem getD_in {l:List Int}{a b:Int}(h:∀ z,z∈l→a≤z∧z≤b){j:Nat}(hj:j<l.length):a≤l.getD j 0∧l.getD j 0≤b:=by
 have:=h l[j] (List.getElem_mem hj)
 simpa [List.getD,hj] using this
def zW:List AV:=[.sc (.slice none 0 0),.sc (.slice none 0 0),.sc (.slice none 0 0),.sc (.int .i64 0),.sc (.int .i64 0),.sc (.slice none 0 0),.sc (.slice none 0 0),.sc (.slice none 0 0),.sc (.slice none 0 0),.sc (.int .i64 0),.sc (.slice none 0 0),.sc (.int .i64 0),.sc (.int .i64 0),.sc (.slice none 0 0),.sc (.slice none 0 0),.sc (.slice none 0 0),.sc (.slice none 0 0),.sc (.slice none 0 0),.sc (.slice none 0 0),.sc (.slice none 0 0)]
theorem zw:xC Tryz.prog 38=some zW:=zero38
theorem wX:zW.length=20:=rfl
theorem wW:zW.all AV.one=true:=rfl
theorem hv_in {a v:Int}(h:a=v)(k:0≤a∧a≤900000):0≤v∧v≤900000:=h▸k
theorem Vd.keep {H Z:qE}{u:Nat}{K:List CK}{ds:List AV}(v:Vd H u K ds)(k:∀ x,x∈ds→∀ i,i<H.length→¬ NotIn x i→Z[i]?=H[i]?):Vd Z u K ds:=⟨v.len,fun i k' x a b=>(v.ok i k' x a b).keep (k x (List.mem_of_getElem? b)),v.new,v.sep⟩
theorem Vd.dr {H Z:qE}{u rc:Nat}{x:AV}{K:List CK}{ds:List AV}(v:Vd H u K ds)(d:Dr rc x H Z)(n:∀ y,y∈ds→NotIn y rc):Vd Z u K ds:=v.keep fun y hy i hi hn=>d.2.1 i hi (by rintro rfl;exact hn (n y hy))
theorem forgedW {H:qE}{rc:Nat}{xc:AV}{Lc:List Int}(hc:Cur H rc xc Lc)(hL:Lc.length≤4000000){N:Nat}{cs:List AV}(v:Vd H 0 (KW 2 2 1 N) cs)(hN:N≤1000000)(hn:∀ y,y∈cs→NotIn y rc) :
  ∃ (tx:ByteArray)(Z:qE),Sound Tryz.prog 78 [.ptr rc 0,.agg cs] H (.sc (.string tx)) Z∧Dr rc xc H Z∧tx.size≤4000:=by
 suffices h:∃ w Z,Sound Tryz.prog 78 [.ptr rc 0,.agg cs] H w Z∧∃ tx:ByteArray,w=.sc (.string tx)∧Dr rc xc H Z∧tx.size≤4000 by
  obtain⟨w,Z,h1,tx,rfl,h2⟩:=h
  exact⟨tx,Z,h1,h2⟩
 refine zR 98 [.tmp 4] Tryz.func78 ?_
 have lc:cs.length=20:=v.len
 obtain⟨H1,hH1⟩:∃ H1:qE,H1=H++[{cs:=cs}]:=⟨_,rfl⟩
 have e1:Ext H H1:=hH1▸Ext.more H _
 have b1:H1[H.length]?=some {cs:=cs}:=by rw[hH1];exact yA _ _
 obtain⟨x0,hx0⟩:∃ x0,cs[0]?=some x0:=⟨_,List.getElem?_eq_getElem (by omega)⟩
 obtain⟨l,on,hl,_⟩:=v.ok 0 _ x0 rfl hx0
 have on1:OwnN H1 x0 l:=OwnF.ext on e1
 obtain⟨q,Z1,a1,e2,hq0,hq⟩:=copyE on1.rd (by omega)
 have C1:=((CurE.start hc).ext e1).ext e2
 obtain⟨Y,hY⟩:∃ Y:qE,Y=List.set (Z1++[{cs:=[.sc (.slice none 0 0)]}]) Z1.length {cs:=[.sl q 0 l.length 4]}:=⟨_,rfl⟩
 have eY:Ext Z1 Y:=by
  rw[hY]
  exact(Ext.more Z1 [{cs:=[.sc (.slice none 0 0)]}]).set (Nat.le_refl _) _
 have CY:=C1.ext eY
 have sY:Y[Z1.length]?=some {cs:=[.sl q 0 l.length 4]}:=by rw[hY];exact List.getElem?_set_self (by simp)
 have hqY:=eY.at hq
 have A:AO H Y Z1.length (.sl q 0 l.length 4) l:=⟨⟨sY,rfl,.inr ⟨q,[],rfl,by rw[List.append_nil];exact hqY⟩,.sl (by have:=qP hq;omega)⟩,C1.d.1,fun i hi=>.sl (by have:=e1.1;omega)⟩
 have wrY:=yX (cs:=[AV.sc (.slice none 0 0)]) (ds:=[.sl q 0 l.length 4]) (m:=1) rfl rfl rfl (Z1++[{cs:=[.sc (.slice none 0 0)]}]) Z1.length
 have bY:Y[H.length]?=some {cs:=cs}:=eY.at (e2.at b1)
 obtain⟨x13,hx13⟩:∃ x13,cs[13]?=some x13:=⟨_,List.getElem?_eq_getElem (by omega)⟩
 obtain⟨l13,on13,⟨k13,n13⟩,pw13⟩:=v.ok 13 _ x13 rfl hx13
 have g13:=on13.ext (((e1.trans e2).trans eY))
 obtain⟨w,Z2,hw,a2,D2⟩:=yB CY.c hL l13.length (by omega) (by omega)
 have A2:=A.dr D2 hc.lt
 have l1:=fun e=>g13.len e
 have hn13:=hn x13 (List.mem_of_getElem? hx13)
 have h13:OwnX intF 1 Z2 x13 l13:=g13.keep fun i hi hx=>D2.2.1 i hi (by rintro rfl;exact hx hn13)
 obtain⟨q13,rfl,hq13⟩:=h13.get (i:=w) (by omega)
 obtain⟨kn,hkn⟩:∃ p,l13[w]?=some p:=⟨_,List.getElem?_eq_getElem hw⟩
 have re:=fun (o:Bool)(kk:Nat)=>rd_num (k:=kk) hkn o
 have b2:Z2[H.length]?=some {cs:=cs}:=(D2.2.1 _ (qP bY) (by have:=hc.lt;omega)).trans bY
 have k0:(0:Int)≤(w:Int):=by omega
 have k1:(w:Int)<(l13.length:Int):=by omega
 obtain⟨ck,LL,yl,Z3,a3,e3,ls,li⟩:=vG (OwnN.rd A2.p.2.2.1) (by omega) kn
 have C3:=(CY.dr D2).ext e3
 obtain⟨w5,Z4,hw5,a4,D4⟩:=yB C3.c hL 5 (by omega) (by omega)
 have A4:=(A2.ext e3).dr D4 hc.lt
 have C4:=C3.dr D4
 have r2:=A2.p.1
 have ra2:=yY A2.p.2.1
 simp only[↓zP,zQ,↓qC,(v.ones),hH1.symm]
 simp only[zQ,b1,(yY hx0)]
 refine qF rfl a1 ?_
 simp only[↓zP,zQ,↓qC,wrY,←hY]
 refine zD [(1,0),(1,7),(4,0),(8,7)] ?_
 simp only[↓zP,zQ,bY,(qL hx13),l1]
 refine qF rfl a2 ?_
 simp only[↓zP,zQ,k0,k1,qB,↓qC,hq13,re]
 refine⟨zX (qI (qS _ _ H.length 13 rfl rfl (b2.trans bY.symm)) (zA)),?_⟩
 simp only[zQ,r2,ra2]
 refine qF rfl a3 ?_
 simp only[↓zP,zQ]
 refine w_cut1 (fun s=>∃ (T:Nat→AV)(G:qE)(x:AV)(m:List (Rw qK))(k:Int),s=⟨qY 98 T,G⟩∧AO H G Z1.length x m∧CurE H G rc xc Lc∧m.length≤3000∧T 5=.ptr Z1.length 0∧T 6=.sc (.int .i64 k)) ?_ ?_
 ·simp only[↓zP,zQ,↓qC]
  refine qF rfl a4 ?_
  by_cases h0:(w5:Int)=0
  ·by_cases h72:ck=72
   ·obtain⟨ya,qy,ya0,yo,rfl,rfl,hqy,hy,wya,_⟩:=letter1 ls li (.inl h72)
    have nrc:qy≠rc:=by have:=(CY.dr D2).d.1;have:=hc.lt;omega
    have LA:AL Z3 Z1.length (.sl q 0 l.length 4) qy ⟨ints .i64 [ya0,ya],yo,true⟩:=⟨hy,by have:=qP A2.p.1;omega,.sl (by have:=qP hqY;have:=D2.1;omega)⟩
    have L0:=LA.dr D4 nrc
    obtain⟨v1,l1,x1,G1,c1,p1,o1,g1⟩:=xK A4.p hl 5001
    obtain⟨A1',C1'⟩:=A4.mk' C4 p1 o1
    have bl1:=g1.1.2.1 hl
    have L1:=L0.only o1
    obtain⟨v2,l2,x2,G2,c2,p2,o2,g2⟩:=xK A1'.p bl1 5000
    obtain⟨A2',C2'⟩:=A1'.mk' C1' p2 o2
    have bl2:=g2.1.2.1 bl1
    have L2:=L1.only o2
    obtain⟨v3,l3,x3,G3,c3,p3,o3,g3⟩:=wG A2'.p bl2 6 v2 0
    obtain⟨A3',C3'⟩:=A2'.mk' C2' p3 o3
    have bl3:=g3.1.2.1 bl2
    have L3:=L2.only o3
    obtain⟨w4',G4,hw4,c4,D4⟩:=yB C3'.c hL 2 (by omega) (by omega)
    have A4':=A3'.dr D4 hc.lt
    have C4':=C3'.dr D4
    have L4:=L3.dr D4 nrc
    obtain⟨w5',G5,hw5,c5,D5⟩:=yB C4'.c hL 3 (by omega) (by omega)
    have A5':=A4'.dr D5 hc.lt
    have C5':=C4'.dr D5
    have L5:=L4.dr D5 nrc
    obtain⟨v6,l6,x6,G6,c6,p6,o6,g6⟩:=helloG A5'.p bl3 (1+(w4':Int)) (1+(w5':Int)) v1 v3
    obtain⟨A6',C6'⟩:=A5'.mk' C5' p6 o6
    have bl6:=g6.1.2.1 bl3
    have L6:=L5.only o6
    obtain⟨v7,l7,x7,G7,c7,p7,o7,g7⟩:=xK A6'.p bl6 0
    obtain⟨A7',C7'⟩:=A6'.mk' C6' p7 o7
    have bl7:=g7.1.2.1 bl6
    have L7:=L6.only o7
    have ea:IntKind.i64.wrap (1+(w4':Int))=1+(w4':Int):=w64 (by omega) (by omega)
    have eb:IntKind.i64.wrap (1+(w5':Int))=1+(w5':Int):=w64 (by omega) (by omega)
    have ca:(w5:Int)=0:=h0
    have hyz:=L7.1
    obtain⟨vv,lv,xv,Zv,cv,pv,ov,gv,_⟩:=uD A7'.p bl7 71 [v6,ya] 2 rfl (by omega)
    obtain⟨Av,Cv⟩:=A7'.mk' C7' pv ov
    have blv:=gv.1.2.1 bl7
    have bh:∀ a b c d:Int,qT Tryz.prog 128 [(0,.sc (.int .i64 a)),(1,.sc (.int .i64 b)),(2,.sc (.int .i64 c)),(3,.sc (.int .i64 d))]=some (.agg [a,b,c,d]):=fun a b c d=>by simp[qT,yR,yT,qW,yF,yI,xJ,xU,xN,yO,Tryz.underlying128,zero128,qR,qO]
    simp only[↓zP,zQ,↓qC,ca,Int.reduceEq]
    refine qF rfl c1 ?_
    simp only[↓zP,zQ,↓qC]
    refine qF rfl c2 ?_
    simp only[↓zP]
    refine qF rfl c3 ?_
    simp only[↓zP,zQ,↓qC]
    refine qF rfl c4 ?_
    simp only[↓zP,zQ,ea]
    refine qF rfl c5 ?_
    simp only[↓zP,zQ,eb,bh]
    refine qF rfl c6 ?_
    simp only[↓zP,zQ,↓qC]
    refine qF rfl c7 ?_
    simp -implicitDefEqProofs only[↓zP,zQ,↓qC,h72,Nat.reduceLT,Int.reduceLE,Int.reduceLT,Nat.reduceAdd,hyz]
    refine qF rfl cv ?_
    simp only[↓zP,zQ]
    exact⟨_,_,xv,lv,vv,rfl,Av,Cv,blv,rfl,rfl⟩
   ·obtain⟨v1,l1,x1,G1,c1,p1,o1,g1⟩:=xK A4.p hl 5001
    obtain⟨A1',C1'⟩:=A4.mk' C4 p1 o1
    have bl1:=g1.1.2.1 hl
    obtain⟨v2,l2,x2,G2,c2,p2,o2,g2⟩:=xK A1'.p bl1 5000
    obtain⟨A2',C2'⟩:=A1'.mk' C1' p2 o2
    have bl2:=g2.1.2.1 bl1
    obtain⟨v3,l3,x3,G3,c3,p3,o3,g3⟩:=wG A2'.p bl2 6 v2 0
    obtain⟨A3',C3'⟩:=A2'.mk' C2' p3 o3
    have bl3:=g3.1.2.1 bl2
    obtain⟨w4',G4,hw4,c4,D4⟩:=yB C3'.c hL 2 (by omega) (by omega)
    have A4':=A3'.dr D4 hc.lt
    have C4':=C3'.dr D4
    obtain⟨w5',G5,hw5,c5,D5⟩:=yB C4'.c hL 3 (by omega) (by omega)
    have A5':=A4'.dr D5 hc.lt
    have C5':=C4'.dr D5
    obtain⟨v6,l6,x6,G6,c6,p6,o6,g6⟩:=helloG A5'.p bl3 (1+(w4':Int)) (1+(w5':Int)) v1 v3
    obtain⟨A6',C6'⟩:=A5'.mk' C5' p6 o6
    have bl6:=g6.1.2.1 bl3
    obtain⟨v7,l7,x7,G7,c7,p7,o7,g7⟩:=xK A6'.p bl6 0
    obtain⟨A7',C7'⟩:=A6'.mk' C6' p7 o7
    have bl7:=g7.1.2.1 bl6
    have ea:IntKind.i64.wrap (1+(w4':Int))=1+(w4':Int):=w64 (by omega) (by omega)
    have eb:IntKind.i64.wrap (1+(w5':Int))=1+(w5':Int):=w64 (by omega) (by omega)
    have ca:(w5:Int)=0:=h0
    obtain⟨vv,lv,xv,Zv,cv,pv,ov,gv,_⟩:=uD A7'.p bl7 71 [v6,v7] 2 rfl (by omega)
    obtain⟨Av,Cv⟩:=A7'.mk' C7' pv ov
    have blv:=gv.1.2.1 bl7
    have bh:∀ a b c d:Int,qT Tryz.prog 128 [(0,.sc (.int .i64 a)),(1,.sc (.int .i64 b)),(2,.sc (.int .i64 c)),(3,.sc (.int .i64 d))]=some (.agg [a,b,c,d]):=fun a b c d=>by simp[qT,yR,yT,qW,yF,yI,xJ,xU,xN,yO,Tryz.underlying128,zero128,qR,qO]
    simp only[↓zP,zQ,↓qC,ca,Int.reduceEq]
    refine qF rfl c1 ?_
    simp only[↓zP,zQ,↓qC]
    refine qF rfl c2 ?_
    simp only[↓zP]
    refine qF rfl c3 ?_
    simp only[↓zP,zQ,↓qC]
    refine qF rfl c4 ?_
    simp only[↓zP,zQ,ea]
    refine qF rfl c5 ?_
    simp only[↓zP,zQ,eb,bh]
    refine qF rfl c6 ?_
    simp only[↓zP,zQ,↓qC]
    refine qF rfl c7 ?_
    simp only[↓zP,zQ,↓qC,h72]
    refine qF rfl cv ?_
    simp only[↓zP,zQ]
    exact⟨_,_,xv,lv,vv,rfl,Av,Cv,blv,rfl,rfl⟩
  ·by_cases h1:(w5:Int)=1
   ·by_cases h73:ck=73
    ·obtain⟨ya,yb,qy,ya0,yo,rfl,rfl,hqy,hy,wya,wyb,_⟩:=uQ ls li (.inr (.inl h73))
     have nrc:qy≠rc:=by have:=(CY.dr D2).d.1;have:=hc.lt;omega
     have LA:AL Z3 Z1.length (.sl q 0 l.length 4) qy ⟨ints .i64 [ya0,ya,yb],yo,true⟩:=⟨hy,by have:=qP A2.p.1;omega,.sl (by have:=qP hqY;have:=D2.1;omega)⟩
     have L0:=LA.dr D4 nrc
     obtain⟨v1,l1,x1,G1,c1,p1,o1,g1⟩:=xK A4.p hl 5001
     obtain⟨A1',C1'⟩:=A4.mk' C4 p1 o1
     have bl1:=g1.1.2.1 hl
     have L1:=L0.only o1
     obtain⟨v2,l2,x2,G2,c2,p2,o2,g2⟩:=xK A1'.p bl1 5002
     obtain⟨A2',C2'⟩:=A1'.mk' C1' p2 o2
     have bl2:=g2.1.2.1 bl1
     have L2:=L1.only o2
     obtain⟨v3,l3,x3,G3,c3,p3,o3,g3⟩:=wG A2'.p bl2 6 v2 0
     obtain⟨A3',C3'⟩:=A2'.mk' C2' p3 o3
     have bl3:=g3.1.2.1 bl2
     have L3:=L2.only o3
     obtain⟨v4,l4,x4,G4,c4,p4,o4,g4⟩:=serverG A3'.p bl3 v1 v3
     obtain⟨A4',C4'⟩:=A3'.mk' C3' p4 o4
     have bl4:=g4.1.2.1 bl3
     have L4:=L3.only o4
     have hyz:=L4.1
     obtain⟨vv,lv,xv,Zv,cv,pv,ov,gv,_⟩:=uD A4'.p bl4 73 [v4,yb] 2 rfl (by omega)
     obtain⟨Av,Cv⟩:=A4'.mk' C4' pv ov
     have blv:=gv.1.2.1 bl4
     simp only[↓zP,zQ,↓qC,h73,h1,Int.reduceEq]
     refine qF rfl c1 ?_
     simp only[↓zP]
     refine qF rfl c2 ?_
     simp only[↓zP]
     refine qF rfl c3 ?_
     simp only[↓zP]
     refine qF rfl c4 ?_
     simp -implicitDefEqProofs only[↓zP,zQ,Nat.reduceLT,Int.reduceLE,Int.reduceLT,Int.reduceToNat,Nat.reduceAdd,hyz]
     refine qF rfl cv ?_
     simp only[↓zP,zQ]
     exact⟨_,_,xv,lv,vv,rfl,Av,Cv,blv,rfl,rfl⟩
    ·simp only[↓zP,zQ,↓qC,h1,Int.reduceEq,h73]
     exact⟨_,_,_,l,kn,rfl,A4,C4,hl,rfl,rfl⟩
   ·by_cases h2:(w5:Int)=2
    ·by_cases h76:ck=76
     ·obtain⟨ya,yb,qy,ya0,yo,rfl,rfl,hqy,hy,wya,wyb,_⟩:=uQ ls li (.inr (.inr h76))
      have nrc:qy≠rc:=by have:=(CY.dr D2).d.1;have:=hc.lt;omega
      have LA:AL Z3 Z1.length (.sl q 0 l.length 4) qy ⟨ints .i64 [ya0,ya,yb],yo,true⟩:=⟨hy,by have:=qP A2.p.1;omega,.sl (by have:=qP hqY;have:=D2.1;omega)⟩
      have L0:=LA.dr D4 nrc
      obtain⟨w1',G1,hw1,c1,D1⟩:=yB C4.c hL 3 (by omega) (by omega)
      have A1':=A4.dr D1 hc.lt
      have C1':=C4.dr D1
      have L1:=L0.dr D1 nrc
      obtain⟨v2,l2,x2,G2,c2,p2,o2,g2⟩:=xK A1'.p hl (1+(w1':Int))
      obtain⟨A2',C2'⟩:=A1'.mk' C1' p2 o2
      have bl2:=g2.1.2.1 hl
      have L2:=L1.only o2
      have ea:IntKind.i64.wrap (1+(w1':Int))=1+(w1':Int):=w64 (by omega) (by omega)
      have hy0:=L0.1
      have hy1:=L1.1
      have hyz:=L2.1
      obtain⟨vv,lv,xv,Zv,cv,pv,ov,gv,_⟩:=uD A2'.p bl2 76 [v2,yb] 2 rfl (by omega)
      obtain⟨Av,Cv⟩:=A2'.mk' C2' pv ov
      have blv:=gv.1.2.1 bl2
      simp only[↓zP,zQ,↓qC,h76,h2,Int.reduceEq]
      refine zD [(6,0),(6,2),(6,4)] ?_
      simp only[↓zP,zQ]
      refine qF rfl c1 ?_
      simp only[↓zP,zQ,ea]
      refine qF rfl c2 ?_
      simp -implicitDefEqProofs only[↓zP,zQ,Nat.reduceLT,Int.reduceLE,Int.reduceLT,Int.reduceToNat,Nat.reduceAdd,hyz]
      refine qF rfl cv ?_
      simp only[↓zP,zQ]
      refine⟨qI (qS _ _ qy 2 rfl rfl (hy0.trans hyz.symm)) (qI (qS _ _ qy 2 rfl rfl (hy1.trans hyz.symm)) (zA)),?_⟩
      exact⟨_,_,xv,lv,vv,rfl,Av,Cv,blv,rfl,rfl⟩
     ·simp only[↓zP,zQ,↓qC,h2,Int.reduceEq,h76]
      exact⟨_,_,_,l,kn,rfl,A4,C4,hl,rfl,rfl⟩
    ·simp only[↓zP,zQ,↓qC,h0,h1,h2]
     exact⟨_,_,_,l,kn,rfl,A4,C4,hl,rfl,rfl⟩
 ·rintro s ⟨T,G,x,m,k,rfl,A5,C5,hm,t5,t6⟩
  have r5:=A5.p.1
  have ra5:=yY A5.p.2.1
  obtain⟨tx,bt,Z6,c6,e6,h6⟩:=termTextS (OwnN.rd A5.p.2.2.1) (by omega) k
  have C6:=C5.ext e6
  simp only[↓zP,zQ,↓qC,t5,r5,ra5,t6]
  refine qF rfl c6 ?_
  by_cases h:4000<(tx.size:Int)
  ·simp only[↓zP,zQ,↓qC,h]
   exact⟨_,rfl,C6.d,by decide⟩
  ·simp only[↓zP,zQ,↓qC,h]
   exact⟨_,rfl,C6.d,by omega⟩
theorem drawW {H:qE}(num:Int)(wnum:W64 num){rc:Nat}{xc:AV}{Lc:List Int}(hc:Cur H rc xc Lc)(hL:Lc.length≤4000000){N:Nat}{cs:List AV}(vw:Vd H 0 (KW 2 2 1 N) cs)(hN:N≤1000000)(nw:∀ y,y∈cs→NotIn y rc)(hnum:0≤num):∃ (ek:Int)(ea:Int)(en:Int)(tx:ByteArray)(Z:qE),Sound Tryz.prog 56 [.ptr rc 0,.agg cs,num] H (.agg [ek,ea,en,.sc (.string tx)]) Z∧Dr rc xc H Z∧W64 ek∧W64 ea∧W64 en∧0≤ea∧0≤en∧tx.size≤4000:=by
 suffices h:∃ w Z,Sound Tryz.prog 56 [.ptr rc 0,.agg cs,num] H w Z∧∃ (ek:Int)(ea:Int)(en:Int)(tx:ByteArray),w=.agg [ek,ea,en,.sc (.string tx)]∧Dr rc xc H Z∧W64 ek∧W64 ea∧W64 en∧0≤ea∧0≤en∧tx.size≤4000 by
  obtain⟨w,Z,h1,ek,ea,en,tx,rfl,h2⟩:=h
  exact⟨ek,ea,en,tx,Z,h1,h2⟩
 refine zR 77 [.cell 6 100] Tryz.func56 ?_
 have E0:=CurE.start hc
 have lnw:cs.length=20:=vw.len
 have rdw:=wU lnw
 obtain⟨b1,e2,nn3⟩:=yN (H0:=H) (i:=H.length) (by simp) E0.d.1 {cs:=cs}
 have E4:=E0.ext e2
 obtain⟨b5,e6,nn7⟩:=yN (H0:=H) (i:=H.length+1) (by simp) E4.d.1 {cs:=[(0:Int),(0:Int),(0:Int),.sc (.string ByteArray.empty)]}
 have E13:=E4.ext e6
 obtain⟨v8,Z9,h10,c11,D12⟩:=yB E13.c hL 2 (by omega) (by omega)
 try simp only[↓zP,zQ,↓qC,(vw.ones)]
 refine qF rfl c11 ?_
 have E19:=E13.dr D12
 obtain⟨v14,Z15,h16,c17,D18⟩:=yB E19.c hL 28 (by omega) (by omega)
 try simp only[↓zP,zQ,↓qC]
 refine qF rfl c17 ?_
 by_cases h20:((v14:Int))<(3:Int)
 ·have bd21:qT Tryz.prog 100 [(0,.sc (.int .i64 (1))),(1,.sc (.int .i64 ((v8:Int))))]=some (.agg [(1:Int),((v8:Int)),(0:Int),.sc (.string ByteArray.empty)]):=by simp[qT,yR,yT,qW,yF,yI,xJ,xU,xN,yO,Tryz.underlying100,kG,qR,qO,jQ,uN]
  have b23:=(b5.dr D12 hc.lt).dr D18 hc.lt
  have b26:=b23.put {cs:=[(1:Int),((v8:Int)),(0:Int),.sc (.string ByteArray.empty)]}
  try simp -implicitDefEqProofs only[↓zP,zQ,↓qC,h20,bd21,(b23.1),Nat.reduceAdd,xZ,xY,(b26.1)]
  have E28:=(E19.dr D18).put b23 {cs:=[(1:Int),((v8:Int)),(0:Int),.sc (.string ByteArray.empty)]}
  exact⟨_,_,_,_,rfl,E28.d,⟨by decide,by decide⟩,(by unfold W64;omega),⟨by decide,by decide⟩,(by omega),(by omega),(by decide)⟩
 ·by_cases h29:((v14:Int))<(15:Int)
  ·have E35:=E19.dr D18
   obtain⟨v30,Z31,h32,c33,D34⟩:=yB E35.c hL 3 (by omega) (by omega)
   try simp only[↓zP,zQ,↓qC,h20,h29]
   refine qF rfl c33 ?_
   have bd36:qT Tryz.prog 100 [(0,.sc (.int .i64 (2))),(2,.sc (.int .i64 ((v30:Int))))]=some (.agg [(2:Int),(0:Int),((v30:Int)),.sc (.string ByteArray.empty)]):=by simp[qT,yR,yT,qW,yF,yI,xJ,xU,xN,yO,Tryz.underlying100,kG,qR,qO,jQ,uN]
   have b39:=((b5.dr D12 hc.lt).dr D18 hc.lt).dr D34 hc.lt
   have b42:=b39.put {cs:=[(2:Int),(0:Int),((v30:Int)),.sc (.string ByteArray.empty)]}
   try simp -implicitDefEqProofs only[↓zP,zQ,bd36,(b39.1),Nat.reduceAdd,xZ,xY,(b42.1)]
   have E44:=(E35.dr D34).put b39 {cs:=[(2:Int),(0:Int),((v30:Int)),.sc (.string ByteArray.empty)]}
   exact⟨_,_,_,_,rfl,E44.d,⟨by decide,by decide⟩,⟨by decide,by decide⟩,(by unfold W64;omega),(by omega),(by omega),(by decide)⟩
  ·by_cases h45:((v14:Int))=(15:Int)
   ·have h46:=eq_true h45
    have E47:=E19.dr D18
    obtain⟨b48,e49,nn50⟩:=yN (H0:=H) (i:=Z15.length) (by simp) E47.d.1 {cs:=ints .i64 [3,4]}
    have E60:=E47.ext e49
    obtain⟨j51,Z52,hj53,c54,D55⟩:=vH E60.c hL (y:=.sl (Z15.length) 0 2 1) (IsL.at (own:=true) (l:=[3,4]) b48.1 rfl) (by decide) (by decide)
    obtain⟨v56,hv57⟩:∃ v,([3,4]:List Int).getD j51 0=v:=⟨_,rfl⟩
    rw[hv57] at c54
    have h58:0≤v56∧v56≤900000:=hv_in hv57 (getD_in (by decide) hj53)
    have w59:W64 v56:=by unfold W64;omega
    try simp only[↓zP,zQ,↓qC,h20,h29,h46]
    refine qF rfl c54 ?_
    have E66:=E60.dr D55
    obtain⟨v61,Z62,h63,c64,D65⟩:=yB E66.c hL 3 (by omega) (by omega)
    try simp only[↓zP,zQ]
    refine qF rfl c64 ?_
    have bd67:qT Tryz.prog 100 [(0,.sc (.int .i64 (v56))),(2,.sc (.int .i64 ((v61:Int))))]=some (.agg [v56,(0:Int),((v61:Int)),.sc (.string ByteArray.empty)]):=by simp[qT,yR,yT,qW,yF,yI,xJ,xU,xN,yO,Tryz.underlying100,kG,qR,qO,jQ,uN]
    have b72:=((((b5.dr D12 hc.lt).dr D18 hc.lt).ext e49).dr D55 hc.lt).dr D65 hc.lt
    have b75:=b72.put {cs:=[v56,(0:Int),((v61:Int)),.sc (.string ByteArray.empty)]}
    try simp -implicitDefEqProofs only[↓zP,zQ,bd67,(b72.1),Nat.reduceAdd,xZ,xY,(b75.1)]
    have E77:=(E66.dr D65).put b72 {cs:=[v56,(0:Int),((v61:Int)),.sc (.string ByteArray.empty)]}
    exact⟨_,_,_,_,rfl,E77.d,w59,⟨by decide,by decide⟩,(by unfold W64;omega),(by omega),(by omega),(by decide)⟩
   ·by_cases h78:((v14:Int))=(16:Int)
    ·have h79:=eq_true h78
     have bd80:qT Tryz.prog 100 [(0,.sc (.int .i64 (5))),(2,.sc (.int .i64 (num)))]=some (.agg [(5:Int),(0:Int),num,.sc (.string ByteArray.empty)]):=by simp[qT,yR,yT,qW,yF,yI,xJ,xU,xN,yO,Tryz.underlying100,kG,qR,qO,jQ,uN]
     have b82:=(b5.dr D12 hc.lt).dr D18 hc.lt
     have b85:=b82.put {cs:=[(5:Int),(0:Int),num,.sc (.string ByteArray.empty)]}
     try simp -implicitDefEqProofs only[↓zP,zQ,↓qC,h20,(b82.1),Nat.reduceAdd,h29,h45,h79,bd80,xZ,xY,(b85.1)]
     have E87:=(E19.dr D18).put b82 {cs:=[(5:Int),(0:Int),num,.sc (.string ByteArray.empty)]}
     exact⟨_,_,_,_,rfl,E87.d,⟨by decide,by decide⟩,⟨by decide,by decide⟩,wnum,(by omega),hnum,(by decide)⟩
    ·by_cases h88:((v14:Int))<(21:Int)
     ·have E89:=E19.dr D18
      obtain⟨b90,e91,nn92⟩:=yN (H0:=H) (i:=Z15.length) (by simp) E89.d.1 {cs:=ints .i64 [10,12,24,26,30,11,38]}
      have E102:=E89.ext e91
      obtain⟨j93,Z94,hj95,c96,D97⟩:=vH E102.c hL (y:=.sl (Z15.length) 0 7 1) (IsL.at (own:=true) (l:=[10,12,24,26,30,11,38]) b90.1 rfl) (by decide) (by decide)
      obtain⟨v98,hv99⟩:∃ v,([10,12,24,26,30,11,38]:List Int).getD j93 0=v:=⟨_,rfl⟩
      rw[hv99] at c96
      have h100:0≤v98∧v98≤900000:=hv_in hv99 (getD_in (by decide) hj95)
      have w101:W64 v98:=by unfold W64;omega
      try simp only[↓zP,zQ,↓qC,h20,h29,h45,h78,h88]
      refine qF rfl c96 ?_
      have bd103:qT Tryz.prog 100 [(0,.sc (.int .i64 (6))),(1,.sc (.int .i64 ((v8:Int)))),(2,.sc (.int .i64 (v98)))]=some (.agg [(6:Int),((v8:Int)),v98,.sc (.string ByteArray.empty)]):=by simp[qT,yR,yT,qW,yF,yI,xJ,xU,xN,yO,Tryz.underlying100,kG,qR,qO,jQ,uN]
      have b107:=(((b5.dr D12 hc.lt).dr D18 hc.lt).ext e91).dr D97 hc.lt
      have b110:=b107.put {cs:=[(6:Int),((v8:Int)),v98,.sc (.string ByteArray.empty)]}
      try simp -implicitDefEqProofs only[↓zP,zQ,bd103,(b107.1),Nat.reduceAdd,xZ,xY,(b110.1)]
      have E112:=(E102.dr D97).put b107 {cs:=[(6:Int),((v8:Int)),v98,.sc (.string ByteArray.empty)]}
      exact⟨_,_,_,_,rfl,E112.d,⟨by decide,by decide⟩,(by unfold W64;omega),w101,(by omega),(by omega),(by decide)⟩
     ·by_cases h113:((v14:Int))=(21:Int)
      ·have h114:=eq_true h113
       have bd115:qT Tryz.prog 100 [(0,.sc (.int .i64 (7))),(1,.sc (.int .i64 ((v8:Int)))),(2,.sc (.int .i64 (num)))]=some (.agg [(7:Int),((v8:Int)),num,.sc (.string ByteArray.empty)]):=by simp[qT,yR,yT,qW,yF,yI,xJ,xU,xN,yO,Tryz.underlying100,kG,qR,qO,jQ,uN]
       have b117:=(b5.dr D12 hc.lt).dr D18 hc.lt
       have b120:=b117.put {cs:=[(7:Int),((v8:Int)),num,.sc (.string ByteArray.empty)]}
       try simp -implicitDefEqProofs only[↓zP,zQ,↓qC,h20,(b117.1),Nat.reduceAdd,h29,h45,h78,h88,h114,bd115,xZ,xY,(b120.1)]
       have E122:=(E19.dr D18).put b117 {cs:=[(7:Int),((v8:Int)),num,.sc (.string ByteArray.empty)]}
       exact⟨_,_,_,_,rfl,E122.d,⟨by decide,by decide⟩,(by unfold W64;omega),wnum,(by omega),hnum,(by decide)⟩
      ·by_cases h123:((v14:Int))=(22:Int)
       ·have h124:=eq_true h123
        have bd125:qT Tryz.prog 100 [(0,.sc (.int .i64 (8))),(1,.sc (.int .i64 ((v8:Int)))),(2,.sc (.int .i64 (num)))]=some (.agg [(8:Int),((v8:Int)),num,.sc (.string ByteArray.empty)]):=by simp[qT,yR,yT,qW,yF,yI,xJ,xU,xN,yO,Tryz.underlying100,kG,qR,qO,jQ,uN]
        have b127:=(b5.dr D12 hc.lt).dr D18 hc.lt
        have b130:=b127.put {cs:=[(8:Int),((v8:Int)),num,.sc (.string ByteArray.empty)]}
        try simp -implicitDefEqProofs only[↓zP,zQ,↓qC,h20,(b127.1),Nat.reduceAdd,h29,h45,h78,h88,h113,h124,bd125,xZ,xY,(b130.1)]
        have E132:=(E19.dr D18).put b127 {cs:=[(8:Int),((v8:Int)),num,.sc (.string ByteArray.empty)]}
        exact⟨_,_,_,_,rfl,E132.d,⟨by decide,by decide⟩,(by unfold W64;omega),wnum,(by omega),hnum,(by decide)⟩
       ·by_cases h133:((v14:Int))=(23:Int)
        ·have h134:=eq_true h133
         obtain⟨m135,hm136⟩:∃ m,Int.tmod num 3=m:=⟨_,rfl⟩
         have w137:W64 m135:=hm136▸W64.tmod wnum
         by_cases h138:m135=(0:Int)
         ·subst h138
          have bd139:qT Tryz.prog 100 [(0,.sc (.int .i64 (10))),(1,.sc (.int .i64 ((v8:Int)))),(2,.sc (.int .i64 (num)))]=some (.agg [(10:Int),((v8:Int)),num,.sc (.string ByteArray.empty)]):=by simp[qT,yR,yT,qW,yF,yI,xJ,xU,xN,yO,Tryz.underlying100,kG,qR,qO,jQ,uN]
          have b141:=(b5.dr D12 hc.lt).dr D18 hc.lt
          have b144:=b141.put {cs:=[(10:Int),((v8:Int)),num,.sc (.string ByteArray.empty)]}
          try simp -implicitDefEqProofs only[↓zP,zQ,↓qC,h20,(b141.1),Nat.reduceAdd,h29,h45,h78,h88,h113,h123,h134,Int.reduceEq,hm136,bd139,xZ,xY,(b144.1)]
          have E146:=(E19.dr D18).put b141 {cs:=[(10:Int),((v8:Int)),num,.sc (.string ByteArray.empty)]}
          exact⟨_,_,_,_,rfl,E146.d,⟨by decide,by decide⟩,(by unfold W64;omega),wnum,(by omega),hnum,(by decide)⟩
         ·try simp only[↓zP,zQ,↓qC,h20,h29,h45,h78,h88,h113,h123,h134,Int.reduceEq,hm136,h138]
          refine zD [(5,0),(5,2),(5,4)] ?_
          have E152:=E19.dr D18
          obtain⟨v147,Z148,h149,c150,D151⟩:=yB E152.c hL 4 (by omega) (by omega)
          try simp only[↓zP,zQ]
          refine qF rfl c150 ?_
          have E158:=E152.dr D151
          obtain⟨v153,Z154,h155,c156,D157⟩:=yB E158.c hL 6 (by omega) (by omega)
          try simp only[↓zP,zQ]
          refine qF rfl c156 ?_
          have b161:=((b1.ext e6).dr D12 hc.lt).dr D18 hc.lt
          have b162:=b161.dr D151 hc.lt
          have b163:=b162.dr D157 hc.lt
          have E170:=E158.dr D157
          obtain⟨tx165,Z166,c167,D168,h169⟩:=forgedW E170.c hL (vw.dr E170.d nw) hN nw
          try simp only[↓zP,zQ,(b163.1),rdw]
          refine qF rfl c167 ?_
          have b175:=((((b5.dr D12 hc.lt).dr D18 hc.lt).dr D151 hc.lt).dr D157 hc.lt).dr D168 hc.lt
          try simp -implicitDefEqProofs only[↓zP,zQ,(b175.1),Nat.reduceAdd,xZ,xY]
          have b179:=(b163.dr D168 hc.lt).oth (Ne.symm (nn7 _ _ b1.1)) {cs:=[(9:Int),((v147:Int)),((v153:Int)),.sc (.string tx165)]}
          refine⟨qI (qS _ _ (H.length) 0 rfl rfl ((b161).1.trans (b163).1.symm)) (qI (qS _ _ (H.length) 0 rfl rfl ((b162).1.trans (b163).1.symm)) (zX (qH))),?_⟩
          have b180:=b175.put {cs:=[(9:Int),((v147:Int)),((v153:Int)),.sc (.string tx165)]}
          try simp -implicitDefEqProofs only[zQ,(b180.1),Nat.reduceAdd]
          have E182:=(E170.dr D168).put b175 {cs:=[(9:Int),((v147:Int)),((v153:Int)),.sc (.string tx165)]}
          exact⟨_,_,_,_,rfl,E182.d,⟨by decide,by decide⟩,(by unfold W64;omega),(by unfold W64;omega),(by omega),(by omega),by assumption⟩
        ·try simp only[↓zP,zQ,↓qC,h20,h29,h45,h78,h88,h113,h123,h133,qA]
         refine zD [(5,0),(5,2),(5,4)] ?_
         have E188:=E19.dr D18
         obtain⟨v183,Z184,h185,c186,D187⟩:=yB E188.c hL 4 (by omega) (by omega)
         try simp only[↓zP,zQ]
         refine qF rfl c186 ?_
         have E194:=E188.dr D187
         obtain⟨v189,Z190,h191,c192,D193⟩:=yB E194.c hL 6 (by omega) (by omega)
         try simp only[↓zP,zQ]
         refine qF rfl c192 ?_
         have b197:=((b1.ext e6).dr D12 hc.lt).dr D18 hc.lt
         have b198:=b197.dr D187 hc.lt
         have b199:=b198.dr D193 hc.lt
         have E206:=E194.dr D193
         obtain⟨tx201,Z202,c203,D204,h205⟩:=forgedW E206.c hL (vw.dr E206.d nw) hN nw
         try simp only[↓zP,zQ,(b199.1),rdw]
         refine qF rfl c203 ?_
         have b211:=((((b5.dr D12 hc.lt).dr D18 hc.lt).dr D187 hc.lt).dr D193 hc.lt).dr D204 hc.lt
         try simp -implicitDefEqProofs only[↓zP,zQ,(b211.1),Nat.reduceAdd,xZ,xY]
         have b215:=(b199.dr D204 hc.lt).oth (Ne.symm (nn7 _ _ b1.1)) {cs:=[(9:Int),((v183:Int)),((v189:Int)),.sc (.string tx201)]}
         refine⟨qI (qS _ _ (H.length) 0 rfl rfl ((b197).1.trans (b199).1.symm)) (qI (qS _ _ (H.length) 0 rfl rfl ((b198).1.trans (b199).1.symm)) (zX (qH))),?_⟩
         have b216:=b211.put {cs:=[(9:Int),((v183:Int)),((v189:Int)),.sc (.string tx201)]}
         try simp -implicitDefEqProofs only[zQ,(b216.1),Nat.reduceAdd]
         have E218:=(E206.dr D204).put b211 {cs:=[(9:Int),((v183:Int)),((v189:Int)),.sc (.string tx201)]}
         exact⟨_,_,_,_,rfl,E218.d,⟨by decide,by decide⟩,(by unfold W64;omega),(by unfold W64;omega),(by omega),(by omega),by assumption⟩
theorem modeW {H:qE}{rc:Nat}{xc:AV}{Lc:List Int}(hc:Cur H rc xc Lc)(hL:Lc.length≤4000000):∃ (vv:Int)(Z:qE),Sound Tryz.prog 52 [.ptr rc 0] H (.sc (.int .i64 vv)) Z∧Dr rc xc H Z∧W64 vv:=by
 suffices h:∃ w Z,Sound Tryz.prog 52 [.ptr rc 0] H w Z∧∃ (vv:Int),w=.sc (.int .i64 vv)∧Dr rc xc H Z∧W64 vv by
  obtain⟨w,Z,h1,vv,rfl,h2⟩:=h
  exact⟨vv,Z,h1,h2⟩
 refine zR 6 [.tmp 2] Tryz.func52 ?_
 have E0:=CurE.start hc
 obtain⟨v1,Z2,h3,c4,D5⟩:=yB E0.c hL 2 (by omega) (by omega)
 try simp only[↓zP,zQ,↓qC]
 refine qF rfl c4 ?_
 try simp only[↓zP,zQ]
 exact⟨_,rfl,(E0.dr D5).d,(W64.wrap _)⟩
theorem routesW {H:qE}{rc:Nat}{xc:AV}{Lc:List Int}(hc:Cur H rc xc Lc)(hL:Lc.length≤4000000):∃ (q:Nat)(m:List (Rw xM))(Z:qE),Sound Tryz.prog 53 [.ptr rc 0] H (.sl q 0 m.length 3) Z∧Dr rc xc H Z∧LclE Z H.length q {cs:=rows Rw.cs m}∧m.length≤5:=by
 suffices h:∃ w Z,Sound Tryz.prog 53 [.ptr rc 0] H w Z∧∃ (q:Nat)(m:List (Rw xM)),w=.sl q 0 m.length 3∧Dr rc xc H Z∧LclE Z H.length q {cs:=rows Rw.cs m}∧m.length≤5 by
  obtain⟨w,Z,h1,q,m,rfl,h2⟩:=h
  exact⟨q,m,Z,h1,h2⟩
 refine zR 30 [.tmp 2] Tryz.func53 ?_
 have E0:=CurE.start hc
 obtain⟨b1,e2,nn3⟩:=yN (H0:=H) (i:=H.length) (by simp) E0.d.1 {cs:=[]}
 obtain⟨p4,hp5⟩:=((RowOk.int ⟨by decide,by decide⟩ (RowOk.int ⟨by decide,by decide⟩ (RowOk.int ⟨by decide,by decide⟩ RowOk.nil))):RowOk xM [.sc (.int .i64 (0)),.sc (.int .i64 (0)),.sc (.int .i64 (1))])
 obtain⟨p6,hp7⟩:=((RowOk.int ⟨by decide,by decide⟩ (RowOk.int ⟨by decide,by decide⟩ (RowOk.int ⟨by decide,by decide⟩ RowOk.nil))):RowOk xM [.sc (.int .i64 (16)),.sc (.int .i64 (4)),.sc (.int .i64 (2))])
 obtain⟨p8,hp9⟩:=((RowOk.int ⟨by decide,by decide⟩ (RowOk.int ⟨by decide,by decide⟩ (RowOk.int ⟨by decide,by decide⟩ RowOk.nil))):RowOk xM [.sc (.int .i64 (24)),.sc (.int .i64 (5)),.sc (.int .i64 (3))])
 obtain⟨p10,hp11⟩:=((RowOk.int ⟨by decide,by decide⟩ (RowOk.int ⟨by decide,by decide⟩ (RowOk.int ⟨by decide,by decide⟩ RowOk.nil))):RowOk xM [.sc (.int .i64 (26)),.sc (.int .i64 (7)),.sc (.int .i64 (4))])
 obtain⟨p12,hp13⟩:=((RowOk.int ⟨by decide,by decide⟩ (RowOk.int ⟨by decide,by decide⟩ (RowOk.int ⟨by decide,by decide⟩ RowOk.nil))):RowOk xM [.sc (.int .i64 (30)),.sc (.int .i64 (8)),.sc (.int .i64 (5))])
 have E15:=E0.ext e2
 obtain⟨b16,e17,nn18⟩:=yN (H0:=H) (i:=H.length+1) (by simp) E15.d.1 {cs:=[(0:Int),(0:Int),(1:Int),(16:Int),(4:Int),(2:Int),(24:Int),(5:Int),(3:Int),(26:Int),(7:Int),(4:Int),(30:Int),(8:Int),(5:Int)]}
 obtain⟨l19,hl20⟩:∃ l,l=[p4,p6,p8,p10,p12]:=⟨_,rfl⟩
 have ln21:l19.length=5:=by rw[hl20];rfl
 have b22:LclE ((H++[{cs:=[]}])++[{cs:=[(0:Int),(0:Int),(1:Int),(16:Int),(4:Int),(2:Int),(24:Int),(5:Int),(3:Int),(26:Int),(7:Int),(4:Int),(30:Int),(8:Int),(5:Int)]}]) H.length (H.length+1) {cs:=rows Rw.cs l19}:=by rw[hl20];simp only[rows,List.map_cons,List.map_nil,List.flatten_cons,List.flatten_nil,hp5,hp7,hp9,hp11,hp13];exact b16
 try simp only[↓zP,zQ,↓qC,(by simp[vC,zero104,tyOk104,cells104,yR,qW,AV.cells]:vC Tryz.prog (some (.slice 104)) 5 [(0,.agg [(0:Int),(0:Int),(1:Int)]),(1,.agg [(16:Int),(4:Int),(2:Int)]),(2,.agg [(24:Int),(5:Int),(3:Int)]),(3,.agg [(26:Int),(7:Int),(4:Int)]),(4,.agg [(30:Int),(8:Int),(5:Int)])]=some ([.sc (.int .i64 (0)),.sc (.int .i64 (0)),.sc (.int .i64 (1)),.sc (.int .i64 (16)),.sc (.int .i64 (4)),.sc (.int .i64 (2)),.sc (.int .i64 (24)),.sc (.int .i64 (5)),.sc (.int .i64 (3)),.sc (.int .i64 (26)),.sc (.int .i64 (7)),.sc (.int .i64 (4)),.sc (.int .i64 (30)),.sc (.int .i64 (8)),.sc (.int .i64 (5))],fun r=>.sl r 0 5 3))]
 refine yL (ι:=Nat) (fun i s=>∃ (T:Nat→AV)(G:qE)(q27:Nat)(l28:List (Rw xM)),s=⟨qY 30 T,G⟩∧CurE H G rc xc Lc∧i≤5∧LclE G H.length (H.length+1) {cs:=rows Rw.cs l19}∧LclE G H.length q27 {cs:=rows Rw.cs l28}∧l28.length≤0+1*i∧(H.length+1)≠q27∧T 0=.ptr (rc) 0∧T 2=.sc (.slice none 0 0)∧T 4=.sl (H.length+1) 0 5 3∧T 3=.sl q27 0 l28.length 3∧T 5=.sc (.int .i64 i)) (fun i=>5 - i) ?_ (i:=0) ?_
 rotate_left
 ·exact⟨_,_,(H.length),[],rfl,(E15.ext e17),Nat.zero_le _,b22,(b1.ext e17),(by simp),(Ne.symm (nn18 _ _ b1.1)),rfl,rfl,rfl,rfl,rfl⟩
 rintro i23 s ⟨T24,Z25,q27,l28,rfl,E35,hi36,b37,b38,hl39,ne40,a30,a31,a32,a33,a34⟩
 have e41:i23<5→IntKind.i64.wrap ((i23:Int)+1)=((i23+1:Nat):Int):=fun h=>by rw[w64 (by omega) (by omega)];omega
 by_cases h42:((i23:Int))<(5:Int)
 ·obtain⟨t43,Z44,c45,D46⟩:=drawOnce E35.c hL 3 (by omega) (by omega)
  try simp only[↓zP,zQ,↓qC,a34,a32,a30,a33,h42]
  refine qF rfl c45 ?_
  cases t43 with
  | false =>
   have hb47:i23<l19.length:=by omega
   obtain⟨p48,hp49⟩:∃ p,l19[i23]?=some p:=⟨_,List.getElem?_eq_getElem hb47⟩
   have k50:(0:Int)≤(i23:Int):=by omega
   have k51:(i23:Int)<(l19.length:Int):=by omega
   have b52:=b37.dr D46 hc.lt
   obtain⟨p55,hp56⟩:=((RowOk.int (p48.w64 0 rfl) (RowOk.int (p48.w64 1 rfl) (RowOk.int (p48.w64 2 rfl) RowOk.nil))):RowOk xM [.sc (.int .i64 (p48.int 0)),.sc (.int .i64 (p48.int 1)),.sc (.int .i64 (p48.int 2))])
   have E57:=E35.dr D46
   obtain⟨b58,e59,nn60⟩:=yN (H0:=H) (i:=Z44.length) (by simp) E57.d.1 {cs:=[p48.int 0,p48.int 1,p48.int 2]}
   have b62:=(b38.dr D46 hc.lt).ext e59
   have c63:=b62.1
   have E64:=E57.ext e59
   obtain⟨q65,l66,Z67,ap68,e69,b70,K71,nn72⟩:=uB apS31 xT (l1:=l28) (n:=l28.length) b62 E64.d.1 rfl (xL xT (a:=p55) (by rw[hp56];exact b58.1)) rfl (by (try simp only[List.length_cons,List.length_nil]);omega)
   have ln73:l66.length=l28.length+1:=by rw[e69,List.length_append];try rfl
   have e74:=e41 (by omega)
   try simp -implicitDefEqProofs only[↓zP,zQ,a33,a32,a34,k50,h42,qB,e74,(b52.1),(fun (o:Bool)=>(xD xT hp49 o).trans (by rw[csRoute])),Nat.reduceAdd,c63,ap68]
   have b76:=b52.ext e59
   refine⟨i23+1,by omega,_,_,(q65),l66,rfl,(E64.kil K71 b62.2),by omega,(b76.kil K71 (Ne.symm (Ne.symm ne40))),b70,by omega,(Ne.symm (Ne.symm (nn72 _ _ b76.1))),?_,?_,?_,?_,?_⟩<;>simp only[zQ,a30,a31,a32]<;>rfl
  | true =>
   try simp only[↓zP,zQ,a33,a32,a34,h42,qB,(e41 (by omega))]
   refine⟨i23+1,by omega,_,_,(q27),l28,rfl,(E35.dr D46),by omega,(b37.dr D46 hc.lt),(b38.dr D46 hc.lt),by omega,(Ne.symm (Ne.symm ne40)),?_,?_,?_,?_,?_⟩<;>simp only[zQ,a30,a31,a32,a33]<;>rfl
 ·try simp only[↓zP,zQ,↓qC,a34,a32,a30,a33,h42]
  exact⟨(q27),l28,rfl,E35.d,b38,by (try simp only[List.length_nil]);omega⟩
theorem routesAnyW {H:qE}{rc:Nat}{xc:AV}{Lc:List Int}(hc:Cur H rc xc Lc)(hL:Lc.length≤4000000):∃ (q:Nat)(m:List (Rw xM))(Z:qE),Sound Tryz.prog 37 [.ptr rc 0] H (.sl q 0 m.length 3) Z∧Dr rc xc H Z∧LclE Z H.length q {cs:=rows Rw.cs m}∧m.length≤20:=by
 suffices h:∃ w Z,Sound Tryz.prog 37 [.ptr rc 0] H w Z∧∃ (q:Nat)(m:List (Rw xM)),w=.sl q 0 m.length 3∧Dr rc xc H Z∧LclE Z H.length q {cs:=rows Rw.cs m}∧m.length≤20 by
  obtain⟨w,Z,h1,q,m,rfl,h2⟩:=h
  exact⟨q,m,Z,h1,h2⟩
 refine zR 30 [.tmp 2] Tryz.func37 ?_
 have E0:=CurE.start hc
 obtain⟨v1,Z2,h3,c4,D5⟩:=yB E0.c hL 8 (by omega) (by omega)
 try simp only[↓zP,zQ,↓qC]
 refine qF rfl c4 ?_
 have E6:=E0.dr D5
 obtain⟨b7,e8,nn9⟩:=yN (H0:=H) (i:=Z2.length) (by simp) E6.d.1 {cs:=[]}
 have E10:=E6.ext e8
 obtain⟨q11,m12,Z13,c14,D15,b16,hl17⟩:=routesW E10.c hL
 try simp only[↓zP,zQ,↓qC]
 refine qF rfl c14 ?_
 have b18:LclE Z13 H.length q11 _:=⟨b16.1,Nat.le_trans E10.d.1 b16.2⟩
 have b19:=b7.dr D15 hc.lt
 have c20:=b19.1
 have E21:=E10.dr D15
 obtain⟨q22,l23,Z24,ap25,e26,b27,K28,nn29⟩:=uB apS31 xT (l1:=[]) (n:=0) b19 E21.d.1 rfl (RdX.src xT (.inr ⟨_,_,rfl,b18.1⟩)) rfl (by (try simp only[List.length_cons,List.length_nil]);omega)
 have ap30:apR _ _ _ _ _ (some {cs:=[]}) _=_:=ap25
 have ln31:l23.length=0+m12.length:=by rw[e26,List.length_append];try rfl
 by_cases h32:((v1:Int))=(0:Int)
 ·have h33:=eq_true h32
  have E39:=E21.kil K28 b19.2
  obtain⟨v34,Z35,h36,c37,D38⟩:=yB E39.c hL 40 (by omega) (by omega)
  try simp only[↓zP,zQ,c20,ap30,↓qC,h33]
  refine qF rfl c37 ?_
  have E45:=E39.dr D38
  obtain⟨v40,Z41,h42,c43,D44⟩:=yB E45.c hL 10 (by omega) (by omega)
  try simp only[↓zP,zQ]
  refine qF rfl c43 ?_
  have E51:=E45.dr D44
  obtain⟨v46,Z47,h48,c49,D50⟩:=yB E51.c hL 11 (by omega) (by omega)
  try simp only[↓zP,zQ]
  refine qF rfl c49 ?_
  obtain⟨p52,hp53⟩:=((RowOk.int (by unfold W64;omega) (RowOk.int (by unfold W64;omega) (RowOk.int (by unfold W64;omega) RowOk.nil))):RowOk xM [.sc (.int .i64 ((v34:Int))),.sc (.int .i64 ((v40:Int))),.sc (.int .i64 ((v46:Int)))])
  have E54:=E51.dr D50
  obtain⟨b55,e56,nn57⟩:=yN (H0:=H) (i:=Z47.length) (by simp) E54.d.1 {cs:=[((v34:Int)),((v40:Int)),((v46:Int))]}
  have b61:=(((b27.dr D38 hc.lt).dr D44 hc.lt).dr D50 hc.lt).ext e56
  have E63:=E54.ext e56
  obtain⟨q64,l65,Z66,ap67,e68,b69,K70,nn71⟩:=uB apS31 xT (l1:=l23) (n:=l23.length) b61 E63.d.1 rfl (xL xT (a:=p52) (by rw[hp53];exact b55.1)) rfl (by (try simp only[List.length_cons,List.length_nil]);omega)
  have ln72:l65.length=l23.length+1:=by rw[e68,List.length_append];try rfl
  try simp -implicitDefEqProofs only[↓zP,zQ,↓qC,Nat.reduceAdd,(b61.1),ap67]
  exact⟨(q64),l65,rfl,(E63.kil K70 b61.2).d,b69,by (try simp only[List.length_nil]);omega⟩
 ·by_cases h74:((v1:Int))=(1:Int)
  ·have h75:=eq_true h74
   have E77:=E21.kil K28 b19.2
   obtain⟨q78,l79,Z80,ap81,e82,b83,K84,nn85⟩:=uB apS31 xT (l1:=l23) (n:=l23.length) b27 E77.d.1 rfl (RdX.src xT (.inr ⟨_,_,rfl,b27.1⟩)) rfl (by (try simp only[List.length_cons,List.length_nil]);omega)
   have ln86:l79.length=l23.length+l23.length:=by rw[e82,List.length_append];try rfl
   try simp only[↓zP,zQ,c20,ap30,↓qC,h32,h75,(b27.1),ap81]
   exact⟨(q78),l79,rfl,(E77.kil K84 b27.2).d,b83,by (try simp only[List.length_nil]);omega⟩
  ·try simp only[↓zP,zQ,c20,ap30,↓qC,h32,h74]
   exact⟨(q22),l23,rfl,(E21.kil K28 b19.2).d,b27,by (try simp only[List.length_nil]);omega⟩
theorem gateNewW {H:qE}(n:Int)(wn:W64 n){x:AV}{l:List (Rw xM)}(hx:RdX Rw.cs 3 H x l)(bx:l.length≤1000000):∃ (q:Nat)(Z:qE),Sound Tryz.prog 63 [.sc (.int .i64 (n)),x] H (.agg [.sc (.int .i64 n),.sc (.int .i64 1),.sc (.slice none 0 0),.sc (.slice none 0 0),.sl q 0 l.length 3,.sc (.slice none 0 0),.sc (.int .i64 0)]) Z∧Ext H Z∧LclE Z H.length q {cs:=rows Rw.cs l}:=by
 suffices h:∃ w Z,Sound Tryz.prog 63 [.sc (.int .i64 (n)),x] H w Z∧∃ (q:Nat),w=.agg [.sc (.int .i64 n),.sc (.int .i64 1),.sc (.slice none 0 0),.sc (.slice none 0 0),.sl q 0 l.length 3,.sc (.slice none 0 0),.sc (.int .i64 0)]∧Ext H Z∧LclE Z H.length q {cs:=rows Rw.cs l} by
  obtain⟨w,Z,h1,q,rfl,h2⟩:=h
  exact⟨q,Z,h1,h2⟩
 refine zR 10 [.cell 4 34] Tryz.func63 ?_
 have E0:=Ext.refl H
 obtain⟨b2,e3,nn4⟩:=yN (H0:=H) (i:=H.length) (by simp) E0.1 {cs:=[.sc (.int .i64 (0)),.sc (.int .i64 (0)),.sc (.slice none 0 0),.sc (.slice none 0 0),.sc (.slice none 0 0),.sc (.slice none 0 0),.sc (.int .i64 (0))]}
 have E5:=E0.trans e3
 obtain⟨b6,e7,nn8⟩:=yN (H0:=H) (i:=H.length+1) (by simp) E5.1 {cs:=[]}
 have E10:=E5.trans e7
 obtain⟨q12,l13,Z14,ap15,e16,b17,K18,nn19⟩:=uB apS31 xT (l1:=[]) (n:=0) b6 E10.1 rfl ((hx.ext E10).src xT) rfl (by (try simp only[List.length_cons,List.length_nil]);omega)
 have ap20:apR _ _ _ _ _ (some {cs:=[]}) _=_:=ap15
 have bd22:qT Tryz.prog 34 [(0,.sc (.int .i64 (n))),(1,.sc (.int .i64 (1))),(4,.sl q12 0 l13.length 3)]=some (.agg [.sc (.int .i64 (n)),.sc (.int .i64 (1)),.sc (.slice none 0 0),.sc (.slice none 0 0),.sl q12 0 l13.length 3,.sc (.slice none 0 0),.sc (.int .i64 (0))]):=by simp[qT,yR,yT,qW,yF,yI,xJ,xU,xN,yO,Tryz.underlying34,zero34,qR,qO,tyOk29,cells29,tyOk30,cells30,tyOk31,cells31,tyOk32,cells32]
 have b23:=b2.ext e7
 have b24:=b23.kil K18 (Ne.symm (Ne.symm (nn8 _ _ b2.1)))
 have c25:=b24.1
 have E26:=E10.kil K18 b6.2
 have b27:=b24.put {cs:=[.sc (.int .i64 (n)),.sc (.int .i64 (1)),.sc (.slice none 0 0),.sc (.slice none 0 0),.sl q12 0 l13.length 3,.sc (.slice none 0 0),.sc (.int .i64 (0))]}
 have c28:=b27.1
 try simp -implicitDefEqProofs only[↓zP,zQ,↓qC,ap20,bd22,c25,Nat.reduceAdd,xZ,xY,c28]
 have b29:=b17.oth (nn19 _ _ b23.1) {cs:=[.sc (.int .i64 (n)),.sc (.int .i64 (1)),.sc (.slice none 0 0),.sc (.slice none 0 0),.sl q12 0 l13.length 3,.sc (.slice none 0 0),.sc (.int .i64 (0))]}
 have e30:l13=l:=by rw[e16];rfl
 have E31:=E26.set b24.2 {cs:=[.sc (.int .i64 (n)),.sc (.int .i64 (1)),.sc (.slice none 0 0),.sc (.slice none 0 0),.sl q12 0 l13.length 3,.sc (.slice none 0 0),.sc (.int .i64 (0))]}
 exact⟨(q12),(by rw[e30]),E31,(by rw[←e30];exact b29)⟩
def KL (N:Nat):List CK:=[.nds (fun l=>l.length≤3000∧rt l),xV kClient 23 (·≤N),CInts (·≤N),.int W64,.int W64,xV kSess 20 (·≤64),xV kLease 2 (·≤N),xV xM 3 (·≤N),xV kOut 5 (·≤N),.int W64,
 xV kT 3 (·≤N),.int W64,.int W64,CInts (·≤N),CInts (·≤N),xV kA 7 (·≤N),xV kA 7 (·≤N),xV kA 7 (·≤N),xV kA 7 (·≤N),CInts (·≤N)]
section
variable {H Z H0 : qE} {r : Nat} {cs cs0 : List AV}
theorem Wd.upL {N:Nat}(w:Wd H r (KL N) cs){M:Nat}(h:N≤M):Wd H r (KL M) cs:=by
 refine w.mono rfl fun i q q' x h1 h2 h3=>?_
 rcases i with _ | _ | _ | _ | _ | _ | _ | _ | _ | _ | _ | _ | _ | _ | _ | _ | _ | _ | _ | _ | i
 all_goals first | (cases h1;done) | (cases h1;cases h2;first | exact h3 | (obtain⟨l,g1,g2⟩:=h3;exact⟨l,g1,Nat.le_trans g2 h⟩) | (obtain⟨l,g1,g2,g3⟩:=h3;exact⟨l,g1,Nat.le_trans g2 h,g3⟩))
theorem WS.upL {N M:Nat}(s:WS H0 H r (KL N) cs0 cs)(h:N≤M):WS H0 H r (KL M) cs0 cs:=⟨s.w.upL h,s.o⟩
theorem Wd.fix {N:Nat}{x1 x2 x13:AV}{l1:List (Rw kClient)}{l2 l13:List Int}(w:Wd H r (KL N) cs)(h1:cs[1]?=some x1)(o1:OwnX Rw.cs 23 H x1 l1)(e1:l1.length=2)(h2:cs[2]?=some x2)(o2:OwnX intF 1 H x2 l2)(e2:l2.length=2)(p2:∀ z,z∈l2→W64 z)(h13:cs[13]?=some x13)(o13:OwnX intF 1 H x13 l13)(e13:1≤l13.length∧l13.length≤N)(p13:∀ z,z∈l13→W64 z):Wd H r (KW 2 2 1 N) cs:=by
 refine⟨w.at_,w.len,fun i k x a b=>?_,w.out,w.sep⟩
 by_cases i1:i=1
 ·subst i1
  cases a
  rw[h1] at b
  cases b
  exact⟨l1,o1,e1⟩
 by_cases i2:i=2
 ·subst i2
  cases a
  rw[h2] at b
  cases b
  exact⟨l2,o2,e2,p2⟩
 by_cases i13:i=13
 ·subst i13
  cases a
  rw[h13] at b
  cases b
  exact⟨l13,o13,e13,p13⟩
 have hk:(KL N)[i]?=some k:=by
  rcases i with _ | _ | _ | _ | _ | _ | _ | _ | _ | _ | _ | _ | _ | _ | _ | _ | _ | _ | _ | _ | i
  all_goals first | exact a | omega
 exact w.ok i k x hk b
end
def startC (x7 x14:AV):List AV:=[.sc (.slice none 0 0),.sc (.slice none 0 0),.sc (.slice none 0 0),.sc (.int .i64 9),.sc (.int .i64 1),.sc (.slice none 0 0),.sc (.slice none 0 0),x7,.sc (.slice none 0 0),.sc (.int .i64 0),.sc (.slice none 0 0),.sc (.int .i64 0),.sc (.int .i64 10000),.sc (.slice none 0 0),x14,.sc (.slice none 0 0),.sc (.slice none 0 0),.sc (.slice none 0 0),.sc (.slice none 0 0),.sc (.slice none 0 0)]
theorem notIn_sc (v:Value)(q:Nat):NotIn (.sc v) q:=fun _ _ _ _ e=>by cases e
theorem startC_in {x7 x14 x:AV}{q:Nat}{i:Nat}(h:(startC x7 x14)[i]?=some x)(hq:¬ NotIn x q):(i=7∧x=x7)∨(i=14∧x=x14):=by
 rcases i with _ | _ | _ | _ | _ | _ | _ | _ | _ | _ | _ | _ | _ | _ | _ | _ | _ | _ | _ | _ | i
 all_goals first | (cases h;exact absurd (notIn_sc _ q) hq) | (cases h;exact .inl ⟨rfl,rfl⟩) | (cases h;exact .inr ⟨rfl,rfl⟩) | cases h
theorem world0 {Y:qE}{r q t N:Nat}{l:List (Rw xM)}(hr:Y[r]?=some {cs:=startC (.sl q 0 l.length 3) (.sl t 0 1 1)})(hq:Y[q]?=some {cs:=rows Rw.cs l})(ht:Y[t]?=some {cs:=rows intF [3]})(n1:q≠r)(n2:t≠r)(n3:q≠t)(hl:l.length≤N)(hN:1≤N) :
  Wd Y r (KL N) (startC (.sl q 0 l.length 3) (.sl t 0 1 1)):=by
 have w0:∀ z:Int,0≤z→z≤100000→W64 z:=fun z a b=>by unfold W64;omega
 refine⟨hr,rfl,?_,?_,?_⟩
 ·intro i k x h1 h2
  rcases i with _ | _ | _ | _ | _ | _ | _ | _ | _ | _ | _ | _ | _ | _ | _ | _ | _ | _ | _ | _ | i
  all_goals first | (cases h1;done) | skip
  all_goals (cases h1;cases h2)
  all_goals first | exact⟨[],.inl ⟨rfl,rfl⟩,by simp[rt]⟩ | exact⟨[],.nil,by simp⟩ | exact⟨_,rfl,w0 _ (by omega) (by omega)⟩ | exact⟨l,.inr ⟨q,rfl,hq⟩,hl⟩ | exact⟨[3],.inr ⟨t,rfl,ht⟩,hN,fun z hz=>w0 z (by simp at hz;omega) (by simp at hz;omega)⟩
 ·intro x hx
  obtain⟨i,hi⟩:=List.getElem?_of_mem hx
  by_cases hn:NotIn x r
  ·exact hn
  ·rcases startC_in hi hn with ⟨_,rfl⟩ | ⟨_,rfl⟩
   ·exact .sl (Ne.symm n1)
   ·exact .sl (Ne.symm n2)
 ·intro i j x y p hij h1 h2 hp
  by_cases hn:NotIn y p
  ·exact hn
  ·rcases startC_in h1 hp with ⟨_,rfl⟩ | ⟨_,rfl⟩<;>rcases startC_in h2 hn with ⟨_,rfl⟩ | ⟨_,rfl⟩
   ·omega
   ·by_cases e:p=t
    ·subst e
     exact absurd (.sl (Ne.symm n3)) hp
    ·exact .sl e
   ·by_cases e:p=q
    ·subst e
     exact absurd (.sl n3) hp
    ·exact .sl e
   ·omega
theorem wl1:IntKind.i64.wrap 1=1:=by decide
theorem wl2:IntKind.i64.wrap 2=2:=by decide
theorem wl3:IntKind.i64.wrap 3=3:=by decide
theorem wl4:IntKind.i64.wrap 4=4:=by decide
theorem wl5000:IntKind.i64.wrap 5000=5000:=by decide
theorem wl5001:IntKind.i64.wrap 5001=5001:=by decide
theorem wl5002:IntKind.i64.wrap 5002=5002:=by decide
theorem wl5003:IntKind.i64.wrap 5003=5003:=by decide
end
end Go.Proofs.YtjdajobflgkebaaGreatDoor.Sim
