/- Texts of this proof, put together and made small by a program: part 14. -/
import Derived.Test.YtjdajobflgkebaaGreatDoorK13
set_option linter.all false
set_option maxRecDepth 100000
set_option maxHeartbeats 40000000
namespace Go.Proofs.YtjdajobflgkebaaGreatDoor.Sim
open Go
section
attribute [local irreducible] kO uW kR wQ
theorem worldNewE {H:qE}(mo:Int)(wmo:W64 mo){x:AV}{l:List (Rw xM)}(hx:RdX Rw.cs 3 H x l)(hl:l.length≤1000):∃ (ds:List AV)(Z:qE),Sound Tryz.prog 51 [mo,x] H (.agg ds) Z∧Ext H Z∧Vd Z H.length (KW 2 2 1 1100) ds:=by
 suffices h:∃ w Z,Sound Tryz.prog 51 [mo,x] H w Z∧∃ ds,w=.agg ds∧Ext H Z∧Vd Z H.length (KW 2 2 1 1100) ds by
  obtain⟨w,Z,h1,ds,rfl,h2⟩:=h
  exact⟨ds,Z,h1,h2⟩
 refine zR 80 [.cell 4 38] Tryz.func51 ?_
 obtain⟨H1,hH1⟩:∃ H1:qE,H1=H++[{cs:=zW}]:=⟨_,rfl⟩
 have e1:Ext H H1:=hH1▸Ext.more H _
 have z1:H1[H.length]?=some {cs:=zW}:=by rw[hH1];exact yA _ _
 have o1:=hx.one
 obtain⟨q,Z1,a1,e2,b1⟩:=gateNewW 9 (by unfold W64;omega) (hx.ext e1) (by omega)
 have bd:qT Tryz.prog 38 [(3,.agg [(9:Int),(1:Int),.sc (.slice none 0 0),.sc (.slice none 0 0),.sl q 0 l.length 3,.sc (.slice none 0 0),(0:Int)]),(6,.sc (.int .i64 10000)),(8,.sl Z1.length 0 1 1)]=some (.agg (startC (.sl q 0 l.length 3) (.sl Z1.length 0 1 1))):=by simp[startC,qT,yR,yT,qW,yF,yI,xJ,xU,xN,yO,Tryz.underlying38,zero38,qR,qO,tyOk26,cells26,tyOk27,cells27,tyOk28,cells28,tyOk34,cells34,tyOk35,cells35,tyOk36,cells36]
 obtain⟨cs,hcs⟩:∃ cs,cs=startC (.sl q 0 l.length 3) (.sl Z1.length 0 1 1):=⟨_,rfl⟩
 have lcs:cs.length=20:=by rw[hcs];rfl
 have ocs:cs.all AV.one=true:=by rw[hcs];rfl
 have wr:=fun H r=>yX wX lcs ocs H r
 obtain⟨r,hr⟩:∃ r,r=Z1.length+1:=⟨_,rfl⟩
 obtain⟨Y,hY⟩:∃ Y:qE,Y=List.set (Z1++[{cs:=ints .i64 [3]}]++[{cs:=zW}]) (Z1.length+1) {cs:=cs}:=⟨_,rfl⟩
 have eY:Ext Z1 Y:=by rw[hY];exact(((Ext.more Z1 _).trans (Ext.more _ _)).set (Nat.le_succ _) _)
 have yr:Y[r]?=some {cs:=cs}:=by rw[hY,hr];exact List.getElem?_set_self (by simp)
 have yt:Y[Z1.length]?=some {cs:=rows intF [3]}:=by rw[hY,List.getElem?_set_ne (by omega),List.append_assoc];exact yD Z1 _
 have qlt:=qP b1.1
 have qge:=b1.2
 have w0:Wd Y r (KL (l.length+10)) cs:=by rw[hcs] at yr ⊢;exact world0 yr (eY.at b1.1) yt (by omega) (by omega) (by omega) (by omega) (by omega)
 have eH:=e1.trans (e2.trans eY)
 rw[←hcs] at bd
 simp only[↓zP,zQ,↓qC,zw,wW,←hH1]
 refine qF rfl a1 ?_
 simp only[↓zP,zQ,zw,↓qC,wW,bd,wr]
 try rw[←hr] at hY ⊢
 rw[←hY]
 have S0:=WS.start w0
 obtain⟨la1,hla1⟩:∃ l:List (Rw kClient),l=[]:=⟨_,rfl⟩
 obtain⟨xa1,hxa1⟩:∃ x:AV,x=.sc (.slice none 0 0):=⟨_,rfl⟩
 have hn1:la1.length=0:=by rw[hla1];rfl
 have hc1:cs[1]?=some xa1:=by rw[hcs,hxa1];rfl
 have ho1:OwnX Rw.cs 23 Y xa1 la1:=.inl ⟨hxa1,hla1⟩
 have hp1:la1.length≤l.length+10:=by omega
 have hq1:=ho1.one
 obtain⟨la2,hla2⟩:∃ l:List Int,l=[]:=⟨_,rfl⟩
 obtain⟨xa2,hxa2⟩:∃ x:AV,x=.sc (.slice none 0 0):=⟨_,rfl⟩
 have hn2:la2.length=0:=by rw[hla2];rfl
 have hc2:cs[2]?=some xa2:=by rw[hcs,hxa2];rfl
 have ho2:OwnX intF 1 Y xa2 la2:=.inl ⟨hxa2,hla2⟩
 have hp2:la2.length≤l.length+10:=by omega
 have hq2:=ho2.one
 have hw2:∀ z,z∈la2→W64 z:=by rw[hla2];exact xR
 refine w_times 3 ?_
 try simp only[↓zP,zQ,lp_s,↓qC,Int.reduceLT]
 refine zD [(1,0),(1,6)] ?_
 have sr1:=S0.w.at_
 obtain⟨r3,Z4,c5,e6⟩:=clientNewE (H:=Y) (1) (9) (mo) ⟨by decide,by decide⟩ ⟨by decide,by decide⟩ wmo
 try simp -implicitDefEqProofs only[↓zP,zQ,Int.reduceAdd,wl1,sr1,(qL hc1)]
 refine qF rfl c5 ?_
 have hl8:r3.cs.length=23:=r3.cs_len
 have S9:=S0.ext e6
 obtain⟨b10,e11,nn12⟩:=S9.alloc (i:=Z4.length) (by simp) {cs:=r3.cs}
 have S14:=(S9.ext e11).upL (M:=l.length+11) (by omega)
 obtain⟨x17,G18,Z19,cs20,ap21,o22,gr23,wr24,hx25,hl26,C27⟩:=S14.w.apC (k:=1) apS27 apN27 xI rfl hc1 ((ho1.ext e6).ext e11) (xL xI (a:=r3) b10.1) (by simp only[List.length_cons,List.length_nil];omega) (by simp only[List.length_append,List.length_cons,List.length_nil];omega)
 obtain⟨l28,e29⟩:∃ l,l=la1++[r3]:=⟨_,rfl⟩
 rw[←e29] at hl26
 have pl30:l28.length=la1.length+1:=by rw[e29,List.length_append];rfl
 try simp -implicitDefEqProofs only[↓zP,zQ,hl8,Int.reduceAdd,wl1,↓qC,Int.reduceLT,Rw.ones,ap21,gr23,wr24]
 have S37:=S14.chg C27
 refine⟨zX (qI (qS _ _ _ _ rfl rfl ((S9.w.at_).trans (S0.w.at_).symm)) (qH)),?_⟩
 have sr38:=S37.w.at_
 have hx39:=C27.cc _ _ (by decide) hc2
 obtain⟨b41,e42,nn43⟩:=S37.alloc (i:=Z19.length) (by simp) {cs:=ints .i64 [1]}
 have S45:=(S37.ext e42).upL (M:=l.length+12) (by omega)
 obtain⟨x50,G51,Z52,cs53,ap54,o55,gr56,wr57,hx58,hl59,C60⟩:=S45.w.apC (k:=2) uV uU vD rfl hx39 ((((ho2.ext e6).ext e11).chg C27 (by decide) hc2).ext e42) (xX (L:=([1]:List Int)) (n:=1) b41.1 rfl) (by simp only[List.length_cons,List.length_nil];omega) (⟨by simp only[List.length_append,List.length_cons,List.length_nil];omega,xF hw2 (xA (show W64 (1) from ⟨by decide,by decide⟩) xR)⟩)
 obtain⟨l61,e62⟩:∃ l,l=la2++([1]:List Int):=⟨_,rfl⟩
 rw[←e62] at hl59
 have pl63:l61.length=la2.length+1:=by rw[e62,List.length_append];rfl
 have pw64:∀ z,z∈l61→W64 z:=by rw[e62];exact xF hw2 (xA (show W64 (1) from ⟨by decide,by decide⟩) xR)
 try simp only[zQ,sr38,(qL hx39),ap54,gr56,wr57]
 refine zD [(1,0),(1,6)] ?_
 have S71:=S45.chg C60
 have sr72:=S71.w.at_
 have hx73:=C60.cc _ _ (by decide) hx25
 obtain⟨r75,Z76,c77,e78⟩:=clientNewE (H:=Z52) (2) (9) (mo) ⟨by decide,by decide⟩ ⟨by decide,by decide⟩ wmo
 try simp -implicitDefEqProofs only[↓zP,zQ,Int.reduceAdd,wl2,sr72,(qL hx73)]
 refine qF rfl c77 ?_
 have hl80:r75.cs.length=23:=r75.cs_len
 have S81:=S71.ext e78
 obtain⟨b82,e83,nn84⟩:=S81.alloc (i:=Z76.length) (by simp) {cs:=r75.cs}
 have S86:=(S81.ext e83).upL (M:=l.length+13) (by omega)
 obtain⟨x91,G92,Z93,cs94,ap95,o96,gr97,wr98,hx99,hl100,C101⟩:=S86.w.apC (k:=1) apS27 apN27 xI rfl hx73 ((((hl26.ext e42).chg C60 (by decide) hx25).ext e78).ext e83) (xL xI (a:=r75) b82.1) (by simp only[List.length_cons,List.length_nil];omega) (by simp only[List.length_append,List.length_cons,List.length_nil];omega)
 obtain⟨l102,e103⟩:∃ l,l=l28++[r75]:=⟨_,rfl⟩
 rw[←e103] at hl100
 have pl104:l102.length=l28.length+1:=by rw[e103,List.length_append];rfl
 try simp -implicitDefEqProofs only[↓zP,zQ,hl80,Int.reduceAdd,wl2,↓qC,Int.lt_irrefl,Rw.ones,ap95,gr97,wr98]
 have S111:=S86.chg C101
 refine⟨zX (qI (qS _ _ _ _ rfl rfl ((S81.w.at_).trans (S71.w.at_).symm)) (qH)),?_⟩
 have sr112:=S111.w.at_
 have hx113:=C101.cc _ _ (by decide) hx58
 obtain⟨b115,e116,nn117⟩:=S111.alloc (i:=Z93.length) (by simp) {cs:=ints .i64 [2]}
 have S119:=(S111.ext e116).upL (M:=l.length+14) (by omega)
 obtain⟨x124,G125,Z126,cs127,ap128,o129,gr130,wr131,hx132,hl133,C134⟩:=S119.w.apC (k:=2) uV uU vD rfl hx113 ((((hl59.ext e78).ext e83).chg C101 (by decide) hx58).ext e116) (xX (L:=([2]:List Int)) (n:=1) b115.1 rfl) (by simp only[List.length_cons,List.length_nil];omega) (⟨by simp only[List.length_append,List.length_cons,List.length_nil];omega,xF pw64 (xA (show W64 (2) from ⟨by decide,by decide⟩) xR)⟩)
 obtain⟨l135,e136⟩:∃ l,l=l61++([2]:List Int):=⟨_,rfl⟩
 rw[←e136] at hl133
 have pl137:l135.length=l61.length+1:=by rw[e136,List.length_append];rfl
 have pw138:∀ z,z∈l135→W64 z:=by rw[e136];exact xF pw64 (xA (show W64 (2) from ⟨by decide,by decide⟩) xR)
 have S145:=S119.chg C134
 obtain⟨b146,e147,nn148⟩:=S145.alloc (i:=Z126.length) (by simp) {cs:=ints .i64 [1,2,3,9]}
 try simp only[zQ,sr112,(qL hx113),ap128,gr130,wr131]
 refine w_times 5 ?_
 try simp only[↓zP,zQ,lp_s,↓qC,Int.reduceLT]
 refine zD [(1,0),(1,8),(6,0)] ?_
 have S149:=S145.ext e147
 have sr150:=S149.w.at_
 obtain⟨x151,l152,hx153,hl154,pl155⟩:=S149.w.gO 13 rfl
 obtain⟨pl156,pw157⟩:=pl155
 have o158:=hl154.one
 obtain⟨x161,l162,p163,bl164,rt165⟩:=S149.ar rfl
 have hx166:=p163.2.1
 obtain⟨v167,l168,x169,Z170,c171,p172,o173,g174⟩:=certG p163 bl164 (1)
 try simp -implicitDefEqProofs only[↓zP,zQ,Nat.reduceLT,qD,Int.reduceLT,(b146.1),Nat.reduceAdd,sr150,(qL hx153)]
 refine qF rfl c171 ?_
 have G178:=g174.1
 have bl179:=G178.2.1 bl164
 have rt180:=G178.2.2 rt165
 obtain⟨cs177,C175,p176⟩:=S149.w.arC rfl p163 p172 o173 ⟨bl179,rt180⟩
 have hx181:=p176.2.1
 have w182:W64 v167:=by have h:=g174.2;unfold W64;omega
 have S183:=S149.chg C175
 obtain⟨b184,e185,nn186⟩:=S183.alloc (i:=Z170.length) (by simp) {cs:=ints .i64 [v167]}
 have S188:=(S183.ext e185).upL (M:=l.length+15) (by omega)
 have hx190:=C175.cc _ _ (by decide) hx153
 obtain⟨x192,G193,Z194,cs195,ap196,o197,gr198,wr199,hx200,hl201,C202⟩:=S188.w.apC (k:=13) uV uU vD rfl hx190 ((hl154.chg C175 (by decide) hx153).ext e185) (xX (L:=([v167]:List Int)) (n:=1) b184.1 rfl) (by simp only[List.length_cons,List.length_nil];omega) (⟨by simp only[List.length_append,List.length_cons,List.length_nil];omega,xF pw157 (xA (show W64 (v167) from w182) xR)⟩)
 obtain⟨l203,e204⟩:∃ l,l=l152++([v167]:List Int):=⟨_,rfl⟩
 rw[←e204] at hl201
 have pl205:l203.length=l152.length+1:=by rw[e204,List.length_append];rfl
 have pw206:∀ z,z∈l203→W64 z:=by rw[e204];exact xF pw157 (xA (show W64 (v167) from w182) xR)
 try simp -implicitDefEqProofs only[↓zP,zQ,Int.reduceAdd,wl1,↓qC,Int.reduceLT,ap196,gr198,wr199]
 have S213:=S188.chg C202
 refine⟨zX (qI (xS _ _ rfl rfl rfl (S149.w.at_) (S183.w.at_) hx153 hx190) (zX (qH))),?_⟩
 refine zD [(1,0),(1,8),(6,0)] ?_
 have sr214:=S213.w.at_
 have b218:=((b146.only C175.o).ext e185).only C202.o
 have p221:=PlN.chg (PlN.extW p176 e185) C202 (by decide)
 obtain⟨v222,l223,x224,Z225,c226,p227,o228,g229⟩:=certG p221 bl179 (2)
 try simp -implicitDefEqProofs only[↓zP,zQ,Nat.reduceLT,Int.reduceLE,Int.reduceLT,Int.reduceToNat,(b218.1),Nat.reduceAdd,sr214,(qL hx200)]
 refine qF rfl c226 ?_
 have G233:=g229.1
 have bl234:=G233.2.1 bl179
 have rt235:=G233.2.2 rt180
 obtain⟨cs232,C230,p231⟩:=S213.w.arC rfl p221 p227 o228 ⟨bl234,rt235⟩
 have hx236:=p231.2.1
 have w237:W64 v222:=by have h:=g229.2;unfold W64;omega
 have S238:=S213.chg C230
 obtain⟨b239,e240,nn241⟩:=S238.alloc (i:=Z225.length) (by simp) {cs:=ints .i64 [v222]}
 have S243:=(S238.ext e240).upL (M:=l.length+16) (by omega)
 have hx245:=C230.cc _ _ (by decide) hx200
 obtain⟨x247,G248,Z249,cs250,ap251,o252,gr253,wr254,hx255,hl256,C257⟩:=S243.w.apC (k:=13) uV uU vD rfl hx245 ((hl201.chg C230 (by decide) hx200).ext e240) (xX (L:=([v222]:List Int)) (n:=1) b239.1 rfl) (by simp only[List.length_cons,List.length_nil];omega) (⟨by simp only[List.length_append,List.length_cons,List.length_nil];omega,xF pw206 (xA (show W64 (v222) from w237) xR)⟩)
 obtain⟨l258,e259⟩:∃ l,l=l203++([v222]:List Int):=⟨_,rfl⟩
 rw[←e259] at hl256
 have pl260:l258.length=l203.length+1:=by rw[e259,List.length_append];rfl
 have pw261:∀ z,z∈l258→W64 z:=by rw[e259];exact xF pw206 (xA (show W64 (v222) from w237) xR)
 try simp -implicitDefEqProofs only[↓zP,zQ,Int.reduceAdd,wl2,↓qC,Int.reduceLT,ap251,gr253,wr254]
 have S268:=S243.chg C257
 refine⟨zX (qI (xS _ _ rfl rfl rfl (S213.w.at_) (S238.w.at_) hx200 hx245) (zX (qH))),?_⟩
 refine zD [(1,0),(1,8),(6,0)] ?_
 have sr269:=S268.w.at_
 have b273:=((b218.only C230.o).ext e240).only C257.o
 have p276:=PlN.chg (PlN.extW p231 e240) C257 (by decide)
 obtain⟨v277,l278,x279,Z280,c281,p282,o283,g284⟩:=certG p276 bl234 (3)
 try simp -implicitDefEqProofs only[↓zP,zQ,Nat.reduceLT,Int.reduceLE,Int.reduceLT,Int.reduceToNat,(b273.1),Nat.reduceAdd,sr269,(qL hx255)]
 refine qF rfl c281 ?_
 have G288:=g284.1
 have bl289:=G288.2.1 bl234
 have rt290:=G288.2.2 rt235
 obtain⟨cs287,C285,p286⟩:=S268.w.arC rfl p276 p282 o283 ⟨bl289,rt290⟩
 have hx291:=p286.2.1
 have w292:W64 v277:=by have h:=g284.2;unfold W64;omega
 have S293:=S268.chg C285
 obtain⟨b294,e295,nn296⟩:=S293.alloc (i:=Z280.length) (by simp) {cs:=ints .i64 [v277]}
 have S298:=(S293.ext e295).upL (M:=l.length+17) (by omega)
 have hx300:=C285.cc _ _ (by decide) hx255
 obtain⟨x302,G303,Z304,cs305,ap306,o307,gr308,wr309,hx310,hl311,C312⟩:=S298.w.apC (k:=13) uV uU vD rfl hx300 ((hl256.chg C285 (by decide) hx255).ext e295) (xX (L:=([v277]:List Int)) (n:=1) b294.1 rfl) (by simp only[List.length_cons,List.length_nil];omega) (⟨by simp only[List.length_append,List.length_cons,List.length_nil];omega,xF pw261 (xA (show W64 (v277) from w292) xR)⟩)
 obtain⟨l313,e314⟩:∃ l,l=l258++([v277]:List Int):=⟨_,rfl⟩
 rw[←e314] at hl311
 have pl315:l313.length=l258.length+1:=by rw[e314,List.length_append];rfl
 have pw316:∀ z,z∈l313→W64 z:=by rw[e314];exact xF pw261 (xA (show W64 (v277) from w292) xR)
 try simp -implicitDefEqProofs only[↓zP,zQ,Int.reduceAdd,wl3,↓qC,Int.reduceLT,ap306,gr308,wr309]
 have S323:=S298.chg C312
 refine⟨zX (qI (xS _ _ rfl rfl rfl (S268.w.at_) (S293.w.at_) hx255 hx300) (zX (qH))),?_⟩
 refine zD [(1,0),(1,8),(6,0)] ?_
 have sr324:=S323.w.at_
 have p331:=PlN.chg (PlN.extW p286 e295) C312 (by decide)
 obtain⟨v332,l333,x334,Z335,c336,p337,o338,g339⟩:=certG p331 bl289 (9)
 try simp -implicitDefEqProofs only[↓zP,zQ,Nat.reduceLT,Int.reduceLE,Int.reduceLT,Int.reduceToNat,((((b273.only C285.o).ext e295).only C312.o).1),Nat.reduceAdd,sr324,(qL hx310)]
 refine qF rfl c336 ?_
 have G343:=g339.1
 have bl344:=G343.2.1 bl289
 have rt345:=G343.2.2 rt290
 obtain⟨cs342,C340,p341⟩:=S323.w.arC rfl p331 p337 o338 ⟨bl344,rt345⟩
 have hx346:=p341.2.1
 have w347:W64 v332:=by have h:=g339.2;unfold W64;omega
 have S348:=S323.chg C340
 obtain⟨b349,e350,nn351⟩:=S348.alloc (i:=Z335.length) (by simp) {cs:=ints .i64 [v332]}
 have S353:=(S348.ext e350).upL (M:=l.length+18) (by omega)
 have hx355:=C340.cc _ _ (by decide) hx310
 obtain⟨x357,G358,Z359,cs360,ap361,o362,gr363,wr364,hx365,hl366,C367⟩:=S353.w.apC (k:=13) uV uU vD rfl hx355 ((hl311.chg C340 (by decide) hx310).ext e350) (xX (L:=([v332]:List Int)) (n:=1) b349.1 rfl) (by simp only[List.length_cons,List.length_nil];omega) (⟨by simp only[List.length_append,List.length_cons,List.length_nil];omega,xF pw316 (xA (show W64 (v332) from w347) xR)⟩)
 obtain⟨l368,e369⟩:∃ l,l=l313++([v332]:List Int):=⟨_,rfl⟩
 rw[←e369] at hl366
 have pl370:l368.length=l313.length+1:=by rw[e369,List.length_append];rfl
 have pw371:∀ z,z∈l368→W64 z:=by rw[e369];exact xF pw316 (xA (show W64 (v332) from w347) xR)
 try simp -implicitDefEqProofs only[↓zP,zQ,Int.reduceAdd,wl4,↓qC,Int.lt_irrefl,ap361,gr363,wr364]
 have S378:=S353.chg C367
 refine⟨zX (qI (xS _ _ rfl rfl rfl (S323.w.at_) (S348.w.at_) hx310 hx355) (zX (qH))),?_⟩
 refine zD [(1,0),(1,4)] ?_
 have sr379:=S378.w.at_
 have p382:=PlN.chg (PlN.extW p341 e350) C367 (by decide)
 obtain⟨v383,l384,x385,Z386,c387,p388,o389,g390⟩:=longG p382 bl344 (3)
 try simp only[↓zP,zQ,sr379,(qL hx365)]
 refine qF rfl c387 ?_
 have G394:=g390.1
 have bl395:=G394.2.1 bl344
 have rt396:=G394.2.2 rt345
 obtain⟨cs393,C391,p392⟩:=S378.w.arC rfl p382 p388 o389 ⟨bl395,rt396⟩
 have hx397:=p392.2.1
 have w398:W64 v383:=by have h:=g390.2;unfold W64;omega
 have S399:=S378.chg C391
 obtain⟨b400,e401,nn402⟩:=S399.alloc (i:=Z386.length) (by simp) {cs:=ints .i64 [v383]}
 have S404:=(S399.ext e401).upL (M:=l.length+19) (by omega)
 have hx406:=C391.cc _ _ (by decide) hx365
 obtain⟨x408,G409,Z410,cs411,ap412,o413,gr414,wr415,hx416,hl417,C418⟩:=S404.w.apC (k:=13) uV uU vD rfl hx406 ((hl366.chg C391 (by decide) hx365).ext e401) (xX (L:=([v383]:List Int)) (n:=1) b400.1 rfl) (by simp only[List.length_cons,List.length_nil];omega) (⟨by simp only[List.length_append,List.length_cons,List.length_nil];omega,xF pw371 (xA (show W64 (v383) from w398) xR)⟩)
 obtain⟨l419,e420⟩:∃ l,l=l368++([v383]:List Int):=⟨_,rfl⟩
 rw[←e420] at hl417
 have pl421:l419.length=l368.length+1:=by rw[e420,List.length_append];rfl
 have pw422:∀ z,z∈l419→W64 z:=by rw[e420];exact xF pw371 (xA (show W64 (v383) from w398) xR)
 try simp only[↓zP,zQ,↓qC,ap412,gr414,wr415]
 have S429:=S404.chg C418
 refine⟨zX (qI (xS _ _ rfl rfl rfl (S378.w.at_) (S399.w.at_) hx365 hx406) (qH)),?_⟩
 refine zD [(1,0),(1,4)] ?_
 have sr430:=S429.w.at_
 have p433:=PlN.chg (PlN.extW p392 e401) C418 (by decide)
 obtain⟨v434,l435,x436,Z437,c438,p439,o440,g441⟩:=pskG p433 bl395 (3) (9)
 try simp only[↓zP,zQ,sr430,(qL hx416)]
 refine qF rfl c438 ?_
 have G445:=g441.1
 have bl446:=G445.2.1 bl395
 have rt447:=G445.2.2 rt396
 obtain⟨cs444,C442,p443⟩:=S429.w.arC rfl p433 p439 o440 ⟨bl446,rt447⟩
 have hx448:=p443.2.1
 have w449:W64 v434:=by have h:=g441.2;unfold W64;omega
 have S450:=S429.chg C442
 obtain⟨b451,e452,nn453⟩:=S450.alloc (i:=Z437.length) (by simp) {cs:=ints .i64 [v434]}
 have S455:=(S450.ext e452).upL (M:=l.length+20) (by omega)
 have hx457:=C442.cc _ _ (by decide) hx416
 obtain⟨x459,G460,Z461,cs462,ap463,o464,gr465,wr466,hx467,hl468,C469⟩:=S455.w.apC (k:=13) uV uU vD rfl hx457 ((hl417.chg C442 (by decide) hx416).ext e452) (xX (L:=([v434]:List Int)) (n:=1) b451.1 rfl) (by simp only[List.length_cons,List.length_nil];omega) (⟨by simp only[List.length_append,List.length_cons,List.length_nil];omega,xF pw422 (xA (show W64 (v434) from w449) xR)⟩)
 obtain⟨l470,e471⟩:∃ l,l=l419++([v434]:List Int):=⟨_,rfl⟩
 rw[←e471] at hl468
 have pl472:l470.length=l419.length+1:=by rw[e471,List.length_append];rfl
 have pw473:∀ z,z∈l470→W64 z:=by rw[e471];exact xF pw422 (xA (show W64 (v434) from w449) xR)
 try simp only[↓zP,zQ,↓qC,ap463,gr465,wr466]
 have S480:=S455.chg C469
 refine⟨zX (qI (xS _ _ rfl rfl rfl (S429.w.at_) (S450.w.at_) hx416 hx457) (qH)),?_⟩
 refine w_times 5 ?_
 try simp only[↓zP,zQ,lp_s,↓qC,Int.reduceLT]
 refine zD [(1,0),(1,6)] ?_
 have sr481:=S480.w.at_
 have p484:=PlN.chg (PlN.extW p443 e452) C469 (by decide)
 obtain⟨v485,l486,x487,Z488,c489,p490,o491,g492⟩:=xK p484 bl446 (5000)
 try simp -implicitDefEqProofs only[↓zP,zQ,Int.reduceAdd,wl5000,sr481,(qL hx467)]
 refine qF rfl c489 ?_
 have G496:=g492.1
 have bl497:=G496.2.1 bl446
 have rt498:=G496.2.2 rt447
 obtain⟨cs495,C493,p494⟩:=S480.w.arC rfl p484 p490 o491 ⟨bl497,rt498⟩
 have hx499:=p494.2.1
 have w500:W64 v485:=by have h:=g492.2;unfold W64;omega
 have S501:=S480.chg C493
 obtain⟨b502,e503,nn504⟩:=S501.alloc (i:=Z488.length) (by simp) {cs:=ints .i64 [v485]}
 have S506:=(S501.ext e503).upL (M:=l.length+21) (by omega)
 have hx508:=C493.cc _ _ (by decide) hx467
 obtain⟨x510,G511,Z512,cs513,ap514,o515,gr516,wr517,hx518,hl519,C520⟩:=S506.w.apC (k:=13) uV uU vD rfl hx508 ((hl468.chg C493 (by decide) hx467).ext e503) (xX (L:=([v485]:List Int)) (n:=1) b502.1 rfl) (by simp only[List.length_cons,List.length_nil];omega) (⟨by simp only[List.length_append,List.length_cons,List.length_nil];omega,xF pw473 (xA (show W64 (v485) from w500) xR)⟩)
 obtain⟨l521,e522⟩:∃ l,l=l470++([v485]:List Int):=⟨_,rfl⟩
 rw[←e522] at hl519
 have pl523:l521.length=l470.length+1:=by rw[e522,List.length_append];rfl
 have pw524:∀ z,z∈l521→W64 z:=by rw[e522];exact xF pw473 (xA (show W64 (v485) from w500) xR)
 try simp -implicitDefEqProofs only[↓zP,zQ,Int.reduceAdd,wl1,↓qC,Int.reduceLT,ap514,gr516,wr517]
 have S531:=S506.chg C520
 refine⟨zX (qI (xS _ _ rfl rfl rfl (S480.w.at_) (S501.w.at_) hx467 hx508) (qH)),?_⟩
 refine zD [(1,0),(1,6)] ?_
 have sr532:=S531.w.at_
 have p535:=PlN.chg (PlN.extW p494 e503) C520 (by decide)
 obtain⟨v536,l537,x538,Z539,c540,p541,o542,g543⟩:=xK p535 bl497 (5001)
 try simp -implicitDefEqProofs only[↓zP,zQ,Int.reduceAdd,wl5001,sr532,(qL hx518)]
 refine qF rfl c540 ?_
 have G547:=g543.1
 have bl548:=G547.2.1 bl497
 have rt549:=G547.2.2 rt498
 obtain⟨cs546,C544,p545⟩:=S531.w.arC rfl p535 p541 o542 ⟨bl548,rt549⟩
 have hx550:=p545.2.1
 have w551:W64 v536:=by have h:=g543.2;unfold W64;omega
 have S552:=S531.chg C544
 obtain⟨b553,e554,nn555⟩:=S552.alloc (i:=Z539.length) (by simp) {cs:=ints .i64 [v536]}
 have S557:=(S552.ext e554).upL (M:=l.length+22) (by omega)
 have hx559:=C544.cc _ _ (by decide) hx518
 obtain⟨x561,G562,Z563,cs564,ap565,o566,gr567,wr568,hx569,hl570,C571⟩:=S557.w.apC (k:=13) uV uU vD rfl hx559 ((hl519.chg C544 (by decide) hx518).ext e554) (xX (L:=([v536]:List Int)) (n:=1) b553.1 rfl) (by simp only[List.length_cons,List.length_nil];omega) (⟨by simp only[List.length_append,List.length_cons,List.length_nil];omega,xF pw524 (xA (show W64 (v536) from w551) xR)⟩)
 obtain⟨l572,e573⟩:∃ l,l=l521++([v536]:List Int):=⟨_,rfl⟩
 rw[←e573] at hl570
 have pl574:l572.length=l521.length+1:=by rw[e573,List.length_append];rfl
 have pw575:∀ z,z∈l572→W64 z:=by rw[e573];exact xF pw524 (xA (show W64 (v536) from w551) xR)
 try simp -implicitDefEqProofs only[↓zP,zQ,Int.reduceAdd,wl2,↓qC,Int.reduceLT,ap565,gr567,wr568]
 have S582:=S557.chg C571
 refine⟨zX (qI (xS _ _ rfl rfl rfl (S531.w.at_) (S552.w.at_) hx518 hx559) (qH)),?_⟩
 refine zD [(1,0),(1,6)] ?_
 have sr583:=S582.w.at_
 have p586:=PlN.chg (PlN.extW p545 e554) C571 (by decide)
 obtain⟨v587,l588,x589,Z590,c591,p592,o593,g594⟩:=xK p586 bl548 (5002)
 try simp -implicitDefEqProofs only[↓zP,zQ,Int.reduceAdd,wl5002,sr583,(qL hx569)]
 refine qF rfl c591 ?_
 have G598:=g594.1
 have bl599:=G598.2.1 bl548
 have rt600:=G598.2.2 rt549
 obtain⟨cs597,C595,p596⟩:=S582.w.arC rfl p586 p592 o593 ⟨bl599,rt600⟩
 have hx601:=p596.2.1
 have w602:W64 v587:=by have h:=g594.2;unfold W64;omega
 have S603:=S582.chg C595
 obtain⟨b604,e605,nn606⟩:=S603.alloc (i:=Z590.length) (by simp) {cs:=ints .i64 [v587]}
 have S608:=(S603.ext e605).upL (M:=l.length+23) (by omega)
 have hx610:=C595.cc _ _ (by decide) hx569
 obtain⟨x612,G613,Z614,cs615,ap616,o617,gr618,wr619,hx620,hl621,C622⟩:=S608.w.apC (k:=13) uV uU vD rfl hx610 ((hl570.chg C595 (by decide) hx569).ext e605) (xX (L:=([v587]:List Int)) (n:=1) b604.1 rfl) (by simp only[List.length_cons,List.length_nil];omega) (⟨by simp only[List.length_append,List.length_cons,List.length_nil];omega,xF pw575 (xA (show W64 (v587) from w602) xR)⟩)
 obtain⟨l623,e624⟩:∃ l,l=l572++([v587]:List Int):=⟨_,rfl⟩
 rw[←e624] at hl621
 have pl625:l623.length=l572.length+1:=by rw[e624,List.length_append];rfl
 have pw626:∀ z,z∈l623→W64 z:=by rw[e624];exact xF pw575 (xA (show W64 (v587) from w602) xR)
 try simp -implicitDefEqProofs only[↓zP,zQ,Int.reduceAdd,wl3,↓qC,Int.reduceLT,ap616,gr618,wr619]
 have S633:=S608.chg C622
 refine⟨zX (qI (xS _ _ rfl rfl rfl (S582.w.at_) (S603.w.at_) hx569 hx610) (qH)),?_⟩
 refine zD [(1,0),(1,6)] ?_
 have sr634:=S633.w.at_
 have p637:=PlN.chg (PlN.extW p596 e605) C622 (by decide)
 obtain⟨v638,l639,x640,Z641,c642,p643,o644,g645⟩:=xK p637 bl599 (5003)
 try simp -implicitDefEqProofs only[↓zP,zQ,Int.reduceAdd,wl5003,sr634,(qL hx620)]
 refine qF rfl c642 ?_
 have G649:=g645.1
 obtain⟨cs648,C646,p647⟩:=S633.w.arC rfl p637 p643 o644 ⟨(G649.2.1 bl599),(G649.2.2 rt600)⟩
 have hx652:=p647.2.1
 have w653:W64 v638:=by have h:=g645.2;unfold W64;omega
 have S654:=S633.chg C646
 obtain⟨b655,e656,nn657⟩:=S654.alloc (i:=Z641.length) (by simp) {cs:=ints .i64 [v638]}
 have S659:=(S654.ext e656).upL (M:=l.length+24) (by omega)
 have hx661:=C646.cc _ _ (by decide) hx620
 obtain⟨x663,G664,Z665,cs666,ap667,o668,gr669,wr670,hx671,hl672,C673⟩:=S659.w.apC (k:=13) uV uU vD rfl hx661 ((hl621.chg C646 (by decide) hx620).ext e656) (xX (L:=([v638]:List Int)) (n:=1) b655.1 rfl) (by simp only[List.length_cons,List.length_nil];omega) (⟨by simp only[List.length_append,List.length_cons,List.length_nil];omega,xF pw626 (xA (show W64 (v638) from w653) xR)⟩)
 obtain⟨l674,e675⟩:∃ l,l=l623++([v638]:List Int):=⟨_,rfl⟩
 rw[←e675] at hl672
 have pl676:l674.length=l623.length+1:=by rw[e675,List.length_append];rfl
 have pw677:∀ z,z∈l674→W64 z:=by rw[e675];exact xF pw626 (xA (show W64 (v638) from w653) xR)
 try simp -implicitDefEqProofs only[↓zP,zQ,Int.reduceAdd,wl4,↓qC,Int.lt_irrefl,ap667,gr669,wr670]
 have S684:=S659.chg C673
 refine⟨zX (qI (xS _ _ rfl rfl rfl (S633.w.at_) (S654.w.at_) hx620 hx661) (qH)),?_⟩
 have hx685:=C134.cc _ _ (by decide) hx99
 have hx686:=C175.cc _ _ (by decide) hx685
 have hx687:=C202.cc _ _ (by decide) hx686
 have hx688:=C230.cc _ _ (by decide) hx687
 have hx689:=C257.cc _ _ (by decide) hx688
 have hx690:=C285.cc _ _ (by decide) hx689
 have hx691:=C312.cc _ _ (by decide) hx690
 have hx692:=C340.cc _ _ (by decide) hx691
 have hx693:=C367.cc _ _ (by decide) hx692
 have hx694:=C391.cc _ _ (by decide) hx693
 have hx695:=C418.cc _ _ (by decide) hx694
 have hx696:=C442.cc _ _ (by decide) hx695
 have hx697:=C469.cc _ _ (by decide) hx696
 have hx698:=C493.cc _ _ (by decide) hx697
 have hx699:=C520.cc _ _ (by decide) hx698
 have hx700:=C544.cc _ _ (by decide) hx699
 have hx701:=C571.cc _ _ (by decide) hx700
 have hx702:=C595.cc _ _ (by decide) hx701
 have hx703:=C622.cc _ _ (by decide) hx702
 have hx704:=C646.cc _ _ (by decide) hx703
 have hx705:=C673.cc _ _ (by decide) hx704
 have hx739:=C175.cc _ _ (by decide) hx132
 have hx740:=C202.cc _ _ (by decide) hx739
 have hx741:=C230.cc _ _ (by decide) hx740
 have hx742:=C257.cc _ _ (by decide) hx741
 have hx743:=C285.cc _ _ (by decide) hx742
 have hx744:=C312.cc _ _ (by decide) hx743
 have hx745:=C340.cc _ _ (by decide) hx744
 have hx746:=C367.cc _ _ (by decide) hx745
 have hx747:=C391.cc _ _ (by decide) hx746
 have hx748:=C418.cc _ _ (by decide) hx747
 have hx749:=C442.cc _ _ (by decide) hx748
 have hx750:=C469.cc _ _ (by decide) hx749
 have hx751:=C493.cc _ _ (by decide) hx750
 have hx752:=C520.cc _ _ (by decide) hx751
 have hx753:=C544.cc _ _ (by decide) hx752
 have hx754:=C571.cc _ _ (by decide) hx753
 have hx755:=C595.cc _ _ (by decide) hx754
 have hx756:=C622.cc _ _ (by decide) hx755
 have hx757:=C646.cc _ _ (by decide) hx756
 have hx758:=C673.cc _ _ (by decide) hx757
 have lw:cs666.length=20:=S684.w.len
 have sr:=S684.w.at_
 have wf:=Wd.fix (S684.upL (M:=1100) (by omega)).w hx705 (((((((((((((((((((((((((((((((((hl100.ext e116).chg C134 (by decide) hx99).ext e147).chg C175 (by decide) hx685).ext e185).chg C202 (by decide) hx686).chg C230 (by decide) hx687).ext e240).chg C257 (by decide) hx688).chg C285 (by decide) hx689).ext e295).chg C312 (by decide) hx690).chg C340 (by decide) hx691).ext e350).chg C367 (by decide) hx692).chg C391 (by decide) hx693).ext e401).chg C418 (by decide) hx694).chg C442 (by decide) hx695).ext e452).chg C469 (by decide) hx696).chg C493 (by decide) hx697).ext e503).chg C520 (by decide) hx698).chg C544 (by decide) hx699).ext e554).chg C571 (by decide) hx700).chg C595 (by decide) hx701).ext e605).chg C622 (by decide) hx702).chg C646 (by decide) hx703).ext e656).chg C673 (by decide) hx704) (by omega) hx758 (((((((((((((((((((((((((((((((hl133.ext e147).chg C175 (by decide) hx132).ext e185).chg C202 (by decide) hx739).chg C230 (by decide) hx740).ext e240).chg C257 (by decide) hx741).chg C285 (by decide) hx742).ext e295).chg C312 (by decide) hx743).chg C340 (by decide) hx744).ext e350).chg C367 (by decide) hx745).chg C391 (by decide) hx746).ext e401).chg C418 (by decide) hx747).chg C442 (by decide) hx748).ext e452).chg C469 (by decide) hx749).chg C493 (by decide) hx750).ext e503).chg C520 (by decide) hx751).chg C544 (by decide) hx752).ext e554).chg C571 (by decide) hx753).chg C595 (by decide) hx754).ext e605).chg C622 (by decide) hx755).chg C646 (by decide) hx756).ext e656).chg C673 (by decide) hx757) (by omega) pw138 hx671 hl672 ⟨by omega,by omega⟩ pw677
 have in0:∀ y,y∈cs→∀ i,i<H1.length→NotIn y i:=fun y hy i hi=>by
  by_cases h:NotIn y i
  ·exact h
  ·obtain⟨j,hj⟩:=List.getElem?_of_mem hy
   rw[hcs] at hj
   have g1:=e2.1
   rcases startC_in hj h with ⟨_,rfl⟩ | ⟨_,rfl⟩
   ·exact .sl (by omega)
   ·exact .sl (by omega)
 have nw:∀ y,y∈cs666→∀ i,i<H1.length→NotIn y i:=fun y hy i hi=>S684.o.nw i (Nat.lt_of_lt_of_le hi (e2.trans eY).1) (fun x hx=>in0 x hx i hi) y hy
 have hlt:=qP z1
 have keep:∀ i,i<H1.length→Z665[i]?=Y[i]?:=fun i hi=>by
  have g1:=e2.1
  exact S684.o.at_ i (Nat.lt_of_lt_of_le hi (e2.trans eY).1) (by omega) (fun x hx=>in0 x hx i hi)
 have zG:Z665[H.length]?=some {cs:=zW}:=(keep _ hlt).trans ((e2.trans eY).at z1)
 have oc:cs666.all AV.one=true:=(wf.vd (u:=0) (fun _ _ _ h=>absurd h (Nat.not_lt_zero _))).ones
 have wrF:=fun H r=>yX wX lw oc H r
 have zF:(Z665.set H.length {cs:=cs666})[H.length]?=some {cs:=cs666}:=List.getElem?_set_self (qP zG)
 have eF:Ext H (Z665.set H.length {cs:=cs666}):=Ext.set ⟨Nat.le_trans eH.1 S684.o.le,fun i hi=>(keep i (Nat.lt_of_lt_of_le hi e1.1)).trans (eH.2 i hi)⟩ (Nat.le_refl _) _
 try simp only[zQ,sr,(wU lw),zG,wrF,zF]
 exact⟨cs666,rfl,eF,((wf.vd nw).less e1.1).keep fun y hy j hj hn=>List.getElem?_set_ne (by rintro rfl;exact hn (nw y hy _ hlt))⟩
theorem OW.box {H0 G Y:qE}{N:Nat}{ds:List AV}{z:Reg}(v:Vd G H0.length (KW 2 2 1 N) ds)(h0:H0.length≤G.length)(hY:Y=List.set (G++[z]) G.length {cs:=ds}):OW H0 Y G.length N ds∧Ext G Y:=by
 have e:Ext G Y:=by
  rw[hY]
  exact(Ext.more G [z]).set (Nat.le_refl _) _
 exact⟨.of v e h0 (by rw[hY];exact List.getElem?_set_self (by simp)) (Nat.le_refl _),e⟩
theorem someW {H:qE}{rc:Nat}{xc:AV}{Lc:List Int}(hc:Cur H rc xc Lc)(hL:Lc.length≤4000000)(k:Nat)(hk:k≤50) :
  ∃ (ds:List AV)(Z:qE),Sound Tryz.prog 36 [.ptr rc 0,(k:Int)] H (.agg ds) Z∧Dr rc xc H Z∧Vd Z H.length (KW 2 2 1 10000) ds:=by
 suffices h:∃ w Z,Sound Tryz.prog 36 [.ptr rc 0,(k:Int)] H w Z∧∃ ds,w=.agg ds∧Dr rc xc H Z∧Vd Z H.length (KW 2 2 1 10000) ds by
  obtain⟨w,Z,h1,ds,rfl,h2⟩:=h
  exact⟨ds,Z,h1,h2⟩
 refine zR 30 [.cell 4 38] Tryz.func36 ?_
 obtain⟨H1,hH1⟩:∃ H1:qE,H1=H++[{cs:=zW}]:=⟨_,rfl⟩
 have e1:Ext H H1:=hH1▸Ext.more H _
 have z1:H1[H.length]?=some {cs:=zW}:=by rw[hH1];exact yA _ _
 have c1:=((CurE.start hc).ext e1).c
 obtain⟨mo,Z1,a1,D1,w1⟩:=modeW c1 hL
 have C1:=(CurE.start c1).dr D1
 obtain⟨q,m,Z2,a2,D2,b2,l2⟩:=routesW C1.c hL
 have C2:=C1.dr D2
 obtain⟨ds,Z3,a3,e3,v3⟩:=worldNewE mo w1 (x:=.sl q 0 m.length 3) (.inr ⟨q,true,rfl,b2.1⟩) (by omega)
 have C3:=C2.ext e3
 obtain⟨Y,hY⟩:∃ Y:qE,Y=List.set (Z3++[{cs:=zW}]) Z3.length {cs:=ds}:=⟨_,rfl⟩
 obtain⟨o,eY⟩:=OW.box (H0:=H1) (v3.less C2.d.1) C3.d.1 hY
 have CY:=C3.ext eY
 have lds:ds.length=20:=v3.len
 have wr:=fun H r=>yX wX lds (v3.ones) H r
 obtain⟨vv,cs1,Y1,a4,w4,k4,_⟩:=doW o.w (by omega) 1 0 0 (by unfold W64;omega) (by unfold W64;omega) (by unfold W64;omega) ByteArray.empty (by omega) (by omega) (by decide)
 obtain⟨o4,g4,s4⟩:=o.step w4 k4 CY.d.1
 have bd:∀ z:Int,qT Tryz.prog 100 [(0,.sc (.int .i64 z))]=some (.agg [z,(0:Int),(0:Int),.sc (.string ByteArray.empty)]):=fun z=>by simp[qT,yR,yT,qW,yF,yI,xJ,xU,xN,yO,Tryz.underlying100,kG,qR,qO,jQ,uN]
 simp only[↓zP,zQ,↓qC,zw,wW,←hH1]
 refine qF rfl a1 ?_
 simp only[↓zP,zQ]
 refine qF rfl a2 ?_
 simp only[↓zP]
 refine qF rfl a3 ?_
 simp only[↓zP,zQ,zw,↓qC,wW,wr]
 rw[←hY]
 simp only[zQ,bd 1]
 refine qF rfl a4 ?_
 simp only[↓zP,zQ,↓qC]
 refine yL (ι:=Nat) (fun i s=>∃ (T:Nat→AV)(G:qE)(cs:List AV),s=⟨qY 30 T,G⟩∧OW H1 G Z3.length (1240+140*i) cs∧CurE H1 G rc xc Lc∧i≤k∧T 0=.ptr rc 0∧T 1=.sc (.int .i64 (k:Int))∧T 4=.ptr H.length 0∧T 5=.ptr Z3.length 0∧T 6=.sc (.int .i64 (i:Int))) (fun i=>k - i) ?_ (i:=0) ?_
 ·rintro i s ⟨T,G,cs,rfl,o,C,hi,t0,t1,t4,t5,t6⟩
  by_cases h:i<k
  ·have k1:(i:Int)<(k:Int):=by omega
   have e2:IntKind.i64.wrap ((i:Int)+1)=((i+1:Nat):Int):=by rw[w64 (by omega) (by omega)];omega
   obtain⟨b,Za,ca,Da⟩:=drawOnce C.c hL 2 (by omega) (by omega)
   have oa:=o.dr Da C.lt
   have Ca:=C.dr Da
   simp only[↓zP,zQ,↓qC,t6,t1,k1,t0,t5,t4]
   refine qF rfl ca ?_
   cases b with
   | true =>
    obtain⟨vv,cs2,Zb,cb,wb,kb,_⟩:=doW oa.w (by omega) 2 0 0 (by unfold W64;omega) (by unfold W64;omega) (by unfold W64;omega) ByteArray.empty (by omega) (by omega) (by decide)
    obtain⟨ob,gb,sb⟩:=oa.step wb kb Ca.d.1
    simp only[↓zP,zQ,↓qC,bd 2]
    refine qF (by simp only[zQ,t5]<;>rfl) cb ?_
    simp only[↓zP,zQ,t6,e2,reduceCtorEq,↓qC,t5,t4]
    refine⟨i+1,by omega,_,_,_,rfl,ob.up (by omega),Ca.mk' gb sb,by omega,?_,?_,?_,?_,?_⟩<;>simp only[zQ,t0,t1,t4,t5]<;>rfl
   | false =>
    have sr:=oa.w.at_
    have lw:cs.length=20:=oa.w.len
    have rdw:=wU lw
    obtain⟨v,Zb,hv,cb,Db⟩:=yB Ca.c hL 30 (by omega) (by omega)
    have ob:=oa.dr Db C.lt
    have Cb:=Ca.dr Db
    have nw:∀ y,y∈cs→NotIn y rc:=fun y hy=>ob.nw y hy rc C.lt
    obtain⟨ek,ea,en,tx,Zc,cc,Dc,w1,w2,w3,n1,n2,n3⟩:=drawW (v:Int) (by unfold W64;omega) Cb.c hL (ob.vd.less (Nat.zero_le _)) (by omega) nw (by omega)
    have oc:=ob.dr Dc C.lt
    have Cc:=Cb.dr Dc
    obtain⟨vv,cs2,Zd,cd,wd,kd,_⟩:=doW oc.w (by omega) ek ea en w1 w2 w3 tx n1 n2 (by omega)
    obtain⟨od,gd,sd⟩:=oc.step wd kd Cc.d.1
    simp only[↓zP,zQ,↓qC]
    refine zD [(1,0),(1,4)] ?_
    simp only[↓zP,zQ,t0,t5,sr,rdw]
    refine qF rfl cb ?_
    simp only[↓zP]
    refine qF rfl cc ?_
    simp only[↓zP]
    refine qF (by simp only[zQ,t5]<;>rfl) cd ?_
    simp only[↓zP,zQ,t6]
    have sb:=ob.w.at_
    refine⟨zX (qI (qS _ _ Z3.length 0 rfl t5 (sb.trans sr.symm)) qH),?_⟩
    simp only[e2]
    refine⟨i+1,by omega,_,_,_,rfl,od.up (by omega),Cc.mk' gd sd,by omega,?_,?_,?_,?_,?_⟩<;>simp only[zQ,t0,t1,t4,t5]<;>rfl
  ·have k1:¬ (i:Int)<(k:Int):=by omega
   have sr:=o.w.at_
   have lw:cs.length=20:=o.w.len
   have rdw:=wU lw
   have zG:G[H.length]?=some {cs:=zW}:=(C.d.2.1 H.length (qP z1) (by have:=hc.lt;omega)).trans z1
   have oc:cs.all AV.one=true:=o.vd.ones
   have wr:=fun H r=>yX wX lw oc H r
   have bF:LclE G H.length H.length {cs:=zW}:=⟨zG,Nat.le_refl _⟩
   have CE:=(((CurE.start hc).ext e1).dr C.d).put bF {cs:=cs}
   have zF:(G.set H.length {cs:=cs})[H.length]?=some {cs:=cs}:=List.getElem?_set_self (qP zG)
   simp only[↓zP,zQ,↓qC,t6,t1,k1,t0,t5,sr,rdw,t4,zG,wr,zF]
   exact⟨cs,rfl,CE.d,((o.up (M:=10000) (by omega)).vd.less e1.1).keep fun y hy j hj hn=>List.getElem?_set_ne (by rintro rfl;exact hn (o.nw y hy _ (qP z1)))⟩
 ·exact⟨_,_,_,rfl,o4,(CY.mk' g4 s4),Nat.zero_le _,rfl,rfl,rfl,rfl,rfl⟩
theorem eventOkE {H:qE}(ek ea en:Int)(tx:ByteArray):∃ (bb:Bool)(Z:qE),Sound Tryz.prog 59 [.agg [ek,ea,en,.sc (.string tx)]] H (.sc (.bool bb)) Z∧Ext H Z∧(bb=true→0≤ea∧0≤en∧tx.size≤4000):=by
 suffices h:∃ w Z,Sound Tryz.prog 59 [.agg [ek,ea,en,.sc (.string tx)]] H w Z∧∃ bb:Bool,w=.sc (.bool bb)∧Ext H Z∧(bb=true→0≤ea∧0≤en∧tx.size≤4000) by
  obtain⟨w,Z,h1,bb,rfl,h2⟩:=h
  exact⟨bb,Z,h1,h2⟩
 refine zR 27 [.tmp 2] Tryz.func59 ?_
 obtain⟨t,c,ht⟩:=zH ek 1 10
 have e0:=Ext.more H [{cs:=[ek,ea,en,.sc (.string tx)]}]
 simp only[↓zP,zQ,↓qC]
 refine qN rfl c ?_
 cases t with
 | false =>
  simp only[↓zP,zQ,↓qC]
  exact⟨_,rfl,e0,fun h=>by cases h⟩
 | true =>
  by_cases h1:ea<0
  ·simp only[↓zP,zQ,qA,h1,↓qC]
   exact⟨_,rfl,e0,fun h=>by cases h⟩
  ·by_cases h2:en<0
   ·simp only[↓zP,zQ,qA,h1,↓qC,h2]
    exact⟨_,rfl,e0,fun h=>by cases h⟩
   ·by_cases h3:ek=9
    ·subst h3
     simp only[↓zP,zQ,qA,h1,↓qC,h2]
     exact⟨_,rfl,e0,fun h=>⟨by omega,by omega,by have:=of_decide_eq_true h;omega⟩⟩
    ·simp only[↓zP,zQ,qA,h1,↓qC,h3,h2]
     exact⟨_,rfl,e0,fun h=>⟨by omega,by omega,by
      rw[toL,toL] at h
      have h4:=eq_of_beq h
      have h5:tx.data.toList.length=0:=by rw[h4];rfl
      have h6:tx.data.toList.length=tx.size:=Array.length_toList
      omega⟩⟩
abbrev jW:List Kd:=[.i .i64,.i .i64,.i .i64,.s]
theorem encEvent:Enc (Rw.cs (ks:=jW)) 4:=Rw.encs (by decide)
theorem Rw.str_at {ks:List Kd}(r:Rw ks)(j:Nat)(h:ks[j]?=some .s):∃ z,r.cs[j]?=some (.sc (.string z)):=by
 have hv:=List.getElem?_eq_getElem (by rw[r.ok.1];exact(List.getElem?_eq_some_iff.1 h).1:j<r.val.length)
 obtain⟨z,hz,_⟩:=r.ok.2 j _ _ h hv
 rw[hz] at hv
 exact⟨z,by rw[Rw.cs,List.getElem?_map,hv];rfl⟩
theorem rowEvent (r:Rw jW):∃ tx:ByteArray,r.cs=[.sc (.int .i64 (r.int 0)),.sc (.int .i64 (r.int 1)),.sc (.int .i64 (r.int 2)),.sc (.string tx)]:=by
 have e0:=(r.int_at 0 (k:=.i64) rfl).1
 have e1:=(r.int_at 1 (k:=.i64) rfl).1
 have e2:=(r.int_at 2 (k:=.i64) rfl).1
 obtain⟨tx,e3⟩:=r.str_at 3 rfl
 have hl:=r.cs_len
 refine⟨tx,?_⟩
 generalize r.cs=z at *
 match z,hl with
 | [x0,x1,x2,x3],_ =>
  simp only[List.getElem?_cons_zero,List.getElem?_cons_succ,Option.some.injEq] at e0 e1 e2 e3
  rw[e0,e1,e2,e3]
def EvOk (p:Rw jW):Prop:=0≤p.int 1∧0≤p.int 2∧∀ tx,p.cs=[.sc (.int .i64 (p.int 0)),.sc (.int .i64 (p.int 1)),.sc (.int .i64 (p.int 2)),.sc (.string tx)]→tx.size≤4000
theorem Wd.loose {H:qE}{r N c a k:Nat}{cs:List AV}(w:Wd H r (KW c a k N) cs)(hc:c≤N)(ha:a≤N):Wd H r (KL N) cs:=by
 refine w.mono rfl fun i q q' x h1 h2 h3=>?_
 rcases i with _ | _ | _ | _ | _ | _ | _ | _ | _ | _ | _ | _ | _ | _ | _ | _ | _ | _ | _ | _ | i
 all_goals first | (cases h1;done) | (cases h1;cases h2;first | exact h3 | (obtain⟨l,g1,g2⟩:=h3;exact⟨l,g1,Nat.le_trans (Nat.le_of_eq g2) hc⟩) | (obtain⟨l,g1,g2,g3⟩:=h3;exact⟨l,g1,Nat.le_trans (Nat.le_of_eq g2) ha,g3⟩) | (obtain⟨l,g1,⟨g2,g4⟩,g3⟩:=h3;exact⟨l,g1,g4,g3⟩))
theorem zW_vd (H:qE)(u N:Nat):Vd H u (KL N) zW:=by
 refine⟨rfl,?_,?_,?_⟩
 ·intro i k x h1 h2
  rcases i with _ | _ | _ | _ | _ | _ | _ | _ | _ | _ | _ | _ | _ | _ | _ | _ | _ | _ | _ | _ | i
  all_goals first | (cases h1;done) | skip
  all_goals (cases h1;cases h2)
  all_goals first | exact⟨[],.inl ⟨rfl,rfl⟩,by simp[rt]⟩ | exact⟨[],.nil,by simp⟩ | exact⟨_,rfl,by unfold W64;omega⟩
 ·intro x hx i _
  obtain⟨j,hj⟩:=List.getElem?_of_mem hx
  rcases j with _ | _ | _ | _ | _ | _ | _ | _ | _ | _ | _ | _ | _ | _ | _ | _ | _ | _ | _ | _ | j
  all_goals first | (cases hj;exact notIn_sc _ i) | cases hj
 ·intro i j x y q _ h1 h2 _
  rcases j with _ | _ | _ | _ | _ | _ | _ | _ | _ | _ | _ | _ | _ | _ | _ | _ | _ | _ | _ | _ | j
  all_goals first | (cases h2;exact notIn_sc _ q) | cases h2
theorem runW {H:qE}(mo:Int)(wmo:W64 mo){xr:AV}{lr:List (Rw xM)}(hr:RdX Rw.cs 3 H xr lr)(br:lr.length≤1000){xe:AV}{le:List (Rw jW)}(hev:RdX Rw.cs 4 H xe le)(be:le.length≤50) :
  ∃ (ds:List AV)(bb:Bool)(Z:qE),Sound Tryz.prog 47 [mo,xr,xe] H (.tup [.agg ds,.sc (.bool bb)]) Z∧Ext H Z∧Vd Z H.length (KL 200000) ds:=by
 suffices h:∃ w Z,Sound Tryz.prog 47 [mo,xr,xe] H w Z∧∃ (ds:List AV)(bb:Bool),w=.tup [.agg ds,.sc (.bool bb)]∧Ext H Z∧Vd Z H.length (KL 200000) ds by
  obtain⟨w,Z,h1,ds,bb,rfl,h2⟩:=h
  exact⟨ds,bb,Z,h1,h2⟩
 refine zR 62 [.cell 6 38,.tmp 7] Tryz.func47 ?_
 obtain⟨H1,hH1⟩:∃ H1:qE,H1=H++[{cs:=zW}]:=⟨_,rfl⟩
 have e1:Ext H H1:=hH1▸Ext.more H _
 have z1:H1[H.length]?=some {cs:=zW}:=by rw[hH1];exact yA _ _
 have hr1:=hr.ext e1
 have hev1:=hev.ext e1
 have lev:=fun e=>hev1.len e
 refine w_cut2 (fun s=>∃ (T:Nat→AV)(G:qE)(b:Bool),s=⟨qY 62 T,G⟩∧Ext H1 G∧T 0=.sc (.int .i64 mo)∧T 1=xr∧T 2=xe∧T 6=.ptr H.length 0∧T 8=.sc (.bool b)) ?_ ?_
 ·have hn:(le.length:Int)≤50:=by omega
  obtain⟨b1,Z1,c1,e2⟩:=routesOkW hr1 (by omega)
  simp only[↓zP,zQ,↓qC,zw,lev,hn,wW,←hH1]
  refine qF rfl c1 ?_
  cases b1 with
  | false =>
   simp only[↓zP,zQ,qA]
   exact⟨_,_,false,rfl,e2,rfl,rfl,rfl,rfl,rfl⟩
  | true =>
   obtain⟨t,c2,_⟩:=zH mo 1 2
   simp only[↓zP,zQ]
   refine qN rfl c2 ?_
   simp only[↓zP,zQ]
   exact⟨_,_,t,rfl,e2,rfl,rfl,rfl,rfl,rfl⟩
 ·rintro s ⟨T0,G0,b0,rfl,eG,s0,s1,s2,s6,s8⟩
  simp only[↓zP,zQ,↓qC]
  refine yL (ι:=Nat) (fun i s=>∃ (T:Nat→AV)(G:qE)(b:Bool),s=⟨qY 62 T,G⟩∧Ext H1 G∧i≤le.length∧(b=true→∀ (j:Nat) p,j<i→le[j]?=some p→EvOk p)∧T 0=.sc (.int .i64 mo)∧T 1=xr∧T 2=xe∧T 6=.ptr H.length 0∧T 8=.sc (.bool b)∧T 9=.sc (.int .i64 (i:Int))) (fun i=>le.length - i) ?_ (i:=0) ?_
  ·rintro i s ⟨T,G,b,rfl,e,hi,ok,t0,t1,t2,t6,t8,t9⟩
   have hr2:=hr1.ext e
   have hev2:=hev1.ext e
   have l2:=fun e=>hev2.len e
   cases b with
   | true =>
    by_cases h:i<le.length
    ·have k1:(i:Int)<(le.length:Int):=by omega
     have k0:(0:Int)≤(i:Int):=by omega
     have e2:IntKind.i64.wrap ((i:Int)+1)=((i+1:Nat):Int):=by rw[w64 (by omega) (by omega)];omega
     obtain⟨q,o,hx,hq⟩:=hev2.get h
     obtain⟨p,hp⟩:∃ p,le[i]?=some p:=⟨_,List.getElem?_eq_getElem h⟩
     obtain⟨tx,cs⟩:=rowEvent p
     have rr:=fun (o:Bool)=>(xD encEvent hp o).trans (by rw[cs])
     obtain⟨bb,Z,c,eZ,hb⟩:=eventOkE (H:=G) (p.int 0) (p.int 1) (p.int 2) tx
     simp only[↓zP,zQ,↓qC,t9,t2,l2,k1,t8,t6,t0,t1]
     rw[hx]
     simp only[zQ,k0,k1,qB,hq,rr]
     refine qF rfl c ?_
     simp only[↓zP,zQ,t9,e2]
     refine⟨i+1,by omega,_,_,bb,rfl,e.trans eZ,by omega,fun hbb j p' hj hp'=>?_,?_,?_,?_,?_,?_,?_⟩
     ·by_cases hji:j=i
      ·subst hji
       rw[hp] at hp'
       cases hp'
       obtain⟨g1,g2,g3⟩:=hb hbb
       refine⟨g1,g2,fun tx' h'=>?_⟩
       rw[cs] at h'
       cases h'
       exact g3
      ·exact ok rfl j p' (by omega) hp'
     all_goals (simp only[zQ,t0,t1,t2,hx,t6]<;>rfl)
    ·have k1:¬ (i:Int)<(le.length:Int):=by omega
     have all:∀ (j:Nat) p,le[j]?=some p→EvOk p:=fun j p hp=>ok rfl j p (by have:=(List.getElem?_eq_some_iff.1 hp).1;omega) hp
     obtain⟨ds,Z3,a3,e3,v3⟩:=worldNewE mo wmo hr2 br
     obtain⟨Y,hY⟩:∃ Y:qE,Y=List.set (Z3++[{cs:=zW}]) Z3.length {cs:=ds}:=⟨_,rfl⟩
     have eZ:=e.trans e3
     obtain⟨o,eY⟩:=OW.box (H0:=H1) (v3.less e.1) eZ.1 hY
     have EY:=eZ.trans eY
     have lds:ds.length=20:=v3.len
     have wr:=fun H r=>yX wX lds (v3.ones) H r
     simp only[↓zP,zQ,↓qC,t9,t2,l2,k1,qA,t8,t6,t0,t1]
     refine qF rfl a3 ?_
     simp only[↓zP,zQ,zw,↓qC,wW,wr]
     rw[←hY]
     refine yL (ι:=Nat) (fun i s=>∃ (T:Nat→AV)(G:qE)(cs:List AV),s=⟨qY 62 T,G⟩∧OW H1 G Z3.length (1100+200*i) cs∧Ext H1 G∧i≤le.length∧T 2=xe∧T 6=.ptr H.length 0∧T 10=.ptr Z3.length 0∧T 11=.sc (.int .i64 (i:Int))) (fun i=>le.length - i) ?_ (i:=0) ?_
     ·rintro i s ⟨T,G,cs,rfl,o,E,hi,t2,t6,t10,t11⟩
      have hev3:=hev1.ext E
      have l3:=fun e=>hev3.len e
      have lw:cs.length=20:=o.w.len
      have sr:=o.w.at_
      by_cases h:i<le.length
      ·have k1:(i:Int)<(le.length:Int):=by omega
       have k0:(0:Int)≤(i:Int):=by omega
       have e2:IntKind.i64.wrap ((i:Int)+1)=((i+1:Nat):Int):=by rw[w64 (by omega) (by omega)];omega
       obtain⟨q,ow,hx,hq⟩:=hev3.get h
       obtain⟨p,hp⟩:∃ p,le[i]?=some p:=⟨_,List.getElem?_eq_getElem h⟩
       obtain⟨tx,hcs⟩:=rowEvent p
       obtain⟨n1,n2,n3⟩:=all i p hp
       have rr:=fun (o:Bool)=>(xD encEvent hp o).trans (by rw[hcs])
       obtain⟨vv,cs2,Zd,cd,wd,kd,wv⟩:=doW o.w (by omega) (p.int 0) (p.int 1) (p.int 2) (p.w64 0 rfl) (p.w64 1 rfl) (p.w64 2 rfl) tx n1 n2 (by have:=n3 tx hcs;omega)
       obtain⟨od,gd,sd⟩:=o.step wd kd E.1
       have Ed:Ext H1 Zd:=⟨by have:=E.1;omega,fun i hi=>(sd i hi).trans (E.2 i hi)⟩
       have ow2:=(od.up (M:=1100+200*i+150) (by omega)).ext (Ext.more Zd [{cs:=ints .i64 [vv]}])
       obtain⟨x,lx,hx19,hl19,pl,pw⟩:=ow2.w.gO 19 rfl
       have sd1:=od.w.at_
       obtain⟨x',Ga,Zf,cs3,ap,one,gr,wr1,hx2,hl2,Cf⟩:=(ow2.up (M:=1100+200*i+151) (by omega)).w.apC (k:=19) uV uU vD rfl hx19 hl19 (xX (L:=[vv]) (n:=1) (yA Zd _) rfl) (by simp only[List.length_cons,List.length_nil];omega) ⟨by simp only[List.length_append,List.length_cons,List.length_nil];omega,xF pw (xA wv xR)⟩
       obtain⟨of,gf,sf⟩:=ow2.step Cf.w Cf.o (by have:=Ed.1;simp;omega)
       have Ef:Ext H1 Zf:=⟨by have:=Ed.1;simp at gf;omega,fun i hi=>((sf i hi).trans (yS _ _ _ (Nat.lt_of_lt_of_le hi Ed.1))).trans (Ed.2 i hi)⟩
       simp only[↓zP,zQ,↓qC,t11,t2,l3,t10,t6,k1]
       rw[hx]
       simp only[zQ,k0,k1,qB,hq,rr]
       refine qF (by simp only[zQ,t10]<;>rfl) cd ?_
       simp only[↓zP,zQ,t10,t11,e2,sd1,(qL hx19),ap,gr,wr1]
       refine⟨i+1,by omega,_,_,_,rfl,of.up (by omega),Ef,by omega,?_,?_,?_,?_⟩<;>simp only[zQ,t2,hx,t6,t10]<;>rfl
      ·have k1:¬ (i:Int)<(le.length:Int):=by omega
       have zG:=E.at z1
       have oc:cs.all AV.one=true:=o.vd.ones
       have wr:=fun H r=>yX wX lw oc H r
       have zF:(G.set H.length {cs:=cs})[H.length]?=some {cs:=cs}:=List.getElem?_set_self (qP zG)
       simp only[↓zP,zQ,↓qC,t11,t2,l3,t10,sr,(wU lw),t6,zG,wr,zF,k1]
       have wl:=(o.up (M:=200000) (by omega)).w.loose (by omega) (by omega)
       exact⟨cs,true,rfl,(e1.trans E).set (Nat.le_refl _) _,((wl.vd o.nw).less e1.1).keep fun y hy j hj hn=>List.getElem?_set_ne (by rintro rfl;exact hn (o.nw y hy _ (qP z1)))⟩
     ·exact⟨_,_,_,rfl,o,EY,Nat.zero_le _,t2,t6,rfl,rfl⟩
   | false =>
    have zG:=e.at z1
    have wr:=fun H r=>yX wX wX wW H r
    have zF:(G.set H.length {cs:=zW})[H.length]?=some {cs:=zW}:=List.getElem?_set_self (qP zG)
    have rdz:=wU wX
    have bdz:qT Tryz.prog 38 []=some (.agg zW):=by simp[zW,qT,yR,yT,qW,Tryz.underlying38,zero38,tyOk26,tyOk27,tyOk28,tyOk34,tyOk35,qR,tyOk36]
    by_cases h:i<le.length
    ·have k1:(i:Int)<(le.length:Int):=by omega
     simp only[↓zP,zQ,↓qC,t9,t2,l2,k1,t8,bdz,t6,zG,wr,zF,rdz,t0,t1]
     exact⟨zW,false,rfl,(e1.trans e).set (Nat.le_refl _) _,zW_vd ..⟩
    ·have k1:¬ (i:Int)<(le.length:Int):=by omega
     simp only[↓zP,zQ,↓qC,t9,t2,l2,k1,qA,t8,bdz,t6,zG,wr,zF,rdz,t0,t1]
     exact⟨zW,false,rfl,(e1.trans e).set (Nat.le_refl _) _,zW_vd ..⟩
  ·exact⟨_,_,b0,rfl,eG,Nat.zero_le _,fun _ j p h=>absurd h (Nat.not_lt_zero _),s0,s1,s2,s6,s8,rfl⟩
end
theorem bdCur (x:AV)(h:Int)(hx:x.cells=[x]):qT Tryz.prog 77 [(0,x),(2,.sc (.int .i64 h))]=some (.agg [x,(0:Int),h]):=by
 simp[qT,yR,yT,qW,hx,yF,Tryz.underlying77,zero77,qR,tyOk22,qO,cells22]
theorem drawNew {H:qE}{x:AV}{L:List Int}(hx:IsL H x .u8 L)(hL:L.length≤4000000):∃ (r:Nat)(Z:qE),Sound Tryz.prog 21 [x] H (.ptr r 0) Z∧H.length≤r∧Cur Z r x L∧Ext H Z:=by
 suffices h:∃ v Z,Sound Tryz.prog 21 [x] H v Z∧∃ r,v=.ptr r 0∧H.length≤r∧Cur Z r x L∧Ext H Z by
  obtain⟨v,Z,h1,r,rfl,h3⟩:=h
  exact⟨r,Z,h1,h3⟩
 refine zR 32 [.tmp 2] Tryz.func21 ?_
 have lx:=fun e=>hx.len e
 have x1:x.cells=[x]∧x.one=true:=by
  rcases hx.kind with ⟨_,_,_,rfl⟩ | rfl<;>exact⟨rfl,rfl⟩
 simp only[↓zP,zQ,↓qC,lx]
 refine yL (ι:=Nat) (fun i s=>∃ (T:Nat→AV),s=⟨qY 32 T,H⟩∧i≤L.length∧T 0=x∧(∃ h:Int,T 3=.sc (.int .i64 h))∧T 4=.sc (.int .i64 i)) (fun i=>L.length - i) ?_ (i:=0) ?_
 ·rintro i s ⟨T,rfl,a1,a2,⟨h,a3⟩,a4⟩
  have hend:Cur (H++[cur x 0 h]) H.length x L:=⟨⟨0,h,yA _ _⟩,(Ext.more H _).isL hx⟩
  by_cases hi:i<L.length
  ·have k1:(i:Int)<L.length:=by omega
   have k2:(0:Int)≤i:=by omega
   have e1:IntKind.i64.wrap ((i:Int)+1)=i+1:=w64 (by omega) (by omega)
   by_cases h4:i<4000
   ·have k3:(i:Int)<4000:=by omega
    obtain⟨q,o,rfl,hq⟩:=hx.get hi
    simp only[↓zP,zQ,↓qC,a4,a2,lx,k1,k3,a3,k2,qB,e1,hq,hi]
    refine⟨i+1,by omega,_,rfl,by omega,?_,?_,?_⟩
    ·simp only[zQ,a2]
    ·simp only[zQ]
     exact⟨_,rfl⟩
    ·simp only[zQ]<;>rfl
   ·have k3:¬ (i:Int)<4000:=by omega
    simp only[↓zP,zQ,↓qC,a4,a2,lx,k1,k3,a3,bdCur _ _ x1.1,x1]
    exact⟨_,rfl,Nat.le_refl _,hend,Ext.more _ _⟩
  ·have k1:¬ (i:Int)<L.length:=by omega
   simp only[↓zP,zQ,↓qC,a4,reduceCtorEq,a2,lx,k1,a3,bdCur _ _ x1.1,x1]
   exact⟨_,rfl,Nat.le_refl _,hend,Ext.more _ _⟩
 ·refine⟨_,rfl,by omega,?_,?_,?_⟩
  ·simp only[zQ]
  ·simp only[zQ]
   exact⟨_,rfl⟩
  ·simp only[zQ]<;>rfl
section
attribute [local irreducible] kO uW kR wQ
theorem OW.kil {H0 H Z:qE}{r N q:Nat}{cs:List AV}(o:OW H0 H r N cs)(k:Kil H Z q)(hr:q≠r)(hn:∀ x,x∈cs→NotIn x q):OW H0 Z r N cs:=by
 refine⟨o.w.keep (k.2 r o.w.lt (Ne.symm hr)) fun i hi hx=>k.2 i hi ?_,o.fr,o.nw⟩
 rintro rfl
 obtain⟨x,hx,h⟩:=hx
 exact h (hn x hx)
theorem LclW.dr {H Z:qE}{u r i rc:Nat}{cs:List AV}{g:Reg}{x:AV}(h:LclW H u r cs i g)(d:Dr rc x H Z)(n:rc<u):LclW Z u r cs i g:=⟨(d.2.1 i (qP h.1) (by have:=h.2.1;omega)).trans h.1,h.2⟩
theorem rowEv {k a n:Int}{tx:ByteArray}(w1:W64 k)(w2:W64 a)(w3:W64 n)(h:tx.size≤4000):∃ p:Rw jW,p.cs=[.sc (.int .i64 k),.sc (.int .i64 a),.sc (.int .i64 n),.sc (.string tx)]:=by
 obtain⟨p,hp⟩:=(RowOk.int w1 (.int w2 (.int w3 (.cons (k:=.s) (v:=.string tx) ⟨tx,rfl,Nat.le_trans h (by decide)⟩ .nil))):RowOk jW _)
 exact⟨p,hp⟩
theorem ev_do {Z2 Zb Zc:qE}{r N:Nat}{cs:List AV}{rc:Nat}{x:AV}{L:List Int}{qe:Nat}{le:List (Rw jW)}{z:Reg}{k a n:Int}{tx:ByteArray}(o:OW Z2 Zb r N cs)(C:CurE Z2 Zb rc x L)(bE:LclW Zb Z2.length r cs qe {cs:=rows Rw.cs le})(hN:N≤100000)(w1:W64 k)(w2:W64 a)(w3:W64 n)(p1:0≤a)(p2:0≤n)(p3:tx.size≤4000)(hle:le.length≤1000)
  (hZc:Zc=List.set (Zb++[z]) Zb.length {cs:=[k,a,n,.sc (.string tx)]}) :
  ∃ (vv:Int)(cs2:List AV)(Zd Ze:qE)(s:Nat)(le2:List (Rw jW)),Sound Tryz.prog 54 [.ptr r 0,.agg [k,a,n,.sc (.string tx)]] Zc (.sc (.int .i64 vv)) Zd∧Zd[Zb.length]?=some {cs:=[k,a,n,.sc (.string tx)]} ∧
   (Zd++[{cs:=[k,a,n,.sc (.string tx)]}])[qe]?=some {cs:=rows Rw.cs le} ∧
   apR 4 40 (Zd++[{cs:=[k,a,n,.sc (.string tx)]}]) qe le.length (some {cs:=rows Rw.cs le}) (qU (Zd++[{cs:=[k,a,n,.sc (.string tx)]}]) (.sl Zd.length 0 1 4) 4)=some (.sl s 0 le2.length 4,Ze) ∧
   le2.length=le.length+1∧OW Z2 Ze r (N+200) cs2∧CurE Z2 Ze rc x L∧LclW Ze Z2.length r cs2 s {cs:=rows Rw.cs le2}:=by
 obtain⟨E,hE⟩:∃ E:Reg,E={cs:=[k,a,n,.sc (.string tx)]}:=⟨_,rfl⟩
 rw[←hE] at hZc
 have ec:Ext Zb Zc:=by rw[hZc];exact(Ext.more Zb [z]).set (Nat.le_refl _) _
 have oc:=o.ext ec
 have Cc:=C.ext ec
 have zc:Zc[Zb.length]?=some E:=by rw[hZc];exact List.getElem?_set_self (by simp)
 obtain⟨m1,m2⟩:=o.made zc (Nat.le_refl _)
 have lc:LclW Zc Z2.length r cs Zb.length E:=⟨zc,C.d.1,m1,m2⟩
 obtain⟨vv,cs2,Zd,cd,wd,kd,_⟩:=doW oc.w (by omega) k a n w1 w2 w3 tx p1 p2 (by omega)
 obtain⟨od,gd,sd⟩:=oc.step wd kd Cc.d.1
 have ld:=lc.only kd
 have ex:=Ext.more Zd [E]
 have Cx:=(Cc.mk' gd sd).ext ex
 have bx:=((bE.ext ec).only kd).ext ex
 obtain⟨p,hp⟩:=rowEv w1 w2 w3 p3
 have hx:(Zd++[E])[Zd.length]?=some {cs:=p.cs}:=by rw[hp,←hE];exact yA _ _
 obtain⟨s,le2,Ze,ap,e,bn,K,ne⟩:=uB apS90 encEvent (u:=Z2.length) (l1:=le) (n:=le.length) (k:=le.length+1) (⟨bx.1,bx.2.1⟩:LclE (Zd++[E]) Z2.length qe {cs:=rows Rw.cs le}) Cx.d.1 rfl (xL encEvent (a:=p) hx) rfl (by simp only[List.length_cons,List.length_nil];omega)
 have oe:=(od.ext ex).kil K bx.2.2.1 bx.2.2.2
 have Ce:=Cx.kil K bx.2.1
 have hs:Zd.length+1≤s:=by
  have h3:(Zd++[E]).length=Zd.length+1:=by simp
  by_cases h:s<(Zd++[E]).length
  ·exact absurd rfl (ne s _ (List.getElem?_eq_getElem h))
  ·omega
 obtain⟨k1,k2⟩:=od.made bn.1 (by omega)
 rw[hE] at ld bx ap
 exact⟨vv,cs2,Zd,Ze,s,le2,cd,ld.1,bx.1,ap,by rw[e,List.length_append];rfl,oe.up (by omega),Ce,bn.1,bn.2,k1,k2⟩
theorem eventsW {H:qE}{x:AV}{L:List Int}(hx:IsL H x .u8 L)(hL:L.length≤4000000) :
  ∃ (mo:Int)(q:Nat)(m:List (Rw xM))(qe:Nat)(le:List (Rw jW))(Z:qE),Sound Tryz.prog 46 [x] H (.tup [.sc (.int .i64 mo),.sl q 0 m.length 3,.sl qe 0 le.length 4]) Z∧Ext H Z∧W64 mo∧Z[q]?=some {cs:=rows Rw.cs m}∧m.length≤1000∧Z[qe]?=some {cs:=rows Rw.cs le}∧le.length≤50:=by
 suffices h:∃ w Z,Sound Tryz.prog 46 [x] H w Z∧∃ (mo:Int)(q:Nat)(m:List (Rw xM))(qe:Nat)(le:List (Rw jW)),w=.tup [.sc (.int .i64 mo),.sl q 0 m.length 3,.sl qe 0 le.length 4]∧Ext H Z∧W64 mo∧Z[q]?=some {cs:=rows Rw.cs m}∧m.length≤1000∧Z[qe]?=some {cs:=rows Rw.cs le}∧le.length≤50 by
  obtain⟨w,Z,h1,mo,q,m,qe,le,rfl,h2⟩:=h
  exact⟨mo,q,m,qe,le,Z,h1,h2⟩
 refine zR 52 [.tmp 2,.tmp 3,.tmp 4] Tryz.func46 ?_
 have l1:=fun e=>hx.len e
 obtain⟨rc,Z0,a0,hrc,c0,e0⟩:=drawNew hx hL
 obtain⟨mo,Z1,a1,D1,w1⟩:=modeW c0 hL
 have C1:=(CurE.start c0).dr D1
 obtain⟨q,m,Z2,a2,D2,b2,l2⟩:=routesW C1.c hL
 have C2:=C1.dr D2
 have c2:=C2.c
 simp only[↓zP,zQ,↓qC]
 refine qF rfl a0 ?_
 simp only[↓zP,zQ,↓qC]
 refine qF rfl a1 ?_
 simp only[↓zP,zQ,↓qC]
 refine qF rfl a2 ?_
 simp only[↓zP,zQ]
 refine w_cut2 (fun s=>∃ (T:Nat→AV)(k:Nat),s=⟨qY 52 T,Z2⟩∧k≤40∧T 5=.ptr rc 0∧T 6=.sc (.int .i64 mo)∧T 7=.sl q 0 m.length 3∧T 8=.sc (.int .i64 (k:Int))) ?_ ?_
 ·have q1:(L.length:Int).tdiv 4=((L.length / 4:Nat):Int):=by rw[Int.tdiv_eq_ediv_of_nonneg (by omega)];omega
  have q2:IntKind.i64.wrap ((L.length / 4:Nat):Int)=((L.length / 4:Nat):Int):=w64 (by omega) (by omega)
  have q3:IntKind.i64.wrap (10+((L.length / 4:Nat):Int))=((10+L.length / 4:Nat):Int):=by rw[w64 (by omega) (by omega)];omega
  by_cases h:(40:Int)<((10+L.length / 4:Nat):Int)
  ·simp only[↓zP,zQ,↓qC,l1,Int.reduceEq,q1,q2,q3,h]
   exact⟨_,40,rfl,by omega,rfl,rfl,rfl,rfl⟩
  ·simp only[↓zP,zQ,↓qC,l1,Int.reduceEq,q1,q2,q3,h]
   exact⟨_,10+L.length / 4,rfl,by omega,rfl,rfl,rfl,rfl⟩
 ·rintro s ⟨T,k,rfl,hk,t5,t6,t7,t8⟩
  obtain⟨ds,Z3,a3,e3,v3⟩:=worldNewE mo w1 (x:=.sl q 0 m.length 3) (.inr ⟨q,true,rfl,b2.1⟩) (by omega)
  obtain⟨Y,hY⟩:∃ Y:qE,Y=List.set (Z3++[{cs:=zW}]) Z3.length {cs:=ds}:=⟨_,rfl⟩
  obtain⟨o,eY⟩:=OW.box (H0:=Z2) v3 e3.1 hY
  have lds:ds.length=20:=v3.len
  obtain⟨Y2,hY2⟩:∃ Y2:qE,Y2=Y++[{cs:=[]}]:=⟨_,rfl⟩
  have eY2:Ext Y Y2:=hY2▸Ext.more Y _
  have o2:=o.ext eY2
  have C2':=(((CurE.start c2).ext e3).ext eY).ext eY2
  have lY:Y.length=Z3.length+1:=by rw[hY];simp
  have y2:Y2[Z3.length+1]?=some {cs:=[]}:=by rw[hY2,←lY];exact yA _ _
  obtain⟨n1,n2⟩:=o.made y2 (by omega)
  simp only[↓zP,zQ,↓qC,t6,t7]
  refine qF rfl a3 ?_
  simp only[↓zP,zQ,zw,↓qC,wW,(fun H r=>yX wX lds (v3.ones) H r)]
  rw[←hY,←hY2]
  refine yL (ι:=Nat) (fun i s=>∃ (T:Nat→AV)(G:qE)(cs:List AV)(qe:Nat)(le:List (Rw jW)),s=⟨qY 52 T,G⟩∧OW Z2 G Z3.length (1100+200*i) cs∧CurE Z2 G rc x L∧LclW G Z2.length Z3.length cs qe {cs:=rows Rw.cs le}∧le.length=i∧i≤k∧T 5=.ptr rc 0∧T 6=.sc (.int .i64 mo)∧T 7=.sl q 0 m.length 3∧T 8=.sc (.int .i64 (k:Int))∧T 9=.ptr Z3.length 0∧T 10=.sl qe 0 le.length 4∧T 11=.sc (.int .i64 (i:Int))) (fun i=>k - i) ?_ (i:=0) ?_
  ·rintro i s ⟨T,G,cs,qe,le,rfl,o,C,bE,hle,hi,t5,t6,t7,t8,t9,t10,t11⟩
   have lw:cs.length=20:=o.w.len
   have sr:=o.w.at_
   by_cases h:i<k
   ·have k1:(i:Int)<(k:Int):=by omega
    have e2:IntKind.i64.wrap ((i:Int)+1)=((i+1:Nat):Int):=by rw[w64 (by omega) (by omega)];omega
    obtain⟨v,Za,hv,ca,Da⟩:=yB C.c hL 30 (by omega) (by omega)
    have oa:=o.dr Da C.lt
    have Ca:=C.dr Da
    have nw:∀ y,y∈cs→NotIn y rc:=fun y hy=>oa.nw y hy rc C.lt
    obtain⟨ek,ea,en,tx,Zb,cb,Db,w1,w2,w3,p1,p2,p3⟩:=drawW (v:Int) (by unfold W64;omega) Ca.c hL (oa.vd.less (Nat.zero_le _)) (by omega) nw (by omega)
    have ob:=oa.dr Db C.lt
    have Cb:=Ca.dr Db
    have bb:=(bE.dr Da C.lt).dr Db C.lt
    have sb:=oa.w.at_
    simp only[↓zP,zQ,↓qC,t11,t8,k1,t6,t7,t10]
    refine zD [(1,0),(1,4)] ?_
    simp only[↓zP,zQ,t5,t9,sr,(wU lw)]
    refine qF rfl ca ?_
    simp only[↓zP]
    refine qF rfl cb ?_
    simp -implicitDefEqProofs only[↓zP,zQ,↓qC,t11,Nat.reduceAdd,xZ,xY]
    refine⟨zX (qI (qS _ _ Z3.length 0 rfl t9 (sb.trans sr.symm)) qH),?_⟩
    have bdE:qT Tryz.prog 100 [(0,.sc (.int .i64 1)),(1,.sc (.int .i64 (i:Int)))]=some (.agg [(1:Int),(i:Int),(0:Int),.sc (.string ByteArray.empty)]):=by simp[qT,yR,yT,qW,yF,yI,xJ,xU,xN,yO,Tryz.underlying100,kG,qR,qO,jQ,uN]
    by_cases h2:(i:Int)<2
    ·obtain⟨Zc,hZc⟩:∃ Zc:qE,Zc=List.set (Zb++[{cs:=[(0:Int),(0:Int),(0:Int),.sc (.string ByteArray.empty)]}]) Zb.length {cs:=[(1:Int),(i:Int),(0:Int),.sc (.string ByteArray.empty)]}:=⟨_,rfl⟩
     obtain⟨vv,cs2,Zd,Ze,s,le2,cd,zd,gq,ap,hl2,oe,Ce,be⟩:=ev_do ob Cb bb (by omega) (by unfold W64;omega) (by unfold W64;omega) (by unfold W64;omega) (by omega) (by omega) (by decide) (by omega) hZc
     have zc:Zc[Zb.length]?=some {cs:=[(1:Int),(i:Int),(0:Int),.sc (.string ByteArray.empty)]}:=by rw[hZc];exact List.getElem?_set_self (by simp)
     have zs:(List.set (Zb++[{cs:=[(0:Int),(0:Int),(0:Int),.sc (.string ByteArray.empty)]}]) Zb.length ({cs:=[ek,ea,en,.sc (.string tx)]}:Reg))[Zb.length]?=some {cs:=[ek,ea,en,.sc (.string tx)]}:=List.getElem?_set_self (by simp)
     simp -implicitDefEqProofs only[zQ,h2,bdE,zs,Nat.reduceAdd,xZ,xY]
     rw[←hZc]
     simp -implicitDefEqProofs only[zQ,zc,Nat.reduceAdd]
     refine qF (by simp only[zQ,t9]<;>rfl) cd ?_
     simp -implicitDefEqProofs only[↓zP,zQ,t10,zd,Nat.reduceAdd,t11,e2,gq,ap]
     refine⟨i+1,by omega,_,_,_,_,le2,rfl,oe.up (by omega),Ce,be,by omega,by omega,?_,?_,?_,?_,?_,?_,?_⟩<;>simp only[zQ,t5,t6,t7,t8,t9]<;>rfl
    ·obtain⟨Zc,hZc⟩:∃ Zc:qE,Zc=List.set (Zb++[{cs:=[(0:Int),(0:Int),(0:Int),.sc (.string ByteArray.empty)]}]) Zb.length {cs:=[ek,ea,en,.sc (.string tx)]}:=⟨_,rfl⟩
     obtain⟨vv,cs2,Zd,Ze,s,le2,cd,zd,gq,ap,hl2,oe,Ce,be⟩:=ev_do ob Cb bb (by omega) w1 w2 w3 p1 p2 p3 (by omega) hZc
     have zc:Zc[Zb.length]?=some {cs:=[ek,ea,en,.sc (.string tx)]}:=by rw[hZc];exact List.getElem?_set_self (by simp)
     simp only[zQ,h2]
     rw[←hZc]
     simp -implicitDefEqProofs only[zQ,zc,Nat.reduceAdd]
     refine qF (by simp only[zQ,t9]<;>rfl) cd ?_
     simp -implicitDefEqProofs only[↓zP,zQ,t10,zd,Nat.reduceAdd,t11,e2,gq,ap]
     refine⟨i+1,by omega,_,_,_,_,le2,rfl,oe.up (by omega),Ce,be,by omega,by omega,?_,?_,?_,?_,?_,?_,?_⟩<;>simp only[zQ,t5,t6,t7,t8,t9]<;>rfl
   ·have k1:¬ (i:Int)<(k:Int):=by omega
    simp only[↓zP,zQ,↓qC,t11,t8,k1,t6,t7,t10]
    have qG:G[q]?=some {cs:=rows Rw.cs m}:=(C.d.2.1 q (qP b2.1) (by have h1:=b2.2;have h2:=C1.lt;have h3:=D1.1;omega)).trans b2.1
    have eF:Ext H G:=Dr.ext e0 (C2.d.trans C.d) hrc
    exact⟨mo,q,m,qe,le,rfl,eF,w1,qG,by omega,bE.1,by omega⟩
  ·exact⟨_,_,_,_,[],rfl,o2,C2',⟨y2,by have:=e3.1;omega,n1,n2⟩,rfl,Nat.zero_le _,t5,t6,t7,t8,rfl,rfl,rfl⟩
def KX (N:Nat):List CK:=[.nds (fun l=>l.length≤3000∧rt l),xV kClient 23 (·≤N),CInts (·≤N),.int W64,.int W64,xV kSess 20 (·≤N),xV kLease 2 (·≤N),xV xM 3 (·≤N),xV kOut 5 (·≤N),.int W64,
 xV kT 3 (·≤N),.int W64,.int W64,CInts (·≤N),CInts (·≤N),xV kA 7 (·≤N),xV kA 7 (·≤N),xV kA 7 (·≤N),xV kA 7 (·≤N),CInts (·≤N)]
theorem Wd.kx {H:qE}{r N M:Nat}{cs:List AV}(w:Wd H r (KL N) cs)(h:N≤M)(h64:64≤M):Wd H r (KX M) cs:=by
 refine w.mono rfl fun i q q' x h1 h2 h3=>?_
 rcases i with _ | _ | _ | _ | _ | _ | _ | _ | _ | _ | _ | _ | _ | _ | _ | _ | _ | _ | _ | _ | i
 all_goals first | (cases h1;done) | (cases h1;cases h2;first | exact h3 | (obtain⟨l,g1,g2⟩:=h3;exact⟨l,g1,Nat.le_trans g2 h⟩) | (obtain⟨l,g1,g2⟩:=h3;exact⟨l,g1,Nat.le_trans g2 h64⟩) | (obtain⟨l,g1,g2,g3⟩:=h3;exact⟨l,g1,Nat.le_trans g2 h,g3⟩))
theorem Wd.upX {H:qE}{r N M:Nat}{cs:List AV}(w:Wd H r (KX N) cs)(h:N≤M):Wd H r (KX M) cs:=by
 refine w.mono rfl fun i q q' x h1 h2 h3=>?_
 rcases i with _ | _ | _ | _ | _ | _ | _ | _ | _ | _ | _ | _ | _ | _ | _ | _ | _ | _ | _ | _ | i
 all_goals first | (cases h1;done) | (cases h1;cases h2;first | exact h3 | (obtain⟨l,g1,g2⟩:=h3;exact⟨l,g1,Nat.le_trans g2 h⟩) | (obtain⟨l,g1,g2,g3⟩:=h3;exact⟨l,g1,Nat.le_trans g2 h,g3⟩))
structure OWX (H0 H:qE) (r:Nat) (K:List CK) (cs:List AV):Prop where
 w:Wd H r K cs
 fr:H0.length≤r
 nw:∀ y,y∈cs→∀ i,i<H0.length→NotIn y i
section
variable {H0 H Z : qE} {r : Nat} {K K' : List CK} {cs cs' : List AV}
theorem OW.x {N M:Nat}(o:OW H0 H r N cs)(h:N≤M)(h64:64≤M):OWX H0 H r (KX M) cs:=⟨((o.up h).w.loose (by omega) (by omega)).kx (Nat.le_refl _) h64,o.fr,o.nw⟩
theorem OWX.step (o:OWX H0 H r K cs)(w:Wd Z r K' cs')(k:OnlyW H Z r cs cs')(h:H0.length≤H.length):OWX H0 Z r K' cs'∧H.length≤Z.length∧∀ i,i<H0.length→Z[i]?=H[i]?:=
 ⟨⟨w,o.fr,fun y hy i hi=>k.nw i (by omega) (fun x hx=>o.nw x hx i hi) y hy⟩,k.le,fun i hi=>k.at_ i (by omega) (by have:=o.fr;omega) fun x hx=>o.nw x hx i hi⟩
theorem OWX.give {q k:Nat}(o:OWX H0 H r K cs)(g:Gv H Z r q K cs cs' k)(h:H0.length≤H.length)(hq:H0.length≤q):OWX H0 Z r K cs'∧H.length≤Z.length∧∀ i,i<H0.length→Z[i]?=H[i]?:=
 ⟨⟨g.w,o.fr,fun y hy i hi=>g.nw i (by omega) (by omega) (fun x hx=>o.nw x hx i hi) y hy⟩,g.le,fun i hi=>g.at_ i (by omega) (by have:=o.fr;omega) fun x hx=>o.nw x hx i hi⟩
theorem OWX.ext (o:OWX H0 H r K cs)(e:Ext H Z):OWX H0 Z r K cs:=⟨o.w.ext e,o.fr,o.nw⟩
theorem OWX.dr {rc:Nat}{x:AV}(o:OWX H0 H r K cs)(d:Dr rc x H Z)(h:rc<H0.length):OWX H0 Z r K cs:=by
 have hr:=o.fr
 refine⟨o.w.keep (d.2.1 r o.w.lt (by omega)) fun i hi hx=>d.2.1 i hi ?_,o.fr,o.nw⟩
 rintro rfl
 obtain⟨y,hy,hn⟩:=hx
 exact hn (o.nw y hy i h)
theorem OWX.vd (o:OWX H0 H r K cs):Vd H H0.length K cs:=o.w.vd o.nw
theorem OWX.lcl (o:OWX H0 H r K cs){i:Nat}{g:Reg}(hi:Z[i]?=some g)(h:H.length≤i):i≠r∧∀ x,x∈cs→NotIn x i:=by
 refine⟨by have:=o.w.lt;omega,fun x hx=>?_⟩
 obtain⟨j,hj⟩:=List.getElem?_of_mem hx
 exact(o.w.ok j _ x (List.getElem?_eq_getElem (by rw[←o.w.len];exact(List.getElem?_eq_some_iff.1 hj).1:j<K.length)) hj).lt h
theorem OWX.fin {H1 G:qE}{q:Nat}{g:Reg}(o:OWX H1 G r K cs)(h0:H0.length≤H1.length)(hq:H1[q]?=some g)(g':Reg):Vd (G.set q g') H0.length K cs:=
 (o.vd.less h0).keep fun y hy j hj hn=>List.getElem?_set_ne (by rintro rfl;exact hn (o.nw y hy _ (qP hq)))
end
theorem wJ (y:Nat){n:Int}(h:0<n):∃ j:Nat,(y:Int).tmod n=(j:Int)∧(j:Int)<n:=⟨((y:Int).tmod n).toNat,by have:=tmod_in (a:=(y:Int)) (b:=n) (by omega) h;omega,by have:=tmod_in (a:=(y:Int)) (b:=n) (by omega) h;omega⟩
theorem any17 {H:qE}{rc:Nat}{xc:AV}{Lc:List Int}(hc:Cur H rc xc Lc)(hL:Lc.length≤4000000) :
  ∃ (ds:List AV)(Z:qE),Sound Tryz.prog 22 [.ptr rc 0] H (.agg ds) Z∧Dr rc xc H Z∧Vd Z H.length (KX 20000) ds:=by
 suffices h:∃ w Z,Sound Tryz.prog 22 [.ptr rc 0] H w Z∧∃ ds,w=.agg ds∧Dr rc xc H Z∧Vd Z H.length (KX 20000) ds by
  obtain⟨w,Z,h1,ds,rfl,h2⟩:=h
  exact⟨ds,Z,h1,h2⟩
 refine zR 80 [.cell 2 38] Tryz.func22 ?_
 obtain⟨H1,hH1⟩:∃ H1:qE,H1=H++[{cs:=zW}]:=⟨_,rfl⟩
 have e1:Ext H H1:=hH1▸Ext.more H _
 have z1:H1[H.length]?=some {cs:=zW}:=by rw[hH1];exact yA _ _
 have c1:=((CurE.start hc).ext e1).c
 obtain⟨k,Za,hk,a1,D1⟩:=yB c1 hL 14 (by omega) (by omega)
 have C1:=(CurE.start c1).dr D1
 obtain⟨y,Zb,hy,a2,D2⟩:=yB C1.c hL 60 (by omega) (by omega)
 have C2:=C1.dr D2
 obtain⟨n,Zc,hn,a3,D3⟩:=yB C2.c hL 14 (by omega) (by omega)
 have C3:=C2.dr D3
 obtain⟨ds,Zd,a4,D4,v4⟩:=someW C3.c hL (n+3) (by omega)
 have C4:=C3.dr D4
 obtain⟨Y,hY⟩:∃ Y:qE,Y=List.set (Zd++[{cs:=zW}]) Zd.length {cs:=ds}:=⟨_,rfl⟩
 obtain⟨o,eY⟩:=OW.box (H0:=H1) (v4.less C3.d.1) C4.d.1 hY
 have CY:=C4.ext eY
 have oX:=o.x (M:=10000) (by omega) (by omega)
 have lds:ds.length=20:=v4.len
 have ods:=v4.ones
 have wr:=fun H r=>yX wX lds ods H r
 have e3:IntKind.i64.wrap (3+(n:Int))=((n+3:Nat):Int):=by rw[w64 (by omega) (by omega)];omega
 simp only[↓zP,zQ,↓qC,zw,Nat.reduceLT,reduceCtorEq,wW,←hH1]
 refine qF rfl a1 ?_
 simp only[↓zP,zQ,↓qC,Nat.reduceLT,reduceCtorEq]
 refine qF rfl a2 ?_
 simp only[↓zP,zQ,↓qC,Nat.reduceLT,reduceCtorEq]
 refine qF rfl a3 ?_
 simp only[↓zP,zQ,Nat.reduceLT,e3]
 refine qF rfl a4 ?_
 simp only[↓zP,zQ,zw,Nat.reduceLT,Nat.reduceEqDiff,wW,wr]
 rw[←hY]
 have oX2:OWX H1 Y Zd.length (KX 20000) ds:=⟨oX.w.upX (by omega),oX.fr,oX.nw⟩
 refine w_cut1 (fun s=>∃ (T:Nat→AV)(G:qE)(cs:List AV),s=⟨qY 80 T,G⟩∧OWX H1 G Zd.length (KX 20000) cs∧CurE H1 G rc xc Lc∧T 2=.ptr H.length 0∧T 5=.ptr Zd.length 0) ?_ ?_
 ·by_cases k0:(k:Int)=0
  ·obtain⟨j,hj,hj3⟩:=wJ y (n:=3) (by omega)
   obtain⟨Y1,h1⟩:∃ Y1:qE,Y1=Y++[{cs:=ints .i64 [0,9999,10000]}]:=⟨_,rfl⟩
   have ox:=oX2.ext (Z:=Y1) (h1▸Ext.more _ _)
   have Cx:=CY.ext (Z:=Y1) (h1▸Ext.more _ _)
   have sx:=ox.w.at_
   have hy1:Y1[Y.length]?=some {cs:=ints .i64 [0,9999,10000]}:=by rw[h1];exact yA _ _
   rcases(by omega:j=0∨j=1∨j=2) with rfl | rfl | rfl
   ·obtain⟨Z,cs2,w1,_,ch⟩:=ox.w.stI (k:=4) (z:=0) rfl (by unfold W64;omega)
    obtain⟨o2,g2,s2⟩:=ox.step ch.w ch.o Cx.d.1
    simp -implicitDefEqProofs only[↓zP,zQ,↓qC,k0,Nat.reduceLT,Nat.reduceEqDiff,Int.reduceEq,hj,Nat.reduceAdd,Int.reduceLE,Int.reduceLT,←h1,sx,hy1,w1,reduceCtorEq]
    exact⟨_,_,_,rfl,o2,Cx.mk' g2 s2,rfl,rfl⟩
   ·obtain⟨Z,cs2,w1,_,ch⟩:=ox.w.stI (k:=4) (z:=9999) rfl (by unfold W64;omega)
    obtain⟨o2,g2,s2⟩:=ox.step ch.w ch.o Cx.d.1
    simp -implicitDefEqProofs only[↓zP,zQ,↓qC,k0,Nat.reduceLT,Nat.reduceEqDiff,Int.reduceEq,hj,Nat.reduceAdd,Int.reduceLE,Int.reduceLT,Int.reduceToNat,←h1,sx,hy1,w1,reduceCtorEq]
    exact⟨_,_,_,rfl,o2,Cx.mk' g2 s2,rfl,rfl⟩
   ·obtain⟨Z,cs2,w1,_,ch⟩:=ox.w.stI (k:=4) (z:=10000) rfl (by unfold W64;omega)
    obtain⟨o2,g2,s2⟩:=ox.step ch.w ch.o Cx.d.1
    simp -implicitDefEqProofs only[↓zP,zQ,↓qC,k0,Nat.reduceLT,Nat.reduceEqDiff,Int.reduceEq,hj,Nat.reduceAdd,Int.reduceLE,Int.reduceLT,Int.reduceToNat,←h1,sx,hy1,w1,reduceCtorEq]
    exact⟨_,_,_,rfl,o2,Cx.mk' g2 s2,rfl,rfl⟩
  ·by_cases k1:(k:Int)=1
   ·obtain⟨j,hj,hj3⟩:=wJ y (n:=5) (by omega)
    obtain⟨i,hi,hi3⟩:=wJ y (n:=4) (by omega)
    have ea:IntKind.i64.wrap (9+(j:Int))=9+(j:Int):=w64 (by omega) (by omega)
    obtain⟨p,hp⟩:=(RowOk.int (z:=9+(j:Int)) (by unfold W64;omega) (.int (z:=(i:Int)) (by unfold W64;omega) .nil):RowOk kLease _)
    obtain⟨x,l,hx,hl,pl⟩:=oX.w.gO 6 rfl
    have rx:=qL hx
    obtain⟨Y1,h1⟩:∃ Y1:qE,Y1=Y++[{cs:=[.sc (.int .i64 (9+(j:Int))),.sc (.int .i64 (i:Int))]}]:=⟨_,rfl⟩
    have ox:=oX2.ext (Z:=Y1) (h1▸Ext.more _ _)
    have Cx:=CY.ext (Z:=Y1) (h1▸Ext.more _ _)
    have sy:=oX2.w.at_
    have sx:=ox.w.at_
    have hs:Y1[Y.length]?=some {cs:=p.cs}:=by rw[hp,h1];exact yA _ _
    obtain⟨x',Ga,Zf,cs3,ap,one,gr,wr1,hx2,hl2,Cf⟩:=ox.w.apC (k:=6) apS30 apN30 yW rfl hx (hl.ext (h1▸Ext.more _ _)) (xL yW (a:=p) hs) (by simp only[List.length_cons,List.length_nil];omega) (by simp only[List.length_append,List.length_cons,List.length_nil];omega)
    obtain⟨o2,g2,s2⟩:=ox.step Cf.w Cf.o Cx.d.1
    simp -implicitDefEqProofs only[↓zP,zQ,↓qC,k1,Nat.reduceLT,Nat.reduceEqDiff,Int.reduceEq,Nat.reduceAdd,hj,hi,ea,←h1,sy,rx,ap,gr,wr1,reduceCtorEq]
    exact⟨_,_,_,rfl,o2,Cx.mk' g2 s2,rfl,rfl⟩
   ·by_cases k2:(k:Int)=2
    ·obtain⟨q,m,Z5,a5,D5,b5,l5⟩:=routesAnyW CY.c hL
     have ox:=oX2.dr D5 CY.lt
     have Cx:=CY.dr D5
     have sx:=ox.w.at_
     obtain⟨hq1,hq2⟩:=oX2.lcl b5.1 b5.2
     have hq2':∀ x,x∈ds→NotIn x q:=hq2
     obtain⟨x,hx,_⟩:=ox.w.get 7 rfl
     obtain⟨Z6,cs2,w1,_,_,g⟩:=ox.w.give (u:=H1.length) (k:=7) rfl hx (CkOk.rows (ks:=xM) (m:=3) (c:=(·≤20000)) b5.1 (by omega)) ⟨b5.1,by have:=b5.2;have:=CY.d.1;omega,hq1,hq2'⟩ rfl
     obtain⟨o2,g2,s2⟩:=ox.give g Cx.d.1 (by have:=b5.2;have:=CY.d.1;omega)
     simp -implicitDefEqProofs only[↓zP,zQ,↓qC,k2,Nat.reduceLT,Nat.reduceEqDiff,Int.reduceEq,Nat.reduceAdd,reduceCtorEq]
     refine qF rfl a5 ?_
     simp -implicitDefEqProofs only[↓zP,zQ,Nat.reduceLT,Nat.reduceEqDiff,Nat.reduceAdd,sx,w1]
     exact⟨_,_,_,rfl,o2,Cx.mk' g2 s2,rfl,rfl⟩
    ·by_cases k3:(k:Int)=3
     ·obtain⟨x,l,hx,hl,pl⟩:=oX.w.gO 5 rfl
      have rx:=qL hx
      have ll:=fun e=>hl.len e
      have sy:=oX2.w.at_
      by_cases h0:l.length=0
      ·have kl:¬ (l.length:Int)>0:=by omega
       simp -implicitDefEqProofs only[↓zP,zQ,↓qC,k3,Nat.reduceLT,Nat.reduceEqDiff,Int.reduceEq,Nat.reduceAdd,sy,reduceCtorEq,rx,ll,kl]
       exact⟨_,_,_,rfl,oX2,CY,rfl,rfl⟩
      ·have kl:(l.length:Int)>0:=by omega
       have kl2:(0:Int)<(l.length:Int):=by omega
       have kl3:0<l.length:=by omega
       obtain⟨j,hj,hj3⟩:=wJ y (n:=4) (by omega)
       obtain⟨q,rfl,hq⟩:=hl.get (i:=0) (by omega)
       obtain⟨p,hp⟩:∃ p,l[0]?=some p:=⟨_,List.getElem?_eq_getElem (by omega)⟩
       obtain⟨b,hb,_,_⟩:=p.putI 2 rfl (show W64 (j:Int) by unfold W64;omega)
       obtain⟨Z,l',hZ,e1',e2',g,ot,hl2,C⟩:=oX2.w.stRow (k:=5) rfl hx hl rfl hp b (by rw[List.length_set];omega)
       have wrr:=(kH yK (H:=Y) hp (by decide) hb ⟨rfl,rfl⟩ q).trans (congrArg some hZ.symm)
       obtain⟨o2,g2,s2⟩:=oX2.step C.w C.o CY.d.1
       simp -implicitDefEqProofs only[↓zP,zQ,↓qC,k3,Nat.reduceLT,Nat.reduceEqDiff,Int.reduceEq,Nat.reduceAdd,hj,sy,reduceCtorEq,rx,Int.reduceLE,kl,Nat.reduceMul,hq,wrr,ll]
       exact⟨_,_,_,rfl,o2,CY.mk' g2 s2,rfl,rfl⟩
     ·by_cases k4:(k:Int)=4
      ·obtain⟨x,l,hx,hl,pl⟩:=oX.w.gO 5 rfl
       have rx:=qL hx
       have ll:=fun e=>hl.len e
       have sy:=oX2.w.at_
       by_cases h0:l.length=0
       ·have kl:¬ (l.length:Int)>0:=by omega
        simp -implicitDefEqProofs only[↓zP,zQ,↓qC,k4,Nat.reduceLT,Nat.reduceEqDiff,Int.reduceEq,Nat.reduceAdd,sy,reduceCtorEq,rx,ll,kl]
        exact⟨_,_,_,rfl,oX2,CY,rfl,rfl⟩
       ·have kl:(l.length:Int)>0:=by omega
        have kl2:(0:Int)<(l.length:Int):=by omega
        have kl3:0<l.length:=by omega
        obtain⟨q,rfl,hq⟩:=hl.get (i:=0) (by omega)
        obtain⟨p,hp⟩:∃ p,l[0]?=some p:=⟨_,List.getElem?_eq_getElem (by omega)⟩
        have re:=xD yK hp
        have bs:=jK (P:=Tryz.prog) (m:=20) 65 _ p.cs zero65 tyOk65 cells65 (by decide) (by decide) rfl p.cs_len
        obtain⟨Y1,h1⟩:∃ Y1:qE,Y1=Y++[{cs:=p.cs}]:=⟨_,rfl⟩
        have ox:=oX2.ext (Z:=Y1) (h1▸Ext.more _ _)
        have Cx:=CY.ext (Z:=Y1) (h1▸Ext.more _ _)
        have sx:=ox.w.at_
        have hs:Y1[Y.length]?=some {cs:=p.cs}:=by rw[h1];exact yA _ _
        obtain⟨x',Ga,Zf,cs3,ap,one,gr,wr1,hx2,hl2,Cf⟩:=ox.w.apC (k:=5) apS29 apN29 yK rfl hx (hl.ext (h1▸Ext.more _ _)) (xL yK (a:=p) hs) (by simp only[List.length_cons,List.length_nil];omega) (by simp only[List.length_append,List.length_cons,List.length_nil];omega)
        obtain⟨o2,g2,s2⟩:=ox.step Cf.w Cf.o Cx.d.1
        simp -implicitDefEqProofs only[↓zP,zQ,↓qC,k4,Nat.reduceLT,Nat.reduceEqDiff,Int.reduceEq,Nat.reduceAdd,sy,reduceCtorEq,rx,Int.reduceLE,kl,Nat.reduceMul,ll]
        refine drawn [(2,0),(5,0),(7,0)] follows (by kernel_rfl) (by kernel_rfl) ?_
        simp -implicitDefEqProofs only[↓zP,zQ,Nat.reduceLT,Nat.reduceEqDiff,Nat.reduceAdd,sy,rx,Int.reduceLE,kl,Nat.reduceMul,hq,re,bs,p.ones,←h1,ap,gr,wr1]
        refine⟨qI (same_calm (by kernel_rfl)) (qI (same_calm (by kernel_rfl)) (qI (same_calm (by kernel_rfl)) qH)),?_⟩
        exact⟨_,_,_,rfl,o2,Cx.mk' g2 s2,rfl,rfl⟩
      ·simp -implicitDefEqProofs only[↓zP,zQ,↓qC,Nat.reduceLT,Nat.reduceEqDiff,k0,Int.reduceEq,Nat.reduceAdd,k1,k2,reduceCtorEq,k3,k4]
       exact⟨_,_,_,rfl,oX2,CY,rfl,rfl⟩
 ·rintro s ⟨T,G,cs,rfl,o2,C,t2,t5⟩
  have sr:=o2.w.at_
  have lw:cs.length=20:=o2.w.len
  have zG:G[H.length]?=some {cs:=zW}:=(C.d.2.1 H.length (qP z1) (by have:=hc.lt;omega)).trans z1
  have oc:cs.all AV.one=true:=o2.vd.ones
  have wr:=fun H r=>yX wX lw oc H r
  have CF:=((CurE.start hc).ext e1).dr C.d
  have bF:LclE G H.length H.length {cs:=zW}:=⟨zG,Nat.le_refl _⟩
  have CE:=CF.put bF {cs:=cs}
  have zF:(G.set H.length {cs:=cs})[H.length]?=some {cs:=cs}:=List.getElem?_set_self (qP zG)
  simp only[↓zP,zQ,↓qC,Nat.reduceLT,t5,sr,(wU lw),Nat.reduceEqDiff,t2,zG,wr,zF]
  exact⟨cs,rfl,CE.d,o2.fin e1.1 z1 _⟩
theorem world14 {H:qE}{rc:Nat}{xc:AV}{Lc:List Int}(hc:Cur H rc xc Lc)(hL:Lc.length≤4000000) :
  ∃ (ds:List AV)(i:Nat)(Z:qE),Sound Tryz.prog 35 [.ptr rc 0] H (.tup [.agg ds,.sc (.int .i64 (i:Int))]) Z∧Dr rc xc H Z∧i<2∧Vd Z H.length (KW 2 2 1 10000) ds:=by
 suffices h:∃ w Z,Sound Tryz.prog 35 [.ptr rc 0] H w Z∧∃ (ds:List AV)(i:Nat),w=.tup [.agg ds,.sc (.int .i64 (i:Int))]∧Dr rc xc H Z∧i<2∧Vd Z H.length (KW 2 2 1 10000) ds by
  obtain⟨w,Z,h1,ds,i,rfl,h2⟩:=h
  exact⟨ds,i,Z,h1,h2⟩
 refine zR 11 [.cell 2 38,.tmp 3] Tryz.func35 ?_
 obtain⟨H1,hH1⟩:∃ H1:qE,H1=H++[{cs:=zW}]:=⟨_,rfl⟩
 have e1:Ext H H1:=hH1▸Ext.more H _
 have z1:H1[H.length]?=some {cs:=zW}:=by rw[hH1];exact yA _ _
 have c1:=((CurE.start hc).ext e1).c
 obtain⟨n,Za,hn,a1,D1⟩:=yB c1 hL 12 (by omega) (by omega)
 have C1:=(CurE.start c1).dr D1
 obtain⟨ds,Zd,a4,D4,v4⟩:=someW C1.c hL (n+2) (by omega)
 have C4:=C1.dr D4
 obtain⟨i,Ze,hi,a5,D5⟩:=yB C4.c hL 2 (by omega) (by omega)
 have C5:=C4.dr D5
 have v5:=(v4.less C1.d.1).dr D5 (fun y hy=>(v4.less C1.d.1).new y hy rc C1.lt)
 have lds:ds.length=20:=v4.len
 have wr:=fun H r=>yX wX lds (v4.ones) H r
 have e3:IntKind.i64.wrap (2+(n:Int))=((n+2:Nat):Int):=by rw[w64 (by omega) (by omega)];omega
 have zG:Ze[H.length]?=some {cs:=zW}:=(C5.d.2.1 H.length (qP z1) (by have:=hc.lt;omega)).trans z1
 simp only[↓zP,zQ,↓qC,zw,wW,←hH1]
 refine qF rfl a1 ?_
 simp only[↓zP,zQ,e3]
 refine qF rfl a4 ?_
 simp only[↓zP,zQ]
 refine qF rfl a5 ?_
 have zF:(Ze.set H.length {cs:=ds})[H.length]?=some {cs:=ds}:=List.getElem?_set_self (qP zG)
 simp only[↓zP,zQ,zG,wr,zF,(wU lds)]
 have bF:LclE Ze H.length H.length {cs:=zW}:=⟨zG,Nat.le_refl _⟩
 have CE:=(((CurE.start hc).ext e1).dr C5.d).put bF {cs:=ds}
 exact⟨ds,i,rfl,CE.d,hi,(v5.less e1.1).keep fun y hy j hj hn=>List.getElem?_set_ne (by rintro rfl;exact hn (v5.new y hy _ (qP z1)))⟩
def zC:List AV:=[.sc (.int .i64 0),.sc (.int .i64 0),.sc (.int .i64 0),.sc (.int .i64 0),.sc (.int .i64 0),.sc (.bool false),.sc (.int .i64 0),.sc (.int .i64 0),.sc (.int .i64 0),.sc (.int .i64 0),.sc (.int .i64 0),.sc (.int .i64 0),.sc (.int .i64 0),.sc (.int .i64 0),.sc (.int .i64 0),.sc (.int .i64 0),.sc (.int .i64 0),.sc (.int .i64 0),.sc (.int .i64 0),.sc (.int .i64 0),.sc (.int .i64 0),.sc (.int .i64 0),.sc (.int .i64 0)]
theorem zc:xC Tryz.prog 48=some zC:=zero48
theorem zC_len:zC.length=23:=rfl
theorem zC_one:zC.all AV.one=true:=rfl
theorem any14 {H:qE}{rc:Nat}{xc:AV}{Lc:List Int}(hc:Cur H rc xc Lc)(hL:Lc.length≤4000000) :
  ∃ (ds:List AV)(p:Rw kClient)(Z:qE),Sound Tryz.prog 20 [.ptr rc 0] H (.tup [.agg ds,.agg p.cs]) Z∧Dr rc xc H Z∧ds.length=20∧ds.all AV.one=true:=by
 suffices h:∃ w Z,Sound Tryz.prog 20 [.ptr rc 0] H w Z∧∃ (ds:List AV)(p:Rw kClient),w=.tup [.agg ds,.agg p.cs]∧Dr rc xc H Z∧ds.length=20∧ds.all AV.one=true by
  obtain⟨w,Z,h1,ds,p,rfl,h2⟩:=h
  exact⟨ds,p,Z,h1,h2⟩
 refine Sound.runP (args:=[.ptr rc 0]) 47 [.cell 2 38,.cell 3 48] Tryz.func20 rfl rfl rfl rfl (by simp) (fun w Z=>∃ (ds:List AV)(p:Rw kClient),w=.tup [.agg ds,.agg p.cs]∧Dr rc xc H Z∧ds.length=20∧ds.all AV.one=true) ?_
 obtain⟨H0,hH0⟩:∃ H0:qE,H0=H++[{cs:=zW}]:=⟨_,rfl⟩
 obtain⟨H1,hH1⟩:∃ H1:qE,H1=H0++[{cs:=zC}]:=⟨_,rfl⟩
 have l0:H0.length=H.length+1:=by rw[hH0];simp
 have e1:Ext H H1:=(hH0▸Ext.more H _:Ext H H0).trans (hH1▸Ext.more H0 _)
 have z1:H1[H.length]?=some {cs:=zW}:=by rw[hH1,yS _ _ _ (by omega),hH0];exact yA _ _
 have z2:H1[H0.length]?=some {cs:=zC}:=by rw[hH1];exact yA _ _
 have c1:=((CurE.start hc).ext e1).c
 obtain⟨k,Za,hk,a1,D1⟩:=yB c1 hL 12 (by omega) (by omega)
 have C1:=(CurE.start c1).dr D1
 obtain⟨y,Zb,hy,a2,D2⟩:=yB C1.c hL 60 (by omega) (by omega)
 have C2:=C1.dr D2
 obtain⟨ds,i,Zd,a4,D4,hi,v4⟩:=world14 C2.c hL
 have C4:=C2.dr D4
 have lds:ds.length=20:=v4.len
 have ods:=v4.ones
 have wr:=fun H r=>yX wX lds ods H r
 obtain⟨Y,hY⟩:∃ Y:qE,Y=List.set (Zd++[{cs:=zW}]) Zd.length {cs:=ds}:=⟨_,rfl⟩
 obtain⟨o,eY⟩:=OW.box (H0:=H1) (v4.less C2.d.1) C4.d.1 hY
 have CY:=C4.ext eY
 have sy:=o.w.at_
 obtain⟨x,l,hx,hl,pl⟩:=o.w.gO 1 rfl
 have rx:=fun (o:Bool)(kk:Nat)=>qL hx o kk
 obtain⟨q,rfl,hq⟩:=hl.get (i:=i) (by omega)
 obtain⟨p,hp⟩:∃ p,l[i]?=some p:=⟨_,List.getElem?_eq_getElem (by omega)⟩
 have re:=fun (o:Bool)=>xD xI hp o
 have k1:(i:Int)<(l.length:Int):=by omega
 have k0:(0:Int)≤(i:Int):=by omega
 have k2:i<l.length:=by omega
 have pone:=p.ones
 have plen:p.cs.length=23:=p.cs_len
 have wp:=fun H r=>yX zC_len plen pone H r
 obtain⟨X,hX⟩:∃ X:qE,X=List.set (Y++[{cs:=zC}]) Y.length {cs:=p.cs}:=⟨_,rfl⟩
 have eX:Ext Y X:=by
  rw[hX]
  exact(Ext.more Y [{cs:=zC}]).set (Nat.le_refl _) _
 have CX:=CY.ext eX
 have sp:X[Y.length]?=some {cs:=p.cs}:=by rw[hX];exact List.getElem?_set_self (by simp)
 have sx:=(o.ext eX).w.at_
 have yl:Zd.length<Y.length:=qP sy
 have ax:∀ j,j<H1.length→j≠rc→X[j]?=H1[j]?:=CX.d.2.1
 have zx1:X[H.length]?=some {cs:=zW}:=(CX.d.2.1 _ (qP z1) (by have:=hc.lt;omega)).trans z1
 have zx2:X[H0.length]?=some {cs:=zC}:=(CX.d.2.1 _ (qP z2) (by have:=hc.lt;omega)).trans z2
 simp -implicitDefEqProofs only[↓zP,zQ,↓qC,zw,zc,Nat.reduceLT,reduceCtorEq,zC_one,wW,←hH0,←hH1]
 refine qF rfl a1 ?_
 simp -implicitDefEqProofs only[↓zP,zQ,↓qC,Nat.reduceLT,reduceCtorEq]
 refine qF rfl a2 ?_
 simp -implicitDefEqProofs only[↓zP,zQ,↓qC,Nat.reduceLT,reduceCtorEq]
 refine qF rfl a4 ?_
 simp -implicitDefEqProofs only[↓zP,zQ,Nat.reduceLT,Nat.reduceEqDiff,zw,wW,wr,←hY]
 rw[w_seq]
 simp -implicitDefEqProofs only[↓zP,zQ,Nat.reduceLT,Nat.reduceEqDiff,zc,zC_one,sy,rx,k0,k1,qB,hq,re,wp,←hX]
 refine w_cut1 (fun s=>∃ (T:Nat→AV)(G:qE)(p:Rw kClient),s=⟨qY 47 T,G⟩∧CurE H1 G rc xc Lc∧G[Zd.length]?=some {cs:=ds}∧G[Y.length]?=some {cs:=p.cs}∧T 2=.ptr H.length 0∧T 3=.ptr H0.length 0∧T 6=.ptr Zd.length 0∧T 8=.ptr Y.length 0) ?_ ?_
 ·have st:∀ (j:Nat)(b:Rw kClient)(z:Int),b.cs=p.cs.set j (.sc (.int .i64 z))→j<23→∃ G,uJ true 1 X Y.length (some {cs:=p.cs}) j (.sc (.int .i64 z))=some G∧CurE H1 G rc xc Lc∧G[Zd.length]?=some {cs:=ds}∧G[Y.length]?=some {cs:=b.cs}:=fun j b z hb hj=>by
   obtain⟨v,hv⟩:∃ v,p.cs[j]?=some v:=⟨_,List.getElem?_eq_getElem (by omega)⟩
   have bX:LclE X H1.length Y.length {cs:=p.cs}:=⟨sp,CY.d.1⟩
   exact⟨_,uO hv ⟨rfl,rfl⟩ _,CX.put bX _,(List.getElem?_set_ne (by omega)).trans sx,by rw[hb];exact List.getElem?_set_self (qP sp)⟩
  by_cases k0:(k:Int)=0
  ·obtain⟨j,hj,hj3⟩:=wJ y (n:=6) (by omega)
   obtain⟨b,hb,_,_⟩:=p.putI 3 rfl (show W64 (j:Int) by unfold W64;omega)
   obtain⟨G,w1,g1,g2,g3⟩:=st 3 b _ hb (by decide)
   simp -implicitDefEqProofs only[↓zP,zQ,↓qC,k0,Nat.reduceLT,Nat.reduceEqDiff,Int.reduceEq,hj,sp,w1]
   exact⟨_,G,b,rfl,g1,g2,g3,rfl,rfl,rfl,rfl⟩
  ·by_cases k1:(k:Int)=1
   ·obtain⟨j,hj,hj3⟩:=wJ y (n:=30) (by omega)
    have ej:IntKind.i64.wrap ((j:Int) - 1)=(j:Int) - 1:=w64 (by omega) (by omega)
    obtain⟨b,hb,_,_⟩:=p.putI 8 rfl (show W64 ((j:Int) - 1) by unfold W64;omega)
    obtain⟨G,w1,g1,g2,g3⟩:=st 8 b _ hb (by decide)
    simp -implicitDefEqProofs only[↓zP,zQ,↓qC,k1,Nat.reduceLT,Nat.reduceEqDiff,Int.reduceEq,sp,hj,ej,w1]
    exact⟨_,G,b,rfl,g1,g2,g3,rfl,rfl,rfl,rfl⟩
   ·by_cases k2:(k:Int)=2
    ·obtain⟨j,hj,hj3⟩:=wJ y (n:=7) (by omega)
     obtain⟨b,hb,_,_⟩:=p.putI 22 rfl (show W64 (j:Int) by unfold W64;omega)
     obtain⟨G,w1,g1,g2,g3⟩:=st 22 b _ hb (by decide)
     simp -implicitDefEqProofs only[↓zP,zQ,↓qC,k2,Nat.reduceLT,Nat.reduceEqDiff,Int.reduceEq,sp,hj,w1]
     exact⟨_,G,b,rfl,g1,g2,g3,rfl,rfl,rfl,rfl⟩
    ·by_cases k3:(k:Int)=3
     ·obtain⟨j,hj,hj3⟩:=wJ y (n:=4) (by omega)
      obtain⟨b,hb,_,_⟩:=p.putI 2 rfl (show W64 (j:Int) by unfold W64;omega)
      obtain⟨G,w1,g1,g2,g3⟩:=st 2 b _ hb (by decide)
      simp -implicitDefEqProofs only[↓zP,zQ,↓qC,k3,Nat.reduceLT,Nat.reduceEqDiff,Int.reduceEq,sp,hj,w1]
      exact⟨_,G,b,rfl,g1,g2,g3,rfl,rfl,rfl,rfl⟩
     ·simp -implicitDefEqProofs only[↓zP,zQ,↓qC,Nat.reduceLT,Nat.reduceEqDiff,k0,Int.reduceEq,k1,k2,k3]
      exact⟨_,_,p,rfl,CX,sx,sp,rfl,rfl,rfl,rfl⟩
 ·rintro s ⟨T,G,b,rfl,C,g1,g2,t2,t3,t6,t8⟩
  have bone:=b.ones
  have blen:b.cs.length=23:=b.cs_len
  have zG1:G[H.length]?=some {cs:=zW}:=(C.d.2.1 _ (qP z1) (by have:=hc.lt;omega)).trans z1
  have zG2:G[H0.length]?=some {cs:=zC}:=(C.d.2.1 _ (qP z2) (by have:=hc.lt;omega)).trans z2
  have wp:=fun H r=>yX zC_len blen bone H r
  have rdw:=fun (o:Bool)=>wU lds o
  have rdc:=fun (o:Bool)=>wU blen o
  have z1H:=qP z1
  have y1:H1.length≤Zd.length:=C4.d.1
  have zh:(G.set H.length {cs:=ds})[H0.length]?=some {cs:=zC}:=(List.getElem?_set_ne (by omega)).trans zG2
  have C1':=((CurE.start hc).ext e1).dr C.d
  have bF:LclE G H.length H.length {cs:=zW}:=⟨zG1,Nat.le_refl _⟩
  have CE:=C1'.put bF {cs:=ds}
  have bF2:LclE (G.set H.length {cs:=ds}) H.length H0.length {cs:=zC}:=⟨zh,by omega⟩
  have CE2:=CE.put bF2 {cs:=b.cs}
  have g3:(G.set H.length {cs:=ds})[Y.length]?=some {cs:=b.cs}:=(List.getElem?_set_ne (by omega)).trans g2
  have g4:((G.set H.length {cs:=ds}).set H0.length {cs:=b.cs})[Y.length]?=some {cs:=b.cs}:=(List.getElem?_set_ne (by omega)).trans g3
  have f1:((G.set H.length {cs:=ds}).set H0.length {cs:=b.cs})[H.length]?=some {cs:=ds}:=(List.getElem?_set_ne (by omega)).trans (List.getElem?_set_self (qP zG1))
  have f2:((G.set H.length {cs:=ds}).set H0.length {cs:=b.cs})[H0.length]?=some {cs:=b.cs}:=List.getElem?_set_self (qP zh)
  simp -implicitDefEqProofs only[↓qC]
  refine drawn [(0,0),(1,0),(1,3)] follows (by kernel_rfl) (by kernel_rfl) ?_
  simp -implicitDefEqProofs only[↓zP,zQ,Nat.reduceLT,t6,g1,rdw,Nat.reduceEqDiff,t8,g2,rdc,t2,zG1,t3,wr,zh,wp]
  refine⟨qI (same_calm (by kernel_rfl)) (qI (same_calm (by kernel_rfl)) (qI (qS _ _ Y.length 0 rfl t8 (g3.trans g2.symm)) qH)),?_⟩
  simp -implicitDefEqProofs only[zQ,f1,rdw,f2,rdc]
  exact⟨ds,b,rfl,CE2.d,lds,ods⟩
theorem OWX.box {H0 G Y:qE}{K:List CK}{ds:List AV}{z:Reg}(v:Vd G H0.length K ds)(h0:H0.length≤G.length)(hY:Y=List.set (G++[z]) G.length {cs:=ds}):OWX H0 Y G.length K ds∧Ext G Y:=by
 have e:Ext G Y:=by
  rw[hY]
  exact(Ext.more G [z]).set (Nat.le_refl _) _
 refine⟨⟨⟨(by rw[hY];exact List.getElem?_set_self (by simp):Y[G.length]?=some {cs:=ds}),v.len,fun i k x a b=>(v.ok i k x a b).ext e,fun x hx=>?_,v.sep⟩,h0,v.new⟩,e⟩
 obtain⟨j,hj⟩:=List.getElem?_of_mem hx
 exact(v.ok j _ x (List.getElem?_eq_getElem (by rw[←v.len];exact(List.getElem?_eq_some_iff.1 hj).1:j<K.length)) hj).lt (Nat.le_refl _)
theorem Dr.split {H Z:qE}{rc:Nat}{x:AV}(d:Dr rc x H Z)(h:rc<H.length):∃ H',H'.length=H.length∧Dr rc x H H'∧Ext H' Z:=by
 obtain⟨d1,d2,i,k,d3⟩:=d
 refine⟨H.set rc (cur x i k),by simp,⟨by simp,fun j _ hj=>List.getElem?_set_ne (Ne.symm hj),i,k,List.getElem?_set_self h⟩,by simpa using d1,fun j hj=>?_⟩
 rw[List.length_set] at hj
 by_cases e:j=rc
 ·subst e
  rw[d3,List.getElem?_set_self h]
 ·rw[List.getElem?_set_ne (Ne.symm e)]
  exact d2 j hj e
theorem Vd.cut {H:qE}{u a n:Nat}{K:List CK}{ds:List AV}(v:Vd H u K ds):Vd H u ((K.drop a).take n) ((ds.drop a).take n):=by
 have key:∀ {β:Type 1}(l:List β)(i:Nat)(x:β),((l.drop a).take n)[i]?=some x→l[a+i]?=some x:=fun l i x h=>by
  rw[List.getElem?_take] at h
  split at h
  ·rwa [List.getElem?_drop] at h
  ·cases h
 have key2:∀ (i:Nat)(x:AV),((ds.drop a).take n)[i]?=some x→ds[a+i]?=some x:=fun i x h=>by
  rw[List.getElem?_take] at h
  split at h
  ·rwa [List.getElem?_drop] at h
  ·cases h
 refine⟨by simp[v.len],fun i k x h1 h2=>v.ok _ k x (key K i k h1) (key2 i x h2),fun x hx=>v.new x (List.mem_of_mem_drop (List.mem_of_mem_take hx)),fun i j x y q hij hx hy=>v.sep _ _ x y q (by omega) (key2 i x hx) (key2 j y hy)⟩
theorem jC {H Z:qE}{x:AV}{k:IntKind}{L:List Int}(h:IsL H x k L)(e:Ext H Z):IsL Z x k L:=by
 rcases h with h | ⟨r,o,h1,h2⟩
 ·exact .inl h
 ·exact .inr ⟨r,o,h1,e.at h2⟩
theorem worldV {H:qE}{x:AV}{L:List Int}(hx:IsL H x .u8 L)(hL:L.length≤4000000) :
  ∃ (ds:List AV)(Z:qE),Sound Tryz.prog 32 [x] H (.agg ds) Z∧Ext H Z∧Vd Z H.length (KX 200000) ds:=by
 suffices h:∃ w Z,Sound Tryz.prog 32 [x] H w Z∧∃ ds,w=.agg ds∧Ext H Z∧Vd Z H.length (KX 200000) ds by
  obtain⟨w,Z,h1,ds,rfl,h2⟩:=h
  exact⟨ds,Z,h1,h2⟩
 refine zR 22 [.cell 2 38] Tryz.func32 ?_
 obtain⟨H1,hH1⟩:∃ H1:qE,H1=H++[{cs:=zW}]:=⟨_,rfl⟩
 have e1:Ext H H1:=hH1▸Ext.more H _
 have z1:H1[H.length]?=some {cs:=zW}:=by rw[hH1];exact yA _ _
 obtain⟨mo,q,m,qe,le,Za,a1,e2,wm,hq,hm,hqe,hle⟩:=eventsW (jC hx e1) hL
 obtain⟨ds,bb,Zb,a2,e3,v⟩:=runW mo wm (xr:=.sl q 0 m.length 3) (.inr ⟨q,true,rfl,hq⟩) hm (xe:=.sl qe 0 le.length 4) (.inr ⟨qe,true,rfl,hqe⟩) hle
 obtain⟨Y,hY⟩:∃ Y:qE,Y=List.set (Zb++[{cs:=zW}]) Zb.length {cs:=ds}:=⟨_,rfl⟩
 obtain⟨o,eY⟩:=OWX.box (H0:=H1) (v.less e2.1) (Nat.le_trans e2.1 e3.1) hY
 have lds:ds.length=20:=v.len
 have wr:=fun H r=>yX wX lds (v.ones) H r
 have sy:=o.w.at_
 have E:=(e2.trans e3).trans eY
 have zY:Y[H.length]?=some {cs:=zW}:=E.at z1
 have zF:(Y.set H.length {cs:=ds})[H.length]?=some {cs:=ds}:=List.getElem?_set_self (qP zY)
 simp only[↓zP,zQ,↓qC,zw,wW,←hH1]
 refine qF rfl a1 ?_
 simp only[↓zP,zQ,↓qC]
 refine qF rfl a2 ?_
 simp only[↓zP,zQ,zw,↓qC,wW,wr,←hY,sy,(wU lds),zY,zF]
 have oK:OWX H1 Y Zb.length (KX 200000) ds:=⟨o.w.kx (Nat.le_refl _) (by omega),o.fr,o.nw⟩
 exact⟨ds,rfl,(e1.trans E).set (Nat.le_refl _) _,oK.fin e1.1 z1 _⟩
theorem Vd.upX {H:qE}{u N M:Nat}{ds:List AV}(v:Vd H u (KX N) ds)(h:N≤M):Vd H u (KX M) ds:=by
 refine⟨v.len,fun i q' x h2 hx=>?_,v.new,v.sep⟩
 rcases i with _ | _ | _ | _ | _ | _ | _ | _ | _ | _ | _ | _ | _ | _ | _ | _ | _ | _ | _ | _ | i
 all_goals first | (cases h2;done) | (have h3:=v.ok _ _ x rfl hx;cases h2;first | exact h3 | (obtain⟨l,g1,g2⟩:=h3;exact⟨l,g1,Nat.le_trans g2 h⟩) | (obtain⟨l,g1,g2,g3⟩:=h3;exact⟨l,g1,Nat.le_trans g2 h,g3⟩))
theorem any19 {H:qE}{x1:AV}{L:List Int}(hx:IsL H x1 .u8 L)(hL:L.length≤4000000) :
  ∃ (ds:List AV)(Z:qE),Sound Tryz.prog 17 [x1] H (.agg ds) Z∧Ext H Z∧Vd Z H.length (KX 500000) ds:=by
 suffices h:∃ w Z,Sound Tryz.prog 17 [x1] H w Z∧∃ ds,w=.agg ds∧Ext H Z∧Vd Z H.length (KX 500000) ds by
  obtain⟨w,Z,h1,ds,rfl,h2⟩:=h
  exact⟨ds,Z,h1,h2⟩
 refine zR 88 [.cell 2 38] Tryz.func17 ?_
 obtain⟨Hz,hHz⟩:∃ Hz:qE,Hz=H++[{cs:=zW}]:=⟨_,rfl⟩
 have ez:Ext H Hz:=hHz▸Ext.more H _
 have zz:Hz[H.length]?=some {cs:=zW}:=by rw[hHz];exact yA _ _
 have hx1:=jC hx ez
 obtain⟨rc,H1,a0,hrc,c1,e0⟩:=drawNew hx1 hL
 have e1:=ez.trans e0
 have z1:H1[H.length]?=some {cs:=zW}:=e0.at zz
 obtain⟨k,Za,hk,a1,D1⟩:=yB c1 hL 12 (by omega) (by omega)
 have C1:=(CurE.start c1).dr D1
 obtain⟨y,Zb,hy,a2,D2⟩:=yB C1.c hL 60 (by omega) (by omega)
 have C2:=C1.dr D2
 obtain⟨ds,Zd,a4,e4,v4⟩:=worldV (C2.c.2) hL
 have C4:=C2.ext e4
 obtain⟨Y,hY⟩:∃ Y:qE,Y=List.set (Zd++[{cs:=zW}]) Zd.length {cs:=ds}:=⟨_,rfl⟩
 obtain⟨oY,eY⟩:=OWX.box (H0:=H1) (v4.less C2.d.1) C4.d.1 hY
 have CY:=C4.ext eY
 have oX:OWX H1 Y Zd.length (KX 500000) ds:=⟨oY.w.upX (by omega),oY.fr,oY.nw⟩
 have lds:ds.length=20:=v4.len
 have ods:=v4.ones
 have wr:=fun H r=>yX wX lds ods H r
 simp only[↓zP,zQ,↓qC,zw,wW,←hHz]
 refine qF rfl a0 ?_
 simp only[↓zP,zQ,↓qC]
 refine qF rfl a1 ?_
 simp only[↓zP,zQ,↓qC]
 refine qF rfl a2 ?_
 simp only[↓zP,zQ,↓qC]
 refine qF rfl a4 ?_
 simp only[↓zP,zQ,zw,wW,wr]
 rw[←hY]
 refine w_cut1 (fun s=>∃ (T:Nat→AV)(G:qE)(cs:List AV),s=⟨qY 88 T,G⟩∧OWX H1 G Zd.length (KX 500000) cs∧CurE H1 G rc x1 L∧T 2=.ptr H.length 0∧T 6=.ptr Zd.length 0) ?_ ?_
 ·by_cases k0:(k:Int)=0
  ·obtain⟨Y1,h1⟩:∃ Y1:qE,Y1=Y++[{cs:=[]}]:=⟨_,rfl⟩
   have ox:=oX.ext (Z:=Y1) (h1▸Ext.more _ _)
   have Cx:=CY.ext (Z:=Y1) (h1▸Ext.more _ _)
   have sx:=ox.w.at_
   have hs:Y1[Y.length]?=some {cs:=rows Rw.cs ([]:List (Rw kA))}:=by rw[h1];exact yA _ _
   obtain⟨x,hx0,_⟩:=oX.w.get 15 rfl
   obtain⟨Z,cs2,w1,_,ch⟩:=oX.w.new (k:=15) rfl hx0 (h1▸Ext.more _ _) (CkOk.rows (ks:=kA) (m:=7) (c:=(·≤500000)) (l:=[]) hs (by simp)) (Nat.le_refl _)
   have w2:uJ true 1 Y1 Zd.length (some {cs:=ds}) 15 (.sl Y.length 0 0 7)=some Z:=w1
   obtain⟨o2,g2,s2⟩:=oX.step ch.w ch.o CY.d.1
   simp -implicitDefEqProofs only[↓zP,zQ,↓qC,k0,←h1,sx,w2,Int.reduceEq,Nat.reduceAdd]
   exact⟨_,_,_,rfl,o2,CY.mk' g2 s2,rfl,rfl⟩
  ·by_cases k1:(k:Int)=1
   ·obtain⟨Y1,h1⟩:∃ Y1:qE,Y1=Y++[{cs:=[]}]:=⟨_,rfl⟩
    have ox:=oX.ext (Z:=Y1) (h1▸Ext.more _ _)
    have Cx:=CY.ext (Z:=Y1) (h1▸Ext.more _ _)
    have sx:=ox.w.at_
    have hs:Y1[Y.length]?=some {cs:=rows Rw.cs ([]:List (Rw kA))}:=by rw[h1];exact yA _ _
    obtain⟨x,hx0,_⟩:=oX.w.get 17 rfl
    obtain⟨Z,cs2,w1,_,ch⟩:=oX.w.new (k:=17) rfl hx0 (h1▸Ext.more _ _) (CkOk.rows (ks:=kA) (m:=7) (c:=(·≤500000)) (l:=[]) hs (by simp)) (Nat.le_refl _)
    have w2:uJ true 1 Y1 Zd.length (some {cs:=ds}) 17 (.sl Y.length 0 0 7)=some Z:=w1
    obtain⟨o2,g2,s2⟩:=oX.step ch.w ch.o CY.d.1
    simp -implicitDefEqProofs only[↓zP,zQ,↓qC,k1,Int.reduceEq,←h1,sx,w2,Nat.reduceAdd]
    exact⟨_,_,_,rfl,o2,CY.mk' g2 s2,rfl,rfl⟩
   ·by_cases k2:(k:Int)=2
    ·obtain⟨x,l,hx0,hl,pl⟩:=oY.w.gO 18 rfl
     have rx:=qL hx0
     have sy:=oX.w.at_
     obtain⟨x',Ga,Zf,cs3,ap,one,gr,wr1,hx2,hl2,Cf⟩:=oX.w.apC (k:=18) apS36 apN36 xG rfl hx0 hl (hl.src xG) (by omega) (by simp only[List.length_append];omega)
     obtain⟨o2,g2,s2⟩:=oX.step Cf.w Cf.o CY.d.1
     simp -implicitDefEqProofs only[↓zP,zQ,↓qC,k2,Int.reduceEq,sy,rx,ap,gr,wr1,Nat.reduceAdd]
     exact⟨_,_,_,rfl,o2,CY.mk' g2 s2,rfl,rfl⟩
    ·by_cases k3:(k:Int)=3
     ·obtain⟨x,l,hx0,hl,pl⟩:=oY.w.gO 16 rfl
      simp -implicitDefEqProofs only[↓zP,zQ,↓qC,k3,Int.reduceEq,Nat.reduceAdd]
      refine yL (ι:=Nat) (fun i s=>∃ (T:Nat→AV)(G:qE)(cs:List AV),s=⟨qY 88 T,G⟩∧OWX H1 G Zd.length (KX (200000+i)) cs∧CurE H1 G rc x1 L∧i≤l.length∧cs[16]?=some x∧OwnX Rw.cs 7 G x l∧T 2=.ptr H.length 0∧T 6=.ptr Zd.length 0∧T 7=.sc (.int .i64 (i:Int))) (fun i=>l.length - i) ?_ (i:=0) ?_
      ·rintro i s ⟨T,G,cs,rfl,o,C,hi,hx16,hl16,t2,t6,t7⟩
       have sr:=o.w.at_
       have rx:=qL hx16
       have ll:=fun e=>hl16.len e
       by_cases h:i<l.length
       ·have kl:(i:Int)<(l.length:Int):=by omega
        have kz:(0:Int)≤(i:Int):=by omega
        have ew:IntKind.i64.wrap ((i:Int)+1)=((i+1:Nat):Int):=by rw[w64 (by omega) (by omega)];omega
        obtain⟨q,rfl,hq⟩:=hl16.get h
        obtain⟨p,hp⟩:∃ p,l[i]?=some p:=⟨_,List.getElem?_eq_getElem h⟩
        have re:=fun (o:Bool)(kk:Nat)=>(qX xG (k:=kk) hp (j:=2) (by decide) o).trans (p.int_at 2 rfl).1
        obtain⟨x13,l13,hx13,hl13,pl13,pw13⟩:=o.w.gO 13 rfl
        obtain⟨Y1,h1⟩:∃ Y1:qE,Y1=G++[{cs:=ints .i64 [p.int 2]}]:=⟨_,rfl⟩
        have ex:Ext G Y1:=h1▸Ext.more _ _
        have ox:OWX H1 Y1 Zd.length (KX (200000+(i+1))) cs:=⟨(o.ext ex).w.upX (by omega),o.fr,o.nw⟩
        have Cx:=C.ext ex
        have sx:=ox.w.at_
        obtain⟨x',Ga,Zf,cs3,ap,one,gr,wr1,hx2,hl2,Cf⟩:=ox.w.apC (k:=13) uV uU vD rfl hx13 (hl13.ext ex) (xX (L:=[p.int 2]) (n:=1) (by rw[h1];exact yA _ _) rfl) (by simp only[List.length_cons,List.length_nil];omega) ⟨by simp only[List.length_append,List.length_cons,List.length_nil];omega,pw_app pw13 (p.w64 2 rfl)⟩
        obtain⟨o2,g2,s2⟩:=ox.step Cf.w Cf.o Cx.d.1
        have hl3:=(hl16.ext ex).chg Cf (by decide) hx16
        have hx3:=Cf.cc 16 _ (by decide) hx16
        simp only[↓zP,zQ,↓qC,t7,t6,reduceCtorEq,sr,rx,ll,kl]
        refine zD [(1,0),(3,0),(7,0)] ?_
        simp only[↓zP,zQ,t6,t7,sr,rx,kz,kl,qB,hq,re,←h1,(qL hx13),ap,gr,wr1]
        refine⟨zA,?_⟩
        simp only[ew]
        refine⟨i+1,by omega,_,_,_,rfl,o2,Cx.mk' g2 s2,by omega,hx3,hl3,?_,?_,?_⟩<;>simp only[zQ,t2,t6]<;>rfl
       ·have kl:¬ (i:Int)<(l.length:Int):=by omega
        simp only[↓zP,zQ,↓qC,t7,t6,reduceCtorEq,sr,rx,ll,kl]
        refine⟨_,_,_,rfl,⟨o.w.upX (by omega),o.fr,o.nw⟩,C,?_,?_⟩<;>simp only[zQ,t2,t6]<;>rfl
      ·exact⟨_,_,_,rfl,⟨oY.w.upX (by omega),oY.fr,oY.nw⟩,CY,Nat.zero_le _,hx0,hl,rfl,rfl,rfl⟩
     ·by_cases k4:(k:Int)=4
      ·have b1:qT Tryz.prog 67 [(0,.sc (.int .i64 (y:Int)))]=some (.agg [.sc (.int .i64 (y:Int)),.sc (.int .i64 0),.sc (.int .i64 0),.sc (.int .i64 0)]):=by simp[qT,yR,yT,qW,yF,yI,xJ,xU,xN,yO,Tryz.underlying67,zero67,tyOk67,cells67,qR,qO]
       have b2:qT Tryz.prog 69 [(1,.agg [.sc (.int .i64 (y:Int)),.sc (.int .i64 0),.sc (.int .i64 0),.sc (.int .i64 0)])]=some (.agg [.sc (.int .i64 0),.sc (.int .i64 (y:Int)),.sc (.int .i64 0),.sc (.int .i64 0),.sc (.int .i64 0)]):=by simp[qT,yR,yT,qW,yF,yI,xJ,xU,xN,yO,Tryz.underlying69,zero69,tyOk67,cells67,qR,qO]
       obtain⟨p,hp⟩:=(.int (z:=0) (by unfold W64;omega) (.int (z:=(y:Int)) (by unfold W64;omega) (.int (z:=0) (by unfold W64;omega) (.int (z:=0) (by unfold W64;omega) (.int (z:=0) (by unfold W64;omega) .nil)))):RowOk kOut _)
       obtain⟨x,l,hx0,hl,pl⟩:=oY.w.gO 8 rfl
       have rx:=qL hx0
       obtain⟨Y1,h1⟩:∃ Y1:qE,Y1=Y++[{cs:=[.sc (.int .i64 0),.sc (.int .i64 (y:Int)),.sc (.int .i64 0),.sc (.int .i64 0),.sc (.int .i64 0)]}]:=⟨_,rfl⟩
       have ox:=oX.ext (Z:=Y1) (h1▸Ext.more _ _)
       have Cx:=CY.ext (Z:=Y1) (h1▸Ext.more _ _)
       have sy:=oX.w.at_
       have sx:=ox.w.at_
       have hs:Y1[Y.length]?=some {cs:=p.cs}:=by rw[hp,h1];exact yA _ _
       obtain⟨x',Ga,Zf,cs3,ap,one,gr,wr1,hx2,hl2,Cf⟩:=ox.w.apC (k:=8) apS32 apN32 jX rfl hx0 (hl.ext (h1▸Ext.more _ _)) (xL jX (a:=p) hs) (by simp only[List.length_cons,List.length_nil];omega) (by simp only[List.length_append,List.length_cons,List.length_nil];omega)
       obtain⟨o2,g2,s2⟩:=ox.step Cf.w Cf.o Cx.d.1
       simp -implicitDefEqProofs only[↓zP,zQ,↓qC,k4,Int.reduceEq,sy,b1,Nat.reduceAdd,b2,←h1,rx,ap,gr,wr1]
       exact⟨_,_,_,rfl,o2,Cx.mk' g2 s2,rfl,rfl⟩
      ·by_cases k5:(k:Int)=5
       ·obtain⟨ds2,Ze,a5,D5,v5⟩:=any17 CY.c hL
        obtain⟨Yb,lb,Db,eb⟩:=D5.split (CY.c).lt
        have ob:=oX.dr Db CY.lt
        have Cb:=CY.dr Db
        have se:=(ob.ext eb).w.at_
        have v6:Vd Ze Yb.length (KX 500000) ds2:=by rw[lb];exact v5.upX (by omega)
        have l2:ds2.length=20:=v5.len
        have f2:fldT Tryz.prog 38 (.agg ds2) 3=some (.agg ((ds2.drop 3).take 7)):=by simp[fldT,Tryz.underlying38,fldV,tyOk34,partA,agg34,cells34,l2]
        obtain⟨wo1,wo2⟩:=ob.w.over (n:=3) (J:=((KX 500000).drop 3).take 7) eb (v6.cut (a:=3) (n:=7)) rfl (by show 3+7≤20;omega)
        obtain⟨o2,g2,s2⟩:=ob.step wo1 wo2 Cb.d.1
        simp -implicitDefEqProofs only[↓zP,zQ,↓qC,k5,Int.reduceEq,Nat.reduceAdd]
        refine qF rfl a5 ?_
        have w7:=wr_agg (cs:=ds) (H:=Ze) (r:=Zd.length) (n:=3) (m:=7) (v6.cut (a:=3) (n:=7)).len (v6.cut (a:=3) (n:=7)).ones (by omega)
        simp only[↓zP,zQ,f2,se,w7]
        exact⟨_,_,_,rfl,o2,Cb.mk' g2 s2,rfl,rfl⟩
       ·by_cases k6:(k:Int)=6
        ·obtain⟨j,hj,hj3⟩:=wJ y (n:=2) (by omega)
         obtain⟨i,hi,hi3⟩:=wJ y (n:=3) (by omega)
         have ea:IntKind.i64.wrap (1+(j:Int))=1+(j:Int):=w64 (by omega) (by omega)
         have b1:qT Tryz.prog 72 [(0,.sc (.int .i64 (1+(j:Int)))),(2,.sc (.int .i64 (y:Int))),(5,.sc (.int .i64 (y:Int))),(6,.sc (.bool (decide (0<(i:Int)))))]=some (.agg [.sc (.int .i64 (1+(j:Int))),.sc (.int .i64 0),.sc (.int .i64 (y:Int)),.sc (.int .i64 0),.sc (.int .i64 0),.sc (.int .i64 (y:Int)),.sc (.bool (decide (0<(i:Int))))]):=by simp[qT,yR,yT,qW,yF,yI,xJ,xU,xN,yO,Tryz.underlying72,jO,qR,qO,tyOk4,jJ]
         obtain⟨p,hp⟩:=(.int (z:=1+(j:Int)) (by unfold W64;omega) (.int (z:=0) (by unfold W64;omega) (.int (z:=(y:Int)) (by unfold W64;omega) (.int (z:=0) (by unfold W64;omega) (.int (z:=0) (by unfold W64;omega) (.int (z:=(y:Int)) (by unfold W64;omega) (.bool (b:=decide (0<(i:Int))) .nil)))))):RowOk kA _)
         obtain⟨x,l,hx0,hl,pl⟩:=oY.w.gO 16 rfl
         have rx:=qL hx0
         obtain⟨Y1,h1⟩:∃ Y1:qE,Y1=Y++[{cs:=[.sc (.int .i64 (1+(j:Int))),.sc (.int .i64 0),.sc (.int .i64 (y:Int)),.sc (.int .i64 0),.sc (.int .i64 0),.sc (.int .i64 (y:Int)),.sc (.bool (decide (0<(i:Int))))]}]:=⟨_,rfl⟩
         have ox:=oX.ext (Z:=Y1) (h1▸Ext.more _ _)
         have Cx:=CY.ext (Z:=Y1) (h1▸Ext.more _ _)
         have sy:=oX.w.at_
         have sx:=ox.w.at_
         have hs:Y1[Y.length]?=some {cs:=p.cs}:=by rw[hp,h1];exact yA _ _
         obtain⟨x',Ga,Zf,cs3,ap,one,gr,wr1,hx2,hl2,Cf⟩:=ox.w.apC (k:=16) apS36 apN36 xG rfl hx0 (hl.ext (h1▸Ext.more _ _)) (xL xG (a:=p) hs) (by simp only[List.length_cons,List.length_nil];omega) (by simp only[List.length_append,List.length_cons,List.length_nil];omega)
         obtain⟨o2,g2,s2⟩:=ox.step Cf.w Cf.o Cx.d.1
         simp -implicitDefEqProofs only[↓zP,zQ,↓qC,k6,Int.reduceEq,sy,Nat.reduceAdd,hj,hi,ea,b1,←h1,rx,ap,gr,wr1]
         exact⟨_,_,_,rfl,o2,Cx.mk' g2 s2,rfl,rfl⟩
        ·simp -implicitDefEqProofs only[↓zP,zQ,↓qC,k0,k1,k2,k3,k4,Nat.reduceAdd,k5,k6,Int.reduceEq]
         exact⟨_,_,_,rfl,oX,CY,rfl,rfl⟩
 ·rintro s ⟨T,G,cs,rfl,o2,C,t2,t6⟩
  have sr:=o2.w.at_
  have lw:cs.length=20:=o2.w.len
  have zG:G[H.length]?=some {cs:=zW}:=(C.d.2.1 H.length (qP z1) (by have:=qP zz;omega)).trans z1
  have oc:cs.all AV.one=true:=o2.vd.ones
  have wr:=fun H r=>yX wX lw oc H r
  have zF:(G.set H.length {cs:=cs})[H.length]?=some {cs:=cs}:=List.getElem?_set_self (qP zG)
  simp only[↓zP,zQ,↓qC,t6,sr,(wU lw),t2,zG,wr,zF]
  have EF:Ext H G:=⟨Nat.le_trans e1.1 C.d.1,fun i hi=>(C.d.2.1 i (Nat.lt_of_lt_of_le hi e1.1) (by have:=ez.1;omega)).trans (e1.2 i hi)⟩
  exact⟨cs,rfl,EF.set (Nat.le_refl _) _,o2.fin e1.1 z1 _⟩
theorem drawShowWorld {H:qE}{x:AV}{L:List Int}(hx:IsL H x .u8 L)(hL:L.length≤4000000) :
  ∃ (ds:List AV)(Z:qE),Sound Tryz.prog 5 [x] H (.agg ds) Z∧Ext H Z∧Vd Z H.length (KX 500000) ds:=by
 suffices h:∃ w Z,Sound Tryz.prog 5 [x] H w Z∧∃ ds,w=.agg ds∧Ext H Z∧Vd Z H.length (KX 500000) ds by
  obtain⟨w,Z,h1,ds,rfl,h2⟩:=h
  exact⟨ds,Z,h1,h2⟩
 refine zR 5 [.cell 2 38] Tryz.func5 ?_
 obtain⟨H1,hH1⟩:∃ H1:qE,H1=H++[{cs:=zW}]:=⟨_,rfl⟩
 have e1:Ext H H1:=hH1▸Ext.more H _
 have z1:H1[H.length]?=some {cs:=zW}:=by rw[hH1];exact yA _ _
 obtain⟨ds,Z,a1,e2,v⟩:=any19 (jC hx e1) hL
 have lds:ds.length=20:=v.len
 have ods:=v.ones
 have wr:=fun H r=>yX wX lds ods H r
 have zZ:Z[H.length]?=some {cs:=zW}:=e2.at z1
 have zF:(Z.set H.length {cs:=ds})[H.length]?=some {cs:=ds}:=List.getElem?_set_self (qP zZ)
 simp only[↓zP,zQ,↓qC,zw,wW,←hH1]
 refine qF rfl a1 ?_
 simp only[↓zP,zQ,zZ,wr,zF,(wU lds)]
 exact⟨ds,rfl,(e1.trans e2).set (Nat.le_refl _) _,(v.less e1.1).keep fun y hy j hj hn=>List.getElem?_set_ne (by rintro rfl;exact hn (v.new y hy _ (qP z1)))⟩
theorem drawShowClient {H:qE}{x:AV}{L:List Int}(hx:IsL H x .u8 L)(hL:L.length≤4000000) :
  ∃ (p:Rw kClient)(Z:qE),Sound Tryz.prog 8 [x] H (.agg p.cs) Z∧Ext H Z:=by
 suffices h:∃ w Z,Sound Tryz.prog 8 [x] H w Z∧∃ p:Rw kClient,w=.agg p.cs∧Ext H Z by
  obtain⟨w,Z,h1,p,rfl,h2⟩:=h
  exact⟨p,Z,h1,h2⟩
 refine zR 12 [.cell 2 48] Tryz.func8 ?_
 obtain⟨H1,hH1⟩:∃ H1:qE,H1=H++[{cs:=zC}]:=⟨_,rfl⟩
 have e1:Ext H H1:=hH1▸Ext.more H _
 have z1:H1[H.length]?=some {cs:=zC}:=by rw[hH1];exact yA _ _
 obtain⟨rc,Za,a0,hrc,c0,e0⟩:=drawNew (jC hx e1) hL
 obtain⟨ds,p,Zb,a1,D1,lds,ods⟩:=any14 c0 hL
 have e2:Ext H1 Zb:=D1.ext e0 hrc
 have plen:p.cs.length=23:=p.cs_len
 have wr:=fun H r=>yX wX lds ods H r
 have wp:=fun H r=>yX zC_len plen p.ones H r
 obtain⟨Y1,hY1⟩:∃ Y:qE,Y=Zb++[{cs:=zW}]:=⟨_,rfl⟩
 obtain⟨Y2,hY2⟩:∃ Y:qE,Y=Y1++[{cs:=zC}]:=⟨_,rfl⟩
 obtain⟨Y3,hY3⟩:∃ Y:qE,Y=List.set Y2 Zb.length {cs:=ds}:=⟨_,rfl⟩
 obtain⟨Y4,hY4⟩:∃ Y:qE,Y=List.set Y3 Y1.length {cs:=p.cs}:=⟨_,rfl⟩
 have l1:Y1.length=Zb.length+1:=by rw[hY1];simp
 have f2:Y2[Zb.length]?=some {cs:=zW}:=by rw[hY2,yS _ _ _ (by omega),hY1];exact yA _ _
 have f3:Y3[Y1.length]?=some {cs:=zC}:=by rw[hY3,List.getElem?_set_ne (by omega),hY2];exact yA _ _
 have f4:Y4[Y1.length]?=some {cs:=p.cs}:=by rw[hY4];exact List.getElem?_set_self (qP f3)
 have E4:Ext H1 Y4:=by
  rw[hY4,hY3,hY2,hY1]
  exact(((e2.trans (Ext.more _ _)).trans (Ext.more _ _)).set e2.1 _).set (by have:=e2.1;simp;omega) _
 have f5:Y4[H.length]?=some {cs:=zC}:=E4.at z1
 have f6:(Y4.set H.length {cs:=p.cs})[H.length]?=some {cs:=p.cs}:=List.getElem?_set_self (qP f5)
 simp only[↓zP,zQ,↓qC,zc,zC_one,←hH1]
 refine qF rfl a0 ?_
 simp only[↓zP]
 refine qF rfl a1 ?_
 simp only[↓zP,zQ,zw,zc,↓qC,zC_one,wW,←hY1,←hY2,f2,wr,←hY3,f3,wp,←hY4,f4,(wU plen),f5,f6]
 exact⟨p,rfl,(e1.trans E4).set (Nat.le_refl _) _⟩
def zG:List AV:=[.sc (.int .i64 0),.sc (.int .i64 0),.sc (.slice none 0 0),.sc (.slice none 0 0),.sc (.slice none 0 0),.sc (.slice none 0 0),.sc (.int .i64 0)]
theorem zg:xC Tryz.prog 34=some zG:=zero34
theorem zG_len:zG.length=7:=rfl
theorem zG_one:zG.all AV.one=true:=rfl
theorem drawShowGate {H:qE}{x:AV}{L:List Int}(hx:IsL H x .u8 L)(hL:L.length≤4000000) :
  ∃ (ds:List AV)(Z:qE),Sound Tryz.prog 9 [x] H (.agg ds) Z∧Ext H Z∧Vd Z H.length (((KX 20000).drop 3).take 7) ds:=by
 suffices h:∃ w Z,Sound Tryz.prog 9 [x] H w Z∧∃ ds,w=.agg ds∧Ext H Z∧Vd Z H.length (((KX 20000).drop 3).take 7) ds by
  obtain⟨w,Z,h1,ds,rfl,h2⟩:=h
  exact⟨ds,Z,h1,h2⟩
 refine zR 9 [.cell 2 34] Tryz.func9 ?_
 obtain⟨H1,hH1⟩:∃ H1:qE,H1=H++[{cs:=zG}]:=⟨_,rfl⟩
 have e1:Ext H H1:=hH1▸Ext.more H _
 have z1:H1[H.length]?=some {cs:=zG}:=by rw[hH1];exact yA _ _
 obtain⟨rc,Za,a0,hrc,c0,e0⟩:=drawNew (jC hx e1) hL
 obtain⟨ds,Zb,a1,D1,v⟩:=any17 c0 hL
 have e2:Ext H1 Zb:=D1.ext e0 hrc
 obtain⟨Y,hY⟩:∃ Y:qE,Y=List.set (Zb++[{cs:=zW}]) Zb.length {cs:=ds}:=⟨_,rfl⟩
 obtain⟨o,eY⟩:=OWX.box (H0:=H1) (v.less e0.1) e2.1 hY
 have E4:Ext H1 Y:=e2.trans eY
 have lds:ds.length=20:=v.len
 have wr:=fun H r=>yX wX lds (v.ones) H r
 have v7:=o.vd.cut (a:=3) (n:=7)
 have l7:((ds.drop 3).take 7).length=7:=v7.len
 have o7:=v7.ones
 have w7:=fun H r=>yX zG_len l7 o7 H r
 have rg:∀ o:Bool,jG true true 7 (some ⟨ds,o,true⟩) 3=some (.agg ((ds.drop 3).take 7)):=fun o=>by simp only[jG,if_true,true_and,show 3+7≤ds.length by omega]
 have sy:=o.w.at_
 have f5:Y[H.length]?=some {cs:=zG}:=E4.at z1
 have f6:(Y.set H.length {cs:=(ds.drop 3).take 7})[H.length]?=some {cs:=(ds.drop 3).take 7}:=List.getElem?_set_self (qP f5)
 simp -implicitDefEqProofs only[↓w_seq,↓w_region,↓ops_cons,↓g_alloc,zg,Option.map_some,↓ops_nil,↓g_move,Nat.reduceLT,ev_tab,ne_eq,reduceCtorEq,not_false_eq_true,upd_ne,par0,alK_some,zG_one,←hH1,true_and]
 refine qF rfl a0 ?_
 simp -implicitDefEqProofs only[↓ops_cons]
 refine qF rfl a1 ?_
 simp -implicitDefEqProofs only[↓ops_cons,↓g_alloc,zw,Option.map_some,↓g_store,Nat.reduceLT,ev_tab,upd_eq,ne_eq,Nat.reduceEqDiff,not_false_eq_true,upd_ne,↓ops_nil,↓w_seq,↓w_region,↓g_fieldAddrT,↓g_load,wr_def,tyOk34,cells34,↓w_ret,retP_1,res_cell,rd_def,agg34,alK_some,wW,tyOk38,cells38,yA,wr,←hY,fadr38_3,Nat.zero_add,onS_some,sy,rg,f5,w7,f6,(wU l7),true_and]
 exact⟨_,rfl,(e1.trans E4).set (Nat.le_refl _) _,(v7.less e1.1).keep fun y hy j hj hn=>List.getElem?_set_ne (by rintro rfl;exact hn (v7.new y hy _ (qP z1)))⟩
end
end Go.Proofs.YtjdajobflgkebaaGreatDoor.Sim
