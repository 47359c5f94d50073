/- Texts of this proof, put together and made small by a program: part 6. -/
import Derived.Test.YtjdajobflgkebaaGreatDoorK5
set_option linter.all false
set_option maxRecDepth 100000
set_option maxHeartbeats 40000000
namespace Go.Proofs.YtjdajobflgkebaaGreatDoor.Sim
open Go
section
attribute [local irreducible] kO uW kR wQ
abbrev vX:List Kd:=[.i .i64,.i .i64]
theorem encMail:Enc (Rw.cs (ks:=vX)) 2:=Rw.encs (by decide)
def CInts (c:Nat→Prop):CK:=.own intF 1 (fun l:List Int=>c l.length∧∀ z,z∈l→W64 z)
def xV (ks:List Kd)(m:Nat)(c:Nat→Prop):CK:=.own (Rw.cs (ks:=ks)) m (fun l=>c l.length)
def KG (N:Nat):List CK:=[.int W64,.int W64,xV kSess 20 (·≤64),xV kLease 2 (·≤N),xV xM 3 (·≤N),xV kOut 5 (·≤N),.int W64]
def KW (c a k N:Nat):List CK:=[.nds (fun l=>l.length≤3000∧rt l),xV kClient 23 (·=c),CInts (·=a),.int W64,.int W64,xV kSess 20 (·≤64),xV kLease 2 (·≤N),xV xM 3 (·≤N),xV kOut 5 (·≤N),.int W64,
 xV kT 3 (·≤N),.int W64,.int W64,CInts (fun n=>k≤n∧n≤N),CInts (·≤N),xV kA 7 (·≤N),xV kA 7 (·≤N),xV kA 7 (·≤N),xV kA 7 (·≤N),CInts (·≤N)]
section
variable {H Z H0 : qE} {r : Nat} {K : List CK} {cs cs' cs0 : List AV}
theorem Wd.gI (w:Wd H r K cs)(k:Nat){P:Int→Prop}(hk:K[k]?=some (.int P)):∃ z,cs[k]?=some (.sc (.int .i64 z))∧P z:=by
 obtain⟨x,hx,z,rfl,hz⟩:=w.get k hk
 exact⟨z,hx,hz⟩
theorem Wd.gO {α:Type}{f:α→List AV}{m:Nat}{P:List α→Prop}(w:Wd H r K cs)(k:Nat)(hk:K[k]?=some (.own f m P)):∃ x l,cs[k]?=some x∧OwnX f m H x l∧P l:=by
 obtain⟨x,hx,l,hl,hp⟩:=w.get k hk
 exact⟨x,l,hx,hl,hp⟩
theorem Wd.up {c a k N:Nat}(w:Wd H r (KW c a k N) cs){M:Nat}(h:N≤M):Wd H r (KW c a k M) cs:=by
 refine w.mono rfl fun i q q' x h1 h2 h3=>?_
 rcases i with _ | _ | _ | _ | _ | _ | _ | _ | _ | _ | _ | _ | _ | _ | _ | _ | _ | _ | _ | _ | i
 all_goals first | (cases h1;done) | (cases h1;cases h2;first | exact h3 | (obtain⟨l,g1,g2⟩:=h3;exact⟨l,g1,Nat.le_trans g2 h⟩) | (obtain⟨l,g1,g2,g3⟩:=h3;exact⟨l,g1,Nat.le_trans g2 h,g3⟩) | (obtain⟨l,g1,⟨g2,g4⟩,g3⟩:=h3;exact⟨l,g1,⟨g2,Nat.le_trans g4 h⟩,g3⟩))
theorem Wd.setRow {α:Type}{f:α→List AV}{m k i q n:Nat}{P:List α→Prop}{x:AV}{l:List α}{b:α}(w:Wd H r K cs)(hk:K[k]?=some (.own f m P))(hx:cs[k]?=some x)(hl:OwnX f m H x l)(e:x=.sl q 0 n m)(hi:i<l.length)(hb:P (l.set i b)) :
  Wd (H.set q {cs:=rows f (l.set i b)}) r K cs∧OnlyW H (H.set q {cs:=rows f (l.set i b)}) r cs cs∧OwnX f m (H.set q {cs:=rows f (l.set i b)}) x (l.set i b):=by
 obtain⟨q',h1,h2⟩:=hl.get hi
 rw[e] at h1
 injection h1 with a1 _ a3
 subst a1
 have hq:q≠r:=fun h=>w.out x (List.mem_of_getElem? hx) q 0 n m e h.symm
 have hs:cs.set k x=cs:=set_same hx
 have ho:OwnX f m (H.set q {cs:=rows f (l.set i b)}) x (l.set i b):=.inr ⟨q,by rw[e,a3,List.length_set],List.getElem?_set_self (qP h2)⟩
 have:=w.put (Z:=H.set q {cs:=rows f (l.set i b)}) (y:=x) hx hk (by rw[List.length_set];exact Nat.le_refl _) (fun j _ _ hj=>List.getElem?_set_ne fun h=>hj q 0 n m e h.symm) (by rw[hs,List.getElem?_set_ne hq];exact w.at_) ⟨_,ho,hb⟩ (fun _ _ h=>h)
 rw[hs] at this
 exact⟨this.1,this.2,ho⟩
def LclW (H:qE)(u r:Nat)(cs:List AV)(i:Nat)(g:Reg):Prop:=H[i]?=some g∧u≤i∧i≠r∧∀ x,x∈cs→NotIn x i
section
variable {u i j : Nat} {g : Reg}
theorem LclW.ext (h:LclW H u r cs i g)(e:Ext H Z):LclW Z u r cs i g:=⟨e.at h.1,h.2⟩
theorem LclW.only (h:LclW H u r cs i g)(o:OnlyW H Z r cs cs'):LclW Z u r cs' i g:=⟨(o.at_ i (qP h.1) h.2.2.1 h.2.2.2).trans h.1,h.2.1,h.2.2.1,o.nw i (qP h.1) h.2.2.2⟩
theorem LclW.put (h:LclW H u r cs i g)(g':Reg):LclW (H.set i g') u r cs i g':=⟨List.getElem?_set_self (qP h.1),h.2⟩
theorem LclW.oth (h:LclW H u r cs i g)(hj:j≠i)(g':Reg):LclW (H.set j g') u r cs i g:=⟨(List.getElem?_set_ne hj).trans h.1,h.2⟩
end
structure WS (H0 H:qE) (r:Nat) (K:List CK) (cs0 cs:List AV):Prop where
 w:Wd H r K cs
 o:OnlyW H0 H r cs0 cs
theorem WS.start (w:Wd H r K cs):WS H H r K cs cs:=⟨w,.refl ..⟩
theorem WS.ext (s:WS H0 H r K cs0 cs)(e:Ext H Z):WS H0 Z r K cs0 cs:=⟨s.w.ext e,s.o.trans (.ext e r cs)⟩
theorem WS.call {K':List CK}(s:WS H0 H r K cs0 cs)(w:Wd Z r K' cs')(o:OnlyW H Z r cs cs'):WS H0 Z r K' cs0 cs':=⟨w,s.o.trans o⟩
theorem WS.up {c a k N M:Nat}(s:WS H0 H r (KW c a k N) cs0 cs)(h:N≤M):WS H0 H r (KW c a k M) cs0 cs:=⟨s.w.up h,s.o⟩
theorem WS.alloc (s:WS H0 H r K cs0 cs){i:Nat}(hi:H.length=i)(g:Reg):LclW (H++[g]) H0.length r cs i g∧Ext H (H++[g])∧∀ j g',H[j]?=some g'→j≠i:=by
 subst hi
 refine⟨⟨yA H g,s.o.le,?_,fun x hx=>?_⟩,Ext.more H [g],fun j g' h=>Nat.ne_of_lt (qP h)⟩
 ·have:=s.w.lt;omega
 ·obtain⟨j,hj⟩:=List.getElem?_of_mem hx
  have hK:j<K.length:=by rw[←s.w.len];exact(List.getElem?_eq_some_iff.1 hj).1
  exact(s.w.ok j _ x (List.getElem?_eq_getElem hK) hj).lt (Nat.le_refl _)
theorem WS.made (s:WS H0 H r K cs0 cs)(e:Ext H Z){i:Nat}{g:Reg}(hi:Z[i]?=some g)(h:H.length≤i):LclW Z H0.length r cs i g:=by
 refine⟨hi,Nat.le_trans s.o.le h,?_,fun x hx=>?_⟩
 ·have:=s.w.lt;omega
 ·obtain⟨j,hj⟩:=List.getElem?_of_mem hx
  exact(s.w.ok j _ x (List.getElem?_eq_getElem (by rw[←s.w.len];exact(List.getElem?_eq_some_iff.1 hj).1:j<K.length)) hj).lt h
theorem WS.put (s:WS H0 H r K cs0 cs){i:Nat}{g:Reg}(h:LclW H H0.length r cs i g)(g':Reg):WS H0 (H.set i g') r K cs0 cs:=by
 refine⟨s.w.keep (List.getElem?_set_ne h.2.2.1) fun j _ hj=>List.getElem?_set_ne ?_,⟨by rw[List.length_set];exact s.o.le,fun j hj h1 h2=>?_,s.o.nw⟩⟩
 ·rintro rfl
  obtain⟨x,hx,hn⟩:=hj
  exact hn (h.2.2.2 x hx)
 ·have:=h.2.1
  rw[List.getElem?_set_ne (by omega)]
  exact s.o.at_ j hj h1 h2
theorem WS.ar {P:List (Rw qK)→Prop}(s:WS H0 H r K cs0 cs)(hk:K[0]?=some (.nds P)):∃ x l,PlN H r 0 cs x l∧P l:=s.w.pln hk
theorem vV {cs ds:List AV}{n:Nat}(h:n+ds.length≤cs.length)(j:Nat):(qW cs n ds)[j]?=if n≤j∧j<n+ds.length then ds[j - n]? else cs[j]?:=by
 unfold qW
 by_cases h1:j<n
 ·rw[if_neg (by omega),List.append_assoc,List.getElem?_append_left (by rw[List.length_take];omega),List.getElem?_take_of_lt h1]
 ·rw[List.append_assoc,List.getElem?_append_right (by rw[List.length_take];omega),List.length_take,Nat.min_eq_left (by omega)]
  by_cases h2:j<n+ds.length
  ·rw[if_pos ⟨by omega,h2⟩,List.getElem?_append_left (by omega)]
  ·rw[if_neg (by omega),List.getElem?_append_right (by omega),List.getElem?_drop]
   congr 1
   omega
structure Vd (H:qE) (u:Nat) (K:List CK) (ds:List AV):Prop where
 len:ds.length=K.length
 ok:∀ (i:Nat) k x,K[i]?=some k→ds[i]?=some x→CkOk H k x
 new:∀ x,x∈ds→∀ i,i<u→NotIn x i
 sep:∀ (i j:Nat) x y q,i≠j→ds[i]?=some x→ds[j]?=some y→¬ NotIn x q→NotIn y q
theorem CkOk.ext {k:CK}{x:AV}(h:CkOk H k x)(e:Ext H Z):CkOk Z k x:=h.keep fun i hi _=>e.2 i hi
theorem Vd.less {u t:Nat}{ds:List AV}(v:Vd H u K ds)(h:t≤u):Vd H t K ds:=⟨v.len,v.ok,fun x hx i hi=>v.new x hx i (by omega),v.sep⟩
theorem Wd.vd {u:Nat}(w:Wd H r K cs)(h:∀ x,x∈cs→∀ i,i<u→NotIn x i):Vd H u K cs:=⟨w.len,w.ok,h,w.sep⟩
theorem Wd.over {n:Nat}{J:List CK}{ds:List AV}(w:Wd H r K cs)(e:Ext H Z)(v:Vd Z H.length J ds)(hJ:(K.drop n).take J.length=J)(hn:n+J.length≤K.length) :
  Wd (Z.set r {cs:=qW cs n ds}) r K (qW cs n ds)∧OnlyW H (Z.set r {cs:=qW cs n ds}) r cs (qW cs n ds):=by
 have hl:n+ds.length≤cs.length:=by rw[v.len,w.len];exact hn
 have key:∀ (j:Nat) z,(qW cs n ds)[j]?=some z→(n≤j∧j<n+J.length∧ds[j - n]?=some z)∨cs[j]?=some z:=fun j z h=>by
  rw[vV hl] at h
  split at h
  ·rename_i g
   rw[v.len] at g
   exact .inl ⟨g.1,g.2,h⟩
  ·exact .inr h
 have inK:∀ (j:Nat) z,cs[j]?=some z→∃ k,K[j]?=some k∧CkOk H k z:=fun j z h=>by
  have hK:j<K.length:=by rw[←w.len];exact(List.getElem?_eq_some_iff.1 h).1
  exact⟨_,List.getElem?_eq_getElem hK,w.ok j _ z (List.getElem?_eq_getElem hK) h⟩
 have old:∀ (j:Nat) z,cs[j]?=some z→∀ q,¬ NotIn z q→q<H.length∧q≠r:=fun j z h q hq=>by
  obtain⟨k,h1,h2⟩:=inK j z h
  refine⟨?_,?_⟩
  ·rcases Nat.lt_or_ge q H.length with g | g
   ·exact g
   ·exact absurd (h2.lt g) hq
  ·rintro rfl
   exact hq (w.out z (List.mem_of_getElem? h))
 have fresh:∀ (j:Nat) z,ds[j]?=some z→∀ q,q<H.length→NotIn z q:=fun j z h q hq=>v.new z (List.mem_of_getElem? h) q hq
 have hr:r<Z.length:=Nat.lt_of_lt_of_le w.lt e.1
 have len:(qW cs n ds).length=K.length:=by
  unfold qW
  rw[List.length_append,List.length_append,List.length_take,List.length_drop,←w.len]
  omega
 refine⟨⟨List.getElem?_set_self hr,len,?_,?_,?_⟩,⟨by rw[List.length_set];exact e.1,fun j hj h _=>(List.getElem?_set_ne (Ne.symm h)).trans (e.2 j hj),?_⟩⟩
 ·intro j k z hk hz
  have:CkOk Z k z:=by
   rcases key j z hz with ⟨g1,g2,g3⟩ | g
   ·have hk':J[j - n]?=some k:=by
     rw[←hJ,List.getElem?_take_of_lt (by omega),List.getElem?_drop]
     rw[show n+(j - n)=j by omega]
     exact hk
    exact v.ok _ k z hk' g3
   ·rw[vV hl] at hz
    split at hz
    ·rename_i g
     rw[v.len] at g
     have hk':J[j - n]?=some k:=by
      rw[←hJ,List.getElem?_take_of_lt (by omega),List.getElem?_drop]
      rw[show n+(j - n)=j by omega]
      exact hk
     exact v.ok _ k z hk' hz
    ·exact(w.ok j k z hk hz).ext e
  refine this.keep fun q hq hzq=>List.getElem?_set_ne ?_
  rintro rfl
  rcases key j z hz with ⟨_,_,g3⟩ | g
  ·exact hzq (fresh _ z g3 r w.lt)
  ·exact(old j z g r hzq).2 rfl
 ·intro z hz
  obtain⟨j,hj⟩:=List.getElem?_of_mem hz
  rcases key j z hj with ⟨_,_,g3⟩ | g
  ·exact fresh _ z g3 r w.lt
  ·exact w.out z (List.mem_of_getElem? g)
 ·intro a b y z q hab ha hb hq
  rw[vV hl] at ha hb
  split at ha
  ·rename_i ga
   split at hb
   ·rename_i gb
    exact v.sep (a - n) (b - n) y z q (by omega) ha hb hq
   ·rcases Nat.lt_or_ge q H.length with g | g
    ·exact absurd (fresh _ y ha q g) hq
    ·obtain⟨k,h1,h2⟩:=inK b z hb
     exact h2.lt g
  ·split at hb
   ·exact fresh _ z hb q (old a y ha q hq).1
   ·exact w.sep a b y z q hab ha hb hq
 ·intro j hj hx z hz
  obtain⟨a,ha⟩:=List.getElem?_of_mem hz
  rcases key a z ha with ⟨_,_,g3⟩ | g
  ·exact fresh _ z g3 j hj
  ·exact hx z (List.mem_of_getElem? g)
end
section
variable {α : Type} {f : α → List AV} {m : Nat} {H : qE}
theorem xL (he:Enc f m){q:Nat}{a:α}{o:Bool}(hq:H[q]?=some ⟨f a,o,true⟩):qU H (.sl q 0 1 m) m=some (rows f [a]):=by
 rw[src_slR,hq,←vT (f:=f) a,at_rows he]
 simp
theorem rd_part (he:Enc f m){l:List α}{i j n:Nat}{a:α}(ha:l[i]?=some a)(hj:j+n≤m)(own:Bool):jG true true n (some ⟨rows f l,own,true⟩) (i*m+j)=some (.agg (((f a).drop j).take n)):=by
 obtain⟨h1,h2⟩:=wL he l i a ha
 have e:((rows f l).drop (i*m+j)).take n=((f a).drop j).take n:=by
  rw[h1,←h2,←List.drop_drop,List.drop_left,List.drop_append_of_le_length (by rw[he.len];omega),List.take_append_of_le_length (by rw[List.length_drop,he.len];omega)]
 simp only[jG,if_true,true_and,(by rw[h1,List.length_append,List.length_append,h2,he.len];omega:i*m+j+n≤(rows f l).length),e]
theorem wr_part (he:Enc f m){l:List α}{i j n:Nat}{a b:α}{ds:List AV}(ha:l[i]?=some a)(hn:ds.length=n)(hj:j+n≤m)(hb:f b=qW (f a) j ds)(hd:ds.all AV.one=true)(r:Nat):uJ true n H r (some ⟨rows f l,true,true⟩) (i*m+j) (.agg ds)=some (H.set r ⟨rows f (l.set i b),true,true⟩):=by
 have hi:i<l.length:=(List.getElem?_eq_some_iff.1 ha).1
 obtain⟨h1,h2⟩:=wL he l i a ha
 have hl:i*m+j+n≤(rows f l).length:=by rw[h1,List.length_append,List.length_append,h2,he.len];omega
 have hc:(AV.agg ds).cells=ds:=rfl
 simp only[uJ,hc,hn,hd,hl,and_self,if_true]
 congr 3
 rw[rows_set he hi b,hb]
 have hi':=List.getElem?_eq_some_iff.1 ha
 apply List.ext_getElem?
 intro t
 have e1:i*m+j+ds.length≤(rows f l).length:=by rw[hn];exact hl
 have e2:j+ds.length≤(f a).length:=by rw[hn,he.len];exact hj
 have e3:(qW (f a) j ds).length=m:=by
  unfold qW
  rw[List.length_append,List.length_append,List.length_take,List.length_drop,he.len]
  rw[he.len] at e2
  omega
 have e4:i*m+(qW (f a) j ds).length≤(rows f l).length:=by rw[e3,h1,List.length_append,List.length_append,h2,he.len];omega
 rw[vV e1,vV e4,e3]
 by_cases g:i*m≤t∧t<i*m+m
 ·rw[if_pos g,vV e2]
  by_cases g':i*m+j≤t∧t<i*m+j+ds.length
  ·rw[if_pos g',if_pos (by omega)]
   congr 1
   omega
  ·rw[if_neg g',if_neg (by omega)]
   obtain⟨d,hd⟩:∃ d,t=i*m+d:=⟨t - i*m,by omega⟩
   subst hd
   rw[rows_at he ha (by omega),Nat.add_sub_cancel_left]
 ·rw[if_neg g,if_neg (by rw[hn];omega)]
end
section
variable {ks : List Kd}
theorem Rw.putI (p:Rw ks)(j:Nat){z:Int}(hk:ks[j]?=some (.i .i64))(hz:W64 z):∃ q:Rw ks,q.cs=p.cs.set j (.sc (.int .i64 z))∧q.int j=z∧∀ i,i≠j→q.int i=p.int i:=by
 obtain⟨q,h1,h2⟩:=p.wr1 hk (v:=.int .i64 z) ⟨z,rfl,hz.wf⟩ rfl
 have hl:j<p.cs.length:=by rw[p.cs_len];exact(List.getElem?_eq_some_iff.1 hk).1
 exact⟨q,h1,q.int_of (by rw[h1];exact List.getElem?_set_self hl),fun i hi=>Rw.same_int (by rw[h1];exact List.getElem?_set_ne (Ne.symm hi))⟩
theorem Rw.putP (p:Rw ks){js:List Kd}(j:Nat){ds:List AV}(hd:RowOk js ds)(h:(ks.drop j).take js.length=js)(hj:j≤ks.length):∃ q:Rw ks,q.cs=qW p.cs j ds∧∀ i,i<j∨j+js.length≤i→q.int i=p.int i:=by
 obtain⟨q,hq⟩:=(RowOk.of p).over hd h hj
 have hl:=hd.len
 have hjm:j+js.length≤p.cs.length:=by
  have:=congrArg List.length h
  rw[List.length_take,List.length_drop] at this
  rw[p.cs_len]
  omega
 refine⟨q,hq,fun i hi=>Rw.same_int ?_⟩
 rw[hq]
 unfold qW
 rcases hi with hi | hi
 ·rw[List.append_assoc,List.getElem?_append_left (by rw[List.length_take];omega),List.getElem?_take_of_lt hi]
 ·have e:(p.cs.take j++ds).length=j+js.length:=by rw[List.length_append,List.length_take,hl];omega
  rw[List.getElem?_append_right (by rw[e];exact hi),e,List.getElem?_drop,hl]
  congr 1
  omega
end
def KeepX (H Z:qE)(cs:List AV)(k:Nat):Prop:=∀ (j:Nat) y,j≠k→cs[j]?=some y→∀ q,q<H.length→¬ NotIn y q→Z[q]?=H[q]?
structure Chg (H Z:qE) (r:Nat) (K K':List CK) (cs cs':List AV) (k:Nat):Prop where
 w:Wd Z r K' cs'
 o:OnlyW H Z r cs cs'
 cc:∀ (i:Nat) y,i≠k→cs[i]?=some y→cs'[i]?=some y
 kx:KeepX H Z cs k
section
variable {H Z H0 : qE} {r k : Nat} {K K' : List CK} {cs cs' cs0 : List AV}
theorem WS.chg (s:WS H0 H r K cs0 cs)(c:Chg H Z r K K' cs cs' k):WS H0 Z r K' cs0 cs':=⟨c.w,s.o.trans c.o⟩
section
variable {α : Type} {f : α → List AV} {m j : Nat} {x : AV} {l : List α}
theorem OwnX.chg (h:OwnX f m H x l)(c:Chg H Z r K K' cs cs' k)(hj:j≠k)(hx:cs[j]?=some x):OwnX f m Z x l:=h.keep fun i hi hq=>c.kx j x hj hx i hi hq
theorem OwnX.put {u i:Nat}{g g':Reg}(h:OwnX f m H x l)(hx:cs[j]?=some x)(b:LclW H u r cs i g):OwnX f m (H.set i g') x l:=h.keep fun q hq hn=>List.getElem?_set_ne (by rintro rfl;exact hn (b.2.2.2 x (List.mem_of_getElem? hx)))
end
theorem PlN.chg {x:AV}{l:List (Rw qK)}(p:PlN H r 0 cs x l)(c:Chg H Z r K K' cs cs' k)(hk:0≠k):PlN Z r 0 cs' x l:=
 ⟨c.w.at_,c.cc 0 x hk p.2.1,OwnF.keep p.2.2.1 fun i hi hn=>c.kx 0 x hk p.2.1 i hi hn,p.2.2.2⟩
theorem PlN.putW {x:AV}{l:List (Rw qK)}{u i:Nat}{g g':Reg}(p:PlN H r 0 cs x l)(b:LclW H u r cs i g):PlN (H.set i g') r 0 cs x l:=p.setL ⟨b.2.2.1,b.2.2.2 x (List.mem_of_getElem? p.2.1)⟩ g'
theorem Wd.keepX {x:AV}(w:Wd H r K cs)(hi:cs[k]?=some x)(hf:∀ j,j<H.length→j≠r→NotIn x j→Z[j]?=H[j]?):KeepX H Z cs k:=fun j y hj hy q hq hn=>by
 refine hf q hq ?_ ?_
 ·rintro rfl
  exact hn (w.out y (List.mem_of_getElem? hy))
 ·exact w.sep j k y x q hj hy hi hn
theorem set_cc {y:AV}(i:Nat)(z:AV)(hi:i≠k)(h:cs[i]?=some z):(cs.set k y)[i]?=some z:=by rw[List.getElem?_set_ne (Ne.symm hi)];exact h
theorem Wd.stI {z:Int}{P:Int→Prop}(w:Wd H r K cs)(hk:K[k]?=some (.int P))(hz:P z) :
  ∃ (Z:qE)(cs':List AV),uJ true 1 H r (some {cs:=cs}) k (.sc (.int .i64 z))=some Z∧cs'[k]?=some (.sc (.int .i64 z))∧Chg H Z r K K cs cs' k:=by
 obtain⟨x,hx,_⟩:=w.gI k hk
 obtain⟨h1,h2⟩:=w.setI hk hz
 exact⟨_,_,uO hx ⟨rfl,rfl⟩ r,List.getElem?_set_self (List.getElem?_eq_some_iff.1 hx).1,h1,h2,fun i y=>set_cc i y,w.keepX hx fun j _ hj _=>List.getElem?_set_ne (Ne.symm hj)⟩
theorem Wd.arC {P:List (Rw qK)→Prop}{x x':AV}{l l':List (Rw qK)}(w:Wd H r K cs)(hk:K[0]?=some (.nds P))(p0:PlN H r 0 cs x l)(p:PlN Z r 0 (cs.set 0 x') x' l')(o:Only H Z r x x')(q:P l') :
  ∃ cs',Chg H Z r K K cs cs' 0∧PlN Z r 0 cs' x' l':=by
 obtain⟨h1,h2⟩:=w.unpln hk p0.2.1 p o q
 exact⟨_,⟨h1,h2,fun i y=>set_cc i y,w.keepX p0.2.1 o.2.1⟩,p⟩
theorem Wd.stRow {α:Type}{f:α→List AV}{m i q n:Nat}{P:List α→Prop}{x:AV}{l:List α}{a:α}(w:Wd H r K cs)(hk:K[k]?=some (.own f m P))(hx:cs[k]?=some x)(hl:OwnX f m H x l)(e:x=.sl q 0 n m)(ha:l[i]?=some a)(b:α)(hb:P (l.set i b)) :
  ∃ (Z:qE)(l':List α),Z=H.set q {cs:=rows f (l.set i b)}∧l'=l.set i b∧l'.length=l.length∧l'[i]?=some b∧(∀ j,j≠i→l'[j]?=l[j]?)∧OwnX f m Z x l'∧Chg H Z r K K cs cs k:=by
 have hi:=(List.getElem?_eq_some_iff.1 ha).1
 obtain⟨h1,h2,h3⟩:=w.setRow hk hx hl e hi hb
 refine⟨_,_,rfl,rfl,List.length_set ..,List.getElem?_set_self hi,fun j hj=>List.getElem?_set_ne (Ne.symm hj),h3,h1,h2,fun _ _ _ h=>h,w.keepX hx fun j _ _ hj=>List.getElem?_set_ne ?_⟩
 rintro rfl
 exact hj q 0 n m e rfl
theorem Wd.apC {α:Type}{f:α→List AV}{m B:Nat}{e:TypeId}{P:List α→Prop}(hs:∀ r len x H,vK Tryz.prog (some (.slice e)) (some (.slice e)) (.sl r 0 len m) x H=apR m B H r len H[r]? (qU H x m))
  (hn:∀ x H,vK Tryz.prog (some (.slice e)) (some (.slice e)) (.sc (.slice none 0 0)) x H=apRN m B H (qU H x m)) (he:Enc f m) {x y:AV} {l l2:List α} (w:Wd H r K cs) (hk:K[k]?=some (.own f m P)) (hi:cs[k]?=some x) (hx:OwnX f m H x l) (hy:qU H y m=some (rows f l2)) (hb:(l.length+l2.length)*B≤140737488355328∧l.length+l2.length*m≤140737488355328) (hP:P (l++l2)) :
  ∃ (x':AV)(G Z:qE)(cs':List AV),vK Tryz.prog (some (.slice e)) (some (.slice e)) x y H=some (x',G)∧(x'.cells=[x']∧x'.one=true)∧G[r]?=some {cs:=cs}∧uJ true 1 G r (some {cs:=cs}) k x'=some Z∧cs'[k]?=some x'∧OwnX f m Z x' (l++l2)∧Chg H Z r K K cs cs' k:=by
 obtain⟨x',G,h1,h2,h3,h4,h5⟩:=own_ap hs hn he hx hy hb
 have hxr:=w.out x (List.mem_of_getElem? hi)
 have hr:=(h4 r w.lt hxr).trans w.at_
 have ho:OwnX f m (G.set r {cs:=cs.set k x'}) x' (l++l2):=h2.keep fun j hj hq=>List.getElem?_set_ne (by rintro rfl;exact hq (h5 _ w.lt hxr))
 have hw:=w.put (Z:=G.set r {cs:=cs.set k x'}) hi hk (by rw[List.length_set];exact h3) (fun j hj hr hq=>(List.getElem?_set_ne (Ne.symm hr)).trans (h4 j hj hq)) (List.getElem?_set_self (qP hr)) ⟨_,ho,hP⟩ h5
 exact⟨x',G,_,_,h1,h2.one,hr,uO hi h2.one r,List.getElem?_set_self ((List.getElem?_eq_some_iff.1 hi).1:k<cs.length),ho,hw.1,hw.2,fun i y=>set_cc i y,w.keepX hi fun j hj hr hq=>(List.getElem?_set_ne (Ne.symm hr)).trans (h4 j hj hq)⟩
theorem rd_chan {ks:List Kd}{m i j:Nat}(he:Enc (Rw.cs (ks:=ks)) m){l:List (Rw ks)}{p:Rw ks}(hp:l[i]?=some p)(h:(ks.drop j).take 9=kChan)(hj:j+9≤m)(o:Bool):jG true true 9 (some ⟨rows Rw.cs l,o,true⟩) (i*m+j)=some (.agg [p.int j,p.int (j+1),p.int (j+2),p.int (j+3),p.int (j+4),p.int (j+5),p.int (j+6),p.int (j+7),p.int (j+8)]):=by
 rw[rd_part he hp hj o]
 have:=p.chan h true
 rw[p.rdP (by have:=he.len p;rw[p.cs_len] at this;omega) true] at this
 exact this
end
theorem LclW.low {H:qE}{u r i:Nat}{cs:List AV}{g:Reg}(h:LclW H u r cs i g):LclW H 0 r cs i g:=⟨h.1,Nat.zero_le _,h.2.2⟩
theorem rd_num {l:List Int}{j k:Nat}{a:Int}(h:l[j]?=some a)(o:Bool):jG true false k (some ⟨rows intF l,o,true⟩) j=some (.sc (.int .i64 a)):=by
 have:=qX vD (k:=k) h (j:=0) (by decide) o
 rw[Nat.mul_one] at this
 exact this
theorem pw_app {l:List Int}{a:Int}(h:∀ z,z∈l→W64 z)(w:W64 a):∀ z,z∈l++[a]→W64 z:=fun z hz=>by
 rcases List.mem_append.1 hz with g | g
 ·exact h z g
 ·simp at g
  subst g
  exact w
theorem uV (r len:Nat)(x:AV)(H:qE):vK Tryz.prog (some (.slice 3)) (some (.slice 3)) (.sl r 0 len 1) x H=apR 1 8 H r len H[r]? (qU H x 1):=vO zero3 rfl (by decide) info3 qO rfl r len x
theorem uU (x:AV)(H:qE):vK Tryz.prog (some (.slice 3)) (some (.slice 3)) (.sc (.slice none 0 0)) x H=apRN 1 8 H (qU H x 1):=vJ zero3 rfl (by decide) info3 qO rfl x
theorem rd_agg7 {cs:List AV}{off:Nat}{a b c d e f g:AV}(h0:cs[off]?=some a)(h1:cs[off+1]?=some b)(h2:cs[off+2]?=some c)(h3:cs[off+3]?=some d)(h4:cs[off+4]?=some e)(h5:cs[off+5]?=some f)(h6:cs[off+6]?=some g)(o:Bool):jG true true 7 (some ⟨cs,o,true⟩) off=some (.agg [a,b,c,d,e,f,g]):=by
 have hl:=(List.getElem?_eq_some_iff.1 h6).1
 have e:(cs.drop off).take 7=[a,b,c,d,e,f,g]:=by
  apply List.ext_getElem?
  intro i
  by_cases hi:i<7
  ·rw[List.getElem?_take_of_lt hi,List.getElem?_drop]
   rcases i with _ | _ | _ | _ | _ | _ | _ | i
   ·exact h0
   ·exact h1
   ·exact h2
   ·exact h3
   ·exact h4
   ·exact h5
   ·exact h6
   ·omega
  ·rw[List.getElem?_eq_none (by rw[List.length_take];omega),List.getElem?_eq_none (by simp;omega)]
 simp only[jG,if_true,true_and,show off+7≤cs.length by omega,e]
theorem OnlyW.nop (H:qE)(r:Nat)(cs:List AV):OnlyW H H r cs cs:=.refl ..
theorem OwnX.at {α:Type}{f:α→List AV}{m q n:Nat}{H:qE}{l:List α}(h:OwnX f m H (.sl q 0 n m) l):H[q]?=some {cs:=rows f l}:=by
 rcases h with ⟨h,_⟩ | ⟨r,h1,h2⟩
 ·cases h
 ·injection h1 with a
  subst a
  exact h2
theorem Chg.refl {H:qE}{r:Nat}{K:List CK}{cs:List AV}(w:Wd H r K cs)(k:Nat):Chg H H r K K cs cs k:=⟨w,.refl ..,fun _ _ _ h=>h,fun _ _ _ _ _ _ _=>rfl⟩
theorem Chg.ext {H Z Y:qE}{r k:Nat}{K K':List CK}{cs cs':List AV}(c:Chg H Z r K K' cs cs' k)(e:Ext Z Y):Chg H Y r K K' cs cs' k:=
 ⟨c.w.ext e,c.o.trans (.ext e r cs'),c.cc,fun j y hj hy q hq hn=>(e.2 q (Nat.lt_of_lt_of_le hq c.o.le)).trans (c.kx j y hj hy q hq hn)⟩
theorem Chg.trans {H Z Y:qE}{r k:Nat}{K K' J J':List CK}{a b d:List AV}(c:Chg H Z r K K' a b k)(e:Chg Z Y r J J' b d k):Chg H Y r K J' a d k:=
 ⟨e.w,c.o.trans e.o,fun i y hi h=>e.cc i y hi (c.cc i y hi h),fun j y hj hy q hq hn=>(e.kx j y hj (c.cc j y hj hy) q (Nat.lt_of_lt_of_le hq c.o.le) hn).trans (c.kx j y hj hy q hq hn)⟩
theorem Chg.up {H Z:qE}{r k:Nat}{K:List CK}{cs cs':List AV}{c a m N M:Nat}(e:Chg H Z r K (KW c a m N) cs cs' k)(h:N≤M):Chg H Z r K (KW c a m M) cs cs' k:=⟨e.w.up h,e.o,e.cc,e.kx⟩
theorem xS {P:Program}{ops:Array Oper}{hs:List St}{j k:Nat}(t:TypeId)(y:Operand){r off:Nat}{c c':List AV}{x:AV}(ho:(yP ops j).op=.load t y)(hv:ev (hs.getD (ops.size - j) ⟨[],[]⟩).ts y=.ptr r off)(ha:kB P t=false)
  (h1:(hs.getD (ops.size - j) ⟨[],[]⟩).H[r]?=some {cs:=c}) (h2:(hs.getD (ops.size - k) ⟨[],[]⟩).H[r]?=some {cs:=c'}) (h3:c[off]?=some x) (h4:c'[off]?=some x):wK P ops hs (j,k):=fun _=>.inr <| by
 show xH P (hs.getD (ops.size - j) ⟨[],[]⟩).ts (yP ops j).op (hs.getD (ops.size - k) ⟨[],[]⟩).H=xH P (hs.getD (ops.size - j) ⟨[],[]⟩).ts (yP ops j).op (hs.getD (ops.size - j) ⟨[],[]⟩).H
 rw[ho]
 have key:∀ (d:List AV)(G:qE),G[r]?=some {cs:=d}→d[off]?=some x→wR G r off 1=some [x]:=fun d G hG hd=>by
  have hl:=(List.getElem?_eq_some_iff.1 hd).1
  have e:(d.drop off).take 1=[x]:=by
   rw[List.drop_eq_getElem_cons hl,List.take_succ_cons,List.take_zero]
   rw[List.getElem?_eq_getElem hl] at hd
   cases hd
   rfl
  simp only[wR,hG,true_and,show off+1≤d.length from hl,if_true,e]
 simp only[xH,hv,ha,key c _ h1 h3,key c' _ h2 h4,Bool.false_eq_true,if_false]
theorem both_put {H Z:qE}{r u i:Nat}{K':List CK}{cs cs':List AV}{g:Reg}(c:Wd Z r K' cs'∧OnlyW H Z r cs cs')(b:LclW Z u r cs' i g)(h:H.length≤i)(g':Reg):Wd (Z.set i g') r K' cs'∧OnlyW H (Z.set i g') r cs cs':=by
 refine⟨c.1.keep (List.getElem?_set_ne b.2.2.1) fun j _ hj=>List.getElem?_set_ne ?_,⟨by rw[List.length_set];exact c.2.le,fun j hj h1 h2=>?_,c.2.nw⟩⟩
 ·rintro rfl
  obtain⟨x,hx,hn⟩:=hj
  exact hn (b.2.2.2 x hx)
 ·rw[List.getElem?_set_ne (by omega)]
  exact c.2.at_ j hj h1 h2
theorem Chg.put {H Z:qE}{r k u i:Nat}{K K':List CK}{cs cs':List AV}{g:Reg}(c:Chg H Z r K K' cs cs' k)(b:LclW Z u r cs' i g)(h:H.length≤i)(g':Reg):Chg H (Z.set i g') r K K' cs cs' k:=by
 obtain⟨h1,h2⟩:=both_put ⟨c.w,c.o⟩ b h g'
 refine⟨h1,h2,c.cc,fun j y hj hy q hq hn=>?_⟩
 rw[List.getElem?_set_ne (by omega)]
 exact c.kx j y hj hy q hq hn
structure Gv (H Z:qE) (r q:Nat) (K:List CK) (cs cs':List AV) (k:Nat):Prop where
 w:Wd Z r K cs'
 le:H.length≤Z.length
 at_:∀ i,i<H.length→i≠r→(∀ x,x∈cs→NotIn x i)→Z[i]?=H[i]?
 nw:∀ i,i<H.length→i≠q→(∀ x,x∈cs→NotIn x i)→∀ y,y∈cs'→NotIn y i
 cc:∀ (i:Nat) y,i≠k→cs[i]?=some y→cs'[i]?=some y
 kx:KeepX H Z cs k
theorem WS.give {H0 H Z:qE}{r q k:Nat}{K:List CK}{cs0 cs cs':List AV}(s:WS H0 H r K cs0 cs)(g:Gv H Z r q K cs cs' k)(u:H0.length≤q):WS H0 Z r K cs0 cs':=
 ⟨g.w,⟨Nat.le_trans s.o.le g.le,fun i hi hr hx=>(g.at_ i (Nat.lt_of_lt_of_le hi s.o.le) hr (s.o.nw i hi hx)).trans (s.o.at_ i hi hr hx),fun i hi hx=>g.nw i (Nat.lt_of_lt_of_le hi s.o.le) (by omega) (s.o.nw i hi hx)⟩⟩
theorem LclW.give {H Z:qE}{u r q k i:Nat}{K:List CK}{cs cs':List AV}{g:Reg}(h:LclW H u r cs i g)(v:Gv H Z r q K cs cs' k)(n:i≠q):LclW Z u r cs' i g:=⟨(v.at_ i (qP h.1) h.2.2.1 h.2.2.2).trans h.1,h.2.1,h.2.2.1,v.nw i (qP h.1) n h.2.2.2⟩
theorem OwnX.giv {α:Type}{f:α→List AV}{m j:Nat}{x:AV}{l:List α}{H Z:qE}{r q k:Nat}{K:List CK}{cs cs':List AV}(h:OwnX f m H x l)(c:Gv H Z r q K cs cs' k)(hj:j≠k)(hx:cs[j]?=some x):OwnX f m Z x l:=h.keep fun i hi hq=>c.kx j x hj hx i hi hq
theorem Wd.give {H:qE}{r q u k o n m:Nat}{K:List CK}{cs:List AV}{kd:CK}{x y:AV}{g:Reg}(w:Wd H r K cs)(hk:K[k]?=some kd)(hi:cs[k]?=some x)(hy:CkOk H kd y)(b:LclW H u r cs q g)(e:y=.sl q o n m) :
  ∃ (Z:qE)(cs':List AV),uJ true 1 H r (some {cs:=cs}) k y=some Z∧cs'[k]?=some y∧CkOk Z kd y∧Gv H Z r q K cs cs' k:=by
 have hc:k<cs.length:=(List.getElem?_eq_some_iff.1 hi).1
 have nq:∀ i,i≠q→NotIn y i:=fun i hi r' o' n' k' h=>by
  rw[e] at h
  injection h with h
  exact h▸hi
 have key:∀ (j:Nat) z,(cs.set k y)[j]?=some z→(j=k∧z=y)∨(j≠k∧cs[j]?=some z):=fun j z hz=>by
  by_cases e:j=k
  ·subst e
   rw[List.getElem?_set_self hc] at hz
   exact .inl ⟨rfl,(Option.some.inj hz).symm⟩
  ·rw[List.getElem?_set_ne (Ne.symm e)] at hz
   exact .inr ⟨e,hz⟩
 have nqc:∀ (j:Nat) z,cs[j]?=some z→NotIn z q:=fun j z h=>b.2.2.2 z (List.mem_of_getElem? h)
 have hr:(H.set r {cs:=cs.set k y})[r]?=some {cs:=cs.set k y}:=List.getElem?_set_self w.lt
 have oth:∀ j,j≠r→(H.set r {cs:=cs.set k y})[j]?=H[j]?:=fun j h=>List.getElem?_set_ne (Ne.symm h)
 have yok:CkOk (H.set r {cs:=cs.set k y}) kd y:=hy.keep fun i _ hn=>oth i (by
  rintro rfl
  exact hn (nq i (Ne.symm b.2.2.1)))
 refine⟨_,_,uO hi hy.one r,List.getElem?_set_self hc,yok,⟨⟨hr,by rw[List.length_set];exact w.len,?_,?_,?_⟩,by rw[List.length_set];exact Nat.le_refl _,fun i _ h _=>oth i h,?_,fun i z=>set_cc i z,w.keepX hi fun j _ h _=>oth j h⟩⟩
 ·intro j k' z hK hz
  rcases key j z hz with ⟨rfl,rfl⟩ | ⟨_,h⟩
  ·rw[hk] at hK
   cases hK
   exact yok
  ·refine(w.ok j k' z hK h).keep fun i _ hn=>oth i ?_
   rintro rfl
   exact hn (w.out z (List.mem_of_getElem? h))
 ·intro z hz
  obtain⟨j,hj⟩:=List.getElem?_of_mem hz
  rcases key j z hj with ⟨rfl,rfl⟩ | ⟨_,h⟩
  ·exact nq r (Ne.symm b.2.2.1)
  ·exact w.out z (List.mem_of_getElem? h)
 ·intro a c z v p hac ha hcv hp
  rcases key a z ha with ⟨e1,e2⟩ | ⟨na,ha'⟩
  ·rcases key c v hcv with ⟨e3,e4⟩ | ⟨nc,hc'⟩
   ·omega
   ·by_cases h:p=q
    ·subst h
     exact nqc c v hc'
    ·rw[e2] at hp
     exact absurd (nq p h) hp
  ·rcases key c v hcv with ⟨e3,e4⟩ | ⟨nc,hc'⟩
   ·by_cases h:p=q
    ·subst h
     exact absurd (nqc a z ha') hp
    ·rw[e4]
     exact nq p h
   ·exact w.sep a c z v p hac ha' hc' hp
 ·intro i hi hiq hx z hz
  obtain⟨j,hj⟩:=List.getElem?_of_mem hz
  rcases key j z hj with ⟨rfl,rfl⟩ | ⟨_,h⟩
  ·exact nq i hiq
  ·exact hx z (List.mem_of_getElem? h)
theorem CkOk.rows {ks:List Kd}{m q:Nat}{c:Nat→Prop}{H:qE}{l:List (Rw ks)}(h:H[q]?=some {cs:=rows Rw.cs l})(hc:c l.length):CkOk H (xV ks m c) (.sl q 0 l.length m):=⟨l,.inr ⟨q,rfl,h⟩,hc⟩
theorem SessIs.lt {l:List (Rw kSess)}{c k:Int}(h:SessIs l c k) : -1≤k∧k<(l.length:Int):=by
 rcases h with ⟨rfl,_⟩ | ⟨j,p,rfl,h,_⟩
 ·omega
 ·have:=(List.getElem?_eq_some_iff.1 h).1
  omega
theorem PlN.extW {x:AV}{l:List (Rw qK)}{H Z:qE}{r:Nat}{cs:List AV}(p:PlN H r 0 cs x l)(e:Ext H Z):PlN Z r 0 cs x l:=p.ext e
theorem pw_set {l:List Int}{a:Int}{i:Nat}(h:∀ z,z∈l→W64 z)(w:W64 a):∀ z,z∈l.set i a→W64 z:=fun z hz=>by
 rcases List.mem_or_eq_of_mem_set hz with g | g
 ·exact h z g
 ·subst g
  exact w
theorem wr_num {l:List Int}{j:Nat}{a b:Int}{H:qE}(h:l[j]?=some a)(r:Nat):uJ true 1 H r (some {cs:=rows intF l}) j (.sc (.int .i64 b))=some (H.set r {cs:=rows intF (l.set j b)}):=by
 have:=kH vD (H:=H) (b:=b) h (j:=0) (by decide) rfl ⟨rfl,rfl⟩ (y:=.sc (.int .i64 b)) r
 rw[Nat.mul_one] at this
 exact this
def uI (l:List (Rw kSess)):List Int:=l.map fun p=>p.int 0
theorem cids_set {l:List (Rw kSess)}{j:Nat}{p b:Rw kSess}(hp:l[j]?=some p)(h:b.int 0=p.int 0):uI (l.set j b)=uI l:=by
 have hj:=(List.getElem?_eq_some_iff.1 hp).1
 unfold uI
 rw[List.map_set,h]
 apply List.ext_getElem?
 intro i
 by_cases e:j=i
 ·subst e
  rw[List.getElem?_set_self (by rw[List.length_map];exact hj),List.getElem?_map,hp]
  rfl
 ·rw[List.getElem?_set_ne e]
theorem cids_at {l m:List (Rw kSess)}(h:uI m=uI l){j:Nat}{p:Rw kSess}(hp:l[j]?=some p):∃ q,m[j]?=some q∧q.int 0=p.int 0:=by
 have e:(uI m)[j]?=(uI l)[j]?:=by rw[h]
 unfold uI at e
 rw[List.getElem?_map,List.getElem?_map,hp] at e
 cases hm:m[j]? with
 | none=>rw[hm] at e;cases e
 | some q =>
  rw[hm] at e
  simp at e
  exact⟨q,rfl,e⟩
theorem cids_len {l m:List (Rw kSess)}(h:uI m=uI l):m.length=l.length:=by
 have:=congrArg List.length h
 simpa [uI] using this
theorem cids_row {l m:List (Rw kSess)}{c v k:Int}(h:SessIs l c k)(hk:0≤k)(hv:c=v)(e:uI m=uI l):∃ (j:Nat)(p:Rw kSess),m[j]?=some p∧p.int 0=v:=by
 rcases h with ⟨rfl,_⟩ | ⟨j,p,rfl,h1,h2⟩
 ·omega
 ·obtain⟨q,h3,h4⟩:=cids_at e h1
  exact⟨j,q,h3,by rw[h4,h2,hv]⟩
theorem LclW.less {H:qE}{u t r i:Nat}{cs:List AV}{g:Reg}(h:LclW H u r cs i g)(k:t≤u):LclW H t r cs i g:=⟨h.1,Nat.le_trans k h.2.1,h.2.2⟩
theorem par6 (a b c d e f g:AV)(l:List AV):par (a :: b :: c :: d :: e :: f :: g :: l) 6=g:=rfl
theorem SessIs.pos {l:List (Rw kSess)}{c k:Int}(h:SessIs l c k){j:Nat}{p:Rw kSess}(hj:l[j]?=some p)(e:p.int 0=c):0≤k:=by
 rcases h with ⟨_,h⟩ | ⟨j,p,rfl,_⟩
 ·exact absurd e (h p (List.mem_of_getElem? hj))
 ·omega
theorem rt_take {l:List (Rw qK)}(h:rt l)(n:Nat):rt (l.take n):=fun i p hp=>by
 rw[List.getElem?_take] at hp
 split at hp
 ·exact h i p hp
 ·cases hp
theorem wN {P:Program}{Q:AV→qE→Prop}{n:Nat}{T:Nat→AV}{H:qE}{x y z k:ResultVar}:retP P [x,y,z,k] Q ⟨qY n T,H⟩=vP (uK P ⟨qY n T,H⟩ x) fun u=>vP (uK P ⟨qY n T,H⟩ y) fun v=>vP (uK P ⟨qY n T,H⟩ z) fun w=>vP (uK P ⟨qY n T,H⟩ k) fun a=>Q (.tup [u,v,w,a]) H:=by
 simp only[retP,uX]
 cases uK P ⟨qY n T,H⟩ x<;>cases uK P ⟨qY n T,H⟩ y<;>cases uK P ⟨qY n T,H⟩ z<;>cases uK P ⟨qY n T,H⟩ k<;>rfl
theorem w_cut1 {P:Program}{c rest:Code}{K:St→Prop}{E:Nat→St→Prop}{R:St→Prop}{s:St}(J:St→Prop)(h:kO P c J E R s)(k:∀ s,J s→kO P rest K E R s):kO P (.seq c rest) K E R s:=by
 simp only[kO]
 exact uA c k (fun _ _ h=>h) (fun _ h=>h) h
theorem w_cut2 {P:Program}{c d rest:Code}{K:St→Prop}{E:Nat→St→Prop}{R:St→Prop}{s:St}(J:St→Prop)(h:kO P (.seq c d) J E R s)(k:∀ s,J s→kO P rest K E R s):kO P (.seq c (.seq d rest)) K E R s:=by
 simp only[kO] at h ⊢
 exact uA c (fun s h=>uA d k (fun _ _ h=>h) (fun _ h=>h) h) (fun _ _ h=>h) (fun _ h=>h) h
theorem xX {L:List Int}{H:qE}{q n:Nat}{o:Bool}(h:H[q]?=some ⟨ints .i64 L,o,true⟩)(hn:L.length=n):qU H (.sl q 0 n 1) 1=some (rows intF L):=by
 rw[src_slR,h,←rows_intF,at_rows vD,hn]
 simp[←hn]
theorem xF {l L:List Int}(h:∀ z,z∈l→W64 z)(w:∀ z,z∈L→W64 z):∀ z,z∈l++L→W64 z:=fun z hz=>by
 rcases List.mem_append.1 hz with g | g
 ·exact h z g
 ·exact w z g
theorem xR:∀ z,z∈([]:List Int)→W64 z:=fun z h=>by cases h
theorem xA {a:Int}{L:List Int}(w:W64 a)(h:∀ z,z∈L→W64 z):∀ z,z∈a :: L→W64 z:=fun z hz=>by
 rcases List.mem_cons.1 hz with g | g
 ·subst g
  exact w
 ·exact h z g
theorem wr_agg {cs ds:List AV}{H:qE}{r n m:Nat}(hm:ds.length=m)(hd:ds.all AV.one=true)(h:n+m≤cs.length):uJ true m H r (some ⟨cs,true,true⟩) n (.agg ds)=some (H.set r ⟨qW cs n ds,true,true⟩):=by
 have hc:(AV.agg ds).cells=ds:=rfl
 simp only[uJ,hc,hm,hd,h,and_self,if_true]
theorem Vd.ones {H:qE}{u:Nat}{K:List CK}{ds:List AV}(v:Vd H u K ds):ds.all AV.one=true:=List.all_eq_true.2 fun x hx=>by
 obtain⟨i,hi⟩:=List.getElem?_of_mem hx
 exact(v.ok i _ x (List.getElem?_eq_getElem (by rw[←v.len];exact(List.getElem?_eq_some_iff.1 hi).1:i<K.length)) hi).one.2
theorem Wd.gate {H Z:qE}{r c a k N:Nat}{cs ds:List AV}(w:Wd H r (KW c a k N) cs)(e:Ext H Z)(v:Vd Z H.length (KG N) ds) :
  ∃ (Y:qE)(cs':List AV),uJ true 7 Z r (some {cs:=cs}) 3 (.agg ds)=some Y∧Wd Y r (KW c a k N) cs'∧OnlyW H Y r cs cs':=by
 obtain⟨h1,h2⟩:=w.over (n:=3) e v rfl (by show 3+7≤20;omega)
 exact⟨_,_,wr_agg v.len v.ones (by rw[w.len];show 3+7≤20;omega),h1,h2⟩
theorem W64.tmod {a b:Int}(h:W64 a):W64 (a.tmod b):=by
 have h1:=Int.natAbs_tmod a b
 unfold W64 at *
 have h2:(a.tmod b).natAbs≤a.natAbs:=by
  rw[h1]
  exact Nat.mod_le _ _
 rcases Int.lt_or_le a 0 with g | g
 ·have h3:a.tmod b≤0:=by
   have:=Int.tmod_nonneg b (show (0:Int)≤-a by omega)
   rw[Int.neg_tmod] at this
   omega
  omega
 ·have h3:=Int.tmod_nonneg b g
  omega
theorem tmod_in {a b:Int}(h:0≤a)(hb:0<b):0≤a.tmod b∧a.tmod b<b:=⟨Int.tmod_nonneg b h,Int.tmod_lt_of_pos a hb⟩
theorem OwnF.ofReg {α:Type}{f:α→List AV}{m q:Nat}{H:qE}{l rest:List α}(h:H[q]?=some {cs:=rows f (l++rest)}):OwnF f m H (.sl q 0 l.length m) l:=.inr ⟨q,rest,rfl,h⟩
theorem RdN.ofReg {q:Nat}{H:qE}{l rest:List (Rw qK)}{o:Bool}(h:H[q]?=some ⟨rows Rw.cs (l++rest),o,true⟩):RdN H (.sl q 0 l.length 4) l:=.inr ⟨q,o,rest,rfl,h⟩
theorem wr_agg1 {H Z:qE}{r k:Nat}{g:Option Reg}{q o n m:Nat}(h:uJ true 1 H r g k (.sl q o n m)=some Z):uJ true 1 H r g k (.agg [.sl q o n m])=some Z:=by
 rw[←h]
 rfl
theorem openE {H:qE}{x:AV}{l:List (Rw qK)}(hx:RdN H x l)(hl:l.length≤1000000)(key k:Int):∃ (vv:Int)(bb:Bool)(Z:qE),Sound Tryz.prog 182 [.agg [x],key,k] H (.tup [.sc (.int .i64 vv),.sc (.bool bb)]) Z∧Ext H Z∧W64 vv∧OpnIs l key k vv bb:=by
 suffices h:∃ w Z,Sound Tryz.prog 182 [.agg [x],key,k] H w Z∧∃ (vv:Int)(bb:Bool),w=.tup [.sc (.int .i64 vv),.sc (.bool bb)]∧Ext H Z∧W64 vv∧OpnIs l key k vv bb by
  obtain⟨w,Z,h1,vv,bb,rfl,h2⟩:=h
  exact⟨vv,bb,Z,h1,h2⟩
 refine zR 28 [.tmp 6,.tmp 7] Tryz.func182 ?_
 have E0:=Ext.refl H
 obtain⟨b2,u3,e1,nn4⟩:=E0.alloc (i:=H.length) (by simp) {cs:=[x]}
 have hx6:=RdN.ext hx e1
 obtain⟨t7,Z8,c9,e10,ht11⟩:=isE hx6 hl (k) (5)
 try simp only[↓zP,zQ,↓qC,(hx.one),b2]
 refine qF rfl c9 ?_
 have b12:=e10.at b2
 have E13:=(E0.trans e1).trans e10
 cases t7 with
 | false =>
  try simp only[↓zP,zQ,↓qC,b12]
  exact⟨_,_,rfl,E13,⟨by decide,by decide⟩,.inr ⟨rfl,rfl,fun ⟨j,p,a,b,c,d,_⟩=>by have h:=ht11.2 ⟨j,p,a,b,c,d⟩;cases h⟩⟩
 | true =>
  obtain⟨j15,p16,hk17,hp18,ok19,h020⟩:=ht11.1 rfl
  have hj21:=(List.getElem?_eq_some_iff.1 hp18).1
  have k22:(0:Int)≤(j15:Int):=by omega
  have k23:(j15:Int)<(l.length:Int):=by omega
  subst hk17
  obtain⟨q24,rs25,_,xe26,hr27⟩:=RdN.get (RdN.ext hx6 e10) hj21
  have hp28:(l++rs25)[j15]?=some p16:=by rw[List.getElem?_append_left hj21];exact hp18
  have rw31:=fun (o:Bool)(kk:Nat)=>(qX yU (k:=kk) hp28 (j:=2) (by decide) o).trans (p16.int_at 2 rfl).1
  have rw32:=fun (o:Bool)(kk:Nat)=>(qX yU (k:=kk) hp28 (j:=3) (by decide) o).trans (p16.int_at 3 rfl).1
  by_cases h33:(p16.int 2)=key
  ·have h34:=eq_true h33
   try simp only[↓zP,zQ,xe26,qA,↓qC,b12,k22,k23,qB,hr27,rw32,rw31,h34]
   exact⟨_,_,rfl,E13,(p16.w64 3 rfl),.inl ⟨rfl,j15,p16,rfl,hp18,ok19,h020,h33,rfl⟩⟩
  ·try simp only[↓zP,zQ,xe26,qA,↓qC,b12,k22,k23,qB,hr27,rw32,rw31,h33]
   exact⟨_,_,rfl,E13,⟨by decide,by decide⟩,.inr ⟨rfl,rfl,opn_no hp18 h33⟩⟩
theorem signedE {H:qE}{x:AV}{l:List (Rw qK)}(hx:RdN H x l)(hl:l.length≤1000000)(pub k:Int):∃ (vv:Int)(bb:Bool)(Z:qE),Sound Tryz.prog 185 [.agg [x],pub,k] H (.tup [.sc (.int .i64 vv),.sc (.bool bb)]) Z∧Ext H Z∧W64 vv:=by
 suffices h:∃ w Z,Sound Tryz.prog 185 [.agg [x],pub,k] H w Z∧∃ (vv:Int)(bb:Bool),w=.tup [.sc (.int .i64 vv),.sc (.bool bb)]∧Ext H Z∧W64 vv by
  obtain⟨w,Z,h1,vv,bb,rfl,h2⟩:=h
  exact⟨vv,bb,Z,h1,h2⟩
 refine zR 39 [.tmp 6,.tmp 7] Tryz.func185 ?_
 have E0:=Ext.refl H
 have o0:=hx.one
 obtain⟨b2,u3,e1,nn4⟩:=E0.alloc (i:=H.length) (by simp) ⟨[x],true,true⟩
 have E5:=E0.trans e1
 have hx6:=RdN.ext hx e1
 try simp only[↓zP,zQ,↓qC,Nat.reduceLT,o0]
 refine zD [(0,0),(5,3),(12,8),(16,8),(18,8),(22,8)] ?_
 obtain⟨t7,Z8,c9,e10,ht11⟩:=isE hx6 hl (pub) (6)
 try simp only[↓zP,zQ,Nat.reduceLT,Nat.reduceEqDiff,b2]
 refine qF rfl c9 ?_
 have b12:=e10.at b2
 have E13:=E5.trans e10
 have hx14:=RdN.ext hx6 e10
 cases t7 with
 | false =>
  try simp only[↓zP,zQ,Nat.reduceLT,Nat.reduceEqDiff,↓qC,b12]
  refine⟨zX (zX (zX (zX (zX (zX (qH)))))),?_⟩
  exact⟨-1,false,rfl,E13,⟨by decide,by decide⟩⟩
 | true =>
  obtain⟨j15,p16,hk17,hp18,ok19,h020⟩:=ht11.1 rfl
  have hj21:=(List.getElem?_eq_some_iff.1 hp18).1
  have k22:(0:Int)≤(j15:Int):=by omega
  have k23:(j15:Int)<(l.length:Int):=by omega
  subst hk17
  obtain⟨t24,Z25,c26,e27,ht28⟩:=isE hx14 hl (k) (8)
  try simp only[↓zP,zQ,Nat.reduceLT,Nat.reduceEqDiff,b12]
  refine qF rfl c26 ?_
  have b29:=e27.at b12
  have E30:=E13.trans e27
  have hx31:=RdN.ext hx14 e27
  cases t24 with
  | false =>
   try simp only[↓zP,zQ,Nat.reduceLT,Nat.reduceEqDiff,qA,↓qC,b29]
   refine⟨zX (zX (zX (zX (zX (zX (qH)))))),?_⟩
   exact⟨-1,false,rfl,E30,⟨by decide,by decide⟩⟩
  | true =>
   obtain⟨j32,p33,hk34,hp35,ok36,h037⟩:=ht28.1 rfl
   have hj38:=(List.getElem?_eq_some_iff.1 hp35).1
   have k39:(0:Int)≤(j32:Int):=by omega
   have k40:(j32:Int)<(l.length:Int):=by omega
   subst hk34
   obtain⟨q41,rs42,_,xe43,hr44⟩:=RdN.get hx31 hj38
   have hp45:(l++rs42)[j32]?=some p33:=by rw[List.getElem?_append_left hj38];exact hp35
   have rw48:=fun (o:Bool)(kk:Nat)=>(qX yU (k:=kk) hp45 (j:=2) (by decide) o).trans (p33.int_at 2 rfl).1
   have rw49:=fun (o:Bool)(kk:Nat)=>(qX yU (k:=kk) hp45 (j:=3) (by decide) o).trans (p33.int_at 3 rfl).1
   have hp50:(l++rs42)[j15]?=some p16:=by rw[List.getElem?_append_left hj21];exact hp18
   have rw53:=fun (o:Bool)(kk:Nat)=>(qX yU (k:=kk) hp50 (j:=2) (by decide) o).trans (p16.int_at 2 rfl).1
   try simp only[↓zP,zQ,xe43,Nat.reduceLT,Nat.reduceEqDiff,qA,↓qC,b29,k39,k40,qB,hr44,rw49,k22,k23,rw53,rw48]
   refine⟨zX (zX (zX (zX (zX (zX (qH)))))),?_⟩
   by_cases h55:(p33.int 2)=(p16.int 2)
   ·have h56:=eq_true h55
    have hp57:(l++rs42)[j32]?=some p33:=by rw[List.getElem?_append_left hj38];exact hp35
    try simp only[zQ,h56]
    exact⟨p33.int 3,true,rfl,E30,(p33.w64 3 rfl)⟩
   ·try simp only[zQ,h55]
    exact⟨-1,false,rfl,E30,⟨by decide,by decide⟩⟩
theorem nonceE {H:qE}{x:AV}{l:List (Rw qK)}(hx:RdN H x l)(hl:l.length≤1000000)(k:Int):∃ (bb:Bool)(Z:qE),Sound Tryz.prog 171 [.agg [x],k] H (.sc (.bool bb)) Z∧Ext H Z:=by
 suffices h:∃ w Z,Sound Tryz.prog 171 [.agg [x],k] H w Z∧∃ (bb:Bool),w=.sc (.bool bb)∧Ext H Z by
  obtain⟨w,Z,h1,bb,rfl,h2⟩:=h
  exact⟨bb,Z,h1,h2⟩
 refine zR 18 [.tmp 4] Tryz.func171 ?_
 have E0:=Ext.refl H
 obtain⟨b2,u3,e1,nn4⟩:=E0.alloc (i:=H.length) (by simp) {cs:=[x]}
 obtain⟨v7,t8,Z9,c10,e11,hn12⟩:=numE (RdN.ext hx e1) hl (k)
 try simp only[↓zP,zQ,↓qC,(hx.one),b2]
 refine qF rfl c10 ?_
 have E14:=(E0.trans e1).trans e11
 cases t8 with
 | false =>
  try simp only[↓zP,zQ,↓qC,qA]
  exact⟨false,rfl,E14⟩
 | true =>
  try simp only[↓zP,zQ,↓qC]
  exact⟨decide ((1000:Int)≤v7),rfl,E14⟩
theorem windowOkE {H:qE}(a b:Int):∃ (bb:Bool)(Z:qE),Sound Tryz.prog 143 [.agg [a,b]] H (.sc (.bool bb)) Z∧Ext H Z:=by
 suffices h:∃ w Z,Sound Tryz.prog 143 [.agg [a,b]] H w Z∧∃ (bb:Bool),w=.sc (.bool bb)∧Ext H Z by
  obtain⟨w,Z,h1,bb,rfl,h2⟩:=h
  exact⟨bb,Z,h1,h2⟩
 refine zR 38 [.tmp 2] Tryz.func143 ?_
 have E0:=Ext.refl H
 obtain⟨b2,u3,e1,nn4⟩:=E0.alloc (i:=H.length) (by simp) {cs:=[a,b]}
 have E5:=E0.trans e1
 obtain⟨t6,c7,ht8⟩:=zH (a) (-1) (9999)
 try simp only[↓zP,zQ,↓qC,b2]
 refine qN rfl c7 ?_
 cases t6 with
 | false =>
  have k9:¬ (-1≤a∧a≤9999):=fun h=>by have:=ht8.2 h;cases this
  try simp only[↓zP,zQ,↓qC,b2,Int.reduceEq]
  exact⟨_,rfl,E5⟩
 | true =>
  obtain⟨t11,c12,ht13⟩:=zH (b) (0) (65535)
  try simp only[↓zP,zQ,b2]
  refine qN rfl c12 ?_
  cases t11 with
  | false =>
   have k14:¬ (0≤b∧b≤65535):=fun h=>by have:=ht13.2 h;cases this
   try simp only[↓zP,zQ,qA,↓qC,b2,Int.reduceEq]
   exact⟨_,rfl,E5⟩
  | true =>
   by_cases h16:a<(0:Int)
   ·try simp only[↓zP,zQ,qA,↓qC,b2,Int.reduceEq,h16]
    exact⟨_,rfl,E5⟩
   ·by_cases h17:(b.tmod 2)=(1:Int)
    ·have h18:=eq_true h17
     by_cases h19:(15:Int)≤a
     ·try simp only[↓zP,zQ,qA,↓qC,b2,Int.reduceEq,h18,h19,h16]
      exact⟨_,rfl,E5⟩
     ·have nu20:=u64n (IntKind.i64.wrap (a+1))
      try simp only[↓zP,zQ,qA,↓qC,b2,Int.reduceEq,h18,h19,nu20,h16]
      exact⟨_,rfl,E5⟩
    ·try simp only[↓zP,zQ,qA,↓qC,b2,Int.reduceEq,h17,bo_v,↓uE,h16]
     exact⟨_,rfl,E5⟩
theorem freshE {H:qE}(a b k:Int):∃ (bb:Bool)(Z:qE),Sound Tryz.prog 188 [.agg [a,b],k] H (.sc (.bool bb)) Z∧Ext H Z:=by
 suffices h:∃ w Z,Sound Tryz.prog 188 [.agg [a,b],k] H w Z∧∃ (bb:Bool),w=.sc (.bool bb)∧Ext H Z by
  obtain⟨w,Z,h1,bb,rfl,h2⟩:=h
  exact⟨bb,Z,h1,h2⟩
 refine zR 33 [.tmp 4] Tryz.func188 ?_
 have E0:=Ext.refl H
 obtain⟨b2,u3,e1,nn4⟩:=E0.alloc (i:=H.length) (by simp) {cs:=[a,b]}
 obtain⟨r6,Z7,c8,e9⟩:=windowOkE (H:=(H++[{cs:=[a,b]}])) (a) (b)
 try simp -implicitDefEqProofs only[↓zP,zQ,↓qC,b2,Nat.reduceAdd]
 refine qF rfl c8 ?_
 have b11:=e9.at b2
 have E12:=(E0.trans e1).trans e9
 cases r6 with
 | false =>
  try simp only[↓zP,zQ,↓qC,b11]
  exact⟨_,rfl,E12⟩
 | true =>
  obtain⟨t13,c14,ht15⟩:=zH (k) (0) (9999)
  try simp only[↓zP,zQ]
  refine qN rfl c14 ?_
  cases t13 with
  | false =>
   have k16:¬ (0≤k∧k≤9999):=fun h=>by have:=ht15.2 h;cases this
   try simp only[↓zP,zQ,qA,↓qC,b11]
   exact⟨_,rfl,E12⟩
  | true =>
   by_cases h18:a<k
   ·try simp only[↓zP,zQ,qA,↓qC,b11,h18]
    exact⟨_,rfl,E12⟩
   ·by_cases h19:(IntKind.i64.wrap (a - k))<(16:Int)
    ·have nu20:=u64n (IntKind.i64.wrap (a - k))
     try simp only[↓zP,zQ,qA,↓qC,b11,h19,nu20,h18]
     exact⟨_,rfl,E12⟩
    ·try simp only[↓zP,zQ,qA,↓qC,b11,h19,h18]
     exact⟨_,rfl,E12⟩
theorem notedE {H:qE}(a b k:Int)(wa:W64 a)(wb:W64 b)(wk:W64 k):∃ (uu:Int)(vv:Int)(bb:Bool)(Z:qE),Sound Tryz.prog 183 [.agg [a,b],k] H (.tup [.agg [uu,vv],.sc (.bool bb)]) Z∧Ext H Z∧W64 uu∧W64 vv:=by
 suffices h:∃ w Z,Sound Tryz.prog 183 [.agg [a,b],k] H w Z∧∃ (uu:Int)(vv:Int)(bb:Bool),w=.tup [.agg [uu,vv],.sc (.bool bb)]∧Ext H Z∧W64 uu∧W64 vv by
  obtain⟨w,Z,h1,uu,vv,bb,rfl,h2⟩:=h
  exact⟨uu,vv,bb,Z,h1,h2⟩
 refine zR 51 [.cell 4 44,.tmp 5] Tryz.func183 ?_
 have E0:=Ext.refl H
 obtain⟨b2,u3,e1,nn4⟩:=E0.alloc (i:=H.length) (by simp) {cs:=[a,b]}
 have E5:=E0.trans e1
 obtain⟨b7,u8,e6,nn9⟩:=E5.alloc (i:=H.length+1) (by simp) {cs:=[(0:Int),(0:Int)]}
 have b10:=e6.at b2
 obtain⟨r12,Z13,c14,e15⟩:=freshE (H:=((H++[{cs:=[a,b]}])++[{cs:=[(0:Int),(0:Int)]}])) (a) (b) (k)
 try simp -implicitDefEqProofs only[↓zP,zQ,↓qC,b10,Nat.reduceAdd]
 refine qF rfl c14 ?_
 have b17:=e15.at b10
 have b18:=e15.at b7
 have E19:=(E5.trans e6).trans e15
 cases r12 with
 | false =>
  try simp -implicitDefEqProofs only[↓zP,zQ,↓qC,b17,Nat.reduceAdd,b18,xZ,xY,(yE b18 {cs:=[a,b]})]
  exact⟨_,_,_,rfl,(E19.set u8 {cs:=[a,b]}),wa,wb⟩
 | true =>
  by_cases h23:k≤a
  ·have nu24:=u64n (IntKind.i64.wrap (a - k))
   try simp -implicitDefEqProofs only[↓zP,zQ,↓qC,b17,Nat.reduceAdd,b18,xZ,xY,nu24,(yE b18 {cs:=[a,bits .or .i64 b (IntKind.i64.wrap (1*2 ^ min (IntKind.u64.wrap (IntKind.i64.wrap (a - k))).toNat 64))]}),h23]
   exact⟨_,_,_,rfl,(E19.set u8 {cs:=[a,bits .or .i64 b (IntKind.i64.wrap (1*2 ^ min (IntKind.u64.wrap (IntKind.i64.wrap (a - k))).toNat 64))]}),wa,(W64.bits ..)⟩
  ·by_cases h28:(0:Int)≤a
   ·by_cases h29:(IntKind.i64.wrap (k - a))<(16:Int)
    ·have nu30:=u64n (IntKind.i64.wrap (k - a))
     try simp -implicitDefEqProofs only[↓zP,zQ,↓qC,b17,Nat.reduceAdd,b18,xZ,xY,h28,nu30,(yE b18 {cs:=[k,bits .or .i64 (bits .and .i64 (IntKind.i64.wrap (b*2 ^ min (IntKind.u64.wrap (IntKind.i64.wrap (k - a))).toNat 64)) 65535) 1]}),h29,h23]
     exact⟨_,_,_,rfl,(E19.set u8 {cs:=[k,bits .or .i64 (bits .and .i64 (IntKind.i64.wrap (b*2 ^ min (IntKind.u64.wrap (IntKind.i64.wrap (k - a))).toNat 64)) 65535) 1]}),wk,(W64.bits ..)⟩
    ·have E34:=E19.set u8 {cs:=[k,bits .or .i64 0 1]}
     try simp -implicitDefEqProofs only[↓zP,zQ,↓qC,b17,Nat.reduceAdd,b18,xZ,xY,h28,(yE b18 {cs:=[k,bits .or .i64 0 1]}),h29,h23]
     exact⟨_,_,_,rfl,E34,wk,(W64.bits ..)⟩
   ·have E37:=E19.set u8 {cs:=[k,bits .or .i64 0 1]}
    try simp -implicitDefEqProofs only[↓zP,zQ,↓qC,b17,Nat.reduceAdd,b18,xZ,xY,h28,qA,(yE b18 {cs:=[k,bits .or .i64 0 1]}),h23]
    exact⟨_,_,_,rfl,E37,wk,(W64.bits ..)⟩
theorem packetOkE {H:qE}(a b c d:Int):∃ (bb:Bool)(Z:qE),Sound Tryz.prog 107 [.agg [a,b,c,d]] H (.sc (.bool bb)) Z∧Ext H Z:=by
 suffices h:∃ w Z,Sound Tryz.prog 107 [.agg [a,b,c,d]] H w Z∧∃ (bb:Bool),w=.sc (.bool bb)∧Ext H Z by
  obtain⟨w,Z,h1,bb,rfl,h2⟩:=h
  exact⟨bb,Z,h1,h2⟩
 refine zR 21 [.tmp 2] Tryz.func107 ?_
 have E0:=Ext.refl H
 obtain⟨b2,u3,e1,nn4⟩:=E0.alloc (i:=H.length) (by simp) {cs:=[a,b,c,d]}
 have E5:=E0.trans e1
 obtain⟨t6,c7,ht8⟩:=zH (a) (0) (255)
 try simp only[↓zP,zQ,↓qC,b2]
 refine qN rfl c7 ?_
 cases t6 with
 | false =>
  have k9:¬ (0≤a∧a≤255):=fun h=>by have:=ht8.2 h;cases this
  try simp only[↓zP,zQ,qA]
  exact⟨_,rfl,E5⟩
 | true =>
  obtain⟨t11,c12,ht13⟩:=zH (b) (0) (255)
  try simp only[↓zP,zQ,b2]
  refine qN rfl c12 ?_
  cases t11 with
  | false =>
   have k14:¬ (0≤b∧b≤255):=fun h=>by have:=ht13.2 h;cases this
   try simp only[↓zP,zQ,qA]
   exact⟨_,rfl,E5⟩
  | true =>
   obtain⟨t16,c17,ht18⟩:=zH (c) (1) (9)
   try simp only[↓zP,zQ,b2]
   refine qN rfl c17 ?_
   cases t16 with
   | false =>
    have k19:¬ (1≤c∧c≤9):=fun h=>by have:=ht18.2 h;cases this
    try simp only[↓zP,zQ,qA]
    exact⟨_,rfl,E5⟩
   | true =>
    obtain⟨t21,c22,ht23⟩:=zH (d) (0) (999)
    try simp only[↓zP,zQ,b2]
    refine qN rfl c22 ?_
    try simp only[↓zP,zQ]
    exact⟨_,rfl,E5⟩
theorem chanOkE {H:qE}{x:AV}{l:List (Rw qK)}(hx:RdN H x l)(hl:l.length≤1000000)(app side ep sq hd nt ns lt ls:Int):∃ (bb:Bool)(Z:qE),Sound Tryz.prog 129 [.agg [x],.agg [app,side,ep,sq,hd,nt,ns,lt,ls]] H (.sc (.bool bb)) Z∧Ext H Z:=by
 suffices h:∃ w Z,Sound Tryz.prog 129 [.agg [x],.agg [app,side,ep,sq,hd,nt,ns,lt,ls]] H w Z∧∃ (bb:Bool),w=.sc (.bool bb)∧Ext H Z by
  obtain⟨w,Z,h1,bb,rfl,h2⟩:=h
  exact⟨bb,Z,h1,h2⟩
 refine zR 39 [.tmp 4] Tryz.func129 ?_
 have E0:=Ext.refl H
 obtain⟨b2,u3,e1,nn4⟩:=E0.alloc (i:=H.length) (by simp) {cs:=[x]}
 have E5:=E0.trans e1
 obtain⟨b8,u9,e7,nn10⟩:=E5.alloc (i:=H.length+1) (by simp) {cs:=[app,side,ep,sq,hd,nt,ns,lt,ls]}
 obtain⟨t14,Z15,c16,e17,ht18⟩:=nodeOkE (RdN.ext (RdN.ext hx e1) e7) hl (app)
 try simp only[↓zP,zQ,↓qC,(hx.one),(e7.at b2)]
 refine qF rfl c16 ?_
 have b20:=e17.at b8
 have E21:=(E5.trans e7).trans e17
 cases t14 with
 | false =>
  try simp only[↓zP,zQ,qA]
  exact⟨_,rfl,E21⟩
 | true =>
  obtain⟨j23,p24,hk25,hp26,ok27⟩:=ht18.1 rfl
  subst hk25
  obtain⟨t32,c33,ht34⟩:=zH (side) (1) (2)
  try simp only[↓zP,zQ,b20]
  refine qN rfl c33 ?_
  cases t32 with
  | false =>
   have k35:¬ (1≤side∧side≤2):=fun h=>by have:=ht34.2 h;cases this
   try simp only[↓zP,zQ,qA]
   exact⟨_,rfl,E21⟩
  | true =>
   obtain⟨t37,c38,ht39⟩:=zH (ep) (0) (8)
   try simp only[↓zP,zQ,b20]
   refine qN rfl c38 ?_
   cases t37 with
   | false =>
    have k40:¬ (0≤ep∧ep≤8):=fun h=>by have:=ht39.2 h;cases this
    try simp only[↓zP,zQ,qA]
    exact⟨_,rfl,E21⟩
   | true =>
    obtain⟨t42,c43,ht44⟩:=zH (hd) (0) (8)
    try simp only[↓zP,zQ,b20]
    refine qN rfl c43 ?_
    cases t42 with
    | false =>
     have k45:¬ (0≤hd∧hd≤8):=fun h=>by have:=ht44.2 h;cases this
     try simp only[↓zP,zQ,qA]
     exact⟨_,rfl,E21⟩
    | true =>
     obtain⟨t47,c48,ht49⟩:=zH (sq) (0) (10000)
     try simp only[↓zP,zQ,b20]
     refine qN rfl c48 ?_
     cases t47 with
     | false =>
      have k50:¬ (0≤sq∧sq≤10000):=fun h=>by have:=ht49.2 h;cases this
      try simp only[↓zP,zQ,qA]
      exact⟨_,rfl,E21⟩
     | true =>
      obtain⟨r52,Z53,c54,e55⟩:=windowOkE (H:=Z15) (nt) (ns)
      try simp -implicitDefEqProofs only[↓zP,zQ,b20,Nat.reduceAdd,Nat.reduceLeDiff]
      refine qF rfl c54 ?_
      have E59:=E21.trans e55
      cases r52 with
      | false =>
       try simp only[↓zP,zQ,qA]
       exact⟨_,rfl,E59⟩
      | true =>
       obtain⟨r61,Z62,c63,e64⟩:=windowOkE (H:=Z53) (lt) (ls)
       try simp -implicitDefEqProofs only[↓zP,zQ,(e55.at b20),Nat.reduceAdd]
       refine qF rfl c63 ?_
       try simp only[↓zP,zQ]
       exact⟨_,rfl,(E59.trans e64)⟩
theorem recHeadE {H:qE}{x:AV}{l:List (Rw qK)}(hx:RdN H x l)(hl:l.length≤1000000)(k:Int):∃ (uu:Int)(vv:Int)(bb:Bool)(Z:qE),Sound Tryz.prog 113 [.agg [x],k] H (.tup [.sc (.int .i64 uu),.sc (.int .i64 vv),.sc (.bool bb)]) Z∧Ext H Z∧W64 uu∧W64 vv∧(bb=true→∃ L,PartsIs l k 3 L true):=by
 suffices h:∃ w Z,Sound Tryz.prog 113 [.agg [x],k] H w Z∧∃ (uu:Int)(vv:Int)(bb:Bool),w=.tup [.sc (.int .i64 uu),.sc (.int .i64 vv),.sc (.bool bb)]∧Ext H Z∧W64 uu∧W64 vv∧(bb=true→∃ L,PartsIs l k 3 L true) by
  obtain⟨w,Z,h1,uu,vv,bb,rfl,h2⟩:=h
  exact⟨uu,vv,bb,Z,h1,h2⟩
 refine zR 55 [.tmp 4,.tmp 5,.tmp 6] Tryz.func113 ?_
 have E0:=Ext.refl H
 obtain⟨b2,u3,e1,nn4⟩:=E0.alloc (i:=H.length) (by simp) {cs:=[x]}
 have hx6:=RdN.ext hx e1
 obtain⟨t7,L8,y9,Z10,c11,e12,hy13,hn14,hp15⟩:=jI hx6 hl (k) 3 3 rfl (by decide)
 try simp only[↓zP,zQ,↓qC,(hx.one),b2]
 refine qF rfl c11 ?_
 have b16:=e12.at b2
 have E17:=(E0.trans e1).trans e12
 have hx18:=RdN.ext hx6 e12
 cases t7 with
 | false =>
  try simp only[↓zP,zQ,↓qC]
  exact⟨_,_,_,rfl,E17,⟨by decide,by decide⟩,⟨by decide,by decide⟩,fun h=>by cases h⟩
 | true =>
  obtain⟨a19,a20,a21,rfl⟩:=len3 hp15.len
  obtain⟨q22,o23,rfl,hq24⟩:=hy13.reg (by simp)
  try simp -implicitDefEqProofs only[↓zP,zQ,Nat.reduceAdd,↓qC]
  refine zD [(0,0),(3,0)] ?_
  obtain⟨v29,t30,Z31,c32,e33,hn34⟩:=numE hx18 hl (a19)
  try simp -implicitDefEqProofs only[↓zP,zQ,Nat.reduceLT,b16,qD,Int.reduceLT,hq24,Nat.reduceAdd]
  refine qF rfl c32 ?_
  try simp only[↓zP,zQ,↓qC]
  refine⟨zX (zX (qH)),?_⟩
  refine zD [(0,0),(3,0)] ?_
  obtain⟨v40,t41,Z42,c43,e44,hn45⟩:=numE (RdN.ext hx18 e33) hl (a20)
  try simp -implicitDefEqProofs only[↓zP,zQ,Nat.reduceLT,(e33.at b16),Int.reduceLE,Int.reduceLT,Int.reduceToNat,(e33.at hq24),Nat.reduceAdd]
  refine qF rfl c43 ?_
  have E48:=(E17.trans e33).trans e44
  try simp only[↓zP,zQ,↓qC]
  refine⟨zX (zX (qH)),?_⟩
  cases t30 with
  | false =>
   try simp only[↓zP,zQ,↓qC]
   exact⟨_,_,_,rfl,E48,⟨by decide,by decide⟩,⟨by decide,by decide⟩,fun h=>by cases h⟩
  | true =>
   cases t41 with
   | false =>
    try simp only[↓zP,zQ,qA,↓qC]
    exact⟨_,_,_,rfl,E48,⟨by decide,by decide⟩,⟨by decide,by decide⟩,fun h=>by cases h⟩
   | true =>
    obtain⟨t51,c52,ht53⟩:=zH (v29) (0) (8)
    try simp only[↓zP,zQ,qA]
    refine qN rfl c52 ?_
    cases t51 with
    | false =>
     have k54:¬ (0≤v29∧v29≤8):=fun h=>by have:=ht53.2 h;cases this
     try simp only[↓zP,zQ,qA,↓qC]
     exact⟨_,_,_,rfl,E48,⟨by decide,by decide⟩,⟨by decide,by decide⟩,fun h=>by cases h⟩
    | true =>
     obtain⟨t56,c57,ht58⟩:=zH (v40) (0) (9999)
     try simp only[↓zP,zQ,qA]
     refine qN rfl c57 ?_
     cases t56 with
     | false =>
      have k59:¬ (0≤v40∧v40≤9999):=fun h=>by have:=ht58.2 h;cases this
      try simp only[↓zP,zQ,qA,↓qC]
      exact⟨_,_,_,rfl,E48,⟨by decide,by decide⟩,⟨by decide,by decide⟩,fun h=>by cases h⟩
     | true =>
      try simp only[↓zP,zQ,qA,↓qC]
      exact⟨_,_,_,rfl,E48,(hn34.w64),(hn45.w64),fun _=>⟨_,hp15⟩⟩
theorem serverInE {H:qE}{x:AV}{l:List (Rw qK)}(hx:RdN H x l)(hl:l.length≤1000000)(k:Int):∃ (uu:Int)(vv:Int)(bb:Bool)(Z:qE),Sound Tryz.prog 163 [.agg [x],k] H (.tup [.sc (.int .i64 uu),.sc (.int .i64 vv),.sc (.bool bb)]) Z∧Ext H Z∧W64 uu∧W64 vv:=by
 suffices h:∃ w Z,Sound Tryz.prog 163 [.agg [x],k] H w Z∧∃ (uu:Int)(vv:Int)(bb:Bool),w=.tup [.sc (.int .i64 uu),.sc (.int .i64 vv),.sc (.bool bb)]∧Ext H Z∧W64 uu∧W64 vv by
  obtain⟨w,Z,h1,uu,vv,bb,rfl,h2⟩:=h
  exact⟨uu,vv,bb,Z,h1,h2⟩
 refine zR 47 [.tmp 4,.tmp 5,.tmp 6] Tryz.func163 ?_
 have E0:=Ext.refl H
 obtain⟨b2,u3,e1,nn4⟩:=E0.alloc (i:=H.length) (by simp) {cs:=[x]}
 have hx6:=RdN.ext hx e1
 obtain⟨t7,L8,y9,Z10,c11,e12,hy13,hn14,hp15⟩:=jI hx6 hl (k) 3 3 rfl (by decide)
 try simp only[↓zP,zQ,↓qC,(hx.one),b2]
 refine qF rfl c11 ?_
 have b16:=e12.at b2
 have E17:=(E0.trans e1).trans e12
 have hx18:=RdN.ext hx6 e12
 cases t7 with
 | false =>
  try simp only[↓zP,zQ,↓qC]
  refine zD [(3,0),(6,0),(11,8),(14,8),(19,16),(22,16)] ?_
  try simp only[↓zP,zQ,↓qC]
  refine⟨zX (zX (zX (zX (zX (zX (qH)))))),?_⟩
  exact⟨_,_,_,rfl,E17,⟨by decide,by decide⟩,⟨by decide,by decide⟩⟩
 | true =>
  obtain⟨a19,a20,a21,rfl⟩:=len3 hp15.len
  obtain⟨q22,o23,rfl,hq24⟩:=hy13.reg (by simp)
  have hw25:=hp15.w64
  try simp -implicitDefEqProofs only[↓zP,zQ,Nat.reduceAdd,↓qC]
  refine zD [(3,0),(6,0),(11,8),(14,8),(19,16),(22,16)] ?_
  obtain⟨t29,Z30,c31,e32,ht33⟩:=num10S hx18 hl (a19) (62)
  try simp -implicitDefEqProofs only[↓zP,zQ,Nat.reduceLT,b16,qD,Int.reduceLT,hq24,Nat.reduceAdd]
  refine qF rfl c31 ?_
  have b34:=e32.at b16
  have b35:=e32.at hq24
  have E36:=E17.trans e32
  have hx37:=RdN.ext hx18 e32
  cases t29 with
  | false =>
   try simp only[↓zP,zQ,qA,↓qC]
   refine⟨zX (zX (zX (zX (zX (zX (qH)))))),?_⟩
   exact⟨_,_,_,rfl,E36,⟨by decide,by decide⟩,⟨by decide,by decide⟩⟩
  | true =>
   obtain⟨r38,Z39,c40,e41⟩:=nonceE hx37 hl (a20)
   try simp -implicitDefEqProofs only[↓zP,zQ,Nat.reduceLT,qA,b34,Int.reduceLE,Int.reduceLT,Int.reduceToNat,b35,Nat.reduceAdd]
   refine qF rfl c40 ?_
   have b44:=e41.at b35
   have E45:=E36.trans e41
   cases r38 with
   | false =>
    try simp only[↓zP,zQ,qA,↓qC]
    refine⟨zX (zX (zX (zX (zX (zX (qH)))))),?_⟩
    exact⟨_,_,_,rfl,E45,⟨by decide,by decide⟩,⟨by decide,by decide⟩⟩
   | true =>
    obtain⟨t47,Z48,c49,e50,ht51⟩:=isE (RdN.ext hx37 e41) hl (a21) (6)
    try simp -implicitDefEqProofs only[↓zP,zQ,Nat.reduceLT,qA,(e41.at b34),Int.reduceLE,Int.reduceLT,Int.reduceToNat,b44,Nat.reduceAdd]
    refine qF rfl c49 ?_
    have E54:=E45.trans e50
    try simp only[↓zP,zQ,qA,↓qC]
    refine⟨zX (zX (zX (zX (zX (zX (qH)))))),?_⟩
    cases t47 with
    | false =>
     try simp only[zQ]
     exact⟨_,_,_,rfl,E54,⟨by decide,by decide⟩,⟨by decide,by decide⟩⟩
    | true =>
     obtain⟨j56,p57,hk58,hp59,ok60,h061⟩:=ht51.1 rfl
     subst hk58
     try simp only[zQ]
     refine zD [(2,0),(5,0)] ?_
     try simp -implicitDefEqProofs only[↓zP,zQ,Nat.reduceLT,Int.reduceLE,Int.reduceLT,Int.reduceToNat,(e50.at b44),Nat.reduceAdd]
     refine⟨zX (zX (qH)),?_⟩
     exact⟨_,_,_,rfl,E54,(hw25 a20 (by simp)),(hw25 (j56:Int) (by simp))⟩
theorem certInE {H:qE}{x:AV}{l:List (Rw qK)}(hx:RdN H x l)(hl:l.length≤1000000)(k:Int):∃ (uu:Int)(vv:Int)(bb:Bool)(Z:qE),Sound Tryz.prog 184 [.agg [x],k] H (.tup [.sc (.int .i64 uu),.sc (.int .i64 vv),.sc (.bool bb)]) Z∧Ext H Z∧W64 uu∧W64 vv:=by
 suffices h:∃ w Z,Sound Tryz.prog 184 [.agg [x],k] H w Z∧∃ (uu:Int)(vv:Int)(bb:Bool),w=.tup [.sc (.int .i64 uu),.sc (.int .i64 vv),.sc (.bool bb)]∧Ext H Z∧W64 uu∧W64 vv by
  obtain⟨w,Z,h1,uu,vv,bb,rfl,h2⟩:=h
  exact⟨uu,vv,bb,Z,h1,h2⟩
 refine zR 74 [.tmp 4,.tmp 5,.tmp 6] Tryz.func184 ?_
 have E0:=Ext.refl H
 obtain⟨b2,u3,e1,nn4⟩:=E0.alloc (i:=H.length) (by simp) ⟨[x],true,true⟩
 have hx6:=RdN.ext hx e1
 try simp only[↓zP,zQ,↓qC,Nat.reduceLT,(hx.one)]
 refine zD [(0,0),(5,3),(7,3),(11,3)] ?_
 obtain⟨t7,Z8,c9,e10,ht11⟩:=isE hx6 hl (k) (8)
 try simp only[↓zP,zQ,Nat.reduceLT,Nat.reduceEqDiff,b2]
 refine qF rfl c9 ?_
 have b12:=e10.at b2
 have E13:=(E0.trans e1).trans e10
 have hx14:=RdN.ext hx6 e10
 cases t7 with
 | false =>
  try simp only[↓zP,zQ,Nat.reduceLT,Nat.reduceEqDiff,↓qC]
  refine⟨zX (zX (zX (zX (qH)))),?_⟩
  exact⟨_,_,_,rfl,E13,⟨by decide,by decide⟩,⟨by decide,by decide⟩⟩
 | true =>
  obtain⟨j15,p16,hk17,hp18,ok19,h020⟩:=ht11.1 rfl
  have hj21:=(List.getElem?_eq_some_iff.1 hp18).1
  have k22:(0:Int)≤(j15:Int):=by omega
  have k23:(j15:Int)<(l.length:Int):=by omega
  subst hk17
  obtain⟨q24,rs25,_,xe26,hr27⟩:=RdN.get hx14 hj21
  have hp28:(l++rs25)[j15]?=some p16:=by rw[List.getElem?_append_left hj21];exact hp18
  have rw31:=fun (o:Bool)(kk:Nat)=>(qX yU (k:=kk) hp28 (j:=2) (by decide) o).trans (p16.int_at 2 rfl).1
  have rw32:=fun (o:Bool)(kk:Nat)=>(qX yU (k:=kk) hp28 (j:=3) (by decide) o).trans (p16.int_at 3 rfl).1
  obtain⟨t33,Z34,c35,e36,ht37⟩:=num10S hx14 hl (p16.int 2) (1000)
  try simp only[↓zP,zQ,xe26,Nat.reduceLT,Nat.reduceEqDiff,b12,k22,k23,qB,hr27,rw31]
  refine qF (by simp only[xe26]<;>rfl) c35 ?_
  have b38:=e36.at b12
  have E39:=E13.trans e36
  have hx40:=RdN.ext hx14 e36
  try simp only[↓zP,zQ,Nat.reduceLT,Nat.reduceEqDiff,qA,↓qC]
  refine⟨zX (zX (zX (zX (qH)))),?_⟩
  cases t33 with
  | false =>
   try simp only[zQ]
   exact⟨_,_,_,rfl,E39,⟨by decide,by decide⟩,⟨by decide,by decide⟩⟩
  | true =>
   try simp only[zQ]
   refine zD [(0,0),(2,0),(6,0)] ?_
   obtain⟨t47,L48,y49,Z50,c51,e52,hy53,hn54,hp55⟩:=jI hx40 hl (p16.int 3) 3 3 rfl (by decide)
   try simp only[↓zP,zQ,Nat.reduceLT,Nat.reduceEqDiff,b38,xe26,k22,k23,qB,(e36.at hr27),rw32]
   refine qF (by simp only[xe26]<;>rfl) c51 ?_
   have b56:=e52.at b38
   have E57:=E39.trans e52
   have hx58:=RdN.ext hx40 e52
   cases t47 with
   | false =>
    try simp only[↓zP,zQ,Nat.reduceLT,Nat.reduceEqDiff,↓qC]
    refine⟨zX (zX (zX (qH))),?_⟩
    refine zD [(3,0),(6,0),(11,8),(14,8)] ?_
    try simp only[↓zP,zQ,Nat.reduceLT,Nat.reduceEqDiff,↓qC]
    refine⟨zX (zX (zX (zX (qH)))),?_⟩
    exact⟨_,_,_,rfl,E57,⟨by decide,by decide⟩,⟨by decide,by decide⟩⟩
   | true =>
    obtain⟨a60,a61,a62,rfl⟩:=len3 hp55.len
    obtain⟨q63,o64,rfl,hq65⟩:=hy53.reg (by simp)
    try simp -implicitDefEqProofs only[↓zP,zQ,Nat.reduceAdd,Nat.reduceLT,Nat.reduceEqDiff,↓qC]
    refine⟨zX (zX (zX (qH))),?_⟩
    refine zD [(3,0),(6,0),(11,8),(14,8)] ?_
    obtain⟨t70,Z71,c72,e73,ht74⟩:=num10S hx58 hl (a60) (60)
    try simp -implicitDefEqProofs only[↓zP,zQ,Nat.reduceLT,Nat.reduceEqDiff,b56,xe26,qD,Int.reduceLT,hq65,Nat.reduceAdd]
    refine qF (by simp only[xe26]<;>rfl) c72 ?_
    have b75:=e73.at b56
    have b76:=e73.at hq65
    have E77:=E57.trans e73
    have hx78:=RdN.ext hx58 e73
    cases t70 with
    | false =>
     try simp only[↓zP,zQ,Nat.reduceLT,Nat.reduceEqDiff,qA,↓qC]
     refine⟨zX (zX (zX (zX (qH)))),?_⟩
     exact⟨_,_,_,rfl,E77,⟨by decide,by decide⟩,⟨by decide,by decide⟩⟩
    | true =>
     obtain⟨t80,Z81,c82,e83,ht84⟩:=isE hx78 hl (a62) (6)
     try simp -implicitDefEqProofs only[↓zP,zQ,Nat.reduceLT,Nat.reduceEqDiff,qA,b75,xe26,Int.reduceLE,Int.reduceLT,Int.reduceToNat,b76,Nat.reduceAdd]
     refine qF (by simp only[xe26]<;>rfl) c82 ?_
     have b86:=e83.at b76
     have E87:=E77.trans e83
     try simp only[↓zP,zQ,Nat.reduceLT,Nat.reduceEqDiff,qA,↓qC]
     refine⟨zX (zX (zX (zX (qH)))),?_⟩
     cases t80 with
     | false =>
      try simp only[zQ]
      exact⟨_,_,_,rfl,E87,⟨by decide,by decide⟩,⟨by decide,by decide⟩⟩
     | true =>
      obtain⟨j90,p91,hk92,hp93,ok94,h095⟩:=ht84.1 rfl
      subst hk92
      try simp only[zQ]
      refine zD [(0,0),(3,0)] ?_
      obtain⟨v99,t100,Z101,c102,e103,hn104⟩:=numE (RdN.ext hx78 e83) hl (a61)
      try simp -implicitDefEqProofs only[↓zP,zQ,Nat.reduceLT,Nat.reduceEqDiff,(e83.at b75),xe26,Int.reduceLE,Int.reduceLT,Int.reduceToNat,b86,Nat.reduceAdd]
      refine qF (by simp only[xe26]<;>rfl) c102 ?_
      have E107:=E87.trans e103
      try simp only[↓zP,zQ,Nat.reduceLT,Nat.reduceEqDiff,↓qC]
      refine⟨zX (zX (qH)),?_⟩
      cases t100 with
      | false =>
       try simp only[↓zP,zQ,Nat.reduceLT,Nat.reduceEqDiff,↓qC]
       exact⟨_,_,_,rfl,E107,⟨by decide,by decide⟩,⟨by decide,by decide⟩⟩
      | true =>
       obtain⟨t111,c112,ht113⟩:=zH (v99) (0) (9)
       try simp only[↓zP,zQ,Nat.reduceLT,Nat.reduceEqDiff]
       refine qN (by simp only[xe26]<;>rfl) c112 ?_
       cases t111 with
       | false =>
        have k114:¬ (0≤v99∧v99≤9):=fun h=>by have:=ht113.2 h;cases this
        try simp only[↓zP,zQ,Nat.reduceLT,Nat.reduceEqDiff,qA,↓qC]
        exact⟨_,_,_,rfl,E107,⟨by decide,by decide⟩,⟨by decide,by decide⟩⟩
       | true =>
        try simp only[↓zP,zQ,Nat.reduceLT,Nat.reduceEqDiff,qA,↓qC]
        refine zD [(3,0)] ?_
        try simp -implicitDefEqProofs only[↓zP,zQ,Nat.reduceLT,Nat.reduceEqDiff,Int.reduceLE,Int.reduceLT,Int.reduceToNat,(e103.at b86),Nat.reduceAdd]
        refine⟨zX (qH),?_⟩
        exact⟨_,_,_,rfl,E107,(hn104.w64),((hp55.w64) (j90:Int) (by simp))⟩
theorem openRecE {H:qE}{x:AV}{l:List (Rw qK)}(hx:RdN H x l)(hl:l.length≤1000000)(key k:Int):∃ (vv:Int)(bb:Bool)(Z:qE),Sound Tryz.prog 168 [.agg [x],key,k] H (.tup [.sc (.int .i64 vv),.sc (.bool bb)]) Z∧Ext H Z∧W64 vv:=by
 suffices h:∃ w Z,Sound Tryz.prog 168 [.agg [x],key,k] H w Z∧∃ (vv:Int)(bb:Bool),w=.tup [.sc (.int .i64 vv),.sc (.bool bb)]∧Ext H Z∧W64 vv by
  obtain⟨w,Z,h1,vv,bb,rfl,h2⟩:=h
  exact⟨vv,bb,Z,h1,h2⟩
 refine zR 74 [.tmp 6,.tmp 7] Tryz.func168 ?_
 have E0:=Ext.refl H
 obtain⟨b2,u3,e1,nn4⟩:=E0.alloc (i:=H.length) (by simp) {cs:=[x]}
 have hx6:=RdN.ext hx e1
 obtain⟨r7,r8,r9,Z10,c11,e12,f13⟩:=recHeadE hx6 hl (k)
 try simp only[↓zP,zQ,↓qC,(hx.one),b2]
 refine qF rfl c11 ?_
 have b14:=e12.at b2
 have E15:=(E0.trans e1).trans e12
 have hx16:=RdN.ext hx6 e12
 obtain⟨w17,w18,f19⟩:=f13
 cases r9 with
 | false =>
  try simp only[↓zP,zQ,↓qC,b14]
  exact⟨_,_,rfl,E15,⟨by decide,by decide⟩⟩
 | true =>
  obtain⟨_,hp20⟩:=f19 rfl
  obtain⟨t21,L22,y23,Z24,c25,e26,hy27,hn28,hp29⟩:=jI hx16 hl (k) 3 3 rfl (by decide)
  try simp only[↓zP,zQ,↓qC,b14]
  refine qF rfl c25 ?_
  have b30:=e26.at b14
  have hx32:=RdN.ext hx16 e26
  cases t21 with
  | false =>
   exact(hp20.clash hp29).elim
  | true =>
   obtain⟨a33,a34,a35,rfl⟩:=len3 hp29.len
   obtain⟨q36,o37,rfl,hq38⟩:=hy27.reg (by simp)
   try simp -implicitDefEqProofs only[↓zP,zQ,Nat.reduceAdd,↓qC]
   refine zD [(0,0),(4,0)] ?_
   obtain⟨r43,r44,Z45,c46,e47,f48⟩:=openE hx32 hl (key) (a35)
   try simp -implicitDefEqProofs only[↓zP,zQ,Nat.reduceLT,b30,Int.reduceLE,Int.reduceLT,Int.reduceToNat,hq38,Nat.reduceAdd]
   refine qF rfl c46 ?_
   have b49:=e47.at b30
   have b50:=e47.at hq38
   obtain⟨w53,oi54⟩:=f48
   try simp only[↓zP,zQ,↓qC,b49]
   refine⟨zX (zX (qH)),?_⟩
   obtain⟨t55,L56,y57,Z58,c59,e60,hy61,hn62,hp63⟩:=jI (RdN.ext hx32 e47) hl (r43) 3 3 rfl (by decide)
   refine qF rfl c59 ?_
   have b65:=e60.at b50
   have E66:=((E15.trans e26).trans e47).trans e60
   cases t55 with
   | false =>
    try simp only[↓zP,zQ,↓qC]
    refine zD [(9,0),(12,0),(18,0),(21,0)] ?_
    cases r44 with
    | false =>
     try simp only[↓zP,zQ,↓qC]
     refine⟨zX (zX (zX (zX (qH)))),?_⟩
     exact⟨_,_,rfl,E66,⟨by decide,by decide⟩⟩
    | true =>
     try simp only[↓zP,zQ,qA,↓qC]
     refine⟨zX (zX (zX (zX (qH)))),?_⟩
     exact⟨_,_,rfl,E66,⟨by decide,by decide⟩⟩
   | true =>
    obtain⟨a68,a69,a70,rfl⟩:=len3 hp63.len
    obtain⟨q71,o72,rfl,hq73⟩:=hy61.reg (by simp)
    try simp -implicitDefEqProofs only[↓zP,zQ,Nat.reduceAdd,↓qC]
    refine zD [(9,0),(12,0),(18,0),(21,0)] ?_
    cases r44 with
    | false =>
     try simp -implicitDefEqProofs only[↓zP,zQ,Nat.reduceLT,↓qC,Int.reduceLE,Int.reduceLT,Int.reduceToNat,hq73,Nat.reduceAdd]
     refine⟨zX (zX (zX (zX (qH)))),?_⟩
     exact⟨_,_,rfl,E66,⟨by decide,by decide⟩⟩
    | true =>
     by_cases h79:a68=a33
     ·have h80:=eq_true h79
      try simp -implicitDefEqProofs only[↓zP,zQ,Nat.reduceLT,qA,qD,Int.reduceLT,b65,Nat.reduceAdd,hq73,h80,Int.reduceLE,Int.reduceToNat,↓qC]
      refine⟨zX (zX (zX (zX (qH)))),?_⟩
      by_cases h81:a69=a34
      ·have h82:=eq_true h81
       try simp only[zQ,h82]
       exact⟨_,_,rfl,E66,((hp63.w64) a70 (by simp))⟩
      ·try simp only[zQ,h81]
       exact⟨_,_,rfl,E66,⟨by decide,by decide⟩⟩
     ·try simp -implicitDefEqProofs only[↓zP,zQ,Nat.reduceLT,qA,qD,Int.reduceLT,b65,Nat.reduceAdd,hq73,h79,↓qC,Int.reduceLE,Int.reduceToNat]
      refine⟨zX (zX (zX (zX (qH)))),?_⟩
      exact⟨_,_,rfl,E66,⟨by decide,by decide⟩⟩
theorem newerE {H:qE}{x:AV}{l:List (Rw qK)}(hx:RdN H x l)(hl:l.length≤1000000)(app side ep sq hd nt ns lt ls k:Int):∃ (bb:Bool)(Z:qE),Sound Tryz.prog 160 [.agg [x],.agg [app,side,ep,sq,hd,nt,ns,lt,ls],k] H (.sc (.bool bb)) Z∧Ext H Z:=by
 suffices h:∃ w Z,Sound Tryz.prog 160 [.agg [x],.agg [app,side,ep,sq,hd,nt,ns,lt,ls],k] H w Z∧∃ (bb:Bool),w=.sc (.bool bb)∧Ext H Z by
  obtain⟨w,Z,h1,bb,rfl,h2⟩:=h
  exact⟨bb,Z,h1,h2⟩
 refine zR 37 [.tmp 6] Tryz.func160 ?_
 have E0:=Ext.refl H
 obtain⟨b2,u3,e1,nn4⟩:=E0.alloc (i:=H.length) (by simp) {cs:=[x]}
 have E5:=E0.trans e1
 obtain⟨b8,u9,e7,nn10⟩:=E5.alloc (i:=H.length+1) (by simp) {cs:=[app,side,ep,sq,hd,nt,ns,lt,ls]}
 obtain⟨r14,r15,r16,Z17,c18,e19,f20⟩:=recHeadE (RdN.ext (RdN.ext hx e1) e7) hl (k)
 try simp only[↓zP,zQ,↓qC,(hx.one),(e7.at b2)]
 refine qF rfl c18 ?_
 have b22:=e19.at b8
 have E23:=(E5.trans e7).trans e19
 obtain⟨w25,w26,f27⟩:=f20
 cases r16 with
 | false =>
  try simp only[↓zP,zQ,↓qC,bo_v,↓uE,qA]
  exact⟨_,rfl,E23⟩
 | true =>
  obtain⟨_,hp28⟩:=f27 rfl
  by_cases h29:hd<r14
  ·try simp only[↓zP,zQ,↓qC,b22,h29,bo_v,↓uE]
   exact⟨_,rfl,E23⟩
  ·by_cases h30:r14=hd
   ·have h31:=eq_true h30
    try simp -implicitDefEqProofs only[↓zP,zQ,↓qC,b22,h29,h31,qA,Nat.reduceAdd]
    exact⟨_,rfl,E23⟩
   ·try simp only[↓zP,zQ,↓qC,b22,h29,h30,qA]
    exact⟨_,rfl,E23⟩
theorem helloInE {H:qE}{x:AV}{l:List (Rw qK)}(hx:RdN H x l)(hl:l.length≤1000000)(k:Int):∃ (m0:Int)(m1:Int)(m2:Int)(m3:Int)(bb:Bool)(Z:qE),Sound Tryz.prog 155 [.agg [x],k] H (.tup [.agg [m0,m1,m2,m3],.sc (.bool bb)]) Z∧Ext H Z∧W64 m0∧W64 m1∧W64 m2∧W64 m3:=by
 suffices h:∃ w Z,Sound Tryz.prog 155 [.agg [x],k] H w Z∧∃ (m0:Int)(m1:Int)(m2:Int)(m3:Int)(bb:Bool),w=.tup [.agg [m0,m1,m2,m3],.sc (.bool bb)]∧Ext H Z∧W64 m0∧W64 m1∧W64 m2∧W64 m3 by
  obtain⟨w,Z,h1,m0,m1,m2,m3,bb,rfl,h2⟩:=h
  exact⟨m0,m1,m2,m3,bb,Z,h1,h2⟩
 refine zR 87 [.cell 4 128,.tmp 5] Tryz.func155 ?_
 have E0:=Ext.refl H
 obtain⟨b2,u3,e1,nn4⟩:=E0.alloc (i:=H.length) (by simp) {cs:=[x]}
 have E5:=E0.trans e1
 obtain⟨b8,u9,e7,nn10⟩:=E5.alloc (i:=H.length+1) (by simp) {cs:=[(0:Int),(0:Int),(0:Int),(0:Int)]}
 have b11:=e7.at b2
 have hx13:=RdN.ext (RdN.ext hx e1) e7
 obtain⟨t14,L15,y16,Z17,c18,e19,hy20,hn21,hp22⟩:=jI hx13 hl (k) 5 5 rfl (by decide)
 try simp only[↓zP,zQ,↓qC,(hx.one),b11]
 refine qF rfl c18 ?_
 have b23:=e19.at b11
 have b24:=e19.at b8
 have E25:=(E5.trans e7).trans e19
 have hx26:=RdN.ext hx13 e19
 cases t14 with
 | false =>
  try simp only[↓zP,zQ,↓qC]
  refine zD [(3,0),(6,0),(11,8),(14,8),(19,16),(22,16)] ?_
  try simp -implicitDefEqProofs only[↓zP,zQ,↓qC,b24,Nat.reduceAdd,xZ,xY]
  refine⟨zX (zX (zX (zX (zX (zX (qH)))))),?_⟩
  have E27:=E25.set u9 {cs:=[(0:Int),(0:Int),(0:Int),(0:Int)]}
  have b29:=yE b24 {cs:=[(0:Int),(0:Int),(0:Int),(0:Int)]}
  try simp -implicitDefEqProofs only[zQ,b29,Nat.reduceAdd]
  exact⟨_,_,_,_,_,rfl,E27,⟨by decide,by decide⟩,⟨by decide,by decide⟩,⟨by decide,by decide⟩,⟨by decide,by decide⟩⟩
 | true =>
  obtain⟨a31,a32,a33,a34,a35,rfl⟩:=len5 hp22.len
  obtain⟨q36,o37,rfl,hq38⟩:=hy20.reg (by simp)
  have hw39:=hp22.w64
  try simp -implicitDefEqProofs only[↓zP,zQ,Nat.reduceAdd,↓qC]
  refine zD [(3,0),(6,0),(11,8),(14,8),(19,16),(22,16)] ?_
  obtain⟨t44,Z45,c46,e47,ht48⟩:=num10S hx26 hl (a31) (61)
  try simp -implicitDefEqProofs only[↓zP,zQ,Nat.reduceLT,b23,qD,Int.reduceLT,hq38,Nat.reduceAdd]
  refine qF rfl c46 ?_
  have b49:=e47.at b23
  have b50:=e47.at b24
  have b51:=e47.at hq38
  have E52:=E25.trans e47
  have hx53:=RdN.ext hx26 e47
  cases t44 with
  | false =>
   try simp -implicitDefEqProofs only[↓zP,zQ,qA,↓qC,b50,Nat.reduceAdd,xZ,xY]
   refine⟨zX (zX (zX (zX (zX (zX (qH)))))),?_⟩
   have E54:=E52.set u9 {cs:=[(0:Int),(0:Int),(0:Int),(0:Int)]}
   have b56:=yE b50 {cs:=[(0:Int),(0:Int),(0:Int),(0:Int)]}
   try simp -implicitDefEqProofs only[zQ,b56,Nat.reduceAdd]
   exact⟨_,_,_,_,_,rfl,E54,⟨by decide,by decide⟩,⟨by decide,by decide⟩,⟨by decide,by decide⟩,⟨by decide,by decide⟩⟩
  | true =>
   obtain⟨r59,Z60,c61,e62⟩:=nonceE hx53 hl (a34)
   try simp -implicitDefEqProofs only[↓zP,zQ,Nat.reduceLT,qA,b49,Int.reduceLE,Int.reduceLT,Int.reduceToNat,b51,Nat.reduceAdd]
   refine qF rfl c61 ?_
   have b64:=e62.at b49
   have b65:=e62.at b50
   have b66:=e62.at b51
   have E67:=E52.trans e62
   have hx68:=RdN.ext hx53 e62
   cases r59 with
   | false =>
    try simp -implicitDefEqProofs only[↓zP,zQ,qA,↓qC,b65,Nat.reduceAdd,xZ,xY]
    refine⟨zX (zX (zX (zX (zX (zX (qH)))))),?_⟩
    have E69:=E67.set u9 {cs:=[(0:Int),(0:Int),(0:Int),(0:Int)]}
    have b71:=yE b65 {cs:=[(0:Int),(0:Int),(0:Int),(0:Int)]}
    try simp -implicitDefEqProofs only[zQ,b71,Nat.reduceAdd]
    exact⟨_,_,_,_,_,rfl,E69,⟨by decide,by decide⟩,⟨by decide,by decide⟩,⟨by decide,by decide⟩,⟨by decide,by decide⟩⟩
   | true =>
    obtain⟨t74,Z75,c76,e77,ht78⟩:=isE hx68 hl (a35) (6)
    try simp -implicitDefEqProofs only[↓zP,zQ,Nat.reduceLT,qA,b64,Int.reduceLE,Int.reduceLT,Int.reduceToNat,b66,Nat.reduceAdd]
    refine qF rfl c76 ?_
    have b79:=e77.at b64
    have b80:=e77.at b65
    have b81:=e77.at b66
    have E82:=E67.trans e77
    have hx83:=RdN.ext hx68 e77
    try simp -implicitDefEqProofs only[↓zP,zQ,qA,↓qC,b80,Nat.reduceAdd,xZ,xY]
    refine⟨zX (zX (zX (zX (zX (zX (qH)))))),?_⟩
    cases t74 with
    | false =>
     have E84:=E82.set u9 {cs:=[(0:Int),(0:Int),(0:Int),(0:Int)]}
     have b86:=yE b80 {cs:=[(0:Int),(0:Int),(0:Int),(0:Int)]}
     try simp -implicitDefEqProofs only[zQ,b86,Nat.reduceAdd]
     exact⟨_,_,_,_,_,rfl,E84,⟨by decide,by decide⟩,⟨by decide,by decide⟩,⟨by decide,by decide⟩,⟨by decide,by decide⟩⟩
    | true =>
     obtain⟨j89,p90,hk91,hp92,ok93,h094⟩:=ht78.1 rfl
     subst hk91
     try simp only[zQ]
     refine zD [(0,0),(3,0)] ?_
     obtain⟨v98,t99,Z100,c101,e102,hn103⟩:=numE hx83 hl (a32)
     try simp -implicitDefEqProofs only[↓zP,zQ,Nat.reduceLT,b79,Int.reduceLE,Int.reduceLT,Int.reduceToNat,b81,Nat.reduceAdd]
     refine qF rfl c101 ?_
     have b105:=e102.at b80
     have b106:=e102.at b81
     try simp only[↓zP,zQ,↓qC]
     refine⟨zX (zX (qH)),?_⟩
     refine zD [(0,0),(3,0)] ?_
     obtain⟨v110,t111,Z112,c113,e114,hn115⟩:=numE (RdN.ext hx83 e102) hl (a33)
     try simp -implicitDefEqProofs only[↓zP,zQ,Nat.reduceLT,(e102.at b79),Int.reduceLE,Int.reduceLT,Int.reduceToNat,b106,Nat.reduceAdd]
     refine qF rfl c113 ?_
     have b117:=e114.at b105
     have E119:=(E82.trans e102).trans e114
     try simp only[↓zP,zQ,↓qC]
     refine⟨zX (zX (qH)),?_⟩
     cases t99 with
     | false =>
      have E122:=E119.set u9 {cs:=[(0:Int),(0:Int),(0:Int),(0:Int)]}
      have b124:=yE b117 {cs:=[(0:Int),(0:Int),(0:Int),(0:Int)]}
      try simp -implicitDefEqProofs only[↓zP,zQ,↓qC,b117,Nat.reduceAdd,xZ,xY,b124]
      exact⟨_,_,_,_,_,rfl,E122,⟨by decide,by decide⟩,⟨by decide,by decide⟩,⟨by decide,by decide⟩,⟨by decide,by decide⟩⟩
     | true =>
      cases t111 with
      | false =>
       have E127:=E119.set u9 {cs:=[(0:Int),(0:Int),(0:Int),(0:Int)]}
       have b129:=yE b117 {cs:=[(0:Int),(0:Int),(0:Int),(0:Int)]}
       try simp -implicitDefEqProofs only[↓zP,zQ,qA,↓qC,b117,Nat.reduceAdd,xZ,xY,b129]
       exact⟨_,_,_,_,_,rfl,E127,⟨by decide,by decide⟩,⟨by decide,by decide⟩,⟨by decide,by decide⟩,⟨by decide,by decide⟩⟩
      | true =>
       obtain⟨t132,c133,ht134⟩:=zH (v98) (1) (2)
       try simp only[↓zP,zQ,qA]
       refine qN rfl c133 ?_
       cases t132 with
       | false =>
        have k135:¬ (1≤v98∧v98≤2):=fun h=>by have:=ht134.2 h;cases this
        have E136:=E119.set u9 {cs:=[(0:Int),(0:Int),(0:Int),(0:Int)]}
        have b138:=yE b117 {cs:=[(0:Int),(0:Int),(0:Int),(0:Int)]}
        try simp -implicitDefEqProofs only[↓zP,zQ,qA,↓qC,b117,Nat.reduceAdd,xZ,xY,b138]
        exact⟨_,_,_,_,_,rfl,E136,⟨by decide,by decide⟩,⟨by decide,by decide⟩,⟨by decide,by decide⟩,⟨by decide,by decide⟩⟩
       | true =>
        obtain⟨t142,c143,ht144⟩:=zH (v110) (0) (9)
        try simp only[↓zP,zQ,qA]
        refine qN rfl c143 ?_
        cases t142 with
        | false =>
         have k145:¬ (0≤v110∧v110≤9):=fun h=>by have:=ht144.2 h;cases this
         have E146:=E119.set u9 {cs:=[(0:Int),(0:Int),(0:Int),(0:Int)]}
         have b148:=yE b117 {cs:=[(0:Int),(0:Int),(0:Int),(0:Int)]}
         try simp -implicitDefEqProofs only[↓zP,zQ,qA,↓qC,b117,Nat.reduceAdd,xZ,xY,b148]
         exact⟨_,_,_,_,_,rfl,E146,⟨by decide,by decide⟩,⟨by decide,by decide⟩,⟨by decide,by decide⟩,⟨by decide,by decide⟩⟩
        | true =>
         try simp -implicitDefEqProofs only[↓zP,zQ,qA,↓qC,b117,Nat.reduceAdd,xZ,xY]
         refine zD [(4,0),(7,0)] ?_
         have E152:=E119.set u9 {cs:=[v98,v110,a34,((j89:Int))]}
         have b154:=yE b117 {cs:=[v98,v110,a34,((j89:Int))]}
         try simp -implicitDefEqProofs only[↓zP,zQ,Nat.reduceLT,Int.reduceLE,Int.reduceLT,Int.reduceToNat,b117,Nat.reduceAdd,(e114.at b106),xZ,xY,b154]
         refine⟨zX (zX (qH)),?_⟩
         exact⟨_,_,_,_,_,rfl,E152,(hn103.w64),(hn115.w64),(hw39 a34 (by simp)),(hw39 (j89:Int) (by simp))⟩
theorem sealedE {H:qE}{x:AV}{l:List (Rw qK)}(hx:RdN H x l)(hl:l.length≤1000000)(k:Int):∃ (vv:Int)(Z:qE),Sound Tryz.prog 141 [.agg [x],k] H (.sc (.int .i64 vv)) Z∧Ext H Z∧W64 vv:=by
 suffices h:∃ w Z,Sound Tryz.prog 141 [.agg [x],k] H w Z∧∃ (vv:Int),w=.sc (.int .i64 vv)∧Ext H Z∧W64 vv by
  obtain⟨w,Z,h1,vv,rfl,h2⟩:=h
  exact⟨vv,Z,h1,h2⟩
 refine zR 43 [.tmp 4] Tryz.func141 ?_
 have E0:=Ext.refl H
 obtain⟨b2,u3,e1,nn4⟩:=E0.alloc (i:=H.length) (by simp) ⟨[x],true,true⟩
 have hx6:=RdN.ext hx e1
 obtain⟨t7,L8,y9,Z10,c11,e12,hy13,hn14,hp15⟩:=jI hx6 hl (k) 3 3 rfl (by decide)
 try simp only[↓zP,zQ,↓qC,Nat.reduceLT,Nat.reduceEqDiff,(hx.one),b2]
 refine qF rfl c11 ?_
 have b16:=e12.at b2
 have E17:=(E0.trans e1).trans e12
 have hx18:=RdN.ext hx6 e12
 cases t7 with
 | false =>
  try simp only[↓zP,zQ,Nat.reduceLT,Nat.reduceEqDiff,↓qC]
  refine zD [(3,0),(6,0)] ?_
  try simp only[↓zP,zQ,Nat.reduceLT,Nat.reduceEqDiff,↓qC]
  refine⟨zX (zX (qH)),?_⟩
  exact⟨_,rfl,E17,⟨by decide,by decide⟩⟩
 | true =>
  obtain⟨a19,a20,a21,rfl⟩:=len3 hp15.len
  obtain⟨q22,o23,rfl,hq24⟩:=hy13.reg (by simp)
  try simp -implicitDefEqProofs only[↓zP,zQ,Nat.reduceAdd,Nat.reduceLT,Nat.reduceEqDiff,↓qC]
  refine zD [(3,0),(6,0)] ?_
  obtain⟨t29,Z30,c31,e32,ht33⟩:=isE hx18 hl (a21) (5)
  try simp -implicitDefEqProofs only[↓zP,zQ,Nat.reduceLT,Nat.reduceEqDiff,b16,Int.reduceLE,Int.reduceLT,Int.reduceToNat,hq24,Nat.reduceAdd]
  refine qF rfl c31 ?_
  have b34:=e32.at b16
  have b35:=e32.at hq24
  have E36:=E17.trans e32
  have hx37:=RdN.ext hx18 e32
  try simp only[↓zP,zQ,Nat.reduceLT,Nat.reduceEqDiff,qA,↓qC]
  refine⟨zX (zX (qH)),?_⟩
  cases t29 with
  | false =>
   try simp only[zQ]
   exact⟨_,rfl,E36,⟨by decide,by decide⟩⟩
  | true =>
   obtain⟨j38,p39,hk40,hp41,ok42,h043⟩:=ht33.1 rfl
   have hj44:=(List.getElem?_eq_some_iff.1 hp41).1
   have k45:(0:Int)≤(j38:Int):=by omega
   have k46:(j38:Int)<(l.length:Int):=by omega
   subst hk40
   try simp only[zQ]
   refine zD [(0,0),(2,0),(5,0),(8,0)] ?_
   obtain⟨q47,rs48,_,xe49,hr50⟩:=RdN.get hx37 hj44
   have rw55:=fun (o:Bool)(kk:Nat)=>(qX yU (k:=kk) (by rw[List.getElem?_append_left hj44];exact hp41:(l++rs48)[j38]?=some p39) (j:=3) (by decide) o).trans (p39.int_at 3 rfl).1
   obtain⟨t56,L57,y58,Z59,c60,e61,hy62,hn63,hp64⟩:=jI hx37 hl (p39.int 3) 3 3 rfl (by decide)
   try simp -implicitDefEqProofs only[↓zP,zQ,xe49,Nat.reduceLT,Nat.reduceEqDiff,b34,Int.reduceLE,Int.reduceLT,Int.reduceToNat,b35,Nat.reduceAdd,k45,k46,qB,hr50,rw55]
   refine qF (by simp only[xe49]<;>rfl) c60 ?_
   have E67:=E36.trans e61
   cases t56 with
   | false =>
    try simp only[↓zP,zQ,Nat.reduceLT,Nat.reduceEqDiff,↓qC]
    refine⟨zX (zX (zX (zX (qH)))),?_⟩
    exact⟨_,rfl,E67,⟨by decide,by decide⟩⟩
   | true =>
    obtain⟨a70,a71,a72,rfl⟩:=len3 hp64.len
    obtain⟨q73,o74,rfl,hq75⟩:=hy62.reg (by simp)
    try simp -implicitDefEqProofs only[↓zP,zQ,Nat.reduceAdd,Nat.reduceLT,Nat.reduceEqDiff,↓qC,Int.reduceLE,Int.reduceLT,Int.reduceToNat,hq75]
    refine⟨zX (zX (zX (zX (qH)))),?_⟩
    exact⟨_,rfl,E67,((hp64.w64) a72 (by simp))⟩
theorem handG {H:qE}{r off:Nat}{cs:List AV}{x:AV}{l:List (Rw qK)}(hP:PlN H r off cs x l)(hl:l.length≤3000)(a b c:Int):ArC 179 [.ptr r off,.sc (.int .i64 (a)),.sc (.int .i64 (b)),.sc (.int .i64 (c))] H r off cs x l (GQ l):=by
 refine ArC.of (Sound.runP (args:=[.ptr r off,.sc (.int .i64 (a)),.sc (.int .i64 (b)),.sc (.int .i64 (c))]) 18 [.tmp 8] Tryz.func179 rfl rfl rfl rfl (by simp) (AR H r off cs x (GQ l)) ?_)
 obtain⟨v1,l1,x1,Z1,a1,p1,o1,g1⟩:=wG (xB hP) hl (2) (a) (b)
 rw[qM] at p1
 have G1:=(Grw.refl l).trans g1.1
 simp only[↓zP,zQ,↓qC]
 refine qF rfl a1 ?_
 obtain⟨v2,l2,x2,Z2,a2,p2,o2,g2⟩:=wG p1 (G1.2.1 hl) (3) (c) (0)
 rw[qM] at p2
 have G2:=G1.trans g2.1
 simp only[↓zP,zQ]
 refine qF rfl a2 ?_
 obtain⟨v3,l3,x3,Z3,a3,p3,o3,g3⟩:=wG p2 (G2.2.1 hl) (4) (v1) (v2)
 rw[qM] at p3
 simp only[↓zP]
 refine qF rfl a3 ?_
 simp only[↓zP,zQ]
 exact⟨_,l3,x3,rfl,p3,((((Only.refl H r x).trans o1).trans o2).trans o3),⟨(G2.trans g3.1),g3.2⟩⟩
theorem doneG {H:qE}{r off:Nat}{cs:List AV}{x:AV}{l:List (Rw qK)}(hP:PlN H r off cs x l)(hl:l.length≤3000)(a b c:Int):ArC 181 [.ptr r off,.sc (.int .i64 (a)),.sc (.int .i64 (b)),.sc (.int .i64 (c))] H r off cs x l (GQ l):=by
 refine ArC.of (Sound.runP (args:=[.ptr r off,.sc (.int .i64 (a)),.sc (.int .i64 (b)),.sc (.int .i64 (c))]) 19 [.tmp 8] Tryz.func181 rfl rfl rfl rfl (by simp) (AR H r off cs x (GQ l)) ?_)
 obtain⟨v1,l1,x1,Z1,a1,p1,o1,g1⟩:=sideG (xB hP) hl (a) (IntKind.i64.wrap (10+b))
 rw[qM] at p1
 have G1:=(Grw.refl l).trans g1.1
 simp only[↓zP,zQ,↓qC]
 refine qF rfl a1 ?_
 obtain⟨v2,l2,x2,Z2,a2,p2,o2,g2⟩:=wG p1 (G1.2.1 hl) (3) (c) (0)
 rw[qM] at p2
 have G2:=G1.trans g2.1
 simp only[↓zP,zQ]
 refine qF rfl a2 ?_
 obtain⟨v3,l3,x3,Z3,a3,p3,o3,g3⟩:=wG p2 (G2.2.1 hl) (9) (v1) (v2)
 rw[qM] at p3
 simp only[↓zP]
 refine qF rfl a3 ?_
 simp only[↓zP,zQ]
 exact⟨_,l3,x3,rfl,p3,((((Only.refl H r x).trans o1).trans o2).trans o3),⟨(G2.trans g3.1),g3.2⟩⟩
theorem cookieG {H:qE}{r off:Nat}{cs:List AV}{x:AV}{l:List (Rw qK)}(hP:PlN H r off cs x l)(hl:l.length≤3000)(a b c:Int):ArC 156 [.ptr r off,.sc (.int .i64 (a)),.sc (.int .i64 (b)),.sc (.int .i64 (c))] H r off cs x l (GQ l):=by
 refine ArC.of (Sound.runP (args:=[.ptr r off,.sc (.int .i64 (a)),.sc (.int .i64 (b)),.sc (.int .i64 (c))]) 29 [.tmp 8] Tryz.func156 rfl rfl rfl rfl (by simp) (AR H r off cs x (GQ l)) ?_)
 obtain⟨v1,l1,x1,Z1,a1,p1,o1,g1⟩:=xK (xB hP) hl (a)
 rw[qM] at p1
 have G1:=(Grw.refl l).trans g1.1
 simp only[↓zP,zQ,↓qC]
 refine qF rfl a1 ?_
 obtain⟨v2,l2,x2,Z2,a2,p2,o2,g2⟩:=xK p1 (G1.2.1 hl) (b)
 rw[qM] at p2
 have G2:=G1.trans g2.1
 simp only[↓zP,zQ,↓qC]
 refine qF rfl a2 ?_
 obtain⟨v3,l3,x3,Z3,a3,p3,o3,g3⟩:=wG p2 (G2.2.1 hl) (3) (c) (0)
 rw[qM] at p3
 have G3:=G2.trans g3.1
 simp only[↓zP,zQ,↓qC]
 refine qF rfl a3 ?_
 obtain⟨v4,l4,x4,Z4,a4,p4,o4,g4,i4⟩:=listG p3 (G3.2.1 hl) [v2,v3] 2 rfl (by decide)
 rw[qM] at p4
 have G4:=G3.trans g4.1
 simp only[↓zP,zQ]
 refine qF rfl a4 ?_
 obtain⟨v5,l5,x5,Z5,a5,p5,o5,g5⟩:=wG p4 (G4.2.1 hl) (9) (v1) (v4)
 rw[qM] at p5
 simp only[↓zP,zQ,↓qC]
 refine qF rfl a5 ?_
 simp only[↓zP,zQ]
 exact⟨_,l5,x5,rfl,p5,((((((Only.refl H r x).trans o1).trans o2).trans o3).trans o4).trans o5),⟨(G4.trans g5.1),g5.2⟩⟩
theorem certG {H:qE}{r off:Nat}{cs:List AV}{x:AV}{l:List (Rw qK)}(hP:PlN H r off cs x l)(hl:l.length≤3000)(a:Int):ArC 65 [.ptr r off,.sc (.int .i64 (a))] H r off cs x l (GQ l):=by
 refine ArC.of (Sound.runP (args:=[.ptr r off,.sc (.int .i64 (a))]) 30 [.tmp 4] Tryz.func65 rfl rfl rfl rfl (by simp) (AR H r off cs x (GQ l)) ?_)
 obtain⟨v1,l1,x1,Z1,a1,p1,o1,g1⟩:=xK (xB hP) hl (1000)
 rw[qM] at p1
 have G1:=(Grw.refl l).trans g1.1
 simp only[↓zP,zQ,↓qC]
 refine qF rfl a1 ?_
 obtain⟨v2,l2,x2,Z2,a2,p2,o2,g2⟩:=xK p1 (G1.2.1 hl) (60)
 rw[qM] at p2
 have G2:=G1.trans g2.1
 simp only[↓zP,zQ,↓qC]
 refine qF rfl a2 ?_
 obtain⟨v3,l3,x3,Z3,a3,p3,o3,g3⟩:=xK p2 (G2.2.1 hl) (a)
 rw[qM] at p3
 have G3:=G2.trans g3.1
 simp only[↓zP,zQ,↓qC]
 refine qF rfl a3 ?_
 obtain⟨v4,l4,x4,Z4,a4,p4,o4,g4⟩:=longG p3 (G3.2.1 hl) (a)
 rw[qM] at p4
 have G4:=G3.trans g4.1
 simp only[↓zP,zQ,↓qC]
 refine qF rfl a4 ?_
 obtain⟨v5,l5,x5,Z5,a5,p5,o5,g5⟩:=wG p4 (G4.2.1 hl) (6) (v4) (0)
 rw[qM] at p5
 have G5:=G4.trans g5.1
 simp only[↓zP]
 refine qF rfl a5 ?_
 obtain⟨v6,l6,x6,Z6,a6,p6,o6,g6,i6⟩:=listG p5 (G5.2.1 hl) [v2,v3,v5] 3 rfl (by decide)
 rw[qM] at p6
 have G6:=G5.trans g6.1
 simp only[↓zP,zQ,↓qC]
 refine qF rfl a6 ?_
 obtain⟨v7,l7,x7,Z7,a7,p7,o7,g7⟩:=wG p6 (G6.2.1 hl) (8) (v1) (v6)
 rw[qM] at p7
 simp only[↓zP]
 refine qF rfl a7 ?_
 simp only[↓zP,zQ]
 exact⟨_,l7,x7,rfl,p7,((((((((Only.refl H r x).trans o1).trans o2).trans o3).trans o4).trans o5).trans o6).trans o7),⟨(G6.trans g7.1),g7.2⟩⟩
theorem serverG {H:qE}{r off:Nat}{cs:List AV}{x:AV}{l:List (Rw qK)}(hP:PlN H r off cs x l)(hl:l.length≤3000)(a b:Int):ArC 99 [.ptr r off,.sc (.int .i64 (a)),.sc (.int .i64 (b))] H r off cs x l (GQ l):=by
 refine ArC.of (Sound.runP (args:=[.ptr r off,.sc (.int .i64 (a)),.sc (.int .i64 (b))]) 14 [.tmp 6] Tryz.func99 rfl rfl rfl rfl (by simp) (AR H r off cs x (GQ l)) ?_)
 obtain⟨v1,l1,x1,Z1,a1,p1,o1,g1⟩:=xK (xB hP) hl (62)
 rw[qM] at p1
 have G1:=(Grw.refl l).trans g1.1
 simp only[↓zP,zQ,↓qC]
 refine qF rfl a1 ?_
 obtain⟨v2,l2,x2,Z2,a2,p2,o2,g2,i2⟩:=listG p1 (G1.2.1 hl) [v1,a,b] 3 rfl (by decide)
 rw[qM] at p2
 simp only[↓zP,zQ]
 refine qF rfl a2 ?_
 simp only[↓zP,zQ]
 exact⟨_,l2,x2,rfl,p2,(((Only.refl H r x).trans o1).trans o2),⟨(G1.trans g2.1),g2.2⟩⟩
theorem wordsG {H:qE}{r off:Nat}{cs:List AV}{x:AV}{l:List (Rw qK)}(hP:PlN H r off cs x l)(hl:l.length≤3000)(a b:Int):ArC 180 [.ptr r off,.sc (.int .i64 (a)),.sc (.int .i64 (b))] H r off cs x l (GQ l):=by
 refine ArC.of (Sound.runP (args:=[.ptr r off,.sc (.int .i64 (a)),.sc (.int .i64 (b))]) 19 [.tmp 6] Tryz.func180 rfl rfl rfl rfl (by simp) (AR H r off cs x (GQ l)) ?_)
 obtain⟨v1,l1,x1,Z1,a1,p1,o1,g1⟩:=xK (xB hP) hl (IntKind.i64.wrap (80+a))
 rw[qM] at p1
 have G1:=(Grw.refl l).trans g1.1
 simp only[↓zP,zQ,↓qC]
 refine qF rfl a1 ?_
 obtain⟨v2,l2,x2,Z2,a2,p2,o2,g2⟩:=wG p1 (G1.2.1 hl) (3) (b) (0)
 rw[qM] at p2
 have G2:=G1.trans g2.1
 simp only[↓zP,zQ,↓qC]
 refine qF rfl a2 ?_
 obtain⟨v3,l3,x3,Z3,a3,p3,o3,g3,i3⟩:=listG p2 (G2.2.1 hl) [v1,v2] 2 rfl (by decide)
 rw[qM] at p3
 simp only[↓zP,zQ]
 refine qF rfl a3 ?_
 simp only[↓zP,zQ]
 exact⟨_,l3,x3,rfl,p3,((((Only.refl H r x).trans o1).trans o2).trans o3),⟨(G2.trans g3.1),g3.2⟩⟩
theorem ackG {H:qE}{r off:Nat}{cs:List AV}{x:AV}{l:List (Rw qK)}(hP:PlN H r off cs x l)(hl:l.length≤3000)(a b c:Int):ArC 174 [.ptr r off,.sc (.int .i64 (a)),.sc (.int .i64 (b)),.sc (.int .i64 (c))] H r off cs x l (GQ l):=by
 refine ArC.of (Sound.runP (args:=[.ptr r off,.sc (.int .i64 (a)),.sc (.int .i64 (b)),.sc (.int .i64 (c))]) 27 [.tmp 8] Tryz.func174 rfl rfl rfl rfl (by simp) (AR H r off cs x (GQ l)) ?_)
 obtain⟨v1,l1,x1,Z1,a1,p1,o1,g1⟩:=sideG (xB hP) hl (a) (40)
 rw[qM] at p1
 have G1:=(Grw.refl l).trans g1.1
 simp only[↓zP,zQ,↓qC]
 refine qF rfl a1 ?_
 obtain⟨v2,l2,x2,Z2,a2,p2,o2,g2⟩:=xK p1 (G1.2.1 hl) (b)
 rw[qM] at p2
 have G2:=G1.trans g2.1
 simp only[↓zP,zQ,↓qC]
 refine qF rfl a2 ?_
 obtain⟨v3,l3,x3,Z3,a3,p3,o3,g3⟩:=wG p2 (G2.2.1 hl) (3) (c) (0)
 rw[qM] at p3
 have G3:=G2.trans g3.1
 simp only[↓zP,zQ,↓qC]
 refine qF rfl a3 ?_
 obtain⟨v4,l4,x4,Z4,a4,p4,o4,g4,i4⟩:=listG p3 (G3.2.1 hl) [v2,v3] 2 rfl (by decide)
 rw[qM] at p4
 have G4:=G3.trans g4.1
 simp only[↓zP,zQ]
 refine qF rfl a4 ?_
 obtain⟨v5,l5,x5,Z5,a5,p5,o5,g5⟩:=wG p4 (G4.2.1 hl) (5) (v1) (v4)
 rw[qM] at p5
 simp only[↓zP]
 refine qF rfl a5 ?_
 simp only[↓zP,zQ]
 exact⟨_,l5,x5,rfl,p5,((((((Only.refl H r x).trans o1).trans o2).trans o3).trans o4).trans o5),⟨(G4.trans g5.1),g5.2⟩⟩
theorem partG {H:qE}{r off:Nat}{cs:List AV}{x:AV}{l:List (Rw qK)}(hP:PlN H r off cs x l)(hl:l.length≤3000)(a b c d e:Int):ArC 165 [.ptr r off,.sc (.int .i64 (a)),.sc (.int .i64 (b)),.sc (.int .i64 (c)),.sc (.int .i64 (d)),.sc (.int .i64 (e))] H r off cs x l (GQ l):=by
 refine ArC.of (Sound.runP (args:=[.ptr r off,.sc (.int .i64 (a)),.sc (.int .i64 (b)),.sc (.int .i64 (c)),.sc (.int .i64 (d)),.sc (.int .i64 (e))]) 54 [.tmp 12] Tryz.func165 rfl rfl rfl rfl (by simp) (AR H r off cs x (GQ l)) ?_)
 obtain⟨v1,l1,x1,Z1,a1,p1,o1,g1⟩:=sideG (xB hP) hl (b) (a)
 rw[qM] at p1
 have O1:=(Only.refl H r x).trans o1
 have G1:=(Grw.refl l).trans g1.1
 have b1:=G1.2.1 hl
 simp only[↓zP,zQ,↓qC]
 refine qF rfl a1 ?_
 by_cases h:c=1
 ·obtain⟨v2,l2,x2,Z2,a2,p2,o2,g2⟩:=certG p1 b1 (d)
  rw[qM] at p2
  have O2:=O1.trans o2
  have G2:=G1.trans g2.1
  have b2:=G2.2.1 hl
  simp only[↓zP,zQ,↓qC,h]
  refine qF rfl a2 ?_
  obtain⟨v3,l3,x3,Z3,a3,p3,o3,g3⟩:=longG p2 b2 (d)
  rw[qM] at p3
  have O3:=O2.trans o3
  have G3:=G2.trans g3.1
  have b3:=G3.2.1 hl
  simp only[↓zP,zQ,↓qC]
  refine qF rfl a3 ?_
  obtain⟨v4,l4,x4,Z4,a4,p4,o4,g4⟩:=wordsG p3 b3 (a) (e)
  rw[qM] at p4
  have O4:=O3.trans o4
  have G4:=G3.trans g4.1
  have b4:=G4.2.1 hl
  simp only[↓zP,zQ]
  refine qF rfl a4 ?_
  obtain⟨v5,l5,x5,Z5,a5,p5,o5,g5⟩:=wG p4 b4 (8) (v3) (v4)
  rw[qM] at p5
  have O5:=O4.trans o5
  have G5:=G4.trans g5.1
  have b5:=G5.2.1 hl
  simp only[↓zP]
  refine qF rfl a5 ?_
  obtain⟨v6,l6,x6,Z6,a6,p6,o6,g6⟩:=doneG p5 b5 (b) (a) (e)
  rw[qM] at p6
  have O6:=O5.trans o6
  have G6:=G5.trans g6.1
  simp only[↓zP,zQ,↓qC]
  refine qF rfl a6 ?_
  obtain⟨v7,l7,x7,Z7,a7,p7,o7,g7,i7⟩:=listG p6 (G6.2.1 hl) [v2,v5,v6] 3 rfl (by decide)
  rw[qM] at p7
  have G7:=G6.trans g7.1
  simp only[↓zP,zQ]
  refine qF rfl a7 ?_
  obtain⟨v8,l8,x8,Z8,a8,p8,o8,g8⟩:=wG p7 (G7.2.1 hl) (5) (v1) (v7)
  rw[qM] at p8
  simp only[↓zP,zQ,↓qC]
  refine qF rfl a8 ?_
  simp only[↓zP,zQ]
  exact⟨_,l8,x8,rfl,p8,((O6.trans o7).trans o8),⟨(G7.trans g8.1),g8.2⟩⟩
 ·obtain⟨v2,l2,x2,Z2,a2,p2,o2,g2⟩:=xK p1 b1 (0)
  rw[qM] at p2
  have O2:=O1.trans o2
  have G2:=G1.trans g2.1
  have b2:=G2.2.1 hl
  simp only[↓zP,zQ,↓qC,h]
  refine qF rfl a2 ?_
  obtain⟨v3,l3,x3,Z3,a3,p3,o3,g3⟩:=doneG p2 b2 (b) (a) (e)
  rw[qM] at p3
  have O3:=O2.trans o3
  have G3:=G2.trans g3.1
  have b3:=G3.2.1 hl
  simp only[↓zP,zQ,↓qC]
  refine qF rfl a3 ?_
  obtain⟨v4,l4,x4,Z4,a4,p4,o4,g4,i4⟩:=listG p3 b3 [v2,v2,v3] 3 rfl (by decide)
  rw[qM] at p4
  have O4:=O3.trans o4
  have G4:=G3.trans g4.1
  have b4:=G4.2.1 hl
  simp only[↓zP,zQ]
  refine qF rfl a4 ?_
  obtain⟨v5,l5,x5,Z5,a5,p5,o5,g5⟩:=wG p4 b4 (5) (v1) (v4)
  rw[qM] at p5
  have O5:=O4.trans o5
  have G5:=G4.trans g5.1
  have b5:=G5.2.1 hl
  simp only[↓zP,zQ,↓qC]
  refine qF rfl a5 ?_
  simp only[↓zP,zQ]
  exact⟨_,l5,x5,rfl,p5,O5,⟨G5,g5.2⟩⟩
def atomAt (l:List (Rw qK))(h k:Int):Prop:=∃ (j:Nat)(p:Rw qK),h=j∧l[j]?=some p∧Is4 p 1 k 0 0
theorem atomAt.grw {l l':List (Rw qK)}{h k:Int}(g:Grw l l')(a:atomAt l h k):atomAt l' h k:=by
 obtain⟨j,p,h1,h2,h3⟩:=a
 exact⟨j,p,h1,g.at h2,h3⟩
theorem uD {Z:qE}{r off:Nat}{cs:List AV}{x:AV}{l:List (Rw qK)}(hP:PlN Z r off cs x l)(hl:l.length≤3000)(k:Int)(L:List Int)(n:Nat)(hn:L.length=n)(hL:n≤100) :
  ∃ (v:Int)(l':List (Rw qK))(x':AV)(Z':qE),Sound Tryz.prog 84 [.ptr r off,k,.sl Z.length 0 n 1] (Z++[{cs:=ints .i64 L}]) (.sc (.int .i64 v)) Z'∧PlN Z' r off (cs.set off x') x' l'∧Only Z Z' r x x'∧GQ l v l'∧(v = -1∨∃ h,ListAt l' (h :: L) v∧atomAt l' h k):=by
 suffices h:∃ w Z',Sound Tryz.prog 84 [.ptr r off,k,.sl Z.length 0 n 1] (Z++[{cs:=ints .i64 L}]) w Z'∧∃ (v:Int)(l':List (Rw qK))(x':AV),w=.sc (.int .i64 v)∧PlN Z' r off (cs.set off x') x' l'∧Only Z Z' r x x'∧GQ l v l'∧(v = -1∨∃ h,ListAt l' (h :: L) v∧atomAt l' h k) by
  obtain⟨w,Z',h1,v,l',x',rfl,h2⟩:=h
  exact⟨v,l',x',Z',h1,h2⟩
 refine zR 15 [.tmp 6] Tryz.func84 ?_
 have e:=Ext.more Z [{cs:=ints .i64 L}]
 obtain⟨v1,l1,x1,Z1,a1,p1,o1,g1⟩:=atomS (hP.ext e) hl k
 have c1:Lcl (Z++[{cs:=ints .i64 L}]) r x (Z.length+0) {cs:=ints .i64 L}:=Lcl.new hP 0 rfl
 have hq:Z1[Z.length]?=some {cs:=ints .i64 L}:=(c1.only o1).1
 have b1:=g1.1.2.1 hl
 obtain⟨K,hK⟩:∃ K:qE,K=yG (Z1++[{cs:=ints .i64 [v1]}]) Z1.length:=⟨_,rfl⟩
 have kl:K.length=Z1.length+1:=by rw[hK,yZ];simp
 have ka:∀ i,i<Z1.length→K[i]?=Z1[i]?:=fun i hi=>by rw[hK,uR _ _ _ (by omega),yS _ _ _ hi]
 have p2:PlN K r off (cs.set off x1) x1 l1:=⟨(ka r (qP p1.1)).trans p1.1,p1.2.1,OwnF.keep p1.2.2.1 (fun i hi _=>ka i hi),p1.2.2.2⟩
 obtain⟨v2,l2,x2,Z2,a2,p3,o2,g2,i2⟩:=listG p2 b1 (v1 :: L) (1+n) (by simp[hn];omega) (by omega)
 rw[qM] at p3
 have hq2:∀ g,(Z1++[g])[Z.length]?=some {cs:=ints .i64 L}:=fun g=>(yS _ _ _ (qP hq)).trans hq
 have hc:atT (some {cs:=ints .i64 L}) 0 n=some (ints .i64 L):=by subst hn;rw[at_ints];simp
 simp only[↓zP,zQ,↓qC]
 refine qF rfl a1 ?_
 simp only[↓zP,zQ,hq2,hc,hn,(by omega:(1+n)*8≤140737488355328∧1+n≤140737488355328)]
 have hK2:yG (Z1++[{cs:=ints .i64 [v1]}]) Z1.length++[{cs:=ints .i64 (v1 :: L)}]=K++[{cs:=ints .i64 (v1 :: L)}]:=by rw[hK]
 rw[kl] at a2
 rw[hK2]
 refine qF rfl a2 ?_
 simp only[↓zP,zQ]
 have oK:Only Z1 K r x1 x1:=⟨by omega,fun i hi _ _=>ka i hi,fun _ _ h=>h⟩
 refine⟨v2,l2,x2,rfl,p3,((Only.ext e r x).trans o1).trans (oK.trans o2),GQ.tr g1.1 g2,?_⟩
 rcases i2 with h | h
 ·exact .inl h
 ·right
  refine⟨v1,h,?_⟩
  rcases g1.2 with ⟨h1,_⟩ | ⟨j,p,h1,h2,h3,h4⟩
  ·obtain⟨j,p,w,_,_,_,ha,_⟩:=h
   omega
  ·exact⟨j,p,h1,g2.1.at h2,h3⟩
theorem rows_flat {ks:List Kd}(l:List (Rw ks)):∀ a,a∈rows Rw.cs l→Flat a:=by
 intro a ha
 obtain⟨cs,h1,h2⟩:=List.mem_flatten.1 ha
 obtain⟨p,_,rfl⟩:=List.mem_map.1 h1
 obtain⟨v,_,rfl⟩:=List.mem_map.1 h2
 exact .sc v
def Holds (ρ:Ren)(w:World)(x:AV)(l:List (Rw qK)):Prop:=(x=.sc (.slice none 0 0)∧l=[])∨∃ q lq m c e fz,x=.sl q 0 l.length 4∧ρ q=some lq∧lq.b<w.heap.size∧w.heap[lq.b]?=some (.cells c e fz)∧c.size=lq.n∧lq.o+(rows (Rw.cs (ks:=qK)) (l++m)).length≤lq.n∧LR ρ (rows Rw.cs (l++m)) ((c.toList.drop lq.o).take (rows (Rw.cs (ks:=qK)) (l++m)).length)
theorem OwnN.holds {M base:Nat}{ρ:Ren}{H:qE}{w:World}{x:AV}{l:List (Rw qK)}{u:Value}(h:OwnN H x l)(hR:Rel M ρ base (hf H) w)(hx:VR ρ x u):Holds ρ w x l:=by
 rcases h with h | ⟨r,rest,rfl,hr⟩
 ·exact .inl h
 ·right
  have hρ:∃ lq,ρ r=some lq:=by
   generalize l.length=k at hx
   cases hx with
   | sl a _ _=>exact⟨_,a⟩
   | sl0 a=>exact⟨_,a⟩
  obtain⟨lq,hρ⟩:=hρ
  obtain⟨c,e,fz,h1,h2,h3,h4,_⟩:=hR.reg r _ lq hr rfl hρ
  exact⟨r,lq,rest,c,e,fz,rfl,hρ,hR.lt r lq hρ,h1,h2,h3,h4⟩
theorem Stl.holds {M N base:Nat}{ρ ρ0:Ren}{H Z:qE}{w w0:World}{y:AV}{l:List (Rw qK)}(hR:Rel M ρ base (hf Z) w)(hG:Grow M N ρ0 (hf H) w0 ρ (hf Z) w){q:Nat}(s:Stl Z H.length l y q) :
  ∀ {lq:Loc},(∀ g,hf H q=some g→g.live=true)→ρ q=some lq→Holds ρ w (.sl q 0 l.length 4) l:=by
 induction s with
 | @live q k m e hq =>
  intro lq _ hρ
  obtain⟨c,e,fz,h1,h2,h3,h4,_⟩:=hR.reg q _ lq hq rfl hρ
  exact .inr ⟨q,lq,m,c,e,fz,rfl,hρ,hR.lt q lq hρ,h1,h2,h3,h4⟩
 | @dead q s m hq hs _ ih =>
  intro lq hn hρ
  rcases hG.die q _ lq s _ hq rfl rfl hn hρ rfl with h | ⟨_,h1,c,e,fz,h2,h3,h4,h5⟩
  ·have hns:∀ g,hf H s=some g→g.live=true:=fun g hg=>by
    have:=(List.getElem?_eq_some_iff.1 hg).1
    omega
   rcases ih hns h with ⟨e,_⟩ | ⟨q',lq',m',c,e,fz,he,hρ',g1,g2,g3,g4,g5⟩
   ·cases e
   ·injection he with he
    subst he
    rw[h] at hρ'
    cases hρ'
    exact .inr ⟨q,lq,m',c,e,fz,rfl,hρ,g1,g2,g3,g4,g5⟩
  ·exact .inr ⟨q,lq,m,c,e,fz,rfl,hρ,h1,h2,h3,h4,h5⟩
theorem vU {M N base : Nat}{ρ : Ren}{h : Nat → Option Reg}{w w' : World}(hR : Rel M ρ base h w)(h1 : w'.os = w.os)(h2 : w'.tape = w.tape)(h3 : w'.output = w.output)(hs : w.heap.size ≤ w'.heap.size)(hfr : ∀ b, b < w.heap.size → w'.heap[b]? = w.heap[b]?) : Rel M ρ base h w' ∧ Grow M N ρ h w ρ h w' :=
  ⟨⟨⟨Nat.le_trans hR.bs.1 hs, hR.bs.2.keep fun b hb => hfr b (Nat.lt_of_lt_of_le hb hR.bs.1)⟩, fun r l h => Nat.lt_of_lt_of_le (hR.lt r l h) hs, hR.dom, hR.top, fun r g l a b c => (hR.reg r g l a b c).mono (fun _ _ h => h) (hfr _ (hR.lt r l c)), hR.inj⟩,
   h1, h2, h3, hs, fun b hb _ => hfr b hb, fun _ _ h => h, fun _ _ _ _ k => ⟨k, rfl⟩, fun _ _ a b => (by rw [a] at b; cases b), fun _ _ _ a b c => (by rw [a] at b; injection b with b; subst b; exact ⟨c, rfl⟩), fun _ g k => ⟨g, k⟩, fun _ _ => rfl, fun _ _ a _ => ⟨a, rfl⟩, Grow.alive fun _ _ a _ => a⟩
theorem jS {f:FuncId}{v:AV}{ys:List AV}{x:AV}{l:List (Rw qK)}(hc:∀ H:qE,RdN H x l→∃ Z,Sound Tryz.prog f (.agg [x] :: ys) H v Z)(hv:Flat v)(hys:∀ a,a∈ys→Flat a){M base:Nat}{ρ:Ren}{h:Nat→Option Reg}{w:World}{cargs:Array Value}(hR:Rel M ρ base h w)(hh:Holds ρ w x l)(hA:LR ρ (.agg [x] :: ys) cargs.toList) :
  Calls Tryz.prog f cargs w fun e w'=>∃ cv,e=.returned cv∧VR ρ v cv∧w'.os=w.os∧w'.tape=w.tape∧w'.output=w.output∧w.heap.size≤w'.heap.size∧∀ b,b<w.heap.size→w'.heap[b]?=w.heap[b]?:=by
 rcases hh with ⟨rfl,rfl⟩ | ⟨q,lq,m,c,e,fz,rfl,hρ,hlt,h1,h2,h3,h4⟩
 ·obtain⟨Z,_,_,hcall⟩:=hc [] (.inl ⟨rfl,rfl⟩)
  have hR1:Rel Z.length (fun _=>none) base (hf []) w:=⟨hR.bs,fun _ _ h=>by (cases h),fun _ _ h=>by (cases h),fun r g h=>by simp[hf] at h,fun r g l h=>by simp[hf] at h,fun r1 r2 g1 g2 l1 l2 h=>by simp[hf] at h⟩
  have hfl:∀ a,a∈(.agg [.sc (.slice none 0 0)] :: ys)→Flat a:=fun a ha=>by
   rcases List.mem_cons.1 ha with rfl | ha
   ·exact .agg (qV (.sc _) yV)
   ·exact hys a ha
  refine(hcall Z.length (fun _=>none) base w cargs (Nat.le_refl _) hR1 (Flat.lr hfl hA)).mono ?_
  rintro e w' ⟨cv,ρ',rfl,hvr,hR',hG⟩
  exact⟨cv,rfl,hv.vr hvr,hG.os,hG.tape,hG.output,hG.size,fun b hb=>hG.frame b hb fun r g l h=>by simp[hf] at h⟩
 ·let Hs:qE:=List.replicate q ⟨[],false,false⟩++[⟨rows Rw.cs (l++m),false,true⟩]
  let ρs:Ren:=fun r=>if r=q then some lq else none
  have hq:Hs[q]?=some ⟨rows Rw.cs (l++m),false,true⟩:=by simp[Hs]
  have only:∀ r g,hf Hs r=some g→g.live=true→r=q∧g=⟨rows Rw.cs (l++m),false,true⟩:=by
   intro r g hg hl
   have hg:Hs[r]?=some g:=hg
   have hr:=(List.getElem?_eq_some_iff.1 hg).1
   have hr2:r<q+1:=by simpa [Hs] using hr
   rcases Nat.lt_or_ge r q with h | h
   ·exfalso
    rw[List.getElem?_append_left (by simpa using h)] at hg
    simp[h] at hg
    subst hg
    cases hl
   ·have:r=q:=by omega
    subst this
    rw[hq] at hg
    cases hg
    exact⟨rfl,rfl⟩
  obtain⟨Z,_,hlen,hcall⟩:=hc Hs (.inr ⟨q,false,m,rfl,hq⟩)
  have hρs:∀ r l',ρs r=some l'→r=q∧l'=lq:=by
   intro r l' h
   by_cases e:r=q
   ·simp only[ρs,if_pos e,Option.some.injEq] at h
    exact⟨e,h.symm⟩
   ·simp only[ρs,if_neg e] at h
    cases h
  have hR1:Rel Z.length ρs w.heap.size (hf Hs) w:=by
   refine⟨⟨Nat.le_refl _,hR.bs.2.up hR.bs.1⟩,?_,?_,?_,?_,?_⟩
   ·intro r l' h
    obtain⟨_,rfl⟩:=hρs r l' h
    exact hlt
   ·intro r l' h
    obtain⟨rfl,_⟩:=hρs r l' h
    exact .inl ⟨_,hq⟩
   ·intro r g h
    exact Nat.lt_of_lt_of_le (List.getElem?_eq_some_iff.1 h).1 hlen
   ·intro r g l' hg hl h
    obtain⟨rfl,rfl⟩:=hρs r l' h
    obtain⟨_,rfl⟩:=only r g hg hl
    exact⟨c,e,fz,h1,h2,h3,Flat.lr (rows_flat _) h4,(fun k=>(Bool.false_ne_true k).elim),fun _=>hlt⟩
   ·intro r1 r2 g1 g2 l1 l2 a1 a2 b1 b2 c1
    obtain⟨_,rfl⟩:=only r1 g1 a1 b1
    cases c1
  have hA1:LR ρs (.agg [.sl q 0 l.length 4] :: ys) cargs.toList:=by
   refine⟨hA.1,fun i a v' ha hv'=>?_⟩
   have hvr:=hA.2 i a v' ha hv'
   cases i with
   | zero =>
    simp only[List.getElem?_cons_zero,Option.some.injEq] at ha
    subst ha
    obtain⟨vs,rfl,hvs⟩:=hvr.agg_inv
    refine .agg (by have:=hvs.1;rwa [Array.length_toList] at this) fun j a v2 ha hv2=>?_
    have hv3:=hvs.2 j a v2 ha hv2
    cases j with
    | zero =>
     simp only[List.getElem?_cons_zero,Option.some.injEq] at ha
     subst ha
     generalize l.length=k at hv3 ⊢
     cases hv3 with
     | sl a1 a2 a3 =>
      rw[hρ] at a1
      cases a1
      exact .sl (if_pos rfl) a2 a3
     | sl0 a1 =>
      rw[hρ] at a1
      cases a1
      exact .sl0 (l:=lq) (if_pos rfl)
    | succ j=>simp at ha
   | succ i =>
    rw[List.getElem?_cons_succ] at ha
    exact(hys a (List.mem_of_getElem? ha)).vr hvr
  refine(hcall Z.length ρs w.heap.size w cargs (Nat.le_refl _) hR1 hA1).mono ?_
  rintro e w' ⟨cv,ρ',rfl,hvr,hR',hG⟩
  refine⟨cv,rfl,hv.vr hvr,hG.os,hG.tape,hG.output,hG.size,fun b hb=>hG.frame b hb fun r g l' a1 a2 a3=>?_⟩
  obtain⟨_,rfl⟩:=only r g a1 a2
  cases a3
theorem quiet {f:FuncId}{v:AV}{ys:List AV}{x:AV}{l:List (Rw qK)}{H:qE}(hx:OwnN H x l)(hc:∀ H:qE,RdN H x l→∃ Z,Sound Tryz.prog f (.agg [x] :: ys) H v Z)(hv:Flat v)(hys:∀ a,a∈ys→Flat a):Sound Tryz.prog f (.agg [x] :: ys) H v H:=by
 refine⟨(hc H hx.rd).choose_spec.1,Nat.le_refl _,?_⟩
 intro M ρ base w cargs hM hR hA
 have hu:∃ u,VR ρ x u:=by
  have h0:∃ v0,cargs.toList[0]?=some v0:=by
   have:=hA.1
   cases hc:cargs.toList with
   | nil=>rw[hc] at this;simp at this
   | cons a b=>exact⟨a,rfl⟩
  obtain⟨v0,h0⟩:=h0
  obtain⟨vs,rfl,hvs⟩:=(hA.2 0 _ v0 rfl h0).agg_inv
  have:∃ u,vs.toList[0]?=some u:=by
   have:=hvs.1
   cases hc:vs.toList with
   | nil=>rw[hc] at this;simp at this
   | cons a b=>exact⟨a,rfl⟩
  obtain⟨u,hu⟩:=this
  exact⟨u,hvs.2 0 _ u rfl hu⟩
 obtain⟨u,hu⟩:=hu
 refine(jS hc hv hys hR (hx.holds hR hu) hA).mono ?_
 rintro e w' ⟨cv,rfl,h1,h2,h3,h4,h5,h6⟩
 obtain⟨R2,G2⟩:=vU (N:=H.length) hR h2 h3 h4 h5 h6
 exact⟨cv,ρ,rfl,h1,R2,G2⟩
theorem Stl.weak {Y:qE}{n n':Nat}{l m:List (Rw qK)}{y:AV}(h:n≤n'){q:Nat}(s:Stl Y n' (l++m) y q):Stl Y n l y q:=by
 induction s with
 | @live q k m' e hq=>exact .live e (m:=m++m') (by rw[←List.append_assoc];exact hq)
 | @dead q s m' hq hs _ ih=>exact .dead (m:=m++m') (by rw[←List.append_assoc];exact hq) (by omega) ih
theorem Stl.step {Z Y:qE}{r off n:Nat}{cs:List AV}{x1 x2:AV}{l m:List (Rw qK)}(p:PlN Z r off cs x1 (l++m))(o:Only Z Y r x1 x2)(h2:∀ q k,x1=.sl q 0 k 4→Stl Y Z.length (l++m) x2 q)(hn:n≤Z.length){q:Nat}(s:Stl Z n l x1 q):Stl Y n l x2 q:=by
 induction s with
 | @live q k m' e hq=>exact(h2 q k e).weak hn
 | @dead q s m' hq hs _ ih =>
  refine .dead (m:=m') ?_ hs ih
  rw[o.2.1 q (qP hq) ?_ ?_,hq]
  ·rintro rfl
   have:=p.1
   rw[hq] at this
   cases this
  ·intro q' o' n' k' e e2
   subst e2
   rcases p.2.2.1 with ⟨h,_⟩ | ⟨r',rest,h,hr⟩
   ·rw[h] at e;cases e
   ·rw[h] at e
    injection e with e
    subst e
    rw[hq] at hr
    have h2:=congrArg Reg.live (Option.some.inj hr)
    cases h2
def NoSeal (l l':List (Rw qK)):Prop:=∀ (j:Nat) p,l.length≤j→l'[j]?=some p→p.int 0≠5
theorem NoSeal.refl (l:List (Rw qK)):NoSeal l l:=fun j p h k=>by
 have:=(List.getElem?_eq_some_iff.1 k).1
 omega
theorem PutR.noSeal {l l':List (Rw qK)}{k n a c v:Int}(h:PutR l k n a c l' v)(hk:k≠5):NoSeal l l':=by
 rcases h with ⟨_,⟨_,rfl⟩ | ⟨_,_,_,_,_,_,rfl | ⟨p',rfl,hp⟩⟩⟩
 ·exact .refl _
 ·exact .refl _
 ·intro j p hj hjp
  rw[List.getElem?_append_right hj] at hjp
  cases hd:j - l.length with
  | zero =>
   rw[hd] at hjp
   cases hjp
   rw[hp.1]
   exact hk
  | succ i=>rw[hd] at hjp;simp at hjp
theorem NoSeal.trans {a b c:List (Rw qK)}(h:NoSeal a b)(g:Grw b c)(k:NoSeal b c):NoSeal a c:=by
 intro j p hj hp
 rcases Nat.lt_or_ge j b.length with hb | hb
 ·have h2:=List.getElem?_eq_getElem hb
  have h3:=g.at h2
  rw[hp] at h3
  cases h3
  exact h j _ hj h2
 ·exact k j p hb hp
theorem atomT {H:qE}{r off:Nat}{cs:List AV}{x:AV}{l:List (Rw qK)}(hP:PlN H r off cs x l)(hl:l.length≤3000)(n:Int) :
  ∃ (v:Int)(l':List (Rw qK))(x':AV)(Z:qE),Sound Tryz.prog 68 [.ptr r off,n] H (.sc (.int .i64 v)) Z∧PlN Z r off (cs.set off x') x' l'∧Only H Z r x x'∧PutR l 1 n 0 0 l' v∧(∀ q k,x=.sl q 0 k 4→Stl Z H.length l x' q):=by
 obtain⟨v,l',x',Z,c1,c2,c3,c4,c5,_⟩:=putT hP hl 1 n 0 0
 refine⟨v,l',x',Z,?_,c2,c3,c4,c5⟩
 unfold nv at c1
 refine Sound.run 9 [.tmp 4] Tryz.func68 rfl rfl rfl rfl (by simp) ?_
 simp only[↓zP,zQ,↓qC,bdAtom]
 refine qF rfl c1 ?_
 simp only[↓zP,zQ]
theorem makeT {H:qE}{r off:Nat}{cs:List AV}{x:AV}{l:List (Rw qK)}(hP:PlN H r off cs x l)(hl:l.length≤3000)(a c:Int) :
  ∃ (v:Int)(l':List (Rw qK))(x':AV)(Z:qE),Sound Tryz.prog 81 [.ptr r off,.sc (.int .i64 4),.sc (.int .i64 a),.sc (.int .i64 c)] H (.sc (.int .i64 v)) Z∧PlN Z r off (cs.set off x') x' l'∧Only H Z r x x'∧GQ l v l'∧NoSeal l l'∧(∀ q k,x=.sl q 0 k 4→Stl Z H.length l x' q):=by
 have co:=oneS 4
 rw[decide_eq_false (by omega)] at co
 by_cases hb:a<0∨c<0
 ·refine⟨-1,l,x,H,?_,xB hP,Only.refl H r x,GQ.no l,NoSeal.refl l,stl_same hP.2.2.1⟩
  refine Sound.run 31 [.tmp 8] Tryz.func81 rfl rfl rfl rfl (by simp) ?_
  simp only[↓zP,zQ,↓qC]
  refine qN rfl co ?_
  by_cases ha:a<0
  ·simp only[↓zP,zQ,↓qC,Int.reduceEq,qA,ha]
  ·have hc:c<0:=by omega
   simp only[↓zP,zQ,↓qC,Int.reduceEq,qA,ha,Int.reduceLT,hc]
 ·obtain⟨v,l',x',Z,c1,c2,c3,c4,c5,_⟩:=putT hP hl 4 0 a c
  refine⟨v,l',x',Z,?_,c2,c3,c4.gq hl,c4.noSeal (by decide),c5⟩
  unfold nv at c1
  refine Sound.run 31 [.tmp 8] Tryz.func81 rfl rfl rfl rfl (by simp) ?_
  have ha:¬ a<0:=by omega
  have hc:¬ c<0:=by omega
  simp only[↓zP,zQ,↓qC]
  refine qN rfl co ?_
  simp only[↓zP,zQ,↓qC,Int.reduceEq,qA,ha,Int.reduceLT,bdMake,hc]
  refine qF rfl c1 ?_
  simp only[↓zP,zQ]
theorem sideT {H:qE}{r off:Nat}{cs:List AV}{x:AV}{l:List (Rw qK)}(hP:PlN H r off cs x l)(hl:l.length≤3000)(s i:Int) :
  ∃ (v:Int)(l':List (Rw qK))(x':AV)(Z:qE),Sound Tryz.prog 130 [.ptr r off,s,i] H (.sc (.int .i64 v)) Z∧PlN Z r off (cs.set off x') x' l'∧Only H Z r x x'∧GQ l v l'∧NoSeal l l'∧(∀ q k,x=.sl q 0 k 4→Stl Z H.length l x' q):=by
 obtain⟨v1,l1,x1,Z1,a1,a2,a3,a4,a5⟩:=atomT hP hl i
 obtain⟨v2,l2,x2,Z2,b1,b2,b3,b4,b6,b5⟩:=makeT a2 (a4.1.2.1 hl) s v1
 rw[qM] at b2
 refine⟨v2,l2,x2,Z2,?_,b2,a3.trans b3,GQ.tr a4.1 b4,(a4.noSeal (by decide)).trans b4.1 b6,?_⟩
 ·refine Sound.run 13 [.tmp 6] Tryz.func130 rfl rfl rfl rfl (by simp) ?_
  simp only[↓zP,zQ,↓qC]
  refine qF rfl a1 ?_
  simp only[↓zP]
  refine qF rfl b1 ?_
  simp only[↓zP,zQ]
 ·intro q k e
  obtain⟨m,rfl⟩:=a4.1.1
  exact(a5 q k e).step a2 b3 b5 a3.1
theorem vr_in {ρ:Ren}{n t:Nat}{T:Nat→AV}{A:Act}{x:AV}(h:LR ρ (qY n T) A.tmps.toList)(ht:T t=.agg [x])(hn:t<n):∃ u,VR ρ x u:=by
 have h1:=VR.eval h (.tmp t)
 rw[ev_tab n T t hn,ht] at h1
 obtain⟨vs,_,hvs⟩:=h1.agg_inv
 have:∃ u,vs.toList[0]?=some u:=by
  have:=hvs.1
  cases hc:vs.toList with
  | nil=>rw[hc] at this;simp at this
  | cons a b=>exact⟨a,rfl⟩
 obtain⟨u,hu⟩:=this
 exact⟨u,hvs.2 0 _ u rfl hu⟩
theorem stale {M N base:Nat}{ρ ρ0:Ren}{H Z:qE}{w w0:World}{x x':AV}{l:List (Rw qK)}{u:Value}(hx:OwnN H x l)(hu:VR ρ0 x u)(hR:Rel M ρ base (hf Z) w)(hG:Grow M N ρ0 (hf H) w0 ρ (hf Z) w)(hs:∀ q k,x=.sl q 0 k 4→Stl Z H.length l x' q):Holds ρ w x l:=by
 rcases hx with h | ⟨q,rest,rfl,hr⟩
 ·exact .inl h
 ·have hρ:∃ lq,ρ0 q=some lq:=by
   generalize l.length=k at hu
   cases hu with
   | sl a _ _=>exact⟨_,a⟩
   | sl0 a=>exact⟨_,a⟩
  obtain⟨lq,hρ⟩:=hρ
  refine(hs q _ rfl).holds hR hG (fun g hg=>?_) (hG.ext q lq hρ)
  have hg:H[q]?=some g:=hg
  rw[hr] at hg
  cases hg
  rfl
theorem Lcl.mk {H Z:qE}{r q off:Nat}{cs:List AV}{x:AV}{l:List (Rw qK)}{g:Reg}(hq:Z[q]?=some g)(u:H.length≤q)(p:PlN H r off cs x l):Lcl Z r x q g:=
 ⟨hq,by have:=qP p.1;omega,p.2.2.1.lt u⟩
end
end Go.Proofs.YtjdajobflgkebaaGreatDoor.Sim
