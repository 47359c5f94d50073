/- Texts of this proof, put together and made small by a program: part 2. -/
import Derived.Test.YtjdajobflgkebaaGreatDoorK1
set_option linter.all false
set_option maxRecDepth 100000
set_option maxHeartbeats 40000000
namespace Go.Proofs.YtjdajobflgkebaaGreatDoor.Sim
open Go
theorem take_over {α:Type}(xs us:List α)(off n:Nat)(h:off+us.length≤n)(hn:n≤xs.length):(xs.take off++us++xs.drop (off+us.length)).take n=(xs.take n).take off++us++(xs.take n).drop (off+us.length):=by
 have h1:(xs.take off++us).length=off+us.length:=by rw[List.length_append,List.length_take];omega
 rw[List.take_append,h1,List.take_of_length_le (by omega),List.take_take,Nat.min_eq_left (by omega),List.drop_take]
section
variable {P : Program} {ρ : Ren} {ts : List AV} {A : Act} {base M : Nat}
def Yw (P:Program)(M:Nat)(ρ:Ren)(base:Nat)(A:Act)(o:Oper)(H:qE)(w:World)(v:AV)(H':qE):Prop:=∃ nx w' ρ' cv,(execOp A.eval o).run P w=.ok nx w'∧(nx=.value cv∨(nx=.skip∧cv=undef))∧VR ρ' v cv∧Rel M ρ' base (hf H') w'∧Grow M H.length ρ (hf H) w ρ' (hf H') w'
theorem y_store {o:Oper}{t:TypeId}{x y:Operand}{H H':qE}{v:AV}(ho:o.op=.store t x y)(ht:LR ρ ts A.tmps.toList){w:World}(hR:Rel M ρ base (hf H) w)(hM:H'.length≤M)(hv:wI P ts o.op H=some (v,H')):Yw P M ρ base A o H w v H':=by
 rw[ho] at hv
 simp only[wI] at hv
 split at hv
 ·rename_i r off g hx hg
  split at hv
  ·rename_i hh
   obtain⟨hl,hown,hty,hsz,hfit,hall⟩:=hh
   simp only[Option.some.injEq,Prod.mk.injEq] at hv
   obtain⟨rfl,rfl⟩:=hv
   obtain⟨l,hρ,e⟩:=ptr_ev ht hx
   have hr:hf H r=some g:=by
    have:=hg
    rw[hx] at this
    exact this
   have hy:=VR.eval ht y
   have hcell:=hy.cells
   obtain⟨c,el,fz,h1,h2,h3,h4,h5,_⟩:=hR.reg r g l hr hl hρ
   obtain⟨hlo,hbase,hz⟩:=h5 hown
   have hus:(A.eval y).cells.toList.length=P.cellsOf t:=by rw[←hcell.1];exact hsz
   have hone:∀ u∈(A.eval y).cells.toList,u.oneCell'=true:=by
    intro u hu
    obtain⟨i,hi⟩:=List.mem_iff_getElem?.1 hu
    obtain⟨a,ha,hvr⟩:=hcell.get' hi
    rw[←hvr.one]
    exact List.all_eq_true.1 hall a (List.mem_of_getElem? ha)
   obtain⟨w',c',k1,k2,k3,k4⟩:=wr_all (P:=P) (b:=l.b) (off:=l.o+off) (A.eval y).cells.toList 0 c w h1 (by rw[hus];omega) (by rw[h2];exact hz) hone
   have hLR:LR ρ (qW g.cs off (ev ts y).cells) (c'.toList.take (qW g.cs off (ev ts y).cells).length):=by
    have hlen:(qW g.cs off (ev ts y).cells).length=g.cs.length:=by
     simp only[qW,List.length_append,List.length_take,List.length_drop]
     omega
    rw[hlen,k4,hlo]
    simp only[Nat.zero_add,Nat.add_zero]
    rw[hlo,List.drop_zero] at h4
    have h6:=h4.over hcell off
    have e2:(List.take off (List.take g.cs.length c.toList)++(A.eval y).cells.toList++List.drop (off+(A.eval y).cells.toList.length) (List.take g.cs.length c.toList))=List.take g.cs.length (List.take off c.toList++(A.eval y).cells.toList++List.drop (off+(A.eval y).cells.toList.length) c.toList):=by
     exact(take_over c.toList (A.eval y).cells.toList off g.cs.length (by omega) (by rw[Array.length_toList];omega)).symm
    rw[←e2]
    exact h6
   obtain⟨q1,q2⟩:=rel_store (cs':=qW g.cs off (ev ts y).cells) hR hr hl hown hρ k2 (by omega) (by simp only[qW,List.length_append,List.length_take,List.length_drop];omega) hLR hz
   refine⟨.skip,w',ρ,undef,?_,.inr ⟨rfl,rfl⟩,.sc _,?_,?_⟩
   ·unfold execOp
    rw[ho]
    simp only
    rw[e]
    have hs2:(A.eval y).cells.size=P.cellsOf t:=by rw[←hus,Array.length_toList]
    simp[Instr.storeAt,Instr.sureAddr,storeVar,xQ hty,hs2,k1]
   ·rw[hf_setReg H (by rw[hx] at hg;exact hg)];exact q1
   ·rw[hf_setReg H (by rw[hx] at hg;exact hg)];exact q2
  ·cases hv
 ·cases hv
theorem src_run {H:qE}{x:AV}{xv:Value}{sz:Nat}{news:List AV}{w:World}(hR:Rel M ρ base (hf H) w)(hx:VR ρ x xv)(hs:qU H x sz=some news):∃ n us,(∀ w,(Builtin.lenOf xv).run P w=.ok n w)∧news.length=n*sz∧LR ρ news us.toList ∧
  ∀ w':World,w'.heap=w.heap→(Builtin.firstCells sz n xv).run P w'=.ok us w':=by
 unfold qU at hs
 split at hs
 ·rename_i r off len sz'
  split at hs
  ·rename_i e
   subst e
   obtain⟨g,hg,hlive,hn,rfl⟩:=uP hs
   have hlen:((g.cs.drop off).take (len*sz')).length=len*sz':=by simp;omega
   cases hx with
   | sl hρ hle hfit =>
    rename_i cap l
    have hreg:=hR.reg r g l hg hlive hρ
    obtain⟨us,h1,h2⟩:=kP (P:=P) hreg hn
    refine⟨len,us,fun w=>by simp[Builtin.lenOf],hlen,h2,fun w' hw'=>?_⟩
    have hreg':RegOk ρ base w' l g:=hreg.mono (fun _ _ k=>k) (by rw[hw'])
    obtain⟨us',h1',h2'⟩:=kP (P:=P) hreg' hn
    have:us'=us:=by
     obtain⟨u1,a1,a2,a3⟩:=load_run hreg hn
     have b1:=run_loadCells_list (P:=P) w ⟨l.b,l.o+off,none⟩ u1 (fun j v hj=>by rw[Addr.add_lit];exact a3 j v hj)
     have b2:=run_loadCells_list (P:=P) w' ⟨l.b,l.o+off,none⟩ u1 (fun j v hj=>by
      rw[Addr.add_lit]
      have:=a3 j v hj
      simp only[World.cell?] at this ⊢
      rw[hw']
      exact this)
     rw[a1] at b1 b2
     rw[h1] at b1
     rw[h1'] at b2
     injection b1 with b1
     injection b2 with b2
     rw[b1,b2]
    rw[this] at h1'
    simpa [Builtin.firstCells] using h1'
   | sl0 hρ =>
    refine⟨0,#[],fun w=>by simp[Builtin.lenOf],by simp,by simpa using LR.nil,fun w' _=>by simp[Builtin.firstCells,loadCells,loadCellsFrom]⟩
  ·cases hs
 ·injection hs with hs
  subst hs
  have:=hx.sc_inv
  subst this
  exact⟨0,#[],fun w=>by simp[Builtin.lenOf],by simp,by simpa using LR.nil,fun w' _=>by simp[Builtin.firstCells]⟩
 ·rename_i z
  split at hs
  ·rename_i e
   subst e
   injection hs with hs
   subst hs
   have:=hx.sc_inv
   subst this
   refine⟨z.size,z.data.map (fun b=>Value.int .u8 b.toNat),fun w=>by simp[Builtin.lenOf],by simp,?_,fun w' _=>?_⟩
   ·simp only[Array.toList_map]
    exact LR.map (fun b:UInt8=>Value.int .u8 b.toNat) _
   ·simp only[Builtin.firstCells,Sem.run_pure]
    congr 2
    rw[ByteArray.data_extract]
    have:z.size=z.data.size:=rfl
    rw[this,Array.extract_size]
  ·cases hs
 ·cases hs
theorem grow_fits {need cap bytes:Nat}(h:cap<need)(hb:need*bytes≤140737488355328):¬ (281474976710656<Builtin.nextslicecap need cap*bytes):=by
 have:=growslice_fits h hb
 omega
theorem app_room {t t' ty e:TypeId}{u:TypeDesc}{i:TypeInfo}(ht:P.underlying t=some (.slice e))(hu:P.underlying t'=some u)(hni:noInt u=true)(hi:P.info? e=some i){a:Option Addr}{sLen sCap n:Nat}{xv:Value}{us:Array Value}{w:World}
  (hlen:∀ w,(Builtin.lenOf xv).run P w=.ok n w) (hfirst:(Builtin.firstCells i.size n xv).run P w=.ok us w) (hneed:sLen+n≤sCap) :
  (Builtin.append_ #[t,t'] ty #[.slice a sLen sCap,xv]).run P w=((match a with | some a=>storeCells (a.add (sLen*i.size)) us.toList | none=>pure ()).run P w).andThen fun _ w'=>.ok (.slice a (sLen+n) sCap) w':=by
 have a0:(#[t,t']:Array TypeId)[0]?=some t:=rfl
 have a1:(#[t,t']:Array TypeId)[1]?=some t':=rfl
 have b0:(#[.slice a sLen sCap,xv]:Array Value)[0]?=some (.slice a sLen sCap):=rfl
 have b1:(#[.slice a sLen sCap,xv]:Array Value)[1]?=some xv:=rfl
 cases u<;>first
  | (simp[noInt] at hni;done)
  | (cases a<;>simp only[Builtin.append_,a0,a1,b0,b1,Sem.run_bind,run_underlying ht,run_underlying hu,Result.andThen_ok,sizeOf,typeInfo,run_program,hi,Sem.run_pure,Bool.false_eq_true,if_false,hlen,if_pos hneed,Bool.not_false,if_true,hfirst]<;>rfl)
theorem app_grow {t t' ty e:TypeId}{u:TypeDesc}{i:TypeInfo}{z:Value}(ht:P.underlying t=some (.slice e))(hu:P.underlying t'=some u)(hni:noInt u=true)(hi:P.info? e=some i)(hz:i.zero=some z){a:Option Addr}{sLen sCap n:Nat}{xv:Value}{us olds:Array Value}{w:World}
  (hlen:∀ w,(Builtin.lenOf xv).run P w=.ok n w) (hold:(Builtin.firstCells i.size sLen (.slice a sLen sCap)).run P w.drew=.ok olds w.drew) (hfirst:(Builtin.firstCells i.size n xv).run P w.drew=.ok us w.drew)
  (hneed:¬ (sLen+n≤sCap)) (h63:sLen+n≤9223372036854775807) (hfit:¬ (281474976710656<Builtin.nextslicecap (sLen+n) sCap*i.bytes)) :
  (Builtin.append_ #[t,t'] ty #[.slice a sLen sCap,xv]).run P w=.ok (.slice (some ⟨w.heap.size,0,none⟩) (sLen+n) (grownCap w (sLen+n) sCap e)) (w.drew.alloc (.cells (olds++us++Builtin.zeroCells z.cells (grownCap w (sLen+n) sCap e - (sLen+n))) e)):=by
 have a0:(#[t,t']:Array TypeId)[0]?=some t:=rfl
 have a1:(#[t,t']:Array TypeId)[1]?=some t':=rfl
 have b0:(#[.slice a sLen sCap,xv]:Array Value)[0]?=some (.slice a sLen sCap):=rfl
 have b1:(#[.slice a sLen sCap,xv]:Array Value)[1]?=some xv:=rfl
 have hcond:¬ (((sLen+n:Nat):Int)>IntKind.i64.max∧i.bytes=0):=by rw[IntKind.max_i64];omega
 have hfit':¬ (Builtin.nextslicecap (sLen+n) sCap*i.bytes>2 ^ 48):=by omega
 cases u<;>first
  | (simp[noInt] at hni;done)
  | (simp only[Builtin.append_,a0,a1,b0,b1,Sem.run_bind,run_underlying ht,run_underlying hu,Result.andThen_ok,sizeOf,typeInfo,run_program,hi,hz,zeroValue,Sem.run_pure,Bool.false_eq_true,if_false,hlen,if_neg hneed,Bool.not_false,if_true,false_or,if_neg hcond,if_neg hfit',run_choose_drew,Question.forced,run_askRoom,hold,hfirst,newRow,run_newObj_alloc,grownCap];rfl)
theorem rel_heap {ρ:Ren}{h:Nat→Option Reg}{w w':World}(hR:Rel M ρ base h w)(hw:w'.heap=w.heap):Rel M ρ base h w':=
 ⟨⟨by rw[hw];exact hR.bs.1,hR.bs.2.keep fun b _=>by rw[hw]⟩,fun r l k=>by rw[hw];exact hR.lt r l k,hR.dom,hR.top,fun r g l a b c=>(hR.reg r g l a b c).mono (fun _ _ k=>k) (by rw[hw]),hR.inj⟩
theorem zc_size (z:Array Value)(n:Nat):(Builtin.zeroCells z n).size=n*z.size:=by simp[Builtin.zeroCells]
theorem y_append {o:Oper}{c:Call}{H H':qE}{v:AV}(ho:o.op=.call c)(ht:LR ρ ts A.tmps.toList){w:World}(hR:Rel M ρ base (hf H) w)(hM:H'.length≤M)(hv:wI P ts o.op H=some (v,H')):Yw P M ρ base A o H w v H':=by
 rw[ho] at hv
 obtain⟨cal,⟨al⟩,⟨tl⟩⟩:=c
 simp only[wI] at hv
 split at hv
 case h_2=>cases hv
 rename_i s x t t'
 have hred:∀ (nv:Value)(w1:World),(Builtin.append_ #[t,t'] o.type #[A.eval s,A.eval x]).run P w=.ok nv w1→(execOp A.eval o).run P w=.ok (.value nv) w1:=by
  intro nv w1 hr
  unfold execOp
  rw[ho]
  simp[resolve,invoke,builtin,hr]
 split at hv
 case h_2=>cases hv
 rename_i e u hte hu
 split at hv
 case h_2=>cases hv
 rename_i i z news hi hz hsrc
 split at hv
 case isFalse=>cases hv
 rename_i hh
 obtain⟨hs0,hzs,hni,hall⟩:=hh
 have hzz:i.zero=some z:=by rw[hi] at hz;simpa using hz
 have hcell:P.cellsOf e=i.size:=by simp[Program.cellsOf,hi]
 rw[hcell] at hs0 hzs hsrc hv
 obtain⟨n,us,hlen,hnl,hLRn,hfirst⟩:=src_run hR (VR.eval ht x) hsrc
 have hnn:news.length / i.size=n:=by rw[hnl];exact Nat.mul_div_cancel _ hs0
 have husz:us.size=n*i.size:=by rw[←hnl,hLRn.1,Array.length_toList]
 have hone:∀ q∈us.toList,q.oneCell'=true:=by
  intro q hq
  obtain⟨j,hj⟩:=List.mem_iff_getElem?.1 hq
  obtain⟨a,ha,hvr⟩:=hLRn.get' hj
  rw[←hvr.one]
  exact List.all_eq_true.1 hall a (List.mem_of_getElem? ha)
 rw[hnn] at hv
 have mkNew:∀ (old:List AV)(olds:Array Value)(len cap:Nat)(a:Option Addr)(h0:Nat→Option Reg),Rel M ρ base h0 w→h0 H.length=none→ρ H.length=none→H.length<M→LR ρ old olds.toList→old.length=len*i.size→A.eval s=.slice a len cap→(Builtin.firstCells i.size len (.slice a len cap)).run P w.drew=.ok olds w.drew →
   ¬ (len+n≤cap)→(len+n)*i.bytes≤140737488355328→len+news.length≤140737488355328 →
   ∃ w' ρ' cv,(execOp A.eval o).run P w=.ok (.value cv) w'∧VR ρ' (.sl H.length 0 (len+n) i.size) cv∧Rel M ρ' base (fun r=>if r=H.length then some {cs:=old++news} else h0 r) w'∧Grow M H.length ρ h0 w ρ' (fun r=>if r=H.length then some {cs:=old++news} else h0 r) w':=by
  intro old olds len cap a h0 hR0 hid hρid hidM hold hol hes hrun hroom hby hcnt
  have hn63:len+n≤9223372036854775807:=by
   have:n≤n*i.size:=Nat.le_mul_of_pos_right _ hs0
   omega
  have hgrow:=app_grow (ty:=o.type) hte hu hni hi hzz hlen hrun (hfirst w.drew rfl) hroom hn63 (grow_fits (by omega) hby)
  have hcap:=grownCap_ge w (len+n) cap e
  have hcs:(olds++us++Builtin.zeroCells z.cells (grownCap w (len+n) cap e - (len+n))).size=grownCap w (len+n) cap e*i.size:=by
   have h1:olds.size=len*i.size:=by rw[←hol,hold.1,Array.length_toList]
   rw[Array.size_append,Array.size_append,zc_size,h1,husz,hzs,←Nat.add_mul,←Nat.add_mul]
   congr 1
   omega
  have hLRa:LR ρ (old++news) ((olds++us++Builtin.zeroCells z.cells (grownCap w (len+n) cap e - (len+n))).toList.take (old++news).length):=by
   have h1:=hold.append hLRn
   have h2:(olds.toList++us.toList).length=(old++news).length:=h1.1.symm
   rw[Array.toList_append,Array.toList_append,List.take_append_of_le_length (by omega),List.take_of_length_le (by omega)]
   exact h1
  have hm:=made_drew (jU w.drew (olds++us++Builtin.zeroCells z.cells (grownCap w (len+n) cap e - (len+n))) e)
  have hle:(old++news).length≤(olds++us++Builtin.zeroCells z.cells (grownCap w (len+n) cap e - (len+n))).size:=by
   rw[hcs,List.length_append,hol,hnl,←Nat.add_mul]
   exact Nat.mul_le_mul_right _ hcap
  obtain⟨q1,q2⟩:=rel_made (id:=H.length) (N:=H.length) hR0 hm hρid (.inl hid) hidM (Nat.le_refl _) hle hLRa (fun i _=>by simp)
  refine⟨_,_,_,hred _ _ (by rw[hes];exact hgrow),?_,q1,q2⟩
  have:=VR.sl (ρ:=fun r=>if r=H.length then some (⟨w.heap.size,0,(olds++us++Builtin.zeroCells z.cells (grownCap w (len+n) cap e - (len+n))).size⟩:Loc) else ρ r) (r:=H.length) (off:=0) (len:=len+n) (sz:=i.size) (cap:=grownCap w (len+n) cap e) (if_pos rfl) hcap (by simp only[Nat.zero_add];rw[hcs];exact Nat.le_refl _)
  simpa using this
 have hHid:hf H H.length=none:=by simp[hf]
 have hρid:H.length<M→ρ H.length=none:=by
  intro hlt
  cases hx:ρ H.length with
  | none=>rfl
  | some l =>
   rcases hR.dom _ l hx with ⟨g,hg⟩ | k
   ·rw[hHid] at hg;cases hg
   ·omega
 split at hv
 ·
  rename_i hs
  have hes:=wT ht hs
  split at hv
  case isFalse=>cases hv
  rename_i hb
  split at hv
  ·rename_i h0
   simp only[Option.some.injEq,Prod.mk.injEq] at hv
   obtain⟨rfl,rfl⟩:=hv
   have hn0:n=0:=by
    rw[h0] at hnl
    rcases Nat.mul_eq_zero.1 hnl.symm with k | k
    ·exact k
    ·omega
   subst hn0
   have:=app_room (ty:=o.type) (a:=none) (sLen:=0) (sCap:=0) hte hu hni hi hlen (hfirst w rfl) (by omega)
   refine⟨_,w,ρ,_,hred _ _ (by rw[hes];simpa using this),.inl rfl,.sc _,hR,Grow.refl _ _ _ _ _⟩
  ·rename_i h0
   simp only[Option.some.injEq,Prod.mk.injEq] at hv
   obtain⟨rfl,rfl⟩:=hv
   have hidM:H.length<M:=by simp at hM;omega
   have hn0:¬ (0+n≤0):=by
    intro k
    have:n=0:=by omega
    subst this
    simp at hnl
    exact h0 (by simp[hnl])
   obtain⟨w',ρ',cv,a1,a2,a3,a4⟩:=mkNew [] #[] 0 0 none (hf H) hR hHid (hρid hidM) hidM LR.nil (by simp) hes (by simp[Builtin.firstCells]) hn0 (by simpa using hb.1) (by simpa using hb.2)
   refine⟨_,w',ρ',cv,a1,.inl rfl,by simpa using a2,?_,?_⟩
   ·rw[hf_snoc];simpa using a3
   ·rw[hf_snoc];simpa using a4
 ·
  rename_i r len sz hs
  split at hv
  case h_2=>cases hv
  rename_i g hg
  split at hv
  case isFalse=>cases hv
  rename_i hb
  obtain⟨hsz,hl,hown,hfit,hby,hcnt⟩:=hb
  subst hsz
  simp only[Option.some.injEq,Prod.mk.injEq] at hv
  obtain⟨rfl,rfl⟩:=hv
  rw[hnn] at hby
  have hidM:H.length<M:=by simp[yG,uM] at hM;omega
  obtain⟨l,hρ,hcase⟩:=sl_ev ht hs
  have hr:hf H r=some g:=hg
  have hne:r≠H.length:=by rintro rfl;rw[hHid] at hr;cases hr
  have hreg:=hR.reg r g l hr hl hρ
  obtain⟨c,el,fz,h1,h2,h3,h4,h5,_⟩:=hreg
  obtain⟨hlo,hbase,hz0⟩:=h5 hown
  obtain⟨hk1,hk2⟩:=rel_kill H.length hR hr hl hown
  have hkid:(fun r'=>if r'=r then some ⟨.ptr H.length 0 :: g.cs,g.own,false⟩ else hf H r') H.length=none:=by simp only[if_neg (Ne.symm hne)];exact hHid
  have hfin:hf (yG H r++[{cs:=g.cs.take (len*i.size)++news}])=fun r'=>if r'=H.length then some {cs:=g.cs.take (len*i.size)++news} else if r'=r then some ⟨.ptr H.length 0 :: g.cs,g.own,false⟩ else hf H r':=by
   rw[hf_snoc,hf_killReg H hg]
   have:(yG H r).length=H.length:=by simp[yG,uM]
   rw[this]
  have hgr:∀ r0 g0,hf H r0=some g0→∃ g',(fun r'=>if r'=r then some ⟨.ptr H.length 0 :: g.cs,g.own,false⟩ else hf H r') r0=some g':=by
   intro r0 g0 hg0
   by_cases e:r0=r
   ·exact⟨_,if_pos e⟩
   ·exact⟨g0,by simp only[if_neg e];exact hg0⟩
  have holdlen:(g.cs.take (len*i.size)).length=len*i.size:=by rw[List.length_take];omega
  rcases hcase with ⟨cap,hle,hcfit,e1⟩ | ⟨hlen0,q,e1⟩
  ·by_cases hroom:len+n≤cap
   ·
    rw[hlo] at hcfit
    simp only[Nat.zero_add,Nat.add_zero] at hcfit
    have hfit2:len*i.size+n*i.size≤l.n:=by
     have:(len+n)*i.size≤cap*i.size:=Nat.mul_le_mul_right _ hroom
     rw[Nat.add_mul] at this
     omega
    obtain⟨w',c',k1,k2,k3,k4⟩:=wr_all (P:=P) (b:=l.b) (off:=len*i.size) us.toList 0 c w h1 (by rw[Array.length_toList,husz,h2];omega) (by rw[h2];exact hz0) hone
    have happ:=app_room (ty:=o.type) (a:=some ⟨l.b,l.o+0,none⟩) (sLen:=len) (sCap:=cap) hte hu hni hi hlen (hfirst w rfl) hroom
    have hLRa:LR ρ (g.cs.take (len*i.size)++news) (c'.toList.take (g.cs.take (len*i.size)++news).length):=by
     rw[hlo,List.drop_zero] at h4
     have h6:=(h4.take (len*i.size)).append hLRn
     rw[List.take_take,Nat.min_eq_left hfit] at h6
     have h7:(c.toList.take (len*i.size)++us.toList).length=(g.cs.take (len*i.size)++news).length:=h6.1.symm
     rw[k4]
     simp only[Nat.add_zero]
     rw[List.take_append_of_le_length (by omega),←h7,List.take_length]
     exact h6
    obtain⟨q1,q2⟩:=rel_room (id:=H.length) (cs':=g.cs.take (len*i.size)++news) hR hr hl hown hρ hHid (hρid hidM) hidM k2 (by omega) (by rw[List.length_append,holdlen,hnl];exact hfit2) hLRa hz0
    refine⟨_,w',_,.slice (some ⟨l.b,l.o+0,none⟩) (len+n) cap,hred _ _ ?_,.inl rfl,?_,by rw[hfin];exact q1,by rw[hfin];exact q2⟩
    ·rw[e1,happ]
     simp only[hlo,Nat.add_zero,Addr.add_lit,Nat.zero_add,k1,Result.andThen_ok]
    ·rw[hnn]
     exact VR.sl (ρ:=fun r'=>if r'=H.length then some l else ρ r') (r:=H.length) (off:=0) (len:=len+n) (sz:=i.size) (cap:=cap) (if_pos rfl) hroom (by rw[hlo];omega)
   ·obtain⟨us0,b1,b2⟩:=kP (P:=P) (hR.reg r g l hr hl hρ) (off:=0) (n:=len*i.size) (by omega)
    rw[List.drop_zero] at b2
    obtain⟨us1,d1,d2⟩:=kP (P:=P) ((rel_heap (w':=w.drew) hR rfl).reg r g l hr hl hρ) (off:=0) (n:=len*i.size) (by omega)
    rw[List.drop_zero] at d2
    obtain⟨w',ρ',cv,a1,a2,a3,a4⟩:=mkNew (g.cs.take (len*i.size)) us1 len cap (some ⟨l.b,l.o+0,none⟩) _ hk1 hkid (hρid hidM) hidM d2 holdlen e1 (by simpa [Builtin.firstCells] using d1) hroom hby hcnt
    refine⟨_,w',ρ',cv,a1,.inl rfl,by rw[hnn];exact a2,by rw[hfin];exact a3,?_⟩
    rw[hfin]
    exact Grow.trans hR hk1.top hk1.dom a3.top (hk2 (by rw[hρ];simp)) a4
  ·subst hlen0
   by_cases hroom:0+n≤0
   ·have hn0:n=0:=by omega
    subst hn0
    have hnews:news=[]:=List.eq_nil_of_length_eq_zero (by simpa using hnl)
    subst hnews
    have happ:=app_room (ty:=o.type) (a:=some ⟨l.b,q,none⟩) (sLen:=0) (sCap:=0) hte hu hni hi hlen (hfirst w rfl) (by omega)
    have hus0:us=#[]:=by apply Array.eq_empty_of_size_eq_zero;simpa using husz
    obtain⟨q1,q2⟩:=rel_room (id:=H.length) (cs':=g.cs.take (0*i.size)++[]) (w':=w) hR hr hl hown hρ hHid (hρid hidM) hidM ⟨rfl,rfl,rfl,rfl,fun _ _=>rfl,h1⟩ h2 (by simp) (by simpa using LR.nil) hz0
    refine⟨_,w,_,.slice (some ⟨l.b,q,none⟩) 0 0,hred _ _ ?_,.inl rfl,?_,by rw[hfin];exact q1,by rw[hfin];exact q2⟩
    ·rw[e1,happ,hus0]
     simp[storeCells]
    ·rw[hnn]
     exact VR.sl0 (ρ:=fun r'=>if r'=H.length then some l else ρ r') (r:=H.length) (off:=0) (sz:=i.size) (if_pos rfl)
   ·obtain⟨w',ρ',cv,a1,a2,a3,a4⟩:=mkNew (g.cs.take (0*i.size)) #[] 0 0 (some ⟨l.b,q,none⟩) _ hk1 hkid (hρid hidM) hidM (by simpa using LR.nil) (by simp) e1 (by simp[Builtin.firstCells,loadCells,loadCellsFrom]) hroom hby hcnt
    refine⟨_,w',ρ',cv,a1,.inl rfl,by rw[hnn];exact a2,by rw[hfin];exact a3,?_⟩
    rw[hfin]
    exact Grow.trans hR hk1.top hk1.dom a3.top (hk2 (by rw[hρ];simp)) a4
 ·cases hv
theorem evWrite_sound {o:Oper}{H H':qE}{v:AV}(ht:LR ρ ts A.tmps.toList){w:World}(hR:Rel M ρ base (hf H) w)(hM:H'.length≤M)(hv:wI P ts o.op H=some (v,H')):Yw P M ρ base A o H w v H':=by
 cases hop:o.op
 case store=>exact y_store hop ht hR hM hv
 case call=>exact y_append hop ht hR hM hv
 all_goals (rw[hop] at hv;simp[wI] at hv)
end
section
variable {P : Program} {ts ts' : List AV}
theorem bnd_congr {x:Option Operand}{d:Nat}(h:∀ y,x=some y→ev ts y=ev ts' y):bnd ts x d=bnd ts' x d:=by
 cases x with
 | none=>rfl
 | some y=>simp only[bnd,h y rfl]
theorem parts_congr {parts:Array (Nat×Operand)}(h:∀ x∈(parts.toList.map (·.2)),ev ts x=ev ts' x):(parts.toList.map fun p=>(p.1,ev ts p.2))=parts.toList.map fun p=>(p.1,ev ts' p.2):=
 List.map_congr_left fun p hp=>by rw[h p.2 (List.mem_map.2 ⟨p,hp,rfl⟩)]
theorem evPure_congr {op:Op}(h:∀ x∈op.operands.toList,ev ts x=ev ts' x):yJ P ts op=yJ P ts' op:=by
 cases op
 case move x=>have h1:=h x (by simp[Op.operands]);simp only[yJ,h1]
 case assign x=>have h1:=h x (by simp[Op.operands]);simp only[yJ,h1]
 case pick c a b =>
  have h1:=h c (by simp[Op.operands]);have h2:=h a (by simp[Op.operands]);have h3:=h b (by simp[Op.operands])
  simp only[yJ,h1,h2,h3]
 case nilCheck x=>have h1:=h x (by simp[Op.operands]);simp only[yJ,h1]
 case binOp op t x y u =>
  have h1:=h x (by simp[Op.operands]);have h2:=h y (by simp[Op.operands])
  simp only[yJ,h1,h2]
 case unOp op t x=>have h1:=h x (by simp[Op.operands]);simp only[yJ,h1]
 case convert s d x=>have h1:=h x (by simp[Op.operands]);simp only[yJ,h1]
 case slice t x lo hi mx =>
  have h1:=h x (by simp[Op.operands])
  have h2:∀ d,bnd ts lo d=bnd ts' lo d:=fun d=>bnd_congr fun y hy=>h y (by simp[Op.operands,hy])
  have h3:∀ d,bnd ts hi d=bnd ts' hi d:=fun d=>bnd_congr fun y hy=>h y (by simp[Op.operands,hy])
  cases mx<;>simp only[yJ,h1,h2,h3]
 case fieldAddr s x f=>have h1:=h x (by simp[Op.operands]);simp only[yJ,h1]
 case field s x f=>have h1:=h x (by simp[Op.operands]);simp only[yJ,h1]
 case indexAddr t x i =>
  have h1:=h x (by simp[Op.operands]);have h2:=h i (by simp[Op.operands])
  simp only[yJ,h1,h2]
 case index t x i =>
  have h1:=h x (by simp[Op.operands]);have h2:=h i (by simp[Op.operands])
  simp only[yJ,h1,h2]
 case extract t i=>have h1:=h t (by simp[Op.operands]);simp only[yJ,h1]
 case build t parts =>
  have h1:=parts_congr (parts:=parts) (ts:=ts) (ts':=ts') (fun x hx=>h x (by simpa [Op.operands] using hx))
  simp only[yJ,h1]
 case makeInterface t x=>have h1:=h x (by simp[Op.operands]);simp only[yJ,h1]
 case call c =>
  have h1:∀ x∈c.args.toList,ev ts x=ev ts' x:=fun x hx=>h x (by simp only[Op.operands,Call.operands,Array.toList_append,List.mem_append];exact .inr hx)
  have h2:c.args.toList.map (ev ts)=c.args.toList.map (ev ts'):=List.map_congr_left h1
  obtain⟨cal,⟨al⟩,⟨tl⟩⟩:=c
  simp only at h1 h2
  simp only[yJ]
  split
  ·rename_i x t
   have:=h1 x (by simp)
   simp only[this]
  ·rw[h2]
  ·rw[h2]
  ·rfl
 all_goals simp only[yJ]
theorem evRead_congr {op:Op}{H:qE}(h:∀ x∈op.operands.toList,ev ts x=ev ts' x):xH P ts op H=xH P ts' op H:=by
 cases op
 case load t x=>have h1:=h x (by simp[Op.operands]);simp only[xH,h1]
 case convert s d x=>have h1:=h x (by simp[Op.operands]);simp only[xH,h1]
 all_goals simp only[xH]
theorem evAlloc_congr {op:Op}(h:∀ x∈op.operands.toList,ev ts x=ev ts' x):xW P ts op=xW P ts' op:=by
 cases op
 case box t x=>have h1:=h x (by simp[Op.operands]);simp only[xW,h1]
 case buildSlice t n parts =>
  have h1:=parts_congr (parts:=parts) (ts:=ts) (ts':=ts') (fun x hx=>h x (by simpa [Op.operands] using hx))
  simp only[xW,h1]
 case makeSlice t l c =>
  have h1:=h l (by simp[Op.operands]);have h2:=h c (by simp[Op.operands])
  simp only[xW,h1,h2]
 case convert s d x=>have h1:=h x (by simp[Op.operands]);simp only[xW,h1]
 all_goals simp only[xW]
theorem evWrite_congr {op:Op}{H:qE}(h:∀ x∈op.operands.toList,ev ts x=ev ts' x):wI P ts op H=wI P ts' op H:=by
 cases op
 case store t x y =>
  have h1:=h x (by simp[Op.operands]);have h2:=h y (by simp[Op.operands])
  simp only[wI,h1,h2]
 case call c =>
  have h1:∀ x∈c.args.toList,ev ts x=ev ts' x:=fun x hx=>h x (by simp only[Op.operands,Call.operands,Array.toList_append,List.mem_append];exact .inr hx)
  obtain⟨cal,⟨al⟩,⟨tl⟩⟩:=c
  simp only at h1
  simp only[wI]
  split
  ·rename_i s x t t'
   have k1:=h1 s (by simp)
   have k2:=h1 x (by simp)
   simp only[k1,k2]
  ·rfl
 all_goals simp only[wI]
end
section
variable {P : Program} {ρ : Ren} {ts : List AV} {A : Act} {base M : Nat}
def EV (ρ:Ren)(ts:List AV)(A:Act)(o:Oper):Prop:=∀ x∈o.op.operands.toList,VR ρ (ev ts x) (A.eval x)
theorem EV.of (h:LR ρ ts A.tmps.toList)(o:Oper):EV ρ ts A o:=fun x _=>.eval h x
theorem EV.mask {o:Oper}(h:EV ρ ts A o):∃ (ts':List AV)(A':Act),LR ρ ts' A'.tmps.toList∧(∀ x∈o.op.operands.toList,ev ts x=ev ts' x)∧(∀ x∈o.op.operands.toList,A'.eval x=A.eval x):=by
 let L:Nat→Bool:=fun t=>o.op.operands.toList.any fun x=>match x with | .tmp u=>u == t | _=>false
 have hL:∀ t,Operand.tmp t∈o.op.operands.toList→L t=true:=fun t ht=>List.any_eq_true.2 ⟨_,ht,by simp⟩
 have hL2:∀ t,L t=true→Operand.tmp t∈o.op.operands.toList:=by
  intro t ht
  obtain⟨x,hx,h1⟩:=List.any_eq_true.1 ht
  cases x<;>simp at h1
  subst h1
  exact hx
 refine⟨(List.range ts.length).map fun t=>if L t then ts.getD t und else und,{ A with tmps:=((List.range ts.length).map fun t=>if L t then A.tmps.getD t undef else undef).toArray },?_,?_,?_⟩
 ·refine⟨by simp,fun i a v ha hv=>?_⟩
  simp only[List.getElem?_map] at ha hv
  by_cases hi:i<ts.length
  ·rw[List.getElem?_range hi] at ha hv
   simp only[Option.map_some,Option.some.injEq] at ha hv
   subst ha;subst hv
   by_cases hl:L i=true
   ·rw[if_pos hl,if_pos hl]
    exact h _ (hL2 i hl)
   ·rw[if_neg hl,if_neg hl]
    exact .sc _
  ·rw[List.getElem?_eq_none (by simp;omega)] at ha
   cases ha
 ·intro x hx
  cases x with
  | tmp t =>
   simp only[ev]
   by_cases hi:t<ts.length
   ·simp[List.getD_eq_getElem?_getD,hi,hL t hx]
   ·simp[List.getD_eq_getElem?_getD,hi]
  | _=>rfl
 ·intro x hx
  cases x with
  | tmp t =>
   simp only[Act.eval]
   by_cases hi:t<ts.length
   ·simp[hi,hL t hx]
   ·have h1:=h _ hx
    simp only[ev,Act.eval] at h1
    have h2:ts.getD t und=und:=by simp[List.getD_eq_getElem?_getD,hi]
    rw[h2] at h1
    have h3:=h1.sc_inv
    rw[h3]
    simp[hi]
  | _=>rfl
theorem noSel {o:Oper}(h:∀ cs b,o.op≠.select cs b){A':Act}(he:∀ x∈o.op.operands.toList,A'.eval x=A.eval x):execOp A'.eval o=execOp A.eval o:=
 execOp_congr o h fun x hx=>he x (Array.mem_toList_iff.2 hx)
theorem pure_f {o:Oper}{v:AV}(ht:EV ρ ts A o)(h:yJ P ts o.op=some v):Yv P ρ A o v:=by
 obtain⟨ts',A',h1,h2,h3⟩:=ht.mask
 rw[evPure_congr h2] at h
 have:=evPure_sound h1 h
 intro w
 obtain⟨cv,k1,k2⟩:=this w
 rw[noSel (by intro cs b e;rw[e] at h;simp[yJ] at h) h3] at k1
 exact⟨cv,k1,k2⟩
theorem read_f {o:Oper}{v:AV}{H:qE}{h:Nat→Option Reg}{w:World}(hR:Rel M ρ base h w)(hH:∀ r l g,ρ r=some l→H[r]?=some g→h r=some g)(ht:EV ρ ts A o)(hv:xH P ts o.op H=some v):∃ cv,(execOp A.eval o).run P w=.ok (.value cv) w∧VR ρ v cv:=by
 obtain⟨ts',A',h1,h2,h3⟩:=ht.mask
 rw[evRead_congr h2] at hv
 obtain⟨cv,k1,k2⟩:=evRead_sound hR hH h1 hv
 rw[noSel (by intro cs b e;rw[e] at hv;simp[xH] at hv) h3] at k1
 exact⟨cv,k1,k2⟩
theorem alloc_f {o:Oper}{cs:List AV}{mk:Nat→AV}(ht:EV ρ ts A o)(hv:xW P ts o.op=some (cs,mk)):Ya P ρ A o cs mk:=by
 obtain⟨ts',A',h1,h2,h3⟩:=ht.mask
 rw[evAlloc_congr h2] at hv
 have:=evAlloc_sound h1 hv
 intro w
 obtain⟨cv,w',c,e,fz,k1,k2⟩:=this w
 rw[noSel (by intro cs b e;rw[e] at hv;simp[xW] at hv) h3] at k1
 exact⟨cv,w',c,e,fz,k1,k2⟩
theorem write_f {o:Oper}{H H':qE}{v:AV}{w:World}(hR:Rel M ρ base (hf H) w)(hM:H'.length≤M)(ht:EV ρ ts A o)(hv:wI P ts o.op H=some (v,H')):Yw P M ρ base A o H w v H':=by
 obtain⟨ts',A',h1,h2,h3⟩:=ht.mask
 rw[evWrite_congr h2] at hv
 obtain⟨nx,w',ρ',cv,k1,k2⟩:=evWrite_sound h1 hR hM hv
 rw[noSel (by intro cs b e;rw[e] at hv;simp[wI] at hv) h3] at k1
 exact⟨nx,w',ρ',cv,k1,k2⟩
def Sound (P:Program):kK:=fun f args H v H' =>
  (∃ fn c, P.funcs[f]? = some fn ∧ fn.body = some c ∧ (fn.name == "runtime.NumGoroutine") = false) ∧ H.length ≤ H'.length ∧
 ∀ (M:Nat)(ρ:Ren)(base:Nat)(w:World)(cargs:Array Value),H'.length≤M→Rel M ρ base (hf H) w→LR ρ args cargs.toList →
  Calls P f cargs w (fun e w'=>∃ cv ρ',e=.returned cv∧VR ρ' v cv∧Rel M ρ' base (hf H') w'∧Grow M H.length ρ (hf H) w ρ' (hf H') w')
theorem run_call {o : Oper} {g : FuncId} {as : List AV} {fn : Func} {c : Code} (ht : EV ρ ts A o) (hc : jF ts o = some (g, as)) (hf : P.funcs[g]? = some fn) (hb : fn.body = some c) (hn : (fn.name == "runtime.NumGoroutine") = false) (w : World) :
    ∃ cargs : Array Value, (execOp A.eval o).run P w = .ok (.enter g cargs) w ∧ LR ρ as cargs.toList := by
  unfold jF at hc
  split at hc
  · rename_i cl ho
    split at hc
    · rename_i f hcal
      split at hc
      · rename_i g' a b hev
        split at hc
        case isFalse => cases hc
        rename_i hab
        have ha := Array.eq_empty_of_size_eq_zero hab.1
        have hb' := Array.eq_empty_of_size_eq_zero hab.2
        subst ha; subst hb'
        simp only [Option.some.injEq, Prod.mk.injEq] at hc
        obtain ⟨rfl, rfl⟩ := hc
        have hfo : A.eval f = .func (.func g') #[] #[] := by
          have := ht f (by rw [ho]; simp [Op.operands, Call.operands, hcal])
          rw [hev] at this
          exact this.sc_inv
        refine ⟨cl.args.map A.eval, ?_, ?_⟩
        · unfold execOp
          rw [ho]
          have hn' : ¬ (fn.name = "runtime.NumGoroutine") := by simpa using hn
          simp [resolve, hcal, hfo, Deferred.ofValue, invoke, callFunc, hf, hb, hn']
        · refine ⟨by simp, fun i a v ha hv => ?_⟩
          rw [List.getElem?_map] at ha
          rw [Array.toList_map, List.getElem?_map] at hv
          cases hx : cl.args.toList[i]? with
          | none => rw [hx] at ha; cases ha
          | some x =>
            rw [hx] at ha hv
            simp only [Option.map_some, Option.some.injEq] at ha hv
            subst ha; subst hv
            exact ht x (by rw [ho]; simp only [Op.operands, Call.operands, Array.toList_append, List.mem_append]; exact .inr (List.mem_of_getElem? hx))
      · cases hc
    · cases hc
  · cases hc
end
section
variable {P : Program} {C : kK}
theorem evWrite_len {ts:List AV}{op:Op}{H H':qE}{v:AV}(h:wI P ts op H=some (v,H')):H.length≤H'.length:=by
 unfold wI at h
 split at h
 ·split at h
  ·split at h
   ·simp only[Option.some.injEq,Prod.mk.injEq] at h
    obtain⟨_,rfl⟩:=h
    simp[setReg]
   ·cases h
  ·cases h
 ·split at h
  case h_2=>cases h
  split at h
  case h_2=>cases h
  split at h
  case h_2=>cases h
  split at h
  case isFalse=>cases h
  split at h
  ·split at h
   case isFalse=>cases h
   split at h
   ·simp only[Option.some.injEq,Prod.mk.injEq] at h;obtain⟨_,rfl⟩:=h;exact Nat.le_refl _
   ·simp only[Option.some.injEq,Prod.mk.injEq] at h;obtain⟨_,rfl⟩:=h;simp
  ·split at h
   case h_2=>cases h
   split at h
   case isFalse=>cases h
   simp only[Option.some.injEq,Prod.mk.injEq] at h;obtain⟨_,rfl⟩:=h;simp[yG,uM]
  ·cases h
 ·cases h
theorem Eff.len (hC:∀ f args H v H',C f args H v H'→H.length≤H'.length){o:Oper}{s s':St}(k:Eff P C o s s'):s.H.length≤s'.H.length:=by
 unfold Eff at k
 split at k
 ·obtain⟨v,_,rfl⟩:=k;exact Nat.le_refl _
 ·obtain⟨v,_,rfl⟩:=k;exact Nat.le_refl _
 ·obtain⟨cs,mk,_,_,rfl⟩:=k;simp
 ·split at k
  ·obtain⟨v,H',h1,rfl⟩:=k;exact hC _ _ _ _ _ h1
  ·obtain⟨v,H',h1,rfl⟩:=k;exact evWrite_len h1
theorem OpStep.len (hC:∀ f args H v H',C f args H v H'→H.length≤H'.length){ops:Array Oper}{i:Nat}{s s':St}(k:OpStep P C ops i s s'):s.H.length≤s'.H.length:=by
 unfold OpStep at k
 split at k
 ·exact k.elim
 ·split at k
  ·exact k.len hC
  ·subst k;exact Nat.le_refl _
theorem OpsR.len (hC:∀ f args H v H',C f args H v H'→H.length≤H'.length){ops:Array Oper}{i:Nat}{s s':St}(k:OpsR P C ops i s s'):s.H.length≤s'.H.length:=by
 induction k with
 | done _=>exact Nat.le_refl _
 | step a _ ih=>exact Nat.le_trans (a.len hC) ih
theorem Ex.len (hC:∀ f args H v H',C f args H v H'→H.length≤H'.length){c:Code}{s s':St}{e:Exk}(k:Ex P C c s e s'):s.H.length≤s'.H.length:=by
 induction k with
 | skip=>exact Nat.le_refl _
 | region a=>exact a.len hC
 | @draw id ops tr _ _ a _ =>
  have:∀ k,k≤ops.size→(tr 0).H.length≤(tr k).H.length:=by
   intro k
   induction k with
   | zero=>intro _;exact Nat.le_refl _
   | succ k ih=>intro hk;exact Nat.le_trans (ih (by omega)) ((a k (by omega)).len hC)
  exact this _ (Nat.le_refl _)
 | seq _ _ i j=>exact Nat.le_trans i j
 | seqx _ _ i=>exact i
 | cond _ _ i=>exact i
 | block _ _ i=>exact i
 | blockx _ i=>exact i
 | loop _ _ i j=>exact Nat.le_trans i j
 | loopx _ _ i=>exact i
 | exit=>exact Nat.le_refl _
 | ret=>exact Nat.le_refl _
end
theorem put_LR {ρ:Ren}{ts:List AV}{A:Act}{v:AV}{cv:Value}(h:LR ρ ts A.tmps.toList)(k:VR ρ v cv)(d:Option Tmp):LR ρ (jH ts d v) (A.put d cv).tmps.toList:=by
 cases d with
 | none=>exact h
 | some d=>simp only[jH,Act.put,Array.toList_setIfInBounds];exact h.set k d
theorem wB (A:Act)(d:Option Tmp)(cv:Value):(A.put d cv).defers=A.defers:=by cases d<;>rfl
section
variable {α β : Type}
theorem push_fold (g:Array β→α→β):∀ (l:List α)(acc:Array β)(k:Nat),k<acc.size→(l.foldl (fun a o=>a.push (g a o)) acc)[k]?=acc[k]?
 | [],_,_,_=>rfl
 | o :: l,acc,k,h=>by
  rw[List.foldl_cons,push_fold g l _ k (by simp;omega),Array.getElem?_push]
  rw[if_neg (by omega)]
theorem jT (g:Array β→α→β):∀ (l:List α)(acc:Array β),(l.foldl (fun a o=>a.push (g a o)) acc).size=acc.size+l.length
 | [],_=>rfl
 | o :: l,acc=>by rw[List.foldl_cons,jT g l];simp;omega
theorem push_fold_at (g:Array β→α→β)(l1:List α)(o:α)(l2:List α):((l1++o :: l2).foldl (fun a o=>a.push (g a o)) #[])[l1.length]?=some (g (l1.foldl (fun a o=>a.push (g a o)) #[]) o):=by
 rw[List.foldl_append,List.foldl_cons]
 have h:=jT g l1 #[]
 simp only[Array.size_empty,Nat.zero_add] at h
 rw[push_fold g _ _ _ (by simp[h]),Array.getElem?_push,if_pos h.symm]
end
theorem bits_fold (f:Nat→Nat)(i:Nat):∀ (l:List Edge)(s:Nat),(l.foldl (fun s e=>if Region.binds .any e then s ||| 2 ^ e.on ||| f e.on else s) s).testBit i=true→s.testBit i=true∨∃ e∈l,Region.binds .any e=true∧(e.on=i∨(f e.on).testBit i=true)
 | [],s,h=>.inl h
 | e :: l,s,h=>by
  rw[List.foldl_cons] at h
  rcases bits_fold f i l _ h with k | ⟨e',h1,h2⟩
  ·split at k
   ·rename_i hb
    rw[Nat.testBit_or,Nat.testBit_or,Nat.testBit_two_pow] at k
    simp only[Bool.or_eq_true,decide_eq_true_eq] at k
    rcases k with (k | k) | k
    ·exact .inl k
    ·exact .inr ⟨e,by simp,hb,.inl k⟩
    ·exact .inr ⟨e,by simp,hb,.inr k⟩
   ·exact .inl k
  ·exact .inr ⟨e',by simp[h1],h2⟩
def stp (acc:Array Nat)(o:Oper):Nat:=o.after.foldl (fun s e=>if Region.binds .any e then s ||| 2 ^ e.on ||| acc.getD e.on 0 else s) 0
theorem before_eq (ops:Array Oper):Region.before ops=ops.toList.foldl (fun a o=>a.push (stp a o)) #[]:=by
 unfold Region.before
 rw[←Array.foldl_toList]
 rfl
theorem stp_bit {acc:Array Nat}{o:Oper}{i:Nat}(h:(stp acc o).testBit i=true):∃ e∈o.after.toList,Region.binds .any e=true∧(e.on=i∨(acc.getD e.on 0).testBit i=true):=by
 unfold stp at h
 rw[←Array.foldl_toList] at h
 rcases bits_fold (fun k=>acc.getD k 0) i _ _ h with k | h
 ·simp at k
 ·exact h
attribute [irreducible] stp
section
variable {ops : Array Oper}
theorem before_at {j:Nat}(hj:j<ops.size):∃ acc:Array Nat,(Region.before ops)[j]?=some (stp acc (yP ops j))∧∀ k,k<j→acc[k]?=(Region.before ops)[k]?:=by
 have hsp:ops.toList=ops.toList.take j++yP ops j :: ops.toList.drop (j+1):=by
  have:yP ops j=ops.toList[j]'(by simpa using hj):=by simp[yP,Array.getD,hj]
  rw[this,List.getElem_cons_drop,List.take_append_drop]
 have hlen:(ops.toList.take j).length=j:=by simp;omega
 refine⟨(ops.toList.take j).foldl (fun a o=>a.push (stp a o)) #[],?_,?_⟩
 ·have hat:=push_fold_at stp (ops.toList.take j) (yP ops j) (ops.toList.drop (j+1))
  rw[hlen,←hsp] at hat
  rw[before_eq]
  exact hat
 ·intro k hk
  have h1:=push_fold stp (ops.toList.drop j) ((ops.toList.take j).foldl (fun a o=>a.push (stp a o)) #[]) k (by rw[jT];simp;omega)
  rw[←List.foldl_append,List.take_append_drop] at h1
  rw[before_eq]
  exact h1.symm
theorem befAt_inv {i j:Nat}(hj:j<ops.size)(hlt:∀ e∈(yP ops j).after.toList,Region.binds .any e=true→e.on<j)(h:vZ ops i j=true):∃ e∈(yP ops j).after.toList,Region.binds .any e=true∧(e.on=i∨vZ ops i e.on=true):=by
 obtain⟨acc,h1,h2⟩:=before_at hj
 unfold vZ bef at h
 rw[List.getD_eq_getElem?_getD,Array.getElem?_toList,h1,Option.getD_some] at h
 obtain⟨e,k1,k2,k3⟩:=stp_bit h
 refine⟨e,k1,k2,?_⟩
 rcases k3 with k3 | k3
 ·exact .inl k3
 ·refine .inr ?_
  unfold vZ bef
  rw[List.getD_eq_getElem?_getD,Array.getElem?_toList,←h2 e.on (hlt e k1 k2)]
  rw[Array.getD_eq_getD_getElem?] at k3
  exact k3
end
section
variable {P : Program} {ops : Array Oper}
theorem drawOk_edge (h:drawOk P ops=true){j:Nat}(hj:j<ops.size):∀ e∈(yP ops j).after.toList,Region.binds .any e=true→e.on<j:=by
 intro e he hb
 simp only[drawOk,Bool.and_eq_true,List.all_eq_true,List.mem_range] at h
 have:=h.1 j hj e he
 simpa [hb] using this
theorem vI (h:drawOk P ops=true){i j:Nat}(hj:j<ops.size)(hi:i<j):vZ ops i j=true∨(¬(isW P (yP ops i)=true∧isW P (yP ops j)=true)∧(∀ d,(yP ops i).dst=some d→d ∉ kS ops (yP ops j))∧∀ d,(yP ops j).dst=some d→d ∉ kS ops (yP ops i)):=by
 simp only[drawOk,Bool.and_eq_true,List.all_eq_true,List.mem_range] at h
 have:=h.2 j hj i hi
 rw[Bool.or_eq_true] at this
 rcases this with h | h
 ·exact .inl h
 ·refine .inr ?_
  rw[Bool.and_eq_true] at h
  obtain⟨h1,h2⟩:=h
  refine⟨fun k=>by rw[k.1,k.2] at h1;simp at h1,?_,?_⟩
  ·intro d hd
   simp only[noClash,hd,Bool.and_eq_true] at h2
   simpa using h2.1
  ·intro d hd
   simp only[noClash,hd,Bool.and_eq_true] at h2
   simpa using h2.2
theorem dst_looks {o:Oper}{d:Tmp}(h:o.dst=some d):d∈kS ops o:=by simp[kS,h]
end
def isA (P:Program)(o:Oper):Bool:=
 match jZ P o with
 | .alloc=>true
 | _=>false
section
variable {P : Program} {C : kK} {ops : Array Oper} {tr : Nat → St}
def exe (ops:Array Oper)(tr:Nat→St)(i:Nat):Bool:=Region.wanted (yP ops i) (wE ops (tr i).ts)
def wC (P:Program)(ops:Array Oper)(tr:Nat→St)(i:Nat):Bool:=isA P (yP ops i)&&exe ops tr i
structure Way (P:Program) (C:kK) (ops:Array Oper) (tr:Nat→St):Prop where
 st:∀ i,i<ops.size→OpStep P C ops i (tr i) (tr (i+1))
 ln:∀ f args H v H',C f args H v H'→H.length≤H'.length
theorem opAt_some {i:Nat}(hi:i<ops.size):ops[i]?=some (yP ops i):=by simp[yP,Array.getD,hi]
theorem Way.run (W:Way P C ops tr){i:Nat}(hi:i<ops.size)(hx:exe ops tr i=true):Eff P C (yP ops i) (tr i) (tr (i+1)):=by
 have:=W.st i hi
 unfold OpStep at this
 rw[opAt_some hi] at this
 simp only at this
 unfold exe at hx
 rwa [if_pos hx] at this
theorem Way.skip (W:Way P C ops tr){i:Nat}(hi:i<ops.size)(hx:exe ops tr i=false):tr (i+1)=(tr i).put (yP ops i).dst und:=by
 have:=W.st i hi
 unfold OpStep at this
 rw[opAt_some hi] at this
 simp only at this
 unfold exe at hx
 rwa [if_neg (by simp[hx])] at this
theorem Way.ts (W:Way P C ops tr){i:Nat}(hi:i<ops.size):∃ v,(tr (i+1)).ts=jH (tr i).ts (yP ops i).dst v:=by
 cases hx:exe ops tr i with
 | false=>rw[W.skip hi hx];exact⟨_,rfl⟩
 | true =>
  have:=W.run hi hx
  unfold Eff at this
  split at this
  ·obtain⟨v,_,h⟩:=this;rw[h];exact⟨_,rfl⟩
  ·obtain⟨v,_,h⟩:=this;rw[h];exact⟨_,rfl⟩
  ·obtain⟨cs,mk,_,_,h⟩:=this;rw[h];exact⟨_,rfl⟩
  ·split at this
   ·obtain⟨v,H',_,h⟩:=this;rw[h];exact⟨_,rfl⟩
   ·obtain⟨v,H',_,h⟩:=this;rw[h];exact⟨_,rfl⟩
theorem setD_get {ts:List AV}{d:Option Tmp}{v:AV}{t:Nat}(h:d≠some t):(jH ts d v)[t]?=ts[t]?:=by
 cases d with
 | none=>rfl
 | some d=>simp only[jH];rw[List.getElem?_set_ne];intro e;exact h (by rw[e])
theorem setD_len {ts:List AV}{d:Option Tmp}{v:AV}:(jH ts d v).length=ts.length:=by cases d<;>simp[jH]
theorem Way.tlen (W:Way P C ops tr):∀ i,i≤ops.size→(tr i).ts.length=(tr 0).ts.length
 | 0,_=>rfl
 | i+1,h=>by
  obtain⟨v,hv⟩:=W.ts (i:=i) (by omega)
  rw[hv,setD_len,W.tlen i (by omega)]
theorem Way.same (W : Way P C ops tr) {t i : Nat} : ∀ j, i ≤ j → j ≤ ops.size → (∀ k, i ≤ k → k < j → (yP ops k).dst ≠ some t) → (tr j).ts[t]? = (tr i).ts[t]? := by
  intro j
  induction j with
  | zero => intro h _ _; have : i = 0 := by omega
            rw [this]
  | succ j ih =>
    intro h1 h2 h3
    rcases Nat.lt_or_ge j i with h | h
    · have : i = j + 1 := by omega
      rw [this]
    · obtain ⟨v, hv⟩ := W.ts (i := j) (by omega)
      rw [hv, setD_get (h3 j h (by omega)), ih h (by omega) fun k k1 k2 => h3 k k1 (by omega)]
theorem Way.len (W:Way P C ops tr){i:Nat}(hi:i<ops.size):(tr i).H.length≤(tr (i+1)).H.length:=(W.st i hi).len W.ln
theorem Way.lens (W : Way P C ops tr) {i : Nat} : ∀ j, i ≤ j → j ≤ ops.size → (tr i).H.length ≤ (tr j).H.length := by
  intro j
  induction j with
  | zero => intro h _; have : i = 0 := by omega
            rw [this]; exact Nat.le_refl _
  | succ j ih =>
    intro h1 h2
    rcases Nat.lt_or_ge j i with h | h
    · have : i = j + 1 := by omega
      rw [this]; exact Nat.le_refl _
    · exact Nat.le_trans (ih h (by omega)) (W.len (by omega))
theorem Way.quiet (W:Way P C ops tr){i:Nat}(hi:i<ops.size)(hw:isW P (yP ops i)=false)(hm:wC P ops tr i=false):(tr (i+1)).H=(tr i).H:=by
 cases hx:exe ops tr i with
 | false=>rw[W.skip hi hx];rfl
 | true =>
  have:=W.run hi hx
  unfold Eff at this
  split at this
  ·obtain⟨v,_,h⟩:=this;rw[h];rfl
  ·obtain⟨v,_,h⟩:=this;rw[h];rfl
  ·rename_i hc
   simp[wC,hx,isA,hc] at hm
  ·rename_i hc
   simp[isW,hc] at hw
theorem Way.make (W:Way P C ops tr){i:Nat}(hi:i<ops.size)(hm:wC P ops tr i=true):∃ cs mk,xW P (tr i).ts (yP ops i).op=some (cs,mk)∧(tr (i+1)).ts=jH (tr i).ts (yP ops i).dst (mk (tr i).H.length)∧(tr (i+1)).H=(tr i).H++[{cs:=cs}]:=by
 unfold wC at hm
 rw[Bool.and_eq_true] at hm
 have:=W.run hi hm.2
 unfold Eff at this
 split at this
 all_goals (rename_i hc;first | (simp[isA,hc] at hm;done) | skip)
 obtain⟨cs,mk,h1,_,h2⟩:=this
 rw[h2]
 exact⟨cs,mk,h1,rfl,rfl⟩
theorem makes_noW {i:Nat}(h:wC P ops tr i=true):isW P (yP ops i)=false:=by
 unfold wC isA at h
 unfold isW
 split at h<;>simp_all
theorem Way.between (W : Way P C ops tr) {m : Nat} : ∀ j, m ≤ j → j ≤ ops.size → (∀ k, m ≤ k → k < j → isW P (yP ops k) = false) →
    (∀ r, r < (tr m).H.length → (tr j).H[r]? = (tr m).H[r]?) ∧ (∀ r, (tr m).H.length ≤ r → r < (tr j).H.length → ∃ i, m ≤ i ∧ i < j ∧ wC P ops tr i = true ∧ (tr i).H.length = r) := by
  intro j
  induction j with
  | zero => intro h _ _; have : m = 0 := by omega
            subst this
            exact ⟨fun _ _ => rfl, fun r h1 h2 => by omega⟩
  | succ j ih =>
    intro h1 h2 h3
    rcases Nat.lt_or_ge j m with h | h
    · have : m = j + 1 := by omega
      subst this
      exact ⟨fun _ _ => rfl, fun r h1 h2 => by omega⟩
    · obtain ⟨k1, k2⟩ := ih h (by omega) fun k q1 q2 => h3 k q1 (by omega)
      cases hm : wC P ops tr j with
      | false =>
        rw [W.quiet (by omega) (h3 j h (by omega)) hm]
        exact ⟨k1, fun r q1 q2 => by obtain ⟨i, p1, p2, p3⟩ := k2 r q1 q2; exact ⟨i, p1, by omega, p3⟩⟩
      | true =>
        obtain ⟨cs, mk, _, _, hH⟩ := W.make (by omega) hm
        have hl := W.lens (i := m) j h (by omega)
        refine ⟨fun r q => ?_, fun r q1 q2 => ?_⟩
        · rw [hH, List.getElem?_append_left (by omega), k1 r q]
        · rw [hH, List.length_append, List.length_singleton] at q2
          rcases Nat.lt_or_ge r (tr j).H.length with q | q
          · obtain ⟨i, p1, p2, p3⟩ := k2 r q1 q; exact ⟨i, p1, by omega, p3⟩
          · exact ⟨j, h, by omega, hm, by omega⟩
theorem Way.stays (W:Way P C ops tr){i j:Nat}(hm:wC P ops tr i=true)(hij:i<j)(hj:j≤ops.size)(h:∀ k,i≤k→k<j→isW P (yP ops k)=false):(tr j).H[(tr i).H.length]?=(tr (i+1)).H[(tr i).H.length]?:=by
 obtain⟨cs,mk,_,_,hH⟩:=W.make (by omega) hm
 exact(W.between (m:=i+1) j hij hj fun k k1 k2=>h k (by omega) k2).1 _ (by rw[hH];simp)
theorem Way.one (W:Way P C ops tr){i j:Nat}(hi:i<ops.size)(hj:j<ops.size)(h1:wC P ops tr i=true)(h2:wC P ops tr j=true)(h:(tr i).H.length=(tr j).H.length):i=j:=by
 have step:∀ a b,a<ops.size→b<ops.size→wC P ops tr a=true→a<b→(tr a).H.length<(tr b).H.length:=by
  intro a b ha hb hma hab
  obtain⟨cs,mk,_,_,hH⟩:=W.make ha hma
  have:=W.lens (i:=a+1) b hab (by omega)
  rw[hH] at this
  simp at this
  omega
 rcases Nat.lt_trichotomy i j with q | q | q
 ·have:=step i j hi hj h1 q;omega
 ·exact q
 ·have:=step j i hj hi h2 q;omega
def uS (P:Program)(ops:Array Oper)(tr:Nat→St)(b:Nat→Bool):Nat→Nat→Option Reg
 | 0,_=>none
 | k+1,r=>if b k=true∧wC P ops tr k=true∧(tr k).H.length=r then (tr (k+1)).H[r]? else uS P ops tr b k r
theorem uZ {b:Nat→Bool}{r:Nat}{g:Reg}:∀ {k},uS P ops tr b k r=some g→∃ i,i<k∧b i=true∧wC P ops tr i=true∧(tr i).H.length=r∧(tr (i+1)).H[r]?=some g
 | 0,h=>by cases h
 | k+1,h=>by
  simp only[uS] at h
  split at h
  ·rename_i hh
   exact⟨k,by omega,hh.1,hh.2.1,hh.2.2,h⟩
  ·obtain⟨i,h1,h2⟩:=uZ h
   exact⟨i,by omega,h2⟩
theorem Way.early_at (W:Way P C ops tr){b:Nat→Bool}{i:Nat}(hb:b i=true)(hm:wC P ops tr i=true):∀ k,i<k→k≤ops.size→uS P ops tr b k (tr i).H.length=(tr (i+1)).H[(tr i).H.length]?:=by
 intro k
 induction k with
 | zero=>intro h;omega
 | succ k ih =>
  intro h1 h2
  simp only[uS]
  split
  ·rename_i hh
   have:=W.one (by omega) (by omega) hm hh.2.1 hh.2.2.symm
   rw[this]
  ·rename_i hh
   rcases Nat.lt_or_ge i k with q | q
   ·exact ih q (by omega)
   ·have:i=k:=by omega
    subst this
    exact absurd ⟨hb,hm,rfl⟩ hh
theorem Way.early_no (W:Way P C ops tr){b:Nat→Bool}{i:Nat}(hi:i<ops.size)(hb:b i=false)(hm:wC P ops tr i=true):uS P ops tr b ops.size (tr i).H.length=none:=by
 cases h:uS P ops tr b ops.size (tr i).H.length with
 | none=>rfl
 | some g =>
  obtain⟨j,h1,h2,h3,h4,h5⟩:=uZ h
  have:=W.one h1 hi h3 hm h4
  subst this
  rw[hb] at h2
  cases h2
def hB (P:Program)(ops:Array Oper)(tr:Nat→St)(b:Nat→Bool)(m:Nat):Nat→Option Reg:=fun r=>if r<(tr m).H.length then (tr m).H[r]? else uS P ops tr b ops.size r
def wA (b:Nat→Bool)(j:Nat):Nat→Bool:=fun i=>if i=j then true else b i
theorem early_with {b:Nat→Bool}{j:Nat}(hm:wC P ops tr j=false):∀ k r,uS P ops tr (wA b j) k r=uS P ops tr b k r
 | 0,_=>rfl
 | k+1,r=>by
  simp only[uS,wA]
  rw[early_with hm k r]
  by_cases e:k=j
  ·subst e;simp[hm]
  ·simp[e]
theorem hB_with {b:Nat→Bool}{j m:Nat}(hm:wC P ops tr j=false):hB P ops tr (wA b j) m=hB P ops tr b m:=by
 funext r
 simp only[hB,early_with hm]
theorem Way.early_with1 (W:Way P C ops tr){b:Nat→Bool}{j:Nat}(hj:j<ops.size)(hm:wC P ops tr j=true):∀ r,uS P ops tr (wA b j) ops.size r=if r=(tr j).H.length then (tr (j+1)).H[r]? else uS P ops tr b ops.size r:=by
 intro r
 by_cases hr:r=(tr j).H.length
 ·subst hr
  rw[if_pos rfl,W.early_at (by simp[wA]) hm _ hj (Nat.le_refl _)]
 ·rw[if_neg hr]
  have:∀ k,uS P ops tr (wA b j) k r=uS P ops tr b k r:=by
   intro k
   induction k with
   | zero=>rfl
   | succ k ih =>
    simp only[uS,wA,ih]
    by_cases e:k=j
    ·subst e;simp[Ne.symm hr]
    ·simp[e]
  exact this _
end
theorem Rel.widen {M:Nat}{ρ:Ren}{base:Nat}{h h':Nat→Option Reg}{w:World}(hR:Rel M ρ base h w)(h1:∀ r g,h r=some g→h' r=some g)(h2:∀ r g,h' r=some g→h r=some g∨ρ r=none)(h3:∀ r g,h' r=some g→r<M):Rel M ρ base h' w:=by
 refine⟨hR.bs,hR.lt,?_,h3,?_,?_⟩
 ·intro r l hr
  rcases hR.dom r l hr with ⟨g,hg⟩ | k
  ·exact .inl ⟨g,h1 r g hg⟩
  ·exact .inr k
 ·intro r g l hg hl hr
  rcases h2 r g hg with k | k
  ·exact hR.reg r g l k hl hr
  ·rw[hr] at k;cases k
 ·intro r1 r2 g1 g2 l1 l2 a1 a2 b1 b2 c1 c2 d1 d2 e
  rcases h2 r1 g1 a1 with k1 | k1
  ·rcases h2 r2 g2 a2 with k2 | k2
   ·exact hR.inj r1 r2 g1 g2 l1 l2 k1 k2 b1 b2 c1 c2 d1 d2 e
   ·rw[d2] at k2;cases k2
  ·rw[d1] at k1;cases k1
theorem Grow.widen {M N:Nat}{ρ0 ρ:Ren}{h0 h h':Nat→Option Reg}{w0 w:World}(hG:Grow M N ρ0 h0 w0 ρ h w)(h1:∀ r g,h r=some g→h' r=some g)(h2:∀ r g,h' r=some g→h r=some g∨ρ r=none):Grow M N ρ0 h0 w0 ρ h' w:=by
 refine⟨hG.os,hG.tape,hG.output,hG.size,hG.frame,hG.ext,?_,hG.prov,?_,?_,hG.res,fun r g a b=>⟨h1 r g (hG.ded r g a b).1,(hG.ded r g a b).2⟩,?_⟩
 ·intro r g hr hg hn
  obtain⟨k1,k2⟩:=hG.unt r g hr hg hn
  refine⟨k1,?_⟩
  rw[hg] at k2
  rw[h1 r g k2,hg]
 ·intro r g g' hg hg' hl
  obtain⟨g2,k⟩:=hG.per r g hg
  have:=h1 r g2 k
  rw[hg'] at this
  injection this with this
  subst this
  exact hG.back r g g' hg k hl
 ·intro r g hg
  obtain⟨g2,k⟩:=hG.per r g hg
  exact⟨g2,h1 r g2 k⟩
 ·intro r g' l s cs hg hd ho hn hρ he
  rcases h2 r g' hg with k | k
  ·rcases hG.die r g' l s cs k hd ho hn hρ he with q | ⟨q1,q2⟩
   ·exact .inl q
   ·refine .inr ⟨fun c gc lc hc hlv how hρc=>?_,q2⟩
    rcases h2 c gc hc with z | z
    ·exact q1 c gc lc z hlv how hρc
    ·rw[hρc] at z;cases z
  ·rw[hρ] at k;cases k
theorem Rel.heap {M:Nat}{ρ:Ren}{base:Nat}{h:Nat→Option Reg}{w w':World}(hR:Rel M ρ base h w)(hw:w'.heap=w.heap):Rel M ρ base h w':=rel_heap hR hw
section
variable {P : Program} {ops : Array Oper} {tr : Nat → St} {M base : Nat} {ρ0 : Ren} {w0 : World} {D : List Deferred}
structure Inv (P:Program) (ops:Array Oper) (tr:Nat→St) (M base:Nat) (ρ0:Ren) (w0:World) (D:List Deferred) (b:Nat→Bool) (m:Nat) (A:Act) (w:World) (ρ:Ren):Prop where
 ml:m≤ops.size
 tmp:∃ TS:List AV,LR ρ TS A.tmps.toList∧TS.length=(tr 0).ts.length∧∀ t j,j≤ops.size→(∀ i,i<ops.size→(yP ops i).dst=some t→(b i=true↔i<j))→TS[t]?=(tr j).ts[t]?
 df:A.defers=D
 wr:∀ i,i<ops.size→isW P (yP ops i)=true→(b i=true↔i<m)
 rel:Rel M ρ base (hB P ops tr b m) w
 un:∀ i,i<m→wC P ops tr i=true→b i=false→ρ (tr i).H.length=none∧(tr m).H[(tr i).H.length]?=(tr (i+1)).H[(tr i).H.length]?
 gr:Grow M (tr 0).H.length ρ0 (hf (tr 0).H) w0 ρ (hB P ops tr b m) w
theorem tmp_add {C:kK}(W:Way P C ops tr){ρ ρ':Ren}{b:Nat→Bool}{A:Act}{j:Nat}{v:AV}{cv:Value}(hj:j<ops.size)
  (h:∃ TS:List AV,LR ρ TS A.tmps.toList∧TS.length=(tr 0).ts.length∧∀ t j,j≤ops.size→(∀ i,i<ops.size→(yP ops i).dst=some t→(b i=true↔i<j))→TS[t]?=(tr j).ts[t]?)
  (hT:∀ t,(yP ops j).dst=some t→∀ i,i<ops.size→i≠j→(yP ops i).dst=some t→(b i=true↔i<j))
  (hv:VR ρ' v cv) (he:∀ r l,ρ r=some l→ρ' r=some l) (hts:(tr (j+1)).ts=jH (tr j).ts (yP ops j).dst v) :
  ∃ TS:List AV,LR ρ' TS (A.put (yP ops j).dst cv).tmps.toList∧TS.length=(tr 0).ts.length∧∀ t k,k≤ops.size→(∀ i,i<ops.size→(yP ops i).dst=some t→(wA b j i=true↔i<k))→TS[t]?=(tr k).ts[t]?:=by
 obtain⟨TS,h1,h2,h3⟩:=h
 refine⟨jH TS (yP ops j).dst v,put_LR (h1.mono he) hv _,by rw[setD_len,h2],?_⟩
 intro t k hk hc
 by_cases hd:(yP ops j).dst=some t
 ·have hjk:j<k:=(hc j hj hd).1 (by simp[wA])
  have e1:=W.same (t:=t) (i:=j+1) k hjk hk (fun i q1 q2 hi=>by
   have a:=(hc i (by omega) hi).2 q2
   simp only[wA,if_neg (show i≠j by omega)] at a
   have:=(hT t hd i (by omega) (by omega) hi).1 a
   omega)
  rw[e1,hts,hd]
  simp only[jH]
  rw[List.getElem?_set,List.getElem?_set,h2,W.tlen j (by omega)]
  split
  ·rfl
  ·rename_i hne;exact absurd rfl hne
 ·rw[setD_get hd]
  refine h3 t k hk fun i hi hdi=>?_
  have:=hc i hi hdi
  have hne:i≠j:=by rintro rfl;exact hd hdi
  simpa [wA,hne] using this
theorem Inv.shift {C:kK}(W:Way P C ops tr){b:Nat→Bool}{m j:Nat}{A:Act}{w:World}{ρ:Ren}(I:Inv P ops tr M base ρ0 w0 D b m A w ρ)(hM:(tr ops.size).H.length≤M)(hmj:m≤j)(hj:j≤ops.size)(hn:∀ k,m≤k→k<j→isW P (yP ops k)=false):Inv P ops tr M base ρ0 w0 D b j A w ρ:=by
 obtain⟨k1,k2⟩:=W.between j hmj hj hn
 have hlen:=W.lens (i:=m) j hmj hj
 have hlj:=W.lens (i:=j) ops.size hj (Nat.le_refl _)
 have u1:∀ r g,hB P ops tr b m r=some g→hB P ops tr b j r=some g:=by
  intro r g hg
  simp only[hB] at hg ⊢
  split at hg
  ·rename_i hr
   rw[if_pos (by omega),k1 r hr]
   exact hg
  ·rename_i hr
   by_cases hr2:r<(tr j).H.length
   ·rw[if_pos hr2]
    obtain⟨i,p1,p2,p3,p4⟩:=k2 r (by omega) hr2
    obtain⟨i',q1,q2,q3,q4,q5⟩:=uZ hg
    have:=W.one q1 (by omega) q3 p3 (q4.trans p4.symm)
    subst this
    subst p4
    rw[W.stays p3 p2 hj fun k a1 a2=>hn k (by omega) a2]
    exact q5
   ·rw[if_neg hr2];exact hg
 have u2:∀ i,m≤i→i<j→wC P ops tr i=true→b i=false→ρ (tr i).H.length=none:=by
  intro i h1 h2 h3 h4
  cases hρ:ρ (tr i).H.length with
  | none=>rfl
  | some l =>
   have hlt:(tr i).H.length<M:=by
    obtain⟨cs,mk,_,_,hH⟩:=W.make (by omega) h3
    have:=W.lens (i:=i+1) ops.size (by omega) (Nat.le_refl _)
    rw[hH] at this
    simp at this
    omega
   rcases I.rel.dom _ l hρ with ⟨g,hg⟩ | k
   ·simp only[hB] at hg
    have:=W.lens (i:=m) i h1 (by omega)
    rw[if_neg (by omega),W.early_no (by omega) h4 h3] at hg
    cases hg
   ·omega
 have u3:∀ r g,hB P ops tr b j r=some g→r<M:=by
  intro r g hg
  simp only[hB] at hg
  split at hg
  ·omega
  ·obtain⟨i',q1,q2,q3,q4,q5⟩:=uZ hg
   obtain⟨cs,mk,_,_,hH⟩:=W.make q1 q3
   have:=W.lens (i:=i'+1) ops.size (by omega) (Nat.le_refl _)
   rw[hH] at this
   simp at this
   omega
 have u4:∀ r g,hB P ops tr b j r=some g→hB P ops tr b m r=some g∨ρ r=none:=by
  intro r g hg
  simp only[hB] at hg ⊢
  split at hg
  ·rename_i hr
   by_cases hr2:r<(tr m).H.length
   ·rw[if_pos hr2,←k1 r hr2];exact .inl hg
   ·rw[if_neg hr2]
    obtain⟨i,p1,p2,p3,p4⟩:=k2 r (by omega) hr
    subst p4
    cases hb:b i with
    | true =>
     rw[W.early_at hb p3 _ (by omega) (Nat.le_refl _),←W.stays p3 p2 hj fun k a1 a2=>hn k (by omega) a2]
     exact .inl hg
    | false=>exact .inr (u2 i p1 p2 p3 hb)
  ·rename_i hr
   rw[if_neg (by omega)]
   exact .inl hg
 refine⟨hj,I.tmp,I.df,?_,I.rel.widen u1 u4 u3,?_,I.gr.widen u1 u4⟩
 ·intro i hi hw
  rw[I.wr i hi hw]
  constructor
  ·intro h;omega
  ·intro h
   rcases Nat.lt_or_ge i m with q | q
   ·exact q
   ·have:=hn i q h
    rw[hw] at this
    cases this
 ·intro i hi hm hb
  rcases Nat.lt_or_ge i m with q | q
  ·obtain⟨a1,a2⟩:=I.un i q hm hb
   refine⟨a1,?_⟩
   obtain⟨cs,mk,_,_,hH⟩:=W.make (i:=i) (by omega) hm
   have:=W.lens (i:=i+1) m q I.ml
   rw[hH,List.length_append,List.length_singleton] at this
   rw[k1 _ (by omega),a2]
  ·exact⟨u2 i q hi hm hb,W.stays hm hi hj fun k a1 a2=>hn k (by omega) a2⟩
end
section
variable {P : Program} {C : kK} {ops : Array Oper} {tr : Nat → St} {M base : Nat} {ρ0 ρ : Ren} {w0 w : World} {D : List Deferred} {b : Nat → Bool} {m j : Nat} {A : Act} {v : AV} {cv : Value}
theorem vQ {i:Nat}(h:i≠j):wA b j i=b i:=by simp[wA,h]
theorem vE {i:Nat}(h:wA b j i=false):i≠j∧b i=false:=by
 unfold wA at h
 split at h
 ·cases h
 ·exact⟨by assumption,h⟩
theorem Inv.calm (W:Way P C ops tr)(I:Inv P ops tr M base ρ0 w0 D b m A w ρ)(hj:j<ops.size)(hw:isW P (yP ops j)=false)(hm:wC P ops tr j=false)
  (hT:∀ t,(yP ops j).dst=some t→∀ i,i<ops.size→i≠j→(yP ops i).dst=some t→(b i=true↔i<j)) (hv:VR ρ v cv) (hts:(tr (j+1)).ts=jH (tr j).ts (yP ops j).dst v) :
  Inv P ops tr M base ρ0 w0 D (wA b j) m (A.put (yP ops j).dst cv) w ρ:=by
 refine⟨I.ml,tmp_add W hj I.tmp hT hv (fun _ _ h=>h) hts,by rw[wB,I.df],?_,by rw[hB_with hm];exact I.rel,?_,by rw[hB_with hm];exact I.gr⟩
 ·intro i hi hwi
  rw[vQ (by rintro rfl;rw[hw] at hwi;cases hwi)]
  exact I.wr i hi hwi
 ·intro i hi hmi hb
  exact I.un i hi hmi (vE hb).2
theorem Inv.skipW (W:Way P C ops tr)(I:Inv P ops tr M base ρ0 w0 D b j A w ρ)(hj:j<ops.size)(hw:isW P (yP ops j)=true)(hH:(tr (j+1)).H=(tr j).H)
  (hT:∀ t,(yP ops j).dst=some t→∀ i,i<ops.size→i≠j→(yP ops i).dst=some t→(b i=true↔i<j)) (hv:VR ρ v cv) (hts:(tr (j+1)).ts=jH (tr j).ts (yP ops j).dst v) :
  Inv P ops tr M base ρ0 w0 D (wA b j) (j+1) (A.put (yP ops j).dst cv) w ρ:=by
 have hm:wC P ops tr j=false:=by
  cases h:wC P ops tr j with
  | false=>rfl
  | true=>rw[makes_noW h] at hw;cases hw
 have e:hB P ops tr (wA b j) (j+1)=hB P ops tr b j:=by
  rw[hB_with hm]
  funext r
  simp only[hB,hH]
 refine⟨hj,tmp_add W hj I.tmp hT hv (fun _ _ h=>h) hts,by rw[wB,I.df],?_,by rw[e];exact I.rel,?_,by rw[e];exact I.gr⟩
 ·intro i hi hwi
  by_cases hij:i=j
  ·subst hij;simp[wA]
  ·rw[vQ hij,I.wr i hi hwi]
   omega
 ·intro i hi hmi hb
  obtain⟨q1,q2⟩:=vE hb
  rw[hH]
  exact I.un i (by omega) hmi q2
theorem Inv.plain (W:Way P C ops tr)(I:Inv P ops tr M base ρ0 w0 D b j A w ρ)(hj:j<ops.size)(hw:isW P (yP ops j)=true)(hM:(tr ops.size).H.length≤M) :
  (∀ r g,hf (tr j).H r=some g→hB P ops tr b j r=some g)∧(∀ r g,hB P ops tr b j r=some g→hf (tr j).H r=some g∨(tr (j+1)).H.length≤r)∧Rel (tr (j+1)).H.length ρ base (hf (tr j).H) w:=by
 have hl:=W.len hj
 have hl2:=W.lens (i:=j+1) ops.size hj (Nat.le_refl _)
 have u1:∀ r g,hf (tr j).H r=some g→hB P ops tr b j r=some g:=by
  intro r g hg
  have hr:=(List.getElem?_eq_some_iff.1 hg).1
  simp only[hB]
  rw[if_pos hr]
  exact hg
 have u2:∀ r g,hB P ops tr b j r=some g→hf (tr j).H r=some g∨(tr (j+1)).H.length≤r:=by
  intro r g hg
  simp only[hB] at hg
  split at hg
  ·exact .inl hg
  ·rename_i hr
   obtain⟨i,q1,q2,q3,q4,q5⟩:=uZ hg
   rcases Nat.lt_trichotomy i j with h | h | h
   ·obtain⟨cs,mk,_,_,hH⟩:=W.make q1 q3
    have:=W.lens (i:=i+1) j h (by omega)
    rw[hH,List.length_append,List.length_singleton] at this
    omega
   ·subst h
    rw[makes_noW q3] at hw
    cases hw
   ·have:=W.lens (i:=j+1) i h (by omega)
    exact .inr (by omega)
 refine⟨u1,u2,I.rel.bs,I.rel.lt,?_,?_,fun r g l h=>I.rel.reg r g l (u1 r g h),?_⟩
 ·intro r l hr
  rcases I.rel.dom r l hr with ⟨g,hg⟩ | k
  ·rcases u2 r g hg with q | q
   ·exact .inl ⟨g,q⟩
   ·exact .inr q
  ·exact .inr (by omega)
 ·intro r g hg
  have hr:=(List.getElem?_eq_some_iff.1 hg).1
  omega
 ·intro r1 r2 g1 g2 l1 l2 a1 a2
  exact I.rel.inj r1 r2 g1 g2 l1 l2 (u1 _ _ a1) (u1 _ _ a2)
theorem Inv.wrote (W:Way P C ops tr){ρ':Ren}{w':World}(I:Inv P ops tr M base ρ0 w0 D b j A w ρ)(R0:Rel M ρ0 base (hf (tr 0).H) w0)(hj:j<ops.size)(hw:isW P (yP ops j)=true)(hM:(tr ops.size).H.length≤M)
  (hR:Rel (tr (j+1)).H.length ρ' base (hf (tr (j+1)).H) w') (hG:Grow (tr (j+1)).H.length (tr j).H.length ρ (hf (tr j).H) w ρ' (hf (tr (j+1)).H) w')
  (hT:∀ t,(yP ops j).dst=some t→∀ i,i<ops.size→i≠j→(yP ops i).dst=some t→(b i=true↔i<j)) (hv:VR ρ' v cv) (hts:(tr (j+1)).ts=jH (tr j).ts (yP ops j).dst v) :
  Inv P ops tr M base ρ0 w0 D (wA b j) (j+1) (A.put (yP ops j).dst cv) w' ρ':=by
 obtain⟨u1,u2,R1⟩:=I.plain W hj hw hM
 have hm:wC P ops tr j=false:=by
  cases h:wC P ops tr j with
  | false=>rfl
  | true=>rw[makes_noW h] at hw;cases hw
 have hl:=W.len hj
 have hl2:=W.lens (i:=j+1) ops.size hj (Nat.le_refl _)
 have hl0:=W.lens (i:=0) j (by omega) (by omega)
 have n1:∀ r,r<(tr (j+1)).H.length→hB P ops tr (wA b j) (j+1) r=hf (tr (j+1)).H r:=fun r h=>by simp only[hB,hf];rw[if_pos h]
 have n2:∀ r,(tr (j+1)).H.length≤r→hB P ops tr (wA b j) (j+1) r=hB P ops tr b j r:=by
  intro r h
  rw[hB_with hm]
  simp only[hB]
  rw[if_neg (by omega),if_neg (by omega)]
 have n3:∀ r g,hf (tr (j+1)).H r=some g→r<(tr (j+1)).H.length:=fun r g h=>(List.getElem?_eq_some_iff.1 h).1
 have topB:∀ r g,hB P ops tr (wA b j) (j+1) r=some g→r<M:=by
  intro r g hg
  rcases Nat.lt_or_ge r (tr (j+1)).H.length with q | q
  ·omega
  ·rw[n2 r q] at hg
   exact I.rel.top r g hg
 have keep:∀ r g l,(tr (j+1)).H.length≤r→hB P ops tr b j r=some g→g.live=true→g.own=true→ρ r=some l→w'.heap[l.b]?=w.heap[l.b]?:=by
  intro r g l hr hg hlv how hρ
  refine hG.frame l.b (I.rel.lt r l hρ) ?_
  intro r' g' l' h1 h2 h3 h4 e
  have:=I.rel.inj r' r g' g l' l (u1 _ _ h1) hg h2 hlv h3 how h4 hρ e
  have:=(List.getElem?_eq_some_iff.1 h1).1
  omega
 have own:∀ r g,(tr (j+1)).H.length≤r→hB P ops tr b j r=some g→g.live=true∧g.own=true:=by
  intro r g hr hg
  simp only[hB] at hg
  rw[if_neg (by omega)] at hg
  obtain⟨i,q1,q2,q3,q4,q5⟩:=uZ hg
  obtain⟨cs,mk,_,_,hH⟩:=W.make q1 q3
  rw[hH,←q4] at q5
  simp at q5
  subst q5
  exact⟨rfl,rfl⟩
 have RB:Rel M ρ' base (hB P ops tr (wA b j) (j+1)) w':=by
  refine⟨hR.bs,hR.lt,?_,topB,?_,?_⟩
  ·intro r l hr
   rcases Nat.lt_or_ge r (tr (j+1)).H.length with q | q
   ·rcases hR.dom r l hr with ⟨g,hg⟩ | k
    ·exact .inl ⟨g,by rw[n1 r q];exact hg⟩
    ·omega
   ·rw[hG.res r q] at hr
    rcases I.rel.dom r l hr with ⟨g,hg⟩ | k
    ·exact .inl ⟨g,by rw[n2 r q];exact hg⟩
    ·exact .inr k
  ·intro r g l hg hlv hr
   rcases Nat.lt_or_ge r (tr (j+1)).H.length with q | q
   ·rw[n1 r q] at hg
    exact hR.reg r g l hg hlv hr
   ·rw[n2 r q] at hg
    rw[hG.res r q] at hr
    exact(I.rel.reg r g l hg hlv hr).mono hG.ext (keep r g l q hg hlv (own r g q hg).2 hr)
  ·have mixed:∀ r1 r2 g1 g2 l1 l2,r1<(tr (j+1)).H.length→(tr (j+1)).H.length≤r2→hf (tr (j+1)).H r1=some g1→hB P ops tr b j r2=some g2→g1.live=true→g1.own=true→ρ' r1=some l1→ρ r2=some l2→l1.b≠l2.b:=by
    intro r1 r2 g1 g2 l1 l2 q1 q2 h1 h2 c1 c2 d1 d2 e
    obtain⟨o1,o2⟩:=own r2 g2 q2 h2
    cases hρ:ρ r1 with
    | none =>
     rcases hG.prov r1 l1 d1 hρ with k | ⟨r0,g0,l0,p1,p2,p3,p4,p5⟩
     ·have:=I.rel.lt r2 l2 d2
      omega
     ·have:=I.rel.inj r0 r2 g0 g2 l0 l2 (u1 _ _ p1) h2 p2 o1 p3 o2 p4 d2 (p5.trans e)
      have:=(List.getElem?_eq_some_iff.1 p1).1
      omega
    | some l =>
     have:=hG.ext r1 l hρ
     rw[d1] at this
     injection this with this
     subst this
     rcases R1.dom r1 _ hρ with ⟨g,hg⟩ | k
     ·obtain⟨z1,z2⟩:=hG.back r1 g g1 hg h1 c1
      have:=I.rel.inj r1 r2 g g2 _ l2 (u1 _ _ hg) h2 z1 o1 (z2▸c2) o2 hρ d2 e
      omega
     ·omega
   intro r1 r2 g1 g2 l1 l2 a1 a2 b1 b2 c1 c2 d1 d2 e
   rcases Nat.lt_or_ge r1 (tr (j+1)).H.length with q1 | q1
   ·rw[n1 r1 q1] at a1
    rcases Nat.lt_or_ge r2 (tr (j+1)).H.length with q2 | q2
    ·rw[n1 r2 q2] at a2
     exact hR.inj r1 r2 g1 g2 l1 l2 a1 a2 b1 b2 c1 c2 d1 d2 e
    ·rw[n2 r2 q2] at a2
     rw[hG.res r2 q2] at d2
     exact absurd e (mixed r1 r2 g1 g2 l1 l2 q1 q2 a1 a2 b1 c1 d1 d2)
   ·rw[n2 r1 q1] at a1
    rw[hG.res r1 q1] at d1
    rcases Nat.lt_or_ge r2 (tr (j+1)).H.length with q2 | q2
    ·rw[n1 r2 q2] at a2
     exact absurd e.symm (mixed r2 r1 g2 g1 l2 l1 q2 q1 a2 a1 b2 c2 d2 d1)
    ·rw[n2 r2 q2] at a2
     rw[hG.res r2 q2] at d2
     exact I.rel.inj r1 r2 g1 g2 l1 l2 a1 a2 b1 b2 c1 c2 d1 d2 e
 have GB:Grow M (tr 0).H.length ρ (hB P ops tr b j) w ρ' (hB P ops tr (wA b j) (j+1)) w':=by
  refine⟨hG.os,hG.tape,hG.output,hG.size,?_,hG.ext,?_,?_,?_,?_,fun r hr=>hG.res r (by omega),?_,?_⟩
  ·intro k hk hn
   exact hG.frame k hk fun r g l h1=>hn r g l (u1 _ _ h1)
  ·intro r g hr hg hn
   have hr2:r<(tr j).H.length:=by omega
   have hg2:hf (tr j).H r=some g:=by simp only[hB,if_pos hr2] at hg;exact hg
   obtain⟨z1,z2⟩:=hG.unt r g hr2 hg2 hn
   exact⟨z1,by rw[n1 r (by omega),z2,hg,hg2]⟩
  ·intro r l a c
   rcases hG.prov r l a c with k | ⟨r0,g0,l0,p1,p2⟩
   ·exact .inl k
   ·exact .inr ⟨r0,g0,l0,u1 _ _ p1,p2⟩
  ·intro r g g' h1 h2 h3
   rcases Nat.lt_or_ge r (tr (j+1)).H.length with q | q
   ·rw[n1 r q] at h2
    rcases u2 r g h1 with z | z
    ·exact hG.back r g g' z h2 h3
    ·omega
   ·rw[n2 r q,h1] at h2
    injection h2 with h2
    subst h2
    exact⟨h3,rfl⟩
  ·intro r g h1
   rcases Nat.lt_or_ge r (tr (j+1)).H.length with q | q
   ·rcases u2 r g h1 with z | z
    ·obtain⟨g',hg'⟩:=hG.per r g z
     exact⟨g',by rw[n1 r q];exact hg'⟩
    ·omega
   ·exact⟨g,by rw[n2 r q];exact h1⟩
  ·intro r g h1 hd
   rcases Nat.lt_or_ge r (tr (j+1)).H.length with q | q
   ·rcases u2 r g h1 with z | z
    ·obtain⟨z1,z2⟩:=hG.ded r g z hd
     exact⟨by rw[n1 r q];exact z1,z2⟩
    ·omega
   ·exact⟨by rw[n2 r q];exact h1,hG.res r q⟩
  ·intro r g' l s cs hg hd ho hn hρ he
   rcases Nat.lt_or_ge r (tr (j+1)).H.length with q | q
   ·rw[n1 r q] at hg
    rcases hG.die r g' l s cs hg hd ho (fun g k=>hn g (u1 r g k)) hρ he with z | ⟨z1,z2⟩
    ·exact .inl z
    ·refine .inr ⟨fun c gc lc hc hlv how hρc eb=>?_,z2⟩
     rcases Nat.lt_or_ge c (tr (j+1)).H.length with p | p
     ·rw[n1 c p] at hc
      exact z1 c gc lc hc hlv how hρc eb
     ·rw[n2 c p] at hc
      rw[hG.res c p] at hρc
      cases hρr:ρ r with
      | none =>
       rcases hG.prov r l hρ hρr with k | ⟨r0,g0,l0,p1,p2,p3,p4,p5⟩
       ·have:=I.rel.lt c lc hρc
        omega
       ·have:=I.rel.inj r0 c g0 gc l0 lc (u1 _ _ p1) hc p2 hlv p3 how p4 hρc (p5.trans eb.symm)
        have:=(List.getElem?_eq_some_iff.1 p1).1
        omega
      | some l0 =>
       have:=hG.ext r l0 hρr
       rw[hρ] at this
       cases this
       rcases R1.dom r _ hρr with ⟨g,hg0⟩ | k
       ·have hlg:=hn g (u1 _ _ hg0)
        cases hog:g.own with
        | true =>
         have:=I.rel.inj r c g gc _ lc (u1 _ _ hg0) hc hlg hlv hog how hρr hρc eb.symm
         omega
        | false =>
         obtain⟨_,_,_,_,_,_,_,_,m2⟩:=I.rel.reg r g _ (u1 _ _ hg0) hlg hρr
         obtain⟨_,_,_,_,_,_,_,m1,_⟩:=I.rel.reg c gc lc hc hlv hρc
         have t1:=(m1 how).2.1
         have t2:=m2 hog
         omega
       ·omega
   ·rw[n2 r q] at hg
    have:=hn g' hg
    rw[hd] at this
    cases this
 refine⟨hj,tmp_add W hj I.tmp hT hv hG.ext hts,by rw[wB,I.df],?_,RB,?_,Grow.trans R0 I.rel.top I.rel.dom RB.top I.gr GB⟩
 ·intro i hi hwi
  by_cases hij:i=j
  ·subst hij;simp[wA]
  ·rw[vQ hij,I.wr i hi hwi]
   omega
 ·intro i hi hmi hb
  obtain⟨q1,q2⟩:=vE hb
  obtain⟨z1,z2⟩:=I.un i (by omega) hmi q2
  obtain⟨cs,mk,_,_,hH⟩:=W.make (i:=i) (by omega) hmi
  have hlt:=W.lens (i:=i+1) j (by omega) (by omega)
  rw[hH,List.length_append,List.length_singleton] at hlt
  have hs:hf (tr j).H (tr i).H.length=some {cs:=cs}:=by
   show (tr j).H[(tr i).H.length]?=_
   rw[z2,hH]
   simp
  obtain⟨y1,y2⟩:=hG.unt (tr i).H.length _ (by omega) hs z1
  exact⟨y1,(show (tr (j+1)).H[(tr i).H.length]?=(tr j).H[(tr i).H.length]? from y2).trans z2⟩
theorem Inv.made (W:Way P C ops tr){w':World}{c:Array Value}{e:TypeId}{fz:Nat×Nat}{cs:List AV}(I:Inv P ops tr M base ρ0 w0 D b m A w ρ)(R0:Rel M ρ0 base (hf (tr 0).H) w0)(hj:j<ops.size)(hb:b j=false)(hm:wC P ops tr j=true)(hM:(tr ops.size).H.length≤M)
  (hH:(tr (j+1)).H=(tr j).H++[{cs:=cs}]) (hmd:Made w w' c e fz) (hl:cs.length≤c.size) (hc:LR ρ cs (c.toList.take cs.length)) (hz:∀ i,i<c.size→¬(fz.1≤i∧i<fz.2))
  (hT:∀ t,(yP ops j).dst=some t→∀ i,i<ops.size→i≠j→(yP ops i).dst=some t→(b i=true↔i<j)) (hv:∀ ρ':Ren,ρ' (tr j).H.length=some ⟨w.heap.size,0,c.size⟩→VR ρ' v cv) (hts:(tr (j+1)).ts=jH (tr j).ts (yP ops j).dst v) :
  ∃ ρ',Inv P ops tr M base ρ0 w0 D (wA b j) m (A.put (yP ops j).dst cv) w' ρ':=by
 have hl2:=W.lens (i:=j+1) ops.size hj (Nat.le_refl _)
 rw[hH,List.length_append,List.length_singleton] at hl2
 have hcs:(tr (j+1)).H[(tr j).H.length]?=some {cs:=cs}:=by rw[hH];simp
 have hw:=makes_noW hm
 have hρ:ρ (tr j).H.length=none∧(hB P ops tr b m (tr j).H.length=none∨hB P ops tr b m (tr j).H.length=some {cs:=cs}):=by
  rcases Nat.lt_or_ge j m with q | q
  ·obtain⟨z1,z2⟩:=I.un j q hm hb
   refine⟨z1,.inr ?_⟩
   have:=W.lens (i:=j+1) m q I.ml
   rw[hH,List.length_append,List.length_singleton] at this
   simp only[hB]
   rw[if_pos (by omega),z2,hcs]
  ·have:=W.lens (i:=m) j q (by omega)
   have hn:hB P ops tr b m (tr j).H.length=none:=by
    simp only[hB]
    rw[if_neg (by omega),W.early_no hj hb hm]
   refine⟨?_,.inl hn⟩
   cases hρ:ρ (tr j).H.length with
   | none=>rfl
   | some l =>
    rcases I.rel.dom _ l hρ with ⟨g,hg⟩ | k
    ·rw[hn] at hg;cases hg
    ·omega
 have hl0:=W.lens (i:=0) j (by omega) (by omega)
 obtain⟨R1,G1⟩:=rel_made (N:=(tr 0).H.length) I.rel hmd hρ.1 hρ.2 (by omega) (by omega) hl hc hz
 have eB:(fun r=>if r=(tr j).H.length then some ({cs:=cs}:Reg) else hB P ops tr b m r)=hB P ops tr (wA b j) m:=by
  funext r
  simp only[hB,W.early_with1 hj hm]
  by_cases hr:r=(tr j).H.length
  ·subst hr
   rw[if_pos rfl,if_pos rfl]
   split
   ·rename_i hlt
    rcases Nat.lt_or_ge j m with q | q
    ·rw[(I.un j q hm hb).2,hcs]
    ·have:=W.lens (i:=m) j q (by omega)
     omega
   ·exact hcs.symm
  ·rw[if_neg hr,if_neg hr]
 rw[eB] at R1 G1
 refine⟨_,I.ml,tmp_add W hj I.tmp hT (hv _ (by simp)) G1.ext hts,by rw[wB,I.df],?_,R1,?_,Grow.trans R0 I.rel.top I.rel.dom R1.top I.gr G1⟩
 ·intro i hi hwi
  rw[vQ (by rintro rfl;rw[hw] at hwi;cases hwi)]
  exact I.wr i hi hwi
 ·intro i hi hmi hbi
  obtain⟨q1,q2⟩:=vE hbi
  obtain⟨z1,z2⟩:=I.un i hi hmi q2
  refine⟨?_,z2⟩
  have hne:(tr i).H.length≠(tr j).H.length:=fun e=>q1 (W.one (by have:=I.ml;omega) hj hmi hm e)
  simp only[if_neg hne]
  exact z1
end
section
variable {P : Program} {ops : Array Oper} {tr : Nat → St} {M base : Nat} {ρ0 ρ : Ren} {w0 w : World} {D : List Deferred} {b : Nat → Bool} {m j : Nat} {A : Act} {v : AV} {cv : Value} {Q : Exit → Act → World → Prop}
theorem ev_of {TS ts:List AV}{A:Act}(h:LR ρ TS A.tmps.toList){o:Oper}(hl:∀ t,t∈kS ops o→TS[t]?=ts[t]?):EV ρ ts A o:=by
 intro x hx
 have:=VR.eval h x
 cases x with
 | tmp t =>
  have hm:t∈kS ops o:=by
   simp only[kS,List.mem_append,List.mem_filterMap]
   exact .inl (.inl ⟨.tmp t,hx,rfl⟩)
  simp only[ev] at this ⊢
  rw[List.getD_eq_getElem?_getD] at this ⊢
  rw[←hl t hm]
  exact this
 | _=>exact this
theorem yielded_of {TS ts:List AV}{A:Act}(h:LR ρ TS A.tmps.toList){o:Oper}(hl:∀ t,t∈kS ops o→TS[t]?=ts[t]?):Region.wanted o (yielded ops A.tmps)=Region.wanted o (wE ops ts):=by
 unfold Region.wanted
 split
 ·rfl
 ·rename_i g want hg
  have:yielded ops A.tmps g=wE ops ts g:=by
   unfold yielded wE
   cases hd:(ops[g]?).bind (·.dst) with
   | none=>rfl
   | some t =>
    have hm:t∈kS ops o:=by
     simp only[kS,hg,hd,Option.toList,List.mem_append]
     exact .inl (.inr (by simp))
    simp only[Option.bind_some]
    rw[←hl t hm]
    cases hA:A.tmps[t]? with
    | none =>
     have:TS[t]?=none:=by
      rw[List.getElem?_eq_none_iff,h.1]
      simpa using hA
     rw[this]
    | some u =>
     obtain⟨a,ha,hr⟩:=h.get' (i:=t) (v:=u) (by rw[Array.getElem?_toList];exact hA)
     rw[ha]
     cases hr with
     | sc u=>cases u<;>rfl
     | _=>rfl
  rw[this]
theorem one_step (W:Way P (Sound P) ops tr)(I:Inv P ops tr M base ρ0 w0 D b m A w ρ)(R0:Rel M ρ0 base (hf (tr 0).H) w0)(hM:(tr ops.size).H.length≤M)(hj:j<ops.size)(hb:b j=false)
  (hL:∀ t,t∈kS ops (yP ops j)→∀ i,i<ops.size→i≠j→(yP ops i).dst=some t→(b i=true↔i<j))
  (hW:isW P (yP ops j)=true→∀ i,i<ops.size→i≠j→isW P (yP ops i)=true→(b i=true↔i<j))
  (hRd:isR P (yP ops j)=true→exe ops tr j=true→calm P ops j m=true∨xH P (tr j).ts (yP ops j).op (tr m).H=xH P (tr j).ts (yP ops j).op (tr j).H)
  {K:Act→World→Prop} (hK:∀ A' w' ρ',Inv P ops tr M base ρ0 w0 D (wA b j) (if isW P (yP ops j)=true then j+1 else m) A' w' ρ'→K A' w'):wpOp P ops Q j K A w:=by
 obtain⟨TS,t1,t2,t3⟩:=I.tmp
 have look:∀ t,t∈kS ops (yP ops j)→TS[t]?=(tr j).ts[t]?:=by
  intro t ht
  refine t3 t j (by omega) fun i hi hd=>?_
  by_cases hij:i=j
  ·subst hij;simp[hb]
  ·exact hL t ht i hi hij hd
 have hT:∀ t,(yP ops j).dst=some t→∀ i,i<ops.size→i≠j→(yP ops i).dst=some t→(b i=true↔i<j):=fun t ht=>hL t (dst_looks ht)
 have hE:EV ρ (tr j).ts A (yP ops j):=ev_of t1 look
 have hy:Region.wanted (yP ops j) (yielded ops A.tmps)=exe ops tr j:=yielded_of t1 look
 have atJ:isW P (yP ops j)=true→Inv P ops tr M base ρ0 w0 D b j A w ρ:=by
  intro hw
  have hmj:m≤j:=by
   rcases Nat.lt_or_ge j m with q | q
   ·have:=(I.wr j hj hw).2 q
    rw[hb] at this;cases this
   ·exact q
  refine I.shift W hM hmj (by omega) fun k k1 k2=>?_
  cases hk:isW P (yP ops k) with
  | false=>rfl
  | true =>
   have:=(hW hw k (by omega) (by omega) hk).2 k2
   have:=(I.wr k (by omega) hk).1 this
   omega
 unfold wpOp
 rw[opAt_some hj]
 simp only[hy]
 cases hx:exe ops tr j with
 | false =>
  simp only[Bool.false_eq_true,if_false]
  have hs:=W.skip hj hx
  have hm:wC P ops tr j=false:=by simp[wC,hx]
  cases hw:isW P (yP ops j) with
  | false =>
   simp only[hw,Bool.false_eq_true,if_false] at hK
   exact hK _ _ ρ (I.calm W hj hw hm hT (.sc undef) (by rw[hs];rfl))
  | true =>
   simp only[hw,if_true] at hK
   exact hK _ _ ρ ((atJ hw).skipW W hj hw (by rw[hs];rfl) hT (.sc undef) (by rw[hs];rfl))
 | true =>
  simp only[if_true]
  refine .inl ?_
  have hrun:=W.run hj hx
  unfold Eff at hrun
  unfold Oper.wp
  split at hrun
  ·rename_i hc
   have hw:isW P (yP ops j)=false:=by simp[isW,hc]
   have hm:wC P ops tr j=false:=by simp[wC,isA,hc]
   simp only[hw,Bool.false_eq_true,if_false] at hK
   obtain⟨v,hv,hs⟩:=hrun
   obtain⟨cv,k1,k2⟩:=pure_f hE hv w
   rw[k1,Oper.upon_value]
   exact hK _ _ ρ (I.calm W hj hw hm hT k2 (by rw[hs];rfl))
  ·rename_i hc
   have hw:isW P (yP ops j)=false:=by simp[isW,hc]
   have hm:wC P ops tr j=false:=by simp[wC,isA,hc]
   simp only[hw,Bool.false_eq_true,if_false] at hK
   obtain⟨v,hv,hs⟩:=hrun
   rcases hRd (by simp[isR,hc]) hx with hcalm | hsame
   ·simp only[calm,Bool.and_eq_true,decide_eq_true_eq,List.all_eq_true,List.mem_range,Bool.or_eq_true,Bool.not_eq_true'] at hcalm
    have I':=I.shift W hM hcalm.1 (by omega) fun k k1 k2=>by
     rcases hcalm.2 k (by omega) with (h | h) | h
     ·exact h
     ·omega
     ·omega
    have hH:∀ r l g,ρ r=some l→(tr j).H[r]?=some g→hB P ops tr b j r=some g:=by
     intro r l g _ hg
     have:=(List.getElem?_eq_some_iff.1 hg).1
     simp only[hB]
     rw[if_pos this]
     exact hg
    obtain⟨cv,k1,k2⟩:=read_f I'.rel hH hE hv
    rw[k1,Oper.upon_value]
    exact hK _ _ ρ (I.calm W hj hw hm hT k2 (by rw[hs];rfl))
   rw[←hsame] at hv
   have hH:∀ r l g,ρ r=some l→(tr m).H[r]?=some g→hB P ops tr b m r=some g:=by
    intro r l g _ hg
    have:=(List.getElem?_eq_some_iff.1 hg).1
    simp only[hB]
    rw[if_pos this]
    exact hg
   obtain⟨cv,k1,k2⟩:=read_f I.rel hH hE hv
   rw[k1,Oper.upon_value]
   exact hK _ _ ρ (I.calm W hj hw hm hT k2 (by rw[hs];rfl))
  ·rename_i hc
   have hw:isW P (yP ops j)=false:=by simp[isW,hc]
   have hm:wC P ops tr j=true:=by simp[wC,isA,hc,hx]
   simp only[hw,Bool.false_eq_true,if_false] at hK
   obtain⟨cs,mk,hv,_,hs⟩:=hrun
   obtain⟨cv,w',c,e,fz,k1,k2,k3,k4,k5,k6⟩:=alloc_f hE hv w
   rw[k1,Oper.upon_value]
   obtain⟨ρ',I'⟩:=I.made W (cv:=cv) R0 hj hb hm hM (by rw[hs]) k2 k3 k4 k5 hT (fun ρ' h=>k6 ρ' _ h) (by rw[hs])
   exact hK _ _ ρ' I'
  ·rename_i hc
   have hw:isW P (yP ops j)=true:=by simp[isW,hc]
   simp only[hw,if_true] at hK
   have IJ:=atJ hw
   obtain⟨u1,u2,R1⟩:=IJ.plain W hj hw hM
   split at hrun
   ·rename_i g as hcal
    obtain⟨v,H',hs,e⟩:=hrun
    obtain⟨⟨fn,c,f1,f2,f3⟩,_,hcalls⟩:=hs
    obtain⟨cargs,r1,r2⟩:=run_call hE hcal f1 f2 f3 w
    rw[r1,Oper.upon_enter]
    have eH:(tr (j+1)).H=H':=by rw[e]
    refine(hcalls (tr (j+1)).H.length ρ base w cargs (by rw[eH];exact Nat.le_refl _) R1 r2).mono ?_
    rintro en w' ⟨cv,ρ',rfl,hv,hR,hG⟩
    exact hK _ _ ρ' (IJ.wrote W (cv:=cv) R0 hj hw hM (by rw[←eH] at hR;exact hR) (by rw[←eH] at hG;exact hG) hT hv (by rw[e]))
   ·obtain⟨v,H',hs,e⟩:=hrun
    have eH:(tr (j+1)).H=H':=by rw[e]
    obtain⟨nx,w',ρ',cv,r1,r2,r3,r4,r5⟩:=write_f (M:=(tr (j+1)).H.length) R1 (by rw[eH];exact Nat.le_refl _) hE hs
    have I':=IJ.wrote W (cv:=cv) R0 hj hw hM (by rw[←eH] at r4;exact r4) (by rw[←eH] at r5;exact r5) hT r3 (by rw[e])
    rw[r1]
    rcases r2 with rfl | ⟨rfl,rfl⟩
    ·rw[Oper.upon_value];exact hK _ _ ρ' I'
    ·rw[Oper.upon_skip];exact hK _ _ ρ' I'
theorem Inv.start (W:Way P (Sound P) ops tr)(R0:Rel M ρ0 base (hf (tr 0).H) w0)(hA:LR ρ0 (tr 0).ts A.tmps.toList):Inv P ops tr M base ρ0 w0 A.defers (fun _=>false) 0 A w0 ρ0:=by
 have e:hB P ops tr (fun _=>false) 0=hf (tr 0).H:=by
  funext r
  simp only[hB,hf]
  split
  ·rfl
  ·rename_i hr
   have:∀ k,uS P ops tr (fun _=>false) k r=none:=by
    intro k
    induction k with
    | zero=>rfl
    | succ k ih=>simp[uS,ih]
   rw[this,List.getElem?_eq_none (by omega)]
 refine⟨by omega,⟨(tr 0).ts,hA,rfl,?_⟩,rfl,fun i _ _=>by simp,by rw[e];exact R0,fun i h=>by omega,by rw[e];exact Grow.refl _ _ _ _ _⟩
 intro t j hj hc
 refine(W.same (t:=t) (i:=0) j (by omega) hj fun k _ k2 hd=>?_).symm
 have:=(hc k (by omega) hd).2 k2
 cases this
theorem Inv.finish (W:Way P (Sound P) ops tr)(hM:(tr ops.size).H.length≤M)(I:Inv P ops tr M base ρ0 w0 D b m A w ρ)(hall:∀ i,i<ops.size→b i=true) :
  LR ρ (tr ops.size).ts A.tmps.toList∧A.defers=D∧Rel M ρ base (hf (tr ops.size).H) w∧Grow M (tr 0).H.length ρ0 (hf (tr 0).H) w0 ρ (hf (tr ops.size).H) w:=by
 have I2:Inv P ops tr M base ρ0 w0 D b ops.size A w ρ:=by
  refine I.shift W hM I.ml (Nat.le_refl _) fun k k1 k2=>?_
  cases hk:isW P (yP ops k) with
  | false=>rfl
  | true=>have:=(I.wr k k2 hk).1 (hall k k2);omega
 have e:hB P ops tr b ops.size=hf (tr ops.size).H:=by
  funext r
  simp only[hB,hf]
  split
  ·rfl
  ·rename_i hr
   rw[List.getElem?_eq_none (by omega)]
   cases h:uS P ops tr b ops.size r with
   | none=>rfl
   | some g =>
    obtain⟨i,q1,q2,q3,q4,q5⟩:=uZ h
    obtain⟨cs,mk,_,_,hH⟩:=W.make q1 q3
    have:=W.lens (i:=i+1) ops.size (by omega) (Nat.le_refl _)
    rw[hH] at this
    simp at this
    omega
 obtain⟨TS,t1,t2,t3⟩:=I2.tmp
 have:TS=(tr ops.size).ts:=by
  apply List.ext_getElem?
  intro t
  exact t3 t ops.size (Nat.le_refl _) fun i hi _=>by simp[hall i hi,hi]
 have r1:=I2.rel
 have r2:=I2.gr
 rw[e] at r1 r2
 exact⟨this▸t1,I2.df,r1,r2⟩
theorem wpOps_way (W:Way P (Sound P) ops tr)(R0:Rel M ρ0 base (hf (tr 0).H) w0)(hM:(tr ops.size).H.length≤M)
  (hQ:∀ A' w' ρ',LR ρ' (tr ops.size).ts A'.tmps.toList→A'.defers=D→Rel M ρ' base (hf (tr ops.size).H) w'→Grow M (tr 0).H.length ρ0 (hf (tr 0).H) w0 ρ' (hf (tr ops.size).H) w'→Q .normal A' w') :
  ∀ (l:List Nat)(j:Nat)(A:Act)(w:World)(ρ:Ren)(b:Nat→Bool)(m:Nat),List.range ops.size=List.range j++l→j≤ops.size→m≤j→(∀ i,i<ops.size→(b i=true↔i<j))→Inv P ops tr M base ρ0 w0 D b m A w ρ→wpOps P ops Q l A w:=by
 intro l
 induction l with
 | nil =>
  intro j A w ρ b m hl hj hm hb I
  have:j=ops.size:=by
   have:=congrArg List.length hl
   simp at this
   omega
  subst this
  obtain⟨h1,h2,h3,h4⟩:=I.finish W hM fun i hi=>(hb i hi).2 hi
  exact hQ _ _ _ h1 h2 h3 h4
 | cons i l ih =>
  intro j A w ρ b m hl hj hm hb I
  have hlen:ops.size=j+(l.length+1):=by
   have:=congrArg List.length hl
   simpa using this
  have hij:i=j:=by
   have:=congrArg (fun x=>x[j]?) hl
   rw[List.getElem?_range (by omega),List.getElem?_append_right (by simp)] at this
   simpa using this.symm
  subst hij
  have hi:i<ops.size:=by omega
  have I2:Inv P ops tr M base ρ0 w0 D b i A w ρ:=by
   refine I.shift W hM hm (by omega) fun k k1 k2=>?_
   cases hk:isW P (yP ops k) with
   | false=>rfl
   | true =>
    have:=(hb k (by omega)).2 k2
    have:=(I.wr k (by omega) hk).1 this
    omega
  rw[wpOps_cons]
  refine one_step W I2 R0 hM hi ?_ ?_ ?_ (fun _ _=>.inr rfl) ?_
  ·cases h:b i with
   | false=>rfl
   | true=>have:=(hb i hi).1 h;omega
  ·intro t _ k hk _ _
   exact hb k hk
  ·intro _ k hk _ _
   exact hb k hk
  ·intro A' w' ρ' I'
   refine ih (i+1) A' w' ρ' _ _ ?_ (by omega) (by split<;>omega) ?_ I'
   ·rw[hl,List.range_succ,List.append_assoc];rfl
   ·intro k hk
    by_cases hki:k=i
    ·subst hki;simp[wA]
    ·rw[vQ hki,hb k hk];omega
end
theorem cnt_lt (p q:Nat→Bool):∀ l:List Nat,(∀ x∈l,p x=true→q x=true)→(∃ x∈l,q x=true∧p x=false)→l.countP p<l.countP q
 | [],_,h=>by obtain⟨x,hx,_⟩:=h;cases hx
 | a :: l,h1,h2=>by
  have hle:l.countP p≤l.countP q:=List.countP_mono_left fun x hx h=>h1 x (List.mem_cons_of_mem _ hx) h
  rw[List.countP_cons,List.countP_cons]
  obtain⟨x,hx,k1,k2⟩:=h2
  rcases List.mem_cons.1 hx with rfl | hx
  ·simp[k1,k2];omega
  ·have:=cnt_lt p q l (fun x hx h=>h1 x (List.mem_cons_of_mem _ hx) h) ⟨x,hx,k1,k2⟩
   have:=h1 a (by simp)
   cases hp:p a<;>cases hq:q a<;>simp_all<;>omega
section
variable {P : Program} {ops : Array Oper} {tr : Nat → St} {M base : Nat} {ρ0 : Ren} {w0 : World} {D : List Deferred} {Q : Exit → Act → World → Prop}
def bb (l:Array Bool):Nat→Bool:=fun i=>l.getD i false
theorem bb_set {l:Array Bool}{i:Nat}(h:i<l.size):bb (l.setIfInBounds i true)=wA (bb l) i:=by
 funext k
 simp only[bb,wA,Array.getD_eq_getD_getElem?,Array.getElem?_setIfInBounds]
 by_cases e:k=i
 ·subst e;simp[h]
 ·simp[e,Ne.symm e]
theorem ready_iff {l:Array Bool}{i:Nat}(hl:l.size=ops.size):i∈Region.ready .any ops l↔i<ops.size∧bb l i=false∧∀ e∈(yP ops i).after.toList,Region.binds .any e=true→bb l e.on=true:=by
 unfold Region.ready
 rw[List.mem_filter,List.mem_range]
 by_cases hi:i<ops.size
 ·have h1:l.getD i true=bb l i:=by simp[bb,Array.getD_eq_getD_getElem?,hl,hi]
  rw[opAt_some hi,h1]
  simp only[Option.map_some,Option.getD_some,Bool.and_eq_true,Bool.not_eq_true',hi,true_and]
  rw[←Array.all_toList,List.all_eq_true]
  constructor
  ·rintro⟨a,b⟩
   refine⟨a,fun e he hb=>?_⟩
   have:=b e he
   simpa [hb,bb] using this
  ·rintro⟨a,b⟩
   refine⟨a,fun e he=>?_⟩
   cases hb:Region.binds .any e with
   | false=>rfl
   | true=>have:=b e he hb;simpa [bb] using this
 ·simp[hi]
theorem wpAny_way (W:Way P (Sound P) ops tr)(R0:Rel M ρ0 base (hf (tr 0).H) w0)(hM:(tr ops.size).H.length≤M)(hd:drawOk P ops=true)(hr:ReadsOk P ops tr)
  (hQ:∀ A' w' ρ',LR ρ' (tr ops.size).ts A'.tmps.toList→A'.defers=D→Rel M ρ' base (hf (tr ops.size).H) w'→Grow M (tr 0).H.length ρ0 (hf (tr 0).H) w0 ρ' (hf (tr ops.size).H) w'→Q .normal A' w') :
  ∀ (fuel:Nat)(l:Array Bool)(A:Act)(w:World)(ρ:Ren)(m:Nat),l.size=ops.size→(List.range ops.size).countP (fun i=>!bb l i)≤fuel→(∀ j,j<ops.size→bb l j=true→∀ i,vZ ops i j=true→bb l i=true)→(m=0∨isW P (yP ops (m - 1))=true) →
   Inv P ops tr M base ρ0 w0 D (bb l) m A w ρ→wpAny P .any ops Q fuel l A w:=by
 intro fuel
 induction fuel with
 | zero =>
  intro l A w ρ m hl hc _ _ I
  have hall:∀ i,i<ops.size→bb l i=true:=by
   intro i hi
   have h0:(List.range ops.size).countP (fun i=>!bb l i)=0:=by omega
   have:=(List.countP_eq_zero.1 h0) i (List.mem_range.2 hi)
   simpa using this
  refine⟨?_,?_⟩
  ·rw[List.eq_nil_iff_forall_not_mem]
   intro i hi
   obtain⟨a,b,_⟩:=(ready_iff hl).1 hi
   rw[hall i a] at b
   cases b
  ·obtain⟨h1,h2,h3,h4⟩:=I.finish W hM hall
   exact hQ _ _ _ h1 h2 h3 h4
 | succ fuel ih =>
  intro l A w ρ m hl hc hcl hmm I
  refine⟨?_,?_⟩
  ·intro hnil
   have hall:∀ i,i<ops.size→bb l i=true:=by
    intro i
    induction i using Nat.strongRecOn with
    | _ i ihi =>
     intro hi
     cases hb:bb l i with
     | true=>rfl
     | false =>
      have:i∈Region.ready .any ops l:=(ready_iff hl).2 ⟨hi,hb,fun e he hbd=>by
       have:=drawOk_edge hd hi e he hbd
       exact ihi e.on this (by omega)⟩
      rw[hnil] at this
      cases this
   obtain⟨h1,h2,h3,h4⟩:=I.finish W hM hall
   exact hQ _ _ _ h1 h2 h3 h4
  ·intro j hjr
   obtain⟨hj,hb,hed⟩:=(ready_iff hl).1 hjr
   have hbef:∀ i,vZ ops i j=true→bb l i=true:=by
    intro i hi
    obtain⟨e,he,hbd,h⟩:=befAt_inv hj (drawOk_edge hd hj) hi
    have h1:=hed e he hbd
    rcases h with h | h
    ·rw[←h];exact h1
    ·exact hcl e.on (by have:=drawOk_edge hd hj e he hbd;omega) h1 i h
   have hno:∀ i,i<ops.size→vZ ops j i=true→bb l i=false:=by
    intro i hi h
    cases hbi:bb l i with
    | false=>rfl
    | true=>rw[hcl i hi hbi j h] at hb;cases hb
   refine one_step W I R0 hM hj hb ?_ ?_ ?_ ?_
   ·intro t ht i hi hij hdi
    rcases Nat.lt_or_ge i j with q | q
    ·rcases vI hd hj q with k | ⟨_,k,_⟩
     ·simp[hbef i k,q]
     ·exact absurd ht (k t hdi)
    ·have q2:j<i:=by omega
     rcases vI hd hi q2 with k | ⟨_,_,k⟩
     ·simp[hno i hi k];omega
     ·exact absurd ht (k t hdi)
   ·intro hw i hi hij hwi
    rcases Nat.lt_or_ge i j with q | q
    ·rcases vI hd hj q with k | ⟨k,_⟩
     ·simp[hbef i k,q]
     ·exact absurd ⟨hwi,hw⟩ k
    ·have q2:j<i:=by omega
     rcases vI hd hi q2 with k | ⟨k,_⟩
     ·simp[hno i hi k];omega
     ·exact absurd ⟨hw,hwi⟩ k
   ·intro hrd hx
    refine hr j hj hrd hx m I.ml ?_ ?_
    ·rcases hmm with h | h
     ·simp[moment,h]
     ·simp[moment,h]
    ·unfold mayAt
     rw[List.all_eq_true]
     intro i hi
     have hi:=List.mem_range.1 hi
     cases hwi:isW P (yP ops i) with
     | false=>rfl
     | true =>
      simp only[Bool.not_true,Bool.false_or]
      split
      ·rename_i him
       have h1:=(I.wr i hi hwi).2 him
       cases hbf:vZ ops j i with
       | false=>rfl
       | true=>rw[hno i hi hbf] at h1;cases h1
      ·rename_i him
       cases hbf:vZ ops i j with
       | false=>rfl
       | true=>exact absurd ((I.wr i hi hwi).1 (hbef i hbf)) him
   ·intro A' w' ρ' I'
    rw[←bb_set (by omega)] at I'
    refine ih _ A' w' ρ' _ (by simpa using hl) ?_ ?_ ?_ I'
    ·rw[bb_set (by omega)]
     have:=cnt_lt (fun i=>!wA (bb l) j i) (fun i=>!bb l i) (List.range ops.size) (fun x _ h=>by
      simp only[wA] at h
      split at h
      ·cases h
      ·exact h) ⟨j,List.mem_range.2 hj,by simp[hb],by simp[wA]⟩
     omega
    ·rw[bb_set (by omega)]
     intro k hk hbk i hbi
     by_cases hkj:k=j
     ·subst hkj
      have:=hbef i hbi
      unfold wA
      split
      ·rfl
      ·exact this
     ·rw[vQ hkj] at hbk
      have:=hcl k hk hbk i hbi
      unfold wA
      split
      ·rfl
      ·exact this
    ·split
     ·rename_i hw;exact .inr (by simpa using hw)
     ·exact hmm
end
theorem OpsR.trace {P:Program}{C:kK}{ops:Array Oper}{i:Nat}{s s':St}(k:OpsR P C ops i s s'):i≤ops.size→∃ tr:Nat→St,tr i=s∧tr ops.size=s'∧∀ j,i≤j→j<ops.size→OpStep P C ops j (tr j) (tr (j+1)):=by
 induction k with
 | @done i s h =>
  intro _
  subst h
  exact⟨fun _=>s,rfl,rfl,fun j h1 h2=>by omega⟩
 | @step i s s1 s2 a r ih =>
  intro hi
  have hlt:i<ops.size:=by
   unfold OpStep at a
   split at a
   ·exact a.elim
   ·rename_i o ho
    rcases Nat.lt_or_ge i ops.size with q | q
    ·exact q
    ·rw[Array.getElem?_eq_none (by omega)] at ho;cases ho
  obtain⟨tr,h1,h2,h3⟩:=ih (by omega)
  refine⟨fun j=>if j=i then s else tr j,by simp,by simp only;rw[if_neg (by omega)];exact h2,?_⟩
  intro j k1 k2
  by_cases e:j=i
  ·subst e
   simp only[if_true]
   rw[if_neg (by omega),h1]
   exact a
  ·simp only[if_neg e]
   rw[if_neg (by omega)]
   exact h3 j (by omega) k2
def Exk.to:Exk→Exit
 | .normal=>.normal
 | .exit id=>.exit id
 | .ret=>.ret
theorem Grow.from {M N:Nat}{ρ ρ':Ren}{h h':Nat→Option Reg}{w w1 w':World}(k:Grow M N ρ h w1 ρ' h' w')(h1:w1.heap=w.heap)(h2:w1.os=w.os)(h3:w1.tape=w.tape)(h4:w1.output=w.output):Grow M N ρ h w ρ' h' w':=
 ⟨k.os.trans h2,k.tape.trans h3,k.output.trans h4,h1▸k.size,fun b hb hn=>by rw[k.frame b (by rw[h1];exact hb) hn,h1],k.ext,k.unt,fun r l a c=>h1▸k.prov r l a c,k.back,k.per,k.res,k.ded,k.die⟩
def Does (P:Program)(wpc:(Exit→Act→World→Prop)→Act→World→Prop)(s:St)(e:Exk)(s':St):Prop:=
 ∀ (M:Nat)(ρ:Ren)(base:Nat)(A:Act)(w:World)(Q:Exit→Act→World→Prop),s'.H.length≤M→Rel M ρ base (hf s.H) w→LR ρ s.ts A.tmps.toList →
  (∀ A' w' ρ',LR ρ' s'.ts A'.tmps.toList→A'.defers=A.defers→Rel M ρ' base (hf s'.H) w'→Grow M s.H.length ρ (hf s.H) w ρ' (hf s'.H) w'→Q e.to A' w')→wpc Q A w
theorem Sound.ln {P:Program}:∀ f args H v H',Sound P f args H v H'→H.length≤H'.length:=fun _ _ _ _ _ h=>h.2.1
theorem Does.seq {P:Program}{wa wb:(Exit→Act→World→Prop)→Act→World→Prop}{s s1 s2:St}{e:Exk}(h1:Does P wa s .normal s1)(h2:Does P wb s1 e s2)(l1:s.H.length≤s1.H.length)(l2:s1.H.length≤s2.H.length) :
  Does P (fun Q A w=>wa (Exit.then (wb Q) Q) A w) s e s2:=by
 intro M ρ base A w Q hM hR hA hQ
 refine h1 M ρ base A w _ (by omega) hR hA ?_
 intro A1 w1 ρ1 a1 d1 r1 g1
 refine h2 M ρ1 base A1 w1 Q hM r1 a1 ?_
 intro A2 w2 ρ2 a2 d2 r2 g2
 exact hQ A2 w2 ρ2 a2 (d2.trans d1) r2 (Grow.trans hR r1.top r1.dom r2.top g1 (g2.less (Nat.le_refl _) l1))
theorem Does.seqx {P:Program}{wa:(Exit→Act→World→Prop)→Act→World→Prop}{K:(Exit→Act→World→Prop)→Act→World→Prop}{s s1:St}{e:Exk}(h1:Does P wa s e s1)(he:e≠.normal) :
  Does P (fun Q A w=>wa (Exit.then (K Q) Q) A w) s e s1:=by
 intro M ρ base A w Q hM hR hA hQ
 refine h1 M ρ base A w _ hM hR hA ?_
 intro A1 w1 ρ1 a1 d1 r1 g1
 have:=hQ A1 w1 ρ1 a1 d1 r1 g1
 cases e with
 | normal=>exact absurd rfl he
 | exit id=>exact this
 | ret=>exact this
theorem Ex.does {P:Program}{c:Code}{s s':St}{e:Exk}(k:Ex P (Sound P) c s e s'):Does P (c.wp P) s e s'∧∀ c',c=.loop c'→∃ n,Does P (fun Q A w=>Code.rounds P c' Q n A w) s e s':=by
 induction k with
 | skip=>exact⟨fun M ρ base A w Q hM hR hA hQ=>wp_skip (hQ _ _ ρ hA rfl hR (Grow.refl _ _ _ _ _)),fun c' h=>by cases h⟩
 | @region id ops s s' a =>
  refine⟨?_,fun c' h=>by cases h⟩
  obtain⟨tr,rfl,rfl,ht⟩:=a.trace (by omega)
  intro M ρ base A w Q hM hR hA hQ
  have W:Way P (Sound P) ops tr:=⟨fun i hi=>ht i (by omega) hi,Sound.ln⟩
  refine wp_region (wpOps_way W hR hM hQ (List.range ops.size) 0 A w ρ (fun _=>false) 0 (by simp) (by omega) (by omega) (fun i _=>by simp) (Inv.start W hR hA))
 | @draw id ops tr m d a rd =>
  refine⟨?_,fun c' h=>by cases h⟩
  intro M ρ base A w Q hM hR hA hQ
  have W:Way P (Sound P) ops tr:=⟨a,Sound.ln⟩
  have hR':Rel M ρ base (hf (tr 0).H) { w with drawn:=w.drawn+1 }:=hR.heap rfl
  refine wp_region_any m (wpAny_way W hR' hM d rd (fun A' w' ρ' h1 h2 h3 h4=>hQ A' w' ρ' h1 h2 h3 (h4.from rfl rfl rfl rfl)) ops.size _ A _ ρ 0 (by simp) ?_ ?_ (.inl rfl) ?_)
  ·exact Nat.le_trans List.countP_le_length (by simp)
  ·intro j hj h
   simp[bb,hj] at h
  ·have e:bb (Array.replicate ops.size false)=fun _=>false:=by
    funext i
    simp only[bb,Array.getD_eq_getD_getElem?,Array.getElem?_replicate]
    split<;>rfl
   rw[e]
   exact Inv.start W hR' hA
 | seq x y ix iy=>exact⟨fun M ρ base A w Q hM hR hA hQ=>wp_seq (Does.seq ix.1 iy.1 (x.len Sound.ln) (y.len Sound.ln) M ρ base A w Q hM hR hA hQ),fun c' h=>by cases h⟩
 | seqx x n ix=>exact⟨fun M ρ base A w Q hM hR hA hQ=>wp_seq (Does.seqx (K:=fun Q=>_) ix.1 n M ρ base A w Q hM hR hA hQ),fun c' h=>by cases h⟩
 | @cond c a b t s s1 e hc x ix =>
  refine⟨fun M ρ base A w Q hM hR hA hQ=>wp_cond (t:=t) ?_ (ix.1 M ρ base A w Q hM hR hA hQ),fun c' h=>by cases h⟩
  have:=VR.eval hA c
  rw[hc] at this
  exact this.sc_inv
 | @block id c s s1 e x n ix =>
  refine⟨fun M ρ base A w Q hM hR hA hQ=>wp_block (ix.1 M ρ base A w _ hM hR hA ?_),fun c' h=>by cases h⟩
  intro A' w' ρ' h1 h2 h3 h4
  have:=hQ A' w' ρ' h1 h2 h3 h4
  cases e with
  | normal=>exact this
  | exit id' =>
   simp only[Exk.to,Exit.inBlock] at this ⊢
   rw[if_neg (by rintro rfl;exact n rfl)]
   exact this
  | ret=>exact this
 | @blockx id c s s1 x ix =>
  refine⟨fun M ρ base A w Q hM hR hA hQ=>wp_block (ix.1 M ρ base A w _ hM hR hA ?_),fun c' h=>by cases h⟩
  intro A' w' ρ' h1 h2 h3 h4
  have:=hQ A' w' ρ' h1 h2 h3 h4
  simp only[Exk.to,Exit.inBlock,if_true] at this ⊢
  exact this
 | @loop c s s1 s2 e x y ix iy =>
  obtain⟨n,hn⟩:=iy.2 c rfl
  have hd:=Does.seq ix.1 hn (x.len Sound.ln) (y.len Sound.ln)
  refine⟨fun M ρ base A w Q hM hR hA hQ=>wp_loop_rounds (n+1) (hd M ρ base A w Q hM hR hA hQ),fun c' h=>?_⟩
  injection h with h
  subst h
  exact⟨n+1,hd⟩
 | @loopx c s s1 e x n ix =>
  have hd:=Does.seqx (K:=fun Q=>Code.rounds P c Q 0) ix.1 n
  refine⟨fun M ρ base A w Q hM hR hA hQ=>wp_loop_rounds 1 (hd M ρ base A w Q hM hR hA hQ),fun c' h=>?_⟩
  injection h with h
  subst h
  exact⟨1,hd⟩
 | exit=>exact⟨fun M ρ base A w Q hM hR hA hQ=>wp_exit (hQ _ _ ρ hA rfl hR (Grow.refl _ _ _ _ _)),fun c' h=>by cases h⟩
 | ret=>exact⟨fun M ρ base A w Q hM hR hA hQ=>wp_ret (hQ _ _ ρ hA rfl hR (Grow.refl _ _ _ _ _)),fun c' h=>by cases h⟩
theorem loadVar_sound {P:Program}{ρ:Ren}{M base:Nat}{H:qE}{w:World}{ts:List AV}{A:Act}{a:Tmp}{t:TypeId}{v:AV}(hR:Rel M ρ base (hf H) w)(ht:LR ρ ts A.tmps.toList)(hv:xH P ts (.load t (.tmp a)) H=some v) :
  ∃ cv,(do loadVar t (←asAddr (A.tmps.getD a undef)):Sem Value).run P w=.ok cv w∧VR ρ v cv:=by
 simp only[xH] at hv
 split at hv
 ·rename_i r off hx
  obtain⟨l,hl,e⟩:=ptr_ev ht hx
  have e:A.tmps.getD a undef=.pointer (some ⟨l.b,l.o+off,none⟩):=e
  rw[e]
  split at hv
  ·rename_i hty
   by_cases hb:kB P t=true
   ·rw[if_pos hb] at hv
    simp only[Option.map_eq_some_iff] at hv
    obtain⟨cs,hc,rfl⟩:=hv
    obtain⟨g,hg,hlive,hn,rfl⟩:=uP hc
    obtain⟨us,h1,h2⟩:=kP (P:=P) (hR.reg r g l hg hlive hl) hn
    refine⟨.agg us,?_,.agg (by have:=h2.1;rwa [Array.length_toList] at this) h2.2⟩
    simp[asAddr,loadVar,vS hty,hb,xQ hty,h1]
   ·rw[if_neg hb] at hv
    split at hv
    ·rename_i v' hc
     injection hv with hv
     subst hv
     obtain⟨g,hg,hlive,hn,he⟩:=uP hc
     obtain⟨u,a,ha,h1,h2⟩:=load1_run (P:=P) (hR.reg r g l hg hlive hl) hn
     have:v'=a:=by
      have h3:[v'][0]?=((g.cs.drop off).take 1)[0]?:=by rw[he]
      rw[List.getElem?_take,if_pos (by omega),List.getElem?_drop,Nat.add_zero,ha] at h3
      simpa using h3
     subst this
     refine⟨u,?_,h2⟩
     simp only[asAddr,loadVar,Sem.run_bind,Sem.run_pure,Result.andThen_ok,vS hty,if_neg hb,h1]
    ·cases hv
  ·cases hv
 ·cases hv
theorem run_results {P:Program}{ρ:Ren}{s:St}{A:Act}{M base:Nat}{g:ResultVar→Sem Value}(hg:∀ t,g (.tmp t)=pure (A.tmps.getD t undef))(hgc:∀ a t,g (.cell a t)=(do loadVar t (←asAddr (A.tmps.getD a undef))))(h:LR ρ s.ts A.tmps.toList)(w:World)(hR:Rel M ρ base (hf s.H) w):∀ (l:List ResultVar)(vs:List AV),uX P s l=some vs →
  ∃ us:List Value,(l.mapM g).run P w=.ok us w∧LR ρ vs us
 | [],vs,hv=>by
  simp only[uX,Option.some.injEq] at hv
  subst hv
  exact⟨[],by simp,LR.nil⟩
 | x :: l,vs,hv=>by
  simp only[uX] at hv
  split at hv
  ·rename_i v vs' h1 h2
   injection hv with hv
   subst hv
   obtain⟨us,k1,k2⟩:=run_results hg hgc h w hR l vs' h2
   cases x with
   | tmp t =>
    simp only[uK,Option.some.injEq] at h1
    subst h1
    have:=VR.eval h (.tmp t)
    refine⟨A.tmps.getD t undef :: us,?_,LR.cons this k2⟩
    simp only[List.mapM_cons,Sem.run_bind,Sem.run_pure,Result.andThen_ok,k1,hg]
   | cell a t =>
    obtain⟨cv,q1,q2⟩:=loadVar_sound hR h h1
    refine⟨cv :: us,?_,LR.cons q2 k2⟩
    have q0:(g (.cell a t)).run P w=.ok cv w:=by rw[hgc];exact q1
    simp only[List.mapM_cons,Sem.run_bind,q0,Result.andThen_ok,Sem.run_pure,k1]
  ·cases hv
theorem results_gen (fn:Func)(tmps:Array Value):∃ g:ResultVar→Sem Value,(∀ t,g (.tmp t)=pure (tmps.getD t undef))∧(∀ a t,g (.cell a t)=(do loadVar t (←asAddr (tmps.getD a undef))))∧results fn tmps=(do
  let vs ←fn.results.mapM g
  pure (if h:vs.size=1 then vs[0] else .tuple vs)):=⟨_,fun _=>rfl,fun _ _=>rfl,rfl⟩
theorem results_run {P:Program}{ρ:Ren}{s:St}{A:Act}{M base:Nat}{fn:Func}{vs:List AV}(h:LR ρ s.ts A.tmps.toList)(w:World)(hR:Rel M ρ base (hf s.H) w)(hv:uX P s fn.results.toList=some vs):∃ cv,(results fn A.tmps).run P w=.ok cv w∧VR ρ (packA vs) cv:=by
 obtain⟨g,hg,hgc,e⟩:=results_gen fn A.tmps
 obtain⟨us,k1,k2⟩:=run_results hg hgc h w hR _ _ hv
 have hr:(results fn A.tmps).run P w=.ok (if h:us.toArray.size=1 then us.toArray[0] else .tuple us.toArray) w:=by
  rw[e,Array.mapM_eq_mapM_toList]
  simp[k1]
 refine⟨_,hr,?_⟩
 match us,vs,k2 with
 | [],[],_=>exact .tup (by simp) (by intro i a v h;simp at h)
 | [u],[v],k2=>exact k2.2 0 v u rfl rfl
 | u :: u2 :: us,v :: v2 :: vs,k2 =>
  have:¬ (u :: u2 :: us).toArray.size=1:=by simp
  rw[dif_neg this]
  exact .tup (by simpa using k2.1) (by simpa using k2.2)
 | [],_ :: _,k2=>exact absurd k2.1 (by simp)
 | _ :: _,[],k2=>exact absurd k2.1 (by simp)
 | [_],_ :: _ :: _,k2=>exact absurd k2.1 (by simp)
 | _ :: _ :: _,[_],k2=>exact absurd k2.1 (by simp)
theorem Body.sound {P:Program}{f:FuncId}{args:List AV}{H:qE}{v:AV}{H':qE}(k:Body P (Sound P) f args H v H'):Sound P f args H v H':=by
 obtain⟨fn,c,e,s',vs,h1,h2,h3,h4,h5,h6,h7,rfl,rfl⟩:=k
 refine⟨⟨fn,c,h1,h2,h3⟩,h5.len Sound.ln,?_⟩
 intro M ρ base w cargs hM hR hA
 have hsz:cargs.size=args.length:=by have:=hA.1;simpa using this.symm
 refine calls_of_wp h1 h2 (h5.does.1 M ρ base _ w _ hM hR ?_ ?_)
 ·have:LR ρ (List.replicate (fn.ntmps - args.length) und) (Array.replicate (fn.ntmps - cargs.size) undef).toList:=by
   rw[Array.toList_replicate,hsz]
   have:=LR.scs (ρ:=ρ) (List.replicate (fn.ntmps - args.length) undef)
   rw[List.map_replicate] at this
   exact this
  have:=hA.append this
  simpa using this
 ·intro A' w' ρ' a1 d1 r1 g1
  have hres:=results_run (P:=P) a1 w' r1 h7
  obtain⟨cv,hc1,hc2⟩:=hres
  rcases h6 with rfl | rfl
  ·exact⟨d1,cv,hc1,cv,ρ',rfl,hc2,r1,g1⟩
  ·exact⟨d1,cv,hc1,cv,ρ',rfl,hc2,r1,g1⟩
end Go.Proofs.YtjdajobflgkebaaGreatDoor.Sim
