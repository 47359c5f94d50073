/- Texts of this proof, put together and made small by a program: part 4. -/
import Derived.Test.YtjdajobflgkebaaGreatDoorK3
import Derived.Test.YtjdajobflgkebaaGreatDoorProg
import Derived.Shelf.Strconv.Itoa0
import Derived.Shelf.Strconv.Itoa1
import Derived.Shelf.LaysM
import Derived.Shelf.Strconv.Itoa2
import Derived.Shelf.Strconv.Itoa3
import Derived.Test.YtjdajobflgkebaaGreatDoorChecked
import Derived.ChangeSlices
import Derived.ChangeShapes
import Derived.WideShapes
import Derived.ChangeArms
import Derived.ChangeOld
import Derived.ChangeStays
set_option linter.all false
set_option maxRecDepth 100000
set_option maxHeartbeats 40000000
namespace Go.Proofs.YtjdajobflgkebaaGreatDoor.Sim
open Go
theorem qR:xE Tryz.prog 3=true:=by kernel_rfl
theorem agg3:kB Tryz.prog 3=false:=by kernel_rfl
theorem qO:Tryz.prog.cellsOf 3=1:=by kernel_rfl
theorem zero3:xC Tryz.prog 3=some [.sc (.int .i64 0)]:=by kernel_rfl
theorem info3:(Tryz.prog.info? 3).map (·.bytes)=some 8:=by kernel_rfl
theorem bs3_0:vC Tryz.prog (some (.slice 3)) 0 []=some (ints .i64 [],fun r=>.sl r 0 0 1):=jD .i64 3 0 [] zero3 qR qO (by decide) (by simp)
theorem bs3_1 (a0:Int):vC Tryz.prog (some (.slice 3)) 1 [(0,.sc (.int .i64 a0))]=some (ints .i64 [a0],fun r=>.sl r 0 1 1):=jD .i64 3 1 [(0,a0)] zero3 qR qO (by decide) (by simp)
theorem bs3_2 (a0 a1:Int):vC Tryz.prog (some (.slice 3)) 2 [(0,.sc (.int .i64 a0)),(1,.sc (.int .i64 a1))]=some (ints .i64 [a0,a1],fun r=>.sl r 0 2 1):=jD .i64 3 2 [(0,a0),(1,a1)] zero3 qR qO (by decide) (by simp)
theorem bs3_3 (a0 a1 a2:Int):vC Tryz.prog (some (.slice 3)) 3 [(0,.sc (.int .i64 a0)),(1,.sc (.int .i64 a1)),(2,.sc (.int .i64 a2))]=some (ints .i64 [a0,a1,a2],fun r=>.sl r 0 3 1):=jD .i64 3 3 [(0,a0),(1,a1),(2,a2)] zero3 qR qO (by decide) (by simp)
theorem bs3_4 (a0 a1 a2 a3:Int):vC Tryz.prog (some (.slice 3)) 4 [(0,.sc (.int .i64 a0)),(1,.sc (.int .i64 a1)),(2,.sc (.int .i64 a2)),(3,.sc (.int .i64 a3))]=some (ints .i64 [a0,a1,a2,a3],fun r=>.sl r 0 4 1):=jD .i64 3 4 [(0,a0),(1,a1),(2,a2),(3,a3)] zero3 qR qO (by decide) (by simp)
theorem bs3_5 (a0 a1 a2 a3 a4:Int):vC Tryz.prog (some (.slice 3)) 5 [(0,.sc (.int .i64 a0)),(1,.sc (.int .i64 a1)),(2,.sc (.int .i64 a2)),(3,.sc (.int .i64 a3)),(4,.sc (.int .i64 a4))]=some (ints .i64 [a0,a1,a2,a3,a4],fun r=>.sl r 0 5 1):=jD .i64 3 5 [(0,a0),(1,a1),(2,a2),(3,a3),(4,a4)] zero3 qR qO (by decide) (by simp)
theorem bs3_6 (a0 a1 a2 a3 a4 a5:Int):vC Tryz.prog (some (.slice 3)) 6 [(0,.sc (.int .i64 a0)),(1,.sc (.int .i64 a1)),(2,.sc (.int .i64 a2)),(3,.sc (.int .i64 a3)),(4,.sc (.int .i64 a4)),(5,.sc (.int .i64 a5))]=some (ints .i64 [a0,a1,a2,a3,a4,a5],fun r=>.sl r 0 6 1):=jD .i64 3 6 [(0,a0),(1,a1),(2,a2),(3,a3),(4,a4),(5,a5)] zero3 qR qO (by decide) (by simp)
theorem bs3_7 (a0 a1 a2 a3 a4 a5 a6:Int):vC Tryz.prog (some (.slice 3)) 7 [(0,.sc (.int .i64 a0)),(1,.sc (.int .i64 a1)),(2,.sc (.int .i64 a2)),(3,.sc (.int .i64 a3)),(4,.sc (.int .i64 a4)),(5,.sc (.int .i64 a5)),(6,.sc (.int .i64 a6))]=some (ints .i64 [a0,a1,a2,a3,a4,a5,a6],fun r=>.sl r 0 7 1):=jD .i64 3 7 [(0,a0),(1,a1),(2,a2),(3,a3),(4,a4),(5,a5),(6,a6)] zero3 qR qO (by decide) (by simp)
theorem tyOk4:xE Tryz.prog 4=true:=by kernel_rfl
theorem agg4:kB Tryz.prog 4=false:=by kernel_rfl
theorem jJ:Tryz.prog.cellsOf 4=1:=by kernel_rfl
theorem zero4:xC Tryz.prog 4=some [.sc (.bool false)]:=by kernel_rfl
theorem info4:(Tryz.prog.info? 4).map (·.bytes)=some 1:=by kernel_rfl
theorem bs4_0:vC Tryz.prog (some (.slice 4)) 0 []=some (kU [],fun r=>.sl r 0 0 1):=by simp[vC,zero4,tyOk4,jJ,yR,qW,AV.cells,kU,kW]
theorem tyOk5:xE Tryz.prog 5=true:=by kernel_rfl
theorem agg5:kB Tryz.prog 5=false:=by kernel_rfl
theorem cells5:Tryz.prog.cellsOf 5=1:=by kernel_rfl
theorem isU5:isU8 Tryz.prog 5=true:=by kernel_rfl
theorem zero5:xC Tryz.prog 5=some [.sc (.int .u8 0)]:=by kernel_rfl
theorem info5:(Tryz.prog.info? 5).map (·.bytes)=some 1:=by kernel_rfl
theorem bs5_0:vC Tryz.prog (some (.slice 5)) 0 []=some (ints .u8 [],fun r=>.sl r 0 0 1):=jD .u8 5 0 [] zero5 tyOk5 cells5 (by decide) (by simp)
theorem bs5_1 (a0:Int):vC Tryz.prog (some (.slice 5)) 1 [(0,.sc (.int .u8 a0))]=some (ints .u8 [a0],fun r=>.sl r 0 1 1):=jD .u8 5 1 [(0,a0)] zero5 tyOk5 cells5 (by decide) (by simp)
theorem jQ:xE Tryz.prog 9=true:=by kernel_rfl
theorem agg9:kB Tryz.prog 9=false:=by kernel_rfl
theorem uN:Tryz.prog.cellsOf 9=1:=by kernel_rfl
theorem zero9:xC Tryz.prog 9=some [.sc (.string ByteArray.empty)]:=by kernel_rfl
theorem bs9_5 (a0 a1 a2 a3 a4:ByteArray):vC Tryz.prog (some (.slice 9)) 5 [(0,.sc (.string a0)),(1,.sc (.string a1)),(2,.sc (.string a2)),(3,.sc (.string a3)),(4,.sc (.string a4))]=some (strs [a0,a1,a2,a3,a4],fun r=>.sl r 0 5 1):=by simp[vC,zero9,jQ,uN,yR,qW,AV.cells,strs,kW]
theorem bs9_10 (a0 a1 a2 a3 a4 a5 a6 a7 a8 a9:ByteArray):vC Tryz.prog (some (.slice 9)) 10 [(0,.sc (.string a0)),(1,.sc (.string a1)),(2,.sc (.string a2)),(3,.sc (.string a3)),(4,.sc (.string a4)),(5,.sc (.string a5)),(6,.sc (.string a6)),(7,.sc (.string a7)),(8,.sc (.string a8)),(9,.sc (.string a9))]=some (strs [a0,a1,a2,a3,a4,a5,a6,a7,a8,a9],fun r=>.sl r 0 10 1):=by simp[vC,zero9,jQ,uN,yR,qW,AV.cells,strs,kW]
theorem tyOk22:xE Tryz.prog 22=true:=by kernel_rfl
theorem agg22:kB Tryz.prog 22=false:=by kernel_rfl
theorem cells22:Tryz.prog.cellsOf 22=1:=by kernel_rfl
theorem tyOk24:xE Tryz.prog 24=true:=by kernel_rfl
theorem agg24:kB Tryz.prog 24=false:=by kernel_rfl
theorem cells24:Tryz.prog.cellsOf 24=1:=by kernel_rfl
theorem tyOk26:xE Tryz.prog 26=true:=by kernel_rfl
theorem agg26:kB Tryz.prog 26=true:=by kernel_rfl
theorem cells26:Tryz.prog.cellsOf 26=1:=by kernel_rfl
theorem zero26:xC Tryz.prog 26=some [.sc (.slice none 0 0)]:=by kernel_rfl
theorem tyOk27:xE Tryz.prog 27=true:=by kernel_rfl
theorem agg27:kB Tryz.prog 27=false:=by kernel_rfl
theorem cells27:Tryz.prog.cellsOf 27=1:=by kernel_rfl
theorem tyOk28:xE Tryz.prog 28=true:=by kernel_rfl
theorem agg28:kB Tryz.prog 28=false:=by kernel_rfl
theorem cells28:Tryz.prog.cellsOf 28=1:=by kernel_rfl
theorem tyOk29:xE Tryz.prog 29=true:=by kernel_rfl
theorem agg29:kB Tryz.prog 29=false:=by kernel_rfl
theorem cells29:Tryz.prog.cellsOf 29=1:=by kernel_rfl
theorem tyOk30:xE Tryz.prog 30=true:=by kernel_rfl
theorem agg30:kB Tryz.prog 30=false:=by kernel_rfl
theorem cells30:Tryz.prog.cellsOf 30=1:=by kernel_rfl
theorem tyOk31:xE Tryz.prog 31=true:=by kernel_rfl
theorem agg31:kB Tryz.prog 31=false:=by kernel_rfl
theorem cells31:Tryz.prog.cellsOf 31=1:=by kernel_rfl
theorem tyOk32:xE Tryz.prog 32=true:=by kernel_rfl
theorem agg32:kB Tryz.prog 32=false:=by kernel_rfl
theorem cells32:Tryz.prog.cellsOf 32=1:=by kernel_rfl
theorem tyOk34:xE Tryz.prog 34=true:=by kernel_rfl
theorem agg34:kB Tryz.prog 34=true:=by kernel_rfl
theorem cells34:Tryz.prog.cellsOf 34=7:=by kernel_rfl
theorem zero34:xC Tryz.prog 34=some [.sc (.int .i64 0),.sc (.int .i64 0),.sc (.slice none 0 0),.sc (.slice none 0 0),.sc (.slice none 0 0),.sc (.slice none 0 0),.sc (.int .i64 0)]:=by kernel_rfl
theorem tyOk35:xE Tryz.prog 35=true:=by kernel_rfl
theorem agg35:kB Tryz.prog 35=false:=by kernel_rfl
theorem cells35:Tryz.prog.cellsOf 35=1:=by kernel_rfl
theorem tyOk36:xE Tryz.prog 36=true:=by kernel_rfl
theorem agg36:kB Tryz.prog 36=false:=by kernel_rfl
theorem cells36:Tryz.prog.cellsOf 36=1:=by kernel_rfl
theorem tyOk38:xE Tryz.prog 38=true:=by kernel_rfl
theorem agg38:kB Tryz.prog 38=true:=by kernel_rfl
theorem cells38:Tryz.prog.cellsOf 38=20:=by kernel_rfl
theorem zero38:xC Tryz.prog 38=some [.sc (.slice none 0 0),.sc (.slice none 0 0),.sc (.slice none 0 0),.sc (.int .i64 0),.sc (.int .i64 0),.sc (.slice none 0 0),.sc (.slice none 0 0),.sc (.slice none 0 0),.sc (.slice none 0 0),.sc (.int .i64 0),.sc (.slice none 0 0),.sc (.int .i64 0),.sc (.int .i64 0),.sc (.slice none 0 0),.sc (.slice none 0 0),.sc (.slice none 0 0),.sc (.slice none 0 0),.sc (.slice none 0 0),.sc (.slice none 0 0),.sc (.slice none 0 0)]:=by kernel_rfl
theorem tyOk44:xE Tryz.prog 44=true:=by kernel_rfl
theorem agg44:kB Tryz.prog 44=true:=by kernel_rfl
theorem cells44:Tryz.prog.cellsOf 44=2:=by kernel_rfl
theorem zero44:xC Tryz.prog 44=some [.sc (.int .i64 0),.sc (.int .i64 0)]:=by kernel_rfl
theorem tyOk46:xE Tryz.prog 46=true:=by kernel_rfl
theorem agg46:kB Tryz.prog 46=true:=by kernel_rfl
theorem cells46:Tryz.prog.cellsOf 46=9:=by kernel_rfl
theorem zero46:xC Tryz.prog 46=some [.sc (.int .i64 0),.sc (.int .i64 0),.sc (.int .i64 0),.sc (.int .i64 0),.sc (.int .i64 0),.sc (.int .i64 0),.sc (.int .i64 0),.sc (.int .i64 0),.sc (.int .i64 0)]:=by kernel_rfl
theorem tyOk48:xE Tryz.prog 48=true:=by kernel_rfl
theorem agg48:kB Tryz.prog 48=true:=by kernel_rfl
theorem cells48:Tryz.prog.cellsOf 48=23:=by kernel_rfl
theorem zero48:xC Tryz.prog 48=some [.sc (.int .i64 0),.sc (.int .i64 0),.sc (.int .i64 0),.sc (.int .i64 0),.sc (.int .i64 0),.sc (.bool false),.sc (.int .i64 0),.sc (.int .i64 0),.sc (.int .i64 0),.sc (.int .i64 0),.sc (.int .i64 0),.sc (.int .i64 0),.sc (.int .i64 0),.sc (.int .i64 0),.sc (.int .i64 0),.sc (.int .i64 0),.sc (.int .i64 0),.sc (.int .i64 0),.sc (.int .i64 0),.sc (.int .i64 0),.sc (.int .i64 0),.sc (.int .i64 0),.sc (.int .i64 0)]:=by kernel_rfl
theorem info48:(Tryz.prog.info? 48).map (·.bytes)=some 184:=by kernel_rfl
theorem tyOk65:xE Tryz.prog 65=true:=by kernel_rfl
theorem agg65:kB Tryz.prog 65=true:=by kernel_rfl
theorem cells65:Tryz.prog.cellsOf 65=20:=by kernel_rfl
theorem zero65:xC Tryz.prog 65=some [.sc (.int .i64 0),.sc (.int .i64 0),.sc (.int .i64 0),.sc (.int .i64 0),.sc (.int .i64 0),.sc (.int .i64 0),.sc (.int .i64 0),.sc (.int .i64 0),.sc (.int .i64 0),.sc (.int .i64 0),.sc (.int .i64 0),.sc (.int .i64 0),.sc (.int .i64 0),.sc (.int .i64 0),.sc (.int .i64 0),.sc (.int .i64 0),.sc (.int .i64 0),.sc (.int .i64 0),.sc (.int .i64 0),.sc (.int .i64 0)]:=by kernel_rfl
theorem info65:(Tryz.prog.info? 65).map (·.bytes)=some 160:=by kernel_rfl
theorem tyOk67:xE Tryz.prog 67=true:=by kernel_rfl
theorem agg67:kB Tryz.prog 67=true:=by kernel_rfl
theorem cells67:Tryz.prog.cellsOf 67=4:=by kernel_rfl
theorem zero67:xC Tryz.prog 67=some [.sc (.int .i64 0),.sc (.int .i64 0),.sc (.int .i64 0),.sc (.int .i64 0)]:=by kernel_rfl
theorem tyOk69:xE Tryz.prog 69=true:=by kernel_rfl
theorem agg69:kB Tryz.prog 69=true:=by kernel_rfl
theorem cells69:Tryz.prog.cellsOf 69=5:=by kernel_rfl
theorem zero69:xC Tryz.prog 69=some [.sc (.int .i64 0),.sc (.int .i64 0),.sc (.int .i64 0),.sc (.int .i64 0),.sc (.int .i64 0)]:=by kernel_rfl
theorem info69:(Tryz.prog.info? 69).map (·.bytes)=some 40:=by kernel_rfl
theorem tyOk72:xE Tryz.prog 72=true:=by kernel_rfl
theorem agg72:kB Tryz.prog 72=true:=by kernel_rfl
theorem cells72:Tryz.prog.cellsOf 72=7:=by kernel_rfl
theorem jO:xC Tryz.prog 72=some [.sc (.int .i64 0),.sc (.int .i64 0),.sc (.int .i64 0),.sc (.int .i64 0),.sc (.int .i64 0),.sc (.int .i64 0),.sc (.bool false)]:=by kernel_rfl
theorem info72:(Tryz.prog.info? 72).map (·.bytes)=some 56:=by kernel_rfl
theorem zero77:xC Tryz.prog 77=some [.sc (.slice none 0 0),.sc (.int .i64 0),.sc (.int .i64 0)]:=by kernel_rfl
theorem tyOk80:xE Tryz.prog 80=true:=by kernel_rfl
theorem agg80:kB Tryz.prog 80=true:=by kernel_rfl
theorem cells80:Tryz.prog.cellsOf 80=2:=by kernel_rfl
theorem zero80:xC Tryz.prog 80=some [.sc (.int .i64 0),.sc (.int .i64 0)]:=by kernel_rfl
theorem info80:(Tryz.prog.info? 80).map (·.bytes)=some 16:=by kernel_rfl
theorem tyOk85:xE Tryz.prog 85=true:=by kernel_rfl
theorem agg85:kB Tryz.prog 85=true:=by kernel_rfl
theorem cells85:Tryz.prog.cellsOf 85=4:=by kernel_rfl
theorem zero85:xC Tryz.prog 85=some [.sc (.int .i64 0),.sc (.int .i64 0),.sc (.int .i64 0),.sc (.int .i64 0)]:=by kernel_rfl
theorem info85:(Tryz.prog.info? 85).map (·.bytes)=some 32:=by kernel_rfl
theorem tyOk100:xE Tryz.prog 100=true:=by kernel_rfl
theorem agg100:kB Tryz.prog 100=true:=by kernel_rfl
theorem cells100:Tryz.prog.cellsOf 100=4:=by kernel_rfl
theorem kG:xC Tryz.prog 100=some [.sc (.int .i64 0),.sc (.int .i64 0),.sc (.int .i64 0),.sc (.string ByteArray.empty)]:=by kernel_rfl
theorem info100:(Tryz.prog.info? 100).map (·.bytes)=some 40:=by kernel_rfl
theorem tyOk104:xE Tryz.prog 104=true:=by kernel_rfl
theorem agg104:kB Tryz.prog 104=true:=by kernel_rfl
theorem cells104:Tryz.prog.cellsOf 104=3:=by kernel_rfl
theorem zero104:xC Tryz.prog 104=some [.sc (.int .i64 0),.sc (.int .i64 0),.sc (.int .i64 0)]:=by kernel_rfl
theorem info104:(Tryz.prog.info? 104).map (·.bytes)=some 24:=by kernel_rfl
theorem tyOk128:xE Tryz.prog 128=true:=by kernel_rfl
theorem agg128:kB Tryz.prog 128=true:=by kernel_rfl
theorem cells128:Tryz.prog.cellsOf 128=4:=by kernel_rfl
theorem zero128:xC Tryz.prog 128=some [.sc (.int .i64 0),.sc (.int .i64 0),.sc (.int .i64 0),.sc (.int .i64 0)]:=by kernel_rfl
theorem tyOk132:xE Tryz.prog 132=true:=by kernel_rfl
theorem agg132:kB Tryz.prog 132=true:=by kernel_rfl
theorem cells132:Tryz.prog.cellsOf 132=3:=by kernel_rfl
theorem zero132:xC Tryz.prog 132=some [.sc (.int .i64 0),.sc (.int .i64 0),.sc (.int .i64 0)]:=by kernel_rfl
theorem info132:(Tryz.prog.info? 132).map (·.bytes)=some 24:=by kernel_rfl
theorem tyOk185:xE Tryz.prog 185=true:=by kernel_rfl
theorem agg185:kB Tryz.prog 185=true:=by kernel_rfl
theorem cells185:Tryz.prog.cellsOf 185=2:=by kernel_rfl
theorem zero185:xC Tryz.prog 185=some [.sc (.int .i64 0),.sc (.int .i64 0)]:=by kernel_rfl
theorem apS28 (r len:Nat)(x:AV)(H:qE):vK Tryz.prog (some (.slice 3)) (some (.slice 3)) (.sl r 0 len 1) x H=apT 8 H r len H[r]? (qU H x 1):=ap_sl zero3 info3 qO rfl r len x
theorem apS22 (r len:Nat)(x:AV)(H:qE):vK Tryz.prog (some (.slice 5)) (some (.slice 5)) (.sl r 0 len 1) x H=apT 1 H r len H[r]? (qU H x 1):=ap_sl zero5 info5 cells5 rfl r len x
theorem apStr22 (r len:Nat)(x:AV)(H:qE):vK Tryz.prog (some (.slice 5)) (some .string) (.sl r 0 len 1) x H=apT 1 H r len H[r]? (qU H x 1):=ap_sl zero5 info5 cells5 rfl r len x
theorem fadr26_0 (r off:Nat):qZ Tryz.prog 26 (.ptr r off) 0=some (.ptr r (off+0)):=qQ Tryz.underlying26 rfl tyOk24 (by rw[cells24];decide) r off
theorem bds26 (v0:AV)(hv0:v0.cells=[v0]):qT Tryz.prog 26 [(0,v0)]=some (.agg [v0]):=by simp[qT,Tryz.underlying26,zero26,yR,yT,qW,tyOk24,cells24,hv0]
theorem fadr34_0 (r off:Nat):qZ Tryz.prog 34 (.ptr r off) 0=some (.ptr r (off+0)):=qQ Tryz.underlying34 rfl qR (by rw[qO];decide) r off
theorem fadr34_1 (r off:Nat):qZ Tryz.prog 34 (.ptr r off) 1=some (.ptr r (off+1)):=qQ Tryz.underlying34 rfl qR (by rw[qO];decide) r off
theorem fadr34_2 (r off:Nat):qZ Tryz.prog 34 (.ptr r off) 2=some (.ptr r (off+2)):=qQ Tryz.underlying34 rfl tyOk29 (by rw[cells29];decide) r off
theorem fadr34_3 (r off:Nat):qZ Tryz.prog 34 (.ptr r off) 3=some (.ptr r (off+3)):=qQ Tryz.underlying34 rfl tyOk30 (by rw[cells30];decide) r off
theorem fadr34_4 (r off:Nat):qZ Tryz.prog 34 (.ptr r off) 4=some (.ptr r (off+4)):=qQ Tryz.underlying34 rfl tyOk31 (by rw[cells31];decide) r off
theorem fadr34_5 (r off:Nat):qZ Tryz.prog 34 (.ptr r off) 5=some (.ptr r (off+5)):=qQ Tryz.underlying34 rfl tyOk32 (by rw[cells32];decide) r off
theorem fadr34_6 (r off:Nat):qZ Tryz.prog 34 (.ptr r off) 6=some (.ptr r (off+6)):=qQ Tryz.underlying34 rfl qR (by rw[qO];decide) r off
theorem fadr38_0 (r off:Nat):qZ Tryz.prog 38 (.ptr r off) 0=some (.ptr r (off+0)):=qQ Tryz.underlying38 rfl tyOk26 (by rw[cells26];decide) r off
theorem fadr38_1 (r off:Nat):qZ Tryz.prog 38 (.ptr r off) 1=some (.ptr r (off+1)):=qQ Tryz.underlying38 rfl tyOk27 (by rw[cells27];decide) r off
theorem fadr38_2 (r off:Nat):qZ Tryz.prog 38 (.ptr r off) 2=some (.ptr r (off+2)):=qQ Tryz.underlying38 rfl tyOk28 (by rw[cells28];decide) r off
theorem fadr38_3 (r off:Nat):qZ Tryz.prog 38 (.ptr r off) 3=some (.ptr r (off+3)):=qQ Tryz.underlying38 rfl tyOk34 (by rw[cells34];decide) r off
theorem fadr38_4 (r off:Nat):qZ Tryz.prog 38 (.ptr r off) 4=some (.ptr r (off+10)):=qQ Tryz.underlying38 rfl tyOk35 (by rw[cells35];decide) r off
theorem fadr38_5 (r off:Nat):qZ Tryz.prog 38 (.ptr r off) 5=some (.ptr r (off+11)):=qQ Tryz.underlying38 rfl qR (by rw[qO];decide) r off
theorem fadr38_6 (r off:Nat):qZ Tryz.prog 38 (.ptr r off) 6=some (.ptr r (off+12)):=qQ Tryz.underlying38 rfl qR (by rw[qO];decide) r off
theorem fadr38_7 (r off:Nat):qZ Tryz.prog 38 (.ptr r off) 7=some (.ptr r (off+13)):=qQ Tryz.underlying38 rfl tyOk28 (by rw[cells28];decide) r off
theorem fadr38_8 (r off:Nat):qZ Tryz.prog 38 (.ptr r off) 8=some (.ptr r (off+14)):=qQ Tryz.underlying38 rfl tyOk28 (by rw[cells28];decide) r off
theorem fadr38_9 (r off:Nat):qZ Tryz.prog 38 (.ptr r off) 9=some (.ptr r (off+15)):=qQ Tryz.underlying38 rfl tyOk36 (by rw[cells36];decide) r off
theorem fadr38_10 (r off:Nat):qZ Tryz.prog 38 (.ptr r off) 10=some (.ptr r (off+16)):=qQ Tryz.underlying38 rfl tyOk36 (by rw[cells36];decide) r off
theorem fadr38_11 (r off:Nat):qZ Tryz.prog 38 (.ptr r off) 11=some (.ptr r (off+17)):=qQ Tryz.underlying38 rfl tyOk36 (by rw[cells36];decide) r off
theorem fadr38_12 (r off:Nat):qZ Tryz.prog 38 (.ptr r off) 12=some (.ptr r (off+18)):=qQ Tryz.underlying38 rfl tyOk36 (by rw[cells36];decide) r off
theorem fadr38_13 (r off:Nat):qZ Tryz.prog 38 (.ptr r off) 13=some (.ptr r (off+19)):=qQ Tryz.underlying38 rfl tyOk28 (by rw[cells28];decide) r off
theorem fadr44_0 (r off:Nat):qZ Tryz.prog 44 (.ptr r off) 0=some (.ptr r (off+0)):=qQ Tryz.underlying44 rfl qR (by rw[qO];decide) r off
theorem fadr44_1 (r off:Nat):qZ Tryz.prog 44 (.ptr r off) 1=some (.ptr r (off+1)):=qQ Tryz.underlying44 rfl qR (by rw[qO];decide) r off
theorem bds44 (v0 v1:AV)(hv0:v0.cells=[v0])(hv1:v1.cells=[v1]):qT Tryz.prog 44 [(0,v0),(1,v1)]=some (.agg [v0,v1]):=by simp[qT,Tryz.underlying44,zero44,yR,yT,qW,qR,qO,qR,qO,hv0,hv1]
theorem fadr46_0 (r off:Nat):qZ Tryz.prog 46 (.ptr r off) 0=some (.ptr r (off+0)):=qQ Tryz.underlying46 rfl qR (by rw[qO];decide) r off
theorem fadr46_1 (r off:Nat):qZ Tryz.prog 46 (.ptr r off) 1=some (.ptr r (off+1)):=qQ Tryz.underlying46 rfl qR (by rw[qO];decide) r off
theorem fadr46_2 (r off:Nat):qZ Tryz.prog 46 (.ptr r off) 2=some (.ptr r (off+2)):=qQ Tryz.underlying46 rfl qR (by rw[qO];decide) r off
theorem fadr46_3 (r off:Nat):qZ Tryz.prog 46 (.ptr r off) 3=some (.ptr r (off+3)):=qQ Tryz.underlying46 rfl qR (by rw[qO];decide) r off
theorem fadr46_4 (r off:Nat):qZ Tryz.prog 46 (.ptr r off) 4=some (.ptr r (off+4)):=qQ Tryz.underlying46 rfl qR (by rw[qO];decide) r off
theorem fadr46_5 (r off:Nat):qZ Tryz.prog 46 (.ptr r off) 5=some (.ptr r (off+5)):=qQ Tryz.underlying46 rfl tyOk44 (by rw[cells44];decide) r off
theorem fadr46_6 (r off:Nat):qZ Tryz.prog 46 (.ptr r off) 6=some (.ptr r (off+7)):=qQ Tryz.underlying46 rfl tyOk44 (by rw[cells44];decide) r off
theorem apS27 (r len:Nat)(x:AV)(H:qE):vK Tryz.prog (some (.slice 48)) (some (.slice 48)) (.sl r 0 len 23) x H=apR 23 184 H r len H[r]? (qU H x 23):=vO zero48 rfl (by decide) info48 cells48 rfl r len x
theorem apN27 (x:AV)(H:qE):vK Tryz.prog (some (.slice 48)) (some (.slice 48)) (.sc (.slice none 0 0)) x H=apRN 23 184 H (qU H x 23):=vJ zero48 rfl (by decide) info48 cells48 rfl x
theorem bs48_1 (cs:List AV)(h:cs.length=23):vC Tryz.prog (some (.slice 48)) 1 [(0,.agg cs)]=some (cs,fun r=>.sl r 0 1 23):=jK 48 _ cs zero48 tyOk48 cells48 (by decide) (by decide) rfl h
theorem fadr48_0 (r off:Nat):qZ Tryz.prog 48 (.ptr r off) 0=some (.ptr r (off+0)):=qQ Tryz.underlying48 rfl qR (by rw[qO];decide) r off
theorem fadr48_1 (r off:Nat):qZ Tryz.prog 48 (.ptr r off) 1=some (.ptr r (off+1)):=qQ Tryz.underlying48 rfl qR (by rw[qO];decide) r off
theorem fadr48_2 (r off:Nat):qZ Tryz.prog 48 (.ptr r off) 2=some (.ptr r (off+2)):=qQ Tryz.underlying48 rfl qR (by rw[qO];decide) r off
theorem fadr48_3 (r off:Nat):qZ Tryz.prog 48 (.ptr r off) 3=some (.ptr r (off+3)):=qQ Tryz.underlying48 rfl qR (by rw[qO];decide) r off
theorem fadr48_4 (r off:Nat):qZ Tryz.prog 48 (.ptr r off) 4=some (.ptr r (off+4)):=qQ Tryz.underlying48 rfl qR (by rw[qO];decide) r off
theorem fadr48_5 (r off:Nat):qZ Tryz.prog 48 (.ptr r off) 5=some (.ptr r (off+5)):=qQ Tryz.underlying48 rfl tyOk4 (by rw[jJ];decide) r off
theorem fadr48_6 (r off:Nat):qZ Tryz.prog 48 (.ptr r off) 6=some (.ptr r (off+6)):=qQ Tryz.underlying48 rfl qR (by rw[qO];decide) r off
theorem fadr48_7 (r off:Nat):qZ Tryz.prog 48 (.ptr r off) 7=some (.ptr r (off+7)):=qQ Tryz.underlying48 rfl qR (by rw[qO];decide) r off
theorem fadr48_8 (r off:Nat):qZ Tryz.prog 48 (.ptr r off) 8=some (.ptr r (off+8)):=qQ Tryz.underlying48 rfl qR (by rw[qO];decide) r off
theorem fadr48_9 (r off:Nat):qZ Tryz.prog 48 (.ptr r off) 9=some (.ptr r (off+9)):=qQ Tryz.underlying48 rfl qR (by rw[qO];decide) r off
theorem fadr48_10 (r off:Nat):qZ Tryz.prog 48 (.ptr r off) 10=some (.ptr r (off+10)):=qQ Tryz.underlying48 rfl qR (by rw[qO];decide) r off
theorem fadr48_11 (r off:Nat):qZ Tryz.prog 48 (.ptr r off) 11=some (.ptr r (off+11)):=qQ Tryz.underlying48 rfl tyOk46 (by rw[cells46];decide) r off
theorem fadr48_12 (r off:Nat):qZ Tryz.prog 48 (.ptr r off) 12=some (.ptr r (off+20)):=qQ Tryz.underlying48 rfl qR (by rw[qO];decide) r off
theorem fadr48_13 (r off:Nat):qZ Tryz.prog 48 (.ptr r off) 13=some (.ptr r (off+21)):=qQ Tryz.underlying48 rfl qR (by rw[qO];decide) r off
theorem fadr48_14 (r off:Nat):qZ Tryz.prog 48 (.ptr r off) 14=some (.ptr r (off+22)):=qQ Tryz.underlying48 rfl qR (by rw[qO];decide) r off
theorem apS29 (r len:Nat)(x:AV)(H:qE):vK Tryz.prog (some (.slice 65)) (some (.slice 65)) (.sl r 0 len 20) x H=apR 20 160 H r len H[r]? (qU H x 20):=vO zero65 rfl (by decide) info65 cells65 rfl r len x
theorem apN29 (x:AV)(H:qE):vK Tryz.prog (some (.slice 65)) (some (.slice 65)) (.sc (.slice none 0 0)) x H=apRN 20 160 H (qU H x 20):=vJ zero65 rfl (by decide) info65 cells65 rfl x
theorem bs65_1 (cs:List AV)(h:cs.length=20):vC Tryz.prog (some (.slice 65)) 1 [(0,.agg cs)]=some (cs,fun r=>.sl r 0 1 20):=jK 65 _ cs zero65 tyOk65 cells65 (by decide) (by decide) rfl h
theorem bs65_0:vC Tryz.prog (some (.slice 65)) 0 []=some ([],fun r=>.sl r 0 0 20):=jN 65 _ zero65 tyOk65 cells65 (by decide) rfl
theorem fadr65_0 (r off:Nat):qZ Tryz.prog 65 (.ptr r off) 0=some (.ptr r (off+0)):=qQ Tryz.underlying65 rfl qR (by rw[qO];decide) r off
theorem fadr65_1 (r off:Nat):qZ Tryz.prog 65 (.ptr r off) 1=some (.ptr r (off+1)):=qQ Tryz.underlying65 rfl qR (by rw[qO];decide) r off
theorem fadr65_2 (r off:Nat):qZ Tryz.prog 65 (.ptr r off) 2=some (.ptr r (off+2)):=qQ Tryz.underlying65 rfl qR (by rw[qO];decide) r off
theorem fadr65_3 (r off:Nat):qZ Tryz.prog 65 (.ptr r off) 3=some (.ptr r (off+3)):=qQ Tryz.underlying65 rfl qR (by rw[qO];decide) r off
theorem fadr65_4 (r off:Nat):qZ Tryz.prog 65 (.ptr r off) 4=some (.ptr r (off+4)):=qQ Tryz.underlying65 rfl qR (by rw[qO];decide) r off
theorem fadr65_5 (r off:Nat):qZ Tryz.prog 65 (.ptr r off) 5=some (.ptr r (off+5)):=qQ Tryz.underlying65 rfl qR (by rw[qO];decide) r off
theorem fadr65_6 (r off:Nat):qZ Tryz.prog 65 (.ptr r off) 6=some (.ptr r (off+6)):=qQ Tryz.underlying65 rfl qR (by rw[qO];decide) r off
theorem fadr65_7 (r off:Nat):qZ Tryz.prog 65 (.ptr r off) 7=some (.ptr r (off+7)):=qQ Tryz.underlying65 rfl qR (by rw[qO];decide) r off
theorem fadr65_8 (r off:Nat):qZ Tryz.prog 65 (.ptr r off) 8=some (.ptr r (off+8)):=qQ Tryz.underlying65 rfl qR (by rw[qO];decide) r off
theorem fadr65_9 (r off:Nat):qZ Tryz.prog 65 (.ptr r off) 9=some (.ptr r (off+9)):=qQ Tryz.underlying65 rfl qR (by rw[qO];decide) r off
theorem fadr65_10 (r off:Nat):qZ Tryz.prog 65 (.ptr r off) 10=some (.ptr r (off+10)):=qQ Tryz.underlying65 rfl tyOk46 (by rw[cells46];decide) r off
theorem fadr65_11 (r off:Nat):qZ Tryz.prog 65 (.ptr r off) 11=some (.ptr r (off+19)):=qQ Tryz.underlying65 rfl qR (by rw[qO];decide) r off
theorem fadr67_0 (r off:Nat):qZ Tryz.prog 67 (.ptr r off) 0=some (.ptr r (off+0)):=qQ Tryz.underlying67 rfl qR (by rw[qO];decide) r off
theorem fadr67_1 (r off:Nat):qZ Tryz.prog 67 (.ptr r off) 1=some (.ptr r (off+1)):=qQ Tryz.underlying67 rfl qR (by rw[qO];decide) r off
theorem fadr67_2 (r off:Nat):qZ Tryz.prog 67 (.ptr r off) 2=some (.ptr r (off+2)):=qQ Tryz.underlying67 rfl qR (by rw[qO];decide) r off
theorem fadr67_3 (r off:Nat):qZ Tryz.prog 67 (.ptr r off) 3=some (.ptr r (off+3)):=qQ Tryz.underlying67 rfl qR (by rw[qO];decide) r off
theorem bz67:qT Tryz.prog 67 []=some (.agg [.sc (.int .i64 0),.sc (.int .i64 0),.sc (.int .i64 0),.sc (.int .i64 0)]):=by simp[qT,Tryz.underlying67,zero67,yR,qR,qO,qR,qO,qR,qO,qR,qO]
theorem bds67 (v0 v1 v2 v3:AV)(hv0:v0.cells=[v0])(hv1:v1.cells=[v1])(hv2:v2.cells=[v2])(hv3:v3.cells=[v3]):qT Tryz.prog 67 [(0,v0),(1,v1),(2,v2),(3,v3)]=some (.agg [v0,v1,v2,v3]):=by simp[qT,Tryz.underlying67,zero67,yR,yT,qW,qR,qO,qR,qO,qR,qO,qR,qO,hv0,hv1,hv2,hv3]
theorem apS32 (r len:Nat)(x:AV)(H:qE):vK Tryz.prog (some (.slice 69)) (some (.slice 69)) (.sl r 0 len 5) x H=apR 5 40 H r len H[r]? (qU H x 5):=vO zero69 rfl (by decide) info69 cells69 rfl r len x
theorem apN32 (x:AV)(H:qE):vK Tryz.prog (some (.slice 69)) (some (.slice 69)) (.sc (.slice none 0 0)) x H=apRN 5 40 H (qU H x 5):=vJ zero69 rfl (by decide) info69 cells69 rfl x
theorem bs69_1 (cs:List AV)(h:cs.length=5):vC Tryz.prog (some (.slice 69)) 1 [(0,.agg cs)]=some (cs,fun r=>.sl r 0 1 5):=jK 69 _ cs zero69 tyOk69 cells69 (by decide) (by decide) rfl h
theorem bs69_0:vC Tryz.prog (some (.slice 69)) 0 []=some ([],fun r=>.sl r 0 0 5):=jN 69 _ zero69 tyOk69 cells69 (by decide) rfl
theorem fadr69_0 (r off:Nat):qZ Tryz.prog 69 (.ptr r off) 0=some (.ptr r (off+0)):=qQ Tryz.underlying69 rfl qR (by rw[qO];decide) r off
theorem fadr69_1 (r off:Nat):qZ Tryz.prog 69 (.ptr r off) 1=some (.ptr r (off+1)):=qQ Tryz.underlying69 rfl tyOk67 (by rw[cells67];decide) r off
theorem apS36 (r len:Nat)(x:AV)(H:qE):vK Tryz.prog (some (.slice 72)) (some (.slice 72)) (.sl r 0 len 7) x H=apR 7 56 H r len H[r]? (qU H x 7):=vO jO rfl (by decide) info72 cells72 rfl r len x
theorem apN36 (x:AV)(H:qE):vK Tryz.prog (some (.slice 72)) (some (.slice 72)) (.sc (.slice none 0 0)) x H=apRN 7 56 H (qU H x 7):=vJ jO rfl (by decide) info72 cells72 rfl x
theorem bs72_1 (cs:List AV)(h:cs.length=7):vC Tryz.prog (some (.slice 72)) 1 [(0,.agg cs)]=some (cs,fun r=>.sl r 0 1 7):=jK 72 _ cs jO tyOk72 cells72 (by decide) (by decide) rfl h
theorem bs72_0:vC Tryz.prog (some (.slice 72)) 0 []=some ([],fun r=>.sl r 0 0 7):=jN 72 _ jO tyOk72 cells72 (by decide) rfl
theorem fadr72_0 (r off:Nat):qZ Tryz.prog 72 (.ptr r off) 0=some (.ptr r (off+0)):=qQ Tryz.underlying72 rfl qR (by rw[qO];decide) r off
theorem fadr72_1 (r off:Nat):qZ Tryz.prog 72 (.ptr r off) 1=some (.ptr r (off+1)):=qQ Tryz.underlying72 rfl qR (by rw[qO];decide) r off
theorem fadr72_2 (r off:Nat):qZ Tryz.prog 72 (.ptr r off) 2=some (.ptr r (off+2)):=qQ Tryz.underlying72 rfl qR (by rw[qO];decide) r off
theorem fadr72_3 (r off:Nat):qZ Tryz.prog 72 (.ptr r off) 3=some (.ptr r (off+3)):=qQ Tryz.underlying72 rfl qR (by rw[qO];decide) r off
theorem fadr72_6 (r off:Nat):qZ Tryz.prog 72 (.ptr r off) 6=some (.ptr r (off+6)):=qQ Tryz.underlying72 rfl tyOk4 (by rw[jJ];decide) r off
theorem bds72 (v0 v1 v2 v3 v4 v5 v6:AV)(hv0:v0.cells=[v0])(hv1:v1.cells=[v1])(hv2:v2.cells=[v2])(hv3:v3.cells=[v3])(hv4:v4.cells=[v4])(hv5:v5.cells=[v5])(hv6:v6.cells=[v6]):qT Tryz.prog 72 [(0,v0),(1,v1),(2,v2),(3,v3),(4,v4),(5,v5),(6,v6)]=some (.agg [v0,v1,v2,v3,v4,v5,v6]):=by simp[qT,Tryz.underlying72,jO,yR,yT,qW,qR,qO,qR,qO,qR,qO,qR,qO,qR,qO,qR,qO,tyOk4,jJ,hv0,hv1,hv2,hv3,hv4,hv5,hv6]
theorem fadr77_0 (r off:Nat):qZ Tryz.prog 77 (.ptr r off) 0=some (.ptr r (off+0)):=qQ Tryz.underlying77 rfl tyOk22 (by rw[cells22];decide) r off
theorem fadr77_1 (r off:Nat):qZ Tryz.prog 77 (.ptr r off) 1=some (.ptr r (off+1)):=qQ Tryz.underlying77 rfl qR (by rw[qO];decide) r off
theorem fadr77_2 (r off:Nat):qZ Tryz.prog 77 (.ptr r off) 2=some (.ptr r (off+2)):=qQ Tryz.underlying77 rfl qR (by rw[qO];decide) r off
theorem apS30 (r len:Nat)(x:AV)(H:qE):vK Tryz.prog (some (.slice 80)) (some (.slice 80)) (.sl r 0 len 2) x H=apR 2 16 H r len H[r]? (qU H x 2):=vO zero80 rfl (by decide) info80 cells80 rfl r len x
theorem apN30 (x:AV)(H:qE):vK Tryz.prog (some (.slice 80)) (some (.slice 80)) (.sc (.slice none 0 0)) x H=apRN 2 16 H (qU H x 2):=vJ zero80 rfl (by decide) info80 cells80 rfl x
theorem bs80_1 (cs:List AV)(h:cs.length=2):vC Tryz.prog (some (.slice 80)) 1 [(0,.agg cs)]=some (cs,fun r=>.sl r 0 1 2):=jK 80 _ cs zero80 tyOk80 cells80 (by decide) (by decide) rfl h
theorem bs80_0:vC Tryz.prog (some (.slice 80)) 0 []=some ([],fun r=>.sl r 0 0 2):=jN 80 _ zero80 tyOk80 cells80 (by decide) rfl
theorem fadr80_0 (r off:Nat):qZ Tryz.prog 80 (.ptr r off) 0=some (.ptr r (off+0)):=qQ Tryz.underlying80 rfl qR (by rw[qO];decide) r off
theorem fadr80_1 (r off:Nat):qZ Tryz.prog 80 (.ptr r off) 1=some (.ptr r (off+1)):=qQ Tryz.underlying80 rfl qR (by rw[qO];decide) r off
theorem bds80 (v0 v1:AV)(hv0:v0.cells=[v0])(hv1:v1.cells=[v1]):qT Tryz.prog 80 [(0,v0),(1,v1)]=some (.agg [v0,v1]):=by simp[qT,Tryz.underlying80,zero80,yR,yT,qW,qR,qO,qR,qO,hv0,hv1]
theorem apS24 (r len:Nat)(x:AV)(H:qE):vK Tryz.prog (some (.slice 85)) (some (.slice 85)) (.sl r 0 len 4) x H=apR 4 32 H r len H[r]? (qU H x 4):=vO zero85 rfl (by decide) info85 cells85 rfl r len x
theorem apN24 (x:AV)(H:qE):vK Tryz.prog (some (.slice 85)) (some (.slice 85)) (.sc (.slice none 0 0)) x H=apRN 4 32 H (qU H x 4):=vJ zero85 rfl (by decide) info85 cells85 rfl x
theorem bs85_1 (cs:List AV)(h:cs.length=4):vC Tryz.prog (some (.slice 85)) 1 [(0,.agg cs)]=some (cs,fun r=>.sl r 0 1 4):=jK 85 _ cs zero85 tyOk85 cells85 (by decide) (by decide) rfl h
theorem bs85_0:vC Tryz.prog (some (.slice 85)) 0 []=some ([],fun r=>.sl r 0 0 4):=jN 85 _ zero85 tyOk85 cells85 (by decide) rfl
theorem fadr85_0 (r off:Nat):qZ Tryz.prog 85 (.ptr r off) 0=some (.ptr r (off+0)):=qQ Tryz.underlying85 rfl qR (by rw[qO];decide) r off
theorem fadr85_1 (r off:Nat):qZ Tryz.prog 85 (.ptr r off) 1=some (.ptr r (off+1)):=qQ Tryz.underlying85 rfl qR (by rw[qO];decide) r off
theorem fadr85_2 (r off:Nat):qZ Tryz.prog 85 (.ptr r off) 2=some (.ptr r (off+2)):=qQ Tryz.underlying85 rfl qR (by rw[qO];decide) r off
theorem fadr85_3 (r off:Nat):qZ Tryz.prog 85 (.ptr r off) 3=some (.ptr r (off+3)):=qQ Tryz.underlying85 rfl qR (by rw[qO];decide) r off
theorem apS90 (r len:Nat)(x:AV)(H:qE):vK Tryz.prog (some (.slice 100)) (some (.slice 100)) (.sl r 0 len 4) x H=apR 4 40 H r len H[r]? (qU H x 4):=vO kG rfl (by decide) info100 cells100 rfl r len x
theorem bs100_1 (cs:List AV)(h:cs.length=4):vC Tryz.prog (some (.slice 100)) 1 [(0,.agg cs)]=some (cs,fun r=>.sl r 0 1 4):=jK 100 _ cs kG tyOk100 cells100 (by decide) (by decide) rfl h
theorem bs100_0:vC Tryz.prog (some (.slice 100)) 0 []=some ([],fun r=>.sl r 0 0 4):=jN 100 _ kG tyOk100 cells100 (by decide) rfl
theorem fadr100_0 (r off:Nat):qZ Tryz.prog 100 (.ptr r off) 0=some (.ptr r (off+0)):=qQ Tryz.underlying100 rfl qR (by rw[qO];decide) r off
theorem fadr100_1 (r off:Nat):qZ Tryz.prog 100 (.ptr r off) 1=some (.ptr r (off+1)):=qQ Tryz.underlying100 rfl qR (by rw[qO];decide) r off
theorem fadr100_2 (r off:Nat):qZ Tryz.prog 100 (.ptr r off) 2=some (.ptr r (off+2)):=qQ Tryz.underlying100 rfl qR (by rw[qO];decide) r off
theorem fadr100_3 (r off:Nat):qZ Tryz.prog 100 (.ptr r off) 3=some (.ptr r (off+3)):=qQ Tryz.underlying100 rfl jQ (by rw[uN];decide) r off
theorem bds100 (v0 v1 v2 v3:AV)(hv0:v0.cells=[v0])(hv1:v1.cells=[v1])(hv2:v2.cells=[v2])(hv3:v3.cells=[v3]):qT Tryz.prog 100 [(0,v0),(1,v1),(2,v2),(3,v3)]=some (.agg [v0,v1,v2,v3]):=by simp[qT,Tryz.underlying100,kG,yR,yT,qW,qR,qO,qR,qO,qR,qO,jQ,uN,hv0,hv1,hv2,hv3]
theorem apS31 (r len:Nat)(x:AV)(H:qE):vK Tryz.prog (some (.slice 104)) (some (.slice 104)) (.sl r 0 len 3) x H=apR 3 24 H r len H[r]? (qU H x 3):=vO zero104 rfl (by decide) info104 cells104 rfl r len x
theorem bs104_1 (cs:List AV)(h:cs.length=3):vC Tryz.prog (some (.slice 104)) 1 [(0,.agg cs)]=some (cs,fun r=>.sl r 0 1 3):=jK 104 _ cs zero104 tyOk104 cells104 (by decide) (by decide) rfl h
theorem bs104_0:vC Tryz.prog (some (.slice 104)) 0 []=some ([],fun r=>.sl r 0 0 3):=jN 104 _ zero104 tyOk104 cells104 (by decide) rfl
theorem fadr104_0 (r off:Nat):qZ Tryz.prog 104 (.ptr r off) 0=some (.ptr r (off+0)):=qQ Tryz.underlying104 rfl qR (by rw[qO];decide) r off
theorem fadr104_1 (r off:Nat):qZ Tryz.prog 104 (.ptr r off) 1=some (.ptr r (off+1)):=qQ Tryz.underlying104 rfl qR (by rw[qO];decide) r off
theorem fadr104_2 (r off:Nat):qZ Tryz.prog 104 (.ptr r off) 2=some (.ptr r (off+2)):=qQ Tryz.underlying104 rfl qR (by rw[qO];decide) r off
theorem bz104:qT Tryz.prog 104 []=some (.agg [.sc (.int .i64 0),.sc (.int .i64 0),.sc (.int .i64 0)]):=by simp[qT,Tryz.underlying104,zero104,yR,qR,qO,qR,qO,qR,qO]
theorem bds104 (v0 v1 v2:AV)(hv0:v0.cells=[v0])(hv1:v1.cells=[v1])(hv2:v2.cells=[v2]):qT Tryz.prog 104 [(0,v0),(1,v1),(2,v2)]=some (.agg [v0,v1,v2]):=by simp[qT,Tryz.underlying104,zero104,yR,yT,qW,qR,qO,qR,qO,qR,qO,hv0,hv1,hv2]
theorem fadr128_0 (r off:Nat):qZ Tryz.prog 128 (.ptr r off) 0=some (.ptr r (off+0)):=qQ Tryz.underlying128 rfl qR (by rw[qO];decide) r off
theorem fadr128_1 (r off:Nat):qZ Tryz.prog 128 (.ptr r off) 1=some (.ptr r (off+1)):=qQ Tryz.underlying128 rfl qR (by rw[qO];decide) r off
theorem fadr128_2 (r off:Nat):qZ Tryz.prog 128 (.ptr r off) 2=some (.ptr r (off+2)):=qQ Tryz.underlying128 rfl qR (by rw[qO];decide) r off
theorem fadr128_3 (r off:Nat):qZ Tryz.prog 128 (.ptr r off) 3=some (.ptr r (off+3)):=qQ Tryz.underlying128 rfl qR (by rw[qO];decide) r off
theorem bz128:qT Tryz.prog 128 []=some (.agg [.sc (.int .i64 0),.sc (.int .i64 0),.sc (.int .i64 0),.sc (.int .i64 0)]):=by simp[qT,Tryz.underlying128,zero128,yR,qR,qO,qR,qO,qR,qO,qR,qO]
theorem bds128 (v0 v1 v2 v3:AV)(hv0:v0.cells=[v0])(hv1:v1.cells=[v1])(hv2:v2.cells=[v2])(hv3:v3.cells=[v3]):qT Tryz.prog 128 [(0,v0),(1,v1),(2,v2),(3,v3)]=some (.agg [v0,v1,v2,v3]):=by simp[qT,Tryz.underlying128,zero128,yR,yT,qW,qR,qO,qR,qO,qR,qO,qR,qO,hv0,hv1,hv2,hv3]
theorem apS35 (r len:Nat)(x:AV)(H:qE):vK Tryz.prog (some (.slice 132)) (some (.slice 132)) (.sl r 0 len 3) x H=apR 3 24 H r len H[r]? (qU H x 3):=vO zero132 rfl (by decide) info132 cells132 rfl r len x
theorem apN35 (x:AV)(H:qE):vK Tryz.prog (some (.slice 132)) (some (.slice 132)) (.sc (.slice none 0 0)) x H=apRN 3 24 H (qU H x 3):=vJ zero132 rfl (by decide) info132 cells132 rfl x
theorem bs132_1 (cs:List AV)(h:cs.length=3):vC Tryz.prog (some (.slice 132)) 1 [(0,.agg cs)]=some (cs,fun r=>.sl r 0 1 3):=jK 132 _ cs zero132 tyOk132 cells132 (by decide) (by decide) rfl h
theorem bs132_0:vC Tryz.prog (some (.slice 132)) 0 []=some ([],fun r=>.sl r 0 0 3):=jN 132 _ zero132 tyOk132 cells132 (by decide) rfl
theorem fadr132_0 (r off:Nat):qZ Tryz.prog 132 (.ptr r off) 0=some (.ptr r (off+0)):=qQ Tryz.underlying132 rfl qR (by rw[qO];decide) r off
theorem fadr132_1 (r off:Nat):qZ Tryz.prog 132 (.ptr r off) 1=some (.ptr r (off+1)):=qQ Tryz.underlying132 rfl qR (by rw[qO];decide) r off
theorem fadr132_2 (r off:Nat):qZ Tryz.prog 132 (.ptr r off) 2=some (.ptr r (off+2)):=qQ Tryz.underlying132 rfl qR (by rw[qO];decide) r off
theorem bds132 (v0 v1 v2:AV)(hv0:v0.cells=[v0])(hv1:v1.cells=[v1])(hv2:v2.cells=[v2]):qT Tryz.prog 132 [(0,v0),(1,v1),(2,v2)]=some (.agg [v0,v1,v2]):=by simp[qT,Tryz.underlying132,zero132,yR,yT,qW,qR,qO,qR,qO,qR,qO,hv0,hv1,hv2]
theorem bs185_1 (cs:List AV)(h:cs.length=2):vC Tryz.prog (some (.slice 185)) 1 [(0,.agg cs)]=some (cs,fun r=>.sl r 0 1 2):=jK 185 _ cs zero185 tyOk185 cells185 (by decide) (by decide) rfl h
theorem bs185_0:vC Tryz.prog (some (.slice 185)) 0 []=some ([],fun r=>.sl r 0 0 2):=jN 185 _ zero185 tyOk185 cells185 (by decide) rfl
theorem fadr185_0 (r off:Nat):qZ Tryz.prog 185 (.ptr r off) 0=some (.ptr r (off+0)):=qQ Tryz.underlying185 rfl qR (by rw[qO];decide) r off
theorem fadr185_1 (r off:Nat):qZ Tryz.prog 185 (.ptr r off) 1=some (.ptr r (off+1)):=qQ Tryz.underlying185 rfl qR (by rw[qO];decide) r off
theorem bds185 (v0 v1:AV)(hv0:v0.cells=[v0])(hv1:v1.cells=[v1]):qT Tryz.prog 185 [(0,v0),(1,v1)]=some (.agg [v0,v1]):=by simp[qT,Tryz.underlying185,zero185,yR,yT,qW,qR,qO,qR,qO,hv0,hv1]
theorem follows:Tryz.prog.follows .mixedOrders=true:=by kernel_rfl
class Bo (x y : Bool) : Prop where eq : x = y
instance (x : Bool) : Bo x x := ⟨rfl⟩
theorem bo_lt {a b : Nat} (h : Bo (Nat.ble b a) false) : a < b := by
  rcases Nat.lt_or_ge a b with g | g
  · exact g
  · have e := h.eq
    rw [Nat.ble_eq_true_of_le g] at e
    cases e
theorem zU (T : Nat → AV) (d : Nat) (v : AV) (t : Nat) [h : Bo (Nat.beq t d) false] : jB T d v t = T t := upd_ne T d v t (Nat.ne_of_beq_eq_false h.eq)
theorem zE (n : Nat) (T : Nat → AV) (t : Nat) [h : Bo (Nat.ble n t) false] : ev (qY n T) (.tmp t) = T t := ev_tab n T t (bo_lt h)
theorem zI {n : Nat} {T : Nat → AV} (t : Tmp) [h : Bo (Nat.ble n t) false] : ybv n T (some t) = boolOf (T t) := ybv_some t (bo_lt h)
theorem zT {P : Program} {n : Nat} {T : Nat → AV} {H : qE} {t : Tmp} [h : Bo (Nat.ble n t) false] : uK P ⟨qY n T, H⟩ (.tmp t) = some (T t) := res_tmp (bo_lt h)
theorem zK {P : Program} {n : Nat} {T : Nat → AV} {H : qE} {a : Tmp} {t : TypeId} [h : Bo (Nat.ble n a) false] : uK P ⟨qY n T, H⟩ (.cell a t) = rdV P t (T a) H := res_cell (bo_lt h)
theorem zO {P : Program} {n : Nat} {T : Nat → AV} {H : qE} {t : Tmp} {v : AV} [h : Bo (Nat.ble n t) false] : kD P [.tmp t] v ⟨qY n T, H⟩ = (T t = v) := ret_one (bo_lt h)
theorem qA : type_of% @Bool.false_eq_true := (And.intro (@Bool.false_eq_true) trivial).1
theorem qB : type_of% @Int.toNat_natCast := (And.intro (@Int.toNat_natCast) trivial).1
theorem qC : type_of% @w_seq := (And.intro (@w_seq) trivial).1
theorem qD : type_of% @Int.le_refl := (And.intro (@Int.le_refl) trivial).1
def zP:=And.intro @dops_0<|And.intro @dops_cons<|And.intro @dops_p<|And.intro @g_alloc<|And.intro @g_append<|And.intro @g_assign<|And.intro @g_binOp<|And.intro @g_box<|And.intro @g_buildSlice<|And.intro @g_buildV<|And.intro @g_convert<|And.intro @g_extract<|And.intro @g_fieldAddrT<|And.intro @g_fieldT<|And.intro @g_guard_f<|And.intro @g_guard_t<|And.intro @g_index<|And.intro @g_indexAddr<|And.intro @g_len<|And.intro @g_load<|And.intro @g_makeSlice<|And.intro @g_move<|And.intro @g_nilCheck<|And.intro @g_pick<|And.intro @g_slice<|And.intro @g_store<|And.intro @g_unOp<|And.intro @ops_cons<|And.intro @ops_nil<|And.intro @w_block<|And.intro @w_cond<|And.intro @w_exit<|And.intro @w_region<|And.intro @w_ret<|@w_skip
def zQ:=And.intro @Bool.and_self<|And.intro @Bool.not_false<|And.intro @Bool.not_true<|And.intro @Int.cast_ofNat_Int<|And.intro @Int.toNat_zero<|And.intro @List.all_cons.{0}<|And.intro @List.all_nil.{0}<|And.intro @List.cons_append.{0}<|And.intro @List.drop_succ_cons.{0}<|And.intro @List.drop_zero.{0}<|And.intro @List.getD_cons_succ.{0}<|And.intro @List.getD_cons_zero.{0}<|And.intro @List.getElem?_cons_succ.{0}<|And.intro @List.getElem?_cons_zero.{0}<|And.intro @List.length_append.{0}<|And.intro @List.length_cons.{0}<|And.intro @List.length_nil.{0}<|And.intro @List.length_set.{0}<|And.intro @List.map_cons.{0,0}<|And.intro @List.map_nil.{0,0}<|And.intro @List.nil_append.{0}<|And.intro @List.set_cons_succ.{0}<|And.intro @List.set_cons_zero.{0}<|And.intro @List.set_set.{0}<|And.intro @List.take_length.{0}<|And.intro @List.take_succ_cons.{0}<|And.intro @List.take_zero.{0}<|And.intro @Nat.le_refl<|And.intro @Nat.min_eq_left<|And.intro @Nat.mul_one<|And.intro @Nat.zero_add<|And.intro @Option.bind_some.{0,0}<|And.intro @Option.map_none.{0,0}<|And.intro @Option.map_some.{0,0}<|And.intro @Tryz.underlying105<|And.intro @Tryz.underlying173<|And.intro @Tryz.underlying180<|And.intro @Tryz.underlying22<|And.intro @Tryz.underlying24<|And.intro @Tryz.underlying27<|And.intro @Tryz.underlying28<|And.intro @Tryz.underlying29<|And.intro @Tryz.underlying3<|And.intro @Tryz.underlying30<|And.intro @Tryz.underlying31<|And.intro @Tryz.underlying32<|And.intro @Tryz.underlying35<|And.intro @Tryz.underlying36<|And.intro @Tryz.underlying5<|And.intro @Tryz.underlying63<|And.intro @Tryz.underlying9<|And.intro @Tryz.underlying90<|And.intro @adr_sl<|And.intro @agg100<|And.intro @agg104<|And.intro @agg128<|And.intro @agg132<|And.intro @agg185<|And.intro @agg22<|And.intro @agg24<|And.intro @agg26<|And.intro @agg27<|And.intro @agg28<|And.intro @agg29<|And.intro @agg3<|And.intro @agg30<|And.intro @agg31<|And.intro @agg32<|And.intro @agg34<|And.intro @agg35<|And.intro @agg36<|And.intro @agg38<|And.intro @agg4<|And.intro @agg44<|And.intro @agg46<|And.intro @agg48<|And.intro @agg5<|And.intro @agg65<|And.intro @agg67<|And.intro @agg69<|And.intro @agg72<|And.intro @agg80<|And.intro @agg85<|And.intro @agg9<|And.intro @alK_some<|And.intro @and_false<|And.intro @and_self<|And.intro @and_true<|And.intro @apS22<|And.intro @apS24<|And.intro @apS28<|And.intro @apS29<|And.intro @apS30<|And.intro @apS31<|And.intro @apS32<|And.intro @apS35<|And.intro @apS90<|And.intro @apStr22<|And.intro @ap_ints<|And.intro @ap_intsN<|And.intro @at_a<|And.intro @at_b<|And.intro @at_def<|And.intro @yA<|And.intro @at_ints<|And.intro @b_add<|And.intro @b_and<|And.intro @b_eql<|And.intro @b_geq<|And.intro @b_gtr<|And.intro @b_leq<|And.intro @b_lss<|And.intro @b_mul<|And.intro @b_neq<|And.intro @b_or<|And.intro @b_quo<|And.intro @b_rem<|And.intro @b_shl<|And.intro @b_shr<|And.intro @b_sub<|And.intro @b_xor<|And.intro @bds100<|And.intro @bds104<|And.intro @bds128<|And.intro @bds132<|And.intro @bds185<|And.intro @bds26<|And.intro @bds44<|And.intro @bds67<|And.intro @bds72<|And.intro @bds80<|And.intro @bits_i64<|And.intro @bnd_int<|And.intro @bnd_none<|And.intro @boolOf_b<|And.intro @bools_one<|And.intro @bs100_0<|And.intro @bs100_1<|And.intro @bs104_0<|And.intro @bs104_1<|And.intro @bs132_0<|And.intro @bs132_1<|And.intro @bs185_0<|And.intro @bs185_1<|And.intro @bs3_0<|And.intro @bs3_1<|And.intro @bs3_2<|And.intro @bs3_3<|And.intro @bs3_4<|And.intro @bs3_5<|And.intro @bs3_6<|And.intro @bs3_7<|And.intro @bs48_1<|And.intro @bs4_0<|And.intro @bs5_0<|And.intro @bs5_1<|And.intro @bs65_0<|And.intro @bs65_1<|And.intro @bs69_0<|And.intro @bs69_1<|And.intro @bs72_0<|And.intro @bs72_1<|And.intro @bs80_0<|And.intro @bs80_1<|And.intro @bs85_0<|And.intro @bs85_1<|And.intro @bs9_10<|And.intro @bs9_5<|And.intro @bytesA_ints<|And.intro @bz104<|And.intro @bz128<|And.intro @bz67<|And.intro @c_int<|And.intro @c_text<|And.intro @cells100<|And.intro @cells104<|And.intro @cells128<|And.intro @cells132<|And.intro @cells185<|And.intro @cells22<|And.intro @cells24<|And.intro @cells26<|And.intro @cells27<|And.intro @cells28<|And.intro @cells29<|And.intro @qO<|And.intro @cells30<|And.intro @cells31<|And.intro @cells32<|And.intro @cells34<|And.intro @cells35<|And.intro @cells36<|And.intro @cells38<|And.intro @jJ<|And.intro @cells44<|And.intro @cells46<|And.intro @cells48<|And.intro @cells5<|And.intro @cells65<|And.intro @cells67<|And.intro @cells69<|And.intro @cells72<|And.intro @cells80<|And.intro @cells85<|And.intro @uN<|And.intro @yO<|And.intro @yI<|And.intro @yF<|And.intro @xU<|And.intro @xJ<|And.intro @cutL_some<|And.intro @cutS_some<|And.intro @cut_sl<|And.intro @cut_str<|And.intro @decide_false<|And.intro @decide_true<|And.intro @dstAt_0<|And.intro @dstAt_s<|And.intro @ev_const<|And.intro @zE<|And.intro @ext_0<|And.intro @ext_1<|And.intro @ext_2<|And.intro @ext_3<|And.intro @fadr100_0<|And.intro @fadr100_1<|And.intro @fadr100_2<|And.intro @fadr100_3<|And.intro @fadr104_0<|And.intro @fadr104_1<|And.intro @fadr104_2<|And.intro @fadr128_0<|And.intro @fadr128_1<|And.intro @fadr128_2<|And.intro @fadr128_3<|And.intro @fadr132_0<|And.intro @fadr132_1<|And.intro @fadr132_2<|And.intro @fadr185_0<|And.intro @fadr185_1<|And.intro @fadr26_0<|And.intro @fadr34_0<|And.intro @fadr34_1<|And.intro @fadr34_2<|And.intro @fadr34_3<|And.intro @fadr34_4<|And.intro @fadr34_5<|And.intro @fadr34_6<|And.intro @fadr38_0<|And.intro @fadr38_1<|And.intro @fadr38_10<|And.intro @fadr38_11<|And.intro @fadr38_12<|And.intro @fadr38_13<|And.intro @fadr38_2<|And.intro @fadr38_3<|And.intro @fadr38_4<|And.intro @fadr38_5<|And.intro @fadr38_6<|And.intro @fadr38_7<|And.intro @fadr38_8<|And.intro @fadr38_9<|And.intro @fadr44_0<|And.intro @fadr44_1<|And.intro @fadr46_0<|And.intro @fadr46_1<|And.intro @fadr46_2<|And.intro @fadr46_3<|And.intro @fadr46_4<|And.intro @fadr46_5<|And.intro @fadr46_6<|And.intro @fadr48_0<|And.intro @fadr48_1<|And.intro @fadr48_10<|And.intro @fadr48_11<|And.intro @fadr48_12<|And.intro @fadr48_13<|And.intro @fadr48_14<|And.intro @fadr48_2<|And.intro @fadr48_3<|And.intro @fadr48_4<|And.intro @fadr48_5<|And.intro @fadr48_6<|And.intro @fadr48_7<|And.intro @fadr48_8<|And.intro @fadr48_9<|And.intro @fadr65_0<|And.intro @fadr65_1<|And.intro @fadr65_10<|And.intro @fadr65_11<|And.intro @fadr65_2<|And.intro @fadr65_3<|And.intro @fadr65_4<|And.intro @fadr65_5<|And.intro @fadr65_6<|And.intro @fadr65_7<|And.intro @fadr65_8<|And.intro @fadr65_9<|And.intro @fadr67_0<|And.intro @fadr67_1<|And.intro @fadr67_2<|And.intro @fadr67_3<|And.intro @fadr69_0<|And.intro @fadr69_1<|And.intro @fadr72_0<|And.intro @fadr72_1<|And.intro @fadr72_2<|And.intro @fadr72_3<|And.intro @fadr72_6<|And.intro @fadr77_0<|And.intro @fadr77_1<|And.intro @fadr77_2<|And.intro @fadr80_0<|And.intro @fadr80_1<|And.intro @fadr85_0<|And.intro @fadr85_1<|And.intro @fadr85_2<|And.intro @fadr85_3<|And.intro @false_and<|And.intro @idx_str<|And.intro @if_false.{1}<|And.intro @if_true.{1}<|And.intro @vY<|And.intro @isU5<|And.intro @killAt_0<|And.intro @yZ<|And.intro @len_sl<|And.intro @len_str<|And.intro @ne_eq.{1}<|And.intro @not_false_eq_true<|And.intro @wV<|And.intro @of_bool<|And.intro @of_int<|And.intro @of_str<|And.intro @onB_dec<|And.intro @onB_false<|And.intro @onB_not<|And.intro @onB_true<|And.intro @onS_ite<|And.intro @onS_not<|And.intro @onS_some<|And.intro @one_bool<|And.intro @one_int<|And.intro @one_nil<|And.intro @one_sl<|And.intro @one_str<|And.intro @over_0<|And.intro @over_s<|And.intro @par0<|And.intro @par1<|And.intro @par2<|And.intro @par3<|And.intro @par4<|And.intro @par5<|And.intro @pick_b<|And.intro @rd_aggc<|And.intro @rd_bools<|And.intro @rd_def<|And.intro @rd_ints<|And.intro @rd_onec<|And.intro @rd_strs<|And.intro @zK<|And.intro @zT<|And.intro @retP_0<|And.intro @retP_1<|And.intro @retP_2<|And.intro @retP_3<|And.intro @zO<|And.intro @ret_three<|And.intro @ret_two<|And.intro @src_sl<|And.intro @src_str<|And.intro @strs_one<|And.intro @t_add<|And.intro @t_eql<|And.intro @t_neq<|And.intro @true_and<|And.intro @tyOk100<|And.intro @tyOk104<|And.intro @tyOk128<|And.intro @tyOk132<|And.intro @tyOk185<|And.intro @tyOk22<|And.intro @tyOk24<|And.intro @tyOk26<|And.intro @tyOk27<|And.intro @tyOk28<|And.intro @tyOk29<|And.intro @qR<|And.intro @tyOk30<|And.intro @tyOk31<|And.intro @tyOk32<|And.intro @tyOk34<|And.intro @tyOk35<|And.intro @tyOk36<|And.intro @tyOk38<|And.intro @tyOk4<|And.intro @tyOk44<|And.intro @tyOk46<|And.intro @tyOk48<|And.intro @tyOk5<|And.intro @tyOk65<|And.intro @tyOk67<|And.intro @tyOk69<|And.intro @tyOk72<|And.intro @tyOk80<|And.intro @tyOk85<|And.intro @jQ<|And.intro @u_not<|And.intro @upd_eq<|And.intro @zU<|And.intro @wr_bools<|And.intro @wr_c<|And.intro @wr_def<|And.intro @wr_ints<|And.intro @zI<|And.intro @yielded_tab<|And.intro @kG<|And.intro @zero104<|And.intro @zero128<|And.intro @zero132<|And.intro @zero26<|And.intro @zero34<|And.intro @zero44<|And.intro @zero46<|And.intro @zero67<|And.intro @zero69<|And.intro @jO<|@zero85
instance : Coe Int AV := ⟨fun z => .sc (.int .i64 z)⟩
instance : Coe Nat AV := ⟨fun n => .sc (.int .i64 (n : Int))⟩
section
variable {P : Program} {ops : Array Oper} {hs : List St}
theorem zX {j k : Nat} {l : List (Nat × Nat)} (g : ∀ q, q ∈ l → wK P ops hs q) (h : calm P ops j k = true := by kernel_rfl) : ∀ q, q ∈ (j, k) :: l → wK P ops hs q := qI (same_calm h) g
theorem zA {l : List (Nat × Nat)} (h : (l.all fun p => calm P ops p.1 p.2) = true := by kernel_rfl) : ∀ q, q ∈ l → wK P ops hs q := fun _ hq => same_calm (List.all_eq_true.1 h _ hq)
theorem zD {i : Nat} {K : St → Prop} {E : Nat → St → Prop} {R : St → Prop} {s : St} (ps : List (Nat × Nat)) (h : wQ P ops ps K ops.toList [] s) (h2 : drawOk P ops = true := by kernel_rfl) (h3 : pairs P ops = ps := by kernel_rfl) (h1 : P.follows .mixedOrders = true := by kernel_rfl) : kO P (.region i ops true) K E R s := drawn ps h1 h2 h3 h
theorem zR {f : FuncId} {fn : Func} {c : Code} {args : List AV} {H : qE} {Q : AV → qE → Prop} (n : Nat) (rs : List ResultVar) (hf : P.funcs[f]? = some fn) (h : kO P c (retP P rs Q) (fun _ _ => False) (retP P rs Q) ⟨qY n (par args), H⟩) (hb : fn.body = some c := by rfl) (hnt : fn.ntmps = n := by rfl) (hrs : fn.results.toList = rs := by rfl) (hn : (fn.name == "runtime.NumGoroutine") = false := by rfl) (hl : args.length ≤ n := by simp) : ∃ v H', Sound P f args H v H' ∧ Q v H' := Sound.runP n rs hf hb hnt hrs hn hl Q h
end
end Go.Proofs.YtjdajobflgkebaaGreatDoor.Sim
namespace Go.Proofs
open Go.Shelf
def Tryz.laysM171_ren:Go.Shelf.Ren:=⟨fun | 171=>48 | 243=>60 | 246=>79 | 283=>101 | 284=>102 | 285=>103 | 286=>104 | 129=>120 | 317=>119 | 318=>121 | 319=>122 | 320=>123 | 337=>138 | 338=>139 | n=>n,fun | 3=>3 | 9=>9 | 2=>2 | 4=>4 | 171=>151 | 0=>0 | 53=>152 | 37=>22 | 5=>5 | 173=>155 | 212=>176 | 51=>177 | 20=>20 | 213=>178 | 46=>105 | 232=>199 | 233=>200 | n=>n,fun | 17=>0 | 18=>1 | 19=>2 | n=>n⟩
theorem Tryz.laysM171:Go.Proofs.LaysM.n171 Tryz.prog Tryz.laysM171_ren:={
 mixed:=by kernel_rfl
 f129:=Tryz.func120.trans (congrArg some (by kernel_rfl))
 f171:=Tryz.func48.trans (congrArg some (by kernel_rfl))
 f243:=Tryz.func60.trans (congrArg some (by kernel_rfl))
 f246:=Tryz.func79.trans (congrArg some (by kernel_rfl))
 f283:=Tryz.func101.trans (congrArg some (by kernel_rfl))
 f284:=Tryz.func102.trans (congrArg some (by kernel_rfl))
 f285:=Tryz.func103.trans (congrArg some (by kernel_rfl))
 f286:=Tryz.func104.trans (congrArg some (by kernel_rfl))
 f317:=Tryz.func119.trans (congrArg some (by kernel_rfl))
 f318:=Tryz.func121.trans (congrArg some (by kernel_rfl))
 f319:=Tryz.func122.trans (congrArg some (by kernel_rfl))
 f320:=Tryz.func123.trans (congrArg some (by kernel_rfl))
 f337:=Tryz.func138.trans (congrArg some (by kernel_rfl))
 f338:=Tryz.func139.trans (congrArg some (by kernel_rfl))
 t0:=Tryz.underlying0
 a0:=Tryz.isAgg0
 z0:=Tryz.sizeOf0
 v0:=Tryz.zeroValue0
 t2:=Tryz.underlying2
 a2:=Tryz.isAgg2
 z2:=Tryz.sizeOf2
 v2:=Tryz.zeroValue2
 t3:=Tryz.underlying3
 a3:=Tryz.isAgg3
 z3:=Tryz.sizeOf3
 v3:=Tryz.zeroValue3
 t4:=Tryz.underlying4
 a4:=Tryz.isAgg4
 z4:=Tryz.sizeOf4
 v4:=Tryz.zeroValue4
 t5:=Tryz.underlying5
 a5:=Tryz.isAgg5
 z5:=Tryz.sizeOf5
 v5:=Tryz.zeroValue5
 t9:=Tryz.underlying9
 a9:=Tryz.isAgg9
 z9:=Tryz.sizeOf9
 v9:=Tryz.zeroValue9
 t20:=Tryz.underlying20
 a20:=Tryz.isAgg20
 z20:=Tryz.sizeOf20
 v20:=Tryz.zeroValue20
 t37:=Tryz.underlying22
 a37:=Tryz.isAgg22
 z37:=Tryz.sizeOf22
 v37:=Tryz.zeroValue22
 t46:=Tryz.underlying105
 a46:=Tryz.isAgg105
 z46:=Tryz.sizeOf105
 v46:=Tryz.zeroValue105
 t51:=Tryz.underlying177
 a51:=Tryz.isAgg177
 z51:=Tryz.sizeOf177
 v51:=Tryz.zeroValue177
 t53:=Tryz.underlying152
 a53:=Tryz.isAgg152
 z53:=Tryz.sizeOf152
 v53:=Tryz.zeroValue152
 t171:=Tryz.underlying151
 a171:=Tryz.isAgg151
 z171:=Tryz.sizeOf151
 v171:=Tryz.zeroValue151
 t173:=Tryz.underlying155
 a173:=Tryz.isAgg155
 z173:=Tryz.sizeOf155
 v173:=Tryz.zeroValue155
 t212:=Tryz.underlying176
 a212:=Tryz.isAgg176
 z212:=Tryz.sizeOf176
 v212:=Tryz.zeroValue176
 t213:=Tryz.underlying178
 a213:=Tryz.isAgg178
 z213:=Tryz.sizeOf178
 t232:=Tryz.underlying199
 a232:=Tryz.isAgg199
 z232:=Tryz.sizeOf199
 v232:=Tryz.zeroValue199
 t233:=Tryz.underlying200
 a233:=Tryz.isAgg200
 z233:=Tryz.sizeOf200
 v233:=Tryz.zeroValue200
 g17:=by kernel_rfl
 g18:=by kernel_rfl
 g19:=by kernel_rfl
 i0:=by kernel_rfl
 i2:=by kernel_rfl
 i3:=by kernel_rfl
 i4:=by kernel_rfl
 i5:=by kernel_rfl
 i9:=by kernel_rfl
 i20:=by kernel_rfl
 i37:=by kernel_rfl
 i46:=by kernel_rfl
 i51:=by kernel_rfl
 i53:=by kernel_rfl
 i171:=by kernel_rfl
 i173:=by kernel_rfl
 i212:=by kernel_rfl
 i232:=by kernel_rfl
 i233:=by kernel_rfl
 m17:=by kernel_rfl
 m18:=by kernel_rfl
 m19:=by kernel_rfl }
open Go.RowKit Go.Sort Go.Lib in
theorem Tryz.strconv_Itoa (n : Int)(h0 : -9223372036854775808 ≤ n)(h1 : n ≤ 9223372036854775807)(w : World)(htab : Lib.TabIs Tryz.prog w "internal/strconv.uint64pow10" .u64 Lib.pow10Tab) :
  Calls Tryz.prog 48 #[.int .i64 n] w fun e w'=>e=.returned (.string ⟨(Lib.itoa n).toArray⟩)∧∃ k os,w'=grow (w.drewN k) os:=Any.strconv_Itoa Tryz.laysM171 n h0 h1 w htab
end Go.Proofs
namespace Go.Proofs.YtjdajobflgkebaaGreatDoor.Sim
open Go
theorem entry {P:Program}{f:FuncId}{v:Value}{ags:List AV}{H0 H':qE}(hs:Sound P f ags H0 (.sc v) H')(w:World)(cargs:Array Value)(ρ0:Ren)
  (hreg:∀ r g l,H0[r]?=some g→ρ0 r=some l→RegOk ρ0 w.heap.size w l g∧g.own=false) (hdom:∀ r l,ρ0 r=some l→∃ g,H0[r]?=some g)
  (hA:LR ρ0 ags cargs.toList) (hg:Gl w.heap.size w:=by exact Gl.none rfl):Calls P f cargs w fun e w'=>e=.returned v∧RowKit.Below w.heap.size w w':=by
 obtain⟨_,hlen,h3⟩:=hs
 have hR:Rel H'.length ρ0 w.heap.size (hf H0) w:=by
  refine⟨⟨Nat.le_refl _,hg⟩,?_,?_,?_,?_,?_⟩
  ·intro r l h
   obtain⟨g,hg⟩:=hdom r l h
   obtain⟨⟨c,e,fz,hb,_⟩,_⟩:=hreg r g l hg h
   exact(Array.getElem?_eq_some_iff.1 hb).1
  ·intro r l h
   obtain⟨g,hg⟩:=hdom r l h
   exact .inl ⟨g,hg⟩
  ·intro r g h
   exact Nat.lt_of_lt_of_le (List.getElem?_eq_some_iff.1 h).1 hlen
  ·intro r g l hg _ h
   exact(hreg r g l hg h).1
  ·intro r1 r2 g1 g2 l1 l2 a1 _ _ _ c1 _ k1 _ _
   have:=(hreg r1 g1 l1 a1 k1).2
   rw[this] at c1
   cases c1
 refine(h3 H'.length ρ0 w.heap.size w cargs (Nat.le_refl _) hR hA).mono ?_
 rintro e w' ⟨cv,ρ',rfl,hvr,hR',hG⟩
 refine⟨by rw[hvr.sc_inv],hG.os,hG.tape,hG.output,hG.size,fun k hk=>hG.frame k hk fun r g l hg _ ho hρ=>?_⟩
 have:=(hreg r g l hg hρ).2
 rw[this] at ho
 cases ho
theorem add_spot {a:Addr}(h:a.spot=none)(i:Nat):a.add i=⟨a.block,a.off+i,none⟩:=by
 unfold Addr.add
 split
 ·rename_i h0
  subst h0
  cases a
  simp_all
 ·rfl
inductive Kd where
 | b
 | s
 | i (k:IntKind)
def Kd.ok (k:Kd)(v:Value):Prop:=
 match k with
 | .b=>∃ x,v=.bool x
 | .s=>∃ z,v=.string z∧z.size≤maxLen
 | .i q=>∃ n,v=.int q n∧(Lit.int q n).wf=true
theorem Kd.ok.one {k:Kd}{v:Value}(h:k.ok v):(AV.sc v).one=true:=by
 cases k with
 | b=>obtain⟨x,rfl⟩:=h;rfl
 | s=>obtain⟨x,rfl,_⟩:=h;rfl
 | i q=>obtain⟨x,rfl,_⟩:=h;rfl
inductive Leaf where
 | f (k:Kd)
 | l (e:TypeId) (ks:List Kd)
def Leaf.kd?:Leaf→Option Kd
 | .f k=>some k
 | .l _ _=>none
def jV (P:Program)(rec:TypeId→Option (List Leaf)):List Field→Nat→Option (List Leaf)
 | [],_=>some []
 | f :: fs,off=>match rec f.type,jV P rec fs (off+P.cellsOf f.type) with
  | some a,some b=>if f.offset=off∧a.length=P.cellsOf f.type then some (a++b) else none
  | _,_=>none
def vM (P:Program):Nat→TypeId→Option (List Leaf)
 | 0,_=>none
 | d+1,t=>match P.underlying t with
  | some .bool=>some [.f .b]
  | some .string=>some [.f .s]
  | some (.int k)=>some [.f (.i k)]
  | some (.slice e)=>match vM P d e with
   | some ls=>match ls.mapM Leaf.kd? with
    | some ks=>if P.cellsOf e=ks.length∧0<ks.length then some [.l e ks] else none
    | none=>none
   | none=>none
  | some (.struct fs)=>match jV P (vM P d) fs.toList 0 with
   | some ls=>if ls.length=P.cellsOf t then some ls else none
   | none=>none
  | _=>none
section
variable {H : Type} {enc : TypeId × Value → H} {P : Program} {W : World} {base : Nat} {spare : Nat → Bool} {held : Bool}
def LeafOk (enc:TypeId×Value→H)(P:Program)(W:World)(base:Nat)(spare:Nat→Bool)(held:Bool)(l:Leaf)(v:Value):Prop:=
 match l with
 | .f k=>k.ok v
 | .l e ks=>P.cellsOf e=ks.length∧0<ks.length∧(∃ d,vM P d e=some (ks.map .f))∧∃ t n y,P.underlying t=some (.slice e)∧DataW.trod enc P W base spare held n t [v]=some y
theorem kd_map:∀ (ls:List Leaf)(ks:List Kd),ls.mapM Leaf.kd?=some ks→ls=ks.map .f
 | [],ks,h=>by
  simp at h
  subst h
  rfl
 | l :: ls,ks,h=>by
  rw[List.mapM_cons] at h
  cases l with
  | l e k=>simp[Leaf.kd?] at h
  | f k =>
   cases hl:ls.mapM Leaf.kd? with
   | none=>simp[Leaf.kd?,hl] at h
   | some ks' =>
    simp[Leaf.kd?,hl] at h
    subst h
    rw[List.map_cons,←kd_map ls ks' hl]
theorem mapM_all {α β:Type}{f:α→Option β}:∀ {l:List α}{r:List β},l.mapM f=some r→∀ x∈l,∃ y,f x=some y
 | [],r,_,x,hx=>by cases hx
 | a :: l,r,h,x,hx=>by
  rw[List.mapM_cons] at h
  cases ha:f a with
  | none=>simp[ha] at h
  | some y =>
   cases hl:l.mapM f with
   | none=>simp[ha,hl] at h
   | some ys =>
    rcases List.mem_cons.1 hx with rfl | hx
    ·exact⟨y,ha⟩
    ·exact mapM_all hl x hx
theorem fs_ok (rec:TypeId→Option (List Leaf))(r:TypeId→List Value→Option (DataW H×List MemPlace))(L:Leaf→Value→Prop)
  (hr:∀ t cs y ls,rec t=some ls→r t cs=some y→∀ (i:Nat) l v,ls[i]?=some l→cs[i]?=some v→L l v) (cs:List Value) :
  ∀ (fs:List Field)(off:Nat)(ls:List Leaf),jV P rec fs off=some ls→(∀ f∈fs,∃ y,r f.type ((cs.drop f.offset).take (P.cellsOf f.type))=some y) →
   ∀ (i:Nat) l v,ls[i]?=some l→cs[off+i]?=some v→L l v
 | [],off,ls,h,_,i,l,v,hl,_=>by
  simp[jV] at h
  subst h
  simp at hl
 | f :: fs,off,ls,h,ha,i,l,v,hl,hv=>by
  rw[jV] at h
  cases h1:rec f.type with
  | none=>simp[h1] at h
  | some a =>
   cases h2:jV P rec fs (off+P.cellsOf f.type) with
   | none=>simp[h1,h2] at h
   | some b =>
    simp only[h1,h2] at h
    split at h
    ·rename_i hc
     obtain⟨c1,c2⟩:=hc
     simp only[Option.some.injEq] at h
     subst h
     by_cases hi:i<a.length
     ·rw[List.getElem?_append_left hi] at hl
      obtain⟨y,hy⟩:=ha f (by simp)
      refine hr _ _ _ _ h1 hy i l v hl ?_
      rw[List.getElem?_take,if_pos (by omega),List.getElem?_drop,c1]
      exact hv
     ·rw[List.getElem?_append_right (by omega)] at hl
      refine fs_ok rec r L hr cs fs _ b h2 (fun g hg=>ha g (by simp[hg])) (i - a.length) l v hl ?_
      rw[←c2,show off+a.length+(i - a.length)=off+i by omega]
      exact hv
    ·cases h
theorem leaves_ok:∀ (d:Nat)(n:Nat)(t:TypeId)(cs:List Value)(y:DataW H×List MemPlace)(ls:List Leaf),vM P d t=some ls→DataW.trod enc P W base spare held n t cs=some y →
  ∀ (i:Nat) l v,ls[i]?=some l→cs[i]?=some v→LeafOk enc P W base spare held l v
 | 0,n,t,cs,y,ls,h,_,i,l,v,_,_=>by cases h
 | d+1,0,t,cs,y,ls,h,hy,i,l,v,hl,hv=>by simp[DataW.trod] at hy
 | d+1,n+1,t,cs,y,ls,h,hy,i,l,v,hl,hv=>by
  have hy0:=hy
  rw[DataW.trod_step] at hy
  rw[vM] at h
  cases hu:P.underlying t with
  | none=>simp[hu] at h
  | some D =>
   rw[hu] at h
   unfold DataW.trodStep at hy
   cases D with
   | bool =>
    simp only[Option.some.injEq] at h
    subst h
    rw[hu] at hy
    have hc:∃ b,cs=[.bool b]:=by
     split at hy<;>simp_all
    obtain⟨b,rfl⟩:=hc
    obtain⟨rfl,rfl⟩:i=0∧l=.f .b:=by
     cases i with
     | zero=>exact⟨rfl,by simpa using hl.symm⟩
     | succ i=>simp at hl
    simp at hv
    subst hv
    exact⟨b,rfl⟩
   | string =>
    simp only[Option.some.injEq] at h
    subst h
    rw[hu] at hy
    have hc:∃ b,cs=[.string b]∧b.size≤maxLen:=by
     split at hy<;>simp_all
    obtain⟨b,rfl,hb⟩:=hc
    obtain⟨rfl,rfl⟩:i=0∧l=.f .s:=by
     cases i with
     | zero=>exact⟨rfl,by simpa using hl.symm⟩
     | succ i=>simp at hl
    simp at hv
    subst hv
    exact⟨b,rfl,hb⟩
   | int k =>
    simp only[Option.some.injEq] at h
    subst h
    rw[hu] at hy
    have hc:∃ m,cs=[.int k m]∧(Lit.int k m).wf=true:=by
     split at hy<;>simp_all
    obtain⟨m,rfl,hw⟩:=hc
    obtain⟨rfl,rfl⟩:i=0∧l=.f (.i k):=by
     cases i with
     | zero=>exact⟨rfl,by simpa using hl.symm⟩
     | succ i=>simp at hl
    simp at hv
    subst hv
    exact⟨m,rfl,hw⟩
   | slice e =>
    cases h1:vM P d e with
    | none=>simp[h1] at h
    | some ls' =>
     cases h2:ls'.mapM Leaf.kd? with
     | none=>simp[h1,h2] at h
     | some ks =>
      simp only[h1,h2] at h
      split at h
      ·rename_i hc
       simp only[Option.some.injEq] at h
       subst h
       obtain⟨rfl,rfl⟩:i=0∧l=.l e ks:=by
        cases i with
        | zero=>exact⟨rfl,by simpa using hl.symm⟩
        | succ i=>simp at hl
       have hcs:cs=[v]:=by
        rw[hu] at hy
        split at hy<;>simp_all
       subst hcs
       exact⟨hc.1,hc.2,⟨d,by rw[h1,kd_map _ _ h2]⟩,t,n+1,y,hu,hy0⟩
      ·cases h
   | struct fs =>
    cases h1:jV P (vM P d) fs.toList 0 with
    | none=>simp[h1] at h
    | some ls' =>
     simp only[h1] at h
     split at h
     ·rename_i hc
      simp only[Option.some.injEq] at h
      subst h
      rw[hu] at hy
      have hm:∃ xs,fs.toList.mapM (fun f=>DataW.trod enc P W base spare held n f.type ((cs.drop f.offset).take (P.cellsOf f.type)))=some xs:=by
       split at hy<;>simp_all
       obtain⟨xs,hx,_⟩:=hy.2
       exact⟨xs,hx⟩
      obtain⟨xs,hx⟩:=hm
      exact fs_ok (P:=P) (vM P d) (DataW.trod enc P W base spare held n) (LeafOk enc P W base spare held) (fun t cs y ls a b i l v=>leaves_ok d n t cs y ls a b i l v) cs fs.toList 0 ls' h1 (fun f hf=>mapM_all hx f hf) i l v hl (by simpa using hv)
     ·cases h
   | _=>simp at h
structure Rw (ks:List Kd) where
 val:List Value
 ok:val.length=ks.length∧∀ (i:Nat) k v,ks[i]?=some k→val[i]?=some v→k.ok v
def Rw.cs {ks:List Kd}(r:Rw ks):List AV:=r.val.map .sc
theorem Rw.encs {ks:List Kd}(h:0<ks.length):Enc (Rw.cs (ks:=ks)) ks.length:=by
 refine⟨fun a=>by rw[Rw.cs,List.length_map];exact a.ok.1,fun a=>List.all_eq_true.2 fun x hx=>?_,h⟩
 obtain⟨v,hv,rfl⟩:=List.mem_map.1 hx
 obtain⟨i,hi⟩:=List.getElem?_of_mem hv
 have hlt:=(List.getElem?_eq_some_iff.1 hi).1
 rw[a.ok.1] at hlt
 exact(a.ok.2 i ks[i] v (List.getElem?_eq_getElem hlt) hi).one
def IsR {ks:List Kd}(H:qE)(x:AV)(l:List (Rw ks)):Prop:=(x=.sc (.slice none 0 0)∧l=[])∨∃ r own,x=.sl r 0 l.length ks.length∧H[r]?=some ⟨rows Rw.cs l,own,true⟩
def SlotOk (W:World)(s:Reg×Option Loc):Prop:=s.1.own=false∧∀ (ρ:Ren) l,s.2=some l→RegOk ρ W.heap.size W l s.1
theorem chunks {α:Type}(m:Nat)(p:List α→Prop):∀ (n:Nat)(cs:List α),cs.length=n*m→(∀ i,i<n→p ((cs.drop (i*m)).take m))→∃ rs:List (List α),rs.length=n∧rs.flatten=cs∧(∀ r∈rs,p r∧r.length=m)
 | 0,cs,hl,_=>⟨[],rfl,by simp at hl;simp[hl],by simp⟩
 | n+1,cs,hl,h=>by
  have h1:(cs.drop m).length=n*m:=by rw[List.length_drop,hl,Nat.add_mul];omega
  obtain⟨rs,r1,r2,r3⟩:=chunks m p n (cs.drop m) h1 (fun i hi=>by
   have:=h (i+1) (by omega)
   rw[List.drop_drop]
   rwa [Nat.add_mul,Nat.one_mul,Nat.add_comm] at this)
  refine⟨cs.take m :: rs,by simp[r1],by simp[r2],?_⟩
  intro r hr
  rcases List.mem_cons.1 hr with rfl | hr
  ·refine⟨by simpa using h 0 (by omega),?_⟩
   rw[List.length_take,hl,Nat.add_mul]
   omega
  ·exact r3 r hr
theorem map_rows {ks:List Kd}:∀ (rs:List (List Value)),(∀ r∈rs,r.length=ks.length∧∀ (i:Nat) k v,ks[i]?=some k→r[i]?=some v→k.ok v)→∃ l:List (Rw ks),l.length=rs.length∧rows Rw.cs l=rs.flatten.map .sc
 | [],_=>⟨[],rfl,rfl⟩
 | r :: rs,h=>by
  obtain⟨l,l1,l2⟩:=map_rows rs (fun q hq=>h q (by simp[hq]))
  refine⟨⟨r,h r (by simp)⟩ :: l,by simp[l1],?_⟩
  rw[kC,l2,List.flatten_cons,List.map_append]
  rfl
theorem slot {t e:TypeId}{ks:List Kd}{v:Value}{y:DataW H×List MemPlace}{n d:Nat}(ht:P.underlying t=some (.slice e))(hm:P.cellsOf e=ks.length)(hp:0<ks.length)(hk:vM P d e=some (ks.map .f))
  (h:DataW.trod enc P W 0 (fun _=>true) true n t [v]=some y) {u e2:TypeId} (hu:P.underlying u=some (.slice e2)) {b0:Nat} (hok:Cell.okWide P W .any b0 u v) :
  ∃ (l:List (Rw ks))(s:Reg×Option Loc)(x:Nat→AV),SlotOk W s∧(∀ (ρ:Ren) r,ρ r=s.2→VR ρ (x r) v)∧l.length≤9223372036854775807∧∀ r (G:qE),G[r]?=some s.1→IsR G (x r) l:=by
 rcases DataW.trod_slice ht h with ⟨hv,_⟩ | ⟨a,len,cap,elems,rest,n',rfl,hv,_,hb,hl,hc,he1,he2,hsp,_⟩
 ·simp only[List.cons.injEq,and_true] at hv
  subst hv
  refine⟨[],(⟨[],false,true⟩,none),fun _=>.sc (.slice none 0 0),⟨rfl,fun _ _ h=>by cases h⟩,fun _ _ _=>.sc _,by simp,fun _ _ _=>.inl ⟨rfl,rfl⟩⟩
 ·simp only[List.cons.injEq,and_true] at hv
  subst hv
  have hasp:a.spot=none∧∃ row cells,W.shape? a.block=some (row,cells):=by
   unfold Cell.okWide at hok
   simp only[hu] at hok
   unfold Cell.ok at hok
   simp only[hu] at hok
   obtain⟨_,_,_,h1,row,cells,h2,_⟩:=hok
   exact⟨h1,row,cells,h2⟩
  obtain⟨hspot,row,cells,hsh⟩:=hasp
  unfold World.shape? at hsh
  split at hsh
  case h_2=>cases hsh
  rename_i c elem fz hblk
  have hbl:a.block<W.heap.size:=(Array.getElem?_eq_some_iff.1 hblk).1
  have ea:a=⟨a.block,a.off,none⟩:=by cases a;simp_all
  have hadd:∀ i,a.add i=⟨a.block,a.off+i,none⟩:=fun i=>add_spot hspot i
  have hadd2:∀ i j,(a.add i).add j=⟨a.block,a.off+i+j,none⟩:=fun i j=>by rw[hadd,add_spot rfl]
  have hcell:∀ k,W.cell? ⟨a.block,k,none⟩=c[k]?:=fun k=>by simp[World.cell?,hblk]
  obtain⟨hr1,hr2⟩:=hsp rfl
  have each:∀ i,i<cap→∃ q yy,W.cells? 0 (a.add (i*P.cellsOf e)) (P.cellsOf e)=some q∧DataW.trod enc P W 0 (fun _=>true) true n' e q=some yy:=by
   intro i hi
   by_cases h1:i<len
   ·have:=he2 i h1
    rw[List.getElem?_eq_getElem (by omega),Option.bind_eq_some_iff] at this
    obtain⟨q,q1,q2⟩:=this
    exact⟨q,_,q1,q2⟩
   ·have:=hr2 (i - len) (by omega)
    rw[show len+(i - len)=i by omega,List.getElem?_eq_getElem (by omega),Option.bind_eq_some_iff] at this
    obtain⟨q,q1,q2⟩:=this
    exact⟨q,_,q1,q2⟩
  have eachc:∀ i,i<cap→∃ q yy,q.length=ks.length∧(∀ j,j<ks.length→c[a.off+i*ks.length+j]?=q[j]?)∧DataW.trod enc P W 0 (fun _=>true) true n' e q=some yy:=by
   intro i hi
   obtain⟨q,yy,q1,q2⟩:=each i hi
   obtain⟨_,q4,q5⟩:=World.cells?_some q1
   rw[hm] at q4 q5
   refine⟨q,yy,q4,fun j hj=>?_,q2⟩
   have:=q5 j hj
   rw[hadd2,hcell] at this
   exact this
  have hfit:a.off+cap*ks.length≤c.size∨cap=0:=by
   rcases Nat.eq_zero_or_pos cap with h0 | h0
   ·exact .inr h0
   ·obtain⟨q,yy,q1,q2,_⟩:=eachc (cap - 1) (by omega)
    have:=q2 (ks.length - 1) (by omega)
    rw[List.getElem?_eq_getElem (by omega)] at this
    have:=(Array.getElem?_eq_some_iff.1 this).1
    have e2:cap*ks.length=(cap - 1)*ks.length+ks.length:=by
     obtain⟨k,rfl⟩:∃ k,cap=k+1:=⟨cap - 1,by omega⟩
     rw[Nat.add_mul,Nat.one_mul,Nat.add_sub_cancel]
    exact .inl (by omega)
  rcases hfit with hfit | h0
  ·have hlm:len*ks.length≤cap*ks.length:=Nat.mul_le_mul_right _ hl
   let cs:=(c.toList.drop a.off).take (len*ks.length)
   have hcl:cs.length=len*ks.length:=by
    show ((c.toList.drop a.off).take (len*ks.length)).length=_
    have hcz:c.toList.length=c.size:=Array.length_toList
    rw[List.length_take,List.length_drop,hcz]
    omega
   obtain⟨rs,rs1,rs2,rs3⟩:=chunks ks.length (fun r=>∀ (i:Nat) k v,ks[i]?=some k→r[i]?=some v→k.ok v) len cs hcl (by
    intro i hi
    obtain⟨q,yy,q1,q2,q3⟩:=eachc i (by omega)
    have hq:(cs.drop (i*ks.length)).take ks.length=q:=by
     apply List.ext_getElem?
     intro j
     by_cases hj:j<ks.length
     ·have hij:i*ks.length+j<len*ks.length:=by
       have:(i+1)*ks.length≤len*ks.length:=Nat.mul_le_mul_right _ hi
       rw[Nat.add_mul,Nat.one_mul] at this
       omega
      rw[List.getElem?_take,if_pos hj,List.getElem?_drop,←q2 j hj]
      show ((c.toList.drop a.off).take (len*ks.length))[i*ks.length+j]?=_
      rw[List.getElem?_take,if_pos hij,List.getElem?_drop,Array.getElem?_toList,Nat.add_assoc]
     ·rw[List.getElem?_eq_none (by rw[List.length_take];omega),List.getElem?_eq_none (by omega)]
    rw[hq]
    intro j k v hk1 hv1
    have:=leaves_ok d n' e q yy _ hk q3 j (.f k) v (by rw[List.getElem?_map,hk1];rfl) hv1
    exact this)
   obtain⟨l,l1,l2⟩:=map_rows rs (fun r hr=>⟨(rs3 r hr).2,(rs3 r hr).1⟩)
   have hlen:l.length=len:=by rw[l1,rs1]
   have hrl:(rows Rw.cs l).length=len*ks.length:=by rw[jE (Rw.encs hp),hlen]
   refine⟨l,(⟨rows Rw.cs l,false,true⟩,some ⟨a.block,a.off,c.size⟩),fun r=>.sl r 0 len ks.length,⟨rfl,?_⟩,?_,by rw[hlen];exact Nat.le_trans hl (Nat.le_trans hc (by decide)),?_⟩
   ·intro ρ lc hlc
    simp only[Option.some.injEq] at hlc
    subst hlc
    refine⟨c,elem,fz,hblk,rfl,?_,?_,fun h=>(by cases h),fun _=>hbl⟩
    ·rw[hrl]
     exact Nat.le_trans (Nat.add_le_add_left hlm _) hfit
    ·rw[l2,rs2,List.length_map,hcl]
     refine⟨by rw[List.length_map],?_⟩
     intro i x z hx hz
     rw[List.getElem?_map] at hx
     have:cs[i]?=some z:=hz
     rw[this] at hx
     simp at hx
     subst hx
     exact .sc _
   ·intro ρ r hr
    rw[ea]
    have:=VR.sl (ρ:=ρ) (r:=r) (off:=0) (len:=len) (sz:=ks.length) (cap:=cap) (l:=⟨a.block,a.off,c.size⟩) hr hl (by simpa using hfit)
    simpa using this
   ·intro r G hG
    exact .inr ⟨r,false,by rw[hlen],hG⟩
  ·have hl0:len=0:=by omega
   subst hl0
   subst h0
   refine⟨[],(⟨rows Rw.cs ([]:List (Rw ks)),false,true⟩,some ⟨a.block,0,c.size⟩),fun r=>.sl r 0 0 ks.length,⟨rfl,?_⟩,?_,by simp,?_⟩
   ·intro ρ lc hlc
    simp only[Option.some.injEq] at hlc
    subst hlc
    refine⟨c,elem,fz,hblk,rfl,by simp[rows],?_,fun h=>(by cases h),fun _=>hbl⟩
    simp only[rows,List.map_nil,List.flatten_nil,List.length_nil,List.take_zero]
    exact LR.nil
   ·intro ρ r hr
    rw[ea]
    exact .sl0 hr
   ·intro r G hG
    exact .inr ⟨r,false,rfl,hG⟩
def CellSpec (l:Leaf)(v:Value)(x:AV)(g:Reg)(r:Nat):Prop:=
 match l with
 | .f k=>x=.sc v∧k.ok v
 | .l _ ks=>∃ q:List (Rw ks),q.length≤9223372036854775807∧∀ G:qE,G[r]?=some g→IsR G x q
theorem open_cells:∀ (ls:List Leaf)(cs:List Value)(off:Nat),cs.length=ls.length→(∀ (i:Nat) l v,ls[i]?=some l→cs[i]?=some v→LeafOk enc P W 0 (fun _=>true) true l v) →
  (∀ (i:Nat) e ks v,ls[i]?=some (.l e ks)→cs[i]?=some v→∃ u e2 b0,P.underlying u=some (.slice e2)∧Cell.okWide P W .any b0 u v) →
  ∃ (S:List (Reg×Option Loc))(xs:List AV),S.length=ls.length∧(∀ p∈S,SlotOk W p)∧(∀ ρ:Ren,(∀ i p,S[i]?=some p→ρ (off+i)=p.2)→LR ρ xs cs) ∧
   ∀ (i:Nat) l v,ls[i]?=some l→cs[i]?=some v→∃ x p,xs[i]?=some x∧S[i]?=some p∧CellSpec l v x p.1 (off+i)
 | [],cs,off,hl,_,_=>⟨[],[],rfl,by simp,fun ρ _=>by
   have:cs=[]:=by simpa using hl
   subst this
   exact LR.nil,by simp⟩
 | l :: ls,[],off,hl,_,_=>by simp at hl
 | l :: ls,v :: cs,off,hl,h,hw=>by
  obtain⟨S,xs,s1,s2,s3,s4⟩:=open_cells ls cs (off+1) (by simpa using hl) (fun i l v a b=>h (i+1) l v a b) (fun i e ks v a b=>hw (i+1) e ks v a b)
  have key:∃ (p:Reg×Option Loc)(x:AV),SlotOk W p∧(∀ ρ:Ren,ρ off=p.2→VR ρ x v)∧CellSpec l v x p.1 off:=by
   have h0:=h 0 l v rfl rfl
   cases l with
   | f k=>exact⟨(⟨[],false,true⟩,none),.sc v,⟨rfl,fun _ _ h=>by cases h⟩,fun _ _=>.sc _,rfl,h0⟩
   | l e ks =>
    obtain⟨h1,h2,⟨d,h3⟩,t,n,y,h4,h5⟩:=h0
    obtain⟨u,e2,b0,u1,u2⟩:=hw 0 e ks v rfl rfl
    obtain⟨q,p,x,q1,q2,q4,q3⟩:=slot h4 h1 h2 h3 h5 u1 u2
    exact⟨p,x off,q1,fun ρ hρ=>q2 ρ off hρ,q,q4,fun G hG=>q3 off G hG⟩
  obtain⟨p,x,k1,k2,k3⟩:=key
  refine⟨p :: S,x :: xs,by simp[s1],?_,?_,?_⟩
  ·intro q hq
   rcases List.mem_cons.1 hq with rfl | hq
   ·exact k1
   ·exact s2 q hq
  ·intro ρ hρ
   refine LR.cons (k2 ρ (hρ 0 p rfl)) (s3 ρ fun i q hq=>?_)
   have:=hρ (i+1) q hq
   rwa [show off+(i+1)=off+1+i by omega] at this
  ·intro i l' v' hl' hv'
   cases i with
   | zero =>
    simp at hl' hv'
    subst hl' hv'
    exact⟨x,p,rfl,rfl,k3⟩
   | succ i =>
    obtain⟨x',p',a1,a2,a3⟩:=s4 i l' v' hl' hv'
    rw[show off+1+i=off+(i+1) by omega] at a3
    exact⟨x',p',a1,a2,a3⟩
theorem entryS {f:FuncId}{v:Value}{ags:List AV}{H':qE}(S:List (Reg×Option Loc))(hs:Sound P f ags (S.map (·.1)) (.sc v) H')(cargs:Array Value)(hS:∀ p∈S,SlotOk W p)
  (hA:LR (fun r=>(S[r]?).bind (·.2)) ags cargs.toList) (hg:Gl W.heap.size W:=by exact Gl.none rfl):Calls P f cargs W fun e w'=>e=.returned v∧RowKit.Below W.heap.size W w':=by
 refine entry hs W cargs _ ?_ ?_ hA hg
 ·intro r g l hg hr
  rw[List.getElem?_map] at hg
  cases hp:S[r]? with
  | none=>simp[hp] at hg
  | some p =>
   simp only[hp,Option.map_some,Option.some.injEq] at hg
   simp only[hp,Option.bind_some] at hr
   subst hg
   obtain⟨o1,o2⟩:=hS p (List.mem_of_getElem? hp)
   exact⟨o2 _ l hr,o1⟩
 ·intro r l hr
  cases hp:S[r]? with
  | none=>simp[hp] at hr
  | some p=>exact⟨p.1,by rw[List.getElem?_map,hp];rfl⟩
def slicesPos (P:Program):Bool:=(List.range P.types.size).all fun t=>match P.underlying t with | some (.slice e)=>decide (0<P.cellsOf e) | _=>true
theorem trodAll_stays {W':World}{sp':Nat→Bool}(h1:laidOutB P=true)(h2:mapsRowed P=true)(h3:slicesPos P=true)(bel:RowKit.Below W.heap.size W W')(hsp:∀ b,b<W.heap.size→sp' b=true):∀ {ts:List TypeId}{vs:List Value}{ds:List (DataW H)}{ps:List MemPlace},(∀ t∈ts,t<P.types.size)→DataW.TrodAll enc P W base (fun _=>true) true ts vs ds ps→DataW.TrodAll enc P W' base sp' true ts vs ds ps
 | [],[],[],_,_,h=>h
 | t :: _,_ :: _,_ :: _,_,hts,⟨a,b,⟨n,h4⟩,h5,e⟩=>by
  have hlt:=DataW.trod_lt n _ _ _ h4
  refine⟨a,b,⟨n,DataW.trod_stays (kids_rows h1 h2) (fun {t e} ht hu=>?_) (fun h=>by cases h) (hts t (by simp)) h4 (fun p hp=>?_) fun p hp=>hsp _ (hlt p hp)⟩,trodAll_stays h1 h2 h3 bel hsp (fun t ht=>hts t (by simp[ht])) h5,e⟩
  ·have:=List.all_eq_true.1 h3 t (List.mem_range.2 ht)
   rw[hu] at this
   simpa using this
  ·have hl:=hlt p hp
   cases p with
   | cell b off =>
    show W'.cell? ⟨b,off,none⟩=W.cell? ⟨b,off,none⟩
    simp only[World.cell?,bel.block b hl]
   | map b=>exact bel.block b hl
theorem open_one {t:TypeId}{v:Value}{d:DataW H}{p:List MemPlace}{b0:Nat}(l:Leaf)(D:Nat)(hl:vM P D t=some [l])(hv:Value.okWide P W .any b0 t v)(hcw:∀ e ks,l=.l e ks→∃ e2,P.underlying t=some (.slice e2))
  (hvc:v.cells.toList=[v]) (h:DataW.Trod enc P W 0 (fun _=>true) true t v d p) (off:Nat) :
  ∃ (X:AV)(G:Reg×Option Loc),SlotOk W G∧(∀ ρ:Ren,ρ off=G.2→VR ρ X v)∧CellSpec l v X G.1 off:=by
 obtain⟨n,hn⟩:=h
 rw[hvc] at hn
 obtain⟨S,xs,s1,s2,s3,s4⟩:=open_cells [l] [v] off rfl (leaves_ok D n t [v] _ [l] hl hn) (fun i e ks u hi hvi=>by
  cases i with
  | zero =>
   simp at hi hvi
   subst hi hvi
   obtain⟨e2,he⟩:=hcw e ks rfl
   refine⟨t,e2,b0,he,?_⟩
   unfold Value.okWide at hv
   simpa only[he] using hv
  | succ i=>simp at hi)
 obtain⟨x,p,a1,a2,a3⟩:=s4 0 l v rfl rfl
 refine⟨x,p,s2 p (List.mem_of_getElem? a2),fun ρ hρ=>?_,a3⟩
 have:=s3 ρ (fun i q hq=>by
  have hi:=(List.getElem?_eq_some_iff.1 hq).1
  rw[s1] at hi
  obtain rfl:i=0:=by simpa using hi
  rw[a2] at hq
  simp only[Option.some.injEq] at hq
  rw[←hq]
  exact hρ)
 exact this.2 0 x v a1 rfl
theorem slot_at (A B:List (Reg×Option Loc))(n:Nat)(G:Nat→Reg×Option Loc)(off i:Nat)(hA:A.length=off)(hi:i<n):((A++((List.range n).map G++B))[off+i]?).bind (·.2)=(G i).2:=by
 subst hA
 rw[List.getElem?_append_right (by omega),Nat.add_sub_cancel_left,List.getElem?_append_left (by simpa using hi),List.getElem?_map,List.getElem?_range hi]
 rfl
theorem slots_ok {n:Nat}{G:Nat→Reg×Option Loc}(h:∀ i,SlotOk W (G i)){B:List (Reg×Option Loc)}(hB:∀ p∈B,SlotOk W p):∀ p∈(List.range n).map G++B,SlotOk W p:=by
 intro p hp
 rcases List.mem_append.1 hp with hp | hp
 ·obtain⟨i,_,rfl⟩:=List.mem_map.1 hp
  exact h i
 ·exact hB p hp
theorem slots_nil:∀ p∈([]:List (Reg×Option Loc)),SlotOk W p:=fun p hp=>by cases hp
def Rw.int1 {k:IntKind}(r:Rw [.i k]):Int:=match r.val with | [.int _ n]=>n | _=>0
theorem rows_int1 {k:IntKind}:∀ l:List (Rw [.i k]),rows Rw.cs l=ints k (l.map Rw.int1)
 | []=>rfl
 | ⟨r,h1,h2⟩ :: l=>by
  rw[kC,rows_int1 l]
  match r,h1,h2 with
  | [v],h1,h2 =>
   obtain⟨n,rfl,_⟩:=h2 0 (.i k) v rfl rfl
   rfl
theorem IsR.ints {k:IntKind}{G:qE}{x:AV}{l:List (Rw [.i k])}(h:IsR G x l):IsL G x k (l.map Rw.int1):=by
 rcases h with ⟨rfl,rfl⟩ | ⟨r,own,rfl,h⟩
 ·exact .nil _ _
 ·rw[rows_int1] at h
  exact .at h (by simp)
end
theorem uE {P:Program}{ops:Array Oper}{K:St→Prop}{n:Nat}{T:Nat→AV}{H:qE}{d:Tmp}{ty:TypeId}{pos:String}{af:Array Edge}{op:Op}{j:Nat}{want:Bool}(h:wE ops (qY n T) j=none):kR P ops ⟨some d,op,ty,pos,af,some (j,want)⟩ K ⟨qY n T,H⟩=K ⟨qY n (jB T d und),H⟩:=by
 rw[g_guard]
 simp only[h]
 have:((none:Option Bool) == some want)=false:=rfl
 simp only[this,St.put,uL]
theorem bo_v:boolOf und=none:=rfl
theorem yD (H Y:qE):(H++Y)[H.length]?=Y[0]?:=by
 rw[List.getElem?_append_right (Nat.le_refl _),Nat.sub_self]
theorem wO (H Y:qE)(k:Nat):(H++Y)[H.length+k]?=Y[k]?:=by
 rw[List.getElem?_append_right (by omega),Nat.add_sub_cancel_left]
theorem kY (H Y:qE)(g:Reg):(H++Y).set H.length g=H++Y.set 0 g:=by
 rw[List.set_append_right _ _ (Nat.le_refl _),Nat.sub_self]
theorem hset_k (H Y:qE)(k:Nat)(g:Reg):(H++Y).set (H.length+k) g=H++Y.set k g:=by
 rw[List.set_append_right _ _ (by omega),Nat.add_sub_cancel_left]
theorem hkill_k (H Y:qE)(k:Nat):yG (H++Y) (H.length+k)=H++uM (H.length+Y.length) Y k:=by
 simp only[yG,uM,List.length_append]
 apply List.ext_getElem?
 intro i
 rw[List.getElem?_modify]
 by_cases h:i<H.length
 ·have:¬ H.length+k=i:=by omega
  simp only[List.getElem?_append_left h,this,if_false]
  cases H[i]?<;>rfl
 ·rw[List.getElem?_append_right (by omega),List.getElem?_append_right (by omega),List.getElem?_modify]
  have e:(H.length+k=i)=(k=i - H.length):=propext ⟨fun h=>by omega,fun h=>by omega⟩
  simp only[e]
theorem hkill_0 (H Y:qE):yG (H++Y) H.length=H++uM (H.length+Y.length) Y 0:=hkill_k H Y 0
theorem qP {H:qE}{r:Nat}{g:Reg}(h:H[r]?=some g):r<H.length:=(List.getElem?_eq_some_iff.1 h).1
theorem uR (H:qE)(q r:Nat)(h:r≠q):(yG H q)[r]?=H[r]?:=by
 simp only[yG,uM,List.getElem?_modify]
 have:¬ q=r:=fun e=>h e.symm
 simp[this]
def Ext (H Z:qE):Prop:=H.length≤Z.length∧∀ i,i<H.length→Z[i]?=H[i]?
theorem Ext.refl (H:qE):Ext H H:=⟨Nat.le_refl _,fun _ _=>_root_.rfl⟩
theorem Ext.trans {H Z Y:qE}(a:Ext H Z)(b:Ext Z Y):Ext H Y:=⟨Nat.le_trans a.1 b.1,fun i h=>(b.2 i (Nat.lt_of_lt_of_le h a.1)).trans (a.2 i h)⟩
theorem Ext.more (H Y:qE):Ext H (H++Y):=⟨by rw[List.length_append];omega,fun i h=>yS _ _ _ h⟩
theorem Ext.kill {H Z:qE}(a:Ext H Z){q:Nat}(hq:H.length≤q):Ext H (yG Z q):=⟨by rw[yZ];exact a.1,fun i h=>(uR _ _ _ (by omega)).trans (a.2 i h)⟩
theorem Ext.set {H Z:qE}(a:Ext H Z){q:Nat}(hq:H.length≤q)(g:Reg):Ext H (Z.set q g):=⟨by rw[List.length_set];exact a.1,fun i h=>(List.getElem?_set_ne (by omega)).trans (a.2 i h)⟩
theorem Ext.add {H Z:qE}(a:Ext H Z)(Y:qE):Ext H (Z++Y):=a.trans (.more _ _)
theorem Ext.at {H Z:qE}(a:Ext H Z){r:Nat}{g:Reg}(h:H[r]?=some g):Z[r]?=some g:=(a.2 r (qP h)).trans h
theorem Ext.isL {H Z:qE}(a:Ext H Z){y:AV}{k:IntKind}{l:List Int}(h:IsL H y k l):IsL Z y k l:=by
 rcases h with ⟨rfl,rfl⟩ | ⟨q,o,rfl,hq⟩
 ·exact .nil _ _
 ·exact .inr ⟨q,o,_root_.rfl,a.at hq⟩
theorem qS {P:Program}{ops:Array Oper}{hs:List St}{j k:Nat}(t:TypeId)(x:Operand)(r off:Nat)(ho:(yP ops j).op=.load t x)(hv:ev (hs.getD (ops.size - j) ⟨[],[]⟩).ts x=.ptr r off)(h:(hs.getD (ops.size - k) ⟨[],[]⟩).H[r]?=(hs.getD (ops.size - j) ⟨[],[]⟩).H[r]?):wK P ops hs (j,k):=fun _=>.inr <| by
 show xH P (hs.getD (ops.size - j) ⟨[],[]⟩).ts (yP ops j).op (hs.getD (ops.size - k) ⟨[],[]⟩).H=xH P (hs.getD (ops.size - j) ⟨[],[]⟩).ts (yP ops j).op (hs.getD (ops.size - j) ⟨[],[]⟩).H
 rw[ho]
 simp only[xH,hv,wR,h]
section
variable {ks : List Kd}
theorem IsR.nil (H:qE):IsR H (.sc (.slice none 0 0)) ([]:List (Rw ks)):=.inl ⟨rfl,rfl⟩
theorem IsR.len {H:qE}{x:AV}{l:List (Rw ks)}(e:TypeId)(h:IsR H x l):lenV (some (.slice e)) x=some (.sc (.int .i64 l.length)):=by
 rcases h with ⟨rfl,rfl⟩ | ⟨r,own,rfl,_⟩<;>rfl
theorem IsR.get {H:qE}{x:AV}{l:List (Rw ks)}(h:IsR H x l){i:Nat}(hi:i<l.length):∃ r own,x=.sl r 0 l.length ks.length∧H[r]?=some ⟨rows Rw.cs l,own,true⟩:=by
 rcases h with ⟨rfl,rfl⟩ | h
 ·simp at hi
 ·exact h
theorem IsR.one {H:qE}{x:AV}{l:List (Rw ks)}(h:IsR H x l):x.cells=[x]∧x.one=true:=by
 rcases h with ⟨rfl,rfl⟩ | ⟨r,own,rfl,_⟩<;>exact⟨rfl,rfl⟩
theorem Ext.isR {H Z:qE}(a:Ext H Z){y:AV}{l:List (Rw ks)}(h:IsR H y l):IsR Z y l:=by
 rcases h with ⟨rfl,rfl⟩ | ⟨q,o,rfl,hq⟩
 ·exact .nil _
 ·exact .inr ⟨q,o,_root_.rfl,a.at hq⟩
def Kd.zero:Kd→Value
 | .b=>.bool false
 | .s=>.string ByteArray.empty
 | .i k=>.int k 0
theorem Kd.zero_ok (k:Kd):k.ok k.zero:=by
 cases k with
 | b=>exact⟨_,rfl⟩
 | s=>exact⟨_,rfl,by decide⟩
 | i k=>exact⟨_,rfl,by cases k<;>rfl⟩
def Rw.zero (ks:List Kd):Rw ks:=⟨ks.map Kd.zero,by rw[List.length_map],fun i k v h1 h2=>by
 rw[List.getElem?_map,h1] at h2
 simp only[Option.map_some,Option.some.injEq] at h2
 subst h2
 exact k.zero_ok⟩
def Rw.int (r:Rw ks)(j:Nat):Int:=match r.val[j]? with | some (.int _ n)=>n | _=>0
theorem Rw.int_at (r:Rw ks)(j:Nat){k:IntKind}(h:ks[j]?=some (.i k)):r.cs[j]?=some (.sc (.int k (r.int j)))∧(Lit.int k (r.int j)).wf=true:=by
 have hv:=List.getElem?_eq_getElem (by rw[r.ok.1];exact(List.getElem?_eq_some_iff.1 h).1:j<r.val.length)
 obtain⟨n,hn,hw⟩:=r.ok.2 j _ _ h hv
 rw[hn] at hv
 have e:r.int j=n:=by simp only[Rw.int,hv]
 rw[e]
 exact⟨by rw[Rw.cs,List.getElem?_map,hv];rfl,hw⟩
theorem Rw.cs_len (r:Rw ks):r.cs.length=ks.length:=by rw[Rw.cs,List.length_map];exact r.ok.1
theorem wf_le {n:Int}(h:(Lit.int .i64 n).wf=true):n≤9223372036854775807:=by
 simp only[Lit.wf,Bool.and_eq_true,decide_eq_true_eq] at h
 exact h.2
end
theorem xZ (a:AV)(cs:List AV)(y:AV)(ys:List AV):qW (a :: cs) 0 (y :: ys)=y :: qW cs 0 ys:=by simp[qW]
theorem xY (cs:List AV):qW cs 0 []=cs:=by simp[qW]
abbrev kChan:List Kd:=[.i .i64,.i .i64,.i .i64,.i .i64,.i .i64,.i .i64,.i .i64,.i .i64,.i .i64]
abbrev kSess:List Kd:=[.i .i64,.i .i64,.i .i64,.i .i64,.i .i64,.i .i64,.i .i64,.i .i64,.i .i64,.i .i64,.i .i64,.i .i64,.i .i64,.i .i64,.i .i64,.i .i64,.i .i64,.i .i64,.i .i64,.i .i64]
abbrev kOut:List Kd:=[.i .i64,.i .i64,.i .i64,.i .i64,.i .i64]
theorem yK:Enc (Rw.cs (ks:=kSess)) 20:=Rw.encs (by decide)
theorem jX:Enc (Rw.cs (ks:=kOut)) 5:=Rw.encs (by decide)
abbrev kLease:List Kd:=[.i .i64,.i .i64]
abbrev xM:List Kd:=[.i .i64,.i .i64,.i .i64]
theorem yW:Enc (Rw.cs (ks:=kLease)) 2:=Rw.encs (by decide)
theorem xT:Enc (Rw.cs (ks:=xM)) 3:=Rw.encs (by decide)
abbrev kClient:List Kd:=[.i .i64,.i .i64,.i .i64,.i .i64,.i .i64,.b,.i .i64,.i .i64,.i .i64,.i .i64,.i .i64,.i .i64,.i .i64,.i .i64,.i .i64,.i .i64,.i .i64,.i .i64,.i .i64,.i .i64,.i .i64,.i .i64,.i .i64]
theorem xI:Enc (Rw.cs (ks:=kClient)) 23:=Rw.encs (by decide)
abbrev qK:List Kd:=[.i .i64,.i .i64,.i .i64,.i .i64]
theorem yU:Enc (Rw.cs (ks:=qK)) 4:=Rw.encs (by decide)
theorem jY (r:Rw qK):r.cs=[.sc (.int .i64 (r.int 0)),.sc (.int .i64 (r.int 1)),.sc (.int .i64 (r.int 2)),.sc (.int .i64 (r.int 3))]:=by
 have e0:=(r.int_at 0 (k:=.i64) rfl).1
 have e1:=(r.int_at 1 (k:=.i64) rfl).1
 have e2:=(r.int_at 2 (k:=.i64) rfl).1
 have e3:=(r.int_at 3 (k:=.i64) rfl).1
 have hl:=r.cs_len
 generalize r.cs=z at *
 match z,hl with
 | [x0,x1,x2,x3],_ =>
  simp only[List.getElem?_cons_zero,List.getElem?_cons_succ,Option.some.injEq] at e0 e1 e2 e3
  rw[e0,e1,e2,e3]
abbrev kT:List Kd:=[.i .i64,.i .i64,.i .i64]
theorem uF:Enc (Rw.cs (ks:=kT)) 3:=Rw.encs (by decide)
theorem csLetter (r:Rw kT):r.cs=[.sc (.int .i64 (r.int 0)),.sc (.int .i64 (r.int 1)),.sc (.int .i64 (r.int 2))]:=by
 have e0:=(r.int_at 0 (k:=.i64) rfl).1
 have e1:=(r.int_at 1 (k:=.i64) rfl).1
 have e2:=(r.int_at 2 (k:=.i64) rfl).1
 have hl:=r.cs_len
 generalize r.cs=z at *
 match z,hl with
 | [x0,x1,x2],_ =>
  simp only[List.getElem?_cons_zero,List.getElem?_cons_succ,Option.some.injEq] at e0 e1 e2
  rw[e0,e1,e2]
abbrev kA:List Kd:=[.i .i64,.i .i64,.i .i64,.i .i64,.i .i64,.i .i64,.b]
theorem xG:Enc (Rw.cs (ks:=kA)) 7:=Rw.encs (by decide)
theorem inS (a lo hi:Int):Fn Tryz.prog 27 [.sc (.int .i64 a),.sc (.int .i64 lo),.sc (.int .i64 hi)] (.sc (.bool (decide (lo≤a∧a≤hi)))):=by
 refine Fn.run 15 [.tmp 6] Tryz.func27 rfl rfl rfl rfl (by simp) (qV (.sc _) (qV (.sc _) (qV (.sc _) yV))) (.sc _) ?_
 by_cases h1:lo≤a<;>by_cases h2:a≤hi<;>simp +decide -implicitDefEqProofs only[↓w_seq,↓w_skip,↓w_ret,↓w_exit,↓w_block,↓w_cond,↓w_region,↓ops_nil,↓ops_cons,↓dops_0,↓dops_p,↓dops_cons,↓g_move,↓g_assign,↓g_binOp,↓g_unOp,↓g_pick,↓g_len,↓g_index,↓g_indexAddr,↓g_slice,↓g_convert,↓g_load,↓g_store,↓g_extract,↓g_nilCheck,↓g_fieldT,↓g_fieldAddrT,of_agg,rd_aggc,rd_onec,wr_c,yF,xJ,yI,xN,xU,cells_ptr,yO,one_int,one_str,one_bool,one_nil,one_sl,one_ptr,over_0,over_s,List.all_cons,List.all_nil,Bool.and_true,Bool.and_self,List.getElem?_nil,List.drop_succ_cons,List.drop_nil,↓g_call,↓g_guard_t,↓g_guard_f,↓g_alloc,↓g_box,↓g_buildSlice,↓g_makeSlice,↓g_buildV,rdA,wrA,vY,List.length_replicate,bools_one,strs_one,rd_bools,rd_strs,wr_bools,wr_strs,at_bools,at_strs,ap_bools,ap_boolsN,ap_strs,ap_strsN,↓g_append,src_sl,src_nil,src_str,ap_ints,ap_intsN,yZ,kill_0,kill_s,killAt_0,killAt_s,bnd_none,bnd_int,cut_str,cutS_some,cut_sl,cutL_some,bits_i64,bits_u32,bits_u8,List.getD_cons_zero,List.getD_cons_succ,yA,at_a,at_b,yielded_tab,dstAt_0,dstAt_s,ybv_some,boolOf_b,ext_0,ext_1,ext_2,ext_3,alK_some,ev_tab,ev_const,upd_eq,upd_ne,par0,par1,par2,par3,par4,par5,of_int,of_str,of_bool,len_str,len_arr,len_sl,idx_str,adr_sl,adr_arr,c_int,c_str,c_bytes,c_text,pick_b,onS_some,onS_ite,onS_not,b_add,b_sub,b_mul,b_and,b_or,b_xor,b_eql,b_neq,b_lss,b_leq,b_gtr,b_geq,b_shl,b_shr,b_quo,b_rem,t_add,t_eql,t_neq,v_eql,v_neq,b_andNot,u_not,onB_true,onB_false,onB_dec,onB_not,ret_cell,ret_ct,retP_0,retP_1,retP_2,retP_3,res_tmp,res_cell,ret_one,ret_two,ret_three,ret_none,List.set_set,if_true,if_false,ite_true,ite_false,List.map_cons,List.map_nil,Option.map_some,Option.map_none,List.toList_toArray,rd_def,rd_ints,wr_def,wr_ints,at_def,at_ints,bytes_ints,bytesA_ints,ints_set,wV,List.length_nil,List.length_cons,List.length_set,List.length_append,List.nil_append,List.cons_append,List.getElem?_cons_zero,List.getElem?_cons_succ,List.set_cons_zero,List.set_cons_succ,List.drop_zero,List.take_succ_cons,List.take_zero,List.take_length,Option.bind_some,true_and,and_true,Nat.zero_add,Nat.mul_one,Int.toNat_zero,Int.reduceToNat,Int.reduceAdd,Int.reduceSub,Int.reduceMul,Int.reduceNeg,Nat.reduceAdd,Nat.reduceSub,Nat.reduceMul,Nat.reducePow,Nat.min_eq_left,Int.reducePow,Nat.le_refl,Int.cast_ofNat_Int,Nat.reduceLT,Nat.reduceLeDiff,Nat.reduceEqDiff,Int.reduceLE,Int.reduceLT,Int.reduceEq,ne_eq,not_false_eq_true,not_true_eq_false,reduceCtorEq,decide_true,decide_false,and_self,and_false,false_and,Bool.not_true,Bool.not_false,h1,h2]<;>simp[h1,h2]
theorem inI (a lo hi:Int):Fn Tryz.prog 24 [.sc (.int .i64 a),.sc (.int .i64 lo),.sc (.int .i64 hi)] (.sc (.bool (decide (lo≤a∧a≤hi)))):=by
 refine Fn.run 15 [.tmp 6] Tryz.func24 rfl rfl rfl rfl (by simp) (qV (.sc _) (qV (.sc _) (qV (.sc _) yV))) (.sc _) ?_
 by_cases h1:lo≤a<;>by_cases h2:a≤hi<;>simp +decide -implicitDefEqProofs only[↓w_seq,↓w_skip,↓w_ret,↓w_exit,↓w_block,↓w_cond,↓w_region,↓ops_nil,↓ops_cons,↓dops_0,↓dops_p,↓dops_cons,↓g_move,↓g_assign,↓g_binOp,↓g_unOp,↓g_pick,↓g_len,↓g_index,↓g_indexAddr,↓g_slice,↓g_convert,↓g_load,↓g_store,↓g_extract,↓g_nilCheck,↓g_fieldT,↓g_fieldAddrT,of_agg,rd_aggc,rd_onec,wr_c,yF,xJ,yI,xN,xU,cells_ptr,yO,one_int,one_str,one_bool,one_nil,one_sl,one_ptr,over_0,over_s,List.all_cons,List.all_nil,Bool.and_true,Bool.and_self,List.getElem?_nil,List.drop_succ_cons,List.drop_nil,↓g_call,↓g_guard_t,↓g_guard_f,↓g_alloc,↓g_box,↓g_buildSlice,↓g_makeSlice,↓g_buildV,rdA,wrA,vY,List.length_replicate,bools_one,strs_one,rd_bools,rd_strs,wr_bools,wr_strs,at_bools,at_strs,ap_bools,ap_boolsN,ap_strs,ap_strsN,↓g_append,src_sl,src_nil,src_str,ap_ints,ap_intsN,yZ,kill_0,kill_s,killAt_0,killAt_s,bnd_none,bnd_int,cut_str,cutS_some,cut_sl,cutL_some,bits_i64,bits_u32,bits_u8,List.getD_cons_zero,List.getD_cons_succ,yA,at_a,at_b,yielded_tab,dstAt_0,dstAt_s,ybv_some,boolOf_b,ext_0,ext_1,ext_2,ext_3,alK_some,ev_tab,ev_const,upd_eq,upd_ne,par0,par1,par2,par3,par4,par5,of_int,of_str,of_bool,len_str,len_arr,len_sl,idx_str,adr_sl,adr_arr,c_int,c_str,c_bytes,c_text,pick_b,onS_some,onS_ite,onS_not,b_add,b_sub,b_mul,b_and,b_or,b_xor,b_eql,b_neq,b_lss,b_leq,b_gtr,b_geq,b_shl,b_shr,b_quo,b_rem,t_add,t_eql,t_neq,v_eql,v_neq,b_andNot,u_not,onB_true,onB_false,onB_dec,onB_not,ret_cell,ret_ct,retP_0,retP_1,retP_2,retP_3,res_tmp,res_cell,ret_one,ret_two,ret_three,ret_none,List.set_set,if_true,if_false,ite_true,ite_false,List.map_cons,List.map_nil,Option.map_some,Option.map_none,List.toList_toArray,rd_def,rd_ints,wr_def,wr_ints,at_def,at_ints,bytes_ints,bytesA_ints,ints_set,wV,List.length_nil,List.length_cons,List.length_set,List.length_append,List.nil_append,List.cons_append,List.getElem?_cons_zero,List.getElem?_cons_succ,List.set_cons_zero,List.set_cons_succ,List.drop_zero,List.take_succ_cons,List.take_zero,List.take_length,Option.bind_some,true_and,and_true,Nat.zero_add,Nat.mul_one,Int.toNat_zero,Int.reduceToNat,Int.reduceAdd,Int.reduceSub,Int.reduceMul,Int.reduceNeg,Nat.reduceAdd,Nat.reduceSub,Nat.reduceMul,Nat.reducePow,Nat.min_eq_left,Int.reducePow,Nat.le_refl,Int.cast_ofNat_Int,Nat.reduceLT,Nat.reduceLeDiff,Nat.reduceEqDiff,Int.reduceLE,Int.reduceLT,Int.reduceEq,ne_eq,not_false_eq_true,not_true_eq_false,reduceCtorEq,decide_true,decide_false,and_self,and_false,false_and,Bool.not_true,Bool.not_false,h1,h2]<;>simp[h1,h2]
def dgs (n:Nat):List Int:=if n=0 then [] else dgs (n / 10)++[((48+n % 10:Nat):Int)]
termination_by n
decreasing_by omega
theorem dgs_0:dgs 0=[]:=by rw[dgs,if_pos rfl]
theorem dgs_s {n:Nat}(h:0<n):dgs n=dgs (n / 10)++[((48+n % 10:Nat):Int)]:=by rw[dgs,if_neg (by omega)]
def decL (n:Nat):List Int:=if n=0 then [48] else dgs n
def wZ (n:Nat):ByteArray:=strOfNums (decL n)
theorem dgs_len (k:Nat):∀ n,n<10 ^ k→(dgs n).length≤k:=by
 induction k with
 | zero =>
  intro n h
  have:n=0:=by simpa using h
  subst this
  rw[dgs_0];simp
 | succ k ih =>
  intro n h
  by_cases h0:n=0
  ·subst h0;rw[dgs_0];simp
  ·rw[dgs_s (by omega),List.length_append]
   have:=ih (n / 10) (by rw[Nat.pow_succ] at h;omega)
   simp;omega
theorem yM (n:Nat)(h:n≤9223372036854775807):(wZ n).size≤20:=by
 rw[wZ,son_size,decL]
 split
 ·simp
 ·exact dgs_len 20 n (by omega)
theorem dec_digits (n:Nat):xO ⟨(Lib.decDigits n).toArray⟩=decL n:=by
 have hm:∀ l:List UInt8,xO ⟨l.toArray⟩=l.map fun b=>((b.toNat:Nat):Int):=fun l=>by simp[xO]
 rw[hm]
 induction n using Nat.strongRecOn with
 | _ n ih =>
  have hb:∀ d,d<10→(((UInt8.ofNat (48+d)).toNat:Nat):Int)=((48+d:Nat):Int):=fun d hd=>by
   rw[UInt8.toNat_ofNat_of_lt' (by show 48+d<256;omega)]
  rw[Lib.decDigits]
  split
  ·rename_i h
   by_cases h0:n=0
   ·subst h0;rfl
   ·rw[decL,if_neg h0,dgs_s (by omega),show n / 10=0 by omega,dgs_0,show n % 10=n by omega]
    simp[hb n h]
    try omega
  ·rename_i h
   rw[List.map_append,ih (n / 10) (by omega),decL,if_neg (by omega),decL,if_neg (by omega),dgs_s (n:=n) (by omega)]
   simp[hb (n % 10) (by omega)]
   try omega
theorem rel_moreI {M N base:Nat}{ρ:Ren}{h:Nat→Option Reg}{w w':World}(hR:Rel M ρ base h w)(hos:w'.os=w.os)(ht:w'.tape=w.tape)(ho:w'.output=w.output)(hs:w.heap.size≤w'.heap.size)(hf:∀ b,b<w.heap.size→w'.heap[b]?=w.heap[b]?):Rel M ρ base h w'∧Grow M N ρ h w ρ h w':=
 ⟨⟨⟨Nat.le_trans hR.bs.1 hs,hR.bs.2.keep fun b hb=>hf b (Nat.lt_of_lt_of_le hb hR.bs.1)⟩,fun r l h=>Nat.lt_of_lt_of_le (hR.lt r l h) hs,hR.dom,hR.top,fun r g l h1 h2 h3=>(hR.reg r g l h1 h2 h3).mono (fun _ _ h=>h) (hf _ (hR.lt r l h3)),hR.inj⟩,⟨hos,ht,ho,hs,fun b hb _=>hf b hb,fun _ _ h=>h,fun _ _ _ _ k=>⟨k,rfl⟩,fun _ _ a b=>(by rw[a] at b;cases b),fun _ _ _ a b c=>(by rw[a] at b;injection b with b;subst b;exact⟨c,rfl⟩),fun _ g k=>⟨g,k⟩,fun _ _=>rfl,fun _ _ a _=>⟨a,rfl⟩,Grow.alive fun _ _ a _=>a⟩⟩
theorem tab_is {base : Nat} {w : World} (h : Gl base w) : Lib.TabIs Tryz.prog w "internal/strconv.uint64pow10" .u64 Lib.pow10Tab := by
  obtain ⟨_, e, fz, h2⟩ := h _ (List.mem_cons_self ..)
  have hg : Tryz.prog.globalNamed "internal/strconv.uint64pow10" = some 0 := by kernel_rfl
  unfold Lib.TabIs World.var?
  rw [hg]
  simp only [Option.bind_some, h2]
  rfl
theorem itoaC (n:Nat)(hn:n≤9223372036854775807):Fn Tryz.prog 48 [.sc (.int .i64 n)] (.sc (.string (wZ n))):=by
 intro H
 refine⟨⟨_,_,Tryz.func48,rfl,rfl⟩,Nat.le_refl _,?_⟩
 intro M ρ base w cargs hM hR hA
 have he:cargs=#[.int .i64 n]:=by
  have:cargs.toList=[.int .i64 n]:=LR.scs_eq (vs:=[.int .i64 n]) hA
  rw[←this]
 subst he
 refine(Tryz.strconv_Itoa n (by omega) (by omega) w (tab_is hR.bs.2)).mono ?_
 rintro e w' ⟨rfl,k,os,rfl⟩
 obtain⟨R2,G2⟩:=rel_moreI (N:=H.length) (w':=Sort.grow (w.drewN k) os) hR rfl rfl rfl (by simp[Sort.grow,World.drewN]) (fun b hb=>by simp[Sort.grow,World.drewN,Array.getElem?_append,hb])
 refine⟨_,ρ,rfl,?_,R2,G2⟩
 have:(⟨(Lib.itoa n).toArray⟩:ByteArray)=wZ n:=by
  rw[Lib.itoa,if_neg (by omega),Int.toNat_natCast]
  rw[wZ,←dec_digits,son_nums]
 rw[this]
 exact .sc _
theorem figS (d:Nat)(h:d<10):Fn Tryz.prog 38 [.sc (.int .i64 d)] (.sc (.int .u8 ((48+d:Nat):Int))):=by
 refine Fn.run 12 [.tmp 2] Tryz.func38 rfl rfl rfl rfl (by simp) (qV (.sc _) yV) (.sc _) ?_
 have e2:IntKind.u8.wrap ((48+d:Nat):Int)=((48+d:Nat):Int):=by
  rw[IntKind.wrap_u8];omega
 simp only[↓zP,zQ,↓qC,(by omega:(d:Int)<10),(by rw[w64 (by omega) (by omega)];omega:IntKind.i64.wrap (48+(d:Int))=((48+d:Nat):Int)),e2]
theorem decS (n:Nat)(hn:n≤9223372036854775807):Fn Tryz.prog 23 [.sc (.int .i64 n)] (.sc (.string (wZ n))):=by
 refine Fn.run 30 [.tmp 2] Tryz.func23 rfl rfl rfl rfl (by simp) (qV (.sc _) yV) (.sc _) ?_
 by_cases h0:n=0
 ·subst h0
  have hz:wZ 0=(⟨#[48]⟩:ByteArray):=by decide +kernel
  rw[hz]
  simp only[↓zP,zQ,↓qC,Nat.reduceLT,reduceCtorEq,Int.reduceLT]
  try rfl
 ·have k0:¬ (n:Int)=0:=by omega
  have hd:wZ n=strOfNums (dgs n):=by rw[wZ,decL,if_neg h0]
  rw[hd]
  simp only[↓zP,zQ,↓qC,Nat.reduceLT,reduceCtorEq,k0,(by omega:¬ (n:Int)<0)]
  refine yL (ι:=Nat) (fun m s=>∃ (T:Nat→AV)(Z:qE)(l:List Int),s=⟨qY 30 T,Z⟩∧m≤n∧dgs m++l=dgs n∧l.length≤20∧T 0=.sc (.int .i64 m)∧T 3=.sc (.bool false)∧T 4=.sc (.string (strOfNums l))) (fun m=>m) ?_ (i:=n) ?_
  ·rintro m s ⟨T,Z,l,rfl,a1,a2,a3,t0,t3,t4⟩
   have hl:=dgs_len 20 n (by omega)
   by_cases h:m=0
   ·subst h
    have e:l=dgs n:=by rw[←a2,dgs_0];rfl
    simp only[↓zP,zQ,↓qC,Nat.reduceLT,t0,reduceCtorEq,Int.reduceEq,Nat.reduceEqDiff,t3,t4,e]
   ·have j0:¬ (m:Int)=0:=by omega
    have j1:((m:Int)).tmod 10=((m % 10:Nat):Int):=by rw[Int.tmod_eq_emod_of_nonneg (by omega)];omega
    have j2:((m:Int)).tdiv 10=((m / 10:Nat):Int):=by rw[Int.tdiv_eq_ediv_of_nonneg (by omega)];omega
    have j3:¬ ((m % 10:Nat):Int)<0:=by omega
    have j4:IntKind.i64.wrap ((m / 10:Nat):Int)=((m / 10:Nat):Int):=w64 (by omega) (by omega)
    have ten:¬ (10:Int)=0:=by decide
    have hle:l.length+1≤20:=by
     have:=congrArg List.length a2
     rw[dgs_s (by omega)] at this
     simp at this
     omega
    simp only[↓zP,zQ,↓qC,Nat.reduceLT,t0,j0,reduceCtorEq,ten,j1,Nat.reduceEqDiff,j3,t3,t4]
    refine qN rfl (figS (m % 10) (by omega)) ?_
    have hs2:(strOfNums [((48+m % 10:Nat):Int)]).size+(strOfNums l).size≤9223372036854775807:=by rw[son_size,son_size];simp;omega
    simp only[↓zP,zQ,Nat.reduceLT,Nat.reduceEqDiff,t4,reduceCtorEq,t0,ten,j2,j4,hs2,son_append]
    refine⟨m / 10,by omega,_,_,((48+m % 10:Nat):Int) :: l,rfl,by omega,?_,by simp;omega,?_,?_,?_⟩
    ·rw[←a2,dgs_s (n:=m) (by omega),List.append_assoc];rfl
    all_goals (simp only[zQ,reduceCtorEq,Nat.reduceEqDiff,t3]<;>rfl)
  ·refine⟨_,_,[],rfl,Nat.le_refl _,by simp,by simp,?_,?_,?_⟩<;>simp only[zQ,reduceCtorEq,Nat.reduceEqDiff]<;>rfl
theorem max_i (k q:IntKind)(x y:Int):maxI [.sc (.int k x),.sc (.int q y)]=some (.int k (if x<y then y else x)):=rfl
theorem toldI (n:Int)(hn:n≤9223372036854775807):Fn Tryz.prog 18 [.sc (.int .i64 n)] (.sc (.string (wZ n.toNat))):=by
 have hD:Fn Tryz.prog 33 [.sc (.int .i64 (n.toNat:Nat))] (.sc (.string (wZ n.toNat))):=by
  refine Fn.run 5 [.tmp 2] Tryz.func33 rfl rfl rfl rfl (by simp) (qV (.sc _) yV) (.sc _) ?_
  simp only[↓zP,zQ,↓qC]
  refine qN rfl (itoaC n.toNat (by omega)) ?_
  simp only[↓zP,zQ]
 refine Fn.run 6 [.tmp 2] Tryz.func18 rfl rfl rfl rfl (by simp) (qV (.sc _) yV) (.sc _) ?_
 have hm:(if n<0 then (0:Int) else n)=((n.toNat:Nat):Int):=by
  split<;>omega
 simp only[↓zP,zQ,↓qC,↓g_max,max_i,hm]
 refine qN rfl hD ?_
 simp only[↓zP,zQ]
theorem numS (n:Int)(hn:n≤9223372036854775807):Fn Tryz.prog 30 [.sc (.int .i64 n)] (.sc (.string (wZ n.toNat))):=by
 refine Fn.run 7 [.tmp 2] Tryz.func30 rfl rfl rfl rfl (by simp) (qV (.sc _) yV) (.sc _) ?_
 by_cases h:n<0
 ·have e:n.toNat=0:=by omega
  have hz:wZ 0=(⟨#[48]⟩:ByteArray):=by decide +kernel
  rw[e,hz]
  simp only[↓zP,zQ,↓qC,h]
  try rfl
 ·obtain⟨m,rfl⟩:∃ m:Nat,n=m:=⟨n.toNat,by omega⟩
  simp only[↓zP,zQ,↓qC,h]
  refine qN rfl (decS m (by omega)) ?_
  simp only[↓zP,zQ,qB]
def kJ (k n a c i:Int):Prop:=(k=1∧0≤n∧n≤999999∧a=0∧c=0)∨((k=3∨k=6)∧n=0∧0≤a∧a≤i - 1∧c=0)∨(2≤k∧k≤9∧k≠3∧k≠6∧n=0∧0≤a∧a≤i - 1∧0≤c∧c≤i - 1)
instance (k n a c i:Int):Decidable (kJ k n a c i):=by unfold kJ;infer_instance
def okR (p:Rw qK)(i:Nat):Prop:=kJ (p.int 0) (p.int 1) (p.int 2) (p.int 3) i
def wH (k:Int):Prop:=k≠1∧k≠3∧k≠6
instance (k:Int):Decidable (wH k):=by unfold wH;infer_instance
def xP (acc:List Int)(p:Rw qK):Int:=min 100000 (1+(if p.int 0=1 then 0 else acc.getD (p.int 2).toNat 0)+(if wH (p.int 0) then acc.getD (p.int 3).toNat 0 else 0))
def szs (l:List (Rw qK)):List Int:=l.foldl (fun acc p=>acc++[xP acc p]) []
def jM (k:Int):ByteArray:=[ByteArray.empty,(⟨#[97]⟩:ByteArray),(⟨#[112]⟩:ByteArray),(⟨#[104]⟩:ByteArray),(⟨#[107]⟩:ByteArray),(⟨#[115]⟩:ByteArray),(⟨#[117]⟩:ByteArray),(⟨#[100]⟩:ByteArray),(⟨#[103]⟩:ByteArray),(⟨#[109]⟩:ByteArray)].getD k.toNat ByteArray.empty
def txStep (acc:List ByteArray)(p:Rw qK):ByteArray:=
 if p.int 0=1 then (⟨#[97]⟩:ByteArray)++wZ (p.int 1).toNat
 else jM (p.int 0)++(⟨#[40]⟩:ByteArray)++acc.getD (p.int 2).toNat ByteArray.empty++(if wH (p.int 0) then (⟨#[44]⟩:ByteArray)++acc.getD (p.int 3).toNat ByteArray.empty else ByteArray.empty)++(⟨#[41]⟩:ByteArray)
def txs (l:List (Rw qK)):List ByteArray:=l.foldl (fun acc p=>acc++[txStep acc p]) []
theorem fold_len {α β:Type}(f:List β→α→β):∀ (l:List α)(acc:List β),(l.foldl (fun acc p=>acc++[f acc p]) acc).length=acc.length+l.length:=by
 intro l
 induction l with
 | nil=>intro acc;rfl
 | cons p l ih =>
  intro acc
  rw[List.foldl_cons,ih,List.length_append,List.length_cons]
  simp
  omega
theorem fold_pre {α β:Type}(f:List β→α→β):∀ (l:List α)(acc:List β)(j:Nat),j<acc.length→(l.foldl (fun acc p=>acc++[f acc p]) acc)[j]?=acc[j]?:=by
 intro l
 induction l with
 | nil=>intro acc j _;rfl
 | cons p l ih =>
  intro acc j h
  rw[List.foldl_cons,ih _ _ (by rw[List.length_append];omega),List.getElem?_append_left h]
section
variable {β : Type} (f : List β → Rw qK → β)
def fl (l:List (Rw qK)):List β:=l.foldl (fun acc p=>acc++[f acc p]) []
theorem fl_len (l:List (Rw qK)):(fl f l).length=l.length:=by rw[fl,fold_len];simp
theorem fl_s (l:List (Rw qK))(i:Nat)(p:Rw qK)(h:l[i]?=some p):fl f (l.take (i+1))=fl f (l.take i)++[f (fl f (l.take i)) p]:=by
 simp only[fl,List.take_add_one,h,List.foldl_append]
 rfl
theorem fl_pre (l:List (Rw qK))(i j:Nat)(d:β)(h:j<i)(hi:i≤l.length):(fl f (l.take i)).getD j d=(fl f l).getD j d:=by
 have e:l=l.take i++l.drop i:=(List.take_append_drop i l).symm
 have hl:(fl f (l.take i)).length=i:=by rw[fl_len,List.length_take];omega
 have e2:fl f l=(l.drop i).foldl (fun acc p=>acc++[f acc p]) (fl f (l.take i)):=by
  conv=>lhs;rw[e]
  simp only[fl,List.foldl_append]
 rw[List.getD_eq_getElem?_getD,List.getD_eq_getElem?_getD,e2,fold_pre _ _ _ _ (by omega)]
theorem fl_at (l:List (Rw qK))(i:Nat)(p:Rw qK)(d:β)(h:l[i]?=some p):(fl f l).getD i d=f (fl f (l.take i)) p:=by
 have hi:=(List.getElem?_eq_some_iff.1 h).1
 rw[←fl_pre f l (i+1) i d (by omega) (by omega),fl_s f l i p h,List.getD_eq_getElem?_getD,List.getElem?_append_right (by rw[fl_len,List.length_take];omega),fl_len,List.length_take,Nat.min_eq_left (by omega),Nat.sub_self]
 rfl
end
theorem jR (l:List (Rw qK)):szs l=fl xP l:=rfl
theorem txs_fl (l:List (Rw qK)):txs l=fl txStep l:=rfl
theorem szs_at (l:List (Rw qK))(i:Nat)(p:Rw qK)(h:l[i]?=some p)(ok:okR p i) :
  (szs l).getD i 0=min 100000 (1+(if p.int 0=1 then 0 else (szs l).getD (p.int 2).toNat 0)+(if wH (p.int 0) then (szs l).getD (p.int 3).toNat 0 else 0)):=by
 have hi:=(List.getElem?_eq_some_iff.1 h).1
 rw[jR,fl_at xP l i p 0 h,xP]
 congr 1
 unfold okR kJ at ok
 congr 1
 ·by_cases h1:p.int 0=1
  ·rw[if_pos h1,if_pos h1]
  ·rw[if_neg h1,if_neg h1,fl_pre xP l i _ 0 (by omega) (by omega)]
 ·by_cases h1:wH (p.int 0)
  ·rw[if_pos h1,if_pos h1]
   unfold wH at h1
   rw[fl_pre xP l i _ 0 (by omega) (by omega)]
  ·rw[if_neg h1,if_neg h1]
theorem txs_at (l:List (Rw qK))(i:Nat)(p:Rw qK)(h:l[i]?=some p)(ok:okR p i) :
  (txs l).getD i ByteArray.empty=if p.int 0=1 then (⟨#[97]⟩:ByteArray)++wZ (p.int 1).toNat
   else jM (p.int 0)++(⟨#[40]⟩:ByteArray)++(txs l).getD (p.int 2).toNat ByteArray.empty++(if wH (p.int 0) then (⟨#[44]⟩:ByteArray)++(txs l).getD (p.int 3).toNat ByteArray.empty else ByteArray.empty)++(⟨#[41]⟩:ByteArray):=by
 have hi:=(List.getElem?_eq_some_iff.1 h).1
 rw[txs_fl,fl_at txStep l i p _ h,txStep]
 unfold okR kJ at ok
 by_cases h1:p.int 0=1
 ·rw[if_pos h1,if_pos h1]
 ·rw[if_neg h1,if_neg h1,fl_pre txStep l i _ _ (by omega) (by omega)]
  by_cases h2:wH (p.int 0)
  ·rw[if_pos h2,if_pos h2]
   unfold wH at h2
   rw[fl_pre txStep l i _ _ (by omega) (by omega)]
  ·rw[if_neg h2,if_neg h2]
theorem kI (l:List (Rw qK))(n:Nat)(hn:n≤l.length)(ok:∀ (i:Nat) p,i<n→l[i]?=some p→okR p i):∀ j,j<n→1≤(szs l).getD j 0∧(szs l).getD j 0≤100000:=by
 intro j
 induction j using Nat.strongRecOn with
 | _ j ih =>
  intro hj
  have hp:l[j]?=some l[j]:=List.getElem?_eq_getElem (by omega)
  generalize l[j]=p at hp
  have o:=ok j p hj hp
  rw[szs_at l j p hp o]
  unfold okR kJ at o
  have A:0≤(if p.int 0=1 then 0 else (szs l).getD (p.int 2).toNat 0):=by
   split
   ·omega
   ·have:=ih (p.int 2).toNat (by omega) (by omega)
    omega
  have B:0≤(if wH (p.int 0) then (szs l).getD (p.int 3).toNat 0 else 0):=by
   split
   ·rename_i h2
    unfold wH at h2
    have:=ih (p.int 3).toNat (by omega) (by omega)
    omega
   ·omega
  omega
theorem letT_size (k:Int)(h:1≤k∧k≤9):(jM k).size=1:=by
 have:∀ j<10,1≤j→(([ByteArray.empty,(⟨#[97]⟩:ByteArray),(⟨#[112]⟩:ByteArray),(⟨#[104]⟩:ByteArray),(⟨#[107]⟩:ByteArray),(⟨#[115]⟩:ByteArray),(⟨#[117]⟩:ByteArray),(⟨#[100]⟩:ByteArray),(⟨#[103]⟩:ByteArray),(⟨#[109]⟩:ByteArray)]:List ByteArray).getD j ByteArray.empty).size=1:=by decide
 exact this k.toNat (by omega) (by omega)
theorem zt1:((⟨#[40]⟩:ByteArray)).size=1:=rfl
theorem zt2:((⟨#[44]⟩:ByteArray)).size=1:=rfl
theorem zt3:((⟨#[41]⟩:ByteArray)).size=1:=rfl
theorem zt4:((⟨#[97]⟩:ByteArray)).size=1:=rfl
theorem small_a (l:List (Rw qK))(i:Nat)(p:Rw qK)(h:l[i]?=some p)(n:Nat)(hn:n≤l.length)(hi:i<n)(ok:∀ (i:Nat) p,i<n→l[i]?=some p→okR p i)(hs:(szs l).getD i 0≤2000)(h1:p.int 0≠1) :
  (szs l).getD (p.int 2).toNat 0+(if wH (p.int 0) then (szs l).getD (p.int 3).toNat 0 else 0)+1=(szs l).getD i 0:=by
 have o:=ok i p hi h
 have e:=szs_at l i p h o
 rw[if_neg h1] at e
 have o2:=o
 unfold okR kJ at o2
 by_cases h2:wH (p.int 0)
 ·rw[if_pos h2] at e ⊢
  unfold wH at h2
  omega
 ·rw[if_neg h2] at e ⊢
  omega
theorem txs_size (l:List (Rw qK))(n:Nat)(hn:n≤l.length)(ok:∀ (i:Nat) p,i<n→l[i]?=some p→okR p i):∀ j,j<n→(szs l).getD j 0≤2000→(((txs l).getD j ByteArray.empty).size:Int)≤25*(szs l).getD j 0:=by
 intro j
 induction j using Nat.strongRecOn with
 | _ j ih =>
  intro hj hs
  have hp:l[j]?=some l[j]:=List.getElem?_eq_getElem (by omega)
  generalize l[j]=p at hp
  have o:=ok j p hj hp
  rw[txs_at l j p hp o]
  have P:=kI l n hn ok j hj
  by_cases h1:p.int 0=1
  ·rw[if_pos h1]
   unfold okR kJ at o
   have:=yM (p.int 1).toNat (by omega)
   simp only[ByteArray.size_append,zt4]
   omega
  ·rw[if_neg h1]
   have sm:=small_a l j p hp n hn hj ok hs h1
   unfold okR kJ at o
   have P2:=kI l n hn ok (p.int 2).toNat (by omega)
   have L:=letT_size (p.int 0) (by omega)
   by_cases h2:wH (p.int 0)
   ·rw[if_pos h2] at sm ⊢
    unfold wH at h2
    have P3:=kI l n hn ok (p.int 3).toNat (by omega)
    have i2:=ih (p.int 2).toNat (by omega) (by omega) (by omega)
    have i3:=ih (p.int 3).toNat (by omega) (by omega) (by omega)
    simp only[ByteArray.size_append,zt1,zt2,zt3,L]
    omega
   ·rw[if_neg h2] at sm ⊢
    have i2:=ih (p.int 2).toNat (by omega) (by omega) (by omega)
    simp only[ByteArray.size_append,zt1,zt3,L,ByteArray.size_empty]
    omega
end Go.Proofs.YtjdajobflgkebaaGreatDoor.Sim
