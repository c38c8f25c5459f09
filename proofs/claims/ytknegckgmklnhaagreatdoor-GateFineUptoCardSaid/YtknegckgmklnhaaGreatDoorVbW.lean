/- Parts of the proof. -/
import Derived.Test.YtknegckgmklnhaaGreatDoorVaW
import Derived.Test.YtknegckgmklnhaaGreatDoorCp50
namespace Go.Proofs.YtknegckgmklnhaaGreatDoor
open Go Go.CP
theorem pz (gl:List Nat) (rc:List (Nat × List Nat)) {dk:Bool} {rs:List ResultVar} {R:LV.RT} {k:List Item} {ds:List ec} {t:List LV} {st:aa} {W:Prop} (h:W) (e:gr Tryz.prog dk rs R gl [] rc 3000 (cV k) ds t st=W:=by kernel_rfl):LTg Tryz.prog (kindOf dk) rs k ds R t st:=LTg.atE aG e h
theorem cz (gl:List Nat) (rc:List (Nat × List Nat)) (rs:List ResultVar) {f:FuncId} {fn:Func} {xs:List LV} {st:aa} {R:LV.RT} {W:Prop} (hf:Tryz.prog.funcs[f]?=some fn) (h:W) (hb:fn.body=some (ba fn):=by kernel_rfl) (hn:(fn.name == "runtime.NumGoroutine")=false:=by kernel_rfl) (hrs:fn.results.toList=rs:=by kernel_rfl) (e:gr Tryz.prog false rs R gl [] rc 3000 [.code (ba fn)] [] (xs++List.replicate (fn.ntmps-xs.length) aK) st=W:=by kernel_rfl):ax Tryz.prog f xs st R:=ax.ofE aG hf hb hn hrs e h
set_option maxRecDepth 100000
def w75 (a0:LV) (R:LV.RT) (st:aa):Prop:=
 bd (aj a0) fun v0=>bd (ad 2 v0) fun v1=>bd (ld1 st v1) fun v2=>bd (ak BinOp.neq v2 (i64 0)) fun v3=>R v3 st
theorem c75 (a0:LV) {R:LV.RT} {st:aa} (h:w75 a0 R st):LZ 75 [a0] st R:=
 cz [] [] [.tmp 2] Tryz.func75 h
def w76 (a0 a1 a2:LV) (R:LV.RT) (st:aa):Prop:=
 bd (aj a0) fun v0=>bd (ad 2 v0) fun v1=>bd (ld1 st v1) fun v2=>bd (ak BinOp.eql v2 (i64 0)) fun v3=>al v3
 (bd (aj a0) fun v4=>bd (ad 1 v4) fun v5=>bd2 (lmk (stV st 1 v5 a1)) fun _ gE=>bd (aj a0) fun v8=>bd (ad 2 v8) fun v9=>bd2 (lmk (stV gE 1 v9 a2)) fun _ eQ=>R (LV.tup []) eQ)
 (R (LV.tup []) st)
theorem c76 (a0 a1 a2:LV) {R:LV.RT} {st:aa} (h:w76 a0 a1 a2 R st):LZ 76 [a0,a1,a2] st R:=
 cz [] [] [] Tryz.func76 h
def rZ (x0 x31:LV) (R:LV.RT) (st:aa):Prop:=LTg Tryz.prog (kindOf false) [.tmp 4] (bg Tryz.f137 1) [] R (x0::(LV.jk 30 (x31::(LV.jk 7 [])))) st
def Kk:List (Nat × List Nat):=[(1,(LV.gx 1 38 [31]))]
def OJ (a0 a1:LV) (R:LV.RT) (st:aa):Prop:=
 LZ 75 [a0] st fun v0 eQ=>al v0 (rZ a0 (LV.bool true) R eQ)
 (bd (aj a0) fun v2=>bd (ad 1 v2) fun v3=>bd (ld1 eQ v3) fun v4=>bd (aj a0) fun v5=>bd (ad 0 v5) fun v6=>bd (ld1 eQ v6) fun v7=>bd (bJ v7) fun v8=>bd (ak BinOp.geq v4 v8) fun v9=>al v9 (rZ a0 (LV.bool true) R eQ)
 (bd (aj a0) fun gE=>bd (ad 0 gE) fun gT=>bd (ld1 eQ gT) fun iD=>bd (aj a0) fun iF=>bd (ad 1 iF) fun iN=>bd (ld1 eQ iN) fun iS=>bd (cv iD iS) fun mK=>bd (ak BinOp.neq mK a1) fun nE=>rZ a0 nE R eQ))
theorem Nl (a0 a1:LV) {R:LV.RT} {st:aa} (h:OJ a0 a1 R st):LZ 137 [a0,a1] st R:=
 cz [] Kk [.tmp 4] Tryz.func137 h
def Af (x0 x31:LV) (R:LV.RT) (st:aa):Prop:=
 al x31 (R (LV.bool false) st)
 (bd (aj x0) fun v0=>bd (ad 1 v0) fun v1=>bd (ld1 st v1) fun v2=>bd (ak BinOp.add v2 (i64 1)) fun v3=>bd (aj x0) fun v4=>bd (ad 1 v4) fun v5=>bd2 (lmk (stV st 1 v5 v3)) fun _ eQ=>R (LV.bool true) eQ)
theorem FC (x0 x31:LV) {R:LV.RT} {st:aa} (h:Af x0 x31 R st):rZ x0 x31 R st:=
 pz [] Kk h
def OK (a0 a1:LV) (R:LV.RT) (st:aa):Prop:=
 LZ 75 [a0] st fun v0 gT=>bd (lun UnOp.not v0) fun v2=>al v2
 (LZ 137 [a0,a1] gT fun v3 eQ=>bd (lun UnOp.not v3) fun v5=>al v5 (bd (aj a0) fun v6=>bd (ad 1 v6) fun v7=>bd (ld1 eQ v7) fun v8=>LZ 76 [a0,v8,i64 4] eQ fun _ gE=>R (LV.tup []) gE)
 (R (LV.tup []) eQ))
 (R (LV.tup []) gT)
theorem LI (a0 a1:LV) {R:LV.RT} {st:aa} (h:OK a0 a1 R st):LZ 184 [a0,a1] st R:=
 cz [] [] [] Tryz.func184 h
def Nn (a0:LV) (R:LV.RT) (st:aa):Prop:=
 bd (ak BinOp.geq a0 (LV.int IntKind.u8 97)) fun v0=>al v0
 (bd (ak BinOp.leq a0 (LV.int IntKind.u8 122)) fun v1=>al v1 (R (LV.bool true) st) (bd (ak BinOp.geq a0 (LV.int IntKind.u8 48)) fun v2=>al v2 (bd (ak BinOp.leq a0 (LV.int IntKind.u8 57)) fun v3=>R v3 st) (R (LV.bool false) st)))
 (bd (ak BinOp.geq a0 (LV.int IntKind.u8 48)) fun v4=>al v4 (bd (ak BinOp.leq a0 (LV.int IntKind.u8 57)) fun v5=>R v5 st) (R (LV.bool false) st))
theorem OL (a0:LV) {R:LV.RT} {st:aa} (h:Nn a0 R st):LZ 262 [a0] st R:=
 cz [] [] [.tmp 2] Tryz.func262 h
def gD (x0 x6 x7:LV) (R:LV.RT) (st:aa):Prop:=LTg Tryz.prog (kindOf false) [.tmp 2] (bg Tryz.f142 3) [] R (x0::(LV.jk 5 (x6::x7::(LV.jk 32 [])))) st
def Kl:List Nat:=(LV.gx 1 39 [6,7])
def No (a0:LV) (R:LV.RT) (st:aa):Prop:=
 bd (bJ a0) fun v0=>gD a0 v0 (i64 0) R st
theorem OM (a0:LV) {R:LV.RT} {st:aa} (h:No a0 R st):LZ 142 [a0] st R:=
 cz Kl [] [.tmp 2] Tryz.func142 h
def Ag (x0 x6 x7:LV) (R:LV.RT) (st:aa):Prop:=
 bd (ak BinOp.lss x7 x6) fun v0=>al v0
 (bd (cv x0 x7) fun v1=>bd (ak BinOp.geq v1 (LV.int IntKind.u8 97)) fun v2=>al v2
 (bd (ak BinOp.leq v1 (LV.int IntKind.u8 122)) fun v3=>al v3 (bd (lun UnOp.not (LV.bool true)) fun v4=>al v4 (R (LV.bool false) st) (bd (ak BinOp.add x7 (i64 1)) fun v5=>gD x0 x6 v5 R st))
 (bd (ak BinOp.gtr x7 (i64 0)) fun v6=>al v6
 (bd (ak BinOp.geq v1 (LV.int IntKind.u8 48)) fun v7=>al v7
 (bd (ak BinOp.leq v1 (LV.int IntKind.u8 57)) fun v8=>bd (lun UnOp.not v8) fun v9=>al v9 (R (LV.bool false) st) (bd (ak BinOp.add x7 (i64 1)) fun eQ=>gD x0 x6 eQ R st))
 (bd (lun UnOp.not (LV.bool false)) fun gE=>al gE (R (LV.bool false) st) (bd (ak BinOp.add x7 (i64 1)) fun gT=>gD x0 x6 gT R st)))
 (bd (lun UnOp.not (LV.bool false)) fun iD=>al iD (R (LV.bool false) st) (bd (ak BinOp.add x7 (i64 1)) fun iF=>gD x0 x6 iF R st))))
 (bd (ak BinOp.gtr x7 (i64 0)) fun iN=>al iN
 (bd (ak BinOp.geq v1 (LV.int IntKind.u8 48)) fun iS=>al iS
 (bd (ak BinOp.leq v1 (LV.int IntKind.u8 57)) fun mK=>bd (lun UnOp.not mK) fun nE=>al nE (R (LV.bool false) st) (bd (ak BinOp.add x7 (i64 1)) fun oF=>gD x0 x6 oF R st))
 (bd (lun UnOp.not (LV.bool false)) fun oR=>al oR (R (LV.bool false) st) (bd (ak BinOp.add x7 (i64 1)) fun rW=>gD x0 x6 rW R st)))
 (bd (lun UnOp.not (LV.bool false)) fun aS=>al aS (R (LV.bool false) st) (bd (ak BinOp.add x7 (i64 1)) fun aT=>gD x0 x6 aT R st))))
 (bd (bG BinOp.neq x0 (LV.str [])) fun bY=>al bY (bd (bJ x0) fun c7=>bd (ak BinOp.leq c7 (i64 20)) fun dO=>R dO st) (R (LV.bool false) st))
theorem FD (x0 x6 x7:LV) {R:LV.RT} {st:aa} (h:Ag x0 x6 x7 R st):gD x0 x6 x7 R st:=
 pz Kl [] h
def r5 (x0 x5 x7 x8 x9 x10 x11:LV) (R:LV.RT) (st:aa):Prop:=LTg Tryz.prog (kindOf false) [.tmp 4] (bg Tryz.f140 4) [] R (x0::(LV.jk 4 (x5::.aN::x7::x8::x9::x10::x11::(LV.jk 85 [])))) st
def qF (x0 x5 x7 x8 x9 x10 x11:LV) (R:LV.RT) (st:aa):Prop:=LTg Tryz.prog (kindOf false) [.tmp 4] (bg Tryz.f140 13) [] R (x0::(LV.jk 4 (x5::.aN::x7::x8::x9::x10::x11::(LV.jk 85 [])))) st
def qG (x0 x5 x7 x8 x9 x10 x11 x79:LV) (R:LV.RT) (st:aa):Prop:=LTg Tryz.prog (kindOf false) [.tmp 4] (bg Tryz.f140 14) [] R (x0::(LV.jk 4 (x5::.aN::x7::x8::x9::x10::x11::(LV.jk 67 (x79::(LV.jk 17 [])))))) st
def Cq:List Nat:=(LV.gx 1 96 [5,7,8,9,10,11])
def Cr:List (Nat × List Nat):=[(9,(LV.gx 1 96 [5,7,8,9,10,11,79]))]
def Np (a0 a1:LV) (R:LV.RT) (st:aa):Prop:=
 bd (bo a1) fun v0=>r5 a0 (i64 0) (LV.tup []) (LV.tup []) a1 v0 (i64 0) R st
theorem ON (a0 a1:LV) {R:LV.RT} {st:aa} (h:Np a0 a1 R st):LZ 140 [a0,a1] st R:=
 cz Cq Cr [.tmp 4] Tryz.func140 h
def Ah (x0 x5:LV) (_x7:LV) (_x8:LV) (x9:LV) (x10:LV) (x11:LV) (R:LV.RT) (st:aa):Prop:=
 bd (ak BinOp.lss x11 x10) fun v0=>al v0
 (bd (aR 1 x9 x11) fun v1=>bd (ld1 st v1) fun v2=>bd (aj x0) fun v3=>bd (ad 0 v3) fun v4=>bd (ad 0 v4) fun v5=>bd (ld1 st v5) fun v6=>bd (aj x0) fun v7=>bd (ad 0 v7) fun v8=>bd (ad 1 v8) fun v9=>bd (ld1 st v9) fun iD=>bd (ob3 (some iD) none none fun l h m=>cF v6 l h m) fun iF=>LZ 186 [iF,v2] st fun iN eQ=>al iN
 (bd (aj x0) fun iS=>bd (ad 0 iS) fun mK=>bd (ad 1 mK) fun nE=>bd (ld1 eQ nE) fun oF=>bd (bJ v2) fun oR=>bd (ak BinOp.add oF oR) fun rW=>bd (aj x0) fun aS=>bd (ad 0 aS) fun aT=>bd (ad 1 aT) fun bY=>bd2 (lmk (stV eQ 1 bY rW)) fun _ gE=>R x11 gE)
 (qF x0 x5 v2 (i64 0) x9 x10 x11 R eQ))
 (bd (aj x0) fun c7=>bd (ad 0 c7) fun dO=>bd (aj x0) fun lE=>bd (ad 0 lE) fun lT=>bd (ad 1 lT) fun p7=>bd (ld1 st p7) fun p8=>bd (ak BinOp.add p8 x5) fun p9=>LZ 76 [dO,p9,i64 4] st fun _ gT=>R (i64 0) gT)
theorem FE (x0 x5 x7 x8 x9 x10 x11:LV) {R:LV.RT} {st:aa} (h:Ah x0 x5 x7 x8 x9 x10 x11 R st):r5 x0 x5 x7 x8 x9 x10 x11 R st:=
 pz Cq Cr h
def vu (x0 x5 x7 x8 x9 x10 x11:LV) (R:LV.RT) (st:aa):Prop:=
 bd (bJ x7) fun v0=>bd (ak BinOp.lss x8 v0) fun v1=>al v1
 (bd (aj x0) fun v2=>bd (ad 0 v2) fun v3=>bd (ad 1 v3) fun v4=>bd (ld1 st v4) fun v5=>bd (ak BinOp.add v5 x8) fun v6=>bd (aj x0) fun v7=>bd (ad 0 v7) fun v8=>bd (ad 0 v8) fun v9=>bd (ld1 st v9) fun eQ=>bd (bJ eQ) fun gE=>bd (ak BinOp.lss v6 gE) fun gT=>al gT
 (bd (aj x0) fun iD=>bd (ad 0 iD) fun iF=>bd (ad 0 iF) fun iN=>bd (ld1 st iN) fun iS=>bd (aj x0) fun mK=>bd (ad 0 mK) fun nE=>bd (ad 1 nE) fun oF=>bd (ld1 st oF) fun oR=>bd (ak BinOp.add oR x8) fun rW=>bd (cv iS rW) fun aS=>bd (cv x7 x8) fun aT=>bd (ak BinOp.eql aS aT) fun bY=>qG x0 x5 x7 x8 x9 x10 x11 bY R st)
 (qG x0 x5 x7 x8 x9 x10 x11 (LV.bool false) R st))
 (qG x0 x5 x7 x8 x9 x10 x11 (LV.bool false) R st)
theorem Cs (x0 x5 x7 x8 x9 x10 x11:LV) {R:LV.RT} {st:aa} (h:vu x0 x5 x7 x8 x9 x10 x11 R st):qF x0 x5 x7 x8 x9 x10 x11 R st:=
 pz Cq Cr h
def qH (x0 x5 x7 x8 x9 x10 x11 x79:LV) (R:LV.RT) (st:aa):Prop:=
 al x79 (bd (ak BinOp.add x8 (i64 1)) fun v0=>qF x0 x5 x7 v0 x9 x10 x11 R st)
 (bd (gI [x5,x8]) fun v1=>bd (ak BinOp.add x11 (i64 1)) fun v2=>r5 x0 v1 x7 x8 x9 x10 v2 R st)
theorem vv (x0 x5 x7 x8 x9 x10 x11 x79:LV) {R:LV.RT} {st:aa} (h:qH x0 x5 x7 x8 x9 x10 x11 x79 R st):qG x0 x5 x7 x8 x9 x10 x11 x79 R st:=
 pz Cq Cr h
def vw (x0 x3:LV) (R:LV.RT) (st:aa):Prop:=LTg Tryz.prog (kindOf false) [.tmp 2] (bg Tryz.f225 3) [] R (x0::.aN::.aN::x3::(LV.jk 95 [])) st
def vz (x0 x3 x46:LV) (R:LV.RT) (st:aa):Prop:=LTg Tryz.prog (kindOf false) [.tmp 2] (bg Tryz.f225 4) [] R (x0::.aN::.aN::x3::(LV.jk 42 (x46::(LV.jk 52 [])))) st
def FF:List Nat:=(LV.gx 1 98 [3])
def FG:List (Nat × List Nat):=[(2,(LV.gx 1 98 [3,46]))]
def LJ (a0:LV) (R:LV.RT) (st:aa):Prop:=
 bd (aj a0) fun v0=>bd (ad 0 v0) fun v1=>bd (ad 1 v1) fun v2=>bd (ld1 st v2) fun v3=>vw a0 v3 R st
theorem Nq (a0:LV) {R:LV.RT} {st:aa} (h:LJ a0 R st):LZ 225 [a0] st R:=
 cz FF FG [.tmp 2] Tryz.func225 h
def Ai (x0 x3:LV) (R:LV.RT) (st:aa):Prop:=
 bd (aj x0) fun v0=>bd (ad 0 v0) fun v1=>bd (ad 1 v1) fun v2=>bd (ld1 st v2) fun v3=>bd (aj x0) fun v4=>bd (ad 0 v4) fun v5=>bd (ad 0 v5) fun v6=>bd (ld1 st v6) fun v7=>bd (bJ v7) fun v8=>bd (ak BinOp.lss v3 v8) fun v9=>al v9
 (bd (aj x0) fun gT=>bd (ad 0 gT) fun iD=>bd (ad 0 iD) fun iF=>bd (ld1 st iF) fun iN=>bd (ak BinOp.add x3 (i64 1)) fun iS=>bd (ob3 (some x3) (some iS) none fun l h m=>cF iN l h m) fun mK=>LZ 142 [mK] st fun nE eQ=>al nE
 (bd (aj x0) fun oF=>bd (ad 0 oF) fun oR=>bd (ad 0 oR) fun rW=>bd (ld1 eQ rW) fun aS=>bd (aj x0) fun aT=>bd (ad 0 aT) fun bY=>bd (ad 1 bY) fun c7=>bd (ld1 eQ c7) fun dO=>bd (cv aS dO) fun lE=>LZ 262 [lE] eQ fun lT gE=>vz x0 x3 lT R gE)
 (vz x0 x3 (LV.bool false) R eQ))
 (vz x0 x3 (LV.bool false) R st)
theorem FH (x0 x3:LV) {R:LV.RT} {st:aa} (h:Ai x0 x3 R st):vw x0 x3 R st:=
 pz FF FG h
def r6 (x0 x3 x46:LV) (R:LV.RT) (st:aa):Prop:=
 al x46
 (bd (aj x0) fun v0=>bd (ad 0 v0) fun v1=>bd (ad 1 v1) fun v2=>bd (ld1 st v2) fun v3=>bd (ak BinOp.add v3 (i64 1)) fun v4=>bd (aj x0) fun v5=>bd (ad 0 v5) fun v6=>bd (ad 1 v6) fun v7=>bd2 (lmk (stV st 1 v7 v4)) fun _v8 gT=>vw x0 x3 R gT)
 (bd (aj x0) fun iD=>bd (ad 0 iD) fun iF=>bd (ad 1 iF) fun iN=>bd (ld1 st iN) fun iS=>bd (ak BinOp.eql iS x3) fun mK=>al mK
 (bd (aj x0) fun nE=>bd (ad 0 nE) fun oF=>bd (aj x0) fun oR=>bd (ad 0 oR) fun rW=>bd (ad 1 rW) fun aS=>bd (ld1 st aS) fun aT=>LZ 76 [oF,aT,i64 4] st fun _ eQ=>bd (aj x0) fun bY=>bd (ad 0 bY) fun c7=>bd (ad 0 c7) fun dO=>bd (ld1 eQ dO) fun lE=>bd (aj x0) fun lT=>bd (ad 0 lT) fun p7=>bd (ad 1 p7) fun p8=>bd (ld1 eQ p8) fun p9=>bd (ob3 (some x3) (some p9) none fun l h m=>cF lE l h m) fun tO=>R tO eQ)
 (bd (aj x0) fun v32=>bd (ad 0 v32) fun v33=>bd (ad 1 v33) fun v34=>bd (ld1 st v34) fun v35=>bd (ak BinOp.sub v35 x3) fun v36=>bd (ak BinOp.gtr v36 (i64 20)) fun v37=>al v37
 (bd (aj x0) fun v38=>bd (ad 0 v38) fun v39=>LZ 76 [v39,x3,i64 7] st fun _v40 gE=>bd (aj x0) fun v42=>bd (ad 0 v42) fun v43=>bd (ad 0 v43) fun v44=>bd (ld1 gE v44) fun v45=>bd (aj x0) fun v46=>bd (ad 0 v46) fun v47=>bd (ad 1 v47) fun v48=>bd (ld1 gE v48) fun v49=>bd (ob3 (some x3) (some v49) none fun l h m=>cF v45 l h m) fun v50=>R v50 gE)
 (bd (aj x0) fun v51=>bd (ad 0 v51) fun v52=>bd (ad 0 v52) fun v53=>bd (ld1 st v53) fun v54=>bd (aj x0) fun v55=>bd (ad 0 v55) fun v56=>bd (ad 1 v56) fun v57=>bd (ld1 st v57) fun v58=>bd (ob3 (some x3) (some v58) none fun l h m=>cF v54 l h m) fun v59=>R v59 st)))
theorem vA (x0 x3 x46:LV) {R:LV.RT} {st:aa} (h:r6 x0 x3 x46 R st):vz x0 x3 x46 R st:=
 pz FF FG h
def Nr (a0:LV) (R:LV.RT) (st:aa):Prop:=
 bd (ld1 st a0) fun v0=>bd (aj v0) fun v1=>bd (ad 3 v1) fun v2=>bd (ld1 st v2) fun v3=>bd (ak BinOp.sub v3 (i64 1)) fun v4=>bd (aj v0) fun v5=>bd (ad 3 v5) fun v6=>bd2 (lmk (stV st 1 v6 v4)) fun _ eQ=>R (LV.tup []) eQ
theorem OO (a0:LV) {K:aa→Prop} {st:aa} (h:Nr a0 (fun _ s=>K s) st):cP Tryz.prog 136 [a0] st K:=
 cP.ofE (gl:=[]) (cuts:=[]) (rc:=[]) (n:=3000) aG Tryz.func136 (show Tryz.f136.body=some (ba Tryz.f136) by kernel_rfl) (show Tryz.f136.results.toList=[] by kernel_rfl) (by kernel_rfl) h
def OP (R:LV.RT) (st:aa):Prop:=
 nw st [LV.str [],LV.str [],LV.str [],LV.str [],LV.str []] fun v0 st1=>bd
 (aL
 (ao (fun i=>some (i*1,1)) [LV.str [],LV.str [],LV.str [],LV.str [],LV.str []]
 [(0,LV.str [97,110,121]),(1,LV.str [98,111,111,108]),(2,LV.str [105,110,116]),(3,LV.str [112,111,105,110,116]),(4,LV.str [116,101,120,116])]))
 fun v2=>bd2 (lmk (stV st1 5 v0 v2)) fun _v3 st4=>bd (ldA st4 v0 5) fun v5=>R v5 st4
theorem c109 {R:LV.RT} {st:aa} (h:OP  R st):LZ 109 [] st R:=
 cz [] [] [.cell 0 165] Tryz.func109 h
def OQ (a0 a1:LV) (R:LV.RT) (st:aa):Prop:=
 LZ 226 [a0,a1] st fun v0 eQ=>R v0 eQ
theorem OS (a0 a1:LV) {R:LV.RT} {st:aa} (h:OQ a0 a1 R st):LZ 186 [a0,a1] st R:=
 cz [] [] [.tmp 4] Tryz.func186 h
def Ns (a0 a1:LV) (R:LV.RT) (st:aa):Prop:=
 bd (bJ a0) fun v0=>bd (bJ a1) fun v1=>bd (ak BinOp.geq v0 v1) fun v2=>al v2 (bd (bJ a1) fun v3=>bd (ob3 none (some v3) none fun l h m=>cF a0 l h m) fun v4=>bd (bG BinOp.eql v4 a1) fun v5=>R v5 st) (R (LV.bool false) st)
theorem c226 (a0 a1:LV) {R:LV.RT} {st:aa} (h:Ns a0 a1 R st):LZ 226 [a0,a1] st R:=
 cz [] [] [.tmp 4] Tryz.func226 h
def w53 (a0 a1:LV) (R:LV.RT) (st:aa):Prop:=
 bd2 (b8 st a1) fun v0 eQ=>bd (ldA eQ v0 1) fun v2=>LZ 118 [a0,v2] eQ fun v3 gE=>bd (ai v3 0) fun _=>bd (ai v3 1) fun v6=>bd (lun UnOp.not v6) fun v7=>R v7 gE
theorem c53 (a0 a1:LV) {R:LV.RT} {st:aa} (h:w53 a0 a1 R st):LZ 53 [a0,a1] st R:=
 cz [] [] [.tmp 4] Tryz.func53 h
def Nt (a0:LV) (R:LV.RT) (st:aa):Prop:=
 bd (eqB BinOp.eql (dW true a0 LV.nilp)) fun v0=>al v0 (R (i64 0) st)
 (bd (aj a0) fun v1=>bd (ad 0 v1) fun v2=>bd (ld1 st v2) fun v3=>bd (ak BinOp.lss v3 (i64 5)) fun v4=>al v4 (R (i64 0) st)
 (bd (aj a0) fun v5=>bd (ad 0 v5) fun v6=>bd (ld1 st v6) fun v7=>bd (ak BinOp.eql v7 (i64 6)) fun v8=>al v8 (R (i64 7) st)
 (bd (aj a0) fun v9=>bd (ad 0 v9) fun eQ=>bd (ld1 st eQ) fun gE=>bd (ak BinOp.eql gE (i64 8)) fun gT=>al gT (R (i64 7) st) (R (i64 6) st))))
theorem c167 (a0:LV) {R:LV.RT} {st:aa} (h:Nt a0 R st):LZ 167 [a0] st R:=
 cz [] [] [.tmp 2] Tryz.func167 h
def Nu (a0 a1:LV) (R:LV.RT) (st:aa):Prop:=
 bd (eqB BinOp.eql (dW true a0 LV.nilp)) fun v0=>al v0 (R (LV.tup [LV.nilp,LV.bool false]) st)
 (bd (aj a0) fun v1=>bd (ad 2 v1) fun v2=>bd (ld1 st v2) fun v3=>LZ 158 [v3,a1] st fun v4 eQ=>bd (ak BinOp.lss v4 (i64 0)) fun v6=>al v6 (R (LV.tup [LV.nilp,LV.bool false]) eQ)
 (bd (aj a0) fun v7=>bd (ad 1 v7) fun v8=>bd (ld1 eQ v8) fun v9=>bd (aR 1 v9 v4) fun gE=>bd (ld1 eQ gE) fun gT=>R (LV.tup [gT,LV.bool true]) eQ))
theorem c213 (a0 a1:LV) {R:LV.RT} {st:aa} (h:Nu a0 a1 R st):LZ 213 [a0,a1] st R:=
 cz [] [] [.tmp 4,.tmp 5] Tryz.func213 h
def Aj (x1 x4 d0:LV) (R:LV.RT) (st:aa):Prop:=LTg Tryz.prog (kindOf false) [.tmp 2] (bg Tryz.f74 14) [(136,[d0])] R (.aN::x1::.aN::.aN::x4::(LV.jk 54 [])) st
def Nv:List (Nat × List Nat):=[(13,(LV.gx 0 59 [1,4]))]
def w74 (a0:LV) (R:LV.RT) (st:aa):Prop:=
 bd2 (b8 st a0) fun v0 dO=>bd (ld1 dO v0) fun v2=>bd (aj v2) fun v3=>bd (ad 0 v3) fun v4=>LZ 75 [v4] dO fun v5 eQ=>al v5 (R LV.nilp eQ)
 (bd (ld1 eQ v0) fun v7=>bd (aj v7) fun v8=>bd (ad 3 v8) fun v9=>bd (ld1 eQ v9) fun p7=>bd (ak BinOp.eql p7 (i64 8)) fun p8=>al p8
 (bd (ld1 eQ v0) fun p9=>bd (aj p9) fun tO=>bd (ad 0 tO) fun v14=>bd (ld1 eQ v0) fun v15=>bd (aj v15) fun v16=>bd (ad 0 v16) fun v17=>bd (ad 1 v17) fun v18=>bd (ld1 eQ v18) fun v19=>LZ 76 [v14,v19,i64 3] eQ fun _v20 mK=>R LV.nilp mK)
 (bd (ld1 eQ v0) fun lE=>bd (aj lE) fun v23=>bd (ad 3 v23) fun v24=>bd (ld1 eQ v24) fun v25=>bd (ak BinOp.add v25 (i64 1)) fun v26=>bd (aj lE) fun v27=>bd (ad 3 v27) fun v28=>bd2 (lmk (stV eQ 1 v28 v26)) fun _v29 iD=>bd (ld1 iD v0) fun v31=>bd (aj v31) fun v32=>bd (ad 0 v32) fun v33=>LZ 137 [v33,LV.int IntKind.u8 91] iD fun v34 gE=>al v34 (bd (ld1 gE v0) fun v36=>LZ 138 [v36] gE fun v37 nE=>cP Tryz.prog 136 [v0] nE fun oF=>R v37 oF)
 (bd (ld1 gE v0) fun v40=>bd (aj v40) fun v41=>bd (ad 0 v41) fun v42=>LZ 137 [v42,LV.int IntKind.u8 123] gE fun v43 gT=>al v43 (bd (ld1 gT v0) fun v45=>LZ 139 [v45] gT fun v46 oR=>cP Tryz.prog 136 [v0] oR fun rW=>R v46 rW)
 (LZ 109 [] gT fun v49 aS=>nw aS [LV.str [],LV.str [],LV.str [],LV.str [],LV.str []] fun lT aT=>bd2 (lmk (stV aT 5 lT v49)) fun _v53 iF=>bd (ld1 iF v0) fun bY=>bd (ob3 none none none fun l h m=>BR 5 1 lT l h m) fun v56=>bd2
 (aP iF 2
 (ao (fun i=>some (i*1,1)) (List.replicate 2 [LV.str []]).flatten
 [(0,LV.str [108,105,115,116]),(1,LV.str [109,97,112])]))
 fun v57 iN=>ld1 iN v0=some bY∧
 bd2 (ar iN 1 16 Md.rw v56 v57) fun v59 iS=>ld1 iS v0=some bY∧LZ 140 [bY,v59] iS fun v61 c7=>@Aj v0 v61 v0 R c7))))
theorem c74 (a0:LV) {R:LV.RT} {st:aa} (h:w74 a0 R st):LZ 74 [a0] st R:=
 cz [] Nv [.tmp 2] Tryz.func74 h
def Ak (x1 x4:LV) (d0:LV) (R:LV.RT) (st:aa):Prop:=
 bd (ak BinOp.lss x4 (i64 5)) fun v0=>al v0
 (bd (aL (ao (ay [(0,1),(1,1),(2,1),(3,1)]) [i64 0,LV.nils,LV.nils,LV.nils] [(0,x4)])) fun v1=>bd2 (b8 st v1) fun v2 eQ=>cP Tryz.prog 136 [d0] eQ fun gE=>R v2 gE)
 (bd (ld1 st x1) fun v5=>LZ 141 [v5,x4] st fun v6 gT=>cP Tryz.prog 136 [d0] gT fun iD=>R v6 iD)
theorem FI (x1 x4 d0:LV) {R:LV.RT} {st:aa} (h:Ak x1 x4 d0 R st):Aj x1 x4 d0 R st:=
 pz [] Nv h
def w18 (a0:LV) (R:LV.RT) (st:aa):Prop:=
 bd (bJ a0) fun v0=>bd (ak BinOp.gtr v0 (i64 4096)) fun v1=>al v1 (R (LV.tup [LV.nilp,i64 0,i64 3]) st)
 (bd (aL (ao (ay [(0,1),(1,1),(2,1)]) [LV.str [],i64 0,i64 0] [(0,a0)])) fun v2=>bd (aL (ao (ay [(0,3),(3,1)]) [LV.str [],i64 0,i64 0,i64 0] [(0,v2)])) fun v3=>bd2 (b8 st v3) fun v4 iN=>LZ 74 [v4] iN fun v6 iS=>bd (aj v4) fun v8=>bd (ad 0 v8) fun v9=>LZ 75 [v9] iS fun mK eQ=>bd (lun UnOp.not mK) fun nE=>al nE
 (bd (aj v4) fun oF=>bd (ad 0 oF) fun oR=>bd (ad 1 oR) fun rW=>bd (ld1 eQ rW) fun aS=>bd (bJ a0) fun aT=>bd (ak BinOp.lss aS aT) fun bY=>al bY
 (bd (aj v4) fun c7=>bd (ad 0 c7) fun dO=>bd (aj v4) fun lE=>bd (ad 0 lE) fun lT=>bd (ad 1 lT) fun p7=>bd (ld1 eQ p7) fun p8=>LZ 76 [dO,p8,i64 4] eQ fun _ iF=>bd (aj v4) fun p9=>bd (ad 0 p9) fun tO=>LZ 75 [tO] iF fun v29 gE=>al v29
 (bd (aj v4) fun v31=>bd (ad 0 v31) fun v32=>bd (ad 1 v32) fun v33=>bd (ld1 gE v33) fun v34=>bd (aj v4) fun v35=>bd (ad 0 v35) fun v36=>bd (ad 2 v36) fun v37=>bd (ld1 gE v37) fun v38=>R (LV.tup [LV.nilp,v34,v38]) gE)
 (R (LV.tup [v6,i64 0,i64 0]) gE))
 (bd (aj v4) fun v39=>bd (ad 0 v39) fun v40=>LZ 75 [v40] eQ fun v41 gT=>al v41
 (bd (aj v4) fun v43=>bd (ad 0 v43) fun v44=>bd (ad 1 v44) fun v45=>bd (ld1 gT v45) fun v46=>bd (aj v4) fun v47=>bd (ad 0 v47) fun v48=>bd (ad 2 v48) fun v49=>bd (ld1 gT v49) fun v50=>R (LV.tup [LV.nilp,v46,v50]) gT)
 (R (LV.tup [v6,i64 0,i64 0]) gT)))
 (bd (aj v4) fun v51=>bd (ad 0 v51) fun v52=>LZ 75 [v52] eQ fun v53 iD=>al v53
 (bd (aj v4) fun v55=>bd (ad 0 v55) fun v56=>bd (ad 1 v56) fun v57=>bd (ld1 iD v57) fun v58=>bd (aj v4) fun v59=>bd (ad 0 v59) fun v60=>bd (ad 2 v60) fun v61=>bd (ld1 iD v61) fun v62=>R (LV.tup [LV.nilp,v58,v62]) iD)
 (R (LV.tup [v6,i64 0,i64 0]) iD)))
theorem c18 (a0:LV) {R:LV.RT} {st:aa} (h:w18 a0 R st):LZ 18 [a0] st R:=
 cz [] [] [.tmp 2,.tmp 3,.tmp 4] Tryz.func18 h
def r7 (x0 x3:LV) (R:LV.RT) (st:aa):Prop:=LTg Tryz.prog (kindOf false) [.tmp 2] (bg Tryz.f138 5) [] R (x0::.aN::.aN::x3::(LV.jk 47 [])) st
def vB (x0 x3:LV) (R:LV.RT) (st:aa):Prop:=LTg Tryz.prog (kindOf false) [.tmp 2] (bg Tryz.f138 10) [] R (x0::.aN::.aN::x3::(LV.jk 47 [])) st
def FJ:List Nat:=(LV.gx 1 50 [3])
def FK:List (Nat × List Nat):=[(7,(LV.gx 1 50 [3]))]
def Nw (a0:LV) (R:LV.RT) (st:aa):Prop:=
 bd (aL (ao (ay [(0,1),(1,1),(2,1),(3,1)]) [i64 0,LV.nils,LV.nils,LV.nils] [(0,i64 7)])) fun v0=>bd2 (b8 st v0) fun v1 gE=>bd (aj a0) fun v3=>bd (ad 0 v3) fun v4=>LZ 137 [v4,LV.int IntKind.u8 93] gE fun v5 eQ=>al v5 (R v1 eQ) (r7 a0 v1 R eQ)
theorem c138 (a0:LV) {R:LV.RT} {st:aa} (h:Nw a0 R st):LZ 138 [a0] st R:=
 cz FJ FK [.tmp 2] Tryz.func138 h
def vC (x0 x3:LV) (R:LV.RT) (st:aa):Prop:=
 bd (aj x0) fun v0=>bd (ad 0 v0) fun v1=>LZ 75 [v1] st fun v2 eQ=>bd (lun UnOp.not v2) fun v4=>al v4
 (bd (aj x3) fun v5=>bd (ad 1 v5) fun v6=>bd (ld1 eQ v6) fun v7=>bd (bo v7) fun v8=>bd (ak BinOp.eql v8 (i64 16)) fun v9=>al v9
 (bd (aj x0) fun bY=>bd (ad 0 bY) fun c7=>bd (aj x0) fun dO=>bd (ad 0 dO) fun lE=>bd (ad 1 lE) fun lT=>bd (ld1 eQ lT) fun p7=>LZ 76 [c7,p7,i64 3] eQ fun _ gE=>bd (aj x3) fun p8=>bd (ad 1 p8) fun iS=>bd (ld1 gE iS) fun mK=>LZ 74 [x0] gE fun p9 gT=>ld1 gT iS=some mK∧
 bd2 (aP gT 1 (ao (fun i=>some (i*1,1)) (List.replicate 1 [LV.nilp]).flatten [(0,p9)])) fun tO iD=>ld1 iD iS=some mK∧
 bd2 (ar iD 1 8 Md.rw mK tO) fun v25 nE=>bd (aj x3) fun v27=>bd (ad 1 v27) fun v28=>bd2 (lmk (stV nE 1 v28 v25)) fun _v29 oF=>vB x0 x3 R oF)
 (bd (aj x3) fun v31=>bd (ad 1 v31) fun oR=>bd (ld1 eQ oR) fun rW=>LZ 74 [x0] eQ fun v34 iF=>ld1 iF oR=some rW∧
 bd2 (aP iF 1 (ao (fun i=>some (i*1,1)) (List.replicate 1 [LV.nilp]).flatten [(0,v34)])) fun v36 iN=>ld1 iN oR=some rW∧
 bd2 (ar iN 1 8 Md.rw rW v36) fun v38 aS=>bd (aj x3) fun v40=>bd (ad 1 v40) fun v41=>bd2 (lmk (stV aS 1 v41 v38)) fun _v42 aT=>vB x0 x3 R aT))
 (R x3 eQ)
theorem Al (x0 x3:LV) {R:LV.RT} {st:aa} (h:vC x0 x3 R st):r7 x0 x3 R st:=
 pz FJ FK h
def qI (x0 x3:LV) (R:LV.RT) (st:aa):Prop:=
 bd (aj x0) fun v0=>bd (ad 0 v0) fun v1=>LZ 137 [v1,LV.int IntKind.u8 93] st fun v2 eQ=>al v2 (R x3 eQ) (bd (aj x0) fun v4=>bd (ad 0 v4) fun v5=>LZ 184 [v5,LV.int IntKind.u8 44] eQ fun _ gE=>r7 x0 x3 R gE)
theorem vD (x0 x3:LV) {R:LV.RT} {st:aa} (h:qI x0 x3 R st):vB x0 x3 R st:=
 pz FJ FK h
def r8 (x0 x3:LV) (R:LV.RT) (st:aa):Prop:=LTg Tryz.prog (kindOf false) [.tmp 2] (bg Tryz.f139 5) [] R (x0::.aN::.aN::x3::(LV.jk 24 [])) st
def Km:List Nat:=(LV.gx 1 27 [3])
def Nx (a0:LV) (R:LV.RT) (st:aa):Prop:=
 bd (aL (ao (ay [(0,1),(1,1),(2,1),(3,1)]) [i64 0,LV.nils,LV.nils,LV.nils] [(0,i64 8)])) fun v0=>bd2 (b8 st v0) fun v1 gE=>bd (aj a0) fun v3=>bd (ad 0 v3) fun v4=>LZ 137 [v4,LV.int IntKind.u8 125] gE fun v5 eQ=>al v5 (R v1 eQ) (r8 a0 v1 R eQ)
theorem c139 (a0:LV) {R:LV.RT} {st:aa} (h:Nx a0 R st):LZ 139 [a0] st R:=
 cz Km [] [.tmp 2] Tryz.func139 h
def vE (x0 x3:LV) (R:LV.RT) (st:aa):Prop:=
 bd (aj x0) fun v0=>bd (ad 0 v0) fun v1=>LZ 75 [v1] st fun v2 gT=>bd (lun UnOp.not v2) fun v4=>al v4
 (LZ 185 [x0,x3] gT fun _ iD=>bd (aj x0) fun v7=>bd (ad 0 v7) fun v8=>LZ 137 [v8,LV.int IntKind.u8 125] iD fun v9 eQ=>al v9 (R x3 eQ) (bd (aj x0) fun iF=>bd (ad 0 iF) fun iN=>LZ 184 [iN,LV.int IntKind.u8 44] eQ fun _ gE=>r8 x0 x3 R gE))
 (R x3 gT)
theorem Am (x0 x3:LV) {R:LV.RT} {st:aa} (h:vE x0 x3 R st):r8 x0 x3 R st:=
 pz Km [] h
def Ny (a0 a1:LV) (R:LV.RT) (st:aa):Prop:=
 bd (aj a0) fun v0=>bd (ad 0 v0) fun v1=>LZ 184 [v1,LV.int IntKind.u8 40] st fun _ gT=>LZ 74 [a0] gT fun v4 iD=>bd (aj a0) fun v6=>bd (ad 0 v6) fun v7=>LZ 184 [v7,LV.int IntKind.u8 41] iD fun _ iF=>bd2 (aP iF 1 (ao (fun i=>some (i*1,1)) (List.replicate 1 [LV.nilp]).flatten [(0,v4)])) fun iN eQ=>bd (aL (ao (ay [(0,1),(1,1),(2,1),(3,1)]) [i64 0,LV.nils,LV.nils,LV.nils] [(0,a1),(1,iN)])) fun iS=>bd2 (b8 eQ iS) fun mK gE=>R mK gE
theorem c141 (a0 a1:LV) {R:LV.RT} {st:aa} (h:Ny a0 a1 R st):LZ 141 [a0,a1] st R:=
 cz [] [] [.tmp 4] Tryz.func141 h
def FL (x0 x1 x4:LV) (R:LV.RT) (st:aa):Prop:=LTg Tryz.prog (kindOf false) [] (bg Tryz.f185 2) [] R (x0::x1::.aN::.aN::x4::(LV.jk 102 [])) st
def An (x0 x1 x4 x5 x7:LV) (R:LV.RT) (st:aa):Prop:=LTg Tryz.prog (kindOf false) [] (bg Tryz.f185 8) [] R (x0::x1::.aN::.aN::x4::x5::.aN::x7::(LV.jk 99 [])) st
def r9 (x0 x1 x5:LV) (R:LV.RT) (st:aa):Prop:=LTg Tryz.prog (kindOf false) [] (bg Tryz.f185 9) [] R (x0::x1::(LV.jk 3 (x5::(LV.jk 101 [])))) st
def eK (x0 x1 x5 x8:LV) (R:LV.RT) (st:aa):Prop:=LTg Tryz.prog (kindOf false) [] (bg Tryz.f185 10) [] R (x0::x1::(LV.jk 3 (x5::.aN::.aN::x8::(LV.jk 98 [])))) st
def qJ (x0 x1 x5 x8:LV) (R:LV.RT) (st:aa):Prop:=LTg Tryz.prog (kindOf false) [] (bg Tryz.f185 11) [] R (x0::x1::(LV.jk 3 (x5::.aN::.aN::x8::(LV.jk 98 [])))) st
def iO (x0 x1:LV) (R:LV.RT) (st:aa):Prop:=LTg Tryz.prog (kindOf false) [] (bg Tryz.f185 12) [] R (x0::x1::(LV.jk 105 [])) st
def sd:List (Nat × List Nat):=[(2,(LV.gx 2 105 [4])),(8,(LV.gx 2 105 [4,5,7])),(9,(LV.gx 2 105 [5])),(10,(LV.gx 2 105 [5,8])),(11,(LV.gx 2 105 [5,8])),(12,(LV.gx 2 105 []))]
def LK (a0 a1:LV) (R:LV.RT) (st:aa):Prop:=
 bd (aj a0) fun v0=>bd (ad 0 v0) fun v1=>bd (ad 1 v1) fun v2=>bd (ld1 st v2) fun v3=>bd (aj a1) fun v4=>bd (ad 1 v4) fun v5=>bd (ld1 st v5) fun v6=>bd (bo v6) fun v7=>bd (ak BinOp.eql v7 (i64 16)) fun v8=>al v8 (bd (aj a0) fun v9=>bd (ad 0 v9) fun oF=>LZ 76 [oF,v3,i64 3] st fun _ iD=>FL a0 a1 v3 R iD)
 (LZ 225 [a0] st fun gE gT=>bd (aj a1) fun oR=>bd (ad 2 oR) fun rW=>bd (ld1 gT rW) fun aS=>bd (bo aS) fun aT=>bd (ak BinOp.sub aT (i64 1)) fun iF=>bd (aj a0) fun bY=>bd (ad 0 bY) fun c7=>LZ 75 [c7] gT fun dO eQ=>bd (lun UnOp.not dO) fun lE=>al lE
 (bd (ak BinOp.geq iF (i64 0)) fun lT=>al lT
 (bd (aj a1) fun p7=>bd (ad 2 p7) fun p8=>bd (ld1 eQ p8) fun p9=>bd (aR 1 p9 iF) fun tO=>bd (ld1 eQ tO) fun v30=>bd (bG BinOp.leq gE v30) fun v31=>al v31
 (bd (aj a1) fun v32=>bd (ad 2 v32) fun v33=>bd (ld1 eQ v33) fun v34=>bd (aR 1 v34 iF) fun v35=>bd (ld1 eQ v35) fun v36=>bd (bG BinOp.eql gE v36) fun v37=>al v37 (An a0 a1 v3 gE (i64 9) R eQ)
 (bd (aj a0) fun v38=>bd (ad 0 v38) fun v39=>LZ 76 [v39,v3,i64 4] eQ fun _v40 iN=>r9 a0 a1 gE R iN))
 (bd (aj a0) fun v42=>bd (ad 0 v42) fun v43=>LZ 137 [v43,LV.int IntKind.u8 63] eQ fun v44 iS=>eK a0 a1 gE v44 R iS))
 (bd (aj a0) fun v46=>bd (ad 0 v46) fun v47=>LZ 137 [v47,LV.int IntKind.u8 63] eQ fun v48 mK=>eK a0 a1 gE v48 R mK))
 (bd (aj a0) fun v50=>bd (ad 0 v50) fun v51=>LZ 137 [v51,LV.int IntKind.u8 63] eQ fun v52 nE=>eK a0 a1 gE v52 R nE))
theorem Nz (a0 a1:LV) {R:LV.RT} {st:aa} (h:LK a0 a1 R st):LZ 185 [a0,a1] st R:=
 cz [] sd [] Tryz.func185 h
def FM (x0 x1 x4:LV) (R:LV.RT) (st:aa):Prop:=
 LZ 225 [x0] st fun v0 iN=>bd (aj x1) fun v2=>bd (ad 2 v2) fun v3=>bd (ld1 iN v3) fun v4=>bd (bo v4) fun v5=>bd (ak BinOp.sub v5 (i64 1)) fun v6=>bd (aj x0) fun v7=>bd (ad 0 v7) fun v8=>LZ 75 [v8] iN fun v9 eQ=>bd (lun UnOp.not v9) fun iS=>al iS
 (bd (ak BinOp.geq v6 (i64 0)) fun mK=>al mK
 (bd (aj x1) fun nE=>bd (ad 2 nE) fun oF=>bd (ld1 eQ oF) fun oR=>bd (aR 1 oR v6) fun rW=>bd (ld1 eQ rW) fun aS=>bd (bG BinOp.leq v0 aS) fun aT=>al aT
 (bd (aj x1) fun bY=>bd (ad 2 bY) fun c7=>bd (ld1 eQ c7) fun dO=>bd (aR 1 dO v6) fun lE=>bd (ld1 eQ lE) fun lT=>bd (bG BinOp.eql v0 lT) fun p7=>al p7 (An x0 x1 x4 v0 (i64 9) R eQ)
 (bd (aj x0) fun p8=>bd (ad 0 p8) fun p9=>LZ 76 [p9,x4,i64 4] eQ fun _ gE=>r9 x0 x1 v0 R gE))
 (bd (aj x0) fun tO=>bd (ad 0 tO) fun v30=>LZ 137 [v30,LV.int IntKind.u8 63] eQ fun v31 gT=>eK x0 x1 v0 v31 R gT))
 (bd (aj x0) fun v33=>bd (ad 0 v33) fun v34=>LZ 137 [v34,LV.int IntKind.u8 63] eQ fun v35 iD=>eK x0 x1 v0 v35 R iD))
 (bd (aj x0) fun v37=>bd (ad 0 v37) fun v38=>LZ 137 [v38,LV.int IntKind.u8 63] eQ fun v39 iF=>eK x0 x1 v0 v39 R iF)
theorem LL (x0 x1 x4:LV) {R:LV.RT} {st:aa} (h:FM x0 x1 x4 R st):FL x0 x1 x4 R st:=
 pz [] sd h
def FN (x0 x1 x4 x5 x7:LV) (R:LV.RT) (st:aa):Prop:=
 bd (aj x0) fun v0=>bd (ad 0 v0) fun v1=>LZ 76 [v1,x4,x7] st fun _ eQ=>r9 x0 x1 x5 R eQ
theorem LM (x0 x1 x4 x5 x7:LV) {R:LV.RT} {st:aa} (h:FN x0 x1 x4 x5 x7 R st):An x0 x1 x4 x5 x7 R st:=
 pz [] sd h
def FO (x0 x1 x5:LV) (R:LV.RT) (st:aa):Prop:=
 bd (aj x0) fun v0=>bd (ad 0 v0) fun v1=>LZ 137 [v1,LV.int IntKind.u8 63] st fun v2 eQ=>eK x0 x1 x5 v2 R eQ
theorem LN (x0 x1 x5:LV) {R:LV.RT} {st:aa} (h:FO x0 x1 x5 R st):r9 x0 x1 x5 R st:=
 pz [] sd h
def vF (x0 x1 x5 x8:LV) (R:LV.RT) (st:aa):Prop:=
 bd (aj x0) fun v0=>bd (ad 0 v0) fun v1=>LZ 184 [v1,LV.int IntKind.u8 58] st fun _ eQ=>qJ x0 x1 x5 x8 R eQ
theorem Ct (x0 x1 x5 x8:LV) {R:LV.RT} {st:aa} (h:vF x0 x1 x5 x8 R st):eK x0 x1 x5 x8 R st:=
 pz [] sd h
def Cu (x0 x1 x5 x8:LV) (R:LV.RT) (st:aa):Prop:=
 bd (aj x1) fun v0=>bd (ad 2 v0) fun v1=>bd (ld1 st v1) fun v2=>bd (aj x1) fun v3=>bd (ad 3 v3) fun v4=>bd (ld1 st v4) fun v5=>(bd2 (aP st 1 (ao (fun i=>some (i*1,1)) (List.replicate 1 [LV.bool false]).flatten [(0,x8)])) fun v6 iS=>ld1 iS v4=some v5∧
 ld1 iS v1=some v2∧
 bd2 (aP iS 1 (ao (fun i=>some (i*1,1)) (List.replicate 1 [LV.str []]).flatten [(0,x5)])) fun v8 mK=>ld1 mK v4=some v5∧
 ld1 mK v1=some v2∧
 bd2 (ar mK 1 16 Md.rw v2 v8) fun lT iD=>ld1 iD v4=some v5∧
 bd2 (ar iD 1 1 Md.rw v5 v6) fun p7 nE=>bd (aj x1) fun p8=>bd (ad 2 p8) fun p9=>bd2 (lmk (stV nE 1 p9 lT)) fun _ oF=>bd (aj x1) fun tO=>bd (ad 3 tO) fun v19=>bd2 (lmk (stV oF 1 v19 p7)) fun _v20 oR=>iO x0 x1 R oR)∧
 bd2 (aP st 1 (ao (fun i=>some (i*1,1)) (List.replicate 1 [LV.str []]).flatten [(0,x5)])) fun lE eQ=>ld1 eQ v4=some v5∧
 ld1 eQ v1=some v2∧
 (bd2 (aP eQ 1 (ao (fun i=>some (i*1,1)) (List.replicate 1 [LV.bool false]).flatten [(0,x8)])) fun v24 gE=>ld1 gE v4=some v5∧
 ld1 gE v1=some v2∧
 bd2 (ar gE 1 16 Md.rw v2 lE) fun v26 iF=>ld1 iF v4=some v5∧
 bd2 (ar iF 1 1 Md.rw v5 v24) fun v28 rW=>bd (aj x1) fun v30=>bd (ad 2 v30) fun v31=>bd2 (lmk (stV rW 1 v31 v26)) fun _v32 aS=>bd (aj x1) fun v34=>bd (ad 3 v34) fun v35=>bd2 (lmk (stV aS 1 v35 v28)) fun _v36 aT=>iO x0 x1 R aT)∧
 bd2 (ar eQ 1 16 Md.rw v2 lE) fun v38 iN=>ld1 iN v4=some v5∧
 bd2 (aP iN 1 (ao (fun i=>some (i*1,1)) (List.replicate 1 [LV.bool false]).flatten [(0,x8)])) fun v40 gT=>ld1 gT v4=some v5∧
 ld1 gT v1=some v2∧
 bd2 (ar gT 1 1 Md.rw v5 v40) fun v42 bY=>bd (aj x1) fun v44=>bd (ad 2 v44) fun v45=>bd2 (lmk (stV bY 1 v45 v38)) fun _v46 c7=>bd (aj x1) fun v48=>bd (ad 3 v48) fun v49=>bd2 (lmk (stV c7 1 v49 v42)) fun _v50 dO=>iO x0 x1 R dO
theorem IU (x0 x1 x5 x8:LV) {R:LV.RT} {st:aa} (h:Cu x0 x1 x5 x8 R st):qJ x0 x1 x5 x8 R st:=
 pz [] sd h
def vG (x0 x1:LV) (R:LV.RT) (st:aa):Prop:=
 bd (aj x1) fun v0=>bd (ad 1 v0) fun v1=>bd (ld1 st v1) fun v2=>LZ 74 [x0] st fun v3 gE=>ld1 gE v1=some v2∧
 bd2 (aP gE 1 (ao (fun i=>some (i*1,1)) (List.replicate 1 [LV.nilp]).flatten [(0,v3)])) fun v5 gT=>ld1 gT v1=some v2∧
 bd2 (ar gT 1 8 Md.rw v2 v5) fun v7 iD=>bd (aj x1) fun v9=>bd (ad 1 v9) fun iF=>bd2 (lmk (stV iD 1 iF v7)) fun _ eQ=>R (LV.tup []) eQ
theorem Cv (x0 x1:LV) {R:LV.RT} {st:aa} (h:vG x0 x1 R st):iO x0 x1 R st:=
 pz [] sd h
end Go.Proofs.YtknegckgmklnhaaGreatDoor
namespace Go.Proofs.YtknegckgmklnhaaGreatDoor
open Go Go.CP
set_option maxRecDepth 100000
def NA (x5 x6 x8 x9 x54:LV) (R:LV.RT) (st:aa):Prop:=LTg Tryz.prog (kindOf false) [.tmp 4] (bg Tryz.f9 10) [] R (LV.jk 5 (x5::x6::.aN::x8::x9::(LV.jk 44 (x54::(LV.jk 55 []))))) st
def gl9:List Nat:=(LV.gx 0 110 [5,6,8,9,11])
def rc9:List (Nat × List Nat):=[(10,(LV.gx 0 110 [5,6,8,9,54])),(15,(LV.gx 0 110 [5,6,8,9,11,12])),(16,(LV.gx 0 110 [5,6,8,9,11,12,14,15]))]
def w9 (a0 a1:LV) (R:LV.RT) (st:aa):Prop:=
 bd2 (b8 st a1) fun v0 lE=>bd (ldA lE v0 7) fun v2=>LZ 24 [v2] lE fun v3 lT=>bd (ak BinOp.gtr v3 (i64 0)) fun v5=>al v5 (LZ 17 [] lT fun v6 st7=>R v6 st7)
 (LZ 17 [] lT fun v8 p7=>bd (lun UnOp.not v8) fun v10=>al v10 (LZ 17 [] p7 fun v11 iN=>R v11 iN)
 (LZ 26 [a0] p7 fun iS mK=>bd (ai iS 0) fun p8=>bd (ai iS 1) fun v16=>bd (ai iS 2) fun v17=>nw mK [i64 0,LV.nils] fun nE oF=>bd2 (lmk (stV oF 2 nE v16)) fun _v20 gT=>bd (ldA gT v0 7) fun v22=>LZ 27 [v22] gT fun v23 oR=>LZ 29 [v23] oR fun v25 rW=>nw rW [LV.nili] fun aS aT=>bd2 (lmk (stV aT 1 aS v25)) fun _v29 gE=>bd (ak BinOp.gtr v17 (i64 0)) fun v31=>al v31 (R (LV.bool true) gE)
 (bd (ldA gE aS 1) fun v32=>LZ 42 [p8,v32] gE fun p9 bY=>bd (ai p9 0) fun v35=>bd (ai p9 1) fun v36=>nw bY [LV.nili] fun iF c7=>bd2 (lmk (stV c7 1 iF v35)) fun _v39 eQ=>bd (ak BinOp.neq v36 (i64 0)) fun v41=>al v41
 (bd (ldA eQ iF 1) fun v42=>LZ 46 [v42] eQ fun v43 dO=>bd (ak BinOp.eql v43 (i64 0)) fun v45=>R v45 dO)
 (bd (ldA eQ iF 1) fun v46=>bd (ad 1 nE) fun tO=>bd (ld1 eQ tO) fun v48=>bd (bo v48) fun v49=>LZ 49 [v46] eQ fun v50 iD=>ld1 iD tO=some v48∧bd (bo v50) fun v52=>bd (ak BinOp.neq v52 v49) fun v53=>NA p8 nE aS iF v53 R iD))))
theorem c9 (a0 a1:LV) {R:LV.RT} {st:aa} (h:w9 a0 a1 R st):LZ 9 [a0,a1] st R:=
 cz gl9 rc9 [.tmp 4] Tryz.func9 h
end Go.Proofs.YtknegckgmklnhaaGreatDoor
