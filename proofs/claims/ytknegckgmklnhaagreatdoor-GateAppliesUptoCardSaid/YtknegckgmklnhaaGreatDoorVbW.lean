/- Parts of the proof. -/
import Derived.Test.YtknegckgmklnhaaGreatDoorVaW
import Derived.Test.YtknegckgmklnhaaGreatDoorCp50
namespace Go.Proofs.YtknegckgmklnhaaGreatDoor
open Go Go.CP
theorem pz (gl:List Nat) (rc:List (Nat × List Nat)) {dk:Bool} {rs:List ResultVar} {R:LV.RT} {k:List Item} {ds:List eM} {t:List LV} {st:aa} {W:Prop} (h:W) (e:hZ Tryz.prog dk rs R gl [] rc 3000 (dK k) ds t st=W:=by kernel_rfl):LTg Tryz.prog (kindOf dk) rs k ds R t st:=LTg.atE aJ e h
theorem cz (gl:List Nat) (rc:List (Nat × List Nat)) (rs:List ResultVar) {f:FuncId} {fn:Func} {xs:List LV} {st:aa} {R:LV.RT} {W:Prop} (hf:Tryz.prog.funcs[f]?=some fn) (h:W) (hb:fn.body=some (bG fn):=by kernel_rfl) (hn:(fn.name == "runtime.NumGoroutine")=false:=by kernel_rfl) (hrs:fn.results.toList=rs:=by kernel_rfl) (e:hZ Tryz.prog false rs R gl [] rc 3000 [.code (bG fn)] [] (xs++List.replicate (fn.ntmps-xs.length) aQ) st=W:=by kernel_rfl):aw Tryz.prog f xs st R:=aw.ofE aJ hf hb hn hrs e h
set_option maxRecDepth 100000
def w75 (a0:LV) (R:LV.RT) (st:aa):Prop:=
 bd (ak a0) fun v0=>bd (ag 2 v0) fun v1=>bd (ld1 st v1) fun v2=>bd (al BinOp.neq v2 (i64 0)) fun v3=>R v3 st
theorem c75 (a0:LV) {R:LV.RT} {st:aa} (h:w75 a0 R st):LZ 75 [a0] st R:=
 cz [] [] [.tmp 2] Tryz.func75 h
def w76 (a0 a1 a2:LV) (R:LV.RT) (st:aa):Prop:=
 bd (ak a0) fun v0=>bd (ag 2 v0) fun v1=>bd (ld1 st v1) fun v2=>bd (al BinOp.eql v2 (i64 0)) fun v3=>aq v3
 (bd (ak a0) fun v4=>bd (ag 1 v4) fun v5=>bd2 (lmk (stV st 1 v5 a1)) fun _ gE=>bd (ak a0) fun v8=>bd (ag 2 v8) fun v9=>bd2 (lmk (stV gE 1 v9 a2)) fun _ eQ=>R (LV.tup []) eQ)
 (R (LV.tup []) st)
theorem c76 (a0 a1 a2:LV) {R:LV.RT} {st:aa} (h:w76 a0 a1 a2 R st):LZ 76 [a0,a1,a2] st R:=
 cz [] [] [] Tryz.func76 h
def tp (x0 x31:LV) (R:LV.RT) (st:aa):Prop:=LTg Tryz.prog (kindOf false) [.tmp 4] (br Tryz.f137 1) [] R (x0::(LV.jk 30 (x31::(LV.jk 7 [])))) st
def L2:List (Nat × List Nat):=[(1,(LV.gx 1 38 [31]))]
def QQ (a0 a1:LV) (R:LV.RT) (st:aa):Prop:=
 LZ 75 [a0] st fun v0 eQ=>aq v0 (tp a0 (LV.bool true) R eQ)
 (bd (ak a0) fun v2=>bd (ag 1 v2) fun v3=>bd (ld1 eQ v3) fun v4=>bd (ak a0) fun v5=>bd (ag 0 v5) fun v6=>bd (ld1 eQ v6) fun v7=>bd (cm v7) fun v8=>bd (al BinOp.geq v4 v8) fun v9=>aq v9 (tp a0 (LV.bool true) R eQ)
 (bd (ak a0) fun gE=>bd (ag 0 gE) fun gT=>bd (ld1 eQ gT) fun iD=>bd (ak a0) fun iF=>bd (ag 1 iF) fun iN=>bd (ld1 eQ iN) fun iS=>bd (dJ iD iS) fun mK=>bd (al BinOp.neq mK a1) fun nE=>tp a0 nE R eQ))
theorem Pg (a0 a1:LV) {R:LV.RT} {st:aa} (h:QQ a0 a1 R st):LZ 137 [a0,a1] st R:=
 cz [] L2 [.tmp 4] Tryz.func137 h
def BF (x0 x31:LV) (R:LV.RT) (st:aa):Prop:=
 aq x31 (R (LV.bool false) st)
 (bd (ak x0) fun v0=>bd (ag 1 v0) fun v1=>bd (ld1 st v1) fun v2=>bd (al BinOp.add v2 (i64 1)) fun v3=>bd (ak x0) fun v4=>bd (ag 1 v4) fun v5=>bd2 (lmk (stV st 1 v5 v3)) fun _ eQ=>R (LV.bool true) eQ)
theorem Hd (x0 x31:LV) {R:LV.RT} {st:aa} (h:BF x0 x31 R st):tp x0 x31 R st:=
 pz [] L2 h
def QR (a0 a1:LV) (R:LV.RT) (st:aa):Prop:=
 LZ 75 [a0] st fun v0 gT=>bd (lun UnOp.not v0) fun v2=>aq v2
 (LZ 137 [a0,a1] gT fun v3 eQ=>bd (lun UnOp.not v3) fun v5=>aq v5 (bd (ak a0) fun v6=>bd (ag 1 v6) fun v7=>bd (ld1 eQ v7) fun v8=>LZ 76 [a0,v8,i64 4] eQ fun _ gE=>R (LV.tup []) gE)
 (R (LV.tup []) eQ))
 (R (LV.tup []) gT)
theorem NG (a0 a1:LV) {R:LV.RT} {st:aa} (h:QR a0 a1 R st):LZ 184 [a0,a1] st R:=
 cz [] [] [] Tryz.func184 h
def Ph (a0:LV) (R:LV.RT) (st:aa):Prop:=
 bd (al BinOp.geq a0 (LV.int IntKind.u8 97)) fun v0=>aq v0
 (bd (al BinOp.leq a0 (LV.int IntKind.u8 122)) fun v1=>aq v1 (R (LV.bool true) st) (bd (al BinOp.geq a0 (LV.int IntKind.u8 48)) fun v2=>aq v2 (bd (al BinOp.leq a0 (LV.int IntKind.u8 57)) fun v3=>R v3 st) (R (LV.bool false) st)))
 (bd (al BinOp.geq a0 (LV.int IntKind.u8 48)) fun v4=>aq v4 (bd (al BinOp.leq a0 (LV.int IntKind.u8 57)) fun v5=>R v5 st) (R (LV.bool false) st))
theorem QS (a0:LV) {R:LV.RT} {st:aa} (h:Ph a0 R st):LZ 262 [a0] st R:=
 cz [] [] [.tmp 2] Tryz.func262 h
def iq (x0 x6 x7:LV) (R:LV.RT) (st:aa):Prop:=LTg Tryz.prog (kindOf false) [.tmp 2] (br Tryz.f142 3) [] R (x0::(LV.jk 5 (x6::x7::(LV.jk 32 [])))) st
def L3:List Nat:=(LV.gx 1 39 [6,7])
def Pj (a0:LV) (R:LV.RT) (st:aa):Prop:=
 bd (cm a0) fun v0=>iq a0 v0 (i64 0) R st
theorem QT (a0:LV) {R:LV.RT} {st:aa} (h:Pj a0 R st):LZ 142 [a0] st R:=
 cz L3 [] [.tmp 2] Tryz.func142 h
def BG (x0 x6 x7:LV) (R:LV.RT) (st:aa):Prop:=
 bd (al BinOp.lss x7 x6) fun v0=>aq v0
 (bd (dJ x0 x7) fun v1=>bd (al BinOp.geq v1 (LV.int IntKind.u8 97)) fun v2=>aq v2
 (bd (al BinOp.leq v1 (LV.int IntKind.u8 122)) fun v3=>aq v3 (bd (lun UnOp.not (LV.bool true)) fun v4=>aq v4 (R (LV.bool false) st) (bd (al BinOp.add x7 (i64 1)) fun v5=>iq x0 x6 v5 R st))
 (bd (al BinOp.gtr x7 (i64 0)) fun v6=>aq v6
 (bd (al BinOp.geq v1 (LV.int IntKind.u8 48)) fun v7=>aq v7
 (bd (al BinOp.leq v1 (LV.int IntKind.u8 57)) fun v8=>bd (lun UnOp.not v8) fun v9=>aq v9 (R (LV.bool false) st) (bd (al BinOp.add x7 (i64 1)) fun eQ=>iq x0 x6 eQ R st))
 (bd (lun UnOp.not (LV.bool false)) fun gE=>aq gE (R (LV.bool false) st) (bd (al BinOp.add x7 (i64 1)) fun gT=>iq x0 x6 gT R st)))
 (bd (lun UnOp.not (LV.bool false)) fun iD=>aq iD (R (LV.bool false) st) (bd (al BinOp.add x7 (i64 1)) fun iF=>iq x0 x6 iF R st))))
 (bd (al BinOp.gtr x7 (i64 0)) fun iN=>aq iN
 (bd (al BinOp.geq v1 (LV.int IntKind.u8 48)) fun iS=>aq iS
 (bd (al BinOp.leq v1 (LV.int IntKind.u8 57)) fun mK=>bd (lun UnOp.not mK) fun nE=>aq nE (R (LV.bool false) st) (bd (al BinOp.add x7 (i64 1)) fun oF=>iq x0 x6 oF R st))
 (bd (lun UnOp.not (LV.bool false)) fun oR=>aq oR (R (LV.bool false) st) (bd (al BinOp.add x7 (i64 1)) fun rW=>iq x0 x6 rW R st)))
 (bd (lun UnOp.not (LV.bool false)) fun aS=>aq aS (R (LV.bool false) st) (bd (al BinOp.add x7 (i64 1)) fun aT=>iq x0 x6 aT R st))))
 (bd (ck BinOp.neq x0 (LV.str [])) fun bY=>aq bY (bd (cm x0) fun dO=>bd (al BinOp.leq dO (i64 20)) fun lE=>R lE st) (R (LV.bool false) st))
theorem He (x0 x6 x7:LV) {R:LV.RT} {st:aa} (h:BG x0 x6 x7 R st):iq x0 x6 x7 R st:=
 pz L3 [] h
def tq (x0 x5 x7 x8 x9 x10 x11:LV) (R:LV.RT) (st:aa):Prop:=LTg Tryz.prog (kindOf false) [.tmp 4] (br Tryz.f140 4) [] R (x0::(LV.jk 4 (x5::.aY::x7::x8::x9::x10::x11::(LV.jk 85 [])))) st
def rO (x0 x5 x7 x8 x9 x10 x11:LV) (R:LV.RT) (st:aa):Prop:=LTg Tryz.prog (kindOf false) [.tmp 4] (br Tryz.f140 13) [] R (x0::(LV.jk 4 (x5::.aY::x7::x8::x9::x10::x11::(LV.jk 85 [])))) st
def rP (x0 x5 x7 x8 x9 x10 x11 x79:LV) (R:LV.RT) (st:aa):Prop:=LTg Tryz.prog (kindOf false) [.tmp 4] (br Tryz.f140 14) [] R (x0::(LV.jk 4 (x5::.aY::x7::x8::x9::x10::x11::(LV.jk 67 (x79::(LV.jk 17 [])))))) st
def DI:List Nat:=(LV.gx 1 96 [5,7,8,9,10,11])
def DJ:List (Nat × List Nat):=[(9,(LV.gx 1 96 [5,7,8,9,10,11,79]))]
def Pl (a0 a1:LV) (R:LV.RT) (st:aa):Prop:=
 bd (bB a1) fun v0=>tq a0 (i64 0) (LV.tup []) (LV.tup []) a1 v0 (i64 0) R st
theorem QU (a0 a1:LV) {R:LV.RT} {st:aa} (h:Pl a0 a1 R st):LZ 140 [a0,a1] st R:=
 cz DI DJ [.tmp 4] Tryz.func140 h
def BH (x0 x5:LV) (_x7:LV) (_x8:LV) (x9:LV) (x10:LV) (x11:LV) (R:LV.RT) (st:aa):Prop:=
 bd (al BinOp.lss x11 x10) fun v0=>aq v0
 (bd (bn 1 x9 x11) fun v1=>bd (ld1 st v1) fun v2=>bd (ak x0) fun v3=>bd (ag 0 v3) fun v4=>bd (ag 0 v4) fun v5=>bd (ld1 st v5) fun v6=>bd (ak x0) fun v7=>bd (ag 0 v7) fun v8=>bd (ag 1 v8) fun v9=>bd (ld1 st v9) fun iD=>bd (ob3 (some iD) none none fun l h m=>dm v6 l h m) fun iF=>LZ 186 [iF,v2] st fun iN eQ=>aq iN
 (bd (ak x0) fun iS=>bd (ag 0 iS) fun mK=>bd (ag 1 mK) fun nE=>bd (ld1 eQ nE) fun oF=>bd (cm v2) fun oR=>bd (al BinOp.add oF oR) fun rW=>bd (ak x0) fun aS=>bd (ag 0 aS) fun aT=>bd (ag 1 aT) fun bY=>bd2 (lmk (stV eQ 1 bY rW)) fun _ gE=>R x11 gE)
 (rO x0 x5 v2 (i64 0) x9 x10 x11 R eQ))
 (bd (ak x0) fun dO=>bd (ag 0 dO) fun lE=>bd (ak x0) fun lT=>bd (ag 0 lT) fun p7=>bd (ag 1 p7) fun p8=>bd (ld1 st p8) fun p9=>bd (al BinOp.add p9 x5) fun tO=>LZ 76 [lE,tO,i64 4] st fun _ gT=>R (i64 0) gT)
theorem Hf (x0 x5 x7 x8 x9 x10 x11:LV) {R:LV.RT} {st:aa} (h:BH x0 x5 x7 x8 x9 x10 x11 R st):tq x0 x5 x7 x8 x9 x10 x11 R st:=
 pz DI DJ h
def wQ (x0 x5 x7 x8 x9 x10 x11:LV) (R:LV.RT) (st:aa):Prop:=
 bd (cm x7) fun v0=>bd (al BinOp.lss x8 v0) fun v1=>aq v1
 (bd (ak x0) fun v2=>bd (ag 0 v2) fun v3=>bd (ag 1 v3) fun v4=>bd (ld1 st v4) fun v5=>bd (al BinOp.add v5 x8) fun v6=>bd (ak x0) fun v7=>bd (ag 0 v7) fun v8=>bd (ag 0 v8) fun v9=>bd (ld1 st v9) fun eQ=>bd (cm eQ) fun gE=>bd (al BinOp.lss v6 gE) fun gT=>aq gT
 (bd (ak x0) fun iD=>bd (ag 0 iD) fun iF=>bd (ag 0 iF) fun iN=>bd (ld1 st iN) fun iS=>bd (ak x0) fun mK=>bd (ag 0 mK) fun nE=>bd (ag 1 nE) fun oF=>bd (ld1 st oF) fun oR=>bd (al BinOp.add oR x8) fun rW=>bd (dJ iS rW) fun aS=>bd (dJ x7 x8) fun aT=>bd (al BinOp.eql aS aT) fun bY=>rP x0 x5 x7 x8 x9 x10 x11 bY R st)
 (rP x0 x5 x7 x8 x9 x10 x11 (LV.bool false) R st))
 (rP x0 x5 x7 x8 x9 x10 x11 (LV.bool false) R st)
theorem DK (x0 x5 x7 x8 x9 x10 x11:LV) {R:LV.RT} {st:aa} (h:wQ x0 x5 x7 x8 x9 x10 x11 R st):rO x0 x5 x7 x8 x9 x10 x11 R st:=
 pz DI DJ h
def rQ (x0 x5 x7 x8 x9 x10 x11 x79:LV) (R:LV.RT) (st:aa):Prop:=
 aq x79 (bd (al BinOp.add x8 (i64 1)) fun v0=>rO x0 x5 x7 v0 x9 x10 x11 R st)
 (bd (iw [x5,x8]) fun v1=>bd (al BinOp.add x11 (i64 1)) fun v2=>tq x0 v1 x7 x8 x9 x10 v2 R st)
theorem wR (x0 x5 x7 x8 x9 x10 x11 x79:LV) {R:LV.RT} {st:aa} (h:rQ x0 x5 x7 x8 x9 x10 x11 x79 R st):rP x0 x5 x7 x8 x9 x10 x11 x79 R st:=
 pz DI DJ h
def wS (x0 x3:LV) (R:LV.RT) (st:aa):Prop:=LTg Tryz.prog (kindOf false) [.tmp 2] (br Tryz.f225 3) [] R (x0::.aY::.aY::x3::(LV.jk 95 [])) st
def wT (x0 x3 x46:LV) (R:LV.RT) (st:aa):Prop:=LTg Tryz.prog (kindOf false) [.tmp 2] (br Tryz.f225 4) [] R (x0::.aY::.aY::x3::(LV.jk 42 (x46::(LV.jk 52 [])))) st
def Hg:List Nat:=(LV.gx 1 98 [3])
def Hh:List (Nat × List Nat):=[(2,(LV.gx 1 98 [3,46]))]
def NH (a0:LV) (R:LV.RT) (st:aa):Prop:=
 bd (ak a0) fun v0=>bd (ag 0 v0) fun v1=>bd (ag 1 v1) fun v2=>bd (ld1 st v2) fun v3=>wS a0 v3 R st
theorem Pm (a0:LV) {R:LV.RT} {st:aa} (h:NH a0 R st):LZ 225 [a0] st R:=
 cz Hg Hh [.tmp 2] Tryz.func225 h
def BI (x0 x3:LV) (R:LV.RT) (st:aa):Prop:=
 bd (ak x0) fun v0=>bd (ag 0 v0) fun v1=>bd (ag 1 v1) fun v2=>bd (ld1 st v2) fun v3=>bd (ak x0) fun v4=>bd (ag 0 v4) fun v5=>bd (ag 0 v5) fun v6=>bd (ld1 st v6) fun v7=>bd (cm v7) fun v8=>bd (al BinOp.lss v3 v8) fun v9=>aq v9
 (bd (ak x0) fun gT=>bd (ag 0 gT) fun iD=>bd (ag 0 iD) fun iF=>bd (ld1 st iF) fun iN=>bd (al BinOp.add x3 (i64 1)) fun iS=>bd (ob3 (some x3) (some iS) none fun l h m=>dm iN l h m) fun mK=>LZ 142 [mK] st fun nE eQ=>aq nE
 (bd (ak x0) fun oF=>bd (ag 0 oF) fun oR=>bd (ag 0 oR) fun rW=>bd (ld1 eQ rW) fun aS=>bd (ak x0) fun aT=>bd (ag 0 aT) fun bY=>bd (ag 1 bY) fun dO=>bd (ld1 eQ dO) fun lE=>bd (dJ aS lE) fun lT=>LZ 262 [lT] eQ fun p7 gE=>wT x0 x3 p7 R gE)
 (wT x0 x3 (LV.bool false) R eQ))
 (wT x0 x3 (LV.bool false) R st)
theorem Hi (x0 x3:LV) {R:LV.RT} {st:aa} (h:BI x0 x3 R st):wS x0 x3 R st:=
 pz Hg Hh h
def tr (x0 x3 x46:LV) (R:LV.RT) (st:aa):Prop:=
 aq x46
 (bd (ak x0) fun v0=>bd (ag 0 v0) fun v1=>bd (ag 1 v1) fun v2=>bd (ld1 st v2) fun v3=>bd (al BinOp.add v3 (i64 1)) fun v4=>bd (ak x0) fun v5=>bd (ag 0 v5) fun v6=>bd (ag 1 v6) fun v7=>bd2 (lmk (stV st 1 v7 v4)) fun _v8 gT=>wS x0 x3 R gT)
 (bd (ak x0) fun iD=>bd (ag 0 iD) fun iF=>bd (ag 1 iF) fun iN=>bd (ld1 st iN) fun iS=>bd (al BinOp.eql iS x3) fun mK=>aq mK
 (bd (ak x0) fun nE=>bd (ag 0 nE) fun oF=>bd (ak x0) fun oR=>bd (ag 0 oR) fun rW=>bd (ag 1 rW) fun aS=>bd (ld1 st aS) fun aT=>LZ 76 [oF,aT,i64 4] st fun _ eQ=>bd (ak x0) fun bY=>bd (ag 0 bY) fun dO=>bd (ag 0 dO) fun lE=>bd (ld1 eQ lE) fun lT=>bd (ak x0) fun p7=>bd (ag 0 p7) fun p8=>bd (ag 1 p8) fun p9=>bd (ld1 eQ p9) fun tO=>bd (ob3 (some x3) (some tO) none fun l h m=>dm lT l h m) fun v31=>R v31 eQ)
 (bd (ak x0) fun v32=>bd (ag 0 v32) fun v33=>bd (ag 1 v33) fun v34=>bd (ld1 st v34) fun v35=>bd (al BinOp.sub v35 x3) fun v36=>bd (al BinOp.gtr v36 (i64 20)) fun v37=>aq v37
 (bd (ak x0) fun v38=>bd (ag 0 v38) fun v39=>LZ 76 [v39,x3,i64 7] st fun _v40 gE=>bd (ak x0) fun v42=>bd (ag 0 v42) fun v43=>bd (ag 0 v43) fun v44=>bd (ld1 gE v44) fun v45=>bd (ak x0) fun v46=>bd (ag 0 v46) fun v47=>bd (ag 1 v47) fun v48=>bd (ld1 gE v48) fun v49=>bd (ob3 (some x3) (some v49) none fun l h m=>dm v45 l h m) fun v50=>R v50 gE)
 (bd (ak x0) fun v51=>bd (ag 0 v51) fun v52=>bd (ag 0 v52) fun v53=>bd (ld1 st v53) fun v54=>bd (ak x0) fun v55=>bd (ag 0 v55) fun v56=>bd (ag 1 v56) fun v57=>bd (ld1 st v57) fun v58=>bd (ob3 (some x3) (some v58) none fun l h m=>dm v54 l h m) fun v59=>R v59 st)))
theorem wU (x0 x3 x46:LV) {R:LV.RT} {st:aa} (h:tr x0 x3 x46 R st):wT x0 x3 x46 R st:=
 pz Hg Hh h
def Pn (a0:LV) (R:LV.RT) (st:aa):Prop:=
 bd (ld1 st a0) fun v0=>bd (ak v0) fun v1=>bd (ag 3 v1) fun v2=>bd (ld1 st v2) fun v3=>bd (al BinOp.sub v3 (i64 1)) fun v4=>bd (ak v0) fun v5=>bd (ag 3 v5) fun v6=>bd2 (lmk (stV st 1 v6 v4)) fun _ eQ=>R (LV.tup []) eQ
theorem QV (a0:LV) {K:aa→Prop} {st:aa} (h:Pn a0 (fun _ s=>K s) st):dD Tryz.prog 136 [a0] st K:=
 dD.ofE (gl:=[]) (cuts:=[]) (rc:=[]) (n:=3000) aJ Tryz.func136 (show Tryz.f136.body=some (bG Tryz.f136) by kernel_rfl) (show Tryz.f136.results.toList=[] by kernel_rfl) (by kernel_rfl) h
def QW (R:LV.RT) (st:aa):Prop:=
 nw st [LV.str [],LV.str [],LV.str [],LV.str [],LV.str []] fun v0 st1=>bd
 (bh
 (aB (fun i=>some (i*1,1)) [LV.str [],LV.str [],LV.str [],LV.str [],LV.str []]
 [(0,LV.str [97,110,121]),(1,LV.str [98,111,111,108]),(2,LV.str [105,110,116]),(3,LV.str [112,111,105,110,116]),(4,LV.str [116,101,120,116])]))
 fun v2=>bd2 (lmk (stV st1 5 v0 v2)) fun _v3 st4=>bd (ldA st4 v0 5) fun v5=>R v5 st4
theorem c109 {R:LV.RT} {st:aa} (h:QW  R st):LZ 109 [] st R:=
 cz [] [] [.cell 0 165] Tryz.func109 h
def QX (a0 a1:LV) (R:LV.RT) (st:aa):Prop:=
 LZ 226 [a0,a1] st fun v0 eQ=>R v0 eQ
theorem QY (a0 a1:LV) {R:LV.RT} {st:aa} (h:QX a0 a1 R st):LZ 186 [a0,a1] st R:=
 cz [] [] [.tmp 4] Tryz.func186 h
def Po (a0 a1:LV) (R:LV.RT) (st:aa):Prop:=
 bd (cm a0) fun v0=>bd (cm a1) fun v1=>bd (al BinOp.geq v0 v1) fun v2=>aq v2 (bd (cm a1) fun v3=>bd (ob3 none (some v3) none fun l h m=>dm a0 l h m) fun v4=>bd (ck BinOp.eql v4 a1) fun v5=>R v5 st) (R (LV.bool false) st)
theorem c226 (a0 a1:LV) {R:LV.RT} {st:aa} (h:Po a0 a1 R st):LZ 226 [a0,a1] st R:=
 cz [] [] [.tmp 4] Tryz.func226 h
def w53 (a0 a1:LV) (R:LV.RT) (st:aa):Prop:=
 bd2 (cu st a1) fun v0 eQ=>bd (ldA eQ v0 1) fun v2=>LZ 118 [a0,v2] eQ fun v3 gE=>bd (ai v3 0) fun _=>bd (ai v3 1) fun v6=>bd (lun UnOp.not v6) fun v7=>R v7 gE
theorem c53 (a0 a1:LV) {R:LV.RT} {st:aa} (h:w53 a0 a1 R st):LZ 53 [a0,a1] st R:=
 cz [] [] [.tmp 4] Tryz.func53 h
def Pp (a0:LV) (R:LV.RT) (st:aa):Prop:=
 bd (eqB BinOp.eql (eI true a0 LV.nilp)) fun v0=>aq v0 (R (i64 0) st)
 (bd (ak a0) fun v1=>bd (ag 0 v1) fun v2=>bd (ld1 st v2) fun v3=>bd (al BinOp.lss v3 (i64 5)) fun v4=>aq v4 (R (i64 0) st)
 (bd (ak a0) fun v5=>bd (ag 0 v5) fun v6=>bd (ld1 st v6) fun v7=>bd (al BinOp.eql v7 (i64 6)) fun v8=>aq v8 (R (i64 7) st)
 (bd (ak a0) fun v9=>bd (ag 0 v9) fun eQ=>bd (ld1 st eQ) fun gE=>bd (al BinOp.eql gE (i64 8)) fun gT=>aq gT (R (i64 7) st) (R (i64 6) st))))
theorem c167 (a0:LV) {R:LV.RT} {st:aa} (h:Pp a0 R st):LZ 167 [a0] st R:=
 cz [] [] [.tmp 2] Tryz.func167 h
def Pq (a0 a1:LV) (R:LV.RT) (st:aa):Prop:=
 bd (eqB BinOp.eql (eI true a0 LV.nilp)) fun v0=>aq v0 (R (LV.tup [LV.nilp,LV.bool false]) st)
 (bd (ak a0) fun v1=>bd (ag 2 v1) fun v2=>bd (ld1 st v2) fun v3=>LZ 158 [v3,a1] st fun v4 eQ=>bd (al BinOp.lss v4 (i64 0)) fun v6=>aq v6 (R (LV.tup [LV.nilp,LV.bool false]) eQ)
 (bd (ak a0) fun v7=>bd (ag 1 v7) fun v8=>bd (ld1 eQ v8) fun v9=>bd (bn 1 v9 v4) fun gE=>bd (ld1 eQ gE) fun gT=>R (LV.tup [gT,LV.bool true]) eQ))
theorem c213 (a0 a1:LV) {R:LV.RT} {st:aa} (h:Pq a0 a1 R st):LZ 213 [a0,a1] st R:=
 cz [] [] [.tmp 4,.tmp 5] Tryz.func213 h
def BJ (x1 x4 d0:LV) (R:LV.RT) (st:aa):Prop:=LTg Tryz.prog (kindOf false) [.tmp 2] (br Tryz.f74 14) [(136,[d0])] R (.aY::x1::.aY::.aY::x4::(LV.jk 54 [])) st
def Pr:List (Nat × List Nat):=[(13,(LV.gx 0 59 [1,4]))]
def w74 (a0:LV) (R:LV.RT) (st:aa):Prop:=
 bd2 (cu st a0) fun v0 lE=>bd (ld1 lE v0) fun v2=>bd (ak v2) fun v3=>bd (ag 0 v3) fun v4=>LZ 75 [v4] lE fun v5 eQ=>aq v5 (R LV.nilp eQ)
 (bd (ld1 eQ v0) fun v7=>bd (ak v7) fun v8=>bd (ag 3 v8) fun v9=>bd (ld1 eQ v9) fun p8=>bd (al BinOp.eql p8 (i64 8)) fun p9=>aq p9
 (bd (ld1 eQ v0) fun tO=>bd (ak tO) fun v13=>bd (ag 0 v13) fun v14=>bd (ld1 eQ v0) fun v15=>bd (ak v15) fun v16=>bd (ag 0 v16) fun v17=>bd (ag 1 v17) fun v18=>bd (ld1 eQ v18) fun v19=>LZ 76 [v14,v19,i64 3] eQ fun _v20 mK=>R LV.nilp mK)
 (bd (ld1 eQ v0) fun lT=>bd (ak lT) fun v23=>bd (ag 3 v23) fun v24=>bd (ld1 eQ v24) fun v25=>bd (al BinOp.add v25 (i64 1)) fun v26=>bd (ak lT) fun v27=>bd (ag 3 v27) fun v28=>bd2 (lmk (stV eQ 1 v28 v26)) fun _v29 iD=>bd (ld1 iD v0) fun v31=>bd (ak v31) fun v32=>bd (ag 0 v32) fun v33=>LZ 137 [v33,LV.int IntKind.u8 91] iD fun v34 gE=>aq v34 (bd (ld1 gE v0) fun v36=>LZ 138 [v36] gE fun v37 nE=>dD Tryz.prog 136 [v0] nE fun oF=>R v37 oF)
 (bd (ld1 gE v0) fun v40=>bd (ak v40) fun v41=>bd (ag 0 v41) fun v42=>LZ 137 [v42,LV.int IntKind.u8 123] gE fun v43 gT=>aq v43 (bd (ld1 gT v0) fun v45=>LZ 139 [v45] gT fun v46 oR=>dD Tryz.prog 136 [v0] oR fun rW=>R v46 rW)
 (LZ 109 [] gT fun v49 aS=>nw aS [LV.str [],LV.str [],LV.str [],LV.str [],LV.str []] fun p7 aT=>bd2 (lmk (stV aT 5 p7 v49)) fun _v53 iF=>bd (ld1 iF v0) fun bY=>bd (ob3 none none none fun l h m=>C9 5 1 p7 l h m) fun v56=>bd2
 (cq iF 2
 (aB (fun i=>some (i*1,1)) (List.replicate 2 [LV.str []]).flatten
 [(0,LV.str [108,105,115,116]),(1,LV.str [109,97,112])]))
 fun v57 iN=>ld1 iN v0=some bY∧
 bd2 (bo iN 1 16 Md.rw v56 v57) fun v59 iS=>ld1 iS v0=some bY∧LZ 140 [bY,v59] iS fun v61 dO=>@BJ v0 v61 v0 R dO))))
theorem c74 (a0:LV) {R:LV.RT} {st:aa} (h:w74 a0 R st):LZ 74 [a0] st R:=
 cz [] Pr [.tmp 2] Tryz.func74 h
def BK (x1 x4:LV) (d0:LV) (R:LV.RT) (st:aa):Prop:=
 bd (al BinOp.lss x4 (i64 5)) fun v0=>aq v0
 (bd (bh (aB (aF [(0,1),(1,1),(2,1),(3,1)]) [i64 0,LV.nils,LV.nils,LV.nils] [(0,x4)])) fun v1=>bd2 (cu st v1) fun v2 eQ=>dD Tryz.prog 136 [d0] eQ fun gE=>R v2 gE)
 (bd (ld1 st x1) fun v5=>LZ 141 [v5,x4] st fun v6 gT=>dD Tryz.prog 136 [d0] gT fun iD=>R v6 iD)
theorem Hj (x1 x4 d0:LV) {R:LV.RT} {st:aa} (h:BK x1 x4 d0 R st):BJ x1 x4 d0 R st:=
 pz [] Pr h
def w18 (a0:LV) (R:LV.RT) (st:aa):Prop:=
 bd (cm a0) fun v0=>bd (al BinOp.gtr v0 (i64 4096)) fun v1=>aq v1 (R (LV.tup [LV.nilp,i64 0,i64 3]) st)
 (bd (bh (aB (aF [(0,1),(1,1),(2,1)]) [LV.str [],i64 0,i64 0] [(0,a0)])) fun v2=>bd (bh (aB (aF [(0,3),(3,1)]) [LV.str [],i64 0,i64 0,i64 0] [(0,v2)])) fun v3=>bd2 (cu st v3) fun v4 iN=>LZ 74 [v4] iN fun v6 iS=>bd (ak v4) fun v8=>bd (ag 0 v8) fun v9=>LZ 75 [v9] iS fun mK eQ=>bd (lun UnOp.not mK) fun nE=>aq nE
 (bd (ak v4) fun oF=>bd (ag 0 oF) fun oR=>bd (ag 1 oR) fun rW=>bd (ld1 eQ rW) fun aS=>bd (cm a0) fun aT=>bd (al BinOp.lss aS aT) fun bY=>aq bY
 (bd (ak v4) fun dO=>bd (ag 0 dO) fun lE=>bd (ak v4) fun lT=>bd (ag 0 lT) fun p7=>bd (ag 1 p7) fun p8=>bd (ld1 eQ p8) fun p9=>LZ 76 [lE,p9,i64 4] eQ fun _ iF=>bd (ak v4) fun tO=>bd (ag 0 tO) fun v28=>LZ 75 [v28] iF fun v29 gE=>aq v29
 (bd (ak v4) fun v31=>bd (ag 0 v31) fun v32=>bd (ag 1 v32) fun v33=>bd (ld1 gE v33) fun v34=>bd (ak v4) fun v35=>bd (ag 0 v35) fun v36=>bd (ag 2 v36) fun v37=>bd (ld1 gE v37) fun v38=>R (LV.tup [LV.nilp,v34,v38]) gE)
 (R (LV.tup [v6,i64 0,i64 0]) gE))
 (bd (ak v4) fun v39=>bd (ag 0 v39) fun v40=>LZ 75 [v40] eQ fun v41 gT=>aq v41
 (bd (ak v4) fun v43=>bd (ag 0 v43) fun v44=>bd (ag 1 v44) fun v45=>bd (ld1 gT v45) fun v46=>bd (ak v4) fun v47=>bd (ag 0 v47) fun v48=>bd (ag 2 v48) fun v49=>bd (ld1 gT v49) fun v50=>R (LV.tup [LV.nilp,v46,v50]) gT)
 (R (LV.tup [v6,i64 0,i64 0]) gT)))
 (bd (ak v4) fun v51=>bd (ag 0 v51) fun v52=>LZ 75 [v52] eQ fun v53 iD=>aq v53
 (bd (ak v4) fun v55=>bd (ag 0 v55) fun v56=>bd (ag 1 v56) fun v57=>bd (ld1 iD v57) fun v58=>bd (ak v4) fun v59=>bd (ag 0 v59) fun v60=>bd (ag 2 v60) fun v61=>bd (ld1 iD v61) fun v62=>R (LV.tup [LV.nilp,v58,v62]) iD)
 (R (LV.tup [v6,i64 0,i64 0]) iD)))
theorem c18 (a0:LV) {R:LV.RT} {st:aa} (h:w18 a0 R st):LZ 18 [a0] st R:=
 cz [] [] [.tmp 2,.tmp 3,.tmp 4] Tryz.func18 h
def tu (x0 x3:LV) (R:LV.RT) (st:aa):Prop:=LTg Tryz.prog (kindOf false) [.tmp 2] (br Tryz.f138 5) [] R (x0::.aY::.aY::x3::(LV.jk 47 [])) st
def wV (x0 x3:LV) (R:LV.RT) (st:aa):Prop:=LTg Tryz.prog (kindOf false) [.tmp 2] (br Tryz.f138 10) [] R (x0::.aY::.aY::x3::(LV.jk 47 [])) st
def Hk:List Nat:=(LV.gx 1 50 [3])
def Hl:List (Nat × List Nat):=[(7,(LV.gx 1 50 [3]))]
def Ps (a0:LV) (R:LV.RT) (st:aa):Prop:=
 bd (bh (aB (aF [(0,1),(1,1),(2,1),(3,1)]) [i64 0,LV.nils,LV.nils,LV.nils] [(0,i64 7)])) fun v0=>bd2 (cu st v0) fun v1 gE=>bd (ak a0) fun v3=>bd (ag 0 v3) fun v4=>LZ 137 [v4,LV.int IntKind.u8 93] gE fun v5 eQ=>aq v5 (R v1 eQ) (tu a0 v1 R eQ)
theorem c138 (a0:LV) {R:LV.RT} {st:aa} (h:Ps a0 R st):LZ 138 [a0] st R:=
 cz Hk Hl [.tmp 2] Tryz.func138 h
def wW (x0 x3:LV) (R:LV.RT) (st:aa):Prop:=
 bd (ak x0) fun v0=>bd (ag 0 v0) fun v1=>LZ 75 [v1] st fun v2 eQ=>bd (lun UnOp.not v2) fun v4=>aq v4
 (bd (ak x3) fun v5=>bd (ag 1 v5) fun v6=>bd (ld1 eQ v6) fun v7=>bd (bB v7) fun v8=>bd (al BinOp.eql v8 (i64 16)) fun v9=>aq v9
 (bd (ak x0) fun bY=>bd (ag 0 bY) fun dO=>bd (ak x0) fun lE=>bd (ag 0 lE) fun lT=>bd (ag 1 lT) fun p7=>bd (ld1 eQ p7) fun p8=>LZ 76 [dO,p8,i64 3] eQ fun _ gE=>bd (ak x3) fun p9=>bd (ag 1 p9) fun iS=>bd (ld1 gE iS) fun mK=>LZ 74 [x0] gE fun tO gT=>ld1 gT iS=some mK∧
 bd2 (cq gT 1 (aB (fun i=>some (i*1,1)) (List.replicate 1 [LV.nilp]).flatten [(0,tO)])) fun v23 iD=>ld1 iD iS=some mK∧
 bd2 (bo iD 1 8 Md.rw mK v23) fun v25 nE=>bd (ak x3) fun v27=>bd (ag 1 v27) fun v28=>bd2 (lmk (stV nE 1 v28 v25)) fun _v29 oF=>wV x0 x3 R oF)
 (bd (ak x3) fun v31=>bd (ag 1 v31) fun oR=>bd (ld1 eQ oR) fun rW=>LZ 74 [x0] eQ fun v34 iF=>ld1 iF oR=some rW∧
 bd2 (cq iF 1 (aB (fun i=>some (i*1,1)) (List.replicate 1 [LV.nilp]).flatten [(0,v34)])) fun v36 iN=>ld1 iN oR=some rW∧
 bd2 (bo iN 1 8 Md.rw rW v36) fun v38 aS=>bd (ak x3) fun v40=>bd (ag 1 v40) fun v41=>bd2 (lmk (stV aS 1 v41 v38)) fun _v42 aT=>wV x0 x3 R aT))
 (R x3 eQ)
theorem BL (x0 x3:LV) {R:LV.RT} {st:aa} (h:wW x0 x3 R st):tu x0 x3 R st:=
 pz Hk Hl h
def rR (x0 x3:LV) (R:LV.RT) (st:aa):Prop:=
 bd (ak x0) fun v0=>bd (ag 0 v0) fun v1=>LZ 137 [v1,LV.int IntKind.u8 93] st fun v2 eQ=>aq v2 (R x3 eQ) (bd (ak x0) fun v4=>bd (ag 0 v4) fun v5=>LZ 184 [v5,LV.int IntKind.u8 44] eQ fun _ gE=>tu x0 x3 R gE)
theorem wX (x0 x3:LV) {R:LV.RT} {st:aa} (h:rR x0 x3 R st):wV x0 x3 R st:=
 pz Hk Hl h
def tw (x0 x3:LV) (R:LV.RT) (st:aa):Prop:=LTg Tryz.prog (kindOf false) [.tmp 2] (br Tryz.f139 5) [] R (x0::.aY::.aY::x3::(LV.jk 24 [])) st
def L4:List Nat:=(LV.gx 1 27 [3])
def Pt (a0:LV) (R:LV.RT) (st:aa):Prop:=
 bd (bh (aB (aF [(0,1),(1,1),(2,1),(3,1)]) [i64 0,LV.nils,LV.nils,LV.nils] [(0,i64 8)])) fun v0=>bd2 (cu st v0) fun v1 gE=>bd (ak a0) fun v3=>bd (ag 0 v3) fun v4=>LZ 137 [v4,LV.int IntKind.u8 125] gE fun v5 eQ=>aq v5 (R v1 eQ) (tw a0 v1 R eQ)
theorem c139 (a0:LV) {R:LV.RT} {st:aa} (h:Pt a0 R st):LZ 139 [a0] st R:=
 cz L4 [] [.tmp 2] Tryz.func139 h
def wY (x0 x3:LV) (R:LV.RT) (st:aa):Prop:=
 bd (ak x0) fun v0=>bd (ag 0 v0) fun v1=>LZ 75 [v1] st fun v2 gT=>bd (lun UnOp.not v2) fun v4=>aq v4
 (LZ 185 [x0,x3] gT fun _ iD=>bd (ak x0) fun v7=>bd (ag 0 v7) fun v8=>LZ 137 [v8,LV.int IntKind.u8 125] iD fun v9 eQ=>aq v9 (R x3 eQ) (bd (ak x0) fun iF=>bd (ag 0 iF) fun iN=>LZ 184 [iN,LV.int IntKind.u8 44] eQ fun _ gE=>tw x0 x3 R gE))
 (R x3 gT)
theorem BM (x0 x3:LV) {R:LV.RT} {st:aa} (h:wY x0 x3 R st):tw x0 x3 R st:=
 pz L4 [] h
def Pv (a0 a1:LV) (R:LV.RT) (st:aa):Prop:=
 bd (ak a0) fun v0=>bd (ag 0 v0) fun v1=>LZ 184 [v1,LV.int IntKind.u8 40] st fun _ gT=>LZ 74 [a0] gT fun v4 iD=>bd (ak a0) fun v6=>bd (ag 0 v6) fun v7=>LZ 184 [v7,LV.int IntKind.u8 41] iD fun _ iF=>bd2 (cq iF 1 (aB (fun i=>some (i*1,1)) (List.replicate 1 [LV.nilp]).flatten [(0,v4)])) fun iN eQ=>bd (bh (aB (aF [(0,1),(1,1),(2,1),(3,1)]) [i64 0,LV.nils,LV.nils,LV.nils] [(0,a1),(1,iN)])) fun iS=>bd2 (cu eQ iS) fun mK gE=>R mK gE
theorem c141 (a0 a1:LV) {R:LV.RT} {st:aa} (h:Pv a0 a1 R st):LZ 141 [a0,a1] st R:=
 cz [] [] [.tmp 4] Tryz.func141 h
def Hm (x0 x1 x4:LV) (R:LV.RT) (st:aa):Prop:=LTg Tryz.prog (kindOf false) [] (br Tryz.f185 2) [] R (x0::x1::.aY::.aY::x4::(LV.jk 102 [])) st
def BN (x0 x1 x4 x5 x7:LV) (R:LV.RT) (st:aa):Prop:=LTg Tryz.prog (kindOf false) [] (br Tryz.f185 8) [] R (x0::x1::.aY::.aY::x4::x5::.aY::x7::(LV.jk 99 [])) st
def tz (x0 x1 x5:LV) (R:LV.RT) (st:aa):Prop:=LTg Tryz.prog (kindOf false) [] (br Tryz.f185 9) [] R (x0::x1::(LV.jk 3 (x5::(LV.jk 101 [])))) st
def ft (x0 x1 x5 x8:LV) (R:LV.RT) (st:aa):Prop:=LTg Tryz.prog (kindOf false) [] (br Tryz.f185 10) [] R (x0::x1::(LV.jk 3 (x5::.aY::.aY::x8::(LV.jk 98 [])))) st
def rS (x0 x1 x5 x8:LV) (R:LV.RT) (st:aa):Prop:=LTg Tryz.prog (kindOf false) [] (br Tryz.f185 11) [] R (x0::x1::(LV.jk 3 (x5::.aY::.aY::x8::(LV.jk 98 [])))) st
def js (x0 x1:LV) (R:LV.RT) (st:aa):Prop:=LTg Tryz.prog (kindOf false) [] (br Tryz.f185 12) [] R (x0::x1::(LV.jk 105 [])) st
def tA:List (Nat × List Nat):=[(2,(LV.gx 2 105 [4])),(8,(LV.gx 2 105 [4,5,7])),(9,(LV.gx 2 105 [5])),(10,(LV.gx 2 105 [5,8])),(11,(LV.gx 2 105 [5,8])),(12,(LV.gx 2 105 []))]
def NI (a0 a1:LV) (R:LV.RT) (st:aa):Prop:=
 bd (ak a0) fun v0=>bd (ag 0 v0) fun v1=>bd (ag 1 v1) fun v2=>bd (ld1 st v2) fun v3=>bd (ak a1) fun v4=>bd (ag 1 v4) fun v5=>bd (ld1 st v5) fun v6=>bd (bB v6) fun v7=>bd (al BinOp.eql v7 (i64 16)) fun v8=>aq v8 (bd (ak a0) fun v9=>bd (ag 0 v9) fun oF=>LZ 76 [oF,v3,i64 3] st fun _ iD=>Hm a0 a1 v3 R iD)
 (LZ 225 [a0] st fun gE gT=>bd (ak a1) fun oR=>bd (ag 2 oR) fun rW=>bd (ld1 gT rW) fun aS=>bd (bB aS) fun aT=>bd (al BinOp.sub aT (i64 1)) fun iF=>bd (ak a0) fun bY=>bd (ag 0 bY) fun dO=>LZ 75 [dO] gT fun lE eQ=>bd (lun UnOp.not lE) fun lT=>aq lT
 (bd (al BinOp.geq iF (i64 0)) fun p7=>aq p7
 (bd (ak a1) fun p8=>bd (ag 2 p8) fun p9=>bd (ld1 eQ p9) fun tO=>bd (bn 1 tO iF) fun v29=>bd (ld1 eQ v29) fun v30=>bd (ck BinOp.leq gE v30) fun v31=>aq v31
 (bd (ak a1) fun v32=>bd (ag 2 v32) fun v33=>bd (ld1 eQ v33) fun v34=>bd (bn 1 v34 iF) fun v35=>bd (ld1 eQ v35) fun v36=>bd (ck BinOp.eql gE v36) fun v37=>aq v37 (BN a0 a1 v3 gE (i64 9) R eQ)
 (bd (ak a0) fun v38=>bd (ag 0 v38) fun v39=>LZ 76 [v39,v3,i64 4] eQ fun _v40 iN=>tz a0 a1 gE R iN))
 (bd (ak a0) fun v42=>bd (ag 0 v42) fun v43=>LZ 137 [v43,LV.int IntKind.u8 63] eQ fun v44 iS=>ft a0 a1 gE v44 R iS))
 (bd (ak a0) fun v46=>bd (ag 0 v46) fun v47=>LZ 137 [v47,LV.int IntKind.u8 63] eQ fun v48 mK=>ft a0 a1 gE v48 R mK))
 (bd (ak a0) fun v50=>bd (ag 0 v50) fun v51=>LZ 137 [v51,LV.int IntKind.u8 63] eQ fun v52 nE=>ft a0 a1 gE v52 R nE))
theorem Pw (a0 a1:LV) {R:LV.RT} {st:aa} (h:NI a0 a1 R st):LZ 185 [a0,a1] st R:=
 cz [] tA [] Tryz.func185 h
def Hn (x0 x1 x4:LV) (R:LV.RT) (st:aa):Prop:=
 LZ 225 [x0] st fun v0 iN=>bd (ak x1) fun v2=>bd (ag 2 v2) fun v3=>bd (ld1 iN v3) fun v4=>bd (bB v4) fun v5=>bd (al BinOp.sub v5 (i64 1)) fun v6=>bd (ak x0) fun v7=>bd (ag 0 v7) fun v8=>LZ 75 [v8] iN fun v9 eQ=>bd (lun UnOp.not v9) fun iS=>aq iS
 (bd (al BinOp.geq v6 (i64 0)) fun mK=>aq mK
 (bd (ak x1) fun nE=>bd (ag 2 nE) fun oF=>bd (ld1 eQ oF) fun oR=>bd (bn 1 oR v6) fun rW=>bd (ld1 eQ rW) fun aS=>bd (ck BinOp.leq v0 aS) fun aT=>aq aT
 (bd (ak x1) fun bY=>bd (ag 2 bY) fun dO=>bd (ld1 eQ dO) fun lE=>bd (bn 1 lE v6) fun lT=>bd (ld1 eQ lT) fun p7=>bd (ck BinOp.eql v0 p7) fun p8=>aq p8 (BN x0 x1 x4 v0 (i64 9) R eQ)
 (bd (ak x0) fun p9=>bd (ag 0 p9) fun tO=>LZ 76 [tO,x4,i64 4] eQ fun _ gE=>tz x0 x1 v0 R gE))
 (bd (ak x0) fun v29=>bd (ag 0 v29) fun v30=>LZ 137 [v30,LV.int IntKind.u8 63] eQ fun v31 gT=>ft x0 x1 v0 v31 R gT))
 (bd (ak x0) fun v33=>bd (ag 0 v33) fun v34=>LZ 137 [v34,LV.int IntKind.u8 63] eQ fun v35 iD=>ft x0 x1 v0 v35 R iD))
 (bd (ak x0) fun v37=>bd (ag 0 v37) fun v38=>LZ 137 [v38,LV.int IntKind.u8 63] eQ fun v39 iF=>ft x0 x1 v0 v39 R iF)
theorem NJ (x0 x1 x4:LV) {R:LV.RT} {st:aa} (h:Hn x0 x1 x4 R st):Hm x0 x1 x4 R st:=
 pz [] tA h
def Ho (x0 x1 x4 x5 x7:LV) (R:LV.RT) (st:aa):Prop:=
 bd (ak x0) fun v0=>bd (ag 0 v0) fun v1=>LZ 76 [v1,x4,x7] st fun _ eQ=>tz x0 x1 x5 R eQ
theorem NK (x0 x1 x4 x5 x7:LV) {R:LV.RT} {st:aa} (h:Ho x0 x1 x4 x5 x7 R st):BN x0 x1 x4 x5 x7 R st:=
 pz [] tA h
def Hp (x0 x1 x5:LV) (R:LV.RT) (st:aa):Prop:=
 bd (ak x0) fun v0=>bd (ag 0 v0) fun v1=>LZ 137 [v1,LV.int IntKind.u8 63] st fun v2 eQ=>ft x0 x1 x5 v2 R eQ
theorem NL (x0 x1 x5:LV) {R:LV.RT} {st:aa} (h:Hp x0 x1 x5 R st):tz x0 x1 x5 R st:=
 pz [] tA h
def wZ (x0 x1 x5 x8:LV) (R:LV.RT) (st:aa):Prop:=
 bd (ak x0) fun v0=>bd (ag 0 v0) fun v1=>LZ 184 [v1,LV.int IntKind.u8 58] st fun _ eQ=>rS x0 x1 x5 x8 R eQ
theorem DL (x0 x1 x5 x8:LV) {R:LV.RT} {st:aa} (h:wZ x0 x1 x5 x8 R st):ft x0 x1 x5 x8 R st:=
 pz [] tA h
def DM (x0 x1 x5 x8:LV) (R:LV.RT) (st:aa):Prop:=
 bd (ak x1) fun v0=>bd (ag 2 v0) fun v1=>bd (ld1 st v1) fun v2=>bd (ak x1) fun v3=>bd (ag 3 v3) fun v4=>bd (ld1 st v4) fun v5=>(bd2 (cq st 1 (aB (fun i=>some (i*1,1)) (List.replicate 1 [LV.bool false]).flatten [(0,x8)])) fun v6 iS=>ld1 iS v4=some v5∧
 ld1 iS v1=some v2∧
 bd2 (cq iS 1 (aB (fun i=>some (i*1,1)) (List.replicate 1 [LV.str []]).flatten [(0,x5)])) fun v8 mK=>ld1 mK v4=some v5∧
 ld1 mK v1=some v2∧
 bd2 (bo mK 1 16 Md.rw v2 v8) fun p7 iD=>ld1 iD v4=some v5∧
 bd2 (bo iD 1 1 Md.rw v5 v6) fun p8 nE=>bd (ak x1) fun p9=>bd (ag 2 p9) fun tO=>bd2 (lmk (stV nE 1 tO p7)) fun _ oF=>bd (ak x1) fun v18=>bd (ag 3 v18) fun v19=>bd2 (lmk (stV oF 1 v19 p8)) fun _v20 oR=>js x0 x1 R oR)∧
 bd2 (cq st 1 (aB (fun i=>some (i*1,1)) (List.replicate 1 [LV.str []]).flatten [(0,x5)])) fun lT eQ=>ld1 eQ v4=some v5∧
 ld1 eQ v1=some v2∧
 (bd2 (cq eQ 1 (aB (fun i=>some (i*1,1)) (List.replicate 1 [LV.bool false]).flatten [(0,x8)])) fun v24 gE=>ld1 gE v4=some v5∧
 ld1 gE v1=some v2∧
 bd2 (bo gE 1 16 Md.rw v2 lT) fun v26 iF=>ld1 iF v4=some v5∧
 bd2 (bo iF 1 1 Md.rw v5 v24) fun v28 rW=>bd (ak x1) fun v30=>bd (ag 2 v30) fun v31=>bd2 (lmk (stV rW 1 v31 v26)) fun _v32 aS=>bd (ak x1) fun v34=>bd (ag 3 v34) fun v35=>bd2 (lmk (stV aS 1 v35 v28)) fun _v36 aT=>js x0 x1 R aT)∧
 bd2 (bo eQ 1 16 Md.rw v2 lT) fun v38 iN=>ld1 iN v4=some v5∧
 bd2 (cq iN 1 (aB (fun i=>some (i*1,1)) (List.replicate 1 [LV.bool false]).flatten [(0,x8)])) fun v40 gT=>ld1 gT v4=some v5∧
 ld1 gT v1=some v2∧
 bd2 (bo gT 1 1 Md.rw v5 v40) fun v42 bY=>bd (ak x1) fun v44=>bd (ag 2 v44) fun v45=>bd2 (lmk (stV bY 1 v45 v38)) fun _v46 dO=>bd (ak x1) fun v48=>bd (ag 3 v48) fun v49=>bd2 (lmk (stV dO 1 v49 v42)) fun _v50 lE=>js x0 x1 R lE
theorem Kl (x0 x1 x5 x8:LV) {R:LV.RT} {st:aa} (h:DM x0 x1 x5 x8 R st):rS x0 x1 x5 x8 R st:=
 pz [] tA h
def xa (x0 x1:LV) (R:LV.RT) (st:aa):Prop:=
 bd (ak x1) fun v0=>bd (ag 1 v0) fun v1=>bd (ld1 st v1) fun v2=>LZ 74 [x0] st fun v3 gE=>ld1 gE v1=some v2∧
 bd2 (cq gE 1 (aB (fun i=>some (i*1,1)) (List.replicate 1 [LV.nilp]).flatten [(0,v3)])) fun v5 gT=>ld1 gT v1=some v2∧
 bd2 (bo gT 1 8 Md.rw v2 v5) fun v7 iD=>bd (ak x1) fun v9=>bd (ag 1 v9) fun iF=>bd2 (lmk (stV iD 1 iF v7)) fun _ eQ=>R (LV.tup []) eQ
theorem DN (x0 x1:LV) {R:LV.RT} {st:aa} (h:xa x0 x1 R st):js x0 x1 R st:=
 pz [] tA h
end Go.Proofs.YtknegckgmklnhaaGreatDoor
namespace Go.Proofs.YtknegckgmklnhaaGreatDoor
open Go Go.CP
set_option maxRecDepth 100000
def Px (x5 x6 x8 x9 x54:LV) (R:LV.RT) (st:aa):Prop:=LTg Tryz.prog (kindOf false) [.tmp 4] (br Tryz.f9 10) [] R (LV.jk 5 (x5::x6::.aY::x8::x9::(LV.jk 44 (x54::(LV.jk 55 []))))) st
def gl9:List Nat:=(LV.gx 0 110 [5,6,8,9,11])
def rc9:List (Nat × List Nat):=[(10,(LV.gx 0 110 [5,6,8,9,54])),(15,(LV.gx 0 110 [5,6,8,9,11,12])),(16,(LV.gx 0 110 [5,6,8,9,11,12,14,15]))]
def w9 (a0 a1:LV) (R:LV.RT) (st:aa):Prop:=
 bd2 (cu st a1) fun v0 lT=>bd (ldA lT v0 7) fun v2=>LZ 24 [v2] lT fun v3 p7=>bd (al BinOp.gtr v3 (i64 0)) fun v5=>aq v5 (LZ 17 [] p7 fun v6 st7=>R v6 st7)
 (LZ 17 [] p7 fun v8 p8=>bd (lun UnOp.not v8) fun v10=>aq v10 (LZ 17 [] p8 fun v11 iN=>R v11 iN)
 (LZ 26 [a0] p8 fun iS mK=>bd (ai iS 0) fun p9=>bd (ai iS 1) fun v16=>bd (ai iS 2) fun v17=>nw mK [i64 0,LV.nils] fun nE oF=>bd2 (lmk (stV oF 2 nE v16)) fun _v20 gT=>bd (ldA gT v0 7) fun v22=>LZ 27 [v22] gT fun v23 oR=>LZ 29 [v23] oR fun v25 rW=>nw rW [LV.nili] fun aS aT=>bd2 (lmk (stV aT 1 aS v25)) fun _v29 gE=>bd (al BinOp.gtr v17 (i64 0)) fun v31=>aq v31 (R (LV.bool true) gE)
 (bd (ldA gE aS 1) fun v32=>LZ 42 [p9,v32] gE fun tO bY=>bd (ai tO 0) fun v35=>bd (ai tO 1) fun v36=>nw bY [LV.nili] fun iF dO=>bd2 (lmk (stV dO 1 iF v35)) fun _v39 eQ=>bd (al BinOp.neq v36 (i64 0)) fun v41=>aq v41
 (bd (ldA eQ iF 1) fun v42=>LZ 46 [v42] eQ fun v43 lE=>bd (al BinOp.eql v43 (i64 0)) fun v45=>R v45 lE)
 (bd (ldA eQ iF 1) fun v46=>bd (ag 1 nE) fun v47=>bd (ld1 eQ v47) fun v48=>bd (bB v48) fun v49=>LZ 49 [v46] eQ fun v50 iD=>ld1 iD v47=some v48∧bd (bB v50) fun v52=>bd (al BinOp.neq v52 v49) fun v53=>Px p9 nE aS iF v53 R iD))))
theorem c9 (a0 a1:LV) {R:LV.RT} {st:aa} (h:w9 a0 a1 R st):LZ 9 [a0,a1] st R:=
 cz gl9 rc9 [.tmp 4] Tryz.func9 h
end Go.Proofs.YtknegckgmklnhaaGreatDoor
