/- Parts of the proof. -/
import Derived.Test.YtknegckgmklnhaaGreatDoorVaW
import Derived.Test.YtknegckgmklnhaaGreatDoorCp50
namespace Go.Proofs.YtknegckgmklnhaaGreatDoor
open Go Go.CP
theorem pz (gl:List Nat) (rc:List (Nat × List Nat)) {dk:Bool} {rs:List ResultVar} {R:LV.RT} {k:List Item} {ds:List dQ} {t:List LV} {st:aa} {W:Prop} (h:W) (e:gj Tryz.prog dk rs R gl [] rc 3000 (dH k) ds t st=W:=by kernel_rfl):LTg Tryz.prog (kindOf dk) rs k ds R t st:=LTg.atE aO e h
theorem cz (gl:List Nat) (rc:List (Nat × List Nat)) (rs:List ResultVar) {f:FuncId} {fn:Func} {xs:List LV} {st:aa} {R:LV.RT} {W:Prop} (hf:Tryz.prog.funcs[f]?=some fn) (h:W) (hb:fn.body=some (bz fn):=by kernel_rfl) (hn:(fn.name == "runtime.NumGoroutine")=false:=by kernel_rfl) (hrs:fn.results.toList=rs:=by kernel_rfl) (e:gj Tryz.prog false rs R gl [] rc 3000 [.code (bz fn)] [] (xs++List.replicate (fn.ntmps-xs.length) aM) st=W:=by kernel_rfl):az Tryz.prog f xs st R:=az.ofE aO hf hb hn hrs e h
set_option maxRecDepth 100000
def w75 (a0:LV) (R:LV.RT) (st:aa):Prop:=
 bd (al a0) fun v0=>bd (ad 2 v0) fun v1=>bd (ld1 st v1) fun v2=>bd (ah BinOp.neq v2 (i64 0)) fun v3=>R v3 st
theorem c75 (a0:LV) {R:LV.RT} {st:aa} (h:w75 a0 R st):LZ 75 [a0] st R:=
 cz [] [] [.tmp 2] Tryz.func75 h
def w76 (a0 a1 a2:LV) (R:LV.RT) (st:aa):Prop:=
 bd (al a0) fun v0=>bd (ad 2 v0) fun v1=>bd (ld1 st v1) fun v2=>bd (ah BinOp.eql v2 (i64 0)) fun v3=>ak v3
 (bd (al a0) fun v4=>bd (ad 1 v4) fun v5=>bd2 (lmk (stV st 1 v5 a1)) fun _ gE=>bd (al a0) fun v8=>bd (ad 2 v8) fun v9=>bd2 (lmk (stV gE 1 v9 a2)) fun _ eQ=>R (LV.tup []) eQ)
 (R (LV.tup []) st)
theorem c76 (a0 a1 a2:LV) {R:LV.RT} {st:aa} (h:w76 a0 a1 a2 R st):LZ 76 [a0,a1,a2] st R:=
 cz [] [] [] Tryz.func76 h
def rM (x0 x31:LV) (R:LV.RT) (st:aa):Prop:=LTg Tryz.prog (kindOf false) [.tmp 4] (aW Tryz.f137 1) [] R (x0::(LV.jk 30 (x31::(LV.jk 7 [])))) st
def JQ:List (Nat × List Nat):=[(1,(LV.gx 1 38 [31]))]
def N2 (a0 a1:LV) (R:LV.RT) (st:aa):Prop:=
 LZ 75 [a0] st fun v0 eQ=>ak v0 (rM a0 (LV.bool true) R eQ)
 (bd (al a0) fun v2=>bd (ad 1 v2) fun v3=>bd (ld1 eQ v3) fun v4=>bd (al a0) fun v5=>bd (ad 0 v5) fun v6=>bd (ld1 eQ v6) fun v7=>bd (bK v7) fun v8=>bd (ah BinOp.geq v4 v8) fun v9=>ak v9 (rM a0 (LV.bool true) R eQ)
 (bd (al a0) fun gE=>bd (ad 0 gE) fun gT=>bd (ld1 eQ gT) fun iD=>bd (al a0) fun iF=>bd (ad 1 iF) fun iN=>bd (ld1 eQ iN) fun iS=>bd (cA iD iS) fun mK=>bd (ah BinOp.neq mK a1) fun nE=>rM a0 nE R eQ))
theorem MN (a0 a1:LV) {R:LV.RT} {st:aa} (h:N2 a0 a1 R st):LZ 137 [a0,a1] st R:=
 cz [] JQ [.tmp 4] Tryz.func137 h
def zO (x0 x31:LV) (R:LV.RT) (st:aa):Prop:=
 ak x31 (R (LV.bool false) st)
 (bd (al x0) fun v0=>bd (ad 1 v0) fun v1=>bd (ld1 st v1) fun v2=>bd (ah BinOp.add v2 (i64 1)) fun v3=>bd (al x0) fun v4=>bd (ad 1 v4) fun v5=>bd2 (lmk (stV st 1 v5 v3)) fun _ eQ=>R (LV.bool true) eQ)
theorem Fb (x0 x31:LV) {R:LV.RT} {st:aa} (h:zO x0 x31 R st):rM x0 x31 R st:=
 pz [] JQ h
def N3 (a0 a1:LV) (R:LV.RT) (st:aa):Prop:=
 LZ 75 [a0] st fun v0 gT=>bd (lun UnOp.not v0) fun v2=>ak v2
 (LZ 137 [a0,a1] gT fun v3 eQ=>bd (lun UnOp.not v3) fun v5=>ak v5 (bd (al a0) fun v6=>bd (ad 1 v6) fun v7=>bd (ld1 eQ v7) fun v8=>LZ 76 [a0,v8,i64 4] eQ fun _ gE=>R (LV.tup []) gE)
 (R (LV.tup []) eQ))
 (R (LV.tup []) gT)
theorem Lc (a0 a1:LV) {R:LV.RT} {st:aa} (h:N3 a0 a1 R st):LZ 184 [a0,a1] st R:=
 cz [] [] [] Tryz.func184 h
def MO (a0:LV) (R:LV.RT) (st:aa):Prop:=
 bd (ah BinOp.geq a0 (LV.int IntKind.u8 97)) fun v0=>ak v0
 (bd (ah BinOp.leq a0 (LV.int IntKind.u8 122)) fun v1=>ak v1 (R (LV.bool true) st) (bd (ah BinOp.geq a0 (LV.int IntKind.u8 48)) fun v2=>ak v2 (bd (ah BinOp.leq a0 (LV.int IntKind.u8 57)) fun v3=>R v3 st) (R (LV.bool false) st)))
 (bd (ah BinOp.geq a0 (LV.int IntKind.u8 48)) fun v4=>ak v4 (bd (ah BinOp.leq a0 (LV.int IntKind.u8 57)) fun v5=>R v5 st) (R (LV.bool false) st))
theorem N4 (a0:LV) {R:LV.RT} {st:aa} (h:MO a0 R st):LZ 262 [a0] st R:=
 cz [] [] [.tmp 2] Tryz.func262 h
def gw (x0 x6 x7:LV) (R:LV.RT) (st:aa):Prop:=LTg Tryz.prog (kindOf false) [.tmp 2] (aW Tryz.f142 3) [] R (x0::(LV.jk 5 (x6::x7::(LV.jk 32 [])))) st
def JR:List Nat:=(LV.gx 1 39 [6,7])
def MP (a0:LV) (R:LV.RT) (st:aa):Prop:=
 bd (bK a0) fun v0=>gw a0 v0 (i64 0) R st
theorem N5 (a0:LV) {R:LV.RT} {st:aa} (h:MP a0 R st):LZ 142 [a0] st R:=
 cz JR [] [.tmp 2] Tryz.func142 h
def zP (x0 x6 x7:LV) (R:LV.RT) (st:aa):Prop:=
 bd (ah BinOp.lss x7 x6) fun v0=>ak v0
 (bd (cA x0 x7) fun v1=>bd (ah BinOp.geq v1 (LV.int IntKind.u8 97)) fun v2=>ak v2
 (bd (ah BinOp.leq v1 (LV.int IntKind.u8 122)) fun v3=>ak v3 (bd (lun UnOp.not (LV.bool true)) fun v4=>ak v4 (R (LV.bool false) st) (bd (ah BinOp.add x7 (i64 1)) fun v5=>gw x0 x6 v5 R st))
 (bd (ah BinOp.gtr x7 (i64 0)) fun v6=>ak v6
 (bd (ah BinOp.geq v1 (LV.int IntKind.u8 48)) fun v7=>ak v7
 (bd (ah BinOp.leq v1 (LV.int IntKind.u8 57)) fun v8=>bd (lun UnOp.not v8) fun v9=>ak v9 (R (LV.bool false) st) (bd (ah BinOp.add x7 (i64 1)) fun eQ=>gw x0 x6 eQ R st))
 (bd (lun UnOp.not (LV.bool false)) fun gE=>ak gE (R (LV.bool false) st) (bd (ah BinOp.add x7 (i64 1)) fun gT=>gw x0 x6 gT R st)))
 (bd (lun UnOp.not (LV.bool false)) fun iD=>ak iD (R (LV.bool false) st) (bd (ah BinOp.add x7 (i64 1)) fun iF=>gw x0 x6 iF R st))))
 (bd (ah BinOp.gtr x7 (i64 0)) fun iN=>ak iN
 (bd (ah BinOp.geq v1 (LV.int IntKind.u8 48)) fun iS=>ak iS
 (bd (ah BinOp.leq v1 (LV.int IntKind.u8 57)) fun mK=>bd (lun UnOp.not mK) fun nE=>ak nE (R (LV.bool false) st) (bd (ah BinOp.add x7 (i64 1)) fun oF=>gw x0 x6 oF R st))
 (bd (lun UnOp.not (LV.bool false)) fun oR=>ak oR (R (LV.bool false) st) (bd (ah BinOp.add x7 (i64 1)) fun rW=>gw x0 x6 rW R st)))
 (bd (lun UnOp.not (LV.bool false)) fun aS=>ak aS (R (LV.bool false) st) (bd (ah BinOp.add x7 (i64 1)) fun aT=>gw x0 x6 aT R st))))
 (bd (bE BinOp.neq x0 (LV.str [])) fun bY=>ak bY (bd (bK x0) fun dO=>bd (ah BinOp.leq dO (i64 20)) fun lE=>R lE st) (R (LV.bool false) st))
theorem Fc (x0 x6 x7:LV) {R:LV.RT} {st:aa} (h:zP x0 x6 x7 R st):gw x0 x6 x7 R st:=
 pz JR [] h
def rN (x0 x5 x7 x8 x9 x10 x11:LV) (R:LV.RT) (st:aa):Prop:=LTg Tryz.prog (kindOf false) [.tmp 4] (aW Tryz.f140 4) [] R (x0::(LV.jk 4 (x5::.aL::x7::x8::x9::x10::x11::(LV.jk 85 [])))) st
def qA (x0 x5 x7 x8 x9 x10 x11:LV) (R:LV.RT) (st:aa):Prop:=LTg Tryz.prog (kindOf false) [.tmp 4] (aW Tryz.f140 13) [] R (x0::(LV.jk 4 (x5::.aL::x7::x8::x9::x10::x11::(LV.jk 85 [])))) st
def qB (x0 x5 x7 x8 x9 x10 x11 x79:LV) (R:LV.RT) (st:aa):Prop:=LTg Tryz.prog (kindOf false) [.tmp 4] (aW Tryz.f140 14) [] R (x0::(LV.jk 4 (x5::.aL::x7::x8::x9::x10::x11::(LV.jk 67 (x79::(LV.jk 17 [])))))) st
def B6:List Nat:=(LV.gx 1 96 [5,7,8,9,10,11])
def B7:List (Nat × List Nat):=[(9,(LV.gx 1 96 [5,7,8,9,10,11,79]))]
def MQ (a0 a1:LV) (R:LV.RT) (st:aa):Prop:=
 bd (bg a1) fun v0=>rN a0 (i64 0) (LV.tup []) (LV.tup []) a1 v0 (i64 0) R st
theorem N6 (a0 a1:LV) {R:LV.RT} {st:aa} (h:MQ a0 a1 R st):LZ 140 [a0,a1] st R:=
 cz B6 B7 [.tmp 4] Tryz.func140 h
def zQ (x0 x5:LV) (_x7:LV) (_x8:LV) (x9:LV) (x10:LV) (x11:LV) (R:LV.RT) (st:aa):Prop:=
 bd (ah BinOp.lss x11 x10) fun v0=>ak v0
 (bd (aK 1 x9 x11) fun v1=>bd (ld1 st v1) fun v2=>bd (al x0) fun v3=>bd (ad 0 v3) fun v4=>bd (ad 0 v4) fun v5=>bd (ld1 st v5) fun v6=>bd (al x0) fun v7=>bd (ad 0 v7) fun v8=>bd (ad 1 v8) fun v9=>bd (ld1 st v9) fun iD=>bd (ob3 (some iD) none none fun l h m=>cI v6 l h m) fun iF=>LZ 186 [iF,v2] st fun iN eQ=>ak iN
 (bd (al x0) fun iS=>bd (ad 0 iS) fun mK=>bd (ad 1 mK) fun nE=>bd (ld1 eQ nE) fun oF=>bd (bK v2) fun oR=>bd (ah BinOp.add oF oR) fun rW=>bd (al x0) fun aS=>bd (ad 0 aS) fun aT=>bd (ad 1 aT) fun bY=>bd2 (lmk (stV eQ 1 bY rW)) fun _ gE=>R x11 gE)
 (qA x0 x5 v2 (i64 0) x9 x10 x11 R eQ))
 (bd (al x0) fun dO=>bd (ad 0 dO) fun lE=>bd (al x0) fun lT=>bd (ad 0 lT) fun p7=>bd (ad 1 p7) fun p8=>bd (ld1 st p8) fun p9=>bd (ah BinOp.add p9 x5) fun tO=>LZ 76 [lE,tO,i64 4] st fun _ gT=>R (i64 0) gT)
theorem Fe (x0 x5 x7 x8 x9 x10 x11:LV) {R:LV.RT} {st:aa} (h:zQ x0 x5 x7 x8 x9 x10 x11 R st):rN x0 x5 x7 x8 x9 x10 x11 R st:=
 pz B6 B7 h
def uU (x0 x5 x7 x8 x9 x10 x11:LV) (R:LV.RT) (st:aa):Prop:=
 bd (bK x7) fun v0=>bd (ah BinOp.lss x8 v0) fun v1=>ak v1
 (bd (al x0) fun v2=>bd (ad 0 v2) fun v3=>bd (ad 1 v3) fun v4=>bd (ld1 st v4) fun v5=>bd (ah BinOp.add v5 x8) fun v6=>bd (al x0) fun v7=>bd (ad 0 v7) fun v8=>bd (ad 0 v8) fun v9=>bd (ld1 st v9) fun eQ=>bd (bK eQ) fun gE=>bd (ah BinOp.lss v6 gE) fun gT=>ak gT
 (bd (al x0) fun iD=>bd (ad 0 iD) fun iF=>bd (ad 0 iF) fun iN=>bd (ld1 st iN) fun iS=>bd (al x0) fun mK=>bd (ad 0 mK) fun nE=>bd (ad 1 nE) fun oF=>bd (ld1 st oF) fun oR=>bd (ah BinOp.add oR x8) fun rW=>bd (cA iS rW) fun aS=>bd (cA x7 x8) fun aT=>bd (ah BinOp.eql aS aT) fun bY=>qB x0 x5 x7 x8 x9 x10 x11 bY R st)
 (qB x0 x5 x7 x8 x9 x10 x11 (LV.bool false) R st))
 (qB x0 x5 x7 x8 x9 x10 x11 (LV.bool false) R st)
theorem B8 (x0 x5 x7 x8 x9 x10 x11:LV) {R:LV.RT} {st:aa} (h:uU x0 x5 x7 x8 x9 x10 x11 R st):qA x0 x5 x7 x8 x9 x10 x11 R st:=
 pz B6 B7 h
def qC (x0 x5 x7 x8 x9 x10 x11 x79:LV) (R:LV.RT) (st:aa):Prop:=
 ak x79 (bd (ah BinOp.add x8 (i64 1)) fun v0=>qA x0 x5 x7 v0 x9 x10 x11 R st)
 (bd (gF [x5,x8]) fun v1=>bd (ah BinOp.add x11 (i64 1)) fun v2=>rN x0 v1 x7 x8 x9 x10 v2 R st)
theorem uV (x0 x5 x7 x8 x9 x10 x11 x79:LV) {R:LV.RT} {st:aa} (h:qC x0 x5 x7 x8 x9 x10 x11 x79 R st):qB x0 x5 x7 x8 x9 x10 x11 x79 R st:=
 pz B6 B7 h
def uW (x0 x3:LV) (R:LV.RT) (st:aa):Prop:=LTg Tryz.prog (kindOf false) [.tmp 2] (aW Tryz.f225 3) [] R (x0::.aL::.aL::x3::(LV.jk 95 [])) st
def uX (x0 x3 x46:LV) (R:LV.RT) (st:aa):Prop:=LTg Tryz.prog (kindOf false) [.tmp 2] (aW Tryz.f225 4) [] R (x0::.aL::.aL::x3::(LV.jk 42 (x46::(LV.jk 52 [])))) st
def Ff:List Nat:=(LV.gx 1 98 [3])
def Fg:List (Nat × List Nat):=[(2,(LV.gx 1 98 [3,46]))]
def Ld (a0:LV) (R:LV.RT) (st:aa):Prop:=
 bd (al a0) fun v0=>bd (ad 0 v0) fun v1=>bd (ad 1 v1) fun v2=>bd (ld1 st v2) fun v3=>uW a0 v3 R st
theorem MR (a0:LV) {R:LV.RT} {st:aa} (h:Ld a0 R st):LZ 225 [a0] st R:=
 cz Ff Fg [.tmp 2] Tryz.func225 h
def zR (x0 x3:LV) (R:LV.RT) (st:aa):Prop:=
 bd (al x0) fun v0=>bd (ad 0 v0) fun v1=>bd (ad 1 v1) fun v2=>bd (ld1 st v2) fun v3=>bd (al x0) fun v4=>bd (ad 0 v4) fun v5=>bd (ad 0 v5) fun v6=>bd (ld1 st v6) fun v7=>bd (bK v7) fun v8=>bd (ah BinOp.lss v3 v8) fun v9=>ak v9
 (bd (al x0) fun gT=>bd (ad 0 gT) fun iD=>bd (ad 0 iD) fun iF=>bd (ld1 st iF) fun iN=>bd (ah BinOp.add x3 (i64 1)) fun iS=>bd (ob3 (some x3) (some iS) none fun l h m=>cI iN l h m) fun mK=>LZ 142 [mK] st fun nE eQ=>ak nE
 (bd (al x0) fun oF=>bd (ad 0 oF) fun oR=>bd (ad 0 oR) fun rW=>bd (ld1 eQ rW) fun aS=>bd (al x0) fun aT=>bd (ad 0 aT) fun bY=>bd (ad 1 bY) fun dO=>bd (ld1 eQ dO) fun lE=>bd (cA aS lE) fun lT=>LZ 262 [lT] eQ fun p7 gE=>uX x0 x3 p7 R gE)
 (uX x0 x3 (LV.bool false) R eQ))
 (uX x0 x3 (LV.bool false) R st)
theorem Fh (x0 x3:LV) {R:LV.RT} {st:aa} (h:zR x0 x3 R st):uW x0 x3 R st:=
 pz Ff Fg h
def rO (x0 x3 x46:LV) (R:LV.RT) (st:aa):Prop:=
 ak x46
 (bd (al x0) fun v0=>bd (ad 0 v0) fun v1=>bd (ad 1 v1) fun v2=>bd (ld1 st v2) fun v3=>bd (ah BinOp.add v3 (i64 1)) fun v4=>bd (al x0) fun v5=>bd (ad 0 v5) fun v6=>bd (ad 1 v6) fun v7=>bd2 (lmk (stV st 1 v7 v4)) fun _v8 gT=>uW x0 x3 R gT)
 (bd (al x0) fun iD=>bd (ad 0 iD) fun iF=>bd (ad 1 iF) fun iN=>bd (ld1 st iN) fun iS=>bd (ah BinOp.eql iS x3) fun mK=>ak mK
 (bd (al x0) fun nE=>bd (ad 0 nE) fun oF=>bd (al x0) fun oR=>bd (ad 0 oR) fun rW=>bd (ad 1 rW) fun aS=>bd (ld1 st aS) fun aT=>LZ 76 [oF,aT,i64 4] st fun _ eQ=>bd (al x0) fun bY=>bd (ad 0 bY) fun dO=>bd (ad 0 dO) fun lE=>bd (ld1 eQ lE) fun lT=>bd (al x0) fun p7=>bd (ad 0 p7) fun p8=>bd (ad 1 p8) fun p9=>bd (ld1 eQ p9) fun tO=>bd (ob3 (some x3) (some tO) none fun l h m=>cI lT l h m) fun v31=>R v31 eQ)
 (bd (al x0) fun v32=>bd (ad 0 v32) fun v33=>bd (ad 1 v33) fun v34=>bd (ld1 st v34) fun v35=>bd (ah BinOp.sub v35 x3) fun v36=>bd (ah BinOp.gtr v36 (i64 20)) fun v37=>ak v37
 (bd (al x0) fun v38=>bd (ad 0 v38) fun v39=>LZ 76 [v39,x3,i64 7] st fun _v40 gE=>bd (al x0) fun v42=>bd (ad 0 v42) fun v43=>bd (ad 0 v43) fun v44=>bd (ld1 gE v44) fun v45=>bd (al x0) fun v46=>bd (ad 0 v46) fun v47=>bd (ad 1 v47) fun v48=>bd (ld1 gE v48) fun v49=>bd (ob3 (some x3) (some v49) none fun l h m=>cI v45 l h m) fun v50=>R v50 gE)
 (bd (al x0) fun v51=>bd (ad 0 v51) fun v52=>bd (ad 0 v52) fun v53=>bd (ld1 st v53) fun v54=>bd (al x0) fun v55=>bd (ad 0 v55) fun v56=>bd (ad 1 v56) fun v57=>bd (ld1 st v57) fun v58=>bd (ob3 (some x3) (some v58) none fun l h m=>cI v54 l h m) fun v59=>R v59 st)))
theorem uY (x0 x3 x46:LV) {R:LV.RT} {st:aa} (h:rO x0 x3 x46 R st):uX x0 x3 x46 R st:=
 pz Ff Fg h
def MS (a0:LV) (R:LV.RT) (st:aa):Prop:=
 bd (ld1 st a0) fun v0=>bd (al v0) fun v1=>bd (ad 3 v1) fun v2=>bd (ld1 st v2) fun v3=>bd (ah BinOp.sub v3 (i64 1)) fun v4=>bd (al v0) fun v5=>bd (ad 3 v5) fun v6=>bd2 (lmk (stV st 1 v6 v4)) fun _ eQ=>R (LV.tup []) eQ
theorem N7 (a0:LV) {K:aa→Prop} {st:aa} (h:MS a0 (fun _ s=>K s) st):cR Tryz.prog 136 [a0] st K:=
 cR.ofE (gl:=[]) (cuts:=[]) (rc:=[]) (n:=3000) aO Tryz.func136 (show Tryz.f136.body=some (bz Tryz.f136) by kernel_rfl) (show Tryz.f136.results.toList=[] by kernel_rfl) (by kernel_rfl) h
def N8 (R:LV.RT) (st:aa):Prop:=
 nw st [LV.str [],LV.str [],LV.str [],LV.str [],LV.str []] fun v0 st1=>bd
 (aP
 (ao (fun i=>some (i*1,1)) [LV.str [],LV.str [],LV.str [],LV.str [],LV.str []]
 [(0,LV.str [97,110,121]),(1,LV.str [98,111,111,108]),(2,LV.str [105,110,116]),(3,LV.str [112,111,105,110,116]),(4,LV.str [116,101,120,116])]))
 fun v2=>bd2 (lmk (stV st1 5 v0 v2)) fun _v3 st4=>bd (ldA st4 v0 5) fun v5=>R v5 st4
theorem c109 {R:LV.RT} {st:aa} (h:N8  R st):LZ 109 [] st R:=
 cz [] [] [.cell 0 165] Tryz.func109 h
def N9 (a0 a1:LV) (R:LV.RT) (st:aa):Prop:=
 LZ 226 [a0,a1] st fun v0 eQ=>R v0 eQ
theorem Oa (a0 a1:LV) {R:LV.RT} {st:aa} (h:N9 a0 a1 R st):LZ 186 [a0,a1] st R:=
 cz [] [] [.tmp 4] Tryz.func186 h
def MT (a0 a1:LV) (R:LV.RT) (st:aa):Prop:=
 bd (bK a0) fun v0=>bd (bK a1) fun v1=>bd (ah BinOp.geq v0 v1) fun v2=>ak v2 (bd (bK a1) fun v3=>bd (ob3 none (some v3) none fun l h m=>cI a0 l h m) fun v4=>bd (bE BinOp.eql v4 a1) fun v5=>R v5 st) (R (LV.bool false) st)
theorem c226 (a0 a1:LV) {R:LV.RT} {st:aa} (h:MT a0 a1 R st):LZ 226 [a0,a1] st R:=
 cz [] [] [.tmp 4] Tryz.func226 h
def w53 (a0 a1:LV) (R:LV.RT) (st:aa):Prop:=
 bd2 (ca st a1) fun v0 eQ=>bd (ldA eQ v0 1) fun v2=>LZ 118 [a0,v2] eQ fun v3 gE=>bd (aj v3 0) fun _=>bd (aj v3 1) fun v6=>bd (lun UnOp.not v6) fun v7=>R v7 gE
theorem c53 (a0 a1:LV) {R:LV.RT} {st:aa} (h:w53 a0 a1 R st):LZ 53 [a0,a1] st R:=
 cz [] [] [.tmp 4] Tryz.func53 h
def MU (a0:LV) (R:LV.RT) (st:aa):Prop:=
 bd (eqB BinOp.eql (eX true a0 LV.nilp)) fun v0=>ak v0 (R (i64 0) st)
 (bd (al a0) fun v1=>bd (ad 0 v1) fun v2=>bd (ld1 st v2) fun v3=>bd (ah BinOp.lss v3 (i64 5)) fun v4=>ak v4 (R (i64 0) st)
 (bd (al a0) fun v5=>bd (ad 0 v5) fun v6=>bd (ld1 st v6) fun v7=>bd (ah BinOp.eql v7 (i64 6)) fun v8=>ak v8 (R (i64 7) st)
 (bd (al a0) fun v9=>bd (ad 0 v9) fun eQ=>bd (ld1 st eQ) fun gE=>bd (ah BinOp.eql gE (i64 8)) fun gT=>ak gT (R (i64 7) st) (R (i64 6) st))))
theorem c167 (a0:LV) {R:LV.RT} {st:aa} (h:MU a0 R st):LZ 167 [a0] st R:=
 cz [] [] [.tmp 2] Tryz.func167 h
def MV (a0 a1:LV) (R:LV.RT) (st:aa):Prop:=
 bd (eqB BinOp.eql (eX true a0 LV.nilp)) fun v0=>ak v0 (R (LV.tup [LV.nilp,LV.bool false]) st)
 (bd (al a0) fun v1=>bd (ad 2 v1) fun v2=>bd (ld1 st v2) fun v3=>LZ 158 [v3,a1] st fun v4 eQ=>bd (ah BinOp.lss v4 (i64 0)) fun v6=>ak v6 (R (LV.tup [LV.nilp,LV.bool false]) eQ)
 (bd (al a0) fun v7=>bd (ad 1 v7) fun v8=>bd (ld1 eQ v8) fun v9=>bd (aK 1 v9 v4) fun gE=>bd (ld1 eQ gE) fun gT=>R (LV.tup [gT,LV.bool true]) eQ))
theorem c213 (a0 a1:LV) {R:LV.RT} {st:aa} (h:MV a0 a1 R st):LZ 213 [a0,a1] st R:=
 cz [] [] [.tmp 4,.tmp 5] Tryz.func213 h
def zS (x1 x4 d0:LV) (R:LV.RT) (st:aa):Prop:=LTg Tryz.prog (kindOf false) [.tmp 2] (aW Tryz.f74 14) [(136,[d0])] R (.aL::x1::.aL::.aL::x4::(LV.jk 54 [])) st
def MW:List (Nat × List Nat):=[(13,(LV.gx 0 59 [1,4]))]
def w74 (a0:LV) (R:LV.RT) (st:aa):Prop:=
 bd2 (ca st a0) fun v0 lE=>bd (ld1 lE v0) fun v2=>bd (al v2) fun v3=>bd (ad 0 v3) fun v4=>LZ 75 [v4] lE fun v5 eQ=>ak v5 (R LV.nilp eQ)
 (bd (ld1 eQ v0) fun v7=>bd (al v7) fun v8=>bd (ad 3 v8) fun v9=>bd (ld1 eQ v9) fun p8=>bd (ah BinOp.eql p8 (i64 8)) fun p9=>ak p9
 (bd (ld1 eQ v0) fun tO=>bd (al tO) fun v13=>bd (ad 0 v13) fun v14=>bd (ld1 eQ v0) fun v15=>bd (al v15) fun v16=>bd (ad 0 v16) fun v17=>bd (ad 1 v17) fun v18=>bd (ld1 eQ v18) fun v19=>LZ 76 [v14,v19,i64 3] eQ fun _v20 mK=>R LV.nilp mK)
 (bd (ld1 eQ v0) fun lT=>bd (al lT) fun v23=>bd (ad 3 v23) fun v24=>bd (ld1 eQ v24) fun v25=>bd (ah BinOp.add v25 (i64 1)) fun v26=>bd (al lT) fun v27=>bd (ad 3 v27) fun v28=>bd2 (lmk (stV eQ 1 v28 v26)) fun _v29 iD=>bd (ld1 iD v0) fun v31=>bd (al v31) fun v32=>bd (ad 0 v32) fun v33=>LZ 137 [v33,LV.int IntKind.u8 91] iD fun v34 gE=>ak v34 (bd (ld1 gE v0) fun v36=>LZ 138 [v36] gE fun v37 nE=>cR Tryz.prog 136 [v0] nE fun oF=>R v37 oF)
 (bd (ld1 gE v0) fun v40=>bd (al v40) fun v41=>bd (ad 0 v41) fun v42=>LZ 137 [v42,LV.int IntKind.u8 123] gE fun v43 gT=>ak v43 (bd (ld1 gT v0) fun v45=>LZ 139 [v45] gT fun v46 oR=>cR Tryz.prog 136 [v0] oR fun rW=>R v46 rW)
 (LZ 109 [] gT fun v49 aS=>nw aS [LV.str [],LV.str [],LV.str [],LV.str [],LV.str []] fun p7 aT=>bd2 (lmk (stV aT 5 p7 v49)) fun _v53 iF=>bd (ld1 iF v0) fun bY=>bd (ob3 none none none fun l h m=>Bz 5 1 p7 l h m) fun v56=>bd2
 (aN iF 2
 (ao (fun i=>some (i*1,1)) (List.replicate 2 [LV.str []]).flatten
 [(0,LV.str [108,105,115,116]),(1,LV.str [109,97,112])]))
 fun v57 iN=>ld1 iN v0=some bY∧
 bd2 (ar iN 1 16 Md.rw v56 v57) fun v59 iS=>ld1 iS v0=some bY∧LZ 140 [bY,v59] iS fun v61 dO=>@zS v0 v61 v0 R dO))))
theorem c74 (a0:LV) {R:LV.RT} {st:aa} (h:w74 a0 R st):LZ 74 [a0] st R:=
 cz [] MW [.tmp 2] Tryz.func74 h
def zT (x1 x4:LV) (d0:LV) (R:LV.RT) (st:aa):Prop:=
 bd (ah BinOp.lss x4 (i64 5)) fun v0=>ak v0
 (bd (aP (ao (aA [(0,1),(1,1),(2,1),(3,1)]) [i64 0,LV.nils,LV.nils,LV.nils] [(0,x4)])) fun v1=>bd2 (ca st v1) fun v2 eQ=>cR Tryz.prog 136 [d0] eQ fun gE=>R v2 gE)
 (bd (ld1 st x1) fun v5=>LZ 141 [v5,x4] st fun v6 gT=>cR Tryz.prog 136 [d0] gT fun iD=>R v6 iD)
theorem Fi (x1 x4 d0:LV) {R:LV.RT} {st:aa} (h:zT x1 x4 d0 R st):zS x1 x4 d0 R st:=
 pz [] MW h
def w18 (a0:LV) (R:LV.RT) (st:aa):Prop:=
 bd (bK a0) fun v0=>bd (ah BinOp.gtr v0 (i64 4096)) fun v1=>ak v1 (R (LV.tup [LV.nilp,i64 0,i64 3]) st)
 (bd (aP (ao (aA [(0,1),(1,1),(2,1)]) [LV.str [],i64 0,i64 0] [(0,a0)])) fun v2=>bd (aP (ao (aA [(0,3),(3,1)]) [LV.str [],i64 0,i64 0,i64 0] [(0,v2)])) fun v3=>bd2 (ca st v3) fun v4 iN=>LZ 74 [v4] iN fun v6 iS=>bd (al v4) fun v8=>bd (ad 0 v8) fun v9=>LZ 75 [v9] iS fun mK eQ=>bd (lun UnOp.not mK) fun nE=>ak nE
 (bd (al v4) fun oF=>bd (ad 0 oF) fun oR=>bd (ad 1 oR) fun rW=>bd (ld1 eQ rW) fun aS=>bd (bK a0) fun aT=>bd (ah BinOp.lss aS aT) fun bY=>ak bY
 (bd (al v4) fun dO=>bd (ad 0 dO) fun lE=>bd (al v4) fun lT=>bd (ad 0 lT) fun p7=>bd (ad 1 p7) fun p8=>bd (ld1 eQ p8) fun p9=>LZ 76 [lE,p9,i64 4] eQ fun _ iF=>bd (al v4) fun tO=>bd (ad 0 tO) fun v28=>LZ 75 [v28] iF fun v29 gE=>ak v29
 (bd (al v4) fun v31=>bd (ad 0 v31) fun v32=>bd (ad 1 v32) fun v33=>bd (ld1 gE v33) fun v34=>bd (al v4) fun v35=>bd (ad 0 v35) fun v36=>bd (ad 2 v36) fun v37=>bd (ld1 gE v37) fun v38=>R (LV.tup [LV.nilp,v34,v38]) gE)
 (R (LV.tup [v6,i64 0,i64 0]) gE))
 (bd (al v4) fun v39=>bd (ad 0 v39) fun v40=>LZ 75 [v40] eQ fun v41 gT=>ak v41
 (bd (al v4) fun v43=>bd (ad 0 v43) fun v44=>bd (ad 1 v44) fun v45=>bd (ld1 gT v45) fun v46=>bd (al v4) fun v47=>bd (ad 0 v47) fun v48=>bd (ad 2 v48) fun v49=>bd (ld1 gT v49) fun v50=>R (LV.tup [LV.nilp,v46,v50]) gT)
 (R (LV.tup [v6,i64 0,i64 0]) gT)))
 (bd (al v4) fun v51=>bd (ad 0 v51) fun v52=>LZ 75 [v52] eQ fun v53 iD=>ak v53
 (bd (al v4) fun v55=>bd (ad 0 v55) fun v56=>bd (ad 1 v56) fun v57=>bd (ld1 iD v57) fun v58=>bd (al v4) fun v59=>bd (ad 0 v59) fun v60=>bd (ad 2 v60) fun v61=>bd (ld1 iD v61) fun v62=>R (LV.tup [LV.nilp,v58,v62]) iD)
 (R (LV.tup [v6,i64 0,i64 0]) iD)))
theorem c18 (a0:LV) {R:LV.RT} {st:aa} (h:w18 a0 R st):LZ 18 [a0] st R:=
 cz [] [] [.tmp 2,.tmp 3,.tmp 4] Tryz.func18 h
def rP (x0 x3:LV) (R:LV.RT) (st:aa):Prop:=LTg Tryz.prog (kindOf false) [.tmp 2] (aW Tryz.f138 5) [] R (x0::.aL::.aL::x3::(LV.jk 47 [])) st
def uZ (x0 x3:LV) (R:LV.RT) (st:aa):Prop:=LTg Tryz.prog (kindOf false) [.tmp 2] (aW Tryz.f138 10) [] R (x0::.aL::.aL::x3::(LV.jk 47 [])) st
def Fj:List Nat:=(LV.gx 1 50 [3])
def Fk:List (Nat × List Nat):=[(7,(LV.gx 1 50 [3]))]
def MX (a0:LV) (R:LV.RT) (st:aa):Prop:=
 bd (aP (ao (aA [(0,1),(1,1),(2,1),(3,1)]) [i64 0,LV.nils,LV.nils,LV.nils] [(0,i64 7)])) fun v0=>bd2 (ca st v0) fun v1 gE=>bd (al a0) fun v3=>bd (ad 0 v3) fun v4=>LZ 137 [v4,LV.int IntKind.u8 93] gE fun v5 eQ=>ak v5 (R v1 eQ) (rP a0 v1 R eQ)
theorem c138 (a0:LV) {R:LV.RT} {st:aa} (h:MX a0 R st):LZ 138 [a0] st R:=
 cz Fj Fk [.tmp 2] Tryz.func138 h
def u3 (x0 x3:LV) (R:LV.RT) (st:aa):Prop:=
 bd (al x0) fun v0=>bd (ad 0 v0) fun v1=>LZ 75 [v1] st fun v2 eQ=>bd (lun UnOp.not v2) fun v4=>ak v4
 (bd (al x3) fun v5=>bd (ad 1 v5) fun v6=>bd (ld1 eQ v6) fun v7=>bd (bg v7) fun v8=>bd (ah BinOp.eql v8 (i64 16)) fun v9=>ak v9
 (bd (al x0) fun bY=>bd (ad 0 bY) fun dO=>bd (al x0) fun lE=>bd (ad 0 lE) fun lT=>bd (ad 1 lT) fun p7=>bd (ld1 eQ p7) fun p8=>LZ 76 [dO,p8,i64 3] eQ fun _ gE=>bd (al x3) fun p9=>bd (ad 1 p9) fun iS=>bd (ld1 gE iS) fun mK=>LZ 74 [x0] gE fun tO gT=>ld1 gT iS=some mK∧
 bd2 (aN gT 1 (ao (fun i=>some (i*1,1)) (List.replicate 1 [LV.nilp]).flatten [(0,tO)])) fun v23 iD=>ld1 iD iS=some mK∧
 bd2 (ar iD 1 8 Md.rw mK v23) fun v25 nE=>bd (al x3) fun v27=>bd (ad 1 v27) fun v28=>bd2 (lmk (stV nE 1 v28 v25)) fun _v29 oF=>uZ x0 x3 R oF)
 (bd (al x3) fun v31=>bd (ad 1 v31) fun oR=>bd (ld1 eQ oR) fun rW=>LZ 74 [x0] eQ fun v34 iF=>ld1 iF oR=some rW∧
 bd2 (aN iF 1 (ao (fun i=>some (i*1,1)) (List.replicate 1 [LV.nilp]).flatten [(0,v34)])) fun v36 iN=>ld1 iN oR=some rW∧
 bd2 (ar iN 1 8 Md.rw rW v36) fun v38 aS=>bd (al x3) fun v40=>bd (ad 1 v40) fun v41=>bd2 (lmk (stV aS 1 v41 v38)) fun _v42 aT=>uZ x0 x3 R aT))
 (R x3 eQ)
theorem zU (x0 x3:LV) {R:LV.RT} {st:aa} (h:u3 x0 x3 R st):rP x0 x3 R st:=
 pz Fj Fk h
def qD (x0 x3:LV) (R:LV.RT) (st:aa):Prop:=
 bd (al x0) fun v0=>bd (ad 0 v0) fun v1=>LZ 137 [v1,LV.int IntKind.u8 93] st fun v2 eQ=>ak v2 (R x3 eQ) (bd (al x0) fun v4=>bd (ad 0 v4) fun v5=>LZ 184 [v5,LV.int IntKind.u8 44] eQ fun _ gE=>rP x0 x3 R gE)
theorem u4 (x0 x3:LV) {R:LV.RT} {st:aa} (h:qD x0 x3 R st):uZ x0 x3 R st:=
 pz Fj Fk h
def rQ (x0 x3:LV) (R:LV.RT) (st:aa):Prop:=LTg Tryz.prog (kindOf false) [.tmp 2] (aW Tryz.f139 5) [] R (x0::.aL::.aL::x3::(LV.jk 24 [])) st
def JS:List Nat:=(LV.gx 1 27 [3])
def MY (a0:LV) (R:LV.RT) (st:aa):Prop:=
 bd (aP (ao (aA [(0,1),(1,1),(2,1),(3,1)]) [i64 0,LV.nils,LV.nils,LV.nils] [(0,i64 8)])) fun v0=>bd2 (ca st v0) fun v1 gE=>bd (al a0) fun v3=>bd (ad 0 v3) fun v4=>LZ 137 [v4,LV.int IntKind.u8 125] gE fun v5 eQ=>ak v5 (R v1 eQ) (rQ a0 v1 R eQ)
theorem c139 (a0:LV) {R:LV.RT} {st:aa} (h:MY a0 R st):LZ 139 [a0] st R:=
 cz JS [] [.tmp 2] Tryz.func139 h
def u5 (x0 x3:LV) (R:LV.RT) (st:aa):Prop:=
 bd (al x0) fun v0=>bd (ad 0 v0) fun v1=>LZ 75 [v1] st fun v2 gT=>bd (lun UnOp.not v2) fun v4=>ak v4
 (LZ 185 [x0,x3] gT fun _ iD=>bd (al x0) fun v7=>bd (ad 0 v7) fun v8=>LZ 137 [v8,LV.int IntKind.u8 125] iD fun v9 eQ=>ak v9 (R x3 eQ) (bd (al x0) fun iF=>bd (ad 0 iF) fun iN=>LZ 184 [iN,LV.int IntKind.u8 44] eQ fun _ gE=>rQ x0 x3 R gE))
 (R x3 gT)
theorem zV (x0 x3:LV) {R:LV.RT} {st:aa} (h:u5 x0 x3 R st):rQ x0 x3 R st:=
 pz JS [] h
def MZ (a0 a1:LV) (R:LV.RT) (st:aa):Prop:=
 bd (al a0) fun v0=>bd (ad 0 v0) fun v1=>LZ 184 [v1,LV.int IntKind.u8 40] st fun _ gT=>LZ 74 [a0] gT fun v4 iD=>bd (al a0) fun v6=>bd (ad 0 v6) fun v7=>LZ 184 [v7,LV.int IntKind.u8 41] iD fun _ iF=>bd2 (aN iF 1 (ao (fun i=>some (i*1,1)) (List.replicate 1 [LV.nilp]).flatten [(0,v4)])) fun iN eQ=>bd (aP (ao (aA [(0,1),(1,1),(2,1),(3,1)]) [i64 0,LV.nils,LV.nils,LV.nils] [(0,a1),(1,iN)])) fun iS=>bd2 (ca eQ iS) fun mK gE=>R mK gE
theorem c141 (a0 a1:LV) {R:LV.RT} {st:aa} (h:MZ a0 a1 R st):LZ 141 [a0,a1] st R:=
 cz [] [] [.tmp 4] Tryz.func141 h
def Fl (x0 x1 x4:LV) (R:LV.RT) (st:aa):Prop:=LTg Tryz.prog (kindOf false) [] (aW Tryz.f185 2) [] R (x0::x1::.aL::.aL::x4::(LV.jk 102 [])) st
def zW (x0 x1 x4 x5 x7:LV) (R:LV.RT) (st:aa):Prop:=LTg Tryz.prog (kindOf false) [] (aW Tryz.f185 8) [] R (x0::x1::.aL::.aL::x4::x5::.aL::x7::(LV.jk 99 [])) st
def rR (x0 x1 x5:LV) (R:LV.RT) (st:aa):Prop:=LTg Tryz.prog (kindOf false) [] (aW Tryz.f185 9) [] R (x0::x1::(LV.jk 3 (x5::(LV.jk 101 [])))) st
def eE (x0 x1 x5 x8:LV) (R:LV.RT) (st:aa):Prop:=LTg Tryz.prog (kindOf false) [] (aW Tryz.f185 10) [] R (x0::x1::(LV.jk 3 (x5::.aL::.aL::x8::(LV.jk 98 [])))) st
def qE (x0 x1 x5 x8:LV) (R:LV.RT) (st:aa):Prop:=LTg Tryz.prog (kindOf false) [] (aW Tryz.f185 11) [] R (x0::x1::(LV.jk 3 (x5::.aL::.aL::x8::(LV.jk 98 [])))) st
def iJ (x0 x1:LV) (R:LV.RT) (st:aa):Prop:=LTg Tryz.prog (kindOf false) [] (aW Tryz.f185 12) [] R (x0::x1::(LV.jk 105 [])) st
def rS:List (Nat × List Nat):=[(2,(LV.gx 2 105 [4])),(8,(LV.gx 2 105 [4,5,7])),(9,(LV.gx 2 105 [5])),(10,(LV.gx 2 105 [5,8])),(11,(LV.gx 2 105 [5,8])),(12,(LV.gx 2 105 []))]
def Lf (a0 a1:LV) (R:LV.RT) (st:aa):Prop:=
 bd (al a0) fun v0=>bd (ad 0 v0) fun v1=>bd (ad 1 v1) fun v2=>bd (ld1 st v2) fun v3=>bd (al a1) fun v4=>bd (ad 1 v4) fun v5=>bd (ld1 st v5) fun v6=>bd (bg v6) fun v7=>bd (ah BinOp.eql v7 (i64 16)) fun v8=>ak v8 (bd (al a0) fun v9=>bd (ad 0 v9) fun oF=>LZ 76 [oF,v3,i64 3] st fun _ iD=>Fl a0 a1 v3 R iD)
 (LZ 225 [a0] st fun gE gT=>bd (al a1) fun oR=>bd (ad 2 oR) fun rW=>bd (ld1 gT rW) fun aS=>bd (bg aS) fun aT=>bd (ah BinOp.sub aT (i64 1)) fun iF=>bd (al a0) fun bY=>bd (ad 0 bY) fun dO=>LZ 75 [dO] gT fun lE eQ=>bd (lun UnOp.not lE) fun lT=>ak lT
 (bd (ah BinOp.geq iF (i64 0)) fun p7=>ak p7
 (bd (al a1) fun p8=>bd (ad 2 p8) fun p9=>bd (ld1 eQ p9) fun tO=>bd (aK 1 tO iF) fun v29=>bd (ld1 eQ v29) fun v30=>bd (bE BinOp.leq gE v30) fun v31=>ak v31
 (bd (al a1) fun v32=>bd (ad 2 v32) fun v33=>bd (ld1 eQ v33) fun v34=>bd (aK 1 v34 iF) fun v35=>bd (ld1 eQ v35) fun v36=>bd (bE BinOp.eql gE v36) fun v37=>ak v37 (zW a0 a1 v3 gE (i64 9) R eQ)
 (bd (al a0) fun v38=>bd (ad 0 v38) fun v39=>LZ 76 [v39,v3,i64 4] eQ fun _v40 iN=>rR a0 a1 gE R iN))
 (bd (al a0) fun v42=>bd (ad 0 v42) fun v43=>LZ 137 [v43,LV.int IntKind.u8 63] eQ fun v44 iS=>eE a0 a1 gE v44 R iS))
 (bd (al a0) fun v46=>bd (ad 0 v46) fun v47=>LZ 137 [v47,LV.int IntKind.u8 63] eQ fun v48 mK=>eE a0 a1 gE v48 R mK))
 (bd (al a0) fun v50=>bd (ad 0 v50) fun v51=>LZ 137 [v51,LV.int IntKind.u8 63] eQ fun v52 nE=>eE a0 a1 gE v52 R nE))
theorem M0 (a0 a1:LV) {R:LV.RT} {st:aa} (h:Lf a0 a1 R st):LZ 185 [a0,a1] st R:=
 cz [] rS [] Tryz.func185 h
def Fm (x0 x1 x4:LV) (R:LV.RT) (st:aa):Prop:=
 LZ 225 [x0] st fun v0 iN=>bd (al x1) fun v2=>bd (ad 2 v2) fun v3=>bd (ld1 iN v3) fun v4=>bd (bg v4) fun v5=>bd (ah BinOp.sub v5 (i64 1)) fun v6=>bd (al x0) fun v7=>bd (ad 0 v7) fun v8=>LZ 75 [v8] iN fun v9 eQ=>bd (lun UnOp.not v9) fun iS=>ak iS
 (bd (ah BinOp.geq v6 (i64 0)) fun mK=>ak mK
 (bd (al x1) fun nE=>bd (ad 2 nE) fun oF=>bd (ld1 eQ oF) fun oR=>bd (aK 1 oR v6) fun rW=>bd (ld1 eQ rW) fun aS=>bd (bE BinOp.leq v0 aS) fun aT=>ak aT
 (bd (al x1) fun bY=>bd (ad 2 bY) fun dO=>bd (ld1 eQ dO) fun lE=>bd (aK 1 lE v6) fun lT=>bd (ld1 eQ lT) fun p7=>bd (bE BinOp.eql v0 p7) fun p8=>ak p8 (zW x0 x1 x4 v0 (i64 9) R eQ)
 (bd (al x0) fun p9=>bd (ad 0 p9) fun tO=>LZ 76 [tO,x4,i64 4] eQ fun _ gE=>rR x0 x1 v0 R gE))
 (bd (al x0) fun v29=>bd (ad 0 v29) fun v30=>LZ 137 [v30,LV.int IntKind.u8 63] eQ fun v31 gT=>eE x0 x1 v0 v31 R gT))
 (bd (al x0) fun v33=>bd (ad 0 v33) fun v34=>LZ 137 [v34,LV.int IntKind.u8 63] eQ fun v35 iD=>eE x0 x1 v0 v35 R iD))
 (bd (al x0) fun v37=>bd (ad 0 v37) fun v38=>LZ 137 [v38,LV.int IntKind.u8 63] eQ fun v39 iF=>eE x0 x1 v0 v39 R iF)
theorem Lg (x0 x1 x4:LV) {R:LV.RT} {st:aa} (h:Fm x0 x1 x4 R st):Fl x0 x1 x4 R st:=
 pz [] rS h
def Fo (x0 x1 x4 x5 x7:LV) (R:LV.RT) (st:aa):Prop:=
 bd (al x0) fun v0=>bd (ad 0 v0) fun v1=>LZ 76 [v1,x4,x7] st fun _ eQ=>rR x0 x1 x5 R eQ
theorem Lh (x0 x1 x4 x5 x7:LV) {R:LV.RT} {st:aa} (h:Fo x0 x1 x4 x5 x7 R st):zW x0 x1 x4 x5 x7 R st:=
 pz [] rS h
def Fp (x0 x1 x5:LV) (R:LV.RT) (st:aa):Prop:=
 bd (al x0) fun v0=>bd (ad 0 v0) fun v1=>LZ 137 [v1,LV.int IntKind.u8 63] st fun v2 eQ=>eE x0 x1 x5 v2 R eQ
theorem Li (x0 x1 x5:LV) {R:LV.RT} {st:aa} (h:Fp x0 x1 x5 R st):rR x0 x1 x5 R st:=
 pz [] rS h
def u6 (x0 x1 x5 x8:LV) (R:LV.RT) (st:aa):Prop:=
 bd (al x0) fun v0=>bd (ad 0 v0) fun v1=>LZ 184 [v1,LV.int IntKind.u8 58] st fun _ eQ=>qE x0 x1 x5 x8 R eQ
theorem B9 (x0 x1 x5 x8:LV) {R:LV.RT} {st:aa} (h:u6 x0 x1 x5 x8 R st):eE x0 x1 x5 x8 R st:=
 pz [] rS h
def Ca (x0 x1 x5 x8:LV) (R:LV.RT) (st:aa):Prop:=
 bd (al x1) fun v0=>bd (ad 2 v0) fun v1=>bd (ld1 st v1) fun v2=>bd (al x1) fun v3=>bd (ad 3 v3) fun v4=>bd (ld1 st v4) fun v5=>(bd2 (aN st 1 (ao (fun i=>some (i*1,1)) (List.replicate 1 [LV.bool false]).flatten [(0,x8)])) fun v6 iS=>ld1 iS v4=some v5∧
 ld1 iS v1=some v2∧
 bd2 (aN iS 1 (ao (fun i=>some (i*1,1)) (List.replicate 1 [LV.str []]).flatten [(0,x5)])) fun v8 mK=>ld1 mK v4=some v5∧
 ld1 mK v1=some v2∧
 bd2 (ar mK 1 16 Md.rw v2 v8) fun p7 iD=>ld1 iD v4=some v5∧
 bd2 (ar iD 1 1 Md.rw v5 v6) fun p8 nE=>bd (al x1) fun p9=>bd (ad 2 p9) fun tO=>bd2 (lmk (stV nE 1 tO p7)) fun _ oF=>bd (al x1) fun v18=>bd (ad 3 v18) fun v19=>bd2 (lmk (stV oF 1 v19 p8)) fun _v20 oR=>iJ x0 x1 R oR)∧
 bd2 (aN st 1 (ao (fun i=>some (i*1,1)) (List.replicate 1 [LV.str []]).flatten [(0,x5)])) fun lT eQ=>ld1 eQ v4=some v5∧
 ld1 eQ v1=some v2∧
 (bd2 (aN eQ 1 (ao (fun i=>some (i*1,1)) (List.replicate 1 [LV.bool false]).flatten [(0,x8)])) fun v24 gE=>ld1 gE v4=some v5∧
 ld1 gE v1=some v2∧
 bd2 (ar gE 1 16 Md.rw v2 lT) fun v26 iF=>ld1 iF v4=some v5∧
 bd2 (ar iF 1 1 Md.rw v5 v24) fun v28 rW=>bd (al x1) fun v30=>bd (ad 2 v30) fun v31=>bd2 (lmk (stV rW 1 v31 v26)) fun _v32 aS=>bd (al x1) fun v34=>bd (ad 3 v34) fun v35=>bd2 (lmk (stV aS 1 v35 v28)) fun _v36 aT=>iJ x0 x1 R aT)∧
 bd2 (ar eQ 1 16 Md.rw v2 lT) fun v38 iN=>ld1 iN v4=some v5∧
 bd2 (aN iN 1 (ao (fun i=>some (i*1,1)) (List.replicate 1 [LV.bool false]).flatten [(0,x8)])) fun v40 gT=>ld1 gT v4=some v5∧
 ld1 gT v1=some v2∧
 bd2 (ar gT 1 1 Md.rw v5 v40) fun v42 bY=>bd (al x1) fun v44=>bd (ad 2 v44) fun v45=>bd2 (lmk (stV bY 1 v45 v38)) fun _v46 dO=>bd (al x1) fun v48=>bd (ad 3 v48) fun v49=>bd2 (lmk (stV dO 1 v49 v42)) fun _v50 lE=>iJ x0 x1 R lE
theorem Il (x0 x1 x5 x8:LV) {R:LV.RT} {st:aa} (h:Ca x0 x1 x5 x8 R st):qE x0 x1 x5 x8 R st:=
 pz [] rS h
def u7 (x0 x1:LV) (R:LV.RT) (st:aa):Prop:=
 bd (al x1) fun v0=>bd (ad 1 v0) fun v1=>bd (ld1 st v1) fun v2=>LZ 74 [x0] st fun v3 gE=>ld1 gE v1=some v2∧
 bd2 (aN gE 1 (ao (fun i=>some (i*1,1)) (List.replicate 1 [LV.nilp]).flatten [(0,v3)])) fun v5 gT=>ld1 gT v1=some v2∧
 bd2 (ar gT 1 8 Md.rw v2 v5) fun v7 iD=>bd (al x1) fun v9=>bd (ad 1 v9) fun iF=>bd2 (lmk (stV iD 1 iF v7)) fun _ eQ=>R (LV.tup []) eQ
theorem Cb (x0 x1:LV) {R:LV.RT} {st:aa} (h:u7 x0 x1 R st):iJ x0 x1 R st:=
 pz [] rS h
end Go.Proofs.YtknegckgmklnhaaGreatDoor
namespace Go.Proofs.YtknegckgmklnhaaGreatDoor
open Go Go.CP
set_option maxRecDepth 100000
def M1 (x5 x6 x8 x9 x54:LV) (R:LV.RT) (st:aa):Prop:=LTg Tryz.prog (kindOf false) [.tmp 4] (aW Tryz.f9 10) [] R (LV.jk 5 (x5::x6::.aL::x8::x9::(LV.jk 44 (x54::(LV.jk 55 []))))) st
def gl9:List Nat:=(LV.gx 0 110 [5,6,8,9,11])
def rc9:List (Nat × List Nat):=[(10,(LV.gx 0 110 [5,6,8,9,54])),(15,(LV.gx 0 110 [5,6,8,9,11,12])),(16,(LV.gx 0 110 [5,6,8,9,11,12,14,15]))]
def w9 (a0 a1:LV) (R:LV.RT) (st:aa):Prop:=
 bd2 (ca st a1) fun v0 lT=>bd (ldA lT v0 7) fun v2=>LZ 24 [v2] lT fun v3 p7=>bd (ah BinOp.gtr v3 (i64 0)) fun v5=>ak v5 (LZ 17 [] p7 fun v6 st7=>R v6 st7)
 (LZ 17 [] p7 fun v8 p8=>bd (lun UnOp.not v8) fun v10=>ak v10 (LZ 17 [] p8 fun v11 iN=>R v11 iN)
 (LZ 26 [a0] p8 fun iS mK=>bd (aj iS 0) fun p9=>bd (aj iS 1) fun v16=>bd (aj iS 2) fun v17=>nw mK [i64 0,LV.nils] fun nE oF=>bd2 (lmk (stV oF 2 nE v16)) fun _v20 gT=>bd (ldA gT v0 7) fun v22=>LZ 27 [v22] gT fun v23 oR=>LZ 29 [v23] oR fun v25 rW=>nw rW [LV.nili] fun aS aT=>bd2 (lmk (stV aT 1 aS v25)) fun _v29 gE=>bd (ah BinOp.gtr v17 (i64 0)) fun v31=>ak v31 (R (LV.bool true) gE)
 (bd (ldA gE aS 1) fun v32=>LZ 42 [p9,v32] gE fun tO bY=>bd (aj tO 0) fun v35=>bd (aj tO 1) fun v36=>nw bY [LV.nili] fun iF dO=>bd2 (lmk (stV dO 1 iF v35)) fun _v39 eQ=>bd (ah BinOp.neq v36 (i64 0)) fun v41=>ak v41
 (bd (ldA eQ iF 1) fun v42=>LZ 46 [v42] eQ fun v43 lE=>bd (ah BinOp.eql v43 (i64 0)) fun v45=>R v45 lE)
 (bd (ldA eQ iF 1) fun v46=>bd (ad 1 nE) fun v47=>bd (ld1 eQ v47) fun v48=>bd (bg v48) fun v49=>LZ 49 [v46] eQ fun v50 iD=>ld1 iD v47=some v48∧bd (bg v50) fun v52=>bd (ah BinOp.neq v52 v49) fun v53=>M1 p9 nE aS iF v53 R iD))))
theorem c9 (a0 a1:LV) {R:LV.RT} {st:aa} (h:w9 a0 a1 R st):LZ 9 [a0,a1] st R:=
 cz gl9 rc9 [.tmp 4] Tryz.func9 h
end Go.Proofs.YtknegckgmklnhaaGreatDoor
